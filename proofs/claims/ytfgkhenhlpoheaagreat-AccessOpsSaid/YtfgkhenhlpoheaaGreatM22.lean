import Derived.Test.YtfgkhenhlpoheaaGreatM20
set_option linter.all false
namespace Go.Proofs.YtfgkhenhlpoheaaGreat
open Go.RowKit Go.Sx
set_option maxRecDepth 100000
set_option maxHeartbeats 4000000
def b8 (x:Int):BitVec 8:=BitVec.ofInt 8 x
def ub (v:BitVec 8):Int:=(v.toNat:Int)
theorem b8_ub (v:BitVec 8):b8 (ub v)=v:=by
 apply BitVec.eq_of_toNat_eq
 unfold b8 ub
 rw[BitVec.toNat_ofInt]
 have:=v.isLt
 omega
theorem ub_lt (v:BitVec 8):0≤ub v∧ub v<256:=by have:=v.isLt;unfold ub;omega
theorem wrap8 {x:Int}(h0:0≤x)(h1:x<256):IntKind.u8.wrap x=x:=by
 have:IntKind.u8.wrap x=x % 256:=rfl
 omega
theorem or8 (x y:Int):Go.bits .or .u8 x y=ub (b8 x ||| b8 y):=by
 show IntKind.u8.wrap _=_
 exact wrap8 (ub_lt _).1 (ub_lt _).2
theorem andNot8 (x y:Int):Go.bits .andNot .u8 x y=ub (b8 x &&& ~~~b8 y):=by
 show IntKind.u8.wrap _=_
 exact wrap8 (ub_lt _).1 (ub_lt _).2
theorem and8 (x y:Int):Go.bits .and .u8 x y=ub (b8 x &&& b8 y):=by
 show IntKind.u8.wrap _=_
 exact wrap8 (ub_lt _).1 (ub_lt _).2
namespace F
def mk (p n:Int)(i:Nat):Nat→Int
 |0=>0
 |k+1=>if decide (p≤8*(i:Int)+k)&&decide (8*(i:Int)+k<p+n) then Go.bits .or .u8 (mk p n i k) (IntKind.u8.wrap (1*2^min k 8)) else mk p n i k
theorem mk_1 {p n:Int}{i b:Nat}(h:decide (p≤8*(i:Int)+b)=false):mk p n i (b+1)=mk p n i b:=by rw[mk,h];rfl
theorem mk_2 {p n:Int}{i b:Nat}(h:decide (8*(i:Int)+b<p+n)=false):mk p n i (b+1)=mk p n i b:=by rw[mk,h,Bool.and_false];rfl
theorem mk_3 {p n:Int}{i b:Nat}(h:decide (p≤8*(i:Int)+b)=true)(k:decide (8*(i:Int)+b<p+n)=true):mk p n i (b+1)=Go.bits .or .u8 (mk p n i b) (IntKind.u8.wrap (1*2^min b 8)):=by rw[mk,h,k];rfl
def slot (s:Sl)(b:Int):Sl:=⟨false,Go.bits .or .u8 (set s) b,V.zero⟩
def tch (S:List Sl)(p n:Int)(a:Nat):Nat→List Sl
 |0=>S
 |j+1=>(tch S p n a j).set (a+j) (slot ((tch S p n a j).getD (a+j) noSl) (mk p n (a+j) 8))
def cnt (p n:Int):Nat:=((p+n+7).toNat / 8)-p.toNat / 8
def touch (f:Fr)(p n:Int):Fr:=⟨f.R,tch f.S p n (p.toNat / 8) (cnt p n),f.ids⟩
def rdy (S:List Sl)(p n:Int)(a:Nat):Nat→Bool
 |0=>true
 |j+1=>rdy S p n a j&&(Go.bits .andNot .u8 (mk p n (a+j) 8) (set (S.getD (a+j) noSl))==0)
def ready (f:Fr)(p n:Int):Bool:=rdy f.S p n (p.toNat / 8) (cnt p n)
theorem rdy_le {S:List Sl}{p n:Int}{a j:Nat}(h:rdy S p n a j=false):∀ k,j≤k→rdy S p n a k=false
 |0,hk=>by rw[Nat.le_zero.1 hk] at h;exact h
 |k+1,hk=>by
  rcases Nat.lt_or_ge j (k+1) with h1|h1
  . rw[rdy,rdy_le h k (by omega)];rfl
  . rw[← Nat.le_antisymm hk h1];exact h
theorem ready_no {f:Fr}{p n:Int}{j:Nat}(hj:j<cnt p n)(h:(Go.bits .andNot .u8 (mk p n (p.toNat / 8+j) 8) (set (f.S.getD (p.toNat / 8+j) noSl)) != 0)=true):ready f p n=false:=by
 refine rdy_le (j:=j+1) ?_ _ hj
 rw[rdy]
 have:(Go.bits .andNot .u8 (mk p n (p.toNat / 8+j) 8) (set (f.S.getD (p.toNat / 8+j) noSl))==0)=false:=by
  rw[bne,Bool.not_eq_true'] at h;exact h
 rw[this,Bool.and_false]
theorem rdy_go {S:List Sl}{p n:Int}{a j:Nat}(h:rdy S p n a j=true)(k:(Go.bits .andNot .u8 (mk p n (a+j) 8) (set (S.getD (a+j) noSl)) != 0)=false):rdy S p n a (j+1)=true:=by
 rw[rdy,h]
 rw[bne,Bool.not_eq_false'] at k
 rw[k];rfl
theorem ready_no' {f:Fr}{p n:Int}{j:Nat}(hj:j<cnt p n)(h:(Go.bits .andNot .u8 (mk p n (p.toNat / 8+j) 8) (set (f.S.getD (p.toNat / 8+j) noSl))==0)=false):ready f p n=false:=ready_no hj (by rw[bne,h];rfl)
theorem rdy_go' {S:List Sl}{p n:Int}{a j:Nat}(h:rdy S p n a j=true)(k:(Go.bits .andNot .u8 (mk p n (a+j) 8) (set (S.getD (a+j) noSl))==0)=true):rdy S p n a (j+1)=true:=rdy_go h (by rw[bne,k];rfl)
theorem tch_len (S:List Sl)(p n:Int)(a:Nat):∀ j,(tch S p n a j).length=S.length
 |0=>rfl
 |j+1=>by rw[tch,List.length_set,tch_len S p n a j]
end F
namespace F
def within (off n:Int):Int×Bool:=if decide (off < -512)||(decide (0<off)||decide (IntKind.i64.wrap (0-off)<n)) then (0,false) else (IntKind.i64.wrap (512+off),true)
def inside (off n:Int):Bool:=decide (-512≤off)&&(decide (off≤0)&&decide (n≤IntKind.i64.wrap (0-off)))
theorem inside_eq (off n:Int):inside off n=(within off n).2:=by
 unfold inside within
 by_cases h1:off < -512
 . rw[decide_eq_true h1,decide_eq_false (by omega : ¬ (-512≤off))];rfl
 rw[decide_eq_false h1,decide_eq_true (by omega : -512≤off)]
 by_cases h2:0<off
 . rw[decide_eq_true h2,decide_eq_false (by omega : ¬ (off≤0))];rfl
 rw[decide_eq_false h2,decide_eq_true (by omega:off≤0)]
 by_cases h3:IntKind.i64.wrap (0-off)<n
 . rw[decide_eq_true h3,decide_eq_false (by omega : ¬ (n≤IntKind.i64.wrap (0-off)))];rfl
 . rw[decide_eq_false h3,decide_eq_true (by omega:n≤IntKind.i64.wrap (0-off))];rfl
def word (n:Int):Bool:=n==1||(n==2||(n==4||n==8))
end F
def k_fset:List SV→List Blk→Res:=fun args _=>match args with
 |[.agg [.bool w,.int .u8 st,.int .u8 ak,.u64 av,.u64 am,.u64 alo,.u64 ahi,.int .i64 asl,.int .i64 ash,.int .i64 aof,.int .i64 amp,.int .i64 aid,.int .i64 arm,.bool anu]]=>.ok (.int .u8 (F.set (⟨w,st,(⟨ak,(⟨⟨av,am⟩,⟨alo,ahi,asl,ash⟩⟩:Sc),aof,amp,aid,arm,anu⟩:Ab)⟩:Sl))) []
 |_=>.fail
theorem k_fset_ok:CtrOk Tryz.prog Gw 164 k_fset:=by
 refine⟨fun _ _=>by kernel_rfl,fun args M => ?_⟩
 unfold k_fset
 split
 . rename_i w st ak av am alo ahi asl ash aof amp aid arm anu
   refine ctr_flat (Γ:=⟨[],eqs,[],[],[],mixs,meqs,[]⟩) (sv:=.int .u8 (F.set (⟨w,st,(⟨ak,(⟨⟨av,am⟩,⟨alo,ahi,asl,ash⟩⟩:Sc),aof,amp,aid,arm,anu⟩:Ab)⟩:Sl))) st_Gw ⟨okNil,eqs_ok,okNilB,okNilI,okNilP,mixs_ok,meqs_ok,okNilY⟩ Tryz.func164 rfl mixed [] (by kernel_rfl) 10000 (by rfl) ?_
   (conv=>whnf)
   (repeat' (first | (refine step_t (by first|rfl|assumption) ?_;(conv=>whnf)) | (refine step_f (by first|rfl|assumption) ?_;(conv=>whnf)) | (refine step_nt (by assumption) ?_;(conv=>whnf)) | (refine step_nf (by assumption) ?_;(conv=>whnf)) | (refine step_n (fun hb => ?_) (fun hb => ?_)<;>(first|contradiction | (conv=>whnf))) | (refine And.intro (fun hb => ?_) (fun hb => ?_)<;>(first|contradiction | (conv=>whnf))) | (refine And.intro (a:=(_:Bool)=true) ?_ ?_;rotate_left 1;(conv=>whnf))))
   all_goals (first|rfl|trivial|assumption | (simp_all [eqv,eqv1,eqv2,eqvL1,eqvL2,F.set];done) | (simp_all [eqv,eqv1,eqv2,eqvL1,eqvL2,F.set];intros;omega))
 . trivial
def k_fwithin:List SV→List Blk→Res:=fun args _=>match args with
 |[.int .i64 off,.int .i64 n]=>.ok (.tup [.int .i64 (F.within off n).1,.bool (F.within off n).2]) []
 |_=>.fail
theorem k_fwithin_ok:CtrOk Tryz.prog Gw 116 k_fwithin:=by
 refine⟨fun _ _=>by kernel_rfl,fun args M => ?_⟩
 unfold k_fwithin
 split
 . rename_i off n
   refine ctr_flat (Γ:=⟨[],eqs,[],[],[],mixs,meqs,[]⟩) (sv:=.tup [.int .i64 (F.within off n).1,.bool (F.within off n).2]) st_Gw ⟨okNil,eqs_ok,okNilB,okNilI,okNilP,mixs_ok,meqs_ok,okNilY⟩ Tryz.func116 rfl mixed [] (by kernel_rfl) 10000 (by rfl) ?_
   (conv=>whnf)
   (repeat' (first | (refine step_t (by first|rfl|assumption) ?_;(conv=>whnf)) | (refine step_f (by first|rfl|assumption) ?_;(conv=>whnf)) | (refine step_nt (by assumption) ?_;(conv=>whnf)) | (refine step_nf (by assumption) ?_;(conv=>whnf)) | (refine step_n (fun hb => ?_) (fun hb => ?_)<;>(first|contradiction | (conv=>whnf))) | (refine And.intro (fun hb => ?_) (fun hb => ?_)<;>(first|contradiction | (conv=>whnf))) | (refine And.intro (a:=(_:Bool)=true) ?_ ?_;rotate_left 1;(conv=>whnf))))
   all_goals (first
    |(have e:F.within off n=(0,false):=by simp only[F.within, *,Bool.true_or,Bool.or_true,Bool.or_self,↓reduceIte]
      simp[e,eqv,eqv1,eqv2,eqvL1,eqvL2];done)
    |(have e:F.within off n=(IntKind.i64.wrap (512+off),true):=by simp only[F.within, *,Bool.true_or,Bool.or_true,Bool.or_self,Bool.false_eq_true,↓reduceIte]
      simp[e,eqv,eqv1,eqv2,eqvL1,eqvL2];done))
 . trivial
def k_fword:List SV→List Blk→Res:=fun args _=>match args with
 |[.int .i64 n]=>.ok (.bool (F.word n)) []
 |_=>.fail
theorem k_fword_ok:CtrOk Tryz.prog Gw 115 k_fword:=by
 refine⟨fun _ _=>by kernel_rfl,fun args M => ?_⟩
 unfold k_fword
 split
 . rename_i n
   refine ctr_flat (Γ:=⟨[],eqs,[],[],[],mixs,meqs,[]⟩) (sv:=.bool (F.word n)) st_Gw ⟨okNil,eqs_ok,okNilB,okNilI,okNilP,mixs_ok,meqs_ok,okNilY⟩ Tryz.func115 rfl mixed [] (by kernel_rfl) 10000 (by rfl) ?_
   (conv=>whnf)
   (repeat' (first | (refine step_t (by first|rfl|assumption) ?_;(conv=>whnf)) | (refine step_f (by first|rfl|assumption) ?_;(conv=>whnf)) | (refine step_nt (by assumption) ?_;(conv=>whnf)) | (refine step_nf (by assumption) ?_;(conv=>whnf)) | (refine step_n (fun hb => ?_) (fun hb => ?_)<;>(first|contradiction | (conv=>whnf))) | (refine And.intro (fun hb => ?_) (fun hb => ?_)<;>(first|contradiction | (conv=>whnf))) | (refine And.intro (a:=(_:Bool)=true) ?_ ?_;rotate_left 1;(conv=>whnf))))
   all_goals (first|rfl|trivial|assumption | (simp only[eqv,eqvL1,eqv1,eqv2,eqvL2,F.word, *,Bool.true_or,Bool.or_true,Bool.or_self,Bool.false_or,Bool.or_false,if_true,if_false,ite_true,ite_false];done) | (simp only[F.word, *];rfl))
 . trivial
def k_gset:List SV→List Blk→Res:=fun args _=>match args with
 |[.agg [.bool w,.int .u8 st,.int .u8 ak,.u64 av,.u64 am,.u64 alo,.u64 ahi,.int .i64 asl,.int .i64 ash,.int .i64 aof,.int .i64 amp,.int .i64 aid,.int .i64 arm,.bool anu]]=>.ok (.int .u8 (F.set (⟨w,st,(⟨ak,(⟨⟨av,am⟩,⟨alo,ahi,asl,ash⟩⟩:Sc),aof,amp,aid,arm,anu⟩:Ab)⟩:Sl))) []
 |_=>.fail
theorem k_gset_ok:CtrOk Tryz.prog Gw 126 k_gset:=by
 refine⟨fun _ _=>by kernel_rfl,fun args M => ?_⟩
 unfold k_gset
 split
 . rename_i w st ak av am alo ahi asl ash aof amp aid arm anu
   refine ctr_flat (Γ:=⟨[],eqs,[],[],[],mixs,meqs,[]⟩) (sv:=.int .u8 (F.set (⟨w,st,(⟨ak,(⟨⟨av,am⟩,⟨alo,ahi,asl,ash⟩⟩:Sc),aof,amp,aid,arm,anu⟩:Ab)⟩:Sl))) st_Gw ⟨okNil,eqs_ok,okNilB,okNilI,okNilP,mixs_ok,meqs_ok,okNilY⟩ Tryz.func126 rfl mixed [] (by kernel_rfl) 10000 (by rfl) ?_
   (conv=>whnf)
   (repeat' (first | (refine step_t (by first|rfl|assumption) ?_;(conv=>whnf)) | (refine step_f (by first|rfl|assumption) ?_;(conv=>whnf)) | (refine step_nt (by assumption) ?_;(conv=>whnf)) | (refine step_nf (by assumption) ?_;(conv=>whnf)) | (refine step_n (fun hb => ?_) (fun hb => ?_)<;>(first|contradiction | (conv=>whnf))) | (refine And.intro (fun hb => ?_) (fun hb => ?_)<;>(first|contradiction | (conv=>whnf))) | (refine And.intro (a:=(_:Bool)=true) ?_ ?_;rotate_left 1;(conv=>whnf))))
   all_goals (first|rfl|trivial|assumption | (simp_all [eqv,eqv1,eqv2,eqvL1,eqvL2,F.set];done) | (simp_all [eqv,eqv1,eqv2,eqvL1,eqvL2,F.set];intros;omega))
 . trivial
def k_gwithin:List SV→List Blk→Res:=fun args _=>match args with
 |[.int .i64 off,.int .i64 n]=>.ok (.bool (F.inside off n)) []
 |_=>.fail
theorem k_gwithin_ok:CtrOk Tryz.prog Gw 78 k_gwithin:=by
 refine⟨fun _ _=>by kernel_rfl,fun args M => ?_⟩
 unfold k_gwithin
 split
 . rename_i off n
   refine ctr_flat (Γ:=⟨[],eqs,[],[],[],mixs,meqs,[]⟩) (sv:=.bool (F.inside off n)) st_Gw ⟨okNil,eqs_ok,okNilB,okNilI,okNilP,mixs_ok,meqs_ok,okNilY⟩ Tryz.func78 rfl mixed [] (by kernel_rfl) 10000 (by rfl) ?_
   (conv=>whnf)
   (repeat' (first | (refine step_t (by first|rfl|assumption) ?_;(conv=>whnf)) | (refine step_f (by first|rfl|assumption) ?_;(conv=>whnf)) | (refine step_nt (by assumption) ?_;(conv=>whnf)) | (refine step_nf (by assumption) ?_;(conv=>whnf)) | (refine step_n (fun hb => ?_) (fun hb => ?_)<;>(first|contradiction | (conv=>whnf))) | (refine And.intro (fun hb => ?_) (fun hb => ?_)<;>(first|contradiction | (conv=>whnf))) | (refine And.intro (a:=(_:Bool)=true) ?_ ?_;rotate_left 1;(conv=>whnf))))
   all_goals (first|rfl|trivial|assumption | (simp only[eqv,eqvL1,eqv1,eqv2,eqvL2,F.inside,Bool.and_true,Bool.true_and,Bool.false_and,Bool.and_false, *,Bool.true_or,Bool.or_true,Bool.or_self,Bool.false_or,Bool.or_false,if_true,if_false,ite_true,ite_false];done) | (simp only[F.inside,Bool.and_true,Bool.true_and,Bool.false_and,Bool.and_false, *];rfl))
 . trivial
def k_gpower:List SV→List Blk→Res:=fun args _=>match args with
 |[.int .i64 n]=>.ok (.bool (F.word n)) []
 |_=>.fail
theorem k_gpower_ok:CtrOk Tryz.prog Gw 77 k_gpower:=by
 refine⟨fun _ _=>by kernel_rfl,fun args M => ?_⟩
 unfold k_gpower
 split
 . rename_i n
   refine ctr_flat (Γ:=⟨[],eqs,[],[],[],mixs,meqs,[]⟩) (sv:=.bool (F.word n)) st_Gw ⟨okNil,eqs_ok,okNilB,okNilI,okNilP,mixs_ok,meqs_ok,okNilY⟩ Tryz.func77 rfl mixed [] (by kernel_rfl) 10000 (by rfl) ?_
   (conv=>whnf)
   (repeat' (first | (refine step_t (by first|rfl|assumption) ?_;(conv=>whnf)) | (refine step_f (by first|rfl|assumption) ?_;(conv=>whnf)) | (refine step_nt (by assumption) ?_;(conv=>whnf)) | (refine step_nf (by assumption) ?_;(conv=>whnf)) | (refine step_n (fun hb => ?_) (fun hb => ?_)<;>(first|contradiction | (conv=>whnf))) | (refine And.intro (fun hb => ?_) (fun hb => ?_)<;>(first|contradiction | (conv=>whnf))) | (refine And.intro (a:=(_:Bool)=true) ?_ ?_;rotate_left 1;(conv=>whnf))))
   all_goals (first|rfl|trivial|assumption | (simp only[eqv,eqvL1,eqv1,eqv2,eqvL2,F.word, *,Bool.true_or,Bool.or_true,Bool.or_self,Bool.false_or,Bool.or_false,if_true,if_false,ite_true,ite_false];done) | (simp only[F.word, *];rfl))
 . trivial
end Go.Proofs.YtfgkhenhlpoheaaGreat
namespace Go.Proofs.YtfgkhenhlpoheaaGreat
open Go.RowKit Go.Sx
set_option maxRecDepth 100000
set_option maxHeartbeats 4000000
theorem ft_of {p n:Int}(h:(decide (0≤p)&&(decide (1≤n)&&(decide (n≤512)&&decide (p+n≤512))))=true):0≤p∧1≤n∧n≤512∧p+n≤512:=by
 simp only[Bool.and_eq_true,decide_eq_true_eq] at h;exact h
theorem quo8 {p:Int}(h0:0≤p)(h1:p≤512):IntKind.i64.wrap (p.tdiv 8)=((p.toNat / 8:Nat):Int):=by
 have h:p.tdiv 8=((p.toNat / 8:Nat):Int):=by
  rw[Int.tdiv_eq_ediv_of_nonneg h0];omega
 rw[h,i64_of (by omega) (by omega)]
theorem cnt_le {p n:Int}(hp:0≤p)(hn:1≤n)(hb:p+n≤512){j:Nat}(h:j≤F.cnt p n):p.toNat / 8+j≤64:=by unfold F.cnt at h;omega
theorem cnt_lt {p n:Int}(hp:0≤p)(hn:1≤n){j:Nat}(h:8*((p.toNat / 8+j:Nat):Int)<p+n):j<F.cnt p n:=by unfold F.cnt;omega
theorem cnt_ge {p n:Int}(hp:0≤p)(hn:1≤n){j:Nat}(hj:j≤F.cnt p n)(h : ¬ 8*((p.toNat / 8+j:Nat):Int)<p+n):j=F.cnt p n:=by unfold F.cnt at *;omega
theorem touch_run (f:Fr)(hf:f.wf)(p n:Int)(hp:0≤p)(hn:1≤n)(h8:n≤512)(hpn:p+n≤512):run Tryz.prog ⟨[(164,k_fset)],eqs,[],[(163,Tryz.f163,[]),(200,Tryz.f200,[])],[],mixs,meqs,[]⟩ 10000 [] 0 (bodyOf Tryz.f130) (initF Tryz.f130 [frv f,.int .i64 p,.int .i64 n]) [] (retK Tryz.prog Tryz.f130 fun x _=>eqv x (frv (F.touch f p n))):=by
 (conv=>whnf)
 (repeat' (first | (refine step_t (by first|rfl|assumption) ?_;(conv=>whnf)) | (refine step_f (by first|rfl|assumption) ?_;(conv=>whnf)) | (refine step_nt (by assumption) ?_;(conv=>whnf)) | (refine step_nf (by assumption) ?_;(conv=>whnf)) | (refine step_n (fun hb => ?_) (fun hb => ?_)<;>(first|contradiction | (conv=>whnf))) | (refine And.intro (fun hb => ?_) (fun hb => ?_)<;>(first|contradiction | (conv=>whnf))) | (refine And.intro ?_ ?_;rotate_left 1;(conv=>whnf))))
 any_goals (exact(rfl:((8:Int) != 0)=true))
 refine .inr ⟨[],[0,1,2,4],fun k vals M=>∃ j:Nat,j≤F.cnt p n∧k=F.cnt p n-j∧vals=[.yld 4,.ptr 2 0,.ptr 3 0,.int .i64 ((p.toNat / 8+j:Nat):Int)]∧M=[.mix 44 [.arr 11 12 (gOf eA f.R),.arr 64 14 (gOf eS (F.tch f.S p n (p.toNat / 8) j)),.int .i64 f.ids],.mix 44 [.arr 11 12 (fun _=>[.int .u8 0,.u64 (BitVec.ofInt 64 0),.u64 (BitVec.ofInt 64 0),.u64 (BitVec.ofInt 64 0),.u64 (BitVec.ofInt 64 0),.int .i64 0,.int .i64 0,.int .i64 0,.int .i64 0,.int .i64 0,.int .i64 0,.bool false]),.arr 64 14 (fun _=>.bool false :: .int .u8 0::[.int .u8 0,.u64 (BitVec.ofInt 64 0),.u64 (BitVec.ofInt 64 0),.u64 (BitVec.ofInt 64 0),.u64 (BitVec.ofInt 64 0),.int .i64 0,.int .i64 0,.int .i64 0,.int .i64 0,.int .i64 0,.int .i64 0,.bool false]),.int .i64 0],.cells 3 [.int .i64 p],.cells 3 [.int .i64 n],lpOf [] (bodyOf Tryz.f130) [frv f,.int .i64 p,.int .i64 n,.ptr 0 0,.tup [],.tup [],.ptr 1 0,.tup [],.tup [],.int .i64 p,.int .i64 n,.fn (.func 200) [] [.ptr 2 0,.ptr 3 0],.tup [],.tup [],.tup [],.tup [],.tup [],.tup [],.tup [],.tup [],.tup [],.tup [],.tup [],.tup [],.tup [],.tup []]],?_⟩
 conv=>whnf
 refine And.intro ⟨F.cnt p n,[.mix 44 [.arr 11 12 (gOf eA f.R),.arr 64 14 (gOf eS f.S),.int .i64 f.ids],.mix 44 [.arr 11 12 (fun _=>[.int .u8 0,.u64 (BitVec.ofInt 64 0),.u64 (BitVec.ofInt 64 0),.u64 (BitVec.ofInt 64 0),.u64 (BitVec.ofInt 64 0),.int .i64 0,.int .i64 0,.int .i64 0,.int .i64 0,.int .i64 0,.int .i64 0,.bool false]),.arr 64 14 (fun _=>.bool false :: .int .u8 0::[.int .u8 0,.u64 (BitVec.ofInt 64 0),.u64 (BitVec.ofInt 64 0),.u64 (BitVec.ofInt 64 0),.u64 (BitVec.ofInt 64 0),.int .i64 0,.int .i64 0,.int .i64 0,.int .i64 0,.int .i64 0,.int .i64 0,.bool false]),.int .i64 0],.cells 3 [.int .i64 p],.cells 3 [.int .i64 n],lpOf [] (bodyOf Tryz.f130) [frv f,.int .i64 p,.int .i64 n,.ptr 0 0,.tup [],.tup [],.ptr 1 0,.tup [],.tup [],.int .i64 p,.int .i64 n,.fn (.func 200) [] [.ptr 2 0,.ptr 3 0],.tup [],.tup [],.tup [],.tup [],.tup [],.tup [],.tup [],.tup [],.tup [],.tup [],.tup [],.tup [],.tup [],.tup []]],mle_cons ble_refl (mle_cons ble_refl (mle_cons ble_refl (mle_cons ble_refl (mle_cons ble_refl mle_nil)))),rfl,rfl,0,by omega,by omega,?_,rfl⟩ ?_
 . show[SV.yld 4,.ptr 2 0,.ptr 3 0,.int .i64 (IntKind.i64.wrap (p.tdiv 8))]=_
   rw[quo8 hp (by omega)];rfl
 rintro k vals M1 ⟨j,hj,rfl,rfl,rfl⟩
 have hj64:=cnt_le hp hn hpn hj
 have e1:IntKind.i64.wrap (((p.toNat / 8+j:Nat):Int)*8)=8*((p.toNat / 8+j:Nat):Int):=by rw[i64_of (by omega) (by omega)];omega
 have e3:IntKind.i64.wrap (p+n)=p+n:=i64_of (by omega) (by omega)
 (conv=>whnf)
 (repeat' (first | (refine step_t (by first|rfl|assumption) ?_;(conv=>whnf)) | (refine step_f (by first|rfl|assumption) ?_;(conv=>whnf)) | (refine step_nt (by assumption) ?_;(conv=>whnf)) | (refine step_nf (by assumption) ?_;(conv=>whnf)) | (refine step_n (fun hb => ?_) (fun hb => ?_)<;>(first|contradiction | (conv=>whnf))) | (refine And.intro (fun hb => ?_) (fun hb => ?_)<;>(first|contradiction | (conv=>whnf))) | (refine And.intro ?_ ?_;rotate_left 1;(conv=>whnf))))
 . rw[e1,e3] at hb
   have hlt:=of_decide_eq_true hb
   have hjlt:=cnt_lt hp hn hlt
   have hj63:=cnt_le hp hn hpn hjlt
   refine .inr ⟨[],[0,1,2,4,5,18],fun k vals M=>∃ b:Nat,b≤8∧k=8-b∧vals=[.yld 4,.ptr 2 0,.ptr 3 0,.int .i64 ((p.toNat / 8+j:Nat):Int),.int .u8 (F.mk p n (p.toNat / 8+j) b),.int .i64 (b:Int)]∧M=[.mix 44 [.arr 11 12 (gOf eA f.R),.arr 64 14 (gOf eS (F.tch f.S p n (p.toNat / 8) j)),.int .i64 f.ids],.mix 44 [.arr 11 12 (fun _=>[.int .u8 0,.u64 (BitVec.ofInt 64 0),.u64 (BitVec.ofInt 64 0),.u64 (BitVec.ofInt 64 0),.u64 (BitVec.ofInt 64 0),.int .i64 0,.int .i64 0,.int .i64 0,.int .i64 0,.int .i64 0,.int .i64 0,.bool false]),.arr 64 14 (fun _=>.bool false :: .int .u8 0::[.int .u8 0,.u64 (BitVec.ofInt 64 0),.u64 (BitVec.ofInt 64 0),.u64 (BitVec.ofInt 64 0),.u64 (BitVec.ofInt 64 0),.int .i64 0,.int .i64 0,.int .i64 0,.int .i64 0,.int .i64 0,.int .i64 0,.bool false]),.int .i64 0],.cells 3 [.int .i64 p],.cells 3 [.int .i64 n],lpOf [] (bodyOf Tryz.f130) [frv f,.int .i64 p,.int .i64 n,.ptr 0 0,.tup [],.tup [],.ptr 1 0,.tup [],.tup [],.int .i64 p,.int .i64 n,.fn (.func 200) [] [.ptr 2 0,.ptr 3 0],.tup [],.tup [],.tup [],.tup [],.tup [],.tup [],.tup [],.tup [],.tup [],.tup [],.tup [],.tup [],.tup [],.tup []]],?_⟩
   conv=>whnf
   refine And.intro ⟨8,[.mix 44 [.arr 11 12 (gOf eA f.R),.arr 64 14 (gOf eS (F.tch f.S p n (p.toNat / 8) j)),.int .i64 f.ids],.mix 44 [.arr 11 12 (fun _=>[.int .u8 0,.u64 (BitVec.ofInt 64 0),.u64 (BitVec.ofInt 64 0),.u64 (BitVec.ofInt 64 0),.u64 (BitVec.ofInt 64 0),.int .i64 0,.int .i64 0,.int .i64 0,.int .i64 0,.int .i64 0,.int .i64 0,.bool false]),.arr 64 14 (fun _=>.bool false :: .int .u8 0::[.int .u8 0,.u64 (BitVec.ofInt 64 0),.u64 (BitVec.ofInt 64 0),.u64 (BitVec.ofInt 64 0),.u64 (BitVec.ofInt 64 0),.int .i64 0,.int .i64 0,.int .i64 0,.int .i64 0,.int .i64 0,.int .i64 0,.bool false]),.int .i64 0],.cells 3 [.int .i64 p],.cells 3 [.int .i64 n],lpOf [] (bodyOf Tryz.f130) [frv f,.int .i64 p,.int .i64 n,.ptr 0 0,.tup [],.tup [],.ptr 1 0,.tup [],.tup [],.int .i64 p,.int .i64 n,.fn (.func 200) [] [.ptr 2 0,.ptr 3 0],.tup [],.tup [],.tup [],.tup [],.tup [],.tup [],.tup [],.tup [],.tup [],.tup [],.tup [],.tup [],.tup [],.tup []]],mle_cons ble_refl (mle_cons ble_refl (mle_cons ble_refl (mle_cons ble_refl (mle_cons ble_refl mle_nil)))),rfl,rfl,0,by omega,by omega,rfl,rfl⟩ ?_
   rintro k vals M1 ⟨b,hb8,rfl,rfl,rfl⟩
   have e2:IntKind.i64.wrap (8*((p.toNat / 8+j:Nat):Int))=8*((p.toNat / 8+j:Nat):Int):=i64_of (by omega) (by omega)
   have e4:IntKind.i64.wrap (8*((p.toNat / 8+j:Nat):Int)+(b:Int))=8*((p.toNat / 8+j:Nat):Int)+(b:Int):=i64_of (by omega) (by omega)
   (conv=>whnf)
   (repeat' (first | (refine step_t (by first|rfl|assumption) ?_;(conv=>whnf)) | (refine step_f (by first|rfl|assumption) ?_;(conv=>whnf)) | (refine step_nt (by assumption) ?_;(conv=>whnf)) | (refine step_nf (by assumption) ?_;(conv=>whnf)) | (refine step_n (fun hb => ?_) (fun hb => ?_)<;>(first|contradiction | (conv=>whnf))) | (refine And.intro (fun hb => ?_) (fun hb => ?_)<;>(first|contradiction | (conv=>whnf))) | (refine And.intro ?_ ?_;rotate_left 1;(conv=>whnf))))
   all_goals (simp only[Int.toNat_natCast,e2,e4,e3] at *)
   all_goals try first
    |(refine decide_eq_true ?_;omega)
    |(rw[Bool.and_eq_true];exact⟨decide_eq_true (by omega),decide_eq_true (by omega)⟩)
    |rfl
    |(have hlt8:b<8:=by
       have h9:decide ((b:Int)<8)=true:=by assumption
       have:=of_decide_eq_true h9
       omega
      refine⟨8 - (b+1),[.mix 44 [.arr 11 12 (gOf eA f.R),.arr 64 14 (gOf eS (F.tch f.S p n (p.toNat / 8) j)),.int .i64 f.ids],.mix 44 [.arr 11 12 (fun _=>[.int .u8 0,.u64 (BitVec.ofInt 64 0),.u64 (BitVec.ofInt 64 0),.u64 (BitVec.ofInt 64 0),.u64 (BitVec.ofInt 64 0),.int .i64 0,.int .i64 0,.int .i64 0,.int .i64 0,.int .i64 0,.int .i64 0,.bool false]),.arr 64 14 (fun _=>.bool false :: .int .u8 0::[.int .u8 0,.u64 (BitVec.ofInt 64 0),.u64 (BitVec.ofInt 64 0),.u64 (BitVec.ofInt 64 0),.u64 (BitVec.ofInt 64 0),.int .i64 0,.int .i64 0,.int .i64 0,.int .i64 0,.int .i64 0,.int .i64 0,.bool false]),.int .i64 0],.cells 3 [.int .i64 p],.cells 3 [.int .i64 n],lpOf [] (bodyOf Tryz.f130) [frv f,.int .i64 p,.int .i64 n,.ptr 0 0,.tup [],.tup [],.ptr 1 0,.tup [],.tup [],.int .i64 p,.int .i64 n,.fn (.func 200) [] [.ptr 2 0,.ptr 3 0],.tup [],.tup [],.tup [],.tup [],.tup [],.tup [],.tup [],.tup [],.tup [],.tup [],.tup [],.tup [],.tup [],.tup []]],[0,1,2,3,4],by omega,rfl,mle_cons ble_refl (mle_cons ble_refl (mle_cons ble_refl (mle_cons ble_refl (mle_cons ble_refl mle_nil)))),rfl,rfl,b+1,by omega,rfl,?_,rfl⟩
      have e5:IntKind.i64.wrap ((b:Int)+1)=((b+1:Nat):Int):=i64_of (by omega) (by omega)
      first
      |rw[F.mk_1 (by assumption),← e5];rfl
      |rw[F.mk_2 (by assumption),← e5];rfl
      |rw[F.mk_3 (by assumption) (by assumption),← e5];rfl)
   have hb8':b=8:=by
    have h9:decide ((b:Int)<8)=false:=by assumption
    have:=of_decide_eq_false h9
    omega
   subst hb8'
   have hlen:(F.tch f.S p n (p.toNat / 8) j).length=64:=by rw[F.tch_len];exact hf.s
   refine⟨F.cnt p n - (j+1),[.mix 44 [.arr 11 12 (gOf eA f.R),.arr 64 14 (gOf eS (F.tch f.S p n (p.toNat / 8) (j+1))),.int .i64 f.ids],.mix 44 [.arr 11 12 (fun _=>[.int .u8 0,.u64 (BitVec.ofInt 64 0),.u64 (BitVec.ofInt 64 0),.u64 (BitVec.ofInt 64 0),.u64 (BitVec.ofInt 64 0),.int .i64 0,.int .i64 0,.int .i64 0,.int .i64 0,.int .i64 0,.int .i64 0,.bool false]),.arr 64 14 (fun _=>.bool false :: .int .u8 0::[.int .u8 0,.u64 (BitVec.ofInt 64 0),.u64 (BitVec.ofInt 64 0),.u64 (BitVec.ofInt 64 0),.u64 (BitVec.ofInt 64 0),.int .i64 0,.int .i64 0,.int .i64 0,.int .i64 0,.int .i64 0,.int .i64 0,.bool false]),.int .i64 0],.cells 3 [.int .i64 p],.cells 3 [.int .i64 n],lpOf [] (bodyOf Tryz.f130) [frv f,.int .i64 p,.int .i64 n,.ptr 0 0,.tup [],.tup [],.ptr 1 0,.tup [],.tup [],.int .i64 p,.int .i64 n,.fn (.func 200) [] [.ptr 2 0,.ptr 3 0],.tup [],.tup [],.tup [],.tup [],.tup [],.tup [],.tup [],.tup [],.tup [],.tup [],.tup [],.tup [],.tup [],.tup []]],[0,1,2,3,4],by omega,rfl,mle_cons (ble_mix ⟨⟨rfl,rfl,fun _ _=>rfl⟩,⟨rfl,rfl,fun k hk => ?_⟩,rfl,trivial⟩) (mle_cons ble_refl (mle_cons ble_refl (mle_cons ble_refl (mle_cons ble_refl mle_nil)))),rfl,rfl,j+1,by omega,rfl,?_,rfl⟩
   . symm
     exact gSet_gOf eS (L:=F.tch f.S p n (p.toNat / 8) j) (i:=p.toNat / 8+j) (a:=F.slot ((F.tch f.S p n (p.toNat / 8) j).getD (p.toNat / 8+j) eS.dft) (F.mk p n (p.toNat / 8+j) 8)) (by rw[hlen];omega) rfl rfl k (by rw[hlen];exact hk)
   . show[SV.yld 4,.ptr 2 0,.ptr 3 0,.int .i64 (IntKind.i64.wrap (((p.toNat / 8+j:Nat):Int)+1))]=_
     rw[i64_of (n:=((p.toNat / 8+j:Nat):Int)+1) (by omega) (by omega)];rfl
 all_goals (
  first
  |rfl
  |trivial
  |(intro i _;rfl)
  |(rw[e1,e3] at hb
    have hjc:=cnt_ge hp hn hj (of_decide_eq_false hb)
    intro i _
    show _=gOf eS (F.tch f.S p n (p.toNat / 8) (F.cnt p n)) i
    rw[← hjc];done))
def k_ftouch:List SV→List Blk→Res:=fun args _=>match args with
 |[.mix [.arr 11 12 g,.arr 64 14 h,.int .i64 ids],.int .i64 p,.int .i64 n]=>.test ((frB g h&&(decide (0≤p)&&(decide (1≤n)&&(decide (n≤512)&&decide (p+n≤512)))))) (.ok (frv (F.touch (frD g h ids) p n)) [])
 |_=>.fail
theorem k_ftouch_ok:CtrOk Tryz.prog Gw 130 k_ftouch:=by
 refine⟨fun _ _=>by kernel_rfl,fun args M => ?_⟩
 unfold k_ftouch
 split
 . rename_i g h ids p n
   intro ht
   rw[Bool.and_eq_true] at ht
   obtain⟨hfr,ht⟩:=ht
   exact ctr_fr (Γ:=⟨[(164,k_fset)],eqs,[],[(163,Tryz.f163,[]),(200,Tryz.f200,[])],[],mixs,meqs,[]⟩) (sv:=frv (F.touch (frD g h ids) p n)) st_Gw ⟨(okCons k_fset_ok okNil),eqs_ok,okNilB,(okConsI Tryz.func163 rfl (by kernel_rfl) (fun _ _=>by kernel_rfl) (okConsI Tryz.func200 rfl (by kernel_rfl) (fun _ _=>by kernel_rfl) okNilI)),okNilP,mixs_ok,meqs_ok,okNilY⟩ Tryz.func130 rfl mixed [] (by kernel_rfl) 10000 (rest:=[.int .i64 p,.int .i64 n]) hfr rfl (touch_run _ (frD_wf hfr) p n (ft_of ht).1 (ft_of ht).2.1 (ft_of ht).2.2.1 (ft_of ht).2.2.2)
 . trivial
theorem ready_run (f:Fr)(hf:f.wf)(p n:Int)(hp:0≤p)(hn:1≤n)(h8:n≤512)(hpn:p+n≤512):run Tryz.prog ⟨[(164,k_fset)],eqs,[],[(163,Tryz.f163,[]),(200,Tryz.f200,[])],[],mixs,meqs,[]⟩ 10000 [] 0 (bodyOf Tryz.f117) (initF Tryz.f117 [frv f,.int .i64 p,.int .i64 n]) [] (retK Tryz.prog Tryz.f117 fun x _=>eqv x (.bool (F.ready f p n))):=by
 (conv=>whnf)
 (repeat' (first | (refine step_t (by first|rfl|assumption) ?_;(conv=>whnf)) | (refine step_f (by first|rfl|assumption) ?_;(conv=>whnf)) | (refine step_nt (by assumption) ?_;(conv=>whnf)) | (refine step_nf (by assumption) ?_;(conv=>whnf)) | (refine step_n (fun hb => ?_) (fun hb => ?_)<;>(first|contradiction | (conv=>whnf))) | (refine And.intro (fun hb => ?_) (fun hb => ?_)<;>(first|contradiction | (conv=>whnf))) | (refine And.intro ?_ ?_;rotate_left 1;(conv=>whnf))))
 any_goals (exact(rfl:((8:Int) != 0)=true))
 refine .inr ⟨[],[0,1,2,4],fun k vals M=>∃ j:Nat,j≤F.cnt p n∧k=F.cnt p n-j∧F.rdy f.S p n (p.toNat / 8) j=true∧vals=[.yld 4,.ptr 2 0,.ptr 3 0,.int .i64 ((p.toNat / 8+j:Nat):Int)]∧M=[.mix 44 [.arr 11 12 (gOf eA f.R),.arr 64 14 (gOf eS f.S),.int .i64 f.ids],.cells 4 [.ff],.cells 3 [.int .i64 p],.cells 3 [.int .i64 n],lpOf [] (bodyOf Tryz.f117) [frv f,.int .i64 p,.int .i64 n,.ptr 0 0,.tup [],.tup [],.ptr 1 0,.tup [],.tup [],.int .i64 p,.int .i64 n,.fn (.func 200) [] [.ptr 2 0,.ptr 3 0],.tup [],.tup [],.tup [],.tup [],.tup [],.tup [],.tup [],.tup [],.tup [],.tup []]],?_⟩
 conv=>whnf
 refine And.intro ⟨F.cnt p n,[.mix 44 [.arr 11 12 (gOf eA f.R),.arr 64 14 (gOf eS f.S),.int .i64 f.ids],.cells 4 [.ff],.cells 3 [.int .i64 p],.cells 3 [.int .i64 n],lpOf [] (bodyOf Tryz.f117) [frv f,.int .i64 p,.int .i64 n,.ptr 0 0,.tup [],.tup [],.ptr 1 0,.tup [],.tup [],.int .i64 p,.int .i64 n,.fn (.func 200) [] [.ptr 2 0,.ptr 3 0],.tup [],.tup [],.tup [],.tup [],.tup [],.tup [],.tup [],.tup [],.tup [],.tup []]],mle_cons ble_refl (mle_cons ble_refl (mle_cons ble_refl (mle_cons ble_refl (mle_cons ble_refl mle_nil)))),rfl,rfl,0,by omega,by omega,rfl,?_,rfl⟩ ?_
 . show[SV.yld 4,.ptr 2 0,.ptr 3 0,.int .i64 (IntKind.i64.wrap (p.tdiv 8))]=_
   rw[quo8 hp (by omega)];rfl
 rintro k vals M1 ⟨j,hj,rfl,hrd,rfl,rfl⟩
 have hj64:=cnt_le hp hn hpn hj
 have e1:IntKind.i64.wrap (((p.toNat / 8+j:Nat):Int)*8)=8*((p.toNat / 8+j:Nat):Int):=by rw[i64_of (by omega) (by omega)];omega
 have e3:IntKind.i64.wrap (p+n)=p+n:=i64_of (by omega) (by omega)
 (conv=>whnf)
 (repeat' (first | (refine step_t (by first|rfl|assumption) ?_;(conv=>whnf)) | (refine step_f (by first|rfl|assumption) ?_;(conv=>whnf)) | (refine step_nt (by assumption) ?_;(conv=>whnf)) | (refine step_nf (by assumption) ?_;(conv=>whnf)) | (refine step_n (fun hb => ?_) (fun hb => ?_)<;>(first|contradiction | (conv=>whnf))) | (refine And.intro (fun hb => ?_) (fun hb => ?_)<;>(first|contradiction | (conv=>whnf))) | (refine And.intro ?_ ?_;rotate_left 1;(conv=>whnf))))
 . rw[e1,e3] at hb
   have hlt:=of_decide_eq_true hb
   have hjlt:=cnt_lt hp hn hlt
   have hj63:=cnt_le hp hn hpn hjlt
   refine .inr ⟨[],[0,1,2,4,5,18],fun k vals M=>∃ b:Nat,b≤8∧k=8-b∧vals=[.yld 4,.ptr 2 0,.ptr 3 0,.int .i64 ((p.toNat / 8+j:Nat):Int),.int .u8 (F.mk p n (p.toNat / 8+j) b),.int .i64 (b:Int)]∧M=[.mix 44 [.arr 11 12 (gOf eA f.R),.arr 64 14 (gOf eS f.S),.int .i64 f.ids],.cells 4 [.ff],.cells 3 [.int .i64 p],.cells 3 [.int .i64 n],lpOf [] (bodyOf Tryz.f117) [frv f,.int .i64 p,.int .i64 n,.ptr 0 0,.tup [],.tup [],.ptr 1 0,.tup [],.tup [],.int .i64 p,.int .i64 n,.fn (.func 200) [] [.ptr 2 0,.ptr 3 0],.tup [],.tup [],.tup [],.tup [],.tup [],.tup [],.tup [],.tup [],.tup [],.tup []]],?_⟩
   conv=>whnf
   refine And.intro ⟨8,[.mix 44 [.arr 11 12 (gOf eA f.R),.arr 64 14 (gOf eS f.S),.int .i64 f.ids],.cells 4 [.ff],.cells 3 [.int .i64 p],.cells 3 [.int .i64 n],lpOf [] (bodyOf Tryz.f117) [frv f,.int .i64 p,.int .i64 n,.ptr 0 0,.tup [],.tup [],.ptr 1 0,.tup [],.tup [],.int .i64 p,.int .i64 n,.fn (.func 200) [] [.ptr 2 0,.ptr 3 0],.tup [],.tup [],.tup [],.tup [],.tup [],.tup [],.tup [],.tup [],.tup [],.tup []]],mle_cons ble_refl (mle_cons ble_refl (mle_cons ble_refl (mle_cons ble_refl (mle_cons ble_refl mle_nil)))),rfl,rfl,0,by omega,by omega,rfl,rfl⟩ ?_
   rintro k vals M1 ⟨b,hb8,rfl,rfl,rfl⟩
   have e2:IntKind.i64.wrap (8*((p.toNat / 8+j:Nat):Int))=8*((p.toNat / 8+j:Nat):Int):=i64_of (by omega) (by omega)
   have e4:IntKind.i64.wrap (8*((p.toNat / 8+j:Nat):Int)+(b:Int))=8*((p.toNat / 8+j:Nat):Int)+(b:Int):=i64_of (by omega) (by omega)
   (conv=>whnf)
   (repeat' (first | (refine step_t (by first|rfl|assumption) ?_;(conv=>whnf)) | (refine step_f (by first|rfl|assumption) ?_;(conv=>whnf)) | (refine step_nt (by assumption) ?_;(conv=>whnf)) | (refine step_nf (by assumption) ?_;(conv=>whnf)) | (refine step_n (fun hb => ?_) (fun hb => ?_)<;>(first|contradiction | (conv=>whnf))) | (refine And.intro (fun hb => ?_) (fun hb => ?_)<;>(first|contradiction | (conv=>whnf))) | (refine And.intro ?_ ?_;rotate_left 1;(conv=>whnf))))
   all_goals (simp only[Int.toNat_natCast,e2,e4,e3] at *)
   all_goals try first
    |(refine decide_eq_true ?_;omega)
    |(rw[Bool.and_eq_true];exact⟨decide_eq_true (by omega),decide_eq_true (by omega)⟩)
    |rfl
    |(have hlt8:b<8:=by
       have h9:decide ((b:Int)<8)=true:=by assumption
       have:=of_decide_eq_true h9
       omega
      refine⟨8 - (b+1),[.mix 44 [.arr 11 12 (gOf eA f.R),.arr 64 14 (gOf eS f.S),.int .i64 f.ids],.cells 4 [.ff],.cells 3 [.int .i64 p],.cells 3 [.int .i64 n],lpOf [] (bodyOf Tryz.f117) [frv f,.int .i64 p,.int .i64 n,.ptr 0 0,.tup [],.tup [],.ptr 1 0,.tup [],.tup [],.int .i64 p,.int .i64 n,.fn (.func 200) [] [.ptr 2 0,.ptr 3 0],.tup [],.tup [],.tup [],.tup [],.tup [],.tup [],.tup [],.tup [],.tup [],.tup []]],[0,1,2,3,4],by omega,rfl,mle_cons ble_refl (mle_cons ble_refl (mle_cons ble_refl (mle_cons ble_refl (mle_cons ble_refl mle_nil)))),rfl,rfl,b+1,by omega,rfl,?_,rfl⟩
      have e5:IntKind.i64.wrap ((b:Int)+1)=((b+1:Nat):Int):=i64_of (by omega) (by omega)
      first
      |rw[F.mk_1 (by assumption),← e5];rfl
      |rw[F.mk_2 (by assumption),← e5];rfl
      |rw[F.mk_3 (by assumption) (by assumption),← e5];rfl)
   all_goals (
    have hb8':b=8:=by
      have h9:decide ((b:Int)<8)=false:=by assumption
      have:=of_decide_eq_false h9
      omega
    subst hb8'
    first
    |exact(F.ready_no hjlt (by assumption)).symm
    |exact F.ready_no hjlt (by assumption)
    |exact(F.ready_no' hjlt (by assumption)).symm
    |exact F.ready_no' hjlt (by assumption)
    |(refine⟨F.cnt p n - (j+1),[.mix 44 [.arr 11 12 (gOf eA f.R),.arr 64 14 (gOf eS f.S),.int .i64 f.ids],.cells 4 [.ff],.cells 3 [.int .i64 p],.cells 3 [.int .i64 n],lpOf [] (bodyOf Tryz.f117) [frv f,.int .i64 p,.int .i64 n,.ptr 0 0,.tup [],.tup [],.ptr 1 0,.tup [],.tup [],.int .i64 p,.int .i64 n,.fn (.func 200) [] [.ptr 2 0,.ptr 3 0],.tup [],.tup [],.tup [],.tup [],.tup [],.tup [],.tup [],.tup [],.tup [],.tup []]],[0,1,2,3,4],by omega,rfl,mle_cons ble_refl (mle_cons ble_refl (mle_cons ble_refl (mle_cons ble_refl (mle_cons ble_refl mle_nil)))),rfl,rfl,j+1,by omega,rfl,(by first|exact F.rdy_go hrd (by assumption)|exact F.rdy_go' hrd (by assumption)),?_,rfl⟩
      show[SV.yld 4,.ptr 2 0,.ptr 3 0,.int .i64 (IntKind.i64.wrap (((p.toNat / 8+j:Nat):Int)+1))]=_
      rw[i64_of (n:=((p.toNat / 8+j:Nat):Int)+1) (by omega) (by omega)];rfl))
 all_goals (
  first
  |rfl
  |trivial
  |(rw[e1,e3] at hb
    have hjc:=cnt_ge hp hn hj (of_decide_eq_false hb)
    have hr:F.ready f p n=true:=by
     show F.rdy f.S p n (p.toNat / 8) (F.cnt p n)=true
     rw[← hjc];exact hrd
    first|exact hr|exact hr.symm))
def k_fready:List SV→List Blk→Res:=fun args _=>match args with
 |[.mix [.arr 11 12 g,.arr 64 14 h,.int .i64 ids],.int .i64 p,.int .i64 n]=>.test ((frB g h&&(decide (0≤p)&&(decide (1≤n)&&(decide (n≤512)&&decide (p+n≤512)))))) (.ok (.bool (F.ready (frD g h ids) p n)) [])
 |_=>.fail
theorem k_fready_ok:CtrOk Tryz.prog Gw 117 k_fready:=by
 refine⟨fun _ _=>by kernel_rfl,fun args M => ?_⟩
 unfold k_fready
 split
 . rename_i g h ids p n
   intro ht
   rw[Bool.and_eq_true] at ht
   obtain⟨hfr,ht⟩:=ht
   exact ctr_fr (Γ:=⟨[(164,k_fset)],eqs,[],[(163,Tryz.f163,[]),(200,Tryz.f200,[])],[],mixs,meqs,[]⟩) (sv:=.bool (F.ready (frD g h ids) p n)) st_Gw ⟨(okCons k_fset_ok okNil),eqs_ok,okNilB,(okConsI Tryz.func163 rfl (by kernel_rfl) (fun _ _=>by kernel_rfl) (okConsI Tryz.func200 rfl (by kernel_rfl) (fun _ _=>by kernel_rfl) okNilI)),okNilP,mixs_ok,meqs_ok,okNilY⟩ Tryz.func117 rfl mixed [] (by kernel_rfl) 10000 (rest:=[.int .i64 p,.int .i64 n]) hfr rfl (ready_run _ (frD_wf hfr) p n (ft_of ht).1 (ft_of ht).2.1 (ft_of ht).2.2.1 (ft_of ht).2.2.2)
 . trivial
end Go.Proofs.YtfgkhenhlpoheaaGreat
