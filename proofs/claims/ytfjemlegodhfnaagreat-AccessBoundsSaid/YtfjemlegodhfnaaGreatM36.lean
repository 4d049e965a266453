import Derived.Test.YtfjemlegodhfnaaGreatM35
set_option linter.all false
namespace Go.Proofs.YtfjemlegodhfnaaGreat
open Go.RowKit Go.Sx
set_option maxRecDepth 100000
set_option maxHeartbeats 4000000
def rfOf:Code→Option (Array Nat×Code×Code)
 | .rangeFunc _ ps a b=>some (ps,a,b)
 | .seq a b=>match rfOf a with
   |some r=>some r
   |none=>rfOf b
 | .cond _ a b=>match rfOf a with
   |some r=>some r
   |none=>rfOf b
 | .block _ c=>rfOf c
 | .loop c=>rfOf c
 |_=>none
def lpOf (T:Tbl)(c:Code)(fr:List SV):Blk:=match rfOf c with
 |some (ps,a,b)=>.lp T fr ps a b .ready
 |none=>.dead
attribute [local irreducible] V.right
theorem i64_of {n:Int}(h0:0≤n)(h1:n<9223372036854775808):IntKind.i64.wrap n=n:=IntWalk.i64_in _ (by omega)
theorem inA_at {l:List Ab}(h:l.all inA=true){i:Nat}(hi:i<l.length):R.inS (l.getD i eA.dft).n.s=true:=by
 rw[getD_at _ hi];exact List.all_eq_true.1 h _ (List.getElem_mem hi)
theorem inS_at {l:List Sl}(h:(l.all fun s=>inA s.a)=true){i:Nat}(hi:i<l.length):R.inS (l.getD i eS.dft).a.n.s=true:=by
 rw[getD_at _ hi];exact List.all_eq_true.1 h _ (List.getElem_mem hi)
theorem right_run (f:Fr)(hf:f.wf):run Tryz.prog ⟨[(40,k_vRight)],eqs,[],[(39,Tryz.f39,[]),(52,Tryz.f52,[])],[],mixs,meqs,[]⟩ 10000 [] 0 (bodyOf Tryz.f25) (initF Tryz.f25 [frv f]) [] (retK Tryz.prog Tryz.f25 fun x _=>eqv x (.bool (F.right f))):=by
 have hR:=hf.r
 have hS:=hf.s
 (conv=>whnf)
 (repeat' (first | (refine step_t (by first|rfl|assumption) ?_;(conv=>whnf)) | (refine step_f (by first|rfl|assumption) ?_;(conv=>whnf)) | (refine step_nt (by assumption) ?_;(conv=>whnf)) | (refine step_nf (by assumption) ?_;(conv=>whnf)) | (refine step_n (fun hb => ?_) (fun hb => ?_)<;>(first|contradiction | (conv=>whnf))) | (refine And.intro (fun hb => ?_) (fun hb => ?_)<;>(first|contradiction | (conv=>whnf))) | (refine And.intro ?_ ?_;rotate_left 1;(conv=>whnf))))
 refine .inr ⟨[],[1,2,8,9],fun k vals M=>∃ j:Nat,j≤64∧k=64-j∧(f.S.take j).all F.okS=true∧vals=[.ptr 0 0,.ptr 1 0,.arr 64 14 (gOf eS f.S),.int .i64 (j:Int)]∧M=[.mix 37 [.arr 11 12 (gOf eA f.R),.arr 64 14 (gOf eS f.S),.int .i64 f.ids],.cells 4 [.ff]],?_⟩
 conv=>whnf
 refine And.intro ⟨64,[.mix 37 [.arr 11 12 (gOf eA f.R),.arr 64 14 (gOf eS f.S),.int .i64 f.ids],.cells 4 [.ff]],mle_cons ble_refl (mle_cons ble_refl mle_nil),rfl,rfl,0,by omega,by omega,rfl,rfl,rfl⟩ ?_
 rintro k vals M1 ⟨j,hj,rfl,hall,rfl,rfl⟩
 (conv=>whnf)
 (repeat' (first | (refine step_t (by first|rfl|assumption) ?_;(conv=>whnf)) | (refine step_f (by first|rfl|assumption) ?_;(conv=>whnf)) | (refine step_nt (by assumption) ?_;(conv=>whnf)) | (refine step_nf (by assumption) ?_;(conv=>whnf)) | (refine step_n (fun hb => ?_) (fun hb => ?_)<;>(first|contradiction | (conv=>whnf))) | (refine And.intro (fun hb => ?_) (fun hb => ?_)<;>(first|contradiction | (conv=>whnf))) | (refine And.intro ?_ ?_;rotate_left 1;(conv=>whnf))))
 all_goals try (simp only[Int.toNat_natCast] at *)
 all_goals try first
  |(refine decide_eq_true ?_;omega)
  |(have hlt:j<64:=by
     have h9:decide ((j:Int)<64)=true:=by assumption
     have:=of_decide_eq_true h9
     omega
    have hlt':j<f.S.length:=by omega
    first
    |(rw[Bool.and_eq_true];exact⟨decide_eq_true (by omega),decide_eq_true (by omega)⟩)
    |exact F.right_1 hlt' (F.okS_1 (by assumption))
    |exact F.right_1 hlt' (F.okS_2 (by assumption) (by assumption))
    |exact F.right_1 hlt' (F.okS_5 (by assumption) (by assumption))
    |(refine⟨64 - (j+1),[.mix 37 [.arr 11 12 (gOf eA f.R),.arr 64 14 (gOf eS f.S),.int .i64 f.ids],.cells 4 [.ff]],[0,1],by omega,rfl,mle_cons ble_refl (mle_cons ble_refl mle_nil),rfl,rfl,j+1,by omega,rfl,?_,?_,rfl⟩
      . rw[all_take' eS.dft hlt',hall,Bool.true_and]
        first|exact F.okS_3 (by assumption) (by assumption)|exact F.okS_4 (by assumption) (by assumption)|exact F.okS_6 (by assumption) (by assumption)
      . show[SV.ptr 0 0,.ptr 1 0,.arr 64 14 (gOf eS f.S),.int .i64 (IntKind.i64.wrap ((j:Int)+1))]=_
        rw[i64_of (n:=(j:Int)+1) (by omega) (by omega)];rfl))
 have hj64:j=64:=by
  have h9:decide ((j:Int)<64)=false:=by assumption
  have:=of_decide_eq_false h9
  omega
 have hallS:f.S.all F.okS=true:=by rw[hj64,← hS,List.take_length] at hall;exact hall
 refine .inr ⟨[],[0,1,5],fun k vals M=>∃ i:Nat,i≤11∧k=11-i∧(f.R.take i).all (F.okA f.ids)=true∧vals=[.yld 3,.ptr 2 0,.int .i64 (i:Int)]∧M=[.mix 37 [.arr 11 12 (gOf eA f.R),.arr 64 14 (gOf eS f.S),.int .i64 f.ids],.cells 4 [.ff],.cells 121 [.ptr 0 0],lpOf [] (bodyOf Tryz.f25) (mkFrom [(1,.ptr 0 0),(2,.ptr 1 0),(8,.arr 64 14 (gOf eS f.S)),(9,.int .i64 (j:Int)),(10,.bool (decide ((j:Int)<64))),(29,.fn (.func 52) [] [.ptr 2 0])] (fun _=>.junk) 49 0)],?_⟩
 conv=>whnf
 refine And.intro ⟨11,[.mix 37 [.arr 11 12 (gOf eA f.R),.arr 64 14 (gOf eS f.S),.int .i64 f.ids],.cells 4 [.ff],.cells 121 [.ptr 0 0],lpOf [] (bodyOf Tryz.f25) (mkFrom [(1,.ptr 0 0),(2,.ptr 1 0),(8,.arr 64 14 (gOf eS f.S)),(9,.int .i64 (j:Int)),(10,.bool (decide ((j:Int)<64))),(29,.fn (.func 52) [] [.ptr 2 0])] (fun _=>.junk) 49 0)],mle_cons ble_refl (mle_cons ble_refl (mle_cons ble_refl (mle_cons ble_refl mle_nil))),rfl,rfl,0,by omega,by omega,rfl,rfl,rfl⟩ ?_
 rintro k vals M1 ⟨i,hi,rfl,hallR,rfl,rfl⟩
 (conv=>whnf)
 (repeat' (first | (refine step_t (by first|rfl|assumption) ?_;(conv=>whnf)) | (refine step_f (by first|rfl|assumption) ?_;(conv=>whnf)) | (refine step_nt (by assumption) ?_;(conv=>whnf)) | (refine step_nf (by assumption) ?_;(conv=>whnf)) | (refine step_n (fun hb => ?_) (fun hb => ?_)<;>(first|contradiction | (conv=>whnf))) | (refine And.intro (fun hb => ?_) (fun hb => ?_)<;>(first|contradiction | (conv=>whnf))) | (refine And.intro ?_ ?_;rotate_left 1;(conv=>whnf))))
 all_goals try (simp only[Int.toNat_natCast] at *)
 all_goals try first
  |(refine decide_eq_true ?_;omega)
  |(have hlt:i<11:=by
     have h9:decide ((i:Int)<11)=true:=by assumption
     have:=of_decide_eq_true h9
     omega
    have hlt':i<f.R.length:=by omega
    first
    |(refine decide_eq_true ?_;omega)
    |(rw[Bool.and_eq_true];exact⟨decide_eq_true (by omega),decide_eq_true (by omega)⟩)
    |exact F.right_2 hlt' (F.okA_1 (by assumption))
    |exact F.right_2 hlt' (F.okA_2 (by assumption))
    |exact inA_at hf.ri hlt'
    |(refine⟨11 - (i+1),[.mix 37 [.arr 11 12 (gOf eA f.R),.arr 64 14 (gOf eS f.S),.int .i64 f.ids],.cells 4 [.ff],.cells 121 [.ptr 0 0],lpOf [] (bodyOf Tryz.f25) (mkFrom [(1,.ptr 0 0),(2,.ptr 1 0),(8,.arr 64 14 (gOf eS f.S)),(9,.int .i64 (j:Int)),(10,.bool (decide ((j:Int)<64))),(29,.fn (.func 52) [] [.ptr 2 0])] (fun _=>.junk) 49 0)],[0,1,2,3],by omega,rfl,mle_cons ble_refl (mle_cons ble_refl (mle_cons ble_refl (mle_cons ble_refl mle_nil))),rfl,rfl,i+1,by omega,rfl,?_,?_,rfl⟩
      . rw[all_take' eA.dft hlt',hallR,Bool.true_and]
        exact F.okA_3 (by assumption) (by assumption)
      . show[SV.yld 3,.ptr 2 0,.int .i64 (IntKind.i64.wrap ((i:Int)+1))]=_
        rw[i64_of (n:=(i:Int)+1) (by omega) (by omega)];rfl))
 have hi11:i=11:=by
  have h9:decide ((i:Int)<11)=false:=by assumption
  have:=of_decide_eq_false h9
  omega
 have hallA:f.R.all (F.okA f.ids)=true:=by rw[hi11,← hR,List.take_length] at hallR;exact hallR
 refine .inr ⟨[],[0,1,18],fun k vals M=>∃ i:Nat,i≤64∧k=64-i∧((f.S.take i).all fun s=>F.okA f.ids s.a)=true∧vals=[.yld 3,.ptr 2 0,.int .i64 (i:Int)]∧M=[.mix 37 [.arr 11 12 (gOf eA f.R),.arr 64 14 (gOf eS f.S),.int .i64 f.ids],.cells 4 [.ff],.cells 121 [.ptr 0 0],lpOf [] (bodyOf Tryz.f25) (mkFrom [(1,.ptr 0 0),(2,.ptr 1 0),(8,.arr 64 14 (gOf eS f.S)),(9,.int .i64 (j:Int)),(10,.bool (decide ((j:Int)<64))),(29,.fn (.func 52) [] [.ptr 2 0])] (fun _=>.junk) 49 0)],?_⟩
 conv=>whnf
 refine And.intro ⟨64,[.mix 37 [.arr 11 12 (gOf eA f.R),.arr 64 14 (gOf eS f.S),.int .i64 f.ids],.cells 4 [.ff],.cells 121 [.ptr 0 0],lpOf [] (bodyOf Tryz.f25) (mkFrom [(1,.ptr 0 0),(2,.ptr 1 0),(8,.arr 64 14 (gOf eS f.S)),(9,.int .i64 (j:Int)),(10,.bool (decide ((j:Int)<64))),(29,.fn (.func 52) [] [.ptr 2 0])] (fun _=>.junk) 49 0)],mle_cons ble_refl (mle_cons ble_refl (mle_cons ble_refl (mle_cons ble_refl mle_nil))),rfl,rfl,0,by omega,by omega,rfl,rfl,rfl⟩ ?_
 clear hi hallR hi11
 rintro k vals M1 ⟨i,hi,rfl,hallR,rfl,rfl⟩
 (conv=>whnf)
 (repeat' (first | (refine step_t (by first|rfl|assumption) ?_;(conv=>whnf)) | (refine step_f (by first|rfl|assumption) ?_;(conv=>whnf)) | (refine step_nt (by assumption) ?_;(conv=>whnf)) | (refine step_nf (by assumption) ?_;(conv=>whnf)) | (refine step_n (fun hb => ?_) (fun hb => ?_)<;>(first|contradiction | (conv=>whnf))) | (refine And.intro (fun hb => ?_) (fun hb => ?_)<;>(first|contradiction | (conv=>whnf))) | (refine And.intro ?_ ?_;rotate_left 1;(conv=>whnf))))
 all_goals try (simp only[Int.toNat_natCast] at *)
 all_goals try first
  |(refine decide_eq_true ?_;omega)
  |(have hlt:i<64:=by
     have h9:decide ((i:Int)<64)=true:=by assumption
     have:=of_decide_eq_true h9
     omega
    have hlt':i<f.S.length:=by omega
    first
    |(refine decide_eq_true ?_;omega)
    |(rw[Bool.and_eq_true];exact⟨decide_eq_true (by omega),decide_eq_true (by omega)⟩)
    |exact F.right_3 hlt' (F.okA_1 (by assumption))
    |exact F.right_3 hlt' (F.okA_2 (by assumption))
    |exact inS_at hf.si hlt'
    |(refine⟨64 - (i+1),[.mix 37 [.arr 11 12 (gOf eA f.R),.arr 64 14 (gOf eS f.S),.int .i64 f.ids],.cells 4 [.ff],.cells 121 [.ptr 0 0],lpOf [] (bodyOf Tryz.f25) (mkFrom [(1,.ptr 0 0),(2,.ptr 1 0),(8,.arr 64 14 (gOf eS f.S)),(9,.int .i64 (j:Int)),(10,.bool (decide ((j:Int)<64))),(29,.fn (.func 52) [] [.ptr 2 0])] (fun _=>.junk) 49 0)],[0,1,2,3],by omega,rfl,mle_cons ble_refl (mle_cons ble_refl (mle_cons ble_refl (mle_cons ble_refl mle_nil))),rfl,rfl,i+1,by omega,rfl,?_,?_,rfl⟩
      . rw[all_take' (p:=fun s:Sl=>F.okA f.ids s.a) eS.dft hlt',hallR,Bool.true_and]
        exact F.okA_3 (by assumption) (by assumption)
      . show[SV.yld 3,.ptr 2 0,.int .i64 (IntKind.i64.wrap ((i:Int)+1))]=_
        rw[i64_of (n:=(i:Int)+1) (by omega) (by omega)];rfl))
 all_goals (
  have hi64:i=64:=by
   have h9:decide ((i:Int)<64)=false:=by assumption
   have:=of_decide_eq_false h9
   omega
  have hallSA:(f.S.all fun s=>F.okA f.ids s.a)=true:=by rw[hi64,← hS,List.take_length] at hallR;exact hallR
  exact(F.right_4 hallS hallA hallSA).symm)
def k_fRight:List SV→List Blk→Res:=fun args _=>match args with
 |[.mix [.arr 11 12 g,.arr 64 14 h,.int .i64 ids]]=>.test (frB g h) (.ok (.bool (F.right (frD g h ids))) [])
 |_=>.fail
theorem k_fRight_ok:CtrOk Tryz.prog Gw 25 k_fRight:=by
 refine⟨fun _ _=>by kernel_rfl,fun args M => ?_⟩
 unfold k_fRight
 split
 . rename_i g h ids
   intro ht
   have hfr:frB g h=true:=ht
   exact ctr_fr (Γ:=⟨[(40,k_vRight)],eqs,[],[(39,Tryz.f39,[]),(52,Tryz.f52,[])],[],mixs,meqs,[]⟩) (sv:=.bool (F.right (frD g h ids))) st_Gw ⟨(okCons k_vRight_ok okNil),eqs_ok,okNilB,(okConsI Tryz.func39 rfl (by kernel_rfl) (fun _ _=>by kernel_rfl) (okConsI Tryz.func52 rfl (by kernel_rfl) (fun _ _=>by kernel_rfl) okNilI)),okNilP,mixs_ok,meqs_ok,okNilY⟩ Tryz.func25 rfl mixed [] (by kernel_rfl) 10000 (rest:=[]) hfr rfl (right_run _ (frD_wf hfr))
 . trivial
end Go.Proofs.YtfjemlegodhfnaaGreat
namespace Go.Proofs.YtfjemlegodhfnaaGreat
open Go.RowKit Go.Sx
set_option maxRecDepth 100000
set_option maxHeartbeats 4000000
def b8 (x:Int):BitVec 8:=BitVec.ofInt 8 x
def ub (v:BitVec 8):Int:=(v.toNat:Int)
theorem b8_ub (v:BitVec 8):b8 (ub v)=v:=by
 apply BitVec.eq_of_toNat_eq
 unfold b8 ub
 rw[BitVec.toNat_ofInt]
 have:=v.isLt
 omega
theorem ub_b8 {x:Int}(h0:0≤x)(h1:x<256):ub (b8 x)=x:=by
 unfold b8 ub
 rw[BitVec.toNat_ofInt]
 omega
theorem ub_lt (v:BitVec 8):0≤ub v∧ub v<256:=by have:=v.isLt;unfold ub;omega
theorem wrap8 {x:Int}(h0:0≤x)(h1:x<256):IntKind.u8.wrap x=x:=by
 have:IntKind.u8.wrap x=x % 256:=rfl
 omega
theorem or8 (x y:Int):Go.bits .or .u8 x y=ub (b8 x ||| b8 y):=by
 show IntKind.u8.wrap _=_
 exact wrap8 (ub_lt _).1 (ub_lt _).2
theorem andNot8 (x y:Int):Go.bits .andNot .u8 x y=ub (b8 x &&& ~~~b8 y):=by
 show IntKind.u8.wrap _=_
 exact wrap8 (ub_lt _).1 (ub_lt _).2
theorem and8 (x y:Int):Go.bits .and .u8 x y=ub (b8 x &&& b8 y):=by
 show IntKind.u8.wrap _=_
 exact wrap8 (ub_lt _).1 (ub_lt _).2
namespace F
def mk (p n:Int)(i:Nat):Nat→Int
 |0=>0
 |k+1=>if decide (p≤8*(i:Int)+k)&&decide (8*(i:Int)+k<p+n) then Go.bits .or .u8 (mk p n i k) (IntKind.u8.wrap (1*2^min k 8)) else mk p n i k
theorem mk_1 {p n:Int}{i b:Nat}(h:decide (p≤8*(i:Int)+b)=false):mk p n i (b+1)=mk p n i b:=by rw[mk,h];rfl
theorem mk_2 {p n:Int}{i b:Nat}(h:decide (8*(i:Int)+b<p+n)=false):mk p n i (b+1)=mk p n i b:=by rw[mk,h,Bool.and_false];rfl
theorem mk_3 {p n:Int}{i b:Nat}(h:decide (p≤8*(i:Int)+b)=true)(k:decide (8*(i:Int)+b<p+n)=true):mk p n i (b+1)=Go.bits .or .u8 (mk p n i b) (IntKind.u8.wrap (1*2^min b 8)):=by rw[mk,h,k];rfl
def slot (s:Sl)(b:Int):Sl:=⟨false,Go.bits .or .u8 (set s) b,V.zero⟩
def tch (S:List Sl)(p n:Int)(a:Nat):Nat→List Sl
 |0=>S
 |j+1=>(tch S p n a j).set (a+j) (slot ((tch S p n a j).getD (a+j) noSl) (mk p n (a+j) 8))
def cnt (p n:Int):Nat:=((p+n+7).toNat / 8)-p.toNat / 8
def touch (f:Fr)(p n:Int):Fr:=⟨f.R,tch f.S p n (p.toNat / 8) (cnt p n),f.ids⟩
def rdy (S:List Sl)(p n:Int)(a:Nat):Nat→Bool
 |0=>true
 |j+1=>rdy S p n a j&&(Go.bits .andNot .u8 (mk p n (a+j) 8) (set (S.getD (a+j) noSl))==0)
def ready (f:Fr)(p n:Int):Bool:=rdy f.S p n (p.toNat / 8) (cnt p n)
theorem rdy_le {S:List Sl}{p n:Int}{a j:Nat}(h:rdy S p n a j=false):∀ k,j≤k→rdy S p n a k=false
 |0,hk=>by rw[Nat.le_zero.1 hk] at h;exact h
 |k+1,hk=>by
  rcases Nat.lt_or_ge j (k+1) with h1|h1
  . rw[rdy,rdy_le h k (by omega)];rfl
  . rw[← Nat.le_antisymm hk h1];exact h
theorem ready_no {f:Fr}{p n:Int}{j:Nat}(hj:j<cnt p n)(h:(Go.bits .andNot .u8 (mk p n (p.toNat / 8+j) 8) (set (f.S.getD (p.toNat / 8+j) noSl)) != 0)=true):ready f p n=false:=by
 refine rdy_le (j:=j+1) ?_ _ hj
 rw[rdy]
 have:(Go.bits .andNot .u8 (mk p n (p.toNat / 8+j) 8) (set (f.S.getD (p.toNat / 8+j) noSl))==0)=false:=by
  rw[bne,Bool.not_eq_true'] at h;exact h
 rw[this,Bool.and_false]
theorem rdy_go {S:List Sl}{p n:Int}{a j:Nat}(h:rdy S p n a j=true)(k:(Go.bits .andNot .u8 (mk p n (a+j) 8) (set (S.getD (a+j) noSl)) != 0)=false):rdy S p n a (j+1)=true:=by
 rw[rdy,h]
 rw[bne,Bool.not_eq_false'] at k
 rw[k];rfl
theorem ready_no' {f:Fr}{p n:Int}{j:Nat}(hj:j<cnt p n)(h:(Go.bits .andNot .u8 (mk p n (p.toNat / 8+j) 8) (set (f.S.getD (p.toNat / 8+j) noSl))==0)=false):ready f p n=false:=ready_no hj (by rw[bne,h];rfl)
theorem rdy_go' {S:List Sl}{p n:Int}{a j:Nat}(h:rdy S p n a j=true)(k:(Go.bits .andNot .u8 (mk p n (a+j) 8) (set (S.getD (a+j) noSl))==0)=true):rdy S p n a (j+1)=true:=rdy_go h (by rw[bne,k];rfl)
theorem tch_len (S:List Sl)(p n:Int)(a:Nat):∀ j,(tch S p n a j).length=S.length
 |0=>rfl
 |j+1=>by rw[tch,List.length_set,tch_len S p n a j]
theorem tch_in {S:List Sl}(h:(S.all fun s=>inA s.a)=true)(p n:Int)(a:Nat):∀ j,((tch S p n a j).all fun s=>inA s.a)=true
 |0=>h
 |j+1=>by
  have ih:=tch_in h p n a j
  rw[tch]
  rw[List.all_eq_true] at ih ⊢
  intro x hx
  rcases List.mem_or_eq_of_mem_set hx with hx|rfl
  . exact ih x hx
  . rfl
theorem touch_wf {f:Fr}(h:f.wf)(p n:Int):(touch f p n).wf:=⟨h.r,by show(tch ..).length=64;rw[tch_len];exact h.s,h.ri,tch_in h.si ..⟩
end F
namespace F
def within (off n:Int):Int×Bool:=if decide (off < -512)||(decide (0<off)||decide (IntKind.i64.wrap (0-off)<n)) then (0,false) else (IntKind.i64.wrap (512+off),true)
def inside (off n:Int):Bool:=decide (-512≤off)&&(decide (off≤0)&&decide (n≤IntKind.i64.wrap (0-off)))
theorem inside_eq (off n:Int):inside off n=(within off n).2:=by
 unfold inside within
 by_cases h1:off < -512
 . rw[decide_eq_true h1,decide_eq_false (by omega : ¬ (-512≤off))];rfl
 rw[decide_eq_false h1,decide_eq_true (by omega : -512≤off)]
 by_cases h2:0<off
 . rw[decide_eq_true h2,decide_eq_false (by omega : ¬ (off≤0))];rfl
 rw[decide_eq_false h2,decide_eq_true (by omega:off≤0)]
 by_cases h3:IntKind.i64.wrap (0-off)<n
 . rw[decide_eq_true h3,decide_eq_false (by omega : ¬ (n≤IntKind.i64.wrap (0-off)))];rfl
 . rw[decide_eq_false h3,decide_eq_true (by omega:n≤IntKind.i64.wrap (0-off))];rfl
def word (n:Int):Bool:=n==1||(n==2||(n==4||n==8))
end F
def k_fset:List SV→List Blk→Res:=fun args _=>match args with
 |[.agg [.bool w,.int .u8 st,.int .u8 ak,.u64 av,.u64 am,.u64 alo,.u64 ahi,.int .i64 asl,.int .i64 ash,.int .i64 aof,.int .i64 amp,.int .i64 aid,.int .i64 arm,.bool anu]]=>.ok (.int .u8 (F.set (⟨w,st,(⟨ak,(⟨⟨av,am⟩,⟨alo,ahi,asl,ash⟩⟩:Sc),aof,amp,aid,arm,anu⟩:Ab)⟩:Sl))) []
 |_=>.fail
theorem k_fset_ok:CtrOk Tryz.prog Gw 56 k_fset:=by
 refine⟨fun _ _=>by kernel_rfl,fun args M => ?_⟩
 unfold k_fset
 split
 . rename_i w st ak av am alo ahi asl ash aof amp aid arm anu
   refine ctr_flat (Γ:=⟨[],eqs,[],[],[],mixs,meqs,[]⟩) (sv:=.int .u8 (F.set (⟨w,st,(⟨ak,(⟨⟨av,am⟩,⟨alo,ahi,asl,ash⟩⟩:Sc),aof,amp,aid,arm,anu⟩:Ab)⟩:Sl))) st_Gw ⟨okNil,eqs_ok,okNilB,okNilI,okNilP,mixs_ok,meqs_ok,okNilY⟩ Tryz.func56 rfl mixed [] (by kernel_rfl) 10000 (by rfl) ?_
   (conv=>whnf)
   (repeat' (first | (refine step_t (by first|rfl|assumption) ?_;(conv=>whnf)) | (refine step_f (by first|rfl|assumption) ?_;(conv=>whnf)) | (refine step_nt (by assumption) ?_;(conv=>whnf)) | (refine step_nf (by assumption) ?_;(conv=>whnf)) | (refine step_n (fun hb => ?_) (fun hb => ?_)<;>(first|contradiction | (conv=>whnf))) | (refine And.intro (fun hb => ?_) (fun hb => ?_)<;>(first|contradiction | (conv=>whnf))) | (refine And.intro (a:=(_:Bool)=true) ?_ ?_;rotate_left 1;(conv=>whnf))))
   all_goals (first|rfl|trivial|assumption | (simp_all [eqv,eqv1,eqv2,eqvL1,eqvL2,F.set];done) | (simp_all [eqv,eqv1,eqv2,eqvL1,eqvL2,F.set];intros;omega))
 . trivial
def k_fwithin:List SV→List Blk→Res:=fun args _=>match args with
 |[.int .i64 off,.int .i64 n]=>.ok (.tup [.int .i64 (F.within off n).1,.bool (F.within off n).2]) []
 |_=>.fail
theorem k_fwithin_ok:CtrOk Tryz.prog Gw 42 k_fwithin:=by
 refine⟨fun _ _=>by kernel_rfl,fun args M => ?_⟩
 unfold k_fwithin
 split
 . rename_i off n
   refine ctr_flat (Γ:=⟨[],eqs,[],[],[],mixs,meqs,[]⟩) (sv:=.tup [.int .i64 (F.within off n).1,.bool (F.within off n).2]) st_Gw ⟨okNil,eqs_ok,okNilB,okNilI,okNilP,mixs_ok,meqs_ok,okNilY⟩ Tryz.func42 rfl mixed [] (by kernel_rfl) 10000 (by rfl) ?_
   (conv=>whnf)
   (repeat' (first | (refine step_t (by first|rfl|assumption) ?_;(conv=>whnf)) | (refine step_f (by first|rfl|assumption) ?_;(conv=>whnf)) | (refine step_nt (by assumption) ?_;(conv=>whnf)) | (refine step_nf (by assumption) ?_;(conv=>whnf)) | (refine step_n (fun hb => ?_) (fun hb => ?_)<;>(first|contradiction | (conv=>whnf))) | (refine And.intro (fun hb => ?_) (fun hb => ?_)<;>(first|contradiction | (conv=>whnf))) | (refine And.intro (a:=(_:Bool)=true) ?_ ?_;rotate_left 1;(conv=>whnf))))
   all_goals (first
    |(have e:F.within off n=(0,false):=by simp only[F.within, *,Bool.true_or,Bool.or_true,Bool.or_self,↓reduceIte]
      simp[e,eqv,eqv1,eqv2,eqvL1,eqvL2];done)
    |(have e:F.within off n=(IntKind.i64.wrap (512+off),true):=by simp only[F.within, *,Bool.true_or,Bool.or_true,Bool.or_self,Bool.false_eq_true,↓reduceIte]
      simp[e,eqv,eqv1,eqv2,eqvL1,eqvL2];done))
 . trivial
def k_fword:List SV→List Blk→Res:=fun args _=>match args with
 |[.int .i64 n]=>.ok (.bool (F.word n)) []
 |_=>.fail
theorem k_fword_ok:CtrOk Tryz.prog Gw 41 k_fword:=by
 refine⟨fun _ _=>by kernel_rfl,fun args M => ?_⟩
 unfold k_fword
 split
 . rename_i n
   refine ctr_flat (Γ:=⟨[],eqs,[],[],[],mixs,meqs,[]⟩) (sv:=.bool (F.word n)) st_Gw ⟨okNil,eqs_ok,okNilB,okNilI,okNilP,mixs_ok,meqs_ok,okNilY⟩ Tryz.func41 rfl mixed [] (by kernel_rfl) 10000 (by rfl) ?_
   (conv=>whnf)
   (repeat' (first | (refine step_t (by first|rfl|assumption) ?_;(conv=>whnf)) | (refine step_f (by first|rfl|assumption) ?_;(conv=>whnf)) | (refine step_nt (by assumption) ?_;(conv=>whnf)) | (refine step_nf (by assumption) ?_;(conv=>whnf)) | (refine step_n (fun hb => ?_) (fun hb => ?_)<;>(first|contradiction | (conv=>whnf))) | (refine And.intro (fun hb => ?_) (fun hb => ?_)<;>(first|contradiction | (conv=>whnf))) | (refine And.intro (a:=(_:Bool)=true) ?_ ?_;rotate_left 1;(conv=>whnf))))
   all_goals (first|rfl|trivial|assumption | (simp only[eqv,eqvL1,eqv1,eqv2,eqvL2,F.word, *,Bool.true_or,Bool.or_true,Bool.or_self,Bool.false_or,Bool.or_false,if_true,if_false,ite_true,ite_false];done) | (simp only[F.word, *];rfl))
 . trivial
end Go.Proofs.YtfjemlegodhfnaaGreat
