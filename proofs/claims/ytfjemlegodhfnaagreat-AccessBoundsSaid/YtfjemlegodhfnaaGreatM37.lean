import Derived.Test.YtfjemlegodhfnaaGreatM36
set_option linter.all false
namespace Go.Proofs.YtfjemlegodhfnaaGreat
open Go.RowKit Go.Sx
set_option maxRecDepth 100000
set_option maxHeartbeats 4000000
theorem ft_of {p n:Int}(h:(decide (0≤p)&&(decide (1≤n)&&(decide (n≤512)&&decide (p+n≤512))))=true):0≤p∧1≤n∧n≤512∧p+n≤512:=by
 simp only[Bool.and_eq_true,decide_eq_true_eq] at h;exact h
theorem quo8 {p:Int}(h0:0≤p)(h1:p≤512):IntKind.i64.wrap (p.tdiv 8)=((p.toNat / 8:Nat):Int):=by
 have h:p.tdiv 8=((p.toNat / 8:Nat):Int):=by
  rw[Int.tdiv_eq_ediv_of_nonneg h0];omega
 rw[h,i64_of (by omega) (by omega)]
theorem cnt_le {p n:Int}(hp:0≤p)(hn:1≤n)(hb:p+n≤512){j:Nat}(h:j≤F.cnt p n):p.toNat / 8+j≤64:=by unfold F.cnt at h;omega
theorem cnt_lt {p n:Int}(hp:0≤p)(hn:1≤n){j:Nat}(h:8*((p.toNat / 8+j:Nat):Int)<p+n):j<F.cnt p n:=by unfold F.cnt;omega
theorem cnt_ge {p n:Int}(hp:0≤p)(hn:1≤n){j:Nat}(hj:j≤F.cnt p n)(h : ¬ 8*((p.toNat / 8+j:Nat):Int)<p+n):j=F.cnt p n:=by unfold F.cnt at *;omega
theorem touch_run (f:Fr)(hf:f.wf)(p n:Int)(hp:0≤p)(hn:1≤n)(h8:n≤512)(hpn:p+n≤512):run Tryz.prog ⟨[(56,k_fset)],eqs,[],[(55,Tryz.f55,[]),(84,Tryz.f84,[])],[],mixs,meqs,[]⟩ 10000 [] 0 (bodyOf Tryz.f51) (initF Tryz.f51 [frv f,.int .i64 p,.int .i64 n]) [] (retK Tryz.prog Tryz.f51 fun x _=>eqv x (frv (F.touch f p n))):=by
 (conv=>whnf)
 (repeat' (first | (refine step_t (by first|rfl|assumption) ?_;(conv=>whnf)) | (refine step_f (by first|rfl|assumption) ?_;(conv=>whnf)) | (refine step_nt (by assumption) ?_;(conv=>whnf)) | (refine step_nf (by assumption) ?_;(conv=>whnf)) | (refine step_n (fun hb => ?_) (fun hb => ?_)<;>(first|contradiction | (conv=>whnf))) | (refine And.intro (fun hb => ?_) (fun hb => ?_)<;>(first|contradiction | (conv=>whnf))) | (refine And.intro ?_ ?_;rotate_left 1;(conv=>whnf))))
 any_goals (exact(rfl:((8:Int) != 0)=true))
 refine .inr ⟨[],[0,1,2,4],fun k vals M=>∃ j:Nat,j≤F.cnt p n∧k=F.cnt p n-j∧vals=[.yld 4,.ptr 2 0,.ptr 3 0,.int .i64 ((p.toNat / 8+j:Nat):Int)]∧M=[.mix 37 [.arr 11 12 (gOf eA f.R),.arr 64 14 (gOf eS (F.tch f.S p n (p.toNat / 8) j)),.int .i64 f.ids],.mix 37 [.arr 11 12 (fun _=>[.int .u8 0,.u64 (BitVec.ofInt 64 0),.u64 (BitVec.ofInt 64 0),.u64 (BitVec.ofInt 64 0),.u64 (BitVec.ofInt 64 0),.int .i64 0,.int .i64 0,.int .i64 0,.int .i64 0,.int .i64 0,.int .i64 0,.bool false]),.arr 64 14 (fun _=>.bool false :: .int .u8 0::[.int .u8 0,.u64 (BitVec.ofInt 64 0),.u64 (BitVec.ofInt 64 0),.u64 (BitVec.ofInt 64 0),.u64 (BitVec.ofInt 64 0),.int .i64 0,.int .i64 0,.int .i64 0,.int .i64 0,.int .i64 0,.int .i64 0,.bool false]),.int .i64 0],.cells 3 [.int .i64 p],.cells 3 [.int .i64 n],lpOf [] (bodyOf Tryz.f51) [frv f,.int .i64 p,.int .i64 n,.ptr 0 0,.tup [],.tup [],.ptr 1 0,.tup [],.tup [],.int .i64 p,.int .i64 n,.fn (.func 84) [] [.ptr 2 0,.ptr 3 0],.tup [],.tup [],.tup [],.tup [],.tup [],.tup [],.tup [],.tup [],.tup [],.tup [],.tup [],.tup [],.tup [],.tup []]],?_⟩
 conv=>whnf
 refine And.intro ⟨F.cnt p n,[.mix 37 [.arr 11 12 (gOf eA f.R),.arr 64 14 (gOf eS f.S),.int .i64 f.ids],.mix 37 [.arr 11 12 (fun _=>[.int .u8 0,.u64 (BitVec.ofInt 64 0),.u64 (BitVec.ofInt 64 0),.u64 (BitVec.ofInt 64 0),.u64 (BitVec.ofInt 64 0),.int .i64 0,.int .i64 0,.int .i64 0,.int .i64 0,.int .i64 0,.int .i64 0,.bool false]),.arr 64 14 (fun _=>.bool false :: .int .u8 0::[.int .u8 0,.u64 (BitVec.ofInt 64 0),.u64 (BitVec.ofInt 64 0),.u64 (BitVec.ofInt 64 0),.u64 (BitVec.ofInt 64 0),.int .i64 0,.int .i64 0,.int .i64 0,.int .i64 0,.int .i64 0,.int .i64 0,.bool false]),.int .i64 0],.cells 3 [.int .i64 p],.cells 3 [.int .i64 n],lpOf [] (bodyOf Tryz.f51) [frv f,.int .i64 p,.int .i64 n,.ptr 0 0,.tup [],.tup [],.ptr 1 0,.tup [],.tup [],.int .i64 p,.int .i64 n,.fn (.func 84) [] [.ptr 2 0,.ptr 3 0],.tup [],.tup [],.tup [],.tup [],.tup [],.tup [],.tup [],.tup [],.tup [],.tup [],.tup [],.tup [],.tup [],.tup []]],mle_cons ble_refl (mle_cons ble_refl (mle_cons ble_refl (mle_cons ble_refl (mle_cons ble_refl mle_nil)))),rfl,rfl,0,by omega,by omega,?_,rfl⟩ ?_
 . show[SV.yld 4,.ptr 2 0,.ptr 3 0,.int .i64 (IntKind.i64.wrap (p.tdiv 8))]=_
   rw[quo8 hp (by omega)];rfl
 rintro k vals M1 ⟨j,hj,rfl,rfl,rfl⟩
 have hj64:=cnt_le hp hn hpn hj
 have e1:IntKind.i64.wrap (((p.toNat / 8+j:Nat):Int)*8)=8*((p.toNat / 8+j:Nat):Int):=by rw[i64_of (by omega) (by omega)];omega
 have e3:IntKind.i64.wrap (p+n)=p+n:=i64_of (by omega) (by omega)
 (conv=>whnf)
 (repeat' (first | (refine step_t (by first|rfl|assumption) ?_;(conv=>whnf)) | (refine step_f (by first|rfl|assumption) ?_;(conv=>whnf)) | (refine step_nt (by assumption) ?_;(conv=>whnf)) | (refine step_nf (by assumption) ?_;(conv=>whnf)) | (refine step_n (fun hb => ?_) (fun hb => ?_)<;>(first|contradiction | (conv=>whnf))) | (refine And.intro (fun hb => ?_) (fun hb => ?_)<;>(first|contradiction | (conv=>whnf))) | (refine And.intro ?_ ?_;rotate_left 1;(conv=>whnf))))
 . rw[e1,e3] at hb
   have hlt:=of_decide_eq_true hb
   have hjlt:=cnt_lt hp hn hlt
   have hj63:=cnt_le hp hn hpn hjlt
   refine .inr ⟨[],[0,1,2,4,5,18],fun k vals M=>∃ b:Nat,b≤8∧k=8-b∧vals=[.yld 4,.ptr 2 0,.ptr 3 0,.int .i64 ((p.toNat / 8+j:Nat):Int),.int .u8 (F.mk p n (p.toNat / 8+j) b),.int .i64 (b:Int)]∧M=[.mix 37 [.arr 11 12 (gOf eA f.R),.arr 64 14 (gOf eS (F.tch f.S p n (p.toNat / 8) j)),.int .i64 f.ids],.mix 37 [.arr 11 12 (fun _=>[.int .u8 0,.u64 (BitVec.ofInt 64 0),.u64 (BitVec.ofInt 64 0),.u64 (BitVec.ofInt 64 0),.u64 (BitVec.ofInt 64 0),.int .i64 0,.int .i64 0,.int .i64 0,.int .i64 0,.int .i64 0,.int .i64 0,.bool false]),.arr 64 14 (fun _=>.bool false :: .int .u8 0::[.int .u8 0,.u64 (BitVec.ofInt 64 0),.u64 (BitVec.ofInt 64 0),.u64 (BitVec.ofInt 64 0),.u64 (BitVec.ofInt 64 0),.int .i64 0,.int .i64 0,.int .i64 0,.int .i64 0,.int .i64 0,.int .i64 0,.bool false]),.int .i64 0],.cells 3 [.int .i64 p],.cells 3 [.int .i64 n],lpOf [] (bodyOf Tryz.f51) [frv f,.int .i64 p,.int .i64 n,.ptr 0 0,.tup [],.tup [],.ptr 1 0,.tup [],.tup [],.int .i64 p,.int .i64 n,.fn (.func 84) [] [.ptr 2 0,.ptr 3 0],.tup [],.tup [],.tup [],.tup [],.tup [],.tup [],.tup [],.tup [],.tup [],.tup [],.tup [],.tup [],.tup [],.tup []]],?_⟩
   conv=>whnf
   refine And.intro ⟨8,[.mix 37 [.arr 11 12 (gOf eA f.R),.arr 64 14 (gOf eS (F.tch f.S p n (p.toNat / 8) j)),.int .i64 f.ids],.mix 37 [.arr 11 12 (fun _=>[.int .u8 0,.u64 (BitVec.ofInt 64 0),.u64 (BitVec.ofInt 64 0),.u64 (BitVec.ofInt 64 0),.u64 (BitVec.ofInt 64 0),.int .i64 0,.int .i64 0,.int .i64 0,.int .i64 0,.int .i64 0,.int .i64 0,.bool false]),.arr 64 14 (fun _=>.bool false :: .int .u8 0::[.int .u8 0,.u64 (BitVec.ofInt 64 0),.u64 (BitVec.ofInt 64 0),.u64 (BitVec.ofInt 64 0),.u64 (BitVec.ofInt 64 0),.int .i64 0,.int .i64 0,.int .i64 0,.int .i64 0,.int .i64 0,.int .i64 0,.bool false]),.int .i64 0],.cells 3 [.int .i64 p],.cells 3 [.int .i64 n],lpOf [] (bodyOf Tryz.f51) [frv f,.int .i64 p,.int .i64 n,.ptr 0 0,.tup [],.tup [],.ptr 1 0,.tup [],.tup [],.int .i64 p,.int .i64 n,.fn (.func 84) [] [.ptr 2 0,.ptr 3 0],.tup [],.tup [],.tup [],.tup [],.tup [],.tup [],.tup [],.tup [],.tup [],.tup [],.tup [],.tup [],.tup [],.tup []]],mle_cons ble_refl (mle_cons ble_refl (mle_cons ble_refl (mle_cons ble_refl (mle_cons ble_refl mle_nil)))),rfl,rfl,0,by omega,by omega,rfl,rfl⟩ ?_
   rintro k vals M1 ⟨b,hb8,rfl,rfl,rfl⟩
   have e2:IntKind.i64.wrap (8*((p.toNat / 8+j:Nat):Int))=8*((p.toNat / 8+j:Nat):Int):=i64_of (by omega) (by omega)
   have e4:IntKind.i64.wrap (8*((p.toNat / 8+j:Nat):Int)+(b:Int))=8*((p.toNat / 8+j:Nat):Int)+(b:Int):=i64_of (by omega) (by omega)
   (conv=>whnf)
   (repeat' (first | (refine step_t (by first|rfl|assumption) ?_;(conv=>whnf)) | (refine step_f (by first|rfl|assumption) ?_;(conv=>whnf)) | (refine step_nt (by assumption) ?_;(conv=>whnf)) | (refine step_nf (by assumption) ?_;(conv=>whnf)) | (refine step_n (fun hb => ?_) (fun hb => ?_)<;>(first|contradiction | (conv=>whnf))) | (refine And.intro (fun hb => ?_) (fun hb => ?_)<;>(first|contradiction | (conv=>whnf))) | (refine And.intro ?_ ?_;rotate_left 1;(conv=>whnf))))
   all_goals (simp only[Int.toNat_natCast,e2,e4,e3] at *)
   all_goals try first
    |(refine decide_eq_true ?_;omega)
    |(rw[Bool.and_eq_true];exact⟨decide_eq_true (by omega),decide_eq_true (by omega)⟩)
    |rfl
    |(have hlt8:b<8:=by
       have h9:decide ((b:Int)<8)=true:=by assumption
       have:=of_decide_eq_true h9
       omega
      refine⟨8 - (b+1),[.mix 37 [.arr 11 12 (gOf eA f.R),.arr 64 14 (gOf eS (F.tch f.S p n (p.toNat / 8) j)),.int .i64 f.ids],.mix 37 [.arr 11 12 (fun _=>[.int .u8 0,.u64 (BitVec.ofInt 64 0),.u64 (BitVec.ofInt 64 0),.u64 (BitVec.ofInt 64 0),.u64 (BitVec.ofInt 64 0),.int .i64 0,.int .i64 0,.int .i64 0,.int .i64 0,.int .i64 0,.int .i64 0,.bool false]),.arr 64 14 (fun _=>.bool false :: .int .u8 0::[.int .u8 0,.u64 (BitVec.ofInt 64 0),.u64 (BitVec.ofInt 64 0),.u64 (BitVec.ofInt 64 0),.u64 (BitVec.ofInt 64 0),.int .i64 0,.int .i64 0,.int .i64 0,.int .i64 0,.int .i64 0,.int .i64 0,.bool false]),.int .i64 0],.cells 3 [.int .i64 p],.cells 3 [.int .i64 n],lpOf [] (bodyOf Tryz.f51) [frv f,.int .i64 p,.int .i64 n,.ptr 0 0,.tup [],.tup [],.ptr 1 0,.tup [],.tup [],.int .i64 p,.int .i64 n,.fn (.func 84) [] [.ptr 2 0,.ptr 3 0],.tup [],.tup [],.tup [],.tup [],.tup [],.tup [],.tup [],.tup [],.tup [],.tup [],.tup [],.tup [],.tup [],.tup []]],[0,1,2,3,4],by omega,rfl,mle_cons ble_refl (mle_cons ble_refl (mle_cons ble_refl (mle_cons ble_refl (mle_cons ble_refl mle_nil)))),rfl,rfl,b+1,by omega,rfl,?_,rfl⟩
      have e5:IntKind.i64.wrap ((b:Int)+1)=((b+1:Nat):Int):=i64_of (by omega) (by omega)
      first
      |rw[F.mk_1 (by assumption),← e5];rfl
      |rw[F.mk_2 (by assumption),← e5];rfl
      |rw[F.mk_3 (by assumption) (by assumption),← e5];rfl)
   have hb8':b=8:=by
    have h9:decide ((b:Int)<8)=false:=by assumption
    have:=of_decide_eq_false h9
    omega
   subst hb8'
   have hlen:(F.tch f.S p n (p.toNat / 8) j).length=64:=by rw[F.tch_len];exact hf.s
   refine⟨F.cnt p n - (j+1),[.mix 37 [.arr 11 12 (gOf eA f.R),.arr 64 14 (gOf eS (F.tch f.S p n (p.toNat / 8) (j+1))),.int .i64 f.ids],.mix 37 [.arr 11 12 (fun _=>[.int .u8 0,.u64 (BitVec.ofInt 64 0),.u64 (BitVec.ofInt 64 0),.u64 (BitVec.ofInt 64 0),.u64 (BitVec.ofInt 64 0),.int .i64 0,.int .i64 0,.int .i64 0,.int .i64 0,.int .i64 0,.int .i64 0,.bool false]),.arr 64 14 (fun _=>.bool false :: .int .u8 0::[.int .u8 0,.u64 (BitVec.ofInt 64 0),.u64 (BitVec.ofInt 64 0),.u64 (BitVec.ofInt 64 0),.u64 (BitVec.ofInt 64 0),.int .i64 0,.int .i64 0,.int .i64 0,.int .i64 0,.int .i64 0,.int .i64 0,.bool false]),.int .i64 0],.cells 3 [.int .i64 p],.cells 3 [.int .i64 n],lpOf [] (bodyOf Tryz.f51) [frv f,.int .i64 p,.int .i64 n,.ptr 0 0,.tup [],.tup [],.ptr 1 0,.tup [],.tup [],.int .i64 p,.int .i64 n,.fn (.func 84) [] [.ptr 2 0,.ptr 3 0],.tup [],.tup [],.tup [],.tup [],.tup [],.tup [],.tup [],.tup [],.tup [],.tup [],.tup [],.tup [],.tup [],.tup []]],[0,1,2,3,4],by omega,rfl,mle_cons (ble_mix ⟨⟨rfl,rfl,fun _ _=>rfl⟩,⟨rfl,rfl,fun k hk => ?_⟩,rfl,trivial⟩) (mle_cons ble_refl (mle_cons ble_refl (mle_cons ble_refl (mle_cons ble_refl mle_nil)))),rfl,rfl,j+1,by omega,rfl,?_,rfl⟩
   . symm
     exact gSet_gOf eS (L:=F.tch f.S p n (p.toNat / 8) j) (i:=p.toNat / 8+j) (a:=F.slot ((F.tch f.S p n (p.toNat / 8) j).getD (p.toNat / 8+j) eS.dft) (F.mk p n (p.toNat / 8+j) 8)) (by rw[hlen];omega) rfl rfl k (by rw[hlen];exact hk)
   . show[SV.yld 4,.ptr 2 0,.ptr 3 0,.int .i64 (IntKind.i64.wrap (((p.toNat / 8+j:Nat):Int)+1))]=_
     rw[i64_of (n:=((p.toNat / 8+j:Nat):Int)+1) (by omega) (by omega)];rfl
 all_goals (
  first
  |rfl
  |trivial
  |(intro i _;rfl)
  |(rw[e1,e3] at hb
    have hjc:=cnt_ge hp hn hj (of_decide_eq_false hb)
    intro i _
    show _=gOf eS (F.tch f.S p n (p.toNat / 8) (F.cnt p n)) i
    rw[← hjc];done))
def k_ftouch:List SV→List Blk→Res:=fun args _=>match args with
 |[.mix [.arr 11 12 g,.arr 64 14 h,.int .i64 ids],.int .i64 p,.int .i64 n]=>.test ((frB g h&&(decide (0≤p)&&(decide (1≤n)&&(decide (n≤512)&&decide (p+n≤512)))))) (.ok (frv (F.touch (frD g h ids) p n)) [])
 |_=>.fail
theorem k_ftouch_ok:CtrOk Tryz.prog Gw 51 k_ftouch:=by
 refine⟨fun _ _=>by kernel_rfl,fun args M => ?_⟩
 unfold k_ftouch
 split
 . rename_i g h ids p n
   intro ht
   rw[Bool.and_eq_true] at ht
   obtain⟨hfr,ht⟩:=ht
   exact ctr_fr (Γ:=⟨[(56,k_fset)],eqs,[],[(55,Tryz.f55,[]),(84,Tryz.f84,[])],[],mixs,meqs,[]⟩) (sv:=frv (F.touch (frD g h ids) p n)) st_Gw ⟨(okCons k_fset_ok okNil),eqs_ok,okNilB,(okConsI Tryz.func55 rfl (by kernel_rfl) (fun _ _=>by kernel_rfl) (okConsI Tryz.func84 rfl (by kernel_rfl) (fun _ _=>by kernel_rfl) okNilI)),okNilP,mixs_ok,meqs_ok,okNilY⟩ Tryz.func51 rfl mixed [] (by kernel_rfl) 10000 (rest:=[.int .i64 p,.int .i64 n]) hfr rfl (touch_run _ (frD_wf hfr) p n (ft_of ht).1 (ft_of ht).2.1 (ft_of ht).2.2.1 (ft_of ht).2.2.2)
 . trivial
theorem ready_run (f:Fr)(hf:f.wf)(p n:Int)(hp:0≤p)(hn:1≤n)(h8:n≤512)(hpn:p+n≤512):run Tryz.prog ⟨[(56,k_fset)],eqs,[],[(55,Tryz.f55,[]),(84,Tryz.f84,[])],[],mixs,meqs,[]⟩ 10000 [] 0 (bodyOf Tryz.f43) (initF Tryz.f43 [frv f,.int .i64 p,.int .i64 n]) [] (retK Tryz.prog Tryz.f43 fun x _=>eqv x (.bool (F.ready f p n))):=by
 (conv=>whnf)
 (repeat' (first | (refine step_t (by first|rfl|assumption) ?_;(conv=>whnf)) | (refine step_f (by first|rfl|assumption) ?_;(conv=>whnf)) | (refine step_nt (by assumption) ?_;(conv=>whnf)) | (refine step_nf (by assumption) ?_;(conv=>whnf)) | (refine step_n (fun hb => ?_) (fun hb => ?_)<;>(first|contradiction | (conv=>whnf))) | (refine And.intro (fun hb => ?_) (fun hb => ?_)<;>(first|contradiction | (conv=>whnf))) | (refine And.intro ?_ ?_;rotate_left 1;(conv=>whnf))))
 any_goals (exact(rfl:((8:Int) != 0)=true))
 refine .inr ⟨[],[0,1,2,4],fun k vals M=>∃ j:Nat,j≤F.cnt p n∧k=F.cnt p n-j∧F.rdy f.S p n (p.toNat / 8) j=true∧vals=[.yld 4,.ptr 2 0,.ptr 3 0,.int .i64 ((p.toNat / 8+j:Nat):Int)]∧M=[.mix 37 [.arr 11 12 (gOf eA f.R),.arr 64 14 (gOf eS f.S),.int .i64 f.ids],.cells 4 [.ff],.cells 3 [.int .i64 p],.cells 3 [.int .i64 n],lpOf [] (bodyOf Tryz.f43) [frv f,.int .i64 p,.int .i64 n,.ptr 0 0,.tup [],.tup [],.ptr 1 0,.tup [],.tup [],.int .i64 p,.int .i64 n,.fn (.func 84) [] [.ptr 2 0,.ptr 3 0],.tup [],.tup [],.tup [],.tup [],.tup [],.tup [],.tup [],.tup [],.tup [],.tup []]],?_⟩
 conv=>whnf
 refine And.intro ⟨F.cnt p n,[.mix 37 [.arr 11 12 (gOf eA f.R),.arr 64 14 (gOf eS f.S),.int .i64 f.ids],.cells 4 [.ff],.cells 3 [.int .i64 p],.cells 3 [.int .i64 n],lpOf [] (bodyOf Tryz.f43) [frv f,.int .i64 p,.int .i64 n,.ptr 0 0,.tup [],.tup [],.ptr 1 0,.tup [],.tup [],.int .i64 p,.int .i64 n,.fn (.func 84) [] [.ptr 2 0,.ptr 3 0],.tup [],.tup [],.tup [],.tup [],.tup [],.tup [],.tup [],.tup [],.tup [],.tup []]],mle_cons ble_refl (mle_cons ble_refl (mle_cons ble_refl (mle_cons ble_refl (mle_cons ble_refl mle_nil)))),rfl,rfl,0,by omega,by omega,rfl,?_,rfl⟩ ?_
 . show[SV.yld 4,.ptr 2 0,.ptr 3 0,.int .i64 (IntKind.i64.wrap (p.tdiv 8))]=_
   rw[quo8 hp (by omega)];rfl
 rintro k vals M1 ⟨j,hj,rfl,hrd,rfl,rfl⟩
 have hj64:=cnt_le hp hn hpn hj
 have e1:IntKind.i64.wrap (((p.toNat / 8+j:Nat):Int)*8)=8*((p.toNat / 8+j:Nat):Int):=by rw[i64_of (by omega) (by omega)];omega
 have e3:IntKind.i64.wrap (p+n)=p+n:=i64_of (by omega) (by omega)
 (conv=>whnf)
 (repeat' (first | (refine step_t (by first|rfl|assumption) ?_;(conv=>whnf)) | (refine step_f (by first|rfl|assumption) ?_;(conv=>whnf)) | (refine step_nt (by assumption) ?_;(conv=>whnf)) | (refine step_nf (by assumption) ?_;(conv=>whnf)) | (refine step_n (fun hb => ?_) (fun hb => ?_)<;>(first|contradiction | (conv=>whnf))) | (refine And.intro (fun hb => ?_) (fun hb => ?_)<;>(first|contradiction | (conv=>whnf))) | (refine And.intro ?_ ?_;rotate_left 1;(conv=>whnf))))
 . rw[e1,e3] at hb
   have hlt:=of_decide_eq_true hb
   have hjlt:=cnt_lt hp hn hlt
   have hj63:=cnt_le hp hn hpn hjlt
   refine .inr ⟨[],[0,1,2,4,5,18],fun k vals M=>∃ b:Nat,b≤8∧k=8-b∧vals=[.yld 4,.ptr 2 0,.ptr 3 0,.int .i64 ((p.toNat / 8+j:Nat):Int),.int .u8 (F.mk p n (p.toNat / 8+j) b),.int .i64 (b:Int)]∧M=[.mix 37 [.arr 11 12 (gOf eA f.R),.arr 64 14 (gOf eS f.S),.int .i64 f.ids],.cells 4 [.ff],.cells 3 [.int .i64 p],.cells 3 [.int .i64 n],lpOf [] (bodyOf Tryz.f43) [frv f,.int .i64 p,.int .i64 n,.ptr 0 0,.tup [],.tup [],.ptr 1 0,.tup [],.tup [],.int .i64 p,.int .i64 n,.fn (.func 84) [] [.ptr 2 0,.ptr 3 0],.tup [],.tup [],.tup [],.tup [],.tup [],.tup [],.tup [],.tup [],.tup [],.tup []]],?_⟩
   conv=>whnf
   refine And.intro ⟨8,[.mix 37 [.arr 11 12 (gOf eA f.R),.arr 64 14 (gOf eS f.S),.int .i64 f.ids],.cells 4 [.ff],.cells 3 [.int .i64 p],.cells 3 [.int .i64 n],lpOf [] (bodyOf Tryz.f43) [frv f,.int .i64 p,.int .i64 n,.ptr 0 0,.tup [],.tup [],.ptr 1 0,.tup [],.tup [],.int .i64 p,.int .i64 n,.fn (.func 84) [] [.ptr 2 0,.ptr 3 0],.tup [],.tup [],.tup [],.tup [],.tup [],.tup [],.tup [],.tup [],.tup [],.tup []]],mle_cons ble_refl (mle_cons ble_refl (mle_cons ble_refl (mle_cons ble_refl (mle_cons ble_refl mle_nil)))),rfl,rfl,0,by omega,by omega,rfl,rfl⟩ ?_
   rintro k vals M1 ⟨b,hb8,rfl,rfl,rfl⟩
   have e2:IntKind.i64.wrap (8*((p.toNat / 8+j:Nat):Int))=8*((p.toNat / 8+j:Nat):Int):=i64_of (by omega) (by omega)
   have e4:IntKind.i64.wrap (8*((p.toNat / 8+j:Nat):Int)+(b:Int))=8*((p.toNat / 8+j:Nat):Int)+(b:Int):=i64_of (by omega) (by omega)
   (conv=>whnf)
   (repeat' (first | (refine step_t (by first|rfl|assumption) ?_;(conv=>whnf)) | (refine step_f (by first|rfl|assumption) ?_;(conv=>whnf)) | (refine step_nt (by assumption) ?_;(conv=>whnf)) | (refine step_nf (by assumption) ?_;(conv=>whnf)) | (refine step_n (fun hb => ?_) (fun hb => ?_)<;>(first|contradiction | (conv=>whnf))) | (refine And.intro (fun hb => ?_) (fun hb => ?_)<;>(first|contradiction | (conv=>whnf))) | (refine And.intro ?_ ?_;rotate_left 1;(conv=>whnf))))
   all_goals (simp only[Int.toNat_natCast,e2,e4,e3] at *)
   all_goals try first
    |(refine decide_eq_true ?_;omega)
    |(rw[Bool.and_eq_true];exact⟨decide_eq_true (by omega),decide_eq_true (by omega)⟩)
    |rfl
    |(have hlt8:b<8:=by
       have h9:decide ((b:Int)<8)=true:=by assumption
       have:=of_decide_eq_true h9
       omega
      refine⟨8 - (b+1),[.mix 37 [.arr 11 12 (gOf eA f.R),.arr 64 14 (gOf eS f.S),.int .i64 f.ids],.cells 4 [.ff],.cells 3 [.int .i64 p],.cells 3 [.int .i64 n],lpOf [] (bodyOf Tryz.f43) [frv f,.int .i64 p,.int .i64 n,.ptr 0 0,.tup [],.tup [],.ptr 1 0,.tup [],.tup [],.int .i64 p,.int .i64 n,.fn (.func 84) [] [.ptr 2 0,.ptr 3 0],.tup [],.tup [],.tup [],.tup [],.tup [],.tup [],.tup [],.tup [],.tup [],.tup []]],[0,1,2,3,4],by omega,rfl,mle_cons ble_refl (mle_cons ble_refl (mle_cons ble_refl (mle_cons ble_refl (mle_cons ble_refl mle_nil)))),rfl,rfl,b+1,by omega,rfl,?_,rfl⟩
      have e5:IntKind.i64.wrap ((b:Int)+1)=((b+1:Nat):Int):=i64_of (by omega) (by omega)
      first
      |rw[F.mk_1 (by assumption),← e5];rfl
      |rw[F.mk_2 (by assumption),← e5];rfl
      |rw[F.mk_3 (by assumption) (by assumption),← e5];rfl)
   all_goals (
    have hb8':b=8:=by
      have h9:decide ((b:Int)<8)=false:=by assumption
      have:=of_decide_eq_false h9
      omega
    subst hb8'
    first
    |exact(F.ready_no hjlt (by assumption)).symm
    |exact F.ready_no hjlt (by assumption)
    |exact(F.ready_no' hjlt (by assumption)).symm
    |exact F.ready_no' hjlt (by assumption)
    |(refine⟨F.cnt p n - (j+1),[.mix 37 [.arr 11 12 (gOf eA f.R),.arr 64 14 (gOf eS f.S),.int .i64 f.ids],.cells 4 [.ff],.cells 3 [.int .i64 p],.cells 3 [.int .i64 n],lpOf [] (bodyOf Tryz.f43) [frv f,.int .i64 p,.int .i64 n,.ptr 0 0,.tup [],.tup [],.ptr 1 0,.tup [],.tup [],.int .i64 p,.int .i64 n,.fn (.func 84) [] [.ptr 2 0,.ptr 3 0],.tup [],.tup [],.tup [],.tup [],.tup [],.tup [],.tup [],.tup [],.tup [],.tup []]],[0,1,2,3,4],by omega,rfl,mle_cons ble_refl (mle_cons ble_refl (mle_cons ble_refl (mle_cons ble_refl (mle_cons ble_refl mle_nil)))),rfl,rfl,j+1,by omega,rfl,(by first|exact F.rdy_go hrd (by assumption)|exact F.rdy_go' hrd (by assumption)),?_,rfl⟩
      show[SV.yld 4,.ptr 2 0,.ptr 3 0,.int .i64 (IntKind.i64.wrap (((p.toNat / 8+j:Nat):Int)+1))]=_
      rw[i64_of (n:=((p.toNat / 8+j:Nat):Int)+1) (by omega) (by omega)];rfl))
 all_goals (
  first
  |rfl
  |trivial
  |(rw[e1,e3] at hb
    have hjc:=cnt_ge hp hn hj (of_decide_eq_false hb)
    have hr:F.ready f p n=true:=by
     show F.rdy f.S p n (p.toNat / 8) (F.cnt p n)=true
     rw[← hjc];exact hrd
    first|exact hr|exact hr.symm))
def k_fready:List SV→List Blk→Res:=fun args _=>match args with
 |[.mix [.arr 11 12 g,.arr 64 14 h,.int .i64 ids],.int .i64 p,.int .i64 n]=>.test ((frB g h&&(decide (0≤p)&&(decide (1≤n)&&(decide (n≤512)&&decide (p+n≤512)))))) (.ok (.bool (F.ready (frD g h ids) p n)) [])
 |_=>.fail
theorem k_fready_ok:CtrOk Tryz.prog Gw 43 k_fready:=by
 refine⟨fun _ _=>by kernel_rfl,fun args M => ?_⟩
 unfold k_fready
 split
 . rename_i g h ids p n
   intro ht
   rw[Bool.and_eq_true] at ht
   obtain⟨hfr,ht⟩:=ht
   exact ctr_fr (Γ:=⟨[(56,k_fset)],eqs,[],[(55,Tryz.f55,[]),(84,Tryz.f84,[])],[],mixs,meqs,[]⟩) (sv:=.bool (F.ready (frD g h ids) p n)) st_Gw ⟨(okCons k_fset_ok okNil),eqs_ok,okNilB,(okConsI Tryz.func55 rfl (by kernel_rfl) (fun _ _=>by kernel_rfl) (okConsI Tryz.func84 rfl (by kernel_rfl) (fun _ _=>by kernel_rfl) okNilI)),okNilP,mixs_ok,meqs_ok,okNilY⟩ Tryz.func43 rfl mixed [] (by kernel_rfl) 10000 (rest:=[.int .i64 p,.int .i64 n]) hfr rfl (ready_run _ (frD_wf hfr) p n (ft_of ht).1 (ft_of ht).2.1 (ft_of ht).2.2.1 (ft_of ht).2.2.2)
 . trivial
end Go.Proofs.YtfjemlegodhfnaaGreat
