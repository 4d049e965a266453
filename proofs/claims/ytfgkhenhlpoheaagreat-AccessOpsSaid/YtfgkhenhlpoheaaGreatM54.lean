import Derived.Test.YtfgkhenhlpoheaaGreatM10
import Derived.Test.YtfgkhenhlpoheaaGreatM53
set_option linter.all false
namespace Go.Proofs.YtfgkhenhlpoheaaGreat
open Go.RowKit Go.Sx
set_option maxRecDepth 100000
set_option maxHeartbeats 4000000
def LL:List Ab:=[⟨0,V.zs,0,0,0,0,false⟩,⟨1,C.const (BitVec.ofInt 64 0),0,0,0,0,false⟩,⟨2,V.zs, -8,0,0,0,false⟩,⟨2,V.zs, -512,0,0,0,false⟩,⟨2,V.zs,0,0,0,0,false⟩,⟨3,V.zs,0,0,0,0,false⟩,⟨3,V.zs,16,0,0,0,false⟩,⟨4,C.const (BitVec.ofInt 64 0),0,0,0,8,false⟩,⟨5,V.zs,0,0,0,0,false⟩,⟨6,V.zs,0,0,0,0,false⟩,⟨7,C.const (BitVec.ofInt 64 0),0,0,0,0,false⟩,⟨7,C.const (BitVec.ofInt 64 0),9,0,0,0,false⟩,⟨7,C.const (BitVec.ofInt 64 0),0,0,1,0,true⟩,⟨8,C.const (BitVec.ofInt 64 0),0,0,0,4,false⟩]
def ML:List Mp:=[⟨1,4,16,1⟩]
theorem ble_own_row {ty sz sz' n:Nat}{g g':Nat→List FV}(hs:sz'=sz)(h:∀ i,i<n→FVEqL (g' i) (g i)):BLe (.own ty sz' n g') (.own ty sz n g):=by
 subst hs
 exact ble_own_e rfl h
theorem gSet_congr {g g':Nat→List FV}{n i j k:Nat}{fs:List FV}(h:∀ k,k<n→g k=g' k)(hi:i<n)(hk:k<n):gSet g i j fs k=gSet g' i j fs k:=by
 unfold gSet
 rw[h i hi,h k hk]
theorem frB_ext {g g' h:Nat→List FV}(hg:∀ k,k<11→g k=g' k):frB g h=frB g' h:=by
 have e1:allIs eA 0 11 g=allIs eA 0 11 g':=by
  unfold allIs
  have key:∀ k∈List.range 11,eA.is (g (0+k))=eA.is (g' (0+k)):=fun k hk=>by rw[Nat.zero_add,hg k (List.mem_range.1 hk)]
  rw[Bool.eq_iff_iff,List.all_eq_true,List.all_eq_true]
  exact⟨fun h k hk=>key k hk▸h k hk,fun h k hk=>(key k hk).symm▸h k hk⟩
 have e2:elts eA 0 11 g=elts eA 0 11 g':=by
  unfold elts
  refine List.map_congr_left fun k hk => ?_
  rw[Nat.zero_add,hg k (List.mem_range.1 hk)]
 unfold frB
 rw[e1,e2]
theorem ll_in (j:Nat):inA (LL.getD j eA.dft)=true:=by
 by_cases h:j<LL.length
 . exact inA_at (l:=LL) (by kernel_rfl) h
 . rw[List.getD_eq_getElem?_getD,List.getElem?_eq_none (by omega)];rfl
theorem all_set' {α:Type}{p:α→Bool}{L:List α}{i:Nat}{a:α}(h:L.all p=true)(ha:p a=true):(L.set i a).all p=true:=by
 rw[List.all_eq_true] at *
 intro x hx
 rcases List.mem_or_eq_of_mem_set hx with h1|h1
 . exact h x h1
 . rw[h1];exact ha
theorem wf_set {f:Fr}(hf:f.wf)(i:Nat){a:Ab}(ha:inA a=true)(ids:Int):(⟨f.R.set i a,f.S,ids⟩:Fr).wf:=
 ⟨(List.length_set (i:=i) (a:=a)).trans hf.r,hf.s,all_set' hf.ri ha,hf.si⟩
theorem gset_fr {f:Fr}(hf:f.wf){i:Nat}{a:Ab}{g:Nat→List FV}(hg:∀ k,k<11→g k=gOf eA f.R k)(hi:i<11):∀ k,k<11→gSet g i 0 (eA.enc a) k=gOf eA (f.R.set i a) k:=fun k hk=>
 (gSet_congr (n:=11) hg hi hk).trans (gSet_gOf eA (L:=f.R) (i:=i) (a:=a) (by rw[hf.r];exact hi) rfl rfl k (by rw[hf.r];exact hk)).symm
theorem frB_like {f:Fr}(hf:f.wf){g:Nat→List FV}(hg:∀ k,k<11→g k=gOf eA f.R k):frB g (gOf eS f.S)=true:=(frB_ext hg).trans (frB_of hf)
theorem frB_two {f:Fr}(hf:f.wf){a b:Ab}(ha:inA a=true)(hb:inA b=true):frB (gSet (gSet (gOf eA f.R) 2 0 (eA.enc a)) 3 0 (eA.enc b)) (gOf eS f.S)=true:=
 frB_like (f:=⟨(f.R.set 2 a).set 3 b,f.S,1⟩) (wf_set (wf_set hf 2 ha 1) 3 hb 1) (gset_fr (f:=⟨f.R.set 2 a,f.S,1⟩) (wf_set hf 2 ha 1) (gset_fr hf (fun _ _=>rfl) (by decide)) (by decide))
attribute [local irreducible] F.start
theorem idx_in {n i:Nat}(hn:n≤256)(hi:i≤14):0≤(IntKind.i64.wrap (IntKind.i64.wrap ((n:Int).tdiv 8)+IntKind.i64.wrap (3*(i:Int)))).tmod ((14:Nat):Int)∧(IntKind.i64.wrap (IntKind.i64.wrap ((n:Int).tdiv 8)+IntKind.i64.wrap (3*(i:Int)))).tmod ((14:Nat):Int)<14:=by
 rw[Int.tdiv_eq_ediv_of_nonneg (Int.natCast_nonneg n)]
 rw[i64_all (n:=(n:Int) / 8) (by omega) (by omega),i64_all (n:=3*(i:Int)) (by omega) (by omega),i64_all (n:=(n:Int) / 8+3*(i:Int)) (by omega) (by omega)]
 rw[Int.tmod_eq_emod_of_nonneg (by omega)]
 omega
theorem u8_in (n:Int):0≤IntKind.u8.wrap n∧IntKind.u8.wrap n≤255:=by
 unfold IntKind.wrap
 simp[IntKind.bits,IntKind.signed]
 omega
theorem ops_run:run Tryz.prog ⟨[(4,k_awake),(5,k_cConst),(6,k_fStart),(8,k_kind0)],eqs,[],[],[],mixt,meqs,[(7,k_tells)]⟩ 10000 [(19,5,[0,0,0,0,0,31,63])] 0 (bodyOf Tryz.f3) (initF Tryz.f3 []) [] (retK Tryz.prog Tryz.f3 fun x _=>eqv x (.bool true)):=by
 have hk33:Tryz.prog.types[33].size=4:=by kernel_rfl
 have hk37:Tryz.prog.types[37].size=12:=by kernel_rfl
 (conv=>whnf)
 (repeat' (first | (refine And.intro (a:=keepP _ _ _) (by first|exact⟨rfl,rfl,rfl,rfl,trivial⟩|exact⟨rfl,rfl,rfl,trivial⟩|exact⟨rfl,rfl,trivial⟩|exact⟨rfl,trivial⟩) ?_;(conv=>whnf)) | (refine step_t (by first|rfl|assumption) ?_;(conv=>whnf)) | (refine step_f (by first|rfl|assumption) ?_;(conv=>whnf)) | (refine step_nt (by assumption) ?_;(conv=>whnf)) | (refine step_nf (by assumption) ?_;(conv=>whnf)) | (refine step_n (fun hb => ?_) (fun hb => ?_)<;>(first|contradiction | (conv=>whnf))) | (refine And.intro (fun hb => ?_) (fun hb => ?_)<;>(first|contradiction | (conv=>whnf))) | (refine And.intro (a:=(_:Bool)=true) ?_ ?_;rotate_left 1;(conv=>whnf)) | (intro hb;(conv=>whnf))))
 refine .inr ⟨[],[2,3,4],fun k vals M=>∃ n:Nat,n≤256∧k=256-n∧vals=[.sl 1 4 0 1,.sl 2 12 0 14,.int .i64 (n:Int)]∧M=[.dead,.own 33 4 1 (gOf eM ML),.own 37 12 14 (gOf eA LL)],?_⟩
 conv=>whnf
 refine And.intro ⟨256,[.dead,.own 33 4 1 (gOf eM ML),.own 37 12 14 (gOf eA LL)],mle_cons ble_dead (mle_cons (ble_own_row (by kernel_rfl) fun i hi => ?bm) (mle_cons (ble_own_row (by kernel_rfl) fun i hi => ?bl) mle_nil)),rfl,rfl,0,by omega,by omega,rfl,rfl⟩ ?_
 case bm=>
  show FVEqL (List.take _ (List.drop (_*_) _)) _
  rw[hk33]
  match i,hi with
  |0,_=>exact FVEqL.refl _
 case bl=>
  show FVEqL (List.take _ (List.drop (_*_) _)) _
  rw[hk37]
  match i,hi with
  |0,_=>exact FVEqL.refl _
  |1,_=>exact FVEqL.refl _
  |2,_=>exact FVEqL.refl _
  |3,_=>exact FVEqL.refl _
  |4,_=>exact FVEqL.refl _
  |5,_=>exact FVEqL.refl _
  |6,_=>exact FVEqL.refl _
  |7,_=>exact FVEqL.refl _
  |8,_=>exact FVEqL.refl _
  |9,_=>exact FVEqL.refl _
  |10,_=>exact FVEqL.refl _
  |11,_=>exact FVEqL.refl _
  |12,_=>exact FVEqL.refl _
  |13,_=>exact FVEqL.refl _
 rintro k vals M1 ⟨n,hn,rfl,rfl,rfl⟩
 (conv=>whnf)
 (repeat' (first | (refine And.intro (a:=keepP _ _ _) (by first|exact⟨rfl,rfl,rfl,rfl,trivial⟩|exact⟨rfl,rfl,rfl,trivial⟩|exact⟨rfl,rfl,trivial⟩|exact⟨rfl,trivial⟩) ?_;(conv=>whnf)) | (refine step_t (by first|rfl|assumption) ?_;(conv=>whnf)) | (refine step_f (by first|rfl|assumption) ?_;(conv=>whnf)) | (refine step_nt (by assumption) ?_;(conv=>whnf)) | (refine step_nf (by assumption) ?_;(conv=>whnf)) | (refine step_n (fun hb => ?_) (fun hb => ?_)<;>(first|contradiction | (conv=>whnf))) | (refine And.intro (fun hb => ?_) (fun hb => ?_)<;>(first|contradiction | (conv=>whnf))) | (refine And.intro (a:=(_:Bool)=true) ?_ ?_;rotate_left 1;(conv=>whnf)) | (intro hb;(conv=>whnf))))
 all_goals try (
  refine .inr ⟨[],[2,3,4,5],fun k vals M=>∃ i:Nat,i≤14∧k=14-i∧vals=[.sl 1 4 0 1,.sl 2 12 0 14,.int .i64 (n:Int),.int .i64 (i:Int)]∧M=[.dead,.own 33 4 1 (gOf eM ML),.own 37 12 14 (gOf eA LL)],?_⟩
  conv=>whnf
  refine And.intro ⟨14,[.dead,.own 33 4 1 (gOf eM ML),.own 37 12 14 (gOf eA LL)],mle_cons ble_refl (mle_cons ble_refl (mle_cons ble_refl mle_nil)),rfl,rfl,0,by omega,by omega,rfl,rfl⟩ ?_
  rintro k vals M1 ⟨i,hi,rfl,rfl,rfl⟩
  (conv=>whnf)
  (repeat' (first | (refine And.intro (a:=keepP _ _ _) (by first|exact⟨rfl,rfl,rfl,rfl,trivial⟩|exact⟨rfl,rfl,rfl,trivial⟩|exact⟨rfl,rfl,trivial⟩|exact⟨rfl,trivial⟩) ?_;(conv=>whnf)) | (refine step_t (by first|rfl|assumption) ?_;(conv=>whnf)) | (refine step_f (by first|rfl|assumption) ?_;(conv=>whnf)) | (refine step_nt (by assumption) ?_;(conv=>whnf)) | (refine step_nf (by assumption) ?_;(conv=>whnf)) | (refine step_n (fun hb => ?_) (fun hb => ?_)<;>(first|contradiction | (conv=>whnf))) | (refine And.intro (fun hb => ?_) (fun hb => ?_)<;>(first|contradiction | (conv=>whnf))) | (refine And.intro (a:=(_:Bool)=true) ?_ ?_;rotate_left 1;(conv=>whnf)) | (intro hb;(conv=>whnf)))))
 all_goals first
 |rfl
 |trivial
 |exact and_t (frB_two F.start_wf (ll_in _) (ll_in _)) (and_t kt_is (and_t (rowM_is ML) (and_t (by rw[kt_dec];rfl) (and_t (by rw[show cM.decR 4 (.row 4 1 (shiftG 0 (gOf eM ML)))=ML from rowM_dec ML];rfl) (and_t rfl (and_t rfl (and_t (decide_eq_true (u8_in _).1) (and_t (decide_eq_true (u8_in _).2) rfl))))))))
 |exact decide_eq_true (by
   have h9:decide ((i:Int) < ((14:Nat):Int))=true:=(by assumption)
   have h8:=of_decide_eq_true h9
   have h7:=idx_in hn hi
   omega)
 |(rw[Bool.and_eq_true];exact⟨decide_eq_true (by have h7:=idx_in hn hi;omega),decide_eq_true (by
    have h9:decide ((i:Int) < ((14:Nat):Int))=true:=(by assumption)
    have h8:=of_decide_eq_true h9
    have h7:=idx_in hn hi
    omega)⟩)
 |(have h9:decide ((i:Int) < ((14:Nat):Int))=true:=(by assumption)
   have h8:=of_decide_eq_true h9
   refine⟨14 - (i+1),[.dead,.own 33 4 1 (gOf eM ML),.own 37 12 14 (gOf eA LL)],[0,1,2],by omega,rfl,mle_cons ble_refl (mle_cons ble_refl (mle_cons ble_refl mle_nil)),rfl,rfl,i+1,by omega,rfl,?_,rfl⟩
   show([.sl 1 4 0 1,.sl 2 12 0 14,.int .i64 (n:Int),.int .i64 (IntKind.i64.wrap ((i:Int)+1))]:List SV)=_
   rw[i64_all (n:=(i:Int)+1) (by omega) (by omega)];rfl)
 |(have h9:decide ((n:Int)<256)=true:=(by assumption)
   have h8:=of_decide_eq_true h9
   refine⟨256 - (n+1),[.dead,.own 33 4 1 (gOf eM ML),.own 37 12 14 (gOf eA LL)],[0,1,2],by omega,rfl,mle_cons ble_refl (mle_cons ble_refl (mle_cons ble_refl mle_nil)),rfl,rfl,n+1,by omega,rfl,?_,rfl⟩
   show([.sl 1 4 0 1,.sl 2 12 0 14,.int .i64 (IntKind.i64.wrap ((n:Int)+1))]:List SV)=_
   rw[i64_all (n:=(n:Int)+1) (by omega) (by omega)];rfl)
theorem ops_calls {w:World}:Calls Tryz.prog 3 #[] w (Ret w (.bool true)):=by
 have h:=calls_runs (G:=Gw) (w:=w) (ρ0:=noρ) (z:=fun _=>False) (Γ:=⟨[(4,k_awake),(5,k_cConst),(6,k_fStart),(8,k_kind0)],eqs,[],[],[],mixt,meqs,[(7,k_tells)]⟩) (args:=[]) (M0:=[]) st_Gw ⟨(okCons k_awake_ok (okCons k_cConst_ok (okCons k_fStart_ok (okCons k_kind0_ok okNil)))),eqs_ok,okNilB,okNilI,okNilP,mixt_ok,meqs_ok,(okConsY k_tells_ok okNilY)⟩ Tryz.func3 rfl mixed [(19,5,[0,0,0,0,0,31,63])] (by kernel_rfl) [] trivial rfl mrel_no ⟨rfl,ops_run⟩
 refine Calls.mono h ?_
 rintro e w' ⟨ρ',sv,M,rfl,hx,_,hbel⟩
 exact⟨by rw[eqv_den hx ρ' noρ];rfl,grow_mk hbel⟩
end Go.Proofs.YtfgkhenhlpoheaaGreat
