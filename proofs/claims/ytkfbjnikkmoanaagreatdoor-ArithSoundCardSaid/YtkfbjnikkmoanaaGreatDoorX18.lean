import Derived.Test.YtkfbjnikkmoanaaGreatDoorX17
import Derived.Test.YtkfbjnikkmoanaaGreatDoorXC
namespace Go.Proofs.YtkfbjnikkmoanaaGreatDoor
open Go.RowKit Go.Sx
set_option linter.unusedSimpArgs false
set_option linter.unusedVariables false
set_option linter.unnecessarySimpa false
set_option maxRecDepth 100000
set_option maxHeartbeats 4000000
attribute [local irreducible] A.does W.aluG A.swap W.swp C.right C.hasb R.inS
theorem sound_run (op off : Int) (w : Bool) (av am alo ahi : BitVec 64) (asl ash : Int) (bv bm blo bhi : BitVec 64) (bsl bsh : Int) (n m : BitVec 64) (o k : Int) (ia : R.inS (⟨⟨av, am⟩, ⟨alo, ahi, asl, ash⟩⟩ : Sc).s = true) (ib : R.inS (⟨⟨bv, bm⟩, ⟨blo, bhi, bsl, bsh⟩⟩ : Sc).s = true) : run Tryz.prog ⟨[(9, k_awake20), (10, k_ado), (12, k_AluG), (14, k_cRight), (15, k_cHas), (17, k_aswap), (21, k_swp)], eqs, [], [], []⟩ 10000 [] 0 (bodyOf Tryz.f8) (initF Tryz.f8 [.int .u8 op, .int .i16 off, .bool w, .agg [.u64 av, .u64 am, .u64 alo, .u64 ahi, .int .i64 asl, .int .i64 ash], .agg [.u64 bv, .u64 bm, .u64 blo, .u64 bhi, .int .i64 bsl, .int .i64 bsh], .u64 n, .u64 m, .int .i64 o, .int .i64 k]) [] (retK Tryz.prog Tryz.f8 fun x _ => eqv x (.bool true)) := by
  have iab := C.and2 ia ib
  have hd := A.does_told op off w (⟨⟨av, am⟩, ⟨alo, ahi, asl, ash⟩⟩ : Sc) (⟨⟨bv, bm⟩, ⟨blo, bhi, bsl, bsh⟩⟩ : Sc) n m
  have hs := A.swap_told (o := o) (k := k) (a := (⟨⟨av, am⟩, ⟨alo, ahi, asl, ash⟩⟩ : Sc)) n ia
  have r1 : (A.does op off w (⟨⟨av, am⟩, ⟨alo, ahi, asl, ash⟩⟩ : Sc) (⟨⟨bv, bm⟩, ⟨blo, bhi, bsl, bsh⟩⟩ : Sc)).2 = true → C.right (A.does op off w (⟨⟨av, am⟩, ⟨alo, ahi, asl, ash⟩⟩ : Sc) (⟨⟨bv, bm⟩, ⟨blo, bhi, bsl, bsh⟩⟩ : Sc)).1 = true := A.does_right ia ib
  have r2 : (W.aluG op off w n m).2 = true → C.hasb (⟨⟨av, am⟩, ⟨alo, ahi, asl, ash⟩⟩ : Sc) n = true → C.hasb (⟨⟨bv, bm⟩, ⟨blo, bhi, bsl, bsh⟩⟩ : Sc) m = true → C.hasb (A.does op off w (⟨⟨av, am⟩, ⟨alo, ahi, asl, ash⟩⟩ : Sc) (⟨⟨bv, bm⟩, ⟨blo, bhi, bsl, bsh⟩⟩ : Sc)).1 (W.aluG op off w n m).1 = true := fun h hn hm => A.does_has ia ib hn hm h
  have r3 : (A.swap o k (⟨⟨av, am⟩, ⟨alo, ahi, asl, ash⟩⟩ : Sc)).2 = true → C.right (A.swap o k (⟨⟨av, am⟩, ⟨alo, ahi, asl, ash⟩⟩ : Sc)).1 = true := A.swap_right ia
  have r4 : (A.swap o k (⟨⟨av, am⟩, ⟨alo, ahi, asl, ash⟩⟩ : Sc)).2 = true → C.hasb (⟨⟨av, am⟩, ⟨alo, ahi, asl, ash⟩⟩ : Sc) n = true → C.hasb (A.swap o k (⟨⟨av, am⟩, ⟨alo, ahi, asl, ash⟩⟩ : Sc)).1 (W.swp o k n).1 = true := A.swap_has n ia
  have i1 : R.inS (A.does op off w (⟨⟨av, am⟩, ⟨alo, ahi, asl, ash⟩⟩ : Sc) (⟨⟨bv, bm⟩, ⟨blo, bhi, bsl, bsh⟩⟩ : Sc)).1.s = true := A.does_in ia ib
  have i2 : R.inS (A.swap o k (⟨⟨av, am⟩, ⟨alo, ahi, asl, ash⟩⟩ : Sc)).1.s = true := A.swap_in ia
  cases hw : (W.aluG op off w n m).2 <;> cases hA : C.right (⟨⟨av, am⟩, ⟨alo, ahi, asl, ash⟩⟩ : Sc) <;> cases hB : C.right (⟨⟨bv, bm⟩, ⟨blo, bhi, bsl, bsh⟩⟩ : Sc) <;> cases hp : (W.swp o k n).2
  all_goals
    rw [hw, hA, hB] at hd
    rw [hp, hA] at hs
    simp only [Bool.and_true, Bool.and_false, Bool.true_and, Bool.false_and] at hd hs
  all_goals
    (conv => whnf)
    (repeat' (first | (refine .inl ⟨20, ?_⟩; (conv => whnf)) | (refine step_t (by first | rfl | assumption | (rw [hd]; rfl) | (rw [hd, hB]; rfl) | (rw [hs]; rfl) | (rw [hs, hA]; rfl) | (rw [hd, hA]; rfl) | exact r1 (by assumption) | exact r3 (by assumption) | exact r2 (by assumption) (by assumption) (by assumption) | exact r4 (by assumption) (by assumption)) ?_; (conv => whnf)) | (refine step_f (by first | rfl | assumption | (rw [hd]; rfl) | (rw [hd, hB]; rfl) | (rw [hs]; rfl) | (rw [hs, hA]; rfl) | (rw [hd, hA]; rfl) | exact r1 (by assumption) | exact r3 (by assumption) | exact r2 (by assumption) (by assumption) (by assumption) | exact r4 (by assumption) (by assumption)) ?_; (conv => whnf)) | (refine step_nt (by first | rfl | assumption | (rw [hd]; rfl) | (rw [hd, hB]; rfl) | (rw [hs]; rfl) | (rw [hs, hA]; rfl) | (rw [hd, hA]; rfl) | exact r1 (by assumption) | exact r3 (by assumption) | exact r2 (by assumption) (by assumption) (by assumption) | exact r4 (by assumption) (by assumption)) ?_; (conv => whnf)) | (refine step_nf (by first | rfl | assumption | (rw [hd]; rfl) | (rw [hd, hB]; rfl) | (rw [hs]; rfl) | (rw [hs, hA]; rfl) | (rw [hd, hA]; rfl) | exact r1 (by assumption) | exact r3 (by assumption) | exact r2 (by assumption) (by assumption) (by assumption) | exact r4 (by assumption) (by assumption)) ?_; (conv => whnf)) | (refine step_n (fun hb => ?_) (fun hb => ?_) <;> (first | contradiction | (conv => whnf))) | (refine And.intro (fun hb => ?_) (fun hb => ?_) <;> (first | contradiction | (conv => whnf))) | (refine And.intro ?_ ?_; rotate_left 1; (conv => whnf))))
  all_goals first | rfl | trivial | assumption | exact iab | exact i1 | exact i2 | exact r1 (by assumption) | exact r3 (by assumption) | exact r2 (by assumption) (by assumption) (by assumption) | exact r4 (by assumption) (by assumption) | (rw [hd]; rfl) | (rw [hs]; rfl)
def k_ArithSound : List SV → List Blk → Res := fun args _ => match args with
  | [.int .u8 op, .int .i16 off, .bool w, .agg [.u64 av, .u64 am, .u64 alo, .u64 ahi, .int .i64 asl, .int .i64 ash], .agg [.u64 bv, .u64 bm, .u64 blo, .u64 bhi, .int .i64 bsl, .int .i64 bsh], .u64 n, .u64 m, .int .i64 o, .int .i64 k] => .test ((R.inS ⟨alo, ahi, asl, ash⟩) && (R.inS ⟨blo, bhi, bsl, bsh⟩)) (.ok (.bool true) [])
  | _ => .fail
theorem k_ArithSound_ok : CtrOk Tryz.prog Gw 8 k_ArithSound := by
  refine ⟨fun _ _ => by kernel_rfl, fun args M => ?_⟩
  unfold k_ArithSound
  split
  · rename_i op off w av am alo ahi asl ash bv bm blo bhi bsl bsh n m o k
    intro ht
    exact ctr_flat (Γ := ⟨[(9, k_awake20), (10, k_ado), (12, k_AluG), (14, k_cRight), (15, k_cHas), (17, k_aswap), (21, k_swp)], eqs, [], [], []⟩) (sv := .bool true) st_Gw ⟨(okCons k_awake20_ok (okCons k_ado_ok (okCons k_AluG_ok (okCons k_cRight_ok (okCons k_cHas_ok (okCons k_aswap_ok (okCons k_swp_ok okNil))))))), eqs_ok, okNilB, okNilI, okNilP⟩ Tryz.func8 rfl mixed [] (by kernel_rfl) 10000 (by rfl) (by
      rw [Bool.and_eq_true] at ht
      exact sound_run op off w av am alo ahi asl ash bv bm blo bhi bsl bsh n m o k ht.1 ht.2)
  · trivial
end Go.Proofs.YtkfbjnikkmoanaaGreatDoor
