import Derived.Test.YtkfbjnikkmoanaaGreatDoorXC
namespace Go.Proofs.YtkfbjnikkmoanaaGreatDoor
open Go.RowKit Go.Sx
set_option linter.unusedSimpArgs false
set_option linter.unusedVariables false
set_option linter.unnecessarySimpa false
set_option maxRecDepth 100000
set_option maxHeartbeats 4000000
attribute [local irreducible] A.does C.of R.inS
theorem turned_run (w : Bool) (av am alo ahi : BitVec 64) (asl ash : Int) (bv bm blo bhi : BitVec 64) (bsl bsh : Int) (ia : R.inS (⟨⟨av, am⟩, ⟨alo, ahi, asl, ash⟩⟩ : Sc).s = true) (ib : R.inS (⟨⟨bv, bm⟩, ⟨blo, bhi, bsl, bsh⟩⟩ : Sc).s = true) : run Tryz.prog ⟨[(9, k_awake20), (10, k_ado)], eqs, [], [], []⟩ 10000 [(7, 12, [0, 0, 3, 7, 0, 0, 0, 127, 255, 511, 511, 0, 3071, 8191]), (8, 12, [0, 0, 3, 7, 0, 0, 0, 127, 255, 511, 511, 0, 3071, 8191])] 0 (bodyOf Tryz.f4) (initF Tryz.f4 [.bool w, .agg [.u64 av, .u64 am, .u64 alo, .u64 ahi, .int .i64 asl, .int .i64 ash], .agg [.u64 bv, .u64 bm, .u64 blo, .u64 bhi, .int .i64 bsl, .int .i64 bsh]]) [] (retK Tryz.prog Tryz.f4 fun x _ => eqv x (.bool true)) := by
  have g0 := A.does_comm (op := 0) (by decide) w ia ib
  have e0 : C.eqc (A.does 0 0 w (⟨⟨av, am⟩, ⟨alo, ahi, asl, ash⟩⟩ : Sc) (⟨⟨bv, bm⟩, ⟨blo, bhi, bsl, bsh⟩⟩ : Sc)).1 (A.does 0 0 w (⟨⟨bv, bm⟩, ⟨blo, bhi, bsl, bsh⟩⟩ : Sc) (⟨⟨av, am⟩, ⟨alo, ahi, asl, ash⟩⟩ : Sc)).1 = true := C.eqc_iff.2 (by rw [g0])
  have f0 : ((A.does 0 0 w (⟨⟨av, am⟩, ⟨alo, ahi, asl, ash⟩⟩ : Sc) (⟨⟨bv, bm⟩, ⟨blo, bhi, bsl, bsh⟩⟩ : Sc)).2 == (A.does 0 0 w (⟨⟨bv, bm⟩, ⟨blo, bhi, bsl, bsh⟩⟩ : Sc) (⟨⟨av, am⟩, ⟨alo, ahi, asl, ash⟩⟩ : Sc)).2) = true := by rw [g0]; exact beq_self_eq_true _
  have g1 := A.does_comm (op := 32) (by decide) w ia ib
  have e1 : C.eqc (A.does 32 0 w (⟨⟨av, am⟩, ⟨alo, ahi, asl, ash⟩⟩ : Sc) (⟨⟨bv, bm⟩, ⟨blo, bhi, bsl, bsh⟩⟩ : Sc)).1 (A.does 32 0 w (⟨⟨bv, bm⟩, ⟨blo, bhi, bsl, bsh⟩⟩ : Sc) (⟨⟨av, am⟩, ⟨alo, ahi, asl, ash⟩⟩ : Sc)).1 = true := C.eqc_iff.2 (by rw [g1])
  have f1 : ((A.does 32 0 w (⟨⟨av, am⟩, ⟨alo, ahi, asl, ash⟩⟩ : Sc) (⟨⟨bv, bm⟩, ⟨blo, bhi, bsl, bsh⟩⟩ : Sc)).2 == (A.does 32 0 w (⟨⟨bv, bm⟩, ⟨blo, bhi, bsl, bsh⟩⟩ : Sc) (⟨⟨av, am⟩, ⟨alo, ahi, asl, ash⟩⟩ : Sc)).2) = true := by rw [g1]; exact beq_self_eq_true _
  have g2 := A.does_comm (op := 80) (by decide) w ia ib
  have e2 : C.eqc (A.does 80 0 w (⟨⟨av, am⟩, ⟨alo, ahi, asl, ash⟩⟩ : Sc) (⟨⟨bv, bm⟩, ⟨blo, bhi, bsl, bsh⟩⟩ : Sc)).1 (A.does 80 0 w (⟨⟨bv, bm⟩, ⟨blo, bhi, bsl, bsh⟩⟩ : Sc) (⟨⟨av, am⟩, ⟨alo, ahi, asl, ash⟩⟩ : Sc)).1 = true := C.eqc_iff.2 (by rw [g2])
  have f2 : ((A.does 80 0 w (⟨⟨av, am⟩, ⟨alo, ahi, asl, ash⟩⟩ : Sc) (⟨⟨bv, bm⟩, ⟨blo, bhi, bsl, bsh⟩⟩ : Sc)).2 == (A.does 80 0 w (⟨⟨bv, bm⟩, ⟨blo, bhi, bsl, bsh⟩⟩ : Sc) (⟨⟨av, am⟩, ⟨alo, ahi, asl, ash⟩⟩ : Sc)).2) = true := by rw [g2]; exact beq_self_eq_true _
  have g3 := A.does_comm (op := 64) (by decide) w ia ib
  have e3 : C.eqc (A.does 64 0 w (⟨⟨av, am⟩, ⟨alo, ahi, asl, ash⟩⟩ : Sc) (⟨⟨bv, bm⟩, ⟨blo, bhi, bsl, bsh⟩⟩ : Sc)).1 (A.does 64 0 w (⟨⟨bv, bm⟩, ⟨blo, bhi, bsl, bsh⟩⟩ : Sc) (⟨⟨av, am⟩, ⟨alo, ahi, asl, ash⟩⟩ : Sc)).1 = true := C.eqc_iff.2 (by rw [g3])
  have f3 : ((A.does 64 0 w (⟨⟨av, am⟩, ⟨alo, ahi, asl, ash⟩⟩ : Sc) (⟨⟨bv, bm⟩, ⟨blo, bhi, bsl, bsh⟩⟩ : Sc)).2 == (A.does 64 0 w (⟨⟨bv, bm⟩, ⟨blo, bhi, bsl, bsh⟩⟩ : Sc) (⟨⟨av, am⟩, ⟨alo, ahi, asl, ash⟩⟩ : Sc)).2) = true := by rw [g3]; exact beq_self_eq_true _
  have g4 := A.does_comm (op := 160) (by decide) w ia ib
  have e4 : C.eqc (A.does 160 0 w (⟨⟨av, am⟩, ⟨alo, ahi, asl, ash⟩⟩ : Sc) (⟨⟨bv, bm⟩, ⟨blo, bhi, bsl, bsh⟩⟩ : Sc)).1 (A.does 160 0 w (⟨⟨bv, bm⟩, ⟨blo, bhi, bsl, bsh⟩⟩ : Sc) (⟨⟨av, am⟩, ⟨alo, ahi, asl, ash⟩⟩ : Sc)).1 = true := C.eqc_iff.2 (by rw [g4])
  have f4 : ((A.does 160 0 w (⟨⟨av, am⟩, ⟨alo, ahi, asl, ash⟩⟩ : Sc) (⟨⟨bv, bm⟩, ⟨blo, bhi, bsl, bsh⟩⟩ : Sc)).2 == (A.does 160 0 w (⟨⟨bv, bm⟩, ⟨blo, bhi, bsl, bsh⟩⟩ : Sc) (⟨⟨av, am⟩, ⟨alo, ahi, asl, ash⟩⟩ : Sc)).2) = true := by rw [g4]; exact beq_self_eq_true _
  have iab := C.and2 ia ib
  have iba := C.and2 ib ia
  (conv => whnf)
  (repeat' (first | (refine .inl ⟨20, ?_⟩; (conv => whnf)) | (refine step_t (by first | rfl | assumption | exact e0 | exact e1 | exact e2 | exact e3 | exact e4 | exact f0 | exact f1 | exact f2 | exact f3 | exact f4) ?_; (conv => whnf)) | (refine step_f (by first | rfl | assumption | exact e0 | exact e1 | exact e2 | exact e3 | exact e4 | exact f0 | exact f1 | exact f2 | exact f3 | exact f4) ?_; (conv => whnf)) | (refine step_nt (by first | rfl | assumption | exact e0 | exact e1 | exact e2 | exact e3 | exact e4 | exact f0 | exact f1 | exact f2 | exact f3 | exact f4) ?_; (conv => whnf)) | (refine step_nf (by assumption) ?_; (conv => whnf)) | (refine step_n (fun hb => ?_) (fun hb => ?_) <;> (first | contradiction | (conv => whnf))) | (refine And.intro (fun hb => ?_) (fun hb => ?_) <;> (first | contradiction | (conv => whnf))) | (refine And.intro (a := (_ : Bool) = true) ?_ ?_; rotate_left 1; (conv => whnf))))
  all_goals first | rfl | trivial | assumption | exact iab | exact iba | exact f0 | exact f1 | exact f2 | exact f3 | exact f4
def k_ArithTurned : List SV → List Blk → Res := fun args _ => match args with
  | [.bool w, .agg [.u64 av, .u64 am, .u64 alo, .u64 ahi, .int .i64 asl, .int .i64 ash], .agg [.u64 bv, .u64 bm, .u64 blo, .u64 bhi, .int .i64 bsl, .int .i64 bsh]] => .test (R.inS ⟨alo, ahi, asl, ash⟩ && R.inS ⟨blo, bhi, bsl, bsh⟩) (.ok (.bool true) [])
  | _ => .fail
theorem k_ArithTurned_ok : CtrOk Tryz.prog Gw 4 k_ArithTurned := by
  refine ⟨fun _ _ => by kernel_rfl, fun args M => ?_⟩
  unfold k_ArithTurned
  split
  · rename_i w av am alo ahi asl ash bv bm blo bhi bsl bsh
    intro ht
    exact ctr_flat (Γ := ⟨[(9, k_awake20), (10, k_ado)], eqs, [], [], []⟩) (sv := .bool true) st_Gw ⟨(okCons k_awake20_ok (okCons k_ado_ok okNil)), eqs_ok, okNilB, okNilI, okNilP⟩ Tryz.func4 rfl mixed [(7, 12, [0, 0, 3, 7, 0, 0, 0, 127, 255, 511, 511, 0, 3071, 8191]), (8, 12, [0, 0, 3, 7, 0, 0, 0, 127, 255, 511, 511, 0, 3071, 8191])] (by kernel_rfl) 10000 (by rfl) (by
      rw [Bool.and_eq_true] at ht
      exact turned_run w av am alo ahi asl ash bv bm blo bhi bsl bsh ht.1 ht.2)
  · trivial
end Go.Proofs.YtkfbjnikkmoanaaGreatDoor
