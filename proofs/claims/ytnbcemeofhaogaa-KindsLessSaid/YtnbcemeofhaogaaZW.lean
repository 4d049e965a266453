import Derived.Test.YtnbcemeofhaogaaZU2
namespace Go.Proofs.Ytnbcemeofhaogaa
open Go.RowKit Go.Sx
set_option linter.unusedSimpArgs false
set_option linter.unusedVariables false
set_option linter.unnecessarySimpa false
set_option maxRecDepth 100000
set_option maxHeartbeats 4000000
theorem mapped_run (L : List Ag) (a : Ag) (hw : ((decide (L.length ≤ 1099511627776) && decide ((K.mapOf L).length ≤ 1099511627776))) = true) : run Try.prog ⟨[(65, k_mapOf)], eqs, [], [(66, Try.f66, []), (84, Try.f84, []), (67, Try.f67, []), (68, Try.f68, []), (85, Try.f85, [])], [], mixz, meqs, []⟩ 10000 [] 0 (bodyOf Try.f29) (initF Try.f29 [.sl 0 4 0 L.length, .agg [.int .u8 a.k, .int .i64 a.lo, .int .i64 a.hi, .sl 1 1 0 a.maps.length]]) [.ro 4 L.length (cA.g L), .ro 1 a.maps.length (gOf eB a.maps)] (retK Try.prog Try.f29 (fun x _ => eqv x (.bool (K.mapped L a)))) := by
  simp only [Bool.and_eq_true, decide_eq_true_eq] at hw
  obtain ⟨hwL0, hwQ0⟩ := hw
  have hwL : decide (L.length ≤ 1099511627776) = true := decide_eq_true hwL0
  have hk : ((a.k == 3) = true) ∨ ((a.k == 3) = false ∧ (a.k == 4) = true ∧ (a.k == 5) = false ∧ (a.k == 6) = false) ∨ ((a.k == 3) = false ∧ (a.k == 4) = false ∧ (a.k == 5) = true ∧ (a.k == 6) = false) ∨ ((a.k == 3) = false ∧ (a.k == 4) = false ∧ (a.k == 5) = false ∧ (a.k == 6) = true) ∨ ((a.k == 3) = false ∧ (a.k == 4) = false ∧ (a.k == 5) = false ∧ (a.k == 6) = false) := by
    simp only [beq_eq_false_iff_ne, beq_iff_eq]; omega
  rcases hk with h3 | ⟨h3, h4, h5, h6⟩ | ⟨h3, h4, h5, h6⟩ | ⟨h3, h4, h5, h6⟩ | ⟨h3, h4, h5, h6⟩
  · (conv => whnf)
    (repeat' (first | (refine step_t (by first | rfl | assumption) ?_; (conv => whnf)) | (refine step_f (by first | rfl | assumption) ?_; (conv => whnf)) | (refine step_nt (by assumption) ?_; (conv => whnf)) | (refine step_nf (by assumption) ?_; (conv => whnf)) | (refine step_n (fun hb => ?_) (fun hb => ?_) <;> (first | contradiction | (conv => whnf))) | (refine And.intro (fun hb => ?_) (fun hb => ?_) <;> (first | contradiction | (conv => whnf))) | (refine And.intro (a := (_ : Bool) = true) ?_ ?_; rotate_left 1; (conv => whnf))))
    all_goals try (simp only [decLA, isLA] at *)
    all_goals try (first | rfl | (simp; done) | exact hwL)
    all_goals (rw [K.mapped_3 h3, Bool.eq_iff_iff]; simp)
  · (conv => whnf)
    (repeat' (first | (refine step_t (by first | rfl | assumption) ?_; (conv => whnf)) | (refine step_f (by first | rfl | assumption) ?_; (conv => whnf)) | (refine step_nt (by assumption) ?_; (conv => whnf)) | (refine step_nf (by assumption) ?_; (conv => whnf)) | (refine step_n (fun hb => ?_) (fun hb => ?_) <;> (first | contradiction | (conv => whnf))) | (refine And.intro (fun hb => ?_) (fun hb => ?_) <;> (first | contradiction | (conv => whnf))) | (refine And.intro (a := (_ : Bool) = true) ?_ ?_; rotate_left 1; (conv => whnf))))
    all_goals try (
      have hwQ : (K.mapOf (cA.decR 4 (.row 4 L.length (shiftG 0 (cA.g L))))).length ≤ 1099511627776 := (by rw [decLA]; exact hwQ0)
      refine .inr ⟨[], [0, 1, 7, 8], fun k vals M => ∃ j : Nat, j ≤ (K.mapOf (cA.decR 4 (.row 4 L.length (shiftG 0 (cA.g L))))).length ∧ k = (K.mapOf (cA.decR 4 (.row 4 L.length (shiftG 0 (cA.g L))))).length - j ∧ K.upto (fun i => !([5, 6, 7].contains ((K.mapOf (cA.decR 4 (.row 4 L.length (shiftG 0 (cA.g L))))).getD i eB.dft))) j = true ∧ vals = [.sl 3 1 0 (K.mapOf (cA.decR 4 (.row 4 L.length (shiftG 0 (cA.g L))))).length, .fn (.func 67) [] [.ptr 8 0], .int .i64 ((K.mapOf (cA.decR 4 (.row 4 L.length (shiftG 0 (cA.g L))))).length : Int), .int .i64 (j : Int)] ∧ M = [.ro 4 L.length (cA.g L), .dead, .dead, .fz 1 (K.mapOf (cA.decR 4 (.row 4 L.length (shiftG 0 (cA.g L))))).length (gOf eB (K.mapOf (cA.decR 4 (.row 4 L.length (shiftG 0 (cA.g L)))))), .dead, .fz 1 3 (gOf eB [5, 6, 7]), .dead, .dead, .mix 38 [.sl 5 1 0 3]], ?_⟩
      conv => whnf
      refine And.intro ⟨(K.mapOf (cA.decR 4 (.row 4 L.length (shiftG 0 (cA.g L))))).length, [.ro 4 L.length (cA.g L), .dead, .dead, .fz 1 (K.mapOf (cA.decR 4 (.row 4 L.length (shiftG 0 (cA.g L))))).length (gOf eB (K.mapOf (cA.decR 4 (.row 4 L.length (shiftG 0 (cA.g L)))))), .dead, .fz 1 3 (gOf eB [5, 6, 7]), .dead, .dead, .mix 38 [.sl 5 1 0 3]], (mle_cons ble_refl (mle_cons ble_dead (mle_cons ble_dead (mle_cons ble_refl (mle_cons ble_dead (mle_cons (ble_lit (by kernel_rfl)) (mle_cons ble_dead (mle_cons ble_dead (mle_cons ble_refl mle_nil))))))))), rfl, rfl, 0, by omega, by omega, rfl, rfl, rfl⟩ ?_
      rintro k vals M1 ⟨j, hj, rfl, he, rfl, rfl⟩
      (conv => whnf)
      (repeat' (first | (refine .inl ⟨5, ?_⟩; (conv => whnf)) | (refine step_t (by first | rfl | assumption) ?_; (conv => whnf)) | (refine step_f (by first | rfl | assumption) ?_; (conv => whnf)) | (refine step_nt (by assumption) ?_; (conv => whnf)) | (refine step_nf (by assumption) ?_; (conv => whnf)) | (refine step_n (fun hb => ?_) (fun hb => ?_) <;> (first | contradiction | (conv => whnf))) | (refine And.intro (fun hb => ?_) (fun hb => ?_) <;> (first | contradiction | (conv => whnf))) | (refine And.intro (a := (_ : Bool) = true) ?_ ?_; rotate_left 1; (conv => whnf)))))
    all_goals try (simp only [decLA, isLA, Int.toNat_natCast, Nat.zero_add, wr1, wr2, wr3] at *)
    all_goals first
    | rfl
    | (simp; done)
    | exact hwL
    | (have hp : ¬ 0 < (K.mapOf L).length := (by have := of_decide_eq_false hb; omega)
       exact K.mapped_0 h3 (K.lacks_4 h4) hp)
    | skip
    all_goals try (have hlt : j < (K.mapOf L).length := (by simp only [decide_eq_true_eq] at *; omega))
    all_goals first
    | exact hlt
    | exact decide_eq_true hlt
    | (rw [Bool.and_eq_true]; exact ⟨decide_eq_true (by omega), decide_eq_true hlt⟩)
    | (refine ⟨(K.mapOf L).length - (j + 1), [.ro 4 L.length (cA.g L), .dead, .dead, .fz 1 (K.mapOf L).length (gOf eB (K.mapOf L)), .dead, .fz 1 3 (gOf eB [5, 6, 7]), .dead, .dead, .mix 38 [.sl 5 1 0 3]], [0, 1, 2, 3, 4, 5, 6, 7, 8], by omega, rfl, (mle_cons ble_refl (mle_cons ble_dead (mle_cons ble_dead (mle_cons ble_refl (mle_cons ble_dead (mle_cons ble_refl (mle_cons ble_dead (mle_cons ble_dead (mle_cons ble_refl mle_nil))))))))), rfl, rfl, j + 1, by omega, rfl, ?_, ?_, rfl⟩
       · exact K.upto_next he (by simp_all)
       · show [SV.sl 3 1 0 (K.mapOf L).length, .fn (.func 67) [] [.ptr 8 0], .int .i64 ((K.mapOf L).length : Int), .int .i64 (IntKind.i64.wrap ((j : Int) + 1))] = _
         rw [i64_of (n := (j : Int) + 1) (by omega) (by omega)]; rfl)
    | (obtain rfl : j = (K.mapOf L).length := (by simp only [decide_eq_false_iff_not] at *; omega)
       rw [K.mapped_yes h3 (K.lacks_4 h4) (by simp only [decide_eq_true_eq] at *; omega) he]
       rfl)
    | (rw [K.mapped_no h3 (K.lacks_4 h4) hlt (by simp_all), show decide (0 ≤ (j : Int)) = true from decide_eq_true (by omega)]
       rfl)
  · (conv => whnf)
    (repeat' (first | (refine step_t (by first | rfl | assumption) ?_; (conv => whnf)) | (refine step_f (by first | rfl | assumption) ?_; (conv => whnf)) | (refine step_nt (by assumption) ?_; (conv => whnf)) | (refine step_nf (by assumption) ?_; (conv => whnf)) | (refine step_n (fun hb => ?_) (fun hb => ?_) <;> (first | contradiction | (conv => whnf))) | (refine And.intro (fun hb => ?_) (fun hb => ?_) <;> (first | contradiction | (conv => whnf))) | (refine And.intro (a := (_ : Bool) = true) ?_ ?_; rotate_left 1; (conv => whnf))))
    all_goals try (
      have hwQ : (K.mapOf (cA.decR 4 (.row 4 L.length (shiftG 0 (cA.g L))))).length ≤ 1099511627776 := (by rw [decLA]; exact hwQ0)
      refine .inr ⟨[], [0, 1, 7, 8], fun k vals M => ∃ j : Nat, j ≤ (K.mapOf (cA.decR 4 (.row 4 L.length (shiftG 0 (cA.g L))))).length ∧ k = (K.mapOf (cA.decR 4 (.row 4 L.length (shiftG 0 (cA.g L))))).length - j ∧ K.upto (fun i => !([7].contains ((K.mapOf (cA.decR 4 (.row 4 L.length (shiftG 0 (cA.g L))))).getD i eB.dft))) j = true ∧ vals = [.sl 3 1 0 (K.mapOf (cA.decR 4 (.row 4 L.length (shiftG 0 (cA.g L))))).length, .fn (.func 67) [] [.ptr 8 0], .int .i64 ((K.mapOf (cA.decR 4 (.row 4 L.length (shiftG 0 (cA.g L))))).length : Int), .int .i64 (j : Int)] ∧ M = [.ro 4 L.length (cA.g L), .dead, .dead, .fz 1 (K.mapOf (cA.decR 4 (.row 4 L.length (shiftG 0 (cA.g L))))).length (gOf eB (K.mapOf (cA.decR 4 (.row 4 L.length (shiftG 0 (cA.g L)))))), .dead, .dead, .fz 1 1 (gOf eB [7]), .dead, .mix 38 [.sl 6 1 0 1]], ?_⟩
      conv => whnf
      refine And.intro ⟨(K.mapOf (cA.decR 4 (.row 4 L.length (shiftG 0 (cA.g L))))).length, [.ro 4 L.length (cA.g L), .dead, .dead, .fz 1 (K.mapOf (cA.decR 4 (.row 4 L.length (shiftG 0 (cA.g L))))).length (gOf eB (K.mapOf (cA.decR 4 (.row 4 L.length (shiftG 0 (cA.g L)))))), .dead, .dead, .fz 1 1 (gOf eB [7]), .dead, .mix 38 [.sl 6 1 0 1]], (mle_cons ble_refl (mle_cons ble_dead (mle_cons ble_dead (mle_cons ble_refl (mle_cons ble_dead (mle_cons ble_dead (mle_cons (ble_lit (by kernel_rfl)) (mle_cons ble_dead (mle_cons ble_refl mle_nil))))))))), rfl, rfl, 0, by omega, by omega, rfl, rfl, rfl⟩ ?_
      rintro k vals M1 ⟨j, hj, rfl, he, rfl, rfl⟩
      (conv => whnf)
      (repeat' (first | (refine .inl ⟨5, ?_⟩; (conv => whnf)) | (refine step_t (by first | rfl | assumption) ?_; (conv => whnf)) | (refine step_f (by first | rfl | assumption) ?_; (conv => whnf)) | (refine step_nt (by assumption) ?_; (conv => whnf)) | (refine step_nf (by assumption) ?_; (conv => whnf)) | (refine step_n (fun hb => ?_) (fun hb => ?_) <;> (first | contradiction | (conv => whnf))) | (refine And.intro (fun hb => ?_) (fun hb => ?_) <;> (first | contradiction | (conv => whnf))) | (refine And.intro (a := (_ : Bool) = true) ?_ ?_; rotate_left 1; (conv => whnf)))))
    all_goals try (simp only [decLA, isLA, Int.toNat_natCast, Nat.zero_add, wr1, wr2, wr3] at *)
    all_goals first
    | rfl
    | (simp; done)
    | exact hwL
    | (have hp : ¬ 0 < (K.mapOf L).length := (by have := of_decide_eq_false hb; omega)
       exact K.mapped_0 h3 (K.lacks_5 h5) hp)
    | skip
    all_goals try (have hlt : j < (K.mapOf L).length := (by simp only [decide_eq_true_eq] at *; omega))
    all_goals first
    | exact hlt
    | exact decide_eq_true hlt
    | (rw [Bool.and_eq_true]; exact ⟨decide_eq_true (by omega), decide_eq_true hlt⟩)
    | (refine ⟨(K.mapOf L).length - (j + 1), [.ro 4 L.length (cA.g L), .dead, .dead, .fz 1 (K.mapOf L).length (gOf eB (K.mapOf L)), .dead, .dead, .fz 1 1 (gOf eB [7]), .dead, .mix 38 [.sl 6 1 0 1]], [0, 1, 2, 3, 4, 5, 6, 7, 8], by omega, rfl, (mle_cons ble_refl (mle_cons ble_dead (mle_cons ble_dead (mle_cons ble_refl (mle_cons ble_dead (mle_cons ble_dead (mle_cons ble_refl (mle_cons ble_dead (mle_cons ble_refl mle_nil))))))))), rfl, rfl, j + 1, by omega, rfl, ?_, ?_, rfl⟩
       · exact K.upto_next he (by simp_all)
       · show [SV.sl 3 1 0 (K.mapOf L).length, .fn (.func 67) [] [.ptr 8 0], .int .i64 ((K.mapOf L).length : Int), .int .i64 (IntKind.i64.wrap ((j : Int) + 1))] = _
         rw [i64_of (n := (j : Int) + 1) (by omega) (by omega)]; rfl)
    | (obtain rfl : j = (K.mapOf L).length := (by simp only [decide_eq_false_iff_not] at *; omega)
       rw [K.mapped_yes h3 (K.lacks_5 h5) (by simp only [decide_eq_true_eq] at *; omega) he]
       rfl)
    | (rw [K.mapped_no h3 (K.lacks_5 h5) hlt (by simp_all), show decide (0 ≤ (j : Int)) = true from decide_eq_true (by omega)]
       rfl)
  · (conv => whnf)
    (repeat' (first | (refine step_t (by first | rfl | assumption) ?_; (conv => whnf)) | (refine step_f (by first | rfl | assumption) ?_; (conv => whnf)) | (refine step_nt (by assumption) ?_; (conv => whnf)) | (refine step_nf (by assumption) ?_; (conv => whnf)) | (refine step_n (fun hb => ?_) (fun hb => ?_) <;> (first | contradiction | (conv => whnf))) | (refine And.intro (fun hb => ?_) (fun hb => ?_) <;> (first | contradiction | (conv => whnf))) | (refine And.intro (a := (_ : Bool) = true) ?_ ?_; rotate_left 1; (conv => whnf))))
    all_goals try (
      have hwQ : (K.mapOf (cA.decR 4 (.row 4 L.length (shiftG 0 (cA.g L))))).length ≤ 1099511627776 := (by rw [decLA]; exact hwQ0)
      refine .inr ⟨[], [0, 1, 7, 8], fun k vals M => ∃ j : Nat, j ≤ (K.mapOf (cA.decR 4 (.row 4 L.length (shiftG 0 (cA.g L))))).length ∧ k = (K.mapOf (cA.decR 4 (.row 4 L.length (shiftG 0 (cA.g L))))).length - j ∧ K.upto (fun i => !([7, 8].contains ((K.mapOf (cA.decR 4 (.row 4 L.length (shiftG 0 (cA.g L))))).getD i eB.dft))) j = true ∧ vals = [.sl 3 1 0 (K.mapOf (cA.decR 4 (.row 4 L.length (shiftG 0 (cA.g L))))).length, .fn (.func 67) [] [.ptr 8 0], .int .i64 ((K.mapOf (cA.decR 4 (.row 4 L.length (shiftG 0 (cA.g L))))).length : Int), .int .i64 (j : Int)] ∧ M = [.ro 4 L.length (cA.g L), .dead, .dead, .fz 1 (K.mapOf (cA.decR 4 (.row 4 L.length (shiftG 0 (cA.g L))))).length (gOf eB (K.mapOf (cA.decR 4 (.row 4 L.length (shiftG 0 (cA.g L)))))), .dead, .dead, .dead, .fz 1 2 (gOf eB [7, 8]), .mix 38 [.sl 7 1 0 2]], ?_⟩
      conv => whnf
      refine And.intro ⟨(K.mapOf (cA.decR 4 (.row 4 L.length (shiftG 0 (cA.g L))))).length, [.ro 4 L.length (cA.g L), .dead, .dead, .fz 1 (K.mapOf (cA.decR 4 (.row 4 L.length (shiftG 0 (cA.g L))))).length (gOf eB (K.mapOf (cA.decR 4 (.row 4 L.length (shiftG 0 (cA.g L)))))), .dead, .dead, .dead, .fz 1 2 (gOf eB [7, 8]), .mix 38 [.sl 7 1 0 2]], (mle_cons ble_refl (mle_cons ble_dead (mle_cons ble_dead (mle_cons ble_refl (mle_cons ble_dead (mle_cons ble_dead (mle_cons ble_dead (mle_cons (ble_lit (by kernel_rfl)) (mle_cons ble_refl mle_nil))))))))), rfl, rfl, 0, by omega, by omega, rfl, rfl, rfl⟩ ?_
      rintro k vals M1 ⟨j, hj, rfl, he, rfl, rfl⟩
      (conv => whnf)
      (repeat' (first | (refine .inl ⟨5, ?_⟩; (conv => whnf)) | (refine step_t (by first | rfl | assumption) ?_; (conv => whnf)) | (refine step_f (by first | rfl | assumption) ?_; (conv => whnf)) | (refine step_nt (by assumption) ?_; (conv => whnf)) | (refine step_nf (by assumption) ?_; (conv => whnf)) | (refine step_n (fun hb => ?_) (fun hb => ?_) <;> (first | contradiction | (conv => whnf))) | (refine And.intro (fun hb => ?_) (fun hb => ?_) <;> (first | contradiction | (conv => whnf))) | (refine And.intro (a := (_ : Bool) = true) ?_ ?_; rotate_left 1; (conv => whnf)))))
    all_goals try (simp only [decLA, isLA, Int.toNat_natCast, Nat.zero_add, wr1, wr2, wr3] at *)
    all_goals first
    | rfl
    | (simp; done)
    | exact hwL
    | (have hp : ¬ 0 < (K.mapOf L).length := (by have := of_decide_eq_false hb; omega)
       exact K.mapped_0 h3 (K.lacks_6 h6) hp)
    | skip
    all_goals try (have hlt : j < (K.mapOf L).length := (by simp only [decide_eq_true_eq] at *; omega))
    all_goals first
    | exact hlt
    | exact decide_eq_true hlt
    | (rw [Bool.and_eq_true]; exact ⟨decide_eq_true (by omega), decide_eq_true hlt⟩)
    | (refine ⟨(K.mapOf L).length - (j + 1), [.ro 4 L.length (cA.g L), .dead, .dead, .fz 1 (K.mapOf L).length (gOf eB (K.mapOf L)), .dead, .dead, .dead, .fz 1 2 (gOf eB [7, 8]), .mix 38 [.sl 7 1 0 2]], [0, 1, 2, 3, 4, 5, 6, 7, 8], by omega, rfl, (mle_cons ble_refl (mle_cons ble_dead (mle_cons ble_dead (mle_cons ble_refl (mle_cons ble_dead (mle_cons ble_dead (mle_cons ble_dead (mle_cons ble_refl (mle_cons ble_refl mle_nil))))))))), rfl, rfl, j + 1, by omega, rfl, ?_, ?_, rfl⟩
       · exact K.upto_next he (by simp_all)
       · show [SV.sl 3 1 0 (K.mapOf L).length, .fn (.func 67) [] [.ptr 8 0], .int .i64 ((K.mapOf L).length : Int), .int .i64 (IntKind.i64.wrap ((j : Int) + 1))] = _
         rw [i64_of (n := (j : Int) + 1) (by omega) (by omega)]; rfl)
    | (obtain rfl : j = (K.mapOf L).length := (by simp only [decide_eq_false_iff_not] at *; omega)
       rw [K.mapped_yes h3 (K.lacks_6 h6) (by simp only [decide_eq_true_eq] at *; omega) he]
       rfl)
    | (rw [K.mapped_no h3 (K.lacks_6 h6) hlt (by simp_all), show decide (0 ≤ (j : Int)) = true from decide_eq_true (by omega)]
       rfl)
  · (conv => whnf)
    (repeat' (first | (refine step_t (by first | rfl | assumption) ?_; (conv => whnf)) | (refine step_f (by first | rfl | assumption) ?_; (conv => whnf)) | (refine step_nt (by assumption) ?_; (conv => whnf)) | (refine step_nf (by assumption) ?_; (conv => whnf)) | (refine step_n (fun hb => ?_) (fun hb => ?_) <;> (first | contradiction | (conv => whnf))) | (refine And.intro (fun hb => ?_) (fun hb => ?_) <;> (first | contradiction | (conv => whnf))) | (refine And.intro (a := (_ : Bool) = true) ?_ ?_; rotate_left 1; (conv => whnf))))
    all_goals try (simp only [decLA, isLA] at *)
    all_goals first | rfl | (simp; done) | exact hwL | exact K.mapped_none h3 (K.lacks_no h4 h5 h6)
noncomputable def k_mapped : List SV → List Blk → Res := fun args M => match topA eltB M args with
  | some (b, [.one v0, .agg v1]) => .test b (.test (cA.isR 4 v0 && cA.is v1) (.test ((decide ((cA.decR 4 v0).length ≤ 1099511627776) && decide ((K.mapOf (cA.decR 4 v0)).length ≤ 1099511627776))) (.ok (.bool (K.mapped (cA.decR 4 v0) (cA.dec v1))) [])))
  | _ => .fail
theorem k_mapped_ok : CtrOk Try.prog Gw 29 k_mapped := by
  refine ⟨fun _ _ => by kernel_rfl, fun args M => ?_⟩
  unfold k_mapped
  split
  · rename_i b v0 v1 hv
    intro hb hi hw
    simp only [Bool.and_eq_true] at hi
    exact ctr_top (Γ := ⟨[(65, k_mapOf)], eqs, [], [(66, Try.f66, []), (84, Try.f84, []), (67, Try.f67, []), (68, Try.f68, []), (85, Try.f85, [])], [], mixz, meqs, []⟩) st_Gw ⟨(okCons k_mapOf_ok okNil), eqs_ok, okNilB, (okConsI Try.func66 rfl (by kernel_rfl) (fun _ _ => by kernel_rfl) (okConsI Try.func84 rfl (by kernel_rfl) (fun _ _ => by kernel_rfl) (okConsI Try.func67 rfl (by kernel_rfl) (fun _ _ => by kernel_rfl) (okConsI Try.func68 rfl (by kernel_rfl) (fun _ _ => by kernel_rfl) (okConsI Try.func85 rfl (by kernel_rfl) (fun _ _ => by kernel_rfl) okNilI))))), okNilP, mixz_ok, meqs_ok, okNilY⟩ Try.func29 rfl mixed [] (by kernel_rfl) 10000 [.one (.row 4 (cA.decR 4 v0).length (cA.g (cA.decR 4 v0))), .agg (celA (cA.dec v1))] hv hb ⟨Cel.isR_dec (hi.1), ⟨Cel.is_dec (hi.2), trivial⟩⟩ rfl (mapped_run (cA.decR 4 v0) (cA.dec v1) hw)
  · trivial
end Go.Proofs.Ytnbcemeofhaogaa
