import Derived.Test.YtnbcemeofhaogaaZM
namespace Go.Proofs.Ytnbcemeofhaogaa
open Go.RowKit Go.Sx
set_option linter.unusedSimpArgs false
set_option linter.unusedVariables false
set_option linter.unnecessarySimpa false
set_option maxRecDepth 100000
set_option maxHeartbeats 4000000
namespace K
theorem not5 {n : Nat} (h : Nat.ble n 5 = true) : ¬ 5 < n := Nat.not_lt_of_le (Nat.le_of_ble_eq_true h)
theorem own_ten {k : Int} (h : ownOk k = true) : k = 1 ∨ k = 2 ∨ k = 3 ∨ k = 4 ∨ k = 5 ∨ k = 6 ∨ k = 7 ∨ k = 8 ∨ k = 9 ∨ k = 10 := by
  unfold ownOk at h
  simp only [Bool.and_eq_true, decide_eq_true_eq] at h
  omega
theorem own_none {k : Int} (h : ownOk k = false) : own k = Hp.no := by
  unfold ownOk at h
  rw [Bool.and_eq_false_iff, decide_eq_false_iff_not, decide_eq_false_iff_not] at h
  exact own_no (by omega)
/-- The host's own helpers are right, whatever their numbers. -/
theorem own_right {k : Int} (hk : ownOk k = true) {id mj mn : Int} (h1 : numbered id = true) (h2 : versioned mj mn = true) :
    helper ⟨id, mj, mn, (own k).core, (own k).args, (own k).rk, (own k).rlo, (own k).rhi, (own k).rsz⟩ = 0 := by
  rcases own_ten hk with rfl | rfl | rfl | rfl | rfl | rfl | rfl | rfl | rfl | rfl <;>
    exact helper_ok (h := ⟨id, mj, mn, _, _, _, _, _, _⟩) h1 h2 (not5 (by kernel_rfl)) (by kernel_rfl) (by kernel_rfl) (by kernel_rfl) (by kernel_rfl) (by kernel_rfl) (eqC_t rfl)
theorem own_more {k : Int} (hk : ownOk k = true) {id mj mn : Int} (h1 : numbered id = true) (h2 : versioned mj mn = true) :
    helper ⟨id, mj, mn, (own k).core, (own k).args ++ [⟨1, 0, 0, []⟩], (own k).rk, (own k).rlo, (own k).rhi, (own k).rsz⟩ = 9 := by
  have key : ∀ (c : Int) (l : List Ag), (own c).args = l → eqC (own c).args (l ++ [⟨1, 0, 0, []⟩]) = false := fun c l e => eqC_f fun h => by
    have := congrArg List.length h
    rw [e] at this
    simp at this
  rcases own_ten hk with rfl | rfl | rfl | rfl | rfl | rfl | rfl | rfl | rfl | rfl <;>
    exact helper_9c (h := ⟨id, mj, mn, _, _, _, _, _, _⟩) h1 h2 (not5 (by kernel_rfl)) (by kernel_rfl) (by kernel_rfl) (by kernel_rfl) (key _ _ rfl)
theorem own_other {k : Int} (hk : ownOk k = true) {id mj mn : Int} (h1 : numbered id = true) (h2 : versioned mj mn = true) :
    helper ⟨id, mj, mn, (own k).core, (own k).args, 1, 7, 8, 0⟩ = 9 := by
  rcases own_ten hk with rfl | rfl | rfl | rfl | rfl | rfl | rfl | rfl | rfl | rfl <;>
    exact helper_9b (h := ⟨id, mj, mn, _, _, _, _, _, _⟩) h1 h2 (not5 (by kernel_rfl)) (by kernel_rfl) (by kernel_rfl) (by kernel_rfl) (by kernel_rfl)
end K
end Go.Proofs.Ytnbcemeofhaogaa
