import Derived.Test.YtddcaklgflfkeaaGreatDoorXV
namespace Go.Proofs.YtddcaklgflfkeaaGreatDoor
open Go.RowKit Go.Sx
set_option linter.unusedSimpArgs false
set_option linter.unusedVariables false
set_option linter.unnecessarySimpa false
set_option maxRecDepth 100000
set_option maxHeartbeats 4000000
namespace V
theorem near_iff {n : Int} : near n = true ↔ -536870912 ≤ n ∧ n ≤ 536870912 := by simp [near]
theorem wr_id {n : Int} (h : -9223372036854775808 ≤ n) (h' : n ≤ 9223372036854775807) : IntKind.i64.wrap n = n := by
  simp only [IntKind.wrap, IntKind.bits, IntKind.signed]
  simp
  omega
theorem hasb_in {x : Sc} {n : BitVec 64} (h : C.hasb x n = true) : x.s.lo ≤ n ∧ n ≤ x.s.hi ∧ x.s.sl ≤ sv n ∧ sv n ≤ x.s.sh := by
  simp only [C.hasb, S.has, S.leq, S.one, Bool.and_eq_true, decide_eq_true_eq] at h
  exact ⟨of_decide_eq_true h.2.2.2.2.1.1, of_decide_eq_true h.2.2.2.2.1.2, of_decide_eq_true h.2.2.2.2.2.1, of_decide_eq_true h.2.2.2.2.2.2⟩
theorem small {n : BitVec 64} (h : n.toNat ≤ 1048576) : sv n = (n.toNat : Int) := by
  unfold sv
  rw [BitVec.toInt_eq_toNat_of_lt (by omega)]
theorem le_n {a b : BitVec 64} (h : a ≤ b) : a.toNat ≤ b.toNat := h
/-- What a number that is added stands for is small. -/
theorem added_in {a : Ab} {v : BitVec 64} (h : added a = true) (hv : C.hasb a.n v = true) : v.toNat ≤ 1048576 ∧ a.n.s.lo.toNat ≤ v.toNat ∧ v.toNat ≤ a.n.s.hi.toNat ∧ a.n.s.hi.toNat ≤ 1048576 := by
  simp only [added, Bool.and_eq_true, decide_eq_true_eq] at h
  have h1 : a.n.s.hi.toNat ≤ 1048576 := le_n h.2.1
  obtain ⟨g1, g2, _, _⟩ := hasb_in hv
  have g1 := le_n g1
  have g2 := le_n g2
  exact ⟨by omega, g1, g2, h1⟩
theorem right_4 {a : Ab} (h : right a = true) (hk : a.k = 4) : placed a = true ∧ added a = true ∧ named a = true ∧ roomy a = true ∧ a.mp = 0 ∧ a.nu = false := by
  simp only [right, hk] at h
  simpa using h
theorem right_7 {a : Ab} (h : right a = true) (hk : a.k = 7) : placed a = true ∧ added a = true ∧ mapped a = true ∧ nulled a = true ∧ a.rm = 0 := by
  simp only [right, hk] at h
  simpa using h
theorem right_8 {a : Ab} (h : right a = true) (hk : a.k = 8) : placed a = true ∧ added a = true ∧ sized a = true ∧ nulled a = true ∧ a.mp = 0 := by
  simp only [right, hk] at h
  simpa using h
theorem touch_ok {p : Ab} {off size val long : Int} {v : BitVec 64} (ht : touch p off size val = 0) (hs : stands p v long = true) : p.nu = false ∧ 0 ≤ IntKind.i64.wrap (IntKind.i64.wrap (p.of + off) + sv v) ∧ (p.k = 4 → IntKind.i64.wrap (IntKind.i64.wrap (IntKind.i64.wrap (p.of + off) + sv v) + size) ≤ long) ∧ (p.k = 7 → IntKind.i64.wrap (IntKind.i64.wrap (IntKind.i64.wrap (p.of + off) + sv v) + size) ≤ val) ∧ (p.k = 8 → IntKind.i64.wrap (IntKind.i64.wrap (IntKind.i64.wrap (p.of + off) + sv v) + size) ≤ p.rm) ∧ (p.k = 4 ∨ p.k = 7 ∨ p.k = 8) := by
  unfold touch at ht
  split at ht
  · rename_i h1
    simp only [Bool.and_eq_true, decide_eq_true_eq] at h1
    obtain ⟨hr, hn, hz⟩ := h1
    have hn := near_iff.1 hn
    split at ht
    · rename_i h2
      simp only [Bool.and_eq_true, Bool.or_eq_true, beq_iff_eq, Bool.not_eq_true'] at h2
      obtain ⟨hk, hnu⟩ := h2
      split at ht
      · cases ht
      · rename_i h3
        simp only [over, Bool.or_eq_true, decide_eq_true_eq, not_or] at h3
        obtain ⟨h3, h4⟩ := h3
        rcases hk with hk | hk | hk
        · have R := right_4 hr hk
          have hp := near_iff.1 R.1
          simp only [stands, hk] at hs
          simp only [show ((4 : Int) == 1) = false from rfl, show ((4 : Int) == 7) = false from rfl, show ((4 : Int) == 8) = false from rfl, Bool.or_false, if_false, Bool.false_eq_true, show ((4 : Int) == 4) = true from rfl, if_true, Bool.and_eq_true, decide_eq_true_eq] at hs
          have A := added_in R.2.1 hs.1
          have e := small A.1
          simp only [hk, show ((4 : Int) == 7) = false from rfl, show ((4 : Int) == 4) = true from rfl, if_true, if_false, Bool.false_eq_true, wr] at h3 h4
          have hrm : 0 ≤ p.rm ∧ p.rm ≤ 4096 := by simpa [roomy] using R.2.2.2.1
          have hw := hs.2
          rw [wr, wr_id (by omega) (by omega)] at hw
          rw [wr_id (n := p.of + off) (by omega) (by omega)] at h3 h4 ⊢
          rw [wr_id (by omega) (by omega)] at h4
          rw [wr_id (n := p.of + off + sv v) (by omega) (by omega), wr_id (n := p.of + off + sv v + size) (by omega) (by omega)]
          exact ⟨hnu, by omega, fun _ => by omega, fun h => by omega, fun h => by omega, .inl hk⟩
        · have R := right_7 hr hk
          have hp := near_iff.1 R.1
          simp only [stands, hk] at hs
          simp only [show ((7 : Int) == 1) = false from rfl, show ((7 : Int) == 7) = true from rfl, Bool.or_true, Bool.true_or, if_true] at hs
          have A := added_in R.2.1 hs
          have e := small A.1
          have e1 := small (n := p.n.s.lo) (by omega)
          have e2 := small (n := p.n.s.hi) (by omega)
          simp only [hk, show ((7 : Int) == 4) = false from rfl, show ((7 : Int) == 7) = true from rfl, if_true, if_false, Bool.false_eq_true, wr] at h3 h4
          rw [wr_id (n := p.of + off) (by omega) (by omega)] at h3 h4 ⊢
          rw [wr_id (by omega) (by omega)] at h3
          rw [wr_id (n := p.of + off + sv p.n.s.hi) (by omega) (by omega), wr_id (by omega) (by omega)] at h4
          rw [wr_id (n := p.of + off + sv v) (by omega) (by omega), wr_id (n := p.of + off + sv v + size) (by omega) (by omega)]
          exact ⟨hnu, by omega, fun h => by omega, fun _ => by omega, fun h => by omega, .inr (.inl hk)⟩
        · have R := right_8 hr hk
          have hp := near_iff.1 R.1
          simp only [stands, hk] at hs
          simp only [show ((8 : Int) == 1) = false from rfl, show ((8 : Int) == 7) = false from rfl, show ((8 : Int) == 8) = true from rfl, Bool.or_true, Bool.true_or, if_true] at hs
          have A := added_in R.2.1 hs
          have e := small A.1
          have e1 := small (n := p.n.s.lo) (by omega)
          have e2 := small (n := p.n.s.hi) (by omega)
          simp only [hk, show ((8 : Int) == 4) = false from rfl, show ((8 : Int) == 7) = false from rfl, if_true, if_false, Bool.false_eq_true, wr] at h3 h4
          rw [wr_id (n := p.of + off) (by omega) (by omega)] at h3 h4 ⊢
          rw [wr_id (by omega) (by omega)] at h3
          rw [wr_id (n := p.of + off + sv p.n.s.hi) (by omega) (by omega), wr_id (by omega) (by omega)] at h4
          rw [wr_id (n := p.of + off + sv v) (by omega) (by omega), wr_id (n := p.of + off + sv v + size) (by omega) (by omega)]
          exact ⟨hnu, by omega, fun h => by omega, fun h => by omega, fun _ => by omega, .inr (.inr hk)⟩
    · cases ht
  · cases ht
end V
end Go.Proofs.YtddcaklgflfkeaaGreatDoor
