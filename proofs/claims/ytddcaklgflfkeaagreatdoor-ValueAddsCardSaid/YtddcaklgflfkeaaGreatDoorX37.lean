import Derived.Test.YtddcaklgflfkeaaGreatDoorX35
namespace Go.Proofs.YtddcaklgflfkeaaGreatDoor
open Go.RowKit Go.Sx
set_option linter.unusedSimpArgs false
set_option linter.unusedVariables false
set_option linter.unnecessarySimpa false
set_option maxRecDepth 100000
set_option maxHeartbeats 4000000
namespace V
def moved (p : Ab) (o : Int) : Ab := ⟨p.k, p.n, o, p.mp, p.id, p.rm, p.nu⟩
/-- Are two one? -/
@[reducible] def eqa (a b : Ab) : Bool := a.k == b.k && (a.n.t.v == b.n.t.v && (a.n.t.m == b.n.t.m && (a.n.s.lo == b.n.s.lo && (a.n.s.hi == b.n.s.hi && (a.n.s.sl == b.n.s.sl && (a.n.s.sh == b.n.s.sh && (a.of == b.of && (a.mp == b.mp && (a.id == b.id && (a.rm == b.rm && (a.nu == b.nu && true)))))))))))
theorem eqa_self (a : Ab) : eqa a a = true := by simp [eqa]
theorem one_const (n : BitVec 64) : C.one (C.const n) = (n, true) := by
  simp [C.one, C.const_right]
  simp [C.const, S.one]
theorem add_const (p : Ab) (n : BitVec 64) (minus : Bool) (id : Int) : add p (C.const n) minus id = if right p && !decide (id < 1) then (if pointer p then further p (sv n) minus else (zero, 31)) else (zero, 2) := by
  unfold add
  rw [one_const, C.const_right]
  simp only [Bool.true_and, if_true]
theorem further_ok {p : Ab} {c : Int} {b : Bool} (h : (further p c b).2 = 0) : near c = true ∧ near (wr (p.of + (if b then wr (0 - c) else c))) = true ∧ further p c b = (moved p (wr (p.of + (if b then wr (0 - c) else c))), 0) := by
  unfold further at h ⊢
  cases h1 : near c with
  | false => rw [h1] at h; cases h
  | true =>
    cases h2 : near (wr (p.of + (if b then wr (0 - c) else c))) with
    | false => rw [h1, h2] at h; cases h
    | true => exact ⟨rfl, rfl, rfl⟩
theorem further_is {p : Ab} {c : Int} {b : Bool} (h1 : near c = true) (h2 : near (wr (p.of + (if b then wr (0 - c) else c))) = true) : further p c b = (moved p (wr (p.of + (if b then wr (0 - c) else c))), 0) := by
  unfold further
  rw [h1, h2]; rfl
theorem add_ok {p : Ab} {n : BitVec 64} {minus : Bool} {id : Int} (h : (add p (C.const n) minus id).2 = 0) : right p = true ∧ decide (id < 1) = false ∧ pointer p = true ∧ (further p (sv n) minus).2 = 0 ∧ add p (C.const n) minus id = further p (sv n) minus := by
  rw [add_const] at h ⊢
  cases h1 : right p with
  | false => rw [h1] at h; cases h
  | true =>
    cases h2 : decide (id < 1) with
    | true => rw [h1, h2] at h; cases h
    | false =>
      cases h3 : pointer p with
      | false => rw [h1, h2, h3] at h; cases h
      | true => rw [h1, h2, h3] at h; exact ⟨rfl, rfl, rfl, h, rfl⟩
theorem add_is {p : Ab} {n : BitVec 64} {minus : Bool} {id : Int} (h1 : right p = true) (h2 : decide (id < 1) = false) (h3 : pointer p = true) : add p (C.const n) minus id = further p (sv n) minus := by
  rw [add_const, h1, h2, h3]; rfl
theorem pointer_iff {p : Ab} : pointer p = true ↔ (p.k = 2 ∨ p.k = 3 ∨ p.k = 4 ∨ p.k = 7 ∨ p.k = 8) ∧ p.nu = false := by
  simp [pointer]
theorem near_of {p : Ab} (hr : right p = true) (hp : pointer p = true) : near p.of = true := by
  obtain ⟨hk, hn⟩ := pointer_iff.1 hp
  rcases hk with hk | hk | hk | hk | hk <;> simp only [right, hk] at hr <;> simp at hr <;> exact hr.1
theorem right_moved {p : Ab} {o : Int} (hr : right p = true) (hp : pointer p = true) (ho : near o = true) : right (moved p o) = true := by
  obtain ⟨hk, hn⟩ := pointer_iff.1 hp
  rcases hk with hk | hk | hk | hk | hk <;> simp only [right, moved, hk] at hr ⊢ <;> simp [placed, added, numbered, mapped, named, nought, roomy, sized, nulled, hn, ho] at hr ⊢ <;> simp_all
theorem pointer_moved {p : Ab} {o : Int} : pointer (moved p o) = pointer p := rfl
theorem sv_of (m : Int) : sv (BitVec.ofInt 64 m) = IntKind.i64.wrap m := (i64_eq m).symm
theorem add_in {p : Ab} {n : BitVec 64} {minus : Bool} {id : Int} (h : R.inS p.n.s = true) : R.inS (add p (C.const n) minus id).1.n.s = true := by
  rw [add_const]
  split
  · split
    · unfold further
      cases near (sv n) with
      | false => rfl
      | true =>
        cases near (wr (p.of + (if minus then wr (0 - sv n) else sv n))) with
        | false => rfl
        | true => exact h
    · rfl
  · rfl
section
variable {p : Ab} {m n : Int} {id : Int} (hm : -268435456 ≤ m) (hm' : m ≤ 268435456) (hn : -268435456 ≤ n) (hn' : n ≤ 268435456)
include hm hm' hn hn'
/-- One number added, and another one. -/
theorem two (h1 : (add p (C.const (BitVec.ofInt 64 m)) false id).2 = 0) (h2 : (add (add p (C.const (BitVec.ofInt 64 m)) false id).1 (C.const (BitVec.ofInt 64 n)) false id).2 = 0) :
    right p = true ∧ decide (id < 1) = false ∧ pointer p = true ∧ near (p.of + m + n) = true ∧ add (add p (C.const (BitVec.ofInt 64 m)) false id).1 (C.const (BitVec.ofInt 64 n)) false id = (moved p (p.of + m + n), 0) := by
  obtain ⟨a1, a2, a3, a4, a5⟩ := add_ok h1
  obtain ⟨b1, b2, b3⟩ := further_ok a4
  rw [a5, b3] at h2 ⊢
  obtain ⟨c1, c2, c3, c4, c5⟩ := add_ok h2
  obtain ⟨d1, d2, d3⟩ := further_ok c4
  rw [c5, d3]
  simp only [Bool.false_eq_true, if_false, sv_of, moved] at b1 b2 d1 d2 ⊢
  have ho := near_iff.1 (near_of a1 a3)
  rw [wr_id (n := m) (by omega) (by omega)] at b1 b2 d2 ⊢
  rw [wr_id (n := n) (by omega) (by omega)] at d2 ⊢
  simp only [wr] at b2 d2 ⊢
  rw [wr_id (n := p.of + m) (by omega) (by omega)] at d2 ⊢
  rw [wr_id (n := p.of + m + n) (by omega) (by omega)] at d2 ⊢
  exact ⟨a1, a2, a3, d2, rfl⟩
theorem three (h1 : (add p (C.const (BitVec.ofInt 64 m)) false id).2 = 0) (h2 : (add (add p (C.const (BitVec.ofInt 64 m)) false id).1 (C.const (BitVec.ofInt 64 n)) false id).2 = 0) :
    add p (C.const (BitVec.ofInt 64 (IntKind.i64.wrap (m + n)))) false id = add (add p (C.const (BitVec.ofInt 64 m)) false id).1 (C.const (BitVec.ofInt 64 n)) false id := by
  obtain ⟨a1, a2, a3, a4, a5⟩ := two hm hm' hn hn' h1 h2
  rw [a5, add_is a1 a2 a3]
  have ho := near_iff.1 (near_of a1 a3)
  have e : sv (BitVec.ofInt 64 (IntKind.i64.wrap (m + n))) = m + n := by rw [sv_of, wr_id (n := m + n) (by omega) (by omega), wr_id (by omega) (by omega)]
  have e2 : wr (p.of + (m + n)) = p.of + m + n := by rw [wr, wr_id (by omega) (by omega)]; omega
  rw [e, further_is (near_iff.2 ⟨by omega, by omega⟩) (by simp only [Bool.false_eq_true, if_false]; rw [e2]; exact a4)]
  simp only [Bool.false_eq_true, if_false]
  rw [e2]
theorem four (h1 : (add p (C.const (BitVec.ofInt 64 m)) false id).2 = 0) (h2 : (add (add p (C.const (BitVec.ofInt 64 m)) false id).1 (C.const (BitVec.ofInt 64 n)) false id).2 = 0) (h3 : (add p (C.const (BitVec.ofInt 64 n)) false id).2 = 0) (h4 : (add (add p (C.const (BitVec.ofInt 64 n)) false id).1 (C.const (BitVec.ofInt 64 m)) false id).2 = 0) :
    (add (add p (C.const (BitVec.ofInt 64 n)) false id).1 (C.const (BitVec.ofInt 64 m)) false id).1 = (add (add p (C.const (BitVec.ofInt 64 m)) false id).1 (C.const (BitVec.ofInt 64 n)) false id).1 := by
  rw [(two hm hm' hn hn' h1 h2).2.2.2.2, (two hn hn' hm hm' h3 h4).2.2.2.2]
  simp only [moved, Ab.mk.injEq, true_and, and_true]; omega
end
/-- And back. -/
theorem back {p : Ab} {m id : Int} (hm : -268435456 ≤ m) (hm' : m ≤ 268435456) (h1 : (add p (C.const (BitVec.ofInt 64 m)) false id).2 = 0) : add (add p (C.const (BitVec.ofInt 64 m)) false id).1 (C.const (BitVec.ofInt 64 m)) true id = (p, 0) := by
  obtain ⟨a1, a2, a3, a4, a5⟩ := add_ok h1
  obtain ⟨b1, b2, b3⟩ := further_ok a4
  have ho := near_iff.1 (near_of a1 a3)
  rw [a5, b3]
  simp only [Bool.false_eq_true, if_false, sv_of] at b1 b2 ⊢
  rw [wr_id (n := m) (by omega) (by omega)] at b1 b2 ⊢
  simp only [wr] at b2 ⊢
  rw [wr_id (n := p.of + m) (by omega) (by omega)] at b2 ⊢
  rw [add_is (right_moved a1 a3 b2) a2 (by rw [pointer_moved]; exact a3), sv_of, wr_id (n := m) (by omega) (by omega)]
  have e : wr (p.of + m + wr (0 - m)) = p.of := by rw [wr, wr, wr_id (n := 0 - m) (by omega) (by omega), wr_id (by omega) (by omega)]; omega
  rw [further_is b1 (by simp only [moved, if_true]; rw [e]; exact near_of a1 a3)]
  simp only [moved, if_true]
  rw [e]
theorem lo_of {m c : Int} (h : decide (m < c) = false) : c ≤ m := by simpa using h
section
variable {p : Ab} {m n id : Int} (a1 : decide (m < -268435456) = false) (a2 : decide (268435456 < m) = false) (e1 : ((add p (C.const (BitVec.ofInt 64 m)) false id).2 == 0) = true)
include a1 a2 e1
theorem w_j : ((add (add p (C.const (BitVec.ofInt 64 m)) false id).1 (C.const (BitVec.ofInt 64 m)) true id).2 == 0) = true := by
  rw [back (lo_of a1) (lo_of a2) (beq_iff_eq.1 e1)]; rfl
theorem w_b : eqa (add (add p (C.const (BitVec.ofInt 64 m)) false id).1 (C.const (BitVec.ofInt 64 m)) true id).1 p = true := by
  rw [back (lo_of a1) (lo_of a2) (beq_iff_eq.1 e1)]; exact eqa_self p
variable (a3 : decide (n < -268435456) = false) (a4 : decide (268435456 < n) = false) (e2 : ((add (add p (C.const (BitVec.ofInt 64 m)) false id).1 (C.const (BitVec.ofInt 64 n)) false id).2 == 0) = true)
include a3 a4 e2
theorem w_g : ((add p (C.const (BitVec.ofInt 64 (IntKind.i64.wrap (m + n)))) false id).2 == 0) = true := by
  rw [three (lo_of a1) (lo_of a2) (lo_of a3) (lo_of a4) (beq_iff_eq.1 e1) (beq_iff_eq.1 e2)]; exact e2
theorem w_c : eqa (add (add p (C.const (BitVec.ofInt 64 m)) false id).1 (C.const (BitVec.ofInt 64 n)) false id).1 (add p (C.const (BitVec.ofInt 64 (IntKind.i64.wrap (m + n)))) false id).1 = true := by
  rw [three (lo_of a1) (lo_of a2) (lo_of a3) (lo_of a4) (beq_iff_eq.1 e1) (beq_iff_eq.1 e2)]; exact eqa_self _
theorem w_x (e3 : ((add p (C.const (BitVec.ofInt 64 n)) false id).2 == 0) = true) (e4 : ((add (add p (C.const (BitVec.ofInt 64 n)) false id).1 (C.const (BitVec.ofInt 64 m)) false id).2 == 0) = true) : eqa (add (add p (C.const (BitVec.ofInt 64 n)) false id).1 (C.const (BitVec.ofInt 64 m)) false id).1 (add (add p (C.const (BitVec.ofInt 64 m)) false id).1 (C.const (BitVec.ofInt 64 n)) false id).1 = true := by
  rw [four (lo_of a1) (lo_of a2) (lo_of a3) (lo_of a4) (beq_iff_eq.1 e1) (beq_iff_eq.1 e2) (beq_iff_eq.1 e3) (beq_iff_eq.1 e4)]; exact eqa_self _
end
end V
end Go.Proofs.YtddcaklgflfkeaaGreatDoor
