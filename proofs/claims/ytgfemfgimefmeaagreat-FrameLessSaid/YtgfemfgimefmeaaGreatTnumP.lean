import Derived.Test.YtgfemfgimefmeaaGreatTnumS
namespace Go.Proofs.YtgfemfgimefmeaaGreat
open Go.RowKit
set_option linter.unusedSimpArgs false
set_option linter.unusedVariables false

/-! Plain laws of tnums: bit by bit. No program in sight. -/
namespace T
theorem bv_eq {x y : BitVec 64} : x = y ↔ ∀ i, i < 64 → x.getLsbD i = y.getLsbD i := ⟨fun h i _ => by rw [h], fun h => BitVec.eq_of_getLsbD_eq h⟩
theorem right_iff {t : Tn} : right t = true ↔ ∀ i, i < 64 → (t.v.getLsbD i && t.m.getLsbD i) = false := by
  unfold right; rw [beq_iff_eq, bv_eq]
  exact ⟨fun h i hi => by simpa using h i hi, fun h i hi => by simpa using h i hi⟩
theorem has_iff {t : Tn} {n : BitVec 64} : has t n = true ↔ ∀ i, i < 64 → ((t.v.getLsbD i && t.m.getLsbD i) = false ∧ (n.getLsbD i && !t.m.getLsbD i) = t.v.getLsbD i) := by
  unfold has; rw [Bool.and_eq_true, right_iff, beq_iff_eq, bv_eq]
  constructor
  · rintro ⟨h1, h2⟩ i hi; have := h2 i hi; simp [hi] at this; exact ⟨h1 i hi, this⟩
  · intro h; exact ⟨fun i hi => (h i hi).1, fun i hi => by have := (h i hi).2; simpa [hi] using this⟩
theorem leq_iff {a b : Tn} : leq a b = true ↔ ∀ i, i < 64 → ((a.v.getLsbD i && a.m.getLsbD i) = false ∧ (b.v.getLsbD i && b.m.getLsbD i) = false ∧ (a.m.getLsbD i && !b.m.getLsbD i) = false ∧ (a.v.getLsbD i && !b.m.getLsbD i) = b.v.getLsbD i) := by
  unfold leq; rw [Bool.and_eq_true, Bool.and_eq_true, Bool.and_eq_true, right_iff, right_iff, beq_iff_eq, beq_iff_eq, bv_eq, bv_eq]
  constructor
  · rintro ⟨⟨⟨h1, h2⟩, h3⟩, h4⟩ i hi
    have h3' := h3 i hi; have h4' := h4 i hi
    exact ⟨h1 i hi, h2 i hi, by simpa [hi] using h3', by simpa [hi] using h4'⟩
  · intro h
    refine ⟨⟨⟨fun i hi => (h i hi).1, fun i hi => (h i hi).2.1⟩, fun i hi => ?_⟩, fun i hi => ?_⟩
    · have := (h i hi).2.2.1; simpa [hi] using this
    · have := (h i hi).2.2.2; simpa [hi] using this
theorem ext {a b : Tn} (hv : ∀ i, i < 64 → a.v.getLsbD i = b.v.getLsbD i) (hm : ∀ i, i < 64 → a.m.getLsbD i = b.m.getLsbD i) : a = b := by
  cases a; cases b; congr 1
  · exact bv_eq.2 hv
  · exact bv_eq.2 hm
theorem right_of (v m : BitVec 64) : right ⟨v &&& ~~~m, m⟩ = true := right_iff.2 fun i hi => by simp [hi]
theorem leq_refl {a : Tn} (h : right a = true) : leq a a = true := leq_iff.2 fun i hi => by
  have := right_iff.1 h i hi
  revert this; cases a.v.getLsbD i <;> cases a.m.getLsbD i <;> simp
theorem leq_antisymm {a b : Tn} (h1 : leq a b = true) (h2 : leq b a = true) : a = b := by
  apply ext
  all_goals
    intro i hi
    have p := leq_iff.1 h1 i hi; have q := leq_iff.1 h2 i hi
    revert p q; cases a.v.getLsbD i <;> cases a.m.getLsbD i <;> cases b.v.getLsbD i <;> cases b.m.getLsbD i <;> simp
theorem leq_trans {a b c : Tn} (h1 : leq a b = true) (h2 : leq b c = true) : leq a c = true := leq_iff.2 fun i hi => by
  have p := leq_iff.1 h1 i hi; have q := leq_iff.1 h2 i hi
  revert p q; cases a.v.getLsbD i <;> cases a.m.getLsbD i <;> cases b.v.getLsbD i <;> cases b.m.getLsbD i <;> cases c.v.getLsbD i <;> cases c.m.getLsbD i <;> simp
theorem join2_left {a b : Tn} (ha : right a = true) (hb : right b = true) : leq a (join2 a b) = true := leq_iff.2 fun i hi => by
  have p := right_iff.1 ha i hi; have q := right_iff.1 hb i hi
  simp only [join2, BitVec.getLsbD_and, BitVec.getLsbD_or, BitVec.getLsbD_xor, BitVec.getLsbD_not, hi, decide_true, Bool.true_and]
  revert p q; cases a.v.getLsbD i <;> cases a.m.getLsbD i <;> cases b.v.getLsbD i <;> cases b.m.getLsbD i <;> simp
theorem join2_comm (a b : Tn) : join2 a b = join2 b a := by
  apply ext
  all_goals
    intro i hi
    simp only [join2, BitVec.getLsbD_and, BitVec.getLsbD_or, BitVec.getLsbD_xor, BitVec.getLsbD_not, hi, decide_true, Bool.true_and]
    cases ha : a.v.getLsbD i <;> cases a.m.getLsbD i <;> cases b.v.getLsbD i <;> cases b.m.getLsbD i <;> simp
theorem join2_right {a b : Tn} (ha : right a = true) (hb : right b = true) : leq b (join2 a b) = true := by rw [join2_comm]; exact join2_left hb ha
theorem join2_least {a b c : Tn} (h1 : leq a c = true) (h2 : leq b c = true) : leq (join2 a b) c = true := leq_iff.2 fun i hi => by
  have p := leq_iff.1 h1 i hi; have q := leq_iff.1 h2 i hi
  simp only [join2, BitVec.getLsbD_and, BitVec.getLsbD_or, BitVec.getLsbD_xor, BitVec.getLsbD_not, hi, decide_true, Bool.true_and]
  revert p q; cases a.v.getLsbD i <;> cases a.m.getLsbD i <;> cases b.v.getLsbD i <;> cases b.m.getLsbD i <;> cases c.v.getLsbD i <;> cases c.m.getLsbD i <;> simp
theorem join_two {a b : Tn} (ha : right a = true) (hb : right b = true) : join [a, b] = join2 a b := by simp [join, ha, hb]
theorem join2_of_leq {a b : Tn} (h : leq a b = true) : join2 a b = b := by
  apply ext
  all_goals
    intro i hi
    have p := leq_iff.1 h i hi
    simp only [join2, BitVec.getLsbD_and, BitVec.getLsbD_or, BitVec.getLsbD_xor, BitVec.getLsbD_not, hi, decide_true, Bool.true_and]
    revert p; cases a.v.getLsbD i <;> cases a.m.getLsbD i <;> cases b.v.getLsbD i <;> cases b.m.getLsbD i <;> simp
theorem leq_has {a b : Tn} {n : BitVec 64} (h : leq a b = true) (hn : has a n = true) : has b n = true := has_iff.2 fun i hi => by
  have p := leq_iff.1 h i hi; have q := has_iff.1 hn i hi
  revert p q; cases a.v.getLsbD i <;> cases a.m.getLsbD i <;> cases b.v.getLsbD i <;> cases b.m.getLsbD i <;> cases n.getLsbD i <;> simp
/-- What meet tells of two right ones. -/
theorem meet_bits {a b : Tn} (ha : right a = true) (hb : right b = true) (h : (meet a b).2 = true) :
    meet a b = (⟨a.v ||| b.v, a.m &&& b.m⟩, true) ∧ ∀ i, i < 64 → ((a.v.getLsbD i ^^ b.v.getLsbD i) && !a.m.getLsbD i && !b.m.getLsbD i) = false := by
  unfold meet at h ⊢
  split at h
  · cases h
  · rename_i hc
    rw [if_neg hc]
    refine ⟨rfl, fun i hi => ?_⟩
    simp only [ha, hb, Bool.not_true, Bool.false_or, bne_iff_ne, ne_eq, Decidable.not_not] at hc
    have := bv_eq.1 hc i hi
    simpa [hi] using this
theorem meet_no {a b : Tn} (ha : right a = true) (hb : right b = true) (h : (meet a b).2 = false) : ∃ i, i < 64 ∧ ((a.v.getLsbD i ^^ b.v.getLsbD i) && !a.m.getLsbD i && !b.m.getLsbD i) = true := by
  unfold meet at h
  split at h
  · rename_i hc
    simp only [ha, hb, Bool.not_true, Bool.false_or, bne_iff_ne, ne_eq] at hc
    apply Classical.byContradiction
    intro hn
    apply hc
    rw [bv_eq]
    intro i hi
    have : ¬ (((a.v.getLsbD i ^^ b.v.getLsbD i) && !a.m.getLsbD i && !b.m.getLsbD i) = true) := fun e => hn ⟨i, hi, e⟩
    simpa [hi] using this
  · cases h
theorem meet_has {a b : Tn} (ha : right a = true) (hb : right b = true) (n : BitVec 64) : (has a n && has b n) = ((meet a b).2 && has (meet a b).1 n) := by
  cases hm : (meet a b).2 with
  | true =>
    obtain ⟨e, hbits⟩ := meet_bits ha hb hm
    rw [e, Bool.true_and, Bool.eq_iff_iff, Bool.and_eq_true, has_iff, has_iff, has_iff]
    constructor
    · rintro ⟨h1, h2⟩ i hi
      have p := h1 i hi; have q := h2 i hi; have r := hbits i hi
      simp only [BitVec.getLsbD_and, BitVec.getLsbD_or]
      revert p q r; cases a.v.getLsbD i <;> cases a.m.getLsbD i <;> cases b.v.getLsbD i <;> cases b.m.getLsbD i <;> cases n.getLsbD i <;> simp
    · intro h
      refine ⟨fun i hi => ?_, fun i hi => ?_⟩
      all_goals
        have p := h i hi; have q := right_iff.1 ha i hi; have q' := right_iff.1 hb i hi; have r := hbits i hi
        simp only [BitVec.getLsbD_and, BitVec.getLsbD_or] at p
        revert p q q' r; cases a.v.getLsbD i <;> cases a.m.getLsbD i <;> cases b.v.getLsbD i <;> cases b.m.getLsbD i <;> cases n.getLsbD i <;> simp
  | false =>
    rw [Bool.false_and]
    obtain ⟨i, hi, hx⟩ := meet_no ha hb hm
    apply Bool.eq_false_iff.2
    intro h
    rw [Bool.and_eq_true, has_iff, has_iff] at h
    have p := h.1 i hi; have q := h.2 i hi
    revert p q hx; cases a.v.getLsbD i <;> cases a.m.getLsbD i <;> cases b.v.getLsbD i <;> cases b.m.getLsbD i <;> cases n.getLsbD i <;> simp
theorem meet_leq {a b : Tn} (ha : right a = true) (hb : right b = true) (h : (meet a b).2 = true) : leq (meet a b).1 a = true ∧ leq (meet a b).1 b = true := by
  obtain ⟨e, hbits⟩ := meet_bits ha hb h
  rw [e]
  constructor
  all_goals
    rw [leq_iff]
    intro i hi
    have q := right_iff.1 ha i hi; have q' := right_iff.1 hb i hi; have r := hbits i hi
    simp only [BitVec.getLsbD_and, BitVec.getLsbD_or]
    revert q q' r; cases a.v.getLsbD i <;> cases a.m.getLsbD i <;> cases b.v.getLsbD i <;> cases b.m.getLsbD i <;> simp
end T
end Go.Proofs.YtgfemfgimefmeaaGreat
