import Derived.Test.YtbiebicooaepfaaDoorTnumP
namespace Go.Proofs.YtbiebicooaepfaaDoor
open Go.RowKit
set_option linter.unusedSimpArgs false
set_option linter.unusedVariables false

/-! Plain laws of ranges. -/
namespace T
theorem low_form : ∀ (n : Nat), n ≠ 0 → ∃ p q, n = 2 ^ (p + 1) * q + 2 ^ p := by
  intro n
  induction n using Nat.strongRecOn with
  | ind n ih =>
    intro h
    by_cases ho : n % 2 = 1
    · exact ⟨0, n / 2, by omega⟩
    · obtain ⟨p, q, e⟩ := ih (n / 2) (by omega) (by omega)
      refine ⟨p + 1, q, ?_⟩
      have : n = 2 * (n / 2) := by omega
      rw [this, e, Nat.pow_succ 2 (p + 1), Nat.pow_succ 2 p]; grind
theorem lowbit (x : BitVec 64) (h : x ≠ 0#64) : ∃ p q, p < 64 ∧ x.toNat = 2 ^ (p + 1) * q + 2 ^ p ∧ (x &&& (x - 1#64)).toNat = 2 ^ (p + 1) * q ∧ (∀ j, j < p → x.getLsbD j = false) ∧ x.getLsbD p = true ∧
    (∀ j, (x - 1#64).getLsbD j = if j < p then true else if j = p then false else x.getLsbD j) ∧ (∀ j, p < j → x.getLsbD j = q.testBit (j - (p + 1))) := by
  have hx0 : x.toNat ≠ 0 := fun e => h (BitVec.eq_of_toNat_eq (by simpa using e))
  obtain ⟨p, q, e⟩ := low_form _ hx0
  have hp2 : (2 : Nat) ^ p < 2 ^ (p + 1) := Nat.pow_lt_pow_right (by omega) (by omega)
  have hp0 : 0 < (2 : Nat) ^ p := Nat.two_pow_pos p
  have hp : p < 64 := by
    have := x.isLt
    exact (Nat.pow_lt_pow_iff_right (a := 2) (by omega)).1 (show (2 : Nat) ^ p < 2 ^ 64 by omega)
  have e1 : (x - 1#64).toNat = 2 ^ (p + 1) * q + (2 ^ p - 1) := by
    rw [BitVec.toNat_sub_of_le (by rw [BitVec.le_def]; simp; omega)]; simp; omega
  have b1 : ∀ j, x.getLsbD j = if j < p + 1 then decide (p = j) else q.testBit (j - (p + 1)) := fun j => by
    rw [BitVec.getLsbD, e, Nat.testBit_two_pow_mul_add _ hp2, Nat.testBit_two_pow]
  have b2 : ∀ j, (x - 1#64).getLsbD j = if j < p + 1 then decide (j < p) else q.testBit (j - (p + 1)) := fun j => by
    rw [BitVec.getLsbD, e1, Nat.testBit_two_pow_mul_add _ (by omega), Nat.testBit_two_pow_sub_one]
  refine ⟨p, q, hp, e, ?_, fun j hj => ?_, ?_, fun j => ?_, fun j hj => ?_⟩
  · apply Nat.eq_of_testBit_eq
    intro j
    have := b1 j; have := b2 j
    rw [BitVec.toNat_and, Nat.testBit_and, ← BitVec.getLsbD, ← BitVec.getLsbD, b1, b2, show 2 ^ (p + 1) * q = 2 ^ (p + 1) * q + 0 by rfl, Nat.testBit_two_pow_mul_add _ (Nat.two_pow_pos _)]
    by_cases hj : j < p + 1
    · rw [if_pos hj, if_pos hj, if_pos hj]; by_cases hpj : p = j <;> simp [hpj]
    · rw [if_neg hj, if_neg hj, if_neg hj]; simp
  · rw [b1, if_pos (by omega)]; simp; omega
  · rw [b1, if_pos (by omega)]; simp
  · rw [b2, b1]
    by_cases h1 : j < p
    · rw [if_pos (by omega), if_pos h1]; simp [h1]
    · rw [if_neg h1]
      by_cases h2 : j = p
      · subst h2; rw [if_pos (by omega), if_pos rfl]; simp
      · rw [if_neg (by omega), if_neg h2, if_neg (by omega)]
  · rw [b1, if_neg (by omega)]
/-- The round's law: what the loop of TnumRange keeps. -/
def Top (lo hi : BitVec 64) (i : Nat) (top : BitVec 64) : Prop := lo < top ∧ ∃ s, i ≤ s ∧ ∀ j, j < 64 → top.getLsbD j = (hi.getLsbD j && decide (s ≤ j))
theorem top_first {lo hi : BitVec 64} (h : lo < hi) : Top lo hi 0 hi := ⟨h, 0, Nat.le_refl _, fun j _ => by simp⟩
theorem top_ne {lo hi top : BitVec 64} {i : Nat} (h : Top lo hi i top) : top ≠ 0#64 := fun e => by have := h.1; rw [e, BitVec.lt_def] at this; simp at this
theorem succ_le {lo hi x : BitVec 64} (h : lo < hi) : lo + 1#64 ≤ x ↔ lo < x := by
  rw [BitVec.lt_def] at h ⊢; rw [BitVec.le_def, BitVec.toNat_add]; have := hi.isLt
  rw [Nat.mod_eq_of_lt (by simp; omega)]; simp; omega
theorem top_step {lo hi top : BitVec 64} {i : Nat} (h : Top lo hi i top) (hc : lo < top &&& (top - 1#64)) : Top lo hi (i + 1) (top &&& (top - 1#64)) := by
  obtain ⟨p, q, hp, _, _, hlow, hbit, hsub, _⟩ := lowbit top (top_ne h)
  obtain ⟨_, s, hs, hb⟩ := h
  have hsp : s ≤ p := by
    have := hb p hp; rw [hbit] at this; simp at this; exact this.2
  refine ⟨hc, p + 1, by omega, fun j hj => ?_⟩
  rw [BitVec.getLsbD_and, hsub]
  by_cases h1 : j < p
  · rw [hlow j h1]; simp; omega
  · rw [if_neg h1]
    by_cases h2 : j = p
    · subst h2; simp
    · rw [if_neg h2, hb j hj, Bool.and_self]
      congr 1
      rw [decide_eq_decide]; omega
theorem top_end {lo hi top : BitVec 64} {i : Nat} (h : Top lo hi i top) : i < 64 := by
  obtain ⟨hlt, s, hs, hb⟩ := h
  apply Classical.byContradiction
  intro hn
  have : top = 0#64 := BitVec.eq_of_getLsbD_eq fun j hj => by rw [hb j hj]; simp; omega
  exact top_ne ⟨hlt, s, hs, hb⟩ this
/-- Where the loop ends. -/
theorem top_last {lo hi top : BitVec 64} {i : Nat} (h : Top lo hi i top) (hc : ¬ lo < top &&& (top - 1#64)) : ∃ p, p < 64 ∧ (∀ j, j ≤ p → (top - 1#64).getLsbD j = !top.getLsbD j) ∧ ∀ j, j < 64 → p < j → lo.getLsbD j = hi.getLsbD j := by
  obtain ⟨p, q, hp, e, e', hlow, hbit, hsub, hup⟩ := lowbit top (top_ne h)
  obtain ⟨hlt, s, hs, hb⟩ := h
  have hsp : s ≤ p := by
    have := hb p hp; rw [hbit] at this; simp at this; exact this.2
  refine ⟨p, hp, fun j hj => ?_, fun j hj hpj => ?_⟩
  · rw [hsub]
    by_cases h1 : j < p
    · rw [if_pos h1, hlow j h1]; rfl
    · rw [if_neg h1, if_pos (by omega), show j = p by omega, hbit]; rfl
  · have h1 : lo.toNat < 2 ^ (p + 1) * q + 2 ^ p := by rw [BitVec.lt_def, e] at hlt; exact hlt
    have h2 : 2 ^ (p + 1) * q ≤ lo.toNat := by rw [BitVec.lt_def, e'] at hc; omega
    have hp2 : (2 : Nat) ^ p < 2 ^ (p + 1) := Nat.pow_lt_pow_right (by omega) (by omega)
    have e3 : lo.toNat = 2 ^ (p + 1) * q + (lo.toNat - 2 ^ (p + 1) * q) := by omega
    have e4 : hi.getLsbD j = top.getLsbD j := by rw [hb j hj]; simp; omega
    rw [e4, hup j hpj, BitVec.getLsbD, e3, Nat.testBit_two_pow_mul_add _ (by omega), if_neg (by omega)]
theorem aux_lt : ∀ (f x : Nat), x < 2 ^ f → x < 2 ^ Lib.bitLenAux f x
  | 0, x, h => by simpa [Lib.bitLenAux] using h
  | f + 1, x, h => by
    unfold Lib.bitLenAux
    by_cases h0 : x = 0
    · rw [if_pos h0, h0]; decide
    · rw [if_neg h0]
      have := aux_lt f (x / 2) (by rw [Nat.pow_succ] at h; omega)
      rw [Nat.add_comm 1, Nat.pow_succ]; omega
theorem bl_lt (x : BitVec 64) : x.toNat < 2 ^ bl x := aux_lt 64 _ x.isLt
theorem bl_least {x : BitVec 64} {p : Nat} (h : x.toNat < 2 ^ p) : bl x ≤ p := Lib.bitLenAux_le 64 _ p h
theorem bl_bits {x : BitVec 64} {p : Nat} (h : ∀ j, j < 64 → p ≤ j → x.getLsbD j = false) : bl x ≤ p := by
  have hx : x.toNat < 2 ^ p := Nat.lt_pow_two_of_testBit _ fun j hj => by
    by_cases h64 : j < 64
    · exact h j h64 hj
    · exact Nat.testBit_lt_two_pow (Nat.lt_of_lt_of_le x.isLt (Nat.pow_le_pow_right (by omega) (by omega)))
  exact bl_least hx
theorem above_bl {x : BitVec 64} {j : Nat} (h : bl x ≤ j) : x.getLsbD j = false := Nat.testBit_lt_two_pow (Nat.lt_of_lt_of_le (bl_lt _) (Nat.pow_le_pow_right (by omega) h))
theorem ones_eq : (18446744073709551615#64 : BitVec 64) = BitVec.allOnes 64 := by decide
theorem ones_bit (i : Nat) : (18446744073709551615#64 : BitVec 64).getLsbD i = decide (i < 64) := by rw [ones_eq, BitVec.getLsbD_allOnes]
theorem range_same (lo : BitVec 64) : range lo lo = ⟨lo, 0#64⟩ := by
  unfold range
  rw [if_neg (by rw [BitVec.lt_def]; omega), if_pos rfl]
  show (⟨lo &&& ~~~0#64, 0#64⟩ : Tn) = _
  rw [BitVec.not_zero, BitVec.and_allOnes]
theorem range_bits {lo hi : BitVec 64} (h : ¬ hi < lo) : ∀ j, j < 64 → (range lo hi).m.getLsbD j = decide (j < bl (lo ^^^ hi)) ∧ (range lo hi).v.getLsbD j = (lo.getLsbD j && !decide (j < bl (lo ^^^ hi))) := by
  intro j hj
  by_cases e : lo = hi
  · subst e
    have : bl (lo ^^^ lo) = 0 := by rw [BitVec.xor_self]; rfl
    rw [this, range_same]
    simp [hj]
  · unfold range
    rw [if_neg h]
    have hb := bl_le (lo ^^^ hi)
    have : (64 - bl (lo ^^^ hi) + j < 64) ↔ j < bl (lo ^^^ hi) := by omega
    simp [e, hj, ones_bit, this]
theorem range_right {lo hi : BitVec 64} (h : ¬ hi < lo) : right (range lo hi) = true := right_iff.2 fun j hj => by
  rw [(range_bits h j hj).1, (range_bits h j hj).2]; cases lo.getLsbD j <;> simp
theorem range_has {lo hi n : BitVec 64} (h : ¬ hi < lo) (h1 : ¬ n < lo) (h2 : ¬ hi < n) : has (range lo hi) n = true := has_iff.2 fun j hj => by
  refine ⟨right_iff.1 (range_right h) j hj, ?_⟩
  rw [(range_bits h j hj).1, (range_bits h j hj).2]
  by_cases hk : j < bl (lo ^^^ hi)
  · simp [hk]
  · simp only [hk, decide_false, Bool.not_false, Bool.and_true]
    rw [BitVec.lt_def] at h h1 h2
    generalize hke : bl (lo ^^^ hi) = k at hk
    have hx : (lo ^^^ hi).toNat < 2 ^ k := by rw [← hke]; exact bl_lt _
    have hs : lo.toNat / 2 ^ k = hi.toNat / 2 ^ k := by
      apply Nat.eq_of_testBit_eq; intro i
      rw [Nat.testBit_div_two_pow, Nat.testBit_div_two_pow]
      have := Nat.testBit_lt_two_pow (Nat.lt_of_lt_of_le hx (Nat.pow_le_pow_right (n := 2) (by omega) (show k ≤ i + k by omega)))
      rw [BitVec.toNat_xor, Nat.testBit_xor] at this
      simpa using this
    have hn : n.toNat / 2 ^ k = lo.toNat / 2 ^ k := by
      have a1 : lo.toNat / 2 ^ k ≤ n.toNat / 2 ^ k := Nat.div_le_div_right (by omega)
      have a2 : n.toNat / 2 ^ k ≤ hi.toNat / 2 ^ k := Nat.div_le_div_right (by omega)
      omega
    have := congrArg (fun z => z.testBit (j - k)) hn
    simp only [Nat.testBit_div_two_pow] at this
    rw [show j - k + k = j by omega] at this
    exact this
theorem range_least {lo hi top : BitVec 64} {c : Tn} {i : Nat} (h : lo < hi) (ht : Top lo hi i top) (hc : ¬ lo < top &&& (top - 1#64)) (hl : has c lo = true) (h1 : has c top = true) (h2 : has c (top - 1#64) = true) : leq (range lo hi) c = true := by
  obtain ⟨p, hp, hd, hu⟩ := top_last ht hc
  have hnot : ¬ hi < lo := by rw [BitVec.lt_def] at h ⊢; omega
  have hk : bl (lo ^^^ hi) ≤ p + 1 := bl_bits fun j hj hpj => by simp [hu j hj (by omega)]
  refine leq_iff.2 fun j hj => ?_
  have a := has_iff.1 hl j hj; have b := has_iff.1 h1 j hj; have c' := has_iff.1 h2 j hj
  refine ⟨right_iff.1 (range_right hnot) j hj, a.1, ?_⟩
  rw [(range_bits hnot j hj).1, (range_bits hnot j hj).2]
  by_cases hj' : j < bl (lo ^^^ hi)
  · have hm : c.m.getLsbD j = true := by
      have d := hd j (by omega)
      have b2 := b.2; have c2 := c'.2
      rw [d] at c2
      revert b2 c2; cases c.m.getLsbD j <;> cases top.getLsbD j <;> cases c.v.getLsbD j <;> simp
    have a2 := a.2
    rw [hm] at a2 ⊢
    simp [hj'] at a2 ⊢
    exact a2
  · have a2 := a.2
    simp [hj'] at a2 ⊢
    exact a2
end T
end Go.Proofs.YtbiebicooaepfaaDoor
