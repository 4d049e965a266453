import Derived.Test.YtgfemfgimefmeaaGreatTnumV
import Derived.Lib.ItoaNum
namespace Go.Proofs.YtgfemfgimefmeaaGreat
open Go.RowKit
set_option linter.unusedSimpArgs false
set_option linter.unusedVariables false
/-! Plain laws of ranges: what they have, how they grow. -/
namespace T
theorem aux_lt : ∀ (f x : Nat), x < 2 ^ f → x < 2 ^ Lib.bitLenAux f x
  | 0, x, h => by simpa [Lib.bitLenAux] using h
  | f + 1, x, h => by
    unfold Lib.bitLenAux
    by_cases h0 : x = 0
    · rw [if_pos h0, h0]; decide
    · rw [if_neg h0]
      have := aux_lt f (x / 2) (by rw [Nat.pow_succ] at h; omega)
      rw [Nat.add_comm 1, Nat.pow_succ]; omega
theorem bl_lt (x : BitVec 64) : x.toNat < 2 ^ bl x := aux_lt 64 _ x.isLt
theorem bl_least {x : BitVec 64} {p : Nat} (h : x.toNat < 2 ^ p) : bl x ≤ p := Lib.bitLenAux_le 64 _ p h
theorem bl_bits {x : BitVec 64} {p : Nat} (h : ∀ j, j < 64 → p ≤ j → x.getLsbD j = false) : bl x ≤ p := by
  have hx : x.toNat < 2 ^ p := Nat.lt_pow_two_of_testBit _ fun j hj => by
    by_cases h64 : j < 64
    · exact h j h64 hj
    · exact Nat.testBit_lt_two_pow (Nat.lt_of_lt_of_le x.isLt (Nat.pow_le_pow_right (by omega) (by omega)))
  exact bl_least hx
theorem above_bl {x : BitVec 64} {j : Nat} (h : bl x ≤ j) : x.getLsbD j = false := Nat.testBit_lt_two_pow (Nat.lt_of_lt_of_le (bl_lt _) (Nat.pow_le_pow_right (by omega) h))
theorem ones_eq : (18446744073709551615#64 : BitVec 64) = BitVec.allOnes 64 := by decide
theorem ones_bit (i : Nat) : (18446744073709551615#64 : BitVec 64).getLsbD i = decide (i < 64) := by rw [ones_eq, BitVec.getLsbD_allOnes]
theorem range_same0 (lo : BitVec 64) : range lo lo = ⟨lo, 0#64⟩ := by
  unfold range
  rw [if_neg (by rw [BitVec.lt_def]; omega), if_pos rfl]
  show (⟨lo &&& ~~~0#64, 0#64⟩ : Tn) = _
  rw [BitVec.not_zero, BitVec.and_allOnes]
theorem range_bits {lo hi : BitVec 64} (h : ¬ hi < lo) : ∀ j, j < 64 → (range lo hi).m.getLsbD j = decide (j < bl (lo ^^^ hi)) ∧ (range lo hi).v.getLsbD j = (lo.getLsbD j && !decide (j < bl (lo ^^^ hi))) := by
  intro j hj
  by_cases e : lo = hi
  · subst e
    have : bl (lo ^^^ lo) = 0 := by rw [BitVec.xor_self]; rfl
    rw [this, range_same0]
    simp [hj]
  · unfold range
    rw [if_neg h]
    have hb := bl_le (lo ^^^ hi)
    have : (64 - bl (lo ^^^ hi) + j < 64) ↔ j < bl (lo ^^^ hi) := by omega
    simp [e, hj, ones_bit, this]
theorem range_right {lo hi : BitVec 64} (h : ¬ hi < lo) : right (range lo hi) = true := right_iff.2 fun j hj => by
  rw [(range_bits h j hj).1, (range_bits h j hj).2]; cases lo.getLsbD j <;> simp
theorem range_has {lo hi n : BitVec 64} (h : ¬ hi < lo) (h1 : ¬ n < lo) (h2 : ¬ hi < n) : has (range lo hi) n = true := has_iff.2 fun j hj => by
  refine ⟨right_iff.1 (range_right h) j hj, ?_⟩
  rw [(range_bits h j hj).1, (range_bits h j hj).2]
  by_cases hk : j < bl (lo ^^^ hi)
  · simp [hk]
  · simp only [hk, decide_false, Bool.not_false, Bool.and_true]
    rw [BitVec.lt_def] at h h1 h2
    generalize hke : bl (lo ^^^ hi) = k at hk
    have hx : (lo ^^^ hi).toNat < 2 ^ k := by rw [← hke]; exact bl_lt _
    have hs : lo.toNat / 2 ^ k = hi.toNat / 2 ^ k := by
      apply Nat.eq_of_testBit_eq; intro i
      rw [Nat.testBit_div_two_pow, Nat.testBit_div_two_pow]
      have := Nat.testBit_lt_two_pow (Nat.lt_of_lt_of_le hx (Nat.pow_le_pow_right (n := 2) (by omega) (show k ≤ i + k by omega)))
      rw [BitVec.toNat_xor, Nat.testBit_xor] at this
      simpa using this
    have hn : n.toNat / 2 ^ k = lo.toNat / 2 ^ k := by
      have a1 : lo.toNat / 2 ^ k ≤ n.toNat / 2 ^ k := Nat.div_le_div_right (by omega)
      have a2 : n.toNat / 2 ^ k ≤ hi.toNat / 2 ^ k := Nat.div_le_div_right (by omega)
      omega
    have := congrArg (fun z => z.testBit (j - k)) hn
    simp only [Nat.testBit_div_two_pow] at this
    rw [show j - k + k = j by omega] at this
    exact this
theorem range_mono {a b c d : BitVec 64} (h1 : c.toNat ≤ a.toNat) (h2 : a.toNat ≤ b.toNat) (h3 : b.toNat ≤ d.toNat) : leq (range a b) (range c d) = true := by
  have hab : ¬ b < a := by rw [BitVec.lt_def]; omega
  have hcd : ¬ d < c := by rw [BitVec.lt_def]; omega
  have ha := range_has (n := a) hcd (by rw [BitVec.lt_def]; omega) (by rw [BitVec.lt_def]; omega)
  have hb := range_has (n := b) hcd (by rw [BitVec.lt_def]; omega) (by rw [BitVec.lt_def]; omega)
  have rab := range_bits hab; have rcd := range_bits hcd
  have agree : ∀ j, j < 64 → bl (c ^^^ d) ≤ j → a.getLsbD j = b.getLsbD j := fun j hj hk => by
    have p := (has_bit ha j).2; have q := (has_bit hb j).2
    rw [(rcd j hj).1] at p q
    have : decide (j < bl (c ^^^ d)) = false := decide_eq_false (by omega)
    rw [this] at p q
    simp only [Bool.not_false, Bool.and_true] at p q
    rw [p, q]
  have hbl : bl (a ^^^ b) ≤ bl (c ^^^ d) := bl_bits fun j hj hk => by simp [agree j hj hk]
  rw [leq_iff]
  intro j hj
  obtain ⟨m1, v1⟩ := rab j hj; obtain ⟨m2, v2⟩ := rcd j hj
  have p := has_bit ha j
  refine ⟨right_bit (range_right hab) j, right_bit (range_right hcd) j, ?_, ?_⟩
  · rw [m1, m2]
    by_cases e : j < bl (a ^^^ b)
    · simp [show j < bl (c ^^^ d) by omega]
    · simp [e]
  · rw [← p.2, v1, m2]
    by_cases e : j < bl (c ^^^ d)
    · simp [e]
    · simp [e, show ¬ j < bl (a ^^^ b) by omega]
end T
end Go.Proofs.YtgfemfgimefmeaaGreat
