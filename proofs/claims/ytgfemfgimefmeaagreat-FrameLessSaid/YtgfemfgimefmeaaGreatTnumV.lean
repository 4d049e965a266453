import Derived.Test.YtgfemfgimefmeaaGreatTnumQ
import Derived.Lib.BitFns
import Derived.Lib.TrailingZeros
namespace Go.Proofs.YtgfemfgimefmeaaGreat
open Go.RowKit
set_option linter.unusedSimpArgs false
set_option linter.unusedVariables false
set_option maxHeartbeats 1000000

/-! Plain laws of tnums: orders bit by bit, ranges, soundness. No program in sight. -/
namespace T
/-- May a bit be something in the one that it may not be in the other? -/
def okl (a b : Tn) (i : Nat) : Bool := (may a i true && !may b i true) || (may a i false && !may b i false)
theorem leq_ok {a b : Tn} (ha : right a = true) (hb : right b = true) : leq a b = true ↔ ∀ i, i < 64 → okl a b i = false := by
  rw [leq_iff]
  constructor
  · intro h i hi
    have p := h i hi
    unfold okl may
    revert p; cases a.v.getLsbD i <;> cases a.m.getLsbD i <;> cases b.v.getLsbD i <;> cases b.m.getLsbD i <;> simp
  · intro h i hi
    have p := h i hi; have q := right_bit ha i; have r := right_bit hb i
    unfold okl may at p
    revert p q r; cases a.v.getLsbD i <;> cases a.m.getLsbD i <;> cases b.v.getLsbD i <;> cases b.m.getLsbD i <;> simp
theorem leq_no {a b : Tn} {i : Nat} (hi : i < 64) (h : okl a b i = true) : leq a b = false := by
  rw [Bool.eq_false_iff]; intro hl
  have hr : right a = true ∧ right b = true := by unfold leq at hl; simp only [Bool.and_eq_true] at hl; exact ⟨hl.1.1.1, hl.1.1.2⟩
  have := (leq_ok hr.1 hr.2).1 hl i hi
  rw [h] at this; cases this

/-! Ranges. -/
theorem low_mask : ∀ i : Fin 64, BitVec.allOnes 64 >>> (64 - (i.val + 1)) = (1#64 <<< i.val <<< 1) - 1#64 := by decide
theorem bl_of {x : BitVec 64} {i : Nat} (hi : i < 64) (h1 : x.getLsbD i = true) (h2 : ∀ k, i < k → k < 64 → x.getLsbD k = false) : bl x = i + 1 := by
  have ge : 2 ^ i ≤ x.toNat := Nat.ge_two_pow_of_testBit h1
  have lt : x.toNat < 2 ^ (i + 1) := by
    apply Nat.lt_pow_two_of_testBit
    intro k hk
    by_cases hk2 : k < 64
    · exact h2 k (by omega) hk2
    · exact Nat.testBit_lt_two_pow (Nat.lt_of_lt_of_le x.isLt (Nat.pow_le_pow_right (by omega) (by omega)))
  have e : x.toNat / 2 ^ i = 1 := by
    apply Nat.div_eq_of_lt_le
    · simpa using ge
    · rw [Nat.pow_succ] at lt; omega
  unfold bl
  rw [Lib.bitLen_shift i x.toNat ge x.isLt, e]
  rfl
theorem range_at {lo hi : BitVec 64} {i : Nat} (hi2 : i < 64) (hle : ¬ hi < lo) (h1 : (lo.getLsbD i != hi.getLsbD i) = true) (h2 : ∀ k, i < k → k < 64 → lo.getLsbD k = hi.getLsbD k) :
    range lo hi = ⟨lo &&& ~~~((1#64 <<< i <<< 1) - 1#64), (1#64 <<< i <<< 1) - 1#64⟩ := by
  have hne : lo ≠ hi := by rintro rfl; simp at h1
  have hb : bl (lo ^^^ hi) = i + 1 := bl_of hi2 (by simpa using h1) fun k hk hk2 => by simp [h2 k hk hk2]
  unfold range
  rw [if_neg hle]
  simp only [hne, if_false, hb]
  have e := low_mask ⟨i, hi2⟩
  simp only at e
  rw [e]
theorem range_same {lo hi : BitVec 64} (h2 : ∀ k, k < 64 → lo.getLsbD k = hi.getLsbD k) : range lo hi = ⟨lo, 0⟩ := by
  have e : lo = hi := ext64 h2
  subst e
  have h0 : ¬ lo < lo := by simp [BitVec.lt_def]
  unfold range
  rw [if_neg h0]
  simp only [if_true]
  congr 1
  apply ext64; intro i hi
  rw [BitVec.getLsbD_and, BitVec.getLsbD_not]; simp [hi]

/-! How many low bits are known. -/
theorem tz_of {m : BitVec 64} {n : Nat} (hn : n ≤ 64) (h : ∀ k, k < n → m.getLsbD k = false) (h2 : n = 64 ∨ m.getLsbD n = true) : tz m = n := by
  by_cases h0 : m = 0
  · subst h0
    have : n = 64 := by rcases h2 with h | h; exact h; simp at h
    subst this; rfl
  · have hne : m.toNat ≠ 0 := fun e => h0 (BitVec.eq_of_toNat_eq (by simpa using e))
    obtain ⟨q, hq, hlt⟩ := Lib.ctzFrom_spec 64 m.toNat (by omega) m.isLt
    have ht : tz m = Lib.ctzFrom 64 m.toNat := by unfold tz Lib.ctz; rw [if_neg hne]
    rw [ht]
    generalize Lib.ctzFrom 64 m.toNat = c at hq hlt
    have bc : m.getLsbD c = true := by
      show m.toNat.testBit c = true
      rw [hq, Nat.testBit_two_pow_mul]; simp
    have bl : ∀ k, k < c → m.getLsbD k = false := fun k hk => by
      show m.toNat.testBit k = false
      rw [hq, Nat.testBit_two_pow_mul]; simp; omega
    rcases Nat.lt_trichotomy c n with hc | hc | hc
    · rw [h c hc] at bc; cases bc
    · exact hc
    · rcases h2 with h2 | h2
      · omega
      · rw [bl n hc] at h2; cases h2
theorem tz_low {m : BitVec 64} {k : Nat} (h : k < tz m) : m.getLsbD k = false := by
  by_cases h0 : m = 0
  · subst h0; simp
  · have hne : m.toNat ≠ 0 := fun e => h0 (BitVec.eq_of_toNat_eq (by simpa using e))
    obtain ⟨q, hq, hlt⟩ := Lib.ctzFrom_spec 64 m.toNat (by omega) m.isLt
    have ht : tz m = Lib.ctzFrom 64 m.toNat := by unfold tz Lib.ctz; rw [if_neg hne]
    rw [ht] at h
    show m.toNat.testBit k = false
    rw [hq, Nat.testBit_two_pow_mul]; simp; omega
theorem not_low (n : Nat) (hn : n ≤ 64) : ~~~(BitVec.allOnes 64 <<< n) = (1#64 <<< n) - 1#64 := by
  have : ∀ n : Fin 65, ~~~(BitVec.allOnes 64 <<< n.val) = (1#64 <<< n.val) - 1#64 := by decide
  exact this ⟨n, by omega⟩

/-! Soundness. -/
theorem has_bit {t : Tn} {n : BitVec 64} (h : has t n = true) (i : Nat) : (t.v.getLsbD i && t.m.getLsbD i) = false ∧ (n.getLsbD i && !t.m.getLsbD i) = t.v.getLsbD i := by
  by_cases hi : i < 64
  · exact has_iff.1 h i hi
  · rw [BitVec.getLsbD_of_ge t.v i (by omega), BitVec.getLsbD_of_ge n i (by omega)]; exact ⟨rfl, rfl⟩
theorem has_right {t : Tn} {n : BitVec 64} (h : has t n = true) : right t = true := by unfold has at h; simp only [Bool.and_eq_true] at h; exact h.1
theorem carry_sum {a b : Tn} {p q : BitVec 64} (ha : has a p = true) (hb : has b q = true) : ∀ i, (BitVec.carry i a.v b.v false = true → BitVec.carry i p q false = true) ∧ (BitVec.carry i p q false = true → BitVec.carry i (a.v + a.m) (b.v + b.m) false = true)
  | 0 => by simp
  | i + 1 => by
    obtain ⟨h1, h2⟩ := carry_sum ha hb i
    simp only [BitVec.carry_succ, vm_bit (has_right ha), vm_bit (has_right hb)]
    have x := has_bit ha i; have y := has_bit hb i
    revert x y h1 h2
    generalize BitVec.carry i a.v b.v false = c
    generalize BitVec.carry i p q false = e
    generalize BitVec.carry i (a.v + a.m) (b.v + b.m) false = d
    generalize a.v.getLsbD i = av
    generalize a.m.getLsbD i = am
    generalize b.v.getLsbD i = bv
    generalize b.m.getLsbD i = bm
    generalize p.getLsbD i = p
    generalize q.getLsbD i = q
    revert c e d av am bv bm p q
    decide
theorem sum_sound {a b : Tn} {p q : BitVec 64} (ha : has a p = true) (hb : has b q = true) : has (sum a b) (p + q) = true := has_iff.2 fun i hi => by
  obtain ⟨h1, h2⟩ := carry_sum ha hb i
  have e : a.v + b.v + (a.m + b.m) = (a.v + a.m) + (b.v + b.m) := by
    rw [BitVec.add_assoc, BitVec.add_assoc, ← BitVec.add_assoc b.v, BitVec.add_comm b.v a.m, BitVec.add_assoc a.m]
  have x := has_bit ha i; have y := has_bit hb i
  simp only [sum, e, BitVec.getLsbD_and, BitVec.getLsbD_or, BitVec.getLsbD_xor, BitVec.getLsbD_not, hi, decide_true, Bool.true_and, BitVec.getLsbD_add hi a.v b.v, BitVec.getLsbD_add hi p q, BitVec.getLsbD_add hi (a.v + a.m) (b.v + b.m), vm_bit (has_right ha), vm_bit (has_right hb)]
  revert x y h1 h2
  generalize BitVec.carry i a.v b.v false = c
  generalize BitVec.carry i p q false = e
  generalize BitVec.carry i (a.v + a.m) (b.v + b.m) false = d
  generalize a.v.getLsbD i = av
  generalize a.m.getLsbD i = am
  generalize b.v.getLsbD i = bv
  generalize b.m.getLsbD i = bm
  generalize p.getLsbD i = p
  generalize q.getLsbD i = q
  clear hi
  revert c e d av am bv bm p q
  decide
theorem carry_dif {a b : Tn} {p q : BitVec 64} (ha : has a p = true) (hb : has b q = true) : ∀ i, i ≤ 64 → (BitVec.carry i a.v (~~~(b.v + b.m)) true = true → BitVec.carry i p (~~~q) true = true) ∧ (BitVec.carry i p (~~~q) true = true → BitVec.carry i (a.v + a.m) (~~~b.v) true = true) ∧
    (BitVec.carry i a.v (~~~(b.v + b.m)) true = true → BitVec.carry i a.v (~~~b.v) true = true) ∧ (BitVec.carry i a.v (~~~b.v) true = true → BitVec.carry i (a.v + a.m) (~~~b.v) true = true)
  | 0, _ => by simp
  | i + 1, hi => by
    obtain ⟨h1, h2, h3, h4⟩ := carry_dif ha hb i (by omega)
    simp only [BitVec.carry_succ, not_bit (show i < 64 by omega), vm_bit (has_right ha), vm_bit (has_right hb)]
    have x := has_bit ha i; have y := has_bit hb i
    refine ⟨?_, ?_, ?_, ?_⟩
    all_goals
      clear hi
      revert x y h1 h2 h3 h4
      generalize BitVec.carry i a.v (~~~b.v) true = f
      generalize BitVec.carry i a.v (~~~(b.v + b.m)) true = c
      generalize BitVec.carry i p (~~~q) true = e
      generalize BitVec.carry i (a.v + a.m) (~~~b.v) true = d
      generalize a.v.getLsbD i = av
      generalize a.m.getLsbD i = am
      generalize b.v.getLsbD i = bv
      generalize b.m.getLsbD i = bm
      generalize p.getLsbD i = p
      generalize q.getLsbD i = q
      revert f c e d av am bv bm p q
      decide
theorem dif_sound {a b : Tn} {p q : BitVec 64} (ha : has a p = true) (hb : has b q = true) : has (difference a b) (p - q) = true := has_iff.2 fun i hi => by
  obtain ⟨h1, h2, h3, h4⟩ := carry_dif ha hb i (by omega)
  have e1 : a.v - b.v + a.m = (a.v + a.m) - b.v := by
    rw [BitVec.sub_eq_add_neg, BitVec.sub_eq_add_neg, BitVec.add_assoc, BitVec.add_assoc, BitVec.add_comm (-b.v)]
  have e2 : a.v - b.v - b.m = a.v - (b.v + b.m) := by rw [BitVec.sub_sub]
  have x := has_bit ha i; have y := has_bit hb i
  simp only [difference, e1, e2, BitVec.getLsbD_and, BitVec.getLsbD_or, BitVec.getLsbD_xor, BitVec.getLsbD_not, hi, decide_true, Bool.true_and, sub_bit hi, vm_bit (has_right ha), vm_bit (has_right hb)]
  revert x y h1 h2 h3 h4
  generalize BitVec.carry i a.v (~~~b.v) true = f
  generalize BitVec.carry i a.v (~~~(b.v + b.m)) true = c
  generalize BitVec.carry i p (~~~q) true = e
  generalize BitVec.carry i (a.v + a.m) (~~~b.v) true = d
  generalize a.v.getLsbD i = av
  generalize a.m.getLsbD i = am
  generalize b.v.getLsbD i = bv
  generalize b.m.getLsbD i = bm
  generalize p.getLsbD i = p
  generalize q.getLsbD i = q
  clear hi
  revert f c e d av am bv bm p q
  decide
theorem and_sound {a b : Tn} {p q : BitVec 64} (ha : has a p = true) (hb : has b q = true) : has (and a b) (p &&& q) = true := has_iff.2 fun i hi => by
  have x := has_bit ha i; have y := has_bit hb i
  simp only [T.and, BitVec.getLsbD_and, BitVec.getLsbD_or, BitVec.getLsbD_not, hi, decide_true, Bool.true_and]
  revert x y
  cases a.v.getLsbD i <;> cases a.m.getLsbD i <;> cases b.v.getLsbD i <;> cases b.m.getLsbD i <;> cases p.getLsbD i <;> cases q.getLsbD i <;> simp
theorem or_sound {a b : Tn} {p q : BitVec 64} (ha : has a p = true) (hb : has b q = true) : has (or a b) (p ||| q) = true := has_iff.2 fun i hi => by
  have x := has_bit ha i; have y := has_bit hb i
  simp only [T.or, BitVec.getLsbD_and, BitVec.getLsbD_or, BitVec.getLsbD_not, hi, decide_true, Bool.true_and]
  revert x y
  cases a.v.getLsbD i <;> cases a.m.getLsbD i <;> cases b.v.getLsbD i <;> cases b.m.getLsbD i <;> cases p.getLsbD i <;> cases q.getLsbD i <;> simp
theorem xor_sound {a b : Tn} {p q : BitVec 64} (ha : has a p = true) (hb : has b q = true) : has (xor a b) (p ^^^ q) = true := has_iff.2 fun i hi => by
  have x := has_bit ha i; have y := has_bit hb i
  simp only [T.xor, BitVec.getLsbD_and, BitVec.getLsbD_or, BitVec.getLsbD_xor, BitVec.getLsbD_not, hi, decide_true, Bool.true_and]
  revert x y
  cases a.v.getLsbD i <;> cases a.m.getLsbD i <;> cases b.v.getLsbD i <;> cases b.m.getLsbD i <;> cases p.getLsbD i <;> cases q.getLsbD i <;> simp
theorem mod_of_bits {x y : BitVec 64} {n : Nat} (h : ∀ i, i < n → x.getLsbD i = y.getLsbD i) : x.toNat % 2 ^ n = y.toNat % 2 ^ n := by
  apply Nat.eq_of_testBit_eq
  intro i
  rw [Nat.testBit_mod_two_pow, Nat.testBit_mod_two_pow]
  by_cases hi : i < n
  · simp only [hi, decide_true, Bool.true_and]; exact h i hi
  · simp [hi]
theorem bits_of_mod {x y : BitVec 64} {n : Nat} (h : x.toNat % 2 ^ n = y.toNat % 2 ^ n) {i : Nat} (hi : i < n) : x.getLsbD i = y.getLsbD i := by
  have := congrArg (fun z => Nat.testBit z i) h
  simp only [Nat.testBit_mod_two_pow, hi, decide_true, Bool.true_and] at this
  exact this
theorem mul_low {p q v w : BitVec 64} {n : Nat} (hn : n ≤ 64) (h1 : ∀ i, i < n → p.getLsbD i = v.getLsbD i) (h2 : ∀ i, i < n → q.getLsbD i = w.getLsbD i) {i : Nat} (hi : i < n) : (p * q).getLsbD i = (v * w).getLsbD i := by
  apply bits_of_mod _ hi
  have d : 2 ^ n ∣ 2 ^ 64 := Nat.pow_dvd_pow 2 hn
  rw [BitVec.toNat_mul, BitVec.toNat_mul, Nat.mod_mod_of_dvd _ d, Nat.mod_mod_of_dvd _ d, Nat.mul_mod, mod_of_bits h1, mod_of_bits h2, ← Nat.mul_mod]
theorem product_sound {a b : Tn} {p q : BitVec 64} (ha : has a p = true) (hb : has b q = true) : has (product a b) (p * q) = true := by
  have hn : min (tz a.m) (tz b.m) ≤ 64 := by have := tz_le a.m; omega
  have h1 : ∀ i, i < min (tz a.m) (tz b.m) → p.getLsbD i = a.v.getLsbD i := fun i hi => by
    have := (has_bit ha i).2; rw [tz_low (show i < tz a.m by omega)] at this; simpa using this
  have h2 : ∀ i, i < min (tz a.m) (tz b.m) → q.getLsbD i = b.v.getLsbD i := fun i hi => by
    have := (has_bit hb i).2; rw [tz_low (show i < tz b.m by omega)] at this; simpa using this
  unfold product
  generalize hN : min (tz a.m) (tz b.m) = n at *
  refine has_iff.2 fun i hi => ?_
  by_cases hlt : i < n
  · have := mul_low hn h1 h2 hlt
    simp only [BitVec.getLsbD_and, BitVec.getLsbD_not, BitVec.getLsbD_shiftLeft, hi, hlt, this, decide_true, Bool.true_and, Bool.not_true, Bool.false_and, Bool.not_false, Bool.and_true, Bool.and_false]
    simp
  · simp only [BitVec.getLsbD_and, BitVec.getLsbD_not, BitVec.getLsbD_shiftLeft, BitVec.getLsbD_allOnes, hi, hlt, decide_true, decide_false, Bool.true_and, Bool.not_false, Bool.not_true, Bool.and_true, Bool.and_false, show i - n < 64 by omega]
    simp
theorem has_some (v m x : BitVec 64) : has ⟨v &&& ~~~m, m⟩ (x &&& m ||| (v &&& ~~~m)) = true := has_iff.2 fun i hi => by
  simp only [BitVec.getLsbD_and, BitVec.getLsbD_or, BitVec.getLsbD_not, hi, decide_true, Bool.true_and]
  cases v.getLsbD i <;> cases m.getLsbD i <;> cases x.getLsbD i <;> simp
end T
end Go.Proofs.YtgfemfgimefmeaaGreat
