import Derived.Test.YtgfemfgimefmeaaGreatScalQ
namespace Go.Proofs.YtgfemfgimefmeaaGreat
open Go.RowKit
set_option linter.unusedSimpArgs false
set_option linter.unusedVariables false
set_option maxHeartbeats 1000000
/-! The lowest bytes of a word, of a scalar: plain laws. -/
namespace W
/-- The lowest k bits, with or without a sign. -/
def xt (a : BitVec 64) (k : Nat) (sg : Bool) : BitVec 64 := if sg && decide (2 ^ (k - 1) ≤ a.toNat % 2 ^ k) then BitVec.ofNat 64 (a.toNat % 2 ^ k + (2 ^ 64 - 2 ^ k)) else BitVec.ofNat 64 (a.toNat % 2 ^ k)
def extB (a : BitVec 64) (n : Int) (sg : Bool) : BitVec 64 × Bool := if n == 1 then (xt a 8 sg, true) else if n == 2 then (xt a 16 sg, true) else if n == 4 then (xt a 32 sg, true) else if n == 8 then (a, true) else (0#64, false)
theorem e_u8 (a : BitVec 64) : BitVec.ofInt 64 (IntKind.u8.wrap (uv a)) = BitVec.ofNat 64 (a.toNat % 2 ^ 8) := by
  apply BitVec.eq_of_toNat_eq
  have := a.isLt
  simp [IntKind.wrap, uv, IntKind.signed, IntKind.bits]
  omega
theorem x_f8 (a : BitVec 64) : BitVec.ofInt 64 (IntKind.u8.wrap (uv a)) = xt a 8 false := by rw [e_u8]; rfl
theorem x_t8 (a : BitVec 64) : BitVec.ofInt 64 ((IntKind.i64.wrap (sv (BitVec.ofInt 64 (IntKind.u8.wrap (uv a))) * 2 ^ min (IntKind.i64.wrap (64 - IntKind.i64.wrap (8 * 1))).toNat IntKind.i64.bits)).fdiv (2 ^ min (IntKind.i64.wrap (64 - IntKind.i64.wrap (8 * 1))).toNat IntKind.i64.bits)) = xt a 8 true := by
  have e1 : min (IntKind.i64.wrap (64 - IntKind.i64.wrap (8 * 1))).toNat IntKind.i64.bits = 56 := by decide
  rw [e1, e_u8]
  have hy : a.toNat % 2 ^ 8 < 2 ^ 8 := Nat.mod_lt _ (by decide)
  unfold xt
  generalize a.toNat % 2 ^ 8 = y at hy ⊢
  have e2 : sv (BitVec.ofNat 64 y) = (y : Int) := by
    unfold sv
    rw [BitVec.toInt_eq_toNat_cond, BitVec.toNat_ofNat]
    split <;> omega
  rw [e2]
  have hm : (y : Int) * 2 ^ 56 % 2 ^ 64 = (y : Int) * 2 ^ 56 := by omega
  apply BitVec.eq_of_toNat_eq
  simp only [IntKind.wrap, IntKind.signed, IntKind.bits, BitVec.toNat_ofInt, hm, Bool.true_and]
  rw [Int.fdiv_eq_ediv_of_nonneg _ (by decide)]
  by_cases h : 2 ^ (8 - 1) ≤ y
  · rw [if_pos (by simp; omega), if_pos (by simp; omega), BitVec.toNat_ofNat]
    omega
  · rw [if_neg (by simp; omega), if_neg (by simp; omega), BitVec.toNat_ofNat]
    omega
theorem y_cut8 (a : BitVec 64) : a % BitVec.ofInt 64 1 <<< (BitVec.ofInt 64 (IntKind.i64.wrap (8 * 1))).toNat = BitVec.ofNat 64 (a.toNat % 2 ^ 8) := by
  have e : BitVec.ofInt 64 1 <<< (BitVec.ofInt 64 (IntKind.i64.wrap (8 * 1))).toNat = BitVec.ofNat 64 (2 ^ 8) := by decide
  rw [e]
  apply BitVec.eq_of_toNat_eq
  have := a.isLt
  rw [BitVec.toNat_umod, BitVec.toNat_ofNat, BitVec.toNat_ofNat, Nat.mod_eq_of_lt (show 2 ^ 8 < 2 ^ 64 by decide)]
  omega
theorem y_f8 (a : BitVec 64) : a % BitVec.ofInt 64 1 <<< (BitVec.ofInt 64 (IntKind.i64.wrap (8 * 1))).toNat = xt a 8 false := by rw [y_cut8]; rfl
theorem y_neg8 (a : BitVec 64) : ((a % BitVec.ofInt 64 1 <<< (BitVec.ofInt 64 (IntKind.i64.wrap (8 * 1))).toNat) >>> (BitVec.ofInt 64 (IntKind.i64.wrap (IntKind.i64.wrap (8 * 1) - 1))).toNat &&& BitVec.ofInt 64 1 == BitVec.ofInt 64 1) = decide (2 ^ (8 - 1) ≤ a.toNat % 2 ^ 8) := by
  rw [y_cut8]
  have e : (BitVec.ofInt 64 (IntKind.i64.wrap (IntKind.i64.wrap (8 * 1) - 1))).toNat = 7 := by decide
  rw [e]
  have hy : a.toNat % 2 ^ 8 < 2 ^ 8 := Nat.mod_lt _ (by decide)
  generalize a.toNat % 2 ^ 8 = y at hy ⊢
  have e3 : ((BitVec.ofNat 64 y >>> 7 &&& BitVec.ofInt 64 1).toNat) = y / 2 ^ 7 % 2 := by
    rw [BitVec.toNat_and, show (BitVec.ofInt 64 1).toNat = 1 from rfl, Nat.and_one_is_mod, BitVec.toNat_ushiftRight, BitVec.toNat_ofNat, Nat.shiftRight_eq_div_pow]
    omega
  by_cases h : 2 ^ (8 - 1) ≤ y
  · rw [decide_eq_true h, beq_iff_eq]
    apply BitVec.eq_of_toNat_eq
    rw [e3, show (BitVec.ofInt 64 1).toNat = 1 from rfl]
    omega
  · rw [decide_eq_false h, beq_eq_false_iff_ne]
    intro hh
    have := congrArg BitVec.toNat hh
    rw [e3, show (BitVec.ofInt 64 1).toNat = 1 from rfl] at this
    omega
theorem y_t8 (a : BitVec 64) (h : decide (2 ^ (8 - 1) ≤ a.toNat % 2 ^ 8) = true) : a % BitVec.ofInt 64 1 <<< (BitVec.ofInt 64 (IntKind.i64.wrap (8 * 1))).toNat - BitVec.ofInt 64 1 <<< (BitVec.ofInt 64 (IntKind.i64.wrap (8 * 1))).toNat = xt a 8 true := by
  rw [y_cut8, show BitVec.ofInt 64 1 <<< (BitVec.ofInt 64 (IntKind.i64.wrap (8 * 1))).toNat = BitVec.ofNat 64 (2 ^ 8) by decide]
  unfold xt
  rw [h, if_pos (by rfl)]
  have hy : a.toNat % 2 ^ 8 < 2 ^ 8 := Nat.mod_lt _ (by decide)
  apply BitVec.eq_of_toNat_eq
  simp only [BitVec.toNat_sub, BitVec.toNat_ofNat]
  omega
theorem y_u8 (a : BitVec 64) (h : decide (2 ^ (8 - 1) ≤ a.toNat % 2 ^ 8) = false) : a % BitVec.ofInt 64 1 <<< (BitVec.ofInt 64 (IntKind.i64.wrap (8 * 1))).toNat = xt a 8 true := by
  rw [y_cut8]; unfold xt; rw [h]; rfl
theorem e_u16 (a : BitVec 64) : BitVec.ofInt 64 (IntKind.u16.wrap (uv a)) = BitVec.ofNat 64 (a.toNat % 2 ^ 16) := by
  apply BitVec.eq_of_toNat_eq
  have := a.isLt
  simp [IntKind.wrap, uv, IntKind.signed, IntKind.bits]
  omega
theorem x_f16 (a : BitVec 64) : BitVec.ofInt 64 (IntKind.u16.wrap (uv a)) = xt a 16 false := by rw [e_u16]; rfl
theorem x_t16 (a : BitVec 64) : BitVec.ofInt 64 ((IntKind.i64.wrap (sv (BitVec.ofInt 64 (IntKind.u16.wrap (uv a))) * 2 ^ min (IntKind.i64.wrap (64 - IntKind.i64.wrap (8 * 2))).toNat IntKind.i64.bits)).fdiv (2 ^ min (IntKind.i64.wrap (64 - IntKind.i64.wrap (8 * 2))).toNat IntKind.i64.bits)) = xt a 16 true := by
  have e1 : min (IntKind.i64.wrap (64 - IntKind.i64.wrap (8 * 2))).toNat IntKind.i64.bits = 48 := by decide
  rw [e1, e_u16]
  have hy : a.toNat % 2 ^ 16 < 2 ^ 16 := Nat.mod_lt _ (by decide)
  unfold xt
  generalize a.toNat % 2 ^ 16 = y at hy ⊢
  have e2 : sv (BitVec.ofNat 64 y) = (y : Int) := by
    unfold sv
    rw [BitVec.toInt_eq_toNat_cond, BitVec.toNat_ofNat]
    split <;> omega
  rw [e2]
  have hm : (y : Int) * 2 ^ 48 % 2 ^ 64 = (y : Int) * 2 ^ 48 := by omega
  apply BitVec.eq_of_toNat_eq
  simp only [IntKind.wrap, IntKind.signed, IntKind.bits, BitVec.toNat_ofInt, hm, Bool.true_and]
  rw [Int.fdiv_eq_ediv_of_nonneg _ (by decide)]
  by_cases h : 2 ^ (16 - 1) ≤ y
  · rw [if_pos (by simp; omega), if_pos (by simp; omega), BitVec.toNat_ofNat]
    omega
  · rw [if_neg (by simp; omega), if_neg (by simp; omega), BitVec.toNat_ofNat]
    omega
theorem y_cut16 (a : BitVec 64) : a % BitVec.ofInt 64 1 <<< (BitVec.ofInt 64 (IntKind.i64.wrap (8 * 2))).toNat = BitVec.ofNat 64 (a.toNat % 2 ^ 16) := by
  have e : BitVec.ofInt 64 1 <<< (BitVec.ofInt 64 (IntKind.i64.wrap (8 * 2))).toNat = BitVec.ofNat 64 (2 ^ 16) := by decide
  rw [e]
  apply BitVec.eq_of_toNat_eq
  have := a.isLt
  rw [BitVec.toNat_umod, BitVec.toNat_ofNat, BitVec.toNat_ofNat, Nat.mod_eq_of_lt (show 2 ^ 16 < 2 ^ 64 by decide)]
  omega
theorem y_f16 (a : BitVec 64) : a % BitVec.ofInt 64 1 <<< (BitVec.ofInt 64 (IntKind.i64.wrap (8 * 2))).toNat = xt a 16 false := by rw [y_cut16]; rfl
theorem y_neg16 (a : BitVec 64) : ((a % BitVec.ofInt 64 1 <<< (BitVec.ofInt 64 (IntKind.i64.wrap (8 * 2))).toNat) >>> (BitVec.ofInt 64 (IntKind.i64.wrap (IntKind.i64.wrap (8 * 2) - 1))).toNat &&& BitVec.ofInt 64 1 == BitVec.ofInt 64 1) = decide (2 ^ (16 - 1) ≤ a.toNat % 2 ^ 16) := by
  rw [y_cut16]
  have e : (BitVec.ofInt 64 (IntKind.i64.wrap (IntKind.i64.wrap (8 * 2) - 1))).toNat = 15 := by decide
  rw [e]
  have hy : a.toNat % 2 ^ 16 < 2 ^ 16 := Nat.mod_lt _ (by decide)
  generalize a.toNat % 2 ^ 16 = y at hy ⊢
  have e3 : ((BitVec.ofNat 64 y >>> 15 &&& BitVec.ofInt 64 1).toNat) = y / 2 ^ 15 % 2 := by
    rw [BitVec.toNat_and, show (BitVec.ofInt 64 1).toNat = 1 from rfl, Nat.and_one_is_mod, BitVec.toNat_ushiftRight, BitVec.toNat_ofNat, Nat.shiftRight_eq_div_pow]
    omega
  by_cases h : 2 ^ (16 - 1) ≤ y
  · rw [decide_eq_true h, beq_iff_eq]
    apply BitVec.eq_of_toNat_eq
    rw [e3, show (BitVec.ofInt 64 1).toNat = 1 from rfl]
    omega
  · rw [decide_eq_false h, beq_eq_false_iff_ne]
    intro hh
    have := congrArg BitVec.toNat hh
    rw [e3, show (BitVec.ofInt 64 1).toNat = 1 from rfl] at this
    omega
theorem y_t16 (a : BitVec 64) (h : decide (2 ^ (16 - 1) ≤ a.toNat % 2 ^ 16) = true) : a % BitVec.ofInt 64 1 <<< (BitVec.ofInt 64 (IntKind.i64.wrap (8 * 2))).toNat - BitVec.ofInt 64 1 <<< (BitVec.ofInt 64 (IntKind.i64.wrap (8 * 2))).toNat = xt a 16 true := by
  rw [y_cut16, show BitVec.ofInt 64 1 <<< (BitVec.ofInt 64 (IntKind.i64.wrap (8 * 2))).toNat = BitVec.ofNat 64 (2 ^ 16) by decide]
  unfold xt
  rw [h, if_pos (by rfl)]
  have hy : a.toNat % 2 ^ 16 < 2 ^ 16 := Nat.mod_lt _ (by decide)
  apply BitVec.eq_of_toNat_eq
  simp only [BitVec.toNat_sub, BitVec.toNat_ofNat]
  omega
theorem y_u16 (a : BitVec 64) (h : decide (2 ^ (16 - 1) ≤ a.toNat % 2 ^ 16) = false) : a % BitVec.ofInt 64 1 <<< (BitVec.ofInt 64 (IntKind.i64.wrap (8 * 2))).toNat = xt a 16 true := by
  rw [y_cut16]; unfold xt; rw [h]; rfl
theorem e_u32 (a : BitVec 64) : BitVec.ofInt 64 (IntKind.u32.wrap (uv a)) = BitVec.ofNat 64 (a.toNat % 2 ^ 32) := by
  apply BitVec.eq_of_toNat_eq
  have := a.isLt
  simp [IntKind.wrap, uv, IntKind.signed, IntKind.bits]
  omega
theorem x_f32 (a : BitVec 64) : BitVec.ofInt 64 (IntKind.u32.wrap (uv a)) = xt a 32 false := by rw [e_u32]; rfl
theorem x_t32 (a : BitVec 64) : BitVec.ofInt 64 ((IntKind.i64.wrap (sv (BitVec.ofInt 64 (IntKind.u32.wrap (uv a))) * 2 ^ min (IntKind.i64.wrap (64 - IntKind.i64.wrap (8 * 4))).toNat IntKind.i64.bits)).fdiv (2 ^ min (IntKind.i64.wrap (64 - IntKind.i64.wrap (8 * 4))).toNat IntKind.i64.bits)) = xt a 32 true := by
  have e1 : min (IntKind.i64.wrap (64 - IntKind.i64.wrap (8 * 4))).toNat IntKind.i64.bits = 32 := by decide
  rw [e1, e_u32]
  have hy : a.toNat % 2 ^ 32 < 2 ^ 32 := Nat.mod_lt _ (by decide)
  unfold xt
  generalize a.toNat % 2 ^ 32 = y at hy ⊢
  have e2 : sv (BitVec.ofNat 64 y) = (y : Int) := by
    unfold sv
    rw [BitVec.toInt_eq_toNat_cond, BitVec.toNat_ofNat]
    split <;> omega
  rw [e2]
  have hm : (y : Int) * 2 ^ 32 % 2 ^ 64 = (y : Int) * 2 ^ 32 := by omega
  apply BitVec.eq_of_toNat_eq
  simp only [IntKind.wrap, IntKind.signed, IntKind.bits, BitVec.toNat_ofInt, hm, Bool.true_and]
  rw [Int.fdiv_eq_ediv_of_nonneg _ (by decide)]
  by_cases h : 2 ^ (32 - 1) ≤ y
  · rw [if_pos (by simp; omega), if_pos (by simp; omega), BitVec.toNat_ofNat]
    omega
  · rw [if_neg (by simp; omega), if_neg (by simp; omega), BitVec.toNat_ofNat]
    omega
theorem y_cut32 (a : BitVec 64) : a % BitVec.ofInt 64 1 <<< (BitVec.ofInt 64 (IntKind.i64.wrap (8 * 4))).toNat = BitVec.ofNat 64 (a.toNat % 2 ^ 32) := by
  have e : BitVec.ofInt 64 1 <<< (BitVec.ofInt 64 (IntKind.i64.wrap (8 * 4))).toNat = BitVec.ofNat 64 (2 ^ 32) := by decide
  rw [e]
  apply BitVec.eq_of_toNat_eq
  have := a.isLt
  rw [BitVec.toNat_umod, BitVec.toNat_ofNat, BitVec.toNat_ofNat, Nat.mod_eq_of_lt (show 2 ^ 32 < 2 ^ 64 by decide)]
  omega
theorem y_f32 (a : BitVec 64) : a % BitVec.ofInt 64 1 <<< (BitVec.ofInt 64 (IntKind.i64.wrap (8 * 4))).toNat = xt a 32 false := by rw [y_cut32]; rfl
theorem y_neg32 (a : BitVec 64) : ((a % BitVec.ofInt 64 1 <<< (BitVec.ofInt 64 (IntKind.i64.wrap (8 * 4))).toNat) >>> (BitVec.ofInt 64 (IntKind.i64.wrap (IntKind.i64.wrap (8 * 4) - 1))).toNat &&& BitVec.ofInt 64 1 == BitVec.ofInt 64 1) = decide (2 ^ (32 - 1) ≤ a.toNat % 2 ^ 32) := by
  rw [y_cut32]
  have e : (BitVec.ofInt 64 (IntKind.i64.wrap (IntKind.i64.wrap (8 * 4) - 1))).toNat = 31 := by decide
  rw [e]
  have hy : a.toNat % 2 ^ 32 < 2 ^ 32 := Nat.mod_lt _ (by decide)
  generalize a.toNat % 2 ^ 32 = y at hy ⊢
  have e3 : ((BitVec.ofNat 64 y >>> 31 &&& BitVec.ofInt 64 1).toNat) = y / 2 ^ 31 % 2 := by
    rw [BitVec.toNat_and, show (BitVec.ofInt 64 1).toNat = 1 from rfl, Nat.and_one_is_mod, BitVec.toNat_ushiftRight, BitVec.toNat_ofNat, Nat.shiftRight_eq_div_pow]
    omega
  by_cases h : 2 ^ (32 - 1) ≤ y
  · rw [decide_eq_true h, beq_iff_eq]
    apply BitVec.eq_of_toNat_eq
    rw [e3, show (BitVec.ofInt 64 1).toNat = 1 from rfl]
    omega
  · rw [decide_eq_false h, beq_eq_false_iff_ne]
    intro hh
    have := congrArg BitVec.toNat hh
    rw [e3, show (BitVec.ofInt 64 1).toNat = 1 from rfl] at this
    omega
theorem y_t32 (a : BitVec 64) (h : decide (2 ^ (32 - 1) ≤ a.toNat % 2 ^ 32) = true) : a % BitVec.ofInt 64 1 <<< (BitVec.ofInt 64 (IntKind.i64.wrap (8 * 4))).toNat - BitVec.ofInt 64 1 <<< (BitVec.ofInt 64 (IntKind.i64.wrap (8 * 4))).toNat = xt a 32 true := by
  rw [y_cut32, show BitVec.ofInt 64 1 <<< (BitVec.ofInt 64 (IntKind.i64.wrap (8 * 4))).toNat = BitVec.ofNat 64 (2 ^ 32) by decide]
  unfold xt
  rw [h, if_pos (by rfl)]
  have hy : a.toNat % 2 ^ 32 < 2 ^ 32 := Nat.mod_lt _ (by decide)
  apply BitVec.eq_of_toNat_eq
  simp only [BitVec.toNat_sub, BitVec.toNat_ofNat]
  omega
theorem y_u32 (a : BitVec 64) (h : decide (2 ^ (32 - 1) ≤ a.toNat % 2 ^ 32) = false) : a % BitVec.ofInt 64 1 <<< (BitVec.ofInt 64 (IntKind.i64.wrap (8 * 4))).toNat = xt a 32 true := by
  rw [y_cut32]; unfold xt; rw [h]; rfl
theorem x_t64 (a : BitVec 64) : BitVec.ofInt 64 ((IntKind.i64.wrap (sv a * 2 ^ min (IntKind.i64.wrap (64 - IntKind.i64.wrap (8 * 8))).toNat IntKind.i64.bits)).fdiv (2 ^ min (IntKind.i64.wrap (64 - IntKind.i64.wrap (8 * 8))).toNat IntKind.i64.bits)) = a := by
  have e1 : min (IntKind.i64.wrap (64 - IntKind.i64.wrap (8 * 8))).toNat IntKind.i64.bits = 0 := by decide
  rw [e1]
  have := a.isLt
  apply BitVec.eq_of_toNat_eq
  unfold sv
  rw [BitVec.toInt_eq_toNat_cond, Int.fdiv_eq_ediv_of_nonneg _ (by decide)]
  simp only [IntKind.wrap, IntKind.signed, IntKind.bits, BitVec.toNat_ofInt, Bool.true_and, decide_eq_true_eq]
  split <;> split <;> omega
end W
namespace C
open S
theorem of_zero {t : Tn} {s : Sp} (h : (of t s).2 = false) : (of t s).1 = const (BitVec.ofInt 64 0) := by
  unfold of at h ⊢
  split at h
  · rename_i hc
    rw [if_pos hc]
    cases ht : tog ⟨t, s⟩ with
    | none => rfl
    | some y => rw [ht] at h; cases h
  · rename_i hc
    rw [if_neg hc]; rfl
theorem of_any {t : Tn} {s : Sp} (hi : R.inS s = true) : right (of t s).1 = true := by
  cases h : (of t s).2 with
  | true => exact of_right hi h
  | false => rw [of_zero h]; exact const_right _
/-- What lies under p, the bits l. -/
def cutG (x : Sc) (l : Tn) (p : BitVec 64) : Sc := if decide (x.s.hi < p) then x else (of l ⟨BitVec.ofInt 64 0, p - BitVec.ofInt 64 1, 0, sv (p - BitVec.ofInt 64 1)⟩).1
theorem sv_small {x : BitVec 64} (h : x.toNat < 9223372036854775808) : sv x = (x.toNat : Int) := by
  unfold sv; rw [BitVec.toInt_eq_toNat_cond]; split <;> omega
theorem sv_big {x : BitVec 64} (h : 9223372036854775808 ≤ x.toNat) : sv x = (x.toNat : Int) - 18446744073709551616 := by
  unfold sv; rw [BitVec.toInt_eq_toNat_cond]; have := x.isLt; split <;> omega
theorem topI (p : BitVec 64) : R.inS ⟨BitVec.ofInt 64 0, p - BitVec.ofInt 64 1, 0, sv (p - BitVec.ofInt 64 1)⟩ = true := S.inS_iff.2 ⟨⟨by show (-9223372036854775808 : Int) ≤ 0; decide, by show (0 : Int) ≤ 9223372036854775807; decide⟩, S.sv_in _⟩
theorem cutG_right {x : Sc} {l : Tn} {p : BitVec 64} (hr : right x = true) : right (cutG x l p) = true := by
  unfold cutG; split
  · exact hr
  · exact of_any (topI p)
theorem cutG_in {x : Sc} {l : Tn} {p : BitVec 64} (hi : R.inS x.s = true) : R.inS (cutG x l p).s = true := by
  unfold cutG; split
  · exact hi
  · exact of_in (topI p)
theorem xt_f (n : BitVec 64) (k : Nat) (hk : k ≤ 32) : (W.xt n k false).toNat = n.toNat % 2 ^ k := by
  have : n.toNat % 2 ^ k < 2 ^ k := Nat.mod_lt _ (Nat.two_pow_pos k)
  have h2 : 2 ^ k ≤ 2 ^ 32 := Nat.pow_le_pow_right (by decide) hk
  show (BitVec.ofNat 64 (n.toNat % 2 ^ k)).toNat = _
  rw [BitVec.toNat_ofNat]
  omega
theorem cutG_has {x : Sc} {l : Tn} {p n : BitVec 64} {k : Nat} (hk : k ≤ 32) (hp : p.toNat = 2 ^ k) (h : hasb x n = true) (hl : T.has l (W.xt n k false) = true) : hasb (cutG x l p) (W.xt n k false) = true := by
  obtain ⟨hr, hin⟩ := hasb_iff.1 h
  have e := xt_f n k hk
  have hm : n.toNat % 2 ^ k < 2 ^ k := Nat.mod_lt _ (Nat.two_pow_pos k)
  have h2 : 2 ^ k ≤ 2 ^ 32 := Nat.pow_le_pow_right (by decide) hk
  unfold cutG; split
  · rename_i hc
    have hc := of_decide_eq_true hc
    rw [BitVec.lt_def] at hc
    have := hin.hi
    have en : W.xt n k false = n := eq_toNat.2 (by rw [e]; exact Nat.mod_eq_of_lt (by omega))
    rw [en]; exact h
  · have hpp : (p - BitVec.ofInt 64 1).toNat = 2 ^ k - 1 := by
      rw [BitVec.toNat_sub, hp, show (BitVec.ofInt 64 1).toNat = 1 from rfl]
      have := Nat.two_pow_pos k
      omega
    have h3 := of_has (t := l) (s := ⟨BitVec.ofInt 64 0, p - BitVec.ofInt 64 1, 0, sv (p - BitVec.ofInt 64 1)⟩) (topI p) (W.xt n k false)
    have hs : S.has ⟨BitVec.ofInt 64 0, p - BitVec.ofInt 64 1, 0, sv (p - BitVec.ofInt 64 1)⟩ (W.xt n k false) = true := by
      rw [S.has_iff]
      refine ⟨Nat.zero_le _, Nat.le_refl _, ?_, ?_, Int.le_refl _, ?_⟩
      · show (W.xt n k false).toNat ≤ (p - BitVec.ofInt 64 1).toNat; rw [e, hpp]; omega
      · show (0 : Int) ≤ sv (W.xt n k false); rw [sv_small (by omega)]; omega
      · show sv (W.xt n k false) ≤ sv (p - BitVec.ofInt 64 1); rw [sv_small (by omega), sv_small (by omega), e, hpp]; omega
    rw [hl, hs] at h3
    have h3 := h3.symm
    rw [Bool.and_self, Bool.and_eq_true] at h3
    exact h3.2
/-- With a sign: it is the word without, or below nought. -/
theorem xt_t (n : BitVec 64) {k : Nat} (h0 : 0 < k) (hk : k ≤ 32) : ((W.xt n k false).toNat < 2 ^ (k - 1) ∧ W.xt n k true = W.xt n k false) ∨ (2 ^ (k - 1) ≤ (W.xt n k false).toNat ∧ (W.xt n k true).toNat = (W.xt n k false).toNat + (2 ^ 64 - 2 ^ k)) := by
  have e := xt_f n k hk
  have hm : n.toNat % 2 ^ k < 2 ^ k := Nat.mod_lt _ (Nat.two_pow_pos k)
  have h2 : 2 ^ k ≤ 2 ^ 32 := Nat.pow_le_pow_right (by decide) hk
  by_cases c : 2 ^ (k - 1) ≤ n.toNat % 2 ^ k
  · refine .inr ⟨by omega, ?_⟩
    have : W.xt n k true = BitVec.ofNat 64 (n.toNat % 2 ^ k + (2 ^ 64 - 2 ^ k)) := by unfold W.xt; rw [decide_eq_true c]; rfl
    rw [this, BitVec.toNat_ofNat, e]
    omega
  · refine .inl ⟨by omega, ?_⟩
    unfold W.xt; rw [decide_eq_false c]; rfl
theorem xt_idem (n : BitVec 64) {k : Nat} (hk : k ≤ 32) (sg : Bool) : W.xt (W.xt n k false) k sg = W.xt n k sg := by
  have e := xt_f n k hk
  unfold W.xt
  rw [show (if (false && decide (2 ^ (k - 1) ≤ n.toNat % 2 ^ k)) = true then BitVec.ofNat 64 (n.toNat % 2 ^ k + (2 ^ 64 - 2 ^ k)) else BitVec.ofNat 64 (n.toNat % 2 ^ k)) = W.xt n k false from rfl, e, Nat.mod_mod]
end C
end Go.Proofs.YtgfemfgimefmeaaGreat
