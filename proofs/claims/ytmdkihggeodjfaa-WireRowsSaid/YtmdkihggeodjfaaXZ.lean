import Derived.Test.YtmdkihggeodjfaaXW
namespace Go.Proofs.Ytmdkihggeodjfaa
open Go.RowKit Go.Sx
set_option linter.unusedSimpArgs false
set_option linter.unusedVariables false
set_option linter.unnecessarySimpa false
set_option maxRecDepth 100000
set_option maxHeartbeats 4000000
theorem wrap8_mod (n : Int) : IntKind.u8.wrap n = n % 256 := by simp [IntKind.wrap, IntKind.bits, IntKind.signed]
theorem low_snoc : ∀ (v : BitVec 64) (m : Nat), Tr.low v (m + 1) = Tr.low (v >>> 8) m ++ [IntKind.u8.wrap (uv v)]
  | v, 0 => by simp [Tr.low]
  | v, m + 1 => by
    rw [Tr.low, low_snoc v m, Tr.low, List.cons_append, ← BitVec.shiftRight_add]
    congr 4; omega
theorem zig_pos (m : Nat) (h : m < 9223372036854775808) : Tr.zig (m : Int) = BitVec.ofNat 64 (2 * m) := by
  have e : (m : Int).fdiv (2 ^ min (BitVec.ofInt 64 63).toNat IntKind.i64.bits) = 0 := by
    rw [show (2 ^ min (BitVec.ofInt 64 63).toNat IntKind.i64.bits : Int) = 9223372036854775808 by rfl, Int.fdiv_eq_ediv_of_nonneg _ (by omega)]
    omega
  unfold Tr.zig
  rw [e, BitVec.ofInt_natCast, show BitVec.ofInt 64 0 = 0#64 from rfl]
  apply BitVec.eq_of_toNat_eq
  simp only [BitVec.xor_zero, BitVec.toNat_shiftLeft, BitVec.toNat_ofNat, show (BitVec.ofInt 64 1).toNat = 1 from rfl, Nat.shiftLeft_eq]
  omega
theorem zig_neg (m : Nat) (h : m < 9223372036854775808) : Tr.zig (-1 - (m : Int)) = BitVec.ofNat 64 (2 * m + 1) := by
  have e : (-1 - (m : Int)).fdiv (2 ^ min (BitVec.ofInt 64 63).toNat IntKind.i64.bits) = -1 := by
    rw [show (2 ^ min (BitVec.ofInt 64 63).toNat IntKind.i64.bits : Int) = 9223372036854775808 by rfl, Int.fdiv_eq_ediv_of_nonneg _ (by omega)]
    omega
  unfold Tr.zig
  rw [e]
  rw [show BitVec.ofInt 64 (-1) = BitVec.allOnes 64 from rfl, BitVec.xor_allOnes]
  apply BitVec.eq_of_toNat_eq
  simp only [BitVec.toNat_not, BitVec.toNat_shiftLeft, BitVec.toNat_ofNat, BitVec.toNat_ofInt, show (BitVec.ofInt 64 1).toNat = 1 from rfl, Nat.shiftLeft_eq]
  omega
theorem bl_mono_nat : ∀ (n x y : Nat), x ≤ y → y < 2 ^ 64 → x ≤ n → Lib.bitLen x ≤ Lib.bitLen y := by
  intro n
  induction n with
  | zero => intro x y _ _ h; rw [show x = 0 by omega]; exact Nat.zero_le _
  | succ n ih =>
    intro x y hxy hy hn
    by_cases h0 : x = 0
    · rw [h0]; exact Nat.zero_le _
    · rw [Lib.bitLen_half x h0 (by omega), Lib.bitLen_half y (by omega) hy]
      have := ih (x / 2) (y / 2) (by omega) (by omega) (by omega)
      omega
theorem bl_half (m : Nat) (h0 : m ≠ 0) (h : m < 9223372036854775808) : Lib.bitLen (2 * m + 1) = Lib.bitLen (2 * m) := by
  rw [Lib.bitLen_half (2 * m + 1) (by omega) (by omega), Lib.bitLen_half (2 * m) (by omega) (by omega)]
  congr 2; omega
theorem head_len (v : BitVec 64) : (Tr.head 1 v).length = if v.toNat < 56 then 1 else Tr.many v + 1 := by
  unfold Tr.head
  have e : (v < BitVec.ofInt 64 56) ↔ (v.toNat < 56) := by rw [BitVec.lt_def]; exact Iff.rfl
  by_cases h : v.toNat < 56
  · rw [decide_eq_true (e.2 h), if_pos rfl, if_pos h]; rfl
  · rw [decide_eq_false (fun hh => h (e.1 hh)), if_neg (by decide), if_neg h, List.length_cons, Tr.low_length]
theorem many_pos (v : BitVec 64) (h : 56 ≤ v.toNat) : 1 ≤ Tr.many v := by
  have := bl_mono_nat _ 1 v.toNat (by omega) v.isLt (Nat.le_refl _)
  have e : Lib.bitLen 1 = 1 := rfl
  unfold Tr.many bl; omega
/-- A number's bytes. -/
def nb (n : Int) : List Int := Tr.head 1 (Tr.zig n)
theorem nb_mono {x y : Int} (h0 : 0 ≤ x) (h : x ≤ y) (h1 : y ≤ 9223372036854775807) : (nb x).length ≤ (nb y).length := by
  obtain ⟨a, rfl⟩ := Int.eq_ofNat_of_zero_le h0
  obtain ⟨b, rfl⟩ := Int.eq_ofNat_of_zero_le (Int.le_trans h0 h)
  unfold nb
  rw [zig_pos a (by omega), zig_pos b (by omega), head_len, head_len]
  simp only [BitVec.toNat_ofNat, Nat.mod_eq_of_lt (show 2 * a < 2 ^ 64 by omega), Nat.mod_eq_of_lt (show 2 * b < 2 ^ 64 by omega)]
  have := bl_mono_nat _ (2 * a) (2 * b) (by omega) (by omega) (Nat.le_refl _)
  have : Tr.many (BitVec.ofNat 64 (2 * a)) ≤ Tr.many (BitVec.ofNat 64 (2 * b)) := by
    unfold Tr.many bl
    simp only [BitVec.toNat_ofNat, Nat.mod_eq_of_lt (show 2 * a < 2 ^ 64 by omega), Nat.mod_eq_of_lt (show 2 * b < 2 ^ 64 by omega)]
    omega
  split <;> split <;> omega
theorem nb_le (n : Int) : (nb n).length ≤ 9 := by
  have := Tr.many_le (Tr.zig n)
  unfold nb; rw [head_len]; split <;> omega
theorem small28 : ∀ m : Fin 28, Tr.head 1 (BitVec.ofNat 64 (2 * m.val)) = [((2 * m.val : Nat) : Int)] ∧ Tr.head 1 (BitVec.ofNat 64 (2 * m.val + 1)) = [((2 * m.val + 1 : Nat) : Int)] := by decide +kernel
theorem pair (m : Nat) (h : m < 9223372036854775808) : ∃ (p : List Int) (x : Nat), x < 128 ∧ p.length ≤ 8 ∧ Tr.head 1 (BitVec.ofNat 64 (2 * m)) = p ++ [((2 * x : Nat) : Int)] ∧ Tr.head 1 (BitVec.ofNat 64 (2 * m + 1)) = p ++ [((2 * x + 1 : Nat) : Int)] := by
  by_cases hm : m < 28
  · exact ⟨[], m, by omega, by simp, by simpa using (small28 ⟨m, hm⟩).1, by simpa using (small28 ⟨m, hm⟩).2⟩
  · have n0 : (BitVec.ofNat 64 (2 * m)).toNat = 2 * m := by rw [BitVec.toNat_ofNat]; omega
    have n1 : (BitVec.ofNat 64 (2 * m + 1)).toNat = 2 * m + 1 := by rw [BitVec.toNat_ofNat]; omega
    have l0 : ¬ (BitVec.ofNat 64 (2 * m) < BitVec.ofInt 64 56) := by rw [BitVec.lt_def, n0]; show ¬ (_ < 56); omega
    have l1 : ¬ (BitVec.ofNat 64 (2 * m + 1) < BitVec.ofInt 64 56) := by rw [BitVec.lt_def, n1]; show ¬ (_ < 56); omega
    have hk : Tr.many (BitVec.ofNat 64 (2 * m + 1)) = Tr.many (BitVec.ofNat 64 (2 * m)) := by
      unfold Tr.many bl; rw [n0, n1, bl_half m (by omega) h]
    have hp := many_pos (BitVec.ofNat 64 (2 * m)) (by rw [n0]; omega)
    have h8 := Tr.many_le (BitVec.ofNat 64 (2 * m))
    obtain ⟨K, hK⟩ : ∃ K, Tr.many (BitVec.ofNat 64 (2 * m)) = K + 1 := ⟨Tr.many (BitVec.ofNat 64 (2 * m)) - 1, by omega⟩
    have hs : BitVec.ofNat 64 (2 * m + 1) >>> 8 = BitVec.ofNat 64 (2 * m) >>> 8 := by
      apply BitVec.eq_of_toNat_eq
      rw [BitVec.toNat_ushiftRight, BitVec.toNat_ushiftRight, n0, n1, Nat.shiftRight_eq_div_pow, Nat.shiftRight_eq_div_pow]; omega
    refine ⟨Tr.top 1 (55 + (Tr.many (BitVec.ofNat 64 (2 * m)) : Int)) :: Tr.low (BitVec.ofNat 64 (2 * m) >>> 8) K, m % 128, by omega, by rw [List.length_cons, Tr.low_length]; omega, ?_, ?_⟩
    · unfold Tr.head
      rw [decide_eq_false l0, hK, low_snoc, wrap8_mod]
      unfold uv; rw [n0]
      simp only [Bool.false_eq_true, if_false, List.cons_append]
      congr 3; omega
    · unfold Tr.head
      rw [decide_eq_false l1, hk, hK, low_snoc, hs, wrap8_mod]
      unfold uv; rw [n1]
      simp only [Bool.false_eq_true, if_false, List.cons_append]
      congr 3; omega
theorem xor1 : ∀ x : Fin 128, Go.bits .xor .u8 ((2 * x.val : Nat) : Int) ((2 * x.val + 1 : Nat) : Int) = 1 ∧ Go.bits .xor .u8 ((2 * x.val + 1 : Nat) : Int) ((2 * x.val : Nat) : Int) = 1 := by decide +kernel
/-- A number and its counterpart differ in the last byte's lowest bit alone. -/
theorem nb_pair (a : Int) (h0 : -9223372036854775808 ≤ a) (h1 : a ≤ 9223372036854775807) : ∃ (p : List Int) (x y : Int), p.length ≤ 8 ∧ nb a = p ++ [x] ∧ nb (-1 - a) = p ++ [y] ∧ Go.bits .xor .u8 x y = 1 := by
  by_cases h : 0 ≤ a
  · obtain ⟨m, rfl⟩ := Int.eq_ofNat_of_zero_le h
    obtain ⟨p, x, hx, hp, e0, e1⟩ := pair m (by omega)
    refine ⟨p, _, _, hp, by unfold nb; rw [show ((m : Nat) : Int) = (m : Int) from rfl, zig_pos m (by omega)]; exact e0, by unfold nb; rw [zig_neg m (by omega)]; exact e1, (xor1 ⟨x, hx⟩).1⟩
  · obtain ⟨m, hm⟩ := Int.eq_ofNat_of_zero_le (show 0 ≤ -1 - a by omega)
    obtain ⟨p, x, hx, hp, e0, e1⟩ := pair m (by omega)
    have ea : a = -1 - (m : Int) := by omega
    refine ⟨p, _, _, hp, by unfold nb; rw [ea, zig_neg m (by omega)]; exact e1, by unfold nb; rw [hm, zig_pos m (by omega)]; exact e0, (xor1 ⟨x, hx⟩).2⟩
theorem puts_A (n : Int) : (tA n).puts = (nb n, 0) := by
  unfold Tr.puts
  rw [show (tA n).right = true from rfl, show (tA n).within 16 = true from rfl, if_pos rfl, if_pos rfl, Tr.put_eq]
  rfl
end Go.Proofs.Ytmdkihggeodjfaa
