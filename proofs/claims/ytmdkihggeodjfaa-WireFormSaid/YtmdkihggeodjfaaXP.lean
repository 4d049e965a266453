import Derived.Test.YtmdkihggeodjfaaXW
namespace Go.Proofs.Ytmdkihggeodjfaa
open Go.RowKit Go.Sx
set_option linter.unusedSimpArgs false
set_option linter.unusedVariables false
set_option linter.unnecessarySimpa false
set_option maxRecDepth 100000
set_option maxHeartbeats 4000000
theorem wrap8_mod (n : Int) : IntKind.u8.wrap n = n % 256 := by simp [IntKind.wrap, IntKind.bits, IntKind.signed]
theorem low_snoc : ∀ (v : BitVec 64) (m : Nat), Tr.low v (m + 1) = Tr.low (v >>> 8) m ++ [IntKind.u8.wrap (uv v)]
  | v, 0 => by simp [Tr.low]
  | v, m + 1 => by
    rw [Tr.low, low_snoc v m, Tr.low, List.cons_append, ← BitVec.shiftRight_add]
    congr 4; omega
theorem zig_pos (m : Nat) (h : m < 9223372036854775808) : Tr.zig (m : Int) = BitVec.ofNat 64 (2 * m) := by
  have e : (m : Int).fdiv (2 ^ min (BitVec.ofInt 64 63).toNat IntKind.i64.bits) = 0 := by
    rw [show (2 ^ min (BitVec.ofInt 64 63).toNat IntKind.i64.bits : Int) = 9223372036854775808 by rfl, Int.fdiv_eq_ediv_of_nonneg _ (by omega)]
    omega
  unfold Tr.zig
  rw [e, BitVec.ofInt_natCast, show BitVec.ofInt 64 0 = 0#64 from rfl]
  apply BitVec.eq_of_toNat_eq
  simp only [BitVec.xor_zero, BitVec.toNat_shiftLeft, BitVec.toNat_ofNat, show (BitVec.ofInt 64 1).toNat = 1 from rfl, Nat.shiftLeft_eq]
  omega
theorem zig_neg (m : Nat) (h : m < 9223372036854775808) : Tr.zig (-1 - (m : Int)) = BitVec.ofNat 64 (2 * m + 1) := by
  have e : (-1 - (m : Int)).fdiv (2 ^ min (BitVec.ofInt 64 63).toNat IntKind.i64.bits) = -1 := by
    rw [show (2 ^ min (BitVec.ofInt 64 63).toNat IntKind.i64.bits : Int) = 9223372036854775808 by rfl, Int.fdiv_eq_ediv_of_nonneg _ (by omega)]
    omega
  unfold Tr.zig
  rw [e]
  rw [show BitVec.ofInt 64 (-1) = BitVec.allOnes 64 from rfl, BitVec.xor_allOnes]
  apply BitVec.eq_of_toNat_eq
  simp only [BitVec.toNat_not, BitVec.toNat_shiftLeft, BitVec.toNat_ofNat, BitVec.toNat_ofInt, show (BitVec.ofInt 64 1).toNat = 1 from rfl, Nat.shiftLeft_eq]
  omega
theorem bl_mono_nat : ∀ (n x y : Nat), x ≤ y → y < 2 ^ 64 → x ≤ n → Lib.bitLen x ≤ Lib.bitLen y := by
  intro n
  induction n with
  | zero => intro x y _ _ h; rw [show x = 0 by omega]; exact Nat.zero_le _
  | succ n ih =>
    intro x y hxy hy hn
    by_cases h0 : x = 0
    · rw [h0]; exact Nat.zero_le _
    · rw [Lib.bitLen_half x h0 (by omega), Lib.bitLen_half y (by omega) hy]
      have := ih (x / 2) (y / 2) (by omega) (by omega) (by omega)
      omega
theorem bl_half (m : Nat) (h0 : m ≠ 0) (h : m < 9223372036854775808) : Lib.bitLen (2 * m + 1) = Lib.bitLen (2 * m) := by
  rw [Lib.bitLen_half (2 * m + 1) (by omega) (by omega), Lib.bitLen_half (2 * m) (by omega) (by omega)]
  congr 2; omega
theorem head_len (v : BitVec 64) : (Tr.head 1 v).length = if v.toNat < 56 then 1 else Tr.many v + 1 := by
  unfold Tr.head
  have e : (v < BitVec.ofInt 64 56) ↔ (v.toNat < 56) := by rw [BitVec.lt_def]; exact Iff.rfl
  by_cases h : v.toNat < 56
  · rw [decide_eq_true (e.2 h), if_pos rfl, if_pos h]; rfl
  · rw [decide_eq_false (fun hh => h (e.1 hh)), if_neg (by decide), if_neg h, List.length_cons, Tr.low_length]
theorem many_pos (v : BitVec 64) (h : 56 ≤ v.toNat) : 1 ≤ Tr.many v := by
  have := bl_mono_nat _ 1 v.toNat (by omega) v.isLt (Nat.le_refl _)
  have e : Lib.bitLen 1 = 1 := rfl
  unfold Tr.many bl; omega
/-- A number's bytes. -/
def nb (n : Int) : List Int := Tr.head 1 (Tr.zig n)
theorem nb_mono {x y : Int} (h0 : 0 ≤ x) (h : x ≤ y) (h1 : y ≤ 9223372036854775807) : (nb x).length ≤ (nb y).length := by
  obtain ⟨a, rfl⟩ := Int.eq_ofNat_of_zero_le h0
  obtain ⟨b, rfl⟩ := Int.eq_ofNat_of_zero_le (Int.le_trans h0 h)
  unfold nb
  rw [zig_pos a (by omega), zig_pos b (by omega), head_len, head_len]
  simp only [BitVec.toNat_ofNat, Nat.mod_eq_of_lt (show 2 * a < 2 ^ 64 by omega), Nat.mod_eq_of_lt (show 2 * b < 2 ^ 64 by omega)]
  have := bl_mono_nat _ (2 * a) (2 * b) (by omega) (by omega) (Nat.le_refl _)
  have : Tr.many (BitVec.ofNat 64 (2 * a)) ≤ Tr.many (BitVec.ofNat 64 (2 * b)) := by
    unfold Tr.many bl
    simp only [BitVec.toNat_ofNat, Nat.mod_eq_of_lt (show 2 * a < 2 ^ 64 by omega), Nat.mod_eq_of_lt (show 2 * b < 2 ^ 64 by omega)]
    omega
  split <;> split <;> omega
theorem nb_le (n : Int) : (nb n).length ≤ 9 := by
  have := Tr.many_le (Tr.zig n)
  unfold nb; rw [head_len]; split <;> omega
theorem small28 : ∀ m : Fin 28, Tr.head 1 (BitVec.ofNat 64 (2 * m.val)) = [((2 * m.val : Nat) : Int)] ∧ Tr.head 1 (BitVec.ofNat 64 (2 * m.val + 1)) = [((2 * m.val + 1 : Nat) : Int)] := by decide +kernel
theorem pair (m : Nat) (h : m < 9223372036854775808) : ∃ (p : List Int) (x : Nat), x < 128 ∧ p.length ≤ 8 ∧ Tr.head 1 (BitVec.ofNat 64 (2 * m)) = p ++ [((2 * x : Nat) : Int)] ∧ Tr.head 1 (BitVec.ofNat 64 (2 * m + 1)) = p ++ [((2 * x + 1 : Nat) : Int)] := by
  by_cases hm : m < 28
  · exact ⟨[], m, by omega, by simp, by simpa using (small28 ⟨m, hm⟩).1, by simpa using (small28 ⟨m, hm⟩).2⟩
  · have n0 : (BitVec.ofNat 64 (2 * m)).toNat = 2 * m := by rw [BitVec.toNat_ofNat]; omega
    have n1 : (BitVec.ofNat 64 (2 * m + 1)).toNat = 2 * m + 1 := by rw [BitVec.toNat_ofNat]; omega
    have l0 : ¬ (BitVec.ofNat 64 (2 * m) < BitVec.ofInt 64 56) := by rw [BitVec.lt_def, n0]; show ¬ (_ < 56); omega
    have l1 : ¬ (BitVec.ofNat 64 (2 * m + 1) < BitVec.ofInt 64 56) := by rw [BitVec.lt_def, n1]; show ¬ (_ < 56); omega
    have hk : Tr.many (BitVec.ofNat 64 (2 * m + 1)) = Tr.many (BitVec.ofNat 64 (2 * m)) := by
      unfold Tr.many bl; rw [n0, n1, bl_half m (by omega) h]
    have hp := many_pos (BitVec.ofNat 64 (2 * m)) (by rw [n0]; omega)
    have h8 := Tr.many_le (BitVec.ofNat 64 (2 * m))
    obtain ⟨K, hK⟩ : ∃ K, Tr.many (BitVec.ofNat 64 (2 * m)) = K + 1 := ⟨Tr.many (BitVec.ofNat 64 (2 * m)) - 1, by omega⟩
    have hs : BitVec.ofNat 64 (2 * m + 1) >>> 8 = BitVec.ofNat 64 (2 * m) >>> 8 := by
      apply BitVec.eq_of_toNat_eq
      rw [BitVec.toNat_ushiftRight, BitVec.toNat_ushiftRight, n0, n1, Nat.shiftRight_eq_div_pow, Nat.shiftRight_eq_div_pow]; omega
    refine ⟨Tr.top 1 (55 + (Tr.many (BitVec.ofNat 64 (2 * m)) : Int)) :: Tr.low (BitVec.ofNat 64 (2 * m) >>> 8) K, m % 128, by omega, by rw [List.length_cons, Tr.low_length]; omega, ?_, ?_⟩
    · unfold Tr.head
      rw [decide_eq_false l0, hK, low_snoc, wrap8_mod]
      unfold uv; rw [n0]
      simp only [Bool.false_eq_true, if_false, List.cons_append]
      congr 3; omega
    · unfold Tr.head
      rw [decide_eq_false l1, hk, hK, low_snoc, hs, wrap8_mod]
      unfold uv; rw [n1]
      simp only [Bool.false_eq_true, if_false, List.cons_append]
      congr 3; omega
theorem xor1 : ∀ x : Fin 128, Go.bits .xor .u8 ((2 * x.val : Nat) : Int) ((2 * x.val + 1 : Nat) : Int) = 1 ∧ Go.bits .xor .u8 ((2 * x.val + 1 : Nat) : Int) ((2 * x.val : Nat) : Int) = 1 := by decide +kernel
/-- A number and its counterpart differ in the last byte's lowest bit alone. -/
theorem nb_pair (a : Int) (h0 : -9223372036854775808 ≤ a) (h1 : a ≤ 9223372036854775807) : ∃ (p : List Int) (x y : Int), p.length ≤ 8 ∧ nb a = p ++ [x] ∧ nb (-1 - a) = p ++ [y] ∧ Go.bits .xor .u8 x y = 1 := by
  by_cases h : 0 ≤ a
  · obtain ⟨m, rfl⟩ := Int.eq_ofNat_of_zero_le h
    obtain ⟨p, x, hx, hp, e0, e1⟩ := pair m (by omega)
    refine ⟨p, _, _, hp, by unfold nb; rw [show ((m : Nat) : Int) = (m : Int) from rfl, zig_pos m (by omega)]; exact e0, by unfold nb; rw [zig_neg m (by omega)]; exact e1, (xor1 ⟨x, hx⟩).1⟩
  · obtain ⟨m, hm⟩ := Int.eq_ofNat_of_zero_le (show 0 ≤ -1 - a by omega)
    obtain ⟨p, x, hx, hp, e0, e1⟩ := pair m (by omega)
    have ea : a = -1 - (m : Int) := by omega
    refine ⟨p, _, _, hp, by unfold nb; rw [ea, zig_neg m (by omega)]; exact e1, by unfold nb; rw [hm, zig_pos m (by omega)]; exact e0, (xor1 ⟨x, hx⟩).2⟩
theorem puts_A (n : Int) : (tA n).puts = (nb n, 0) := by
  unfold Tr.puts
  rw [show (tA n).right = true from rfl, show (tA n).within 16 = true from rfl, if_pos rfl, if_pos rfl, Tr.put_eq]
  rfl
end Go.Proofs.Ytmdkihggeodjfaa
namespace Go.Proofs.Ytmdkihggeodjfaa
open Go.RowKit Go.Sx
set_option linter.unusedSimpArgs false
set_option linter.unusedVariables false
set_option linter.unnecessarySimpa false
set_option maxRecDepth 100000
set_option maxHeartbeats 4000000
theorem bl_spec (x : Nat) (h : x < 2 ^ 64) : x < 2 ^ Lib.bitLen x := by
  by_cases h0 : x = 0
  · subst h0; exact Nat.two_pow_pos _
  · have : ∀ (n x : Nat), x ≤ n → x < 2 ^ 64 → x < 2 ^ Lib.bitLen x := by
      intro n
      induction n with
      | zero => intro x hx _; rw [show x = 0 by omega]; exact Nat.two_pow_pos _
      | succ n ih =>
        intro x hx hl
        by_cases h0 : x = 0
        · subst h0; exact Nat.two_pow_pos _
        · rw [Lib.bitLen_half x h0 hl, Nat.pow_add]
          have := ih (x / 2) (by omega) (by omega)
          omega
    exact this x x (Nat.le_refl _) h
theorem low_inj (v u : BitVec 64) : ∀ m, Tr.low v m = Tr.low u m → v.toNat % 2 ^ (8 * m) = u.toNat % 2 ^ (8 * m)
  | 0, _ => by simp [Nat.mod_one]
  | m + 1, h => by
    rw [Tr.low, Tr.low, List.cons.injEq, wrap8_mod, wrap8_mod] at h
    have h2 := low_inj v u m h.2
    have h1 := h.1
    unfold uv at h1
    rw [BitVec.toNat_ushiftRight, BitVec.toNat_ushiftRight, Nat.shiftRight_eq_div_pow, Nat.shiftRight_eq_div_pow] at h1
    have h3 : v.toNat / 2 ^ (8 * m) % 256 = u.toNat / 2 ^ (8 * m) % 256 := by omega
    rw [show 8 * (m + 1) = 8 * m + 8 by omega, Nat.pow_add, show (2 : Nat) ^ 8 = 256 from rfl, Nat.mod_mul, Nat.mod_mul, h2, h3]
theorem many_spec (v : BitVec 64) : v.toNat < 2 ^ (8 * Tr.many v) := by
  refine Nat.lt_of_lt_of_le (bl_spec _ v.isLt) (Nat.pow_le_pow_right (by omega) ?_)
  unfold Tr.many bl; omega
theorem top_eq : ∀ (k : Fin 3) (b : Fin 64), Tr.top ((k.val : Int) + 1) (b.val : Int) = ((64 * k.val + b.val : Nat) : Int) := by decide +kernel
theorem head_form (k : Nat) (hk : k < 3) (v : BitVec 64) : (v.toNat < 56 ∧ Tr.head ((k : Int) + 1) v = [((64 * k + v.toNat : Nat) : Int)]) ∨ (1 ≤ Tr.many v ∧ Tr.many v ≤ 8 ∧ Tr.head ((k : Int) + 1) v = ((64 * k + (55 + Tr.many v) : Nat) : Int) :: Tr.low v (Tr.many v)) := by
  have e : (v < BitVec.ofInt 64 56) ↔ (v.toNat < 56) := by rw [BitVec.lt_def]; exact Iff.rfl
  by_cases h : v.toNat < 56
  · left
    refine ⟨h, ?_⟩
    unfold Tr.head
    rw [decide_eq_true (e.2 h), if_pos rfl]
    exact congrArg (fun q => [q]) (top_eq ⟨k, hk⟩ ⟨v.toNat, by omega⟩)
  · right
    have h8 := Tr.many_le v
    refine ⟨many_pos v (by omega), h8, ?_⟩
    unfold Tr.head
    rw [decide_eq_false (fun hh => h (e.1 hh)), if_neg (by decide)]
    exact congrArg (fun q => q :: Tr.low v (Tr.many v)) (top_eq ⟨k, hk⟩ ⟨55 + Tr.many v, by omega⟩)
theorem head_inj {k j : Nat} (hk : k < 3) (hj : j < 3) {v u : BitVec 64} {x y : List Int} (h : Tr.head ((k : Int) + 1) v ++ x = Tr.head ((j : Int) + 1) u ++ y) : k = j ∧ v = u ∧ x = y := by
  rcases head_form k hk v with ⟨a, e⟩ | ⟨a, b, e⟩ <;> rcases head_form j hj u with ⟨c, f⟩ | ⟨c, d, f⟩ <;> rw [e, f] at h
  · simp only [List.cons_append, List.nil_append, List.cons.injEq] at h
    obtain ⟨h1, h2⟩ := h
    have h1 : 64 * k + v.toNat = 64 * j + u.toNat := Int.ofNat.inj h1
    exact ⟨by omega, BitVec.eq_of_toNat_eq (by omega), h2⟩
  · simp only [List.cons_append, List.nil_append, List.cons.injEq] at h
    have h1 : 64 * k + v.toNat = 64 * j + (55 + Tr.many u) := Int.ofNat.inj h.1
    exfalso; omega
  · simp only [List.cons_append, List.nil_append, List.cons.injEq] at h
    have h1 : 64 * k + (55 + Tr.many v) = 64 * j + u.toNat := Int.ofNat.inj h.1
    exfalso; omega
  · simp only [List.cons_append, List.cons.injEq] at h
    obtain ⟨h1, h2⟩ := h
    have h1 : 64 * k + (55 + Tr.many v) = 64 * j + (55 + Tr.many u) := Int.ofNat.inj h1
    have hkj : k = j := by omega
    have hm : Tr.many u = Tr.many v := by omega
    rw [hm] at h2
    obtain ⟨h3, h4⟩ := List.append_inj h2 (by rw [Tr.low_length, Tr.low_length])
    have := low_inj v u _ h3
    have v1 := many_spec v
    have u1 := many_spec u
    rw [hm] at u1
    rw [Nat.mod_eq_of_lt v1, Nat.mod_eq_of_lt u1] at this
    exact ⟨hkj, BitVec.eq_of_toNat_eq this, h4⟩
theorem zig_inj {a b : Int} (a0 : -9223372036854775808 ≤ a) (a1 : a ≤ 9223372036854775807) (b0 : -9223372036854775808 ≤ b) (b1 : b ≤ 9223372036854775807) (h : Tr.zig a = Tr.zig b) : a = b := by
  have key : ∀ c : Int, -9223372036854775808 ≤ c → c ≤ 9223372036854775807 → ∃ m : Nat, m < 9223372036854775808 ∧ ((c = m ∧ (Tr.zig c).toNat = 2 * m) ∨ (c = -1 - (m : Int) ∧ (Tr.zig c).toNat = 2 * m + 1)) := by
    intro c c0 c1
    by_cases hc : 0 ≤ c
    · obtain ⟨m, hm⟩ := Int.eq_ofNat_of_zero_le hc
      refine ⟨m, by omega, .inl ⟨hm, ?_⟩⟩
      rw [hm, zig_pos m (by omega), BitVec.toNat_ofNat]; omega
    · obtain ⟨m, hm⟩ := Int.eq_ofNat_of_zero_le (show 0 ≤ -1 - c by omega)
      have e : c = -1 - (m : Int) := by omega
      refine ⟨m, by omega, .inr ⟨e, ?_⟩⟩
      rw [e, zig_neg m (by omega), BitVec.toNat_ofNat]; omega
  obtain ⟨m, _, hm⟩ := key a a0 a1
  obtain ⟨n, _, hn⟩ := key b b0 b1
  rw [h] at hm
  rcases hm with ⟨e1, e2⟩ | ⟨e1, e2⟩ <;> rcases hn with ⟨f1, f2⟩ | ⟨f1, f2⟩ <;> omega
end Go.Proofs.Ytmdkihggeodjfaa
namespace Go.Sx.Tr
open Go.RowKit Go.Proofs.Ytmdkihggeodjfaa
mutual
/-- Are its numbers of 64 bits? -/
def fit : Tr → Bool
  | mk _ n _ l => (decide (-9223372036854775808 ≤ n) && decide (n ≤ 9223372036854775807)) && fitL l
def fitL : List Tr → Bool
  | [] => true
  | t :: l => fit t && fitL l
end
theorem fitL_all : ∀ (l : List Tr), fitL l = l.all fit
  | [] => by simp [fitL]
  | t :: l => by simp [fitL, fitL_all l]
theorem put_le_putL : ∀ {l : List Tr} {t : Tr}, t ∈ l → t.put.length ≤ (putL l).length
  | a :: l, t, h => by
    rw [putL, List.length_append]
    rcases List.mem_cons.1 h with rfl | h
    · omega
    · have := put_le_putL h; omega
/-- What is put can be told. -/
@[reducible] def Told (t : Tr) : Prop := ∀ (u : Tr) (x y : List Int), t.right = true → u.right = true → t.fit = true → u.fit = true → t.put.length < 4611686018427387904 → u.put.length < 4611686018427387904 → t.put ++ x = u.put ++ y → t = u ∧ x = y
theorem rows_told : ∀ (l m : List Tr), (∀ t, t ∈ l → Told t) → l.length = m.length → ∀ x y, rightL l = true → rightL m = true → fitL l = true → fitL m = true → (putL l).length < 4611686018427387904 → (putL m).length < 4611686018427387904 → putL l ++ x = putL m ++ y → l = m ∧ x = y
  | [], [], _, _, x, y, _, _, _, _, _, _, h => ⟨rfl, by simpa [putL] using h⟩
  | t :: l, u :: m, ht, hn, x, y, r1, r2, f1, f2, n1, n2, h => by
    rw [rightL, Bool.and_eq_true] at r1 r2
    rw [fitL, Bool.and_eq_true] at f1 f2
    rw [putL, List.length_append] at n1 n2
    rw [putL, putL, List.append_assoc, List.append_assoc] at h
    obtain ⟨e, h'⟩ := ht t (List.mem_cons_self ..) u _ _ r1.1 r2.1 f1.1 f2.1 (by omega) (by omega) h
    obtain ⟨e2, h2⟩ := rows_told l m (fun t' h => ht t' (List.mem_cons_of_mem _ h)) (by simpa using hn) x y r1.2 r2.2 f1.2 f2.2 (by omega) (by omega) h'
    exact ⟨by rw [e, e2], h2⟩
theorem len_inj {a b : Nat} (ha : a < 4611686018427387904) (hb : b < 4611686018427387904) (h : BitVec.ofInt 64 (a : Int) = BitVec.ofInt 64 (b : Int)) : a = b := by
  have := congrArg BitVec.toNat h
  rw [BitVec.toNat_ofInt, BitVec.toNat_ofInt] at this
  omega
theorem right_cases {t : Tr} (h : t.right = true) : (t.k = 1 ∧ t.bs = [] ∧ t.kids = []) ∨ (t.k = 2 ∧ t.n = 0 ∧ t.kids = []) ∨ (t.k = 3 ∧ t.n = 0 ∧ t.bs = [] ∧ rightL t.kids = true) := by
  rw [right_eq] at h
  simp only [Bool.and_eq_true, Bool.or_eq_true, beq_iff_eq, List.length_eq_zero_iff] at h
  obtain ⟨h1, h2, h3, h4, h5⟩ := h
  rcases h1 with h1 | h1 | h1
  · exact .inl ⟨h1, h3.resolve_left (by omega), h4.resolve_left (by omega)⟩
  · exact .inr (.inr ⟨h1, h2.resolve_left (by omega), h3.resolve_left (by omega), h5⟩)
  · exact .inr (.inl ⟨h1, h2.resolve_left (by omega), h4.resolve_left (by omega)⟩)
theorem put1 {t : Tr} (h : t.k = 1) : t.put = head ((0 : Nat) + 1) (zig t.n) := by rw [put_eq, h]; rfl
theorem put2 {t : Tr} (h : t.k = 2) : t.put = head ((1 : Nat) + 1) (BitVec.ofInt 64 t.bs.length) ++ t.bs := by rw [put_eq, h]; rfl
theorem put3 {t : Tr} (h : t.k = 3) : t.put = head ((2 : Nat) + 1) (BitVec.ofInt 64 t.kids.length) ++ putL t.kids := by rw [put_eq, h]; rfl
theorem fit_eq (t : Tr) : t.fit = ((decide (-9223372036854775808 ≤ t.n) && decide (t.n ≤ 9223372036854775807)) && fitL t.kids) := by cases t; rw [fit]; rfl
theorem told : ∀ t : Tr, Told t := by
  refine Tr.ind fun t ih => ?_
  intro u x y r1 r2 f1 f2 n1 n2 h
  rw [fit_eq] at f1 f2
  simp only [Bool.and_eq_true, decide_eq_true_eq] at f1 f2
  rcases right_cases r1 with ⟨a1, a2, a3⟩ | ⟨a1, a2, a3⟩ | ⟨a1, a2, a3, a4⟩ <;> rcases right_cases r2 with ⟨b1, b2, b3⟩ | ⟨b1, b2, b3⟩ | ⟨b1, b2, b3, b4⟩ <;>
    (first | rw [put1 a1] at h n1 | rw [put2 a1] at h n1 | rw [put3 a1] at h n1) <;> (first | rw [put1 b1] at h n2 | rw [put2 b1] at h n2 | rw [put3 b1] at h n2) <;>
    (try simp only [List.append_assoc] at h) <;> (try rw [List.length_append] at n1) <;> (try rw [List.length_append] at n2) <;>
    obtain ⟨e1, e2, e3⟩ := head_inj (by omega) (by omega) h <;> (try (exfalso; omega))
  · have := zig_inj f1.1.1 f1.1.2 f2.1.1 f2.1.2 e2
    exact ⟨by rw [t.eta, u.eta, a1, b1, a2, b2, a3, b3, this], e3⟩
  · have hl := len_inj (by omega) (by omega) e2
    obtain ⟨e4, e5⟩ := List.append_inj e3 hl
    exact ⟨by rw [t.eta, u.eta, a1, b1, a2, b2, a3, b3, e4], e5⟩
  · have l1 := putL_len t.kids
    have l2 := putL_len u.kids
    have hl := len_inj (by omega) (by omega) e2
    obtain ⟨e4, e5⟩ := rows_told t.kids u.kids (fun t' h' => by
      obtain ⟨i, hi, e⟩ := List.getElem_of_mem h'
      have := ih i hi
      rw [List.getD_eq_getElem?_getD, List.getElem?_eq_getElem hi, Option.getD_some, e] at this
      exact this) hl x y a4 b4 f1.2 f2.2 (by omega) (by omega) e3
    exact ⟨by rw [t.eta, u.eta, a1, b1, a2, b2, a3, b3, e4], e5⟩
end Go.Sx.Tr
namespace Go.Proofs.Ytmdkihggeodjfaa
end Go.Proofs.Ytmdkihggeodjfaa
