import Derived.Test.YtkfbjnikkmoanaaGreatDoorXC
namespace Go.Proofs.YtkfbjnikkmoanaaGreatDoor
open Go.RowKit Go.Sx
set_option linter.unusedSimpArgs false
set_option linter.unusedVariables false
set_option linter.unnecessarySimpa false
set_option maxRecDepth 100000
set_option maxHeartbeats 4000000
set_option linter.unusedSectionVars false
namespace T
theorem ofInt_small {i : Int} (h0 : 0 ≤ i) (h : i < 64) : (BitVec.ofInt 64 i).toNat = i.toNat := by
  rw [BitVec.toNat_ofInt]; omega
theorem sh_bit (op : Int) (hop : op = 96 ∨ op = 112 ∨ op = 192) (x : BitVec 64) (n i : Nat) (hn : n < 64) (hi : i < 64) : (sh op x n).getLsbD i = if op = 96 then decide (n ≤ i) && x.getLsbD (i - n) else if op = 112 then decide (i + n < 64) && x.getLsbD (i + n) else x.getLsbD (min (i + n) 63) := by
  rcases hop with rfl | rfl | rfl
  · show (x <<< n).getLsbD i = _
    rw [if_pos rfl, BitVec.getLsbD_shiftLeft]
    by_cases h : n ≤ i
    · simp [hi, h, show ¬ i < n by omega]
    · simp [h, show i < n by omega]
  · show (x >>> n).getLsbD i = _
    rw [if_neg (by decide), if_pos rfl, BitVec.getLsbD_ushiftRight, Nat.add_comm n i]
    by_cases h : i + n < 64
    · simp [h]
    · rw [BitVec.getLsbD_of_ge _ _ (by omega)]; simp [h]
  · show (x.sshiftRight (min n 64)).getLsbD i = _
    rw [if_neg (by decide), if_neg (by decide), show min n 64 = n by omega, BitVec.getLsbD_sshiftRight]
    by_cases h : n + i < 64
    · simp [hi, h, show min (i + n) 63 = n + i by omega]
    · simp [hi, h, show min (i + n) 63 = 63 by omega, BitVec.msb_eq_getLsbD_last]
end T
namespace W
theorem aluW_is (op off : Int) (n m p q : BitVec 64) : (aluW op off n m).2 = (aluW op off p q).2 := by
  unfold aluW alu; simp only [apply_ite Prod.snd]
theorem alu32_is (op off : Int) (n m p q : Int) : (alu32 op off n m).2 = (alu32 op off p q).2 := by
  unfold alu32; simp only [apply_ite Prod.snd]
/-- Whether an operation is one hangs on no word. -/
theorem aluG_is (op off : Int) (w : Bool) (n m : BitVec 64) : (aluG op off w n m).2 = (aluG op off w (BitVec.ofInt 64 0) (BitVec.ofInt 64 0)).2 := by
  unfold aluG; split
  · exact aluW_is ..
  · exact alu32_is ..
theorem aluW_cases {op off : Int} {n m : BitVec 64} (h : (aluW op off n m).2 = true) : (op = 176 ∧ off = 32) ∨ (op = 0 ∧ off = 0) ∨ (op = 16 ∧ off = 0) ∨ (op = 32 ∧ off = 0) ∨ (op = 48 ∧ off = 0) ∨ (op = 48 ∧ off = 1) ∨ (op = 144 ∧ off = 0) ∨ (op = 144 ∧ off = 1) ∨ (op = 64 ∧ off = 0) ∨ (op = 80 ∧ off = 0) ∨ (op = 160 ∧ off = 0) ∨ (op = 96 ∧ off = 0) ∨ (op = 112 ∧ off = 0) ∨ (op = 192 ∧ off = 0) ∨ (op = 128 ∧ off = 0) ∨ (op = 176 ∧ off = 0) ∨ (op = 176 ∧ off = 8) ∨ (op = 176 ∧ off = 16) := by
  unfold aluW alu at h
  simpa [apply_ite Prod.snd] using h
theorem alu32_cases {op off : Int} {n m : Int} (h : (alu32 op off n m).2 = true) : (op = 0 ∧ off = 0) ∨ (op = 16 ∧ off = 0) ∨ (op = 32 ∧ off = 0) ∨ (op = 48 ∧ off = 0) ∨ (op = 48 ∧ off = 1) ∨ (op = 144 ∧ off = 0) ∨ (op = 144 ∧ off = 1) ∨ (op = 64 ∧ off = 0) ∨ (op = 80 ∧ off = 0) ∨ (op = 160 ∧ off = 0) ∨ (op = 96 ∧ off = 0) ∨ (op = 112 ∧ off = 0) ∨ (op = 192 ∧ off = 0) ∨ (op = 128 ∧ off = 0) ∨ (op = 176 ∧ off = 0) ∨ (op = 176 ∧ off = 8) ∨ (op = 176 ∧ off = 16) := by
  unfold alu32 at h
  simpa [apply_ite Prod.snd] using h
theorem ofInt_nat (k : Nat) : (BitVec.ofInt 64 (k : Int)) = BitVec.ofNat 64 k := by
  rw [BitVec.ofInt_natCast]
/-- What is moved, widened. -/
theorem mov_8 (m : BitVec 64) : BitVec.ofInt 64 (IntKind.i8.wrap (uv m)) = xt m 8 true := by
  have hy : m.toNat % 2 ^ 8 < 2 ^ 8 := Nat.mod_lt _ (by decide)
  have hc : (m.toNat : Int) % 2 ^ 8 = ((m.toNat % 2 ^ 8 : Nat) : Int) := by omega
  unfold xt
  simp only [IntKind.wrap, IntKind.signed, IntKind.bits, uv, hc, Bool.true_and]
  generalize m.toNat % 2 ^ 8 = y at hy ⊢
  apply BitVec.eq_of_toNat_eq
  by_cases h : 2 ^ (8 - 1) ≤ y
  · rw [if_pos (by simp; omega), if_pos (by simp; omega), BitVec.toNat_ofNat, BitVec.toNat_ofInt]
    omega
  · rw [if_neg (by simp; omega), if_neg (by simp; omega), BitVec.toNat_ofNat, BitVec.toNat_ofInt]
    omega
theorem mov_16 (m : BitVec 64) : BitVec.ofInt 64 (IntKind.i16.wrap (uv m)) = xt m 16 true := by
  have hy : m.toNat % 2 ^ 16 < 2 ^ 16 := Nat.mod_lt _ (by decide)
  have hc : (m.toNat : Int) % 2 ^ 16 = ((m.toNat % 2 ^ 16 : Nat) : Int) := by omega
  unfold xt
  simp only [IntKind.wrap, IntKind.signed, IntKind.bits, uv, hc, Bool.true_and]
  generalize m.toNat % 2 ^ 16 = y at hy ⊢
  apply BitVec.eq_of_toNat_eq
  by_cases h : 2 ^ (16 - 1) ≤ y
  · rw [if_pos (by simp; omega), if_pos (by simp; omega), BitVec.toNat_ofNat, BitVec.toNat_ofInt]
    omega
  · rw [if_neg (by simp; omega), if_neg (by simp; omega), BitVec.toNat_ofNat, BitVec.toNat_ofInt]
    omega
theorem mov_32 (m : BitVec 64) : BitVec.ofInt 64 (IntKind.i32.wrap (uv m)) = xt m 32 true := by
  have hy : m.toNat % 2 ^ 32 < 2 ^ 32 := Nat.mod_lt _ (by decide)
  have hc : (m.toNat : Int) % 2 ^ 32 = ((m.toNat % 2 ^ 32 : Nat) : Int) := by omega
  unfold xt
  simp only [IntKind.wrap, IntKind.signed, IntKind.bits, uv, hc, Bool.true_and]
  generalize m.toNat % 2 ^ 32 = y at hy ⊢
  apply BitVec.eq_of_toNat_eq
  by_cases h : 2 ^ (32 - 1) ≤ y
  · rw [if_pos (by simp; omega), if_pos (by simp; omega), BitVec.toNat_ofNat, BitVec.toNat_ofInt]
    omega
  · rw [if_neg (by simp; omega), if_neg (by simp; omega), BitVec.toNat_ofNat, BitVec.toNat_ofInt]
    omega
theorem div_le (n m : BitVec 64) : (divU n m).toNat ≤ n.toNat := by
  unfold divU; split
  · exact Nat.zero_le _
  · rw [BitVec.toNat_udiv]; exact Nat.div_le_self ..
theorem mod_le (n m : BitVec 64) : (modU n m).toNat ≤ n.toNat := by
  unfold modU; split
  · exact Nat.le_refl _
  · rw [BitVec.toNat_umod]; exact Nat.mod_le ..
end W
namespace W
theorem uwrap (z : Int) : IntKind.u32.wrap z = z % 4294967296 := by simp [IntKind.wrap, IntKind.signed, IntKind.bits]
theorem un_eq (n : BitVec 64) : IntKind.u32.wrap (uv n) = ((n.toNat % 4294967296 : Nat) : Int) := by
  rw [uwrap]; unfold uv; omega
theorem xtn (n : BitVec 64) : (xt n 32 false).toNat = n.toNat % 4294967296 := C.xt_f n 32 (by decide)
theorem xt_key {z : Int} {r : BitVec 64} (h : z = ((r.toNat % 4294967296 : Nat) : Int)) : BitVec.ofInt 64 z = xt r 32 false := by
  rw [h, BitVec.ofInt_natCast]; rfl
theorem xt_wrap (z : Int) : BitVec.ofInt 64 (IntKind.u32.wrap z) = xt (BitVec.ofInt 64 z) 32 false := by
  refine xt_key ?_
  rw [uwrap, BitVec.toNat_ofInt]
  omega
theorem nar (op off : Int) (n m : BitVec 64) : (aluN op off n m).1 = BitVec.ofInt 64 (alu32 op off ((n.toNat % 4294967296 : Nat) : Int) ((m.toNat % 4294967296 : Nat) : Int)).1 := by
  unfold aluN; rw [un_eq, un_eq]
theorem nar_xt (op off : Int) (n m : BitVec 64) : (aluN op off (xt n 32 false) (xt m 32 false)).1 = (aluN op off n m).1 := by
  rw [nar, nar, xtn, xtn, Nat.mod_mod, Nat.mod_mod]
theorem r_0 (x y : Int) : alu32 0 0 x y = (IntKind.u32.wrap (x + y), true) := rfl
theorem r_16 (x y : Int) : alu32 16 0 x y = (IntKind.u32.wrap (x - y), true) := rfl
theorem r_32 (x y : Int) : alu32 32 0 x y = (IntKind.u32.wrap (x * y), true) := rfl
theorem r_48 (x y : Int) : alu32 48 0 x y = ((if y == 0 then 0 else IntKind.u32.wrap (x.tdiv y)), true) := rfl
theorem r_144 (x y : Int) : alu32 144 0 x y = ((if y == 0 then x else x.tmod y), true) := rfl
theorem r_64 (x y : Int) : alu32 64 0 x y = (Go.bits .or .u32 x y, true) := rfl
theorem r_80 (x y : Int) : alu32 80 0 x y = (Go.bits .and .u32 x y, true) := rfl
theorem r_160 (x y : Int) : alu32 160 0 x y = (Go.bits .xor .u32 x y, true) := rfl
theorem r_96 (x y : Int) : alu32 96 0 x y = (IntKind.u32.wrap (x * 2 ^ min (BitVec.ofInt 64 y % BitVec.ofInt 64 32).toNat IntKind.u32.bits), true) := rfl
theorem r_112 (x y : Int) : alu32 112 0 x y = (x.fdiv (2 ^ min (BitVec.ofInt 64 y % BitVec.ofInt 64 32).toNat IntKind.u32.bits), true) := rfl
theorem r_192 (x y : Int) : alu32 192 0 x y = (IntKind.u32.wrap ((IntKind.i32.wrap x).fdiv (2 ^ min (BitVec.ofInt 64 y % BitVec.ofInt 64 32).toNat IntKind.i32.bits)), true) := rfl
theorem r_128 (x y : Int) : alu32 128 0 x y = (IntKind.u32.wrap (0 - x), true) := rfl
theorem r_176 (x y : Int) : alu32 176 0 x y = (y, true) := rfl
theorem r_176_8 (x y : Int) : alu32 176 8 x y = (IntKind.u32.wrap (IntKind.i8.wrap y), true) := rfl
theorem r_176_16 (x y : Int) : alu32 176 16 x y = (IntKind.u32.wrap (IntKind.i16.wrap y), true) := rfl
theorem r_48_1 (x y : Int) : ∃ z, alu32 48 1 x y = (IntKind.u32.wrap z, true) := by
  by_cases h : (IntKind.i32.wrap y == 0) = true
  · exact ⟨0, by show ((if IntKind.i32.wrap y == 0 then IntKind.u32.wrap 0 else _), true) = _; rw [if_pos h]⟩
  · exact ⟨_, by show ((if IntKind.i32.wrap y == 0 then IntKind.u32.wrap 0 else IntKind.u32.wrap (IntKind.i32.wrap ((IntKind.i32.wrap x).tdiv (IntKind.i32.wrap y)))), true) = _; rw [if_neg h]⟩
theorem r_144_1 (x y : Int) : ∃ z, alu32 144 1 x y = (IntKind.u32.wrap z, true) := by
  by_cases h : (IntKind.i32.wrap y == 0) = true
  · exact ⟨IntKind.i32.wrap x, by show ((if IntKind.i32.wrap y == 0 then IntKind.u32.wrap (IntKind.i32.wrap x) else _), true) = _; rw [if_pos h]⟩
  · exact ⟨_, by show ((if IntKind.i32.wrap y == 0 then IntKind.u32.wrap (IntKind.i32.wrap x) else IntKind.u32.wrap ((IntKind.i32.wrap x).tmod (IntKind.i32.wrap y))), true) = _; rw [if_neg h]⟩
theorem by32 (M : Nat) : (BitVec.ofInt 64 (M : Int) % BitVec.ofInt 64 32).toNat = M % 18446744073709551616 % 32 := by
  rw [BitVec.toNat_umod, BitVec.ofInt_natCast, BitVec.toNat_ofNat]; rfl
theorem of32 {N : Nat} (h : N < 4294967296) : (BitVec.ofInt IntKind.u32.bits (N : Int)).toNat = N := by
  show (BitVec.ofInt 32 (N : Int)).toNat = N
  rw [BitVec.ofInt_natCast, BitVec.toNat_ofNat]; exact Nat.mod_eq_of_lt h
section
variable {n m : BitVec 64} (hn : n.toNat < 4294967296) (hm : m.toNat < 4294967296)
include hn hm
theorem n_0 : (aluN 0 0 n m).1 = xt (n + m) 32 false := by
  rw [nar, Nat.mod_eq_of_lt hn, Nat.mod_eq_of_lt hm, r_0]
  refine xt_key ?_
  rw [BitVec.toNat_add]
  show IntKind.u32.wrap ((n.toNat : Int) + (m.toNat : Int)) = _
  rw [uwrap]; omega
theorem n_16 : (aluN 16 0 n m).1 = xt (n - m) 32 false := by
  rw [nar, Nat.mod_eq_of_lt hn, Nat.mod_eq_of_lt hm, r_16]
  refine xt_key ?_
  rw [BitVec.toNat_sub]
  show IntKind.u32.wrap ((n.toNat : Int) - (m.toNat : Int)) = _
  rw [uwrap]; omega
theorem n_32 : (aluN 32 0 n m).1 = xt (n * m) 32 false := by
  rw [nar, Nat.mod_eq_of_lt hn, Nat.mod_eq_of_lt hm, r_32]
  refine xt_key ?_
  rw [BitVec.toNat_mul]
  show IntKind.u32.wrap ((n.toNat : Int) * (m.toNat : Int)) = _
  rw [uwrap, ← Int.natCast_mul]
  generalize n.toNat * m.toNat = p
  omega
theorem n_48 : (aluN 48 0 n m).1 = xt (divU n m) 32 false := by
  rw [nar, Nat.mod_eq_of_lt hn, Nat.mod_eq_of_lt hm, r_48]
  refine xt_key ?_
  show (if ((m.toNat : Int) == 0) = true then (0 : Int) else IntKind.u32.wrap (Int.tdiv (n.toNat : Int) (m.toNat : Int))) = _
  unfold divU
  by_cases h : m.toNat = 0
  · rw [if_pos (by rw [h]; rfl), if_pos (by rw [beq_iff_eq]; exact S.eq_toNat.2 h)]; rfl
  · rw [if_neg (by rw [beq_iff_eq]; omega), if_neg (by rw [beq_iff_eq]; intro e; exact h (by rw [e]; rfl)), uwrap, BitVec.toNat_udiv, ← Int.ofNat_tdiv]
    have := Nat.div_le_self n.toNat m.toNat
    omega
theorem n_144 : (aluN 144 0 n m).1 = xt (modU n m) 32 false := by
  rw [nar, Nat.mod_eq_of_lt hn, Nat.mod_eq_of_lt hm, r_144]
  refine xt_key ?_
  show (if ((m.toNat : Int) == 0) = true then (n.toNat : Int) else Int.tmod (n.toNat : Int) (m.toNat : Int)) = _
  unfold modU
  by_cases h : m.toNat = 0
  · rw [if_pos (by rw [h]; rfl), if_pos (by rw [beq_iff_eq]; exact S.eq_toNat.2 h)]; omega
  · rw [if_neg (by rw [beq_iff_eq]; omega), if_neg (by rw [beq_iff_eq]; intro e; exact h (by rw [e]; rfl)), BitVec.toNat_umod, ← Int.ofNat_tmod]
    have := Nat.mod_le n.toNat m.toNat
    omega
theorem n_80 : (aluN 80 0 n m).1 = xt (n &&& m) 32 false := by
  rw [nar, Nat.mod_eq_of_lt hn, Nat.mod_eq_of_lt hm, r_80]
  refine xt_key ?_
  show IntKind.u32.wrap (((BitVec.ofInt IntKind.u32.bits (n.toNat : Int) &&& BitVec.ofInt IntKind.u32.bits (m.toNat : Int)).toNat : Nat) : Int) = _
  rw [uwrap, BitVec.toNat_and, of32 hn, of32 hm, BitVec.toNat_and]; omega
theorem n_64 : (aluN 64 0 n m).1 = xt (n ||| m) 32 false := by
  rw [nar, Nat.mod_eq_of_lt hn, Nat.mod_eq_of_lt hm, r_64]
  refine xt_key ?_
  show IntKind.u32.wrap (((BitVec.ofInt IntKind.u32.bits (n.toNat : Int) ||| BitVec.ofInt IntKind.u32.bits (m.toNat : Int)).toNat : Nat) : Int) = _
  rw [uwrap, BitVec.toNat_or, of32 hn, of32 hm, BitVec.toNat_or]; omega
theorem n_160 : (aluN 160 0 n m).1 = xt (n ^^^ m) 32 false := by
  rw [nar, Nat.mod_eq_of_lt hn, Nat.mod_eq_of_lt hm, r_160]
  refine xt_key ?_
  show IntKind.u32.wrap (((BitVec.ofInt IntKind.u32.bits (n.toNat : Int) ^^^ BitVec.ofInt IntKind.u32.bits (m.toNat : Int)).toNat : Nat) : Int) = _
  rw [uwrap, BitVec.toNat_xor, of32 hn, of32 hm, BitVec.toNat_xor]; omega
theorem n_96 : (aluN 96 0 n m).1 = xt (T.sh 96 n (m.toNat % 32)) 32 false := by
  rw [nar, Nat.mod_eq_of_lt hn, Nat.mod_eq_of_lt hm, r_96, by32]
  refine xt_key ?_
  show IntKind.u32.wrap ((n.toNat : Int) * 2 ^ min (m.toNat % 18446744073709551616 % 32) 32) = (((n <<< (m.toNat % 32)).toNat % 4294967296 : Nat) : Int)
  rw [show min (m.toNat % 18446744073709551616 % 32) 32 = m.toNat % 32 by omega, uwrap, BitVec.toNat_shiftLeft, Nat.shiftLeft_eq, show (n.toNat : Int) * 2 ^ (m.toNat % 32) = ((n.toNat * 2 ^ (m.toNat % 32) : Nat) : Int) by push_cast; rfl]
  generalize n.toNat * 2 ^ (m.toNat % 32) = p
  omega
theorem n_112 : (aluN 112 0 n m).1 = xt (T.sh 112 n (m.toNat % 32)) 32 false := by
  rw [nar, Nat.mod_eq_of_lt hn, Nat.mod_eq_of_lt hm, r_112, by32]
  refine xt_key ?_
  show Int.fdiv (n.toNat : Int) (2 ^ min (m.toNat % 18446744073709551616 % 32) 32) = (((n >>> (m.toNat % 32)).toNat % 4294967296 : Nat) : Int)
  rw [show min (m.toNat % 18446744073709551616 % 32) 32 = m.toNat % 32 by omega, BitVec.toNat_ushiftRight, Nat.shiftRight_eq_div_pow, Int.fdiv_eq_ediv_of_nonneg _ (Int.le_of_lt (Int.pow_pos (by decide))), show (n.toNat : Int) / 2 ^ (m.toNat % 32) = ((n.toNat / 2 ^ (m.toNat % 32) : Nat) : Int) by push_cast; rfl]
  have := Nat.div_le_self n.toNat (2 ^ (m.toNat % 32))
  generalize n.toNat / 2 ^ (m.toNat % 32) = q at *
  omega
theorem n_192 (h : n.toNat < 2147483648) : (aluN 192 0 n m).1 = T.sh 112 n (m.toNat % 32) := by
  rw [nar, Nat.mod_eq_of_lt hn, Nat.mod_eq_of_lt hm, r_192, by32]
  show BitVec.ofInt 64 (IntKind.u32.wrap ((IntKind.i32.wrap (n.toNat : Int)).fdiv (2 ^ min (m.toNat % 18446744073709551616 % 32) 32))) = n >>> (m.toNat % 32)
  have hi : IntKind.i32.wrap (n.toNat : Int) = (n.toNat : Int) := by
    have e : (n.toNat : Int) % 2 ^ 32 = (n.toNat : Int) := by omega
    simp only [IntKind.wrap, IntKind.signed, IntKind.bits, e]
    rw [if_neg (by simp; omega)]
  rw [hi, show min (m.toNat % 18446744073709551616 % 32) 32 = m.toNat % 32 by omega, Int.fdiv_eq_ediv_of_nonneg _ (Int.le_of_lt (Int.pow_pos (by decide))), show (n.toNat : Int) / 2 ^ (m.toNat % 32) = ((n.toNat / 2 ^ (m.toNat % 32) : Nat) : Int) by push_cast; rfl]
  have := Nat.div_le_self n.toNat (2 ^ (m.toNat % 32))
  have hq : ((n.toNat / 2 ^ (m.toNat % 32) : Nat) : Int) % 4294967296 = ((n.toNat / 2 ^ (m.toNat % 32) : Nat) : Int) := by
    generalize n.toNat / 2 ^ (m.toNat % 32) = q at *
    omega
  rw [uwrap, hq, BitVec.ofInt_natCast]
  apply BitVec.eq_of_toNat_eq
  rw [BitVec.toNat_ofNat, BitVec.toNat_ushiftRight, Nat.shiftRight_eq_div_pow, Nat.mod_eq_of_lt (by omega)]
theorem n_128 : (aluN 128 0 n m).1 = xt (-n) 32 false := by
  rw [nar, Nat.mod_eq_of_lt hn, Nat.mod_eq_of_lt hm, r_128]
  refine xt_key ?_
  rw [BitVec.toNat_neg]
  show IntKind.u32.wrap (0 - (n.toNat : Int)) = _
  rw [uwrap]; omega
theorem n_176 : (aluN 176 0 n m).1 = xt m 32 false := by
  rw [nar, Nat.mod_eq_of_lt hn, Nat.mod_eq_of_lt hm, r_176]
  refine xt_key ?_
  show (m.toNat : Int) = _
  omega
theorem n_176_8 : (aluN 176 8 n m).1 = xt (xt m 8 true) 32 false := by
  rw [nar, Nat.mod_eq_of_lt hn, Nat.mod_eq_of_lt hm, r_176_8]
  show BitVec.ofInt 64 (IntKind.u32.wrap (IntKind.i8.wrap (uv m))) = _
  rw [xt_wrap, mov_8]
theorem n_176_16 : (aluN 176 16 n m).1 = xt (xt m 16 true) 32 false := by
  rw [nar, Nat.mod_eq_of_lt hn, Nat.mod_eq_of_lt hm, r_176_16]
  show BitVec.ofInt 64 (IntKind.u32.wrap (IntKind.i16.wrap (uv m))) = _
  rw [xt_wrap, mov_16]
omit hn hm in
theorem n_48_1 : ∃ r, (aluN 48 1 n m).1 = xt r 32 false := by
  rw [nar]
  obtain ⟨z, h⟩ := r_48_1 ((n.toNat % 4294967296 : Nat) : Int) ((m.toNat % 4294967296 : Nat) : Int)
  exact ⟨_, by rw [h]; exact xt_wrap z⟩
omit hn hm in
theorem n_144_1 : ∃ r, (aluN 144 1 n m).1 = xt r 32 false := by
  rw [nar]
  obtain ⟨z, h⟩ := r_144_1 ((n.toNat % 4294967296 : Nat) : Int) ((m.toNat % 4294967296 : Nat) : Int)
  exact ⟨_, by rw [h]; exact xt_wrap z⟩
omit hn hm in
theorem n_192_x : ∃ r, (aluN 192 0 n m).1 = xt r 32 false := by
  rw [nar, r_192]; exact ⟨_, xt_wrap _⟩
/-- What a narrow operation makes is narrow. -/
theorem nar_fix {op off : Int} (h : (aluN op off n m).2 = true) : xt (aluN op off n m).1 32 false = (aluN op off n m).1 := by
  have key : ∃ r, (aluN op off n m).1 = xt r 32 false := by
    rcases alu32_cases h with ⟨rfl, rfl⟩ | ⟨rfl, rfl⟩ | ⟨rfl, rfl⟩ | ⟨rfl, rfl⟩ | ⟨rfl, rfl⟩ | ⟨rfl, rfl⟩ | ⟨rfl, rfl⟩ | ⟨rfl, rfl⟩ | ⟨rfl, rfl⟩ | ⟨rfl, rfl⟩ | ⟨rfl, rfl⟩ | ⟨rfl, rfl⟩ | ⟨rfl, rfl⟩ | ⟨rfl, rfl⟩ | ⟨rfl, rfl⟩ | ⟨rfl, rfl⟩ | ⟨rfl, rfl⟩
    · exact ⟨_, n_0 hn hm⟩
    · exact ⟨_, n_16 hn hm⟩
    · exact ⟨_, n_32 hn hm⟩
    · exact ⟨_, n_48 hn hm⟩
    · exact n_48_1
    · exact ⟨_, n_144 hn hm⟩
    · exact n_144_1
    · exact ⟨_, n_64 hn hm⟩
    · exact ⟨_, n_80 hn hm⟩
    · exact ⟨_, n_160 hn hm⟩
    · exact ⟨_, n_96 hn hm⟩
    · exact ⟨_, n_112 hn hm⟩
    · exact n_192_x
    · exact ⟨_, n_128 hn hm⟩
    · exact ⟨_, n_176 hn hm⟩
    · exact ⟨_, n_176_8 hn hm⟩
    · exact ⟨_, n_176_16 hn hm⟩
  obtain ⟨r, e⟩ := key
  rw [e]; exact C.xt_idem r (by decide) false
end
end W
end Go.Proofs.YtkfbjnikkmoanaaGreatDoor
