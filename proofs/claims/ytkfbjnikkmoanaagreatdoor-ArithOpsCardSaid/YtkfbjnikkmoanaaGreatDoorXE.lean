import Derived.Test.YtkfbjnikkmoanaaGreatDoorXW
import Derived.Test.YtkfbjnikkmoanaaGreatDoorX13
import Derived.Test.YtkfbjnikkmoanaaGreatDoorXD
namespace Go.Proofs.YtkfbjnikkmoanaaGreatDoor
open Go.RowKit Go.Sx
set_option linter.unusedSimpArgs false
set_option linter.unusedVariables false
set_option linter.unnecessarySimpa false
set_option maxRecDepth 100000
set_option maxHeartbeats 4000000
namespace W
theorem ext64 {x y : BitVec 64} (h : ∀ i, i < 64 → x.getLsbD i = y.getLsbD i) : x = y := BitVec.eq_of_getLsbD_eq h
theorem ofI {j : Nat} (hj : j < 18446744073709551616) : (BitVec.ofInt 64 (j : Int)).toNat = j := by
  rw [BitVec.ofInt_natCast, BitVec.toNat_ofNat]; exact Nat.mod_eq_of_lt hj
/-- Is a bit set? -/
theorem bit_nat (b : BitVec 64) (j : Nat) : (b >>> j &&& BitVec.ofInt 64 1 == BitVec.ofInt 64 1) = decide (b.toNat / 2 ^ j % 2 = 1) := by
  have e : (b >>> j &&& BitVec.ofInt 64 1).toNat = b.toNat / 2 ^ j % 2 := by
    rw [BitVec.toNat_and, BitVec.toNat_ushiftRight, Nat.shiftRight_eq_div_pow, show (BitVec.ofInt 64 1).toNat = 1 from rfl, Nat.and_one_is_mod]
  rw [Bool.eq_iff_iff, beq_iff_eq, decide_eq_true_eq, S.eq_toNat, e]; rfl
/-! A product, bit by bit. -/
def tm (a b : BitVec 64) (j : Nat) : BitVec 64 := a * BitVec.ofNat 64 (b.toNat % 2 ^ j)
theorem tm_0 (a b : BitVec 64) : tm a b 0 = BitVec.ofInt 64 0 := by
  unfold tm
  rw [show b.toNat % 2 ^ 0 = 0 from Nat.mod_one _]
  exact BitVec.mul_zero
theorem tm_t {a b : BitVec 64} {j : Nat} (hj : j < 64) (h : (b >>> (BitVec.ofInt 64 (j : Int)).toNat &&& BitVec.ofInt 64 1 == BitVec.ofInt 64 1) = true) : tm a b (j + 1) = tm a b j + a <<< (BitVec.ofInt 64 (j : Int)).toNat := by
  rw [ofI (by omega)] at h ⊢
  rw [bit_nat] at h
  have h := of_decide_eq_true h
  unfold tm
  rw [Nat.mod_pow_succ, h, Nat.mul_one, BitVec.ofNat_add, BitVec.mul_add]
  congr 1
  apply BitVec.eq_of_toNat_eq
  rw [BitVec.toNat_mul, BitVec.toNat_shiftLeft, Nat.shiftLeft_eq, BitVec.toNat_ofNat, Nat.mul_mod_mod]
theorem tm_f {a b : BitVec 64} {j : Nat} (hj : j < 64) (h : (b >>> (BitVec.ofInt 64 (j : Int)).toNat &&& BitVec.ofInt 64 1 == BitVec.ofInt 64 1) = false) : tm a b (j + 1) = tm a b j := by
  rw [ofI (by omega)] at h
  rw [bit_nat] at h
  have h := of_decide_eq_false h
  unfold tm
  rw [Nat.mod_pow_succ, show b.toNat / 2 ^ j % 2 = 0 by omega, Nat.mul_zero, Nat.add_zero]
theorem tm_64 (a b : BitVec 64) : tm a b 64 = a * b := by
  unfold tm
  rw [Nat.mod_eq_of_lt b.isLt, BitVec.ofNat_toNat, BitVec.setWidth_eq]
/-! Shifted with its sign, one bit at a time. -/
theorem one_bit (i : Nat) : (BitVec.ofInt 64 1).getLsbD i = decide (i = 0) := by
  show (1#64).getLsbD i = _
  rw [BitVec.getLsbD_one]; simp
theorem sar_64 (x : BitVec 64) (j : Nat) (hj : j < 64) : x.sshiftRight j >>> 1 ||| (x.sshiftRight j >>> 63 &&& BitVec.ofInt 64 1) <<< 63 = x.sshiftRight (j + 1) := by
  apply ext64; intro i hi
  rw [BitVec.getLsbD_or, BitVec.getLsbD_shiftLeft, BitVec.getLsbD_and, one_bit, BitVec.getLsbD_ushiftRight, BitVec.getLsbD_ushiftRight, BitVec.getLsbD_sshiftRight, BitVec.getLsbD_sshiftRight, BitVec.getLsbD_sshiftRight]
  by_cases h : i = 63
  · subst h
    have e : j + (63 + 0) < 64 ↔ j = 0 := by omega
    by_cases h0 : j = 0
    · subst h0; simp [BitVec.msb_eq_getLsbD_last]
    · simp [show ¬ (j + 63 < 64) by omega, show ¬ (j + 1 + 63 < 64) by omega]
  · have h1 : (decide (i < 64) && !decide (i < 63)) = false := by
      have : i < 63 := by omega
      simp [this]
    rw [h1]
    by_cases h2 : j + (1 + i) < 64
    · simp [h2, show j + 1 + i < 64 by omega, show 1 + i < 64 by omega, show ¬ 64 ≤ i by omega, Nat.add_assoc, show ¬ 63 ≤ i by omega]
    · simp [h2, show ¬ (j + 1 + i < 64) by omega, show 1 + i < 64 by omega, show ¬ 64 ≤ i by omega, show ¬ 63 ≤ i by omega]
/-- A narrow word with its sign. -/
def i32 (a : BitVec 64) : Int := IntKind.i32.wrap ((a.toNat : Nat) : Int)
theorem i32_lo {a : BitVec 64} (h : a.toNat < 2147483648) : i32 a = (a.toNat : Int) := by
  have e : (a.toNat : Int) % 2 ^ 32 = (a.toNat : Int) := by omega
  unfold i32
  simp only [IntKind.wrap, IntKind.signed, IntKind.bits, e]
  rw [if_neg (by simp; omega)]
theorem i32_hi {a : BitVec 64} (h : 2147483648 ≤ a.toNat) (h2 : a.toNat < 4294967296) : i32 a = (a.toNat : Int) - 4294967296 := by
  have e : (a.toNat : Int) % 2 ^ 32 = (a.toNat : Int) := by omega
  unfold i32
  simp only [IntKind.wrap, IntKind.signed, IntKind.bits, e]
  rw [if_pos (by simp; omega)]
  omega
def sar32 (a : BitVec 64) (j : Nat) : BitVec 64 := BitVec.ofInt 64 (IntKind.u32.wrap ((i32 a).fdiv (2 ^ j)))
theorem sar32_0 {a : BitVec 64} (h : a.toNat < 4294967296) : sar32 a 0 = a := by
  unfold sar32
  rw [uwrap, show (2 : Int) ^ 0 = 1 from rfl, Int.fdiv_one]
  apply BitVec.eq_of_toNat_eq
  rw [BitVec.toNat_ofInt]
  by_cases h1 : a.toNat < 2147483648
  · rw [i32_lo h1]; omega
  · rw [i32_hi (by omega) h]; omega
theorem i32_in {a : BitVec 64} (h : a.toNat < 4294967296) : -2147483648 ≤ i32 a ∧ i32 a ≤ 2147483647 := by
  by_cases h1 : a.toNat < 2147483648
  · rw [i32_lo h1]; omega
  · rw [i32_hi (by omega) h]; omega
theorem fdiv_in {x : Int} (j : Nat) (h : -2147483648 ≤ x ∧ x ≤ 2147483647) : -2147483648 ≤ x.fdiv (2 ^ j) ∧ x.fdiv (2 ^ j) ≤ 2147483647 := by
  induction j with
  | zero => rw [show (2 : Int) ^ 0 = 1 from rfl, Int.fdiv_one]; exact h
  | succ j ih =>
    have h1 : (0 : Int) < 2 ^ j := Int.pow_pos (by decide)
    have h2 : (0 : Int) < 2 ^ (j + 1) := Int.pow_pos (by decide)
    have e : x.fdiv (2 ^ (j + 1)) = x.fdiv (2 ^ j) / 2 := by
      rw [Int.fdiv_eq_ediv_of_nonneg _ (Int.le_of_lt h1), Int.fdiv_eq_ediv_of_nonneg _ (Int.le_of_lt h2), Int.pow_succ, ← Int.ediv_ediv_of_nonneg (Int.le_of_lt h1)]
    rw [e]; omega
theorem sar_32 {a : BitVec 64} (h : a.toNat < 4294967296) (j : Nat) : sar32 a j >>> 1 ||| (sar32 a j >>> 31 &&& BitVec.ofInt 64 1) <<< 31 = sar32 a (j + 1) := by
  have h1 : (0 : Int) < 2 ^ j := Int.pow_pos (by decide)
  have h2 : (0 : Int) < 2 ^ (j + 1) := Int.pow_pos (by decide)
  have e : (i32 a).fdiv (2 ^ (j + 1)) = (i32 a).fdiv (2 ^ j) / 2 := by
    rw [Int.fdiv_eq_ediv_of_nonneg _ (Int.le_of_lt h1), Int.fdiv_eq_ediv_of_nonneg _ (Int.le_of_lt h2), Int.pow_succ, ← Int.ediv_ediv_of_nonneg (Int.le_of_lt h1)]
  have hq := fdiv_in j (i32_in h)
  unfold sar32
  rw [e]
  generalize (i32 a).fdiv (2 ^ j) = q at hq
  rw [uwrap, uwrap]
  have et : (BitVec.ofInt 64 (q % 4294967296)).toNat = (q % 4294967296).toNat := by rw [BitVec.toNat_ofInt]; omega
  apply BitVec.eq_of_toNat_eq
  rw [BitVec.toNat_or, BitVec.toNat_ushiftRight, BitVec.toNat_shiftLeft, BitVec.toNat_and, BitVec.toNat_ushiftRight, show (BitVec.ofInt 64 1).toNat = 1 from rfl, et, BitVec.toNat_ofInt, Nat.shiftRight_eq_div_pow, Nat.shiftRight_eq_div_pow, Nat.and_one_is_mod, Nat.shiftLeft_eq]
  have hx : (q % 4294967296).toNat < 4294967296 := by omega
  have hlt : (q % 4294967296).toNat / 2 ^ 1 < 2 ^ 31 := by omega
  have hs : (q % 4294967296).toNat / 2 ^ 31 % 2 * 2 ^ 31 % 2 ^ 64 = (q % 4294967296).toNat / 2 ^ 31 % 2 * 2 ^ 31 := by omega
  rw [hs, Nat.or_comm, Nat.mul_comm, ← Nat.two_pow_add_eq_or_of_lt hlt]
  omega
end W
theorem rtm_run (a b : BitVec 64) : run Tryz.prog ⟨[], eqs, [], [], []⟩ 10000 [] 0 (bodyOf Tryz.f109) (initF Tryz.f109 [.u64 a, .u64 b]) [] (retK Tryz.prog Tryz.f109 fun x _ => eqv x (.u64 (a * b))) := by
  (conv => whnf)
  (repeat' (first | (refine And.intro (fun hb => ?_) (fun hb => ?_) <;> (first | contradiction | (conv => whnf))) | (refine And.intro ?_ ?_; rotate_left 1; (conv => whnf))))
  refine .inr ⟨[], [0, 1, 5, 6], fun k vals M => ∃ j : Nat, j ≤ 64 ∧ k = 64 - j ∧ (True) ∧ vals = [.u64 a, .u64 b, .u64 (W.tm a b j), .int .i64 (j : Int)] ∧ M = [], ?_⟩
  conv => whnf
  refine And.intro ⟨64, [], mle_nil, rfl, rfl, 0, by omega, by omega, trivial, by simp [Sx.pickF, Sx.nth, W.tm_0], rfl⟩ ?_
  rintro k vals M1 ⟨j, hj, rfl, hx, rfl, rfl⟩
  (conv => whnf)
  (repeat' (first | (refine And.intro (fun hb => ?_) (fun hb => ?_) <;> (first | contradiction | (conv => whnf))) | (refine And.intro ?_ ?_; rotate_left 1; (conv => whnf))))
  all_goals try (first | rfl | trivial | (simp; done) | (simp; omega) | (simp at hb ⊢; omega) | (simp only [decide_eq_true_eq, Bool.and_eq_true, Int.toNat_natCast] at *; omega))
  · have hlt : j < 64 := by (have h := ‹decide ((j : Int) < 64) = true›; simp at h; omega)
    refine ⟨64 - (j + 1), [], [], by omega, rfl, mle_nil, rfl, rfl, j + 1, by omega, rfl, trivial, ?_, rfl⟩
    rw [W.tm_t hlt hb, ← wrap_succ (by omega)]; rfl
  · have hlt : j < 64 := by (have h := ‹decide ((j : Int) < 64) = true›; simp at h; omega)
    refine ⟨64 - (j + 1), [], [], by omega, rfl, mle_nil, rfl, rfl, j + 1, by omega, rfl, trivial, ?_, rfl⟩
    rw [W.tm_f hlt hb, ← wrap_succ (by omega)]; rfl
  · have hj2 : j = 64 := by simp at hb; omega
    subst hj2
    rw [W.tm_64]; try rfl
def k_xTimes : List SV → List Blk → Res := fun args _ => match args with
  | [.u64 a, .u64 b] => .ok (.u64 (a * b)) []
  | _ => .fail
theorem k_xTimes_ok : CtrOk Tryz.prog Gw 109 k_xTimes := by
  refine ⟨fun _ _ => by kernel_rfl, fun args M => ?_⟩
  unfold k_xTimes
  split
  · rename_i a b
    exact ctr_flat (Γ := ⟨[], eqs, [], [], []⟩) (sv := .u64 (a * b)) st_Gw ⟨okNil, eqs_ok, okNilB, okNilI, okNilP⟩ Tryz.func109 rfl mixed [] (by kernel_rfl) 10000 (by rfl) (rtm_run a b)
  · trivial
theorem rarsh64_run (a : BitVec 64) (K : Nat) (hK : K ≤ 63) : run Tryz.prog ⟨[], eqs, [], [], []⟩ 10000 [] 0 (bodyOf Tryz.f111) (initF Tryz.f111 [.u64 a, .int .i64 (K : Int), .int .i64 64]) [] (retK Tryz.prog Tryz.f111 fun x _ => eqv x (.u64 (a.sshiftRight K))) := by
  (conv => whnf)
  (repeat' (first | (refine And.intro (fun hb => ?_) (fun hb => ?_) <;> (first | contradiction | (conv => whnf))) | (refine And.intro ?_ ?_; rotate_left 1; (conv => whnf))))
  refine .inr ⟨[], [0, 1, 2, 7], fun k vals M => ∃ j : Nat, j ≤ K ∧ k = K - j ∧ (True) ∧ vals = [.u64 (a.sshiftRight j), .int .i64 (K : Int), .int .i64 64, .int .i64 (j : Int)] ∧ M = [], ?_⟩
  conv => whnf
  refine And.intro ⟨K, [], mle_nil, rfl, rfl, 0, by omega, by omega, trivial, by simp [Sx.pickF, Sx.nth], rfl⟩ ?_
  rintro k vals M1 ⟨j, hj, rfl, hx, rfl, rfl⟩
  (conv => whnf)
  (repeat' (first | (refine And.intro (fun hb => ?_) (fun hb => ?_) <;> (first | contradiction | (conv => whnf))) | (refine And.intro ?_ ?_; rotate_left 1; (conv => whnf))))
  all_goals try (first | rfl | trivial | (simp; done) | (simp; omega) | (simp at hb ⊢; omega) | (simp only [decide_eq_true_eq, Bool.and_eq_true, Int.toNat_natCast] at *; omega))
  · have hlt : j < K := by (have h := ‹decide ((j : Int) < (K : Int)) = true›; simp at h; omega)
    refine ⟨K - (j + 1), [], [], by omega, rfl, mle_nil, rfl, rfl, j + 1, by omega, rfl, trivial, ?_, rfl⟩
    rw [← W.sar_64 a j (by omega), ← wrap_succ (by omega)]; rfl
  · have hj2 : j = K := by simp at hb; omega
    subst hj2; try rfl
theorem rarsh32_run (a : BitVec 64) (K : Nat) (ha : a.toNat < 4294967296) (hK : K ≤ 63) : run Tryz.prog ⟨[], eqs, [], [], []⟩ 10000 [] 0 (bodyOf Tryz.f111) (initF Tryz.f111 [.u64 a, .int .i64 (K : Int), .int .i64 32]) [] (retK Tryz.prog Tryz.f111 fun x _ => eqv x (.u64 (W.sar32 a K))) := by
  (conv => whnf)
  (repeat' (first | (refine And.intro (fun hb => ?_) (fun hb => ?_) <;> (first | contradiction | (conv => whnf))) | (refine And.intro ?_ ?_; rotate_left 1; (conv => whnf))))
  refine .inr ⟨[], [0, 1, 2, 7], fun k vals M => ∃ j : Nat, j ≤ K ∧ k = K - j ∧ (True) ∧ vals = [.u64 (W.sar32 a j), .int .i64 (K : Int), .int .i64 32, .int .i64 (j : Int)] ∧ M = [], ?_⟩
  conv => whnf
  refine And.intro ⟨K, [], mle_nil, rfl, rfl, 0, by omega, by omega, trivial, by simp [Sx.pickF, Sx.nth, W.sar32_0 ha], rfl⟩ ?_
  rintro k vals M1 ⟨j, hj, rfl, hx, rfl, rfl⟩
  (conv => whnf)
  (repeat' (first | (refine And.intro (fun hb => ?_) (fun hb => ?_) <;> (first | contradiction | (conv => whnf))) | (refine And.intro ?_ ?_; rotate_left 1; (conv => whnf))))
  all_goals try (first | rfl | trivial | (simp; done) | (simp; omega) | (simp at hb ⊢; omega) | (simp only [decide_eq_true_eq, Bool.and_eq_true, Int.toNat_natCast] at *; omega))
  · have hlt : j < K := by (have h := ‹decide ((j : Int) < (K : Int)) = true›; simp at h; omega)
    refine ⟨K - (j + 1), [], [], by omega, rfl, mle_nil, rfl, rfl, j + 1, by omega, rfl, trivial, ?_, rfl⟩
    rw [← W.sar_32 ha j, ← wrap_succ (by omega)]; rfl
  · have hj2 : j = K := by simp at hb; omega
    subst hj2; try rfl
def k_xArsh : List SV → List Blk → Res := fun args _ => match args with
  | [.u64 a, .int .i64 k, .int .i64 64] => .test (decide (0 ≤ k) && decide (k ≤ 63)) (.ok (.u64 (a.sshiftRight k.toNat)) [])
  | [.u64 a, .int .i64 k, .int .i64 32] => .test (decide (0 ≤ k) && (decide (k ≤ 63) && decide (a.toNat < 4294967296))) (.ok (.u64 (W.sar32 a k.toNat)) [])
  | _ => .fail
theorem k_xArsh_ok : CtrOk Tryz.prog Gw 111 k_xArsh := by
  refine ⟨fun _ _ => by kernel_rfl, fun args M => ?_⟩
  unfold k_xArsh
  split
  · rename_i a k
    intro ht
    exact ctr_flat (Γ := ⟨[], eqs, [], [], []⟩) (sv := .u64 (a.sshiftRight k.toNat)) st_Gw ⟨okNil, eqs_ok, okNilB, okNilI, okNilP⟩ Tryz.func111 rfl mixed [] (by kernel_rfl) 10000 (by rfl) (by
      simp only [Bool.and_eq_true, decide_eq_true_eq] at ht
      obtain ⟨K, rfl⟩ : ∃ K : Nat, k = K := ⟨k.toNat, by omega⟩
      exact rarsh64_run a K (by omega))
  · rename_i a k
    intro ht
    exact ctr_flat (Γ := ⟨[], eqs, [], [], []⟩) (sv := .u64 (W.sar32 a k.toNat)) st_Gw ⟨okNil, eqs_ok, okNilB, okNilI, okNilP⟩ Tryz.func111 rfl mixed [] (by kernel_rfl) 10000 (by rfl) (by
      simp only [Bool.and_eq_true, decide_eq_true_eq] at ht
      obtain ⟨K, rfl⟩ : ∃ K : Nat, k = K := ⟨k.toNat, by omega⟩
      exact rarsh32_run a K ht.2.2 (by omega))
  · trivial
end Go.Proofs.YtkfbjnikkmoanaaGreatDoor
namespace Go.Proofs.YtkfbjnikkmoanaaGreatDoor
open Go.RowKit Go.Sx
set_option linter.unusedSimpArgs false
set_option linter.unusedVariables false
set_option linter.unnecessarySimpa false
set_option maxRecDepth 100000
set_option maxHeartbeats 4000000
namespace W
/-- Is there such an operation? -/
def know (op off : Int) (w : Bool) : Bool := if op == 48 then (off == 0 || off == 1) else if op == 144 then (off == 0 || off == 1) else if op == 176 then (off == 0 || (off == 8 || (off == 16 || (off == 32 && w)))) else if op == 0 then off == 0 else if op == 16 then off == 0 else if op == 32 then off == 0 else if op == 64 then off == 0 else if op == 80 then off == 0 else if op == 160 then off == 0 else if op == 96 then off == 0 else if op == 112 then off == 0 else if op == 192 then off == 0 else if op == 128 then off == 0 else false
def neg (n : BitVec 64) (b : Int) : Bool := n >>> (BitVec.ofInt 64 (IntKind.i64.wrap (b - 1))).toNat &&& BitVec.ofInt 64 1 == BitVec.ofInt 64 1
theorem neg_64 (n : BitVec 64) : neg n 64 = decide (9223372036854775808 ≤ n.toNat) := by
  show (n >>> 63 &&& BitVec.ofInt 64 1 == BitVec.ofInt 64 1) = _
  rw [bit_nat]
  apply decide_eq_decide.2
  have := n.isLt
  omega
theorem neg_32 {n : BitVec 64} (h : n.toNat < 4294967296) : neg n 32 = decide (2147483648 ≤ n.toNat) := by
  show (n >>> 31 &&& BitVec.ofInt 64 1 == BitVec.ofInt 64 1) = _
  rw [bit_nat]
  apply decide_eq_decide.2
  omega
def abs64 (n : BitVec 64) : BitVec 64 := if neg n 64 then -n else n
def abs32 (n : BitVec 64) : BitVec 64 := if neg n 32 then xt (-n) 32 false else n
theorem abs64_sv (n : BitVec 64) : sv n = if neg n 64 then -((abs64 n).toNat : Int) else ((abs64 n).toNat : Int) := by
  unfold abs64
  have h := neg_64 n
  cases hn : neg n 64 with
  | true =>
    rw [hn] at h
    have h := of_decide_eq_true h.symm
    rw [if_pos rfl, if_pos rfl, C.sv_big h, BitVec.toNat_neg]
    have := n.isLt
    omega
  | false =>
    rw [hn] at h
    have h := of_decide_eq_false h.symm
    rw [if_neg (by decide), if_neg (by decide), C.sv_small (by omega)]
theorem abs32_i {n : BitVec 64} (hn : n.toNat < 4294967296) : i32 n = if neg n 32 then -((abs32 n).toNat : Int) else ((abs32 n).toNat : Int) := by
  unfold abs32
  have h := neg_32 hn
  cases hc : neg n 32 with
  | true =>
    rw [hc] at h
    have h := of_decide_eq_true h.symm
    rw [if_pos rfl, if_pos rfl, i32_hi h hn, xtn, BitVec.toNat_neg]
    omega
  | false =>
    rw [hc] at h
    have h := of_decide_eq_false h.symm
    rw [if_neg (by decide), if_neg (by decide), i32_lo (by omega)]
theorem abs32_lt {n : BitVec 64} (hn : n.toNat < 4294967296) : (abs32 n).toNat < 4294967296 := by
  unfold abs32; split
  · rw [xtn]; exact Nat.mod_lt _ (by decide)
  · exact hn
theorem abs64_ne {n : BitVec 64} (h : (n == BitVec.ofInt 64 0) = false) : (abs64 n == BitVec.ofInt 64 0) = false := by
  rw [beq_eq_false_iff_ne, Ne, S.eq_toNat] at h ⊢
  unfold abs64; split
  · rw [BitVec.toNat_neg]; have := n.isLt
    have h : ¬ n.toNat = 0 := h
    show ¬ _ = 0
    omega
  · exact h
theorem abs32_ne {n : BitVec 64} (hn : n.toNat < 4294967296) (h : (n == BitVec.ofInt 64 0) = false) : (abs32 n == BitVec.ofInt 64 0) = false := by
  rw [beq_eq_false_iff_ne, Ne, S.eq_toNat] at h ⊢
  unfold abs32; split
  · rw [xtn, BitVec.toNat_neg]
    have h : ¬ n.toNat = 0 := h
    show ¬ _ = 0
    omega
  · exact h
theorem ofI_wrap (z : Int) : BitVec.ofInt 64 (IntKind.i64.wrap z) = BitVec.ofInt 64 z := by
  refine S.eq_toNat.2 ?_
  rw [BitVec.toNat_ofInt, BitVec.toNat_ofInt]
  have e : IntKind.i64.wrap z = z % 18446744073709551616 ∨ IntKind.i64.wrap z = z % 18446744073709551616 - 18446744073709551616 := by
    unfold IntKind.wrap
    dsimp only
    split
    · exact .inr rfl
    · exact .inl rfl
  rcases e with e | e <;> rw [e] <;> omega
theorem ofI_neg (q : BitVec 64) : BitVec.ofInt 64 (-(q.toNat : Int)) = -q := by
  refine S.eq_toNat.2 ?_
  rw [BitVec.toNat_ofInt, BitVec.toNat_neg]
  have := q.isLt
  omega
theorem ofI_pos (q : BitVec 64) : BitVec.ofInt 64 (q.toNat : Int) = q := by
  refine S.eq_toNat.2 ?_
  rw [BitVec.toNat_ofInt]
  have := q.isLt
  omega
theorem sv_ne {b : BitVec 64} (h : (b == BitVec.ofInt 64 0) = false) : (sv b == 0) = false := by
  rw [beq_eq_false_iff_ne, Ne, S.eq_toNat] at h
  have h : ¬ b.toNat = 0 := h
  rw [beq_eq_false_iff_ne]
  by_cases h1 : b.toNat < 9223372036854775808
  · rw [C.sv_small h1]; omega
  · rw [C.sv_big (by omega)]; have := b.isLt; omega
/-- Quotients with signs. -/
theorem tdiv_abs (x y : Int) (s t : Bool) (p q : BitVec 64) (hx : x = if s then -(p.toNat : Int) else (p.toNat : Int)) (hy : y = if t then -(q.toNat : Int) else (q.toNat : Int)) : x.tdiv y = if s == t then ((p / q).toNat : Int) else -((p / q).toNat : Int) := by
  rw [BitVec.toNat_udiv, hx, hy]
  cases s <;> cases t <;> simp [Int.neg_tdiv, Int.tdiv_neg, Int.ofNat_tdiv]
theorem tmod_abs (x y : Int) (s t : Bool) (p q : BitVec 64) (hx : x = if s then -(p.toNat : Int) else (p.toNat : Int)) (hy : y = if t then -(q.toNat : Int) else (q.toNat : Int)) : x.tmod y = if s then -((p % q).toNat : Int) else ((p % q).toNat : Int) := by
  rw [BitVec.toNat_umod, hx, hy]
  cases s <;> cases t <;> simp [Int.neg_tmod, Int.tmod_neg] <;> exact (Int.ofNat_tmod _ _).symm
section
variable {a b : BitVec 64} (hb : (b == BitVec.ofInt 64 0) = false)
include hb
theorem quo_eq (h : (neg a 64 == neg b 64) = true) : abs64 a / abs64 b = BitVec.ofInt 64 (divS (sv a) (sv b)) := by
  unfold divS
  rw [if_neg (by rw [sv_ne hb]; decide), ofI_wrap, tdiv_abs _ _ _ _ _ _ (abs64_sv a) (abs64_sv b), if_pos h, ofI_pos]
theorem quo_ne (h : (neg a 64 == neg b 64) = false) : -(abs64 a / abs64 b) = BitVec.ofInt 64 (divS (sv a) (sv b)) := by
  unfold divS
  rw [if_neg (by rw [sv_ne hb]; decide), ofI_wrap, tdiv_abs _ _ _ _ _ _ (abs64_sv a) (abs64_sv b), if_neg (by rw [h]; decide), ofI_neg]
theorem res_t (h : neg a 64 = true) : -(abs64 a % abs64 b) = BitVec.ofInt 64 (modS (sv a) (sv b)) := by
  unfold modS
  rw [if_neg (by rw [sv_ne hb]; decide), tmod_abs _ _ _ _ _ _ (abs64_sv a) (abs64_sv b), if_pos h, ofI_neg]
theorem res_f (h : neg a 64 = false) : abs64 a % abs64 b = BitVec.ofInt 64 (modS (sv a) (sv b)) := by
  unfold modS
  rw [if_neg (by rw [sv_ne hb]; decide), tmod_abs _ _ _ _ _ _ (abs64_sv a) (abs64_sv b), if_neg (by rw [h]; decide), ofI_pos]
end
theorem i32_ne {b : BitVec 64} (h2 : b.toNat < 4294967296) (h : (b == BitVec.ofInt 64 0) = false) : (i32 b == 0) = false := by
  rw [beq_eq_false_iff_ne, Ne, S.eq_toNat] at h
  have h : ¬ b.toNat = 0 := h
  rw [beq_eq_false_iff_ne]
  by_cases h1 : b.toNat < 2147483648
  · rw [i32_lo h1]; omega
  · rw [i32_hi (by omega) h2]; omega
theorem i32_wrap (z : Int) : IntKind.u32.wrap (IntKind.i32.wrap z) = z % 4294967296 := by
  rw [uwrap]
  have e : IntKind.i32.wrap z = z % 4294967296 ∨ IntKind.i32.wrap z = z % 4294967296 - 4294967296 := by
    unfold IntKind.wrap
    dsimp only
    split
    · exact .inr rfl
    · exact .inl rfl
  rcases e with e | e <;> rw [e] <;> omega
theorem q_48_1 (x y : Int) : alu32 48 1 x y = ((if IntKind.i32.wrap y == 0 then IntKind.u32.wrap 0 else IntKind.u32.wrap (IntKind.i32.wrap ((IntKind.i32.wrap x).tdiv (IntKind.i32.wrap y)))), true) := rfl
theorem q_144_1 (x y : Int) : alu32 144 1 x y = ((if IntKind.i32.wrap y == 0 then IntKind.u32.wrap (IntKind.i32.wrap x) else IntKind.u32.wrap ((IntKind.i32.wrap x).tmod (IntKind.i32.wrap y))), true) := rfl
theorem xt_neg (q : BitVec 64) : BitVec.ofInt 64 ((-(q.toNat : Int)) % 4294967296) = xt (-q) 32 false := by
  refine xt_key ?_
  rw [BitVec.toNat_neg]
  have := q.isLt
  omega
theorem xt_pos (q : BitVec 64) : BitVec.ofInt 64 ((q.toNat : Int) % 4294967296) = xt q 32 false := by
  refine xt_key ?_
  omega
section
variable {a b : BitVec 64} (ha : a.toNat < 4294967296) (hl : b.toNat < 4294967296)
include ha hl
theorem n_48_z (h : (b == BitVec.ofInt 64 0) = true) : (aluN 48 1 a b).1 = BitVec.ofInt 64 0 := by
  have hb : b.toNat = 0 := by rw [beq_iff_eq] at h; rw [h]; rfl
  rw [nar, Nat.mod_eq_of_lt ha, Nat.mod_eq_of_lt hl, q_48_1, hb]
  have c : ((IntKind.i32.wrap ((0 : Nat) : Int)) == 0) = true := by decide
  simp only [c, if_true]; rfl
theorem n_144_z (h : (b == BitVec.ofInt 64 0) = true) : (aluN 144 1 a b).1 = a := by
  have hb : b.toNat = 0 := by rw [beq_iff_eq] at h; rw [h]; rfl
  rw [nar, Nat.mod_eq_of_lt ha, Nat.mod_eq_of_lt hl, q_144_1, hb]
  have c : ((IntKind.i32.wrap ((0 : Nat) : Int)) == 0) = true := by decide
  simp only [c, if_true]
  rw [i32_wrap, xt_pos]
  refine S.eq_toNat.2 ?_
  rw [xtn]; omega
variable (hb : (b == BitVec.ofInt 64 0) = false)
include hb
theorem quo32_eq (h : (neg a 32 == neg b 32) = true) : xt (abs32 a / abs32 b) 32 false = (aluN 48 1 a b).1 := by
  rw [nar, Nat.mod_eq_of_lt ha, Nat.mod_eq_of_lt hl, q_48_1]
  show _ = BitVec.ofInt 64 (if (i32 b == 0) = true then _ else IntKind.u32.wrap (IntKind.i32.wrap ((i32 a).tdiv (i32 b))))
  rw [if_neg (by rw [i32_ne hl hb]; decide), i32_wrap, tdiv_abs _ _ _ _ _ _ (abs32_i ha) (abs32_i hl), if_pos h, xt_pos]
theorem quo32_ne (h : (neg a 32 == neg b 32) = false) : xt (-(abs32 a / abs32 b)) 32 false = (aluN 48 1 a b).1 := by
  rw [nar, Nat.mod_eq_of_lt ha, Nat.mod_eq_of_lt hl, q_48_1]
  show _ = BitVec.ofInt 64 (if (i32 b == 0) = true then _ else IntKind.u32.wrap (IntKind.i32.wrap ((i32 a).tdiv (i32 b))))
  rw [if_neg (by rw [i32_ne hl hb]; decide), i32_wrap, tdiv_abs _ _ _ _ _ _ (abs32_i ha) (abs32_i hl), if_neg (by rw [h]; decide), xt_neg]
theorem res32_t (h : neg a 32 = true) : xt (-(abs32 a % abs32 b)) 32 false = (aluN 144 1 a b).1 := by
  rw [nar, Nat.mod_eq_of_lt ha, Nat.mod_eq_of_lt hl, q_144_1]
  show _ = BitVec.ofInt 64 (if (i32 b == 0) = true then _ else IntKind.u32.wrap ((i32 a).tmod (i32 b)))
  rw [if_neg (by rw [i32_ne hl hb]; decide), uwrap, tmod_abs _ _ _ _ _ _ (abs32_i ha) (abs32_i hl), if_pos h, xt_neg]
theorem res32_f (h : neg a 32 = false) : xt (abs32 a % abs32 b) 32 false = (aluN 144 1 a b).1 := by
  rw [nar, Nat.mod_eq_of_lt ha, Nat.mod_eq_of_lt hl, q_144_1]
  show _ = BitVec.ofInt 64 (if (i32 b == 0) = true then _ else IntKind.u32.wrap ((i32 a).tmod (i32 b)))
  rw [if_neg (by rw [i32_ne hl hb]; decide), uwrap, tmod_abs _ _ _ _ _ _ (abs32_i ha) (abs32_i hl), if_neg (by rw [h]; decide), xt_pos]
end
theorem know_eq (op off : Int) (w : Bool) (a b : BitVec 64) : know op off w = (aluG op off w a b).2 := by
  have key : ∀ x y : Bool, (x = true ↔ y = true) → x = y := fun x y h => by cases x <;> cases y <;> simp_all
  apply key
  unfold aluG
  cases w
  · show know op off false = true ↔ (alu32 op off _ _).2 = true
    constructor
    · intro h
      by_cases h48 : op = 48
      · subst h48
        have h : (off == 0 || off == 1) = true := h
        simp only [Bool.or_eq_true, beq_iff_eq] at h
        rcases h with rfl | rfl <;> rfl
      by_cases h144 : op = 144
      · subst h144
        have h : (off == 0 || off == 1) = true := h
        simp only [Bool.or_eq_true, beq_iff_eq] at h
        rcases h with rfl | rfl <;> rfl
      by_cases h176 : op = 176
      · subst h176
        have h : (off == 0 || (off == 8 || (off == 16 || (off == 32 && false)))) = true := h
        simp only [Bool.or_eq_true, Bool.and_eq_true, beq_iff_eq] at h
        rcases h with rfl | rfl | rfl | ⟨rfl, h⟩ <;> first | rfl | cases h
      by_cases h0 : op = 0
      · subst h0
        have h : (off == 0) = true := h
        simp only [beq_iff_eq] at h
        subst h; rfl
      by_cases h16 : op = 16
      · subst h16
        have h : (off == 0) = true := h
        simp only [beq_iff_eq] at h
        subst h; rfl
      by_cases h32 : op = 32
      · subst h32
        have h : (off == 0) = true := h
        simp only [beq_iff_eq] at h
        subst h; rfl
      by_cases h64 : op = 64
      · subst h64
        have h : (off == 0) = true := h
        simp only [beq_iff_eq] at h
        subst h; rfl
      by_cases h80 : op = 80
      · subst h80
        have h : (off == 0) = true := h
        simp only [beq_iff_eq] at h
        subst h; rfl
      by_cases h160 : op = 160
      · subst h160
        have h : (off == 0) = true := h
        simp only [beq_iff_eq] at h
        subst h; rfl
      by_cases h96 : op = 96
      · subst h96
        have h : (off == 0) = true := h
        simp only [beq_iff_eq] at h
        subst h; rfl
      by_cases h112 : op = 112
      · subst h112
        have h : (off == 0) = true := h
        simp only [beq_iff_eq] at h
        subst h; rfl
      by_cases h192 : op = 192
      · subst h192
        have h : (off == 0) = true := h
        simp only [beq_iff_eq] at h
        subst h; rfl
      by_cases h128 : op = 128
      · subst h128
        have h : (off == 0) = true := h
        simp only [beq_iff_eq] at h
        subst h; rfl
      unfold know at h
      simp only [beq_eq_false_iff_ne.2 h48, beq_eq_false_iff_ne.2 h144, beq_eq_false_iff_ne.2 h176, beq_eq_false_iff_ne.2 h0, beq_eq_false_iff_ne.2 h16, beq_eq_false_iff_ne.2 h32, beq_eq_false_iff_ne.2 h64, beq_eq_false_iff_ne.2 h80, beq_eq_false_iff_ne.2 h160, beq_eq_false_iff_ne.2 h96, beq_eq_false_iff_ne.2 h112, beq_eq_false_iff_ne.2 h192, beq_eq_false_iff_ne.2 h128, if_false, Bool.false_eq_true] at h
    · intro h
      rcases alu32_cases h with ⟨rfl, rfl⟩ | ⟨rfl, rfl⟩ | ⟨rfl, rfl⟩ | ⟨rfl, rfl⟩ | ⟨rfl, rfl⟩ | ⟨rfl, rfl⟩ | ⟨rfl, rfl⟩ | ⟨rfl, rfl⟩ | ⟨rfl, rfl⟩ | ⟨rfl, rfl⟩ | ⟨rfl, rfl⟩ | ⟨rfl, rfl⟩ | ⟨rfl, rfl⟩ | ⟨rfl, rfl⟩ | ⟨rfl, rfl⟩ | ⟨rfl, rfl⟩ | ⟨rfl, rfl⟩ <;> rfl
  · show know op off true = true ↔ (aluW op off a b).2 = true
    constructor
    · intro h
      by_cases h48 : op = 48
      · subst h48
        have h : (off == 0 || off == 1) = true := h
        simp only [Bool.or_eq_true, beq_iff_eq] at h
        rcases h with rfl | rfl <;> rfl
      by_cases h144 : op = 144
      · subst h144
        have h : (off == 0 || off == 1) = true := h
        simp only [Bool.or_eq_true, beq_iff_eq] at h
        rcases h with rfl | rfl <;> rfl
      by_cases h176 : op = 176
      · subst h176
        have h : (off == 0 || (off == 8 || (off == 16 || (off == 32 && true)))) = true := h
        simp only [Bool.or_eq_true, Bool.and_eq_true, beq_iff_eq] at h
        rcases h with rfl | rfl | rfl | ⟨rfl, h⟩ <;> first | rfl | cases h
      by_cases h0 : op = 0
      · subst h0
        have h : (off == 0) = true := h
        simp only [beq_iff_eq] at h
        subst h; rfl
      by_cases h16 : op = 16
      · subst h16
        have h : (off == 0) = true := h
        simp only [beq_iff_eq] at h
        subst h; rfl
      by_cases h32 : op = 32
      · subst h32
        have h : (off == 0) = true := h
        simp only [beq_iff_eq] at h
        subst h; rfl
      by_cases h64 : op = 64
      · subst h64
        have h : (off == 0) = true := h
        simp only [beq_iff_eq] at h
        subst h; rfl
      by_cases h80 : op = 80
      · subst h80
        have h : (off == 0) = true := h
        simp only [beq_iff_eq] at h
        subst h; rfl
      by_cases h160 : op = 160
      · subst h160
        have h : (off == 0) = true := h
        simp only [beq_iff_eq] at h
        subst h; rfl
      by_cases h96 : op = 96
      · subst h96
        have h : (off == 0) = true := h
        simp only [beq_iff_eq] at h
        subst h; rfl
      by_cases h112 : op = 112
      · subst h112
        have h : (off == 0) = true := h
        simp only [beq_iff_eq] at h
        subst h; rfl
      by_cases h192 : op = 192
      · subst h192
        have h : (off == 0) = true := h
        simp only [beq_iff_eq] at h
        subst h; rfl
      by_cases h128 : op = 128
      · subst h128
        have h : (off == 0) = true := h
        simp only [beq_iff_eq] at h
        subst h; rfl
      unfold know at h
      simp only [beq_eq_false_iff_ne.2 h48, beq_eq_false_iff_ne.2 h144, beq_eq_false_iff_ne.2 h176, beq_eq_false_iff_ne.2 h0, beq_eq_false_iff_ne.2 h16, beq_eq_false_iff_ne.2 h32, beq_eq_false_iff_ne.2 h64, beq_eq_false_iff_ne.2 h80, beq_eq_false_iff_ne.2 h160, beq_eq_false_iff_ne.2 h96, beq_eq_false_iff_ne.2 h112, beq_eq_false_iff_ne.2 h192, beq_eq_false_iff_ne.2 h128, if_false, Bool.false_eq_true] at h
    · intro h
      rcases aluW_cases h with ⟨rfl, rfl⟩ | ⟨rfl, rfl⟩ | ⟨rfl, rfl⟩ | ⟨rfl, rfl⟩ | ⟨rfl, rfl⟩ | ⟨rfl, rfl⟩ | ⟨rfl, rfl⟩ | ⟨rfl, rfl⟩ | ⟨rfl, rfl⟩ | ⟨rfl, rfl⟩ | ⟨rfl, rfl⟩ | ⟨rfl, rfl⟩ | ⟨rfl, rfl⟩ | ⟨rfl, rfl⟩ | ⟨rfl, rfl⟩ | ⟨rfl, rfl⟩ | ⟨rfl, rfl⟩ | ⟨rfl, rfl⟩ <;> rfl
end W
namespace W
theorem aluW_no {op off : Int} {a b : BitVec 64} (h : (aluW op off a b).2 = false) : aluW op off a b = (BitVec.ofInt 64 0, false) := by
  unfold aluW alu at h ⊢
  by_cases c : (op == 176 && off == 32) = true
  · rw [if_pos c] at h; cases h
  rw [if_neg c] at h ⊢
  by_cases c : (op == 0 && (off == 0 && true)) = true
  · rw [if_pos c] at h; cases h
  rw [if_neg c] at h ⊢
  by_cases c : (op == 16 && (off == 0 && true)) = true
  · rw [if_pos c] at h; cases h
  rw [if_neg c] at h ⊢
  by_cases c : (op == 32 && (off == 0 && true)) = true
  · rw [if_pos c] at h; cases h
  rw [if_neg c] at h ⊢
  by_cases c : (op == 48 && (off == 0 && true)) = true
  · rw [if_pos c] at h; cases h
  rw [if_neg c] at h ⊢
  by_cases c : (op == 48 && (off == 1 && true)) = true
  · rw [if_pos c] at h; cases h
  rw [if_neg c] at h ⊢
  by_cases c : (op == 144 && (off == 0 && true)) = true
  · rw [if_pos c] at h; cases h
  rw [if_neg c] at h ⊢
  by_cases c : (op == 144 && (off == 1 && true)) = true
  · rw [if_pos c] at h; cases h
  rw [if_neg c] at h ⊢
  by_cases c : (op == 64 && (off == 0 && true)) = true
  · rw [if_pos c] at h; cases h
  rw [if_neg c] at h ⊢
  by_cases c : (op == 80 && (off == 0 && true)) = true
  · rw [if_pos c] at h; cases h
  rw [if_neg c] at h ⊢
  by_cases c : (op == 160 && (off == 0 && true)) = true
  · rw [if_pos c] at h; cases h
  rw [if_neg c] at h ⊢
  by_cases c : (op == 96 && (off == 0 && true)) = true
  · rw [if_pos c] at h; cases h
  rw [if_neg c] at h ⊢
  by_cases c : (op == 112 && (off == 0 && true)) = true
  · rw [if_pos c] at h; cases h
  rw [if_neg c] at h ⊢
  by_cases c : (op == 192 && (off == 0 && true)) = true
  · rw [if_pos c] at h; cases h
  rw [if_neg c] at h ⊢
  by_cases c : (op == 128 && (off == 0 && true)) = true
  · rw [if_pos c] at h; cases h
  rw [if_neg c] at h ⊢
  by_cases c : (op == 176 && (off == 0 && true)) = true
  · rw [if_pos c] at h; cases h
  rw [if_neg c] at h ⊢
  by_cases c : (op == 176 && (off == 8 && true)) = true
  · rw [if_pos c] at h; cases h
  rw [if_neg c] at h ⊢
  by_cases c : (op == 176 && (off == 16 && true)) = true
  · rw [if_pos c] at h; cases h
  rw [if_neg c] at h ⊢
  rfl
theorem alu32_no {op off : Int} {a b : Int} (h : (alu32 op off a b).2 = false) : alu32 op off a b = (0, false) := by
  unfold alu32 at h ⊢
  by_cases c : (op == 0 && (off == 0 && true)) = true
  · rw [if_pos c] at h; cases h
  rw [if_neg c] at h ⊢
  by_cases c : (op == 16 && (off == 0 && true)) = true
  · rw [if_pos c] at h; cases h
  rw [if_neg c] at h ⊢
  by_cases c : (op == 32 && (off == 0 && true)) = true
  · rw [if_pos c] at h; cases h
  rw [if_neg c] at h ⊢
  by_cases c : (op == 48 && (off == 0 && true)) = true
  · rw [if_pos c] at h; cases h
  rw [if_neg c] at h ⊢
  by_cases c : (op == 48 && (off == 1 && true)) = true
  · rw [if_pos c] at h; cases h
  rw [if_neg c] at h ⊢
  by_cases c : (op == 144 && (off == 0 && true)) = true
  · rw [if_pos c] at h; cases h
  rw [if_neg c] at h ⊢
  by_cases c : (op == 144 && (off == 1 && true)) = true
  · rw [if_pos c] at h; cases h
  rw [if_neg c] at h ⊢
  by_cases c : (op == 64 && (off == 0 && true)) = true
  · rw [if_pos c] at h; cases h
  rw [if_neg c] at h ⊢
  by_cases c : (op == 80 && (off == 0 && true)) = true
  · rw [if_pos c] at h; cases h
  rw [if_neg c] at h ⊢
  by_cases c : (op == 160 && (off == 0 && true)) = true
  · rw [if_pos c] at h; cases h
  rw [if_neg c] at h ⊢
  by_cases c : (op == 96 && (off == 0 && true)) = true
  · rw [if_pos c] at h; cases h
  rw [if_neg c] at h ⊢
  by_cases c : (op == 112 && (off == 0 && true)) = true
  · rw [if_pos c] at h; cases h
  rw [if_neg c] at h ⊢
  by_cases c : (op == 192 && (off == 0 && true)) = true
  · rw [if_pos c] at h; cases h
  rw [if_neg c] at h ⊢
  by_cases c : (op == 128 && (off == 0 && true)) = true
  · rw [if_pos c] at h; cases h
  rw [if_neg c] at h ⊢
  by_cases c : (op == 176 && (off == 0 && true)) = true
  · rw [if_pos c] at h; cases h
  rw [if_neg c] at h ⊢
  by_cases c : (op == 176 && (off == 8 && true)) = true
  · rw [if_pos c] at h; cases h
  rw [if_neg c] at h ⊢
  by_cases c : (op == 176 && (off == 16 && true)) = true
  · rw [if_pos c] at h; cases h
  rw [if_neg c] at h ⊢
theorem aluN_no {op off : Int} {a b : BitVec 64} (h : (aluN op off a b).2 = false) : aluN op off a b = (BitVec.ofInt 64 0, false) := by
  unfold aluN at h ⊢
  rw [alu32_no h]
theorem bne_z {x : BitVec 64} (h : (x == BitVec.ofInt 64 0) = false) : (x != 0#64) = true := by
  unfold bne; rw [show (x == 0#64) = false from h]; rfl
theorem divU_t {a b : BitVec 64} (h : (b == BitVec.ofInt 64 0) = true) : BitVec.ofInt 64 0 = divU a b := by unfold divU; rw [if_pos (show (b == 0#64) = true from h)]; rfl
theorem divU_f {a b : BitVec 64} (h : (b == BitVec.ofInt 64 0) = false) : a / b = divU a b := by unfold divU; rw [if_neg (fun c => by have c : (b == BitVec.ofInt 64 0) = true := c; rw [h] at c; cases c)]
theorem modU_t {a b : BitVec 64} (h : (b == BitVec.ofInt 64 0) = true) : a = modU a b := by unfold modU; rw [if_pos (show (b == 0#64) = true from h)]
theorem modU_f {a b : BitVec 64} (h : (b == BitVec.ofInt 64 0) = false) : a % b = modU a b := by unfold modU; rw [if_neg (fun c => by have c : (b == BitVec.ofInt 64 0) = true := c; rw [h] at c; cases c)]
theorem sv_zero {b : BitVec 64} (h : (b == BitVec.ofInt 64 0) = true) : (sv b == 0) = true := by
  rw [beq_iff_eq] at h; rw [h]; rfl
theorem divS_t {a b : BitVec 64} (h : (b == BitVec.ofInt 64 0) = true) : BitVec.ofInt 64 0 = BitVec.ofInt 64 (divS (sv a) (sv b)) := by unfold divS; rw [if_pos (sv_zero h)]
theorem ofI_sv (x : BitVec 64) : BitVec.ofInt 64 (sv x) = x := BitVec.ofInt_toInt
theorem modS_t {a b : BitVec 64} (h : (b == BitVec.ofInt 64 0) = true) : a = BitVec.ofInt 64 (modS (sv a) (sv b)) := by unfold modS; rw [if_pos (sv_zero h), ofI_sv]
theorem by_64 (b : BitVec 64) : sv (b % BitVec.ofInt 64 64) = ((b.toNat % 64 : Nat) : Int) := by
  rw [C.sv_small, BitVec.toNat_umod]
  · rfl
  · rw [BitVec.toNat_umod]
    have : b.toNat % (BitVec.ofInt 64 64).toNat < 64 := Nat.mod_lt _ (by decide)
    omega
theorem by_32 (b : BitVec 64) : sv (b % BitVec.ofInt 64 32) = ((b.toNat % 32 : Nat) : Int) := by
  rw [C.sv_small, BitVec.toNat_umod]
  · rfl
  · rw [BitVec.toNat_umod]
    have : b.toNat % (BitVec.ofInt 64 32).toNat < 32 := Nat.mod_lt _ (by decide)
    omega
theorem at_64 (b : BitVec 64) : (BitVec.ofInt 64 (sv (b % BitVec.ofInt 64 64))).toNat = (b % 64#64).toNat := by rw [ofI_sv]; rfl
theorem at_32 (b : BitVec 64) : (BitVec.ofInt 64 (sv (b % BitVec.ofInt 64 32))).toNat = b.toNat % 32 := by
  rw [ofI_sv, BitVec.toNat_umod]; rfl
theorem at64_in (b : BitVec 64) : (decide (0 ≤ sv (b % BitVec.ofInt 64 64)) && decide (sv (b % BitVec.ofInt 64 64) ≤ 63)) = true := by
  rw [by_64]
  have : b.toNat % 64 < 64 := Nat.mod_lt _ (by decide)
  simp; omega
theorem sar_at (a b : BitVec 64) : a.sshiftRight (sv (b % BitVec.ofInt 64 64)).toNat = (aluW 192 0 a b).1 := by
  show _ = a.sshiftRight (min (b % 64#64).toNat 64)
  rw [by_64, Int.toNat_natCast, BitVec.toNat_umod, show (64#64 : BitVec 64).toNat = 64 from rfl, Nat.min_eq_left (Nat.le_of_lt (Nat.mod_lt _ (by decide)))]
theorem xt_lt (a : BitVec 64) : (xt a 32 false).toNat < 4294967296 := by rw [xtn]; exact Nat.mod_lt _ (by decide)
theorem at32_in (a b : BitVec 64) : (decide (0 ≤ sv (b % BitVec.ofInt 64 32)) && (decide (sv (b % BitVec.ofInt 64 32) ≤ 63) && decide ((xt a 32 false).toNat < 4294967296))) = true := by
  rw [by_32, decide_eq_true (xt_lt a)]
  have : b.toNat % 32 < 32 := Nat.mod_lt _ (by decide)
  simp; omega
theorem sar32_xt (a : BitVec 64) (j : Nat) : xt (sar32 a j) 32 false = sar32 a j := by
  unfold sar32; rw [u32_xt]
theorem sar32_at {a b : BitVec 64} (ha : a.toNat < 4294967296) (hb : b.toNat < 4294967296) : xt (sar32 a (sv (b % BitVec.ofInt 64 32)).toNat) 32 false = (aluN 192 0 a b).1 := by
  rw [sar32_xt, nar, Nat.mod_eq_of_lt ha, Nat.mod_eq_of_lt hb, r_192, by32, by_32, Int.toNat_natCast]
  show BitVec.ofInt 64 (IntKind.u32.wrap ((i32 a).fdiv (2 ^ (b.toNat % 32)))) = BitVec.ofInt 64 (IntKind.u32.wrap ((i32 a).fdiv (2 ^ min (b.toNat % 18446744073709551616 % 32) 32)))
  rw [show min (b.toNat % 18446744073709551616 % 32) 32 = b.toNat % 32 by omega]
end W
namespace W
theorem nz {b : BitVec 64} (h : (b == BitVec.ofInt 64 0) = false) : (!(b == BitVec.ofInt 64 0)) = true := by rw [h]; rfl
theorem nz2 {a b : BitVec 64} (h : (xt b 32 false == BitVec.ofInt 64 0) = false) : (!(xt b 32 false == BitVec.ofInt 64 0) && (decide ((xt a 32 false).toNat < 4294967296) && decide ((xt b 32 false).toNat < 4294967296))) = true := by
  rw [h, decide_eq_true (xt_lt a), decide_eq_true (xt_lt b)]; rfl
theorem cl {op off : Int} {a b r : BitVec 64} (h : (aluN op off (xt a 32 false) (xt b 32 false)).1 = r) : r = (aluN op off a b).1 := h.symm.trans (nar_xt op off a b)
theorem xt0 : xt (BitVec.ofInt 64 0) 32 false = BitVec.ofInt 64 0 := by kernel_rfl
theorem aluN_2 {op off : Int} {a b : BitVec 64} (h : (aluN op off a b).2 = true) : (alu32 op off (IntKind.u32.wrap (uv a)) (IntKind.u32.wrap (uv b))).2 = true := h
theorem is_xt (op off : Int) (a b : BitVec 64) : (aluN op off (xt a 32 false) (xt b 32 false)).2 = (aluN op off a b).2 := alu32_is ..
theorem eqv_no {p : BitVec 64 × Bool} (h : p = (BitVec.ofInt 64 0, false)) : eqv (.tup [.u64 (BitVec.ofInt 64 0), .ff]) (.tup [.u64 p.1, .bool p.2]) := by subst h; exact ⟨rfl, rfl, trivial⟩
theorem eqv_yes {p : BitVec 64 × Bool} {x : BitVec 64} (h : p.2 = true) (k : x = p.1) : eqv (.tup [.u64 x, .tt]) (.tup [.u64 p.1, .bool p.2]) := by
  obtain ⟨y, b⟩ := p
  have h : b = true := h
  have k : x = y := k
  subst h k; exact ⟨rfl, rfl, trivial⟩
end W
end Go.Proofs.YtkfbjnikkmoanaaGreatDoor
namespace Go.Proofs.YtkfbjnikkmoanaaGreatDoor
open Go.RowKit Go.Sx
set_option linter.unusedSimpArgs false
set_option linter.unusedVariables false
set_option linter.unnecessarySimpa false
set_option maxRecDepth 100000
set_option maxHeartbeats 4000000
attribute [local irreducible] W.xt
def k_rcut : List SV → List Blk → Res := fun args _ => match args with
  | [.u64 n, .int .i64 64] => .ok (.u64 n) []
  | [.u64 n, .int .i64 32] => .ok (.u64 (W.xt n 32 false)) []
  | [.u64 n, .int .i64 16] => .ok (.u64 (W.xt n 16 false)) []
  | [.u64 n, .int .i64 8] => .ok (.u64 (W.xt n 8 false)) []
  | _ => .fail
theorem k_rcut_ok : CtrOk Tryz.prog Gw 108 k_rcut := by
  refine ⟨fun _ _ => by kernel_rfl, fun args M => ?_⟩
  unfold k_rcut
  split
  · rename_i n
    refine ctr_flat (Γ := ⟨[], eqs, [], [], []⟩) (sv := .u64 n) st_Gw ⟨okNil, eqs_ok, okNilB, okNilI, okNilP⟩ Tryz.func108 rfl mixed [] (by kernel_rfl) 10000 (by rfl) ?_
    (conv => whnf)
    (repeat' (first | (refine step_t (by first | rfl | assumption) ?_; (conv => whnf)) | (refine step_f (by first | rfl | assumption) ?_; (conv => whnf)) | (refine step_nt (by assumption) ?_; (conv => whnf)) | (refine step_nf (by assumption) ?_; (conv => whnf)) | (refine step_n (fun hb => ?_) (fun hb => ?_) <;> (first | contradiction | (conv => whnf))) | (refine And.intro (fun hb => ?_) (fun hb => ?_) <;> (first | contradiction | (conv => whnf))) | (refine And.intro (a := (_ : Bool) = true) ?_ ?_; rotate_left 1; (conv => whnf))))
    all_goals (first | rfl | trivial | decide | exact W.y_f32 n | exact W.y_f16 n | exact W.y_f8 n)
  · rename_i n
    refine ctr_flat (Γ := ⟨[], eqs, [], [], []⟩) (sv := .u64 (W.xt n 32 false)) st_Gw ⟨okNil, eqs_ok, okNilB, okNilI, okNilP⟩ Tryz.func108 rfl mixed [] (by kernel_rfl) 10000 (by rfl) ?_
    (conv => whnf)
    (repeat' (first | (refine step_t (by first | rfl | assumption) ?_; (conv => whnf)) | (refine step_f (by first | rfl | assumption) ?_; (conv => whnf)) | (refine step_nt (by assumption) ?_; (conv => whnf)) | (refine step_nf (by assumption) ?_; (conv => whnf)) | (refine step_n (fun hb => ?_) (fun hb => ?_) <;> (first | contradiction | (conv => whnf))) | (refine And.intro (fun hb => ?_) (fun hb => ?_) <;> (first | contradiction | (conv => whnf))) | (refine And.intro (a := (_ : Bool) = true) ?_ ?_; rotate_left 1; (conv => whnf))))
    all_goals (first | rfl | trivial | decide | exact W.y_f32 n | exact W.y_f16 n | exact W.y_f8 n)
  · rename_i n
    refine ctr_flat (Γ := ⟨[], eqs, [], [], []⟩) (sv := .u64 (W.xt n 16 false)) st_Gw ⟨okNil, eqs_ok, okNilB, okNilI, okNilP⟩ Tryz.func108 rfl mixed [] (by kernel_rfl) 10000 (by rfl) ?_
    (conv => whnf)
    (repeat' (first | (refine step_t (by first | rfl | assumption) ?_; (conv => whnf)) | (refine step_f (by first | rfl | assumption) ?_; (conv => whnf)) | (refine step_nt (by assumption) ?_; (conv => whnf)) | (refine step_nf (by assumption) ?_; (conv => whnf)) | (refine step_n (fun hb => ?_) (fun hb => ?_) <;> (first | contradiction | (conv => whnf))) | (refine And.intro (fun hb => ?_) (fun hb => ?_) <;> (first | contradiction | (conv => whnf))) | (refine And.intro (a := (_ : Bool) = true) ?_ ?_; rotate_left 1; (conv => whnf))))
    all_goals (first | rfl | trivial | decide | exact W.y_f32 n | exact W.y_f16 n | exact W.y_f8 n)
  · rename_i n
    refine ctr_flat (Γ := ⟨[], eqs, [], [], []⟩) (sv := .u64 (W.xt n 8 false)) st_Gw ⟨okNil, eqs_ok, okNilB, okNilI, okNilP⟩ Tryz.func108 rfl mixed [] (by kernel_rfl) 10000 (by rfl) ?_
    (conv => whnf)
    (repeat' (first | (refine step_t (by first | rfl | assumption) ?_; (conv => whnf)) | (refine step_f (by first | rfl | assumption) ?_; (conv => whnf)) | (refine step_nt (by assumption) ?_; (conv => whnf)) | (refine step_nf (by assumption) ?_; (conv => whnf)) | (refine step_n (fun hb => ?_) (fun hb => ?_) <;> (first | contradiction | (conv => whnf))) | (refine And.intro (fun hb => ?_) (fun hb => ?_) <;> (first | contradiction | (conv => whnf))) | (refine And.intro (a := (_ : Bool) = true) ?_ ?_; rotate_left 1; (conv => whnf))))
    all_goals (first | rfl | trivial | decide | exact W.y_f32 n | exact W.y_f16 n | exact W.y_f8 n)
  · trivial
def k_rneg : List SV → List Blk → Res := fun args _ => match args with
  | [.u64 n, .int .i64 b] => .ok (.bool (W.neg n b)) []
  | _ => .fail
theorem k_rneg_ok : CtrOk Tryz.prog Gw 140 k_rneg := by
  refine ⟨fun _ _ => by kernel_rfl, fun args M => ?_⟩
  unfold k_rneg
  split
  · rename_i n b
    refine ctr_flat (Γ := ⟨[], eqs, [], [], []⟩) (sv := .bool (W.neg n b)) st_Gw ⟨okNil, eqs_ok, okNilB, okNilI, okNilP⟩ Tryz.func140 rfl mixed [] (by kernel_rfl) 10000 (by rfl) ?_
    (conv => whnf)
    (repeat' (first | (refine step_t (by first | rfl | assumption) ?_; (conv => whnf)) | (refine step_f (by first | rfl | assumption) ?_; (conv => whnf)) | (refine step_nt (by assumption) ?_; (conv => whnf)) | (refine step_nf (by assumption) ?_; (conv => whnf)) | (refine step_n (fun hb => ?_) (fun hb => ?_) <;> (first | contradiction | (conv => whnf))) | (refine And.intro (fun hb => ?_) (fun hb => ?_) <;> (first | contradiction | (conv => whnf))) | (refine And.intro (a := (_ : Bool) = true) ?_ ?_; rotate_left 1; (conv => whnf))))
    all_goals (first | rfl | trivial)
  · trivial
def k_rwiden : List SV → List Blk → Res := fun args _ => match args with
  | [.u64 a, .int .i64 8] => .ok (.u64 (W.xt a 8 true)) []
  | [.u64 a, .int .i64 16] => .ok (.u64 (W.xt a 16 true)) []
  | [.u64 a, .int .i64 32] => .ok (.u64 (W.xt a 32 true)) []
  | _ => .fail
theorem k_rwiden_ok : CtrOk Tryz.prog Gw 112 k_rwiden := by
  refine ⟨fun _ _ => by kernel_rfl, fun args M => ?_⟩
  unfold k_rwiden
  split
  · rename_i a
    refine ctr_flat (Γ := ⟨[], eqs, [], [(108, Tryz.f108, []), (140, Tryz.f140, [])], []⟩) (sv := .u64 (W.xt a 8 true)) st_Gw ⟨okNil, eqs_ok, okNilB, (okConsI Tryz.func108 rfl (by kernel_rfl) (fun _ _ => by kernel_rfl) (okConsI Tryz.func140 rfl (by kernel_rfl) (fun _ _ => by kernel_rfl) okNilI)), okNilP⟩ Tryz.func112 rfl mixed [] (by kernel_rfl) 10000 (by rfl) ?_
    (conv => whnf)
    (repeat' (first | (refine .inl ⟨20, ?_⟩; (conv => whnf)) | (refine And.intro (fun hb => ?_) (fun hb => ?_) <;> (first | contradiction | (conv => whnf))) | (refine And.intro ?_ ?_; rotate_left 1; (conv => whnf))))
    all_goals ((try simp only [beq_iff_eq, beq_eq_false_iff_ne, bne_iff_ne, bne_eq_false_iff_eq, ne_eq] at *) <;> (try subst_vars) <;> first | exact W.x_t64 a | rfl | trivial | decide | exact W.x_f8 a | exact W.x_t8 a | exact W.x_f16 a | exact W.x_t16 a | exact W.x_f32 a | exact W.x_t32 a | exact W.y_f8 a | exact W.y_f16 a | exact W.y_f32 a | exact W.y_t8 a (W.y_neg8 a ▸ beq_iff_eq.2 (by assumption)) | exact W.y_u8 a (W.y_neg8 a ▸ beq_eq_false_iff_ne.2 (by assumption)) | exact W.y_t16 a (W.y_neg16 a ▸ beq_iff_eq.2 (by assumption)) | exact W.y_u16 a (W.y_neg16 a ▸ beq_eq_false_iff_ne.2 (by assumption)) | exact W.y_t32 a (W.y_neg32 a ▸ beq_iff_eq.2 (by assumption)) | exact W.y_u32 a (W.y_neg32 a ▸ beq_eq_false_iff_ne.2 (by assumption)) | (exact absurd (by assumption) (by decide)) | (simp_all [eqv, eqv1, eqv2, W.extB]; done))
  · rename_i a
    refine ctr_flat (Γ := ⟨[], eqs, [], [(108, Tryz.f108, []), (140, Tryz.f140, [])], []⟩) (sv := .u64 (W.xt a 16 true)) st_Gw ⟨okNil, eqs_ok, okNilB, (okConsI Tryz.func108 rfl (by kernel_rfl) (fun _ _ => by kernel_rfl) (okConsI Tryz.func140 rfl (by kernel_rfl) (fun _ _ => by kernel_rfl) okNilI)), okNilP⟩ Tryz.func112 rfl mixed [] (by kernel_rfl) 10000 (by rfl) ?_
    (conv => whnf)
    (repeat' (first | (refine .inl ⟨20, ?_⟩; (conv => whnf)) | (refine And.intro (fun hb => ?_) (fun hb => ?_) <;> (first | contradiction | (conv => whnf))) | (refine And.intro ?_ ?_; rotate_left 1; (conv => whnf))))
    all_goals ((try simp only [beq_iff_eq, beq_eq_false_iff_ne, bne_iff_ne, bne_eq_false_iff_eq, ne_eq] at *) <;> (try subst_vars) <;> first | exact W.x_t64 a | rfl | trivial | decide | exact W.x_f8 a | exact W.x_t8 a | exact W.x_f16 a | exact W.x_t16 a | exact W.x_f32 a | exact W.x_t32 a | exact W.y_f8 a | exact W.y_f16 a | exact W.y_f32 a | exact W.y_t8 a (W.y_neg8 a ▸ beq_iff_eq.2 (by assumption)) | exact W.y_u8 a (W.y_neg8 a ▸ beq_eq_false_iff_ne.2 (by assumption)) | exact W.y_t16 a (W.y_neg16 a ▸ beq_iff_eq.2 (by assumption)) | exact W.y_u16 a (W.y_neg16 a ▸ beq_eq_false_iff_ne.2 (by assumption)) | exact W.y_t32 a (W.y_neg32 a ▸ beq_iff_eq.2 (by assumption)) | exact W.y_u32 a (W.y_neg32 a ▸ beq_eq_false_iff_ne.2 (by assumption)) | (exact absurd (by assumption) (by decide)) | (simp_all [eqv, eqv1, eqv2, W.extB]; done))
  · rename_i a
    refine ctr_flat (Γ := ⟨[], eqs, [], [(108, Tryz.f108, []), (140, Tryz.f140, [])], []⟩) (sv := .u64 (W.xt a 32 true)) st_Gw ⟨okNil, eqs_ok, okNilB, (okConsI Tryz.func108 rfl (by kernel_rfl) (fun _ _ => by kernel_rfl) (okConsI Tryz.func140 rfl (by kernel_rfl) (fun _ _ => by kernel_rfl) okNilI)), okNilP⟩ Tryz.func112 rfl mixed [] (by kernel_rfl) 10000 (by rfl) ?_
    (conv => whnf)
    (repeat' (first | (refine .inl ⟨20, ?_⟩; (conv => whnf)) | (refine And.intro (fun hb => ?_) (fun hb => ?_) <;> (first | contradiction | (conv => whnf))) | (refine And.intro ?_ ?_; rotate_left 1; (conv => whnf))))
    all_goals ((try simp only [beq_iff_eq, beq_eq_false_iff_ne, bne_iff_ne, bne_eq_false_iff_eq, ne_eq] at *) <;> (try subst_vars) <;> first | exact W.x_t64 a | rfl | trivial | decide | exact W.x_f8 a | exact W.x_t8 a | exact W.x_f16 a | exact W.x_t16 a | exact W.x_f32 a | exact W.x_t32 a | exact W.y_f8 a | exact W.y_f16 a | exact W.y_f32 a | exact W.y_t8 a (W.y_neg8 a ▸ beq_iff_eq.2 (by assumption)) | exact W.y_u8 a (W.y_neg8 a ▸ beq_eq_false_iff_ne.2 (by assumption)) | exact W.y_t16 a (W.y_neg16 a ▸ beq_iff_eq.2 (by assumption)) | exact W.y_u16 a (W.y_neg16 a ▸ beq_eq_false_iff_ne.2 (by assumption)) | exact W.y_t32 a (W.y_neg32 a ▸ beq_iff_eq.2 (by assumption)) | exact W.y_u32 a (W.y_neg32 a ▸ beq_eq_false_iff_ne.2 (by assumption)) | (exact absurd (by assumption) (by decide)) | (simp_all [eqv, eqv1, eqv2, W.extB]; done))
  · trivial
attribute [local irreducible] W.neg
def k_rabs : List SV → List Blk → Res := fun args _ => match args with
  | [.u64 n, .int .i64 64] => .ok (.u64 (W.abs64 n)) []
  | [.u64 n, .int .i64 32] => .ok (.u64 (W.abs32 n)) []
  | _ => .fail
theorem k_rabs_ok : CtrOk Tryz.prog Gw 179 k_rabs := by
  refine ⟨fun _ _ => by kernel_rfl, fun args M => ?_⟩
  unfold k_rabs
  split
  · rename_i n
    refine ctr_flat (Γ := ⟨[(108, k_rcut), (140, k_rneg)], eqs, [], [], []⟩) (sv := .u64 (W.abs64 n)) st_Gw ⟨(okCons k_rcut_ok (okCons k_rneg_ok okNil)), eqs_ok, okNilB, okNilI, okNilP⟩ Tryz.func179 rfl mixed [] (by kernel_rfl) 10000 (by rfl) ?_
    (conv => whnf)
    (repeat' (first | (refine step_t (by first | rfl | assumption) ?_; (conv => whnf)) | (refine step_f (by first | rfl | assumption) ?_; (conv => whnf)) | (refine step_nt (by assumption) ?_; (conv => whnf)) | (refine step_nf (by assumption) ?_; (conv => whnf)) | (refine step_n (fun hb => ?_) (fun hb => ?_) <;> (first | contradiction | (conv => whnf))) | (refine And.intro (fun hb => ?_) (fun hb => ?_) <;> (first | contradiction | (conv => whnf))) | (refine And.intro (a := (_ : Bool) = true) ?_ ?_; rotate_left 1; (conv => whnf))))
    all_goals (first | rfl | trivial | (simp only [eqv, eqv1, W.abs64, W.abs32, *, if_true, if_false, Bool.false_eq_true]; done))
  · rename_i n
    refine ctr_flat (Γ := ⟨[(108, k_rcut), (140, k_rneg)], eqs, [], [], []⟩) (sv := .u64 (W.abs32 n)) st_Gw ⟨(okCons k_rcut_ok (okCons k_rneg_ok okNil)), eqs_ok, okNilB, okNilI, okNilP⟩ Tryz.func179 rfl mixed [] (by kernel_rfl) 10000 (by rfl) ?_
    (conv => whnf)
    (repeat' (first | (refine step_t (by first | rfl | assumption) ?_; (conv => whnf)) | (refine step_f (by first | rfl | assumption) ?_; (conv => whnf)) | (refine step_nt (by assumption) ?_; (conv => whnf)) | (refine step_nf (by assumption) ?_; (conv => whnf)) | (refine step_n (fun hb => ?_) (fun hb => ?_) <;> (first | contradiction | (conv => whnf))) | (refine And.intro (fun hb => ?_) (fun hb => ?_) <;> (first | contradiction | (conv => whnf))) | (refine And.intro (a := (_ : Bool) = true) ?_ ?_; rotate_left 1; (conv => whnf))))
    all_goals (first | rfl | trivial | (simp only [eqv, eqv1, W.abs64, W.abs32, *, if_true, if_false, Bool.false_eq_true]; done))
  · trivial
attribute [local irreducible] W.abs64 W.abs32 W.aluN W.divS W.modS
def k_rquot : List SV → List Blk → Res := fun args _ => match args with
  | [.u64 a, .u64 b, .int .i64 64] => .test (!(b == BitVec.ofInt 64 0)) (.ok (.u64 (BitVec.ofInt 64 (W.divS (sv a) (sv b)))) [])
  | [.u64 a, .u64 b, .int .i64 32] => .test (!(b == BitVec.ofInt 64 0) && (decide (a.toNat < 4294967296) && decide (b.toNat < 4294967296))) (.ok (.u64 (W.aluN 48 1 a b).1) [])
  | _ => .fail
theorem k_rquot_ok : CtrOk Tryz.prog Gw 138 k_rquot := by
  refine ⟨fun _ _ => by kernel_rfl, fun args M => ?_⟩
  unfold k_rquot
  split
  · rename_i a b
    intro ht
    have hz : (b == BitVec.ofInt 64 0) = false := by revert ht; cases (b == BitVec.ofInt 64 0) <;> simp
    refine ctr_flat (Γ := ⟨[(179, k_rabs), (140, k_rneg), (108, k_rcut)], eqs, [], [], []⟩) (sv := .u64 (BitVec.ofInt 64 (W.divS (sv a) (sv b)))) st_Gw ⟨(okCons k_rabs_ok (okCons k_rneg_ok (okCons k_rcut_ok okNil))), eqs_ok, okNilB, okNilI, okNilP⟩ Tryz.func138 rfl mixed [] (by kernel_rfl) 10000 (by rfl) ?_
    (conv => whnf)
    (repeat' (first | (refine step_t (by first | rfl | assumption) ?_; (conv => whnf)) | (refine step_f (by first | rfl | assumption) ?_; (conv => whnf)) | (refine step_nt (by assumption) ?_; (conv => whnf)) | (refine step_nf (by assumption) ?_; (conv => whnf)) | (refine step_n (fun hb => ?_) (fun hb => ?_) <;> (first | contradiction | (conv => whnf))) | (refine And.intro (fun hb => ?_) (fun hb => ?_) <;> (first | contradiction | (conv => whnf))) | (refine And.intro (a := (_ : Bool) = true) ?_ ?_; rotate_left 1; (conv => whnf))))
    all_goals (first | rfl | trivial | exact W.bne_z (W.abs64_ne hz) | exact W.bne_z (W.abs32_ne h2 hz) | exact W.quo_eq hz (by assumption) | exact W.quo_ne hz (by assumption) | exact W.quo32_eq h1 h2 hz (by assumption) | exact W.quo32_ne h1 h2 hz (by assumption) )
  · rename_i a b
    intro ht
    simp only [Bool.and_eq_true, decide_eq_true_eq] at ht
    have h1 := ht.2.1
    have h2 := ht.2.2
    have hz : (b == BitVec.ofInt 64 0) = false := by have h0 := ht.1; revert h0; cases (b == BitVec.ofInt 64 0) <;> simp
    refine ctr_flat (Γ := ⟨[(179, k_rabs), (140, k_rneg), (108, k_rcut)], eqs, [], [], []⟩) (sv := .u64 (W.aluN 48 1 a b).1) st_Gw ⟨(okCons k_rabs_ok (okCons k_rneg_ok (okCons k_rcut_ok okNil))), eqs_ok, okNilB, okNilI, okNilP⟩ Tryz.func138 rfl mixed [] (by kernel_rfl) 10000 (by rfl) ?_
    (conv => whnf)
    (repeat' (first | (refine step_t (by first | rfl | assumption) ?_; (conv => whnf)) | (refine step_f (by first | rfl | assumption) ?_; (conv => whnf)) | (refine step_nt (by assumption) ?_; (conv => whnf)) | (refine step_nf (by assumption) ?_; (conv => whnf)) | (refine step_n (fun hb => ?_) (fun hb => ?_) <;> (first | contradiction | (conv => whnf))) | (refine And.intro (fun hb => ?_) (fun hb => ?_) <;> (first | contradiction | (conv => whnf))) | (refine And.intro (a := (_ : Bool) = true) ?_ ?_; rotate_left 1; (conv => whnf))))
    all_goals (first | rfl | trivial | exact W.bne_z (W.abs64_ne hz) | exact W.bne_z (W.abs32_ne h2 hz) | exact W.quo_eq hz (by assumption) | exact W.quo_ne hz (by assumption) | exact W.quo32_eq h1 h2 hz (by assumption) | exact W.quo32_ne h1 h2 hz (by assumption) )
  · trivial
def k_rrest : List SV → List Blk → Res := fun args _ => match args with
  | [.u64 a, .u64 b, .int .i64 64] => .test (!(b == BitVec.ofInt 64 0)) (.ok (.u64 (BitVec.ofInt 64 (W.modS (sv a) (sv b)))) [])
  | [.u64 a, .u64 b, .int .i64 32] => .test (!(b == BitVec.ofInt 64 0) && (decide (a.toNat < 4294967296) && decide (b.toNat < 4294967296))) (.ok (.u64 (W.aluN 144 1 a b).1) [])
  | _ => .fail
theorem k_rrest_ok : CtrOk Tryz.prog Gw 139 k_rrest := by
  refine ⟨fun _ _ => by kernel_rfl, fun args M => ?_⟩
  unfold k_rrest
  split
  · rename_i a b
    intro ht
    have hz : (b == BitVec.ofInt 64 0) = false := by revert ht; cases (b == BitVec.ofInt 64 0) <;> simp
    refine ctr_flat (Γ := ⟨[(179, k_rabs), (140, k_rneg), (108, k_rcut)], eqs, [], [], []⟩) (sv := .u64 (BitVec.ofInt 64 (W.modS (sv a) (sv b)))) st_Gw ⟨(okCons k_rabs_ok (okCons k_rneg_ok (okCons k_rcut_ok okNil))), eqs_ok, okNilB, okNilI, okNilP⟩ Tryz.func139 rfl mixed [] (by kernel_rfl) 10000 (by rfl) ?_
    (conv => whnf)
    (repeat' (first | (refine step_t (by first | rfl | assumption) ?_; (conv => whnf)) | (refine step_f (by first | rfl | assumption) ?_; (conv => whnf)) | (refine step_nt (by assumption) ?_; (conv => whnf)) | (refine step_nf (by assumption) ?_; (conv => whnf)) | (refine step_n (fun hb => ?_) (fun hb => ?_) <;> (first | contradiction | (conv => whnf))) | (refine And.intro (fun hb => ?_) (fun hb => ?_) <;> (first | contradiction | (conv => whnf))) | (refine And.intro (a := (_ : Bool) = true) ?_ ?_; rotate_left 1; (conv => whnf))))
    all_goals (first | rfl | trivial | exact W.bne_z (W.abs64_ne hz) | exact W.bne_z (W.abs32_ne h2 hz) | exact W.res_t hz (by assumption) | exact W.res_f hz (by assumption) | exact W.res32_t h1 h2 hz (by assumption) | exact W.res32_f h1 h2 hz (by assumption) )
  · rename_i a b
    intro ht
    simp only [Bool.and_eq_true, decide_eq_true_eq] at ht
    have h1 := ht.2.1
    have h2 := ht.2.2
    have hz : (b == BitVec.ofInt 64 0) = false := by have h0 := ht.1; revert h0; cases (b == BitVec.ofInt 64 0) <;> simp
    refine ctr_flat (Γ := ⟨[(179, k_rabs), (140, k_rneg), (108, k_rcut)], eqs, [], [], []⟩) (sv := .u64 (W.aluN 144 1 a b).1) st_Gw ⟨(okCons k_rabs_ok (okCons k_rneg_ok (okCons k_rcut_ok okNil))), eqs_ok, okNilB, okNilI, okNilP⟩ Tryz.func139 rfl mixed [] (by kernel_rfl) 10000 (by rfl) ?_
    (conv => whnf)
    (repeat' (first | (refine step_t (by first | rfl | assumption) ?_; (conv => whnf)) | (refine step_f (by first | rfl | assumption) ?_; (conv => whnf)) | (refine step_nt (by assumption) ?_; (conv => whnf)) | (refine step_nf (by assumption) ?_; (conv => whnf)) | (refine step_n (fun hb => ?_) (fun hb => ?_) <;> (first | contradiction | (conv => whnf))) | (refine And.intro (fun hb => ?_) (fun hb => ?_) <;> (first | contradiction | (conv => whnf))) | (refine And.intro (a := (_ : Bool) = true) ?_ ?_; rotate_left 1; (conv => whnf))))
    all_goals (first | rfl | trivial | exact W.bne_z (W.abs64_ne hz) | exact W.bne_z (W.abs32_ne h2 hz) | exact W.res_t hz (by assumption) | exact W.res_f hz (by assumption) | exact W.res32_t h1 h2 hz (by assumption) | exact W.res32_f h1 h2 hz (by assumption) )
  · trivial
def k_rknown : List SV → List Blk → Res := fun args _ => match args with
  | [.int .u8 op, .int .i16 off, .tt] => .ok (.bool (W.know op off true)) []
  | [.int .u8 op, .int .i16 off, .ff] => .ok (.bool (W.know op off false)) []
  | _ => .fail
theorem k_rknown_ok : CtrOk Tryz.prog Gw 107 k_rknown := by
  refine ⟨fun _ _ => by kernel_rfl, fun args M => ?_⟩
  unfold k_rknown
  split
  · rename_i op off
    refine ctr_flat (Γ := ⟨[], eqs, [], [], []⟩) (sv := .bool (W.know op off true)) st_Gw ⟨okNil, eqs_ok, okNilB, okNilI, okNilP⟩ Tryz.func107 rfl mixed [] (by kernel_rfl) 10000 (by rfl) ?_
    (conv => whnf)
    (repeat' (first | (refine step_t (by first | rfl | assumption) ?_; (conv => whnf)) | (refine step_f (by first | rfl | assumption) ?_; (conv => whnf)) | (refine step_nt (by assumption) ?_; (conv => whnf)) | (refine step_nf (by assumption) ?_; (conv => whnf)) | (refine step_n (fun hb => ?_) (fun hb => ?_) <;> (first | contradiction | (conv => whnf))) | (refine And.intro (fun hb => ?_) (fun hb => ?_) <;> (first | contradiction | (conv => whnf))) | (refine And.intro (a := (_ : Bool) = true) ?_ ?_; rotate_left 1; (conv => whnf))))
    all_goals (first | rfl | trivial | (simp only [eqv, eqv1, W.know, *, if_true, if_false, Bool.false_eq_true, Bool.and_true, Bool.and_false, Bool.or_false, Bool.or_true, Bool.true_or, Bool.false_or]; done) | (simp only [eqv, eqv1, W.know, *, if_true, if_false, Bool.false_eq_true, Bool.and_true, Bool.and_false, Bool.or_false, Bool.or_true, Bool.true_or, Bool.false_or]; rfl))
  · rename_i op off
    refine ctr_flat (Γ := ⟨[], eqs, [], [], []⟩) (sv := .bool (W.know op off false)) st_Gw ⟨okNil, eqs_ok, okNilB, okNilI, okNilP⟩ Tryz.func107 rfl mixed [] (by kernel_rfl) 10000 (by rfl) ?_
    (conv => whnf)
    (repeat' (first | (refine step_t (by first | rfl | assumption) ?_; (conv => whnf)) | (refine step_f (by first | rfl | assumption) ?_; (conv => whnf)) | (refine step_nt (by assumption) ?_; (conv => whnf)) | (refine step_nf (by assumption) ?_; (conv => whnf)) | (refine step_n (fun hb => ?_) (fun hb => ?_) <;> (first | contradiction | (conv => whnf))) | (refine And.intro (fun hb => ?_) (fun hb => ?_) <;> (first | contradiction | (conv => whnf))) | (refine And.intro (a := (_ : Bool) = true) ?_ ?_; rotate_left 1; (conv => whnf))))
    all_goals (first | rfl | trivial | (simp only [eqv, eqv1, W.know, *, if_true, if_false, Bool.false_eq_true, Bool.and_true, Bool.and_false, Bool.or_false, Bool.or_true, Bool.true_or, Bool.false_or]; done) | (simp only [eqv, eqv1, W.know, *, if_true, if_false, Bool.false_eq_true, Bool.and_true, Bool.and_false, Bool.or_false, Bool.or_true, Bool.true_or, Bool.false_or]; rfl))
  · trivial
end Go.Proofs.YtkfbjnikkmoanaaGreatDoor
