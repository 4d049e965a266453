import Derived.Test.YtgaclnllkiihlaaX5
namespace Go.Proofs.Ytgaclnllkiihlaa
open Go.RowKit Go.Sx
set_option linter.unusedSimpArgs false
set_option linter.unusedVariables false
set_option linter.unnecessarySimpa false
set_option maxRecDepth 100000
set_option maxHeartbeats 4000000
namespace R
theorem bl_lt {n : BitVec 64} {j : Nat} (hj : j ≤ 64) : 2 ^ j ≤ n.toNat ↔ j < bl n := by
  constructor
  · intro h
    have e := Lib.bitLen_shift j n.toNat h n.isLt
    have hp : 0 < 2 ^ j := Nat.pow_pos (by omega)
    have hq : n.toNat / 2 ^ j ≠ 0 := by
      have := Nat.div_le_div_right (c := 2 ^ j) h
      rw [Nat.div_self hp] at this; omega
    have hq2 : n.toNat / 2 ^ j < 2 ^ 64 := Nat.lt_of_le_of_lt (Nat.div_le_self ..) n.isLt
    have := Lib.bitLen_half _ hq hq2
    unfold bl; omega
  · intro h
    apply Classical.byContradiction
    intro hn
    have := Lib.bitLen_le n.toNat j hj (by omega)
    unfold bl at h; omega
theorem ones_lt {n : BitVec 64} {j : Nat} (hj : j ≤ 64) : decide (BitVec.ofNat 64 (2 ^ j - 1) < n) = decide (j < bl n) := by
  apply decide_eq_decide.2
  rw [← bl_lt hj, BitVec.lt_def, BitVec.toNat_ofNat]
  have h1 : 2 ^ j ≤ 2 ^ 64 := Nat.pow_le_pow_right (by omega) hj
  have hp : 0 < 2 ^ j := Nat.pow_pos (by omega)
  rw [Nat.mod_eq_of_lt (by omega)]
  omega
theorem ones_succ (j : Nat) : BitVec.ofNat 64 (2 ^ j - 1) * BitVec.ofInt 64 2 + BitVec.ofInt 64 1 = BitVec.ofNat 64 (2 ^ (j + 1) - 1) := by
  have hp : 0 < 2 ^ j := Nat.pow_pos (by omega)
  rw [show BitVec.ofInt 64 2 = BitVec.ofNat 64 2 by decide, show BitVec.ofInt 64 1 = BitVec.ofNat 64 1 by decide, ← BitVec.ofNat_mul, ← BitVec.ofNat_add]
  congr 1; rw [Nat.pow_succ]; omega
theorem ones_end : ∀ j : Fin 65, BitVec.ofNat 64 (2 ^ j.val - 1) = BitVec.ofInt 64 1 <<< j.val - BitVec.ofInt 64 1 := by decide
theorem half_succ (n : Int) (j : Nat) : half n (j + 1) = half n j / 2 := by
  unfold half
  have h1 : (0 : Int) < 2 ^ j := Int.pow_pos (by decide)
  have h2 : (0 : Int) < 2 ^ (j + 1) := Int.pow_pos (by decide)
  rw [Int.fdiv_eq_ediv_of_nonneg _ (Int.le_of_lt h1), Int.fdiv_eq_ediv_of_nonneg _ (Int.le_of_lt h2), Int.pow_succ, ← Int.ediv_ediv_of_nonneg (Int.le_of_lt h1)]
theorem inI_iff {n : Int} : inI n = true ↔ -9223372036854775808 ≤ n ∧ n ≤ 9223372036854775807 := by unfold inI; simp
theorem half_in {n : Int} (h : inI n = true) : ∀ j, inI (half n j) = true
  | 0 => by simpa [half] using h
  | j + 1 => by
    have := inI_iff.1 (half_in h j)
    rw [half_succ]; apply inI_iff.2; omega
theorem half_neg {m : Int} (h : inI m = true) (hn : m < 0) : IntKind.i64.wrap (IntKind.i64.wrap ((IntKind.i64.wrap (m + 1)).tdiv 2) - 1) = m / 2 := by
  have h := inI_iff.1 h
  rw [IntWalk.i64_in (m + 1) (by omega), Int.tdiv_eq_ediv]
  have hd : ((m + 1) / 2 + if 0 ≤ m + 1 ∨ (2 : Int) ∣ m + 1 then (0 : Int) else (2 : Int).sign) = m / 2 + 1 := by
    rw [show (2 : Int).sign = 1 from rfl]; split <;> omega
  rw [hd, IntWalk.i64_in (m / 2 + 1) (by omega), IntWalk.i64_in _ (by omega)]; omega
theorem half_pos {m : Int} (h : inI m = true) (hn : ¬ m < 0) : IntKind.i64.wrap (m.tdiv 2) = m / 2 := by
  have h := inI_iff.1 h
  rw [Int.tdiv_eq_ediv, if_pos (.inl (by omega)), Int.add_zero, IntWalk.i64_in _ (by omega)]
theorem dbl_out {n : Int} {j : Nat} (h : inI (n * 2 ^ j) = false) : ∀ i, inI (n * 2 ^ (j + i)) = false
  | 0 => h
  | i + 1 => by
    have ih := dbl_out h i
    rw [Bool.eq_false_iff, ne_eq, inI_iff] at ih ⊢
    rw [← Nat.add_assoc, Int.pow_succ, ← Int.mul_assoc]; omega
theorem dbl_no {n : Int} {j K : Nat} (hj : j < K) (h : 4611686018427387903 < n * 2 ^ j ∨ n * 2 ^ j < -4611686018427387904) : doubled n K = (0, false) := by
  have h1 : inI (n * 2 ^ (j + 1)) = false := by
    rw [Bool.eq_false_iff, ne_eq, inI_iff, Int.pow_succ, ← Int.mul_assoc]; omega
  have := dbl_out h1 (K - (j + 1))
  rw [show j + 1 + (K - (j + 1)) = K by omega] at this
  unfold doubled; rw [if_neg (by rw [this]; decide)]
theorem pow_ne {k : Nat} (h : k < 64) : (BitVec.ofInt 64 1 <<< k != 0#64) = true := by
  have : ∀ j : Fin 64, (BitVec.ofInt 64 1 <<< j.val != 0#64) = true := by decide
  exact this ⟨k, h⟩
theorem pow_succ : ∀ j : Fin 64, BitVec.ofInt 64 2 * (BitVec.ofInt 64 1 <<< j.val) = BitVec.ofInt 64 1 <<< (j.val + 1) := by decide
end R
theorem rones_run (n : BitVec 64) : run Try.prog ⟨[], eqs, [], [], []⟩ 10000 [] 0 (bodyOf Try.f62) (initF Try.f62 [.u64 n]) [] (retK Try.prog Try.f62 fun x _ => eqv x (.u64 (S.ones n))) := by
  (conv => whnf)
  (repeat' (first | (refine And.intro (fun hb => ?_) (fun hb => ?_) <;> (first | contradiction | (conv => whnf))) | (refine And.intro ?_ ?_; rotate_left 1; (conv => whnf))))
  have h64 := bl_le n
  refine .inr ⟨[], [0, 3], fun k vals M => ∃ j : Nat, j ≤ (bl n) ∧ k = (bl n) - j ∧ (True) ∧ vals = [.u64 n, .u64 (BitVec.ofNat 64 (2 ^ j - 1))] ∧ M = [], ?_⟩
  conv => whnf
  refine And.intro ⟨(bl n), [], mle_nil, rfl, rfl, 0, by omega, by omega, trivial, rfl, rfl⟩ ?_
  rintro k vals M1 ⟨j, hj, rfl, hx, rfl, rfl⟩
  (conv => whnf)
  (repeat' (first | (refine And.intro (fun hb => ?_) (fun hb => ?_) <;> (first | contradiction | (conv => whnf))) | (refine And.intro ?_ ?_; rotate_left 1; (conv => whnf))))
  all_goals rw [R.ones_lt (by omega)] at hb
  · have hlt : j < bl n := by simpa using hb
    refine ⟨(bl n) - (j + 1), [], [], by omega, rfl, mle_nil, rfl, rfl, j + 1, by omega, rfl, trivial, ?_, rfl⟩
    rw [← R.ones_succ]; rfl
  · have hj2 : j = bl n := by simp at hb; omega
    subst hj2
    unfold S.ones
    rw [R.ones_end ⟨bl n, by omega⟩]
def k_rOnes : List SV → List Blk → Res := fun args _ => match args with
  | [.u64 n] => .ok (.u64 (S.ones n)) []
  | _ => .fail
theorem k_rOnes_ok : CtrOk Try.prog Gw 62 k_rOnes := by
  refine ⟨fun _ _ => by kernel_rfl, fun args M => ?_⟩
  unfold k_rOnes
  split
  · rename_i n
    exact ctr_flat (Γ := ⟨[], eqs, [], [], []⟩) (sv := .u64 (S.ones n)) st_Gw ⟨okNil, eqs_ok, okNilB, okNilI, okNilP⟩ Try.func62 rfl mixed [] (by kernel_rfl) 10000 (by rfl) (rones_run n)
  · trivial
theorem rhalf_run (n : Int) (K : Nat) (hn : R.inI n = true) (hK : K ≤ 64) : run Try.prog ⟨[], eqs, [], [], []⟩ 10000 [] 0 (bodyOf Try.f39) (initF Try.f39 [.int .i64 n, .int .i64 (K : Int)]) [] (retK Try.prog Try.f39 fun x _ => eqv x (.int .i64 (R.half n K))) := by
  (conv => whnf)
  (repeat' (first | (refine And.intro (fun hb => ?_) (fun hb => ?_) <;> (first | contradiction | (conv => whnf))) | (refine And.intro ?_ ?_; rotate_left 1; (conv => whnf))))
  refine .inr ⟨[], [0, 1, 5], fun k vals M => ∃ j : Nat, j ≤ K ∧ k = K - j ∧ (True) ∧ vals = [.int .i64 (R.half n j), .int .i64 (K : Int), .int .i64 (j : Int)] ∧ M = [], ?_⟩
  conv => whnf
  refine And.intro ⟨K, [], mle_nil, rfl, rfl, 0, by omega, by omega, trivial, by simp [Sx.pickF, Sx.nth, R.half], rfl⟩ ?_
  rintro k vals M1 ⟨j, hj, rfl, hx, rfl, rfl⟩
  (conv => whnf)
  (repeat' (first | (refine And.intro (fun hb => ?_) (fun hb => ?_) <;> (first | contradiction | (conv => whnf))) | (refine And.intro ?_ ?_; rotate_left 1; (conv => whnf))))
  all_goals try (first | rfl | trivial | (simp; done) | (simp; omega) | (simp at hb ⊢; omega) | (simp only [decide_eq_true_eq, Bool.and_eq_true, Int.toNat_natCast] at *; omega))
  · have hlt : j < K := by (have h := ‹decide ((j : Int) < (K : Int)) = true›; simp at h; omega)
    refine ⟨K - (j + 1), [], [], by omega, rfl, mle_nil, rfl, rfl, j + 1, by omega, rfl, trivial, ?_, rfl⟩
    rw [R.half_succ, ← R.half_neg (R.half_in hn j) (by simpa using hb), ← wrap_succ (by omega)]; rfl
  · have hlt : j < K := by (have h := ‹decide ((j : Int) < (K : Int)) = true›; simp at h; omega)
    refine ⟨K - (j + 1), [], [], by omega, rfl, mle_nil, rfl, rfl, j + 1, by omega, rfl, trivial, ?_, rfl⟩
    rw [R.half_succ, ← R.half_pos (R.half_in hn j) (of_decide_eq_false hb), ← wrap_succ (by omega)]; rfl
  · have hj2 : j = K := by simp at hb; omega
    subst hj2; rfl
def k_rHalf : List SV → List Blk → Res := fun args _ => match args with
  | [.int .i64 n, .int .i64 k] => .test (R.inI n && (decide (0 ≤ k) && decide (k ≤ 63))) (.ok (.int .i64 (R.half n k.toNat)) [])
  | _ => .fail
theorem k_rHalf_ok : CtrOk Try.prog Gw 39 k_rHalf := by
  refine ⟨fun _ _ => by kernel_rfl, fun args M => ?_⟩
  unfold k_rHalf
  split
  · rename_i n k
    intro ht
    exact ctr_flat (Γ := ⟨[], eqs, [], [], []⟩) (sv := .int .i64 (R.half n k.toNat)) st_Gw ⟨okNil, eqs_ok, okNilB, okNilI, okNilP⟩ Try.func39 rfl mixed [] (by kernel_rfl) 10000 (by rfl) (by
      simp only [Bool.and_eq_true, decide_eq_true_eq] at ht
      obtain ⟨K, rfl⟩ : ∃ K : Nat, k = K := ⟨k.toNat, by omega⟩
      exact rhalf_run n K ht.1 (by omega))
  · trivial
theorem rdoubled_run (n : Int) (K : Nat) (hn : R.inI n = true) (hK : K ≤ 64) : run Try.prog ⟨[], eqs, [], [], []⟩ 10000 [] 0 (bodyOf Try.f41) (initF Try.f41 [.int .i64 n, .int .i64 (K : Int)]) [] (retK Try.prog Try.f41 fun x _ => eqv x (.tup [.int .i64 (R.doubled n K).1, .bool (R.doubled n K).2])) := by
  (conv => whnf)
  (repeat' (first | (refine And.intro (fun hb => ?_) (fun hb => ?_) <;> (first | contradiction | (conv => whnf))) | (refine And.intro ?_ ?_; rotate_left 1; (conv => whnf))))
  refine .inr ⟨[], [0, 1, 6], fun k vals M => ∃ j : Nat, j ≤ K ∧ k = K - j ∧ (R.inI (n * 2 ^ j) = true) ∧ vals = [.int .i64 (n * 2 ^ j), .int .i64 (K : Int), .int .i64 (j : Int)] ∧ M = [], ?_⟩
  conv => whnf
  refine And.intro ⟨K, [], mle_nil, rfl, rfl, 0, by omega, by omega, by simpa using hn, by simp [Sx.pickF, Sx.nth], rfl⟩ ?_
  rintro k vals M1 ⟨j, hj, rfl, hx, rfl, rfl⟩
  (conv => whnf)
  (repeat' (first | (refine And.intro (fun hb => ?_) (fun hb => ?_) <;> (first | contradiction | (conv => whnf))) | (refine And.intro ?_ ?_; rotate_left 1; (conv => whnf))))
  all_goals try (first | rfl | trivial | (simp; done) | (simp; omega) | (simp at hb ⊢; omega) | (simp only [decide_eq_true_eq, Bool.and_eq_true, Int.toNat_natCast] at *; omega))
  all_goals first
    | (have hlt : j < K := by (have h := ‹decide ((j : Int) < (K : Int)) = true›; simp at h; omega)
       rw [R.dbl_no hlt (by simp only [decide_eq_true_eq, decide_eq_false_iff_not] at *; omega)]; try rfl)
    | (have hlt : j < K := by (have h := ‹decide ((j : Int) < (K : Int)) = true›; simp at h; omega)
       have h2 : R.inI (n * 2 ^ (j + 1)) = true := by
         rw [R.inI_iff, Int.pow_succ, ← Int.mul_assoc]
         simp only [decide_eq_true_eq, decide_eq_false_iff_not] at *; omega
       refine ⟨K - (j + 1), [], [], by omega, rfl, mle_nil, rfl, rfl, j + 1, by omega, rfl, h2, ?_, rfl⟩
       have h3 := R.inI_iff.1 h2
       rw [← wrap_succ (by omega), show n * 2 ^ (j + 1) = IntKind.i64.wrap (2 * (n * 2 ^ j)) by
         rw [Int.pow_succ, ← Int.mul_assoc] at h3 ⊢
         rw [IntWalk.i64_in _ (by omega)]; omega]; rfl)
    | (have hj2 : j = K := by simp at hb; omega
       subst hj2
       unfold R.doubled; rw [if_pos hx]; try rfl)
def k_rDoubled : List SV → List Blk → Res := fun args _ => match args with
  | [.int .i64 n, .int .i64 k] => .test (R.inI n && (decide (0 ≤ k) && decide (k ≤ 63))) (.ok (.tup [.int .i64 (R.doubled n k.toNat).1, .bool (R.doubled n k.toNat).2]) [])
  | _ => .fail
theorem k_rDoubled_ok : CtrOk Try.prog Gw 41 k_rDoubled := by
  refine ⟨fun _ _ => by kernel_rfl, fun args M => ?_⟩
  unfold k_rDoubled
  split
  · rename_i n k
    intro ht
    exact ctr_flat (Γ := ⟨[], eqs, [], [], []⟩) (sv := .tup [.int .i64 (R.doubled n k.toNat).1, .bool (R.doubled n k.toNat).2]) st_Gw ⟨okNil, eqs_ok, okNilB, okNilI, okNilP⟩ Try.func41 rfl mixed [] (by kernel_rfl) 10000 (by rfl) (by
      simp only [Bool.and_eq_true, decide_eq_true_eq] at ht
      obtain ⟨K, rfl⟩ : ∃ K : Nat, k = K := ⟨k.toNat, by omega⟩
      exact rdoubled_run n K ht.1 (by omega))
  · trivial
theorem rpower_run (K : Nat) (hK : K ≤ 63) : run Try.prog ⟨[], eqs, [], [], []⟩ 10000 [] 0 (bodyOf Try.f38) (initF Try.f38 [.int .i64 (K : Int)]) [] (retK Try.prog Try.f38 fun x _ => eqv x (.u64 (BitVec.ofInt 64 1 <<< K))) := by
  (conv => whnf)
  (repeat' (first | (refine And.intro (fun hb => ?_) (fun hb => ?_) <;> (first | contradiction | (conv => whnf))) | (refine And.intro ?_ ?_; rotate_left 1; (conv => whnf))))
  refine .inr ⟨[], [0, 3, 4], fun k vals M => ∃ j : Nat, j ≤ K ∧ k = K - j ∧ (True) ∧ vals = [.int .i64 (K : Int), .u64 (BitVec.ofInt 64 1 <<< j), .int .i64 (j : Int)] ∧ M = [], ?_⟩
  conv => whnf
  refine And.intro ⟨K, [], mle_nil, rfl, rfl, 0, by omega, by omega, trivial, rfl, rfl⟩ ?_
  rintro k vals M1 ⟨j, hj, rfl, hx, rfl, rfl⟩
  (conv => whnf)
  (repeat' (first | (refine And.intro (fun hb => ?_) (fun hb => ?_) <;> (first | contradiction | (conv => whnf))) | (refine And.intro ?_ ?_; rotate_left 1; (conv => whnf))))
  all_goals try (first | rfl | trivial | (simp; done) | (simp; omega) | (simp at hb ⊢; omega) | (simp only [decide_eq_true_eq, Bool.and_eq_true, Int.toNat_natCast] at *; omega))
  · have hlt : j < K := by simp at hb; omega
    refine ⟨K - (j + 1), [], [], by omega, rfl, mle_nil, rfl, rfl, j + 1, by omega, rfl, trivial, ?_, rfl⟩
    rw [← R.pow_succ ⟨j, by omega⟩, ← wrap_succ (by omega)]; rfl
  · have hj2 : j = K := by simp at hb; omega
    subst hj2; rfl
def k_rPower : List SV → List Blk → Res := fun args _ => match args with
  | [.int .i64 k] => .test (decide (0 ≤ k) && decide (k ≤ 63)) (.ok (.u64 (BitVec.ofInt 64 1 <<< k.toNat)) [])
  | _ => .fail
theorem k_rPower_ok : CtrOk Try.prog Gw 38 k_rPower := by
  refine ⟨fun _ _ => by kernel_rfl, fun args M => ?_⟩
  unfold k_rPower
  split
  · rename_i k
    intro ht
    exact ctr_flat (Γ := ⟨[], eqs, [], [], []⟩) (sv := .u64 (BitVec.ofInt 64 1 <<< k.toNat)) st_Gw ⟨okNil, eqs_ok, okNilB, okNilI, okNilP⟩ Try.func38 rfl mixed [] (by kernel_rfl) 10000 (by rfl) (by
      simp only [Bool.and_eq_true, decide_eq_true_eq] at ht
      obtain ⟨K, rfl⟩ : ∃ K : Nat, k = K := ⟨k.toNat, by omega⟩
      exact rpower_run K (by omega))
  · trivial
end Go.Proofs.Ytgaclnllkiihlaa
