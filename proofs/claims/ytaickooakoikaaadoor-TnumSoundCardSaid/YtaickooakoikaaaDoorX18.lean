import Derived.Test.YtaickooakoikaaaDoorX17
namespace Go.Proofs.YtaickooakoikaaaDoor
open Go.RowKit Go.Sx
set_option linter.unusedSimpArgs false
set_option linter.unusedVariables false
set_option linter.unnecessarySimpa false
set_option maxRecDepth 100000
set_option maxHeartbeats 4000000
theorem mk_step {f : Nat → Bool} {j : Nat} {b : Bool} (hlt : j < 64) (h : f j = b) : T.mk f (j + 1) = if b then T.mk f j ||| BitVec.ofInt 64 1 <<< (BitVec.ofInt 64 (j : Int)).toNat else T.mk f j := by rw [one_is hlt, ← h]; rfl
namespace T
theorem s1_96 (t : Tn) (n i : Nat) : s1 96 t n i = (decide (n ≤ i) && may t (i - n) true) := by simp [s1]
theorem s0_96 (t : Tn) (n i : Nat) : s0 96 t n i = (!decide (n ≤ i) || may t (i - n) false) := by simp [s0]
theorem s1_112 (t : Tn) (n i : Nat) : s1 112 t n i = (decide (i + n < 64) && may t (i + n) true) := by simp [s1]
theorem s0_112 (t : Tn) (n i : Nat) : s0 112 t n i = (!decide (i + n < 64) || may t (i + n) false) := by simp [s0]
theorem s1_192 (t : Tn) (n i : Nat) : s1 192 t n i = may t (min (i + n) 63) true := by simp [s1]
theorem s0_192 (t : Tn) (n i : Nat) : s0 192 t n i = may t (min (i + n) 63) false := by simp [s0]
end T
theorem rshift_96 (av am : BitVec 64) (n : Nat) (hn : n < 64) (hr : T.right ⟨av, am⟩ = true) : run Tryd.prog ⟨[(27, k_rRight), (57, k_rMay), (59, k_rBit), (33, k_rUnknown), (41, k_of)], eqs, [], [], []⟩ 10000 [(12, 5, [0, 0, 3, 0, 0, 31, 63, 127]), (14, 3, [0, 1, 0, 7, 15, 31])] 0 (bodyOf Tryd.f23) (initF Tryd.f23 [.int .u8 96, .agg [.u64 av, .u64 am], .int .i64 (n : Int)]) [] (retK Tryd.prog Tryd.f23 fun x _ => eqv x (.tup [tsv (⟨T.sh 96 av n, T.sh 96 am n⟩ : Tn), .bool true])) := by
  (conv => whnf)
  (repeat' (first | (refine And.intro (fun hb => ?_) (fun hb => ?_) <;> (first | contradiction | (conv => whnf))) | (refine And.intro ?_ ?_; rotate_left 1; (conv => whnf))))
  all_goals try (exfalso; first | (rw [hr] at hb; exact absurd hb (by decide)) | (simp at hb; omega) | (exact absurd hb (by decide)))
  refine .inr ⟨[], [0, 2, 4, 6, 7, 8, 9, 10], fun k vals M => ∃ j : Nat, j ≤ 64 ∧ k = 64 - j ∧ (True) ∧ vals = [.int .u8 96, .int .i64 (n : Int), .ptr 0 0, .ptr 1 0, .ff, .u64 (T.mk (T.s1 96 ⟨av, am⟩ n) j), .u64 (T.mk (T.s0 96 ⟨av, am⟩ n) j), .int .i64 (j : Int)] ∧ M = [.cells 26 [.u64 av, .u64 am], .cells 26 [.u64 (BitVec.ofInt 64 0), .u64 (BitVec.ofInt 64 0)]], ?_⟩
  conv => whnf
  refine And.intro ⟨64, [.cells 26 [.u64 av, .u64 am], .cells 26 [.u64 (BitVec.ofInt 64 0), .u64 (BitVec.ofInt 64 0)]], (mle_cons ble_refl (mle_cons ble_refl mle_nil)), rfl, rfl, 0, by omega, by omega, trivial, rfl, rfl⟩ ?_
  rintro k vals M1 ⟨j, hj, rfl, hx, rfl, rfl⟩
  (conv => whnf)
  (repeat' (first | (refine And.intro (fun hb => ?_) (fun hb => ?_) <;> (first | contradiction | (conv => whnf))) | (refine And.intro ?_ ?_; rotate_left 1; (conv => whnf))))
  all_goals try (first | rfl | trivial | (simp; done) | (simp; omega) | (simp at hb ⊢; omega) | (simp only [decide_eq_true_eq, Bool.and_eq_true, Int.toNat_natCast] at *; omega))
  all_goals have hw : IntKind.i64.wrap ((j : Int) - (n : Int)) = (j : Int) - (n : Int) := IntWalk.i64_in _ (by omega)
  all_goals simp only [hw, decide_eq_true_eq, decide_eq_false_iff_not, show Int.toNat 63 = 63 from rfl] at *
  all_goals have he : ((j : Int) - (n : Int)).toNat = j - n := by omega
  all_goals simp only [he] at *
  all_goals try (exfalso; omega)
  all_goals first
    | (have hlt : j < 64 := by omega
       refine ⟨64 - (j + 1), [.cells 26 [.u64 av, .u64 am], .cells 26 [.u64 (BitVec.ofInt 64 0), .u64 (BitVec.ofInt 64 0)]], [0, 1], by omega, rfl, (mle_cons ble_refl (mle_cons ble_refl mle_nil)), rfl, rfl, j + 1, by omega, rfl, trivial, ?_, rfl⟩
       first
         | (have h1 : T.s1 96 ⟨av, am⟩ n j = true := (by rw [T.s1_96]; first | (have hd : n ≤ j := (by omega); simp [*]; done) | (have hd : ¬ n ≤ j := (by omega); simp [*]; done)); have h0 : T.s0 96 ⟨av, am⟩ n j = true := (by rw [T.s0_96]; first | (have hd : n ≤ j := (by omega); simp [*]; done) | (have hd : ¬ n ≤ j := (by omega); simp [*]; done)); rw [mk_step hlt h1, mk_step hlt h0, ← wrap_succ (by omega)]; rfl)
         | (have h1 : T.s1 96 ⟨av, am⟩ n j = true := (by rw [T.s1_96]; first | (have hd : n ≤ j := (by omega); simp [*]; done) | (have hd : ¬ n ≤ j := (by omega); simp [*]; done)); have h0 : T.s0 96 ⟨av, am⟩ n j = false := (by rw [T.s0_96]; first | (have hd : n ≤ j := (by omega); simp [*]; done) | (have hd : ¬ n ≤ j := (by omega); simp [*]; done)); rw [mk_step hlt h1, mk_step hlt h0, ← wrap_succ (by omega)]; rfl)
         | (have h1 : T.s1 96 ⟨av, am⟩ n j = false := (by rw [T.s1_96]; first | (have hd : n ≤ j := (by omega); simp [*]; done) | (have hd : ¬ n ≤ j := (by omega); simp [*]; done)); have h0 : T.s0 96 ⟨av, am⟩ n j = true := (by rw [T.s0_96]; first | (have hd : n ≤ j := (by omega); simp [*]; done) | (have hd : ¬ n ≤ j := (by omega); simp [*]; done)); rw [mk_step hlt h1, mk_step hlt h0, ← wrap_succ (by omega)]; rfl)
         | (have h1 : T.s1 96 ⟨av, am⟩ n j = false := (by rw [T.s1_96]; first | (have hd : n ≤ j := (by omega); simp [*]; done) | (have hd : ¬ n ≤ j := (by omega); simp [*]; done)); have h0 : T.s0 96 ⟨av, am⟩ n j = false := (by rw [T.s0_96]; first | (have hd : n ≤ j := (by omega); simp [*]; done) | (have hd : ¬ n ≤ j := (by omega); simp [*]; done)); rw [mk_step hlt h1, mk_step hlt h0, ← wrap_succ (by omega)]; rfl))
    | (have hj2 : j = 64 := by omega
       subst hj2
       rw [T.of_shift 96 (by decide) hr n hn]; try rfl)
   
theorem rshift_112 (av am : BitVec 64) (n : Nat) (hn : n < 64) (hr : T.right ⟨av, am⟩ = true) : run Tryd.prog ⟨[(27, k_rRight), (57, k_rMay), (59, k_rBit), (33, k_rUnknown), (41, k_of)], eqs, [], [], []⟩ 10000 [(12, 5, [0, 0, 3, 0, 0, 31, 63, 127]), (14, 3, [0, 1, 0, 7, 15, 31])] 0 (bodyOf Tryd.f23) (initF Tryd.f23 [.int .u8 112, .agg [.u64 av, .u64 am], .int .i64 (n : Int)]) [] (retK Tryd.prog Tryd.f23 fun x _ => eqv x (.tup [tsv (⟨T.sh 112 av n, T.sh 112 am n⟩ : Tn), .bool true])) := by
  (conv => whnf)
  (repeat' (first | (refine And.intro (fun hb => ?_) (fun hb => ?_) <;> (first | contradiction | (conv => whnf))) | (refine And.intro ?_ ?_; rotate_left 1; (conv => whnf))))
  all_goals try (exfalso; first | (rw [hr] at hb; exact absurd hb (by decide)) | (simp at hb; omega) | (exact absurd hb (by decide)))
  refine .inr ⟨[], [0, 2, 4, 6, 7, 8, 9, 10], fun k vals M => ∃ j : Nat, j ≤ 64 ∧ k = 64 - j ∧ (True) ∧ vals = [.int .u8 112, .int .i64 (n : Int), .ptr 0 0, .ptr 1 0, .ff, .u64 (T.mk (T.s1 112 ⟨av, am⟩ n) j), .u64 (T.mk (T.s0 112 ⟨av, am⟩ n) j), .int .i64 (j : Int)] ∧ M = [.cells 26 [.u64 av, .u64 am], .cells 26 [.u64 (BitVec.ofInt 64 0), .u64 (BitVec.ofInt 64 0)]], ?_⟩
  conv => whnf
  refine And.intro ⟨64, [.cells 26 [.u64 av, .u64 am], .cells 26 [.u64 (BitVec.ofInt 64 0), .u64 (BitVec.ofInt 64 0)]], (mle_cons ble_refl (mle_cons ble_refl mle_nil)), rfl, rfl, 0, by omega, by omega, trivial, rfl, rfl⟩ ?_
  rintro k vals M1 ⟨j, hj, rfl, hx, rfl, rfl⟩
  (conv => whnf)
  (repeat' (first | (refine And.intro (fun hb => ?_) (fun hb => ?_) <;> (first | contradiction | (conv => whnf))) | (refine And.intro ?_ ?_; rotate_left 1; (conv => whnf))))
  all_goals try (first | rfl | trivial | (simp; done) | (simp; omega) | (simp at hb ⊢; omega) | (simp only [decide_eq_true_eq, Bool.and_eq_true, Int.toNat_natCast] at *; omega))
  all_goals have hw : IntKind.i64.wrap ((j : Int) + (n : Int)) = (j : Int) + (n : Int) := IntWalk.i64_in _ (by omega)
  all_goals simp only [hw, decide_eq_true_eq, decide_eq_false_iff_not, show Int.toNat 63 = 63 from rfl] at *
  all_goals have he : ((j : Int) + (n : Int)).toNat = j + n := by omega
  all_goals simp only [he] at *
  all_goals try (exfalso; omega)
  all_goals first
    | (have hlt : j < 64 := by omega
       refine ⟨64 - (j + 1), [.cells 26 [.u64 av, .u64 am], .cells 26 [.u64 (BitVec.ofInt 64 0), .u64 (BitVec.ofInt 64 0)]], [0, 1], by omega, rfl, (mle_cons ble_refl (mle_cons ble_refl mle_nil)), rfl, rfl, j + 1, by omega, rfl, trivial, ?_, rfl⟩
       first
         | (have h1 : T.s1 112 ⟨av, am⟩ n j = true := (by rw [T.s1_112]; first | (have hd : j + n < 64 := (by omega); simp [*]; done) | (have hd : ¬ j + n < 64 := (by omega); simp [*]; done)); have h0 : T.s0 112 ⟨av, am⟩ n j = true := (by rw [T.s0_112]; first | (have hd : j + n < 64 := (by omega); simp [*]; done) | (have hd : ¬ j + n < 64 := (by omega); simp [*]; done)); rw [mk_step hlt h1, mk_step hlt h0, ← wrap_succ (by omega)]; rfl)
         | (have h1 : T.s1 112 ⟨av, am⟩ n j = true := (by rw [T.s1_112]; first | (have hd : j + n < 64 := (by omega); simp [*]; done) | (have hd : ¬ j + n < 64 := (by omega); simp [*]; done)); have h0 : T.s0 112 ⟨av, am⟩ n j = false := (by rw [T.s0_112]; first | (have hd : j + n < 64 := (by omega); simp [*]; done) | (have hd : ¬ j + n < 64 := (by omega); simp [*]; done)); rw [mk_step hlt h1, mk_step hlt h0, ← wrap_succ (by omega)]; rfl)
         | (have h1 : T.s1 112 ⟨av, am⟩ n j = false := (by rw [T.s1_112]; first | (have hd : j + n < 64 := (by omega); simp [*]; done) | (have hd : ¬ j + n < 64 := (by omega); simp [*]; done)); have h0 : T.s0 112 ⟨av, am⟩ n j = true := (by rw [T.s0_112]; first | (have hd : j + n < 64 := (by omega); simp [*]; done) | (have hd : ¬ j + n < 64 := (by omega); simp [*]; done)); rw [mk_step hlt h1, mk_step hlt h0, ← wrap_succ (by omega)]; rfl)
         | (have h1 : T.s1 112 ⟨av, am⟩ n j = false := (by rw [T.s1_112]; first | (have hd : j + n < 64 := (by omega); simp [*]; done) | (have hd : ¬ j + n < 64 := (by omega); simp [*]; done)); have h0 : T.s0 112 ⟨av, am⟩ n j = false := (by rw [T.s0_112]; first | (have hd : j + n < 64 := (by omega); simp [*]; done) | (have hd : ¬ j + n < 64 := (by omega); simp [*]; done)); rw [mk_step hlt h1, mk_step hlt h0, ← wrap_succ (by omega)]; rfl))
    | (have hj2 : j = 64 := by omega
       subst hj2
       rw [T.of_shift 112 (by decide) hr n hn]; try rfl)
   
theorem rshift_192 (av am : BitVec 64) (n : Nat) (hn : n < 64) (hr : T.right ⟨av, am⟩ = true) : run Tryd.prog ⟨[(27, k_rRight), (57, k_rMay), (59, k_rBit), (33, k_rUnknown), (41, k_of)], eqs, [], [], []⟩ 10000 [(12, 5, [0, 0, 3, 0, 0, 31, 63, 127]), (14, 3, [0, 1, 0, 7, 15, 31])] 0 (bodyOf Tryd.f23) (initF Tryd.f23 [.int .u8 192, .agg [.u64 av, .u64 am], .int .i64 (n : Int)]) [] (retK Tryd.prog Tryd.f23 fun x _ => eqv x (.tup [tsv (⟨T.sh 192 av n, T.sh 192 am n⟩ : Tn), .bool true])) := by
  (conv => whnf)
  (repeat' (first | (refine And.intro (fun hb => ?_) (fun hb => ?_) <;> (first | contradiction | (conv => whnf))) | (refine And.intro ?_ ?_; rotate_left 1; (conv => whnf))))
  all_goals try (exfalso; first | (rw [hr] at hb; exact absurd hb (by decide)) | (simp at hb; omega) | (exact absurd hb (by decide)))
  refine .inr ⟨[], [0, 2, 4, 6, 7, 8, 9, 10], fun k vals M => ∃ j : Nat, j ≤ 64 ∧ k = 64 - j ∧ (True) ∧ vals = [.int .u8 192, .int .i64 (n : Int), .ptr 0 0, .ptr 1 0, .ff, .u64 (T.mk (T.s1 192 ⟨av, am⟩ n) j), .u64 (T.mk (T.s0 192 ⟨av, am⟩ n) j), .int .i64 (j : Int)] ∧ M = [.cells 26 [.u64 av, .u64 am], .cells 26 [.u64 (BitVec.ofInt 64 0), .u64 (BitVec.ofInt 64 0)]], ?_⟩
  conv => whnf
  refine And.intro ⟨64, [.cells 26 [.u64 av, .u64 am], .cells 26 [.u64 (BitVec.ofInt 64 0), .u64 (BitVec.ofInt 64 0)]], (mle_cons ble_refl (mle_cons ble_refl mle_nil)), rfl, rfl, 0, by omega, by omega, trivial, rfl, rfl⟩ ?_
  rintro k vals M1 ⟨j, hj, rfl, hx, rfl, rfl⟩
  (conv => whnf)
  (repeat' (first | (refine And.intro (fun hb => ?_) (fun hb => ?_) <;> (first | contradiction | (conv => whnf))) | (refine And.intro ?_ ?_; rotate_left 1; (conv => whnf))))
  all_goals try (first | rfl | trivial | (simp; done) | (simp; omega) | (simp at hb ⊢; omega) | (simp only [decide_eq_true_eq, Bool.and_eq_true, Int.toNat_natCast] at *; omega))
  all_goals have hw : IntKind.i64.wrap ((j : Int) + (n : Int)) = (j : Int) + (n : Int) := IntWalk.i64_in _ (by omega)
  all_goals simp only [hw, decide_eq_true_eq, decide_eq_false_iff_not, show Int.toNat 63 = 63 from rfl] at *
  all_goals have he : ((j : Int) + (n : Int)).toNat = j + n := by omega
  all_goals simp only [he] at *
  all_goals try (exfalso; omega)
  all_goals first
    | (have hlt : j < 64 := by omega
       refine ⟨64 - (j + 1), [.cells 26 [.u64 av, .u64 am], .cells 26 [.u64 (BitVec.ofInt 64 0), .u64 (BitVec.ofInt 64 0)]], [0, 1], by omega, rfl, (mle_cons ble_refl (mle_cons ble_refl mle_nil)), rfl, rfl, j + 1, by omega, rfl, trivial, ?_, rfl⟩
       first
         | (have h1 : T.s1 192 ⟨av, am⟩ n j = true := (by rw [T.s1_192]; first | (have hd : min (j + n) 63 = j + n := (by omega); simp [*]; done) | (have hd : min (j + n) 63 = 63 := (by omega); simp [*]; done)); have h0 : T.s0 192 ⟨av, am⟩ n j = true := (by rw [T.s0_192]; first | (have hd : min (j + n) 63 = j + n := (by omega); simp [*]; done) | (have hd : min (j + n) 63 = 63 := (by omega); simp [*]; done)); rw [mk_step hlt h1, mk_step hlt h0, ← wrap_succ (by omega)]; rfl)
         | (have h1 : T.s1 192 ⟨av, am⟩ n j = true := (by rw [T.s1_192]; first | (have hd : min (j + n) 63 = j + n := (by omega); simp [*]; done) | (have hd : min (j + n) 63 = 63 := (by omega); simp [*]; done)); have h0 : T.s0 192 ⟨av, am⟩ n j = false := (by rw [T.s0_192]; first | (have hd : min (j + n) 63 = j + n := (by omega); simp [*]; done) | (have hd : min (j + n) 63 = 63 := (by omega); simp [*]; done)); rw [mk_step hlt h1, mk_step hlt h0, ← wrap_succ (by omega)]; rfl)
         | (have h1 : T.s1 192 ⟨av, am⟩ n j = false := (by rw [T.s1_192]; first | (have hd : min (j + n) 63 = j + n := (by omega); simp [*]; done) | (have hd : min (j + n) 63 = 63 := (by omega); simp [*]; done)); have h0 : T.s0 192 ⟨av, am⟩ n j = true := (by rw [T.s0_192]; first | (have hd : min (j + n) 63 = j + n := (by omega); simp [*]; done) | (have hd : min (j + n) 63 = 63 := (by omega); simp [*]; done)); rw [mk_step hlt h1, mk_step hlt h0, ← wrap_succ (by omega)]; rfl)
         | (have h1 : T.s1 192 ⟨av, am⟩ n j = false := (by rw [T.s1_192]; first | (have hd : min (j + n) 63 = j + n := (by omega); simp [*]; done) | (have hd : min (j + n) 63 = 63 := (by omega); simp [*]; done)); have h0 : T.s0 192 ⟨av, am⟩ n j = false := (by rw [T.s0_192]; first | (have hd : min (j + n) 63 = j + n := (by omega); simp [*]; done) | (have hd : min (j + n) 63 = 63 := (by omega); simp [*]; done)); rw [mk_step hlt h1, mk_step hlt h0, ← wrap_succ (by omega)]; rfl))
    | (have hj2 : j = 64 := by omega
       subst hj2
       rw [T.of_shift 192 (by decide) hr n hn]; try rfl)
   
theorem rshift_run (op n : Int) (av am : BitVec 64) : run Tryd.prog ⟨[(27, k_rRight), (57, k_rMay), (59, k_rBit), (33, k_rUnknown), (41, k_of)], eqs, [], [], []⟩ 10000 [(12, 5, [0, 0, 3, 0, 0, 31, 63, 127]), (14, 3, [0, 1, 0, 7, 15, 31])] 0 (bodyOf Tryd.f23) (initF Tryd.f23 [.int .u8 op, .agg [.u64 av, .u64 am], .int .i64 n]) [] (retK Tryd.prog Tryd.f23 fun x _ => eqv x (.tup [tsv (T.shift op ⟨av, am⟩ n).1, .bool (T.shift op ⟨av, am⟩ n).2])) := by
  by_cases h : T.right ⟨av, am⟩ = true ∧ 0 ≤ n ∧ n < 64 ∧ (op = 96 ∨ op = 112 ∨ op = 192)
  · obtain ⟨h1, h2, h3, h4⟩ := h
    obtain ⟨m, rfl⟩ : ∃ m : Nat, n = m := ⟨n.toNat, by omega⟩
    have e : T.shift op ⟨av, am⟩ m = (⟨T.sh op av m, T.sh op am m⟩, true) := by
      unfold T.shift
      rw [if_pos (by rcases h4 with rfl | rfl | rfl <;> simp [h1] <;> omega), Int.toNat_natCast]
    rw [e]
    rcases h4 with rfl | rfl | rfl
    · exact rshift_96 av am m (by omega) h1
    · exact rshift_112 av am m (by omega) h1
    · exact rshift_192 av am m (by omega) h1
  · have e : T.shift op ⟨av, am⟩ n = (⟨0, 0⟩, false) := by
      unfold T.shift
      rw [if_neg]
      intro hc
      simp only [Bool.and_eq_true, Bool.or_eq_true, beq_iff_eq, Bool.not_eq_true', decide_eq_false_iff_not] at hc
      exact h ⟨hc.1.1.2, by omega, by omega, by omega⟩
    rw [e]
    (conv => whnf)
    (repeat' (first | (refine And.intro (fun hb => ?_) (fun hb => ?_) <;> (first | contradiction | (conv => whnf))) | (refine And.intro ?_ ?_; rotate_left 1; (conv => whnf))))
    all_goals first
      | rfl
      | trivial
      | (exfalso; apply h; simp_all; omega)
def k_rShift : List SV → List Blk → Res := fun args _ => match args with
  | [.int .u8 op, .agg [.u64 av, .u64 am], .int .i64 n] => .ok (.tup [tsv (T.shift op ⟨av, am⟩ n).1, .bool (T.shift op ⟨av, am⟩ n).2]) []
  | _ => .fail
theorem k_rShift_ok : CtrOk Tryd.prog Gw 23 k_rShift := by
  refine ⟨fun _ _ => by kernel_rfl, fun args M => ?_⟩
  unfold k_rShift
  split
  · rename_i op av am n
    exact ctr_flat (Γ := ⟨[(27, k_rRight), (57, k_rMay), (59, k_rBit), (33, k_rUnknown), (41, k_of)], eqs, [], [], []⟩) (sv := .tup [tsv (T.shift op ⟨av, am⟩ n).1, .bool (T.shift op ⟨av, am⟩ n).2]) st_Gw ⟨(okCons k_rRight_ok (okCons k_rMay_ok (okCons k_rBit_ok (okCons k_rUnknown_ok (okCons k_of_ok okNil))))), eqs_ok, okNilB, okNilI, okNilP⟩ Tryd.func23 rfl mixed [(12, 5, [0, 0, 3, 0, 0, 31, 63, 127]), (14, 3, [0, 1, 0, 7, 15, 31])] (by kernel_rfl) 10000 (by rfl) (rshift_run op n av am)
  · trivial
end Go.Proofs.YtaickooakoikaaaDoor
