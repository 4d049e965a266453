import Derived.Test.YtaickooakoikaaaDoorX18
namespace Go.Proofs.YtaickooakoikaaaDoor
open Go.RowKit Go.Sx
set_option linter.unusedSimpArgs false
set_option linter.unusedVariables false
set_option linter.unnecessarySimpa false
set_option maxRecDepth 100000
set_option maxHeartbeats 4000000
namespace T
theorem pr_skip1 {op : Int} {a b : Tn} {i n : Nat} {s : BitVec 64 × BitVec 64} (h : may a i (n.testBit 0) = false) : pr op a b i s n = s := by unfold pr; rw [h]; rfl
theorem pr_skip2 {op : Int} {a b : Tn} {i n : Nat} {s : BitVec 64 × BitVec 64} (h1 : may a i (n.testBit 0) = true) (h : may b i (n.testBit 1) = false) : pr op a b i s n = s := by unfold pr; rw [h1, h]; rfl
theorem pr_one {op : Int} {a b : Tn} {i n : Nat} {s : BitVec 64 × BitVec 64} (h1 : may a i (n.testBit 0) = true) (h2 : may b i (n.testBit 1) = true) (h : b2 op (n.testBit 0) (n.testBit 1) = true) : pr op a b i s n = (s.1 ||| 1#64 <<< i, s.2) := by unfold pr; rw [h1, h2, h]; rfl
theorem pr_nought {op : Int} {a b : Tn} {i n : Nat} {s : BitVec 64 × BitVec 64} (h1 : may a i (n.testBit 0) = true) (h2 : may b i (n.testBit 1) = true) (h : b2 op (n.testBit 0) (n.testBit 1) = false) : pr op a b i s n = (s.1, s.2 ||| 1#64 <<< i) := by unfold pr; rw [h1, h2, h]; rfl
end T
theorem rplain_run (op : Int) (av am bv bm : BitVec 64) (ha : T.right ⟨av, am⟩ = true) (hb0 : T.right ⟨bv, bm⟩ = true) : run Tryd.prog ⟨[(27, k_rRight), (57, k_rMay), (59, k_rBit), (33, k_rUnknown), (41, k_of)], eqs, [], [], []⟩ 10000 [] 0 (bodyOf Tryd.f51) (initF Tryd.f51 [.int .u8 op, .agg [.u64 av, .u64 am], .agg [.u64 bv, .u64 bm]]) [] (retK Tryd.prog Tryd.f51 fun x _ => eqv x (tsv (T.logic op ⟨av, am⟩ ⟨bv, bm⟩))) := by
  (conv => whnf)
  (repeat' (first | (refine And.intro (fun hb => ?_) (fun hb => ?_) <;> (first | contradiction | (conv => whnf))) | (refine And.intro ?_ ?_; rotate_left 1; (conv => whnf))))
  refine .inr ⟨[], [0, 4, 5, 6, 7, 8, 9], fun k vals M => ∃ j : Nat, j ≤ 64 ∧ k = 64 - j ∧ (True) ∧ vals = [.int .u8 op, .ptr 0 0, .ptr 1 0, .ptr 2 0, .u64 (T.mk (T.q1 op ⟨av, am⟩ ⟨bv, bm⟩) j), .u64 (T.mk (T.q0 op ⟨av, am⟩ ⟨bv, bm⟩) j), .int .i64 (j : Int)] ∧ M = [.cells 26 [.u64 av, .u64 am], .cells 26 [.u64 bv, .u64 bm], .cells 26 [.u64 (BitVec.ofInt 64 0), .u64 (BitVec.ofInt 64 0)]], ?_⟩
  conv => whnf
  refine And.intro ⟨64, [.cells 26 [.u64 av, .u64 am], .cells 26 [.u64 bv, .u64 bm], .cells 26 [.u64 (BitVec.ofInt 64 0), .u64 (BitVec.ofInt 64 0)]], (mle_cons ble_refl (mle_cons ble_refl (mle_cons ble_refl mle_nil))), rfl, rfl, 0, by omega, by omega, trivial, rfl, rfl⟩ ?_
  rintro k vals M1 ⟨j, hj, rfl, hx, rfl, rfl⟩
  (conv => whnf)
  (repeat' (first | (refine And.intro (fun hb => ?_) (fun hb => ?_) <;> (first | contradiction | (conv => whnf))) | (refine And.intro ?_ ?_; rotate_left 1; (conv => whnf))))
  all_goals try (first | rfl | trivial | (simp; done) | (simp; omega) | (simp at hb ⊢; omega) | (simp only [decide_eq_true_eq, Bool.and_eq_true, Int.toNat_natCast] at *; omega))
  · have hlt : j < 64 := by (simp at hb; omega)
    refine .inr ⟨[], [0, 4, 5, 6, 7, 8, 9, 10], fun k vals M => ∃ n : Nat, n ≤ 4 ∧ k = 4 - n ∧ (True) ∧ vals = [.int .u8 op, .ptr 0 0, .ptr 1 0, .ptr 2 0, .u64 (T.prs op ⟨av, am⟩ ⟨bv, bm⟩ j (T.mk (T.q1 op ⟨av, am⟩ ⟨bv, bm⟩) j, T.mk (T.q0 op ⟨av, am⟩ ⟨bv, bm⟩) j) n).1, .u64 (T.prs op ⟨av, am⟩ ⟨bv, bm⟩ j (T.mk (T.q1 op ⟨av, am⟩ ⟨bv, bm⟩) j, T.mk (T.q0 op ⟨av, am⟩ ⟨bv, bm⟩) j) n).2, .int .i64 (j : Int), .int .i64 (n : Int)] ∧ M = [.cells 26 [.u64 av, .u64 am], .cells 26 [.u64 bv, .u64 bm], .cells 26 [.u64 (BitVec.ofInt 64 0), .u64 (BitVec.ofInt 64 0)]], ?_⟩
    conv => whnf
    refine And.intro ⟨4, [.cells 26 [.u64 av, .u64 am], .cells 26 [.u64 bv, .u64 bm], .cells 26 [.u64 (BitVec.ofInt 64 0), .u64 (BitVec.ofInt 64 0)]], (mle_cons ble_refl (mle_cons ble_refl (mle_cons ble_refl mle_nil))), rfl, rfl, 0, by omega, by omega, trivial, rfl, rfl⟩ ?_
    rintro k vals M1 ⟨n, hn, rfl, hx, rfl, rfl⟩

    have h5 : n = 0 ∨ n = 1 ∨ n = 2 ∨ n = 3 ∨ n = 4 := by omega
    rcases h5 with rfl | rfl | rfl | rfl | rfl
    · (conv => whnf)
      (repeat' (first | (refine step_t (by first | rfl | assumption) ?_; (conv => whnf)) | (refine step_f (by first | rfl | assumption) ?_; (conv => whnf)) | (refine step_nt (by assumption) ?_; (conv => whnf)) | (refine step_nf (by assumption) ?_; (conv => whnf)) | (refine step_n (fun hb => ?_) (fun hb => ?_) <;> (first | contradiction | (conv => whnf))) | (refine And.intro (fun hb => ?_) (fun hb => ?_) <;> (first | contradiction | (conv => whnf))) | (refine And.intro ?_ ?_; rotate_left 1; (conv => whnf))))
      all_goals try (first | rfl | trivial | (simp; done) | (simp; omega) | (simp at hb ⊢; omega) | (simp only [decide_eq_true_eq, Bool.and_eq_true, Int.toNat_natCast] at *; omega))
      all_goals
        refine ⟨4 - (0 + 1), [.cells 26 [.u64 av, .u64 am], .cells 26 [.u64 bv, .u64 bm], .cells 26 [.u64 (BitVec.ofInt 64 0), .u64 (BitVec.ofInt 64 0)]], [0, 1, 2], by omega, rfl, (mle_cons ble_refl (mle_cons ble_refl (mle_cons ble_refl mle_nil))), rfl, rfl, 0 + 1, by omega, rfl, trivial, ?_, rfl⟩
        rw [show T.prs op ⟨av, am⟩ ⟨bv, bm⟩ j (T.mk (T.q1 op ⟨av, am⟩ ⟨bv, bm⟩) j, T.mk (T.q0 op ⟨av, am⟩ ⟨bv, bm⟩) j) (0 + 1) = T.pr op ⟨av, am⟩ ⟨bv, bm⟩ j (T.prs op ⟨av, am⟩ ⟨bv, bm⟩ j (T.mk (T.q1 op ⟨av, am⟩ ⟨bv, bm⟩) j, T.mk (T.q0 op ⟨av, am⟩ ⟨bv, bm⟩) j) 0) 0 from rfl]
        first
          | (rw [T.pr_skip1 (by assumption)]; rfl)
          | (rw [T.pr_skip2 (by assumption) (by assumption)]; rfl)
          | (rw [T.pr_one (by assumption) (by assumption) (by (first | rfl | (simp_all [T.b2, show Nat.testBit 1 0 = true from rfl, show Nat.testBit 1 1 = false from rfl, show Nat.testBit 2 0 = false from rfl, show Nat.testBit 2 1 = true from rfl, show Nat.testBit 3 0 = true from rfl, show Nat.testBit 3 1 = true from rfl]; done))), ← one_is hlt]; rfl)
          | (rw [T.pr_nought (by assumption) (by assumption) (by (first | rfl | (simp_all [T.b2, show Nat.testBit 1 0 = true from rfl, show Nat.testBit 1 1 = false from rfl, show Nat.testBit 2 0 = false from rfl, show Nat.testBit 2 1 = true from rfl, show Nat.testBit 3 0 = true from rfl, show Nat.testBit 3 1 = true from rfl]; done))), ← one_is hlt]; rfl)
    · (conv => whnf)
      (repeat' (first | (refine step_t (by first | rfl | assumption) ?_; (conv => whnf)) | (refine step_f (by first | rfl | assumption) ?_; (conv => whnf)) | (refine step_nt (by assumption) ?_; (conv => whnf)) | (refine step_nf (by assumption) ?_; (conv => whnf)) | (refine step_n (fun hb => ?_) (fun hb => ?_) <;> (first | contradiction | (conv => whnf))) | (refine And.intro (fun hb => ?_) (fun hb => ?_) <;> (first | contradiction | (conv => whnf))) | (refine And.intro ?_ ?_; rotate_left 1; (conv => whnf))))
      all_goals try (first | rfl | trivial | (simp; done) | (simp; omega) | (simp at hb ⊢; omega) | (simp only [decide_eq_true_eq, Bool.and_eq_true, Int.toNat_natCast] at *; omega))
      all_goals
        refine ⟨4 - (1 + 1), [.cells 26 [.u64 av, .u64 am], .cells 26 [.u64 bv, .u64 bm], .cells 26 [.u64 (BitVec.ofInt 64 0), .u64 (BitVec.ofInt 64 0)]], [0, 1, 2], by omega, rfl, (mle_cons ble_refl (mle_cons ble_refl (mle_cons ble_refl mle_nil))), rfl, rfl, 1 + 1, by omega, rfl, trivial, ?_, rfl⟩
        rw [show T.prs op ⟨av, am⟩ ⟨bv, bm⟩ j (T.mk (T.q1 op ⟨av, am⟩ ⟨bv, bm⟩) j, T.mk (T.q0 op ⟨av, am⟩ ⟨bv, bm⟩) j) (1 + 1) = T.pr op ⟨av, am⟩ ⟨bv, bm⟩ j (T.prs op ⟨av, am⟩ ⟨bv, bm⟩ j (T.mk (T.q1 op ⟨av, am⟩ ⟨bv, bm⟩) j, T.mk (T.q0 op ⟨av, am⟩ ⟨bv, bm⟩) j) 1) 1 from rfl]
        first
          | (rw [T.pr_skip1 (by assumption)]; rfl)
          | (rw [T.pr_skip2 (by assumption) (by assumption)]; rfl)
          | (rw [T.pr_one (by assumption) (by assumption) (by (first | rfl | (simp_all [T.b2, show Nat.testBit 1 0 = true from rfl, show Nat.testBit 1 1 = false from rfl, show Nat.testBit 2 0 = false from rfl, show Nat.testBit 2 1 = true from rfl, show Nat.testBit 3 0 = true from rfl, show Nat.testBit 3 1 = true from rfl]; done))), ← one_is hlt]; rfl)
          | (rw [T.pr_nought (by assumption) (by assumption) (by (first | rfl | (simp_all [T.b2, show Nat.testBit 1 0 = true from rfl, show Nat.testBit 1 1 = false from rfl, show Nat.testBit 2 0 = false from rfl, show Nat.testBit 2 1 = true from rfl, show Nat.testBit 3 0 = true from rfl, show Nat.testBit 3 1 = true from rfl]; done))), ← one_is hlt]; rfl)
    · (conv => whnf)
      (repeat' (first | (refine step_t (by first | rfl | assumption) ?_; (conv => whnf)) | (refine step_f (by first | rfl | assumption) ?_; (conv => whnf)) | (refine step_nt (by assumption) ?_; (conv => whnf)) | (refine step_nf (by assumption) ?_; (conv => whnf)) | (refine step_n (fun hb => ?_) (fun hb => ?_) <;> (first | contradiction | (conv => whnf))) | (refine And.intro (fun hb => ?_) (fun hb => ?_) <;> (first | contradiction | (conv => whnf))) | (refine And.intro ?_ ?_; rotate_left 1; (conv => whnf))))
      all_goals try (first | rfl | trivial | (simp; done) | (simp; omega) | (simp at hb ⊢; omega) | (simp only [decide_eq_true_eq, Bool.and_eq_true, Int.toNat_natCast] at *; omega))
      all_goals
        refine ⟨4 - (2 + 1), [.cells 26 [.u64 av, .u64 am], .cells 26 [.u64 bv, .u64 bm], .cells 26 [.u64 (BitVec.ofInt 64 0), .u64 (BitVec.ofInt 64 0)]], [0, 1, 2], by omega, rfl, (mle_cons ble_refl (mle_cons ble_refl (mle_cons ble_refl mle_nil))), rfl, rfl, 2 + 1, by omega, rfl, trivial, ?_, rfl⟩
        rw [show T.prs op ⟨av, am⟩ ⟨bv, bm⟩ j (T.mk (T.q1 op ⟨av, am⟩ ⟨bv, bm⟩) j, T.mk (T.q0 op ⟨av, am⟩ ⟨bv, bm⟩) j) (2 + 1) = T.pr op ⟨av, am⟩ ⟨bv, bm⟩ j (T.prs op ⟨av, am⟩ ⟨bv, bm⟩ j (T.mk (T.q1 op ⟨av, am⟩ ⟨bv, bm⟩) j, T.mk (T.q0 op ⟨av, am⟩ ⟨bv, bm⟩) j) 2) 2 from rfl]
        first
          | (rw [T.pr_skip1 (by assumption)]; rfl)
          | (rw [T.pr_skip2 (by assumption) (by assumption)]; rfl)
          | (rw [T.pr_one (by assumption) (by assumption) (by (first | rfl | (simp_all [T.b2, show Nat.testBit 1 0 = true from rfl, show Nat.testBit 1 1 = false from rfl, show Nat.testBit 2 0 = false from rfl, show Nat.testBit 2 1 = true from rfl, show Nat.testBit 3 0 = true from rfl, show Nat.testBit 3 1 = true from rfl]; done))), ← one_is hlt]; rfl)
          | (rw [T.pr_nought (by assumption) (by assumption) (by (first | rfl | (simp_all [T.b2, show Nat.testBit 1 0 = true from rfl, show Nat.testBit 1 1 = false from rfl, show Nat.testBit 2 0 = false from rfl, show Nat.testBit 2 1 = true from rfl, show Nat.testBit 3 0 = true from rfl, show Nat.testBit 3 1 = true from rfl]; done))), ← one_is hlt]; rfl)
    · (conv => whnf)
      (repeat' (first | (refine step_t (by first | rfl | assumption) ?_; (conv => whnf)) | (refine step_f (by first | rfl | assumption) ?_; (conv => whnf)) | (refine step_nt (by assumption) ?_; (conv => whnf)) | (refine step_nf (by assumption) ?_; (conv => whnf)) | (refine step_n (fun hb => ?_) (fun hb => ?_) <;> (first | contradiction | (conv => whnf))) | (refine And.intro (fun hb => ?_) (fun hb => ?_) <;> (first | contradiction | (conv => whnf))) | (refine And.intro ?_ ?_; rotate_left 1; (conv => whnf))))
      all_goals try (first | rfl | trivial | (simp; done) | (simp; omega) | (simp at hb ⊢; omega) | (simp only [decide_eq_true_eq, Bool.and_eq_true, Int.toNat_natCast] at *; omega))
      all_goals
        refine ⟨4 - (3 + 1), [.cells 26 [.u64 av, .u64 am], .cells 26 [.u64 bv, .u64 bm], .cells 26 [.u64 (BitVec.ofInt 64 0), .u64 (BitVec.ofInt 64 0)]], [0, 1, 2], by omega, rfl, (mle_cons ble_refl (mle_cons ble_refl (mle_cons ble_refl mle_nil))), rfl, rfl, 3 + 1, by omega, rfl, trivial, ?_, rfl⟩
        rw [show T.prs op ⟨av, am⟩ ⟨bv, bm⟩ j (T.mk (T.q1 op ⟨av, am⟩ ⟨bv, bm⟩) j, T.mk (T.q0 op ⟨av, am⟩ ⟨bv, bm⟩) j) (3 + 1) = T.pr op ⟨av, am⟩ ⟨bv, bm⟩ j (T.prs op ⟨av, am⟩ ⟨bv, bm⟩ j (T.mk (T.q1 op ⟨av, am⟩ ⟨bv, bm⟩) j, T.mk (T.q0 op ⟨av, am⟩ ⟨bv, bm⟩) j) 3) 3 from rfl]
        first
          | (rw [T.pr_skip1 (by assumption)]; rfl)
          | (rw [T.pr_skip2 (by assumption) (by assumption)]; rfl)
          | (rw [T.pr_one (by assumption) (by assumption) (by (first | rfl | (simp_all [T.b2, show Nat.testBit 1 0 = true from rfl, show Nat.testBit 1 1 = false from rfl, show Nat.testBit 2 0 = false from rfl, show Nat.testBit 2 1 = true from rfl, show Nat.testBit 3 0 = true from rfl, show Nat.testBit 3 1 = true from rfl]; done))), ← one_is hlt]; rfl)
          | (rw [T.pr_nought (by assumption) (by assumption) (by (first | rfl | (simp_all [T.b2, show Nat.testBit 1 0 = true from rfl, show Nat.testBit 1 1 = false from rfl, show Nat.testBit 2 0 = false from rfl, show Nat.testBit 2 1 = true from rfl, show Nat.testBit 3 0 = true from rfl, show Nat.testBit 3 1 = true from rfl]; done))), ← one_is hlt]; rfl)
    · (conv => whnf)
      (repeat' (first | (refine step_t (by first | rfl | assumption) ?_; (conv => whnf)) | (refine step_f (by first | rfl | assumption) ?_; (conv => whnf)) | (refine step_nt (by assumption) ?_; (conv => whnf)) | (refine step_nf (by assumption) ?_; (conv => whnf)) | (refine step_n (fun hb => ?_) (fun hb => ?_) <;> (first | contradiction | (conv => whnf))) | (refine And.intro (fun hb => ?_) (fun hb => ?_) <;> (first | contradiction | (conv => whnf))) | (refine And.intro ?_ ?_; rotate_left 1; (conv => whnf))))
      all_goals try (first | rfl | trivial | (simp; done) | (simp; omega) | (simp at hb ⊢; omega) | (simp only [decide_eq_true_eq, Bool.and_eq_true, Int.toNat_natCast] at *; omega))
      all_goals
        refine ⟨64 - (j + 1), [.cells 26 [.u64 av, .u64 am], .cells 26 [.u64 bv, .u64 bm], .cells 26 [.u64 (BitVec.ofInt 64 0), .u64 (BitVec.ofInt 64 0)]], [0, 1, 2], by omega, rfl, (mle_cons ble_refl (mle_cons ble_refl (mle_cons ble_refl mle_nil))), rfl, rfl, j + 1, by omega, rfl, trivial, ?_, rfl⟩
        simp only [T.prs4]; rw [← wrap_succ (j := j) (by omega)]; rfl
  all_goals
    have hj2 : j = 64 := by simp at hb; omega
    subst hj2
    rw [T.of_logic op ha hb0]; try rfl
end Go.Proofs.YtaickooakoikaaaDoor
