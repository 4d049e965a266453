import Derived.Test.YtobednfbejcaeaaTX14
namespace Go.Proofs.Ytobednfbejcaeaa
open Go.RowKit Go.Sx
set_option linter.unusedSimpArgs false
set_option linter.unusedVariables false
set_option linter.unnecessarySimpa false
set_option maxRecDepth 100000
set_option maxHeartbeats 4000000
theorem rleq_run (av am bv bm : BitVec 64) : run Try.prog ⟨[(71, k_rRight), (82, k_rMay), (100, k_rBit)], eqs, [], [], []⟩ 10000 [] 0 (bodyOf Try.f53) (initF Try.f53 [.agg [.u64 av, .u64 am], .agg [.u64 bv, .u64 bm]]) [] (retK Try.prog Try.f53 fun x _ => eqv x (.bool (T.leq ⟨av, am⟩ ⟨bv, bm⟩))) := by
  (conv => whnf)
  (repeat' (first | (refine And.intro (fun hb => ?_) (fun hb => ?_) <;> (first | contradiction | (conv => whnf))) | (refine And.intro ?_ ?_; rotate_left 1; (conv => whnf))))
  · simp_all [eqv, eqv1, T.leq]
  · simp_all [eqv, eqv1, T.leq]
  · have ha : T.right ⟨av, am⟩ = true := by simp_all
    have hb0 : T.right ⟨bv, bm⟩ = true := by simp_all
    refine .inr ⟨[], [2, 3, 5], fun k vals M => ∃ j : Nat, j ≤ 64 ∧ k = 64 - j ∧ (∀ i, i < j → T.okl ⟨av, am⟩ ⟨bv, bm⟩ i = false) ∧ vals = [.ptr 0 0, .ptr 1 0, .int .i64 (j : Int)] ∧ M = [.cells 25 [.u64 av, .u64 am], .cells 25 [.u64 bv, .u64 bm]], ?_⟩
    conv => whnf
    refine And.intro ⟨64, [.cells 25 [.u64 av, .u64 am], .cells 25 [.u64 bv, .u64 bm]], (mle_cons ble_refl (mle_cons ble_refl mle_nil)), rfl, rfl, 0, by omega, by omega, fun i hi => by omega, rfl, rfl⟩ ?_
    rintro k vals M1 ⟨j, hj, rfl, hx, rfl, rfl⟩
    (conv => whnf)
    (repeat' (first | (refine And.intro (fun hb => ?_) (fun hb => ?_) <;> (first | contradiction | (conv => whnf))) | (refine And.intro ?_ ?_; rotate_left 1; (conv => whnf))))
    all_goals try (first | rfl | trivial | (simp; done) | (simp; omega) | (simp at hb ⊢; omega) | (simp only [decide_eq_true_eq, Bool.and_eq_true, Int.toNat_natCast] at *; omega))
    all_goals first
      | (refine T.leq_no (i := j) ?_ ?_ <;> (first | (simp at *; omega) | (simp_all [T.okl]; done)))
      | (have hlt : j < 64 := by (have h := ‹decide ((j : Int) < 64) = true›; simp at h; omega)
         refine ⟨64 - (j + 1), [.cells 25 [.u64 av, .u64 am], .cells 25 [.u64 bv, .u64 bm]], [0, 1], by omega, rfl, (mle_cons ble_refl (mle_cons ble_refl mle_nil)), rfl, rfl, j + 1, by omega, rfl, ?_, ?_, rfl⟩
         · intro i hi
           rcases Nat.lt_or_ge i j with h | h
           · exact hx i h
           · obtain rfl : i = j := by omega
             simp_all [T.okl]
         · rw [← wrap_succ (by omega)]; rfl)
      | (have hj2 : j = 64 := by simp at hb; omega
         subst hj2
         exact (T.leq_ok ha hb0).2 hx)
def k_rLeq : List SV → List Blk → Res := fun args _ => match args with
  | [.agg [.u64 av, .u64 am], .agg [.u64 bv, .u64 bm]] => .ok (.bool (T.leq ⟨av, am⟩ ⟨bv, bm⟩)) []
  | _ => .fail
theorem k_rLeq_ok : CtrOk Try.prog Gw 53 k_rLeq := by
  refine ⟨fun _ _ => by kernel_rfl, fun args M => ?_⟩
  unfold k_rLeq
  split
  · rename_i av am bv bm
    exact ctr_flat (Γ := ⟨[(71, k_rRight), (82, k_rMay), (100, k_rBit)], eqs, [], [], []⟩) (sv := .bool (T.leq ⟨av, am⟩ ⟨bv, bm⟩)) st_Gw ⟨(okCons k_rRight_ok (okCons k_rMay_ok (okCons k_rBit_ok okNil))), eqs_ok, okNilB, okNilI, okNilP⟩ Try.func53 rfl mixed [] (by kernel_rfl) 10000 (by rfl) (rleq_run av am bv bm)
  · trivial
end Go.Proofs.Ytobednfbejcaeaa
