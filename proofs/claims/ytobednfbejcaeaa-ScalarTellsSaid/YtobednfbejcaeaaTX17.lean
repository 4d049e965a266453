import Derived.Test.YtobednfbejcaeaaTX16
namespace Go.Proofs.Ytobednfbejcaeaa
open Go.RowKit Go.Sx
set_option linter.unusedSimpArgs false
set_option linter.unusedVariables false
set_option linter.unnecessarySimpa false
set_option maxRecDepth 100000
set_option maxHeartbeats 4000000
theorem dec63 {j : Nat} (h : j < 64) : IntKind.i64.wrap (63 - (j : Int) - 1) = 63 - ((j + 1 : Nat) : Int) := by rw [IntWalk.i64_in _ (by omega)]; omega
theorem rrange_run (lo hi : BitVec 64) : run Try.prog ⟨[(71, k_rRight), (82, k_rMay), (100, k_rBit), (50, k_rUnknown), (76, k_of)], eqs, [], [], []⟩ 10000 [] 0 (bodyOf Try.f73) (initF Try.f73 [.u64 lo, .u64 hi]) [] (retK Try.prog Try.f73 fun x _ => eqv x (tsv (T.range lo hi))) := by
  (conv => whnf)
  (repeat' (first | (refine And.intro (fun hb => ?_) (fun hb => ?_) <;> (first | contradiction | (conv => whnf))) | (refine And.intro ?_ ?_; rotate_left 1; (conv => whnf))))
  all_goals try (simp_all [eqv, eqv1, T.range]; done)
  · have hle : ¬ hi < lo := of_decide_eq_false hb
    refine .inr ⟨[], [0, 1, 4, 5, 6], fun k vals M => ∃ j : Nat, j ≤ 64 ∧ k = 64 - j ∧ (∀ k, k < 64 → 64 ≤ k + j → lo.getLsbD k = hi.getLsbD k) ∧ vals = [.u64 lo, .u64 hi, .ptr 0 0, .ptr 1 0, .int .i64 (63 - (j : Int))] ∧ M = [.cells 25 [.u64 (BitVec.ofInt 64 0), .u64 (BitVec.ofInt 64 0)], .cells 25 [.u64 lo, .u64 (BitVec.ofInt 64 0)]], ?_⟩
    conv => whnf
    refine And.intro ⟨64, [.cells 25 [.u64 (BitVec.ofInt 64 0), .u64 (BitVec.ofInt 64 0)], .cells 25 [.u64 lo, .u64 (BitVec.ofInt 64 0)]], (mle_cons ble_refl (mle_cons ble_refl mle_nil)), rfl, rfl, 0, by omega, by omega, fun k h1 h2 => by omega, rfl, rfl⟩ ?_
    rintro k vals M1 ⟨j, hj, rfl, hx, rfl, rfl⟩
    (conv => whnf)
    (repeat' (first | (refine And.intro (fun hb => ?_) (fun hb => ?_) <;> (first | contradiction | (conv => whnf))) | (refine And.intro ?_ ?_; rotate_left 1; (conv => whnf))))
    all_goals try (first | rfl | trivial | (simp; done) | (simp; omega) | (simp at hb ⊢; omega) | (simp only [decide_eq_true_eq, Bool.and_eq_true, Int.toNat_natCast] at *; omega))
    · have hlt : j < 64 := by (have h := ‹decide ((0 : Int) ≤ 63 - (j : Int)) = true›; simp at h; omega)
      have e : ((63 : Int) - (j : Int)).toNat = 63 - j := by omega
      rw [e] at hb
      have hr := T.range_at (i := 63 - j) (by omega) hle hb fun k h1 h2 => hx k h2 (by omega)
      rw [hr]; simp only [T.ofInt_small (show (0 : Int) ≤ 63 - (j : Int) by omega) (by omega), e]; rfl
    · have hlt : j < 64 := by (have h := ‹decide ((0 : Int) ≤ 63 - (j : Int)) = true›; simp at h; omega)
      have e : ((63 : Int) - (j : Int)).toNat = 63 - j := by omega
      rw [e] at hb
      have hr := T.range_at (i := 63 - j) (by omega) hle hb fun k h1 h2 => hx k h2 (by omega)
      rw [hr]; simp only [T.ofInt_small (show (0 : Int) ≤ 63 - (j : Int) by omega) (by omega), e]; rfl
    · have hlt : j < 64 := by (have h := ‹decide ((0 : Int) ≤ 63 - (j : Int)) = true›; simp at h; omega)
      have e : ((63 : Int) - (j : Int)).toNat = 63 - j := by omega
      rw [e] at hb
      refine ⟨64 - (j + 1), [.cells 25 [.u64 (BitVec.ofInt 64 0), .u64 (BitVec.ofInt 64 0)], .cells 25 [.u64 lo, .u64 (BitVec.ofInt 64 0)]], [0, 1], by omega, rfl, (mle_cons ble_refl (mle_cons ble_refl mle_nil)), rfl, rfl, j + 1, by omega, rfl, ?_, ?_, rfl⟩
      · intro k h1 h2
        by_cases hk : 64 ≤ k + j
        · exact hx k h1 hk
        · obtain rfl : k = 63 - j := by omega
          simpa using hb
      · rw [← dec63 hlt]; rfl
    all_goals
      have hj2 : j = 64 := by simp at hb; omega
      subst hj2
      rw [T.range_same fun k h => hx k h (by omega)]; rfl
def k_rRange : List SV → List Blk → Res := fun args _ => match args with
  | [.u64 lo, .u64 hi] => .ok (tsv (T.range lo hi)) []
  | _ => .fail
theorem k_rRange_ok : CtrOk Try.prog Gw 73 k_rRange := by
  refine ⟨fun _ _ => by kernel_rfl, fun args M => ?_⟩
  unfold k_rRange
  split
  · rename_i lo hi
    exact ctr_flat (Γ := ⟨[(71, k_rRight), (82, k_rMay), (100, k_rBit), (50, k_rUnknown), (76, k_of)], eqs, [], [], []⟩) (sv := tsv (T.range lo hi)) st_Gw ⟨(okCons k_rRight_ok (okCons k_rMay_ok (okCons k_rBit_ok (okCons k_rUnknown_ok (okCons k_of_ok okNil))))), eqs_ok, okNilB, okNilI, okNilP⟩ Try.func73 rfl mixed [] (by kernel_rfl) 10000 (by rfl) (rrange_run lo hi)
  · trivial
end Go.Proofs.Ytobednfbejcaeaa
