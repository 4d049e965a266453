import Derived.Test.YtaickooakoikaaaDoorX16
namespace Go.Proofs.YtaickooakoikaaaDoor
open Go.RowKit Go.Sx
set_option linter.unusedSimpArgs false
set_option linter.unusedVariables false
set_option linter.unnecessarySimpa false
set_option maxRecDepth 100000
set_option maxHeartbeats 4000000
theorem dec63 {j : Nat} (h : j < 64) : IntKind.i64.wrap (63 - (j : Int) - 1) = 63 - ((j + 1 : Nat) : Int) := by rw [IntWalk.i64_in _ (by omega)]; omega
theorem rrange_run (lo hi : BitVec 64) : run Tryd.prog ⟨[(27, k_rRight), (57, k_rMay), (59, k_rBit), (33, k_rUnknown), (41, k_of)], eqs, [], [], []⟩ 10000 [] 0 (bodyOf Tryd.f30) (initF Tryd.f30 [.u64 lo, .u64 hi]) [] (retK Tryd.prog Tryd.f30 fun x _ => eqv x (tsv (T.range lo hi))) := by
  (conv => whnf)
  (repeat' (first | (refine And.intro (fun hb => ?_) (fun hb => ?_) <;> (first | contradiction | (conv => whnf))) | (refine And.intro ?_ ?_; rotate_left 1; (conv => whnf))))
  all_goals try (simp_all [eqv, eqv1, T.range]; done)
  · have hle : ¬ hi < lo := of_decide_eq_false hb
    refine .inr ⟨[], [0, 1, 4, 5, 6], fun k vals M => ∃ j : Nat, j ≤ 64 ∧ k = 64 - j ∧ (∀ k, k < 64 → 64 ≤ k + j → lo.getLsbD k = hi.getLsbD k) ∧ vals = [.u64 lo, .u64 hi, .ptr 0 0, .ptr 1 0, .int .i64 (63 - (j : Int))] ∧ M = [.cells 26 [.u64 (BitVec.ofInt 64 0), .u64 (BitVec.ofInt 64 0)], .cells 26 [.u64 lo, .u64 (BitVec.ofInt 64 0)]], ?_⟩
    conv => whnf
    refine And.intro ⟨64, [.cells 26 [.u64 (BitVec.ofInt 64 0), .u64 (BitVec.ofInt 64 0)], .cells 26 [.u64 lo, .u64 (BitVec.ofInt 64 0)]], (mle_cons ble_refl (mle_cons ble_refl mle_nil)), rfl, rfl, 0, by omega, by omega, fun k h1 h2 => by omega, rfl, rfl⟩ ?_
    rintro k vals M1 ⟨j, hj, rfl, hx, rfl, rfl⟩
    (conv => whnf)
    (repeat' (first | (refine And.intro (fun hb => ?_) (fun hb => ?_) <;> (first | contradiction | (conv => whnf))) | (refine And.intro ?_ ?_; rotate_left 1; (conv => whnf))))
    all_goals try (first | rfl | trivial | (simp; done) | (simp; omega) | (simp at hb ⊢; omega) | (simp only [decide_eq_true_eq, Bool.and_eq_true, Int.toNat_natCast] at *; omega))
    · have hlt : j < 64 := by (have h := ‹decide ((0 : Int) ≤ 63 - (j : Int)) = true›; simp at h; omega)
      have e : ((63 : Int) - (j : Int)).toNat = 63 - j := by omega
      rw [e] at hb
      have hr := T.range_at (i := 63 - j) (by omega) hle hb fun k h1 h2 => hx k h2 (by omega)
      rw [hr]; simp only [T.ofInt_small (show (0 : Int) ≤ 63 - (j : Int) by omega) (by omega), e]; rfl
    · have hlt : j < 64 := by (have h := ‹decide ((0 : Int) ≤ 63 - (j : Int)) = true›; simp at h; omega)
      have e : ((63 : Int) - (j : Int)).toNat = 63 - j := by omega
      rw [e] at hb
      have hr := T.range_at (i := 63 - j) (by omega) hle hb fun k h1 h2 => hx k h2 (by omega)
      rw [hr]; simp only [T.ofInt_small (show (0 : Int) ≤ 63 - (j : Int) by omega) (by omega), e]; rfl
    · have hlt : j < 64 := by (have h := ‹decide ((0 : Int) ≤ 63 - (j : Int)) = true›; simp at h; omega)
      have e : ((63 : Int) - (j : Int)).toNat = 63 - j := by omega
      rw [e] at hb
      refine ⟨64 - (j + 1), [.cells 26 [.u64 (BitVec.ofInt 64 0), .u64 (BitVec.ofInt 64 0)], .cells 26 [.u64 lo, .u64 (BitVec.ofInt 64 0)]], [0, 1], by omega, rfl, (mle_cons ble_refl (mle_cons ble_refl mle_nil)), rfl, rfl, j + 1, by omega, rfl, ?_, ?_, rfl⟩
      · intro k h1 h2
        by_cases hk : 64 ≤ k + j
        · exact hx k h1 hk
        · obtain rfl : k = 63 - j := by omega
          simpa using hb
      · rw [← dec63 hlt]; rfl
    all_goals
      have hj2 : j = 64 := by simp at hb; omega
      subst hj2
      rw [T.range_same fun k h => hx k h (by omega)]; rfl
def k_rRange : List SV → List Blk → Res := fun args _ => match args with
  | [.u64 lo, .u64 hi] => .ok (tsv (T.range lo hi)) []
  | _ => .fail
theorem k_rRange_ok : CtrOk Tryd.prog Gw 30 k_rRange := by
  refine ⟨fun _ _ => by kernel_rfl, fun args M => ?_⟩
  unfold k_rRange
  split
  · rename_i lo hi
    exact ctr_flat (Γ := ⟨[(27, k_rRight), (57, k_rMay), (59, k_rBit), (33, k_rUnknown), (41, k_of)], eqs, [], [], []⟩) (sv := tsv (T.range lo hi)) st_Gw ⟨(okCons k_rRight_ok (okCons k_rMay_ok (okCons k_rBit_ok (okCons k_rUnknown_ok (okCons k_of_ok okNil))))), eqs_ok, okNilB, okNilI, okNilP⟩ Tryd.func30 rfl mixed [] (by kernel_rfl) 10000 (by rfl) (rrange_run lo hi)
  · trivial
theorem rknown_run (av am : BitVec 64) : run Tryd.prog ⟨[(27, k_rRight), (57, k_rMay), (59, k_rBit), (33, k_rUnknown), (41, k_of)], eqs, [], [], []⟩ 10000 [] 0 (bodyOf Tryd.f52) (initF Tryd.f52 [.agg [.u64 av, .u64 am]]) [] (retK Tryd.prog Tryd.f52 fun x _ => eqv x (.int .i64 (tz am : Nat))) := by
  (conv => whnf)
  (repeat' (first | (refine And.intro (fun hb => ?_) (fun hb => ?_) <;> (first | contradiction | (conv => whnf))) | (refine And.intro ?_ ?_; rotate_left 1; (conv => whnf))))
  refine .inr ⟨[], [1, 3], fun k vals M => ∃ j : Nat, j ≤ 64 ∧ k = 64 - j ∧ (∀ k, k < j → am.getLsbD k = false) ∧ vals = [.ptr 0 0, .int .i64 (j : Int)] ∧ M = [.cells 26 [.u64 av, .u64 am]], ?_⟩
  conv => whnf
  refine And.intro ⟨64, [.cells 26 [.u64 av, .u64 am]], (mle_cons ble_refl mle_nil), rfl, rfl, 0, by omega, by omega, fun k h => by omega, rfl, rfl⟩ ?_
  rintro k vals M1 ⟨j, hj, rfl, hx, rfl, rfl⟩
  (conv => whnf)
  (repeat' (first | (refine And.intro (fun hb => ?_) (fun hb => ?_) <;> (first | contradiction | (conv => whnf))) | (refine And.intro ?_ ?_; rotate_left 1; (conv => whnf))))
  all_goals try (first | rfl | trivial | (simp; done) | (simp; omega) | (simp at hb ⊢; omega) | (simp only [decide_eq_true_eq, Bool.and_eq_true, Int.toNat_natCast] at *; omega))
  · have hlt : j < 64 := by (have h := ‹decide ((j : Int) < 64) = true›; simp at h; omega)
    rw [Int.toNat_natCast] at hb
    refine ⟨64 - (j + 1), [.cells 26 [.u64 av, .u64 am]], [0], by omega, rfl, (mle_cons ble_refl mle_nil), rfl, rfl, j + 1, by omega, rfl, ?_, ?_, rfl⟩
    · intro k h
      by_cases hk : k < j
      · exact hx k hk
      · obtain rfl : k = j := by omega
        simpa using hb
    · rw [← wrap_succ (by omega)]; rfl
  · rw [Int.toNat_natCast] at hb
    rw [T.tz_of (n := j) hj hx (.inr (by simpa using hb))]
  · have hj2 : j = 64 := by simp at hb; omega
    subst hj2
    rw [T.tz_of (n := 64) (by omega) hx (.inl rfl)]
def k_rKnown : List SV → List Blk → Res := fun args _ => match args with
  | [.agg [.u64 av, .u64 am]] => .ok (.int .i64 (tz am : Nat)) []
  | _ => .fail
theorem k_rKnown_ok : CtrOk Tryd.prog Gw 52 k_rKnown := by
  refine ⟨fun _ _ => by kernel_rfl, fun args M => ?_⟩
  unfold k_rKnown
  split
  · rename_i av am
    exact ctr_flat (Γ := ⟨[(27, k_rRight), (57, k_rMay), (59, k_rBit), (33, k_rUnknown), (41, k_of)], eqs, [], [], []⟩) (sv := .int .i64 (tz am : Nat)) st_Gw ⟨(okCons k_rRight_ok (okCons k_rMay_ok (okCons k_rBit_ok (okCons k_rUnknown_ok (okCons k_of_ok okNil))))), eqs_ok, okNilB, okNilI, okNilP⟩ Tryd.func52 rfl mixed [] (by kernel_rfl) 10000 (by rfl) (rknown_run av am)
  · trivial
end Go.Proofs.YtaickooakoikaaaDoor
