import Derived.Test.YtmdkihggeodjfaaXH
namespace Go.Proofs.Ytmdkihggeodjfaa
open Go.RowKit Go.Sx
set_option linter.unusedSimpArgs false
set_option linter.unusedVariables false
set_option linter.unnecessarySimpa false
set_option maxRecDepth 100000
set_option maxHeartbeats 4000000
/-- A place below n. -/
def pick (x n : Int) : Int := if decide (n < 1) then 0 else if decide (Int.tmod x n < 0) then Int.tmod x n + n else Int.tmod x n
theorem pick_run (x n : Int) (hx : -9223372036854775808 ≤ x ∧ x ≤ 9223372036854775807) (hn : 0 ≤ n ∧ n ≤ 9223372036854775807) : run Try.prog ⟨[], eqs, [], [], [], mixs, meqs⟩ 10000 [] 0 (bodyOf Try.f13) (initF Try.f13 [.int .i64 x, .int .i64 n]) [] (retK Try.prog Try.f13 fun y _ => eqv y (.int .i64 (pick x n))) := by
  have hp : 0 < n → -n < Int.tmod x n ∧ Int.tmod x n < n := fun h => ⟨Int.lt_tmod_of_pos x h, Int.tmod_lt_of_pos x h⟩
  (conv => whnf)
  (repeat' (first | (refine step_t (by first | rfl | assumption) ?_; (conv => whnf)) | (refine step_f (by first | rfl | assumption) ?_; (conv => whnf)) | (refine step_nt (by assumption) ?_; (conv => whnf)) | (refine step_nf (by assumption) ?_; (conv => whnf)) | (refine step_n (fun hb => ?_) (fun hb => ?_) <;> (first | contradiction | (conv => whnf))) | (refine And.intro (fun hb => ?_) (fun hb => ?_) <;> (first | contradiction | (conv => whnf))) | (refine And.intro ?_ ?_; rotate_left 1; (conv => whnf))))
  all_goals try (simp only [decide_eq_true_eq, decide_eq_false_iff_not] at *)
  all_goals first
    | rfl
    | (show _ = pick x n; unfold pick; simp only [decide_eq_true_eq]; rw [if_pos (by assumption)])
    | (show _ = pick x n; have h9 := hp (by omega); unfold pick; simp only [decide_eq_true_eq]; rw [IntWalk.i64_in _ (by omega), if_neg (by assumption), if_pos (by assumption)])
    | (show _ = pick x n; unfold pick; simp only [decide_eq_true_eq]; rw [if_neg (by assumption), if_neg (by assumption)])
    | (rw [bne_iff_ne]; omega)
theorem pick_in {x n : Int} (hn : 0 < n) : 0 ≤ pick x n ∧ pick x n < n := by
  have h1 := Int.lt_tmod_of_pos x hn
  have h2 := Int.tmod_lt_of_pos x hn
  unfold pick
  rw [if_neg (by simp; omega)]
  split <;> rename_i h <;> simp only [decide_eq_true_eq] at h <;> omega
def k_Pick : List SV → List Blk → Res := fun args _ => match args with
  | [.int .i64 x, .int .i64 n] => .test ((decide (-9223372036854775808 ≤ x) && decide (x ≤ 9223372036854775807)) && (decide (0 ≤ n) && decide (n ≤ 9223372036854775807))) (.ok (.int .i64 (pick x n)) [])
  | _ => .fail
theorem k_Pick_ok : CtrOk Try.prog Gw 13 k_Pick := by
  refine ⟨fun _ _ => by kernel_rfl, fun args M => ?_⟩
  unfold k_Pick
  split
  · rename_i x n
    intro ht
    simp only [Bool.and_eq_true, decide_eq_true_eq] at ht
    exact ctr_flat (Γ := ⟨[], eqs, [], [], [], mixs, meqs⟩) (sv := .int .i64 (pick x n)) st_Gw ⟨okNil, eqs_ok, okNilB, okNilI, okNilP, mixs_ok, meqs_ok⟩ Try.func13 rfl mixed [] (by kernel_rfl) 10000 (by rfl) (pick_run x n ht.1 ht.2)
  · trivial
end Go.Proofs.Ytmdkihggeodjfaa
