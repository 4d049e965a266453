import Derived.Test.YtmdkihggeodjfaaXE
namespace Go.Proofs.Ytmdkihggeodjfaa
open Go.RowKit Go.Sx
set_option linter.unusedSimpArgs false
set_option linter.unusedVariables false
set_option linter.unnecessarySimpa false
set_option maxRecDepth 100000
set_option maxHeartbeats 4000000
end Go.Proofs.Ytmdkihggeodjfaa
namespace Go.Sx.Tr
mutual
/-- Are its rows no longer than any machine's memory? -/
def wide : Tr → Bool
  | mk _ _ bs l => decide (bs.length ≤ 140737488355328) && (decide (l.length ≤ 140737488355328) && wideL l)
def wideL : List Tr → Bool
  | [] => true
  | t :: l => wide t && wideL l
end
theorem wide_eq (t : Tr) : t.wide = (decide (t.bs.length ≤ 140737488355328) && (decide (t.kids.length ≤ 140737488355328) && wideL t.kids)) := by cases t; rw [wide]; rfl
theorem wideL_get : ∀ (l : List Tr) (i : Nat), i < l.length → wideL l = true → (l.getD i no).wide = true
  | t :: l, 0, _, h => by rw [wideL, Bool.and_eq_true] at h; exact h.1
  | t :: l, i + 1, hi, h => by
    rw [wideL, Bool.and_eq_true] at h
    rw [List.getD_cons_succ]; exact wideL_get l i (by simpa using hi) h.2
theorem wide_kid {t : Tr} (h : t.wide = true) {i : Nat} (hi : i < t.kids.length) : (t.kids.getD i no).wide = true := by
  rw [wide_eq] at h; simp only [Bool.and_eq_true] at h; exact wideL_get _ _ hi h.2.2
theorem wide_len {t : Tr} (h : t.wide = true) : t.kids.length ≤ 140737488355328 := by
  rw [wide_eq] at h; simp only [Bool.and_eq_true, decide_eq_true_eq] at h; exact h.2.1
end Go.Sx.Tr
namespace Go.Proofs.Ytmdkihggeodjfaa
open Go.RowKit Go.Sx
set_option linter.unusedSimpArgs false
set_option linter.unusedVariables false
set_option maxRecDepth 100000
set_option maxHeartbeats 4000000
noncomputable def k_weightN (N : Nat) : List SV → List Blk → Res := fun args M => match topA eltB M args with
  | some (b, [.agg l, .one (.int .i64 lim), .one (.int .i64 d)]) => .test b (.test (isT l && (decide ((decT l).sz < N) && (decT l).wide)) (.ok (.int .i64 ((decT l).weight lim d)) []))
  | _ => .fail
theorem weight_eq (t : Tr) (lim d : Int) : t.weight lim d = if d == 0 && decide (0 < (t.kids.length : Int)) then IntKind.i64.wrap (lim + 1) else Tr.weightL t.kids lim d (IntKind.i64.wrap (1 + t.bs.length)) := by cases t; rw [Tr.weight]; rfl
theorem weight_run (N : Nat) (ih : CtrOk Try.prog Gw 8 (k_weightN N)) (t : Tr) (lim d : Int) (ht : t.sz < N + 1) (hl : t.wide = true) : run Try.prog ⟨[(8, k_weightN N)], eqs, [], [], [], mixs, meqs⟩ 10000 [] 0 (bodyOf Try.f8) (initF Try.f8 [.agg [.int .u8 t.k, .int .i64 t.n, .sl 0 1 0 t.bs.length, .sl 1 4 0 t.kids.length], .int .i64 lim, .int .i64 d]) [.ro 1 t.bs.length (gOf eB t.bs), .ro 4 t.kids.length (gK t.kids)] (retK Try.prog Try.f8 fun x _ => eqv x (.int .i64 (t.weight lim d))) := by
  have hkl := Tr.wide_len hl
  (conv => whnf)
  (repeat' (first | (refine step_t (by first | rfl | assumption) ?_; (conv => whnf)) | (refine step_f (by first | rfl | assumption) ?_; (conv => whnf)) | (refine step_nt (by assumption) ?_; (conv => whnf)) | (refine step_nf (by assumption) ?_; (conv => whnf)) | (refine step_n (fun hb => ?_) (fun hb => ?_) <;> (first | contradiction | (conv => whnf))) | (refine And.intro (fun hb => ?_) (fun hb => ?_) <;> (first | contradiction | (conv => whnf))) | (refine And.intro ?_ ?_; rotate_left 1; (conv => whnf))))
  all_goals first | rfl | (show IntKind.i64.wrap (lim + 1) = t.weight lim d; rw [weight_eq, if_pos (by rw [Bool.and_eq_true]; exact ⟨by assumption, by assumption⟩)]) | skip
  all_goals
    have hw : t.weight lim d = Tr.weightL t.kids lim d (IntKind.i64.wrap (1 + t.bs.length)) := by rw [weight_eq, if_neg (by simp_all)]
    refine .inr ⟨[], [1, 2, 3, 7, 8], fun k vals M => ∃ (j : Nat) (n : Int), j ≤ t.kids.length ∧ k = t.kids.length - j ∧ t.weight lim d = Tr.weightL (t.kids.drop j) lim d n ∧ vals = [.int .i64 lim, .int .i64 d, .ptr 2 0, .int .i64 n, .int .i64 (j : Int)] ∧ M = [.ro 1 t.bs.length (gOf eB t.bs), .ro 4 t.kids.length (gK t.kids), .cells 28 [.int .u8 t.k, .int .i64 t.n, .sl 0 1 0 t.bs.length, .sl 1 4 0 t.kids.length]], ?_⟩
    conv => whnf
    refine And.intro ⟨t.kids.length, [.ro 1 t.bs.length (gOf eB t.bs), .ro 4 t.kids.length (gK t.kids), .cells 28 [.int .u8 t.k, .int .i64 t.n, .sl 0 1 0 t.bs.length, .sl 1 4 0 t.kids.length]], mle_cons ble_refl (mle_cons ble_refl (mle_cons ble_refl mle_nil)), rfl, rfl, 0, _, by omega, by omega, hw, rfl, rfl⟩ ?_
    rintro k vals M1 ⟨j, n, hj, rfl, hr, rfl, rfl⟩
    have hz : 0 + ((j : Int)).toNat = j := by omega
    (conv => whnf)
    (repeat' (first | (refine step_t (by first | rfl | assumption) ?_; (conv => whnf)) | (refine step_f (by first | rfl | assumption) ?_; (conv => whnf)) | (refine step_nt (by assumption) ?_; (conv => whnf)) | (refine step_nf (by assumption) ?_; (conv => whnf)) | (refine step_n (fun hb => ?_) (fun hb => ?_) <;> (first | contradiction | (conv => whnf))) | (refine And.intro (fun hb => ?_) (fun hb => ?_) <;> (first | contradiction | (conv => whnf))) | (refine And.intro ?_ ?_; rotate_left 1; (conv => whnf))))
    all_goals try (simp only [dec0, is0, hz] at *)
    all_goals try (first | rfl | exact decide_eq_true rfl | (refine decide_eq_true ?_; omega) | (simp only [hbytes, decide_eq_true_eq]; omega))
    all_goals try (simp only [decide_eq_true_eq, decide_eq_false_iff_not] at *)
    all_goals first
      | rfl
      | (have hlt : j < t.kids.length := by omega
         first
         | exact hlt | (exact decide_eq_true hlt) | (rw [Bool.true_and, Bool.and_eq_true]; exact ⟨decide_eq_true (by have := Tr.kid_lt hlt; omega), Tr.wide_kid hl hlt⟩) | (simp; done)
         | (have hd : t.kids.drop j = t.kids.getD j .no :: t.kids.drop (j + 1) := by rw [List.drop_eq_getElem_cons hlt, List.getD_eq_getElem?_getD, List.getElem?_eq_getElem hlt]; rfl
            rw [hd, Tr.weightL] at hr
            first
            | (rw [if_pos (decide_eq_true (by assumption))] at hr
               refine ⟨t.kids.length - (j + 1), [.ro 1 t.bs.length (gOf eB t.bs), .ro 4 t.kids.length (gK t.kids), .cells 28 [.int .u8 t.k, .int .i64 t.n, .sl 0 1 0 t.bs.length, .sl 1 4 0 t.kids.length]], [0, 1, 2], by omega, rfl, mle_cons ble_refl (mle_cons ble_refl (mle_cons ble_refl mle_nil)), rfl, rfl, j + 1, _, by omega, rfl, hr, ?_, rfl⟩
               show [SV.int .i64 lim, .int .i64 d, .ptr 2 0, _, .int .i64 (IntKind.i64.wrap ((j : Int) + 1))] = _
               rw [i64_of (n := (j : Int) + 1) (by omega) (by omega)]; rfl)
            | (rw [if_neg (fun h => by have := of_decide_eq_true h; omega)] at hr
               exact hr.symm)))
      | (obtain rfl : j = t.kids.length := by omega
         rw [List.drop_length, Tr.weightL] at hr
         exact hr.symm)
theorem k_weightN_ok : ∀ N, CtrOk Try.prog Gw 8 (k_weightN N) := by
  intro N
  induction N with
  | zero =>
    refine ⟨fun _ _ => by kernel_rfl, fun args M => ?_⟩
    unfold k_weightN
    split
    · intro _ h; simp at h
    · trivial
  | succ N ih =>
    refine ⟨fun _ _ => by kernel_rfl, fun args M => ?_⟩
    unfold k_weightN
    split
    · rename_i b l lim d hv
      intro hb ht
      simp only [Bool.and_eq_true, decide_eq_true_eq] at ht
      exact ctr_top (Γ := ⟨[(8, k_weightN N)], eqs, [], [], [], mixs, meqs⟩) st_Gw ⟨(okCons ih okNil), eqs_ok, okNilB, okNilI, okNilP, mixs_ok, meqs_ok⟩ Try.func8 rfl mixed [] (by kernel_rfl) 10000 _ hv hb (avcons (open_T ht.1).1 (AVEqL.refl _)) rfl (weight_run N ih (decT l) lim d ht.2.1 ht.2.2)
    · trivial
noncomputable def k_weight : List SV → List Blk → Res := fun args M => match topA eltB M args with
  | some (b, [.agg l, .one (.int .i64 lim), .one (.int .i64 d)]) => .test b (.test (isT l && (decT l).wide) (.ok (.int .i64 ((decT l).weight lim d)) []))
  | _ => .fail
theorem k_weight_ok : CtrOk Try.prog Gw 8 k_weight := by
  refine ⟨fun _ _ => by kernel_rfl, fun args M => ?_⟩
  unfold k_weight
  split
  · rename_i b l lim d hv
    intro hb ht
    simp only [Bool.and_eq_true, decide_eq_true_eq] at ht
    have h := (k_weightN_ok ((decT l).sz + 1)).2 args M
    simp only [k_weightN, hv] at h
    exact h hb (by simp only [ht.1, Bool.true_and, Bool.and_eq_true, decide_eq_true_eq]; exact ⟨by omega, ht.2⟩)
  · trivial
end Go.Proofs.Ytmdkihggeodjfaa
