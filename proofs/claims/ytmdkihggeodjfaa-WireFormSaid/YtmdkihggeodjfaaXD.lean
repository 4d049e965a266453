import Derived.Test.YtmdkihggeodjfaaXB
namespace Go.Proofs.Ytmdkihggeodjfaa
open Go.RowKit Go.Sx
set_option linter.unusedSimpArgs false
set_option linter.unusedVariables false
set_option linter.unnecessarySimpa false
set_option maxRecDepth 100000
set_option maxHeartbeats 4000000
noncomputable def k_RightN (N : Nat) : List SV → List Blk → Res := fun args M => match topA eltB M args with
  | some (b, [.agg l]) => .test b (.test (isT l && (decide ((decT l).sz < N) && decide ((decT l).sz ≤ 1099511627776))) (.ok (.bool (decT l).right) []))
  | _ => .fail
theorem right_run (N : Nat) (ih : CtrOk Try.prog Gw 18 (k_RightN N)) (t : Tr) (ht : t.sz < N + 1) (hl : t.sz ≤ 1099511627776) : run Try.prog ⟨[(18, k_RightN N)], eqs, [], [(32, Try.f32, []), (44, Try.f44, []), (33, Try.f33, [])], [], mixs, meqs, []⟩ 10000 [(1, 7, [0, 1, 3, 0, 8, 24, 7, 127])] 0 (bodyOf Try.f18) (initF Try.f18 [.agg [.int .u8 t.k, .int .i64 t.n, .sl 0 1 0 t.bs.length, .sl 1 4 0 t.kids.length]]) [.ro 1 t.bs.length (gOf eB t.bs), .ro 4 t.kids.length (gK t.kids)] (retK Try.prog Try.f18 fun x _ => eqv x (.bool t.right)) := by
  have hkl := Tr.kids_lt t
  (conv => whnf)
  (repeat' (first | (refine step_t (by first | rfl | assumption) ?_; (conv => whnf)) | (refine step_f (by first | rfl | assumption) ?_; (conv => whnf)) | (refine step_nt (by assumption) ?_; (conv => whnf)) | (refine step_nf (by assumption) ?_; (conv => whnf)) | (refine step_n (fun hb => ?_) (fun hb => ?_) <;> (first | contradiction | (conv => whnf))) | (refine And.intro (fun hb => ?_) (fun hb => ?_) <;> (first | contradiction | (conv => whnf))) | (refine And.intro ?_ ?_; rotate_left 1; (conv => whnf))))
  all_goals try (show (_ : Bool) = (_ : Bool); rw [Tr.right_eq]; simp_all; done)
  all_goals try (show (_ : Bool) = (_ : Bool); rw [Tr.right_eq]; simp_all; intros; simp_all; done)
  all_goals
    refine .inr ⟨[], [0, 1, 7, 8], fun k vals M => ∃ j : Nat, j ≤ t.kids.length ∧ k = t.kids.length - j ∧ Tr.rightL (t.kids.take j) = true ∧ vals = [.sl 1 4 0 t.kids.length, .fn (.func 33) [] [], .int .i64 (t.kids.length : Int), .int .i64 (j : Int)] ∧ M = [.dead, .ro 4 t.kids.length (gK t.kids), .dead], ?_⟩
    conv => whnf
    refine And.intro ⟨t.kids.length, [.dead, .ro 4 t.kids.length (gK t.kids), .dead], mle_cons ble_dead (mle_cons ble_refl (mle_cons ble_dead mle_nil)), rfl, rfl, 0, by omega, by omega, rfl, rfl, rfl⟩ ?_
    rintro k vals M1 ⟨j, hj, rfl, hr, rfl, rfl⟩
    have hz : 0 + ((j : Int)).toNat = j := by omega
    (conv => whnf)
    (repeat' (first | (refine step_t (by first | rfl | assumption) ?_; (conv => whnf)) | (refine step_f (by first | rfl | assumption) ?_; (conv => whnf)) | (refine step_nt (by assumption) ?_; (conv => whnf)) | (refine step_nf (by assumption) ?_; (conv => whnf)) | (refine step_n (fun hb => ?_) (fun hb => ?_) <;> (first | contradiction | (conv => whnf))) | (refine And.intro (fun hb => ?_) (fun hb => ?_) <;> (first | contradiction | (conv => whnf))) | (refine And.intro ?_ ?_; rotate_left 1; (conv => whnf))))
    all_goals try (simp only [dec0, is0, hz] at *)
    all_goals try (first | rfl | exact decide_eq_true rfl | (refine decide_eq_true ?_; omega) | (simp only [hbytes, decide_eq_true_eq]; omega))
    all_goals try (simp only [decide_eq_true_eq, decide_eq_false_iff_not] at *)
    all_goals try (have hlt : j < t.kids.length := by omega)
    all_goals try (first | exact hlt | (exact decide_eq_true hlt) | (rw [Bool.true_and, Bool.and_eq_true]; exact ⟨decide_eq_true (by have := Tr.kid_lt hlt; omega), decide_eq_true (by have := Tr.kid_lt hlt; omega)⟩) | (simp; done) | (rw [Tr.right_eq, Tr.rightL_not hlt (by assumption)]; simp_all; done))
    · refine ⟨t.kids.length - (j + 1), [.dead, .ro 4 t.kids.length (gK t.kids), .dead], [0, 1, 2], by omega, rfl, mle_cons ble_dead (mle_cons ble_refl (mle_cons ble_dead mle_nil)), rfl, rfl, j + 1, by omega, rfl, ?_, ?_, rfl⟩
      · rw [Tr.rightL_take hlt, hr]; simp_all
      · show [SV.sl 1 4 0 t.kids.length, .fn (.func 33) [] [], .int .i64 (t.kids.length : Int), .int .i64 (IntKind.i64.wrap ((j : Int) + 1))] = _
        rw [i64_of (n := (j : Int) + 1) (by omega) (by omega)]; rfl
    · obtain rfl : j = t.kids.length := by omega
      rw [List.take_length] at hr
      rw [Tr.right_eq, hr]; simp_all
theorem k_RightN_ok : ∀ N, CtrOk Try.prog Gw 18 (k_RightN N) := by
  intro N
  induction N with
  | zero =>
    refine ⟨fun _ _ => by kernel_rfl, fun args M => ?_⟩
    unfold k_RightN
    split
    · intro _ h; simp at h
    · trivial
  | succ N ih =>
    refine ⟨fun _ _ => by kernel_rfl, fun args M => ?_⟩
    unfold k_RightN
    split
    · rename_i b l hv
      intro hb ht
      simp only [Bool.and_eq_true, decide_eq_true_eq] at ht
      exact ctr_top (Γ := ⟨[(18, k_RightN N)], eqs, [], [(32, Try.f32, []), (44, Try.f44, []), (33, Try.f33, [])], [], mixs, meqs, []⟩) st_Gw ⟨(okCons ih okNil), eqs_ok, okNilB, (okConsI Try.func32 rfl (by kernel_rfl) (fun _ _ => by kernel_rfl) (okConsI Try.func44 rfl (by kernel_rfl) (fun _ _ => by kernel_rfl) (okConsI Try.func33 rfl (by kernel_rfl) (fun _ _ => by kernel_rfl) okNilI))), okNilP, mixs_ok, meqs_ok, okNilY⟩ Try.func18 rfl mixed [(1, 7, [0, 1, 3, 0, 8, 24, 7, 127])] (by kernel_rfl) 10000 _ hv hb (open_T ht.1) rfl (right_run N ih (decT l) ht.2.1 ht.2.2)
    · trivial
end Go.Proofs.Ytmdkihggeodjfaa
namespace Go.Proofs.Ytmdkihggeodjfaa
open Go.RowKit Go.Sx
set_option linter.unusedSimpArgs false
set_option linter.unusedVariables false
set_option linter.unnecessarySimpa false
set_option maxRecDepth 100000
set_option maxHeartbeats 4000000
theorem avcons {a b : AV} {l m : List AV} (h : AVEq a b) (k : AVEqL l m) : AVEqL (a :: l) (b :: m) := ⟨h, k⟩
noncomputable def k_withinN (N : Nat) : List SV → List Blk → Res := fun args M => match topA eltB M args with
  | some (b, [.agg l, .one (.int .i64 d)]) => .test b (.test (isT l && (decide ((decT l).sz < N) && decide ((decT l).sz ≤ 1099511627776))) (.ok (.bool ((decT l).within d)) []))
  | _ => .fail
theorem within_run (N : Nat) (ih : CtrOk Try.prog Gw 26 (k_withinN N)) (t : Tr) (d : Int) (ht : t.sz < N + 1) (hl : t.sz ≤ 1099511627776) : run Try.prog ⟨[(26, k_withinN N)], eqs, [], [(32, Try.f32, []), (44, Try.f44, []), (40, Try.f40, [])], [], mixs, meqs, []⟩ 10000 [] 0 (bodyOf Try.f26) (initF Try.f26 [.agg [.int .u8 t.k, .int .i64 t.n, .sl 0 1 0 t.bs.length, .sl 1 4 0 t.kids.length], .int .i64 d]) [.ro 1 t.bs.length (gOf eB t.bs), .ro 4 t.kids.length (gK t.kids)] (retK Try.prog Try.f26 fun x _ => eqv x (.bool (t.within d))) := by
  have hkl := Tr.kids_lt t
  (conv => whnf)
  (repeat' (first | (refine step_t (by first | rfl | assumption) ?_; (conv => whnf)) | (refine step_f (by first | rfl | assumption) ?_; (conv => whnf)) | (refine step_nt (by assumption) ?_; (conv => whnf)) | (refine step_nf (by assumption) ?_; (conv => whnf)) | (refine step_n (fun hb => ?_) (fun hb => ?_) <;> (first | contradiction | (conv => whnf))) | (refine And.intro (fun hb => ?_) (fun hb => ?_) <;> (first | contradiction | (conv => whnf))) | (refine And.intro ?_ ?_; rotate_left 1; (conv => whnf))))
  all_goals try (show (_ : Bool) = (_ : Bool); rw [Tr.within_eq]; simp_all; done)
  all_goals try (show (_ : Bool) = (_ : Bool); rw [Tr.within_eq]; simp_all; intros; omega)
  all_goals
    refine .inr ⟨[], [0, 1, 7, 8], fun k vals M => ∃ j : Nat, j ≤ t.kids.length ∧ k = t.kids.length - j ∧ Tr.withinL (t.kids.take j) (IntKind.i64.wrap (d - 1)) = true ∧ vals = [.sl 1 4 0 t.kids.length, .fn (.func 40) [] [.ptr 3 0], .int .i64 (t.kids.length : Int), .int .i64 (j : Int)] ∧ M = [.dead, .ro 4 t.kids.length (gK t.kids), .dead, .cells 3 [.int .i64 d]], ?_⟩
    conv => whnf
    refine And.intro ⟨t.kids.length, [.dead, .ro 4 t.kids.length (gK t.kids), .dead, .cells 3 [.int .i64 d]], mle_cons ble_dead (mle_cons ble_refl (mle_cons ble_dead (mle_cons ble_refl mle_nil))), rfl, rfl, 0, by omega, by omega, rfl, rfl, rfl⟩ ?_
    rintro k vals M1 ⟨j, hj, rfl, hr, rfl, rfl⟩
    have hz : 0 + ((j : Int)).toNat = j := by omega
    (conv => whnf)
    (repeat' (first | (refine step_t (by first | rfl | assumption) ?_; (conv => whnf)) | (refine step_f (by first | rfl | assumption) ?_; (conv => whnf)) | (refine step_nt (by assumption) ?_; (conv => whnf)) | (refine step_nf (by assumption) ?_; (conv => whnf)) | (refine step_n (fun hb => ?_) (fun hb => ?_) <;> (first | contradiction | (conv => whnf))) | (refine And.intro (fun hb => ?_) (fun hb => ?_) <;> (first | contradiction | (conv => whnf))) | (refine And.intro ?_ ?_; rotate_left 1; (conv => whnf))))
    all_goals try (simp only [dec0, is0, hz] at *)
    all_goals try (first | rfl | exact decide_eq_true rfl | (refine decide_eq_true ?_; omega) | (simp only [hbytes, decide_eq_true_eq]; omega))
    all_goals try (simp only [decide_eq_true_eq, decide_eq_false_iff_not] at *)
    all_goals try (have hlt : j < t.kids.length := by omega)
    all_goals try (first | exact hlt | (exact decide_eq_true hlt) | (rw [Bool.true_and, Bool.and_eq_true]; exact ⟨decide_eq_true (by have := Tr.kid_lt hlt; omega), decide_eq_true (by have := Tr.kid_lt hlt; omega)⟩) | (simp; done) | (rw [Tr.within_eq, Tr.withinL_not hlt (by assumption)]; simp_all; done))
    · refine ⟨t.kids.length - (j + 1), [.dead, .ro 4 t.kids.length (gK t.kids), .dead, .cells 3 [.int .i64 d]], [0, 1, 2, 3], by omega, rfl, mle_cons ble_dead (mle_cons ble_refl (mle_cons ble_dead (mle_cons ble_refl mle_nil))), rfl, rfl, j + 1, by omega, rfl, ?_, ?_, rfl⟩
      · rw [Tr.withinL_take hlt, hr]; simp_all
      · show [SV.sl 1 4 0 t.kids.length, .fn (.func 40) [] [.ptr 3 0], .int .i64 (t.kids.length : Int), .int .i64 (IntKind.i64.wrap ((j : Int) + 1))] = _
        rw [i64_of (n := (j : Int) + 1) (by omega) (by omega)]; rfl
    · obtain rfl : j = t.kids.length := by omega
      rw [List.take_length] at hr
      rw [Tr.within_eq, hr]; simp_all
theorem k_withinN_ok : ∀ N, CtrOk Try.prog Gw 26 (k_withinN N) := by
  intro N
  induction N with
  | zero =>
    refine ⟨fun _ _ => by kernel_rfl, fun args M => ?_⟩
    unfold k_withinN
    split
    · intro _ h; simp at h
    · trivial
  | succ N ih =>
    refine ⟨fun _ _ => by kernel_rfl, fun args M => ?_⟩
    unfold k_withinN
    split
    · rename_i b l d hv
      intro hb ht
      simp only [Bool.and_eq_true, decide_eq_true_eq] at ht
      exact ctr_top (Γ := ⟨[(26, k_withinN N)], eqs, [], [(32, Try.f32, []), (44, Try.f44, []), (40, Try.f40, [])], [], mixs, meqs, []⟩) st_Gw ⟨(okCons ih okNil), eqs_ok, okNilB, (okConsI Try.func32 rfl (by kernel_rfl) (fun _ _ => by kernel_rfl) (okConsI Try.func44 rfl (by kernel_rfl) (fun _ _ => by kernel_rfl) (okConsI Try.func40 rfl (by kernel_rfl) (fun _ _ => by kernel_rfl) okNilI))), okNilP, mixs_ok, meqs_ok, okNilY⟩ Try.func26 rfl mixed [] (by kernel_rfl) 10000 _ hv hb (avcons (open_T ht.1).1 (AVEqL.refl _)) rfl (within_run N ih (decT l) d ht.2.1 ht.2.2)
    · trivial
noncomputable def k_Right : List SV → List Blk → Res := fun args M => match topA eltB M args with
  | some (b, [.agg l]) => .test b (.test (isT l && decide ((decT l).sz ≤ 1099511627776)) (.ok (.bool (decT l).right) []))
  | _ => .fail
theorem k_Right_ok : CtrOk Try.prog Gw 18 k_Right := by
  refine ⟨fun _ _ => by kernel_rfl, fun args M => ?_⟩
  unfold k_Right
  split
  · rename_i b l hv
    intro hb ht
    simp only [Bool.and_eq_true, decide_eq_true_eq] at ht
    have h := (k_RightN_ok ((decT l).sz + 1)).2 args M
    simp only [k_RightN, hv] at h
    exact h hb (by simp only [ht.1, Bool.true_and, Bool.and_eq_true, decide_eq_true_eq]; exact ⟨by omega, ht.2⟩)
  · trivial
noncomputable def k_within : List SV → List Blk → Res := fun args M => match topA eltB M args with
  | some (b, [.agg l, .one (.int .i64 d)]) => .test b (.test (isT l && decide ((decT l).sz ≤ 1099511627776)) (.ok (.bool ((decT l).within d)) []))
  | _ => .fail
theorem k_within_ok : CtrOk Try.prog Gw 26 k_within := by
  refine ⟨fun _ _ => by kernel_rfl, fun args M => ?_⟩
  unfold k_within
  split
  · rename_i b l d hv
    intro hb ht
    simp only [Bool.and_eq_true, decide_eq_true_eq] at ht
    have h := (k_withinN_ok ((decT l).sz + 1)).2 args M
    simp only [k_withinN, hv] at h
    exact h hb (by simp only [ht.1, Bool.true_and, Bool.and_eq_true, decide_eq_true_eq]; exact ⟨by omega, ht.2⟩)
  · trivial
/-- Bytes put behind nothing. -/
noncomputable def k_put : List SV → List Blk → BRes := fun args M => match args with
  | .val (.slice none 0 0) :: rest => match topA eltB M rest with
    | some (b, [.agg l]) => .test b (.test (isT l) (.test (decide ((decT l).put.length ≤ 1099511627776)) (.ok (.sl M.length 1 0 (decT l).put.length) (M ++ [.own 5 1 (decT l).put.length (gOf eB (decT l).put)]))))
    | _ => .fail
  | _ => .fail
theorem k_put_ok : BCtrOk Try.prog Gw 27 k_put := by
  refine ⟨fun _ _ => by kernel_rfl, fun args M => ?_⟩
  unfold k_put
  split
  · rename_i rest
    split
    · rename_i b l hv
      intro hb ht hc
      have h := (k_putN_ok ((decT l).sz + 1)).2 (.val (.slice none 0 0) :: rest) M
      simp only [k_putN, hv] at h
      exact h hb (by simp [ht]) hc
    · trivial
  · trivial
end Go.Proofs.Ytmdkihggeodjfaa
