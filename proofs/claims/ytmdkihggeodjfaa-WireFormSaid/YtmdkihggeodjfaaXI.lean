import Derived.Test.YtmdkihggeodjfaaXE
namespace Go.Proofs.Ytmdkihggeodjfaa
open Go.RowKit Go.Sx
set_option linter.unusedSimpArgs false
set_option linter.unusedVariables false
set_option linter.unnecessarySimpa false
set_option maxRecDepth 100000
set_option maxHeartbeats 4000000
end Go.Proofs.Ytmdkihggeodjfaa
namespace Go.Sx.Tr
mutual
/-- Are its rows no longer than any machine's memory? -/
def wide : Tr → Bool
  | mk _ _ bs l => decide (bs.length ≤ 140737488355328) && (decide (l.length ≤ 140737488355328) && wideL l)
def wideL : List Tr → Bool
  | [] => true
  | t :: l => wide t && wideL l
end
theorem wide_eq (t : Tr) : t.wide = (decide (t.bs.length ≤ 140737488355328) && (decide (t.kids.length ≤ 140737488355328) && wideL t.kids)) := by cases t; rw [wide]; rfl
theorem wideL_get : ∀ (l : List Tr) (i : Nat), i < l.length → wideL l = true → (l.getD i no).wide = true
  | t :: l, 0, _, h => by rw [wideL, Bool.and_eq_true] at h; exact h.1
  | t :: l, i + 1, hi, h => by
    rw [wideL, Bool.and_eq_true] at h
    rw [List.getD_cons_succ]; exact wideL_get l i (by simpa using hi) h.2
theorem wide_kid {t : Tr} (h : t.wide = true) {i : Nat} (hi : i < t.kids.length) : (t.kids.getD i no).wide = true := by
  rw [wide_eq] at h; simp only [Bool.and_eq_true] at h; exact wideL_get _ _ hi h.2.2
theorem wide_len {t : Tr} (h : t.wide = true) : t.kids.length ≤ 140737488355328 := by
  rw [wide_eq] at h; simp only [Bool.and_eq_true, decide_eq_true_eq] at h; exact h.2.1
end Go.Sx.Tr
namespace Go.Proofs.Ytmdkihggeodjfaa
open Go.RowKit Go.Sx
set_option linter.unusedSimpArgs false
set_option linter.unusedVariables false
set_option maxRecDepth 100000
set_option maxHeartbeats 4000000
noncomputable def k_weightN (N : Nat) : List SV → List Blk → Res := fun args M => match topA eltB M args with
  | some (b, [.agg l, .one (.int .i64 lim), .one (.int .i64 d)]) => .test b (.test (isT l && (decide ((decT l).sz < N) && (decT l).wide)) (.ok (.int .i64 ((decT l).weight lim d)) []))
  | _ => .fail
theorem weight_eq (t : Tr) (lim d : Int) : t.weight lim d = if d == 0 && decide (0 < (t.kids.length : Int)) then IntKind.i64.wrap (lim + 1) else Tr.weightL t.kids lim d (IntKind.i64.wrap (1 + t.bs.length)) := by cases t; rw [Tr.weight]; rfl
theorem weight_run (N : Nat) (ih : CtrOk Try.prog Gw 8 (k_weightN N)) (t : Tr) (lim d : Int) (ht : t.sz < N + 1) (hl : t.wide = true) : run Try.prog ⟨[(8, k_weightN N)], eqs, [], [], [], mixs, meqs, []⟩ 10000 [] 0 (bodyOf Try.f8) (initF Try.f8 [.agg [.int .u8 t.k, .int .i64 t.n, .sl 0 1 0 t.bs.length, .sl 1 4 0 t.kids.length], .int .i64 lim, .int .i64 d]) [.ro 1 t.bs.length (gOf eB t.bs), .ro 4 t.kids.length (gK t.kids)] (retK Try.prog Try.f8 fun x _ => eqv x (.int .i64 (t.weight lim d))) := by
  have hkl := Tr.wide_len hl
  (conv => whnf)
  (repeat' (first | (refine step_t (by first | rfl | assumption) ?_; (conv => whnf)) | (refine step_f (by first | rfl | assumption) ?_; (conv => whnf)) | (refine step_nt (by assumption) ?_; (conv => whnf)) | (refine step_nf (by assumption) ?_; (conv => whnf)) | (refine step_n (fun hb => ?_) (fun hb => ?_) <;> (first | contradiction | (conv => whnf))) | (refine And.intro (fun hb => ?_) (fun hb => ?_) <;> (first | contradiction | (conv => whnf))) | (refine And.intro ?_ ?_; rotate_left 1; (conv => whnf))))
  all_goals first | rfl | (show IntKind.i64.wrap (lim + 1) = t.weight lim d; rw [weight_eq, if_pos (by rw [Bool.and_eq_true]; exact ⟨by assumption, by assumption⟩)]) | skip
  all_goals
    have hw : t.weight lim d = Tr.weightL t.kids lim d (IntKind.i64.wrap (1 + t.bs.length)) := by rw [weight_eq, if_neg (by simp_all)]
    refine .inr ⟨[], [1, 2, 3, 7, 8], fun k vals M => ∃ (j : Nat) (n : Int), j ≤ t.kids.length ∧ k = t.kids.length - j ∧ t.weight lim d = Tr.weightL (t.kids.drop j) lim d n ∧ vals = [.int .i64 lim, .int .i64 d, .ptr 2 0, .int .i64 n, .int .i64 (j : Int)] ∧ M = [.ro 1 t.bs.length (gOf eB t.bs), .ro 4 t.kids.length (gK t.kids), .cells 28 [.int .u8 t.k, .int .i64 t.n, .sl 0 1 0 t.bs.length, .sl 1 4 0 t.kids.length]], ?_⟩
    conv => whnf
    refine And.intro ⟨t.kids.length, [.ro 1 t.bs.length (gOf eB t.bs), .ro 4 t.kids.length (gK t.kids), .cells 28 [.int .u8 t.k, .int .i64 t.n, .sl 0 1 0 t.bs.length, .sl 1 4 0 t.kids.length]], mle_cons ble_refl (mle_cons ble_refl (mle_cons ble_refl mle_nil)), rfl, rfl, 0, _, by omega, by omega, hw, rfl, rfl⟩ ?_
    rintro k vals M1 ⟨j, n, hj, rfl, hr, rfl, rfl⟩
    have hz : 0 + ((j : Int)).toNat = j := by omega
    (conv => whnf)
    (repeat' (first | (refine step_t (by first | rfl | assumption) ?_; (conv => whnf)) | (refine step_f (by first | rfl | assumption) ?_; (conv => whnf)) | (refine step_nt (by assumption) ?_; (conv => whnf)) | (refine step_nf (by assumption) ?_; (conv => whnf)) | (refine step_n (fun hb => ?_) (fun hb => ?_) <;> (first | contradiction | (conv => whnf))) | (refine And.intro (fun hb => ?_) (fun hb => ?_) <;> (first | contradiction | (conv => whnf))) | (refine And.intro ?_ ?_; rotate_left 1; (conv => whnf))))
    all_goals try (simp only [dec0, is0, hz] at *)
    all_goals try (first | rfl | exact decide_eq_true rfl | (refine decide_eq_true ?_; omega) | (simp only [hbytes, decide_eq_true_eq]; omega))
    all_goals try (simp only [decide_eq_true_eq, decide_eq_false_iff_not] at *)
    all_goals first
      | rfl
      | (have hlt : j < t.kids.length := by omega
         first
         | exact hlt | (exact decide_eq_true hlt) | (rw [Bool.true_and, Bool.and_eq_true]; exact ⟨decide_eq_true (by have := Tr.kid_lt hlt; omega), Tr.wide_kid hl hlt⟩) | (simp; done)
         | (have hd : t.kids.drop j = t.kids.getD j .no :: t.kids.drop (j + 1) := by rw [List.drop_eq_getElem_cons hlt, List.getD_eq_getElem?_getD, List.getElem?_eq_getElem hlt]; rfl
            rw [hd, Tr.weightL] at hr
            first
            | (rw [if_pos (decide_eq_true (by assumption))] at hr
               refine ⟨t.kids.length - (j + 1), [.ro 1 t.bs.length (gOf eB t.bs), .ro 4 t.kids.length (gK t.kids), .cells 28 [.int .u8 t.k, .int .i64 t.n, .sl 0 1 0 t.bs.length, .sl 1 4 0 t.kids.length]], [0, 1, 2], by omega, rfl, mle_cons ble_refl (mle_cons ble_refl (mle_cons ble_refl mle_nil)), rfl, rfl, j + 1, _, by omega, rfl, hr, ?_, rfl⟩
               show [SV.int .i64 lim, .int .i64 d, .ptr 2 0, _, .int .i64 (IntKind.i64.wrap ((j : Int) + 1))] = _
               rw [i64_of (n := (j : Int) + 1) (by omega) (by omega)]; rfl)
            | (rw [if_neg (fun h => by have := of_decide_eq_true h; omega)] at hr
               exact hr.symm)))
      | (obtain rfl : j = t.kids.length := by omega
         rw [List.drop_length, Tr.weightL] at hr
         exact hr.symm)
theorem k_weightN_ok : ∀ N, CtrOk Try.prog Gw 8 (k_weightN N) := by
  intro N
  induction N with
  | zero =>
    refine ⟨fun _ _ => by kernel_rfl, fun args M => ?_⟩
    unfold k_weightN
    split
    · intro _ h; simp at h
    · trivial
  | succ N ih =>
    refine ⟨fun _ _ => by kernel_rfl, fun args M => ?_⟩
    unfold k_weightN
    split
    · rename_i b l lim d hv
      intro hb ht
      simp only [Bool.and_eq_true, decide_eq_true_eq] at ht
      exact ctr_top (Γ := ⟨[(8, k_weightN N)], eqs, [], [], [], mixs, meqs, []⟩) st_Gw ⟨(okCons ih okNil), eqs_ok, okNilB, okNilI, okNilP, mixs_ok, meqs_ok, okNilY⟩ Try.func8 rfl mixed [] (by kernel_rfl) 10000 _ hv hb (avcons (open_T ht.1).1 (AVEqL.refl _)) rfl (weight_run N ih (decT l) lim d ht.2.1 ht.2.2)
    · trivial
noncomputable def k_weight : List SV → List Blk → Res := fun args M => match topA eltB M args with
  | some (b, [.agg l, .one (.int .i64 lim), .one (.int .i64 d)]) => .test b (.test (isT l && (decT l).wide) (.ok (.int .i64 ((decT l).weight lim d)) []))
  | _ => .fail
theorem k_weight_ok : CtrOk Try.prog Gw 8 k_weight := by
  refine ⟨fun _ _ => by kernel_rfl, fun args M => ?_⟩
  unfold k_weight
  split
  · rename_i b l lim d hv
    intro hb ht
    simp only [Bool.and_eq_true, decide_eq_true_eq] at ht
    have h := (k_weightN_ok ((decT l).sz + 1)).2 args M
    simp only [k_weightN, hv] at h
    exact h hb (by simp only [ht.1, Bool.true_and, Bool.and_eq_true, decide_eq_true_eq]; exact ⟨by omega, ht.2⟩)
  · trivial
end Go.Proofs.Ytmdkihggeodjfaa
namespace Go.Proofs.Ytmdkihggeodjfaa
open Go.RowKit Go.Sx
set_option linter.unusedSimpArgs false
set_option linter.unusedVariables false
set_option linter.unnecessarySimpa false
set_option maxRecDepth 100000
set_option maxHeartbeats 4000000
end Go.Proofs.Ytmdkihggeodjfaa
namespace Go.Sx.Tr
open Go.RowKit Go.Proofs.Ytmdkihggeodjfaa
mutual
/-- Trees and bytes. -/
def mass : Tr → Nat
  | mk _ _ bs l => 1 + bs.length + massL l
def massL : List Tr → Nat
  | [] => 0
  | t :: l => mass t + massL l
end
theorem mass_eq (t : Tr) : t.mass = 1 + t.bs.length + massL t.kids := by cases t; rw [mass]; rfl
theorem massL_get : ∀ (l : List Tr) (i : Nat), i < l.length → (l.getD i no).mass ≤ massL l
  | t :: l, 0, _ => by simp [massL]
  | t :: l, i + 1, h => by
    have := massL_get l i (by simpa using h)
    simp only [List.getD_cons_succ, massL]; omega
theorem kid_mass {t : Tr} {i : Nat} (h : i < t.kids.length) : (t.kids.getD i no).mass < t.mass := by
  have := massL_get t.kids i h
  rw [mass_eq t]; omega
theorem massL_len : ∀ l : List Tr, l.length ≤ massL l
  | [] => by simp [massL]
  | t :: l => by have := massL_len l; have := mass_eq t; simp only [List.length_cons, massL]; omega
theorem kids_mass (t : Tr) : t.kids.length < t.mass := by have := massL_len t.kids; rw [mass_eq]; omega
theorem bs_mass (t : Tr) : t.bs.length < t.mass := by rw [mass_eq]; omega
theorem same_eq (a b : Tr) : a.same b = (a.k == b.k && (a.n == b.n && (a.kids.length == b.kids.length && (a.bs == b.bs && sameL a.kids b.kids)))) := by cases a; rw [same]; rfl
end Go.Sx.Tr
namespace Go.Proofs.Ytmdkihggeodjfaa
open Go.RowKit Go.Sx
set_option linter.unusedSimpArgs false
set_option linter.unusedVariables false
set_option maxRecDepth 100000
set_option maxHeartbeats 4000000
noncomputable def k_sameN (N : Nat) : List SV → List Blk → Res := fun args M => match topA eltB M args with
  | some (b, [.agg l, .agg m]) => .test b (.test ((isT l && isT m) && (decide ((decT l).sz < N) && decide ((decT l).mass ≤ 1099511627776))) (.ok (.bool ((decT l).same (decT m))) []))
  | _ => .fail
theorem elts_sh (l : List Int) : elts eB 0 l.length (shiftG 0 (gOf eB l)) = l := elts_all eB _
theorem e3 (a b : Nat) : ((a : Int) == (b : Int)) = (a == b) := by rw [Bool.eq_iff_iff]; simp only [beq_iff_eq]; omega
theorem sameT_run (N : Nat) (ih : CtrOk Try.prog Gw 14 (k_sameN N)) (t u : Tr) (ht : t.sz < N + 1) (hl : t.mass ≤ 1099511627776) : run Try.prog ⟨[(14, k_sameN N), (12, k_same)], eqs, [], [], [], mixs, meqs, []⟩ 10000 [(6, 10, [0, 1, 0, 7, 15, 0, 32, 0, 224, 480, 1023, 2047])] 0 (bodyOf Try.f14) (initF Try.f14 [.agg [.int .u8 t.k, .int .i64 t.n, .sl 0 1 0 t.bs.length, .sl 1 4 0 t.kids.length], .agg [.int .u8 u.k, .int .i64 u.n, .sl 2 1 0 u.bs.length, .sl 3 4 0 u.kids.length]]) [.ro 1 t.bs.length (gOf eB t.bs), .ro 4 t.kids.length (gK t.kids), .ro 1 u.bs.length (gOf eB u.bs), .ro 4 u.kids.length (gK u.kids)] (retK Try.prog Try.f14 fun x _ => eqv x (.bool (t.same u))) := by
  have hkl := Tr.kids_mass t
  have hbl := Tr.bs_mass t
  (conv => whnf)
  (repeat' (first | (refine step_t (by first | rfl | assumption) ?_; (conv => whnf)) | (refine step_f (by first | rfl | assumption) ?_; (conv => whnf)) | (refine step_nt (by assumption) ?_; (conv => whnf)) | (refine step_nf (by assumption) ?_; (conv => whnf)) | (refine step_n (fun hb => ?_) (fun hb => ?_) <;> (first | contradiction | (conv => whnf))) | (refine And.intro (fun hb => ?_) (fun hb => ?_) <;> (first | contradiction | (conv => whnf))) | (refine And.intro ?_ ?_; rotate_left 1; (conv => whnf))))
  all_goals try (simp only [elts_sh, e3] at *)
  all_goals try (show (_ : Bool) = (_ : Bool); rw [Tr.same_eq]; simp_all; done)
  all_goals try (first | (refine decide_eq_true ?_; omega) | (rw [Bool.and_eq_true]; exact ⟨allIs_gOf eB _ _ _, allIs_gOf eB _ _ _⟩) | (simp; done))
  all_goals
    have hn : t.kids.length = u.kids.length := by simp_all
    have hw : t.same u = Tr.sameL t.kids u.kids := by rw [Tr.same_eq]; simp_all
    refine .inr ⟨[], [2, 3, 5], fun k vals M => ∃ (j : Nat), j ≤ t.kids.length ∧ k = t.kids.length - j ∧ t.same u = Tr.sameL (t.kids.drop j) (u.kids.drop j) ∧ vals = [.ptr 4 0, .ptr 5 0, .int .i64 (j : Int)] ∧ M = [.ro 1 t.bs.length (gOf eB t.bs), .ro 4 t.kids.length (gK t.kids), .ro 1 u.bs.length (gOf eB u.bs), .ro 4 u.kids.length (gK u.kids), .cells 28 [.int .u8 t.k, .int .i64 t.n, .sl 0 1 0 t.bs.length, .sl 1 4 0 t.kids.length], .cells 28 [.int .u8 u.k, .int .i64 u.n, .sl 2 1 0 u.bs.length, .sl 3 4 0 u.kids.length]], ?_⟩
    conv => whnf
    refine And.intro ⟨t.kids.length, [.ro 1 t.bs.length (gOf eB t.bs), .ro 4 t.kids.length (gK t.kids), .ro 1 u.bs.length (gOf eB u.bs), .ro 4 u.kids.length (gK u.kids), .cells 28 [.int .u8 t.k, .int .i64 t.n, .sl 0 1 0 t.bs.length, .sl 1 4 0 t.kids.length], .cells 28 [.int .u8 u.k, .int .i64 u.n, .sl 2 1 0 u.bs.length, .sl 3 4 0 u.kids.length]], mle_cons ble_refl (mle_cons ble_refl (mle_cons ble_refl (mle_cons ble_refl (mle_cons ble_refl (mle_cons ble_refl mle_nil))))), rfl, rfl, 0, by omega, by omega, hw, rfl, rfl⟩ ?_
    rintro k vals M1 ⟨j, hj, rfl, hr, rfl, rfl⟩
    have hz : 0 + ((j : Int)).toNat = j := by omega
    (conv => whnf)
    (repeat' (first | (refine step_t (by first | rfl | assumption) ?_; (conv => whnf)) | (refine step_f (by first | rfl | assumption) ?_; (conv => whnf)) | (refine step_nt (by assumption) ?_; (conv => whnf)) | (refine step_nf (by assumption) ?_; (conv => whnf)) | (refine step_n (fun hb => ?_) (fun hb => ?_) <;> (first | contradiction | (conv => whnf))) | (refine And.intro (fun hb => ?_) (fun hb => ?_) <;> (first | contradiction | (conv => whnf))) | (refine And.intro ?_ ?_; rotate_left 1; (conv => whnf))))
    all_goals try (simp only [dec0, is0, hz] at *)
    all_goals try (first | rfl | exact decide_eq_true rfl | (refine decide_eq_true ?_; omega) | (simp only [hbytes, decide_eq_true_eq]; omega))
    all_goals try (simp only [decide_eq_true_eq, decide_eq_false_iff_not] at *)
    all_goals first
      | rfl
      | (have hlt : j < t.kids.length := by omega
         have hlu : j < u.kids.length := by omega
         first
         | exact hlt | exact hlu | (exact decide_eq_true hlt) | (exact decide_eq_true hlu)
         | (rw [Bool.and_eq_true]; exact ⟨decide_eq_true (by omega), decide_eq_true (by omega)⟩)
         | (rw [Bool.true_and, Bool.true_and, Bool.and_eq_true]; exact ⟨decide_eq_true (by have := Tr.kid_lt hlt; omega), decide_eq_true (by have := Tr.kid_mass hlt; omega)⟩) | (simp; done)
         | (have hd : t.kids.drop j = t.kids.getD j .no :: t.kids.drop (j + 1) := by rw [List.drop_eq_getElem_cons hlt, List.getD_eq_getElem?_getD, List.getElem?_eq_getElem hlt]; rfl
            have hu : u.kids.drop j = u.kids.getD j .no :: u.kids.drop (j + 1) := by rw [List.drop_eq_getElem_cons hlu, List.getD_eq_getElem?_getD, List.getElem?_eq_getElem hlu]; rfl
            rw [hd, hu, Tr.sameL] at hr
            first
            | (rw [show (t.kids.getD j .no).same (u.kids.getD j .no) = false from by assumption] at hr; exact hr)
            | (rw [show (t.kids.getD j .no).same (u.kids.getD j .no) = true from by assumption, Bool.true_and] at hr
               refine ⟨t.kids.length - (j + 1), [.ro 1 t.bs.length (gOf eB t.bs), .ro 4 t.kids.length (gK t.kids), .ro 1 u.bs.length (gOf eB u.bs), .ro 4 u.kids.length (gK u.kids), .cells 28 [.int .u8 t.k, .int .i64 t.n, .sl 0 1 0 t.bs.length, .sl 1 4 0 t.kids.length], .cells 28 [.int .u8 u.k, .int .i64 u.n, .sl 2 1 0 u.bs.length, .sl 3 4 0 u.kids.length]], [0, 1, 2, 3, 4, 5], by omega, rfl, mle_cons ble_refl (mle_cons ble_refl (mle_cons ble_refl (mle_cons ble_refl (mle_cons ble_refl (mle_cons ble_refl mle_nil))))), rfl, rfl, j + 1, by omega, rfl, hr, ?_, rfl⟩
               show [SV.ptr 4 0, .ptr 5 0, .int .i64 (IntKind.i64.wrap ((j : Int) + 1))] = _
               rw [i64_of (n := (j : Int) + 1) (by omega) (by omega)]; rfl)))
      | (obtain rfl : j = t.kids.length := by omega
         rw [List.drop_length, Tr.sameL] at hr
         exact hr)
theorem k_sameN_ok : ∀ N, CtrOk Try.prog Gw 14 (k_sameN N) := by
  intro N
  induction N with
  | zero =>
    refine ⟨fun _ _ => by kernel_rfl, fun args M => ?_⟩
    unfold k_sameN
    split
    · intro _ h; simp at h
    · trivial
  | succ N ih =>
    refine ⟨fun _ _ => by kernel_rfl, fun args M => ?_⟩
    unfold k_sameN
    split
    · rename_i b l m hv
      intro hb ht
      simp only [Bool.and_eq_true, decide_eq_true_eq] at ht
      exact ctr_top (Γ := ⟨[(14, k_sameN N), (12, k_same)], eqs, [], [], [], mixs, meqs, []⟩) st_Gw ⟨(okCons ih (okCons k_same_ok okNil)), eqs_ok, okNilB, okNilI, okNilP, mixs_ok, meqs_ok, okNilY⟩ Try.func14 rfl mixed [(6, 10, [0, 1, 0, 7, 15, 0, 32, 0, 224, 480, 1023, 2047])] (by kernel_rfl) 10000 _ hv hb (avcons (open_T ht.1.1).1 (open_T ht.1.2)) rfl (sameT_run N ih (decT l) (decT m) ht.2.1 ht.2.2)
    · trivial
noncomputable def k_sameT : List SV → List Blk → Res := fun args M => match topA eltB M args with
  | some (b, [.agg l, .agg m]) => .test b (.test ((isT l && isT m) && decide ((decT l).mass ≤ 1099511627776)) (.ok (.bool ((decT l).same (decT m))) []))
  | _ => .fail
theorem k_sameT_ok : CtrOk Try.prog Gw 14 k_sameT := by
  refine ⟨fun _ _ => by kernel_rfl, fun args M => ?_⟩
  unfold k_sameT
  split
  · rename_i b l m hv
    intro hb ht
    simp only [Bool.and_eq_true, decide_eq_true_eq] at ht
    have h := (k_sameN_ok ((decT l).sz + 1)).2 args M
    simp only [k_sameN, hv] at h
    exact h hb (by simp only [ht.1.1, ht.1.2, Bool.true_and, Bool.and_eq_true, decide_eq_true_eq]; exact ⟨by omega, ht.2⟩)
  · trivial
end Go.Proofs.Ytmdkihggeodjfaa
