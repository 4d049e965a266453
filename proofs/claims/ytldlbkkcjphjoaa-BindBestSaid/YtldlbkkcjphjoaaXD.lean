import Derived.Test.YtldlbkkcjphjoaaX1
import Derived.Test.YtldlbkkcjphjoaaXA
namespace Go.Proofs.Ytldlbkkcjphjoaa
open Go.RowKit Go.Sx
set_option linter.unusedSimpArgs false
set_option linter.unusedVariables false
set_option linter.unnecessarySimpa false
set_option maxRecDepth 100000
set_option maxHeartbeats 4000000
theorem name_run (s : ByteArray) (hs : s.size ≤ 1099511627776) : run Try.prog ⟨[], eqs, [], [(35, Try.f35, [])], [], mixs, meqs, []⟩ 10000 [] 0 (bodyOf Try.f29) (initF Try.f29 [.val (.string s)]) [] (retK Try.prog Try.f29 fun x _ => anyB x) := by
  (conv => whnf)
  (repeat' (first | (refine step_t (by first | rfl | assumption) ?_; (conv => whnf)) | (refine step_f (by first | rfl | assumption) ?_; (conv => whnf)) | (refine step_nt (by assumption) ?_; (conv => whnf)) | (refine step_nf (by assumption) ?_; (conv => whnf)) | (refine step_n (fun hb => ?_) (fun hb => ?_) <;> (first | contradiction | (conv => whnf))) | (refine And.intro (fun hb => ?_) (fun hb => ?_) <;> (first | contradiction | (conv => whnf))) | (refine And.intro ?_ ?_; rotate_left 1; (conv => whnf))))
  refine .inr ⟨[], [0, 3, 6, 7], fun k vals M => ∃ j : Nat, j ≤ s.size ∧ k = s.size - j ∧ vals = [.val (.string s), .fn (.func 35) [] [], .int .i64 (s.size : Int), .int .i64 (j : Int)] ∧ M = [], ?_⟩
  conv => whnf
  refine And.intro ⟨s.size, [], mle_nil, rfl, rfl, 0, by omega, by omega, rfl, rfl⟩ ?_
  rintro k vals M1 ⟨j, hj, rfl, rfl, rfl⟩
  (conv => whnf)
  (repeat' (first | (refine step_t (by first | rfl | assumption) ?_; (conv => whnf)) | (refine step_f (by first | rfl | assumption) ?_; (conv => whnf)) | (refine step_nt (by assumption) ?_; (conv => whnf)) | (refine step_nf (by assumption) ?_; (conv => whnf)) | (refine step_n (fun hb => ?_) (fun hb => ?_) <;> (first | contradiction | (conv => whnf))) | (refine And.intro (fun hb => ?_) (fun hb => ?_) <;> (first | contradiction | (conv => whnf))) | (refine And.intro ?_ ?_; rotate_left 1; (conv => whnf))))
  all_goals try trivial
  all_goals (have hlt : j < s.size := (by
    have h9 : decide ((j : Int) < (s.size : Int)) = true := (by assumption)
    have h8 := of_decide_eq_true h9
    omega))
  all_goals first
    | (simp only [Bool.and_eq_true, decide_eq_true_eq]; omega)
    | (refine ⟨s.size - (j + 1), [], [], by omega, rfl, mle_nil, rfl, rfl, j + 1, by omega, rfl, ?_, rfl⟩
       show [SV.val (.string s), .fn (.func 35) [] [], .int .i64 (s.size : Int), .int .i64 (IntKind.i64.wrap ((j : Int) + 1))] = _
       rw [i64_of (n := (j : Int) + 1) (by omega) (by omega)]; rfl)
def k_name : YC := fun args M K => match args with
  | [.val (.string s)] => decide (s.size ≤ 1099511627776) = true ∧ (true = true → K none .tt M) ∧ (true = true → K none .ff M)
  | _ => False
theorem k_name_ok : YCtrOk Try.prog Gw 29 k_name := by
  refine ⟨fun _ _ => by kernel_rfl, fun args M K h hsc hwf => ?_⟩
  unfold k_name at h
  split at h
  · rename_i s
    obtain ⟨hc, ht, hf⟩ := h
    exact yctr_top (Γ := ⟨[], eqs, [], [(35, Try.f35, [])], [], mixs, meqs, []⟩) st_Gw ⟨okNil, eqs_ok, okNilB, (okConsI Try.func35 rfl (by kernel_rfl) (fun _ _ => by kernel_rfl) okNilI), okNilP, mixs_ok, meqs_ok, okNilY⟩ Try.func29 rfl mixed [] (by kernel_rfl) 10000 _ (M := M) (args := [.val (.string s)]) rfl rfl (AVEqL.refl _) rfl anyB (name_run s (of_decide_eq_true hc)) (fun x hx => anyB_is hx (K := fun y => K none y M) (ht rfl) (hf rfl)) hwf
  · exact h.elim
end Go.Proofs.Ytldlbkkcjphjoaa
namespace Go.Proofs.Ytldlbkkcjphjoaa
open Go.RowKit Go.Sx
set_option linter.unusedSimpArgs false
set_option linter.unusedVariables false
set_option linter.unnecessarySimpa false
set_option maxRecDepth 100000
set_option maxHeartbeats 4000000
def k_fields : YC := fun args M K => match topA eltB M args with
  | some (b, [.agg [.val (.string nm), .int .i64 cx, x, y, .int .i64 lo, .int .i64 hi]]) => match rowA eF 4 x, rowA eN 3 y with
    | some (c, l), some (d, n) => b = true ∧ (c && d && decide (l.length ≤ 1099511627776)) = true ∧ (true = true → K none .tt M) ∧ (true = true → K none .ff M)
    | _, _ => False
  | _ => False
theorem k_fields_ok : YCtrOk Try.prog Gw 31 k_fields := by
  refine ⟨fun _ _ => by kernel_rfl, fun args M K h hsc hwf => ?_⟩
  unfold k_fields at h
  split at h
  · rename_i b nm cx x y lo hi hv
    split at h
    · rename_i c l d n h1 h2
      obtain ⟨hb, hc, ht, hf⟩ := h
      simp only [Bool.and_eq_true, decide_eq_true_eq] at hc
      have he : AVEqL [.agg [.val (.string nm), .int .i64 cx, x, y, .int .i64 lo, .int .i64 hi]] [.agg [.val (.string nm), .int .i64 cx, .row 4 l.length (gOf eF l), .row 3 n.length (gOf eN n), .int .i64 lo, .int .i64 hi]] :=
        ⟨fvl_cons (FVEq.refl _) (fvl_cons (FVEq.refl _) (fvl_cons (rowA_eq h1 hc.1.1) (fvl_cons (rowA_eq h2 hc.1.2) (FVEqL.refl _)))), trivial⟩
      exact yctr_top (Γ := ⟨[(37, k_cont)], eqs, [], [(36, Try.f36, []), (38, Try.f38, [(3, 5, [0, 0, 0, 6, 0, 31, 63])])], [], mixs, meqs, []⟩) st_Gw ⟨(okCons k_cont_ok okNil), eqs_ok, okNilB, (okConsI Try.func36 rfl (by kernel_rfl) (fun _ _ => by kernel_rfl) (okConsI Try.func38 rfl (by kernel_rfl) (fun _ _ => by kernel_rfl) okNilI)), okNilP, mixs_ok, meqs_ok, okNilY⟩ Try.func31 rfl mixed [(8, 10, [0, 0, 3, 7, 15, 0, 0, 96, 224, 480, 1023, 2047])] (by kernel_rfl) 10000 _ hv hb he rfl anyB (fields_run nm cx lo hi n.length (gOf eN n) l hc.2) (fun x hx => anyB_is hx (K := fun y => K none y M) (ht rfl) (hf rfl)) hwf
    · exact h.elim
  · exact h.elim
end Go.Proofs.Ytldlbkkcjphjoaa
namespace Go.Proofs.Ytldlbkkcjphjoaa
open Go.RowKit Go.Sx
set_option linter.unusedSimpArgs false
set_option linter.unusedVariables false
set_option linter.unnecessarySimpa false
set_option maxRecDepth 100000
set_option maxHeartbeats 4000000
theorem shiftG_0 (g : Nat → List FV) : shiftG 0 g = g := by funext i; simp [shiftG]
def okE : SV → Prop := fun x => x = .int .i64 0 ∨ x = .int .i64 2 ∨ x = .int .i64 3 ∨ x = .int .i64 22 ∨ x = .int .i64 34 ∨ x = .int .i64 36
theorem type_run (nm : ByteArray) (cx lo hi : Int) (l : List Fd) (n : List Nd) (hs : nm.size ≤ 1099511627776) (hl : l.length ≤ 1099511627776) (hn : n.length ≤ 1099511627776) : run Try.prog ⟨[], eqs, [], [(22, Try.f22, [(4, 13, [0, 1, 3, 7, 7, 7, 39, 119, 247, 7, 7, 1543, 3591, 8191, 16383, 32767])]), (23, Try.f23, []), (26, Try.f26, []), (24, Try.f24, []), (33, Try.f33, []), (25, Try.f25, []), (34, Try.f34, []), (27, Try.f27, []), (28, Try.f28, []), (30, Try.f30, [])], [], mixs, meqs, [(29, k_name), (31, k_fields)]⟩ 10000 [] 0 (bodyOf Try.f16) (initF Try.f16 [.agg [.val (.string nm), .int .i64 cx, .sl 0 4 0 l.length, .sl 1 3 0 n.length, .int .i64 lo, .int .i64 hi]]) [.ro 4 l.length (gOf eF l), .ro 3 n.length (gOf eN n)] (retK Try.prog Try.f16 fun x _ => okE x) := by
  (conv => whnf)
  (repeat' (first | (refine step_t (by first | rfl | assumption) ?_; (conv => whnf)) | (refine step_f (by first | rfl | assumption) ?_; (conv => whnf)) | (refine step_nt (by assumption) ?_; (conv => whnf)) | (refine step_nf (by assumption) ?_; (conv => whnf)) | (refine step_n (fun hb => ?_) (fun hb => ?_) <;> (first | contradiction | (conv => whnf))) | (refine And.intro (fun hb => ?_) (fun hb => ?_) <;> (first | contradiction | (conv => whnf))) | (refine And.intro ?_ ?_; rotate_left 1; (conv => whnf))))
  refine .inr ⟨[], [0, 1, 7, 8], fun k vals M => ∃ j : Nat, j ≤ n.length ∧ k = n.length - j ∧ vals = [.sl 1 3 0 n.length, .fn (.func 23) [] [], .int .i64 (n.length : Int), .int .i64 (j : Int)] ∧ M = [.ro 4 l.length (gOf eF l), .ro 3 n.length (gOf eN n), .cells 35 [.val (.string nm), .int .i64 cx, .sl 0 4 0 l.length, .sl 1 3 0 n.length, .int .i64 lo, .int .i64 hi]], ?_⟩
  conv => whnf
  refine And.intro ⟨n.length, [.ro 4 l.length (gOf eF l), .ro 3 n.length (gOf eN n), .cells 35 [.val (.string nm), .int .i64 cx, .sl 0 4 0 l.length, .sl 1 3 0 n.length, .int .i64 lo, .int .i64 hi]], mle_cons ble_refl (mle_cons ble_refl (mle_cons ble_refl mle_nil)), rfl, rfl, 0, by omega, by omega, rfl, rfl⟩ ?_
  rintro k vals M1 ⟨j, hj, rfl, rfl, rfl⟩
  (conv => whnf)
  (repeat' (first | (refine step_t (by first | rfl | assumption) ?_; (conv => whnf)) | (refine step_f (by first | rfl | assumption) ?_; (conv => whnf)) | (refine step_nt (by assumption) ?_; (conv => whnf)) | (refine step_nf (by assumption) ?_; (conv => whnf)) | (refine step_n (fun hb => ?_) (fun hb => ?_) <;> (first | contradiction | (conv => whnf))) | (refine And.intro (fun hb => ?_) (fun hb => ?_) <;> (first | contradiction | (conv => whnf))) | (refine And.intro ?_ ?_; rotate_left 1; (conv => whnf))))
  all_goals try (first | (simp; done) | exact decide_eq_true hs | (simp only [shiftG_0, allIs_gOf, elts_length, Bool.true_and, decide_eq_true_eq]; omega))
  all_goals try (
    have hlt : j < n.length := (by
      have h9 : decide ((j : Int) < (n.length : Int)) = true := (by assumption)
      have h8 := of_decide_eq_true h9
      omega)
    first
    | (simp only [Bool.and_eq_true, decide_eq_true_eq]; omega)
    | (have h7 : decide ((0 : Int) < (j : Int)) = true := (by assumption)
       have h6 := of_decide_eq_true h7
       rw [i64_of (by omega) (by omega)]
       simp only [Bool.and_eq_true, decide_eq_true_eq]
       omega)
    | (refine ⟨n.length - (j + 1), [.ro 4 l.length (gOf eF l), .ro 3 n.length (gOf eN n), .cells 35 [.val (.string nm), .int .i64 cx, .sl 0 4 0 l.length, .sl 1 3 0 n.length, .int .i64 lo, .int .i64 hi]], [0, 1, 2], by omega, rfl, mle_cons ble_refl (mle_cons ble_refl (mle_cons ble_refl mle_nil)), rfl, rfl, j + 1, by omega, rfl, ?_, rfl⟩
       first
       | (show [SV.sl 1 3 0 n.length, .fn (.func 23) [] [], .int .i64 (n.length : Int), .int .i64 (IntKind.i64.wrap ((j : Int) + 1))] = _
          rw [i64_of (n := (j : Int) + 1) (by omega) (by omega)]; rfl)
       | (show [SV.sl 1 3 0 n.length, .fn (.func 26) [] [], .int .i64 (n.length : Int), .int .i64 (IntKind.i64.wrap ((j : Int) + 1))] = _
          rw [i64_of (n := (j : Int) + 1) (by omega) (by omega)]; rfl)))
  all_goals (
    refine .inr ⟨[], [0, 1, 7, 8], fun k vals M => ∃ j : Nat, j ≤ n.length ∧ k = n.length - j ∧ vals = [.sl 1 3 0 n.length, .fn (.func 26) [] [], .int .i64 (n.length : Int), .int .i64 (j : Int)] ∧ M = [.ro 4 l.length (gOf eF l), .ro 3 n.length (gOf eN n), .cells 35 [.val (.string nm), .int .i64 cx, .sl 0 4 0 l.length, .sl 1 3 0 n.length, .int .i64 lo, .int .i64 hi]], ?_⟩
    conv => whnf
    refine And.intro ⟨n.length, [.ro 4 l.length (gOf eF l), .ro 3 n.length (gOf eN n), .cells 35 [.val (.string nm), .int .i64 cx, .sl 0 4 0 l.length, .sl 1 3 0 n.length, .int .i64 lo, .int .i64 hi]], mle_cons ble_refl (mle_cons ble_refl (mle_cons ble_refl mle_nil)), rfl, rfl, 0, by omega, by omega, rfl, rfl⟩ ?_
    rintro k vals M1 ⟨j, hj, rfl, rfl, rfl⟩
    (conv => whnf)
    (repeat' (first | (refine step_t (by first | rfl | assumption) ?_; (conv => whnf)) | (refine step_f (by first | rfl | assumption) ?_; (conv => whnf)) | (refine step_nt (by assumption) ?_; (conv => whnf)) | (refine step_nf (by assumption) ?_; (conv => whnf)) | (refine step_n (fun hb => ?_) (fun hb => ?_) <;> (first | contradiction | (conv => whnf))) | (refine And.intro (fun hb => ?_) (fun hb => ?_) <;> (first | contradiction | (conv => whnf))) | (refine And.intro ?_ ?_; rotate_left 1; (conv => whnf))))
    all_goals try (first | (simp; done) | exact decide_eq_true hs | (simp only [shiftG_0, allIs_gOf, elts_length, Bool.true_and, decide_eq_true_eq]; omega))
    all_goals try (
      have hlt : j < n.length := (by
        have h9 : decide ((j : Int) < (n.length : Int)) = true := (by assumption)
        have h8 := of_decide_eq_true h9
        omega)
      first
      | (simp only [Bool.and_eq_true, decide_eq_true_eq]; omega)
      | (have h7 : decide ((0 : Int) < (j : Int)) = true := (by assumption)
         have h6 := of_decide_eq_true h7
         rw [i64_of (by omega) (by omega)]
         simp only [Bool.and_eq_true, decide_eq_true_eq]
         omega)
      | (refine ⟨n.length - (j + 1), [.ro 4 l.length (gOf eF l), .ro 3 n.length (gOf eN n), .cells 35 [.val (.string nm), .int .i64 cx, .sl 0 4 0 l.length, .sl 1 3 0 n.length, .int .i64 lo, .int .i64 hi]], [0, 1, 2], by omega, rfl, mle_cons ble_refl (mle_cons ble_refl (mle_cons ble_refl mle_nil)), rfl, rfl, j + 1, by omega, rfl, ?_, rfl⟩
         first
         | (show [SV.sl 1 3 0 n.length, .fn (.func 23) [] [], .int .i64 (n.length : Int), .int .i64 (IntKind.i64.wrap ((j : Int) + 1))] = _
            rw [i64_of (n := (j : Int) + 1) (by omega) (by omega)]; rfl)
         | (show [SV.sl 1 3 0 n.length, .fn (.func 26) [] [], .int .i64 (n.length : Int), .int .i64 (IntKind.i64.wrap ((j : Int) + 1))] = _
            rw [i64_of (n := (j : Int) + 1) (by omega) (by omega)]; rfl))))

theorem okE_is {x : SV} (h : okE x) {K : SV → Prop} (h0 : K (.int .i64 0)) (h2 : K (.int .i64 2)) (h3 : K (.int .i64 3)) (h22 : K (.int .i64 22)) (h34 : K (.int .i64 34)) (h36 : K (.int .i64 36)) : ∃ y, (∀ ρ ρ' : Val, x.den ρ = y.den ρ') ∧ K y := by
  rcases h with rfl | rfl | rfl | rfl | rfl | rfl
  · exact ⟨_, fun _ _ => rfl, h0⟩
  · exact ⟨_, fun _ _ => rfl, h2⟩
  · exact ⟨_, fun _ _ => rfl, h3⟩
  · exact ⟨_, fun _ _ => rfl, h22⟩
  · exact ⟨_, fun _ _ => rfl, h34⟩
  · exact ⟨_, fun _ _ => rfl, h36⟩
/-- kinds.Type: one of its errors, or none. -/
def k_type : YC := fun args M K => match topA eltB M args with
  | some (b, [.agg [.val (.string nm), .int .i64 cx, x, y, .int .i64 lo, .int .i64 hi]]) => match rowA eF 4 x, rowA eN 3 y with
    | some (c, l), some (d, n) => b = true ∧ (c && (d && (decide (nm.size ≤ 1099511627776) && (decide (l.length ≤ 1099511627776) && decide (n.length ≤ 1099511627776))))) = true ∧ ((true = true → K none (.int .i64 0) M) ∧ (true = true → K none (.int .i64 36) M)) ∧ ((true = true → K none (.int .i64 2) M) ∧ (true = true → K none (.int .i64 3) M)) ∧ ((true = true → K none (.int .i64 22) M) ∧ (true = true → K none (.int .i64 34) M))
    | _, _ => False
  | _ => False
theorem k_type_ok : YCtrOk Try.prog Gw 16 k_type := by
  refine ⟨fun _ _ => by kernel_rfl, fun args M K h hsc hwf => ?_⟩
  unfold k_type at h
  split at h
  · rename_i b nm cx x y lo hi hv
    split at h
    · rename_i c l d n h1 h2
      obtain ⟨hb, hc, ⟨k0, k36⟩, ⟨k2, k3⟩, ⟨k22, k34⟩⟩ := h
      simp only [Bool.and_eq_true, decide_eq_true_eq] at hc
      have he : AVEqL [.agg [.val (.string nm), .int .i64 cx, x, y, .int .i64 lo, .int .i64 hi]] [.agg [.val (.string nm), .int .i64 cx, .row 4 l.length (gOf eF l), .row 3 n.length (gOf eN n), .int .i64 lo, .int .i64 hi]] :=
        ⟨fvl_cons (FVEq.refl _) (fvl_cons (FVEq.refl _) (fvl_cons (rowA_eq h1 hc.1) (fvl_cons (rowA_eq h2 hc.2.1) (FVEqL.refl _)))), trivial⟩
      exact yctr_top (Γ := ⟨[], eqs, [], [(22, Try.f22, [(4, 13, [0, 1, 3, 7, 7, 7, 39, 119, 247, 7, 7, 1543, 3591, 8191, 16383, 32767])]), (23, Try.f23, []), (26, Try.f26, []), (24, Try.f24, []), (33, Try.f33, []), (25, Try.f25, []), (34, Try.f34, []), (27, Try.f27, []), (28, Try.f28, []), (30, Try.f30, [])], [], mixs, meqs, [(29, k_name), (31, k_fields)]⟩) st_Gw ⟨okNil, eqs_ok, okNilB, (okConsI Try.func22 rfl (by kernel_rfl) (fun _ _ => by kernel_rfl) (okConsI Try.func23 rfl (by kernel_rfl) (fun _ _ => by kernel_rfl) (okConsI Try.func26 rfl (by kernel_rfl) (fun _ _ => by kernel_rfl) (okConsI Try.func24 rfl (by kernel_rfl) (fun _ _ => by kernel_rfl) (okConsI Try.func33 rfl (by kernel_rfl) (fun _ _ => by kernel_rfl) (okConsI Try.func25 rfl (by kernel_rfl) (fun _ _ => by kernel_rfl) (okConsI Try.func34 rfl (by kernel_rfl) (fun _ _ => by kernel_rfl) (okConsI Try.func27 rfl (by kernel_rfl) (fun _ _ => by kernel_rfl) (okConsI Try.func28 rfl (by kernel_rfl) (fun _ _ => by kernel_rfl) (okConsI Try.func30 rfl (by kernel_rfl) (fun _ _ => by kernel_rfl) okNilI)))))))))), okNilP, mixs_ok, meqs_ok, (okConsY k_name_ok (okConsY k_fields_ok okNilY))⟩ Try.func16 rfl mixed [] (by kernel_rfl) 10000 _ hv hb he rfl okE (type_run nm cx lo hi l n hc.2.2.1 hc.2.2.2.1 hc.2.2.2.2) (fun x hx => okE_is hx (K := fun y => K none y M) (k0 rfl) (k2 rfl) (k3 rfl) (k22 rfl) (k34 rfl) (k36 rfl)) hwf
    · exact h.elim
  · exact h.elim
end Go.Proofs.Ytldlbkkcjphjoaa
