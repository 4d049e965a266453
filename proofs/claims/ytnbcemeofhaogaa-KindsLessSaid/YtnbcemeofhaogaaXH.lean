import Derived.Test.YtnbcemeofhaogaaXG
namespace Go.Proofs.Ytnbcemeofhaogaa
open Go.RowKit Go.Sx
set_option linter.unusedSimpArgs false
set_option linter.unusedVariables false
set_option linter.unnecessarySimpa false
set_option maxRecDepth 100000
set_option maxHeartbeats 4000000
theorem sargs_run (L K : List Ag) (hL : L.length ≤ 1099511627776) (hW : L.all (Ag.atMost 1099511627776) = true) : run Try.prog ⟨[(59, k_sarg)], eqs, [], [], [], mixs, meqs, []⟩ 10000 [(6, 8, [0, 0, 3, 7, 0, 0, 48, 112, 255, 511])] 0 (bodyOf Try.f24) (initF Try.f24 [.sl 0 4 0 L.length, .sl 1 4 0 K.length]) [.ro 4 L.length (cA.g L), .ro 4 K.length (cA.g K)] (retK Try.prog Try.f24 fun x _ => eqv x (.bool (eqC L K))) := by
  (conv => whnf)
  (repeat' (first | (refine And.intro (fun hb => ?_) (fun hb => ?_) <;> (first | contradiction | (conv => whnf))) | (refine And.intro ?_ ?_; rotate_left 1; (conv => whnf))))
  · simp only [bne_iff_ne, ne_eq] at hb
    refine eqC_f ?_
    rintro rfl
    exact hb rfl
  · have hlen : L.length = K.length := by simp only [bne_eq_false_iff_eq] at hb; omega
    refine .inr ⟨[], [0, 1, 5], fun k vals M => ∃ j : Nat, j ≤ L.length ∧ k = L.length - j ∧ L.take j = K.take j ∧ vals = [.sl 0 4 0 L.length, .sl 1 4 0 K.length, .int .i64 (j : Int)] ∧ M = [.ro 4 L.length (cA.g L), .ro 4 K.length (cA.g K)], ?_⟩
    conv => whnf
    refine And.intro ⟨L.length, [.ro 4 L.length (cA.g L), .ro 4 K.length (cA.g K)], mle_cons ble_refl (mle_cons ble_refl mle_nil), rfl, rfl, 0, by omega, by omega, by simp, rfl, rfl⟩ ?_
    rintro k vals M1 ⟨j, hj, rfl, he, rfl, rfl⟩
    have hz : 0 + ((j : Int)).toNat = j := by omega
    (conv => whnf)
    (repeat' (first | (refine And.intro (fun hb => ?_) (fun hb => ?_) <;> (first | contradiction | (conv => whnf))) | (refine And.intro ?_ ?_; rotate_left 1; (conv => whnf))))
    all_goals try (simp only [sh0, elts_all, allIs_gOf, hz, sarg_eq] at *)
    all_goals try (first | rfl | exact decide_eq_true rfl | (refine decide_eq_true ?_; omega) | (simp only [decide_eq_true_eq]; omega))
    all_goals try (have hlt : j < L.length := by simp only [decide_eq_true_eq] at *; omega)
    all_goals try (first | exact decide_eq_true hlt | exact decide_eq_true (by omega) | (rw [Bool.and_eq_true]; exact ⟨decide_eq_true (by omega), decide_eq_true (by omega)⟩) | (simp; done) | exact decide_eq_true (Ag.atMost_len (all_getD hW hlt _)))
    · refine eqC_f ?_
      rintro rfl
      rw [eqC_t rfl] at hb
      cases hb
    · have hb' : L.getD j cA.dft = K.getD j cA.dft := eqC_iff.1 (by simpa using hb)
      refine ⟨L.length - (j + 1), [.ro 4 L.length (cA.g L), .ro 4 K.length (cA.g K)], [0, 1], by omega, rfl, mle_cons ble_refl (mle_cons ble_refl mle_nil), rfl, rfl, j + 1, by omega, rfl, take_next hlt (by omega) _ he hb', ?_, rfl⟩
      show [SV.sl 0 4 0 L.length, .sl 1 4 0 K.length, .int .i64 (IntKind.i64.wrap ((j : Int) + 1))] = _
      rw [i64_of (n := (j : Int) + 1) (by omega) (by omega)]; rfl
    · have : j = L.length := by simp only [decide_eq_false_iff_not] at hb; omega
      subst this
      rw [List.take_length, hlen, List.take_length] at he
      exact eqC_t he

noncomputable def k_sargs : List SV → List Blk → Res := fun args M => match topA eltB M args with
  | some (b, [.one x, .one y]) => .test b (.test (cA.isR 4 x && cA.isR 4 y) (.test (decide ((cA.decR 4 x).length ≤ 1099511627776) && (cA.decR 4 x).all (Ag.atMost 1099511627776)) (.ok (.bool (eqC (cA.decR 4 x) (cA.decR 4 y))) [])))
  | _ => .fail
theorem k_sargs_ok : CtrOk Try.prog Gw 24 k_sargs := by
  refine ⟨fun _ _ => by kernel_rfl, fun args M => ?_⟩
  unfold k_sargs
  split
  · rename_i b x y hv
    intro hb hi hw
    simp only [Bool.and_eq_true, decide_eq_true_eq] at hi hw
    exact ctr_top (Γ := ⟨[(59, k_sarg)], eqs, [], [], [], mixs, meqs, []⟩) st_Gw ⟨(okCons k_sarg_ok okNil), eqs_ok, okNilB, okNilI, okNilP, mixs_ok, meqs_ok, okNilY⟩ Try.func24 rfl mixed [(6, 8, [0, 0, 3, 7, 0, 0, 48, 112, 255, 511])] (by kernel_rfl) 10000 [.one (.row 4 (cA.decR 4 x).length (cA.g (cA.decR 4 x))), .one (.row 4 (cA.decR 4 y).length (cA.g (cA.decR 4 y)))] hv hb (avcons (Cel.isR_dec hi.1) (avcons (Cel.isR_dec hi.2) (AVEqL.refl []))) rfl (sargs_run _ _ hw.1 hw.2)
  · trivial
end Go.Proofs.Ytnbcemeofhaogaa
