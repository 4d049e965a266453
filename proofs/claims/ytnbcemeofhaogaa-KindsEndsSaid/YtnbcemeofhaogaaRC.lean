import Derived.Test.YtnbcemeofhaogaaRA
import Derived.Test.YtnbcemeofhaogaaZM
namespace Go.Proofs.Ytnbcemeofhaogaa
open Go.RowKit Go.Sx
set_option linter.unusedSimpArgs false
set_option linter.unusedVariables false
set_option linter.unnecessarySimpa false
set_option maxRecDepth 100000
set_option maxHeartbeats 4000000
theorem rmapped_run (L : List Ag) (i : Int) (hw : ((decide (0 ≤ i) && decide (i < (L.length : Int))) && (decide (L.length ≤ 1099511627776) && decide ((K.mapOf (L.take i.toNat)).length ≤ 1099511627776))) = true) : run Try.prog ⟨[(73, k_rMaps), (74, k_rhas)], eqs, [], [], [], mixs, meqs, []⟩ 10000 [] 0 (bodyOf Try.f43) (initF Try.f43 [.sl 0 4 0 L.length, .int .i64 i]) [.ro 4 L.length (cA.g L)] (retK Try.prog Try.f43 (fun x _ => eqv x (.bool (K.mapped (L.take i.toNat) (L.getD i.toNat cA.dft))))) := by
  simp only [Bool.and_eq_true, decide_eq_true_eq] at hw
  obtain ⟨⟨hi0, hi1⟩, hwL, hwM⟩ := hw
  obtain ⟨j, rfl⟩ : ∃ j : Nat, i = (j : Int) := ⟨i.toNat, by omega⟩
  have hlt : j < L.length := by omega
  have hwQ : (K.mapOf (L.take j)).length ≤ 1099511627776 := hwM
  have hz : 0 + ((j : Int)).toNat = j := by omega
  show run _ _ _ _ _ _ _ _ (retK _ _ fun x _ => eqv x (.bool (K.mapped (L.take j) (L.getD j cA.dft))))
  have e1 : cA.isR 4 (.row 4 j (shiftG 0 (cA.g L))) = true := Cel.isR_part (by omega)
  have e2 : cA.decR 4 (.row 4 j (shiftG 0 (cA.g L))) = L.take j := by rw [Cel.decR_part (by omega), List.drop_zero]
  have b1 : (L.take j).length ≤ 1099511627776 := by rw [List.length_take]; omega
  have hk : (((L.getD (0 + ((j : Int)).toNat) cA.dft).k == 3) = true ∧ ((L.getD (0 + ((j : Int)).toNat) cA.dft).k == 4) = false ∧ ((L.getD (0 + ((j : Int)).toNat) cA.dft).k == 5) = false ∧ ((L.getD (0 + ((j : Int)).toNat) cA.dft).k == 6) = false) ∨ (((L.getD (0 + ((j : Int)).toNat) cA.dft).k == 3) = false ∧ ((L.getD (0 + ((j : Int)).toNat) cA.dft).k == 4) = true ∧ ((L.getD (0 + ((j : Int)).toNat) cA.dft).k == 5) = false ∧ ((L.getD (0 + ((j : Int)).toNat) cA.dft).k == 6) = false) ∨ (((L.getD (0 + ((j : Int)).toNat) cA.dft).k == 3) = false ∧ ((L.getD (0 + ((j : Int)).toNat) cA.dft).k == 4) = false ∧ ((L.getD (0 + ((j : Int)).toNat) cA.dft).k == 5) = true ∧ ((L.getD (0 + ((j : Int)).toNat) cA.dft).k == 6) = false) ∨ (((L.getD (0 + ((j : Int)).toNat) cA.dft).k == 3) = false ∧ ((L.getD (0 + ((j : Int)).toNat) cA.dft).k == 4) = false ∧ ((L.getD (0 + ((j : Int)).toNat) cA.dft).k == 5) = false ∧ ((L.getD (0 + ((j : Int)).toNat) cA.dft).k == 6) = true) ∨ (((L.getD (0 + ((j : Int)).toNat) cA.dft).k == 3) = false ∧ ((L.getD (0 + ((j : Int)).toNat) cA.dft).k == 4) = false ∧ ((L.getD (0 + ((j : Int)).toNat) cA.dft).k == 5) = false ∧ ((L.getD (0 + ((j : Int)).toNat) cA.dft).k == 6) = false) := by
    simp only [beq_eq_false_iff_ne, beq_iff_eq, ne_eq]; omega
  rcases hk with ⟨c0, c1, c2, c3⟩ | ⟨c0, c1, c2, c3⟩ | ⟨c0, c1, c2, c3⟩ | ⟨c0, c1, c2, c3⟩ | ⟨c0, c1, c2, c3⟩
  · (conv => whnf)
    (repeat' (first | (refine step_t (by first | rfl | assumption) ?_; (conv => whnf)) | (refine step_f (by first | rfl | assumption) ?_; (conv => whnf)) | (refine step_nt (by assumption) ?_; (conv => whnf)) | (refine step_nf (by assumption) ?_; (conv => whnf)) | (refine step_n (fun hb => ?_) (fun hb => ?_) <;> (first | contradiction | (conv => whnf))) | (refine And.intro (fun hb => ?_) (fun hb => ?_) <;> (first | contradiction | (conv => whnf))) | (refine And.intro (a := (_ : Bool) = true) ?_ ?_; rotate_left 1; (conv => whnf))))
    all_goals try (simp only [hz, Int.toNat_natCast, Nat.sub_zero, Nat.zero_add, e1, e2, isR_0, decR_0, decB_at, isB_at] at *)
    all_goals first
    | rfl
    | (simp; done)
    | exact hlt
    | exact decide_eq_true hlt
    | exact decide_eq_true b1
    | exact decide_eq_true hwQ
    | (exact decide_eq_true (by omega))
    | (have h7 : decide (0 < L.length) = false := (by assumption)
       have h8 := of_decide_eq_false h7
       exfalso
       omega)
    | (rw [Bool.and_eq_true]; exact ⟨decide_eq_true (by omega), decide_eq_true hlt⟩)
    | (rw [Bool.and_true]; exact decide_eq_true (by omega))
    | (simp only [Bool.and_eq_true, decide_eq_true_eq, true_and]; omega)
    | (rw [K.mapped_3 (by assumption), Bool.eq_iff_iff]; simp; done)
    | (exact K.mapped_none (by assumption) (K.lacks_no (by assumption) (by assumption) (by assumption)))
    | (rw [K.mapped_q (by assumption) (K.lacks_4 (by assumption))]; clear hwL hwM hwQ b1; simp_all; done)
    | (rw [K.mapped_q (by assumption) (K.lacks_5 (by assumption))]; clear hwL hwM hwQ b1; simp_all; done)
    | (rw [K.mapped_q (by assumption) (K.lacks_6 (by assumption))]; clear hwL hwM hwQ b1; simp_all; done)
  · (conv => whnf)
    (repeat' (first | (refine step_t (by first | rfl | assumption) ?_; (conv => whnf)) | (refine step_f (by first | rfl | assumption) ?_; (conv => whnf)) | (refine step_nt (by assumption) ?_; (conv => whnf)) | (refine step_nf (by assumption) ?_; (conv => whnf)) | (refine step_n (fun hb => ?_) (fun hb => ?_) <;> (first | contradiction | (conv => whnf))) | (refine And.intro (fun hb => ?_) (fun hb => ?_) <;> (first | contradiction | (conv => whnf))) | (refine And.intro (a := (_ : Bool) = true) ?_ ?_; rotate_left 1; (conv => whnf))))
    all_goals try (simp only [hz, Int.toNat_natCast, Nat.sub_zero, Nat.zero_add, e1, e2, isR_0, decR_0, decB_at, isB_at] at *)
    all_goals first
    | rfl
    | (simp; done)
    | exact hlt
    | exact decide_eq_true hlt
    | exact decide_eq_true b1
    | exact decide_eq_true hwQ
    | (exact decide_eq_true (by omega))
    | (have h7 : decide (0 < L.length) = false := (by assumption)
       have h8 := of_decide_eq_false h7
       exfalso
       omega)
    | (rw [Bool.and_eq_true]; exact ⟨decide_eq_true (by omega), decide_eq_true hlt⟩)
    | (rw [Bool.and_true]; exact decide_eq_true (by omega))
    | (simp only [Bool.and_eq_true, decide_eq_true_eq, true_and]; omega)
    | (rw [K.mapped_3 (by assumption), Bool.eq_iff_iff]; simp; done)
    | (exact K.mapped_none (by assumption) (K.lacks_no (by assumption) (by assumption) (by assumption)))
    | (rw [K.mapped_q (by assumption) (K.lacks_4 (by assumption))]; clear hwL hwM hwQ b1; simp_all; done)
    | (rw [K.mapped_q (by assumption) (K.lacks_5 (by assumption))]; clear hwL hwM hwQ b1; simp_all; done)
    | (rw [K.mapped_q (by assumption) (K.lacks_6 (by assumption))]; clear hwL hwM hwQ b1; simp_all; done)
  · (conv => whnf)
    (repeat' (first | (refine step_t (by first | rfl | assumption) ?_; (conv => whnf)) | (refine step_f (by first | rfl | assumption) ?_; (conv => whnf)) | (refine step_nt (by assumption) ?_; (conv => whnf)) | (refine step_nf (by assumption) ?_; (conv => whnf)) | (refine step_n (fun hb => ?_) (fun hb => ?_) <;> (first | contradiction | (conv => whnf))) | (refine And.intro (fun hb => ?_) (fun hb => ?_) <;> (first | contradiction | (conv => whnf))) | (refine And.intro (a := (_ : Bool) = true) ?_ ?_; rotate_left 1; (conv => whnf))))
    all_goals try (simp only [hz, Int.toNat_natCast, Nat.sub_zero, Nat.zero_add, e1, e2, isR_0, decR_0, decB_at, isB_at] at *)
    all_goals first
    | rfl
    | (simp; done)
    | exact hlt
    | exact decide_eq_true hlt
    | exact decide_eq_true b1
    | exact decide_eq_true hwQ
    | (exact decide_eq_true (by omega))
    | (have h7 : decide (0 < L.length) = false := (by assumption)
       have h8 := of_decide_eq_false h7
       exfalso
       omega)
    | (rw [Bool.and_eq_true]; exact ⟨decide_eq_true (by omega), decide_eq_true hlt⟩)
    | (rw [Bool.and_true]; exact decide_eq_true (by omega))
    | (simp only [Bool.and_eq_true, decide_eq_true_eq, true_and]; omega)
    | (rw [K.mapped_3 (by assumption), Bool.eq_iff_iff]; simp; done)
    | (exact K.mapped_none (by assumption) (K.lacks_no (by assumption) (by assumption) (by assumption)))
    | (rw [K.mapped_q (by assumption) (K.lacks_4 (by assumption))]; clear hwL hwM hwQ b1; simp_all; done)
    | (rw [K.mapped_q (by assumption) (K.lacks_5 (by assumption))]; clear hwL hwM hwQ b1; simp_all; done)
    | (rw [K.mapped_q (by assumption) (K.lacks_6 (by assumption))]; clear hwL hwM hwQ b1; simp_all; done)
  · (conv => whnf)
    (repeat' (first | (refine step_t (by first | rfl | assumption) ?_; (conv => whnf)) | (refine step_f (by first | rfl | assumption) ?_; (conv => whnf)) | (refine step_nt (by assumption) ?_; (conv => whnf)) | (refine step_nf (by assumption) ?_; (conv => whnf)) | (refine step_n (fun hb => ?_) (fun hb => ?_) <;> (first | contradiction | (conv => whnf))) | (refine And.intro (fun hb => ?_) (fun hb => ?_) <;> (first | contradiction | (conv => whnf))) | (refine And.intro (a := (_ : Bool) = true) ?_ ?_; rotate_left 1; (conv => whnf))))
    all_goals try (simp only [hz, Int.toNat_natCast, Nat.sub_zero, Nat.zero_add, e1, e2, isR_0, decR_0, decB_at, isB_at] at *)
    all_goals first
    | rfl
    | (simp; done)
    | exact hlt
    | exact decide_eq_true hlt
    | exact decide_eq_true b1
    | exact decide_eq_true hwQ
    | (exact decide_eq_true (by omega))
    | (have h7 : decide (0 < L.length) = false := (by assumption)
       have h8 := of_decide_eq_false h7
       exfalso
       omega)
    | (rw [Bool.and_eq_true]; exact ⟨decide_eq_true (by omega), decide_eq_true hlt⟩)
    | (rw [Bool.and_true]; exact decide_eq_true (by omega))
    | (simp only [Bool.and_eq_true, decide_eq_true_eq, true_and]; omega)
    | (rw [K.mapped_3 (by assumption), Bool.eq_iff_iff]; simp; done)
    | (exact K.mapped_none (by assumption) (K.lacks_no (by assumption) (by assumption) (by assumption)))
    | (rw [K.mapped_q (by assumption) (K.lacks_4 (by assumption))]; clear hwL hwM hwQ b1; simp_all; done)
    | (rw [K.mapped_q (by assumption) (K.lacks_5 (by assumption))]; clear hwL hwM hwQ b1; simp_all; done)
    | (rw [K.mapped_q (by assumption) (K.lacks_6 (by assumption))]; clear hwL hwM hwQ b1; simp_all; done)
  · (conv => whnf)
    (repeat' (first | (refine step_t (by first | rfl | assumption) ?_; (conv => whnf)) | (refine step_f (by first | rfl | assumption) ?_; (conv => whnf)) | (refine step_nt (by assumption) ?_; (conv => whnf)) | (refine step_nf (by assumption) ?_; (conv => whnf)) | (refine step_n (fun hb => ?_) (fun hb => ?_) <;> (first | contradiction | (conv => whnf))) | (refine And.intro (fun hb => ?_) (fun hb => ?_) <;> (first | contradiction | (conv => whnf))) | (refine And.intro (a := (_ : Bool) = true) ?_ ?_; rotate_left 1; (conv => whnf))))
    all_goals try (simp only [hz, Int.toNat_natCast, Nat.sub_zero, Nat.zero_add, e1, e2, isR_0, decR_0, decB_at, isB_at] at *)
    all_goals first
    | rfl
    | (simp; done)
    | exact hlt
    | exact decide_eq_true hlt
    | exact decide_eq_true b1
    | exact decide_eq_true hwQ
    | (exact decide_eq_true (by omega))
    | (have h7 : decide (0 < L.length) = false := (by assumption)
       have h8 := of_decide_eq_false h7
       exfalso
       omega)
    | (rw [Bool.and_eq_true]; exact ⟨decide_eq_true (by omega), decide_eq_true hlt⟩)
    | (rw [Bool.and_true]; exact decide_eq_true (by omega))
    | (simp only [Bool.and_eq_true, decide_eq_true_eq, true_and]; omega)
    | (rw [K.mapped_3 (by assumption), Bool.eq_iff_iff]; simp; done)
    | (exact K.mapped_none (by assumption) (K.lacks_no (by assumption) (by assumption) (by assumption)))
    | (rw [K.mapped_q (by assumption) (K.lacks_4 (by assumption))]; clear hwL hwM hwQ b1; simp_all; done)
    | (rw [K.mapped_q (by assumption) (K.lacks_5 (by assumption))]; clear hwL hwM hwQ b1; simp_all; done)
    | (rw [K.mapped_q (by assumption) (K.lacks_6 (by assumption))]; clear hwL hwM hwQ b1; simp_all; done)

noncomputable def k_rmapped : List SV → List Blk → Res := fun args M => match topA eltB M args with
  | some (b, [.one v0, .one (.int .i64 v1)]) => .test b (.test (cA.isR 4 v0) (.test ((decide (0 ≤ v1) && decide (v1 < ((cA.decR 4 v0).length : Int))) && (decide ((cA.decR 4 v0).length ≤ 1099511627776) && decide ((K.mapOf ((cA.decR 4 v0).take v1.toNat)).length ≤ 1099511627776))) (.ok (.bool (K.mapped ((cA.decR 4 v0).take v1.toNat) ((cA.decR 4 v0).getD v1.toNat cA.dft))) [])))
  | _ => .fail
theorem k_rmapped_ok : CtrOk Try.prog Gw 43 k_rmapped := by
  refine ⟨fun _ _ => by kernel_rfl, fun args M => ?_⟩
  unfold k_rmapped
  split
  · rename_i b v0 v1 hv
    intro hb hi hw
    exact ctr_top (Γ := ⟨[(73, k_rMaps), (74, k_rhas)], eqs, [], [], [], mixs, meqs, []⟩) st_Gw ⟨(okCons k_rMaps_ok (okCons k_rhas_ok okNil)), eqs_ok, okNilB, okNilI, okNilP, mixs_ok, meqs_ok, okNilY⟩ Try.func43 rfl mixed [] (by kernel_rfl) 10000 [.one (.row 4 (cA.decR 4 v0).length (cA.g (cA.decR 4 v0))), .one (.int .i64 v1)] hv hb ⟨Cel.isR_dec (hi), ⟨FVEq.refl _, trivial⟩⟩ rfl (rmapped_run (cA.decR 4 v0) v1 hw)
  · trivial
end Go.Proofs.Ytnbcemeofhaogaa
