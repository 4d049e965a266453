import Derived.Test.YtnbcemeofhaogaaRA
import Derived.Test.YtnbcemeofhaogaaZM
namespace Go.Proofs.Ytnbcemeofhaogaa
open Go.RowKit Go.Sx
set_option linter.unusedSimpArgs false
set_option linter.unusedVariables false
set_option linter.unnecessarySimpa false
set_option maxRecDepth 100000
set_option maxHeartbeats 4000000
theorem ranswer_run (h : Hp) (hw : ((decide (h.args.length ≤ 1099511627776) && decide ((K.mapOf h.args).length ≤ 1099511627776))) = true) : run Try.prog ⟨[(73, k_rMaps), (39, k_within)], eqs, [], [], [], mixs, meqs, []⟩ 10000 [] 0 (bodyOf Try.f44) (initF Try.f44 [.agg [.int .i64 h.id, .int .i64 h.mj, .int .i64 h.mn, .int .u8 h.core, .sl 0 4 0 h.args.length, .int .u8 h.rk, .int .i64 h.rlo, .int .i64 h.rhi, .int .i64 h.rsz]]) [.ro 4 h.args.length (cA.g h.args)] (retK Try.prog Try.f44 (fun x _ => eqv x (.bool (K.answers h)))) := by
  simp only [Bool.and_eq_true, decide_eq_true_eq] at hw
  obtain ⟨hwL, hwQ⟩ := hw
  have hk : ((h.rk == 1) = true ∧ (h.rk == 2) = false ∧ (h.rk == 3) = false) ∨ ((h.rk == 1) = false ∧ (h.rk == 2) = false ∧ (h.rk == 3) = true) ∨ ((h.rk == 1) = false ∧ (h.rk == 2) = false ∧ (h.rk == 3) = false) ∨ ((h.rk == 1) = false ∧ (h.rk == 2) = true ∧ (h.rk == 3) = false) := by
    simp only [beq_eq_false_iff_ne, beq_iff_eq]; omega
  rcases hk with ⟨h1, h2, h3⟩ | ⟨h1, h2, h3⟩ | ⟨h1, h2, h3⟩ | ⟨h1, h2, h3⟩
  · (conv => whnf)
    (repeat' (first | (refine step_t (by first | rfl | assumption) ?_; (conv => whnf)) | (refine step_f (by first | rfl | assumption) ?_; (conv => whnf)) | (refine step_nt (by assumption) ?_; (conv => whnf)) | (refine step_nf (by assumption) ?_; (conv => whnf)) | (refine step_n (fun hb => ?_) (fun hb => ?_) <;> (first | contradiction | (conv => whnf))) | (refine And.intro (fun hb => ?_) (fun hb => ?_) <;> (first | contradiction | (conv => whnf))) | (refine And.intro (a := (_ : Bool) = true) ?_ ?_; rotate_left 1; (conv => whnf))))
    all_goals try (simp only [decLA, isLA, decB_at, isB_at] at *)
    all_goals first
    | rfl
    | (simp; done)
    | exact decide_eq_true hwL
    | (exact decide_eq_true hwQ)
    | (have hp : 0 < (K.mapOf h.args).length := (by simp only [decide_eq_true_eq] at *; omega)
       rw [Bool.and_eq_true]; exact ⟨decide_eq_true hp, decide_eq_true hwQ⟩)
    | (have hp : 0 < (K.mapOf h.args).length := (by simp only [decide_eq_true_eq] at *; omega)
       simp_all [K.answers, K.within]
       done)
    | (simp_all [K.answers, K.within]; done)
    | (simp_all [K.answers, K.within]; omega)
  · (conv => whnf)
    (repeat' (first | (refine step_t (by first | rfl | assumption) ?_; (conv => whnf)) | (refine step_f (by first | rfl | assumption) ?_; (conv => whnf)) | (refine step_nt (by assumption) ?_; (conv => whnf)) | (refine step_nf (by assumption) ?_; (conv => whnf)) | (refine step_n (fun hb => ?_) (fun hb => ?_) <;> (first | contradiction | (conv => whnf))) | (refine And.intro (fun hb => ?_) (fun hb => ?_) <;> (first | contradiction | (conv => whnf))) | (refine And.intro (a := (_ : Bool) = true) ?_ ?_; rotate_left 1; (conv => whnf))))
    all_goals try (simp only [decLA, isLA, decB_at, isB_at] at *)
    all_goals first
    | rfl
    | (simp; done)
    | exact decide_eq_true hwL
    | (exact decide_eq_true hwQ)
    | (have hp : 0 < (K.mapOf h.args).length := (by simp only [decide_eq_true_eq] at *; omega)
       rw [Bool.and_eq_true]; exact ⟨decide_eq_true hp, decide_eq_true hwQ⟩)
    | (have hp : 0 < (K.mapOf h.args).length := (by simp only [decide_eq_true_eq] at *; omega)
       simp_all [K.answers, K.within]
       done)
    | (simp_all [K.answers, K.within]; done)
    | (simp_all [K.answers, K.within]; omega)
  · (conv => whnf)
    (repeat' (first | (refine step_t (by first | rfl | assumption) ?_; (conv => whnf)) | (refine step_f (by first | rfl | assumption) ?_; (conv => whnf)) | (refine step_nt (by assumption) ?_; (conv => whnf)) | (refine step_nf (by assumption) ?_; (conv => whnf)) | (refine step_n (fun hb => ?_) (fun hb => ?_) <;> (first | contradiction | (conv => whnf))) | (refine And.intro (fun hb => ?_) (fun hb => ?_) <;> (first | contradiction | (conv => whnf))) | (refine And.intro (a := (_ : Bool) = true) ?_ ?_; rotate_left 1; (conv => whnf))))
    all_goals try (simp only [decLA, isLA, decB_at, isB_at] at *)
    all_goals first
    | rfl
    | (simp; done)
    | exact decide_eq_true hwL
    | (exact decide_eq_true hwQ)
    | (have hp : 0 < (K.mapOf h.args).length := (by simp only [decide_eq_true_eq] at *; omega)
       rw [Bool.and_eq_true]; exact ⟨decide_eq_true hp, decide_eq_true hwQ⟩)
    | (have hp : 0 < (K.mapOf h.args).length := (by simp only [decide_eq_true_eq] at *; omega)
       simp_all [K.answers, K.within]
       done)
    | (simp_all [K.answers, K.within]; done)
    | (simp_all [K.answers, K.within]; omega)
  · (conv => whnf)
    (repeat' (first | (refine step_t (by first | rfl | assumption) ?_; (conv => whnf)) | (refine step_f (by first | rfl | assumption) ?_; (conv => whnf)) | (refine step_nt (by assumption) ?_; (conv => whnf)) | (refine step_nf (by assumption) ?_; (conv => whnf)) | (refine step_n (fun hb => ?_) (fun hb => ?_) <;> (first | contradiction | (conv => whnf))) | (refine And.intro (fun hb => ?_) (fun hb => ?_) <;> (first | contradiction | (conv => whnf))) | (refine And.intro (a := (_ : Bool) = true) ?_ ?_; rotate_left 1; (conv => whnf))))
    all_goals try (
      refine .inr ⟨[], [3, 4, 5], fun k vals M => ∃ j : Nat, j ≤ (K.mapOf (cA.decR 4 (.row 4 h.args.length (shiftG 0 (cA.g h.args))))).length ∧ k = (K.mapOf (cA.decR 4 (.row 4 h.args.length (shiftG 0 (cA.g h.args))))).length - j ∧ K.upto (fun i => decide ((K.mapOf (cA.decR 4 (.row 4 h.args.length (shiftG 0 (cA.g h.args))))).getD i eB.dft ≤ 4)) j = true ∧ vals = [.ptr 2 0, .sl 3 1 0 (K.mapOf (cA.decR 4 (.row 4 h.args.length (shiftG 0 (cA.g h.args))))).length, .int .i64 (j : Int)] ∧ M = [.ro 4 h.args.length (cA.g h.args), .cells 29 [.int .i64 h.id, .int .i64 h.mj, .int .i64 h.mn, .int .u8 h.core, .sl 0 4 0 h.args.length, .int .u8 h.rk, .int .i64 h.rlo, .int .i64 h.rhi, .int .i64 h.rsz], .cells 27 [.int .u8 h.rk, .int .i64 h.rlo, .int .i64 h.rhi, .int .i64 h.rsz], .fz 1 (K.mapOf (cA.decR 4 (.row 4 h.args.length (shiftG 0 (cA.g h.args))))).length (gOf eB (K.mapOf (cA.decR 4 (.row 4 h.args.length (shiftG 0 (cA.g h.args))))))], ?_⟩
      conv => whnf
      refine And.intro ⟨(K.mapOf (cA.decR 4 (.row 4 h.args.length (shiftG 0 (cA.g h.args))))).length, [.ro 4 h.args.length (cA.g h.args), .cells 29 [.int .i64 h.id, .int .i64 h.mj, .int .i64 h.mn, .int .u8 h.core, .sl 0 4 0 h.args.length, .int .u8 h.rk, .int .i64 h.rlo, .int .i64 h.rhi, .int .i64 h.rsz], .cells 27 [.int .u8 h.rk, .int .i64 h.rlo, .int .i64 h.rhi, .int .i64 h.rsz], .fz 1 (K.mapOf (cA.decR 4 (.row 4 h.args.length (shiftG 0 (cA.g h.args))))).length (gOf eB (K.mapOf (cA.decR 4 (.row 4 h.args.length (shiftG 0 (cA.g h.args))))))], (mle_cons ble_refl (mle_cons ble_refl (mle_cons ble_refl (mle_cons ble_refl mle_nil)))), rfl, rfl, 0, by omega, by omega, rfl, rfl, rfl⟩ ?_
      rintro k vals M1 ⟨j, hj, rfl, he, rfl, rfl⟩
      (conv => whnf)
      (repeat' (first | (refine step_t (by first | rfl | assumption) ?_; (conv => whnf)) | (refine step_f (by first | rfl | assumption) ?_; (conv => whnf)) | (refine step_nt (by assumption) ?_; (conv => whnf)) | (refine step_nf (by assumption) ?_; (conv => whnf)) | (refine step_n (fun hb => ?_) (fun hb => ?_) <;> (first | contradiction | (conv => whnf))) | (refine And.intro (fun hb => ?_) (fun hb => ?_) <;> (first | contradiction | (conv => whnf))) | (refine And.intro (a := (_ : Bool) = true) ?_ ?_; rotate_left 1; (conv => whnf)))))
    all_goals try (simp only [isLA, decLA, Int.toNat_natCast, Nat.zero_add] at *)
    all_goals try (have hlt : j < (K.mapOf h.args).length := (by
      have h9 : decide ((j : Int) < ((K.mapOf h.args).length : Int)) = true := (by assumption)
      have h8 := of_decide_eq_true h9
      omega))
    all_goals first
    | rfl
    | (simp; done)
    | exact hlt
    | exact decide_eq_true hlt
    | exact decide_eq_true hwL
    | (rw [Bool.and_eq_true]; exact ⟨decide_eq_true (by omega), decide_eq_true hlt⟩)
    | (have hgt : ¬ (K.mapOf h.args).getD j eB.dft ≤ 4 := (by
         have h8 := of_decide_eq_true hb
         omega)
       have hx := K.upto_no (p := fun i => decide ((K.mapOf h.args).getD i eB.dft ≤ 4)) hlt (decide_eq_false hgt)
       rw [K.upto_all (fun k => decide (k ≤ 4))] at hx
       exact K.answers_2f h2 hx)
    | (refine ⟨(K.mapOf h.args).length - (j + 1), [.ro 4 h.args.length (cA.g h.args), .cells 29 [.int .i64 h.id, .int .i64 h.mj, .int .i64 h.mn, .int .u8 h.core, .sl 0 4 0 h.args.length, .int .u8 h.rk, .int .i64 h.rlo, .int .i64 h.rhi, .int .i64 h.rsz], .cells 27 [.int .u8 h.rk, .int .i64 h.rlo, .int .i64 h.rhi, .int .i64 h.rsz], .fz 1 (K.mapOf h.args).length (gOf eB (K.mapOf h.args))], [0, 1, 2, 3], by omega, rfl, (mle_cons ble_refl (mle_cons ble_refl (mle_cons ble_refl (mle_cons ble_refl mle_nil)))), rfl, rfl, j + 1, by omega, rfl, ?_, ?_, rfl⟩
       · refine K.upto_next he (decide_eq_true ?_)
         have h8 := of_decide_eq_false hb
         omega
       · show ([.ptr 2 0, .sl 3 1 0 (K.mapOf h.args).length, .int .i64 (IntKind.i64.wrap ((j : Int) + 1))] : List SV) = _
         rw [i64_of (n := (j : Int) + 1) (by omega) (by omega)]; rfl)
    | (obtain rfl : j = (K.mapOf h.args).length := (by
         have h9 : decide ((j : Int) < ((K.mapOf h.args).length : Int)) = false := (by assumption)
         have h8 := of_decide_eq_false h9
         omega)
       rw [K.upto_all (fun k => decide (k ≤ 4))] at he
       rw [K.answers_2 h2 he]
       simp_all
       done)
noncomputable def k_ranswer : List SV → List Blk → Res := fun args M => match topA eltB M args with
  | some (b, [.agg v0]) => .test b (.test (cH.is v0) (.test ((decide ((cH.dec v0).args.length ≤ 1099511627776) && decide ((K.mapOf (cH.dec v0).args).length ≤ 1099511627776))) (.ok (.bool (K.answers (cH.dec v0))) [])))
  | _ => .fail
theorem k_ranswer_ok : CtrOk Try.prog Gw 44 k_ranswer := by
  refine ⟨fun _ _ => by kernel_rfl, fun args M => ?_⟩
  unfold k_ranswer
  split
  · rename_i b v0 hv
    intro hb hi hw
    exact ctr_top (Γ := ⟨[(73, k_rMaps), (39, k_within)], eqs, [], [], [], mixs, meqs, []⟩) st_Gw ⟨(okCons k_rMaps_ok (okCons k_within_ok okNil)), eqs_ok, okNilB, okNilI, okNilP, mixs_ok, meqs_ok, okNilY⟩ Try.func44 rfl mixed [] (by kernel_rfl) 10000 [.agg (celH (cH.dec v0))] hv hb ⟨Cel.is_dec (hi), trivial⟩ rfl (ranswer_run (cH.dec v0) hw)
  · trivial
end Go.Proofs.Ytnbcemeofhaogaa
