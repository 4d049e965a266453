import Derived.Test.YtnbcemeofhaogaaRB
import Derived.Test.YtnbcemeofhaogaaRC
import Derived.Test.YtnbcemeofhaogaaRD
import Derived.Test.YtnbcemeofhaogaaZQ
import Derived.Test.YtnbcemeofhaogaaXI
import Derived.Test.YtnbcemeofhaogaaWD
namespace Go.Proofs.Ytnbcemeofhaogaa
open Go.RowKit Go.Sx
set_option linter.unusedSimpArgs false
set_option linter.unusedVariables false
set_option linter.unnecessarySimpa false
set_option maxRecDepth 100000
set_option maxHeartbeats 4000000
theorem rhelper_run (h : Hp) (hw : (h.atMost 1099511627776) = true) : run Try.prog ⟨[(40, k_rnumber), (41, k_rversion), (42, k_rsort), (43, k_rmapped), (44, k_ranswer), (13, k_rown), (9, k_shelp)], eqs, [], [], [], mixs, meqs, []⟩ 10000 [] 0 (bodyOf Try.f18) (initF Try.f18 [.agg [.int .i64 h.id, .int .i64 h.mj, .int .i64 h.mn, .int .u8 h.core, .sl 0 4 0 h.args.length, .int .u8 h.rk, .int .i64 h.rlo, .int .i64 h.rhi, .int .i64 h.rsz]]) [.ro 4 h.args.length (cA.g h.args)] (retK Try.prog Try.f18 (fun x _ => eqv x (.int .i64 (K.helper h)))) := by
  have hlen := Hp.atMost_len hw
  have hall := Hp.atMost_all hw
  (conv => whnf)
  (repeat' (first | (refine step_t (by first | rfl | assumption) ?_; (conv => whnf)) | (refine step_f (by first | rfl | assumption) ?_; (conv => whnf)) | (refine step_nt (by assumption) ?_; (conv => whnf)) | (refine step_nf (by assumption) ?_; (conv => whnf)) | (refine step_n (fun hb => ?_) (fun hb => ?_) <;> (first | contradiction | (conv => whnf))) | (refine And.intro (fun hb => ?_) (fun hb => ?_) <;> (first | contradiction | (conv => whnf))) | (refine And.intro (a := (_ : Bool) = true) ?_ ?_; rotate_left 1; (conv => whnf))))
  all_goals try (
    refine .inr ⟨[], [1, 3], fun k vals M => ∃ j : Nat, j ≤ h.args.length ∧ k = h.args.length - j ∧ K.firstE (K.argE h.args) (h.args.length - j) j = K.firstE (K.argE h.args) h.args.length 0 ∧ vals = [.ptr 1 0, .int .i64 (j : Int)] ∧ M = [.ro 4 h.args.length (cA.g h.args), .cells 29 [.int .i64 h.id, .int .i64 h.mj, .int .i64 h.mn, .int .u8 h.core, .sl 0 4 0 h.args.length, .int .u8 h.rk, .int .i64 h.rlo, .int .i64 h.rhi, .int .i64 h.rsz]], ?_⟩
    conv => whnf
    refine And.intro ⟨h.args.length, [.ro 4 h.args.length (cA.g h.args), .cells 29 [.int .i64 h.id, .int .i64 h.mj, .int .i64 h.mn, .int .u8 h.core, .sl 0 4 0 h.args.length, .int .u8 h.rk, .int .i64 h.rlo, .int .i64 h.rhi, .int .i64 h.rsz]], (mle_cons ble_refl (mle_cons ble_refl mle_nil)), rfl, rfl, 0, by omega, by omega, rfl, rfl, rfl⟩ ?_
    rintro k vals M1 ⟨j, hj, rfl, he, rfl, rfl⟩
    (conv => whnf)
    (repeat' (first | (refine step_t (by first | rfl | assumption) ?_; (conv => whnf)) | (refine step_f (by first | rfl | assumption) ?_; (conv => whnf)) | (refine step_nt (by assumption) ?_; (conv => whnf)) | (refine step_nf (by assumption) ?_; (conv => whnf)) | (refine step_n (fun hb => ?_) (fun hb => ?_) <;> (first | contradiction | (conv => whnf))) | (refine And.intro (fun hb => ?_) (fun hb => ?_) <;> (first | contradiction | (conv => whnf))) | (refine And.intro (a := (_ : Bool) = true) ?_ ?_; rotate_left 1; (conv => whnf)))))
  · exact ⟨rfl, (K.helper_n hb).symm⟩
  · exact ⟨rfl, (K.helper_v hb).symm⟩
  · exact ⟨rfl, (K.helper_l (by assumption) (by assumption) (by simp only [decide_eq_true_eq] at hb; omega)).symm⟩
  all_goals (have h1 : K.numbered h.id = true := (by assumption); have h2 : K.versioned h.mj h.mn = true := (by assumption))
  all_goals (have h5 : ¬ 5 < h.args.length := (by
    have h9 : decide ((5 : Int) < (h.args.length : Int)) = false := (by assumption)
    have h8 := of_decide_eq_false h9
    omega))
  all_goals try (have hlt : j < h.args.length := (by
    have h9 : decide ((j : Int) < (h.args.length : Int)) = true := (by assumption)
    have h8 := of_decide_eq_true h9
    omega)
                 have b2 : (K.mapOf (h.args.take j)).length ≤ 1099511627776 := K.mapOf_len (K.all_take hall j)
                 have b3 : (h.args.getD j cA.dft).maps.length ≤ 1099511627776 := Ag.atMost_len (all_getD hall hlt _))
  all_goals try (simp only [isLA, decLA, isH_mk, decH_mk, isH_at, decH_at, Int.toNat_natCast, Nat.zero_add] at *)
  all_goals try (have hjl : j = h.args.length := (by
    have h9 : decide ((j : Int) < (h.args.length : Int)) = false := (by assumption)
    have h8 := of_decide_eq_false h9
    omega)
                 subst j
                 rw [K.firstE_end] at he
                 have he2 := he.symm
                 clear he)
  all_goals first
  | (simp; done)
  | exact decide_eq_true hlt
  | (simp only [b2, b3, hlen, hlt, decide_true, Bool.and_self, Bool.and_true, Bool.true_and]; exact decide_eq_true (by omega))
  | (simp only [b2, b3, hlen, hlt, decide_true, Bool.and_self, Bool.and_true, Bool.true_and, Bool.and_eq_true, decide_eq_true_eq]; omega)
  | exact K.own_short _ (by decide) _
  | (show (decide ((K.own h.core).args.length ≤ 1099511627776) && (K.own h.core).args.all (Ag.atMost 1099511627776)) = true
     exact K.own_short 1099511627776 (by decide) h.core)
  | (rw [Bool.and_eq_true]; exact ⟨decide_eq_true hlen, decide_eq_true (K.mapOf_len hall)⟩)
  | (have ha : K.argE h.args j = 31 := K.argE_31 (by assumption)
     have hx := K.helper_e h1 h2 h5 (he.symm.trans ((K.firstE_at hlt (by rw [ha]; decide)).trans ha)) (by decide)
     exact ⟨by trivial, hx.symm⟩)
  | (have hs : K.sorted (h.args.take j) (h.args.getD j cA.dft) (h.args.drop (j + 1)) = true := (by assumption)
     have ha : K.argE h.args j = 35 := K.argE_35 hs (by assumption)
     have hx := K.helper_e h1 h2 h5 (he.symm.trans ((K.firstE_at hlt (by rw [ha]; decide)).trans ha)) (by decide)
     exact ⟨by trivial, hx.symm⟩)
  | (have hs : K.sorted (h.args.take j) (h.args.getD j cA.dft) (h.args.drop (j + 1)) = true := (by assumption)
     have ha : K.argE h.args j = 0 := K.argE_0 hs (by assumption)
     refine ⟨h.args.length - (j + 1), [.ro 4 h.args.length (cA.g h.args), .cells 29 [.int .i64 h.id, .int .i64 h.mj, .int .i64 h.mn, .int .u8 h.core, .sl 0 4 0 h.args.length, .int .u8 h.rk, .int .i64 h.rlo, .int .i64 h.rhi, .int .i64 h.rsz]], [0, 1], by omega, rfl, (mle_cons ble_refl (mle_cons ble_refl mle_nil)), rfl, rfl, j + 1, by omega, rfl, ?_, ?_, rfl⟩
     · rw [K.firstE_go hlt ha]; exact he
     · show ([.ptr 1 0, .int .i64 (IntKind.i64.wrap ((j : Int) + 1))] : List SV) = _
       rw [i64_of (n := (j : Int) + 1) (by omega) (by omega)]; rfl)
  | exact ⟨by trivial, (K.helper_36 h1 h2 h5 he2 (by assumption)).symm⟩
  | exact ⟨by trivial, (K.helper_0 h1 h2 h5 he2 (by assumption) (by assumption)).symm⟩
  | exact ⟨by trivial, (K.helper_9a h1 h2 h5 he2 (by assumption) (by assumption) (by assumption)).symm⟩
  | exact ⟨by trivial, (K.helper_9s h1 h2 h5 he2 (by assumption) (by assumption) (by assumption) (by assumption)).symm⟩
  | exact ⟨by trivial, (K.helper_0s h1 h2 h5 he2 (by assumption) (by assumption) (by assumption) (by assumption)).symm⟩
noncomputable def k_rhelper : List SV → List Blk → Res := fun args M => match topA eltB M args with
  | some (b, [.agg v0]) => .test b (.test (cH.is v0) (.test ((cH.dec v0).atMost 1099511627776) (.ok (.int .i64 (K.helper (cH.dec v0))) [])))
  | _ => .fail
theorem k_rhelper_ok : CtrOk Try.prog Gw 18 k_rhelper := by
  refine ⟨fun _ _ => by kernel_rfl, fun args M => ?_⟩
  unfold k_rhelper
  split
  · rename_i b v0 hv
    intro hb hi hw
    exact ctr_top (Γ := ⟨[(40, k_rnumber), (41, k_rversion), (42, k_rsort), (43, k_rmapped), (44, k_ranswer), (13, k_rown), (9, k_shelp)], eqs, [], [], [], mixs, meqs, []⟩) st_Gw ⟨(okCons k_rnumber_ok (okCons k_rversion_ok (okCons k_rsort_ok (okCons k_rmapped_ok (okCons k_ranswer_ok (okCons k_rown_ok (okCons k_shelp_ok okNil))))))), eqs_ok, okNilB, okNilI, okNilP, mixs_ok, meqs_ok, okNilY⟩ Try.func18 rfl mixed [] (by kernel_rfl) 10000 [.agg (celH (cH.dec v0))] hv hb ⟨Cel.is_dec (hi), trivial⟩ rfl (rhelper_run (cH.dec v0) hw)
  · trivial
end Go.Proofs.Ytnbcemeofhaogaa
