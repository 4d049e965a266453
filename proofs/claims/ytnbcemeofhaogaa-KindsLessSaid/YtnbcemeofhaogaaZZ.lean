import Derived.Test.YtnbcemeofhaogaaZY
import Derived.Test.YtnbcemeofhaogaaZV
import Derived.Test.YtnbcemeofhaogaaZW
import Derived.Test.YtnbcemeofhaogaaZP
import Derived.Test.YtnbcemeofhaogaaZM
namespace Go.Proofs.Ytnbcemeofhaogaa
open Go.RowKit Go.Sx
set_option linter.unusedSimpArgs false
set_option linter.unusedVariables false
set_option linter.unnecessarySimpa false
set_option maxRecDepth 100000
set_option maxHeartbeats 4000000
theorem isH_at (h : Hp) : cH.is [.int .i64 h.id, .int .i64 h.mj, .int .i64 h.mn, .int .u8 h.core, .row 4 h.args.length (shiftG 0 (cA.g h.args)), .int .u8 h.rk, .int .i64 h.rlo, .int .i64 h.rhi, .int .i64 h.rsz] = true := Cel.is_of (a := h) (FVEqL.refl _)
theorem decH_at (h : Hp) : cH.dec [.int .i64 h.id, .int .i64 h.mj, .int .i64 h.mn, .int .u8 h.core, .row 4 h.args.length (shiftG 0 (cA.g h.args)), .int .u8 h.rk, .int .i64 h.rlo, .int .i64 h.rhi, .int .i64 h.rsz] = h := Cel.dec_of (c := cH) (a := h) (FVEqL.refl _)
theorem helper_run (h : Hp) (hw : (h.atMost 1099511627776) = true) : run Try.prog ⟨[(25, k_numbered), (26, k_versioned), (28, k_sorted), (29, k_mapped), (30, k_answers), (8, k_own), (31, k_eqargs)], eqs, [], [(27, Try.f27, []), (60, Try.f60, [(3, 5, [0, 0, 0, 6, 0, 31, 63])])], [], mixs, meqs, []⟩ 10000 [(9, 8, [0, 0, 0, 4, 0, 16, 48, 124, 255, 511, 1023])] 0 (bodyOf Try.f11) (initF Try.f11 [.agg [.int .i64 h.id, .int .i64 h.mj, .int .i64 h.mn, .int .u8 h.core, .sl 0 4 0 h.args.length, .int .u8 h.rk, .int .i64 h.rlo, .int .i64 h.rhi, .int .i64 h.rsz]]) [.ro 4 h.args.length (cA.g h.args)] (retK Try.prog Try.f11 (fun x _ => eqv x (.int .i64 (K.helper h)))) := by
  have hlen := Hp.atMost_len hw
  have hall := Hp.atMost_all hw
  (conv => whnf)
  (repeat' (first | (refine step_t (by first | rfl | assumption) ?_; (conv => whnf)) | (refine step_f (by first | rfl | assumption) ?_; (conv => whnf)) | (refine step_nt (by assumption) ?_; (conv => whnf)) | (refine step_nf (by assumption) ?_; (conv => whnf)) | (refine step_n (fun hb => ?_) (fun hb => ?_) <;> (first | contradiction | (conv => whnf))) | (refine And.intro (fun hb => ?_) (fun hb => ?_) <;> (first | contradiction | (conv => whnf))) | (refine And.intro (a := (_ : Bool) = true) ?_ ?_; rotate_left 1; (conv => whnf))))
  all_goals try (refine .inr ⟨[], [0, 1, 5, 6, 7], fun k vals M => ∃ j : Nat, j ≤ h.args.length ∧ k = h.args.length - j ∧ K.firstE (K.argE h.args) (h.args.length - j) j = K.firstE (K.argE h.args) h.args.length 0 ∧ vals = [.yld 4, .ptr 3 0, .sl 0 4 0 h.args.length, .int .i64 (h.args.length : Int), .int .i64 (j : Int)] ∧ M = [.ro 4 h.args.length (cA.g h.args), .cells 29 [.int .i64 h.id, .int .i64 h.mj, .int .i64 h.mn, .int .u8 h.core, .sl 0 4 0 h.args.length, .int .u8 h.rk, .int .i64 h.rlo, .int .i64 h.rhi, .int .i64 h.rsz], .cells 34 [.int .i64 0], .cells 24 [.sl 0 4 0 h.args.length], lpOf [(9, 8, [0, 0, 0, 4, 0, 16, 48, 124, 255, 511, 1023])] (bodyOf Try.f11) (mkFrom [(0, .agg [.int .i64 h.id, .int .i64 h.mj, .int .i64 h.mn, .int .u8 h.core, .sl 0 4 0 h.args.length, .int .u8 h.rk, .int .i64 h.rlo, .int .i64 h.rhi, .int .i64 h.rsz]), (1, .ptr 1 0), (2, .ptr 2 0), (7, .bool (!(K.versioned h.mj h.mn))), (8, .ptr 1 0), (9, .int .i64 h.id), (10, .bool (K.numbered h.id)), (11, .bool (!(K.numbered h.id))), (12, .ptr 1 1), (13, .int .i64 h.mj), (14, .ptr 1 2), (15, .int .i64 h.mn), (16, .bool (K.versioned h.mj h.mn)), (17, .bool (!(K.versioned h.mj h.mn))), (18, .bool (decide ((5 : Int) < (h.args.length : Int)))), (19, .ptr 1 4), (20, .sl 0 4 0 h.args.length), (21, .int .i64 (h.args.length : Int)), (22, .bool (decide ((5 : Int) < (h.args.length : Int)))), (23, .ptr 1 4), (24, .sl 0 4 0 h.args.length), (25, .fn (.func 60) [] [.ptr 3 0])] (fun _ => .tup []) 75 0)], ?_⟩
                 conv => whnf
                 refine And.intro ⟨h.args.length, [.ro 4 h.args.length (cA.g h.args), .cells 29 [.int .i64 h.id, .int .i64 h.mj, .int .i64 h.mn, .int .u8 h.core, .sl 0 4 0 h.args.length, .int .u8 h.rk, .int .i64 h.rlo, .int .i64 h.rhi, .int .i64 h.rsz], .cells 34 [.int .i64 0], .cells 24 [.sl 0 4 0 h.args.length], lpOf [(9, 8, [0, 0, 0, 4, 0, 16, 48, 124, 255, 511, 1023])] (bodyOf Try.f11) (mkFrom [(0, .agg [.int .i64 h.id, .int .i64 h.mj, .int .i64 h.mn, .int .u8 h.core, .sl 0 4 0 h.args.length, .int .u8 h.rk, .int .i64 h.rlo, .int .i64 h.rhi, .int .i64 h.rsz]), (1, .ptr 1 0), (2, .ptr 2 0), (7, .bool (!(K.versioned h.mj h.mn))), (8, .ptr 1 0), (9, .int .i64 h.id), (10, .bool (K.numbered h.id)), (11, .bool (!(K.numbered h.id))), (12, .ptr 1 1), (13, .int .i64 h.mj), (14, .ptr 1 2), (15, .int .i64 h.mn), (16, .bool (K.versioned h.mj h.mn)), (17, .bool (!(K.versioned h.mj h.mn))), (18, .bool (decide ((5 : Int) < (h.args.length : Int)))), (19, .ptr 1 4), (20, .sl 0 4 0 h.args.length), (21, .int .i64 (h.args.length : Int)), (22, .bool (decide ((5 : Int) < (h.args.length : Int)))), (23, .ptr 1 4), (24, .sl 0 4 0 h.args.length), (25, .fn (.func 60) [] [.ptr 3 0])] (fun _ => .tup []) 75 0)], (mle_cons ble_refl (mle_cons ble_refl (mle_cons ble_refl (mle_cons ble_refl (mle_cons ble_refl mle_nil))))), rfl, rfl, 0, by omega, by omega, rfl, rfl, rfl⟩ ?_
                 rintro k vals M1 ⟨j, hj, rfl, he, rfl, rfl⟩
                 (conv => whnf)
                 (repeat' (first | (refine step_t (by first | rfl | assumption) ?_; (conv => whnf)) | (refine step_f (by first | rfl | assumption) ?_; (conv => whnf)) | (refine step_nt (by assumption) ?_; (conv => whnf)) | (refine step_nf (by assumption) ?_; (conv => whnf)) | (refine step_n (fun hb => ?_) (fun hb => ?_) <;> (first | contradiction | (conv => whnf))) | (refine And.intro (fun hb => ?_) (fun hb => ?_) <;> (first | contradiction | (conv => whnf))) | (refine And.intro (a := (_ : Bool) = true) ?_ ?_; rotate_left 1; (conv => whnf)))))
  · exact ⟨rfl, (K.helper_n hb).symm⟩
  · exact ⟨rfl, (K.helper_v hb).symm⟩
  · exact ⟨rfl, (K.helper_l (by assumption) (by assumption) (by simp only [decide_eq_true_eq] at hb; omega)).symm⟩
  all_goals (have h1 : K.numbered h.id = true := (by assumption); have h2 : K.versioned h.mj h.mn = true := (by assumption))
  all_goals try (have hlt : j < h.args.length := (by
    have h9 : decide ((j : Int) < (h.args.length : Int)) = true := (by assumption)
    have h8 := of_decide_eq_true h9
    omega)
                 have hp0 : 0 < h.args.length := (by omega)
                 have hw1 : IntKind.i64.wrap ((((j : Int).toNat - 0 : Nat) : Int) + 1) = ((j + 1 : Nat) : Int) := (by rw [i64_of (by omega) (by omega)]; omega)
                 have e1 : cA.isR 4 (.row 4 j (shiftG 0 (cA.g h.args))) = true := Cel.isR_part (by omega)
                 have e2 : cA.decR 4 (.row 4 j (shiftG 0 (cA.g h.args))) = h.args.take j := (by rw [Cel.decR_part (by omega), List.drop_zero])
                 have e3 : cA.isR 4 (.row 4 (h.args.length - (j + 1)) (shiftG (j + 1) (cA.g h.args))) = true := Cel.isR_part (by omega)
                 have e4 : cA.decR 4 (.row 4 (h.args.length - (j + 1)) (shiftG (j + 1) (cA.g h.args))) = h.args.drop (j + 1) := (by rw [Cel.decR_part (by omega), List.take_of_length_le (by simp)])
                 simp only [hw1, Int.toNat_natCast, Nat.sub_zero, Nat.zero_add, e1, e2, e3, e4, isR_0, decR_0, isA_at, decA_at] at *)
  all_goals try (have hw2 : IntKind.i64.wrap ((j : Int) + 1) = ((j + 1 : Nat) : Int) := (by rw [i64_of (by omega) (by omega)]; omega)
                 have f3 : cA.isR 4 (.row 4 (h.args.length - (j + 1)) (shiftG (j + 1) (cA.g h.args))) = true := Cel.isR_part (by omega)
                 have f4 : cA.decR 4 (.row 4 (h.args.length - (j + 1)) (shiftG (j + 1) (cA.g h.args))) = h.args.drop (j + 1) := (by rw [Cel.decR_part (by omega), List.take_of_length_le (by simp)])
                 simp only [hw2, Int.toNat_natCast, f3, f4] at *)
  all_goals (have h5 : ¬ 5 < h.args.length := (by
    have h9 : decide ((5 : Int) < (h.args.length : Int)) = false := (by assumption)
    have h8 := of_decide_eq_false h9
    omega))
  all_goals try (have b1 : (h.args.take j).length ≤ 1099511627776 := (by rw [List.length_take]; omega)
                 have b2 : (K.mapOf (h.args.take j)).length ≤ 1099511627776 := K.mapOf_len (K.all_take hall j)
                 have b3 : (h.args.getD j cA.dft).maps.length ≤ 1099511627776 := Ag.atMost_len (all_getD hall hlt _)
                 have b4 : (h.args.drop (j + 1)).length ≤ 1099511627776 := (by rw [List.length_drop]; omega))
  all_goals try (have hjl : j = h.args.length := (by
    have h9 : decide ((j : Int) < (h.args.length : Int)) = false := (by assumption)
    have h8 := of_decide_eq_false h9
    omega)
                 subst j
                 rw [K.firstE_end] at he
                 have he := he.symm
                 try simp only [isH_at, decH_at, isLA, decLA, Int.toNat_natCast] at *)
  all_goals first
  | (have h7 : decide (0 < h.args.length) = false := (by assumption)
     have h8 := of_decide_eq_false h7
     exfalso
     omega)
  | (simp; done)
  | (simp only [b1, b2, b3, b4, decide_true, Bool.and_self]; done)
  | (simp only [b1, b2, b3, b4, decide_true, Bool.and_self, List.length_nil, Nat.zero_le, K.mapOf]; done)
  | (simp [b1, b2, b3, b4]; omega)
  | (simp; omega)
  | exact decide_eq_true hlt
  | (rw [Bool.and_eq_true]; exact ⟨decide_eq_true (by omega), decide_eq_true hlt⟩)
  | (have ha : K.argE h.args j = 31 := K.argE_31 (by assumption)
     have hx := K.helper_e h1 h2 h5 (he.symm.trans ((K.firstE_at hlt (by rw [ha]; decide)).trans ha)) (by decide)
     exact ⟨trivial, hx.symm⟩)
  | (have e7 : h.args.drop (j + 1) = [] := List.drop_eq_nil_of_le (by
       have h9 : decide (j + 1 < h.args.length) = false := (by assumption)
       have h8 := of_decide_eq_false h9
       omega)
     have ha : K.argE h.args j = 31 := K.argE_31 (by rw [e7]; assumption)
     have hx := K.helper_e h1 h2 h5 (he.symm.trans ((K.firstE_at hlt (by rw [ha]; decide)).trans ha)) (by decide)
     exact ⟨trivial, hx.symm⟩)
  | (have hs : K.sorted (h.args.take j) (h.args.getD j cA.dft) (h.args.drop (j + 1)) = true := (by assumption)
     have ha : K.argE h.args j = 35 := K.argE_35 hs (by assumption)
     have hx := K.helper_e h1 h2 h5 (he.symm.trans ((K.firstE_at hlt (by rw [ha]; decide)).trans ha)) (by decide)
     exact ⟨trivial, hx.symm⟩)
  | (have e7 : h.args.drop (j + 1) = [] := List.drop_eq_nil_of_le (by
       have h9 : decide (j + 1 < h.args.length) = false := (by assumption)
       have h8 := of_decide_eq_false h9
       omega)
     have hs : K.sorted (h.args.take j) (h.args.getD j cA.dft) [] = true := (by assumption)
     have ha : K.argE h.args j = 35 := K.argE_35 (by rw [e7]; exact hs) (by assumption)
     have hx := K.helper_e h1 h2 h5 (he.symm.trans ((K.firstE_at hlt (by rw [ha]; decide)).trans ha)) (by decide)
     exact ⟨trivial, hx.symm⟩)
  | (have hs : K.sorted (h.args.take j) (h.args.getD j cA.dft) (h.args.drop (j + 1)) = true := (by assumption)
     have ha : K.argE h.args j = 0 := K.argE_0 hs (by assumption)
     refine ⟨h.args.length - (j + 1), [.ro 4 h.args.length (cA.g h.args), .cells 29 [.int .i64 h.id, .int .i64 h.mj, .int .i64 h.mn, .int .u8 h.core, .sl 0 4 0 h.args.length, .int .u8 h.rk, .int .i64 h.rlo, .int .i64 h.rhi, .int .i64 h.rsz], .cells 34 [.int .i64 0], .cells 24 [.sl 0 4 0 h.args.length], lpOf [(9, 8, [0, 0, 0, 4, 0, 16, 48, 124, 255, 511, 1023])] (bodyOf Try.f11) (mkFrom [(0, .agg [.int .i64 h.id, .int .i64 h.mj, .int .i64 h.mn, .int .u8 h.core, .sl 0 4 0 h.args.length, .int .u8 h.rk, .int .i64 h.rlo, .int .i64 h.rhi, .int .i64 h.rsz]), (1, .ptr 1 0), (2, .ptr 2 0), (7, .bool (!(K.versioned h.mj h.mn))), (8, .ptr 1 0), (9, .int .i64 h.id), (10, .bool (K.numbered h.id)), (11, .bool (!(K.numbered h.id))), (12, .ptr 1 1), (13, .int .i64 h.mj), (14, .ptr 1 2), (15, .int .i64 h.mn), (16, .bool (K.versioned h.mj h.mn)), (17, .bool (!(K.versioned h.mj h.mn))), (18, .bool (decide ((5 : Int) < (h.args.length : Int)))), (19, .ptr 1 4), (20, .sl 0 4 0 h.args.length), (21, .int .i64 (h.args.length : Int)), (22, .bool (decide ((5 : Int) < (h.args.length : Int)))), (23, .ptr 1 4), (24, .sl 0 4 0 h.args.length), (25, .fn (.func 60) [] [.ptr 3 0])] (fun _ => .tup []) 75 0)], [0, 1, 2, 3, 4], by omega, rfl, (mle_cons ble_refl (mle_cons ble_refl (mle_cons ble_refl (mle_cons ble_refl (mle_cons ble_refl mle_nil))))), rfl, rfl, j + 1, by omega, rfl, ?_, ?_, rfl⟩
     · rw [K.firstE_go hlt ha]; exact he
     · first
       | rfl
       | (show [SV.yld 4, .ptr 3 0, .sl 0 4 0 h.args.length, .int .i64 (h.args.length : Int), .int .i64 (IntKind.i64.wrap ((j : Int) + 1))] = _
          rw [i64_of (n := (j : Int) + 1) (by omega) (by omega)]; rfl))
  | (have e7 : h.args.drop (j + 1) = [] := List.drop_eq_nil_of_le (by
       have h9 : decide (j + 1 < h.args.length) = false := (by assumption)
       have h8 := of_decide_eq_false h9
       omega)
     have hs : K.sorted (h.args.take j) (h.args.getD j cA.dft) [] = true := (by assumption)
     have ha : K.argE h.args j = 0 := K.argE_0 (by rw [e7]; exact hs) (by assumption)
     refine ⟨h.args.length - (j + 1), [.ro 4 h.args.length (cA.g h.args), .cells 29 [.int .i64 h.id, .int .i64 h.mj, .int .i64 h.mn, .int .u8 h.core, .sl 0 4 0 h.args.length, .int .u8 h.rk, .int .i64 h.rlo, .int .i64 h.rhi, .int .i64 h.rsz], .cells 34 [.int .i64 0], .cells 24 [.sl 0 4 0 h.args.length], lpOf [(9, 8, [0, 0, 0, 4, 0, 16, 48, 124, 255, 511, 1023])] (bodyOf Try.f11) (mkFrom [(0, .agg [.int .i64 h.id, .int .i64 h.mj, .int .i64 h.mn, .int .u8 h.core, .sl 0 4 0 h.args.length, .int .u8 h.rk, .int .i64 h.rlo, .int .i64 h.rhi, .int .i64 h.rsz]), (1, .ptr 1 0), (2, .ptr 2 0), (7, .bool (!(K.versioned h.mj h.mn))), (8, .ptr 1 0), (9, .int .i64 h.id), (10, .bool (K.numbered h.id)), (11, .bool (!(K.numbered h.id))), (12, .ptr 1 1), (13, .int .i64 h.mj), (14, .ptr 1 2), (15, .int .i64 h.mn), (16, .bool (K.versioned h.mj h.mn)), (17, .bool (!(K.versioned h.mj h.mn))), (18, .bool (decide ((5 : Int) < (h.args.length : Int)))), (19, .ptr 1 4), (20, .sl 0 4 0 h.args.length), (21, .int .i64 (h.args.length : Int)), (22, .bool (decide ((5 : Int) < (h.args.length : Int)))), (23, .ptr 1 4), (24, .sl 0 4 0 h.args.length), (25, .fn (.func 60) [] [.ptr 3 0])] (fun _ => .tup []) 75 0)], [0, 1, 2, 3, 4], by omega, rfl, (mle_cons ble_refl (mle_cons ble_refl (mle_cons ble_refl (mle_cons ble_refl (mle_cons ble_refl mle_nil))))), rfl, rfl, j + 1, by omega, rfl, ?_, ?_, rfl⟩
     · rw [K.firstE_go hlt ha]; exact he
     · first
       | rfl
       | (show [SV.yld 4, .ptr 3 0, .sl 0 4 0 h.args.length, .int .i64 (h.args.length : Int), .int .i64 (IntKind.i64.wrap ((j : Int) + 1))] = _
          rw [i64_of (n := (j : Int) + 1) (by omega) (by omega)]; rfl))
  | (rw [K.helper_at h1 h2 h5 he, if_pos hb]; exact ⟨rfl, rfl⟩)
  | (rw [Bool.and_eq_true]; exact ⟨decide_eq_true (Hp.atMost_len (K.own_short _ (by decide) _)), Hp.atMost_all (K.own_short _ (by decide) _)⟩)
  | (rw [Bool.and_eq_true]; exact ⟨decide_eq_true hlen, decide_eq_true (K.mapOf_len hall)⟩)
  | exact ⟨trivial, (K.helper_36 h1 h2 h5 he (by assumption)).symm⟩
  | exact ⟨trivial, (K.helper_0 h1 h2 h5 he (by assumption) (by assumption)).symm⟩
  | exact ⟨trivial, (K.helper_9a h1 h2 h5 he (by assumption) (by assumption) (by assumption)).symm⟩
  | exact ⟨trivial, (K.helper_9b h1 h2 h5 he (by assumption) (by assumption) (by assumption)).symm⟩
  | exact ⟨trivial, (K.helper_9c h1 h2 h5 he (by assumption) (by assumption) (by assumption)).symm⟩
  | exact ⟨trivial, (K.helper_ok h1 h2 h5 he (by assumption) (by assumption) (by assumption) (by assumption) (by assumption)).symm⟩
noncomputable def k_helper : List SV → List Blk → Res := fun args M => match topA eltB M args with
  | some (b, [.agg v0]) => .test b (.test (cH.is v0) (.test ((cH.dec v0).atMost 1099511627776) (.ok (.int .i64 (K.helper (cH.dec v0))) [])))
  | _ => .fail
theorem k_helper_ok : CtrOk Try.prog Gw 11 k_helper := by
  refine ⟨fun _ _ => by kernel_rfl, fun args M => ?_⟩
  unfold k_helper
  split
  · rename_i b v0 hv
    intro hb hi hw
    exact ctr_top (Γ := ⟨[(25, k_numbered), (26, k_versioned), (28, k_sorted), (29, k_mapped), (30, k_answers), (8, k_own), (31, k_eqargs)], eqs, [], [(27, Try.f27, []), (60, Try.f60, [(3, 5, [0, 0, 0, 6, 0, 31, 63])])], [], mixs, meqs, []⟩) st_Gw ⟨(okCons k_numbered_ok (okCons k_versioned_ok (okCons k_sorted_ok (okCons k_mapped_ok (okCons k_answers_ok (okCons k_own_ok (okCons k_eqargs_ok okNil))))))), eqs_ok, okNilB, (okConsI Try.func27 rfl (by kernel_rfl) (fun _ _ => by kernel_rfl) (okConsI Try.func60 rfl (by kernel_rfl) (fun _ _ => by kernel_rfl) okNilI)), okNilP, mixs_ok, meqs_ok, okNilY⟩ Try.func11 rfl mixed [(9, 8, [0, 0, 0, 4, 0, 16, 48, 124, 255, 511, 1023])] (by kernel_rfl) 10000 [.agg (celH (cH.dec v0))] hv hb ⟨Cel.is_dec (hi), trivial⟩ rfl (helper_run (cH.dec v0) hw)
  · trivial
end Go.Proofs.Ytnbcemeofhaogaa
