import Derived.Test.YtldlbkkcjphjoaaXG
namespace Go.Proofs.Ytldlbkkcjphjoaa
open Go.RowKit Go.Sx
set_option linter.unusedSimpArgs false
set_option linter.unusedVariables false
set_option linter.unnecessarySimpa false
set_option maxRecDepth 100000
set_option maxHeartbeats 4000000
theorem clb_run (L : List Int) (hL : L.length ≤ 1099511627776) : run Try.prog ⟨[], eqs, [], [], [], mixs, meqs, []⟩ 10000 [] 0 (bodyOf Try.f20) (initF Try.f20 [.sl 0 1 0 L.length]) [.ro 1 L.length (cB.g L)] (retK Try.prog Try.f20 (TellsC false [.one (.row 1 L.length (cB.g L))])) := by
  have hby : Try.prog.types[63].bytes = 1 := by kernel_rfl
  (conv => whnf)
  (repeat' (first | (refine And.intro (fun hb => ?_) (fun hb => ?_) <;> (first | contradiction | (conv => whnf))) | (refine And.intro ?_ ?_; rotate_left 1; (conv => whnf))))
  all_goals first
  | rfl
  | exact decide_eq_true (by omega)
  | (refine decide_eq_true ?_; rw [hby]; omega)
  | (refine ⟨[_], _, _, rfl, .inr rfl, rfl, ?_, ?_⟩
     · simp
     · exact avcons (Cel.row_of (c := cB) (by omega) fun i hi => by simp only [shiftG, gApp, Nat.not_lt_zero, decide_false, Nat.sub_zero, Nat.zero_add]; exact FVEqL.refl _) (AVEqL.refl []))
  | (have h0 : L.length = 0 := by
       have := of_decide_eq_false (by assumption : decide (0 < L.length) = false)
       omega
     obtain rfl := List.eq_nil_of_length_eq_zero h0
     exact ⟨[.val (.slice none 0 0)], _, _, rfl, .inr rfl, rfl, rfl, avcons FVEq.nil (AVEqL.refl [])⟩)

noncomputable def k_clb : List SV → List Blk → Res := fun args M => match topA eltB M args with
  | some (b, [.one x]) => .test b (.test (cB.isR 1 x) (.test (decide ((cB.decR 1 x).length ≤ 1099511627776)) (.ok (outA false (namA true M.length [.one (.row 1 (cB.decR 1 x).length (cB.g (cB.decR 1 x)))]).1) (namA true M.length [.one (.row 1 (cB.decR 1 x).length (cB.g (cB.decR 1 x)))]).2)))
  | _ => .fail
theorem k_clb_ok : CtrOk Try.prog Gw 20 k_clb := by
  refine ⟨fun _ _ => by kernel_rfl, fun args M => ?_⟩
  unfold k_clb
  split
  · rename_i b x hv
    intro hb hi hl
    exact ctr_topc (Γ := ⟨[], eqs, [], [], [], mixs, meqs, []⟩) st_Gw ⟨okNil, eqs_ok, okNilB, okNilI, okNilP, mixs_ok, meqs_ok, okNilY⟩ Try.func20 rfl mixed [] (by kernel_rfl) 10000 [.one (.row 1 (cB.decR 1 x).length (cB.g (cB.decR 1 x)))] hv hb (avcons (Cel.isR_dec hi) (AVEqL.refl [])) rfl false _ (clb_run _ (of_decide_eq_true hl))
  · trivial
theorem cla_run (L : List Ag) (hL : L.length ≤ 1099511627776) : run Try.prog ⟨[], eqs, [], [], [], mixs, meqs, []⟩ 10000 [] 0 (bodyOf Try.f19) (initF Try.f19 [.sl 0 4 0 L.length]) [.ro 4 L.length (cA.g L)] (retK Try.prog Try.f19 (TellsC false [.one (.row 4 L.length (cA.g L))])) := by
  have hby : Try.prog.types[51].bytes = 48 := by kernel_rfl
  (conv => whnf)
  (repeat' (first | (refine And.intro (fun hb => ?_) (fun hb => ?_) <;> (first | contradiction | (conv => whnf))) | (refine And.intro ?_ ?_; rotate_left 1; (conv => whnf))))
  all_goals first
  | rfl
  | exact decide_eq_true (by omega)
  | (refine decide_eq_true ?_; rw [hby]; omega)
  | (refine ⟨[_], _, _, rfl, .inr rfl, rfl, ?_, ?_⟩
     · simp
     · exact avcons (Cel.row_of (c := cA) (by omega) fun i hi => by simp only [shiftG, gApp, Nat.not_lt_zero, decide_false, Nat.sub_zero, Nat.zero_add]; exact FVEqL.refl _) (AVEqL.refl []))
  | (have h0 : L.length = 0 := by
       have := of_decide_eq_false (by assumption : decide (0 < L.length) = false)
       omega
     obtain rfl := List.eq_nil_of_length_eq_zero h0
     exact ⟨[.val (.slice none 0 0)], _, _, rfl, .inr rfl, rfl, rfl, avcons FVEq.nil (AVEqL.refl [])⟩)

noncomputable def k_cla : List SV → List Blk → Res := fun args M => match topA eltB M args with
  | some (b, [.one x]) => .test b (.test (cA.isR 4 x) (.test (decide ((cA.decR 4 x).length ≤ 1099511627776)) (.ok (outA false (namA true M.length [.one (.row 4 (cA.decR 4 x).length (cA.g (cA.decR 4 x)))]).1) (namA true M.length [.one (.row 4 (cA.decR 4 x).length (cA.g (cA.decR 4 x)))]).2)))
  | _ => .fail
theorem k_cla_ok : CtrOk Try.prog Gw 19 k_cla := by
  refine ⟨fun _ _ => by kernel_rfl, fun args M => ?_⟩
  unfold k_cla
  split
  · rename_i b x hv
    intro hb hi hl
    exact ctr_topc (Γ := ⟨[], eqs, [], [], [], mixs, meqs, []⟩) st_Gw ⟨okNil, eqs_ok, okNilB, okNilI, okNilP, mixs_ok, meqs_ok, okNilY⟩ Try.func19 rfl mixed [] (by kernel_rfl) 10000 [.one (.row 4 (cA.decR 4 x).length (cA.g (cA.decR 4 x)))] hv hb (avcons (Cel.isR_dec hi) (AVEqL.refl [])) rfl false _ (cla_run _ (of_decide_eq_true hl))
  · trivial
end Go.Proofs.Ytldlbkkcjphjoaa
namespace Go.Proofs.Ytldlbkkcjphjoaa
open Go.RowKit Go.Sx
set_option linter.unusedSimpArgs false
set_option linter.unusedVariables false
set_option linter.unnecessarySimpa false
set_option maxRecDepth 100000
set_option maxHeartbeats 4000000
theorem own_run (h : Hp) (hh : h.atMost 1099511627776 = true) : run Try.prog ⟨[(20, k_clb)], eqs, [], [(19, Try.f19, [])], [], mixs, meqs, []⟩ 10000 [(5, 6, [0, 1, 0, 0, 8, 24, 63, 127, 255])] 0 (bodyOf Try.f14) (initF Try.f14 [.agg [.int .i64 h.id, .int .i64 h.mj, .int .i64 h.mn, .int .u8 h.core, .sl 0 4 0 h.args.length, .int .u8 h.rk, .int .i64 h.rlo, .int .i64 h.rhi, .int .i64 h.rsz]]) [.ro 4 h.args.length (cA.g h.args)] (retK Try.prog Try.f14 (TellsC false [.agg (celH h)])) := by
  have hby : Try.prog.types[51].bytes = 48 := by kernel_rfl
  have hl := Hp.atMost_len hh
  have hm := Hp.atMost_all hh
  (conv => whnf)
  (repeat' (first | (refine And.intro (fun hb => ?_) (fun hb => ?_) <;> (first | contradiction | (conv => whnf))) | (refine And.intro ?_ ?_; rotate_left 1; (conv => whnf))))
  all_goals first
  | rfl
  | exact decide_eq_true (by omega)
  | (refine decide_eq_true ?_; rw [hby]; omega)
  | (have h0 : h.args.length = 0 := by
       have := of_decide_eq_false (by assumption : decide (0 < h.args.length) = false)
       omega
     have h1 := List.eq_nil_of_length_eq_zero h0
     refine .inl ⟨1, ?_⟩
     (conv => whnf)
     (repeat' (first | (refine And.intro (fun hb => ?_) (fun hb => ?_) <;> (first | contradiction | (conv => whnf))) | (refine And.intro ?_ ?_; rotate_left 1; (conv => whnf))))
     all_goals first
     | (exfalso; simp at hb; done)
     | (refine ⟨[_], _, _, rfl, .inr rfl, rfl, rfl, ?_⟩
        refine ⟨?_, trivial⟩
        show FVEqL _ (celH h)
        unfold celH
        rw [h1]
        exact fvl_cons (FVEq.refl _) (fvl_cons (FVEq.refl _) (fvl_cons (FVEq.refl _) (fvl_cons (FVEq.refl _) (fvl_cons .nil (FVEqL.refl _)))))))
  | skip
  all_goals (
    refine .inr ⟨[], [1, 2, 10, 11, 12], fun k vals M => ∃ j : Nat, j ≤ h.args.length ∧ k = h.args.length - j ∧ vals = [.ptr 1 0, .ptr 2 0, .sl 4 4 0 (0 + h.args.length), .int .i64 ((0 + h.args.length : Nat) : Int), .int .i64 (j : Int)] ∧ M = [.ro 4 h.args.length (cA.g h.args), .cells 29 [.int .i64 h.id, .int .i64 h.mj, .int .i64 h.mn, .int .u8 h.core, .sl 4 4 0 (0 + h.args.length), .int .u8 h.rk, .int .i64 h.rlo, .int .i64 h.rhi, .int .i64 h.rsz], .cells 29 [.int .i64 0, .int .i64 0, .int .i64 0, .int .u8 0, .val (.slice none 0 0), .int .u8 0, .int .i64 0, .int .i64 0, .int .i64 0], .dead, .own 51 4 (0 + h.args.length) (cA.g h.args)], ?_⟩
    conv => whnf
    refine And.intro ⟨h.args.length, [.ro 4 h.args.length (cA.g h.args), .cells 29 [.int .i64 h.id, .int .i64 h.mj, .int .i64 h.mn, .int .u8 h.core, .sl 4 4 0 (0 + h.args.length), .int .u8 h.rk, .int .i64 h.rlo, .int .i64 h.rhi, .int .i64 h.rsz], .cells 29 [.int .i64 0, .int .i64 0, .int .i64 0, .int .u8 0, .val (.slice none 0 0), .int .u8 0, .int .i64 0, .int .i64 0, .int .i64 0], .dead, .own 51 4 (0 + h.args.length) (cA.g h.args)], mle_cons ble_refl (mle_cons ble_refl (mle_cons ble_refl (mle_cons ble_dead (mle_cons (ble_own rfl fun i hi => ?_) mle_nil)))), rfl, rfl, 0, by omega, by omega, rfl, rfl⟩ ?_
    · simp [gApp]
    rintro k vals M1 ⟨j, hj, rfl, rfl, rfl⟩
    have hz : 0 + ((j : Int)).toNat = j := by omega
    (conv => whnf)
    (repeat' (first | (refine And.intro (fun hb => ?_) (fun hb => ?_) <;> (first | contradiction | (conv => whnf))) | (refine And.intro ?_ ?_; rotate_left 1; (conv => whnf))))
    all_goals try (simp only [hz, sh0, decB_row, isB_row] at *)
    all_goals first
    | exact decide_eq_true hl
    | (have hlt : j < h.args.length := (by
         have h9 : decide ((j : Int) < ((0 + h.args.length : Nat) : Int)) = true := hb
         have := of_decide_eq_true h9
         omega)
       first
       | rfl
       | exact decide_eq_true (by omega)
       | (rw [Bool.and_eq_true]; exact ⟨decide_eq_true (by omega), decide_eq_true (by omega)⟩)
       | exact decide_eq_true (Ag.atMost_len (all_getD hm hlt _))
       | (simp; done)
       | (refine ⟨h.args.length - (j + 1), [.ro 4 h.args.length (cA.g h.args), .cells 29 [.int .i64 h.id, .int .i64 h.mj, .int .i64 h.mn, .int .u8 h.core, .sl 4 4 0 (0 + h.args.length), .int .u8 h.rk, .int .i64 h.rlo, .int .i64 h.rhi, .int .i64 h.rsz], .cells 29 [.int .i64 0, .int .i64 0, .int .i64 0, .int .u8 0, .val (.slice none 0 0), .int .u8 0, .int .i64 0, .int .i64 0, .int .i64 0], .dead, .own 51 4 (0 + h.args.length) (cA.g h.args)], [0, 1, 2, 3, 4], by omega, rfl, mle_cons ble_refl (mle_cons ble_refl (mle_cons ble_refl (mle_cons ble_dead (mle_cons (ble_own rfl fun i hi => gset_args h.args j i) mle_nil)))), rfl, rfl, j + 1, by omega, rfl, ?_, rfl⟩
          show [SV.ptr 1 0, .ptr 2 0, .sl 4 4 0 (0 + h.args.length), .int .i64 ((0 + h.args.length : Nat) : Int), .int .i64 (IntKind.i64.wrap ((j : Int) + 1))] = _
          rw [i64_of (n := (j : Int) + 1) (by omega) (by omega)]; rfl))
    | (refine ⟨[_], _, _, rfl, .inr rfl, rfl, ?_, ?_⟩
       · simp
       · refine ⟨?_, trivial⟩
         show FVEqL _ (celH h)
         unfold celH
         exact fvl_cons (FVEq.refl _) (fvl_cons (FVEq.refl _) (fvl_cons (FVEq.refl _) (fvl_cons (FVEq.refl _) (fvl_cons (Cel.row_of (c := cA) (by omega) fun i hi => FVEqL.refl _) (FVEqL.refl _)))))))

def asH (h : Hp) : List AV := [.agg (celH h)]
noncomputable def k_own : List SV → List Blk → Res := fun args M => match topA eltB M args with
  | some (b, [.agg l]) => .test b (.test (cH.is l) (.test ((cH.dec l).atMost 1099511627776) (.ok (outA false (namA true M.length (asH (cH.dec l))).1) (namA true M.length (asH (cH.dec l))).2)))
  | _ => .fail
theorem k_own_ok : CtrOk Try.prog Gw 14 k_own := by
  refine ⟨fun _ _ => by kernel_rfl, fun args M => ?_⟩
  unfold k_own
  split
  · rename_i b l hv
    intro hb hi hw
    exact ctr_topc (Γ := ⟨[(20, k_clb)], eqs, [], [(19, Try.f19, [])], [], mixs, meqs, []⟩) st_Gw ⟨(okCons k_clb_ok okNil), eqs_ok, okNilB, (okConsI Try.func19 rfl (by kernel_rfl) (fun _ _ => by kernel_rfl) okNilI), okNilP, mixs_ok, meqs_ok, okNilY⟩ Try.func14 rfl mixed [(5, 6, [0, 1, 0, 0, 8, 24, 63, 127, 255])] (by kernel_rfl) 10000 [.agg (celH (cH.dec l))] hv hb ⟨Cel.is_dec hi, trivial⟩ rfl false (asH (cH.dec l)) (own_run _ hw)
  · trivial
end Go.Proofs.Ytldlbkkcjphjoaa
