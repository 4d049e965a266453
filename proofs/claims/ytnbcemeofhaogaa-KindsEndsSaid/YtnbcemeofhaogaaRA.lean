import Derived.Test.YtnbcemeofhaogaaRA0
import Derived.Test.YtnbcemeofhaogaaZY
namespace Go.Proofs.Ytnbcemeofhaogaa
open Go.RowKit Go.Sx
set_option linter.unusedSimpArgs false
set_option linter.unusedVariables false
set_option linter.unnecessarySimpa false
set_option maxRecDepth 100000
set_option maxHeartbeats 4000000
theorem rMaps_run (L : List Ag) (hw : (decide (L.length ≤ 1099511627776)) = true) : run Try.prog ⟨[], eqs, [], [], [], mixs, meqs, []⟩ 10000 [] 0 (bodyOf Try.f73) (initF Try.f73 [.sl 0 4 0 L.length]) [.ro 4 L.length (cA.g L)] (retK Try.prog Try.f73 (TellsC false [.one (.row 1 (K.mapOf L).length (gOf eB (K.mapOf L)))])) := by
  simp only [decide_eq_true_eq] at hw
  (conv => whnf)
  (repeat' (first | (refine And.intro (fun hb => ?_) (fun hb => ?_) <;> (first | contradiction | (conv => whnf))) | (refine And.intro ?_ ?_; rotate_left 1; (conv => whnf))))
  refine .inr ⟨[], [0, 3], fun k vals M => ∃ j : Nat, j ≤ L.length ∧ k = L.length - j ∧ K.mapOf (L.drop j) = K.mapOf L ∧ vals = [.sl 0 4 0 L.length, .int .i64 (j : Int)] ∧ M = [.ro 4 L.length (cA.g L)], ?_⟩
  conv => whnf
  refine And.intro ⟨L.length, [.ro 4 L.length (cA.g L)], mle_cons ble_refl mle_nil, rfl, rfl, 0, by omega, by omega, rfl, rfl, rfl⟩ ?_
  rintro k vals M1 ⟨j, hj, rfl, he, rfl, rfl⟩
  (conv => whnf)
  (repeat' (first | (refine And.intro (fun hb => ?_) (fun hb => ?_) <;> (first | contradiction | (conv => whnf))) | (refine And.intro ?_ ?_; rotate_left 1; (conv => whnf))))
  all_goals try (have hlt : j < L.length := (by
    have h9 : decide ((j : Int) < (L.length : Int)) = true := (by assumption)
    have h8 := of_decide_eq_true h9
    omega))
  all_goals try (simp only [Int.toNat_natCast, Nat.zero_add, beq_iff_eq, beq_eq_false_iff_ne, ne_eq] at *)
  all_goals try (first | exact hlt | exact decide_eq_true hlt | exact decide_eq_true (by omega) | (rw [Bool.and_eq_true]; exact ⟨decide_eq_true (by omega), decide_eq_true (by omega)⟩))
  all_goals first
  | (refine ⟨[_], _, _, rfl, .inr rfl, rfl, by simp, ?_⟩
     rw [← he, K.mapOf_at hlt hb]
     exact AVEqL.refl _)
  | (refine ⟨L.length - (j + 1), [.ro 4 L.length (cA.g L)], [0], by omega, rfl, mle_cons ble_refl mle_nil, rfl, rfl, j + 1, by omega, rfl, ?_, ?_, rfl⟩
     · rw [← he, K.mapOf_go hlt hb]
     · show [SV.sl 0 4 0 L.length, .int .i64 (IntKind.i64.wrap ((j : Int) + 1))] = _
       rw [i64_of (n := (j : Int) + 1) (by omega) (by omega)]; rfl)
  | (obtain rfl : j = L.length := (by
    have h9 : decide ((j : Int) < (L.length : Int)) = false := (by assumption)
    have h8 := of_decide_eq_false h9
    omega)
     refine ⟨[_], _, _, rfl, .inr rfl, rfl, rfl, ?_⟩
     rw [← he, List.drop_length]
     exact avcons .nil (AVEqL.refl []))
noncomputable def k_rMaps : List SV → List Blk → Res := fun args M => match topA eltB M args with
  | some (b, [.one v0]) => .test b (.test (cA.isR 4 v0) (.test (decide ((cA.decR 4 v0).length ≤ 1099511627776)) (.ok (outA false (namA true M.length [.one (.row 1 (K.mapOf (cA.decR 4 v0)).length (gOf eB (K.mapOf (cA.decR 4 v0))))]).1) (namA true M.length [.one (.row 1 (K.mapOf (cA.decR 4 v0)).length (gOf eB (K.mapOf (cA.decR 4 v0))))]).2)))
  | _ => .fail
theorem k_rMaps_ok : CtrOk Try.prog Gw 73 k_rMaps := by
  refine ⟨fun _ _ => by kernel_rfl, fun args M => ?_⟩
  unfold k_rMaps
  split
  · rename_i b v0 hv
    intro hb hi hw
    exact ctr_topc (Γ := ⟨[], eqs, [], [], [], mixs, meqs, []⟩) st_Gw ⟨okNil, eqs_ok, okNilB, okNilI, okNilP, mixs_ok, meqs_ok, okNilY⟩ Try.func73 rfl mixed [] (by kernel_rfl) 10000 [.one (.row 4 (cA.decR 4 v0).length (cA.g (cA.decR 4 v0)))] hv hb ⟨Cel.isR_dec (hi), trivial⟩ rfl false _ (rMaps_run (cA.decR 4 v0) hw)
  · trivial
theorem rhas_run (L : List Int) (z : Int) (hw : (decide (L.length ≤ 1099511627776)) = true) : run Try.prog ⟨[], eqs, [], [], [], mixs, meqs, []⟩ 10000 [] 0 (bodyOf Try.f74) (initF Try.f74 [.sl 0 1 0 L.length, .int .u8 z]) [.ro 1 L.length (gOf eB L)] (retK Try.prog Try.f74 (fun x _ => eqv x (.bool (L.contains z)))) := by
  simp only [decide_eq_true_eq] at hw
  (conv => whnf)
  (repeat' (first | (refine And.intro (fun hb => ?_) (fun hb => ?_) <;> (first | contradiction | (conv => whnf))) | (refine And.intro ?_ ?_; rotate_left 1; (conv => whnf))))
  refine .inr ⟨[], [0, 1, 5], fun k vals M => ∃ j : Nat, j ≤ L.length ∧ k = L.length - j ∧ K.upto (fun i => !(L.getD i eB.dft == z)) j = true ∧ vals = [.sl 0 1 0 L.length, .int .u8 z, .int .i64 (j : Int)] ∧ M = [.ro 1 L.length (gOf eB L)], ?_⟩
  conv => whnf
  refine And.intro ⟨L.length, [.ro 1 L.length (gOf eB L)], mle_cons ble_refl mle_nil, rfl, rfl, 0, by omega, by omega, rfl, rfl, rfl⟩ ?_
  rintro k vals M1 ⟨j, hj, rfl, he, rfl, rfl⟩
  (conv => whnf)
  (repeat' (first | (refine And.intro (fun hb => ?_) (fun hb => ?_) <;> (first | contradiction | (conv => whnf))) | (refine And.intro ?_ ?_; rotate_left 1; (conv => whnf))))
  all_goals try (have hlt : j < L.length := (by
    have h9 : decide ((j : Int) < (L.length : Int)) = true := (by assumption)
    have h8 := of_decide_eq_true h9
    omega))
  all_goals try (simp only [Int.toNat_natCast, Nat.zero_add] at *)
  all_goals try (first | exact hlt | exact decide_eq_true hlt | exact decide_eq_true (by omega) | (rw [Bool.and_eq_true]; exact ⟨decide_eq_true (by omega), decide_eq_true (by omega)⟩))
  all_goals first
  | (exact (K.contains_at hlt hb).symm)
  | (exact K.contains_at hlt hb)
  | (refine ⟨L.length - (j + 1), [.ro 1 L.length (gOf eB L)], [0], by omega, rfl, mle_cons ble_refl mle_nil, rfl, rfl, j + 1, by omega, rfl, ?_, ?_, rfl⟩
     · exact K.upto_next he (by rw [hb]; rfl)
     · show [SV.sl 0 1 0 L.length, .int .u8 z, .int .i64 (IntKind.i64.wrap ((j : Int) + 1))] = _
       rw [i64_of (n := (j : Int) + 1) (by omega) (by omega)]; rfl)
  | (obtain rfl : j = L.length := (by
    have h9 : decide ((j : Int) < (L.length : Int)) = false := (by assumption)
    have h8 := of_decide_eq_false h9
    omega)
     exact K.contains_no he)
noncomputable def k_rhas : List SV → List Blk → Res := fun args M => match topA eltB M args with
  | some (b, [.one v0, .one (.int .u8 v1)]) => .test b (.test (cB.isR 1 v0) (.test (decide ((cB.decR 1 v0).length ≤ 1099511627776)) (.ok (.bool ((cB.decR 1 v0).contains v1)) [])))
  | _ => .fail
theorem k_rhas_ok : CtrOk Try.prog Gw 74 k_rhas := by
  refine ⟨fun _ _ => by kernel_rfl, fun args M => ?_⟩
  unfold k_rhas
  split
  · rename_i b v0 v1 hv
    intro hb hi hw
    exact ctr_top (Γ := ⟨[], eqs, [], [], [], mixs, meqs, []⟩) st_Gw ⟨okNil, eqs_ok, okNilB, okNilI, okNilP, mixs_ok, meqs_ok, okNilY⟩ Try.func74 rfl mixed [] (by kernel_rfl) 10000 [.one (.row 1 (cB.decR 1 v0).length (cB.g (cB.decR 1 v0))), .one (.int .u8 v1)] hv hb ⟨Cel.isR_dec (hi), ⟨FVEq.refl _, trivial⟩⟩ rfl (rhas_run (cB.decR 1 v0) v1 hw)
  · trivial
theorem rkinds_run (L : List Int) (hw : (decide (L.length ≤ 1099511627776)) = true) : run Try.prog ⟨[], eqs, [], [], [], mixs, meqs, []⟩ 10000 [(4, 25, [0, 0, 3, 7, 15, 31, 63, 63, 255, 511, 1023, 2047, 4095, 8191, 16383, 32767, 65535, 65535, 196607, 524287, 1048575, 65535, 65535, 6356991, 14745599, 33554431, 67108863, 134217727])] 0 (bodyOf Try.f72) (initF Try.f72 [.sl 0 1 0 L.length]) [.ro 1 L.length (gOf eB L)] (retK Try.prog Try.f72 (fun x _ => eqv x (.bool (K.okKinds L)))) := by
  simp only [decide_eq_true_eq] at hw
  (conv => whnf)
  (repeat' (first | (refine step_t (by first | rfl | assumption) ?_; (conv => whnf)) | (refine step_f (by first | rfl | assumption) ?_; (conv => whnf)) | (refine step_nt (by assumption) ?_; (conv => whnf)) | (refine step_nf (by assumption) ?_; (conv => whnf)) | (refine step_n (fun hb => ?_) (fun hb => ?_) <;> (first | contradiction | (conv => whnf))) | (refine And.intro (fun hb => ?_) (fun hb => ?_) <;> (first | contradiction | (conv => whnf))) | (refine And.intro (a := (_ : Bool) = true) ?_ ?_; rotate_left 1; (conv => whnf))))
  refine .inr ⟨[], [0, 3], fun k vals M => ∃ j : Nat, j ≤ L.length ∧ k = L.length - j ∧ K.upto (K.kindAt L) j = true ∧ vals = [.sl 0 1 0 L.length, .int .i64 (j : Int)] ∧ M = [.ro 1 L.length (gOf eB L)], ?_⟩
  conv => whnf
  refine And.intro ⟨L.length, [.ro 1 L.length (gOf eB L)], mle_cons ble_refl mle_nil, rfl, rfl, 0, by omega, by omega, rfl, rfl, rfl⟩ ?_
  rintro k vals M1 ⟨j, hj, rfl, he, rfl, rfl⟩
  (conv => whnf)
  (repeat' (first | (refine step_t (by first | rfl | assumption) ?_; (conv => whnf)) | (refine step_f (by first | rfl | assumption) ?_; (conv => whnf)) | (refine step_nt (by assumption) ?_; (conv => whnf)) | (refine step_nf (by assumption) ?_; (conv => whnf)) | (refine step_n (fun hb => ?_) (fun hb => ?_) <;> (first | contradiction | (conv => whnf))) | (refine And.intro (fun hb => ?_) (fun hb => ?_) <;> (first | contradiction | (conv => whnf))) | (refine And.intro (a := (_ : Bool) = true) ?_ ?_; rotate_left 1; (conv => whnf))))
  all_goals try (have hlt : j < L.length := (by
    have h9 : decide ((j : Int) < (L.length : Int)) = true := (by assumption)
    have h8 := of_decide_eq_true h9
    omega))
  all_goals try (have hp : 0 < j := (by
    have h9 : decide ((0 : Int) < (j : Int)) = true := (by assumption)
    have h8 := of_decide_eq_true h9
    omega)
                 have hwr : IntKind.i64.wrap ((j : Int) - 1) = ((j - 1 : Nat) : Int) := (by rw [i64_of (n := (j : Int) - 1) (by omega) (by omega)]; omega)
                 simp only [hwr, Int.toNat_natCast, Nat.zero_add] at *)
  all_goals try (simp only [Int.toNat_natCast, Nat.zero_add] at *)
  all_goals try (first | exact hlt | exact decide_eq_true hlt | exact decide_eq_true (by omega) | (rw [Bool.and_eq_true]; exact ⟨decide_eq_true (by omega), decide_eq_true (by omega)⟩))
  all_goals try (simp only [decide_eq_true_eq, decide_eq_false_iff_not] at *)
  all_goals first
  | exact K.okKinds_no hlt (K.kindAt_f (by omega))
  | (refine ⟨L.length - (j + 1), [.ro 1 L.length (gOf eB L)], [0], by omega, rfl, mle_cons ble_refl mle_nil, rfl, rfl, j + 1, by omega, rfl, ?_, ?_, rfl⟩
     · exact K.upto_next he (K.kindAt_t (by omega) (by omega) (by omega))
     · show [SV.sl 0 1 0 L.length, .int .i64 (IntKind.i64.wrap ((j : Int) + 1))] = _
       rw [i64_of (n := (j : Int) + 1) (by omega) (by omega)]; rfl)
  | (obtain rfl : j = L.length := (by omega)
     rw [← K.okKinds_is, he]
     simp
     done)
noncomputable def k_rkinds : List SV → List Blk → Res := fun args M => match topA eltB M args with
  | some (b, [.one v0]) => .test b (.test (cB.isR 1 v0) (.test (decide ((cB.decR 1 v0).length ≤ 1099511627776)) (.ok (.bool (K.okKinds (cB.decR 1 v0))) [])))
  | _ => .fail
theorem k_rkinds_ok : CtrOk Try.prog Gw 72 k_rkinds := by
  refine ⟨fun _ _ => by kernel_rfl, fun args M => ?_⟩
  unfold k_rkinds
  split
  · rename_i b v0 hv
    intro hb hi hw
    exact ctr_top (Γ := ⟨[], eqs, [], [], [], mixs, meqs, []⟩) st_Gw ⟨okNil, eqs_ok, okNilB, okNilI, okNilP, mixs_ok, meqs_ok, okNilY⟩ Try.func72 rfl mixed [(4, 25, [0, 0, 3, 7, 15, 31, 63, 63, 255, 511, 1023, 2047, 4095, 8191, 16383, 32767, 65535, 65535, 196607, 524287, 1048575, 65535, 65535, 6356991, 14745599, 33554431, 67108863, 134217727])] (by kernel_rfl) 10000 [.one (.row 1 (cB.decR 1 v0).length (cB.g (cB.decR 1 v0)))] hv hb ⟨Cel.isR_dec (hi), trivial⟩ rfl (rkinds_run (cB.decR 1 v0) hw)
  · trivial
end Go.Proofs.Ytnbcemeofhaogaa
