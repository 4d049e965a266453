import Derived.Test.YtnbcemeofhaogaaVF
import Derived.Test.YtnbcemeofhaogaaVA2
import Derived.Test.YtnbcemeofhaogaaSxQ
import Derived.Test.YtnbcemeofhaogaaZZ
namespace Go.Proofs.Ytnbcemeofhaogaa
open Go.RowKit Go.Sx
set_option linter.unusedSimpArgs false
set_option linter.unusedVariables false
set_option linter.unnecessarySimpa false
set_option maxRecDepth 100000
set_option maxHeartbeats 4000000
attribute [local irreducible] K.type K.helper K.cmpT K.cmpH K.firstE K.all K.allAt
theorem allT_run (L : List Ty) (hlen : L.length ≤ 1099511627776) (hall : L.all (Ty.atMost 1099511627776) = true) : run Try.prog ⟨[(21, k_type), (46, k_cmpT)], eqs, [], [(75, Try.f75, []), (87, Try.f87, [(3, 5, [0, 0, 0, 6, 0, 31, 63])])], [], mixs, meqs, []⟩ 10000 [(8, 10, [0, 1, 3, 7, 7, 7, 39, 119, 247, 7, 1023, 2047, 4095])] 0 (bodyOf Try.f45) (initF Try.f45 [.sl 0 6 0 L.length, .fn (.func 21) [] [], .fn (.func 46) [] []]) [.ro 6 L.length (cY.g L)] (retK Try.prog Try.f45 fun x _ => eqv x (.int .i64 (K.all K.type K.cmpT cY.dft L))) := by
  (conv => whnf)
  (repeat' (first | (refine step_t (by first | rfl | assumption) ?_; (conv => whnf)) | (refine step_f (by first | rfl | assumption) ?_; (conv => whnf)) | (refine step_nt (by assumption) ?_; (conv => whnf)) | (refine step_nf (by assumption) ?_; (conv => whnf)) | (refine step_n (fun hb => ?_) (fun hb => ?_) <;> (first | contradiction | (conv => whnf))) | (refine And.intro (fun hb => ?_) (fun hb => ?_) <;> (first | contradiction | (conv => whnf))) | (refine And.intro (a := (_ : Bool) = true) ?_ ?_; rotate_left 1; (conv => whnf))))
  refine .inr ⟨[], [0, 1, 5, 6, 7], fun k vals M => ∃ j : Nat, j ≤ L.length ∧ k = L.length - j ∧ K.firstE (K.allAt K.type K.cmpT cY.dft L) (L.length - j) j = K.all K.type K.cmpT cY.dft L ∧ vals = [.yld 5, .ptr 4 0, .sl 0 6 0 L.length, .int .i64 (L.length : Int), .int .i64 (j : Int)] ∧ M = [.ro 6 L.length (cY.g L), .cells 58 [.fn (.func 21) [] []], .cells 96 [.fn (.func 46) [] []], .cells 34 [.int .i64 0], .cells 51 [.sl 0 6 0 L.length], lpOf [(8, 10, [0, 1, 3, 7, 7, 7, 39, 119, 247, 7, 1023, 2047, 4095])] (bodyOf Try.f45) (mkFrom [(0, .sl 0 6 0 L.length), (1, .fn (.func 21) [] []), (2, .fn (.func 46) [] []), (4, .ptr 1 0), (5, .ptr 2 0), (6, .ptr 3 0), (11, .sl 0 6 0 L.length), (12, .fn (.func 87) [] [.ptr 4 0])] (fun _ => .tup []) 36 0)], ?_⟩
  conv => whnf
  refine And.intro ⟨L.length, [.ro 6 L.length (cY.g L), .cells 58 [.fn (.func 21) [] []], .cells 96 [.fn (.func 46) [] []], .cells 34 [.int .i64 0], .cells 51 [.sl 0 6 0 L.length], lpOf [(8, 10, [0, 1, 3, 7, 7, 7, 39, 119, 247, 7, 1023, 2047, 4095])] (bodyOf Try.f45) (mkFrom [(0, .sl 0 6 0 L.length), (1, .fn (.func 21) [] []), (2, .fn (.func 46) [] []), (4, .ptr 1 0), (5, .ptr 2 0), (6, .ptr 3 0), (11, .sl 0 6 0 L.length), (12, .fn (.func 87) [] [.ptr 4 0])] (fun _ => .tup []) 36 0)], (mle_cons ble_refl (mle_cons ble_refl (mle_cons ble_refl (mle_cons ble_refl (mle_cons ble_refl (mle_cons ble_refl mle_nil)))))), rfl, rfl, 0, by omega, by omega, K.all_0, rfl, rfl⟩ ?_
  rintro k vals M1 ⟨j, hj, rfl, he, rfl, rfl⟩
  (conv => whnf)
  (repeat' (first | (refine step_t (by first | rfl | assumption) ?_; (conv => whnf)) | (refine step_f (by first | rfl | assumption) ?_; (conv => whnf)) | (refine step_nt (by assumption) ?_; (conv => whnf)) | (refine step_nf (by assumption) ?_; (conv => whnf)) | (refine step_n (fun hb => ?_) (fun hb => ?_) <;> (first | contradiction | (conv => whnf))) | (refine And.intro (fun hb => ?_) (fun hb => ?_) <;> (first | contradiction | (conv => whnf))) | (refine And.intro (a := (_ : Bool) = true) ?_ ?_; rotate_left 1; (conv => whnf))))
  all_goals have hz : ((j : Int)).toNat = j := by omega
  all_goals have hwj : IntKind.i64.wrap ((j : Int) - 1) = (j : Int) - 1 := i64_of (by omega) (by omega)
  all_goals have hzj : ((j : Int) - 1).toNat = j - 1 := by omega
  all_goals simp only [isY_at, decY_at, hz, Nat.zero_add, Nat.sub_zero, hwj, hzj, Bool.and_eq_true, decide_eq_true_eq, decide_eq_false_iff_not, bne_iff_ne, bne_eq_false_iff_eq, beq_iff_eq, beq_eq_false_iff_ne, ne_eq, true_and, Nat.le_refl, and_self] at *
  all_goals first
  | trivial
  | omega
  | (refine ⟨?_, ?_⟩ <;> omega)
  | (refine ⟨?_, ?_, ?_⟩ <;> omega)
  | skip
  all_goals try (have hlt : j < L.length := (by omega))
  all_goals first
  | exact all_getD hall hlt _
  | exact all_getD hall (show j - 1 < L.length by omega) _
  | exact K.all_e hlt he (by assumption)
  | exact K.all_7 hlt he (by assumption) (by omega) (by assumption)
  | (obtain rfl : j = L.length := (by omega)
     exact K.all_end he)
  | (refine ⟨L.length - (j + 1), [.ro 6 L.length (cY.g L), .cells 58 [.fn (.func 21) [] []], .cells 96 [.fn (.func 46) [] []], .cells 34 [.int .i64 0], .cells 51 [.sl 0 6 0 L.length], lpOf [(8, 10, [0, 1, 3, 7, 7, 7, 39, 119, 247, 7, 1023, 2047, 4095])] (bodyOf Try.f45) (mkFrom [(0, .sl 0 6 0 L.length), (1, .fn (.func 21) [] []), (2, .fn (.func 46) [] []), (4, .ptr 1 0), (5, .ptr 2 0), (6, .ptr 3 0), (11, .sl 0 6 0 L.length), (12, .fn (.func 87) [] [.ptr 4 0])] (fun _ => .tup []) 36 0)], [0, 1, 2, 3, 4, 5], by omega, ⟨rfl, rfl⟩, (mle_cons ble_refl (mle_cons ble_refl (mle_cons ble_refl (mle_cons ble_refl (mle_cons ble_refl (mle_cons ble_refl mle_nil)))))), rfl, rfl, j + 1, by omega, rfl, K.all_go hlt he (by assumption) (by first | exact .inr (by assumption) | exact .inl (by omega)), ?_, rfl⟩
     show [SV.yld 5, .ptr 4 0, .sl 0 6 0 L.length, .int .i64 (L.length : Int), .int .i64 (IntKind.i64.wrap ((j : Int) + 1))] = _
     rw [i64_of (n := (j : Int) + 1) (by omega) (by omega)]; rfl)
noncomputable def k_allT : List SV → List Blk → Res := fun args M => match args with
  | [x, .fn (.func g) [] [], .fn (.func h) [] []] => match Nat.beq g 21, Nat.beq h 46 with
    | true, true => match topA eltB M [x] with
      | some (b, [.one v]) => .test b (.test (cY.isR 6 v) (.test (decide ((cY.decR 6 v).length ≤ 1099511627776) && (cY.decR 6 v).all (Ty.atMost 1099511627776)) (.ok (.int .i64 (K.all K.type K.cmpT cY.dft (cY.decR 6 v))) [])))
      | _ => .fail
    | _, _ => .fail
  | _ => .fail
theorem k_allT_ok : CtrOk Try.prog Gw 45 k_allT := by
  refine ⟨fun _ _ => by kernel_rfl, fun args M => ?_⟩
  unfold k_allT
  split
  · rename_i x g h
    split
    · rename_i hg hh
      obtain rfl := Nat.eq_of_beq_eq_true hg
      obtain rfl := Nat.eq_of_beq_eq_true hh
      split
      · rename_i b v hv
        intro hb hi hw
        simp only [Bool.and_eq_true, decide_eq_true_eq] at hw
        exact ctr_topx (Γ := ⟨[(21, k_type), (46, k_cmpT)], eqs, [], [(75, Try.f75, []), (87, Try.f87, [(3, 5, [0, 0, 0, 6, 0, 31, 63])])], [], mixs, meqs, []⟩) (args := [x]) (M := M) (post := [.fn (.func 21) [] [], .fn (.func 46) [] []]) (post0 := [.fn (.func 21) [] [], .fn (.func 46) [] []]) st_Gw ⟨(okCons k_type_ok (okCons k_cmpT_ok okNil)), eqs_ok, okNilB, (okConsI Try.func75 rfl (by kernel_rfl) (fun _ _ => by kernel_rfl) (okConsI Try.func87 rfl (by kernel_rfl) (fun _ _ => by kernel_rfl) okNilI)), okNilP, mixs_ok, meqs_ok, okNilY⟩ Try.func45 rfl mixed [(8, 10, [0, 1, 3, 7, 7, 7, 39, 119, 247, 7, 1023, 2047, 4095])] (by kernel_rfl) 10000 [.one (.row 6 (cY.decR 6 v).length (cY.g (cY.decR 6 v)))] (fun _ _ => rfl) rfl hv hb ⟨Cel.isR_dec hi, trivial⟩ rfl (allT_run _ hw.1 hw.2)
      · trivial
    · trivial
  · trivial
end Go.Proofs.Ytnbcemeofhaogaa
namespace Go.Proofs.Ytnbcemeofhaogaa
open Go.RowKit Go.Sx
set_option linter.unusedSimpArgs false
set_option linter.unusedVariables false
set_option linter.unnecessarySimpa false
set_option maxRecDepth 100000
set_option maxHeartbeats 4000000
attribute [local irreducible] K.type K.helper K.cmpT K.cmpH K.firstE K.all K.allAt
theorem allH_run (L : List Hp) (hlen : L.length ≤ 1099511627776) (hall : L.all (Hp.atMost 1099511627776) = true) : run Try.prog ⟨[(11, k_helper), (49, k_cmpH)], eqs, [], [(77, Try.f77, []), (89, Try.f89, [(3, 5, [0, 0, 0, 6, 0, 31, 63])])], [], mixs, meqs, []⟩ 10000 [(8, 10, [0, 1, 3, 7, 7, 7, 39, 119, 247, 7, 1023, 2047, 4095])] 0 (bodyOf Try.f48) (initF Try.f48 [.sl 0 9 0 L.length, .fn (.func 11) [] [], .fn (.func 49) [] []]) [.ro 9 L.length (cH.g L)] (retK Try.prog Try.f48 fun x _ => eqv x (.int .i64 (K.all K.helper K.cmpH cH.dft L))) := by
  (conv => whnf)
  (repeat' (first | (refine step_t (by first | rfl | assumption) ?_; (conv => whnf)) | (refine step_f (by first | rfl | assumption) ?_; (conv => whnf)) | (refine step_nt (by assumption) ?_; (conv => whnf)) | (refine step_nf (by assumption) ?_; (conv => whnf)) | (refine step_n (fun hb => ?_) (fun hb => ?_) <;> (first | contradiction | (conv => whnf))) | (refine And.intro (fun hb => ?_) (fun hb => ?_) <;> (first | contradiction | (conv => whnf))) | (refine And.intro (a := (_ : Bool) = true) ?_ ?_; rotate_left 1; (conv => whnf))))
  refine .inr ⟨[], [0, 1, 5, 6, 7], fun k vals M => ∃ j : Nat, j ≤ L.length ∧ k = L.length - j ∧ K.firstE (K.allAt K.helper K.cmpH cH.dft L) (L.length - j) j = K.all K.helper K.cmpH cH.dft L ∧ vals = [.yld 5, .ptr 4 0, .sl 0 9 0 L.length, .int .i64 (L.length : Int), .int .i64 (j : Int)] ∧ M = [.ro 9 L.length (cH.g L), .cells 35 [.fn (.func 11) [] []], .cells 99 [.fn (.func 49) [] []], .cells 34 [.int .i64 0], .cells 52 [.sl 0 9 0 L.length], lpOf [(8, 10, [0, 1, 3, 7, 7, 7, 39, 119, 247, 7, 1023, 2047, 4095])] (bodyOf Try.f48) (mkFrom [(0, .sl 0 9 0 L.length), (1, .fn (.func 11) [] []), (2, .fn (.func 49) [] []), (4, .ptr 1 0), (5, .ptr 2 0), (6, .ptr 3 0), (11, .sl 0 9 0 L.length), (12, .fn (.func 89) [] [.ptr 4 0])] (fun _ => .tup []) 36 0)], ?_⟩
  conv => whnf
  refine And.intro ⟨L.length, [.ro 9 L.length (cH.g L), .cells 35 [.fn (.func 11) [] []], .cells 99 [.fn (.func 49) [] []], .cells 34 [.int .i64 0], .cells 52 [.sl 0 9 0 L.length], lpOf [(8, 10, [0, 1, 3, 7, 7, 7, 39, 119, 247, 7, 1023, 2047, 4095])] (bodyOf Try.f48) (mkFrom [(0, .sl 0 9 0 L.length), (1, .fn (.func 11) [] []), (2, .fn (.func 49) [] []), (4, .ptr 1 0), (5, .ptr 2 0), (6, .ptr 3 0), (11, .sl 0 9 0 L.length), (12, .fn (.func 89) [] [.ptr 4 0])] (fun _ => .tup []) 36 0)], (mle_cons ble_refl (mle_cons ble_refl (mle_cons ble_refl (mle_cons ble_refl (mle_cons ble_refl (mle_cons ble_refl mle_nil)))))), rfl, rfl, 0, by omega, by omega, K.all_0, rfl, rfl⟩ ?_
  rintro k vals M1 ⟨j, hj, rfl, he, rfl, rfl⟩
  (conv => whnf)
  (repeat' (first | (refine step_t (by first | rfl | assumption) ?_; (conv => whnf)) | (refine step_f (by first | rfl | assumption) ?_; (conv => whnf)) | (refine step_nt (by assumption) ?_; (conv => whnf)) | (refine step_nf (by assumption) ?_; (conv => whnf)) | (refine step_n (fun hb => ?_) (fun hb => ?_) <;> (first | contradiction | (conv => whnf))) | (refine And.intro (fun hb => ?_) (fun hb => ?_) <;> (first | contradiction | (conv => whnf))) | (refine And.intro (a := (_ : Bool) = true) ?_ ?_; rotate_left 1; (conv => whnf))))
  all_goals have hz : ((j : Int)).toNat = j := by omega
  all_goals have hwj : IntKind.i64.wrap ((j : Int) - 1) = (j : Int) - 1 := i64_of (by omega) (by omega)
  all_goals have hzj : ((j : Int) - 1).toNat = j - 1 := by omega
  all_goals simp only [isH_at, decH_at, hz, Nat.zero_add, Nat.sub_zero, hwj, hzj, Bool.and_eq_true, decide_eq_true_eq, decide_eq_false_iff_not, bne_iff_ne, bne_eq_false_iff_eq, beq_iff_eq, beq_eq_false_iff_ne, ne_eq, true_and, Nat.le_refl, and_self] at *
  all_goals first
  | trivial
  | omega
  | (refine ⟨?_, ?_⟩ <;> omega)
  | (refine ⟨?_, ?_, ?_⟩ <;> omega)
  | skip
  all_goals try (have hlt : j < L.length := (by omega))
  all_goals first
  | exact all_getD hall hlt _
  | exact all_getD hall (show j - 1 < L.length by omega) _
  | exact K.all_e hlt he (by assumption)
  | exact K.all_7 hlt he (by assumption) (by omega) (by assumption)
  | (obtain rfl : j = L.length := (by omega)
     exact K.all_end he)
  | (refine ⟨L.length - (j + 1), [.ro 9 L.length (cH.g L), .cells 35 [.fn (.func 11) [] []], .cells 99 [.fn (.func 49) [] []], .cells 34 [.int .i64 0], .cells 52 [.sl 0 9 0 L.length], lpOf [(8, 10, [0, 1, 3, 7, 7, 7, 39, 119, 247, 7, 1023, 2047, 4095])] (bodyOf Try.f48) (mkFrom [(0, .sl 0 9 0 L.length), (1, .fn (.func 11) [] []), (2, .fn (.func 49) [] []), (4, .ptr 1 0), (5, .ptr 2 0), (6, .ptr 3 0), (11, .sl 0 9 0 L.length), (12, .fn (.func 89) [] [.ptr 4 0])] (fun _ => .tup []) 36 0)], [0, 1, 2, 3, 4, 5], by omega, ⟨rfl, rfl⟩, (mle_cons ble_refl (mle_cons ble_refl (mle_cons ble_refl (mle_cons ble_refl (mle_cons ble_refl (mle_cons ble_refl mle_nil)))))), rfl, rfl, j + 1, by omega, rfl, K.all_go hlt he (by assumption) (by first | exact .inr (by assumption) | exact .inl (by omega)), ?_, rfl⟩
     show [SV.yld 5, .ptr 4 0, .sl 0 9 0 L.length, .int .i64 (L.length : Int), .int .i64 (IntKind.i64.wrap ((j : Int) + 1))] = _
     rw [i64_of (n := (j : Int) + 1) (by omega) (by omega)]; rfl)
noncomputable def k_allH : List SV → List Blk → Res := fun args M => match args with
  | [x, .fn (.func g) [] [], .fn (.func h) [] []] => match Nat.beq g 11, Nat.beq h 49 with
    | true, true => match topA eltB M [x] with
      | some (b, [.one v]) => .test b (.test (cH.isR 9 v) (.test (decide ((cH.decR 9 v).length ≤ 1099511627776) && (cH.decR 9 v).all (Hp.atMost 1099511627776)) (.ok (.int .i64 (K.all K.helper K.cmpH cH.dft (cH.decR 9 v))) [])))
      | _ => .fail
    | _, _ => .fail
  | _ => .fail
theorem k_allH_ok : CtrOk Try.prog Gw 48 k_allH := by
  refine ⟨fun _ _ => by kernel_rfl, fun args M => ?_⟩
  unfold k_allH
  split
  · rename_i x g h
    split
    · rename_i hg hh
      obtain rfl := Nat.eq_of_beq_eq_true hg
      obtain rfl := Nat.eq_of_beq_eq_true hh
      split
      · rename_i b v hv
        intro hb hi hw
        simp only [Bool.and_eq_true, decide_eq_true_eq] at hw
        exact ctr_topx (Γ := ⟨[(11, k_helper), (49, k_cmpH)], eqs, [], [(77, Try.f77, []), (89, Try.f89, [(3, 5, [0, 0, 0, 6, 0, 31, 63])])], [], mixs, meqs, []⟩) (args := [x]) (M := M) (post := [.fn (.func 11) [] [], .fn (.func 49) [] []]) (post0 := [.fn (.func 11) [] [], .fn (.func 49) [] []]) st_Gw ⟨(okCons k_helper_ok (okCons k_cmpH_ok okNil)), eqs_ok, okNilB, (okConsI Try.func77 rfl (by kernel_rfl) (fun _ _ => by kernel_rfl) (okConsI Try.func89 rfl (by kernel_rfl) (fun _ _ => by kernel_rfl) okNilI)), okNilP, mixs_ok, meqs_ok, okNilY⟩ Try.func48 rfl mixed [(8, 10, [0, 1, 3, 7, 7, 7, 39, 119, 247, 7, 1023, 2047, 4095])] (by kernel_rfl) 10000 [.one (.row 9 (cH.decR 9 v).length (cH.g (cH.decR 9 v)))] (fun _ _ => rfl) rfl hv hb ⟨Cel.isR_dec hi, trivial⟩ rfl (allH_run _ hw.1 hw.2)
      · trivial
    · trivial
  · trivial
end Go.Proofs.Ytnbcemeofhaogaa
namespace Go.Proofs.Ytnbcemeofhaogaa
open Go.RowKit Go.Sx
set_option linter.unusedSimpArgs false
set_option linter.unusedVariables false
set_option linter.unnecessarySimpa false
set_option maxRecDepth 100000
set_option maxHeartbeats 4000000
attribute [local irreducible] K.name K.all K.table
theorem table_run (t : Tb) (hw : (t.atMost 1099511627776) = true) : run Try.prog ⟨[(14, k_name), (45, k_allT), (48, k_allH)], eqs, [], [], [], mixs, meqs, []⟩ 10000 [] 0 (bodyOf Try.f20) (initF Try.f20 [.agg [.val (.string t.pr), .sl 0 6 0 t.ts.length, .sl 1 9 0 t.hs.length]]) [.ro 6 t.ts.length (cY.g t.ts), .ro 9 t.hs.length (cH.g t.hs)] (retK Try.prog Try.f20 (fun x _ => eqv x (.int .i64 (K.table t)))) := by
  obtain ⟨ht1, ht2⟩ := Tb.atMost_ts hw
  obtain ⟨hh1, hh2⟩ := Tb.atMost_hs hw
  have hp := Tb.atMost_pr hw
  clear hw
  (conv => whnf)
  (repeat' (first | (refine step_t (by first | rfl | assumption) ?_; (conv => whnf)) | (refine step_f (by first | rfl | assumption) ?_; (conv => whnf)) | (refine step_nt (by assumption) ?_; (conv => whnf)) | (refine step_nf (by assumption) ?_; (conv => whnf)) | (refine step_n (fun hb => ?_) (fun hb => ?_) <;> (first | contradiction | (conv => whnf))) | (refine And.intro (fun hb => ?_) (fun hb => ?_) <;> (first | contradiction | (conv => whnf))) | (refine And.intro (a := (_ : Bool) = true) ?_ ?_; rotate_left 1; (conv => whnf))))
  all_goals simp only [isLY, decLY, isLH, decLH, Nat.zero_add, Bool.and_eq_true, decide_eq_true_eq, decide_eq_false_iff_not, bne_iff_ne, bne_eq_false_iff_eq, beq_iff_eq, beq_eq_false_iff_ne, ne_eq, true_and, Nat.le_refl, and_self, and_true] at *
  all_goals first
  | trivial
  | exact hp
  | exact ⟨ht1, ht2⟩
  | exact ⟨hh1, hh2⟩
  | exact K.table_2 (by assumption)
  | exact K.table_3 (by assumption) (by omega)
  | exact K.table_e (by assumption) (by omega) (by omega) (by assumption)
  | exact K.table_h (by assumption) (by omega) (by omega) (by assumption)
noncomputable def k_table : List SV → List Blk → Res := fun args M => match topA eltB M args with
  | some (b, [.agg v0]) => .test b (.test (cT.is v0) (.test ((cT.dec v0).atMost 1099511627776) (.ok (.int .i64 (K.table (cT.dec v0))) [])))
  | _ => .fail
theorem k_table_ok : CtrOk Try.prog Gw 20 k_table := by
  refine ⟨fun _ _ => by kernel_rfl, fun args M => ?_⟩
  unfold k_table
  split
  · rename_i b v0 hv
    intro hb hi hw
    exact ctr_top (Γ := ⟨[(14, k_name), (45, k_allT), (48, k_allH)], eqs, [], [], [], mixs, meqs, []⟩) st_Gw ⟨(okCons k_name_ok (okCons k_allT_ok (okCons k_allH_ok okNil))), eqs_ok, okNilB, okNilI, okNilP, mixs_ok, meqs_ok, okNilY⟩ Try.func20 rfl mixed [] (by kernel_rfl) 10000 [.agg (celB (cT.dec v0))] hv hb ⟨Cel.is_dec (hi), trivial⟩ rfl (table_run (cT.dec v0) hw)
  · trivial
end Go.Proofs.Ytnbcemeofhaogaa
