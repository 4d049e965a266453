import Derived.Test.YtnbcemeofhaogaaVA2
import Derived.Test.YtnbcemeofhaogaaSxQ
import Derived.Test.YtnbcemeofhaogaaCelO
namespace Go.Proofs.Ytnbcemeofhaogaa
open Go.RowKit Go.Sx
set_option linter.unusedSimpArgs false
set_option linter.unusedVariables false
set_option linter.unnecessarySimpa false
set_option maxRecDepth 100000
set_option maxHeartbeats 4000000
theorem field_run (t : Ty) (o : Int) (z : Int) (hw : (t.atMost 1099511627776) = true) : run Try.prog ⟨[], eqs, [], [(57, Try.f57, []), (58, Try.f58, [])], [], mixs, meqs, []⟩ 10000 [] 0 (bodyOf Try.f22) (initF Try.f22 [.agg [.val (.string t.nm), .int .i64 t.cx, .sl 0 4 0 t.fs.length, .sl 1 3 0 t.ns.length, .int .i64 t.lo, .int .i64 t.hi], .int .i64 o, .int .i64 z]) [.ro 4 t.fs.length (gOf eF t.fs), .ro 3 t.ns.length (gOf eN t.ns)] (retK Try.prog Try.f22 (TellsC true [.agg [.int .i64 ((K.field t.fs o z).getD eF.dft).o, .int .i64 ((K.field t.fs o z).getD eF.dft).z, .int .u8 ((K.field t.fs o z).getD eF.dft).k, .bool ((K.field t.fs o z).getD eF.dft).w], .one (.bool (K.field t.fs o z).isSome)])) := by
  simp only [Ty.atMost, Bool.and_eq_true, decide_eq_true_eq] at hw
  obtain ⟨hs, hl, hn⟩ := hw
  (conv => whnf)
  (repeat' (first | (refine step_t (by first | rfl | assumption) ?_; (conv => whnf)) | (refine step_f (by first | rfl | assumption) ?_; (conv => whnf)) | (refine step_nt (by assumption) ?_; (conv => whnf)) | (refine step_nf (by assumption) ?_; (conv => whnf)) | (refine step_n (fun hb => ?_) (fun hb => ?_) <;> (first | contradiction | (conv => whnf))) | (refine And.intro (fun hb => ?_) (fun hb => ?_) <;> (first | contradiction | (conv => whnf))) | (refine And.intro (a := (_ : Bool) = true) ?_ ?_; rotate_left 1; (conv => whnf))))
  refine .inr ⟨[], [0, 1, 7, 8], fun k vals M => ∃ j : Nat, j ≤ t.fs.length ∧ k = t.fs.length - j ∧ K.upto (fun i => !((t.fs.getD i eF.dft).o == o && (t.fs.getD i eF.dft).z == z)) j = true ∧ vals = [.sl 0 4 0 t.fs.length, .fn (.func 58) [] [.ptr 3 0, .ptr 4 0], .int .i64 (t.fs.length : Int), .int .i64 (j : Int)] ∧ M = [.ro 4 t.fs.length (gOf eF t.fs), .ro 3 t.ns.length (gOf eN t.ns), .cells 62 [.val (.string t.nm), .int .i64 t.cx, .sl 0 4 0 t.fs.length, .sl 1 3 0 t.ns.length, .int .i64 t.lo, .int .i64 t.hi], .cells 3 [.int .i64 o], .cells 3 [.int .i64 z], .cells 65 [.int .i64 0, .int .i64 0, .int .u8 0, .ff]], ?_⟩
  conv => whnf
  refine And.intro ⟨t.fs.length, [.ro 4 t.fs.length (gOf eF t.fs), .ro 3 t.ns.length (gOf eN t.ns), .cells 62 [.val (.string t.nm), .int .i64 t.cx, .sl 0 4 0 t.fs.length, .sl 1 3 0 t.ns.length, .int .i64 t.lo, .int .i64 t.hi], .cells 3 [.int .i64 o], .cells 3 [.int .i64 z], .cells 65 [.int .i64 0, .int .i64 0, .int .u8 0, .ff]], (mle_cons ble_refl (mle_cons ble_refl (mle_cons ble_refl (mle_cons ble_refl (mle_cons ble_refl (mle_cons ble_refl mle_nil)))))), rfl, rfl, 0, by omega, by omega, K.upto_0, rfl, rfl⟩ ?_
  rintro k vals M1 ⟨j, hj, rfl, he, rfl, rfl⟩
  (conv => whnf)
  (repeat' (first | (refine step_t (by first | rfl | assumption) ?_; (conv => whnf)) | (refine step_f (by first | rfl | assumption) ?_; (conv => whnf)) | (refine step_nt (by assumption) ?_; (conv => whnf)) | (refine step_nf (by assumption) ?_; (conv => whnf)) | (refine step_n (fun hb => ?_) (fun hb => ?_) <;> (first | contradiction | (conv => whnf))) | (refine And.intro (fun hb => ?_) (fun hb => ?_) <;> (first | contradiction | (conv => whnf))) | (refine And.intro (a := (_ : Bool) = true) ?_ ?_; rotate_left 1; (conv => whnf))))
  all_goals have hz : ((j : Int)).toNat = j := by omega
  all_goals simp only [hz, Nat.zero_add, Nat.sub_zero] at *
  all_goals try (have hlt : j < t.fs.length := (by
    have h9 : decide ((j : Int) < (t.fs.length : Int)) = true := (by assumption)
    have h8 := of_decide_eq_true h9
    omega))
  all_goals try (have hjl : j = t.fs.length := (by
    have h9 : decide ((j : Int) < (t.fs.length : Int)) = false := (by assumption)
    have h8 := of_decide_eq_false h9
    omega)
                 have hx := K.field_no (hjl ▸ he))
  all_goals first
  | rfl
  | exact decide_eq_true hlt
  | (rw [Bool.and_eq_true]; exact ⟨decide_eq_true (by omega), decide_eq_true hlt⟩)
  | exact decide_eq_true (by omega)
  | (exfalso
     have h7 : decide ((j : Int) < 0) = true := (by assumption)
     have h8 := of_decide_eq_true h7
     omega)
  | (rw [K.field_is hlt he (by assumption) (by assumption)]
     exact ⟨_, _, _, rfl, .inl (by trivial), rfl, rfl, avcons (FVEqL.refl _) (AVEqL.refl _)⟩)
  | (rw [hx]
     exact ⟨_, _, _, rfl, .inl (by trivial), rfl, rfl, avcons (FVEqL.refl _) (AVEqL.refl _)⟩)
  | (refine ⟨t.fs.length - (j + 1), [.ro 4 t.fs.length (gOf eF t.fs), .ro 3 t.ns.length (gOf eN t.ns), .cells 62 [.val (.string t.nm), .int .i64 t.cx, .sl 0 4 0 t.fs.length, .sl 1 3 0 t.ns.length, .int .i64 t.lo, .int .i64 t.hi], .cells 3 [.int .i64 o], .cells 3 [.int .i64 z], .cells 65 [.int .i64 0, .int .i64 0, .int .u8 0, .ff]], [0, 1, 2, 3, 4, 5], by omega, rfl, (mle_cons ble_refl (mle_cons ble_refl (mle_cons ble_refl (mle_cons ble_refl (mle_cons ble_refl (mle_cons ble_refl mle_nil)))))), rfl, rfl, j + 1, by omega, rfl, K.upto_next he ?_, ?_, rfl⟩
     · simp_all
     · show [SV.sl 0 4 0 t.fs.length, .fn (.func 58) [] [.ptr 3 0, .ptr 4 0], .int .i64 (t.fs.length : Int), .int .i64 (IntKind.i64.wrap ((j : Int) + 1))] = _
       rw [i64_of (n := (j : Int) + 1) (by omega) (by omega)]; rfl)
noncomputable def k_field : List SV → List Blk → Res := fun args M => match topA eltB M args with
  | some (b, [.agg v0, .one (.int .i64 v1), .one (.int .i64 v2)]) => .test b (.test (cY.is v0) (.test ((cY.dec v0).atMost 1099511627776) (.ok (outA true (namA true M.length [.agg [.int .i64 ((K.field (cY.dec v0).fs v1 v2).getD eF.dft).o, .int .i64 ((K.field (cY.dec v0).fs v1 v2).getD eF.dft).z, .int .u8 ((K.field (cY.dec v0).fs v1 v2).getD eF.dft).k, .bool ((K.field (cY.dec v0).fs v1 v2).getD eF.dft).w], .one (.bool (K.field (cY.dec v0).fs v1 v2).isSome)]).1) (namA true M.length [.agg [.int .i64 ((K.field (cY.dec v0).fs v1 v2).getD eF.dft).o, .int .i64 ((K.field (cY.dec v0).fs v1 v2).getD eF.dft).z, .int .u8 ((K.field (cY.dec v0).fs v1 v2).getD eF.dft).k, .bool ((K.field (cY.dec v0).fs v1 v2).getD eF.dft).w], .one (.bool (K.field (cY.dec v0).fs v1 v2).isSome)]).2)))
  | _ => .fail
theorem k_field_ok : CtrOk Try.prog Gw 22 k_field := by
  refine ⟨fun _ _ => by kernel_rfl, fun args M => ?_⟩
  unfold k_field
  split
  · rename_i b v0 v1 v2 hv
    intro hb hi hw
    exact ctr_topc (Γ := ⟨[], eqs, [], [(57, Try.f57, []), (58, Try.f58, [])], [], mixs, meqs, []⟩) st_Gw ⟨okNil, eqs_ok, okNilB, (okConsI Try.func57 rfl (by kernel_rfl) (fun _ _ => by kernel_rfl) (okConsI Try.func58 rfl (by kernel_rfl) (fun _ _ => by kernel_rfl) okNilI)), okNilP, mixs_ok, meqs_ok, okNilY⟩ Try.func22 rfl mixed [] (by kernel_rfl) 10000 [.agg (celY (cY.dec v0)), .one (.int .i64 v1), .one (.int .i64 v2)] hv hb ⟨Cel.is_dec (hi), ⟨FVEq.refl _, ⟨FVEq.refl _, trivial⟩⟩⟩ rfl true _ (field_run (cY.dec v0) v1 v2 hw)
  · trivial
end Go.Proofs.Ytnbcemeofhaogaa
namespace Go.Proofs.Ytnbcemeofhaogaa
open Go.RowKit Go.Sx
set_option linter.unusedSimpArgs false
set_option linter.unusedVariables false
set_option linter.unnecessarySimpa false
set_option maxRecDepth 100000
set_option maxHeartbeats 4000000
theorem small_run (t : Tb) (hw : t.atMost 140737488355328 = true) : run Try.prog ⟨[], eqs, [], [], [], mixs, meqs, []⟩ 10000 [] 0 (bodyOf Try.f19) (initF Try.f19 [.agg [.val (.string t.pr), .sl 0 6 0 t.ts.length, .sl 1 9 0 t.hs.length]]) [.ro 6 t.ts.length (cY.g t.ts), .ro 9 t.hs.length (cH.g t.hs)] (retK Try.prog Try.f19 fun x _ => x = .ff ∨ (x = .tt ∧ t.atMost 300 = true)) := by
  obtain ⟨ht1, ht2⟩ := Tb.atMost_ts hw
  obtain ⟨hh1, hh2⟩ := Tb.atMost_hs hw
  clear hw
  (conv => whnf)
  (repeat' (first | (refine step_t (by first | rfl | assumption) ?_; (conv => whnf)) | (refine step_f (by first | rfl | assumption) ?_; (conv => whnf)) | (refine step_nt (by assumption) ?_; (conv => whnf)) | (refine step_nf (by assumption) ?_; (conv => whnf)) | (refine step_n (fun hb => ?_) (fun hb => ?_) <;> (first | contradiction | (conv => whnf))) | (refine And.intro (fun hb => ?_) (fun hb => ?_) <;> (first | contradiction | (conv => whnf))) | (refine And.intro (a := (_ : Bool) = true) ?_ ?_; rotate_left 1; (conv => whnf))))
  all_goals try exact .inl rfl
  refine .inr ⟨[], [1, 3], fun k vals M => ∃ j : Nat, j ≤ t.ts.length ∧ k = t.ts.length - j ∧ (K.upto (fun i => Ty.atMost 300 (t.ts.getD i cY.dft)) j = true) ∧ vals = [.ptr 2 0, .int .i64 (j : Int)] ∧ M = [.ro 6 t.ts.length (cY.g t.ts), .ro 9 t.hs.length (cH.g t.hs), .cells 54 [.val (.string t.pr), .sl 0 6 0 t.ts.length, .sl 1 9 0 t.hs.length]], ?_⟩
  conv => whnf
  refine And.intro ⟨t.ts.length, [.ro 6 t.ts.length (cY.g t.ts), .ro 9 t.hs.length (cH.g t.hs), .cells 54 [.val (.string t.pr), .sl 0 6 0 t.ts.length, .sl 1 9 0 t.hs.length]], (mle_cons ble_refl (mle_cons ble_refl (mle_cons ble_refl mle_nil))), rfl, rfl, 0, Nat.zero_le _, rfl, K.upto_0, rfl, rfl⟩ ?_
  rintro k vals M1 ⟨j, hj, rfl, hx1, rfl, rfl⟩
  (conv => whnf)
  (repeat' (first | (refine step_t (by first | rfl | assumption) ?_; (conv => whnf)) | (refine step_f (by first | rfl | assumption) ?_; (conv => whnf)) | (refine step_nt (by assumption) ?_; (conv => whnf)) | (refine step_nf (by assumption) ?_; (conv => whnf)) | (refine step_n (fun hb => ?_) (fun hb => ?_) <;> (first | contradiction | (conv => whnf))) | (refine And.intro (fun hb => ?_) (fun hb => ?_) <;> (first | contradiction | (conv => whnf))) | (refine And.intro (a := (_ : Bool) = true) ?_ ?_; rotate_left 1; (conv => whnf))))
  all_goals try (have hzj : ((j : Int)).toNat = j := Int.toNat_natCast _)
  all_goals try (fail_if_success (refine Or.inr ?_)
                 simp only [Int.toNat_natCast, Nat.zero_add, Nat.sub_zero, Bool.and_eq_true, decide_eq_true_eq, decide_eq_false_iff_not, bne_iff_ne, bne_eq_false_iff_eq, beq_iff_eq, beq_eq_false_iff_ne, ne_eq] at *)
  all_goals first
  | trivial
  | rfl
  | omega
  | exact .inl rfl
  | (refine ⟨?_, ?_⟩ <;> omega)
  | (refine ⟨?_, ?_, ?_⟩ <;> omega)
  | (refine ⟨t.ts.length - (j + 1), [.ro 6 t.ts.length (cY.g t.ts), .ro 9 t.hs.length (cH.g t.hs), .cells 54 [.val (.string t.pr), .sl 0 6 0 t.ts.length, .sl 1 9 0 t.hs.length]], [0, 1, 2], by omega, ⟨rfl, rfl⟩, (mle_cons ble_refl (mle_cons ble_refl (mle_cons ble_refl mle_nil))), rfl, rfl, j + 1, by omega, rfl, (K.upto_next hx1 (by unfold Ty.atMost; simp only [Bool.and_eq_true, decide_eq_true_eq]; refine ⟨by omega, by omega, by omega⟩)), ?_, rfl⟩
     show ([.ptr 2 0, .int .i64 (IntKind.i64.wrap ((j : Int) + 1))] : List SV) = _
     rw [i64_of (n := (j : Int) + 1) (by omega) (by omega)]; rfl)
  | skip
  have hts : t.ts.all (Ty.atMost 300) = true := by
    have h9 : decide ((j : Int) < (t.ts.length : Int)) = false := by assumption
    have h8 := of_decide_eq_false h9
    obtain rfl : j = t.ts.length := by omega
    rw [← K.upto_all (Ty.atMost 300) _ cY.dft]; exact hx1
  refine .inr ⟨[], [1, 4], fun k vals M => ∃ j : Nat, j ≤ t.hs.length ∧ k = t.hs.length - j ∧ (K.upto (fun i => Hp.atMost 300 (t.hs.getD i cH.dft)) j = true) ∧ vals = [.ptr 2 0, .int .i64 (j : Int)] ∧ M = [.ro 6 t.ts.length (cY.g t.ts), .ro 9 t.hs.length (cH.g t.hs), .cells 54 [.val (.string t.pr), .sl 0 6 0 t.ts.length, .sl 1 9 0 t.hs.length]], ?_⟩
  conv => whnf
  refine And.intro ⟨t.hs.length, [.ro 6 t.ts.length (cY.g t.ts), .ro 9 t.hs.length (cH.g t.hs), .cells 54 [.val (.string t.pr), .sl 0 6 0 t.ts.length, .sl 1 9 0 t.hs.length]], (mle_cons ble_refl (mle_cons ble_refl (mle_cons ble_refl mle_nil))), rfl, rfl, 0, Nat.zero_le _, rfl, K.upto_0, rfl, rfl⟩ ?_
  rintro k vals M1 ⟨j, hj, rfl, hx2, rfl, rfl⟩
  (conv => whnf)
  (repeat' (first | (refine step_t (by first | rfl | assumption) ?_; (conv => whnf)) | (refine step_f (by first | rfl | assumption) ?_; (conv => whnf)) | (refine step_nt (by assumption) ?_; (conv => whnf)) | (refine step_nf (by assumption) ?_; (conv => whnf)) | (refine step_n (fun hb => ?_) (fun hb => ?_) <;> (first | contradiction | (conv => whnf))) | (refine And.intro (fun hb => ?_) (fun hb => ?_) <;> (first | contradiction | (conv => whnf))) | (refine And.intro (a := (_ : Bool) = true) ?_ ?_; rotate_left 1; (conv => whnf))))
  all_goals try (have hhs : t.hs.all (Hp.atMost 300) = true := (by
    have h9 : decide ((j : Int) < (t.hs.length : Int)) = false := (by assumption)
    have h8 := of_decide_eq_false h9
    obtain rfl : j = t.hs.length := (by omega)
    rw [← K.upto_all (Hp.atMost 300) _ cH.dft]; exact hx2))
  all_goals try (have hzj : ((j : Int)).toNat = j := Int.toNat_natCast _)
  all_goals try (fail_if_success (refine Or.inr ?_)
                 simp only [Int.toNat_natCast, Nat.zero_add, Nat.sub_zero, Bool.and_eq_true, decide_eq_true_eq, decide_eq_false_iff_not, bne_iff_ne, bne_eq_false_iff_eq, beq_iff_eq, beq_eq_false_iff_ne, ne_eq] at *)
  all_goals first
  | trivial
  | rfl
  | omega
  | exact .inl rfl
  | (refine ⟨?_, ?_⟩ <;> omega)
  | (refine ⟨?_, ?_, ?_⟩ <;> omega)
  | (refine .inr ⟨rfl, ?_⟩
     simp only [decide_eq_false_iff_not] at *
     unfold Tb.atMost
     rw [hts, hhs]
     simp only [Bool.and_eq_true, decide_eq_true_eq, and_true]
     refine ⟨by omega, by omega, by omega⟩)
  | skip
  refine .inr ⟨[], [1, 4, 5], fun k vals M => ∃ i : Nat, i ≤ (t.hs.getD (0 + (j : Int).toNat) cH.dft).args.length ∧ k = (t.hs.getD (0 + (j : Int).toNat) cH.dft).args.length - i ∧ (K.upto (fun q => Ag.atMost 300 ((t.hs.getD (0 + (j : Int).toNat) cH.dft).args.getD q cA.dft)) i = true) ∧ vals = [.ptr 2 0, .int .i64 (j : Int), .int .i64 (i : Int)] ∧ M = [.ro 6 t.ts.length (cY.g t.ts), .ro 9 t.hs.length (cH.g t.hs), .cells 54 [.val (.string t.pr), .sl 0 6 0 t.ts.length, .sl 1 9 0 t.hs.length], .dead], ?_⟩
  conv => whnf
  refine And.intro ⟨(t.hs.getD (0 + (j : Int).toNat) cH.dft).args.length, [.ro 6 t.ts.length (cY.g t.ts), .ro 9 t.hs.length (cH.g t.hs), .cells 54 [.val (.string t.pr), .sl 0 6 0 t.ts.length, .sl 1 9 0 t.hs.length], .dead], (mle_cons ble_refl (mle_cons ble_refl (mle_cons ble_refl (mle_cons ble_dead mle_nil)))), rfl, rfl, 0, Nat.zero_le _, rfl, K.upto_0, rfl, rfl⟩ ?_
  rintro k vals M1 ⟨i, hi, rfl, hx3, rfl, rfl⟩
  (conv => whnf)
  (repeat' (first | (refine step_t (by first | rfl | assumption) ?_; (conv => whnf)) | (refine step_f (by first | rfl | assumption) ?_; (conv => whnf)) | (refine step_nt (by assumption) ?_; (conv => whnf)) | (refine step_nf (by assumption) ?_; (conv => whnf)) | (refine step_n (fun hb => ?_) (fun hb => ?_) <;> (first | contradiction | (conv => whnf))) | (refine And.intro (fun hb => ?_) (fun hb => ?_) <;> (first | contradiction | (conv => whnf))) | (refine And.intro (a := (_ : Bool) = true) ?_ ?_; rotate_left 1; (conv => whnf))))
  all_goals try (have hal : (t.hs.getD j cH.dft).args.length ≤ 140737488355328 := Hp.atMost_len (all_getD hh2 (by first | assumption | (simp only [decide_eq_true_eq] at *; omega)) _))
  all_goals try (have hzj : ((j : Int)).toNat = j := Int.toNat_natCast _)
  all_goals try (have hzi : ((i : Int)).toNat = i := Int.toNat_natCast _)
  all_goals try (fail_if_success (refine Or.inr ?_)
                 simp only [Int.toNat_natCast, Nat.zero_add, Nat.sub_zero, Bool.and_eq_true, decide_eq_true_eq, decide_eq_false_iff_not, bne_iff_ne, bne_eq_false_iff_eq, beq_iff_eq, beq_eq_false_iff_ne, ne_eq] at *)
  all_goals first
  | trivial
  | rfl
  | omega
  | exact .inl rfl
  | (refine ⟨?_, ?_⟩ <;> omega)
  | (refine ⟨?_, ?_, ?_⟩ <;> omega)
  | (refine ⟨(t.hs.getD j cH.dft).args.length - (i + 1), [.ro 6 t.ts.length (cY.g t.ts), .ro 9 t.hs.length (cH.g t.hs), .cells 54 [.val (.string t.pr), .sl 0 6 0 t.ts.length, .sl 1 9 0 t.hs.length], .dead], [0, 1, 2, 3], by omega, ⟨rfl, rfl⟩, (mle_cons ble_refl (mle_cons ble_refl (mle_cons ble_refl (mle_cons ble_dead mle_nil)))), rfl, rfl, i + 1, by omega, rfl, (K.upto_next hx3 (by unfold Ag.atMost; simp only [decide_eq_true_eq]; omega)), ?_, rfl⟩
     show ([.ptr 2 0, .int .i64 (j : Int), .int .i64 (IntKind.i64.wrap ((i : Int) + 1))] : List SV) = _
     rw [i64_of (n := (i : Int) + 1) (by omega) (by omega)]; rfl)
  | (have hai : (t.hs.getD j cH.dft).args.all (Ag.atMost 300) = true := (by
       obtain rfl : i = (t.hs.getD j cH.dft).args.length := (by omega)
       rw [← K.upto_all (Ag.atMost 300) _ cA.dft]; exact hx3)
     refine ⟨t.hs.length - (j + 1), [.ro 6 t.ts.length (cY.g t.ts), .ro 9 t.hs.length (cH.g t.hs), .cells 54 [.val (.string t.pr), .sl 0 6 0 t.ts.length, .sl 1 9 0 t.hs.length]], [0, 1, 2], by omega, ⟨rfl, rfl⟩, (mle_cons ble_refl (mle_cons ble_refl (mle_cons ble_refl mle_nil))), rfl, rfl, j + 1, by omega, rfl, (K.upto_next hx2 (by unfold Hp.atMost; rw [hai, Bool.and_true]; exact decide_eq_true (by omega))), ?_, rfl⟩
     show ([.ptr 2 0, .int .i64 (IntKind.i64.wrap ((j : Int) + 1))] : List SV) = _
     rw [i64_of (n := (j : Int) + 1) (by omega) (by omega)]; rfl)
theorem anyS_is {t : Tb} {x : SV} (h : x = .ff ∨ (x = .tt ∧ t.atMost 300 = true)) {K : SV → Prop} (ht : t.atMost 300 = true → K .tt) (hf : K .ff) : ∃ y, (∀ ρ ρ' : Val, x.den ρ = y.den ρ') ∧ K y := by
  rcases h with rfl | ⟨rfl, h⟩
  · exact ⟨.ff, fun _ _ => rfl, hf⟩
  · exact ⟨.tt, fun _ _ => rfl, ht h⟩
noncomputable def k_small : YC := fun args M K => match topA eltB M args with
  | some (b, [.agg v]) => b = true ∧ (cT.is v && (cT.dec v).atMost 140737488355328) = true ∧ ((cT.dec v).atMost 300 = true → K none .tt M) ∧ (true = true → K none .ff M)
  | _ => False
theorem k_small_ok : YCtrOk Try.prog Gw 19 k_small := by
  refine ⟨fun _ _ => by kernel_rfl, fun args M K h hsc hwf => ?_⟩
  unfold k_small at h
  split at h
  · rename_i b v hv
    obtain ⟨hb, hc, ht, hf⟩ := h
    simp only [Bool.and_eq_true] at hc
    exact yctr_top (Γ := ⟨[], eqs, [], [], [], mixs, meqs, []⟩) st_Gw ⟨okNil, eqs_ok, okNilB, okNilI, okNilP, mixs_ok, meqs_ok, okNilY⟩ Try.func19 rfl mixed [] (by kernel_rfl) 10000 [.agg (celB (cT.dec v))] hv hb ⟨Cel.is_dec hc.1, trivial⟩ rfl _ (small_run (cT.dec v) hc.2) (fun x hx => anyS_is hx (K := fun y => K none y M) ht (hf rfl)) hwf
  · exact h.elim
end Go.Proofs.Ytnbcemeofhaogaa
namespace Go.Proofs.Ytnbcemeofhaogaa
open Go.RowKit Go.Sx
set_option linter.unusedSimpArgs false
set_option linter.unusedVariables false
set_option linter.unnecessarySimpa false
set_option maxRecDepth 100000
set_option maxHeartbeats 4000000
open Go.ChangeShapes Go.WideShapes Go.Deep
section
variable {H : Type} {enc : TypeId × Value → H} {W : World}
theorem ty_A : ∃ f0 f1 f2 f3 : Field, Try.prog.underlying 40 = some (.struct #[f0, f1, f2, f3]) ∧ (f0.offset = 0 ∧ f1.offset = 1 ∧ f2.offset = 2 ∧ f3.offset = 3) ∧ (Try.prog.cellsOf f0.type = 1 ∧ Try.prog.cellsOf f1.type = 1 ∧ Try.prog.cellsOf f2.type = 1 ∧ Try.prog.cellsOf f3.type = 1) ∧
    Try.prog.underlying f0.type = some (.int .u8) ∧ Try.prog.underlying f1.type = some (.int .i64) ∧ Try.prog.underlying f2.type = some (.int .i64) ∧ f3.type = 38 :=
  ⟨_, _, _, _, Try.underlying40, ⟨rfl, rfl, rfl, rfl⟩, ⟨by kernel_rfl, by kernel_rfl, by kernel_rfl, by kernel_rfl⟩, by kernel_rfl, by kernel_rfl, by kernel_rfl, rfl⟩
theorem ty_H : ∃ f0 f1 f2 f3 f4 f5 : Field, Try.prog.underlying 29 = some (.struct #[f0, f1, f2, f3, f4, f5]) ∧ (f0.offset = 0 ∧ f1.offset = 1 ∧ f2.offset = 2 ∧ f3.offset = 3 ∧ f4.offset = 4 ∧ f5.offset = 5) ∧ (Try.prog.cellsOf f0.type = 1 ∧ Try.prog.cellsOf f1.type = 1 ∧ Try.prog.cellsOf f2.type = 1 ∧ Try.prog.cellsOf f3.type = 1 ∧ Try.prog.cellsOf f4.type = 1 ∧ Try.prog.cellsOf f5.type = 4) ∧
    Try.prog.underlying f0.type = some (.int .i64) ∧ Try.prog.underlying f1.type = some (.int .i64) ∧ Try.prog.underlying f2.type = some (.int .i64) ∧ Try.prog.underlying f3.type = some (.int .u8) ∧ f4.type = 24 ∧ f5.type = 27 :=
  ⟨_, _, _, _, _, _, Try.underlying29, ⟨rfl, rfl, rfl, rfl, rfl, rfl⟩, ⟨by kernel_rfl, by kernel_rfl, by kernel_rfl, by kernel_rfl, by kernel_rfl, by kernel_rfl⟩, by kernel_rfl, by kernel_rfl, by kernel_rfl, by kernel_rfl, rfl, rfl⟩
theorem ty_P : ∃ f0 f1 f2 f3 f4 f5 : Field, Try.prog.underlying 62 = some (.struct #[f0, f1, f2, f3, f4, f5]) ∧ (f0.offset = 0 ∧ f1.offset = 1 ∧ f2.offset = 2 ∧ f3.offset = 3 ∧ f4.offset = 4 ∧ f5.offset = 5) ∧ (Try.prog.cellsOf f0.type = 1 ∧ Try.prog.cellsOf f1.type = 1 ∧ Try.prog.cellsOf f2.type = 1 ∧ Try.prog.cellsOf f3.type = 1 ∧ Try.prog.cellsOf f4.type = 1 ∧ Try.prog.cellsOf f5.type = 1) ∧
    Try.prog.underlying f0.type = some .string ∧ Try.prog.underlying f1.type = some (.int .i64) ∧ f2.type = 59 ∧ f3.type = 60 ∧ Try.prog.underlying f4.type = some (.int .i64) ∧ Try.prog.underlying f5.type = some (.int .i64) :=
  ⟨_, _, _, _, _, _, Try.underlying62, ⟨rfl, rfl, rfl, rfl, rfl, rfl⟩, ⟨by kernel_rfl, by kernel_rfl, by kernel_rfl, by kernel_rfl, by kernel_rfl, by kernel_rfl⟩, by kernel_rfl, by kernel_rfl, rfl, rfl, by kernel_rfl, by kernel_rfl⟩
theorem reads_B : Reads enc Try.prog W 42 1 cB (fun _ => true) := by
  refine ⟨by kernel_rfl, Nat.le_refl _, by decide +kernel, fun n cs x h => ?_⟩
  obtain ⟨k, rfl, _⟩ := DataW.trod_int (k := .u8) (by kernel_rfl) h
  exact ⟨k, [.int .u8 k], rfl, ⟨rfl, fun x hx => by simp at hx; subst hx; rfl⟩, RepL.refl rfl, fun _ => rfl⟩
theorem reads_A : Reads enc Try.prog W 40 4 cA (Ag.atMost 140737488355328) := by
  refine ⟨by kernel_rfl, by omega, by decide +kernel, fun n cs x h => ?_⟩
  obtain ⟨f0, f1, f2, f3, hu, ⟨o0, o1, o2, o3⟩, ⟨c0, c1, c2, c3⟩, u0, u1, u2, t3⟩ := ty_A
  obtain ⟨xs, n', rfl, rfl, hl, hxl, hf⟩ := DataW.trod_struct hu h
  rw [show Try.prog.cellsOf 40 = 4 by kernel_rfl] at hl
  match cs, hl with
  | [v0, v1, v2, v3], _ =>
  have hxl' : xs.length = 4 := hxl
  match xs, hxl' with
  | [y0, y1, y2, y3], _ =>
  have g0 := hf 0 f0 rfl
  have g1 := hf 1 f1 rfl
  have g2 := hf 2 f2 rfl
  have g3 := hf 3 f3 rfl
  rw [o0, c0] at g0; rw [o1, c1] at g1; rw [o2, c2] at g2; rw [o3, c3, t3] at g3
  obtain ⟨k0, e0, _⟩ := DataW.trod_int u0 g0
  obtain ⟨k1, e1, _⟩ := DataW.trod_int u1 g1
  obtain ⟨k2, e2, _⟩ := DataW.trod_int u2 g2
  simp only [List.drop_zero, List.take_succ_cons, List.take_zero, List.drop_succ_cons, List.cons.injEq, and_true] at e0 e1 e2
  subst e0 e1 e2
  obtain ⟨L, hL, hw⟩ := rows_of (tS := 38) (e := 42) (by kernel_rfl) reads_B g3
  refine ⟨⟨k0, k1, k2, L⟩, [.int .u8 k0, .int .i64 k1, .int .i64 k2, .val v3], rfl, ⟨rfl, fun x hx => ?_⟩, repL_cons (.flat rfl) (repL_cons (.flat rfl) (repL_cons (.flat rfl) (repL_cons hL repL_nil))), fun hq => ?_⟩
  · simp only [List.mem_cons, List.not_mem_nil, or_false] at hx
    rcases hx with rfl | rfl | rfl | rfl
    · rfl
    · rfl
    · rfl
    · exact rep_one hL
  · simp only [List.map_cons, List.map_nil, DataW.weights, hu, DataW.weightsEach, t3] at hq
    have := (hw fun q h => hq q (by simp [h])).1
    simpa [Ag.atMost] using this
theorem reads_H : Reads enc Try.prog W 29 9 cH (Hp.atMost 140737488355328) := by
  refine ⟨by kernel_rfl, by omega, by decide +kernel, fun n cs x h => ?_⟩
  obtain ⟨f0, f1, f2, f3, f4, f5, hu, ⟨o0, o1, o2, o3, o4, o5⟩, ⟨c0, c1, c2, c3, c4, c5⟩, u0, u1, u2, u3, t4, t5⟩ := ty_H
  obtain ⟨xs, n', rfl, rfl, hl, hxl, hf⟩ := DataW.trod_struct hu h
  rw [show Try.prog.cellsOf 29 = 9 by kernel_rfl] at hl
  match cs, hl with
  | [v0, v1, v2, v3, v4, v5, v6, v7, v8], _ =>
  have hxl' : xs.length = 6 := hxl
  match xs, hxl' with
  | [y0, y1, y2, y3, y4, y5], _ =>
  have g0 := hf 0 f0 rfl
  have g1 := hf 1 f1 rfl
  have g2 := hf 2 f2 rfl
  have g3 := hf 3 f3 rfl
  have g4 := hf 4 f4 rfl
  have g5 := hf 5 f5 rfl
  rw [o0, c0] at g0; rw [o1, c1] at g1; rw [o2, c2] at g2; rw [o3, c3] at g3; rw [o4, c4, t4] at g4; rw [o5, c5, t5] at g5
  obtain ⟨k0, e0, _⟩ := DataW.trod_int u0 g0
  obtain ⟨k1, e1, _⟩ := DataW.trod_int u1 g1
  obtain ⟨k2, e2, _⟩ := DataW.trod_int u2 g2
  obtain ⟨k3, e3, _⟩ := DataW.trod_int u3 g3
  simp only [List.drop_zero, List.take_succ_cons, List.take_zero, List.drop_succ_cons, List.cons.injEq, and_true] at e0 e1 e2 e3
  subst e0 e1 e2 e3
  obtain ⟨l, hle, r0, m0, rfl, _, r1, m1, rfl, _, r2, m2, rfl, _, r3, m3, rfl, _, rfl⟩ := flatT_ok 4 n' 27 [.int .u8, .int .i64, .int .i64, .int .i64] _ _ (by kernel_rfl) g5
  simp only [List.drop_zero, List.take_succ_cons, List.take_zero, List.drop_succ_cons, List.map_cons, List.map_nil, FV.den, List.cons.injEq, and_true] at hle
  obtain ⟨rfl, rfl, rfl, rfl⟩ := hle
  obtain ⟨L, hL, hw⟩ := rows_of (tS := 24) (e := 40) (by kernel_rfl) reads_A g4
  refine ⟨⟨k0, k1, k2, k3, L, r0, r1, r2, r3⟩, [.int .i64 k0, .int .i64 k1, .int .i64 k2, .int .u8 k3, .val v4, .int .u8 r0, .int .i64 r1, .int .i64 r2, .int .i64 r3], rfl, ⟨rfl, fun x hx => ?_⟩, repL_cons (.flat rfl) (repL_cons (.flat rfl) (repL_cons (.flat rfl) (repL_cons (.flat rfl) (repL_cons hL (RepL.refl rfl))))), fun hq => ?_⟩
  · simp only [List.mem_cons, List.not_mem_nil, or_false] at hx
    rcases hx with rfl | rfl | rfl | rfl | rfl | rfl | rfl | rfl | rfl
    · rfl
    · rfl
    · rfl
    · rfl
    · exact rep_one hL
    · rfl
    · rfl
    · rfl
    · rfl
  · simp only [List.map_cons, List.map_nil, DataW.weights, hu, DataW.weightsEach, t4] at hq
    obtain ⟨a1, a2⟩ := hw fun q h => hq q (by simp [h])
    simp only [Hp.atMost, Bool.and_eq_true, decide_eq_true_eq]
    exact ⟨a1, a2⟩
theorem reads_F : Reads enc Try.prog W 65 4 cF (fun _ => true) :=
  reads_flat (ks := [.int .i64, .int .i64, .int .u8, .bool]) 4 (by kernel_rfl) (by kernel_rfl) (by decide) (by decide +kernel) fun l h => by
    obtain ⟨a, m0, rfl, _, b, m1, rfl, _, c, m2, rfl, _, d, m3, rfl, rfl⟩ := h
    exact ⟨⟨a, b, c, d⟩, rfl⟩
theorem reads_N : Reads enc Try.prog W 102 3 cN (fun _ => true) :=
  reads_flat (ks := [.int .i64, .int .i64, .int .i64]) 4 (by kernel_rfl) (by kernel_rfl) (by decide) (by decide +kernel) fun l h => by
    obtain ⟨a, m0, rfl, _, b, m1, rfl, _, c, m2, rfl, _, rfl⟩ := h
    exact ⟨⟨a, b, c⟩, rfl⟩
/-- A type's value. -/
theorem open_P {n : Nat} {cs : List Value} {x : DataW H × List MemPlace} (h : DataW.trod enc Try.prog W 0 (fun _ => true) true n 62 cs = some x) :
    ∃ (nm : ByteArray) (cx lo hi : Int) (fl : List Fd) (ns : List Nd) (v2 v3 : Value), cs = [.string nm, .int .i64 cx, v2, v3, .int .i64 lo, .int .i64 hi] ∧ Rep (Low W) W (.row 4 fl.length (cF.g fl)) (.val v2) ∧ Rep (Low W) W (.row 3 ns.length (cN.g ns)) (.val v3) ∧
      ((∀ q ∈ x.1.weights Try.prog 62, q ≤ reachBytes) → nm.size ≤ 140737488355328 ∧ fl.length ≤ 140737488355328 ∧ ns.length ≤ 140737488355328) := by
  obtain ⟨f0, f1, f2, f3, f4, f5, hu, ⟨o0, o1, o2, o3, o4, o5⟩, ⟨c0, c1, c2, c3, c4, c5⟩, u0, u1, t2, t3, u4, u5⟩ := ty_P
  obtain ⟨xs, n', rfl, rfl, hl, hxl, hf⟩ := DataW.trod_struct hu h
  rw [show Try.prog.cellsOf 62 = 6 by kernel_rfl] at hl
  match cs, hl with
  | [v0, v1, v2, v3, v4, v5], _ =>
  have hxl' : xs.length = 6 := hxl
  match xs, hxl' with
  | [y0, y1, y2, y3, y4, y5], _ =>
  have g0 := hf 0 f0 rfl
  have g1 := hf 1 f1 rfl
  have g2 := hf 2 f2 rfl
  have g3 := hf 3 f3 rfl
  have g4 := hf 4 f4 rfl
  have g5 := hf 5 f5 rfl
  rw [o0, c0] at g0; rw [o1, c1] at g1; rw [o2, c2, t2] at g2; rw [o3, c3, t3] at g3; rw [o4, c4] at g4; rw [o5, c5] at g5
  obtain ⟨nm, e0, x0, _⟩ := DataW.trod_string u0 g0
  obtain ⟨k1, e1, _⟩ := DataW.trod_int u1 g1
  obtain ⟨k4, e4, _⟩ := DataW.trod_int u4 g4
  obtain ⟨k5, e5, _⟩ := DataW.trod_int u5 g5
  simp only [List.drop_zero, List.take_succ_cons, List.take_zero, List.drop_succ_cons, List.cons.injEq, and_true] at e0 e1 e4 e5
  subst e0 e1 e4 e5
  obtain ⟨fl, hfl, hwf⟩ := rows_of (tS := 59) (e := 65) (by kernel_rfl) reads_F g2
  obtain ⟨ns, hns, hwn⟩ := rows_of (tS := 60) (e := 102) (by kernel_rfl) reads_N g3
  refine ⟨nm, k1, k4, k5, fl, ns, v2, v3, rfl, hfl, hns, fun hq => ?_⟩
  simp only [List.map_cons, List.map_nil, DataW.weights, hu, DataW.weightsEach, t2, t3, x0] at hq
  have h1 := (hwf fun q h => hq q (by simp [h])).1
  have h2 := (hwn fun q h => hq q (by simp [h])).1
  have h3 := hq nm.data.toList.length (List.mem_append_left _ (List.mem_singleton.2 rfl))
  unfold reachBytes at h3
  have h4 : nm.data.toList.length = nm.size := by rw [Array.length_toList]; rfl
  exact ⟨by omega, h1, h2⟩
theorem reads_P : Reads enc Try.prog W 62 6 cY (Ty.atMost 140737488355328) := by
  refine ⟨by kernel_rfl, by omega, by decide +kernel, fun n cs x h => ?_⟩
  obtain ⟨nm, cx, lo, hi, fl, ns, v2, v3, rfl, hfl, hns, hw⟩ := open_P h
  refine ⟨⟨nm, cx, fl, ns, lo, hi⟩, [.val (.string nm), .int .i64 cx, .val v2, .val v3, .int .i64 lo, .int .i64 hi], rfl, ⟨rfl, fun x hx => ?_⟩, repL_cons (.flat rfl) (repL_cons (.flat rfl) (repL_cons hfl (repL_cons hns (repL_cons (.flat rfl) (repL_cons (.flat rfl) repL_nil))))), fun hq => ?_⟩
  · simp only [List.mem_cons, List.not_mem_nil, or_false] at hx
    rcases hx with rfl | rfl | rfl | rfl | rfl | rfl
    · rfl
    · rfl
    · exact rep_one hfl
    · exact rep_one hns
    · rfl
    · rfl
  · obtain ⟨a, b, c⟩ := hw hq
    simp only [Ty.atMost, Bool.and_eq_true, decide_eq_true_eq]
    exact ⟨a, b, c⟩
def cL : Cel Bool := eL.toCel fun _ => rfl
theorem reads_L : Reads enc Try.prog W 4 1 cL (fun _ => true) :=
  reads_flat (ks := [.bool]) 4 (by kernel_rfl) (by kernel_rfl) (by decide) (by decide +kernel) fun l h => by
    obtain ⟨b, m0, rfl, rfl⟩ := h
    exact ⟨b, rfl⟩
theorem ty_T : ∃ f0 f1 f2 : Field, Try.prog.underlying 54 = some (.struct #[f0, f1, f2]) ∧ (f0.offset = 0 ∧ f1.offset = 1 ∧ f2.offset = 2) ∧ (Try.prog.cellsOf f0.type = 1 ∧ Try.prog.cellsOf f1.type = 1 ∧ Try.prog.cellsOf f2.type = 1) ∧
    Try.prog.underlying f0.type = some .string ∧ f1.type = 51 ∧ f2.type = 52 :=
  ⟨_, _, _, Try.underlying54, ⟨rfl, rfl, rfl⟩, ⟨by kernel_rfl, by kernel_rfl, by kernel_rfl⟩, by kernel_rfl, rfl, rfl⟩
/-- A table's value. -/
theorem open_T {n : Nat} {cs : List Value} {x : DataW H × List MemPlace} (h : DataW.trod enc Try.prog W 0 (fun _ => true) true n 54 cs = some x) :
    ∃ (pr : ByteArray) (ts : List Ty) (hs : List Hp) (v1 v2 : Value), cs = [.string pr, v1, v2] ∧ Rep (Low W) W (.row 6 ts.length (cY.g ts)) (.val v1) ∧ Rep (Low W) W (.row 9 hs.length (cH.g hs)) (.val v2) ∧
      ((∀ q ∈ x.1.weights Try.prog 54, q ≤ reachBytes) → (⟨pr, ts, hs⟩ : Tb).atMost 140737488355328 = true) := by
  obtain ⟨f0, f1, f2, hu, ⟨o0, o1, o2⟩, ⟨c0, c1, c2⟩, u0, t1, t2⟩ := ty_T
  obtain ⟨xs, n', rfl, rfl, hl, hxl, hf⟩ := DataW.trod_struct hu h
  rw [show Try.prog.cellsOf 54 = 3 by kernel_rfl] at hl
  match cs, hl with
  | [v0, v1, v2], _ =>
  have hxl' : xs.length = 3 := hxl
  match xs, hxl' with
  | [y0, y1, y2], _ =>
  have g0 := hf 0 f0 rfl
  have g1 := hf 1 f1 rfl
  have g2 := hf 2 f2 rfl
  rw [o0, c0] at g0; rw [o1, c1, t1] at g1; rw [o2, c2, t2] at g2
  obtain ⟨nm, e0, x0, _⟩ := DataW.trod_string u0 g0
  simp only [List.drop_zero, List.take_succ_cons, List.take_zero, List.drop_succ_cons, List.cons.injEq, and_true] at e0
  subst e0
  obtain ⟨ts, hts, hwt⟩ := rows_of (tS := 51) (e := 62) (by kernel_rfl) reads_P g1
  obtain ⟨hs, hhs, hwh⟩ := rows_of (tS := 52) (e := 29) (by kernel_rfl) reads_H g2
  refine ⟨nm, ts, hs, v1, v2, rfl, hts, hhs, fun hq => ?_⟩
  simp only [List.map_cons, List.map_nil, DataW.weights, hu, DataW.weightsEach, t1, t2, x0] at hq
  have h1 := hwt fun q h => hq q (by simp [h])
  have h2 := hwh fun q h => hq q (by simp [h])
  have h3 := hq nm.data.toList.length (List.mem_append_left _ (List.mem_singleton.2 rfl))
  unfold reachBytes at h3
  have h4 : nm.data.toList.length = nm.size := by rw [Array.length_toList]; rfl
  simp only [Tb.atMost, Bool.and_eq_true, decide_eq_true_eq]
  exact ⟨by omega, h1, h2⟩
end
/-- The statement's form, with the arguments' sizes handed on. -/
theorem returns_sized {H : Type} {enc : TypeId × Value → H} {a : Assume} {C : Checked} {os : Os} {f : FuncId} {fn : Func} {s : ChangeSpec} {conds : List PathCond} {apart fresh handsOn again : Bool}
    (own : ownKnob C.prog.godebug = none) (started : os.Started) (noInit : C.prog.inits.idxOf? f = none) (hfn : C.prog.funcs[f]? = some fn)
    (witness : ∃ (w : World) (tape : Tape) (i : Input), w.os = os ∧ (w.forCall tape i).Shaped C.prog ∧ i.vars = [] ∧ Input.okWide C.prog (w.forCall tape i) .any w.heap.size f i ∧
      s.pre6 enc C.prog fn conds apart (w.forCall tape i).memory i.args ∧ a.holds C.prog (lone (Frame.enter C.prog f i.args .normal) [] (w.forCall tape i)))
    (contract : ∀ (W : World) (base : Nat) (args : Array Value) (ds gs : List (DataW H)) (before : List MemPlace),
      (∀ (j : Nat) t v, fn.params[j]? = some t → args[j]? = some v → Value.okWide C.prog W .any base t v) →
      DataW.Whole enc C.prog fn.params.toList s.vars apart W args.toList ds gs before →
      (∀ q ∈ DataW.weightsEach C.prog (fn.params.toList ++ s.plain.varTypes C.prog) (ds ++ gs), q ≤ reachBytes) →
      Calls C.prog f args W fun e W' => ∃ v, e = .returned v ∧ s.post enc C.prog fn apart fresh handsOn again W args v W') :
    ReturnsInHanded a C os f .any (s.pre6 enc C.prog fn conds apart) (s.post enc C.prog fn apart fresh handsOn again) := by
  refine returnsInHanded_of_calls own started noInit witness fun w tape i _ _ _ hok hpre _ => ?_
  obtain ⟨_, _, _, fn', hfn', _, _, _, _, hval⟩ := hok
  obtain rfl : fn' = fn := Option.some.inj (hfn'.symm.trans hfn)
  obtain ⟨⟨ds, gs, before, hw, _⟩, hz⟩ := hpre
  have hq := hz.weights hw
  refine (contract (w.forCall tape i) w.heap.size i.args ds gs before hval (DataW.Whole.of_heap (w' := w.forCall tape i) (by rfl) hw) fun q hq' => ?_).mono fun e W' ⟨v, he, hp⟩ => ?_
  · have := List.all_eq_true.1 hq q hq'
    simpa using this
  · subst he
    exact ChangeSpec.post_blind hp
end Go.Proofs.Ytnbcemeofhaogaa
