import Derived.Test.YtnbcemeofhaogaaVA2
namespace Go.Proofs.Ytnbcemeofhaogaa
open Go.RowKit Go.Sx
set_option linter.unusedSimpArgs false
set_option linter.unusedVariables false
set_option linter.unnecessarySimpa false
set_option maxRecDepth 100000
set_option maxHeartbeats 4000000
theorem gset_one (c : Nat → Int) (k : Nat) (v : Int) (i : Nat) : gSet (fun i => [FV.int .i64 (c i)]) k (0 - 0) [FV.int .i64 v] i = [FV.int .i64 ((fun i => if i = k then v else c i) i)] := by
  unfold gSet
  by_cases e : i = k
  · subst e; rw [if_pos' rfl]; simp
  · rw [if_neg' e]; simp [e]
theorem w1 : IntKind.i64.wrap 1 = 1 := i64_of (by omega) (by omega)
theorem w2 : IntKind.i64.wrap 2 = 2 := i64_of (by omega) (by omega)
theorem w3 : IntKind.i64.wrap 3 = 3 := i64_of (by omega) (by omega)
theorem w4 : IntKind.i64.wrap 4 = 4 := i64_of (by omega) (by omega)
theorem cont_run (z : Int) : run Try.prog ⟨[], eqs, [], [(91, Try.f91, [])], [], mixs, meqs, []⟩ 10000 [] 0 (bodyOf Try.f81) (initF Try.f81 [.sl 0 1 0 4, .int .i64 z]) [.ro 1 4 (gOf eI [1, 2, 4, 8])] (retK Try.prog Try.f81 fun x _ => eqv x (.bool (z == 1 || z == 2 || z == 4 || z == 8))) := by
  (conv => whnf)
  (repeat' (first | (refine .inl ⟨6, ?_⟩; (conv => whnf)) | (refine And.intro (fun hb => ?_) (fun hb => ?_) <;> (first | contradiction | (conv => whnf))) | (refine And.intro ?_ ?_; rotate_left 1; (conv => whnf))))
  all_goals first | rfl | trivial | (simp_all [eqv, eqv1]; done) | (simp only [show (0 : Int) + 1 = 1 from rfl, show (1 : Int) + 1 = 2 from rfl, show (2 : Int) + 1 = 3 from rfl, show (3 : Int) + 1 = 4 from rfl, w1, w2, w3, w4] at *; first | rfl | trivial | omega | (simp_all [eqv, eqv1]; done) | (simp_all [eqv, eqv1]; omega))
def k_cont : List SV → List Blk → Res := fun args M => match topA eltB M args with
  | some (b, [.one (.row 1 4 g), .one (.int .i64 z)]) => .test b (.test (allIs eI 0 4 g && (elts eI 0 4 g == [1, 2, 4, 8])) (.ok (.bool (z == 1 || z == 2 || z == 4 || z == 8)) []))
  | _ => .fail
theorem k_cont_ok : CtrOk Try.prog Gw 81 k_cont := by
  refine ⟨fun _ _ => by kernel_rfl, fun args M => ?_⟩
  unfold k_cont
  split
  · rename_i b g z hv
    intro hb hc
    simp only [Bool.and_eq_true, beq_iff_eq] at hc
    have he : AVEqL [.one (.row 1 4 g), .one (.int .i64 z)] [.one (.row 1 4 (gOf eI [1, 2, 4, 8])), .one (.int .i64 z)] := by
      refine avcons (FVEq.of_rows fun i hi => ?_) (AVEqL.refl _)
      rw [← hc.2, gOf_elts eI hc.1 i hi, Nat.zero_add]
    exact ctr_top (Γ := ⟨[], eqs, [], [(91, Try.f91, [])], [], mixs, meqs, []⟩) st_Gw ⟨okNil, eqs_ok, okNilB, (okConsI Try.func91 rfl (by kernel_rfl) (fun _ _ => by kernel_rfl) okNilI), okNilP, mixs_ok, meqs_ok, okNilY⟩ Try.func81 rfl mixed [] (by kernel_rfl) 10000 _ hv hb he rfl (cont_run z)
  · trivial
theorem fields_run (t : Ty) (hw : ((decide (t.fs.length ≤ 1099511627776) && (decide (0 ≤ t.cx) && decide (t.cx ≤ 1099511627776)))) = true) : run Try.prog ⟨[(81, k_cont)], eqs, [], [(80, Try.f80, []), (90, Try.f90, [(3, 5, [0, 0, 0, 6, 0, 31, 63])])], [], mixs, meqs, []⟩ 10000 [(8, 10, [0, 0, 3, 7, 15, 0, 0, 96, 224, 480, 1023, 2047])] 0 (bodyOf Try.f56) (initF Try.f56 [.agg [.val (.string t.nm), .int .i64 t.cx, .sl 0 4 0 t.fs.length, .sl 1 3 0 t.ns.length, .int .i64 t.lo, .int .i64 t.hi]]) [.ro 4 t.fs.length (gOf eF t.fs), .ro 3 t.ns.length (gOf eN t.ns)] (retK Try.prog Try.f56 (fun x _ => eqv x (.bool (K.fields t.cx t.fs)))) := by
  simp only [Bool.and_eq_true, decide_eq_true_eq] at hw
  obtain ⟨hl, hc0, hc1⟩ := hw
  (conv => whnf)
  (repeat' (first | (refine And.intro (fun hb => ?_) (fun hb => ?_) <;> (first | contradiction | (conv => whnf))) | (refine And.intro ?_ ?_; rotate_left 1; (conv => whnf))))
  refine .inr ⟨[], [0, 1, 5, 6, 7], fun k vals M => ∃ (j : Nat) (c : Nat → Int), j ≤ t.fs.length ∧ k = t.fs.length - j ∧ K.upto (K.fieldAt t.cx t.fs) j = true ∧ K.cnts t.fs j c ∧ vals = [.yld 6, .ptr 5 0, .sl 0 4 0 t.fs.length, .int .i64 (t.fs.length : Int), .int .i64 (j : Int)] ∧ M = [.ro 4 t.fs.length (gOf eF t.fs), .ro 3 t.ns.length (gOf eN t.ns), .cells 62 [.val (.string t.nm), .int .i64 t.cx, .sl 0 4 0 t.fs.length, .sl 1 3 0 t.ns.length, .int .i64 t.lo, .int .i64 t.hi], .cells 4 [.ff], .mix 132 [.arr 4 1 (fun i => [.int .i64 (c i)])], .cells 59 [.sl 0 4 0 t.fs.length], lpOf [(8, 10, [0, 0, 3, 7, 15, 0, 0, 96, 224, 480, 1023, 2047])] (bodyOf Try.f56) (mkFrom [(0, .agg [.val (.string t.nm), .int .i64 t.cx, .sl 0 4 0 t.fs.length, .sl 1 3 0 t.ns.length, .int .i64 t.lo, .int .i64 t.hi]), (1, .ptr 2 0), (2, .ptr 3 0), (3, .ptr 4 0), (9, .mix [.arr 4 1 (fun _ => [.int .i64 0])]), (10, .ptr 2 2), (11, .sl 0 4 0 t.fs.length), (12, .fn (.func 90) [] [.ptr 5 0])] (fun _ => .tup []) 96 0)], ?_⟩
  conv => whnf
  refine And.intro ⟨t.fs.length, [.ro 4 t.fs.length (gOf eF t.fs), .ro 3 t.ns.length (gOf eN t.ns), .cells 62 [.val (.string t.nm), .int .i64 t.cx, .sl 0 4 0 t.fs.length, .sl 1 3 0 t.ns.length, .int .i64 t.lo, .int .i64 t.hi], .cells 4 [.ff], .mix 132 [.arr 4 1 (fun i => [.int .i64 ((fun _ => 0) i)])], .cells 59 [.sl 0 4 0 t.fs.length], lpOf [(8, 10, [0, 0, 3, 7, 15, 0, 0, 96, 224, 480, 1023, 2047])] (bodyOf Try.f56) (mkFrom [(0, .agg [.val (.string t.nm), .int .i64 t.cx, .sl 0 4 0 t.fs.length, .sl 1 3 0 t.ns.length, .int .i64 t.lo, .int .i64 t.hi]), (1, .ptr 2 0), (2, .ptr 3 0), (3, .ptr 4 0), (9, .mix [.arr 4 1 (fun _ => [.int .i64 0])]), (10, .ptr 2 2), (11, .sl 0 4 0 t.fs.length), (12, .fn (.func 90) [] [.ptr 5 0])] (fun _ => .tup []) 96 0)], (mle_cons ble_refl (mle_cons ble_refl (mle_cons ble_refl (mle_cons ble_refl (mle_cons ble_refl (mle_cons ble_refl (mle_cons ble_refl mle_nil))))))), rfl, rfl, 0, (fun _ => 0), by omega, by omega, rfl, K.cnts_0 _, rfl, rfl⟩ ?_
  rintro k vals M1 ⟨j, c, hj, rfl, he, hc, rfl, rfl⟩
  (conv => whnf)
  (repeat' (first | (refine step_t (by first | rfl | assumption) ?_; (conv => whnf)) | (refine step_f (by first | rfl | assumption) ?_; (conv => whnf)) | (refine step_nt (by assumption) ?_; (conv => whnf)) | (refine step_nf (by assumption) ?_; (conv => whnf)) | (refine step_n (fun hb => ?_) (fun hb => ?_) <;> (first | contradiction | (conv => whnf))) | (refine And.intro (fun hb => ?_) (fun hb => ?_) <;> (first | contradiction | (conv => whnf))) | (refine And.intro ?_ ?_; rotate_left 1; (conv => whnf))))
  all_goals (first | rfl | exact decide_eq_true rfl | skip)
  all_goals have hz : ((j : Int)).toNat = j := by omega
  all_goals have hwj : IntKind.i64.wrap ((j : Int) - 1) = (j : Int) - 1 := i64_of (by omega) (by omega)
  all_goals have hzj : ((j : Int) - 1).toNat = j - 1 := by omega
  all_goals simp only [hz, Nat.zero_add, Nat.sub_zero, hwj, hzj, Bool.and_eq_true, Bool.or_eq_true, Bool.or_eq_false_iff, decide_eq_true_eq, decide_eq_false_iff_not, beq_iff_eq, beq_eq_false_iff_ne, bne_iff_ne, ne_eq] at *
  all_goals try (have hp : 0 < j := (by omega)
                 simp only [K.endAt_is he hc1 hp] at *)
  all_goals try (have hq : K.endAt t.fs j = 0 := K.endAt_0 (by omega))
  all_goals try (have hcz : IntKind.i64.wrap (t.cx - (t.fs.getD j eF.dft).z) = t.cx - (t.fs.getD j eF.dft).z := i64_of (by omega) (by omega)
                 simp only [hcz] at *)
  all_goals first
  | omega
  | (refine ⟨?_, ?_⟩ <;> omega)
  | (refine ⟨?_, ?_, ?_⟩ <;> omega)
  | (have hlt : j < t.fs.length := (by omega)
     refine K.fields_no hlt ?_
     cases hx : K.fieldAt t.cx t.fs j with
     | false => rfl
     | true =>
       exfalso
       obtain ⟨x1, x2, x3, x4, x5, x6, x7, x8⟩ := K.fieldAt_t hx
       first
       | omega
       | (have x9 : (t.fs.getD j eF.dft).w = true := (by assumption)
          rw [x8 (by omega)] at x9
          cases x9))
  | (have hlt : j < t.fs.length := (by omega)
     have hf : K.fieldAt t.cx t.fs j = true := K.fieldAt_of (by omega) (by omega) (by omega) (by assumption) (by omega) (by omega) (by first | exact .inl ⟨by assumption, by assumption⟩ | exact .inr ⟨by assumption, by assumption⟩)
     refine ⟨t.fs.length - (j + 1), [.ro 4 t.fs.length (gOf eF t.fs), .ro 3 t.ns.length (gOf eN t.ns), .cells 62 [.val (.string t.nm), .int .i64 t.cx, .sl 0 4 0 t.fs.length, .sl 1 3 0 t.ns.length, .int .i64 t.lo, .int .i64 t.hi], .cells 4 [.ff], .mix 132 [.arr 4 1 (fun i => [.int .i64 ((fun i => if i = (t.fs.getD j eF.dft).k.toNat then IntKind.i64.wrap (c (t.fs.getD j eF.dft).k.toNat + 1) else c i) i)])], .cells 59 [.sl 0 4 0 t.fs.length], lpOf [(8, 10, [0, 0, 3, 7, 15, 0, 0, 96, 224, 480, 1023, 2047])] (bodyOf Try.f56) (mkFrom [(0, .agg [.val (.string t.nm), .int .i64 t.cx, .sl 0 4 0 t.fs.length, .sl 1 3 0 t.ns.length, .int .i64 t.lo, .int .i64 t.hi]), (1, .ptr 2 0), (2, .ptr 3 0), (3, .ptr 4 0), (9, .mix [.arr 4 1 (fun _ => [.int .i64 0])]), (10, .ptr 2 2), (11, .sl 0 4 0 t.fs.length), (12, .fn (.func 90) [] [.ptr 5 0])] (fun _ => .tup []) 96 0)], [0, 1, 2, 3, 4, 5, 6], by omega, ⟨rfl, rfl⟩, (mle_cons ble_refl (mle_cons ble_refl (mle_cons ble_refl (mle_cons ble_refl (mle_cons (ble_mix ⟨⟨rfl, rfl, fun i hi => gset_one c _ _ i⟩, trivial⟩) (mle_cons ble_refl (mle_cons ble_refl mle_nil))))))), rfl, rfl, j + 1, (fun i => if i = (t.fs.getD j eF.dft).k.toNat then IntKind.i64.wrap (c (t.fs.getD j eF.dft).k.toNat + 1) else c i), by omega, rfl, K.upto_next he hf, K.cnts_next hlt (by omega) hc ⟨by omega, by omega⟩, ?_, rfl⟩
     show [SV.yld 6, .ptr 5 0, .sl 0 4 0 t.fs.length, .int .i64 (t.fs.length : Int), .int .i64 (IntKind.i64.wrap ((j : Int) + 1))] = _
     rw [i64_of (n := (j : Int) + 1) (by omega) (by omega)]; rfl)
  | (obtain rfl : j = t.fs.length := (by omega)
     have hx : c 2 = c 3 := (by assumption)
     rw [K.fields_is he hc, decide_eq_true hx, Bool.true_and]
     rfl)
  | (obtain rfl : j = t.fs.length := (by omega)
     have hx : ¬ c 2 = c 3 := (by assumption)
     rw [K.fields_is he hc, decide_eq_false hx, Bool.false_and])

noncomputable def k_fields : List SV → List Blk → Res := fun args M => match topA eltB M args with
  | some (b, [.agg v0]) => .test b (.test (cY.is v0) (.test ((decide ((cY.dec v0).fs.length ≤ 1099511627776) && (decide (0 ≤ (cY.dec v0).cx) && decide ((cY.dec v0).cx ≤ 1099511627776)))) (.ok (.bool (K.fields (cY.dec v0).cx (cY.dec v0).fs)) [])))
  | _ => .fail
theorem k_fields_ok : CtrOk Try.prog Gw 56 k_fields := by
  refine ⟨fun _ _ => by kernel_rfl, fun args M => ?_⟩
  unfold k_fields
  split
  · rename_i b v0 hv
    intro hb hi hw
    exact ctr_top (Γ := ⟨[(81, k_cont)], eqs, [], [(80, Try.f80, []), (90, Try.f90, [(3, 5, [0, 0, 0, 6, 0, 31, 63])])], [], mixs, meqs, []⟩) st_Gw ⟨(okCons k_cont_ok okNil), eqs_ok, okNilB, (okConsI Try.func80 rfl (by kernel_rfl) (fun _ _ => by kernel_rfl) (okConsI Try.func90 rfl (by kernel_rfl) (fun _ _ => by kernel_rfl) okNilI)), okNilP, mixs_ok, meqs_ok, okNilY⟩ Try.func56 rfl mixed [(8, 10, [0, 0, 3, 7, 15, 0, 0, 96, 224, 480, 1023, 2047])] (by kernel_rfl) 10000 [.agg (celY (cY.dec v0))] hv hb ⟨Cel.is_dec (hi), trivial⟩ rfl (fields_run (cY.dec v0) hw)
  · trivial
end Go.Proofs.Ytnbcemeofhaogaa
