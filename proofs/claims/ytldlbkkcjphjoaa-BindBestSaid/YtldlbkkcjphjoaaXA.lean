import Derived.Test.YtldlbkkcjphjoaaX1
namespace Go.Proofs.Ytldlbkkcjphjoaa
open Go.RowKit Go.Sx
set_option linter.unusedSimpArgs false
set_option linter.unusedVariables false
set_option linter.unnecessarySimpa false
set_option maxRecDepth 100000
set_option maxHeartbeats 4000000
theorem gset_one (c : Nat → Int) (k : Nat) (v : Int) (i : Nat) : gSet (fun i => [FV.int .i64 (c i)]) k (0 - 0) [FV.int .i64 v] i = [FV.int .i64 ((fun i => if i = k then v else c i) i)] := by
  unfold gSet
  by_cases e : i = k
  · subst e; rw [if_pos' rfl]; simp
  · rw [if_neg' e]; simp [e]
theorem w1 : IntKind.i64.wrap 1 = 1 := i64_of (by omega) (by omega)
theorem w2 : IntKind.i64.wrap 2 = 2 := i64_of (by omega) (by omega)
theorem w3 : IntKind.i64.wrap 3 = 3 := i64_of (by omega) (by omega)
theorem w4 : IntKind.i64.wrap 4 = 4 := i64_of (by omega) (by omega)
theorem cont_run (z : Int) : run Try.prog ⟨[], eqs, [], [(39, Try.f39, [])], [], mixs, meqs, []⟩ 10000 [] 0 (bodyOf Try.f37) (initF Try.f37 [.sl 0 1 0 4, .int .i64 z]) [.ro 1 4 (gOf eI [1, 2, 4, 8])] (retK Try.prog Try.f37 fun x _ => eqv x (.bool (z == 1 || z == 2 || z == 4 || z == 8))) := by
  (conv => whnf)
  (repeat' (first | (refine .inl ⟨6, ?_⟩; (conv => whnf)) | (refine And.intro (fun hb => ?_) (fun hb => ?_) <;> (first | contradiction | (conv => whnf))) | (refine And.intro ?_ ?_; rotate_left 1; (conv => whnf))))
  all_goals first | rfl | trivial | (simp_all [eqv, eqv1]; done) | (simp only [show (0 : Int) + 1 = 1 from rfl, show (1 : Int) + 1 = 2 from rfl, show (2 : Int) + 1 = 3 from rfl, show (3 : Int) + 1 = 4 from rfl, w1, w2, w3, w4] at *; first | rfl | trivial | omega | (simp_all [eqv, eqv1]; done) | (simp_all [eqv, eqv1]; omega))
def k_cont : List SV → List Blk → Res := fun args M => match topA eltB M args with
  | some (b, [.one (.row 1 4 g), .one (.int .i64 z)]) => .test b (.test (allIs eI 0 4 g && (elts eI 0 4 g == [1, 2, 4, 8])) (.ok (.bool (z == 1 || z == 2 || z == 4 || z == 8)) []))
  | _ => .fail
theorem k_cont_ok : CtrOk Try.prog Gw 37 k_cont := by
  refine ⟨fun _ _ => by kernel_rfl, fun args M => ?_⟩
  unfold k_cont
  split
  · rename_i b g z hv
    intro hb hc
    simp only [Bool.and_eq_true, beq_iff_eq] at hc
    have he : AVEqL [.one (.row 1 4 g), .one (.int .i64 z)] [.one (.row 1 4 (gOf eI [1, 2, 4, 8])), .one (.int .i64 z)] := by
      refine avcons (FVEq.of_rows fun i hi => ?_) (AVEqL.refl _)
      rw [← hc.2, gOf_elts eI hc.1 i hi, Nat.zero_add]
    exact ctr_top (Γ := ⟨[], eqs, [], [(39, Try.f39, [])], [], mixs, meqs, []⟩) st_Gw ⟨okNil, eqs_ok, okNilB, (okConsI Try.func39 rfl (by kernel_rfl) (fun _ _ => by kernel_rfl) okNilI), okNilP, mixs_ok, meqs_ok, okNilY⟩ Try.func37 rfl mixed [] (by kernel_rfl) 10000 _ hv hb he rfl (cont_run z)
  · trivial
set_option maxHeartbeats 40000000 in
theorem fields_run (nm : ByteArray) (cx lo hi : Int) (q : Nat) (h : Nat → List FV) (l : List Fd) (hl : l.length ≤ 1099511627776) : run Try.prog ⟨[(37, k_cont)], eqs, [], [(36, Try.f36, []), (38, Try.f38, [(3, 5, [0, 0, 0, 6, 0, 31, 63])])], [], mixs, meqs, []⟩ 10000 [(8, 10, [0, 0, 3, 7, 15, 0, 0, 96, 224, 480, 1023, 2047])] 0 (bodyOf Try.f31) (initF Try.f31 [.agg [.val (.string nm), .int .i64 cx, .sl 0 4 0 l.length, .sl 1 3 0 q, .int .i64 lo, .int .i64 hi]]) [.ro 4 l.length (gOf eF l), .ro 3 q h] (retK Try.prog Try.f31 fun x _ => anyB x) := by
  (conv => whnf)
  (repeat' (first | (refine And.intro (fun hb => ?_) (fun hb => ?_) <;> (first | contradiction | (conv => whnf))) | (refine And.intro ?_ ?_; rotate_left 1; (conv => whnf))))
  refine .inr ⟨[], [0, 1, 5, 6, 7], fun k vals M => ∃ (j : Nat) (c : Nat → Int), j ≤ l.length ∧ k = l.length - j ∧ vals = [.yld 6, .ptr 5 0, .sl 0 4 0 l.length, .int .i64 (l.length : Int), .int .i64 (j : Int)] ∧ M = [.ro 4 l.length (gOf eF l), .ro 3 q h, .cells 35 [.val (.string nm), .int .i64 cx, .sl 0 4 0 l.length, .sl 1 3 0 q, .int .i64 lo, .int .i64 hi], .cells 4 [.ff], .mix 79 [.arr 4 1 (fun i => [.int .i64 (c i)])], .cells 32 [.sl 0 4 0 l.length], lpOf [(8, 10, [0, 0, 3, 7, 15, 0, 0, 96, 224, 480, 1023, 2047])] (bodyOf Try.f31) (mkFrom [(0, .agg [.val (.string nm), .int .i64 cx, .sl 0 4 0 l.length, .sl 1 3 0 q, .int .i64 lo, .int .i64 hi]), (1, .ptr 2 0), (2, .ptr 3 0), (3, .ptr 4 0), (9, .mix [.arr 4 1 (fun _ => [.int .i64 0])]), (10, .ptr 2 2), (11, .sl 0 4 0 l.length), (12, .fn (.func 38) [] [.ptr 5 0])] (fun _ => .tup []) 96 0)], ?_⟩
  conv => whnf
  refine And.intro ⟨l.length, [.ro 4 l.length (gOf eF l), .ro 3 q h, .cells 35 [.val (.string nm), .int .i64 cx, .sl 0 4 0 l.length, .sl 1 3 0 q, .int .i64 lo, .int .i64 hi], .cells 4 [.ff], .mix 79 [.arr 4 1 (fun i => [.int .i64 ((fun _ => 0) i)])], .cells 32 [.sl 0 4 0 l.length], lpOf [(8, 10, [0, 0, 3, 7, 15, 0, 0, 96, 224, 480, 1023, 2047])] (bodyOf Try.f31) (mkFrom [(0, .agg [.val (.string nm), .int .i64 cx, .sl 0 4 0 l.length, .sl 1 3 0 q, .int .i64 lo, .int .i64 hi]), (1, .ptr 2 0), (2, .ptr 3 0), (3, .ptr 4 0), (9, .mix [.arr 4 1 (fun _ => [.int .i64 0])]), (10, .ptr 2 2), (11, .sl 0 4 0 l.length), (12, .fn (.func 38) [] [.ptr 5 0])] (fun _ => .tup []) 96 0)], (mle_cons ble_refl (mle_cons ble_refl (mle_cons ble_refl (mle_cons ble_refl (mle_cons ble_refl (mle_cons ble_refl (mle_cons ble_refl mle_nil))))))), rfl, rfl, 0, (fun _ => 0), by omega, by omega, rfl, rfl⟩ ?_
  rintro k vals M1 ⟨j, c, hj, rfl, rfl, rfl⟩
  (conv => whnf)
  (repeat' (first | (refine step_t (by first | rfl | assumption) ?_; (conv => whnf)) | (refine step_f (by first | rfl | assumption) ?_; (conv => whnf)) | (refine step_nt (by assumption) ?_; (conv => whnf)) | (refine step_nf (by assumption) ?_; (conv => whnf)) | (refine step_n (fun hb => ?_) (fun hb => ?_) <;> (first | contradiction | (conv => whnf))) | (refine And.intro (fun hb => ?_) (fun hb => ?_) <;> (first | contradiction | (conv => whnf))) | (refine And.intro ?_ ?_; rotate_left 1; (conv => whnf))))
  all_goals try trivial
  all_goals try (first | rfl | exact decide_eq_true rfl)
  all_goals have hw : IntKind.i64.wrap ((((j : Int).toNat - 0 : Nat) : Int) - 1) = (j : Int) - 1 := by rw [i64_of (by omega) (by omega)]; omega
  all_goals try (simp only [hw] at *)
  all_goals try (simp only [Bool.and_eq_true, decide_eq_true_eq, decide_eq_false_iff_not, bne_iff_ne, ne_eq, Bool.not_eq_false', Bool.or_eq_true, beq_iff_eq] at *; omega)
  all_goals try (simp only [Bool.and_eq_true, decide_eq_true_eq, decide_eq_false_iff_not, bne_iff_ne, ne_eq, Bool.not_eq_false', Bool.or_eq_true, beq_iff_eq] at *; refine ⟨by omega, ?_⟩; omega)
  all_goals try (
    have hlt : j < l.length := by
      have h9 : decide ((j : Int) < (l.length : Int)) = true := by assumption
      have := of_decide_eq_true h9
      omega
    refine ⟨l.length - (j + 1), [.ro 4 l.length (gOf eF l), .ro 3 q h, .cells 35 [.val (.string nm), .int .i64 cx, .sl 0 4 0 l.length, .sl 1 3 0 q, .int .i64 lo, .int .i64 hi], .cells 4 [.ff], .mix 79 [.arr 4 1 (fun i => [.int .i64 ((fun i => if i = (l.getD (0 + ((j : Int)).toNat) eF.dft).k.toNat then IntKind.i64.wrap (c (l.getD (0 + ((j : Int)).toNat) eF.dft).k.toNat + 1) else c i) i)])], .cells 32 [.sl 0 4 0 l.length], lpOf [(8, 10, [0, 0, 3, 7, 15, 0, 0, 96, 224, 480, 1023, 2047])] (bodyOf Try.f31) (mkFrom [(0, .agg [.val (.string nm), .int .i64 cx, .sl 0 4 0 l.length, .sl 1 3 0 q, .int .i64 lo, .int .i64 hi]), (1, .ptr 2 0), (2, .ptr 3 0), (3, .ptr 4 0), (9, .mix [.arr 4 1 (fun _ => [.int .i64 0])]), (10, .ptr 2 2), (11, .sl 0 4 0 l.length), (12, .fn (.func 38) [] [.ptr 5 0])] (fun _ => .tup []) 96 0)], [0, 1, 2, 3, 4, 5, 6], by omega, rfl, (mle_cons ble_refl (mle_cons ble_refl (mle_cons ble_refl (mle_cons ble_refl (mle_cons (ble_mix ⟨⟨rfl, rfl, fun i hi => gset_one c _ _ i⟩, trivial⟩) (mle_cons ble_refl (mle_cons ble_refl mle_nil))))))), rfl, rfl, j + 1, (fun i => if i = (l.getD (0 + ((j : Int)).toNat) eF.dft).k.toNat then IntKind.i64.wrap (c (l.getD (0 + ((j : Int)).toNat) eF.dft).k.toNat + 1) else c i), by omega, rfl, ?_, rfl⟩
    show [SV.yld 6, .ptr 5 0, .sl 0 4 0 l.length, .int .i64 (l.length : Int), .int .i64 (IntKind.i64.wrap ((j : Int) + 1))] = _
    rw [i64_of (n := (j : Int) + 1) (by omega) (by omega)]; rfl)

end Go.Proofs.Ytldlbkkcjphjoaa
