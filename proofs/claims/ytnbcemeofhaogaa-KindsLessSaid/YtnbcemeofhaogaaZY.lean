import Derived.Test.YtnbcemeofhaogaaZU2
import Derived.Test.YtnbcemeofhaogaaXG
namespace Go.Proofs.Ytnbcemeofhaogaa
open Go.RowKit Go.Sx
set_option linter.unusedSimpArgs false
set_option linter.unusedVariables false
set_option linter.unnecessarySimpa false
set_option maxRecDepth 100000
set_option maxHeartbeats 4000000
theorem maxM_run (L : List Int) (hw : ((decide (0 < L.length) && decide (L.length ≤ 1099511627776))) = true) : run Try.prog ⟨[], eqs, [], [], [], mixs, meqs, []⟩ 10000 [] 0 (bodyOf Try.f69) (initF Try.f69 [.sl 0 1 0 L.length]) [.ro 1 L.length (gOf eB L)] (retK Try.prog Try.f69 (fun x _ => eqv x (.int .u8 (K.maxL L)))) := by
  simp only [Bool.and_eq_true, decide_eq_true_eq] at hw
  obtain ⟨hp, hw⟩ := hw
  (conv => whnf)
  (repeat' (first | (refine And.intro (fun hb => ?_) (fun hb => ?_) <;> (first | contradiction | (conv => whnf))) | (refine And.intro ?_ ?_; rotate_left 1; (conv => whnf))))
  all_goals try (refine .inr ⟨[], [0, 3, 4], fun k vals M => ∃ j : Nat, 0 < j ∧ j ≤ L.length ∧ k = L.length - j ∧ vals = [.sl 0 1 0 L.length, .int .u8 (K.maxTo L (j - 1)), .int .i64 (j : Int)] ∧ M = [.ro 1 L.length (gOf eB L)], ?_⟩
                 conv => whnf
                 refine And.intro ⟨L.length - 1, [.ro 1 L.length (gOf eB L)], mle_cons ble_refl mle_nil, rfl, rfl, 1, by omega, by omega, by omega, rfl, rfl⟩ ?_
                 rintro k vals M1 ⟨j, hj0, hj, rfl, rfl, rfl⟩
                 (conv => whnf)
                 (repeat' (first | (refine And.intro (fun hb => ?_) (fun hb => ?_) <;> (first | contradiction | (conv => whnf))) | (refine And.intro ?_ ?_; rotate_left 1; (conv => whnf)))))
  all_goals try (simp only [Int.toNat_natCast, Nat.zero_add, decide_eq_true_eq, decide_eq_false_iff_not] at *)
  all_goals first
  | rfl
  | (exfalso; omega)
  | exact decide_eq_true (by omega)
  | (show 0 < L.length; exact hp)
  | exact hp
  | omega
  | (rw [Bool.and_eq_true]; exact ⟨decide_eq_true (by omega), decide_eq_true (by omega)⟩)
  | (refine ⟨L.length - (j + 1), [.ro 1 L.length (gOf eB L)], [0], by omega, rfl, mle_cons ble_refl mle_nil, rfl, rfl, j + 1, by omega, by omega, rfl, ?_, rfl⟩
     show [SV.sl 0 1 0 L.length, .int .u8 (if K.maxTo L (j - 1) < L.getD j eB.dft then L.getD j eB.dft else K.maxTo L (j - 1)), .int .i64 (IntKind.i64.wrap ((j : Int) + 1))] = _
     rw [i64_of (n := (j : Int) + 1) (by omega) (by omega), K.maxTo_next hj0]; rfl)
  | (obtain rfl : j = L.length := (by omega)
     rfl)
noncomputable def k_maxM : List SV → List Blk → Res := fun args M => match topA eltB M args with
  | some (b, [.one v0]) => .test b (.test (cB.isR 1 v0) (.test ((decide (0 < (cB.decR 1 v0).length) && decide ((cB.decR 1 v0).length ≤ 1099511627776))) (.ok (.int .u8 (K.maxL (cB.decR 1 v0))) [])))
  | _ => .fail
theorem k_maxM_ok : CtrOk Try.prog Gw 69 k_maxM := by
  refine ⟨fun _ _ => by kernel_rfl, fun args M => ?_⟩
  unfold k_maxM
  split
  · rename_i b v0 hv
    intro hb hi hw
    exact ctr_top (Γ := ⟨[], eqs, [], [], [], mixs, meqs, []⟩) st_Gw ⟨okNil, eqs_ok, okNilB, okNilI, okNilP, mixs_ok, meqs_ok, okNilY⟩ Try.func69 rfl mixed [] (by kernel_rfl) 10000 [.one (.row 1 (cB.decR 1 v0).length (cB.g (cB.decR 1 v0)))] hv hb ⟨Cel.isR_dec (hi), trivial⟩ rfl (maxM_run (cB.decR 1 v0) hw)
  · trivial
theorem answers_run (h : Hp) (hw : ((decide (h.args.length ≤ 1099511627776) && decide ((K.mapOf h.args).length ≤ 1099511627776))) = true) : run Try.prog ⟨[(65, k_mapOf), (69, k_maxM), (38, k_has)], eqs, [], [], [], mixs, meqs, []⟩ 10000 [(1, 6, [0, 1, 0, 4, 12, 0, 63, 127])] 0 (bodyOf Try.f30) (initF Try.f30 [.agg [.int .i64 h.id, .int .i64 h.mj, .int .i64 h.mn, .int .u8 h.core, .sl 0 4 0 h.args.length, .int .u8 h.rk, .int .i64 h.rlo, .int .i64 h.rhi, .int .i64 h.rsz]]) [.ro 4 h.args.length (cA.g h.args)] (retK Try.prog Try.f30 (fun x _ => eqv x (.bool (K.answers h)))) := by
  simp only [Bool.and_eq_true, decide_eq_true_eq] at hw
  obtain ⟨hwL, hwQ⟩ := hw
  have hk : ((h.rk == 1) = true ∧ (h.rk == 2) = false ∧ (h.rk == 3) = false) ∨ ((h.rk == 1) = false ∧ (h.rk == 2) = true ∧ (h.rk == 3) = false) ∨ ((h.rk == 1) = false ∧ (h.rk == 2) = false ∧ (h.rk == 3) = true) ∨ ((h.rk == 1) = false ∧ (h.rk == 2) = false ∧ (h.rk == 3) = false) := by
    simp only [beq_eq_false_iff_ne, beq_iff_eq]; omega
  rcases hk with ⟨h1, h2, h3⟩ | ⟨h1, h2, h3⟩ | ⟨h1, h2, h3⟩ | ⟨h1, h2, h3⟩
  · (conv => whnf)
    (repeat' (first | (refine step_t (by first | rfl | assumption) ?_; (conv => whnf)) | (refine step_f (by first | rfl | assumption) ?_; (conv => whnf)) | (refine step_nt (by assumption) ?_; (conv => whnf)) | (refine step_nf (by assumption) ?_; (conv => whnf)) | (refine step_n (fun hb => ?_) (fun hb => ?_) <;> (first | contradiction | (conv => whnf))) | (refine And.intro (fun hb => ?_) (fun hb => ?_) <;> (first | contradiction | (conv => whnf))) | (refine And.intro (a := (_ : Bool) = true) ?_ ?_; rotate_left 1; (conv => whnf))))
    all_goals try (simp only [decLA, isLA, decB_at, isB_at] at *)
    all_goals first
    | rfl
    | (simp; done)
    | exact decide_eq_true hwL
    | (exact decide_eq_true hwQ)
    | (have hp : 0 < (K.mapOf h.args).length := (by simp only [decide_eq_true_eq] at *; omega)
       rw [Bool.and_eq_true]; exact ⟨decide_eq_true hp, decide_eq_true hwQ⟩)
    | (have hp : 0 < (K.mapOf h.args).length := (by simp only [decide_eq_true_eq] at *; omega)
       simp_all [K.answers, K.maxL_le hp]
       done)
    | (simp_all [K.answers, K.within]; done)
    | (simp_all [K.answers, K.within]; omega)
  · (conv => whnf)
    (repeat' (first | (refine step_t (by first | rfl | assumption) ?_; (conv => whnf)) | (refine step_f (by first | rfl | assumption) ?_; (conv => whnf)) | (refine step_nt (by assumption) ?_; (conv => whnf)) | (refine step_nf (by assumption) ?_; (conv => whnf)) | (refine step_n (fun hb => ?_) (fun hb => ?_) <;> (first | contradiction | (conv => whnf))) | (refine And.intro (fun hb => ?_) (fun hb => ?_) <;> (first | contradiction | (conv => whnf))) | (refine And.intro (a := (_ : Bool) = true) ?_ ?_; rotate_left 1; (conv => whnf))))
    all_goals try (simp only [decLA, isLA, decB_at, isB_at] at *)
    all_goals first
    | rfl
    | (simp; done)
    | exact decide_eq_true hwL
    | (exact decide_eq_true hwQ)
    | (have hp : 0 < (K.mapOf h.args).length := (by simp only [decide_eq_true_eq] at *; omega)
       rw [Bool.and_eq_true]; exact ⟨decide_eq_true hp, decide_eq_true hwQ⟩)
    | (have hp : 0 < (K.mapOf h.args).length := (by simp only [decide_eq_true_eq] at *; omega)
       simp_all [K.answers, K.maxL_le hp]
       done)
    | (simp_all [K.answers, K.within]; done)
    | (simp_all [K.answers, K.within]; omega)
  · (conv => whnf)
    (repeat' (first | (refine step_t (by first | rfl | assumption) ?_; (conv => whnf)) | (refine step_f (by first | rfl | assumption) ?_; (conv => whnf)) | (refine step_nt (by assumption) ?_; (conv => whnf)) | (refine step_nf (by assumption) ?_; (conv => whnf)) | (refine step_n (fun hb => ?_) (fun hb => ?_) <;> (first | contradiction | (conv => whnf))) | (refine And.intro (fun hb => ?_) (fun hb => ?_) <;> (first | contradiction | (conv => whnf))) | (refine And.intro (a := (_ : Bool) = true) ?_ ?_; rotate_left 1; (conv => whnf))))
    all_goals try (simp only [decLA, isLA, decB_at, isB_at] at *)
    all_goals first
    | rfl
    | (simp; done)
    | exact decide_eq_true hwL
    | (exact decide_eq_true hwQ)
    | (have hp : 0 < (K.mapOf h.args).length := (by simp only [decide_eq_true_eq] at *; omega)
       rw [Bool.and_eq_true]; exact ⟨decide_eq_true hp, decide_eq_true hwQ⟩)
    | (have hp : 0 < (K.mapOf h.args).length := (by simp only [decide_eq_true_eq] at *; omega)
       simp_all [K.answers, K.maxL_le hp]
       done)
    | (simp_all [K.answers, K.within]; done)
    | (simp_all [K.answers, K.within]; omega)
  · (conv => whnf)
    (repeat' (first | (refine step_t (by first | rfl | assumption) ?_; (conv => whnf)) | (refine step_f (by first | rfl | assumption) ?_; (conv => whnf)) | (refine step_nt (by assumption) ?_; (conv => whnf)) | (refine step_nf (by assumption) ?_; (conv => whnf)) | (refine step_n (fun hb => ?_) (fun hb => ?_) <;> (first | contradiction | (conv => whnf))) | (refine And.intro (fun hb => ?_) (fun hb => ?_) <;> (first | contradiction | (conv => whnf))) | (refine And.intro (a := (_ : Bool) = true) ?_ ?_; rotate_left 1; (conv => whnf))))
    all_goals try (simp only [decLA, isLA, decB_at, isB_at] at *)
    all_goals first
    | rfl
    | (simp; done)
    | exact decide_eq_true hwL
    | (exact decide_eq_true hwQ)
    | (have hp : 0 < (K.mapOf h.args).length := (by simp only [decide_eq_true_eq] at *; omega)
       rw [Bool.and_eq_true]; exact ⟨decide_eq_true hp, decide_eq_true hwQ⟩)
    | (have hp : 0 < (K.mapOf h.args).length := (by simp only [decide_eq_true_eq] at *; omega)
       simp_all [K.answers, K.maxL_le hp]
       done)
    | (simp_all [K.answers, K.within]; done)
    | (simp_all [K.answers, K.within]; omega)
noncomputable def k_answers : List SV → List Blk → Res := fun args M => match topA eltB M args with
  | some (b, [.agg v0]) => .test b (.test (cH.is v0) (.test ((decide ((cH.dec v0).args.length ≤ 1099511627776) && decide ((K.mapOf (cH.dec v0).args).length ≤ 1099511627776))) (.ok (.bool (K.answers (cH.dec v0))) [])))
  | _ => .fail
theorem k_answers_ok : CtrOk Try.prog Gw 30 k_answers := by
  refine ⟨fun _ _ => by kernel_rfl, fun args M => ?_⟩
  unfold k_answers
  split
  · rename_i b v0 hv
    intro hb hi hw
    exact ctr_top (Γ := ⟨[(65, k_mapOf), (69, k_maxM), (38, k_has)], eqs, [], [], [], mixs, meqs, []⟩) st_Gw ⟨(okCons k_mapOf_ok (okCons k_maxM_ok (okCons k_has_ok okNil))), eqs_ok, okNilB, okNilI, okNilP, mixs_ok, meqs_ok, okNilY⟩ Try.func30 rfl mixed [(1, 6, [0, 1, 0, 4, 12, 0, 63, 127])] (by kernel_rfl) 10000 [.agg (celH (cH.dec v0))] hv hb ⟨Cel.is_dec (hi), trivial⟩ rfl (answers_run (cH.dec v0) hw)
  · trivial
end Go.Proofs.Ytnbcemeofhaogaa
namespace Go.Proofs.Ytnbcemeofhaogaa
open Go.RowKit Go.Sx
set_option linter.unusedSimpArgs false
set_option linter.unusedVariables false
set_option linter.unnecessarySimpa false
set_option maxRecDepth 100000
set_option maxHeartbeats 4000000
theorem eqM_run (L : List Int) (R : List Int) (hw : (decide (L.length ≤ 1099511627776)) = true) : run Try.prog ⟨[], eqs, [], [], [], mixs, meqs, []⟩ 10000 [(6, 8, [0, 0, 3, 7, 0, 0, 48, 112, 255])] 0 (bodyOf Try.f70) (initF Try.f70 [.sl 0 1 0 L.length, .sl 1 1 0 R.length]) [.ro 1 L.length (gOf eB L), .ro 1 R.length (gOf eB R)] (retK Try.prog Try.f70 (fun x _ => eqv x (.bool (L == R)))) := by
  simp only [decide_eq_true_eq] at hw
  (conv => whnf)
  (repeat' (first | (refine And.intro (fun hb => ?_) (fun hb => ?_) <;> (first | contradiction | (conv => whnf))) | (refine And.intro ?_ ?_; rotate_left 1; (conv => whnf))))
  · simp only [bne_iff_ne, ne_eq] at hb
    show (L == R) = false
    rw [beq_eq_false_iff_ne]
    rintro rfl
    exact hb rfl
  · have hlen : L.length = R.length := by simp only [bne_eq_false_iff_eq] at hb; omega
    refine .inr ⟨[], [0, 1, 12, 13], fun k vals M => ∃ j : Nat, j ≤ L.length ∧ k = L.length - j ∧ L.take j = R.take j ∧ vals = [.sl 0 1 0 L.length, .sl 1 1 0 R.length, .int .i64 (L.length : Int), .int .i64 (j : Int)] ∧ M = [.ro 1 L.length (gOf eB L), .ro 1 R.length (gOf eB R)], ?_⟩
    conv => whnf
    refine And.intro ⟨L.length, [.ro 1 L.length (gOf eB L), .ro 1 R.length (gOf eB R)], mle_cons ble_refl (mle_cons ble_refl mle_nil), rfl, rfl, 0, by omega, by omega, by simp, rfl, rfl⟩ ?_
    rintro k vals M1 ⟨j, hj, rfl, he, rfl, rfl⟩
    (conv => whnf)
    (repeat' (first | (refine And.intro (fun hb => ?_) (fun hb => ?_) <;> (first | contradiction | (conv => whnf))) | (refine And.intro ?_ ?_; rotate_left 1; (conv => whnf))))
    all_goals try (simp only [Int.toNat_natCast, Nat.zero_add] at *)
    all_goals try (have hlt : j < L.length := by simp only [decide_eq_true_eq] at *; omega)
    all_goals try (first | exact hlt | exact decide_eq_true hlt | exact decide_eq_true (by omega) | (rw [Bool.and_eq_true]; exact ⟨decide_eq_true (by omega), decide_eq_true (by omega)⟩))
    · show (L == R) = false
      rw [beq_eq_false_iff_ne]
      rintro rfl
      simp at hb
    · refine ⟨L.length - (j + 1), [.ro 1 L.length (gOf eB L), .ro 1 R.length (gOf eB R)], [0, 1], by omega, rfl, mle_cons ble_refl (mle_cons ble_refl mle_nil), rfl, rfl, j + 1, by omega, rfl, take_next hlt (by omega) eB.dft he (by simpa using hb), ?_, rfl⟩
      show [SV.sl 0 1 0 L.length, .sl 1 1 0 R.length, .int .i64 (L.length : Int), .int .i64 (IntKind.i64.wrap ((j : Int) + 1))] = _
      rw [i64_of (n := (j : Int) + 1) (by omega) (by omega)]; rfl
    · have : j = L.length := by simp only [decide_eq_false_iff_not] at hb; omega
      subst this
      rw [List.take_length, hlen, List.take_length] at he
      show (L == R) = true
      rw [he]; exact beq_self_eq_true _
noncomputable def k_eqM : List SV → List Blk → Res := fun args M => match topA eltB M args with
  | some (b, [.one v0, .one v1]) => .test b (.test (cB.isR 1 v0 && cB.isR 1 v1) (.test (decide ((cB.decR 1 v0).length ≤ 1099511627776)) (.ok (.bool ((cB.decR 1 v0) == (cB.decR 1 v1))) [])))
  | _ => .fail
theorem k_eqM_ok : CtrOk Try.prog Gw 70 k_eqM := by
  refine ⟨fun _ _ => by kernel_rfl, fun args M => ?_⟩
  unfold k_eqM
  split
  · rename_i b v0 v1 hv
    intro hb hi hw
    simp only [Bool.and_eq_true] at hi
    exact ctr_top (Γ := ⟨[], eqs, [], [], [], mixs, meqs, []⟩) st_Gw ⟨okNil, eqs_ok, okNilB, okNilI, okNilP, mixs_ok, meqs_ok, okNilY⟩ Try.func70 rfl mixed [(6, 8, [0, 0, 3, 7, 0, 0, 48, 112, 255])] (by kernel_rfl) 10000 [.one (.row 1 (cB.decR 1 v0).length (cB.g (cB.decR 1 v0))), .one (.row 1 (cB.decR 1 v1).length (cB.g (cB.decR 1 v1)))] hv hb ⟨Cel.isR_dec (hi.1), ⟨Cel.isR_dec (hi.2), trivial⟩⟩ rfl (eqM_run (cB.decR 1 v0) (cB.decR 1 v1) hw)
  · trivial
theorem sameA_run (a : Ag) (b : Ag) (hw : (decide (a.maps.length ≤ 1099511627776)) = true) : run Try.prog ⟨[(70, k_eqM)], eqs, [], [], [], mixs, meqs, []⟩ 10000 [] 0 (bodyOf Try.f32) (initF Try.f32 [.agg [.int .u8 a.k, .int .i64 a.lo, .int .i64 a.hi, .sl 0 1 0 a.maps.length], .agg [.int .u8 b.k, .int .i64 b.lo, .int .i64 b.hi, .sl 1 1 0 b.maps.length]]) [.ro 1 a.maps.length (gOf eB a.maps), .ro 1 b.maps.length (gOf eB b.maps)] (retK Try.prog Try.f32 (fun x _ => eqv x (.bool (eqC a b)))) := by
  simp only [decide_eq_true_eq] at hw
  (conv => whnf)
  (repeat' (first | (refine step_t (by first | rfl | assumption) ?_; (conv => whnf)) | (refine step_f (by first | rfl | assumption) ?_; (conv => whnf)) | (refine step_nt (by assumption) ?_; (conv => whnf)) | (refine step_nf (by assumption) ?_; (conv => whnf)) | (refine step_n (fun hb => ?_) (fun hb => ?_) <;> (first | contradiction | (conv => whnf))) | (refine And.intro (fun hb => ?_) (fun hb => ?_) <;> (first | contradiction | (conv => whnf))) | (refine And.intro (a := (_ : Bool) = true) ?_ ?_; rotate_left 1; (conv => whnf))))
  all_goals try (simp only [decB_at, isB_at] at *)
  all_goals first
  | rfl
  | (simp; done)
  | exact decide_eq_true hw
  | (refine (eqC_f ?_).symm; rintro rfl; simp_all; done)
  | (refine eqC_f ?_; rintro rfl; simp_all; done)
  | (rw [← sarg_eq]; simp_all; done)
noncomputable def k_sameA : List SV → List Blk → Res := fun args M => match topA eltB M args with
  | some (b, [.agg v0, .agg v1]) => .test b (.test (cA.is v0 && cA.is v1) (.test (decide ((cA.dec v0).maps.length ≤ 1099511627776)) (.ok (.bool (eqC (cA.dec v0) (cA.dec v1))) [])))
  | _ => .fail
theorem k_sameA_ok : CtrOk Try.prog Gw 32 k_sameA := by
  refine ⟨fun _ _ => by kernel_rfl, fun args M => ?_⟩
  unfold k_sameA
  split
  · rename_i b v0 v1 hv
    intro hb hi hw
    simp only [Bool.and_eq_true] at hi
    exact ctr_top (Γ := ⟨[(70, k_eqM)], eqs, [], [], [], mixs, meqs, []⟩) st_Gw ⟨(okCons k_eqM_ok okNil), eqs_ok, okNilB, okNilI, okNilP, mixs_ok, meqs_ok, okNilY⟩ Try.func32 rfl mixed [] (by kernel_rfl) 10000 [.agg (celA (cA.dec v0)), .agg (celA (cA.dec v1))] hv hb ⟨Cel.is_dec (hi.1), ⟨Cel.is_dec (hi.2), trivial⟩⟩ rfl (sameA_run (cA.dec v0) (cA.dec v1) hw)
  · trivial
theorem eqargs_run (L R : List Ag) (hw : L.length ≤ 1099511627776) (hW : L.all (Ag.atMost 1099511627776) = true) : run Try.prog ⟨[(32, k_sameA)], eqs, [], [], [], mixs, meqs, []⟩ 10000 [] 0 (bodyOf Try.f31) (initF Try.f31 [.sl 0 4 0 L.length, .sl 1 4 0 R.length, .fn (.func 32) [] []]) [.ro 4 L.length (cA.g L), .ro 4 R.length (cA.g R)] (retK Try.prog Try.f31 fun x _ => eqv x (.bool (eqC L R))) := by
  (conv => whnf)
  (repeat' (first | (refine And.intro (fun hb => ?_) (fun hb => ?_) <;> (first | contradiction | (conv => whnf))) | (refine And.intro ?_ ?_; rotate_left 1; (conv => whnf))))
  · simp only [bne_iff_ne, ne_eq] at hb
    refine eqC_f ?_
    rintro rfl
    exact hb rfl
  · have hlen : L.length = R.length := by simp only [bne_eq_false_iff_eq] at hb; omega
    refine .inr ⟨[], [1, 2, 15, 16, 17], fun k vals M => ∃ j : Nat, j ≤ L.length ∧ k = L.length - j ∧ L.take j = R.take j ∧ vals = [.sl 1 4 0 R.length, .fn (.func 32) [] [], .sl 0 4 0 L.length, .int .i64 (L.length : Int), .int .i64 (j : Int)] ∧ M = [.ro 4 L.length (cA.g L), .ro 4 R.length (cA.g R)], ?_⟩
    conv => whnf
    refine And.intro ⟨L.length, [.ro 4 L.length (cA.g L), .ro 4 R.length (cA.g R)], mle_cons ble_refl (mle_cons ble_refl mle_nil), rfl, rfl, 0, by omega, by omega, by simp, rfl, rfl⟩ ?_
    rintro k vals M1 ⟨j, hj, rfl, he, rfl, rfl⟩
    (conv => whnf)
    (repeat' (first | (refine And.intro (fun hb => ?_) (fun hb => ?_) <;> (first | contradiction | (conv => whnf))) | (refine And.intro ?_ ?_; rotate_left 1; (conv => whnf))))
    all_goals try (simp only [Int.toNat_natCast, Nat.zero_add, isA_at, decA_at] at *)
    all_goals try (have hlt : j < L.length := by simp only [decide_eq_true_eq] at *; omega)
    all_goals try (first | rfl | (simp; done) | exact hlt | exact decide_eq_true hlt | exact decide_eq_true (by omega) | (rw [Bool.and_eq_true]; exact ⟨decide_eq_true (by omega), decide_eq_true (by omega)⟩) | exact decide_eq_true (Ag.atMost_len (all_getD hW hlt _)))
    · refine eqC_f ?_
      rintro rfl
      rw [eqC_t rfl] at hb
      cases hb
    · refine ⟨L.length - (j + 1), [.ro 4 L.length (cA.g L), .ro 4 R.length (cA.g R)], [0, 1], by omega, rfl, mle_cons ble_refl (mle_cons ble_refl mle_nil), rfl, rfl, j + 1, by omega, rfl, take_next hlt (by omega) cA.dft he (eqC_iff.1 (by simpa using hb)), ?_, rfl⟩
      show [SV.sl 1 4 0 R.length, .fn (.func 32) [] [], .sl 0 4 0 L.length, .int .i64 (L.length : Int), .int .i64 (IntKind.i64.wrap ((j : Int) + 1))] = _
      rw [i64_of (n := (j : Int) + 1) (by omega) (by omega)]; rfl
    · have : j = L.length := by simp only [decide_eq_false_iff_not] at hb; omega
      subst this
      rw [List.take_length, hlen, List.take_length] at he
      exact eqC_t he
noncomputable def k_eqargs : List SV → List Blk → Res := fun args M => match args with
  | [x, y, .fn (.func g) [] []] => match Nat.beq g 32 with
    | true => match topA eltB M [x, y] with
      | some (b, [.one v, .one u]) => .test b (.test (cA.isR 4 v && cA.isR 4 u) (.test (decide ((cA.decR 4 v).length ≤ 1099511627776) && (cA.decR 4 v).all (Ag.atMost 1099511627776)) (.ok (.bool (eqC (cA.decR 4 v) (cA.decR 4 u))) [])))
      | _ => .fail
    | false => .fail
  | _ => .fail
theorem k_eqargs_ok : CtrOk Try.prog Gw 31 k_eqargs := by
  refine ⟨fun _ _ => by kernel_rfl, fun args M => ?_⟩
  unfold k_eqargs
  split
  · rename_i x y g
    split
    · rename_i hg
      obtain rfl := Nat.eq_of_beq_eq_true hg
      split
      · rename_i b v u hv
        intro hb hi hw
        simp only [Bool.and_eq_true, decide_eq_true_eq] at hi hw
        exact ctr_topx (Γ := ⟨[(32, k_sameA)], eqs, [], [], [], mixs, meqs, []⟩) (args := [x, y]) (M := M) (post := [.fn (.func 32) [] []]) (post0 := [.fn (.func 32) [] []]) st_Gw ⟨(okCons k_sameA_ok okNil), eqs_ok, okNilB, okNilI, okNilP, mixs_ok, meqs_ok, okNilY⟩ Try.func31 rfl mixed [] (by kernel_rfl) 10000 [.one (.row 4 (cA.decR 4 v).length (cA.g (cA.decR 4 v))), .one (.row 4 (cA.decR 4 u).length (cA.g (cA.decR 4 u)))] (fun _ _ => rfl) rfl hv hb ⟨Cel.isR_dec hi.1, Cel.isR_dec hi.2, trivial⟩ rfl (eqargs_run _ _ hw.1 hw.2)
      · trivial
    · trivial
  · trivial
end Go.Proofs.Ytnbcemeofhaogaa
