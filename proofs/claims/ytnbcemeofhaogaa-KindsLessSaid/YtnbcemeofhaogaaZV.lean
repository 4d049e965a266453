import Derived.Test.YtnbcemeofhaogaaZU2
namespace Go.Proofs.Ytnbcemeofhaogaa
open Go.RowKit Go.Sx
set_option linter.unusedSimpArgs false
set_option linter.unusedVariables false
set_option linter.unnecessarySimpa false
set_option maxRecDepth 100000
set_option maxHeartbeats 4000000
theorem sorted_run (L : List Ag) (a : Ag) (R : List Ag) (hw : ((decide (L.length ≤ 1099511627776) && decide (R.length ≤ 1099511627776)) && decide (a.maps.length ≤ 1099511627776)) = true) : run Try.prog ⟨[(38, k_has), (61, k_hasl), (62, k_memory), (63, k_ris)], eqs, [], [], [], mixs, meqs, []⟩ 10000 [] 0 (bodyOf Try.f28) (initF Try.f28 [.sl 0 4 0 L.length, .agg [.int .u8 a.k, .int .i64 a.lo, .int .i64 a.hi, .sl 1 1 0 a.maps.length], .sl 2 4 0 R.length]) [.ro 4 L.length (cA.g L), .ro 1 a.maps.length (gOf eB a.maps), .ro 4 R.length (cA.g R)] (retK Try.prog Try.f28 (fun x _ => eqv x (.bool (K.sorted L a R)))) := by
  have hk : ((a.k == 1) = true ∧ (a.k == 9) = false ∧ (a.k == 3) = false) ∨ ((a.k == 1) = false ∧ (a.k == 9) = true ∧ (a.k == 3) = false) ∨ ((a.k == 1) = false ∧ (a.k == 9) = false ∧ (a.k == 3) = false) ∨ ((a.k == 1) = false ∧ (a.k == 9) = false ∧ (a.k == 3) = true) := by
    simp only [beq_eq_false_iff_ne, beq_iff_eq]; omega
  rcases hk with ⟨h1, h9, h3⟩ | ⟨h1, h9, h3⟩ | ⟨h1, h9, h3⟩ | ⟨h1, h9, h3⟩
  · (conv => whnf)
    (repeat' (first | (refine step_t (by first | rfl | assumption) ?_; (conv => whnf)) | (refine step_f (by first | rfl | assumption) ?_; (conv => whnf)) | (refine step_nt (by assumption) ?_; (conv => whnf)) | (refine step_nf (by assumption) ?_; (conv => whnf)) | (refine step_n (fun hb => ?_) (fun hb => ?_) <;> (first | contradiction | (conv => whnf))) | (refine And.intro (fun hb => ?_) (fun hb => ?_) <;> (first | contradiction | (conv => whnf))) | (refine And.intro (a := (_ : Bool) = true) ?_ ?_; rotate_left 1; (conv => whnf))))
    all_goals try (simp only [decA_at, isA_at, decB_at, isB_at, cA_dft, eB_dft] at *)
    all_goals try (simp only [decide_eq_true_eq, Bool.and_eq_true] at hw)
    all_goals try (have hp : 0 < L.length := (by simp only [decide_eq_true_eq] at *; omega); have hwr : IntKind.i64.wrap ((L.length : Int) - 1) = ((L.length - 1 : Nat) : Int) := (by rw [i64_of (n := (L.length : Int) - 1) (by omega) (by omega)]; omega); simp only [hwr, Int.toNat_natCast, Nat.zero_add] at *)
    all_goals try (have hq : 0 < a.maps.length := (by simp only [beq_eq_false_iff_ne] at *; omega); have hwm : IntKind.i64.wrap ((a.maps.length : Int) - 1) = ((a.maps.length - 1 : Nat) : Int) := (by rw [i64_of (n := (a.maps.length : Int) - 1) (by omega) (by omega)]; omega); simp only [hwm, Int.toNat_natCast, Nat.zero_add] at *)
    all_goals first
    | rfl
    | (simp; done)
    | (exact decide_eq_true (by simp only [decide_eq_true_eq, Int.toNat_natCast] at *; omega))
    | (rw [Bool.and_eq_true]; exact ⟨decide_eq_true (by simp only [decide_eq_true_eq, Int.toNat_natCast] at *; omega), decide_eq_true (by simp only [decide_eq_true_eq, Int.toNat_natCast] at *; omega)⟩)
    | (simp_all [K.sorted, K.bounds, K.kindsOf, K.sized, K.mem, K.within]; done)
    | (simp only [decide_eq_true_eq] at *; omega)
    | (simp_all [K.sorted, K.bounds, K.kindsOf, K.sized, K.mem, K.within]; omega)
  · (conv => whnf)
    (repeat' (first | (refine step_t (by first | rfl | assumption) ?_; (conv => whnf)) | (refine step_f (by first | rfl | assumption) ?_; (conv => whnf)) | (refine step_nt (by assumption) ?_; (conv => whnf)) | (refine step_nf (by assumption) ?_; (conv => whnf)) | (refine step_n (fun hb => ?_) (fun hb => ?_) <;> (first | contradiction | (conv => whnf))) | (refine And.intro (fun hb => ?_) (fun hb => ?_) <;> (first | contradiction | (conv => whnf))) | (refine And.intro (a := (_ : Bool) = true) ?_ ?_; rotate_left 1; (conv => whnf))))
    all_goals try (simp only [decA_at, isA_at, decB_at, isB_at, cA_dft, eB_dft] at *)
    all_goals try (simp only [decide_eq_true_eq, Bool.and_eq_true] at hw)
    all_goals try (have hp : 0 < L.length := (by simp only [decide_eq_true_eq] at *; omega); have hwr : IntKind.i64.wrap ((L.length : Int) - 1) = ((L.length - 1 : Nat) : Int) := (by rw [i64_of (n := (L.length : Int) - 1) (by omega) (by omega)]; omega); simp only [hwr, Int.toNat_natCast, Nat.zero_add] at *)
    all_goals try (have hq : 0 < a.maps.length := (by simp only [beq_eq_false_iff_ne] at *; omega); have hwm : IntKind.i64.wrap ((a.maps.length : Int) - 1) = ((a.maps.length - 1 : Nat) : Int) := (by rw [i64_of (n := (a.maps.length : Int) - 1) (by omega) (by omega)]; omega); simp only [hwm, Int.toNat_natCast, Nat.zero_add] at *)
    all_goals first
    | rfl
    | (simp; done)
    | (exact decide_eq_true (by simp only [decide_eq_true_eq, Int.toNat_natCast] at *; omega))
    | (rw [Bool.and_eq_true]; exact ⟨decide_eq_true (by simp only [decide_eq_true_eq, Int.toNat_natCast] at *; omega), decide_eq_true (by simp only [decide_eq_true_eq, Int.toNat_natCast] at *; omega)⟩)
    | (simp_all [K.sorted, K.bounds, K.kindsOf, K.sized, K.mem, K.within]; done)
    | (simp only [decide_eq_true_eq] at *; omega)
    | (simp_all [K.sorted, K.bounds, K.kindsOf, K.sized, K.mem, K.within]; omega)
  · (conv => whnf)
    (repeat' (first | (refine step_t (by first | rfl | assumption) ?_; (conv => whnf)) | (refine step_f (by first | rfl | assumption) ?_; (conv => whnf)) | (refine step_nt (by assumption) ?_; (conv => whnf)) | (refine step_nf (by assumption) ?_; (conv => whnf)) | (refine step_n (fun hb => ?_) (fun hb => ?_) <;> (first | contradiction | (conv => whnf))) | (refine And.intro (fun hb => ?_) (fun hb => ?_) <;> (first | contradiction | (conv => whnf))) | (refine And.intro (a := (_ : Bool) = true) ?_ ?_; rotate_left 1; (conv => whnf))))
    all_goals try (simp only [decA_at, isA_at, decB_at, isB_at, cA_dft, eB_dft] at *)
    all_goals try (simp only [decide_eq_true_eq, Bool.and_eq_true] at hw)
    all_goals try (have hp : 0 < L.length := (by simp only [decide_eq_true_eq] at *; omega); have hwr : IntKind.i64.wrap ((L.length : Int) - 1) = ((L.length - 1 : Nat) : Int) := (by rw [i64_of (n := (L.length : Int) - 1) (by omega) (by omega)]; omega); simp only [hwr, Int.toNat_natCast, Nat.zero_add] at *)
    all_goals try (have hq : 0 < a.maps.length := (by simp only [beq_eq_false_iff_ne] at *; omega); have hwm : IntKind.i64.wrap ((a.maps.length : Int) - 1) = ((a.maps.length - 1 : Nat) : Int) := (by rw [i64_of (n := (a.maps.length : Int) - 1) (by omega) (by omega)]; omega); simp only [hwm, Int.toNat_natCast, Nat.zero_add] at *)
    all_goals first
    | rfl
    | (simp; done)
    | (exact decide_eq_true (by simp only [decide_eq_true_eq, Int.toNat_natCast] at *; omega))
    | (rw [Bool.and_eq_true]; exact ⟨decide_eq_true (by simp only [decide_eq_true_eq, Int.toNat_natCast] at *; omega), decide_eq_true (by simp only [decide_eq_true_eq, Int.toNat_natCast] at *; omega)⟩)
    | (simp_all [K.sorted, K.bounds, K.kindsOf, K.sized, K.mem, K.within]; done)
    | (simp only [decide_eq_true_eq] at *; omega)
    | (simp_all [K.sorted, K.bounds, K.kindsOf, K.sized, K.mem, K.within]; omega)
  · (conv => whnf)
    (repeat' (first | (refine step_t (by first | rfl | assumption) ?_; (conv => whnf)) | (refine step_f (by first | rfl | assumption) ?_; (conv => whnf)) | (refine step_nt (by assumption) ?_; (conv => whnf)) | (refine step_nf (by assumption) ?_; (conv => whnf)) | (refine step_n (fun hb => ?_) (fun hb => ?_) <;> (first | contradiction | (conv => whnf))) | (refine And.intro (fun hb => ?_) (fun hb => ?_) <;> (first | contradiction | (conv => whnf))) | (refine And.intro (a := (_ : Bool) = true) ?_ ?_; rotate_left 1; (conv => whnf))))
    all_goals try (simp only [decA_at, isA_at, decB_at, isB_at, cA_dft, eB_dft] at *)
    all_goals try (simp only [decide_eq_true_eq, Bool.and_eq_true] at hw)
    all_goals try (have hp : 0 < L.length := (by simp only [decide_eq_true_eq] at *; omega); have hwr : IntKind.i64.wrap ((L.length : Int) - 1) = ((L.length - 1 : Nat) : Int) := (by rw [i64_of (n := (L.length : Int) - 1) (by omega) (by omega)]; omega); simp only [hwr, Int.toNat_natCast, Nat.zero_add] at *)
    all_goals try (have hq : 0 < a.maps.length := (by simp only [beq_eq_false_iff_ne] at *; omega); have hwm : IntKind.i64.wrap ((a.maps.length : Int) - 1) = ((a.maps.length - 1 : Nat) : Int) := (by rw [i64_of (n := (a.maps.length : Int) - 1) (by omega) (by omega)]; omega); simp only [hwm, Int.toNat_natCast, Nat.zero_add] at *)
    all_goals first
    | rfl
    | (simp; done)
    | (exact decide_eq_true (by simp only [decide_eq_true_eq, Int.toNat_natCast] at *; omega))
    | (rw [Bool.and_eq_true]; exact ⟨decide_eq_true (by simp only [decide_eq_true_eq, Int.toNat_natCast] at *; omega), decide_eq_true (by simp only [decide_eq_true_eq, Int.toNat_natCast] at *; omega)⟩)
    | (simp_all [K.sorted, K.bounds, K.kindsOf, K.sized, K.mem, K.within]; done)
    | (simp only [decide_eq_true_eq] at *; omega)
    | (simp_all [K.sorted, K.bounds, K.kindsOf, K.sized, K.mem, K.within]; omega)
noncomputable def k_sorted : List SV → List Blk → Res := fun args M => match topA eltB M args with
  | some (b, [.one v0, .agg v1, .one v2]) => .test b (.test (cA.isR 4 v0 && cA.is v1 && cA.isR 4 v2) (.test ((decide ((cA.decR 4 v0).length ≤ 1099511627776) && decide ((cA.decR 4 v2).length ≤ 1099511627776)) && decide ((cA.dec v1).maps.length ≤ 1099511627776)) (.ok (.bool (K.sorted (cA.decR 4 v0) (cA.dec v1) (cA.decR 4 v2))) [])))
  | _ => .fail
theorem k_sorted_ok : CtrOk Try.prog Gw 28 k_sorted := by
  refine ⟨fun _ _ => by kernel_rfl, fun args M => ?_⟩
  unfold k_sorted
  split
  · rename_i b v0 v1 v2 hv
    intro hb hi hw
    simp only [Bool.and_eq_true] at hi
    exact ctr_top (Γ := ⟨[(38, k_has), (61, k_hasl), (62, k_memory), (63, k_ris)], eqs, [], [], [], mixs, meqs, []⟩) st_Gw ⟨(okCons k_has_ok (okCons k_hasl_ok (okCons k_memory_ok (okCons k_ris_ok okNil)))), eqs_ok, okNilB, okNilI, okNilP, mixs_ok, meqs_ok, okNilY⟩ Try.func28 rfl mixed [] (by kernel_rfl) 10000 [.one (.row 4 (cA.decR 4 v0).length (cA.g (cA.decR 4 v0))), .agg (celA (cA.dec v1)), .one (.row 4 (cA.decR 4 v2).length (cA.g (cA.decR 4 v2)))] hv hb ⟨Cel.isR_dec (hi.1.1), ⟨Cel.is_dec (hi.1.2), ⟨Cel.isR_dec (hi.2), trivial⟩⟩⟩ rfl (sorted_run (cA.decR 4 v0) (cA.dec v1) (cA.decR 4 v2) hw)
  · trivial
end Go.Proofs.Ytnbcemeofhaogaa
