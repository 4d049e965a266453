import Derived.Test.YtnbcemeofhaogaaVA2
import Derived.Test.YtnbcemeofhaogaaVJ
import Derived.Test.YtnbcemeofhaogaaVK
import Derived.Test.YtnbcemeofhaogaaWA
import Derived.Test.YtnbcemeofhaogaaSxC
namespace Go.Proofs.Ytnbcemeofhaogaa
open Go.RowKit Go.Sx
set_option linter.unusedSimpArgs false
set_option linter.unusedVariables false
set_option linter.unnecessarySimpa false
set_option maxRecDepth 100000
set_option maxHeartbeats 4000000
attribute [local irreducible] K.table K.helper K.type K.field
set_option maxHeartbeats 40000000 in
theorem less_run (t : Tb) (kp : List Bool) (hw : t.atMost 140737488355328 = true) (hk : kp.length ≤ 140737488355328) : run Try.prog ⟨[(7, k_awake), (20, k_table), (21, k_type), (22, k_field), (11, k_helper)], eqs, [], [], [], mixs, meqs, [(19, k_small)]⟩ 10000 [(15, 14, [0, 1, 0, 7, 15, 0, 32, 0, 128, 511, 1023, 2047, 2047, 0, 12287, 32767]), (19, 8, [0, 1, 0, 4, 0, 28, 60, 124, 255, 511, 1023]), (26, 8, [0, 1, 0, 4, 0, 28, 60, 124, 255, 511, 1023])] 0 (bodyOf Try.f6) (initF Try.f6 [.agg [.val (.string t.pr), .sl 0 6 0 t.ts.length, .sl 1 9 0 t.hs.length], .sl 2 1 0 kp.length]) [.fz 6 t.ts.length (cY.g t.ts), .fz 9 t.hs.length (cH.g t.hs), .fz 1 kp.length (gOf eL kp)] (retK Try.prog Try.f6 fun x _ => eqv x (.bool true)) := by
  have hsz : Try.prog.types[62].size = 6 := by kernel_rfl
  have hby : Try.prog.types[62].bytes = 88 := by kernel_rfl
  have hsh : Try.prog.types[29].size = 9 := by kernel_rfl
  have hbh : Try.prog.types[29].bytes = 88 := by kernel_rfl
  (conv => whnf)
  (repeat' (first | (refine step_t (by first | rfl | assumption) ?_; (conv => whnf)) | (refine step_f (by first | rfl | assumption) ?_; (conv => whnf)) | (refine step_nt (by assumption) ?_; (conv => whnf)) | (refine step_nf (by assumption) ?_; (conv => whnf)) | (refine step_n (fun hb => ?_) (fun hb => ?_) <;> (first | contradiction | (conv => whnf))) | (refine And.intro (fun hb => ?_) (fun hb => ?_) <;> (first | contradiction | (conv => whnf))) | (refine And.intro (a := (_ : Bool) = true) ?_ ?_; rotate_left 1; (conv => whnf))))
  all_goals first
  | rfl
  | trivial
  | (simp; done)
  | (rw [isT_at, decT_at, hw]; rfl)
  | exact isT_at t
  | (rw [decT_at] at hb ⊢; exact Tb.atMost_up (by decide) hb)
  | skip
  have h3 : t.atMost 300 = true := by
    have h9 : Tb.atMost 300 (cT.dec [.val (.string t.pr), .row 6 t.ts.length (shiftG 0 (cY.g t.ts)), .row 9 t.hs.length (shiftG 0 (cH.g t.hs))]) = true := by assumption
    rwa [decT_at] at h9
  have hT : K.table t = 0 := by
    have h9 : (K.table (cT.dec [.val (.string t.pr), .row 6 t.ts.length (shiftG 0 (cY.g t.ts)), .row 9 t.hs.length (shiftG 0 (cH.g t.hs))]) == 0) = true := by assumption
    rw [decT_at] at h9
    exact eq_of_beq h9
  obtain ⟨ht1, hat⟩ := Tb.atMost_ts h3
  obtain ⟨hh1, hah⟩ := Tb.atMost_hs h3
  have hpr := Tb.atMost_pr h3
  have hyt : ∀ i, i < t.ts.length → K.type (t.ts.getD i cY.dft) = 0 := fun i hi => K.table_types hT hi
  have hyh : ∀ i, i < t.hs.length → K.helper (t.hs.getD i cH.dft) = 0 := fun i hi => K.table_helpers hT hi
  refine .inr ⟨[], [1, 2, 5, 6], fun k vals M => ∃ j : Nat, j ≤ t.ts.length ∧ k = t.ts.length - j ∧ vals = [.sl 2 1 0 kp.length, .ptr 3 0, .ptr 4 0, .int .i64 (j : Int)] ∧ (((K.kept (K.keepT kp) cY.dft t.ts j) = [] ∧ M = [.fz 6 t.ts.length (cY.g t.ts), .fz 9 t.hs.length (cH.g t.hs), .fz 1 kp.length (gOf eL kp), .cells 54 [.val (.string t.pr), .sl 0 6 0 t.ts.length, .sl 1 9 0 t.hs.length], .cells 54 [.val (.string t.pr), .val (.slice none 0 0), .val (.slice none 0 0)]]) ∨ M = [.fz 6 t.ts.length (cY.g t.ts), .fz 9 t.hs.length (cH.g t.hs), .fz 1 kp.length (gOf eL kp), .cells 54 [.val (.string t.pr), .sl 0 6 0 t.ts.length, .sl 1 9 0 t.hs.length], .cells 54 [.val (.string t.pr), .sl 5 6 0 (K.kept (K.keepT kp) cY.dft t.ts j).length, .val (.slice none 0 0)], .own 62 6 (K.kept (K.keepT kp) cY.dft t.ts j).length (cY.g (K.kept (K.keepT kp) cY.dft t.ts j))]), ?_⟩
  conv => whnf
  refine And.intro ⟨t.ts.length, [.fz 6 t.ts.length (cY.g t.ts), .fz 9 t.hs.length (cH.g t.hs), .fz 1 kp.length (gOf eL kp), .cells 54 [.val (.string t.pr), .sl 0 6 0 t.ts.length, .sl 1 9 0 t.hs.length], .cells 54 [.val (.string t.pr), .val (.slice none 0 0), .val (.slice none 0 0)]], (mle_cons ble_refl (mle_cons ble_refl (mle_cons ble_refl (mle_cons ble_refl (mle_cons ble_refl mle_nil))))), rfl, rfl, 0, Nat.zero_le _, rfl, rfl, .inl ⟨rfl, rfl⟩⟩ ?_
  rintro k vals M1 ⟨j, hj, rfl, rfl, ⟨hkt, rfl⟩ | rfl⟩
  · (conv => whnf)
    (repeat' (first | (refine step_t (by first | rfl | assumption) ?_; (conv => whnf)) | (refine step_f (by first | rfl | assumption) ?_; (conv => whnf)) | (refine step_nt (by assumption) ?_; (conv => whnf)) | (refine step_nf (by assumption) ?_; (conv => whnf)) | (refine step_n (fun hb => ?_) (fun hb => ?_) <;> (first | contradiction | (conv => whnf))) | (refine And.intro (fun hb => ?_) (fun hb => ?_) <;> (first | contradiction | (conv => whnf))) | (refine And.intro (a := (_ : Bool) = true) ?_ ?_; rotate_left 1; (conv => whnf))))
    all_goals try (have hlt : j < t.ts.length := (by
      have h9 : decide ((j : Int) < (t.ts.length : Int)) = true := (by assumption)
      have h8 := of_decide_eq_true h9
      omega))
    all_goals try (fail_if_success (refine Or.inr ?_)
                   simp only [isY_at, decY_at, isH_at, decH_at, Int.toNat_natCast, Nat.zero_add] at *)
    all_goals first
    | rfl
    | exact decide_eq_true hlt
    | (rw [Bool.and_eq_true]; exact ⟨decide_eq_true (by omega), decide_eq_true hlt⟩)
    | exact Ty.atMost_up (by decide) (all_getD hat hlt _)
    | (exfalso; rw [hyt j hlt] at hb; cases hb)
    | (simp; done)
    | skip
    · refine .inr ⟨[], [1, 2, 5, 6, 7], fun k vals M => ∃ i : Nat, i ≤ (t.ts.getD (0 + (j : Int).toNat) cY.dft).fs.length ∧ k = (t.ts.getD (0 + (j : Int).toNat) cY.dft).fs.length - i ∧ vals = [.sl 2 1 0 kp.length, .ptr 3 0, .ptr 4 0, .int .i64 (j : Int), .int .i64 (i : Int)] ∧ M = [.fz 6 t.ts.length (cY.g t.ts), .fz 9 t.hs.length (cH.g t.hs), .fz 1 kp.length (gOf eL kp), .cells 54 [.val (.string t.pr), .sl 0 6 0 t.ts.length, .sl 1 9 0 t.hs.length], .cells 54 [.val (.string t.pr), .val (.slice none 0 0), .val (.slice none 0 0)], .dead, .dead], ?_⟩
      conv => whnf
      refine And.intro ⟨(t.ts.getD (0 + (j : Int).toNat) cY.dft).fs.length, [.fz 6 t.ts.length (cY.g t.ts), .fz 9 t.hs.length (cH.g t.hs), .fz 1 kp.length (gOf eL kp), .cells 54 [.val (.string t.pr), .sl 0 6 0 t.ts.length, .sl 1 9 0 t.hs.length], .cells 54 [.val (.string t.pr), .val (.slice none 0 0), .val (.slice none 0 0)], .dead, .dead], (mle_cons ble_refl (mle_cons ble_refl (mle_cons ble_refl (mle_cons ble_refl (mle_cons ble_refl (mle_cons ble_dead (mle_cons ble_dead mle_nil))))))), rfl, rfl, 0, Nat.zero_le _, rfl, rfl, rfl⟩ ?_
      rintro k vals M1 ⟨i, hi, rfl, rfl, rfl⟩
      have hfl : (t.ts.getD (0 + (j : Int).toNat) cY.dft).fs.length ≤ 300 := by
        simp only [Int.toNat_natCast, Nat.zero_add]
        exact Ty.atMost_fs (all_getD hat hlt _)
      (conv => whnf)
      (repeat' (first | (refine step_t (by first | rfl | assumption) ?_; (conv => whnf)) | (refine step_f (by first | rfl | assumption) ?_; (conv => whnf)) | (refine step_nt (by assumption) ?_; (conv => whnf)) | (refine step_nf (by assumption) ?_; (conv => whnf)) | (refine step_n (fun hb => ?_) (fun hb => ?_) <;> (first | contradiction | (conv => whnf))) | (refine And.intro (fun hb => ?_) (fun hb => ?_) <;> (first | contradiction | (conv => whnf))) | (refine And.intro (a := (_ : Bool) = true) ?_ ?_; rotate_left 1; (conv => whnf))))
      all_goals try (have hli : i < (t.ts.getD j cY.dft).fs.length := (by
        have h9 : decide ((i : Int) < ((t.ts.getD (0 + (j : Int).toNat) cY.dft).fs.length : Int)) = true := (by assumption)
        have h8 := of_decide_eq_true h9
        simp only [Int.toNat_natCast, Nat.zero_add] at h8
        omega)
                     have hfe := K.field_at (K.type_fields (hyt j hlt)) hli)
      all_goals simp only [isY_at, decY_at, Int.toNat_natCast, Nat.zero_add] at *
      all_goals try simp only [hfe, Option.isSome_some, Option.getD_some, beq_self_eq_true, bne_self_eq_false, Bool.true_eq_false, Bool.false_eq_true, reduceCtorEq] at *
      all_goals first
      | rfl
      | exact decide_eq_true hlt
      | exact decide_eq_true hli
      | (rw [Bool.and_eq_true]; exact ⟨decide_eq_true (by omega), decide_eq_true hlt⟩)
      | (rw [Bool.and_eq_true]; exact ⟨decide_eq_true (by omega), decide_eq_true hli⟩)
      | exact Ty.atMost_up (by decide) (all_getD hat hlt _)
      | (simp; done)
      | skip
      all_goals try (have hkj : j < kp.length := (by
        have h9 : decide ((j : Int) < (kp.length : Int)) = true := (by assumption)
        have h8 := of_decide_eq_true h9
        omega))
      all_goals try (have hkn : ¬ j < kp.length := (by
        have h9 : decide ((j : Int) < (kp.length : Int)) = false := (by assumption)
        have h8 := of_decide_eq_false h9
        omega))
      all_goals try (have hkl := K.kept_len (p := K.keepT kp) (d := cY.dft) (L := t.ts) j)
      all_goals first
      | (exfalso; cases hb; done)
      | exact Ty.atMost_up (show 300 ≤ 1099511627776 by decide) (all_getD hat hlt _)
      | exact decide_eq_true hkj
      | (rw [Bool.and_eq_true]; exact ⟨decide_eq_true (by omega), decide_eq_true hkj⟩)
      | (simp only [hsz, List.length_cons, List.length_nil]; decide)
      | (rw [hby]; exact decide_eq_true (by omega))
      | (refine ⟨(t.ts.getD j cY.dft).fs.length - (i + 1), [.fz 6 t.ts.length (cY.g t.ts), .fz 9 t.hs.length (cH.g t.hs), .fz 1 kp.length (gOf eL kp), .cells 54 [.val (.string t.pr), .sl 0 6 0 t.ts.length, .sl 1 9 0 t.hs.length], .cells 54 [.val (.string t.pr), .val (.slice none 0 0), .val (.slice none 0 0)], .dead, .dead], [0, 1, 2, 3, 4, 5, 6], by omega, rfl, (mle_cons ble_refl (mle_cons ble_refl (mle_cons ble_refl (mle_cons ble_refl (mle_cons ble_refl (mle_cons ble_refl (mle_cons ble_refl mle_nil))))))), rfl, rfl, i + 1, by omega, rfl, ?_, rfl⟩
         show ([.sl 2 1 0 kp.length, .ptr 3 0, .ptr 4 0, .int .i64 (j : Int), .int .i64 (IntKind.i64.wrap ((i : Int) + 1))] : List SV) = _
         rw [i64_of (n := (i : Int) + 1) (by omega) (by omega)]; rfl)
      | (have hX : (K.kept (K.keepT kp) cY.dft t.ts (j + 1)) = ([] ++ [(t.ts.getD j cY.dft)]) := (by rw [K.kept_t (K.keepT_t hkj (by assumption)), hkt])
         refine ⟨t.ts.length - (j + 1), [.fz 6 t.ts.length (cY.g t.ts), .fz 9 t.hs.length (cH.g t.hs), .fz 1 kp.length (gOf eL kp), .cells 54 [.val (.string t.pr), .sl 0 6 0 t.ts.length, .sl 1 9 0 t.hs.length], .cells 54 [.val (.string t.pr), .sl 5 6 0 ([] ++ [(t.ts.getD j cY.dft)]).length, .val (.slice none 0 0)], .own 62 6 ([] ++ [(t.ts.getD j cY.dft)]).length (cY.g ([] ++ [(t.ts.getD j cY.dft)]))], [0, 1, 2, 3, 4, 11], by omega, rfl, (mle_cons ble_refl (mle_cons ble_refl (mle_cons ble_refl (mle_cons ble_refl (mle_cons (ble_cells (by first | rfl | (rw [List.length_append]; rfl))) (mle_cons (ble_own_e rfl (keptY_one _ hsz)) mle_nil)))))), rfl, rfl, j + 1, by omega, rfl, ?_, .inr (by rw [hX])⟩
         show ([.sl 2 1 0 kp.length, .ptr 3 0, .ptr 4 0, .int .i64 (IntKind.i64.wrap ((j : Int) + 1))] : List SV) = _
         rw [i64_of (n := (j : Int) + 1) (by omega) (by omega)]; rfl)
      | (have hX : (K.kept (K.keepT kp) cY.dft t.ts (j + 1)) = (K.kept (K.keepT kp) cY.dft t.ts j) := (K.kept_f (K.keepT_f (by first | exact .inl hkn | exact .inr (by assumption))))
         refine ⟨t.ts.length - (j + 1), [.fz 6 t.ts.length (cY.g t.ts), .fz 9 t.hs.length (cH.g t.hs), .fz 1 kp.length (gOf eL kp), .cells 54 [.val (.string t.pr), .sl 0 6 0 t.ts.length, .sl 1 9 0 t.hs.length], .cells 54 [.val (.string t.pr), .val (.slice none 0 0), .val (.slice none 0 0)]], [0, 1, 2, 3, 4], by omega, rfl, (mle_cons ble_refl (mle_cons ble_refl (mle_cons ble_refl (mle_cons ble_refl (mle_cons ble_refl mle_nil))))), rfl, rfl, j + 1, by omega, rfl, ?_, .inl ⟨by rw [hX]; exact hkt, rfl⟩⟩
         show ([.sl 2 1 0 kp.length, .ptr 3 0, .ptr 4 0, .int .i64 (IntKind.i64.wrap ((j : Int) + 1))] : List SV) = _
         rw [i64_of (n := (j : Int) + 1) (by omega) (by omega)]; rfl)
    · have hjl : j = t.ts.length := by
        have h9 : decide ((j : Int) < (t.ts.length : Int)) = false := by assumption
        have h8 := of_decide_eq_false h9
        omega
      have hkl := K.kept_len (p := K.keepT kp) (d := cY.dft) (L := t.ts) j
      have hke : ((K.kept (K.keepT kp) cY.dft t.ts j)).all (Ty.atMost 300) = true := K.kept_every hat hj
      refine .inr ⟨[], [1, 2, 5, 11], fun k vals M => ∃ q : Nat, q ≤ t.hs.length ∧ k = t.hs.length - q ∧ vals = [.sl 2 1 0 kp.length, .ptr 3 0, .ptr 4 0, .int .i64 (q : Int)] ∧ (((K.kept (K.keepH kp) cH.dft t.hs q) = [] ∧ M = [.fz 6 t.ts.length (cY.g t.ts), .fz 9 t.hs.length (cH.g t.hs), .fz 1 kp.length (gOf eL kp), .cells 54 [.val (.string t.pr), .sl 0 6 0 t.ts.length, .sl 1 9 0 t.hs.length], .cells 54 [.val (.string t.pr), .val (.slice none 0 0), .val (.slice none 0 0)]]) ∨ M = [.fz 6 t.ts.length (cY.g t.ts), .fz 9 t.hs.length (cH.g t.hs), .fz 1 kp.length (gOf eL kp), .cells 54 [.val (.string t.pr), .sl 0 6 0 t.ts.length, .sl 1 9 0 t.hs.length], .cells 54 [.val (.string t.pr), .val (.slice none 0 0), .sl 5 9 0 (K.kept (K.keepH kp) cH.dft t.hs q).length], .own 29 9 (K.kept (K.keepH kp) cH.dft t.hs q).length (cH.g (K.kept (K.keepH kp) cH.dft t.hs q))]), ?_⟩
      conv => whnf
      refine And.intro ⟨t.hs.length, [.fz 6 t.ts.length (cY.g t.ts), .fz 9 t.hs.length (cH.g t.hs), .fz 1 kp.length (gOf eL kp), .cells 54 [.val (.string t.pr), .sl 0 6 0 t.ts.length, .sl 1 9 0 t.hs.length], .cells 54 [.val (.string t.pr), .val (.slice none 0 0), .val (.slice none 0 0)]], (mle_cons ble_refl (mle_cons ble_refl (mle_cons ble_refl (mle_cons ble_refl (mle_cons ble_refl mle_nil))))), rfl, rfl, 0, Nat.zero_le _, rfl, rfl, .inl ⟨rfl, rfl⟩⟩ ?_
      rintro k vals M1 ⟨q, hq, rfl, rfl, ⟨hkq, rfl⟩ | rfl⟩
      · (conv => whnf)
        (repeat' (first | (refine step_t (by first | rfl | assumption) ?_; (conv => whnf)) | (refine step_f (by first | rfl | assumption) ?_; (conv => whnf)) | (refine step_nt (by assumption) ?_; (conv => whnf)) | (refine step_nf (by assumption) ?_; (conv => whnf)) | (refine step_n (fun hb => ?_) (fun hb => ?_) <;> (first | contradiction | (conv => whnf))) | (refine And.intro (fun hb => ?_) (fun hb => ?_) <;> (first | contradiction | (conv => whnf))) | (refine And.intro (a := (_ : Bool) = true) ?_ ?_; rotate_left 1; (conv => whnf))))
        all_goals try (have hlt : q < t.hs.length := (by
          have h9 : decide ((q : Int) < (t.hs.length : Int)) = true := (by assumption)
          have h8 := of_decide_eq_true h9
          omega))
        all_goals try (have hkj : q < kp.length := (by
          have h9 : decide ((q : Int) < (kp.length : Int)) = true := (by assumption)
          have h8 := of_decide_eq_true h9
          omega))
        all_goals try (have hkn : ¬ q < kp.length := (by
          have h9 : decide ((q : Int) < (kp.length : Int)) = false := (by assumption)
          have h8 := of_decide_eq_false h9
          omega))
        all_goals try (have hkhl := K.kept_len (p := K.keepH kp) (d := cH.dft) (L := t.hs) q)
        all_goals simp only [isH_at, decH_at, isT_1, isT_2, isT_3, isT_4, decT_1, decT_2, decT_3, decT_4, Int.toNat_natCast, Nat.zero_add] at *
        all_goals first
        | rfl
        | (simp; done)
        | exact decide_eq_true hlt
        | exact decide_eq_true hkj
        | (rw [Bool.and_eq_true]; exact ⟨decide_eq_true (by omega), decide_eq_true hlt⟩)
        | (rw [Bool.and_eq_true]; exact ⟨decide_eq_true (by omega), decide_eq_true hkj⟩)
        | exact Hp.atMost_up (show 300 ≤ 1099511627776 by decide) (all_getD hah hlt _)
        | (exfalso; rw [hyh q hlt] at hb; cases hb; done)
        | (simp only [hsh, List.length_cons, List.length_nil]; decide)
        | (rw [hbh]; exact decide_eq_true (by omega))
        | (have hX : (K.kept (K.keepH kp) cH.dft t.hs (q + 1)) = ([] ++ [(t.hs.getD q cH.dft)]) := (by rw [K.kept_t (K.keepH_t hkj (by assumption)), hkq])
           refine ⟨t.hs.length - (q + 1), [.fz 6 t.ts.length (cY.g t.ts), .fz 9 t.hs.length (cH.g t.hs), .fz 1 kp.length (gOf eL kp), .cells 54 [.val (.string t.pr), .sl 0 6 0 t.ts.length, .sl 1 9 0 t.hs.length], .cells 54 [.val (.string t.pr), .val (.slice none 0 0), .sl 5 9 0 ([] ++ [(t.hs.getD q cH.dft)]).length], .own 29 9 ([] ++ [(t.hs.getD q cH.dft)]).length (cH.g ([] ++ [(t.hs.getD q cH.dft)]))], [0, 1, 2, 3, 4, 8], by omega, rfl, (mle_cons ble_refl (mle_cons ble_refl (mle_cons ble_refl (mle_cons ble_refl (mle_cons (ble_cells (by first | rfl | (rw [List.length_append]; rfl))) (mle_cons (ble_own_e rfl (keptH_one _ hsh)) mle_nil)))))), rfl, rfl, q + 1, by omega, rfl, ?_, .inr (by rw [hX])⟩
           show ([.sl 2 1 0 kp.length, .ptr 3 0, .ptr 4 0, .int .i64 (IntKind.i64.wrap ((q : Int) + 1))] : List SV) = _
           rw [i64_of (n := (q : Int) + 1) (by omega) (by omega)]; rfl)
        | (have hX : (K.kept (K.keepH kp) cH.dft t.hs (q + 1)) = (K.kept (K.keepH kp) cH.dft t.hs q) := (K.kept_f (K.keepH_f (by first | exact .inl hkn | exact .inr (by assumption))))
           refine ⟨t.hs.length - (q + 1), [.fz 6 t.ts.length (cY.g t.ts), .fz 9 t.hs.length (cH.g t.hs), .fz 1 kp.length (gOf eL kp), .cells 54 [.val (.string t.pr), .sl 0 6 0 t.ts.length, .sl 1 9 0 t.hs.length], .cells 54 [.val (.string t.pr), .val (.slice none 0 0), .val (.slice none 0 0)]], [0, 1, 2, 3, 4], by omega, rfl, (mle_cons ble_refl (mle_cons ble_refl (mle_cons ble_refl (mle_cons ble_refl (mle_cons ble_refl mle_nil))))), rfl, rfl, q + 1, by omega, rfl, ?_, .inl ⟨by rw [hX]; exact hkq, rfl⟩⟩
           show ([.sl 2 1 0 kp.length, .ptr 3 0, .ptr 4 0, .int .i64 (IntKind.i64.wrap ((q : Int) + 1))] : List SV) = _
           rw [i64_of (n := (q : Int) + 1) (by omega) (by omega)]; rfl)
        | (have hql : q = t.hs.length := (by
             have h9 : decide ((q : Int) < (t.hs.length : Int)) = false := (by assumption)
             have h8 := of_decide_eq_false h9
             omega)
           have hfin : K.table ⟨t.pr, (K.kept (K.keepT kp) cY.dft t.ts j), (K.kept (K.keepH kp) cH.dft t.hs q)⟩ = 0 := (by rw [hjl, hql]; exact K.table_less hT _ _)
           rw [hkt, hkq] at hfin
           rw [hfin]; rfl)
        | (show Tb.atMost 1099511627776 ⟨t.pr, [], []⟩ = true
           have hkh := K.kept_len (p := K.keepH kp) (d := cH.dft) (L := t.hs) q
           have hhe : ((K.kept (K.keepH kp) cH.dft t.hs q)).all (Hp.atMost 300) = true := K.kept_every hah hq
           simp only [Tb.atMost, Bool.and_eq_true, decide_eq_true_eq]
           exact ⟨by omega, ⟨Nat.zero_le _, rfl⟩, Nat.zero_le _, rfl⟩)
      · (conv => whnf)
        (repeat' (first | (refine step_t (by first | rfl | assumption) ?_; (conv => whnf)) | (refine step_f (by first | rfl | assumption) ?_; (conv => whnf)) | (refine step_nt (by assumption) ?_; (conv => whnf)) | (refine step_nf (by assumption) ?_; (conv => whnf)) | (refine step_n (fun hb => ?_) (fun hb => ?_) <;> (first | contradiction | (conv => whnf))) | (refine And.intro (fun hb => ?_) (fun hb => ?_) <;> (first | contradiction | (conv => whnf))) | (refine And.intro (a := (_ : Bool) = true) ?_ ?_; rotate_left 1; (conv => whnf))))
        all_goals try (have hlt : q < t.hs.length := (by
          have h9 : decide ((q : Int) < (t.hs.length : Int)) = true := (by assumption)
          have h8 := of_decide_eq_true h9
          omega))
        all_goals try (have hkj : q < kp.length := (by
          have h9 : decide ((q : Int) < (kp.length : Int)) = true := (by assumption)
          have h8 := of_decide_eq_true h9
          omega))
        all_goals try (have hkn : ¬ q < kp.length := (by
          have h9 : decide ((q : Int) < (kp.length : Int)) = false := (by assumption)
          have h8 := of_decide_eq_false h9
          omega))
        all_goals try (have hkhl := K.kept_len (p := K.keepH kp) (d := cH.dft) (L := t.hs) q)
        all_goals simp only [isH_at, decH_at, isT_1, isT_2, isT_3, isT_4, decT_1, decT_2, decT_3, decT_4, Int.toNat_natCast, Nat.zero_add] at *
        all_goals first
        | rfl
        | (simp; done)
        | exact decide_eq_true hlt
        | exact decide_eq_true hkj
        | (rw [Bool.and_eq_true]; exact ⟨decide_eq_true (by omega), decide_eq_true hlt⟩)
        | (rw [Bool.and_eq_true]; exact ⟨decide_eq_true (by omega), decide_eq_true hkj⟩)
        | exact Hp.atMost_up (show 300 ≤ 1099511627776 by decide) (all_getD hah hlt _)
        | (exfalso; rw [hyh q hlt] at hb; cases hb; done)
        | (simp only [hsh, List.length_cons, List.length_nil]; decide)
        | (rw [hbh]; exact decide_eq_true (by omega))
        | (have hX : (K.kept (K.keepH kp) cH.dft t.hs (q + 1)) = ((K.kept (K.keepH kp) cH.dft t.hs q) ++ [(t.hs.getD q cH.dft)]) := (by rw [K.kept_t (K.keepH_t hkj (by assumption))])
           refine ⟨t.hs.length - (q + 1), [.fz 6 t.ts.length (cY.g t.ts), .fz 9 t.hs.length (cH.g t.hs), .fz 1 kp.length (gOf eL kp), .cells 54 [.val (.string t.pr), .sl 0 6 0 t.ts.length, .sl 1 9 0 t.hs.length], .cells 54 [.val (.string t.pr), .val (.slice none 0 0), .sl 5 9 0 ((K.kept (K.keepH kp) cH.dft t.hs q) ++ [(t.hs.getD q cH.dft)]).length], .own 29 9 ((K.kept (K.keepH kp) cH.dft t.hs q) ++ [(t.hs.getD q cH.dft)]).length (cH.g ((K.kept (K.keepH kp) cH.dft t.hs q) ++ [(t.hs.getD q cH.dft)]))], [0, 1, 2, 3, 4, 9], by omega, rfl, (mle_cons ble_refl (mle_cons ble_refl (mle_cons ble_refl (mle_cons ble_refl (mle_cons (ble_cells (by first | rfl | (rw [List.length_append]; rfl))) (mle_cons (ble_own_e (by rw [List.length_append]; rfl) (keptH_row _ _ hsh)) mle_nil)))))), rfl, rfl, q + 1, by omega, rfl, ?_, .inr (by rw [hX])⟩
           show ([.sl 2 1 0 kp.length, .ptr 3 0, .ptr 4 0, .int .i64 (IntKind.i64.wrap ((q : Int) + 1))] : List SV) = _
           rw [i64_of (n := (q : Int) + 1) (by omega) (by omega)]; rfl)
        | (have hX : (K.kept (K.keepH kp) cH.dft t.hs (q + 1)) = (K.kept (K.keepH kp) cH.dft t.hs q) := (K.kept_f (K.keepH_f (by first | exact .inl hkn | exact .inr (by assumption))))
           refine ⟨t.hs.length - (q + 1), [.fz 6 t.ts.length (cY.g t.ts), .fz 9 t.hs.length (cH.g t.hs), .fz 1 kp.length (gOf eL kp), .cells 54 [.val (.string t.pr), .sl 0 6 0 t.ts.length, .sl 1 9 0 t.hs.length], .cells 54 [.val (.string t.pr), .val (.slice none 0 0), .sl 5 9 0 (K.kept (K.keepH kp) cH.dft t.hs q).length], .own 29 9 (K.kept (K.keepH kp) cH.dft t.hs q).length (cH.g (K.kept (K.keepH kp) cH.dft t.hs q))], [0, 1, 2, 3, 4, 5], by omega, rfl, (mle_cons ble_refl (mle_cons ble_refl (mle_cons ble_refl (mle_cons ble_refl (mle_cons ble_refl (mle_cons ble_refl mle_nil)))))), rfl, rfl, q + 1, by omega, rfl, ?_, .inr (by rw [hX])⟩
           show ([.sl 2 1 0 kp.length, .ptr 3 0, .ptr 4 0, .int .i64 (IntKind.i64.wrap ((q : Int) + 1))] : List SV) = _
           rw [i64_of (n := (q : Int) + 1) (by omega) (by omega)]; rfl)
        | (have hql : q = t.hs.length := (by
             have h9 : decide ((q : Int) < (t.hs.length : Int)) = false := (by assumption)
             have h8 := of_decide_eq_false h9
             omega)
           have hfin : K.table ⟨t.pr, (K.kept (K.keepT kp) cY.dft t.ts j), (K.kept (K.keepH kp) cH.dft t.hs q)⟩ = 0 := (by rw [hjl, hql]; exact K.table_less hT _ _)
           rw [hkt] at hfin
           rw [hfin]; rfl)
        | (show Tb.atMost 1099511627776 ⟨t.pr, [], (K.kept (K.keepH kp) cH.dft t.hs q)⟩ = true
           have hkh := K.kept_len (p := K.keepH kp) (d := cH.dft) (L := t.hs) q
           have hhe : ((K.kept (K.keepH kp) cH.dft t.hs q)).all (Hp.atMost 300) = true := K.kept_every hah hq
           simp only [Tb.atMost, Bool.and_eq_true, decide_eq_true_eq]
           exact ⟨by omega, ⟨Nat.zero_le _, rfl⟩, by omega, all_mono2 (fun a => Hp.atMost_up (by decide)) hhe⟩)
  · (conv => whnf)
    (repeat' (first | (refine step_t (by first | rfl | assumption) ?_; (conv => whnf)) | (refine step_f (by first | rfl | assumption) ?_; (conv => whnf)) | (refine step_nt (by assumption) ?_; (conv => whnf)) | (refine step_nf (by assumption) ?_; (conv => whnf)) | (refine step_n (fun hb => ?_) (fun hb => ?_) <;> (first | contradiction | (conv => whnf))) | (refine And.intro (fun hb => ?_) (fun hb => ?_) <;> (first | contradiction | (conv => whnf))) | (refine And.intro (a := (_ : Bool) = true) ?_ ?_; rotate_left 1; (conv => whnf))))
    all_goals try (have hlt : j < t.ts.length := (by
      have h9 : decide ((j : Int) < (t.ts.length : Int)) = true := (by assumption)
      have h8 := of_decide_eq_true h9
      omega))
    all_goals try (fail_if_success (refine Or.inr ?_)
                   simp only [isY_at, decY_at, isH_at, decH_at, Int.toNat_natCast, Nat.zero_add] at *)
    all_goals first
    | rfl
    | exact decide_eq_true hlt
    | (rw [Bool.and_eq_true]; exact ⟨decide_eq_true (by omega), decide_eq_true hlt⟩)
    | exact Ty.atMost_up (by decide) (all_getD hat hlt _)
    | (exfalso; rw [hyt j hlt] at hb; cases hb)
    | (simp; done)
    | skip
    · refine .inr ⟨[], [1, 2, 5, 6, 7], fun k vals M => ∃ i : Nat, i ≤ (t.ts.getD (0 + (j : Int).toNat) cY.dft).fs.length ∧ k = (t.ts.getD (0 + (j : Int).toNat) cY.dft).fs.length - i ∧ vals = [.sl 2 1 0 kp.length, .ptr 3 0, .ptr 4 0, .int .i64 (j : Int), .int .i64 (i : Int)] ∧ M = [.fz 6 t.ts.length (cY.g t.ts), .fz 9 t.hs.length (cH.g t.hs), .fz 1 kp.length (gOf eL kp), .cells 54 [.val (.string t.pr), .sl 0 6 0 t.ts.length, .sl 1 9 0 t.hs.length], .cells 54 [.val (.string t.pr), .sl 5 6 0 (K.kept (K.keepT kp) cY.dft t.ts j).length, .val (.slice none 0 0)], .own 62 6 (K.kept (K.keepT kp) cY.dft t.ts j).length (cY.g (K.kept (K.keepT kp) cY.dft t.ts j)), .dead, .dead], ?_⟩
      conv => whnf
      refine And.intro ⟨(t.ts.getD (0 + (j : Int).toNat) cY.dft).fs.length, [.fz 6 t.ts.length (cY.g t.ts), .fz 9 t.hs.length (cH.g t.hs), .fz 1 kp.length (gOf eL kp), .cells 54 [.val (.string t.pr), .sl 0 6 0 t.ts.length, .sl 1 9 0 t.hs.length], .cells 54 [.val (.string t.pr), .sl 5 6 0 (K.kept (K.keepT kp) cY.dft t.ts j).length, .val (.slice none 0 0)], .own 62 6 (K.kept (K.keepT kp) cY.dft t.ts j).length (cY.g (K.kept (K.keepT kp) cY.dft t.ts j)), .dead, .dead], (mle_cons ble_refl (mle_cons ble_refl (mle_cons ble_refl (mle_cons ble_refl (mle_cons ble_refl (mle_cons ble_refl (mle_cons ble_dead (mle_cons ble_dead mle_nil)))))))), rfl, rfl, 0, Nat.zero_le _, rfl, rfl, rfl⟩ ?_
      rintro k vals M1 ⟨i, hi, rfl, rfl, rfl⟩
      have hfl : (t.ts.getD (0 + (j : Int).toNat) cY.dft).fs.length ≤ 300 := by
        simp only [Int.toNat_natCast, Nat.zero_add]
        exact Ty.atMost_fs (all_getD hat hlt _)
      (conv => whnf)
      (repeat' (first | (refine step_t (by first | rfl | assumption) ?_; (conv => whnf)) | (refine step_f (by first | rfl | assumption) ?_; (conv => whnf)) | (refine step_nt (by assumption) ?_; (conv => whnf)) | (refine step_nf (by assumption) ?_; (conv => whnf)) | (refine step_n (fun hb => ?_) (fun hb => ?_) <;> (first | contradiction | (conv => whnf))) | (refine And.intro (fun hb => ?_) (fun hb => ?_) <;> (first | contradiction | (conv => whnf))) | (refine And.intro (a := (_ : Bool) = true) ?_ ?_; rotate_left 1; (conv => whnf))))
      all_goals try (have hli : i < (t.ts.getD j cY.dft).fs.length := (by
        have h9 : decide ((i : Int) < ((t.ts.getD (0 + (j : Int).toNat) cY.dft).fs.length : Int)) = true := (by assumption)
        have h8 := of_decide_eq_true h9
        simp only [Int.toNat_natCast, Nat.zero_add] at h8
        omega)
                     have hfe := K.field_at (K.type_fields (hyt j hlt)) hli)
      all_goals simp only [isY_at, decY_at, Int.toNat_natCast, Nat.zero_add] at *
      all_goals try simp only [hfe, Option.isSome_some, Option.getD_some, beq_self_eq_true, bne_self_eq_false, Bool.true_eq_false, Bool.false_eq_true, reduceCtorEq] at *
      all_goals first
      | rfl
      | exact decide_eq_true hlt
      | exact decide_eq_true hli
      | (rw [Bool.and_eq_true]; exact ⟨decide_eq_true (by omega), decide_eq_true hlt⟩)
      | (rw [Bool.and_eq_true]; exact ⟨decide_eq_true (by omega), decide_eq_true hli⟩)
      | exact Ty.atMost_up (by decide) (all_getD hat hlt _)
      | (simp; done)
      | skip
      all_goals try (have hkj : j < kp.length := (by
        have h9 : decide ((j : Int) < (kp.length : Int)) = true := (by assumption)
        have h8 := of_decide_eq_true h9
        omega))
      all_goals try (have hkn : ¬ j < kp.length := (by
        have h9 : decide ((j : Int) < (kp.length : Int)) = false := (by assumption)
        have h8 := of_decide_eq_false h9
        omega))
      all_goals try (have hkl := K.kept_len (p := K.keepT kp) (d := cY.dft) (L := t.ts) j)
      all_goals first
      | (exfalso; cases hb; done)
      | exact Ty.atMost_up (show 300 ≤ 1099511627776 by decide) (all_getD hat hlt _)
      | exact decide_eq_true hkj
      | (rw [Bool.and_eq_true]; exact ⟨decide_eq_true (by omega), decide_eq_true hkj⟩)
      | (simp only [hsz, List.length_cons, List.length_nil]; decide)
      | (rw [hby]; exact decide_eq_true (by omega))
      | (refine ⟨(t.ts.getD j cY.dft).fs.length - (i + 1), [.fz 6 t.ts.length (cY.g t.ts), .fz 9 t.hs.length (cH.g t.hs), .fz 1 kp.length (gOf eL kp), .cells 54 [.val (.string t.pr), .sl 0 6 0 t.ts.length, .sl 1 9 0 t.hs.length], .cells 54 [.val (.string t.pr), .sl 5 6 0 (K.kept (K.keepT kp) cY.dft t.ts j).length, .val (.slice none 0 0)], .own 62 6 (K.kept (K.keepT kp) cY.dft t.ts j).length (cY.g (K.kept (K.keepT kp) cY.dft t.ts j)), .dead, .dead], [0, 1, 2, 3, 4, 5, 6, 7], by omega, rfl, (mle_cons ble_refl (mle_cons ble_refl (mle_cons ble_refl (mle_cons ble_refl (mle_cons ble_refl (mle_cons ble_refl (mle_cons ble_refl (mle_cons ble_refl mle_nil)))))))), rfl, rfl, i + 1, by omega, rfl, ?_, rfl⟩
         show ([.sl 2 1 0 kp.length, .ptr 3 0, .ptr 4 0, .int .i64 (j : Int), .int .i64 (IntKind.i64.wrap ((i : Int) + 1))] : List SV) = _
         rw [i64_of (n := (i : Int) + 1) (by omega) (by omega)]; rfl)
      | (have hX : (K.kept (K.keepT kp) cY.dft t.ts (j + 1)) = ((K.kept (K.keepT kp) cY.dft t.ts j) ++ [(t.ts.getD j cY.dft)]) := (by rw [K.kept_t (K.keepT_t hkj (by assumption))])
         refine ⟨t.ts.length - (j + 1), [.fz 6 t.ts.length (cY.g t.ts), .fz 9 t.hs.length (cH.g t.hs), .fz 1 kp.length (gOf eL kp), .cells 54 [.val (.string t.pr), .sl 0 6 0 t.ts.length, .sl 1 9 0 t.hs.length], .cells 54 [.val (.string t.pr), .sl 5 6 0 ((K.kept (K.keepT kp) cY.dft t.ts j) ++ [(t.ts.getD j cY.dft)]).length, .val (.slice none 0 0)], .own 62 6 ((K.kept (K.keepT kp) cY.dft t.ts j) ++ [(t.ts.getD j cY.dft)]).length (cY.g ((K.kept (K.keepT kp) cY.dft t.ts j) ++ [(t.ts.getD j cY.dft)]))], [0, 1, 2, 3, 4, 12], by omega, rfl, (mle_cons ble_refl (mle_cons ble_refl (mle_cons ble_refl (mle_cons ble_refl (mle_cons (ble_cells (by first | rfl | (rw [List.length_append]; rfl))) (mle_cons (ble_own_e (by rw [List.length_append]; rfl) (keptY_row _ _ hsz)) mle_nil)))))), rfl, rfl, j + 1, by omega, rfl, ?_, .inr (by rw [hX])⟩
         show ([.sl 2 1 0 kp.length, .ptr 3 0, .ptr 4 0, .int .i64 (IntKind.i64.wrap ((j : Int) + 1))] : List SV) = _
         rw [i64_of (n := (j : Int) + 1) (by omega) (by omega)]; rfl)
      | (have hX : (K.kept (K.keepT kp) cY.dft t.ts (j + 1)) = (K.kept (K.keepT kp) cY.dft t.ts j) := (K.kept_f (K.keepT_f (by first | exact .inl hkn | exact .inr (by assumption))))
         refine ⟨t.ts.length - (j + 1), [.fz 6 t.ts.length (cY.g t.ts), .fz 9 t.hs.length (cH.g t.hs), .fz 1 kp.length (gOf eL kp), .cells 54 [.val (.string t.pr), .sl 0 6 0 t.ts.length, .sl 1 9 0 t.hs.length], .cells 54 [.val (.string t.pr), .sl 5 6 0 (K.kept (K.keepT kp) cY.dft t.ts j).length, .val (.slice none 0 0)], .own 62 6 (K.kept (K.keepT kp) cY.dft t.ts j).length (cY.g (K.kept (K.keepT kp) cY.dft t.ts j))], [0, 1, 2, 3, 4, 5], by omega, rfl, (mle_cons ble_refl (mle_cons ble_refl (mle_cons ble_refl (mle_cons ble_refl (mle_cons ble_refl (mle_cons ble_refl mle_nil)))))), rfl, rfl, j + 1, by omega, rfl, ?_, .inr (by rw [hX])⟩
         show ([.sl 2 1 0 kp.length, .ptr 3 0, .ptr 4 0, .int .i64 (IntKind.i64.wrap ((j : Int) + 1))] : List SV) = _
         rw [i64_of (n := (j : Int) + 1) (by omega) (by omega)]; rfl)
    · have hjl : j = t.ts.length := by
        have h9 : decide ((j : Int) < (t.ts.length : Int)) = false := by assumption
        have h8 := of_decide_eq_false h9
        omega
      have hkl := K.kept_len (p := K.keepT kp) (d := cY.dft) (L := t.ts) j
      have hke : ((K.kept (K.keepT kp) cY.dft t.ts j)).all (Ty.atMost 300) = true := K.kept_every hat hj
      refine .inr ⟨[], [1, 2, 5, 11], fun k vals M => ∃ q : Nat, q ≤ t.hs.length ∧ k = t.hs.length - q ∧ vals = [.sl 2 1 0 kp.length, .ptr 3 0, .ptr 4 0, .int .i64 (q : Int)] ∧ (((K.kept (K.keepH kp) cH.dft t.hs q) = [] ∧ M = [.fz 6 t.ts.length (cY.g t.ts), .fz 9 t.hs.length (cH.g t.hs), .fz 1 kp.length (gOf eL kp), .cells 54 [.val (.string t.pr), .sl 0 6 0 t.ts.length, .sl 1 9 0 t.hs.length], .cells 54 [.val (.string t.pr), .sl 5 6 0 (K.kept (K.keepT kp) cY.dft t.ts j).length, .val (.slice none 0 0)], .own 62 6 (K.kept (K.keepT kp) cY.dft t.ts j).length (cY.g (K.kept (K.keepT kp) cY.dft t.ts j))]) ∨ M = [.fz 6 t.ts.length (cY.g t.ts), .fz 9 t.hs.length (cH.g t.hs), .fz 1 kp.length (gOf eL kp), .cells 54 [.val (.string t.pr), .sl 0 6 0 t.ts.length, .sl 1 9 0 t.hs.length], .cells 54 [.val (.string t.pr), .sl 5 6 0 (K.kept (K.keepT kp) cY.dft t.ts j).length, .sl 6 9 0 (K.kept (K.keepH kp) cH.dft t.hs q).length], .own 62 6 (K.kept (K.keepT kp) cY.dft t.ts j).length (cY.g (K.kept (K.keepT kp) cY.dft t.ts j)), .own 29 9 (K.kept (K.keepH kp) cH.dft t.hs q).length (cH.g (K.kept (K.keepH kp) cH.dft t.hs q))]), ?_⟩
      conv => whnf
      refine And.intro ⟨t.hs.length, [.fz 6 t.ts.length (cY.g t.ts), .fz 9 t.hs.length (cH.g t.hs), .fz 1 kp.length (gOf eL kp), .cells 54 [.val (.string t.pr), .sl 0 6 0 t.ts.length, .sl 1 9 0 t.hs.length], .cells 54 [.val (.string t.pr), .sl 5 6 0 (K.kept (K.keepT kp) cY.dft t.ts j).length, .val (.slice none 0 0)], .own 62 6 (K.kept (K.keepT kp) cY.dft t.ts j).length (cY.g (K.kept (K.keepT kp) cY.dft t.ts j))], (mle_cons ble_refl (mle_cons ble_refl (mle_cons ble_refl (mle_cons ble_refl (mle_cons ble_refl (mle_cons ble_refl mle_nil)))))), rfl, rfl, 0, Nat.zero_le _, rfl, rfl, .inl ⟨rfl, rfl⟩⟩ ?_
      rintro k vals M1 ⟨q, hq, rfl, rfl, ⟨hkq, rfl⟩ | rfl⟩
      · (conv => whnf)
        (repeat' (first | (refine step_t (by first | rfl | assumption) ?_; (conv => whnf)) | (refine step_f (by first | rfl | assumption) ?_; (conv => whnf)) | (refine step_nt (by assumption) ?_; (conv => whnf)) | (refine step_nf (by assumption) ?_; (conv => whnf)) | (refine step_n (fun hb => ?_) (fun hb => ?_) <;> (first | contradiction | (conv => whnf))) | (refine And.intro (fun hb => ?_) (fun hb => ?_) <;> (first | contradiction | (conv => whnf))) | (refine And.intro (a := (_ : Bool) = true) ?_ ?_; rotate_left 1; (conv => whnf))))
        all_goals try (have hlt : q < t.hs.length := (by
          have h9 : decide ((q : Int) < (t.hs.length : Int)) = true := (by assumption)
          have h8 := of_decide_eq_true h9
          omega))
        all_goals try (have hkj : q < kp.length := (by
          have h9 : decide ((q : Int) < (kp.length : Int)) = true := (by assumption)
          have h8 := of_decide_eq_true h9
          omega))
        all_goals try (have hkn : ¬ q < kp.length := (by
          have h9 : decide ((q : Int) < (kp.length : Int)) = false := (by assumption)
          have h8 := of_decide_eq_false h9
          omega))
        all_goals try (have hkhl := K.kept_len (p := K.keepH kp) (d := cH.dft) (L := t.hs) q)
        all_goals simp only [isH_at, decH_at, isT_1, isT_2, isT_3, isT_4, decT_1, decT_2, decT_3, decT_4, Int.toNat_natCast, Nat.zero_add] at *
        all_goals first
        | rfl
        | (simp; done)
        | exact decide_eq_true hlt
        | exact decide_eq_true hkj
        | (rw [Bool.and_eq_true]; exact ⟨decide_eq_true (by omega), decide_eq_true hlt⟩)
        | (rw [Bool.and_eq_true]; exact ⟨decide_eq_true (by omega), decide_eq_true hkj⟩)
        | exact Hp.atMost_up (show 300 ≤ 1099511627776 by decide) (all_getD hah hlt _)
        | (exfalso; rw [hyh q hlt] at hb; cases hb; done)
        | (simp only [hsh, List.length_cons, List.length_nil]; decide)
        | (rw [hbh]; exact decide_eq_true (by omega))
        | (have hX : (K.kept (K.keepH kp) cH.dft t.hs (q + 1)) = ([] ++ [(t.hs.getD q cH.dft)]) := (by rw [K.kept_t (K.keepH_t hkj (by assumption)), hkq])
           refine ⟨t.hs.length - (q + 1), [.fz 6 t.ts.length (cY.g t.ts), .fz 9 t.hs.length (cH.g t.hs), .fz 1 kp.length (gOf eL kp), .cells 54 [.val (.string t.pr), .sl 0 6 0 t.ts.length, .sl 1 9 0 t.hs.length], .cells 54 [.val (.string t.pr), .sl 5 6 0 (K.kept (K.keepT kp) cY.dft t.ts j).length, .sl 6 9 0 ([] ++ [(t.hs.getD q cH.dft)]).length], .own 62 6 (K.kept (K.keepT kp) cY.dft t.ts j).length (cY.g (K.kept (K.keepT kp) cY.dft t.ts j)), .own 29 9 ([] ++ [(t.hs.getD q cH.dft)]).length (cH.g ([] ++ [(t.hs.getD q cH.dft)]))], [0, 1, 2, 3, 4, 5, 9], by omega, rfl, (mle_cons ble_refl (mle_cons ble_refl (mle_cons ble_refl (mle_cons ble_refl (mle_cons (ble_cells (by first | rfl | (rw [List.length_append]; rfl))) (mle_cons ble_refl (mle_cons (ble_own_e rfl (keptH_one _ hsh)) mle_nil))))))), rfl, rfl, q + 1, by omega, rfl, ?_, .inr (by rw [hX])⟩
           show ([.sl 2 1 0 kp.length, .ptr 3 0, .ptr 4 0, .int .i64 (IntKind.i64.wrap ((q : Int) + 1))] : List SV) = _
           rw [i64_of (n := (q : Int) + 1) (by omega) (by omega)]; rfl)
        | (have hX : (K.kept (K.keepH kp) cH.dft t.hs (q + 1)) = (K.kept (K.keepH kp) cH.dft t.hs q) := (K.kept_f (K.keepH_f (by first | exact .inl hkn | exact .inr (by assumption))))
           refine ⟨t.hs.length - (q + 1), [.fz 6 t.ts.length (cY.g t.ts), .fz 9 t.hs.length (cH.g t.hs), .fz 1 kp.length (gOf eL kp), .cells 54 [.val (.string t.pr), .sl 0 6 0 t.ts.length, .sl 1 9 0 t.hs.length], .cells 54 [.val (.string t.pr), .sl 5 6 0 (K.kept (K.keepT kp) cY.dft t.ts j).length, .val (.slice none 0 0)], .own 62 6 (K.kept (K.keepT kp) cY.dft t.ts j).length (cY.g (K.kept (K.keepT kp) cY.dft t.ts j))], [0, 1, 2, 3, 4, 5], by omega, rfl, (mle_cons ble_refl (mle_cons ble_refl (mle_cons ble_refl (mle_cons ble_refl (mle_cons ble_refl (mle_cons ble_refl mle_nil)))))), rfl, rfl, q + 1, by omega, rfl, ?_, .inl ⟨by rw [hX]; exact hkq, rfl⟩⟩
           show ([.sl 2 1 0 kp.length, .ptr 3 0, .ptr 4 0, .int .i64 (IntKind.i64.wrap ((q : Int) + 1))] : List SV) = _
           rw [i64_of (n := (q : Int) + 1) (by omega) (by omega)]; rfl)
        | (have hql : q = t.hs.length := (by
             have h9 : decide ((q : Int) < (t.hs.length : Int)) = false := (by assumption)
             have h8 := of_decide_eq_false h9
             omega)
           have hfin : K.table ⟨t.pr, (K.kept (K.keepT kp) cY.dft t.ts j), (K.kept (K.keepH kp) cH.dft t.hs q)⟩ = 0 := (by rw [hjl, hql]; exact K.table_less hT _ _)
           rw [hkq] at hfin
           rw [hfin]; rfl)
        | (show Tb.atMost 1099511627776 ⟨t.pr, (K.kept (K.keepT kp) cY.dft t.ts j), []⟩ = true
           have hkh := K.kept_len (p := K.keepH kp) (d := cH.dft) (L := t.hs) q
           have hhe : ((K.kept (K.keepH kp) cH.dft t.hs q)).all (Hp.atMost 300) = true := K.kept_every hah hq
           simp only [Tb.atMost, Bool.and_eq_true, decide_eq_true_eq]
           exact ⟨by omega, ⟨by omega, all_mono2 (fun a => Ty.atMost_up (by decide)) hke⟩, Nat.zero_le _, rfl⟩)
      · (conv => whnf)
        (repeat' (first | (refine step_t (by first | rfl | assumption) ?_; (conv => whnf)) | (refine step_f (by first | rfl | assumption) ?_; (conv => whnf)) | (refine step_nt (by assumption) ?_; (conv => whnf)) | (refine step_nf (by assumption) ?_; (conv => whnf)) | (refine step_n (fun hb => ?_) (fun hb => ?_) <;> (first | contradiction | (conv => whnf))) | (refine And.intro (fun hb => ?_) (fun hb => ?_) <;> (first | contradiction | (conv => whnf))) | (refine And.intro (a := (_ : Bool) = true) ?_ ?_; rotate_left 1; (conv => whnf))))
        all_goals try (have hlt : q < t.hs.length := (by
          have h9 : decide ((q : Int) < (t.hs.length : Int)) = true := (by assumption)
          have h8 := of_decide_eq_true h9
          omega))
        all_goals try (have hkj : q < kp.length := (by
          have h9 : decide ((q : Int) < (kp.length : Int)) = true := (by assumption)
          have h8 := of_decide_eq_true h9
          omega))
        all_goals try (have hkn : ¬ q < kp.length := (by
          have h9 : decide ((q : Int) < (kp.length : Int)) = false := (by assumption)
          have h8 := of_decide_eq_false h9
          omega))
        all_goals try (have hkhl := K.kept_len (p := K.keepH kp) (d := cH.dft) (L := t.hs) q)
        all_goals simp only [isH_at, decH_at, isT_1, isT_2, isT_3, isT_4, decT_1, decT_2, decT_3, decT_4, Int.toNat_natCast, Nat.zero_add] at *
        all_goals first
        | rfl
        | (simp; done)
        | exact decide_eq_true hlt
        | exact decide_eq_true hkj
        | (rw [Bool.and_eq_true]; exact ⟨decide_eq_true (by omega), decide_eq_true hlt⟩)
        | (rw [Bool.and_eq_true]; exact ⟨decide_eq_true (by omega), decide_eq_true hkj⟩)
        | exact Hp.atMost_up (show 300 ≤ 1099511627776 by decide) (all_getD hah hlt _)
        | (exfalso; rw [hyh q hlt] at hb; cases hb; done)
        | (simp only [hsh, List.length_cons, List.length_nil]; decide)
        | (rw [hbh]; exact decide_eq_true (by omega))
        | (have hX : (K.kept (K.keepH kp) cH.dft t.hs (q + 1)) = ((K.kept (K.keepH kp) cH.dft t.hs q) ++ [(t.hs.getD q cH.dft)]) := (by rw [K.kept_t (K.keepH_t hkj (by assumption))])
           refine ⟨t.hs.length - (q + 1), [.fz 6 t.ts.length (cY.g t.ts), .fz 9 t.hs.length (cH.g t.hs), .fz 1 kp.length (gOf eL kp), .cells 54 [.val (.string t.pr), .sl 0 6 0 t.ts.length, .sl 1 9 0 t.hs.length], .cells 54 [.val (.string t.pr), .sl 5 6 0 (K.kept (K.keepT kp) cY.dft t.ts j).length, .sl 6 9 0 ((K.kept (K.keepH kp) cH.dft t.hs q) ++ [(t.hs.getD q cH.dft)]).length], .own 62 6 (K.kept (K.keepT kp) cY.dft t.ts j).length (cY.g (K.kept (K.keepT kp) cY.dft t.ts j)), .own 29 9 ((K.kept (K.keepH kp) cH.dft t.hs q) ++ [(t.hs.getD q cH.dft)]).length (cH.g ((K.kept (K.keepH kp) cH.dft t.hs q) ++ [(t.hs.getD q cH.dft)]))], [0, 1, 2, 3, 4, 5, 10], by omega, rfl, (mle_cons ble_refl (mle_cons ble_refl (mle_cons ble_refl (mle_cons ble_refl (mle_cons (ble_cells (by first | rfl | (rw [List.length_append]; rfl))) (mle_cons ble_refl (mle_cons (ble_own_e (by rw [List.length_append]; rfl) (keptH_row _ _ hsh)) mle_nil))))))), rfl, rfl, q + 1, by omega, rfl, ?_, .inr (by rw [hX])⟩
           show ([.sl 2 1 0 kp.length, .ptr 3 0, .ptr 4 0, .int .i64 (IntKind.i64.wrap ((q : Int) + 1))] : List SV) = _
           rw [i64_of (n := (q : Int) + 1) (by omega) (by omega)]; rfl)
        | (have hX : (K.kept (K.keepH kp) cH.dft t.hs (q + 1)) = (K.kept (K.keepH kp) cH.dft t.hs q) := (K.kept_f (K.keepH_f (by first | exact .inl hkn | exact .inr (by assumption))))
           refine ⟨t.hs.length - (q + 1), [.fz 6 t.ts.length (cY.g t.ts), .fz 9 t.hs.length (cH.g t.hs), .fz 1 kp.length (gOf eL kp), .cells 54 [.val (.string t.pr), .sl 0 6 0 t.ts.length, .sl 1 9 0 t.hs.length], .cells 54 [.val (.string t.pr), .sl 5 6 0 (K.kept (K.keepT kp) cY.dft t.ts j).length, .sl 6 9 0 (K.kept (K.keepH kp) cH.dft t.hs q).length], .own 62 6 (K.kept (K.keepT kp) cY.dft t.ts j).length (cY.g (K.kept (K.keepT kp) cY.dft t.ts j)), .own 29 9 (K.kept (K.keepH kp) cH.dft t.hs q).length (cH.g (K.kept (K.keepH kp) cH.dft t.hs q))], [0, 1, 2, 3, 4, 5, 6], by omega, rfl, (mle_cons ble_refl (mle_cons ble_refl (mle_cons ble_refl (mle_cons ble_refl (mle_cons ble_refl (mle_cons ble_refl (mle_cons ble_refl mle_nil))))))), rfl, rfl, q + 1, by omega, rfl, ?_, .inr (by rw [hX])⟩
           show ([.sl 2 1 0 kp.length, .ptr 3 0, .ptr 4 0, .int .i64 (IntKind.i64.wrap ((q : Int) + 1))] : List SV) = _
           rw [i64_of (n := (q : Int) + 1) (by omega) (by omega)]; rfl)
        | (have hql : q = t.hs.length := (by
             have h9 : decide ((q : Int) < (t.hs.length : Int)) = false := (by assumption)
             have h8 := of_decide_eq_false h9
             omega)
           have hfin : K.table ⟨t.pr, (K.kept (K.keepT kp) cY.dft t.ts j), (K.kept (K.keepH kp) cH.dft t.hs q)⟩ = 0 := (by rw [hjl, hql]; exact K.table_less hT _ _)
           skip
           rw [hfin]; rfl)
        | (show Tb.atMost 1099511627776 ⟨t.pr, (K.kept (K.keepT kp) cY.dft t.ts j), (K.kept (K.keepH kp) cH.dft t.hs q)⟩ = true
           have hkh := K.kept_len (p := K.keepH kp) (d := cH.dft) (L := t.hs) q
           have hhe : ((K.kept (K.keepH kp) cH.dft t.hs q)).all (Hp.atMost 300) = true := K.kept_every hah hq
           simp only [Tb.atMost, Bool.and_eq_true, decide_eq_true_eq]
           exact ⟨by omega, ⟨by omega, all_mono2 (fun a => Ty.atMost_up (by decide)) hke⟩, by omega, all_mono2 (fun a => Hp.atMost_up (by decide)) hhe⟩)
end Go.Proofs.Ytnbcemeofhaogaa
namespace Go.Proofs.Ytnbcemeofhaogaa
open Go.RowKit Go.Sx
set_option linter.unusedSimpArgs false
set_option linter.unusedVariables false
set_option linter.unnecessarySimpa false
set_option maxRecDepth 100000
set_option maxHeartbeats 4000000
/-- What KindsLess answers. -/
theorem less_calls {w : World} (ρ : Val) (t : Tb) (kp : List Bool) (hw : t.atMost 140737488355328 = true) (hk : kp.length ≤ 140737488355328) (hM : MRel ⟨w.heap.size, [], ρ.z⟩ ρ [.fz 6 t.ts.length (cY.g t.ts), .fz 9 t.hs.length (cH.g t.hs), .fz 1 kp.length (gOf eL kp)] w) :
    Calls Try.prog 6 (denL ρ [.agg [.val (.string t.pr), .sl 0 6 0 t.ts.length, .sl 1 9 0 t.hs.length], .sl 2 1 0 kp.length]).toArray w (Ret w (.bool true)) := by
  have h := calls_runs (G := Gw) (w := w) (ρ0 := ρ) (z := ρ.z) (Γ := ⟨[(7, k_awake), (20, k_table), (21, k_type), (22, k_field), (11, k_helper)], eqs, [], [], [], mixs, meqs, [(19, k_small)]⟩) (args := [.agg [.val (.string t.pr), .sl 0 6 0 t.ts.length, .sl 1 9 0 t.hs.length], .sl 2 1 0 kp.length]) st_Gw ⟨(okCons k_awake_ok (okCons k_table_ok (okCons k_type_ok (okCons k_field_ok (okCons k_helper_ok okNil))))), eqs_ok, okNilB, okNilI, okNilP, mixs_ok, meqs_ok, (okConsY k_small_ok okNilY)⟩ Try.func6 rfl mixed [(15, 14, [0, 1, 0, 7, 15, 0, 32, 0, 128, 511, 1023, 2047, 2047, 0, 12287, 32767]), (19, 8, [0, 1, 0, 4, 0, 28, 60, 124, 255, 511, 1023]), (26, 8, [0, 1, 0, 4, 0, 28, 60, 124, 255, 511, 1023])] (by kernel_rfl) [] trivial rfl hM ⟨rfl, less_run t kp hw hk⟩
  refine h.mono ?_
  rintro e w' ⟨ρ', sv, M, rfl, hsv, _, hbel⟩
  exact ⟨by rw [eqv_den hsv ρ' ρ']; rfl, grow_mk hbel⟩
end Go.Proofs.Ytnbcemeofhaogaa
