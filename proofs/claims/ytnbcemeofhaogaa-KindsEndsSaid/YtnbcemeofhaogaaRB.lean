import Derived.Test.YtnbcemeofhaogaaRA
namespace Go.Proofs.Ytnbcemeofhaogaa
open Go.RowKit Go.Sx
set_option linter.unusedSimpArgs false
set_option linter.unusedVariables false
set_option linter.unnecessarySimpa false
set_option maxRecDepth 100000
set_option maxHeartbeats 4000000
theorem rsort_run (L : List Ag) (i : Int) (hw : ((decide (0 ≤ i) && decide (i < (L.length : Int))) && (decide (L.length ≤ 1099511627776) && decide ((L.getD i.toNat cA.dft).maps.length ≤ 1099511627776))) = true) : run Try.prog ⟨[(72, k_rkinds)], eqs, [], [], [], mixs, meqs, []⟩ 10000 [] 0 (bodyOf Try.f42) (initF Try.f42 [.sl 0 4 0 L.length, .int .i64 i]) [.ro 4 L.length (cA.g L)] (retK Try.prog Try.f42 (fun x _ => eqv x (.bool (K.sorted (L.take i.toNat) (L.getD i.toNat cA.dft) (L.drop (i.toNat + 1)))))) := by
  simp only [Bool.and_eq_true, decide_eq_true_eq] at hw
  obtain ⟨⟨hi0, hi1⟩, hwL, hwM⟩ := hw
  obtain ⟨j, rfl⟩ : ∃ j : Nat, i = (j : Int) := ⟨i.toNat, by omega⟩
  have hlt : j < L.length := by omega
  simp only [Int.toNat_natCast] at hwM
  have hml : (L.getD j cA.dft).maps.length ≤ 1099511627776 := hwM
  have hw1 : IntKind.i64.wrap ((j : Int) + 1) = ((j + 1 : Nat) : Int) := by rw [i64_of (n := (j : Int) + 1) (by omega) (by omega)]; omega
  have hw2 : 0 < j → IntKind.i64.wrap ((j : Int) - 1) = ((j - 1 : Nat) : Int) := fun h => by rw [i64_of (n := (j : Int) - 1) (by omega) (by omega)]; omega
  have hz : 0 + ((j : Int)).toNat = j := by omega
  show run _ _ _ _ _ _ _ _ (retK _ _ fun x _ => eqv x (.bool (K.sorted (L.take j) (L.getD j cA.dft) (L.drop (j + 1)))))
  have hx : L.getD (0 + ((j : Int)).toNat) cA.dft = L.getD j cA.dft := by rw [hz]
  have hk : (decide ((L.getD (0 + ((j : Int)).toNat) cA.dft).k < 1) = true) ∨ (decide ((L.getD (0 + ((j : Int)).toNat) cA.dft).k < 1) = false ∧ decide (9 < (L.getD (0 + ((j : Int)).toNat) cA.dft).k) = true) ∨ (decide ((L.getD (0 + ((j : Int)).toNat) cA.dft).k < 1) = false ∧ decide (9 < (L.getD (0 + ((j : Int)).toNat) cA.dft).k) = false ∧ ((L.getD (0 + ((j : Int)).toNat) cA.dft).k == 1) = true ∧ ((L.getD (0 + ((j : Int)).toNat) cA.dft).k == 9) = false ∧ ((L.getD (0 + ((j : Int)).toNat) cA.dft).k == 3) = false ∧ ((L.getD (0 + ((j : Int)).toNat) cA.dft).k == 7) = false ∧ ((L.getD (0 + ((j : Int)).toNat) cA.dft).k == 8) = false) ∨ (decide ((L.getD (0 + ((j : Int)).toNat) cA.dft).k < 1) = false ∧ decide (9 < (L.getD (0 + ((j : Int)).toNat) cA.dft).k) = false ∧ ((L.getD (0 + ((j : Int)).toNat) cA.dft).k == 1) = false ∧ ((L.getD (0 + ((j : Int)).toNat) cA.dft).k == 9) = true ∧ ((L.getD (0 + ((j : Int)).toNat) cA.dft).k == 3) = false ∧ ((L.getD (0 + ((j : Int)).toNat) cA.dft).k == 7) = false ∧ ((L.getD (0 + ((j : Int)).toNat) cA.dft).k == 8) = false) ∨ (decide ((L.getD (0 + ((j : Int)).toNat) cA.dft).k < 1) = false ∧ decide (9 < (L.getD (0 + ((j : Int)).toNat) cA.dft).k) = false ∧ ((L.getD (0 + ((j : Int)).toNat) cA.dft).k == 1) = false ∧ ((L.getD (0 + ((j : Int)).toNat) cA.dft).k == 9) = false ∧ ((L.getD (0 + ((j : Int)).toNat) cA.dft).k == 3) = true ∧ ((L.getD (0 + ((j : Int)).toNat) cA.dft).k == 7) = false ∧ ((L.getD (0 + ((j : Int)).toNat) cA.dft).k == 8) = false) ∨ (decide ((L.getD (0 + ((j : Int)).toNat) cA.dft).k < 1) = false ∧ decide (9 < (L.getD (0 + ((j : Int)).toNat) cA.dft).k) = false ∧ ((L.getD (0 + ((j : Int)).toNat) cA.dft).k == 1) = false ∧ ((L.getD (0 + ((j : Int)).toNat) cA.dft).k == 9) = false ∧ ((L.getD (0 + ((j : Int)).toNat) cA.dft).k == 3) = false ∧ ((L.getD (0 + ((j : Int)).toNat) cA.dft).k == 7) = true ∧ ((L.getD (0 + ((j : Int)).toNat) cA.dft).k == 8) = false) ∨ (decide ((L.getD (0 + ((j : Int)).toNat) cA.dft).k < 1) = false ∧ decide (9 < (L.getD (0 + ((j : Int)).toNat) cA.dft).k) = false ∧ ((L.getD (0 + ((j : Int)).toNat) cA.dft).k == 1) = false ∧ ((L.getD (0 + ((j : Int)).toNat) cA.dft).k == 9) = false ∧ ((L.getD (0 + ((j : Int)).toNat) cA.dft).k == 3) = false ∧ ((L.getD (0 + ((j : Int)).toNat) cA.dft).k == 7) = false ∧ ((L.getD (0 + ((j : Int)).toNat) cA.dft).k == 8) = true) ∨ (decide ((L.getD (0 + ((j : Int)).toNat) cA.dft).k < 1) = false ∧ decide (9 < (L.getD (0 + ((j : Int)).toNat) cA.dft).k) = false ∧ ((L.getD (0 + ((j : Int)).toNat) cA.dft).k == 1) = false ∧ ((L.getD (0 + ((j : Int)).toNat) cA.dft).k == 9) = false ∧ ((L.getD (0 + ((j : Int)).toNat) cA.dft).k == 3) = false ∧ ((L.getD (0 + ((j : Int)).toNat) cA.dft).k == 7) = false ∧ ((L.getD (0 + ((j : Int)).toNat) cA.dft).k == 8) = false) := by
    simp only [decide_eq_true_eq, decide_eq_false_iff_not, beq_eq_false_iff_ne, beq_iff_eq, ne_eq]; omega
  rcases hk with c0 | ⟨c0, c1⟩ | ⟨c0, c1, c2, c3, c4, c5, c6⟩ | ⟨c0, c1, c2, c3, c4, c5, c6⟩ | ⟨c0, c1, c2, c3, c4, c5, c6⟩ | ⟨c0, c1, c2, c3, c4, c5, c6⟩ | ⟨c0, c1, c2, c3, c4, c5, c6⟩ | ⟨c0, c1, c2, c3, c4, c5, c6⟩
  · (conv => whnf)
    (repeat' (first | (refine step_t (by first | rfl | assumption) ?_; (conv => whnf)) | (refine step_f (by first | rfl | assumption) ?_; (conv => whnf)) | (refine step_nt (by assumption) ?_; (conv => whnf)) | (refine step_nf (by assumption) ?_; (conv => whnf)) | (refine step_n (fun hb => ?_) (fun hb => ?_) <;> (first | contradiction | (conv => whnf))) | (refine And.intro (fun hb => ?_) (fun hb => ?_) <;> (first | contradiction | (conv => whnf))) | (refine And.intro (a := (_ : Bool) = true) ?_ ?_; rotate_left 1; (conv => whnf))))
    all_goals try (simp only [decB_at, isB_at] at *)
    all_goals try (simp only [hz] at *)
    all_goals try (have hp : 0 < j := (by
      have h9 : decide ((0 : Int) < (j : Int)) = true := (by assumption)
      have h8 := of_decide_eq_true h9
      omega)
                   have hwq := hw2 hp
                   simp only [hwq] at *)
    all_goals try (simp only [hw1, Int.toNat_natCast, Nat.zero_add] at *)
    all_goals try (rw [K.sorted_at hlt])
    all_goals first
    | rfl
    | (simp; done)
    | exact hlt
    | exact decide_eq_true hlt
    | exact decide_eq_true hml
    | (exact decide_eq_true (by simp only [decide_eq_true_eq] at *; omega))
    | (rw [Bool.and_eq_true]; exact ⟨decide_eq_true (by omega), decide_eq_true (by simp only [decide_eq_true_eq] at *; omega)⟩)
    | (have hm0 : ((L.getD j cA.dft).maps.length == 0) = false := (by
         have h8 := of_decide_eq_true hb
         rw [beq_eq_false_iff_ne]
         omega)
       clear hb hwL hwM hml hw2
       unfold K.sortedAt
       rw [hm0]
       simp_all
       done)
    | (clear hwL hwM hml hw1 hw2 hz hx hlt hi0 hi1
       generalize L.getD j cA.dft = a
       generalize L.getD (j - 1) cA.dft = p
       generalize L.getD (j + 1) cA.dft = n
       intros
       simp_all [K.sortedAt]
       done)
    | (simp_all [K.sortedAt]; done)
    | (simp_all [K.sortedAt]; omega)
  · (conv => whnf)
    (repeat' (first | (refine step_t (by first | rfl | assumption) ?_; (conv => whnf)) | (refine step_f (by first | rfl | assumption) ?_; (conv => whnf)) | (refine step_nt (by assumption) ?_; (conv => whnf)) | (refine step_nf (by assumption) ?_; (conv => whnf)) | (refine step_n (fun hb => ?_) (fun hb => ?_) <;> (first | contradiction | (conv => whnf))) | (refine And.intro (fun hb => ?_) (fun hb => ?_) <;> (first | contradiction | (conv => whnf))) | (refine And.intro (a := (_ : Bool) = true) ?_ ?_; rotate_left 1; (conv => whnf))))
    all_goals try (simp only [decB_at, isB_at] at *)
    all_goals try (simp only [hz] at *)
    all_goals try (have hp : 0 < j := (by
      have h9 : decide ((0 : Int) < (j : Int)) = true := (by assumption)
      have h8 := of_decide_eq_true h9
      omega)
                   have hwq := hw2 hp
                   simp only [hwq] at *)
    all_goals try (simp only [hw1, Int.toNat_natCast, Nat.zero_add] at *)
    all_goals try (rw [K.sorted_at hlt])
    all_goals first
    | rfl
    | (simp; done)
    | exact hlt
    | exact decide_eq_true hlt
    | exact decide_eq_true hml
    | (exact decide_eq_true (by simp only [decide_eq_true_eq] at *; omega))
    | (rw [Bool.and_eq_true]; exact ⟨decide_eq_true (by omega), decide_eq_true (by simp only [decide_eq_true_eq] at *; omega)⟩)
    | (have hm0 : ((L.getD j cA.dft).maps.length == 0) = false := (by
         have h8 := of_decide_eq_true hb
         rw [beq_eq_false_iff_ne]
         omega)
       clear hb hwL hwM hml hw2
       unfold K.sortedAt
       rw [hm0]
       simp_all
       done)
    | (clear hwL hwM hml hw1 hw2 hz hx hlt hi0 hi1
       generalize L.getD j cA.dft = a
       generalize L.getD (j - 1) cA.dft = p
       generalize L.getD (j + 1) cA.dft = n
       intros
       simp_all [K.sortedAt]
       done)
    | (simp_all [K.sortedAt]; done)
    | (simp_all [K.sortedAt]; omega)
  · (conv => whnf)
    (repeat' (first | (refine step_t (by first | rfl | assumption) ?_; (conv => whnf)) | (refine step_f (by first | rfl | assumption) ?_; (conv => whnf)) | (refine step_nt (by assumption) ?_; (conv => whnf)) | (refine step_nf (by assumption) ?_; (conv => whnf)) | (refine step_n (fun hb => ?_) (fun hb => ?_) <;> (first | contradiction | (conv => whnf))) | (refine And.intro (fun hb => ?_) (fun hb => ?_) <;> (first | contradiction | (conv => whnf))) | (refine And.intro (a := (_ : Bool) = true) ?_ ?_; rotate_left 1; (conv => whnf))))
    all_goals try (simp only [decB_at, isB_at] at *)
    all_goals try (simp only [hz] at *)
    all_goals try (have hp : 0 < j := (by
      have h9 : decide ((0 : Int) < (j : Int)) = true := (by assumption)
      have h8 := of_decide_eq_true h9
      omega)
                   have hwq := hw2 hp
                   simp only [hwq] at *)
    all_goals try (simp only [hw1, Int.toNat_natCast, Nat.zero_add] at *)
    all_goals try (rw [K.sorted_at hlt])
    all_goals first
    | rfl
    | (simp; done)
    | exact hlt
    | exact decide_eq_true hlt
    | exact decide_eq_true hml
    | (exact decide_eq_true (by simp only [decide_eq_true_eq] at *; omega))
    | (rw [Bool.and_eq_true]; exact ⟨decide_eq_true (by omega), decide_eq_true (by simp only [decide_eq_true_eq] at *; omega)⟩)
    | (have hm0 : ((L.getD j cA.dft).maps.length == 0) = false := (by
         have h8 := of_decide_eq_true hb
         rw [beq_eq_false_iff_ne]
         omega)
       clear hb hwL hwM hml hw2
       unfold K.sortedAt
       rw [hm0]
       simp_all
       done)
    | (clear hwL hwM hml hw1 hw2 hz hx hlt hi0 hi1
       generalize L.getD j cA.dft = a
       generalize L.getD (j - 1) cA.dft = p
       generalize L.getD (j + 1) cA.dft = n
       intros
       simp_all [K.sortedAt]
       done)
    | (simp_all [K.sortedAt]; done)
    | (simp_all [K.sortedAt]; omega)
  · (conv => whnf)
    (repeat' (first | (refine step_t (by first | rfl | assumption) ?_; (conv => whnf)) | (refine step_f (by first | rfl | assumption) ?_; (conv => whnf)) | (refine step_nt (by assumption) ?_; (conv => whnf)) | (refine step_nf (by assumption) ?_; (conv => whnf)) | (refine step_n (fun hb => ?_) (fun hb => ?_) <;> (first | contradiction | (conv => whnf))) | (refine And.intro (fun hb => ?_) (fun hb => ?_) <;> (first | contradiction | (conv => whnf))) | (refine And.intro (a := (_ : Bool) = true) ?_ ?_; rotate_left 1; (conv => whnf))))
    all_goals try (simp only [decB_at, isB_at] at *)
    all_goals try (simp only [hz] at *)
    all_goals try (have hp : 0 < j := (by
      have h9 : decide ((0 : Int) < (j : Int)) = true := (by assumption)
      have h8 := of_decide_eq_true h9
      omega)
                   have hwq := hw2 hp
                   simp only [hwq] at *)
    all_goals try (simp only [hw1, Int.toNat_natCast, Nat.zero_add] at *)
    all_goals try (rw [K.sorted_at hlt])
    all_goals first
    | rfl
    | (simp; done)
    | exact hlt
    | exact decide_eq_true hlt
    | exact decide_eq_true hml
    | (exact decide_eq_true (by simp only [decide_eq_true_eq] at *; omega))
    | (rw [Bool.and_eq_true]; exact ⟨decide_eq_true (by omega), decide_eq_true (by simp only [decide_eq_true_eq] at *; omega)⟩)
    | (have hm0 : ((L.getD j cA.dft).maps.length == 0) = false := (by
         have h8 := of_decide_eq_true hb
         rw [beq_eq_false_iff_ne]
         omega)
       clear hb hwL hwM hml hw2
       unfold K.sortedAt
       rw [hm0]
       simp_all
       done)
    | (clear hwL hwM hml hw1 hw2 hz hx hlt hi0 hi1
       generalize L.getD j cA.dft = a
       generalize L.getD (j - 1) cA.dft = p
       generalize L.getD (j + 1) cA.dft = n
       intros
       simp_all [K.sortedAt]
       done)
    | (simp_all [K.sortedAt]; done)
    | (simp_all [K.sortedAt]; omega)
  · (conv => whnf)
    (repeat' (first | (refine step_t (by first | rfl | assumption) ?_; (conv => whnf)) | (refine step_f (by first | rfl | assumption) ?_; (conv => whnf)) | (refine step_nt (by assumption) ?_; (conv => whnf)) | (refine step_nf (by assumption) ?_; (conv => whnf)) | (refine step_n (fun hb => ?_) (fun hb => ?_) <;> (first | contradiction | (conv => whnf))) | (refine And.intro (fun hb => ?_) (fun hb => ?_) <;> (first | contradiction | (conv => whnf))) | (refine And.intro (a := (_ : Bool) = true) ?_ ?_; rotate_left 1; (conv => whnf))))
    all_goals try (simp only [decB_at, isB_at] at *)
    all_goals try (simp only [hz] at *)
    all_goals try (have hp : 0 < j := (by
      have h9 : decide ((0 : Int) < (j : Int)) = true := (by assumption)
      have h8 := of_decide_eq_true h9
      omega)
                   have hwq := hw2 hp
                   simp only [hwq] at *)
    all_goals try (simp only [hw1, Int.toNat_natCast, Nat.zero_add] at *)
    all_goals try (rw [K.sorted_at hlt])
    all_goals first
    | rfl
    | (simp; done)
    | exact hlt
    | exact decide_eq_true hlt
    | exact decide_eq_true hml
    | (exact decide_eq_true (by simp only [decide_eq_true_eq] at *; omega))
    | (rw [Bool.and_eq_true]; exact ⟨decide_eq_true (by omega), decide_eq_true (by simp only [decide_eq_true_eq] at *; omega)⟩)
    | (have hm0 : ((L.getD j cA.dft).maps.length == 0) = false := (by
         have h8 := of_decide_eq_true hb
         rw [beq_eq_false_iff_ne]
         omega)
       clear hb hwL hwM hml hw2
       unfold K.sortedAt
       rw [hm0]
       simp_all
       done)
    | (clear hwL hwM hml hw1 hw2 hz hx hlt hi0 hi1
       generalize L.getD j cA.dft = a
       generalize L.getD (j - 1) cA.dft = p
       generalize L.getD (j + 1) cA.dft = n
       intros
       simp_all [K.sortedAt]
       done)
    | (simp_all [K.sortedAt]; done)
    | (simp_all [K.sortedAt]; omega)
  · (conv => whnf)
    (repeat' (first | (refine step_t (by first | rfl | assumption) ?_; (conv => whnf)) | (refine step_f (by first | rfl | assumption) ?_; (conv => whnf)) | (refine step_nt (by assumption) ?_; (conv => whnf)) | (refine step_nf (by assumption) ?_; (conv => whnf)) | (refine step_n (fun hb => ?_) (fun hb => ?_) <;> (first | contradiction | (conv => whnf))) | (refine And.intro (fun hb => ?_) (fun hb => ?_) <;> (first | contradiction | (conv => whnf))) | (refine And.intro (a := (_ : Bool) = true) ?_ ?_; rotate_left 1; (conv => whnf))))
    all_goals try (simp only [decB_at, isB_at] at *)
    all_goals try (simp only [hz] at *)
    all_goals try (have hp : 0 < j := (by
      have h9 : decide ((0 : Int) < (j : Int)) = true := (by assumption)
      have h8 := of_decide_eq_true h9
      omega)
                   have hwq := hw2 hp
                   simp only [hwq] at *)
    all_goals try (simp only [hw1, Int.toNat_natCast, Nat.zero_add] at *)
    all_goals try (rw [K.sorted_at hlt])
    all_goals first
    | rfl
    | (simp; done)
    | exact hlt
    | exact decide_eq_true hlt
    | exact decide_eq_true hml
    | (exact decide_eq_true (by simp only [decide_eq_true_eq] at *; omega))
    | (rw [Bool.and_eq_true]; exact ⟨decide_eq_true (by omega), decide_eq_true (by simp only [decide_eq_true_eq] at *; omega)⟩)
    | (have hm0 : ((L.getD j cA.dft).maps.length == 0) = false := (by
         have h8 := of_decide_eq_true hb
         rw [beq_eq_false_iff_ne]
         omega)
       clear hb hwL hwM hml hw2
       unfold K.sortedAt
       rw [hm0]
       simp_all
       done)
    | (clear hwL hwM hml hw1 hw2 hz hx hlt hi0 hi1
       generalize L.getD j cA.dft = a
       generalize L.getD (j - 1) cA.dft = p
       generalize L.getD (j + 1) cA.dft = n
       intros
       simp_all [K.sortedAt]
       done)
    | (simp_all [K.sortedAt]; done)
    | (simp_all [K.sortedAt]; omega)
  · (conv => whnf)
    (repeat' (first | (refine step_t (by first | rfl | assumption) ?_; (conv => whnf)) | (refine step_f (by first | rfl | assumption) ?_; (conv => whnf)) | (refine step_nt (by assumption) ?_; (conv => whnf)) | (refine step_nf (by assumption) ?_; (conv => whnf)) | (refine step_n (fun hb => ?_) (fun hb => ?_) <;> (first | contradiction | (conv => whnf))) | (refine And.intro (fun hb => ?_) (fun hb => ?_) <;> (first | contradiction | (conv => whnf))) | (refine And.intro (a := (_ : Bool) = true) ?_ ?_; rotate_left 1; (conv => whnf))))
    all_goals try (simp only [decB_at, isB_at] at *)
    all_goals try (simp only [hz] at *)
    all_goals try (have hp : 0 < j := (by
      have h9 : decide ((0 : Int) < (j : Int)) = true := (by assumption)
      have h8 := of_decide_eq_true h9
      omega)
                   have hwq := hw2 hp
                   simp only [hwq] at *)
    all_goals try (simp only [hw1, Int.toNat_natCast, Nat.zero_add] at *)
    all_goals try (rw [K.sorted_at hlt])
    all_goals first
    | rfl
    | (simp; done)
    | exact hlt
    | exact decide_eq_true hlt
    | exact decide_eq_true hml
    | (exact decide_eq_true (by simp only [decide_eq_true_eq] at *; omega))
    | (rw [Bool.and_eq_true]; exact ⟨decide_eq_true (by omega), decide_eq_true (by simp only [decide_eq_true_eq] at *; omega)⟩)
    | (have hm0 : ((L.getD j cA.dft).maps.length == 0) = false := (by
         have h8 := of_decide_eq_true hb
         rw [beq_eq_false_iff_ne]
         omega)
       clear hb hwL hwM hml hw2
       unfold K.sortedAt
       rw [hm0]
       simp_all
       done)
    | (clear hwL hwM hml hw1 hw2 hz hx hlt hi0 hi1
       generalize L.getD j cA.dft = a
       generalize L.getD (j - 1) cA.dft = p
       generalize L.getD (j + 1) cA.dft = n
       intros
       simp_all [K.sortedAt]
       done)
    | (simp_all [K.sortedAt]; done)
    | (simp_all [K.sortedAt]; omega)
  · (conv => whnf)
    (repeat' (first | (refine step_t (by first | rfl | assumption) ?_; (conv => whnf)) | (refine step_f (by first | rfl | assumption) ?_; (conv => whnf)) | (refine step_nt (by assumption) ?_; (conv => whnf)) | (refine step_nf (by assumption) ?_; (conv => whnf)) | (refine step_n (fun hb => ?_) (fun hb => ?_) <;> (first | contradiction | (conv => whnf))) | (refine And.intro (fun hb => ?_) (fun hb => ?_) <;> (first | contradiction | (conv => whnf))) | (refine And.intro (a := (_ : Bool) = true) ?_ ?_; rotate_left 1; (conv => whnf))))
    all_goals try (simp only [decB_at, isB_at] at *)
    all_goals try (simp only [hz] at *)
    all_goals try (have hp : 0 < j := (by
      have h9 : decide ((0 : Int) < (j : Int)) = true := (by assumption)
      have h8 := of_decide_eq_true h9
      omega)
                   have hwq := hw2 hp
                   simp only [hwq] at *)
    all_goals try (simp only [hw1, Int.toNat_natCast, Nat.zero_add] at *)
    all_goals try (rw [K.sorted_at hlt])
    all_goals first
    | rfl
    | (simp; done)
    | exact hlt
    | exact decide_eq_true hlt
    | exact decide_eq_true hml
    | (exact decide_eq_true (by simp only [decide_eq_true_eq] at *; omega))
    | (rw [Bool.and_eq_true]; exact ⟨decide_eq_true (by omega), decide_eq_true (by simp only [decide_eq_true_eq] at *; omega)⟩)
    | (have hm0 : ((L.getD j cA.dft).maps.length == 0) = false := (by
         have h8 := of_decide_eq_true hb
         rw [beq_eq_false_iff_ne]
         omega)
       clear hb hwL hwM hml hw2
       unfold K.sortedAt
       rw [hm0]
       simp_all
       done)
    | (clear hwL hwM hml hw1 hw2 hz hx hlt hi0 hi1
       generalize L.getD j cA.dft = a
       generalize L.getD (j - 1) cA.dft = p
       generalize L.getD (j + 1) cA.dft = n
       intros
       simp_all [K.sortedAt]
       done)
    | (simp_all [K.sortedAt]; done)
    | (simp_all [K.sortedAt]; omega)

noncomputable def k_rsort : List SV → List Blk → Res := fun args M => match topA eltB M args with
  | some (b, [.one v0, .one (.int .i64 v1)]) => .test b (.test (cA.isR 4 v0) (.test ((decide (0 ≤ v1) && decide (v1 < ((cA.decR 4 v0).length : Int))) && (decide ((cA.decR 4 v0).length ≤ 1099511627776) && decide (((cA.decR 4 v0).getD v1.toNat cA.dft).maps.length ≤ 1099511627776))) (.ok (.bool (K.sorted ((cA.decR 4 v0).take v1.toNat) ((cA.decR 4 v0).getD v1.toNat cA.dft) ((cA.decR 4 v0).drop (v1.toNat + 1)))) [])))
  | _ => .fail
theorem k_rsort_ok : CtrOk Try.prog Gw 42 k_rsort := by
  refine ⟨fun _ _ => by kernel_rfl, fun args M => ?_⟩
  unfold k_rsort
  split
  · rename_i b v0 v1 hv
    intro hb hi hw
    exact ctr_top (Γ := ⟨[(72, k_rkinds)], eqs, [], [], [], mixs, meqs, []⟩) st_Gw ⟨(okCons k_rkinds_ok okNil), eqs_ok, okNilB, okNilI, okNilP, mixs_ok, meqs_ok, okNilY⟩ Try.func42 rfl mixed [] (by kernel_rfl) 10000 [.one (.row 4 (cA.decR 4 v0).length (cA.g (cA.decR 4 v0))), .one (.int .i64 v1)] hv hb ⟨Cel.isR_dec (hi), ⟨FVEq.refl _, trivial⟩⟩ rfl (rsort_run (cA.decR 4 v0) v1 hw)
  · trivial
end Go.Proofs.Ytnbcemeofhaogaa
