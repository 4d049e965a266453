import Derived.Test.YtmdkihggeodjfaaXRG
import Derived.Test.YtmdkihggeodjfaaXRO
import Derived.Test.YtmdkihggeodjfaaXW
import Derived.Test.YtmdkihggeodjfaaXF
import Derived.Test.YtmdkihggeodjfaaXI
namespace Go.Proofs.Ytmdkihggeodjfaa
open Go.RowKit Go.Sx
set_option linter.unusedSimpArgs false
set_option linter.unusedVariables false
set_option linter.unnecessarySimpa false
set_option maxRecDepth 100000
set_option maxHeartbeats 4000000
theorem sz_right : ∀ t : Tr, t.right = true → t.sz ≤ t.put.length := by
  refine Tr.ind fun t ih => ?_
  intro hr
  rcases Tr.right_cases hr with ⟨a1, a2, a3⟩ | ⟨a1, a2, a3⟩ | ⟨a1, a2, a3, a4⟩
  · have := Tr.put_pos t
    rw [Tr.sz_eq, show t.kids = [] by simpa using a3]; simpa [Tr.szL] using this
  · have := Tr.put_pos t
    rw [Tr.sz_eq, show t.kids = [] by simpa using a3]; simpa [Tr.szL] using this
  · have key : ∀ l : List Tr, (∀ i, i < l.length → (l.getD i .no).right = true → (l.getD i .no).sz ≤ (l.getD i .no).put.length) → Tr.rightL l = true → Tr.szL l ≤ (Tr.putL l).length := by
      intro l
      induction l with
      | nil => intro _ _; simp [Tr.szL]
      | cons u l ihl =>
        intro h hl
        rw [Tr.rightL, Bool.and_eq_true] at hl
        have h0 := h 0 (by simp) hl.1
        have h1 := ihl (fun i hi hr => h (i + 1) (by simpa using hi) hr) hl.2
        simp only [List.getD_cons_zero] at h0
        simp only [Tr.szL, Tr.putL, List.length_append]; omega
    have := key t.kids (fun i hi hr => ih i hi hr) a4
    have hp := Tr.head_pos ((2 : Nat) + 1) (BitVec.ofInt 64 t.kids.length)
    rw [Tr.sz_eq, Tr.put3 a1, List.length_append]; omega
/-- What is got of bytes. -/
theorem gets_is {L : List Int} (hB : btsB L = true) : (∃ x, gets L = (x, 0) ∧ x.puts = (L, 0) ∧ x.right = true ∧ x.put = L ∧ x.sz ≤ L.length) ∨ gets L = (.no, 4) := by
  cases h : Tr.parse 16 L with
  | none => exact .inr (gets_none h)
  | some a =>
    obtain ⟨x, r⟩ := a
    cases r with
    | cons y r => exact .inr (gets_more h (by simp))
    | nil =>
      obtain ⟨h1, h2, h3, _⟩ := Tr.parse_sound 16 (by omega) L x [] (btsB_iff.1 hB) h
      rw [List.append_nil] at h1
      refine .inl ⟨x, gets_ok h rfl, ?_, h2, h1, by rw [← h1]; exact sz_right x h2⟩
      unfold Tr.puts
      rw [if_pos h2, if_pos (show x.within 16 = true from h3), h1]
theorem gets_put {t : Tr} (h1 : t.right = true) (h2 : t.within 16 = true) (h3 : t.fit = true) (h4 : t.put.length < 4611686018427387904) : gets t.put = (t, 0) := by
  have h := Tr.parse_put 16 (by omega) t [] h1 h2 h3 h4
  rw [List.append_nil] at h
  exact gets_ok h rfl
theorem gets_app {t : Tr} (h1 : t.right = true) (h2 : t.within 16 = true) (h3 : t.fit = true) (h4 : t.put.length < 4611686018427387904) (L : List Int) : (gets (t.put ++ L)).2 = if L.length = 0 then 0 else 4 := by
  have h := Tr.parse_put 16 (by omega) t L h1 h2 h3 h4
  cases L with
  | nil => rw [gets_ok h rfl]; rfl
  | cons x L => rw [gets_more h (by simp)]; rfl
theorem gets_take {t : Tr} (h1 : t.right = true) (h2 : t.within 16 = true) (h3 : t.fit2 = true) (h4 : t.put.length < 4611686018427387904) {k : Nat} (hk : k < t.put.length) : gets (t.put.take k) = (.no, 4) := by
  have hb := Tr.put_bts t h3
  have hb' : btsB (t.put.take k) = true := btsB_iff.2 fun x hx => hb x (List.mem_of_mem_take hx)
  rcases gets_is hb' with ⟨x, hx, _⟩ | h
  · exfalso
    cases hp : Tr.parse 16 (t.put.take k) with
    | none => rw [gets_none hp] at hx; simp at hx
    | some a =>
      obtain ⟨u, r⟩ := a
      cases r with
      | cons y r => rw [gets_more hp (by simp)] at hx; simp at hx
      | nil =>
        obtain ⟨s1, s2, s3, s4, _⟩ := Tr.parse_sound 16 (by omega) _ u [] (btsB_iff.1 hb') hp
        rw [List.append_nil] at s1
        have hu : u.put.length < 4611686018427387904 := by rw [s1, List.length_take]; omega
        have q1 := Tr.parse_put 16 (by omega) u (t.put.drop k) s2 s3 s4 hu
        rw [s1, List.take_append_drop] at q1
        have q2 := Tr.parse_put 16 (by omega) t [] h1 h2 (Tr.fit_of2 t h3) h4
        rw [List.append_nil, q1] at q2
        simp only [Option.some.injEq, Prod.mk.injEq] at q2
        have := congrArg List.length q2.2
        rw [List.length_drop] at this
        simp at this
        omega
  · exact h
theorem dG (u : Tr) : decT [.int .u8 u.k, .int .i64 u.n, .row 1 u.bs.length (shiftG 0 (gOf eB u.bs)), .row 4 u.kids.length (shiftG 0 (gK u.kids))] = u := decT_gK u
theorem iG (u : Tr) : isT [.int .u8 u.k, .int .i64 u.n, .row 1 u.bs.length (shiftG 0 (gOf eB u.bs)), .row 4 u.kids.length (shiftG 0 (gK u.kids))] = true := isT_gK' u
theorem isNo : IsT [.int .u8 0, .int .i64 0, .val (.slice none 0 0), .val (.slice none 0 0)] .no := isT_mk (t := .no) .nil .nil
theorem dN : decT [.int .u8 0, .int .i64 0, .val (.slice none 0 0), .val (.slice none 0 0)] = .no := decT_of isNo
theorem iN : isT [.int .u8 0, .int .i64 0, .val (.slice none 0 0), .val (.slice none 0 0)] = true := isT_of isNo
theorem app_at (a b : List Int) : ∀ i, i < a.length + b.length → gApp a.length (fun k => gOf eB a (0 + k)) (fun k => gOf eB b (0 + k)) i = gOf eB (a ++ b) i := fun i hi => by
  simp only [Nat.zero_add]
  exact (gOf_append eB a b i (by simpa using hi)).symm
theorem eA (a b : List Int) : elts eB 0 (a.length + b.length) (shiftG 0 (gApp a.length (fun k => gOf eB a (0 + k)) fun k => gOf eB b (0 + k))) = a ++ b := by
  have : elts eB 0 (a.length + b.length) (shiftG 0 (gApp a.length (fun k => gOf eB a (0 + k)) fun k => gOf eB b (0 + k))) = elts eB 0 (a ++ b).length (gOf eB (a ++ b)) := by
    rw [List.length_append]
    unfold elts
    refine List.map_congr_left fun i hi => ?_
    rw [Nat.zero_add]
    exact congrArg eB.dec (app_at a b i (List.mem_range.1 hi))
  rw [this, elts_all]
theorem aA (a b : List Int) : allIs eB 0 (a.length + b.length) (shiftG 0 (gApp a.length (fun k => gOf eB a (0 + k)) fun k => gOf eB b (0 + k))) = true := by
  unfold allIs
  rw [List.all_eq_true]
  intro i hi
  rw [Nat.zero_add]
  exact (congrArg eB.is (app_at a b i (List.mem_range.1 hi))).trans rfl
theorem aS (o n : Nat) (l : List Int) : allIs eB 0 n (shiftG o (gOf eB l)) = true := by
  unfold allIs; rw [List.all_eq_true]; intro i _; rw [shiftG_eq]; rfl
theorem eT (a : List Int) {n : Nat} (h : n ≤ a.length) : elts eB 0 (n - 0) (shiftG (0 + 0) (gOf eB a)) = a.take n := by
  rw [Nat.sub_zero, Nat.add_zero]
  exact (elts_gOf eB (by omega)).trans (by rw [List.drop_zero])
theorem e0 (g : Nat → List FV) : elts eB 0 0 g = [] := rfl
theorem a0 (g : Nat → List FV) : allIs eB 0 0 g = true := rfl
theorem pick_le (x : Int) (n : Nat) : (pick x (n : Int)).toNat ≤ n := by
  rcases Nat.eq_zero_or_pos n with h | h
  · subst h; exact Nat.le_of_eq rfl
  · have := pick_in (x := x) (n := (n : Int)) (by omega); omega
theorem pick_lt (x : Int) {n : Nat} (h : 0 < n) : (pick x (n : Int)).toNat < n ∧ 0 ≤ pick x (n : Int) := by
  have := pick_in (x := x) (n := (n : Int)) (by omega)
  omega
theorem gets_nil : gets [] = (.no, 4) := gets_none (parse_nil 16)
end Go.Proofs.Ytmdkihggeodjfaa
namespace Go.Proofs.Ytmdkihggeodjfaa
open Go.RowKit Go.Sx
set_option linter.unusedSimpArgs false
set_option linter.unusedVariables false
set_option linter.unnecessarySimpa false
set_option maxRecDepth 100000
set_option maxHeartbeats 4000000
theorem form_run (t : Tr) (L : List Int) (cut : Int) (hw : t.wide = true) (hf : t.fit2 = true) (hB : btsB L = true) (hl : L.length ≤ 140737488355328) (hc : -9223372036854775808 ≤ cut ∧ cut ≤ 9223372036854775807) :
    run Try.prog ⟨[(7, k_awake), (8, k_weight), (9, k_Put), (18, k_Right), (20, k_Size), (12, k_same), (14, k_sameT), (13, k_Pick)], eqs, [], [(24, Try.f24, [])], [], mixs, meqs, [(23, k_Get)]⟩ 10000 [] 0 (bodyOf Try.f6) (initF Try.f6 [.agg [.int .u8 t.k, .int .i64 t.n, .sl 0 1 0 t.bs.length, .sl 1 4 0 t.kids.length], .sl 2 1 0 L.length, .int .i64 cut]) [.fz 1 t.bs.length (gOf eB t.bs), .fz 4 t.kids.length (gK t.kids), .fz 1 L.length (gOf eB L)] (retK Try.prog Try.f6 fun x _ => eqv x (.bool true)) := by
  have hq1 : Try.prog.types[5].bytes = 1 := by kernel_rfl
  have hcut : (decide (-9223372036854775808 ≤ cut) && decide (cut ≤ 9223372036854775807)) = true := by simp only [Bool.and_eq_true, decide_eq_true_eq]; exact hc
  have hlL : L.length ≤ 1099511627776 ∨ decide (4000 < (L.length : Int)) = true := by
    rcases Nat.lt_or_ge 1099511627776 L.length with h | h
    · exact .inr (decide_eq_true (by omega))
    · exact .inl h
  obtain ⟨w1, w2, w3⟩ := Tr.weight_ok t hw 4000 40 (by omega) (by omega) (by omega)
  -- what the two say
  have FX : (∃ x, gets L = (x, 0) ∧ x.puts = (L, 0) ∧ x.right = true ∧ x.put = L ∧ x.sz ≤ L.length) ∨ gets L = (.no, 4) := gets_is hB
  have FP : decide (4000 < t.weight 4000 40) = true ∨ (t.sz ≤ 4000 ∧ t.mass ≤ 4000 ∧ t.put.length ≤ 40000 ∧
      ((t.puts = (t.put, 0) ∧ t.right = true ∧ 0 < t.put.length ∧ btsB t.put = true ∧ gets t.put = (t, 0) ∧ gets (t.put.take (pick cut (t.put.length : Int)).toNat) = (.no, 4) ∧ btsB (t.put.take (pick cut (t.put.length : Int)).toNat) = true ∧ (gets (t.put ++ L)).2 = (if L.length = 0 then 0 else 4) ∧ btsB (t.put ++ L) = true) ∨
       (t.puts = ([], 3) ∧ t.right = true) ∨ (t.puts = ([], 2) ∧ t.right = false))) := by
    by_cases h : (4000 : Int) < t.weight 4000 40
    · exact .inl (decide_eq_true h)
    · right
      have w4 : t.weight 4000 40 ≤ 4000 → t.weight 4000 40 = (t.mass : Int) := w3
      have hm := w4 (by omega)
      have hs := Tr.sz_mass t
      have hp := Tr.put_mass t
      refine ⟨by omega, by omega, by omega, ?_⟩
      cases hr : t.right with
      | false => exact .inr (.inr ⟨by unfold Tr.puts; rw [hr]; rfl, rfl⟩)
      | true =>
        cases hwi : t.within 16 with
        | false => exact .inr (.inl ⟨by unfold Tr.puts; rw [hr, hwi]; rfl, rfl⟩)
        | true =>
          have hb := Tr.put_bts t hf
          have hpos := Tr.put_pos t
          exact .inl ⟨by unfold Tr.puts; rw [hr, hwi]; rfl, rfl, hpos, btsB_iff.2 hb, gets_put hr hwi (Tr.fit_of2 t hf) (by omega), gets_take hr hwi hf (by omega) (pick_lt cut hpos).1, btsB_iff.2 fun x hx => hb x (List.mem_of_mem_take hx), gets_app hr hwi (Tr.fit_of2 t hf) (by omega) L, btsB_iff.2 (Tr.bts_app hb (btsB_iff.1 hB))⟩
  have hT := eT t.put (pick_le cut t.put.length)
  have hT' : elts eB 0 (pick cut (t.put.length : Int)).toNat (shiftG 0 (gOf eB t.put)) = t.put.take (pick cut (t.put.length : Int)).toNat := hT
  have hTl : (t.put.take (pick cut (t.put.length : Int)).toNat).length ≤ t.put.length := List.length_take_le' ..
  have hsame : t.same t = true := (Tr.same_iff t t).2 rfl
  have hnn : Tr.no.same Tr.no = true := (Tr.same_iff _ _).2 rfl
  have hpk := fun h : 0 < t.put.length => pick_lt cut h
  have hnm : Tr.no.mass = 1 := rfl
  have hns : Tr.no.sz = 1 := rfl
  clear w1 w2 w3
  (conv => whnf)
  (repeat' (first | (refine step_t (by first | rfl | assumption) ?_; (conv => whnf)) | (refine step_f (by first | rfl | assumption) ?_; (conv => whnf)) | (refine step_nt (by assumption) ?_; (conv => whnf)) | (refine step_nf (by assumption) ?_; (conv => whnf)) | (refine step_n (fun hb => ?_) (fun hb => ?_) <;> (first | contradiction | (conv => whnf))) | (refine And.intro (fun hb => ?_) (fun hb => ?_) <;> (first | contradiction | (conv => whnf))) | (refine And.intro ?_ ?_; rotate_left 1; (conv => whnf))))
  all_goals first
  | rfl
  | (simp only [Nat.zero_add, Nat.le_refl, decide_true, Bool.true_and, Bool.and_true]; done)
  | skip
  all_goals (repeat (revert hb))
  all_goals (try simp only [dG, iG, dN, iN, elts_sh, eA, aA, aS, hT, e0, a0, gets_nil, hq1, hB, hcut, hsame, hnn, hnm, hns])
  all_goals first
  | done
  | (rcases FX with ⟨x, hx1, hx2, hx3, hx4, hx5⟩ | hx1 <;> rcases FP with hp | ⟨hp1, hp2, hp3, ⟨q1, q2, q3, q4, q5, q6, q7, q8, q9⟩ | ⟨q1, q2⟩ | ⟨q1, q2⟩⟩ <;> first
     | (simp only [*, Nat.zero_add, Nat.sub_zero, Nat.le_refl, Int.toNat_natCast, Nat.add_zero, List.length_append, List.length_nil, decide_true, Bool.true_and, Bool.and_true, Bool.and_self, Bool.not_true, Bool.not_false, Bool.and_eq_true, decide_eq_true_eq, decide_eq_false_iff_not, beq_self_eq_true, bne_self_eq_false, Bool.true_eq_false, Bool.false_eq_true, implies_true, true_implies, forall_const, false_implies, imp_false, not_false_eq_true, not_true_eq_false, and_true, true_and, bne_iff_ne, ne_eq, beq_iff_eq, beq_eq_false_iff_ne, bne_eq_false_iff_eq]; done)
     | (simp only [*, Nat.zero_add, Nat.sub_zero, Nat.le_refl, Int.toNat_natCast, Nat.add_zero, List.length_append, List.length_nil, decide_true, Bool.true_and, Bool.and_true, Bool.and_self, Bool.not_true, Bool.not_false, Bool.and_eq_true, decide_eq_true_eq, decide_eq_false_iff_not, beq_self_eq_true, bne_self_eq_false, Bool.true_eq_false, Bool.false_eq_true, implies_true, true_implies, forall_const, false_implies, imp_false, not_false_eq_true, not_true_eq_false, and_true, true_and, bne_iff_ne, ne_eq, beq_iff_eq, beq_eq_false_iff_ne, bne_eq_false_iff_eq]; intros; omega)
     | (simp only [*, Nat.zero_add, Nat.sub_zero, Nat.le_refl, Int.toNat_natCast, Nat.add_zero, List.length_append, List.length_nil, decide_true, Bool.true_and, Bool.and_true, Bool.and_self, Bool.not_true, Bool.not_false, Bool.and_eq_true, decide_eq_true_eq, decide_eq_false_iff_not, beq_self_eq_true, bne_self_eq_false, Bool.true_eq_false, Bool.false_eq_true, implies_true, true_implies, forall_const, false_implies, imp_false, not_false_eq_true, not_true_eq_false, and_true, true_and, bne_iff_ne, ne_eq, beq_iff_eq, beq_eq_false_iff_ne, bne_eq_false_iff_eq]; intros; simp_all; done)
     | (simp only [*, Nat.zero_add, Nat.sub_zero, Nat.le_refl, Int.toNat_natCast, Nat.add_zero, List.length_append, List.length_nil, decide_true, Bool.true_and, Bool.and_true, Bool.and_self, Bool.not_true, Bool.not_false, Bool.and_eq_true, decide_eq_true_eq, decide_eq_false_iff_not, beq_self_eq_true, bne_self_eq_false, Bool.true_eq_false, Bool.false_eq_true, implies_true, true_implies, forall_const, false_implies, imp_false, not_false_eq_true, not_true_eq_false, and_true, true_and, bne_iff_ne, ne_eq, beq_iff_eq, beq_eq_false_iff_ne, bne_eq_false_iff_eq]; intros; split <;> simp_all <;> omega)
     | skip)
  | skip

end Go.Proofs.Ytmdkihggeodjfaa
