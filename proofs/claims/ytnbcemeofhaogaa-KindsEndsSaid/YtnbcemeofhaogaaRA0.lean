import Derived.Test.YtnbcemeofhaogaaWD0
namespace Go.Proofs.Ytnbcemeofhaogaa
open Go.RowKit Go.Sx
set_option linter.unusedSimpArgs false
set_option linter.unusedVariables false
set_option linter.unnecessarySimpa false
set_option maxRecDepth 100000
set_option maxHeartbeats 4000000
namespace K
theorem contains_is {L : List Int} {k : Int} : L.contains k = !(upto (fun i => !(L.getD i eB.dft == k)) L.length) := by
  rw [Bool.eq_iff_iff]
  constructor
  · intro h
    have hm : k ∈ L := by simpa using h
    obtain ⟨i, hi, e⟩ := List.getElem_of_mem hm
    rw [upto_no hi (by simp [List.getD_eq_getElem?_getD, hi, e])]
    rfl
  · intro h
    rcases hu : L.contains k with _ | _
    · exfalso
      have : upto (fun i => !(L.getD i eB.dft == k)) L.length = true := upto_of fun j hj => by
        simp only [Bool.not_eq_true', beq_eq_false_iff_ne, ne_eq]
        intro e
        have hm : k ∈ L := by
          rw [← e, List.getD_eq_getElem?_getD, List.getElem?_eq_getElem hj]
          exact List.getElem_mem hj
        have : L.contains k = true := by simpa using hm
        rw [hu] at this; cases this
      rw [this] at h; cases h
    · rfl
theorem contains_at {L : List Int} {k : Int} {j : Nat} (h : j < L.length) (e : (L.getD j eB.dft == k) = true) : L.contains k = true := by
  rw [contains_is, upto_no h (by rw [e]; rfl)]; rfl
theorem contains_no {L : List Int} {k : Int} (h : upto (fun i => !(L.getD i eB.dft == k)) L.length = true) : L.contains k = false := by
  rw [contains_is, h]; rfl
/-- Are kinds of maps as they must be? -/
def okKinds (L : List Int) : Bool := decide (0 < L.length) && (rising L && (decide (1 ≤ L.getD 0 0) && decide (L.getD (L.length - 1) 0 ≤ 8)))
def kindAt (L : List Int) (i : Nat) : Bool := (decide (1 ≤ L.getD i eB.dft) && decide (L.getD i eB.dft ≤ 8)) && risesAt L i
theorem kindAt_f {L : List Int} {j : Nat} (h : L.getD j eB.dft < 1 ∨ 8 < L.getD j eB.dft ∨ (0 < j ∧ L.getD j eB.dft ≤ L.getD (j - 1) eB.dft)) : kindAt L j = false := by
  rcases hk : kindAt L j with _ | _
  · rfl
  · exfalso
    unfold kindAt risesAt at hk
    simp only [Bool.and_eq_true, Bool.or_eq_true, Bool.not_eq_true', decide_eq_true_eq, decide_eq_false_iff_not] at hk
    omega
theorem kindAt_t {L : List Int} {j : Nat} (h1 : ¬ L.getD j eB.dft < 1) (h2 : ¬ 8 < L.getD j eB.dft) (h3 : ¬ 0 < j ∨ ¬ L.getD j eB.dft ≤ L.getD (j - 1) eB.dft) : kindAt L j = true := by
  unfold kindAt risesAt
  simp only [Bool.and_eq_true, Bool.or_eq_true, Bool.not_eq_true', decide_eq_true_eq, decide_eq_false_iff_not]
  omega
theorem okKinds_f {L : List Int} {j : Nat} (hj : j < L.length) (h : kindAt L j = false) : upto (kindAt L) L.length = false := upto_no hj h
theorem okKinds_is (L : List Int) : (upto (kindAt L) L.length && decide (0 < L.length)) = okKinds L := by
  rw [Bool.eq_iff_iff]
  unfold okKinds
  simp only [Bool.and_eq_true, decide_eq_true_eq]
  constructor
  · rintro ⟨h, hp⟩
    have ha : ∀ j, j < L.length → (1 ≤ L.getD j eB.dft ∧ L.getD j eB.dft ≤ 8) ∧ risesAt L j = true := fun j hj => by
      have := upto_at h hj
      unfold kindAt at this
      simpa only [Bool.and_eq_true, decide_eq_true_eq] using this
    exact ⟨hp, upto_of fun j hj => (ha j hj).2, (ha 0 hp).1.1, (ha (L.length - 1) (by omega)).1.2⟩
  · rintro ⟨hp, hr, h0, h8⟩
    have up : ∀ d i, i + d < L.length → L.getD i eB.dft ≤ L.getD (i + d) eB.dft := fun d => by
      induction d with
      | zero => intro i _; exact Int.le_refl _
      | succ d ih =>
        intro i hi
        have h1 := ih i (by omega)
        have h2 := upto_at hr hi
        unfold risesAt at h2
        rw [decide_eq_true (show 0 < i + (d + 1) by omega), show i + (d + 1) - 1 = i + d by omega] at h2
        simp only [Bool.not_true, Bool.false_or, decide_eq_true_eq] at h2
        omega
    refine ⟨upto_of fun j hj => ?_, hp⟩
    unfold kindAt
    simp only [Bool.and_eq_true, decide_eq_true_eq]
    have h1 := up j 0 (by omega)
    rw [Nat.zero_add] at h1
    have h2 := up (L.length - 1 - j) j (by omega)
    rw [show j + (L.length - 1 - j) = L.length - 1 by omega] at h2
    have h0' : 1 ≤ L.getD 0 eB.dft := h0
    have h8' : L.getD (L.length - 1) eB.dft ≤ 8 := h8
    exact ⟨⟨by omega, by omega⟩, upto_at hr hj⟩
theorem okKinds_no {L : List Int} {j : Nat} (hj : j < L.length) (h : kindAt L j = false) : okKinds L = false := by
  rw [← okKinds_is, okKinds_f hj h]; rfl
theorem kindsOf_3 {a : Ag} (h : (a.k == 3) = true) : kindsOf a = okKinds a.maps := by
  unfold kindsOf okKinds
  rw [if_pos (eq_of_beq h)]
theorem kindsOf_n {a : Ag} (h : (a.k == 3) = false) : kindsOf a = (a.maps.length == 0) := by
  unfold kindsOf
  rw [if_neg (by simpa using h)]
theorem getD_take {α : Type} {L : List α} {i j : Nat} (h : i < j) (d : α) : (L.take j).getD i d = L.getD i d := by
  simp [List.getD_eq_getElem?_getD, List.getElem?_take, h]
theorem getD_drop {α : Type} {L : List α} {i j : Nat} (d : α) : (L.drop j).getD i d = L.getD (j + i) d := by
  simp [List.getD_eq_getElem?_getD, List.getElem?_drop]
/-- Is an argument as it must be, between its neighbours? -/
def sortedAt (a : Ag) (pre : Bool) (p : Ag) (post : Bool) (n : Ag) : Bool :=
  decide (1 ≤ a.k) && (decide (a.k ≤ 9) && ((if a.k = 1 then decide (a.lo ≤ a.hi) else if a.k = 9 then a.lo == 0 && ((decide (1 ≤ a.hi) && decide (a.hi ≤ 1024)) && (pre && (p.k == 7 || p.k == 8))) else a.lo == 0 && a.hi == 0) &&
    ((if a.k = 3 then okKinds a.maps else a.maps.length == 0) && (!(a.k == 7 || a.k == 8) || (post && n.k == 9)))))
theorem sorted_at {L : List Ag} {j : Nat} (h : j < L.length) : sorted (L.take j) (L.getD j cA.dft) (L.drop (j + 1)) = sortedAt (L.getD j cA.dft) (decide (0 < j)) (L.getD (j - 1) cA.dft) (decide (j + 1 < L.length)) (L.getD (j + 1) cA.dft) := by
  have hl : (L.take j).length = j := by rw [List.length_take]; omega
  have hp : (decide (0 < j) && mem ((L.take j).getD (j - 1) Ag.no).k) = (decide (0 < j) && mem (L.getD (j - 1) Ag.no).k) := by
    rcases Nat.eq_zero_or_pos j with h0 | h0
    · subst h0; rfl
    · rw [getD_take (by omega)]
  have hn : (decide (0 < (L.drop (j + 1)).length) && ((L.drop (j + 1)).getD 0 Ag.no).k == 9) = (decide (j + 1 < L.length) && (L.getD (j + 1) Ag.no).k == 9) := by
    rw [getD_drop, Nat.add_zero, List.length_drop]
    congr 1
    rw [Bool.eq_iff_iff, decide_eq_true_eq, decide_eq_true_eq]; omega
  unfold sorted bounds sized sortedAt kindsOf okKinds
  rw [hl, hp, hn]
  rfl
theorem all_swap (Q q : List Int) : (Q.all fun k => !(q.contains k)) = q.all fun x => !(Q.contains x) := by
  rw [Bool.eq_iff_iff, List.all_eq_true, List.all_eq_true]
  constructor
  · intro h x hx
    have := fun hq : x ∈ Q => h x hq
    simp only [Bool.not_eq_true', List.contains_eq_mem, decide_eq_false_iff_not] at this ⊢
    exact fun hq => this hq hx
  · intro h k hk
    have := fun hq : k ∈ q => h k hq
    simp only [Bool.not_eq_true', List.contains_eq_mem, decide_eq_false_iff_not] at this ⊢
    exact fun hq => this hq hk
theorem mapped_q {L : List Ag} {a : Ag} {q : List Int} (h : (a.k == 3) = false) (hl : lacks a.k = some q) : mapped L a = (decide (0 < (mapOf L).length) && q.all fun x => !((mapOf L).contains x)) := by
  simp only [beq_eq_false_iff_ne, ne_eq] at h
  unfold mapped
  rw [if_neg h, hl]
  show (decide (0 < (mapOf L).length) && (mapOf L).all fun k => !(q.contains k)) = _
  rw [all_swap]
theorem answers_2f {h : Hp} (h2 : (h.rk == 2) = true) (hx : ((mapOf h.args).all fun k => decide (k ≤ 4)) = false) : answers h = false := by
  unfold answers
  rw [if_neg (by rw [eq_of_beq h2]; decide), if_pos (eq_of_beq h2), hx]
  simp
theorem answers_2 {h : Hp} (h2 : (h.rk == 2) = true) (hx : ((mapOf h.args).all fun k => decide (k ≤ 4)) = true) : answers h = (h.rlo == 0 && (h.rhi == 0 && (h.rsz == 0 && decide (0 < (mapOf h.args).length)))) := by
  unfold answers
  rw [if_neg (by rw [eq_of_beq h2]; decide), if_pos (eq_of_beq h2), hx, Bool.and_true]
theorem own_same {h : Hp} (ho : ownOk h.core = true) : eqC (⟨h.id, h.mj, h.mn, (own h.core).core, (own h.core).args, (own h.core).rk, (own h.core).rlo, (own h.core).rhi, (own h.core).rsz⟩ : Hp) h = (sameRet (own h.core) h && eqC (own h.core).args h.args) := by
  rw [Bool.eq_iff_iff, eqC_iff, Bool.and_eq_true, eqC_iff, own_core ho]
  constructor
  · intro e
    generalize own h.core = o at e ⊢
    cases h
    simp only [Hp.mk.injEq, true_and] at e
    obtain ⟨e1, e2, e3, e4, e5⟩ := e
    refine ⟨?_, e1⟩
    unfold sameRet
    simp only [e2, e3, e4, e5, beq_self_eq_true, Bool.and_self]
  · rintro ⟨e, e1⟩
    unfold sameRet at e
    simp only [Bool.and_eq_true, beq_iff_eq] at e
    rw [e1, e.1, e.2.1, e.2.2.1, e.2.2.2]
section
variable {h : Hp} (h1 : numbered h.id = true) (h2 : versioned h.mj h.mn = true) (h3 : ¬ 5 < h.args.length) (h4 : firstE (argE h.args) h.args.length 0 = 0)
include h1 h2 h3 h4
theorem helper_s (ha : answers h = true) (hc : (h.core == 0) = false) (ho : ownOk h.core = true) : helper h = if eqC (⟨h.id, h.mj, h.mn, (own h.core).core, (own h.core).args, (own h.core).rk, (own h.core).rlo, (own h.core).rhi, (own h.core).rsz⟩ : Hp) h = true then 0 else 9 := by
  rw [helper_o h1 h2 h3 h4 ha hc, own_same ho, ho]
  congr 1
  simp only [Bool.and_eq_true, true_and]
theorem helper_9s (ha : answers h = true) (hc : (h.core == 0) = false) (ho : ownOk h.core = true) (he : eqC (⟨h.id, h.mj, h.mn, (own h.core).core, (own h.core).args, (own h.core).rk, (own h.core).rlo, (own h.core).rhi, (own h.core).rsz⟩ : Hp) h = false) : helper h = 9 := by
  rw [helper_s h1 h2 h3 h4 ha hc ho, if_neg (by rw [he]; exact Bool.false_ne_true)]
theorem helper_0s (ha : answers h = true) (hc : (h.core == 0) = false) (ho : ownOk h.core = true) (he : eqC (⟨h.id, h.mj, h.mn, (own h.core).core, (own h.core).args, (own h.core).rk, (own h.core).rlo, (own h.core).rhi, (own h.core).rsz⟩ : Hp) h = true) : helper h = 0 := by
  rw [helper_s h1 h2 h3 h4 ha hc ho, if_pos he]
end
end K
end Go.Proofs.Ytnbcemeofhaogaa
