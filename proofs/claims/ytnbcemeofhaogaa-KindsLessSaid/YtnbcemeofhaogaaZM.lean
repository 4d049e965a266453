import Derived.Test.YtnbcemeofhaogaaXG
namespace Go.Proofs.Ytnbcemeofhaogaa
open Go.RowKit Go.Sx
set_option linter.unusedSimpArgs false
set_option linter.unusedVariables false
set_option linter.unnecessarySimpa false
set_option maxRecDepth 100000
set_option maxHeartbeats 4000000
namespace K
/-- The first error among some. -/
def firstE (f : Nat → Int) : Nat → Nat → Int
  | 0, _ => 0
  | n + 1, i => if f i = 0 then firstE f n (i + 1) else f i
theorem firstE_go {f : Nat → Int} {n j : Nat} (h : j < n) (k : f j = 0) : firstE f (n - (j + 1)) (j + 1) = firstE f (n - j) j := by
  obtain ⟨m, hm⟩ : ∃ m, n - j = m + 1 := ⟨n - j - 1, by omega⟩
  rw [hm, show n - (j + 1) = m by omega, firstE, if_pos k]
theorem firstE_at {f : Nat → Int} {n j : Nat} (h : j < n) (k : f j ≠ 0) : firstE f (n - j) j = f j := by
  obtain ⟨m, hm⟩ : ∃ m, n - j = m + 1 := ⟨n - j - 1, by omega⟩
  rw [hm, firstE, if_neg k]
theorem firstE_end {f : Nat → Int} {n : Nat} : firstE f (n - n) n = 0 := by rw [Nat.sub_self]; rfl
/-- Are the first so many such? -/
def upto (p : Nat → Bool) (j : Nat) : Bool := (List.range j).all p
theorem upto_0 {p : Nat → Bool} : upto p 0 = true := rfl
theorem upto_next {p : Nat → Bool} {j : Nat} (h : upto p j = true) (k : p j = true) : upto p (j + 1) = true := by
  unfold upto at *
  rw [List.range_succ, List.all_append, h]
  simpa using k
theorem upto_no {p : Nat → Bool} {j n : Nat} (h : j < n) (k : p j = false) : upto p n = false := by
  unfold upto
  rw [List.all_eq_false]
  exact ⟨j, List.mem_range.2 h, by simpa using k⟩
theorem upto_at {p : Nat → Bool} {n : Nat} (h : upto p n = true) {j : Nat} (hj : j < n) : p j = true := List.all_eq_true.1 h j (List.mem_range.2 hj)
theorem upto_of {p : Nat → Bool} {n : Nat} (h : ∀ j, j < n → p j = true) : upto p n = true := List.all_eq_true.2 fun j hj => h j (List.mem_range.1 hj)
theorem upto_all {α : Type} (p : α → Bool) (L : List α) (d : α) : upto (fun i => p (L.getD i d)) L.length = L.all p := by
  rw [Bool.eq_iff_iff]
  constructor
  · intro h
    rw [List.all_eq_true]
    intro x hx
    obtain ⟨i, hi, rfl⟩ := List.getElem_of_mem hx
    have := upto_at h hi
    simpa [List.getD_eq_getElem?_getD, hi] using this
  · intro h
    refine upto_of fun j hj => ?_
    have := List.all_eq_true.1 h (L[j]) (List.getElem_mem hj)
    simpa [List.getD_eq_getElem?_getD, hj] using this
def mapA (l : List Int) : Ag := ⟨3, 0, 0, l⟩
def argA (k lo hi : Int) : Ag := ⟨k, lo, hi, []⟩
/-- The host's own helper of a kind. -/
def own (k : Int) : Hp :=
  if k = 1 then ⟨0, 0, 0, 1, [mapA [1, 2, 3, 4], argA 4 0 0], 2, 0, 0, 0⟩
  else if k = 2 then ⟨0, 0, 0, 2, [mapA [1, 2, 3, 4, 8], argA 4 0 0, argA 5 0 0, argA 1 0 2], 1, -100, 0, 0⟩
  else if k = 3 then ⟨0, 0, 0, 3, [mapA [2, 3, 4, 8], argA 4 0 0], 1, -100, 0, 0⟩
  else if k = 4 then ⟨0, 0, 0, 4, [mapA [5, 6], argA 5 0 0, argA 1 0 2], 1, -100, 0, 0⟩
  else if k = 5 then ⟨0, 0, 0, 5, [mapA [5, 6], argA 6 0 0], 1, -100, 0, 0⟩
  else if k = 6 then ⟨0, 0, 0, 6, [mapA [5, 6], argA 6 0 0], 1, -100, 0, 0⟩
  else if k = 7 then ⟨0, 0, 0, 7, [mapA [7], argA 7 0 0, argA 9 0 1024], 1, -100, 0, 0⟩
  else if k = 8 then ⟨0, 0, 0, 8, [argA 2 0 0, mapA [8], argA 1 0 4294967295], 1, -1, -1, 0⟩
  else if k = 9 then ⟨0, 0, 0, 9, [], 1, -9223372036854775808, 9223372036854775807, 0⟩
  else if k = 10 then ⟨0, 0, 0, 10, [], 1, -9223372036854775808, 9223372036854775807, 0⟩
  else Hp.no
def ownOk (k : Int) : Bool := decide (1 ≤ k) && decide (k ≤ 10)
theorem own_no {k : Int} (h : k ≠ 1 ∧ k ≠ 2 ∧ k ≠ 3 ∧ k ≠ 4 ∧ k ≠ 5 ∧ k ≠ 6 ∧ k ≠ 7 ∧ k ≠ 8 ∧ k ≠ 9 ∧ k ≠ 10) : own k = Hp.no := by
  obtain ⟨h1, h2, h3, h4, h5, h6, h7, h8, h9, h10⟩ := h
  unfold own
  rw [if_neg h1, if_neg h2, if_neg h3, if_neg h4, if_neg h5, if_neg h6, if_neg h7, if_neg h8, if_neg h9, if_neg h10]
theorem ownOk_no {k : Int} (h : k ≠ 1 ∧ k ≠ 2 ∧ k ≠ 3 ∧ k ≠ 4 ∧ k ≠ 5 ∧ k ≠ 6 ∧ k ≠ 7 ∧ k ≠ 8 ∧ k ≠ 9 ∧ k ≠ 10) : ownOk k = false := by
  obtain ⟨h1, h2, h3, h4, h5, h6, h7, h8, h9, h10⟩ := h
  unfold ownOk
  rw [Bool.and_eq_false_iff, decide_eq_false_iff_not, decide_eq_false_iff_not]
  omega
end K
end Go.Proofs.Ytnbcemeofhaogaa
namespace Go.Proofs.Ytnbcemeofhaogaa
open Go.RowKit Go.Sx
set_option linter.unusedSimpArgs false
set_option linter.unusedVariables false
set_option linter.unnecessarySimpa false
set_option maxRecDepth 100000
set_option maxHeartbeats 4000000
namespace K
def numbered (n : Int) : Bool := decide (1 ≤ n) && decide (n ≤ 1073741824)
def versioned (a b : Int) : Bool := (decide (0 ≤ a) && decide (a ≤ 65535)) && (decide (0 ≤ b) && decide (b ≤ 65535))
/-- Do numbers rise? -/
def risesAt (L : List Int) (i : Nat) : Bool := !(decide (0 < i)) || decide (L.getD (i - 1) eB.dft < L.getD i eB.dft)
def rising (L : List Int) : Bool := upto (risesAt L) L.length
def cmp (a b : Int) : Int := if a < b then -1 else if b < a then 1 else 0
theorem cmp_neg {a b : Int} (h : decide (0 ≤ cmp a b) = false) : a < b := by
  have := of_decide_eq_false h
  unfold cmp at this
  split at this
  · assumption
  · split at this <;> omega
theorem cmp_nn {a b : Int} (h : decide (0 ≤ cmp a b) = true) : ¬ a < b := by
  have := of_decide_eq_true h
  unfold cmp at this
  split at this
  · omega
  · assumption
theorem rises_no {L : List Int} {j : Nat} (hp : 0 < j) (h : decide (0 ≤ cmp (L.getD (j - 1) eB.dft) (L.getD j eB.dft)) = true) : risesAt L j = false := by
  unfold risesAt
  rw [decide_eq_true hp, decide_eq_false (cmp_nn h)]
  rfl
theorem rises_ok {L : List Int} {j : Nat} (h : decide (0 ≤ cmp (L.getD (j - 1) eB.dft) (L.getD j eB.dft)) = false) : risesAt L j = true := by
  unfold risesAt
  rw [decide_eq_true (cmp_neg h), Bool.or_true]
theorem rises_0 {L : List Int} {j : Nat} (h : j = 0) : risesAt L j = true := by
  subst h; rfl
def mem (k : Int) : Bool := k == 7 || k == 8
def mapOf : List Ag → List Int
  | [] => []
  | a :: l => if a.k = 3 then a.maps else mapOf l
theorem drop_at {α : Type} {L : List α} {j : Nat} (h : j < L.length) (d : α) : L.drop j = L.getD j d :: L.drop (j + 1) := by
  rw [List.drop_eq_getElem_cons h]; simp [List.getD_eq_getElem?_getD, h]
theorem mapOf_at {L : List Ag} {j : Nat} (h : j < L.length) (k : (L.getD j cA.dft).k = 3) : mapOf (L.drop j) = (L.getD j cA.dft).maps := by
  rw [drop_at h cA.dft, mapOf, if_pos k]
theorem mapOf_go {L : List Ag} {j : Nat} (h : j < L.length) (k : ¬ (L.getD j cA.dft).k = 3) : mapOf (L.drop j) = mapOf (L.drop (j + 1)) := by
  rw [drop_at h cA.dft, mapOf, if_neg k]
def bounds (before : List Ag) (a : Ag) : Bool :=
  if a.k = 1 then decide (a.lo ≤ a.hi)
  else if a.k = 9 then a.lo == 0 && ((decide (1 ≤ a.hi) && decide (a.hi ≤ 1024)) && (decide (0 < before.length) && mem (before.getD (before.length - 1) Ag.no).k))
  else a.lo == 0 && a.hi == 0
def kindsOf (a : Ag) : Bool :=
  if a.k = 3 then decide (0 < a.maps.length) && (rising a.maps && (decide (1 ≤ a.maps.getD 0 0) && decide (a.maps.getD (a.maps.length - 1) 0 ≤ 8)))
  else a.maps.length == 0
def sized (a : Ag) (next : List Ag) : Bool := !(mem a.k) || (decide (0 < next.length) && (next.getD 0 Ag.no).k == 9)
def sorted (before : List Ag) (a : Ag) (next : List Ag) : Bool :=
  decide (1 ≤ a.k) && (decide (a.k ≤ 9) && (bounds before a && (kindsOf a && sized a next)))
def lacks (k : Int) : Option (List Int) := if k = 4 then some [5, 6, 7] else if k = 5 then some [7] else if k = 6 then some [7, 8] else none
def mapped (before : List Ag) (a : Ag) : Bool :=
  if a.k = 3 then (mapOf before).length == 0
  else match lacks a.k with
    | none => true
    | some q => decide (0 < (mapOf before).length) && (mapOf before).all fun k => !(q.contains k)
theorem lacks_4 {k : Int} (h : (k == 4) = true) : lacks k = some [5, 6, 7] := by rw [eq_of_beq h]; rfl
theorem lacks_5 {k : Int} (h : (k == 5) = true) : lacks k = some [7] := by rw [eq_of_beq h]; rfl
theorem lacks_6 {k : Int} (h : (k == 6) = true) : lacks k = some [7, 8] := by rw [eq_of_beq h]; rfl
theorem lacks_no {k : Int} (h4 : (k == 4) = false) (h5 : (k == 5) = false) (h6 : (k == 6) = false) : lacks k = none := by
  simp only [beq_eq_false_iff_ne, ne_eq] at h4 h5 h6
  unfold lacks
  rw [if_neg h4, if_neg h5, if_neg h6]
theorem mapped_3 {L : List Ag} {a : Ag} (h : (a.k == 3) = true) : mapped L a = ((mapOf L).length == 0) := by
  unfold mapped
  rw [if_pos (eq_of_beq h)]
theorem mapped_is {L : List Ag} {a : Ag} {q : List Int} (h : (a.k == 3) = false) (hl : lacks a.k = some q) : mapped L a = (decide (0 < (mapOf L).length) && upto (fun i => !(q.contains ((mapOf L).getD i eB.dft))) (mapOf L).length) := by
  simp only [beq_eq_false_iff_ne, ne_eq] at h
  unfold mapped
  rw [if_neg h, hl, upto_all (fun k => !(q.contains k))]
theorem mapped_none {L : List Ag} {a : Ag} (h : (a.k == 3) = false) (hl : lacks a.k = none) : mapped L a = true := by
  simp only [beq_eq_false_iff_ne, ne_eq] at h
  unfold mapped
  rw [if_neg h, hl]
theorem mapped_no {L : List Ag} {a : Ag} {q : List Int} {j : Nat} (h : (a.k == 3) = false) (hl : lacks a.k = some q) (hj : j < (mapOf L).length) (hc : q.contains ((mapOf L).getD j eB.dft) = true) : mapped L a = false := by
  rw [mapped_is h hl, upto_no hj (by rw [hc]; rfl), Bool.and_false]
theorem mapped_0 {L : List Ag} {a : Ag} {q : List Int} (h : (a.k == 3) = false) (hl : lacks a.k = some q) (hp : ¬ 0 < (mapOf L).length) : mapped L a = false := by
  rw [mapped_is h hl, decide_eq_false hp, Bool.false_and]
theorem mapped_yes {L : List Ag} {a : Ag} {q : List Int} (h : (a.k == 3) = false) (hl : lacks a.k = some q) (hp : 0 < (mapOf L).length) (he : upto (fun i => !(q.contains ((mapOf L).getD i eB.dft))) (mapOf L).length = true) : mapped L a = true := by
  rw [mapped_is h hl, decide_eq_true hp, he]; rfl
def maxTo (L : List Int) : Nat → Int
  | 0 => L.getD 0 eB.dft
  | n + 1 => if maxTo L n < L.getD (n + 1) eB.dft then L.getD (n + 1) eB.dft else maxTo L n
theorem maxTo_next {L : List Int} {j : Nat} (h : 0 < j) : (if maxTo L (j - 1) < L.getD j eB.dft then L.getD j eB.dft else maxTo L (j - 1)) = maxTo L j := by
  obtain ⟨n, rfl⟩ : ∃ n, j = n + 1 := ⟨j - 1, by omega⟩
  rfl
def maxL (L : List Int) : Int := maxTo L (L.length - 1)
theorem maxTo_le {L : List Int} {b : Int} : ∀ n, maxTo L n ≤ b ↔ ∀ i, i ≤ n → L.getD i eB.dft ≤ b
  | 0 => ⟨fun h i hi => by obtain rfl : i = 0 := by omega
                           exact h, fun h => h 0 (Nat.le_refl _)⟩
  | n + 1 => by
    have ih := maxTo_le (L := L) (b := b) n
    rw [maxTo]
    constructor
    · intro h i hi
      rcases Nat.lt_or_ge n i with h1 | h1
      · obtain rfl : i = n + 1 := by omega
        split at h <;> omega
      · refine ih.1 ?_ i h1
        split at h <;> omega
    · intro h
      have h1 := h (n + 1) (Nat.le_refl _)
      have h2 := ih.2 fun i hi => h i (by omega)
      split <;> assumption
theorem maxL_le {L : List Int} (h : 0 < L.length) (b : Int) : decide (maxL L ≤ b) = L.all fun k => decide (k ≤ b) := by
  rw [← upto_all (fun k => decide (k ≤ b)) L eB.dft, Bool.eq_iff_iff, decide_eq_true_eq]
  unfold maxL
  rw [maxTo_le]
  constructor
  · intro k
    exact upto_of fun j hj => decide_eq_true (k j (by omega))
  · intro k i hi
    exact of_decide_eq_true (upto_at k (by omega))
def answers (h : Hp) : Bool :=
  if h.rk = 1 then decide (h.rlo ≤ h.rhi) && h.rsz == 0
  else if h.rk = 2 then h.rlo == 0 && (h.rhi == 0 && (h.rsz == 0 && (decide (0 < (mapOf h.args).length) && (mapOf h.args).all fun k => decide (k ≤ 4))))
  else if h.rk = 3 then h.rlo == 0 && (h.rhi == 0 && (decide (1 ≤ h.rsz) && decide (h.rsz ≤ 1024)))
  else false
/-- The error of the argument at a place. -/
def argE (L : List Ag) (i : Nat) : Int := if sorted (L.take i) (L.getD i Ag.no) (L.drop (i + 1)) = true then (if mapped (L.take i) (L.getD i Ag.no) = true then 0 else 35) else 31
def sameRet (a b : Hp) : Bool := a.rk == b.rk && (a.rlo == b.rlo && (a.rhi == b.rhi && a.rsz == b.rsz))
noncomputable def helper (h : Hp) : Int :=
  if numbered h.id = false ∨ versioned h.mj h.mn = false then 34
  else if 5 < h.args.length then 3
  else if firstE (argE h.args) h.args.length 0 ≠ 0 then firstE (argE h.args) h.args.length 0
  else if answers h = false then 36
  else if h.core = 0 then 0
  else if ownOk h.core = true ∧ sameRet (own h.core) h = true ∧ eqC (own h.core).args h.args = true then 0
  else 9
end K
end Go.Proofs.Ytnbcemeofhaogaa
namespace Go.Proofs.Ytnbcemeofhaogaa
open Go.RowKit Go.Sx
set_option linter.unusedSimpArgs false
set_option linter.unusedVariables false
set_option linter.unnecessarySimpa false
set_option maxRecDepth 100000
set_option maxHeartbeats 4000000
namespace K
theorem mapOf_len {n : Nat} : ∀ {L : List Ag}, L.all (Ag.atMost n) = true → (mapOf L).length ≤ n
  | [], _ => Nat.zero_le _
  | a :: l, h => by
    simp only [List.all_cons, Bool.and_eq_true] at h
    rw [mapOf]
    split
    · exact Ag.atMost_len h.1
    · exact mapOf_len h.2
theorem all_take {p : Ag → Bool} {L : List Ag} (h : L.all p = true) (j : Nat) : (L.take j).all p = true := by
  rw [List.all_eq_true] at h ⊢
  exact fun x hx => h x (List.mem_of_mem_take hx)
theorem argE_31 {L : List Ag} {i : Nat} (h : sorted (L.take i) (L.getD i cA.dft) (L.drop (i + 1)) = false) : argE L i = 31 := by
  unfold argE
  rw [if_neg]
  rw [show (cA.dft : Ag) = Ag.no from rfl] at h
  rw [h]; exact Bool.false_ne_true
theorem argE_35 {L : List Ag} {i : Nat} (h : sorted (L.take i) (L.getD i cA.dft) (L.drop (i + 1)) = true) (k : mapped (L.take i) (L.getD i cA.dft) = false) : argE L i = 35 := by
  unfold argE
  rw [show (cA.dft : Ag) = Ag.no from rfl] at h k
  rw [if_pos h, if_neg]
  rw [k]; exact Bool.false_ne_true
theorem argE_0 {L : List Ag} {i : Nat} (h : sorted (L.take i) (L.getD i cA.dft) (L.drop (i + 1)) = true) (k : mapped (L.take i) (L.getD i cA.dft) = true) : argE L i = 0 := by
  unfold argE
  rw [show (cA.dft : Ag) = Ag.no from rfl] at h k
  rw [if_pos h, if_pos k]
theorem helper_n {h : Hp} (h1 : numbered h.id = false) : helper h = 34 := by
  unfold helper; rw [if_pos (.inl h1)]
theorem helper_v {h : Hp} (h1 : versioned h.mj h.mn = false) : helper h = 34 := by
  unfold helper; rw [if_pos (.inr h1)]
theorem nv {h : Hp} (h1 : numbered h.id = true) (h2 : versioned h.mj h.mn = true) : ¬ (numbered h.id = false ∨ versioned h.mj h.mn = false) := by
  rw [h1, h2]; simp
theorem helper_l {h : Hp} (h1 : numbered h.id = true) (h2 : versioned h.mj h.mn = true) (h3 : 5 < h.args.length) : helper h = 3 := by
  unfold helper; rw [if_neg (nv h1 h2), if_pos h3]
theorem helper_e {h : Hp} {e : Int} (h1 : numbered h.id = true) (h2 : versioned h.mj h.mn = true) (h3 : ¬ 5 < h.args.length) (h4 : firstE (argE h.args) h.args.length 0 = e) (h5 : e ≠ 0) : helper h = e := by
  unfold helper; rw [if_neg (nv h1 h2), if_neg h3, h4, if_pos h5]
theorem helper_at {h : Hp} (h1 : numbered h.id = true) (h2 : versioned h.mj h.mn = true) (h3 : ¬ 5 < h.args.length) (h4 : firstE (argE h.args) h.args.length 0 = 0) :
    helper h = if answers h = false then 36 else if h.core = 0 then 0 else if ownOk h.core = true ∧ sameRet (own h.core) h = true ∧ eqC (own h.core).args h.args = true then 0 else 9 := by
  unfold helper; rw [if_neg (nv h1 h2), if_neg h3, h4, if_neg (by simp)]
theorem sameRet_t (a b : Hp) : (a.rk == b.rk && (a.rlo == b.rlo && (a.rhi == b.rhi && (a.rsz == b.rsz && true)))) = sameRet a b := by unfold sameRet; rw [Bool.and_true]
section
variable {h : Hp} (h1 : numbered h.id = true) (h2 : versioned h.mj h.mn = true) (h3 : ¬ 5 < h.args.length) (h4 : firstE (argE h.args) h.args.length 0 = 0)
include h1 h2 h3 h4
theorem helper_36 (ha : answers h = false) : helper h = 36 := by rw [helper_at h1 h2 h3 h4, if_pos ha]
theorem helper_0 (ha : answers h = true) (hc : (h.core == 0) = true) : helper h = 0 := by
  rw [helper_at h1 h2 h3 h4, if_neg (by rw [ha]; simp), if_pos (eq_of_beq hc)]
theorem helper_o (ha : answers h = true) (hc : (h.core == 0) = false) : helper h = if ownOk h.core = true ∧ sameRet (own h.core) h = true ∧ eqC (own h.core).args h.args = true then 0 else 9 := by
  rw [helper_at h1 h2 h3 h4, if_neg (by rw [ha]; simp), if_neg (by simpa using hc)]
theorem helper_9a (ha : answers h = true) (hc : (h.core == 0) = false) (ho : ownOk h.core = false) : helper h = 9 := by
  rw [helper_o h1 h2 h3 h4 ha hc, if_neg (by rw [ho]; simp)]
theorem helper_9b (ha : answers h = true) (hc : (h.core == 0) = false) (hr : ((own h.core).rk == h.rk && ((own h.core).rlo == h.rlo && ((own h.core).rhi == h.rhi && ((own h.core).rsz == h.rsz && true)))) = false) : helper h = 9 := by
  rw [sameRet_t] at hr
  rw [helper_o h1 h2 h3 h4 ha hc, if_neg (by rw [hr]; simp)]
theorem helper_9c (ha : answers h = true) (hc : (h.core == 0) = false) (he : eqC (own h.core).args h.args = false) : helper h = 9 := by
  rw [helper_o h1 h2 h3 h4 ha hc, if_neg (by rw [he]; simp)]
theorem helper_ok (ha : answers h = true) (hc : (h.core == 0) = false) (ho : ownOk h.core = true) (hr : ((own h.core).rk == h.rk && ((own h.core).rlo == h.rlo && ((own h.core).rhi == h.rhi && ((own h.core).rsz == h.rsz && true)))) = true) (he : eqC (own h.core).args h.args = true) : helper h = 0 := by
  rw [sameRet_t] at hr
  rw [helper_o h1 h2 h3 h4 ha hc, if_pos ⟨ho, hr, he⟩]
end
theorem own_short (n : Nat) (hn : 5 ≤ n) (k : Int) : (own k).atMost n = true := by
  have key : ∀ h : Hp, h.atMost 5 = true → h.atMost n = true := fun h hh => Hp.atMost_mono hn hh
  unfold own
  split
  · exact key _ (by decide)
  · split
    · exact key _ (by decide)
    · split
      · exact key _ (by decide)
      · split
        · exact key _ (by decide)
        · split
          · exact key _ (by decide)
          · split
            · exact key _ (by decide)
            · split
              · exact key _ (by decide)
              · split
                · exact key _ (by decide)
                · split
                  · exact key _ (by decide)
                  · split
                    · exact key _ (by decide)
                    · exact key _ (by decide)
theorem own_core {k : Int} (h : ownOk k = true) : (own k).core = k := by
  unfold ownOk at h
  simp only [Bool.and_eq_true, decide_eq_true_eq] at h
  have : k = 1 ∨ k = 2 ∨ k = 3 ∨ k = 4 ∨ k = 5 ∨ k = 6 ∨ k = 7 ∨ k = 8 ∨ k = 9 ∨ k = 10 := by omega
  rcases this with rfl | rfl | rfl | rfl | rfl | rfl | rfl | rfl | rfl | rfl <;> rfl
theorem own_nums (k : Int) : (own k).id = 0 ∧ (own k).mj = 0 ∧ (own k).mn = 0 := by
  unfold own
  repeat' split
  all_goals exact ⟨rfl, rfl, rfl⟩
end K
theorem isR_0 {α : Type} (c : Cel α) (g : Nat → List FV) : c.isR 4 (.row 4 0 g) = true := Cel.isR_of (L := []) (.row (fun _ => rfl) (fun i hi => absurd hi (Nat.not_lt_zero i)) fun i _ _ _ hi => absurd hi (Nat.not_lt_zero i))
theorem decR_0 {α : Type} (c : Cel α) (g : Nat → List FV) : c.decR 4 (.row 4 0 g) = [] := Cel.decR_of (L := []) (.row (fun _ => rfl) (fun i hi => absurd hi (Nat.not_lt_zero i)) fun i _ _ _ hi => absurd hi (Nat.not_lt_zero i))
end Go.Proofs.Ytnbcemeofhaogaa
