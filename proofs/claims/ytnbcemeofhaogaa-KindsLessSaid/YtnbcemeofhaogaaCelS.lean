/- Things as they lie in cells, rows among them: told by choice. -/
import Derived.Test.YtnbcemeofhaogaaTreeS
namespace Go.Sx
open Go.RowKit Go.Proofs.Ytnbcemeofhaogaa
set_option linter.unusedSimpArgs false
set_option linter.unusedVariables false

/-- How a thing lies in cells, if rows may be among them. -/
structure Cel (α : Type) where
  cel : α → List FV
  dft : α
  uniq : ∀ {l : List FV} {a b : α}, FVEqL l (cel a) → FVEqL l (cel b) → a = b
namespace Cel
section
variable {α : Type} (c : Cel α)
noncomputable def dec (l : List FV) : α := by
  classical
  exact if h : ∃ a, FVEqL l (c.cel a) then h.choose else c.dft
noncomputable def is (l : List FV) : Bool := by
  classical
  exact decide (∃ a, FVEqL l (c.cel a))
variable {c}
theorem is_of {l : List FV} {a : α} (h : FVEqL l (c.cel a)) : c.is l = true := by
  classical
  unfold is
  simp only [decide_eq_true_eq]; exact ⟨a, h⟩
theorem dec_of {l : List FV} {a : α} (h : FVEqL l (c.cel a)) : c.dec l = a := by
  classical
  have hx : ∃ a, FVEqL l (c.cel a) := ⟨a, h⟩
  unfold dec
  rw [dif_pos hx]
  exact c.uniq hx.choose_spec h
theorem is_dec {l : List FV} (h : c.is l = true) : FVEqL l (c.cel (c.dec l)) := by
  classical
  unfold is at h
  simp only [decide_eq_true_eq] at h
  obtain ⟨a, ha⟩ := h
  rw [dec_of ha]; exact ha
/-- A row's elements. -/
@[reducible] def g (c : Cel α) (L : List α) : Nat → List FV := fun i => c.cel (L.getD i c.dft)
theorem rows_uniq {x : FV} {sz sz' : Nat} {a b : List α} (h1 : FVEq x (.row sz a.length (c.g a))) (h2 : FVEq x (.row sz' b.length (c.g b))) : a = b := by
  rcases h1.inv_row rfl with ⟨e1, l1⟩ | ⟨s1, g1, e1, _, r1⟩
  · rcases h2.inv_row rfl with ⟨_, l2⟩ | ⟨s2, g2, e2, _, r2⟩
    · rw [List.eq_nil_of_length_eq_zero l1, List.eq_nil_of_length_eq_zero l2]
    · rw [e1] at e2; cases e2
  · rcases h2.inv_row rfl with ⟨e2, _⟩ | ⟨s2, g2, e2, _, r2⟩
    · rw [e1] at e2; cases e2
    · rw [e1] at e2
      injection e2 with x1 x2 x3
      subst x1 x3
      apply List.ext_getElem x2
      intro i hi hi'
      have := c.uniq (r1 i hi) (r2 i hi')
      simpa [List.getD_eq_getElem?_getD, hi, hi'] using this
variable (c)
/-- Is a content a row of such things? -/
noncomputable def isR (sz : Nat) (x : FV) : Bool := by
  classical
  exact decide (∃ L : List α, FVEq x (.row sz L.length (c.g L)))
noncomputable def decR (sz : Nat) (x : FV) : List α := by
  classical
  exact if h : ∃ L : List α, FVEq x (.row sz L.length (c.g L)) then h.choose else []
variable {c}
theorem isR_of {sz : Nat} {x : FV} {L : List α} (h : FVEq x (.row sz L.length (c.g L))) : c.isR sz x = true := by
  classical
  unfold isR
  simp only [decide_eq_true_eq]; exact ⟨L, h⟩
theorem decR_of {sz : Nat} {x : FV} {L : List α} (h : FVEq x (.row sz L.length (c.g L))) : c.decR sz x = L := by
  classical
  have hx : ∃ L : List α, FVEq x (.row sz L.length (c.g L)) := ⟨L, h⟩
  unfold decR
  rw [dif_pos hx]
  exact rows_uniq hx.choose_spec h
theorem isR_dec {sz : Nat} {x : FV} (h : c.isR sz x = true) : FVEq x (.row sz (c.decR sz x).length (c.g (c.decR sz x))) := by
  classical
  unfold isR at h
  simp only [decide_eq_true_eq] at h
  obtain ⟨L, hL⟩ := h
  rw [decR_of hL]; exact hL
theorem eqv_cel (a : α) : FVEqL (c.cel a) (c.cel a) := FVEqL.refl _
theorem row_refl (sz : Nat) (L : List α) : FVEq (.row sz L.length (c.g L)) (.row sz L.length (c.g L)) := FVEq.refl _
theorem row_nil (sz : Nat) : FVEq (.val (.slice none 0 0)) (.row sz ([] : List α).length (c.g [])) := .nil
theorem row_snoc {sz : Nat} {n : Nat} {g h : Nat → List FV} {L : List α} {a : α} (hn : n = L.length) (hg : ∀ i, i < n → FVEqL (g i) (c.g L i)) (ha : FVEqL (h 0) (c.cel a)) : ∀ i, i < n + 1 → FVEqL (gApp n g h i) (c.g (L ++ [a]) i) := by
  intro i hi
  subst hn
  unfold gApp
  by_cases hlt : i < L.length
  · have := hg i hlt
    simpa [Cel.g, hlt, List.getD_eq_getElem?_getD, List.getElem?_append_left hlt] using this
  · obtain rfl : i = L.length := by omega
    simpa [Cel.g, List.getD_eq_getElem?_getD] using ha
/-- A part of a row. -/
theorem row_part {sz : Nat} {g h : Nat → List FV} {off n : Nat} {L : List α} (hL : off + n ≤ L.length) (hg : ∀ i, i < L.length → FVEqL (g i) (c.g L i)) (hh : ∀ i, i < n → h i = g (off + i)) : FVEq (.row sz n h) (.row sz ((L.drop off).take n).length (c.g ((L.drop off).take n))) := by
  have hl : ((L.drop off).take n).length = n := by simp; omega
  rw [hl]
  have key : ∀ i, i < n → FVEqL (h i) (c.g ((L.drop off).take n) i) := fun i hi => by
    rw [hh i hi]
    have := hg (off + i) (by omega)
    have e : ((L.drop off).take n).getD i c.dft = L.getD (off + i) c.dft := by
      simp [List.getD_eq_getElem?_getD, List.getElem?_take, hi]
    show FVEqL _ (c.cel _)
    rw [e]; exact this
  exact .row (fun _ => rfl) (fun i hi => (key i hi).1) fun i j x y hi hx hy => (key i hi).2 j x y hx hy
/-- A row that is held up to what is said of its elements. -/
theorem row_of {sz n : Nat} {g : Nat → List FV} {L : List α} (hn : n = L.length) (hg : ∀ i, i < n → FVEqL (g i) (c.g L i)) : FVEq (.row sz n g) (.row sz L.length (c.g L)) := by
  subst hn
  exact .row (fun _ => rfl) (fun i hi => (hg i hi).1) fun i j x y hi hx hy => (hg i hi).2 j x y hx hy
end
end Cel
/-- Cells that hold no row. -/
theorem FVEq.inv_flat {x y : FV} (h : FVEq x y) (hy : y.flat = true) : x = y := by
  cases h with
  | nil => cases hy
  | flat _ => rfl
  | row => cases hy
theorem FVEqL.inv_cons {l : List FV} {y : FV} {m : List FV} (h : FVEqL l (y :: m)) : ∃ x l', l = x :: l' ∧ FVEq x y ∧ FVEqL l' m := by
  obtain ⟨hl, hr⟩ := h
  match l, hl with
  | x :: l', hl => exact ⟨x, l', rfl, hr 0 x y rfl rfl, by simpa using hl, fun j a b ha hb => hr (j + 1) a b (by simpa using ha) (by simpa using hb)⟩
theorem FVEqL.inv_nil {l : List FV} (h : FVEqL l []) : l = [] := List.eq_nil_of_length_eq_zero h.1
/-- Things told by an elder encoding. -/
def Enc.toCel {α : Type} (e : Enc α) (hf : ∀ a, (e.enc a).all FV.flat = true) : Cel α := ⟨e.enc, e.dft, fun {l a b} h1 h2 => by
  have key : ∀ {l m : List FV}, m.all FV.flat = true → FVEqL l m → l = m := by
    intro l m
    induction m generalizing l with
    | nil => intro _ h; exact h.inv_nil
    | cons y m ih =>
      intro hm h
      obtain ⟨x, l', rfl, hx, hl⟩ := h.inv_cons
      simp only [List.all_cons, Bool.and_eq_true] at hm
      rw [hx.inv_flat hm.1, ih hm.2 hl]
  have := (key (hf a) h1).symm.trans (key (hf b) h2)
  have := congrArg e.dec this
  rwa [e.dec_enc, e.dec_enc] at this⟩
def cB : Cel Int := eB.toCel fun _ => rfl
theorem cB_cel (b : Int) : cB.cel b = [.int .u8 b] := rfl
theorem cB_g (L : List Int) : cB.g L = gOf eB L := rfl
end Go.Sx
