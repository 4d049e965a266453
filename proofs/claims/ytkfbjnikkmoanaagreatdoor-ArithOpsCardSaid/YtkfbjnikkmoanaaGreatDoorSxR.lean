import Derived.Test.YtkfbjnikkmoanaaGreatDoorSxL
import Derived.Carry
import Derived.Deep.SlicePairs
/-! Arguments of a statement, opened as rows that the walk reads. -/
namespace Go.Sx
open Go.ChangeShapes Go.WideShapes Go.Deep Go.RowKit Go.Proofs.YtkfbjnikkmoanaaGreatDoor
set_option linter.unusedSimpArgs false
set_option linter.unusedVariables false
/-- The word in a value. -/
def wordOf : Value → BitVec 64
  | .int _ n => BitVec.ofInt 64 n
  | _ => 0
/-- One place alone. -/
@[reducible] def at0 (l : Option Loc) : Val := fun i => if i = 0 then l else none
theorem open_words2 {H : Type} {enc : TypeId × Value → H} {P : Program} {W : World} {t e : TypeId} {f0 f1 : Field} {base : Nat} {v : Value} {d : DataW H} {ps : List MemPlace}
    (ht : P.underlying t = some (.slice e)) (he : P.underlying e = some (.struct #[f0, f1])) (ce : P.cellsOf e = 2) (o0 : f0.offset = 0) (o1 : f1.offset = 1) (c0 : P.cellsOf f0.type = 1) (c1 : P.cellsOf f1.type = 1)
    (u0 : P.underlying f0.type = some (.int .u64)) (u1 : P.underlying f1.type = some (.int .u64))
    (hok : Value.okWide P W .any base t v) (h : DataW.Trod enc P W 0 (fun _ => true) true t v d ps) :
    ∃ (l : Option Loc) (len : Nat) (X Y : Nat → BitVec 64), len < 9223372036854775808 ∧ v = SV.den (at0 l) (.sl 0 2 0 len) ∧ ∀ g : Nat → List FV, (∀ i, i < len → g i = [.u64 (X i), .u64 (Y i)]) → MRel ⟨W.heap.size, []⟩ (at0 l) [.ro 2 len g] W := by
  have single : ∀ (l : Option Loc) (b : Blk), b.ok ⟨W.heap.size, []⟩ (at0 l) 0 W → MRel ⟨W.heap.size, []⟩ (at0 l) [b] W := fun l b hb =>
    ⟨Nat.le_refl _, fun n c hn => by
      cases n with
      | zero => simp at hn; subst hn; exact hb
      | succ n => simp at hn, fun n m b c l k hne h1 h2 => by
      cases n with
      | zero =>
        cases m with
        | zero => exact absurd rfl hne
        | succ m => simp at h2
      | succ n => simp at h1⟩
  obtain ⟨fuel, h⟩ := h
  have hv : ∃ a len cap, v = .slice a len cap ∧ ∀ a', a = some a' → a'.spot = none := by
    unfold Value.okWide at hok
    rw [ht] at hok
    unfold Cell.okWide at hok
    rw [ht] at hok
    cases v with
    | slice a len cap =>
      refine ⟨a, len, cap, rfl, fun a' ha => ?_⟩
      subst ha
      have hok' : Cell.ok P W .any base t (.slice (some a') len cap) := hok
      unfold Cell.ok at hok'
      rw [ht] at hok'
      exact hok'.2.2.2.1
    | _ =>
      exfalso
      simp [Cell.ok, ht] at hok
  obtain ⟨a, len, cap, rfl, hspot⟩ := hv
  rcases open_slice_pairs ht he ce o0 o1 c0 c1 h with ⟨hc, hx⟩ | ⟨a', len', cap', m, n, V0, V1, D0, D1, P0, P1, hc, _, hl, hm, hmm, hx, hall⟩
  · have hc' : Value.slice a len cap = .slice none 0 0 := by
      have := hc; simp [Value.cells] at this; simp [this]
    rw [hc']
    exact ⟨none, 0, fun _ => 0, fun _ => 0, by omega, rfl, fun g _ => single _ _ ⟨fun _ => rfl, fun l hl => by cases hl⟩⟩
  · have hc' : Value.slice a len cap = .slice (some a') len' cap' := by
      have := hc; simp [Value.cells] at this; simp [this]
    obtain ⟨rfl, rfl, rfl⟩ := Value.slice.inj hc'
    obtain ⟨b, o, spot⟩ := a'
    obtain rfl : spot = none := hspot _ rfl
    simp only [if_true] at hmm
    subst hmm
    have hmax : maxLen < 9223372036854775808 := by decide
    refine ⟨some ⟨b, o, m⟩, len, fun i => wordOf (V0 i), fun i => wordOf (V1 i), by omega, rfl, fun g hg => single _ _ ⟨(by intro hn; cases hn), ?_⟩⟩
    intro l hl2
    obtain rfl : (⟨b, o, m⟩ : Loc) = l := Option.some.inj hl2
    have hu : ∀ (k : IntKind) (x : Value) (f : Field) (y : DataW H × List MemPlace), P.underlying f.type = some (.int .u64) → DataW.trod enc P W 0 (fun _ => true) true n f.type [x] = some y → x = .int .u64 (uv (wordOf x)) := by
      intro k x f y hf hy
      obtain ⟨N, h1, _, h3⟩ := DataW.trod_int hf hy
      simp only [List.cons.injEq, and_true] at h1
      subst h1
      have h3' : (decide ((0 : Int) ≤ N) && decide (N ≤ 18446744073709551615)) = true := h3
      simp at h3'
      unfold wordOf
      rw [uv_of 64 N (by omega) (by omega)]
    refine ⟨hl, fun hpos hmay => ?_, fun i hi => ?_⟩
    · have := World.block_lt_of_cell? W _ (hall 0 (by omega)).1
      rcases hmay with hx | hx
      · cases hx
      · have h2 : b < W.heap.size := this
        have h3 : W.heap.size ≤ b := hx
        omega
    · obtain ⟨q0, q1, q2, q3⟩ := hall i (by omega)
      have e0 := hu .u64 _ _ _ u0 q2
      have e1 := hu .u64 _ _ _ u1 q3
      rw [hg i hi]
      refine ⟨⟨rfl, by intro x hx; simp at hx; rcases hx with rfl | rfl <;> rfl⟩, fun j x hx => ?_⟩
      match j, hx with
      | 0, hx =>
        simp at hx; subst hx
        rw [e0, add_plain] at q0
        exact q0
      | 1, hx =>
        simp at hx; subst hx
        rw [e1, add_plain, ← Nat.add_assoc] at q1
        exact q1
end Go.Sx
