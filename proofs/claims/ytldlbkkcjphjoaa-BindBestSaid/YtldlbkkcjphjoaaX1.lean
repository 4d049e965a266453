import Derived.Test.YtldlbkkcjphjoaaSxX
import Derived.Test.YtldlbkkcjphjoaaX0
namespace Go.Proofs.Ytldlbkkcjphjoaa
open Go.RowKit Go.Sx
set_option linter.unusedSimpArgs false
set_option linter.unusedVariables false
set_option linter.unnecessarySimpa false
set_option maxRecDepth 100000
set_option maxHeartbeats 4000000
theorem avcons {a b : AV} {l m : List AV} (h : AVEq a b) (k : AVEqL l m) : AVEqL (a :: l) (b :: m) := ⟨h, k⟩
def anyB : SV → Prop
  | .tt => True
  | .ff => True
  | .bool _ => True
  | _ => False
theorem anyB_is {x : SV} (h : anyB x) {K : SV → Prop} (ht : K .tt) (hf : K .ff) : ∃ y, (∀ ρ ρ' : Val, x.den ρ = y.den ρ') ∧ K y := by
  cases x with
  | tt => exact ⟨.tt, fun _ _ => rfl, ht⟩
  | ff => exact ⟨.ff, fun _ _ => rfl, hf⟩
  | bool b => cases b with
    | true => exact ⟨.tt, fun _ _ => rfl, ht⟩
    | false => exact ⟨.ff, fun _ _ => rfl, hf⟩
  | _ => exact h.elim
theorem fvl_cons {a b : FV} {l m : List FV} (h : FVEq a b) (k : FVEqL l m) : FVEqL (a :: l) (b :: m) := ⟨by simp [k.1], fun j x y hx hy => by
  cases j with
  | zero =>
    simp only [List.getElem?_cons_zero, Option.some.injEq] at hx hy
    subst hx hy; exact h
  | succ j => exact k.2 j x y (by simpa using hx) (by simpa using hy)⟩
/-- The list that a row is. -/
def rowA {α : Type} (e : Enc α) (sz : Nat) : FV → Option (Bool × List α)
  | .row s n g => match Nat.beq s sz with
    | true => some (allIs e 0 n g, elts e 0 n g)
    | false => none
  | .val (.slice none 0 0) => some (true, [])
  | _ => none
theorem rowA_eq {α : Type} {e : Enc α} {sz : Nat} {a : FV} {c : Bool} {L : List α} (h : rowA e sz a = some (c, L)) (hc : c = true) : FVEq a (.row sz L.length (gOf e L)) := by
  unfold rowA at h
  split at h
  · rename_i s n g
    split at h
    · rename_i hs
      obtain rfl := Nat.eq_of_beq_eq_true hs
      simp only [Option.some.injEq, Prod.mk.injEq] at h
      obtain ⟨rfl, rfl⟩ := h
      rw [elts_length]
      exact FVEq.of_rows fun i hi => by rw [gOf_elts e hc i hi, Nat.zero_add]
    · cases h
  · simp only [Option.some.injEq, Prod.mk.injEq] at h
    obtain ⟨_, rfl⟩ := h
    exact FVEq.nil
  · cases h
def rfOf : Code → Option (Array Nat × Code × Code)
  | .rangeFunc _ ps a b => some (ps, a, b)
  | .seq a b => match rfOf a with
    | some r => some r
    | none => rfOf b
  | .cond _ a b => match rfOf a with
    | some r => some r
    | none => rfOf b
  | .block _ c => rfOf c
  | .loop c => rfOf c
  | _ => none
/-- The block of a range over a function, while it is gone through. -/
def lpOf (T : Tbl) (c : Code) (fr : List SV) : Blk := match rfOf c with
  | some (ps, a, b) => .lp T fr ps a b .ready
  | none => .dead
end Go.Proofs.Ytldlbkkcjphjoaa
