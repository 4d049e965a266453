import Derived.Test.YtnbcemeofhaogaaSxL
import Derived.Carry
import Derived.Deep.SlicePairs
/-! Arguments of a statement, opened as rows that the walk reads. -/
namespace Go.Sx
open Go.ChangeShapes Go.WideShapes Go.Deep Go.RowKit Go.Proofs.Ytnbcemeofhaogaa
set_option linter.unusedSimpArgs false
set_option linter.unusedVariables false
/-- The word in a value. -/
def wordOf : Value → BitVec 64
  | .int _ n => BitVec.ofInt 64 n
  | _ => 0
/-- One place alone. -/
@[reducible] def at0 (l : Option Loc) : Val := ⟨fun i => if i = 0 then l else none, fun _ => False⟩
theorem ro_flat {B : Bd} {ρ : Val} {n : Nat} {w : World} {sz m : Nat} {g : Nat → List FV} (hf : ∀ i, i < m → (g i).all FV.flat = true) (h : roOk (fun k => ¬ B.may k) ρ n w sz m g) : (Blk.ro sz m g).ok B ρ n w := ⟨g, fun i hi => RepL.refl (hf i hi), h⟩
theorem single {W : World} (l : Option Loc) (b : Blk) (ho : b.isOwn = false) (hb : b.ok ⟨W.heap.size, [], fun _ => False⟩ (at0 l) 0 W) : MRel ⟨W.heap.size, [], fun _ => False⟩ (at0 l) [b] W :=
  ⟨Nat.le_refl _, fun n c hn => by
    cases n with
    | zero => simp at hn; subst hn; exact hb
    | succ n => simp at hn, fun n m b c l k hne h1 h2 => by
    cases n with
    | zero =>
      cases m with
      | zero => exact absurd rfl hne
      | succ m => simp at h2
    | succ n => simp at h1, fun _ h => h.elim, fun _ h => h, fun _ h => h.elim, fun n c l hn ho' => (by
    cases n with
    | zero => simp at hn; subst hn; rw [ho] at ho'; cases ho'
    | succ n => simp at hn), fun _ h => h.elim⟩
end Go.Sx
