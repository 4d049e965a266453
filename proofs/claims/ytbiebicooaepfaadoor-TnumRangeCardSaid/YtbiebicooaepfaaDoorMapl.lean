/- Maps that a call has just made: what an insert and a look-up come to, at integer keys. -/
import Derived.Test.YtbiebicooaepfaaDoorBase
namespace Go.Proofs.YtbiebicooaepfaaDoor
open Go.RowKit
set_option linter.unusedSimpArgs false
set_option linter.unusedVariables false

attribute [go_sem] Instr.findNow Instr.sameNow

theorem heap_last (w : World) (o : Obj) : (w.alloc o).heap[w.heap.size]? = some o := by rw [heap_alloc, if_pos rfl]
theorem set_last (w : World) (o o' : Obj) : ({ (w.alloc o) with heap := (w.alloc o).heap.setIfInBounds w.heap.size o' } : World) = w.alloc o' := by
  have h : (w.heap.push o).setIfInBounds w.heap.size o' = w.heap.push o' := by
    apply Array.ext_getElem?
    intro i
    rw [Array.getElem?_setIfInBounds, Array.getElem?_push, Array.getElem?_push]
    by_cases h : i = w.heap.size
    · subst h; simp
    · rw [if_neg (fun e => h e.symm), if_neg h, if_neg h]
  show ({ w with heap := (w.heap.push o).setIfInBounds w.heap.size o' } : World) = { w with heap := w.heap.push o' }
  rw [h]
theorem run_getMap {P : Program} {W : World} {r : Nat} {es : Array MapEntry} {n : Nat} (h : W.heap[r]? = some (.map es n)) : (getObj r).run P W = .ok (.map es n) W := by
  unfold getObj Sem.run
  rw [h]; rfl
theorem run_setMap {P : Program} {W : World} {r : Nat} {es : Array MapEntry} {n : Nat} (h : W.heap[r]? = some (.map es n)) (o : Obj) : (setObj r o).run P W = .ok () { W with heap := W.heap.setIfInBounds r o } := by
  unfold setObj Sem.run
  rw [h]; rfl
theorem checkKey_int {P : Program} {K : TypeId} {ik : IntKind} (hK : P.underlying K = some (.int ik)) (e : Bool) (v : Value) (w : World) : (Instr.checkKey e 10000 K v).run P w = .ok () w := by
  show (Instr.checkKey e (9999 + 1) K v).run P w = _
  unfold Instr.checkKey
  simp [run_underlying hK]
theorem findKey_int {P : Program} {K : TypeId} {ik : IntKind} (hK : P.underlying K = some (.int ik)) (k : Value) (es : List MapEntry) (r : Option (Nat × Value)) (h : Instr.findNow (.int ik) k es 0 = some r) (w : World) : (Instr.findKey K k es).run P w = .ok r w := by
  unfold Instr.findKey
  simp [run_underlying hK, h]
theorem run_insert_last {P : Program} {T K E : TypeId} {ik : IntKind} (hT : P.underlying T = some (.map K E)) (hK : P.underlying K = some (.int ik)) (W : World) (es : Array MapEntry) (n : Nat) (k : Int) (v : Value) (r : Nat) (hr : r = W.heap.size)
    (hf : Instr.findNow (.int ik) (.int ik k) es.toList 0 = some none) :
    (Instr.mapUpdate T (.map (some r)) (.int ik k) v).run P (W.alloc (.map es n)) = .ok () (W.alloc (.map (es.push ⟨.int ik k, v, n⟩) (n + 1))) := by
  subst hr
  unfold Instr.mapUpdate
  simp [run_underlying hT, run_getMap (heap_last W (.map es n)), checkKey_int hK, findKey_int hK _ _ _ hf, run_setMap (heap_last W (.map es n)), -World.alloc_eq]
  exact set_last W _ _
/-- No entry bears the key. -/
def isNew : Option (Option (Nat × Value)) → Bool
  | some none => true
  | _ => false
attribute [go_sem] isNew
/-- The same, as a rule without a condition on what is found. -/
theorem run_insert_rule {P : Program} {T K E : TypeId} {ik : IntKind} (hT : P.underlying T = some (.map K E)) (hK : P.underlying K = some (.int ik)) (W : World) (es : Array MapEntry) (n : Nat) (k : Int) (v : Value) (r : Nat) (hr : r = W.heap.size) :
    (Instr.mapUpdate T (.map (some r)) (.int ik k) v).run P (W.alloc (.map es n)) =
      if isNew (Instr.findNow (.int ik) (.int ik k) es.toList 0) = true then .ok () (W.alloc (.map (es.push ⟨.int ik k, v, n⟩) (n + 1))) else (Instr.mapUpdate T (.map (some W.heap.size)) (.int ik k) v).run P (W.alloc (.map es n)) := by
  split
  · rename_i h
    refine run_insert_last hT hK W es n k v r hr ?_
    revert h
    generalize Instr.findNow (.int ik) (.int ik k) es.toList 0 = f
    intro h
    match f, h with
    | some none, _ => rfl
  · rw [hr]
theorem run_lookup_last {P : Program} {T K E : TypeId} {ik : IntKind} {z : Value} (hT : P.underlying T = some (.map K E)) (hK : P.underlying K = some (.int ik)) (hz : ∀ w, (zeroValue E).run P w = .ok z w) (W : World) (es : Array MapEntry) (n : Nat) (k : Int) (r : Nat) (hr : r = W.heap.size)
    (hs : (Instr.findNow (.int ik) (.int ik k) es.toList 0).isSome = true) :
    (Instr.lookup T (.map (some r)) (.int ik k) true).run P (W.alloc (.map es n)) = .ok (.tuple #[(((Instr.findNow (.int ik) (.int ik k) es.toList 0).getD none).map (·.2)).getD z, .bool ((Instr.findNow (.int ik) (.int ik k) es.toList 0).getD none).isSome]) (W.alloc (.map es n)) := by
  subst hr
  obtain ⟨x, hx⟩ := Option.isSome_iff_exists.1 hs
  unfold Instr.lookup
  rw [hx]
  simp [run_underlying hT, run_getMap (heap_last W (.map es n)), checkKey_int hK, findKey_int hK _ _ _ hx, -World.alloc_eq]
  cases x with
  | none => simp [hz]
  | some p => simp
end Go.Proofs.YtbiebicooaepfaaDoor
