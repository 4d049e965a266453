import Derived.Test.YtnbcemeofhaogaaTreeS
import Derived.Test.YtnbcemeofhaogaaSxZ
import Derived.Test.YtnbcemeofhaogaaSxX
namespace Go.Proofs.Ytnbcemeofhaogaa
open Go.RowKit Go.Sx
set_option linter.unusedSimpArgs false
set_option linter.unusedVariables false
set_option linter.unnecessarySimpa false
set_option maxRecDepth 100000
set_option maxHeartbeats 4000000
/-- What is asked of the program's variables: nothing. -/
def Gw (_ : World) : Prop := True
theorem st_Gw : Stable Gw := fun _ _ _ _ => trivial
/-- The structs that are compared. -/
def eqs : List (TypeId × List CK) := [(27, [.int, .int, .int, .int]), (65, [.int, .int, .int, .bool])]
theorem eqs_ok : ∀ p ∈ eqs, EqOk Try.prog p.1 p.2 := by
  have h : (eqs.all fun p => eqB Try.prog p.1 p.2) = true := by kernel_rfl
  exact fun p hp => eqB_ok (List.all_eq_true.1 h p hp)
theorem mixed : Okay Try.prog := ⟨by kernel_rfl, fun f => by unfold fnOk; exact Iff.rfl⟩
/-- Types with arrays: four numbers. -/
def mixs : List (TypeId × List SV) := [(132, [.arr 4 1 (fun _ => [.int .i64 0])])]
theorem mixs_ok : ∀ p ∈ mixs, MixOk Try.prog p.1 p.2 := by
  intro p hp
  simp only [mixs, List.mem_singleton] at hp
  subst hp
  obtain ⟨it, hi, v, hv, hc⟩ : ∃ it, Try.prog.info? 132 = some it ∧ ∃ v, it.zero = some v ∧ v.cells = (mixL [.arr 4 1 (fun _ => [.int .i64 0])] [.bool false]).toArray := ⟨_, rfl, _, rfl, by kernel_rfl⟩
  exact ⟨⟨it, v, hi, hv, fun ρ => hc⟩, rfl⟩
def meqs : List (TypeId × List (Nat × List CK)) := []
theorem meqs_ok : ∀ p ∈ meqs, EqOk Try.prog p.1 (runsF p.2) := fun p hp => by cases hp
theorem i64_of {n : Int} (h0 : -9223372036854775808 ≤ n) (h1 : n < 9223372036854775808) : IntKind.i64.wrap n = n := IntWalk.i64_in _ (by omega)
structure Fd where
  o : Int
  z : Int
  k : Int
  w : Bool
def eF : Enc Fd := ⟨fun t => [.int .i64 t.o, .int .i64 t.z, .int .u8 t.k, .bool t.w], fun l => match l with | [.int .i64 o, .int .i64 z, .int .u8 k, .bool w] => ⟨o, z, k, w⟩ | _ => ⟨0, 0, 0, false⟩, fun l => match l with | [.int .i64 _, .int .i64 _, .int .u8 _, .bool _] => true | _ => false, ⟨0, 0, 0, false⟩,
  fun l h => by revert h; split <;> simp_all, fun _ => rfl, fun _ => rfl⟩
def eI : Enc Int := ⟨fun b => [.int .i64 b], fun l => match l with | [.int .i64 b] => b | _ => 0, fun l => match l with | [.int .i64 _] => true | _ => false, 0,
  fun l h => by revert h; split <;> simp_all, fun _ => rfl, fun _ => rfl⟩
structure Nd where
  a : Int
  b : Int
  c : Int
def eN : Enc Nd := ⟨fun t => [.int .i64 t.a, .int .i64 t.b, .int .i64 t.c], fun l => match l with | [.int .i64 a, .int .i64 b, .int .i64 c] => ⟨a, b, c⟩ | _ => ⟨0, 0, 0⟩, fun l => match l with | [.int .i64 _, .int .i64 _, .int .i64 _] => true | _ => false, ⟨0, 0, 0⟩,
  fun l h => by revert h; split <;> simp_all, fun _ => rfl, fun _ => rfl⟩
end Go.Proofs.Ytnbcemeofhaogaa
namespace Go.Proofs.Ytnbcemeofhaogaa
open Go.RowKit Go.Sx
set_option linter.unusedSimpArgs false
set_option linter.unusedVariables false
set_option linter.unnecessarySimpa false
set_option maxRecDepth 100000
set_option maxHeartbeats 4000000
theorem avcons {a b : AV} {l m : List AV} (h : AVEq a b) (k : AVEqL l m) : AVEqL (a :: l) (b :: m) := ⟨h, k⟩
def anyB : SV → Prop
  | .tt => True
  | .ff => True
  | .bool _ => True
  | _ => False
theorem anyB_is {x : SV} (h : anyB x) {K : SV → Prop} (ht : K .tt) (hf : K .ff) : ∃ y, (∀ ρ ρ' : Val, x.den ρ = y.den ρ') ∧ K y := by
  cases x with
  | tt => exact ⟨.tt, fun _ _ => rfl, ht⟩
  | ff => exact ⟨.ff, fun _ _ => rfl, hf⟩
  | bool b => cases b with
    | true => exact ⟨.tt, fun _ _ => rfl, ht⟩
    | false => exact ⟨.ff, fun _ _ => rfl, hf⟩
  | _ => exact h.elim
theorem fvl_cons {a b : FV} {l m : List FV} (h : FVEq a b) (k : FVEqL l m) : FVEqL (a :: l) (b :: m) := ⟨by simp [k.1], fun j x y hx hy => by
  cases j with
  | zero =>
    simp only [List.getElem?_cons_zero, Option.some.injEq] at hx hy
    subst hx hy; exact h
  | succ j => exact k.2 j x y (by simpa using hx) (by simpa using hy)⟩
/-- The list that a row is. -/
def rowA {α : Type} (e : Enc α) (sz : Nat) : FV → Option (Bool × List α)
  | .row s n g => match Nat.beq s sz with
    | true => some (allIs e 0 n g, elts e 0 n g)
    | false => none
  | .val (.slice none 0 0) => some (true, [])
  | _ => none
theorem rowA_eq {α : Type} {e : Enc α} {sz : Nat} {a : FV} {c : Bool} {L : List α} (h : rowA e sz a = some (c, L)) (hc : c = true) : FVEq a (.row sz L.length (gOf e L)) := by
  unfold rowA at h
  split at h
  · rename_i s n g
    split at h
    · rename_i hs
      obtain rfl := Nat.eq_of_beq_eq_true hs
      simp only [Option.some.injEq, Prod.mk.injEq] at h
      obtain ⟨rfl, rfl⟩ := h
      rw [elts_length]
      exact FVEq.of_rows fun i hi => by rw [gOf_elts e hc i hi, Nat.zero_add]
    · cases h
  · simp only [Option.some.injEq, Prod.mk.injEq] at h
    obtain ⟨_, rfl⟩ := h
    exact FVEq.nil
  · cases h
def rfOf : Code → Option (Array Nat × Code × Code)
  | .rangeFunc _ ps a b => some (ps, a, b)
  | .seq a b => match rfOf a with
    | some r => some r
    | none => rfOf b
  | .cond _ a b => match rfOf a with
    | some r => some r
    | none => rfOf b
  | .block _ c => rfOf c
  | .loop c => rfOf c
  | _ => none
/-- The block of a range over a function, while it is gone through. -/
def lpOf (T : Tbl) (c : Code) (fr : List SV) : Blk := match rfOf c with
  | some (ps, a, b) => .lp T fr ps a b .ready
  | none => .dead
end Go.Proofs.Ytnbcemeofhaogaa
