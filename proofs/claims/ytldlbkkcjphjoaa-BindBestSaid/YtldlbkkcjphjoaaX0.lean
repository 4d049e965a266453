import Derived.Test.YtldlbkkcjphjoaaSxZ
import Derived.Test.YtldlbkkcjphjoaaTreeS
namespace Go.Proofs.Ytldlbkkcjphjoaa
open Go.RowKit Go.Sx
set_option linter.unusedSimpArgs false
set_option linter.unusedVariables false
set_option linter.unnecessarySimpa false
set_option maxRecDepth 100000
set_option maxHeartbeats 4000000
/-- What is asked of the program's variables: nothing. -/
def Gw (_ : World) : Prop := True
theorem st_Gw : Stable Gw := fun _ _ _ _ => trivial
/-- The structs that are compared. -/
def eqs : List (TypeId × List CK) := [(27, [.int, .int, .int, .int])]
theorem eqs_ok : ∀ p ∈ eqs, EqOk Try.prog p.1 p.2 := by
  have h : (eqs.all fun p => eqB Try.prog p.1 p.2) = true := by kernel_rfl
  exact fun p hp => eqB_ok (List.all_eq_true.1 h p hp)
theorem mixed : Try.prog.follows .mixedOrders = true := by kernel_rfl
/-- Types with arrays: four numbers. -/
def mixs : List (TypeId × List SV) := [(79, [.arr 4 1 (fun _ => [.int .i64 0])])]
theorem mixs_ok : ∀ p ∈ mixs, MixOk Try.prog p.1 p.2 := by
  intro p hp
  simp only [mixs, List.mem_singleton] at hp
  subst hp
  obtain ⟨it, hi, v, hv, hc⟩ : ∃ it, Try.prog.info? 79 = some it ∧ ∃ v, it.zero = some v ∧ v.cells = (mixL [.arr 4 1 (fun _ => [.int .i64 0])] [.bool false]).toArray := ⟨_, rfl, _, rfl, by kernel_rfl⟩
  exact ⟨⟨it, v, hi, hv, fun ρ => hc⟩, rfl⟩
def meqs : List (TypeId × List (Nat × List CK)) := []
theorem meqs_ok : ∀ p ∈ meqs, EqOk Try.prog p.1 (runsF p.2) := fun p hp => by cases hp
theorem i64_of {n : Int} (h0 : -9223372036854775808 ≤ n) (h1 : n < 9223372036854775808) : IntKind.i64.wrap n = n := IntWalk.i64_in _ (by omega)
structure Fd where
  o : Int
  z : Int
  k : Int
  w : Bool
def eF : Enc Fd := ⟨fun t => [.int .i64 t.o, .int .i64 t.z, .int .u8 t.k, .bool t.w], fun l => match l with | [.int .i64 o, .int .i64 z, .int .u8 k, .bool w] => ⟨o, z, k, w⟩ | _ => ⟨0, 0, 0, false⟩, fun l => match l with | [.int .i64 _, .int .i64 _, .int .u8 _, .bool _] => true | _ => false, ⟨0, 0, 0, false⟩,
  fun l h => by revert h; split <;> simp_all, fun _ => rfl, fun _ => rfl⟩
def eI : Enc Int := ⟨fun b => [.int .i64 b], fun l => match l with | [.int .i64 b] => b | _ => 0, fun l => match l with | [.int .i64 _] => true | _ => false, 0,
  fun l h => by revert h; split <;> simp_all, fun _ => rfl, fun _ => rfl⟩
structure Nd where
  a : Int
  b : Int
  c : Int
def eN : Enc Nd := ⟨fun t => [.int .i64 t.a, .int .i64 t.b, .int .i64 t.c], fun l => match l with | [.int .i64 a, .int .i64 b, .int .i64 c] => ⟨a, b, c⟩ | _ => ⟨0, 0, 0⟩, fun l => match l with | [.int .i64 _, .int .i64 _, .int .i64 _] => true | _ => false, ⟨0, 0, 0⟩,
  fun l h => by revert h; split <;> simp_all, fun _ => rfl, fun _ => rfl⟩
end Go.Proofs.Ytldlbkkcjphjoaa
