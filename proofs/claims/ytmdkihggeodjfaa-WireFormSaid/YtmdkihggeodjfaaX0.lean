import Derived.Test.YtmdkihggeodjfaaShelf
import Derived.Test.YtmdkihggeodjfaaTreeS
namespace Go.Proofs.Ytmdkihggeodjfaa
open Go.RowKit Go.Sx
set_option linter.unusedSimpArgs false
set_option linter.unusedVariables false
set_option linter.unnecessarySimpa false
set_option maxRecDepth 100000
set_option maxHeartbeats 4000000
/-- What is asked of the program's variables: nothing. -/
def Gw (_ : World) : Prop := True
theorem st_Gw : Stable Gw := fun _ _ _ _ => trivial
/-- The structs that are compared. -/
def eqs : List (TypeId × List CK) := [(142, [.int, .int, .int, .int, .int]), (147, [.int, .int, .int, .int]), (154, [.int, .int, .int, .bool]), (158, [.int, .int, .int]), (175, [.int, .int, .int, .int]), (188, [.int, .int, .int, .int]), (202, [.int, .int]), (211, [.int, .int, .bool])]
theorem eqs_ok : ∀ p ∈ eqs, EqOk Try.prog p.1 p.2 := by
  have h : (eqs.all fun p => eqB Try.prog p.1 p.2) = true := by kernel_rfl
  exact fun p hp => eqB_ok (List.all_eq_true.1 h p hp)
theorem mixed : Okay Try.prog := ⟨by kernel_rfl, fun f => by unfold fnOk; exact Iff.rfl⟩
/-- Types with arrays: none. -/
def mixs : List (TypeId × List SV) := []
theorem mixs_ok : ∀ p ∈ mixs, MixOk Try.prog p.1 p.2 := fun p hp => by cases hp
def meqs : List (TypeId × List (Nat × List CK)) := []
theorem meqs_ok : ∀ p ∈ meqs, EqOk Try.prog p.1 (runsF p.2) := fun p hp => by cases hp
theorem c_Len64 (x : BitVec 64) (w : World) : Calls Try.prog 73 #[.int .u64 (uv x)] w (Ret w (.int .i64 (bl x : Nat))) :=
  (Try.bits_Len64 (uv x) w (uv_nonneg x) (by have := uv_lt x; omega)).mono fun e w' ⟨he, hw⟩ => ⟨he, grow_mk (hw ▸ up_refl w)⟩
def k_len64 : List SV → List Blk → Res := fun args _ => match args with
  | [.u64 x] => .ok (.int .i64 (bl x : Nat)) []
  | _ => .fail
theorem k_len64_ok : CtrOk Try.prog Gw 73 k_len64 := by
  refine ⟨fun _ _ => by kernel_rfl, fun args M => ?_⟩
  unfold k_len64
  split
  · rename_i x
    exact fun B ρ w hG hM => ctr_ret hM (sv := .int .i64 (bl x : Nat)) (args := [.u64 x]) (fun _ => rfl) (c_Len64 x w)
  · trivial
end Go.Proofs.Ytmdkihggeodjfaa
