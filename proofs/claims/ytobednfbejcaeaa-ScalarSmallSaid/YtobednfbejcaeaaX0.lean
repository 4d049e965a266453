import Derived.Test.YtobednfbejcaeaaScalL
import Derived.Test.YtobednfbejcaeaaShelf
import Derived.Test.YtobednfbejcaeaaSxS
namespace Go.Proofs.Ytobednfbejcaeaa
open Go.RowKit Go.Sx
set_option linter.unusedSimpArgs false
set_option linter.unusedVariables false
set_option linter.unnecessarySimpa false
set_option maxRecDepth 100000
set_option maxHeartbeats 4000000
/-- What is asked of the program's variables: nothing. -/
def Gw (_ : World) : Prop := True
theorem st_Gw : Stable Gw := fun _ _ _ _ => trivial
@[reducible] def tsv (t : Tn) : SV := .agg [.u64 t.v, .u64 t.m]
/-- The structs that are compared. -/
def eqs : List (TypeId × List CK) := [(27, [.int, .int, .int, .int]), (29, [.int, .int, .int, .int, .int, .int])]
theorem eqs_ok : ∀ p ∈ eqs, EqOk Try.prog p.1 p.2 := by
  have h : (eqs.all fun p => eqB Try.prog p.1 p.2) = true := by kernel_rfl
  exact fun p hp => eqB_ok (List.all_eq_true.1 h p hp)
theorem mixed : Try.prog.follows .mixedOrders = true := by kernel_rfl
theorem c_lz (x : BitVec 64) (w : World) : Calls Try.prog 104 #[.int .u64 (uv x)] w (Ret w (.int .i64 (64 - (bl x : Int)))) :=
  (Try.bits_LeadingZeros64 (uv x) w (uv_nonneg x) (by have := uv_lt x; omega)).mono fun e w' ⟨he, hw⟩ => ⟨he, grow_mk (hw ▸ up_refl w)⟩
def k_lz : List SV → List Blk → Res := fun args _ => match args with
  | [.u64 x] => .ok (.int .i64 (64 - (bl x : Int))) []
  | _ => .fail
theorem k_lz_ok : CtrOk Try.prog Gw 104 k_lz := by
  refine ⟨fun _ _ => by kernel_rfl, fun args M => ?_⟩
  unfold k_lz
  split
  · rename_i x
    exact fun B ρ w hG hM => ctr_ret (sv := .int .i64 (64 - (bl x : Int))) (args := [.u64 x]) (fun _ => rfl) (c_lz x w)
  · trivial
end Go.Proofs.Ytobednfbejcaeaa
