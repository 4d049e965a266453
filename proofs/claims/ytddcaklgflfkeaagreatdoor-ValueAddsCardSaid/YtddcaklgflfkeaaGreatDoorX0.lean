import Derived.Test.YtddcaklgflfkeaaGreatDoorScalT
import Derived.Test.YtddcaklgflfkeaaGreatDoorShelf
import Derived.Test.YtddcaklgflfkeaaGreatDoorSxS
namespace Go.Proofs.YtddcaklgflfkeaaGreatDoor
open Go.RowKit Go.Sx
set_option linter.unusedSimpArgs false
set_option linter.unusedVariables false
set_option linter.unnecessarySimpa false
set_option maxRecDepth 100000
set_option maxHeartbeats 4000000
/-- The table of math/bits. -/
def Tab (w : World) : Prop := ∀ j, j < 64 → w.cell? ⟨0, j, none⟩ = some (.int .u8 (Lib.deBruijn64tab.getD j 0 : Nat))
/-- What is asked of the program's variables. -/
def Gw (w : World) : Prop := Tab w
theorem st_Gw : Stable Gw := by
  intro w w' h hb
  unfold Gw at *
  intro j hj
  have := h j hj
  rw [hb.cell (World.block_lt_of_cell? w _ this)]; exact this
@[reducible] def tsv (t : Tn) : SV := .agg [.u64 t.v, .u64 t.m]
/-- The structs that are compared. -/
def eqs : List (TypeId × List CK) := [(29, [.int, .int, .int, .int, .int, .int]), (31, [.int, .int, .int, .int, .int, .int, .int, .int, .int, .int, .int, .bool]), (146, [.int, .int])]
theorem eqs_ok : ∀ p ∈ eqs, EqOk Tryz.prog p.1 p.2 := by
  have h : (eqs.all fun p => eqB Tryz.prog p.1 p.2) = true := by kernel_rfl
  exact fun p hp => eqB_ok (List.all_eq_true.1 h p hp)
theorem mixed : Tryz.prog.follows .mixedOrders = true := by kernel_rfl
namespace S
theorem mul_hi (x y : BitVec 64) : ((x.toNat * y.toNat / 18446744073709551616 : Nat) : Int) = uv (high x y) := by
  have h : x.toNat * y.toNat / 18446744073709551616 < 18446744073709551616 := by
    apply Nat.div_lt_of_lt_mul
    exact Nat.mul_lt_mul'' x.isLt y.isLt
  unfold uv high; rw [BitVec.toNat_ofNat, Nat.mod_eq_of_lt h]
theorem mul_lo (x y : BitVec 64) : ((x.toNat * y.toNat % 18446744073709551616 : Nat) : Int) = uv (x * y) := by
  unfold uv; rw [BitVec.toNat_mul]
end S
theorem c_Len64 (x : BitVec 64) (w : World) : Calls Tryz.prog 213 #[.int .u64 (uv x)] w (Ret w (.int .i64 (bl x : Nat))) :=
  (Tryz.bits_Len64 (uv x) w (uv_nonneg x) (by have := uv_lt x; omega)).mono fun e w' ⟨he, hw⟩ => ⟨he, grow_mk (hw ▸ up_refl w)⟩
theorem c_Mul64 (x y : BitVec 64) (w : World) : Calls Tryz.prog 280 #[.int .u64 (uv x), .int .u64 (uv y)] w (Ret w (.tuple #[.int .u64 (uv (S.high x y)), .int .u64 (uv (x * y))])) :=
  (Tryz.bits_Mul64 x.toNat y.toNat x.isLt y.isLt w).mono fun e w' ⟨he, hw⟩ => ⟨by rw [he, S.mul_hi, S.mul_lo], grow_mk (hw ▸ up_refl w)⟩
def k_len64 : List SV → List Blk → Res := fun args _ => match args with
  | [.u64 x] => .ok (.int .i64 (bl x : Nat)) []
  | _ => .fail
theorem k_len64_ok : CtrOk Tryz.prog Gw 213 k_len64 := by
  refine ⟨fun _ _ => by kernel_rfl, fun args M => ?_⟩
  unfold k_len64
  split
  · rename_i x
    exact fun B ρ w hG hM => ctr_ret hM (sv := .int .i64 (bl x : Nat)) (args := [.u64 x]) (fun _ => rfl) (c_Len64 x w)
  · trivial
def k_mul64 : List SV → List Blk → Res := fun args _ => match args with
  | [.u64 x, .u64 y] => .ok (.tup [.u64 (S.high x y), .u64 (x * y)]) []
  | _ => .fail
theorem k_mul64_ok : CtrOk Tryz.prog Gw 280 k_mul64 := by
  refine ⟨fun _ _ => by kernel_rfl, fun args M => ?_⟩
  unfold k_mul64
  split
  · rename_i x y
    exact fun B ρ w hG hM => ctr_ret hM (sv := .tup [.u64 (S.high x y), .u64 (x * y)]) (args := [.u64 x, .u64 y]) (fun _ => rfl) (c_Mul64 x y w)
  · trivial
end Go.Proofs.YtddcaklgflfkeaaGreatDoor
