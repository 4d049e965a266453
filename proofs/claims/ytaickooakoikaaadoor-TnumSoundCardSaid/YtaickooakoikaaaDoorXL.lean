import Derived.Test.YtaickooakoikaaaDoorShelf
import Derived.Test.YtaickooakoikaaaDoorX0
namespace Go.Proofs.YtaickooakoikaaaDoor
open Go.RowKit Go.Sx
set_option linter.unusedSimpArgs false
set_option linter.unusedVariables false
set_option linter.unnecessarySimpa false
set_option maxRecDepth 100000
set_option maxHeartbeats 4000000
set_option maxHeartbeats 1000000 in
theorem tz_core (x : BitVec 64) (k idx : Nat) (w : World) (hx0 : (x == 0#64) = false)
    (key : uv (((x &&& -x) * 285870213051353865#64) >>> 58) = (idx : Int))
    (hi : idx < 64) (hk : k < 64) (hcell : w.cell? ⟨0, idx, none⟩ = some (.int .u8 k)) :
    Calls Tryd.prog 62 #[.int .u64 (uv x)] w fun e w' => e = .returned (.int .i64 k) ∧ w' = w := by
  have H := Lib.hid key; clear key
  go_enter Tryd.func62, Tryd.ntmps62
  go_wp2_with (simp only [H.out])
  go_ret
  exact ⟨rfl, rfl⟩
theorem tz_key (x : BitVec 64) (h : x ≠ 0#64) : uv (((x &&& -x) * 285870213051353865#64) >>> 58) = ((2 ^ Lib.ctz 64 x.toNat * 285870213051353865 % 18446744073709551616 / 288230376151711744 : Nat) : Int) := by
  have hx0 : x.toNat ≠ 0 := fun e => h (BitVec.eq_of_toNat_eq (by simpa using e))
  obtain ⟨hlow, _⟩ := Lib.lowest_bit 64 x.toNat hx0 x.isLt
  unfold uv; congr 1
  rw [BitVec.toNat_ushiftRight, BitVec.toNat_mul, BitVec.toNat_and, BitVec.toNat_neg, Nat.mod_eq_of_lt (show 2 ^ 64 - x.toNat < 2 ^ 64 by omega), hlow, Nat.shiftRight_eq_div_pow]
  rfl
theorem tz_zero (w : World) : Calls Tryd.prog 62 #[.int .u64 0] w fun e w' => e = .returned (.int .i64 64) ∧ w' = w := by
  go_enter Tryd.func62, Tryd.ntmps62
  go_wp2
  go_ret
  exact ⟨rfl, rfl⟩
theorem c_tz (x : BitVec 64) (w : World) (hT : Tab w) : Calls Tryd.prog 62 #[.int .u64 (uv x)] w (Ret w (.int .i64 (tz x : Nat))) := by
  by_cases h : x = 0#64
  · subst h
    exact (tz_zero w).mono fun e w' ⟨he, hw⟩ => ⟨he, grow_mk (hw ▸ up_refl w)⟩
  · have hx0 : x.toNat ≠ 0 := fun e => h (BitVec.eq_of_toNat_eq (by simpa using e))
    obtain ⟨_, hk⟩ := Lib.lowest_bit 64 x.toNat hx0 x.isLt
    obtain ⟨hi, htab⟩ := Lib.deBruijn64_at _ hk
    have hcell := hT _ hi
    rw [htab] at hcell
    exact (tz_core x _ _ w (by simpa using h) (tz_key x h) hi hk hcell).mono fun e w' ⟨he, hw⟩ => ⟨he, grow_mk (hw ▸ up_refl w)⟩
theorem c_lz (x : BitVec 64) (w : World) : Calls Tryd.prog 49 #[.int .u64 (uv x)] w (Ret w (.int .i64 (64 - (bl x : Int)))) :=
  (Tryd.bits_LeadingZeros64 (uv x) w (uv_nonneg x) (by have := uv_lt x; omega)).mono fun e w' ⟨he, hw⟩ => ⟨he, grow_mk (hw ▸ up_refl w)⟩
def k_lz : List SV → List Blk → Res := fun args _ => match args with
  | [.u64 x] => .ok (.int .i64 (64 - (bl x : Int))) []
  | _ => .fail
theorem k_lz_ok : CtrOk Tryd.prog Gw 49 k_lz := by
  refine ⟨fun _ _ => by kernel_rfl, fun args M => ?_⟩
  unfold k_lz
  split
  · rename_i x
    exact fun B ρ w hG hM => ctr_ret (sv := .int .i64 (64 - (bl x : Int))) (args := [.u64 x]) (fun _ => rfl) (c_lz x w)
  · trivial
def k_tz : List SV → List Blk → Res := fun args _ => match args with
  | [.u64 x] => .ok (.int .i64 (tz x : Nat)) []
  | _ => .fail
theorem k_tz_ok : CtrOk Tryd.prog Gw 62 k_tz := by
  refine ⟨fun _ _ => by kernel_rfl, fun args M => ?_⟩
  unfold k_tz
  split
  · rename_i x
    exact fun B ρ w hG hM => ctr_ret (sv := .int .i64 (tz x : Nat)) (args := [.u64 x]) (fun _ => rfl) (c_tz x w hG)
  · trivial
end Go.Proofs.YtaickooakoikaaaDoor
