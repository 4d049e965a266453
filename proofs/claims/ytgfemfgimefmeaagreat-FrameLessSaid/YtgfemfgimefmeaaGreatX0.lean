import Derived.Test.YtgfemfgimefmeaaGreatSxC
import Derived.Test.YtgfemfgimefmeaaGreatScalL
import Derived.Test.YtgfemfgimefmeaaGreatShelf
import Derived.Test.YtgfemfgimefmeaaGreatSxS
namespace Go.Proofs.YtgfemfgimefmeaaGreat
open Go.RowKit Go.Sx
set_option linter.unusedSimpArgs false
set_option linter.unusedVariables false
set_option linter.unnecessarySimpa false
set_option maxRecDepth 100000
set_option maxHeartbeats 4000000
/-- What is asked of the program's variables: nothing. -/
def Gw (_ : World) : Prop := True
theorem st_Gw : Stable Gw := fun _ _ _ _ => trivial
@[reducible] def tsv (t : Tn) : SV := .agg [.u64 t.v, .u64 t.m]
/-- The structs that are compared. -/
def eqs : List (TypeId × List CK) := [(29, [.int, .int, .int, .int, .int, .int]), (31, [.int, .int, .int, .int, .int, .int, .int, .int, .int, .int, .int, .bool]), (126, [.int, .int, .int])]
theorem eqs_ok : ∀ p ∈ eqs, EqOk Tryz.prog p.1 p.2 := by
  have h : (eqs.all fun p => eqB Tryz.prog p.1 p.2) = true := by kernel_rfl
  exact fun p hp => eqB_ok (List.all_eq_true.1 h p hp)
theorem mixed : Tryz.prog.follows .mixedOrders = true := by kernel_rfl
theorem c_lz (x : BitVec 64) (w : World) : Calls Tryz.prog 186 #[.int .u64 (uv x)] w (Ret w (.int .i64 (64 - (bl x : Int)))) :=
  (Tryz.bits_LeadingZeros64 (uv x) w (uv_nonneg x) (by have := uv_lt x; omega)).mono fun e w' ⟨he, hw⟩ => ⟨he, grow_mk (hw ▸ up_refl w)⟩
/-- Types with arrays: zero frames. -/
def mixs : List (TypeId × List SV) := [(37, [.arr 11 12 (fun _ => [.int .u8 0, .u64 (BitVec.ofInt 64 0), .u64 (BitVec.ofInt 64 0), .u64 (BitVec.ofInt 64 0), .u64 (BitVec.ofInt 64 0), .int .i64 0, .int .i64 0, .int .i64 0, .int .i64 0, .int .i64 0, .int .i64 0, .bool false]), .arr 64 14 (fun _ => .bool false :: .int .u8 0 :: [.int .u8 0, .u64 (BitVec.ofInt 64 0), .u64 (BitVec.ofInt 64 0), .u64 (BitVec.ofInt 64 0), .u64 (BitVec.ofInt 64 0), .int .i64 0, .int .i64 0, .int .i64 0, .int .i64 0, .int .i64 0, .int .i64 0, .bool false]), .int .i64 0])]
theorem mixs_ok : ∀ p ∈ mixs, MixOk Tryz.prog p.1 p.2 := by
  intro p hp
  simp only [mixs, List.mem_singleton] at hp
  subst hp
  obtain ⟨it, hi, v, hv, hc⟩ : ∃ it, Tryz.prog.info? 37 = some it ∧ ∃ v, it.zero = some v ∧ v.cells = (mixL [.arr 11 12 (fun _ => [.int .u8 0, .u64 (BitVec.ofInt 64 0), .u64 (BitVec.ofInt 64 0), .u64 (BitVec.ofInt 64 0), .u64 (BitVec.ofInt 64 0), .int .i64 0, .int .i64 0, .int .i64 0, .int .i64 0, .int .i64 0, .int .i64 0, .bool false]), .arr 64 14 (fun _ => .bool false :: .int .u8 0 :: [.int .u8 0, .u64 (BitVec.ofInt 64 0), .u64 (BitVec.ofInt 64 0), .u64 (BitVec.ofInt 64 0), .u64 (BitVec.ofInt 64 0), .int .i64 0, .int .i64 0, .int .i64 0, .int .i64 0, .int .i64 0, .int .i64 0, .bool false]), .int .i64 0] [.bool false, .bool false, .int .i64 0]).toArray := ⟨_, rfl, _, rfl, by kernel_rfl⟩
  exact ⟨⟨it, v, hi, hv, fun ρ => hc⟩, rfl⟩
def meqs : List (TypeId × List (Nat × List CK)) := [(37, [(11, [.int, .int, .int, .int, .int, .int, .int, .int, .int, .int, .int, .bool]), (64, [.bool, .int, .int, .int, .int, .int, .int, .int, .int, .int, .int, .int, .int, .bool]), (1, [.int])])]
theorem meqs_ok : ∀ p ∈ meqs, EqOk Tryz.prog p.1 (runsF p.2) := by
  intro p hp
  simp only [meqs, List.mem_singleton] at hp
  subst hp
  exact eqB_ok (by kernel_rfl)
def k_lz : List SV → List Blk → Res := fun args _ => match args with
  | [.u64 x] => .ok (.int .i64 (64 - (bl x : Int))) []
  | _ => .fail
theorem k_lz_ok : CtrOk Tryz.prog Gw 186 k_lz := by
  refine ⟨fun _ _ => by kernel_rfl, fun args M => ?_⟩
  unfold k_lz
  split
  · rename_i x
    exact fun B ρ w hG hM => ctr_ret hM (sv := .int .i64 (64 - (bl x : Int))) (args := [.u64 x]) (fun _ => rfl) (c_lz x w)
  · trivial
end Go.Proofs.YtgfemfgimefmeaaGreat
