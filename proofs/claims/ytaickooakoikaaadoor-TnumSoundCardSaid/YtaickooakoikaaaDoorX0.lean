import Derived.Test.YtaickooakoikaaaDoorTnumS
import Derived.Test.YtaickooakoikaaaDoorSxS
namespace Go.Proofs.YtaickooakoikaaaDoor
open Go.RowKit Go.Sx
set_option linter.unusedSimpArgs false
set_option linter.unusedVariables false
set_option linter.unnecessarySimpa false
set_option maxRecDepth 100000
set_option maxHeartbeats 4000000
/-- The table of math/bits. -/
def Tab (w : World) : Prop := ∀ j, j < 64 → w.cell? ⟨0, j, none⟩ = some (.int .u8 (Lib.deBruijn64tab.getD j 0 : Nat))
/-- What is asked of the program's variables. -/
def Gw (w : World) : Prop := Tab w
theorem st_Gw : Stable Gw := by
  intro w w' h hb
  unfold Gw at *
  intro j hj
  have := h j hj
  rw [hb.cell (World.block_lt_of_cell? w _ this)]; exact this
@[reducible] def tsv (t : Tn) : SV := .agg [.u64 t.v, .u64 t.m]
/-- The structs that are compared. -/
def eqs : List (TypeId × List CK) := [(26, [.int, .int]), (85, [.int, .int])]
theorem eqs_ok : ∀ p ∈ eqs, EqOk Tryd.prog p.1 p.2 := by
  have h : (eqs.all fun p => eqB Tryd.prog p.1 p.2) = true := by kernel_rfl
  exact fun p hp => eqB_ok (List.all_eq_true.1 h p hp)
theorem mixed : Tryd.prog.follows .mixedOrders = true := by kernel_rfl
end Go.Proofs.YtaickooakoikaaaDoor
