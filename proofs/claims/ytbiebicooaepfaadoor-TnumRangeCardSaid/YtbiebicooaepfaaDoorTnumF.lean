import Derived.Test.YtbiebicooaepfaaDoorTnumE
import Derived.Test.YtbiebicooaepfaaDoorTnumP
import Derived.Test.YtbiebicooaepfaaDoorTnumRP
namespace Go.Proofs.YtbiebicooaepfaaDoor
open Go.RowKit
set_option linter.unusedSimpArgs false
set_option linter.unusedVariables false

/-- A Bool that the walk does not look into. -/
@[irreducible] def bx (b : Bool) : Bool := b
theorem bx_def (b : Bool) : bx b = b := by unfold bx; rfl
@[go_sem high] theorem pick_and' (p : Prop) [Decidable p] (q : Bool) (h : q = true ↔ p) (c : Bool) : (if p then gv q (Value.bool c) else Value.bool false) = Value.bool (bx (q && c)) := by rw [bx_def]; exact pick_and p q h c
@[go_sem high] theorem pick_or' (p : Prop) [Decidable p] (q : Bool) (h : q = true ↔ ¬ p) (c : Bool) : (if p then Value.bool true else gv q (Value.bool c)) = Value.bool (bx (!q || c)) := by rw [bx_def]; exact pick_or p q h c
@[go_sem] theorem ite_okbool (p : Prop) [Decidable p] (b c : Bool) (w : World) : (if p then Result.ok (Next.value (Value.bool b)) w else Result.ok (Next.value (Value.bool c)) w) = Result.ok (Next.value (Value.bool (bx (if p then b else c)))) w := by rw [bx_def]; split <;> rfl
theorem c_Leq_t (av am bv bm : BitVec 64) (w : World) (h : T.leq ⟨av, am⟩ ⟨bv, bm⟩ = true) : Calls Tryd.prog 19 #[.agg #[.int .u64 (uv av), .int .u64 (uv am)], .agg #[.int .u64 (uv bv), .int .u64 (uv bm)]] w (Ret w (.bool true)) := h ▸ c_Leq av am bv bm w
theorem c_Leq_f (av am bv bm : BitVec 64) (w : World) (h : T.leq ⟨av, am⟩ ⟨bv, bm⟩ = false) : Calls Tryd.prog 19 #[.agg #[.int .u64 (uv av), .int .u64 (uv am)], .agg #[.int .u64 (uv bv), .int .u64 (uv bm)]] w (Ret w (.bool false)) := h ▸ c_Leq av am bv bm w
theorem c_Has_t (av am n : BitVec 64) (w : World) (h : T.has ⟨av, am⟩ n = true) : Calls Tryd.prog 17 #[.agg #[.int .u64 (uv av), .int .u64 (uv am)], .int .u64 (uv n)] w (Ret w (.bool true)) := h ▸ c_Has av am n w
end Go.Proofs.YtbiebicooaepfaaDoor
