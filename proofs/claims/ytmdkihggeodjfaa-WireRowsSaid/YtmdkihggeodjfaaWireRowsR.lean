/- WireRows answers true, whatever its arguments are, and its arguments read behind the call as they did. Conditions: none. -/
import Derived.Test.YtmdkihggeodjfaaXY
import Derived.Test.YtmdkihggeodjfaaRows
import Derived.Lib.LaidTab
import Derived.LaidMore
import Derived.LaidLaws
import Derived.LaidHandle
import Derived.MakeChecks
import Derived.Stop.Joined
import Derived.ChangeSame
import Derived.ChangeVars
import Derived.JoinedOf
import Derived.ProofKit
import Derived.OpenShut
import Derived.ShutString
import Derived.SevenTiedAt
import Derived.Carry
namespace Go.Proofs.Ytmdkihggeodjfaa.wireRows
open Go.ChangeShapes Go.WideShapes Go.ChangeAt Go.RowKit Go.Sx
open Go.ChangeMaps (open_string shut_string)
set_option linter.unusedVariables false
set_option linter.unusedSimpArgs false
theorem own : ownKnob Try.prog.godebug = none := by kernel_rfl
theorem treeTy : TreeTy Try.prog 28 22 24 5 :=
  ⟨⟨_, _, _, _, Try.underlying28, ⟨rfl, rfl, rfl, rfl⟩, ⟨by kernel_rfl, by kernel_rfl, by kernel_rfl, by kernel_rfl⟩, by kernel_rfl, by kernel_rfl, rfl, rfl⟩, by kernel_rfl, by kernel_rfl, by kernel_rfl, by kernel_rfl, by kernel_rfl, by decide +kernel, by decide +kernel⟩

set_option maxRecDepth 100000 in
theorem lifted (os : Os) (started : os.Started) (H : Type) (enc : TypeId × Value → H) :
    ReturnsInHanded {} Try.checked os 3 .any (Rows.wireRowsSpec.pre6 enc Try.prog Try.f3 [] false) (Rows.wireRowsSpec.post enc Try.prog Try.f3 false true false false) := by
  refine returns_sized (C := Try.checked) own started (by kernel_rfl) Try.func3
    (ChangeSpec.witness6 (enc := enc) (C := Try.checked) (os := os) false ⟨#[], #[.slice none 0 0, .int .i64 0], []⟩ 8 (by kernel_rfl) (by kernel_rfl) (by kernel_rfl) (by kernel_rfl)) ?_
  intro W base args ds gs before hval0 hW hsz
  have hval : ∀ (j : Nat) t v, Try.f3.params[j]? = some t → args[j]? = some v → Value.okWide Try.prog W .any base t v := hval0
  have hW' := hW
  have hlt := DataW.Whole.lt hW
  obtain ⟨p, q, hA0, hV, rfl, hfz, hnd⟩ := hW
  have hA : DataW.TrodAll enc Try.prog W 0 (fun _ => true) true Try.f3.params.toList args.toList ds p := hA0
  rw [Try.params3] at hA hval
  obtain ⟨v0, vs0, d0, ds0, p0, q0, hargs, rfl, rfl, h0, r0⟩ := trodAll_cons hA
  obtain ⟨v1, vs1, d1, ds1, p1, q1, rfl, rfl, rfl, h1, r1⟩ := trodAll_cons r0
  obtain ⟨rfl, rfl, rfl⟩ := trodAll_nil r1
  obtain rfl : args = #[v0, v1] := by cases args; simp_all
  obtain ⟨rfl, rfl⟩ := trodVars_none hV
  clear hA0 hval0
  have g0 := h0
  have hw0 : ∀ q ∈ d0.weights Try.prog 22, q ≤ reachBytes := fun q hq => hsz q (by
    show q ∈ DataW.weightsEach Try.prog (Try.f3.params.toList ++ _) _
    rw [Try.params3]
    show q ∈ d0.weights Try.prog 22 ++ _
    exact List.mem_append_left _ hq)
  obtain ⟨ρ, L, rfl, hf, hwd, hM⟩ := open_trees treeTy (slice_cells treeTy.uS (hval 0 22 v0 rfl rfl)) h0
  obtain ⟨hlen, hwide⟩ := hwd hw0
  have g1 := h1
  obtain ⟨l1, rfl, a1_0, r1_0, hx1, n1_0, rfl⟩ := open_fk (.int .i64) (by kernel_rfl) (hval 1 3 v1 rfl rfl)
  obtain rfl : l1 = .int .i64 a1_0 := by simpa using hx1
  simp only [List.append_nil] at hW' hlt
  have ht : -9223372036854775808 ≤ a1_0 ∧ a1_0 ≤ 9223372036854775807 := ⟨n1_0.1, n1_0.2⟩
  refine (rows_calls ρ L a1_0 ht hf hwide hlen hM).mono fun e W' ⟨he, g, hg⟩ => ?_
  subst he; subst hg
  exact ⟨_, rfl, _, _, _, [], _, [], hW', (trodAll_cons_mk (shut_bool Try.underlying4 _) trodAll_mk0), (trodAll_cons_mk (Below.trod (by kernel_rfl) (by kernel_rfl) (by decide +kernel) g0 (grow_below W g) (fun x hx => hlt x (by simp [hx]))) (trodAll_cons_mk (Below.trod (by kernel_rfl) (by kernel_rfl) (by decide +kernel) g1 (grow_below W g) (fun x hx => hlt x (by simp [hx]))) trodAll_mk0)), rfl, (grow_below W g).frame _, fun h => by cases h⟩

theorem over : Rows.wireRowsRow.holds Try.pinned (OpenSpec.ofChange Rows.wireRowsSpec) :=
  OpenClaim.holds_of_wide 3 Try.f3 rfl rfl rfl rfl rfl rfl rfl ⟨rfl, rfl, rfl, rfl, rfl⟩ rfl rfl rfl rfl rfl (by kernel_rfl) Try.func3 (by kernel_rfl)
    (of_decide_eq_true (by kernel_rfl)) (by unfold Func.isWrapper; first | (rw [if_pos (by decide +kernel)]; kernel_rfl) | (rw [if_neg (by decide +kernel)]; exact ⟨rfl, rfl⟩))
    (fun os started H enc _ => lifted os started H enc)
/-- The statement. -/
theorem proved : Rows.WireRowsSaid := over
#print axioms proved
end Go.Proofs.Ytmdkihggeodjfaa.wireRows
