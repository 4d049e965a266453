/- KindsOwn answers true, whatever its arguments are, and its arguments read behind the call as they did. Conditions: none. -/
import Derived.Test.YtnbcemeofhaogaaWD
import Derived.Test.YtnbcemeofhaogaaSxF
import Derived.Test.YtnbcemeofhaogaaRows
import Derived.Lib.LaidTab
import Derived.LaidMore
import Derived.LaidLaws
import Derived.LaidHandle
import Derived.MakeChecks
import Derived.Stop.Joined
import Derived.ChangeSame
import Derived.ChangeVars
import Derived.JoinedOf
import Derived.ProofKit
import Derived.OpenShut
import Derived.ShutString
import Derived.SevenTiedAt
import Derived.Carry
namespace Go.Proofs.Ytnbcemeofhaogaa.kindsOwn
open Go.ChangeShapes Go.WideShapes Go.ChangeAt Go.RowKit Go.Sx
open Go.ChangeMaps (open_string shut_string)
set_option linter.unusedVariables false
set_option linter.unusedSimpArgs false
theorem own : ownKnob Try.prog.godebug = none := by kernel_rfl

set_option maxRecDepth 100000 in
theorem lifted (os : Os) (started : os.Started) (H : Type) (enc : TypeId × Value → H) :
    ReturnsInHanded {} Try.checked os 3 .any (Rows.kindsOwnSpec.pre6 enc Try.prog Try.f3 [] false) (Rows.kindsOwnSpec.post enc Try.prog Try.f3 false true false false) := by
  refine returnsInHanded_of_change (C := Try.checked) own started (by kernel_rfl) Try.func3
    (ChangeSpec.witness6 (enc := enc) (C := Try.checked) (os := os) false ⟨#[], #[.int .u8 0, .int .i64 0, .int .i64 0, .int .i64 0], []⟩ 8 (by kernel_rfl) (by kernel_rfl) (by kernel_rfl) (by kernel_rfl)) ?_
  intro W base args ds gs before hval0 hW _ _
  have hval : ∀ (j : Nat) t v, Try.f3.params[j]? = some t → args[j]? = some v → Value.okWide Try.prog W .any base t v := hval0
  have hW' := hW
  have hlt := DataW.Whole.lt hW
  obtain ⟨p, q, hA0, hV, rfl, hfz, hnd⟩ := hW
  have hA : DataW.TrodAll enc Try.prog W 0 (fun _ => true) true Try.f3.params.toList args.toList ds p := hA0
  rw [Try.params3] at hA hval
  obtain ⟨v0, vs0, d0, ds0, p0, q0, hargs, rfl, rfl, h0, r0⟩ := trodAll_cons hA
  obtain ⟨v1, vs1, d1, ds1, p1, q1, rfl, rfl, rfl, h1, r1⟩ := trodAll_cons r0
  obtain ⟨v2, vs2, d2, ds2, p2, q2, rfl, rfl, rfl, h2, r2⟩ := trodAll_cons r1
  obtain ⟨v3, vs3, d3, ds3, p3, q3, rfl, rfl, rfl, h3, r3⟩ := trodAll_cons r2
  obtain ⟨rfl, rfl, rfl⟩ := trodAll_nil r3
  obtain rfl : args = #[v0, v1, v2, v3] := by cases args; simp_all
  obtain ⟨rfl, rfl⟩ := trodVars_none hV
  clear hA0 hval0
  have g0 := h0
  obtain ⟨l0, rfl, a0_0, r0_0, hx0, n0_0, rfl⟩ := open_fk (.int .u8) (by kernel_rfl) (hval 0 22 v0 rfl rfl)
  obtain rfl : l0 = .int .u8 a0_0 := by simpa using hx0
  have g1 := h1
  obtain ⟨l1, rfl, a1_0, r1_0, hx1, n1_0, rfl⟩ := open_fk (.int .i64) (by kernel_rfl) (hval 1 3 v1 rfl rfl)
  obtain rfl : l1 = .int .i64 a1_0 := by simpa using hx1
  have g2 := h2
  obtain ⟨l2, rfl, a2_0, r2_0, hx2, n2_0, rfl⟩ := open_fk (.int .i64) (by kernel_rfl) (hval 2 3 v2 rfl rfl)
  obtain rfl : l2 = .int .i64 a2_0 := by simpa using hx2
  have g3 := h3
  obtain ⟨l3, rfl, a3_0, r3_0, hx3, n3_0, rfl⟩ := open_fk (.int .i64) (by kernel_rfl) (hval 3 3 v3 rfl rfl)
  obtain rfl : l3 = .int .i64 a3_0 := by simpa using hx3
  simp only [List.append_nil] at hW' hlt
  refine (w_flat_t k_kindsOwn_ok (args := [.int .u8 a0_0, .int .i64 a1_0, .int .i64 a2_0, .int .i64 a3_0]) rfl (by simp only [i64_has n1_0, i64_has n2_0, i64_has n3_0]; rfl) trivial).mono fun e W' ⟨he, g, hg⟩ => ?_
  subst he; subst hg
  exact ⟨_, rfl, _, _, _, [], _, [], hW', (trodAll_cons_mk (shut_bool Try.underlying4 _) trodAll_mk0), (trodAll_cons_mk (Below.trod (by kernel_rfl) (by kernel_rfl) (by decide +kernel) g0 (grow_below W g) (fun x hx => hlt x (by simp [hx]))) (trodAll_cons_mk (Below.trod (by kernel_rfl) (by kernel_rfl) (by decide +kernel) g1 (grow_below W g) (fun x hx => hlt x (by simp [hx]))) (trodAll_cons_mk (Below.trod (by kernel_rfl) (by kernel_rfl) (by decide +kernel) g2 (grow_below W g) (fun x hx => hlt x (by simp [hx]))) (trodAll_cons_mk (Below.trod (by kernel_rfl) (by kernel_rfl) (by decide +kernel) g3 (grow_below W g) (fun x hx => hlt x (by simp [hx]))) trodAll_mk0)))), rfl, (grow_below W g).frame _, fun h => by cases h⟩

theorem over : Rows.kindsOwnRow.holds Try.pinned (OpenSpec.ofChange Rows.kindsOwnSpec) :=
  OpenClaim.holds_of_wide 3 Try.f3 rfl rfl rfl rfl rfl rfl rfl ⟨rfl, rfl, rfl, rfl, rfl⟩ rfl rfl rfl rfl rfl (by kernel_rfl) Try.func3 (by kernel_rfl)
    (of_decide_eq_true (by kernel_rfl)) (by unfold Func.isWrapper; first | (rw [if_pos (by decide +kernel)]; kernel_rfl) | (rw [if_neg (by decide +kernel)]; exact ⟨rfl, rfl⟩))
    (fun os started H enc _ => lifted os started H enc)
/-- The statement. -/
theorem proved : Rows.KindsOwnSaid := over
#print axioms proved
end Go.Proofs.Ytnbcemeofhaogaa.kindsOwn
