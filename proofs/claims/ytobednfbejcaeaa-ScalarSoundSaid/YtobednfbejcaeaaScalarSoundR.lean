/- ScalarSound answers true, whatever its arguments are, and its arguments read behind the call as they did. Conditions: none. -/
import Derived.Test.YtobednfbejcaeaaXS
import Derived.Test.YtobednfbejcaeaaSxF
import Derived.Test.YtobednfbejcaeaaRows
import Derived.Lib.LaidTab
import Derived.LaidMore
import Derived.LaidLaws
import Derived.LaidHandle
import Derived.MakeChecks
import Derived.Stop.Joined
import Derived.ChangeSame
import Derived.ChangeVars
import Derived.JoinedOf
import Derived.ProofKit
import Derived.OpenShut
import Derived.ShutString
import Derived.SevenTiedAt
import Derived.Carry
namespace Go.Proofs.Ytobednfbejcaeaa.scalarSound
open Go.ChangeShapes Go.WideShapes Go.ChangeAt Go.RowKit Go.Sx
open Go.ChangeMaps (open_string shut_string)
set_option linter.unusedVariables false
set_option linter.unusedSimpArgs false
theorem own : ownKnob Try.prog.godebug = none := by kernel_rfl

set_option maxRecDepth 100000 in
theorem lifted (os : Os) (started : os.Started) (H : Type) (enc : TypeId × Value → H) :
    ReturnsInHanded {} Try.checked os 7 .any (Rows.scalarSoundSpec.pre6 enc Try.prog Try.f7 [] false) (Rows.scalarSoundSpec.post enc Try.prog Try.f7 false true false false) := by
  refine returnsInHanded_of_change (C := Try.checked) own started (by kernel_rfl) Try.func7
    (ChangeSpec.witness6 (enc := enc) (C := Try.checked) (os := os) false ⟨#[], #[.agg #[.int .u64 0, .int .u64 0], .agg #[.int .u64 0, .int .u64 0, .int .i64 0, .int .i64 0], .agg #[.int .u64 0, .int .u64 0, .int .u64 0, .int .u64 0, .int .i64 0, .int .i64 0], .agg #[.int .u64 0, .int .u64 0, .int .u64 0, .int .u64 0, .int .i64 0, .int .i64 0], .int .u64 0, .int .i64 0, .bool false], []⟩ 8 (by kernel_rfl) (by kernel_rfl) (by kernel_rfl) (by kernel_rfl)) ?_
  intro W base args ds gs before hval0 hW _ _
  have hval : ∀ (j : Nat) t v, Try.f7.params[j]? = some t → args[j]? = some v → Value.okWide Try.prog W .any base t v := hval0
  have hW' := hW
  have hlt := DataW.Whole.lt hW
  obtain ⟨p, q, hA0, hV, rfl, hfz, hnd⟩ := hW
  have hA : DataW.TrodAll enc Try.prog W 0 (fun _ => true) true Try.f7.params.toList args.toList ds p := hA0
  rw [Try.params7] at hA hval
  obtain ⟨v0, vs0, d0, ds0, p0, q0, hargs, rfl, rfl, h0, r0⟩ := trodAll_cons hA
  obtain ⟨v1, vs1, d1, ds1, p1, q1, rfl, rfl, rfl, h1, r1⟩ := trodAll_cons r0
  obtain ⟨v2, vs2, d2, ds2, p2, q2, rfl, rfl, rfl, h2, r2⟩ := trodAll_cons r1
  obtain ⟨v3, vs3, d3, ds3, p3, q3, rfl, rfl, rfl, h3, r3⟩ := trodAll_cons r2
  obtain ⟨v4, vs4, d4, ds4, p4, q4, rfl, rfl, rfl, h4, r4⟩ := trodAll_cons r3
  obtain ⟨v5, vs5, d5, ds5, p5, q5, rfl, rfl, rfl, h5, r5⟩ := trodAll_cons r4
  obtain ⟨v6, vs6, d6, ds6, p6, q6, rfl, rfl, rfl, h6, r6⟩ := trodAll_cons r5
  obtain ⟨rfl, rfl, rfl⟩ := trodAll_nil r6
  obtain rfl : args = #[v0, v1, v2, v3, v4, v5, v6] := by cases args; simp_all
  obtain ⟨rfl, rfl⟩ := trodVars_none hV
  clear hA0 hval0
  have g0 := h0
  obtain ⟨l0, rfl, a0_0, r0_0, rfl, a0_1, r0_1, rfl, rfl⟩ := open_flat [.u64, .u64] (by kernel_rfl) (hval 0 25 v0 rfl rfl)
  have g1 := h1
  obtain ⟨l1, rfl, a1_0, r1_0, rfl, a1_1, r1_1, rfl, a1_2, r1_2, rfl, n1_2, a1_3, r1_3, rfl, n1_3, rfl⟩ := open_flat [.u64, .u64, (.int .i64), (.int .i64)] (by kernel_rfl) (hval 1 27 v1 rfl rfl)
  have g2 := h2
  obtain ⟨l2, rfl, a2_0, r2_0, rfl, a2_1, r2_1, rfl, a2_2, r2_2, rfl, a2_3, r2_3, rfl, a2_4, r2_4, rfl, n2_4, a2_5, r2_5, rfl, n2_5, rfl⟩ := open_flat [.u64, .u64, .u64, .u64, (.int .i64), (.int .i64)] (by kernel_rfl) (hval 2 29 v2 rfl rfl)
  have g3 := h3
  obtain ⟨l3, rfl, a3_0, r3_0, rfl, a3_1, r3_1, rfl, a3_2, r3_2, rfl, a3_3, r3_3, rfl, a3_4, r3_4, rfl, n3_4, a3_5, r3_5, rfl, n3_5, rfl⟩ := open_flat [.u64, .u64, .u64, .u64, (.int .i64), (.int .i64)] (by kernel_rfl) (hval 3 29 v3 rfl rfl)
  have g4 := h4
  obtain ⟨l4, rfl, a4_0, r4_0, hx4, rfl⟩ := open_fk .u64 (by kernel_rfl) (hval 4 23 v4 rfl rfl)
  obtain rfl : l4 = .u64 a4_0 := by simpa using hx4
  have g5 := h5
  obtain ⟨l5, rfl, a5_0, r5_0, hx5, n5_0, rfl⟩ := open_fk (.int .i64) (by kernel_rfl) (hval 5 3 v5 rfl rfl)
  obtain rfl : l5 = .int .i64 a5_0 := by simpa using hx5
  have g6 := h6
  obtain ⟨l6, rfl, a6_0, r6_0, hx6, rfl⟩ := open_fk .bool (by kernel_rfl) (hval 6 4 v6 rfl rfl)
  obtain rfl : l6 = .bool a6_0 := by simpa using hx6
  simp only [List.append_nil] at hW' hlt
  refine (w_flat_t k_ScalarSound_ok (args := [.agg [.u64 a0_0, .u64 a0_1], .agg [.u64 a1_0, .u64 a1_1, .int .i64 a1_2, .int .i64 a1_3], .agg [.u64 a2_0, .u64 a2_1, .u64 a2_2, .u64 a2_3, .int .i64 a2_4, .int .i64 a2_5], .agg [.u64 a3_0, .u64 a3_1, .u64 a3_2, .u64 a3_3, .int .i64 a3_4, .int .i64 a3_5], .u64 a4_0, .int .i64 a5_0, .bool a6_0]) rfl (by simp only [R.inS, R.inI, i64_has n1_2, i64_has n1_3, i64_has n2_4, i64_has n2_5, i64_has n3_4, i64_has n3_5]; rfl) trivial).mono fun e W' ⟨he, g, hg⟩ => ?_
  subst he; subst hg
  exact ⟨_, rfl, _, _, _, [], _, [], hW', (trodAll_cons_mk (shut_bool Try.underlying4 _) trodAll_mk0), (trodAll_cons_mk (Below.trod (by kernel_rfl) (by kernel_rfl) (by decide +kernel) g0 (grow_below W g) (fun x hx => hlt x (by simp [hx]))) (trodAll_cons_mk (Below.trod (by kernel_rfl) (by kernel_rfl) (by decide +kernel) g1 (grow_below W g) (fun x hx => hlt x (by simp [hx]))) (trodAll_cons_mk (Below.trod (by kernel_rfl) (by kernel_rfl) (by decide +kernel) g2 (grow_below W g) (fun x hx => hlt x (by simp [hx]))) (trodAll_cons_mk (Below.trod (by kernel_rfl) (by kernel_rfl) (by decide +kernel) g3 (grow_below W g) (fun x hx => hlt x (by simp [hx]))) (trodAll_cons_mk (Below.trod (by kernel_rfl) (by kernel_rfl) (by decide +kernel) g4 (grow_below W g) (fun x hx => hlt x (by simp [hx]))) (trodAll_cons_mk (Below.trod (by kernel_rfl) (by kernel_rfl) (by decide +kernel) g5 (grow_below W g) (fun x hx => hlt x (by simp [hx]))) (trodAll_cons_mk (Below.trod (by kernel_rfl) (by kernel_rfl) (by decide +kernel) g6 (grow_below W g) (fun x hx => hlt x (by simp [hx]))) trodAll_mk0))))))), rfl, (grow_below W g).frame _, fun h => by cases h⟩

theorem over : Rows.scalarSoundRow.holds Try.pinned (OpenSpec.ofChange Rows.scalarSoundSpec) :=
  OpenClaim.holds_of_wide 7 Try.f7 rfl rfl rfl rfl rfl rfl rfl ⟨rfl, rfl, rfl, rfl, rfl⟩ rfl rfl rfl rfl rfl (by kernel_rfl) Try.func7 (by kernel_rfl)
    (of_decide_eq_true (by kernel_rfl)) (by unfold Func.isWrapper; first | (rw [if_pos (by decide +kernel)]; kernel_rfl) | (rw [if_neg (by decide +kernel)]; exact ⟨rfl, rfl⟩))
    (fun os started H enc _ => lifted os started H enc)
/-- The statement. -/
theorem proved : Rows.ScalarSoundSaid := over
#print axioms proved
end Go.Proofs.Ytobednfbejcaeaa.scalarSound
