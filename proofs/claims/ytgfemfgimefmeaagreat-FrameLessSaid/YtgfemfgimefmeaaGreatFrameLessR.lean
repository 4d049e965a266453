/- FrameLess answers true, whatever its arguments are, and its arguments read behind the call as they did. Conditions: none. -/
import Derived.Test.YtgfemfgimefmeaaGreatXL3
import Derived.Test.YtgfemfgimefmeaaGreatSxF
import Derived.Test.YtgfemfgimefmeaaGreatRows
import Derived.Lib.LaidTab
import Derived.LaidMore
import Derived.LaidLaws
import Derived.LaidHandle
import Derived.MakeChecks
import Derived.Stop.Joined
import Derived.ChangeSame
import Derived.ChangeVars
import Derived.JoinedOf
import Derived.ProofKit
import Derived.OpenShut
import Derived.ShutString
import Derived.SevenTiedAt
import Derived.Carry
namespace Go.Proofs.YtgfemfgimefmeaaGreat.frameLess
open Go.ChangeShapes Go.WideShapes Go.ChangeAt Go.RowKit Go.Sx
open Go.ChangeMaps (open_string shut_string)
set_option linter.unusedVariables false
set_option linter.unusedSimpArgs false
theorem own : ownKnob Tryz.prog.godebug = none := by kernel_rfl

set_option maxRecDepth 100000 in
theorem lifted (os : Os) (started : os.Started) (H : Type) (enc : TypeId × Value → H) :
    ReturnsInHanded {} Tryz.checked os 5 .any (Rows.frameLessSpec.pre6 enc Tryz.prog Tryz.f5 [] false) (Rows.frameLessSpec.post enc Tryz.prog Tryz.f5 false true false false) := by
  refine returnsInHanded_of_change (C := Tryz.checked) own started (by kernel_rfl) Tryz.func5
    (witness6w (enc := enc) (C := Tryz.checked) (os := os) false ⟨#[], #[zeroFr, zeroFr, .int .i64 0, .int .i64 0, .bool false, .int .i64 0, .int .i64 0, .bool false], []⟩ 8 (by kernel_rfl) (by kernel_rfl) (fun base => ⟨fun o h => by simp at h, fun o h => by simp at h, by kernel_rfl, _, Tryz.func5, by kernel_rfl, by kernel_rfl, by kernel_rfl, by kernel_rfl, fun j t v ht hv => by
      rw [Tryz.params5] at ht
      match j, ht, hv with
      | 0, ht, hv =>
        obtain rfl := Option.some.inj ht
        obtain rfl := Option.some.inj hv
        exact wit_fr
      | 1, ht, hv =>
        obtain rfl := Option.some.inj ht
        obtain rfl := Option.some.inj hv
        exact wit_fr
      | 2, ht, hv =>
        obtain rfl := Option.some.inj ht
        obtain rfl := Option.some.inj hv
        exact Value.okWide_of_okWideB (by kernel_rfl)
      | 3, ht, hv =>
        obtain rfl := Option.some.inj ht
        obtain rfl := Option.some.inj hv
        exact Value.okWide_of_okWideB (by kernel_rfl)
      | 4, ht, hv =>
        obtain rfl := Option.some.inj ht
        obtain rfl := Option.some.inj hv
        exact Value.okWide_of_okWideB (by kernel_rfl)
      | 5, ht, hv =>
        obtain rfl := Option.some.inj ht
        obtain rfl := Option.some.inj hv
        exact Value.okWide_of_okWideB (by kernel_rfl)
      | 6, ht, hv =>
        obtain rfl := Option.some.inj ht
        obtain rfl := Option.some.inj hv
        exact Value.okWide_of_okWideB (by kernel_rfl)
      | 7, ht, hv =>
        obtain rfl := Option.some.inj ht
        obtain rfl := Option.some.inj hv
        exact Value.okWide_of_okWideB (by kernel_rfl)
      | n + 8, ht, _ => simp at ht⟩) (by kernel_rfl) (by kernel_rfl)) ?_
  intro W base args ds gs before hval0 hW _ _
  have hval : ∀ (j : Nat) t v, Tryz.f5.params[j]? = some t → args[j]? = some v → Value.okWide Tryz.prog W .any base t v := hval0
  have hW' := hW
  have hlt := DataW.Whole.lt hW
  obtain ⟨p, q, hA0, hV, rfl, hfz, hnd⟩ := hW
  have hA : DataW.TrodAll enc Tryz.prog W 0 (fun _ => true) true Tryz.f5.params.toList args.toList ds p := hA0
  rw [Tryz.params5] at hA hval
  obtain ⟨v0, vs0, d0, ds0, p0, q0, hargs, rfl, rfl, h0, r0⟩ := trodAll_cons hA
  obtain ⟨v1, vs1, d1, ds1, p1, q1, rfl, rfl, rfl, h1, r1⟩ := trodAll_cons r0
  obtain ⟨v2, vs2, d2, ds2, p2, q2, rfl, rfl, rfl, h2, r2⟩ := trodAll_cons r1
  obtain ⟨v3, vs3, d3, ds3, p3, q3, rfl, rfl, rfl, h3, r3⟩ := trodAll_cons r2
  obtain ⟨v4, vs4, d4, ds4, p4, q4, rfl, rfl, rfl, h4, r4⟩ := trodAll_cons r3
  obtain ⟨v5, vs5, d5, ds5, p5, q5, rfl, rfl, rfl, h5, r5⟩ := trodAll_cons r4
  obtain ⟨v6, vs6, d6, ds6, p6, q6, rfl, rfl, rfl, h6, r6⟩ := trodAll_cons r5
  obtain ⟨v7, vs7, d7, ds7, p7, q7, rfl, rfl, rfl, h7, r7⟩ := trodAll_cons r6
  obtain ⟨rfl, rfl, rfl⟩ := trodAll_nil r7
  obtain rfl : args = #[v0, v1, v2, v3, v4, v5, v6, v7] := by cases args; simp_all
  obtain ⟨rfl, rfl⟩ := trodVars_none hV
  clear hA0 hval0
  have g0 := h0
  obtain ⟨f0, hf0, rfl⟩ := open_frame (hval 0 37 v0 rfl rfl)
  have g1 := h1
  obtain ⟨f1, hf1, rfl⟩ := open_frame (hval 1 37 v1 rfl rfl)
  have g2 := h2
  obtain ⟨l2, rfl, a2_0, r2_0, hx2, n2_0, rfl⟩ := open_fk (.int .i64) (by kernel_rfl) (hval 2 2 v2 rfl rfl)
  obtain rfl : l2 = .int .i64 a2_0 := by simpa using hx2
  have g3 := h3
  obtain ⟨l3, rfl, a3_0, r3_0, hx3, n3_0, rfl⟩ := open_fk (.int .i64) (by kernel_rfl) (hval 3 3 v3 rfl rfl)
  obtain rfl : l3 = .int .i64 a3_0 := by simpa using hx3
  have g4 := h4
  obtain ⟨l4, rfl, a4_0, r4_0, hx4, rfl⟩ := open_fk .bool (by kernel_rfl) (hval 4 4 v4 rfl rfl)
  obtain rfl : l4 = .bool a4_0 := by simpa using hx4
  have g5 := h5
  obtain ⟨l5, rfl, a5_0, r5_0, hx5, n5_0, rfl⟩ := open_fk (.int .i64) (by kernel_rfl) (hval 5 3 v5 rfl rfl)
  obtain rfl : l5 = .int .i64 a5_0 := by simpa using hx5
  have g6 := h6
  obtain ⟨l6, rfl, a6_0, r6_0, hx6, n6_0, rfl⟩ := open_fk (.int .i64) (by kernel_rfl) (hval 6 3 v6 rfl rfl)
  obtain rfl : l6 = .int .i64 a6_0 := by simpa using hx6
  have g7 := h7
  obtain ⟨l7, rfl, a7_0, r7_0, hx7, rfl⟩ := open_fk .bool (by kernel_rfl) (hval 7 4 v7 rfl rfl)
  obtain rfl : l7 = .bool a7_0 := by simpa using hx7
  simp only [List.append_nil] at hW' hlt
  refine (w_flat_t k_FrameLess_ok (args := [frv f0, frv f1, .int .i64 a2_0, .int .i64 a3_0, .bool a4_0, .int .i64 a5_0, .int .i64 a6_0, .bool a7_0]) rfl (by rw [frB_of hf0, frB_of hf1]; rfl) trivial).mono fun e W' ⟨he, g, hg⟩ => ?_
  subst he; subst hg
  exact ⟨_, rfl, _, _, _, [], _, [], hW', (trodAll_cons_mk (shut_bool Tryz.underlying4 _) trodAll_mk0), (trodAll_cons_mk (Below.trod (by kernel_rfl) (by kernel_rfl) (by decide +kernel) g0 (grow_below W g) (fun x hx => hlt x (by simp [hx]))) (trodAll_cons_mk (Below.trod (by kernel_rfl) (by kernel_rfl) (by decide +kernel) g1 (grow_below W g) (fun x hx => hlt x (by simp [hx]))) (trodAll_cons_mk (Below.trod (by kernel_rfl) (by kernel_rfl) (by decide +kernel) g2 (grow_below W g) (fun x hx => hlt x (by simp [hx]))) (trodAll_cons_mk (Below.trod (by kernel_rfl) (by kernel_rfl) (by decide +kernel) g3 (grow_below W g) (fun x hx => hlt x (by simp [hx]))) (trodAll_cons_mk (Below.trod (by kernel_rfl) (by kernel_rfl) (by decide +kernel) g4 (grow_below W g) (fun x hx => hlt x (by simp [hx]))) (trodAll_cons_mk (Below.trod (by kernel_rfl) (by kernel_rfl) (by decide +kernel) g5 (grow_below W g) (fun x hx => hlt x (by simp [hx]))) (trodAll_cons_mk (Below.trod (by kernel_rfl) (by kernel_rfl) (by decide +kernel) g6 (grow_below W g) (fun x hx => hlt x (by simp [hx]))) (trodAll_cons_mk (Below.trod (by kernel_rfl) (by kernel_rfl) (by decide +kernel) g7 (grow_below W g) (fun x hx => hlt x (by simp [hx]))) trodAll_mk0)))))))), rfl, (grow_below W g).frame _, fun h => by cases h⟩

theorem over : Rows.frameLessRow.holds Tryz.pinned (OpenSpec.ofChange Rows.frameLessSpec) :=
  OpenClaim.holds_of_wide 5 Tryz.f5 rfl rfl rfl rfl rfl rfl rfl ⟨rfl, rfl, rfl, rfl, rfl⟩ rfl rfl rfl rfl rfl (by kernel_rfl) Tryz.func5 (by kernel_rfl)
    (of_decide_eq_true (by kernel_rfl)) (by unfold Func.isWrapper; first | (rw [if_pos (by decide +kernel)]; kernel_rfl) | (rw [if_neg (by decide +kernel)]; exact ⟨rfl, rfl⟩))
    (fun os started H enc _ => lifted os started H enc)
/-- The statement. -/
theorem proved : Rows.FrameLessSaid := over
#print axioms proved
end Go.Proofs.YtgfemfgimefmeaaGreat.frameLess
