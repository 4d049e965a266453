/- KindsLess answers true, whatever its arguments are, and its arguments read behind the call as they did. Conditions: none. -/
import Derived.Test.YtnbcemeofhaogaaVM
import Derived.Test.YtnbcemeofhaogaaRows
import Derived.Lib.LaidTab
import Derived.LaidMore
import Derived.LaidLaws
import Derived.LaidHandle
import Derived.MakeChecks
import Derived.Stop.Joined
import Derived.ChangeSame
import Derived.ChangeVars
import Derived.JoinedOf
import Derived.ProofKit
import Derived.OpenShut
import Derived.ShutString
import Derived.SevenTiedAt
import Derived.Carry
namespace Go.Proofs.Ytnbcemeofhaogaa.kindsLess
open Go.ChangeShapes Go.WideShapes Go.ChangeAt Go.RowKit Go.Sx
open Go.ChangeMaps (open_string shut_string)
set_option linter.unusedVariables false
set_option linter.unusedSimpArgs false
theorem own : ownKnob Try.prog.godebug = none := by kernel_rfl

set_option maxRecDepth 100000 in
theorem lifted (os : Os) (started : os.Started) (H : Type) (enc : TypeId × Value → H) :
    ReturnsInHanded {} Try.checked os 6 .any (Rows.kindsLessSpec.pre6 enc Try.prog Try.f6 [] false) (Rows.kindsLessSpec.post enc Try.prog Try.f6 false true false false) := by
  refine returns_sized (C := Try.checked) own started (by kernel_rfl) Try.func6
    (ChangeSpec.witness6 (enc := enc) (C := Try.checked) (os := os) false ⟨#[], #[.agg #[.string ⟨#[]⟩, .slice none 0 0, .slice none 0 0], .slice none 0 0], []⟩ 8 (by kernel_rfl) (by kernel_rfl) (by kernel_rfl) (by kernel_rfl)) ?_
  intro W base args ds gs before hval0 hW hsz
  have hval : ∀ (j : Nat) t v, Try.f6.params[j]? = some t → args[j]? = some v → Value.okWide Try.prog W .any base t v := hval0
  have hW' := hW
  have hlt := DataW.Whole.lt hW
  obtain ⟨p, q, hA0, hV, rfl, hfz, hnd⟩ := hW
  have hA : DataW.TrodAll enc Try.prog W 0 (fun _ => true) true Try.f6.params.toList args.toList ds p := hA0
  rw [Try.params6] at hA hval
  obtain ⟨v0, vs0, d0, ds0, p0, q0, hargs, rfl, rfl, h0, r0⟩ := trodAll_cons hA
  obtain ⟨v1, vs1, d1, ds1, p1, q1, rfl, rfl, rfl, h1, r1⟩ := trodAll_cons r0
  obtain ⟨rfl, rfl, rfl⟩ := trodAll_nil r1
  obtain rfl : args = #[v0, v1] := by cases args; simp_all
  obtain ⟨rfl, rfl⟩ := trodVars_none hV
  clear hA0 hval0
  have g0 := h0
  have g1 := h1
  have hwt : (∀ q ∈ d0.weights Try.prog 54, q ≤ reachBytes) ∧ (∀ q ∈ d1.weights Try.prog 55, q ≤ reachBytes) := by
    have key : ∀ q ∈ d0.weights Try.prog 54 ++ (d1.weights Try.prog 55 ++ []), q ≤ reachBytes := fun q hq => hsz q (by
      rw [Try.params6]
      exact hq)
    exact ⟨fun q h => key q (by simp [h]), fun q h => key q (by simp [h])⟩
  obtain ⟨hw0, hw1⟩ := hwt
  obtain ⟨fa, fb, fc, huT, _⟩ := ty_T
  obtain ⟨c0, rfl, hc0⟩ := agg_of huT (hval 0 54 v0 rfl rfl)
  obtain ⟨n0, h0⟩ := h0
  rw [hc0] at h0
  obtain ⟨pr, ts, hs, y1, y2, hcs0, hts, hhs, hwT⟩ := open_T h0
  have htw := hwT hw0
  obtain ⟨l0, e0, ok0⟩ := fz_of_rep hts
  obtain ⟨l1, e1, ok1⟩ := fz_of_rep hhs
  injection e0 with e0
  injection e1 with e1
  subst e0 e1
  obtain ⟨n1, h1⟩ := h1
  rw [show v1.cells.toList = [v1] by rw [slice_cells' (t := 55) (e := 4) (by kernel_rfl) (hval 1 55 v1 rfl rfl)]] at h1
  obtain ⟨kp, hkp, hwk⟩ := rows_of (tS := 55) (e := 4) (by kernel_rfl) reads_L h1
  obtain ⟨hkl, _⟩ := hwk hw1
  obtain ⟨l2, e2, ok2⟩ := fz_of_rep hkp
  injection e2 with e2
  simp only [List.append_nil] at hW' hlt
  let ρ : Val := ⟨fun i => match i with | 0 => l0 | 1 => l1 | 2 => l2 | _ => none, Low W⟩
  have hM : MRel ⟨W.heap.size, [], ρ.z⟩ ρ [.fz 6 ts.length (cY.g ts), .fz 9 hs.length (cH.g hs), .fz 1 kp.length (gOf eL kp)] W := by
    refine mrel_ro (Nat.le_refl _) rfl (fun k hk hm => ?_) (fun k hk => hk) fun k b hb => ?_
    · rcases hm with hm | hm
      · cases hm
      · exact absurd hk (Nat.not_lt_of_le hm)
    · match k, hb with
      | 0, hb => obtain rfl := Option.some.inj hb; exact ⟨ok0 _ ρ 0 rfl rfl, rfl⟩
      | 1, hb => obtain rfl := Option.some.inj hb; exact ⟨ok1 _ ρ 1 rfl rfl, rfl⟩
      | 2, hb => obtain rfl := Option.some.inj hb; exact ⟨ok2 _ ρ 2 rfl rfl, rfl⟩
      | k + 3, hb => simp at hb
  have hargs : (denL ρ [.agg [.val (.string pr), .sl 0 6 0 ts.length, .sl 1 9 0 hs.length], .sl 2 1 0 kp.length]).toArray = #[.agg c0, v1] := by
    have h1' : c0 = c0.toList.toArray := by simp
    rw [h1', hcs0, e2]
    rfl
  refine (hargs ▸ less_calls ρ ⟨pr, ts, hs⟩ kp htw hkl hM).mono fun e W' ⟨he, g, hg⟩ => ?_
  subst he; subst hg
  exact ⟨_, rfl, _, _, _, [], _, [], hW', (trodAll_cons_mk (shut_bool Try.underlying4 _) trodAll_mk0), (trodAll_cons_mk (Below.trod (by kernel_rfl) (by kernel_rfl) (by decide +kernel) g0 (grow_below W g) (fun x hx => hlt x (by simp [hx]))) (trodAll_cons_mk (Below.trod (by kernel_rfl) (by kernel_rfl) (by decide +kernel) g1 (grow_below W g) (fun x hx => hlt x (by simp [hx]))) trodAll_mk0)), rfl, (grow_below W g).frame _, fun h => by cases h⟩
theorem over : Rows.kindsLessRow.holds Try.pinned (OpenSpec.ofChange Rows.kindsLessSpec) :=
  OpenClaim.holds_of_wide 6 Try.f6 rfl rfl rfl rfl rfl rfl rfl ⟨rfl, rfl, rfl, rfl, rfl⟩ rfl rfl rfl rfl rfl (by kernel_rfl) Try.func6 (by kernel_rfl)
    (of_decide_eq_true (by kernel_rfl)) (by unfold Func.isWrapper; first | (rw [if_pos (by decide +kernel)]; kernel_rfl) | (rw [if_neg (by decide +kernel)]; exact ⟨rfl, rfl⟩))
    (fun os started H enc _ => lifted os started H enc)
/-- The statement. -/
theorem proved : Rows.KindsLessSaid := over
#print axioms proved
end Go.Proofs.Ytnbcemeofhaogaa.kindsLess
