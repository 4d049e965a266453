/- The row of TnumRange, and its card. -/
import Derived.Test.YtbiebicooaepfaaDoorRangeW
import Derived.Test.YtbiebicooaepfaaDoorCards
import Derived.Test.YtbiebicooaepfaaDoorTie
import Derived.Lib.LaidTab
import Derived.LaidMore
import Derived.LaidLaws
import Derived.LaidHandle
import Derived.MakeChecks
import Derived.Stop.Joined
import Derived.ChangeSame
import Derived.ChangeVars
import Derived.JoinedOf
import Derived.ProofKit
import Derived.OpenShut
import Derived.ShutString
import Derived.SevenTiedAt
namespace Go.Proofs.YtbiebicooaepfaaDoor.tnumRange
open Go.ChangeShapes Go.WideShapes Go.ChangeAt Go.RowKit
open Go.ChangeMaps (open_string shut_string)
set_option linter.unusedVariables false
set_option linter.unusedSimpArgs false
theorem own : ownKnob Tryd.prog.godebug = none := by kernel_rfl
/-- What the row's condition gives the walks: the table's cells. -/
theorem tab_of {W : World} (h : laidMetH Tryd.prog Rows.tnumRangeRow.laid W) : Tab W := by
  have h' : laidMet Tryd.prog [("math/bits.deBruijn64tab", Lib.tabData .u8 (Lib.deBruijn64tab.map fun n : Nat => (n : Int)))] W := (MakeChecks.laidMetH_plain _ _ _ (by kernel_rfl)) ▸ h
  have hT := Lib.tabIs_of_head (P := Tryd.prog) (g := 0) (t := 99) (e := 5) (n := 64) (by kernel_rfl) (by kernel_rfl) (by kernel_rfl) (by kernel_rfl) (by kernel_rfl) (by kernel_rfl) h'
  intro j hj
  have := hT.cell (g := 0) (by kernel_rfl) j (by simpa [Lib.deBruijn64tab] using hj)
  rw [this]
  have hj' : j < Lib.deBruijn64tab.length := by simpa [Lib.deBruijn64tab] using hj
  simp [List.getD, List.getElem?_eq_getElem hj']

/-- The door's own heap meets the condition. -/
theorem door_met (os : Os) (args : Array Value) : laidMetH Tryd.prog Rows.tnumRangeRow.laid ((World.doorLaid Tryd.prog 14 os).forCall (fun _ _ => 0) ⟨#[], args, []⟩).memory :=
  laidMetH_of_parts3 (fuel := 8) (laidMet_of_run' 8 (by kernel_rfl) (by kernel_rfl)) (by kernel_rfl) (by kernel_rfl)

set_option maxRecDepth 100000 in
theorem lifted (os : Os) (started : os.Started) (H : Type) (enc : TypeId × Value → H) :
    ReturnsInHanded {} Tryd.checked os 5 .any (fun w args => (Rows.tnumRangeSpec.pre enc Tryd.prog Tryd.f5 [] false w args ∧ laidMetH Tryd.prog Rows.tnumRangeRow.laid w) ∧ sizedMet enc Tryd.prog Tryd.f5 (OpenSpec.ofChange Rows.tnumRangeSpec) false w args)
      (Rows.tnumRangeSpec.post enc Tryd.prog Tryd.f5 false true false false) := by
  refine returnsInHanded_of_change_and (C := Tryd.checked) (X := fun w _ => laidMetH Tryd.prog Rows.tnumRangeRow.laid w) (fun _ _ _ hh h => h.of_heap hh) own started (by kernel_rfl) Tryd.func5
    (ChangeSpec.witness_shaped (enc := enc) (C := Tryd.checked) (os := os) (X := fun w _ => laidMetH Tryd.prog Rows.tnumRangeRow.laid w) false (World.doorLaid Tryd.prog 14 os) #[.int .u64 0, .int .u64 0, .int .u64 0, .int .u64 0, .int .u64 0] 8 rfl (World.shaped_of_RefB (by kernel_rfl) (by kernel_rfl)) (by kernel_rfl) (by kernel_rfl) (by kernel_rfl) (door_met os _)) ?_
  intro W base args ds gs before hval0 hW _ hsz hL _
  have hval : ∀ (j : Nat) t v, Tryd.f5.params[j]? = some t → args[j]? = some v → Value.okWide Tryd.prog W .any base t v := hval0
  have hW' := hW
  obtain ⟨p, q, hA0, hV, rfl, hfz, hnd⟩ := hW
  have hA : DataW.TrodAll enc Tryd.prog W 0 (fun _ => true) true Tryd.f5.params.toList args.toList ds p := hA0
  rw [Tryd.params5] at hA hval
  obtain ⟨v0, vs0, d0, ds0, p0, q0, hargs, rfl, rfl, h0, r0⟩ := trodAll_cons hA
  obtain ⟨v1, vs1, d1, ds1, p1, q1, rfl, rfl, rfl, h1, r1⟩ := trodAll_cons r0
  obtain ⟨v2, vs2, d2, ds2, p2, q2, rfl, rfl, rfl, h2, r2⟩ := trodAll_cons r1
  obtain ⟨v3, vs3, d3, ds3, p3, q3, rfl, rfl, rfl, h3, r3⟩ := trodAll_cons r2
  obtain ⟨v4, vs4, d4, ds4, p4, q4, rfl, rfl, rfl, h4, r4⟩ := trodAll_cons r3
  obtain ⟨rfl, rfl, rfl⟩ := trodAll_nil r4
  obtain rfl : args = #[v0, v1, v2, v3, v4] := by cases args; simp_all
  obtain ⟨rfl, rfl⟩ := trodVars_none hV
  obtain ⟨a0, rfl, rfl, rfl, w0⟩ := open_int Tryd.underlying24 (hval 0 24 v0 rfl rfl) h0
  obtain ⟨a1, rfl, rfl, rfl, w1⟩ := open_int Tryd.underlying24 (hval 1 24 v1 rfl rfl) h1
  obtain ⟨a2, rfl, rfl, rfl, w2⟩ := open_int Tryd.underlying24 (hval 2 24 v2 rfl rfl) h2
  obtain ⟨a3, rfl, rfl, rfl, w3⟩ := open_int Tryd.underlying24 (hval 3 24 v3 rfl rfl) h3
  obtain ⟨a4, rfl, rfl, rfl, w4⟩ := open_int Tryd.underlying24 (hval 4 24 v4 rfl rfl) h4
  clear hA0 hval0
  simp only [List.append_nil] at hW'
  obtain ⟨x0, rfl⟩ : ∃ x : BitVec 64, a0 = uv x := ⟨BitVec.ofInt 64 a0, (uv_of 64 a0 (by have h : (decide ((0 : Int) ≤ a0) && decide (a0 ≤ 18446744073709551615)) = true := w0; simp at h; omega) (by have h : (decide ((0 : Int) ≤ a0) && decide (a0 ≤ 18446744073709551615)) = true := w0; simp at h; omega)).symm⟩
  obtain ⟨x1, rfl⟩ : ∃ x : BitVec 64, a1 = uv x := ⟨BitVec.ofInt 64 a1, (uv_of 64 a1 (by have h : (decide ((0 : Int) ≤ a1) && decide (a1 ≤ 18446744073709551615)) = true := w1; simp at h; omega) (by have h : (decide ((0 : Int) ≤ a1) && decide (a1 ≤ 18446744073709551615)) = true := w1; simp at h; omega)).symm⟩
  obtain ⟨x2, rfl⟩ : ∃ x : BitVec 64, a2 = uv x := ⟨BitVec.ofInt 64 a2, (uv_of 64 a2 (by have h : (decide ((0 : Int) ≤ a2) && decide (a2 ≤ 18446744073709551615)) = true := w2; simp at h; omega) (by have h : (decide ((0 : Int) ≤ a2) && decide (a2 ≤ 18446744073709551615)) = true := w2; simp at h; omega)).symm⟩
  obtain ⟨x3, rfl⟩ : ∃ x : BitVec 64, a3 = uv x := ⟨BitVec.ofInt 64 a3, (uv_of 64 a3 (by have h : (decide ((0 : Int) ≤ a3) && decide (a3 ≤ 18446744073709551615)) = true := w3; simp at h; omega) (by have h : (decide ((0 : Int) ≤ a3) && decide (a3 ≤ 18446744073709551615)) = true := w3; simp at h; omega)).symm⟩
  obtain ⟨x4, rfl⟩ : ∃ x : BitVec 64, a4 = uv x := ⟨BitVec.ofInt 64 a4, (uv_of 64 a4 (by have h : (decide ((0 : Int) ≤ a4) && decide (a4 ≤ 18446744073709551615)) = true := w4; simp at h; omega) (by have h : (decide ((0 : Int) ≤ a4) && decide (a4 ≤ 18446744073709551615)) = true := w4; simp at h; omega)).symm⟩
  refine (w_TnumRange x0 x1 x2 x3 x4 W (tab_of hL)).mono fun e W' ⟨he, g, hg⟩ => ?_
  subst he; subst hg
  exact ⟨_, rfl, _, _, _, [], [], [], hW', (trodAll_cons_mk (shut_bool Tryd.underlying4 _) trodAll_mk0), (trodAll_cons_mk (shut_int Tryd.underlying24 w0) (trodAll_cons_mk (shut_int Tryd.underlying24 w1) (trodAll_cons_mk (shut_int Tryd.underlying24 w2) (trodAll_cons_mk (shut_int Tryd.underlying24 w3) (trodAll_cons_mk (shut_int Tryd.underlying24 w4) trodAll_mk0))))), rfl, (grow_below W g).frame _, fun h => by cases h⟩

theorem over : Rows.tnumRangeRow.holds Tryd.pinned (OpenSpec.ofChange Rows.tnumRangeSpec) :=
  OpenClaim.holds_of_wide 5 Tryd.f5 rfl rfl rfl rfl rfl rfl rfl ⟨rfl, rfl, rfl, rfl, rfl⟩ rfl rfl rfl rfl rfl (by kernel_rfl) Tryd.func5 (by kernel_rfl)
    (of_decide_eq_true (by kernel_rfl)) (by unfold Func.isWrapper; first | (rw [if_pos (by decide +kernel)]; kernel_rfl) | (rw [if_neg (by decide +kernel)]; exact ⟨rfl, rfl⟩))
    (fun os started H enc _ => lifted os started H enc)
/-- The statement. -/
theorem proved : Rows.TnumRangeCardSaid :=
  Claim7.holds_tied_plain_at .later [] [.data] true (true, "7fc815044e21ff8485bb2ff174b4c48ba1765e39cf5e5204d6dc3260d2ff86db") false
    over (fun _ h => by cases h) (by kernel_rfl) (fun _ h => by cases h) YtbiebicooaepfaaDoor.tnumRange_row_tie rfl ⟨rfl, rfl⟩ (by kernel_rfl) rfl
    (fun f fn hf hfn => by
      obtain rfl : f = 5 := Option.some.inj ((show Tryd.prog.funcNamed "hatchway/hatchwaylaw17.TnumRange" = some 5 by kernel_rfl).symm.trans hf) |>.symm
      obtain rfl : fn = Tryd.f5 := (Option.some.inj (Tryd.func5.symm.trans hfn)).symm
      exact ⟨by kernel_rfl, fun j t ht => by
        rw [Tryd.params5] at ht
        have hm : t ∈ [24] := by have h := Array.mem_of_getElem? ht; simp at h ⊢; omega
        have hall : ([24].all fun u => !Tryd.prog.wantsStandIn u) = true := by kernel_rfl
        exact (show Tryd.prog.wantsStandIn t = false by simpa using List.all_eq_true.1 hall t hm)⟩)
    (by kernel_rfl)
#print axioms proved
end Go.Proofs.YtbiebicooaepfaaDoor.tnumRange
