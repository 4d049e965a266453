/- ValueAdds answers true, whatever its arguments are, and its arguments read behind the call as they did. Conditions: none beyond the card's own (the table of math/bits is laid). -/
import Derived.Test.YtddcaklgflfkeaaGreatDoorX41
import Derived.Test.YtddcaklgflfkeaaGreatDoorSxF
import Derived.Test.YtddcaklgflfkeaaGreatDoorCards
import Derived.Test.YtddcaklgflfkeaaGreatDoorTie
import Derived.Lib.LaidTab
import Derived.LaidMore
import Derived.LaidLaws
import Derived.LaidHandle
import Derived.MakeChecks
import Derived.Stop.Joined
import Derived.ChangeSame
import Derived.ChangeVars
import Derived.JoinedOf
import Derived.ProofKit
import Derived.OpenShut
import Derived.ShutString
import Derived.SevenTiedAt
import Derived.Carry
namespace Go.Proofs.YtddcaklgflfkeaaGreatDoor.valueAdds
open Go.ChangeShapes Go.WideShapes Go.ChangeAt Go.RowKit Go.Sx
open Go.ChangeMaps (open_string shut_string)
set_option linter.unusedVariables false
set_option linter.unusedSimpArgs false
theorem own : ownKnob Tryz.prog.godebug = none := by kernel_rfl
/-- What the row's condition gives the walks: the table's cells. -/
theorem tab_of {W : World} (h : laidMetH Tryz.prog Rows.valueAddsRow.laid W) : Tab W := by
  have h' : laidMet Tryz.prog [("math/bits.deBruijn64tab", Lib.tabData .u8 (Lib.deBruijn64tab.map fun n : Nat => (n : Int)))] W := (MakeChecks.laidMetH_plain _ _ _ (by kernel_rfl)) ▸ h
  have hT := Lib.tabIs_of_head (P := Tryz.prog) (g := 0) (t := 242) (e := 5) (n := 64) (by kernel_rfl) (by kernel_rfl) (by kernel_rfl) (by kernel_rfl) (by kernel_rfl) (by kernel_rfl) h'
  intro j hj
  have := hT.cell (g := 0) (by kernel_rfl) j (by simpa [Lib.deBruijn64tab] using hj)
  rw [this]
  have hj' : j < Lib.deBruijn64tab.length := by simpa [Lib.deBruijn64tab] using hj
  simp [List.getD, List.getElem?_eq_getElem hj']

theorem door_met (os : Os) (args : Array Value) : laidMetH Tryz.prog Rows.valueAddsRow.laid ((World.doorLaid Tryz.prog 14 os).forCall (fun _ _ => 0) ⟨#[], args, []⟩).memory :=
  laidMetH_of_parts3 (fuel := 8) (laidMet_of_run' 8 (by kernel_rfl) (by kernel_rfl)) (by kernel_rfl) (by kernel_rfl)

set_option maxRecDepth 100000 in
theorem lifted (os : Os) (started : os.Started) (H : Type) (enc : TypeId × Value → H) :
    ReturnsInHanded {} Tryz.checked os 5 .any (fun w args => (Rows.valueAddsSpec.pre enc Tryz.prog Tryz.f5 [] false w args ∧ laidMetH Tryz.prog Rows.valueAddsRow.laid w) ∧ sizedMet enc Tryz.prog Tryz.f5 (OpenSpec.ofChange Rows.valueAddsSpec) false w args)
      (Rows.valueAddsSpec.post enc Tryz.prog Tryz.f5 false true false false) := by
  refine returnsInHanded_of_change_and (C := Tryz.checked) (X := fun w _ => laidMetH Tryz.prog Rows.valueAddsRow.laid w) (fun _ _ _ hh h => h.of_heap hh) own started (by kernel_rfl) Tryz.func5
    (ChangeSpec.witness_shaped (enc := enc) (C := Tryz.checked) (os := os) (X := fun w _ => laidMetH Tryz.prog Rows.valueAddsRow.laid w) false (World.doorLaid Tryz.prog 14 os) #[.agg #[.int .u8 0, .int .u64 0, .int .u64 0, .int .u64 0, .int .u64 0, .int .i64 0, .int .i64 0, .int .i64 0, .int .i64 0, .int .i64 0, .int .i64 0, .bool false], .agg #[.int .u64 0, .int .u64 0, .int .u64 0, .int .u64 0, .int .i64 0, .int .i64 0], .bool false, .int .i64 0, .int .u64 0, .int .u64 0, .int .i64 0] 8 rfl (World.shaped_of_RefB (by kernel_rfl) (by kernel_rfl)) (by kernel_rfl) (by kernel_rfl) (by kernel_rfl) (door_met os _)) ?_
  intro W base args ds gs before hval0 hW _ hsz hL _
  have hval : ∀ (j : Nat) t v, Tryz.f5.params[j]? = some t → args[j]? = some v → Value.okWide Tryz.prog W .any base t v := hval0
  have hW' := hW
  have hlt := DataW.Whole.lt hW
  obtain ⟨p, q, hA0, hV, rfl, hfz, hnd⟩ := hW
  have hA : DataW.TrodAll enc Tryz.prog W 0 (fun _ => true) true Tryz.f5.params.toList args.toList ds p := hA0
  rw [Tryz.params5] at hA hval
  obtain ⟨v0, vs0, d0, ds0, p0, q0, hargs, rfl, rfl, h0, r0⟩ := trodAll_cons hA
  obtain ⟨v1, vs1, d1, ds1, p1, q1, rfl, rfl, rfl, h1, r1⟩ := trodAll_cons r0
  obtain ⟨v2, vs2, d2, ds2, p2, q2, rfl, rfl, rfl, h2, r2⟩ := trodAll_cons r1
  obtain ⟨v3, vs3, d3, ds3, p3, q3, rfl, rfl, rfl, h3, r3⟩ := trodAll_cons r2
  obtain ⟨v4, vs4, d4, ds4, p4, q4, rfl, rfl, rfl, h4, r4⟩ := trodAll_cons r3
  obtain ⟨v5, vs5, d5, ds5, p5, q5, rfl, rfl, rfl, h5, r5⟩ := trodAll_cons r4
  obtain ⟨v6, vs6, d6, ds6, p6, q6, rfl, rfl, rfl, h6, r6⟩ := trodAll_cons r5
  obtain ⟨rfl, rfl, rfl⟩ := trodAll_nil r6
  obtain rfl : args = #[v0, v1, v2, v3, v4, v5, v6] := by cases args; simp_all
  obtain ⟨rfl, rfl⟩ := trodVars_none hV
  clear hA0 hval0
  have g0 := h0
  obtain ⟨l0, rfl, a0_0, r0_0, rfl, n0_0, a0_1, r0_1, rfl, a0_2, r0_2, rfl, a0_3, r0_3, rfl, a0_4, r0_4, rfl, a0_5, r0_5, rfl, n0_5, a0_6, r0_6, rfl, n0_6, a0_7, r0_7, rfl, n0_7, a0_8, r0_8, rfl, n0_8, a0_9, r0_9, rfl, n0_9, a0_10, r0_10, rfl, n0_10, a0_11, r0_11, rfl, rfl⟩ := open_flat [(.int .u8), .u64, .u64, .u64, .u64, (.int .i64), (.int .i64), (.int .i64), (.int .i64), (.int .i64), (.int .i64), .bool] (by kernel_rfl) (hval 0 31 v0 rfl rfl)
  have g1 := h1
  obtain ⟨l1, rfl, a1_0, r1_0, rfl, a1_1, r1_1, rfl, a1_2, r1_2, rfl, a1_3, r1_3, rfl, a1_4, r1_4, rfl, n1_4, a1_5, r1_5, rfl, n1_5, rfl⟩ := open_flat [.u64, .u64, .u64, .u64, (.int .i64), (.int .i64)] (by kernel_rfl) (hval 1 29 v1 rfl rfl)
  have g2 := h2
  obtain ⟨l2, rfl, a2_0, r2_0, hx2, rfl⟩ := open_fk .bool (by kernel_rfl) (hval 2 4 v2 rfl rfl)
  obtain rfl : l2 = .bool a2_0 := by simpa using hx2
  have g3 := h3
  obtain ⟨l3, rfl, a3_0, r3_0, hx3, n3_0, rfl⟩ := open_fk (.int .i64) (by kernel_rfl) (hval 3 3 v3 rfl rfl)
  obtain rfl : l3 = .int .i64 a3_0 := by simpa using hx3
  have g4 := h4
  obtain ⟨l4, rfl, a4_0, r4_0, hx4, rfl⟩ := open_fk .u64 (by kernel_rfl) (hval 4 23 v4 rfl rfl)
  obtain rfl : l4 = .u64 a4_0 := by simpa using hx4
  have g5 := h5
  obtain ⟨l5, rfl, a5_0, r5_0, hx5, rfl⟩ := open_fk .u64 (by kernel_rfl) (hval 5 23 v5 rfl rfl)
  obtain rfl : l5 = .u64 a5_0 := by simpa using hx5
  have g6 := h6
  obtain ⟨l6, rfl, a6_0, r6_0, hx6, n6_0, rfl⟩ := open_fk (.int .i64) (by kernel_rfl) (hval 6 2 v6 rfl rfl)
  obtain rfl : l6 = .int .i64 a6_0 := by simpa using hx6
  simp only [List.append_nil] at hW' hlt
  refine (w_flat_t k_ValueAdds_ok (args := [.agg [.int .u8 a0_0, .u64 a0_1, .u64 a0_2, .u64 a0_3, .u64 a0_4, .int .i64 a0_5, .int .i64 a0_6, .int .i64 a0_7, .int .i64 a0_8, .int .i64 a0_9, .int .i64 a0_10, .bool a0_11], .agg [.u64 a1_0, .u64 a1_1, .u64 a1_2, .u64 a1_3, .int .i64 a1_4, .int .i64 a1_5], .bool a2_0, .int .i64 a3_0, .u64 a4_0, .u64 a5_0, .int .i64 a6_0]) rfl (by simp only [R.inS, R.inI, i64_has n0_5, i64_has n0_6, i64_has n1_4, i64_has n1_5, i64_has n6_0]; rfl) (tab_of hL)).mono fun e W' ⟨he, g, hg⟩ => ?_
  subst he; subst hg
  exact ⟨_, rfl, _, _, _, [], _, [], hW', (trodAll_cons_mk (shut_bool Tryz.underlying4 _) trodAll_mk0), (trodAll_cons_mk (Below.trod (by kernel_rfl) (by kernel_rfl) (by decide +kernel) g0 (grow_below W g) (fun x hx => hlt x (by simp [hx]))) (trodAll_cons_mk (Below.trod (by kernel_rfl) (by kernel_rfl) (by decide +kernel) g1 (grow_below W g) (fun x hx => hlt x (by simp [hx]))) (trodAll_cons_mk (Below.trod (by kernel_rfl) (by kernel_rfl) (by decide +kernel) g2 (grow_below W g) (fun x hx => hlt x (by simp [hx]))) (trodAll_cons_mk (Below.trod (by kernel_rfl) (by kernel_rfl) (by decide +kernel) g3 (grow_below W g) (fun x hx => hlt x (by simp [hx]))) (trodAll_cons_mk (Below.trod (by kernel_rfl) (by kernel_rfl) (by decide +kernel) g4 (grow_below W g) (fun x hx => hlt x (by simp [hx]))) (trodAll_cons_mk (Below.trod (by kernel_rfl) (by kernel_rfl) (by decide +kernel) g5 (grow_below W g) (fun x hx => hlt x (by simp [hx]))) (trodAll_cons_mk (Below.trod (by kernel_rfl) (by kernel_rfl) (by decide +kernel) g6 (grow_below W g) (fun x hx => hlt x (by simp [hx]))) trodAll_mk0))))))), rfl, (grow_below W g).frame _, fun h => by cases h⟩

theorem over : Rows.valueAddsRow.holds Tryz.pinned (OpenSpec.ofChange Rows.valueAddsSpec) :=
  OpenClaim.holds_of_wide 5 Tryz.f5 rfl rfl rfl rfl rfl rfl rfl ⟨rfl, rfl, rfl, rfl, rfl⟩ rfl rfl rfl rfl rfl (by kernel_rfl) Tryz.func5 (by kernel_rfl)
    (of_decide_eq_true (by kernel_rfl)) (by unfold Func.isWrapper; first | (rw [if_pos (by decide +kernel)]; kernel_rfl) | (rw [if_neg (by decide +kernel)]; exact ⟨rfl, rfl⟩))
    (fun os started H enc _ => lifted os started H enc)
/-- The statement. -/
theorem proved : Rows.ValueAddsCardSaid :=
  Claim7.holds_tied_plain_at .later [] [.data] true (true, "f1453448a0f73f33d78137f6940523863ac3ce0c546595c375b33aee3ed9d130") false
    over (fun _ h => by cases h) (by kernel_rfl) (fun _ h => by cases h) YtddcaklgflfkeaaGreatDoor.valueAdds_row_tie rfl ⟨rfl, rfl⟩ (by kernel_rfl) rfl
    (fun f fn hf hfn => by
      obtain rfl : f = 5 := Option.some.inj ((show Tryz.prog.funcNamed "hatchway/hatchwaylaw22.ValueAdds" = some 5 by kernel_rfl).symm.trans hf) |>.symm
      obtain rfl : fn = Tryz.f5 := (Option.some.inj (Tryz.func5.symm.trans hfn)).symm
      exact ⟨by kernel_rfl, fun j t ht => by
        rw [Tryz.params5] at ht
        have hm : t ∈ [2, 3, 4, 23, 29, 31] := by have h := Array.mem_of_getElem? ht; simp at h ⊢; first | omega | grind
        have hall : ([2, 3, 4, 23, 29, 31].all fun u => !Tryz.prog.wantsStandIn u) = true := by kernel_rfl
        exact (show Tryz.prog.wantsStandIn t = false by simpa using List.all_eq_true.1 hall t hm)⟩)
    (by kernel_rfl)
#print axioms proved
end Go.Proofs.YtddcaklgflfkeaaGreatDoor.valueAdds
