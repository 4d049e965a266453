/- TnumOrder answers true, whatever its arguments are, and its arguments read behind the call as they did. Conditions: none beyond the card's own (the table of math/bits is laid). -/
import Derived.Test.YtaickooakoikaaaDoorX6
import Derived.Test.YtaickooakoikaaaDoorSxR
import Derived.Test.YtaickooakoikaaaDoorCards
import Derived.Test.YtaickooakoikaaaDoorTie
import Derived.Lib.LaidTab
import Derived.LaidMore
import Derived.LaidLaws
import Derived.LaidHandle
import Derived.MakeChecks
import Derived.Stop.Joined
import Derived.ChangeSame
import Derived.ChangeVars
import Derived.JoinedOf
import Derived.ProofKit
import Derived.OpenShut
import Derived.ShutString
import Derived.SevenTiedAt
import Derived.Carry
namespace Go.Proofs.YtaickooakoikaaaDoor.tnumOrder
open Go.ChangeShapes Go.WideShapes Go.ChangeAt Go.RowKit Go.Sx
open Go.ChangeMaps (open_string shut_string)
set_option linter.unusedVariables false
set_option linter.unusedSimpArgs false
theorem own : ownKnob Tryd.prog.godebug = none := by kernel_rfl
/-- What the row's condition gives the walks: the table's cells. -/
theorem tab_of {W : World} (h : laidMetH Tryd.prog Rows.tnumOrderRow.laid W) : Tab W := by
  have h' : laidMet Tryd.prog [("math/bits.deBruijn64tab", Lib.tabData .u8 (Lib.deBruijn64tab.map fun n : Nat => (n : Int)))] W := (MakeChecks.laidMetH_plain _ _ _ (by kernel_rfl)) ▸ h
  have hT := Lib.tabIs_of_head (P := Tryd.prog) (g := 0) (t := 99) (e := 5) (n := 64) (by kernel_rfl) (by kernel_rfl) (by kernel_rfl) (by kernel_rfl) (by kernel_rfl) (by kernel_rfl) h'
  intro j hj
  have := hT.cell (g := 0) (by kernel_rfl) j (by simpa [Lib.deBruijn64tab] using hj)
  rw [this]
  have hj' : j < Lib.deBruijn64tab.length := by simpa [Lib.deBruijn64tab] using hj
  simp [List.getD, List.getElem?_eq_getElem hj']

theorem door_met (os : Os) (args : Array Value) : laidMetH Tryd.prog Rows.tnumOrderRow.laid ((World.doorLaid Tryd.prog 14 os).forCall (fun _ _ => 0) ⟨#[], args, []⟩).memory :=
  laidMetH_of_parts3 (fuel := 8) (laidMet_of_run' 8 (by kernel_rfl) (by kernel_rfl)) (by kernel_rfl) (by kernel_rfl)

set_option maxRecDepth 100000 in
theorem lifted (os : Os) (started : os.Started) (H : Type) (enc : TypeId × Value → H) :
    ReturnsInHanded {} Tryd.checked os 6 .any (fun w args => (Rows.tnumOrderSpec.pre enc Tryd.prog Tryd.f6 [] false w args ∧ laidMetH Tryd.prog Rows.tnumOrderRow.laid w) ∧ sizedMet enc Tryd.prog Tryd.f6 (OpenSpec.ofChange Rows.tnumOrderSpec) false w args)
      (Rows.tnumOrderSpec.post enc Tryd.prog Tryd.f6 false true false false) := by
  refine returnsInHanded_of_change_and (C := Tryd.checked) (X := fun w _ => laidMetH Tryd.prog Rows.tnumOrderRow.laid w) (fun _ _ _ hh h => h.of_heap hh) own started (by kernel_rfl) Tryd.func6
    (ChangeSpec.witness_shaped (enc := enc) (C := Tryd.checked) (os := os) (X := fun w _ => laidMetH Tryd.prog Rows.tnumOrderRow.laid w) false (World.doorLaid Tryd.prog 14 os) #[.int .u64 0, .int .u64 0, .int .u64 0, .int .u64 0, .int .u64 0, .int .u64 0, .int .u64 0] 8 rfl (World.shaped_of_RefB (by kernel_rfl) (by kernel_rfl)) (by kernel_rfl) (by kernel_rfl) (by kernel_rfl) (door_met os _)) ?_
  intro W base args ds gs before hval0 hW _ hsz hL _
  have hval : ∀ (j : Nat) t v, Tryd.f6.params[j]? = some t → args[j]? = some v → Value.okWide Tryd.prog W .any base t v := hval0
  have hW' := hW
  have hlt := DataW.Whole.lt hW
  obtain ⟨p, q, hA0, hV, rfl, hfz, hnd⟩ := hW
  have hA : DataW.TrodAll enc Tryd.prog W 0 (fun _ => true) true Tryd.f6.params.toList args.toList ds p := hA0
  rw [Tryd.params6] at hA hval
  obtain ⟨v0, vs0, d0, ds0, p0, q0, hargs, rfl, rfl, h0, r0⟩ := trodAll_cons hA
  obtain ⟨v1, vs1, d1, ds1, p1, q1, rfl, rfl, rfl, h1, r1⟩ := trodAll_cons r0
  obtain ⟨v2, vs2, d2, ds2, p2, q2, rfl, rfl, rfl, h2, r2⟩ := trodAll_cons r1
  obtain ⟨v3, vs3, d3, ds3, p3, q3, rfl, rfl, rfl, h3, r3⟩ := trodAll_cons r2
  obtain ⟨v4, vs4, d4, ds4, p4, q4, rfl, rfl, rfl, h4, r4⟩ := trodAll_cons r3
  obtain ⟨v5, vs5, d5, ds5, p5, q5, rfl, rfl, rfl, h5, r5⟩ := trodAll_cons r4
  obtain ⟨v6, vs6, d6, ds6, p6, q6, rfl, rfl, rfl, h6, r6⟩ := trodAll_cons r5
  obtain ⟨rfl, rfl, rfl⟩ := trodAll_nil r6
  obtain rfl : args = #[v0, v1, v2, v3, v4, v5, v6] := by cases args; simp_all
  obtain ⟨rfl, rfl⟩ := trodVars_none hV
  clear hA0 hval0
  have g0 := h0
  obtain ⟨a0, rfl, rfl, rfl, w0⟩ := open_int Tryd.underlying24 (hval 0 24 v0 rfl rfl) h0
  obtain ⟨x0, rfl⟩ : ∃ x : BitVec 64, a0 = uv x := ⟨BitVec.ofInt 64 a0, (uv_of 64 a0 (by have h : (decide ((0 : Int) ≤ a0) && decide (a0 ≤ 18446744073709551615)) = true := w0; simp at h; omega) (by have h : (decide ((0 : Int) ≤ a0) && decide (a0 ≤ 18446744073709551615)) = true := w0; simp at h; omega)).symm⟩
  have g1 := h1
  obtain ⟨a1, rfl, rfl, rfl, w1⟩ := open_int Tryd.underlying24 (hval 1 24 v1 rfl rfl) h1
  obtain ⟨x1, rfl⟩ : ∃ x : BitVec 64, a1 = uv x := ⟨BitVec.ofInt 64 a1, (uv_of 64 a1 (by have h : (decide ((0 : Int) ≤ a1) && decide (a1 ≤ 18446744073709551615)) = true := w1; simp at h; omega) (by have h : (decide ((0 : Int) ≤ a1) && decide (a1 ≤ 18446744073709551615)) = true := w1; simp at h; omega)).symm⟩
  have g2 := h2
  obtain ⟨a2, rfl, rfl, rfl, w2⟩ := open_int Tryd.underlying24 (hval 2 24 v2 rfl rfl) h2
  obtain ⟨x2, rfl⟩ : ∃ x : BitVec 64, a2 = uv x := ⟨BitVec.ofInt 64 a2, (uv_of 64 a2 (by have h : (decide ((0 : Int) ≤ a2) && decide (a2 ≤ 18446744073709551615)) = true := w2; simp at h; omega) (by have h : (decide ((0 : Int) ≤ a2) && decide (a2 ≤ 18446744073709551615)) = true := w2; simp at h; omega)).symm⟩
  have g3 := h3
  obtain ⟨a3, rfl, rfl, rfl, w3⟩ := open_int Tryd.underlying24 (hval 3 24 v3 rfl rfl) h3
  obtain ⟨x3, rfl⟩ : ∃ x : BitVec 64, a3 = uv x := ⟨BitVec.ofInt 64 a3, (uv_of 64 a3 (by have h : (decide ((0 : Int) ≤ a3) && decide (a3 ≤ 18446744073709551615)) = true := w3; simp at h; omega) (by have h : (decide ((0 : Int) ≤ a3) && decide (a3 ≤ 18446744073709551615)) = true := w3; simp at h; omega)).symm⟩
  have g4 := h4
  obtain ⟨a4, rfl, rfl, rfl, w4⟩ := open_int Tryd.underlying24 (hval 4 24 v4 rfl rfl) h4
  obtain ⟨x4, rfl⟩ : ∃ x : BitVec 64, a4 = uv x := ⟨BitVec.ofInt 64 a4, (uv_of 64 a4 (by have h : (decide ((0 : Int) ≤ a4) && decide (a4 ≤ 18446744073709551615)) = true := w4; simp at h; omega) (by have h : (decide ((0 : Int) ≤ a4) && decide (a4 ≤ 18446744073709551615)) = true := w4; simp at h; omega)).symm⟩
  have g5 := h5
  obtain ⟨a5, rfl, rfl, rfl, w5⟩ := open_int Tryd.underlying24 (hval 5 24 v5 rfl rfl) h5
  obtain ⟨x5, rfl⟩ : ∃ x : BitVec 64, a5 = uv x := ⟨BitVec.ofInt 64 a5, (uv_of 64 a5 (by have h : (decide ((0 : Int) ≤ a5) && decide (a5 ≤ 18446744073709551615)) = true := w5; simp at h; omega) (by have h : (decide ((0 : Int) ≤ a5) && decide (a5 ≤ 18446744073709551615)) = true := w5; simp at h; omega)).symm⟩
  have g6 := h6
  obtain ⟨a6, rfl, rfl, rfl, w6⟩ := open_int Tryd.underlying24 (hval 6 24 v6 rfl rfl) h6
  obtain ⟨x6, rfl⟩ : ∃ x : BitVec 64, a6 = uv x := ⟨BitVec.ofInt 64 a6, (uv_of 64 a6 (by have h : (decide ((0 : Int) ≤ a6) && decide (a6 ≤ 18446744073709551615)) = true := w6; simp at h; omega) (by have h : (decide ((0 : Int) ≤ a6) && decide (a6 ≤ 18446744073709551615)) = true := w6; simp at h; omega)).symm⟩
  simp only [List.append_nil] at hW' hlt
  refine (w_TnumOrder x0 x1 x2 x3 x4 x5 x6 W (tab_of hL)).mono fun e W' ⟨he, g, hg⟩ => ?_
  subst he; subst hg
  exact ⟨_, rfl, _, _, _, [], _, [], hW', (trodAll_cons_mk (shut_bool Tryd.underlying4 _) trodAll_mk0), (trodAll_cons_mk (Below.trod (by kernel_rfl) (by kernel_rfl) (by decide +kernel) g0 (grow_below W g) (fun x hx => hlt x (by simp [hx]))) (trodAll_cons_mk (Below.trod (by kernel_rfl) (by kernel_rfl) (by decide +kernel) g1 (grow_below W g) (fun x hx => hlt x (by simp [hx]))) (trodAll_cons_mk (Below.trod (by kernel_rfl) (by kernel_rfl) (by decide +kernel) g2 (grow_below W g) (fun x hx => hlt x (by simp [hx]))) (trodAll_cons_mk (Below.trod (by kernel_rfl) (by kernel_rfl) (by decide +kernel) g3 (grow_below W g) (fun x hx => hlt x (by simp [hx]))) (trodAll_cons_mk (Below.trod (by kernel_rfl) (by kernel_rfl) (by decide +kernel) g4 (grow_below W g) (fun x hx => hlt x (by simp [hx]))) (trodAll_cons_mk (Below.trod (by kernel_rfl) (by kernel_rfl) (by decide +kernel) g5 (grow_below W g) (fun x hx => hlt x (by simp [hx]))) (trodAll_cons_mk (Below.trod (by kernel_rfl) (by kernel_rfl) (by decide +kernel) g6 (grow_below W g) (fun x hx => hlt x (by simp [hx]))) trodAll_mk0))))))), rfl, (grow_below W g).frame _, fun h => by cases h⟩

theorem over : Rows.tnumOrderRow.holds Tryd.pinned (OpenSpec.ofChange Rows.tnumOrderSpec) :=
  OpenClaim.holds_of_wide 6 Tryd.f6 rfl rfl rfl rfl rfl rfl rfl ⟨rfl, rfl, rfl, rfl, rfl⟩ rfl rfl rfl rfl rfl (by kernel_rfl) Tryd.func6 (by kernel_rfl)
    (of_decide_eq_true (by kernel_rfl)) (by unfold Func.isWrapper; first | (rw [if_pos (by decide +kernel)]; kernel_rfl) | (rw [if_neg (by decide +kernel)]; exact ⟨rfl, rfl⟩))
    (fun os started H enc _ => lifted os started H enc)
/-- The statement. -/
theorem proved : Rows.TnumOrderCardSaid :=
  Claim7.holds_tied_plain_at .later [] [.data] true (true, "7fc815044e21ff8485bb2ff174b4c48ba1765e39cf5e5204d6dc3260d2ff86db") false
    over (fun _ h => by cases h) (by kernel_rfl) (fun _ h => by cases h) YtaickooakoikaaaDoor.tnumOrder_row_tie rfl ⟨rfl, rfl⟩ (by kernel_rfl) rfl
    (fun f fn hf hfn => by
      obtain rfl : f = 6 := Option.some.inj ((show Tryd.prog.funcNamed "hatchway/hatchwaylaw17.TnumOrder" = some 6 by kernel_rfl).symm.trans hf) |>.symm
      obtain rfl : fn = Tryd.f6 := (Option.some.inj (Tryd.func6.symm.trans hfn)).symm
      exact ⟨by kernel_rfl, fun j t ht => by
        rw [Tryd.params6] at ht
        have hm : t ∈ [24] := by have h := Array.mem_of_getElem? ht; simp at h ⊢; omega
        have hall : ([24].all fun u => !Tryd.prog.wantsStandIn u) = true := by kernel_rfl
        exact (show Tryd.prog.wantsStandIn t = false by simpa using List.all_eq_true.1 hall t hm)⟩)
    (by kernel_rfl)
#print axioms proved
end Go.Proofs.YtaickooakoikaaaDoor.tnumOrder
