import Derived.Test.YtaickooakoikaaaDoorSxN
import Derived.Test.YtaickooakoikaaaDoorX5
namespace Go.Proofs.YtaickooakoikaaaDoor
open Go.RowKit Go.Sx
set_option linter.unusedSimpArgs false
set_option linter.unusedVariables false
set_option linter.unnecessarySimpa false
set_option maxRecDepth 100000
set_option maxHeartbeats 4000000
/-- A word as an element. -/
def eW : Enc (BitVec 64) := ⟨fun t => [.u64 t], fun l => match l with | [.u64 v] => v | _ => 0, fun l => match l with | [.u64 _] => true | _ => false, 0,
  fun l h => by revert h; split <;> simp_all, fun _ => rfl, fun _ => rfl⟩
/-- The words below j that a tnum has. -/
def allL (t : Tn) (j : Nat) : List (BitVec 64) := ((List.range j).map (BitVec.ofNat 64)).filter (T.has t)
theorem allL_yes {t : Tn} {j : Nat} (h : T.has t (BitVec.ofNat 64 j) = true) : allL t (j + 1) = allL t j ++ [BitVec.ofNat 64 j] := by
  unfold allL; rw [List.range_succ, List.map_append, List.filter_append]; simp [h]
theorem allL_no {t : Tn} {j : Nat} (h : T.has t (BitVec.ofNat 64 j) = false) : allL t (j + 1) = allL t j := by
  unfold allL; rw [List.range_succ, List.map_append, List.filter_append]; simp [h]
theorem allL_le (t : Tn) (j : Nat) : (allL t j).length ≤ j := by
  have h1 := List.length_filter_le (T.has t) ((List.range j).map (BitVec.ofNat 64))
  simpa [allL] using h1
theorem ofNat_succ (j : Nat) : BitVec.ofNat 64 j + BitVec.ofInt 64 1 = BitVec.ofNat 64 (j + 1) := by
  rw [show BitVec.ofInt 64 1 = BitVec.ofNat 64 1 by decide, ← BitVec.ofNat_add]
theorem lt16 {j : Nat} (hj : j ≤ 16) : decide (BitVec.ofNat 64 j < BitVec.ofInt 64 16) = decide (j < 16) := by
  apply decide_eq_decide.2
  rw [BitVec.lt_def, show (BitVec.ofInt 64 16).toNat = 16 by decide, BitVec.toNat_ofNat, Nat.mod_eq_of_lt (by omega)]
theorem all_run (tv tm : BitVec 64) : run Tryd.prog ⟨[(17, k_Has)], eqs, [], []⟩ 10000 [] 0 (bodyOf Tryd.f13) (initF Tryd.f13 [.agg [.u64 tv, .u64 tm]]) [] (retK Tryd.prog Tryd.f13 (Sx.newRow 24 1 (allL ⟨tv, tm⟩ 16).length (gOf eW (allL ⟨tv, tm⟩ 16)))) := by
  (conv => whnf)
  (repeat' (first | (refine And.intro (fun hb => ?_) (fun hb => ?_) <;> (first | contradiction | (conv => whnf))) | (refine And.intro ?_ ?_; rotate_left 1; (conv => whnf))))
  refine .inr ⟨[(3, 24, 1)], [1, 3, 4], fun k vals M => ∃ j : Nat, j ≤ 16 ∧ k = 16 - j ∧ vals = [.ptr 0 0, .sl 1 1 0 (allL ⟨tv, tm⟩ j).length, .u64 (BitVec.ofNat 64 j)] ∧ M = [.cells 26 [.u64 tv, .u64 tm], .own 24 1 (allL ⟨tv, tm⟩ j).length (gOf eW (allL ⟨tv, tm⟩ j))], ?_⟩
  conv => whnf
  refine And.intro ⟨16, [.cells 26 [.u64 tv, .u64 tm], .own 24 1 0 (gOf eW [])], mle_cons ble_refl (mle_cons (ble_own rfl fun i hi => absurd hi (Nat.not_lt_zero i)) mle_nil), rfl, rfl, 0, by omega, by omega, rfl, rfl⟩ ?_
  rintro k vals M1 ⟨j, hj, rfl, rfl, rfl⟩
  (conv => whnf)
  (repeat' (first | (refine And.intro (fun hb => ?_) (fun hb => ?_) <;> (first | contradiction | (conv => whnf))) | (refine And.intro ?_ ?_; rotate_left 1; (conv => whnf))))
  all_goals try (first | rfl | trivial | (simp; done) | (simp; omega) | (simp at hb ⊢; omega) | (simp only [decide_eq_true_eq, Bool.and_eq_true, Int.toNat_natCast] at *; omega))
  · have hlt : j < 16 := by
      have h := ‹decide (BitVec.ofNat 64 j < BitVec.ofInt 64 16) = true›
      rw [lt16 hj] at h; simpa using h
    have e := allL_yes hb
    refine ⟨16 - (j + 1), [.cells 26 [.u64 tv, .u64 tm], .own 24 1 (allL ⟨tv, tm⟩ (j + 1)).length (gOf eW (allL ⟨tv, tm⟩ (j + 1)))], [0, 3], by omega, rfl, mle_cons ble_refl (mle_cons (ble_own (by rw [e]; simp) fun i hi => ?_) mle_nil), rfl, rfl, j + 1, by omega, rfl, ?_, rfl⟩
    · rw [e] at hi ⊢
      exact gOf_snoc eW _ _ _ rfl i (by simpa using hi)
    · rw [← ofNat_succ, show (allL ⟨tv, tm⟩ (j + 1)).length = (allL ⟨tv, tm⟩ j).length + 1 by rw [e]; simp]; rfl
  · have h1 := allL_le ⟨tv, tm⟩ j
    have h2 : Tryd.prog.types[24]!.bytes = 8 := by kernel_rfl
    rw [decide_eq_true_eq]
    exact ⟨by show (_ + 1) * Tryd.prog.types[24]!.bytes ≤ _; rw [h2]; omega, by omega⟩
  · have hlt : j < 16 := by
      have h := ‹decide (BitVec.ofNat 64 j < BitVec.ofInt 64 16) = true›
      rw [lt16 hj] at h; simpa using h
    have e := allL_no hb
    refine ⟨16 - (j + 1), [.cells 26 [.u64 tv, .u64 tm], .own 24 1 (allL ⟨tv, tm⟩ (j + 1)).length (gOf eW (allL ⟨tv, tm⟩ (j + 1)))], [0, 1], by omega, rfl, mle_cons ble_refl (mle_cons (ble_own (by rw [e]) fun i hi => by rw [e]) mle_nil), rfl, rfl, j + 1, by omega, rfl, ?_, rfl⟩
    rw [← ofNat_succ, e]; rfl
  · have hj2 : j = 16 := by
      rw [lt16 hj] at hb; simp at hb; omega
    subst hj2
    exact ⟨1, _, rfl, rfl, fun _ _ => rfl⟩
/-- The words of a tnum of four bits. -/
def k_all : List SV → List Blk → Res := fun args M => match args with
  | [.agg [.u64 tv, .u64 tm]] => .ok (.sl M.length 1 0 (allL ⟨tv, tm⟩ 16).length) [.own 24 1 (allL ⟨tv, tm⟩ 16).length (gOf eW (allL ⟨tv, tm⟩ 16))]
  | _ => .fail
theorem k_all_ok : CtrOk Tryd.prog Gw 13 k_all := by
  refine ⟨fun _ _ => by kernel_rfl, fun args M => ?_⟩
  unfold k_all
  split
  · exact ctr_new (Γ := ⟨[(17, k_Has)], eqs, [], []⟩) st_Gw ⟨(okCons k_Has_ok okNil), eqs_ok, okNilB, okNilI⟩ Tryd.func13 rfl mixed [] (by kernel_rfl) 10000 (by rfl) (all_run _ _)
  · trivial
end Go.Proofs.YtaickooakoikaaaDoor
