import Derived.Test.YtaickooakoikaaaDoorX7
namespace Go.Proofs.YtaickooakoikaaaDoor
open Go.RowKit Go.Sx
set_option linter.unusedSimpArgs false
set_option linter.unusedVariables false
set_option linter.unnecessarySimpa false
set_option maxRecDepth 100000
set_option maxHeartbeats 4000000
theorem gApp_zero (L : List Tn) (g : Nat → List FV) : ∀ i, i < L.length → gOf eT L i = gApp 0 g (fun k => gOf eT L (0 + k)) i := by
  intro i hi; unfold gApp; simp
theorem elts_app (L : List Tn) (g : Nat → List FV) : elts eT 0 (0 + L.length) (gApp 0 g (fun k => gOf eT L (0 + k))) = L := by
  rw [Nat.zero_add, show elts eT 0 L.length (gApp 0 g (fun k => gOf eT L (0 + k))) = elts eT 0 L.length (gOf eT L) from ?_, elts_all]
  unfold elts; apply List.map_congr_left; intro i hi
  rw [Nat.zero_add, ← gApp_zero L g i (by simpa using hi)]
theorem allIs_app (L : List Tn) (g : Nat → List FV) : allIs eT 0 (0 + L.length) (gApp 0 g (fun k => gOf eT L (0 + k))) = true := by
  rw [Nat.zero_add, ← allIs_gOf eT L 0 L.length]
  unfold allIs; rw [List.all_eq_not_any_not, List.all_eq_not_any_not]
  congr 1
theorem joins_run (L : List Tn) (hL : L.length < 9223372036854775808) : run Tryd.prog ⟨[(9, k_awake), (10, k_Join), (11, k_rJoin)], eqs, []⟩ [(10, 8, [0, 0, 3, 7, 0, 0, 48, 112, 255]), (12, 3, [0, 0, 2, 7, 15])] 10000 (bodyOf Tryd.f3) (initF Tryd.f3 [.sl 0 2 0 L.length]) [.ro 2 L.length (gOf eT L)] (retK Tryd.prog Tryd.f3 fun x _ => eqv x (.bool true)) := by
  (conv => whnf)
  (repeat' (first | (refine And.intro (fun hb => ?_) (fun hb => ?_) <;> (first | contradiction | (conv => whnf))) | (refine And.intro ?_ ?_; rotate_left 1; (conv => whnf))))
  all_goals try (first | rfl | trivial | (simp; done) | (simp; omega) | (simp at hb ⊢; omega) | (simp only [decide_eq_true_eq, Bool.and_eq_true, Int.toNat_natCast] at *; omega))
  · have hm : L.length ≤ 300 := by simp at hb; omega
    refine ⟨[], [0, 2, 3, 4, 5], fun k vals M => ∃ j : Nat, j ≤ L.length ∧ k = L.length - j ∧ vals = [.sl 0 2 0 L.length, .ff, .sl 1 2 0 (0 + L.length), .ptr 2 0, .int .i64 (j : Int)] ∧ M = [.ro 2 L.length (gOf eT L), .own 26 2 (0 + L.length) (gOf eT L), .cells 26 [.u64 (T.join L).v, .u64 (T.join L).m]], ?_⟩
    conv => whnf
    refine And.intro ⟨L.length, [.ro 2 L.length (gOf eT L), .own 26 2 (0 + L.length) (gOf eT L), .cells 26 [.u64 (T.join L).v, .u64 (T.join L).m]], mle_cons ble_refl (mle_cons (ble_own rfl fun i hi => gApp_zero L _ i (by omega)) (mle_cons (ble_cells (by rw [elts_app])) mle_nil)), rfl, 0, by omega, by omega, rfl, rfl⟩ ?_
    rintro k vals M1 ⟨j, hj, rfl, rfl, rfl⟩
    (conv => whnf)
    (repeat' (first | (refine And.intro (fun hb => ?_) (fun hb => ?_) <;> (first | contradiction | (conv => whnf))) | (refine And.intro ?_ ?_; rotate_left 1; (conv => whnf))))
    all_goals try (first | rfl | trivial | (simp; done) | (simp; omega) | (simp at hb ⊢; omega) | (simp only [decide_eq_true_eq, Bool.and_eq_true, Int.toNat_natCast] at *; omega))
    · simp at hb
    · have hlt : j < L.length := by simpa using ‹decide ((j : Int) < (L.length : Int)) = true›
      refine ⟨L.length - (j + 1), [.ro 2 L.length (gOf eT L), .own 26 2 (0 + L.length) (gOf eT L), .cells 26 [.u64 (T.join L).v, .u64 (T.join L).m]], by omega, mle_cons ble_refl (mle_cons ble_refl (mle_cons ble_refl mle_nil)), rfl, j + 1, by omega, rfl, ?_, rfl⟩
      rw [← wrap_succ (by omega)]; rfl
    · rw [elts_all]; simp
    · rw [allIs_gOf]; simp; omega
  · have hm : L.length ≤ 300 := by simp at hb; omega
    rw [allIs_app]; simp; omega
  · have hm : L.length ≤ 300 := by simp at hb; omega
    have h2 : Tryd.prog.types[26]!.bytes = 16 := by kernel_rfl
    rw [decide_eq_true_eq]
    exact ⟨by show (_ + _) * Tryd.prog.types[26]!.bytes ≤ _; rw [h2]; omega, by omega⟩
theorem w_TnumJoins (l : Option Sx.Loc) (len : Nat) (X Y : Nat → BitVec 64) (w : World) (hT : Tab w) (hn : len < 9223372036854775808)
    (hM : ∀ g : Nat → List FV, (∀ i, i < len → g i = [.u64 (X i), .u64 (Y i)]) → MRel ⟨w.heap.size, []⟩ (fun i => if i = 0 then l else none) [.ro 2 len g] w) :
    Calls Tryd.prog 3 #[SV.den (fun i => if i = 0 then l else none) (.sl 0 2 0 len)] w (Ret w (.bool true)) := by
  have hl : ((List.range len).map fun i => (⟨X i, Y i⟩ : Tn)).length = len := by simp
  have hr := joins_run ((List.range len).map fun i => (⟨X i, Y i⟩ : Tn)) (by rw [hl]; exact hn)
  rw [hl] at hr
  refine (calls_run (Γ := ⟨[(9, k_awake), (10, k_Join), (11, k_rJoin)], eqs, []⟩) st_Gw ⟨(okCons k_awake_ok (okCons k_Join_ok (okCons k_rJoin_ok okNil))), eqs_ok, okNilB⟩ Tryd.func3 rfl mixed [(10, 8, [0, 0, 3, 7, 0, 0, 48, 112, 255]), (12, 3, [0, 0, 2, 7, 15])] (by kernel_rfl) 10000 (ρ0 := fun i => if i = 0 then l else none) hT (by rfl) (hM _ fun i hi => ?_) hr).mono ?_
  · simp [gOf, eT, List.getD_eq_getElem?_getD, hi]
  · rintro e w' ⟨ρ', x, M', rfl, hx, hM', hbel⟩
    exact ⟨congrArg Ending.returned (eqv_den hx ρ' (fun _ => none)), grow_mk hbel⟩
end Go.Proofs.YtaickooakoikaaaDoor
