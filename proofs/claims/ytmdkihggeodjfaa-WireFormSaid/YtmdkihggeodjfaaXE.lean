import Derived.Test.YtmdkihggeodjfaaXD
namespace Go.Proofs.Ytmdkihggeodjfaa
open Go.RowKit Go.Sx
set_option linter.unusedSimpArgs false
set_option linter.unusedVariables false
set_option linter.unnecessarySimpa false
set_option maxRecDepth 100000
set_option maxHeartbeats 4000000
/-- The bytes that an argument is. -/
def bytesA : AV → Option (Bool × List Int)
  | .one (.row 1 n g) => some (allIs eB 0 n g, elts eB 0 n g)
  | .one (.val (.slice none 0 0)) => some (true, [])
  | _ => none
theorem bytesA_eq {a : AV} {c : Bool} {L : List Int} (h : bytesA a = some (c, L)) (hc : c = true) : AVEq a (.one (.row 1 L.length (gOf eB L))) := by
  unfold bytesA at h
  split at h
  · rename_i n g
    simp only [Option.some.injEq, Prod.mk.injEq] at h
    obtain ⟨rfl, rfl⟩ := h
    rw [elts_length]
    exact FVEq.of_rows fun i hi => by rw [gOf_elts eB hc i hi, Nat.zero_add]
  · simp only [Option.some.injEq, Prod.mk.injEq] at h
    obtain ⟨_, rfl⟩ := h
    exact FVEq.nil
  · cases h
def k_same : List SV → List Blk → Res := fun args M => match topA eltB M args with
  | some (b, [x, y]) => match bytesA x, bytesA y with
    | some (c, L), some (d, K) => .test b (.test (c && d) (.test (decide (L.length ≤ 1099511627776)) (.ok (.bool (L == K)) [])))
    | _, _ => .fail
  | _ => .fail
theorem same_run (L K : List Int) (hL : L.length ≤ 1099511627776) : run Try.prog ⟨[], eqs, [], [], [], mixs, meqs, []⟩ 10000 [(6, 8, [0, 0, 3, 7, 0, 0, 48, 112, 255])] 0 (bodyOf Try.f12) (initF Try.f12 [.sl 0 1 0 L.length, .sl 1 1 0 K.length]) [.ro 1 L.length (gOf eB L), .ro 1 K.length (gOf eB K)] (retK Try.prog Try.f12 fun x _ => eqv x (.bool (L == K))) := by
  (conv => whnf)
  (repeat' (first | (refine And.intro (fun hb => ?_) (fun hb => ?_) <;> (first | contradiction | (conv => whnf))) | (refine And.intro ?_ ?_; rotate_left 1; (conv => whnf))))
  · simp only [bne_iff_ne, ne_eq] at hb
    show (L == K) = false
    rw [beq_eq_false_iff_ne]
    rintro rfl
    exact hb rfl
  · have hlen : L.length = K.length := by simp only [bne_eq_false_iff_eq] at hb; omega
    refine .inr ⟨[], [0, 1, 5], fun k vals M => ∃ j : Nat, j ≤ L.length ∧ k = L.length - j ∧ L.take j = K.take j ∧ vals = [.sl 0 1 0 L.length, .sl 1 1 0 K.length, .int .i64 (j : Int)] ∧ M = [.ro 1 L.length (gOf eB L), .ro 1 K.length (gOf eB K)], ?_⟩
    conv => whnf
    refine And.intro ⟨L.length, [.ro 1 L.length (gOf eB L), .ro 1 K.length (gOf eB K)], mle_cons ble_refl (mle_cons ble_refl mle_nil), rfl, rfl, 0, by omega, by omega, by simp, rfl, rfl⟩ ?_
    rintro k vals M1 ⟨j, hj, rfl, he, rfl, rfl⟩
    have hz : 0 + ((j : Int)).toNat = j := by omega
    (conv => whnf)
    (repeat' (first | (refine And.intro (fun hb => ?_) (fun hb => ?_) <;> (first | contradiction | (conv => whnf))) | (refine And.intro ?_ ?_; rotate_left 1; (conv => whnf))))
    all_goals try (simp only [hz] at *)
    all_goals try (first | rfl | exact decide_eq_true rfl | (refine decide_eq_true ?_; omega) | (simp only [decide_eq_true_eq]; omega))
    all_goals try (have hlt : j < L.length := by simp only [decide_eq_true_eq] at *; omega)
    all_goals try (first | exact decide_eq_true hlt | exact decide_eq_true (by omega) | (rw [Bool.and_eq_true]; exact ⟨decide_eq_true (by omega), decide_eq_true (by omega)⟩))
    · rw [beq_eq_false_iff_ne]
      rintro rfl
      simp at hb
    · have hb' : L.getD j eB.dft = K.getD j eB.dft := by simpa using hb
      refine ⟨L.length - (j + 1), [.ro 1 L.length (gOf eB L), .ro 1 K.length (gOf eB K)], [0, 1], by omega, rfl, mle_cons ble_refl (mle_cons ble_refl mle_nil), rfl, rfl, j + 1, by omega, rfl, ?_, ?_, rfl⟩
      · rw [List.take_succ_eq_append_getElem hlt, List.take_succ_eq_append_getElem (by omega : j < K.length), he]
        simp only [List.getD_eq_getElem?_getD, List.getElem?_eq_getElem hlt, List.getElem?_eq_getElem (by omega : j < K.length), Option.getD_some] at hb'
        rw [hb']
      · show [SV.sl 0 1 0 L.length, .sl 1 1 0 K.length, .int .i64 (IntKind.i64.wrap ((j : Int) + 1))] = _
        rw [i64_of (n := (j : Int) + 1) (by omega) (by omega)]; rfl
    · have : j = L.length := by simp only [decide_eq_false_iff_not] at hb; omega
      subst this
      rw [List.take_length, hlen, List.take_length] at he
      rw [he]; simp
theorem k_same_ok : CtrOk Try.prog Gw 12 k_same := by
  refine ⟨fun _ _ => by kernel_rfl, fun args M => ?_⟩
  unfold k_same
  split
  · rename_i b x y hv
    split
    · rename_i c L d K h1 h2
      intro hb hcd hl
      simp only [Bool.and_eq_true, decide_eq_true_eq] at hcd hl
      exact ctr_top (Γ := ⟨[], eqs, [], [], [], mixs, meqs, []⟩) st_Gw ⟨okNil, eqs_ok, okNilB, okNilI, okNilP, mixs_ok, meqs_ok, okNilY⟩ Try.func12 rfl mixed [(6, 8, [0, 0, 3, 7, 0, 0, 48, 112, 255])] (by kernel_rfl) 10000 _ hv hb (avcons (bytesA_eq h1 hcd.1) (avcons (bytesA_eq h2 hcd.2) (AVEqL.refl []))) rfl (same_run L K hl)
    · trivial
  · trivial
end Go.Proofs.Ytmdkihggeodjfaa
