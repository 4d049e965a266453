import Derived.Test.YtldlbkkcjphjoaaXT
namespace Go.Proofs.Ytldlbkkcjphjoaa
open Go.RowKit Go.Sx
set_option linter.unusedSimpArgs false
set_option linter.unusedVariables false
set_option linter.unnecessarySimpa false
set_option maxRecDepth 100000
set_option maxHeartbeats 4000000
theorem find_more (L : List Hp) (m : Hp) (n : Nd) : findH n (L ++ [m]) = pickH n (findH n L) m := by
  unfold findH
  rw [List.foldl_append]; rfl
theorem more_t {L : List Hp} {m : Hp} {n : Nd} (h1 : meets n m = true) (h2 : met L n = false ∨ (getF L n).mn < m.mn) : met (L ++ [m]) n = true ∧ getF (L ++ [m]) n = m := by
  unfold met getF at *
  rw [find_more]
  cases hf : findH n L with
  | none => simp [pickH, h1]
  | some b =>
    rw [hf] at h2
    simp only [Option.isSome_some, Bool.true_eq_false, Option.getD_some, false_or] at h2
    simp [pickH, h1, h2]
theorem more_f {L : List Hp} {m : Hp} {n : Nd} (h : meets n m = false ∨ (met L n = true ∧ ¬ (getF L n).mn < m.mn)) : met (L ++ [m]) n = met L n ∧ getF (L ++ [m]) n = getF L n := by
  unfold met getF at *
  rw [find_more]
  cases hf : findH n L with
  | none =>
    rw [hf] at h
    simp at h
    simp [pickH, h]
  | some b =>
    rw [hf] at h
    simp only [Option.isSome_some, Option.getD_some, true_and] at h
    rcases h with h | h <;> simp [pickH, h]
theorem bb_8 {K : X → List SV → List Blk → Prop} {Q : List SV → List Blk → Prop} (L : List Hp) (m : Hp) (n : Nd) (nm : ByteArray) (cx lo hi : Int) (fl : List Fd) (ns : List Nd) (hL : L.length ≤ 2000) (hLw : L.all (Hp.atMost 2000) = true) (hmw : m.atMost 2000 = true) (hnm : nm.size ≤ 16000) (hfl : fl.length ≤ 2000) (hns : ns.length ≤ 2000) (hR : ∀ F M, nth F 8 = some .tt → K .ret F M) (hB : ∀ F M b, b = true → nth F 8 = some (.bool b) → K .ret F M) (hQ : Q (mkFrom [(0, .sl 0 9 0 L.length), (7, .ptr 3 0)] (fun _ => .junk) 219 0) [.fz 9 L.length (cH.g L), .fz 4 fl.length (gOf eF fl), .fz 3 ns.length (gOf eN ns), .cells 35 [.val (.string nm), .int .i64 cx, .sl 1 4 0 fl.length, .sl 2 3 0 ns.length, .int .i64 lo, .int .i64 hi]]) : run Try.prog ⟨[(4, k_awake), (5, k_hof), (6, k_tof), (7, k_find), (8, k_shelp)], eqs, [], [], [], mixs, meqs, [(9, k_all)]⟩ 10000 [(10, 26, [0, 0, 3, 7, 15, 0, 32, 127, 255, 511, 511, 2047, 4095, 8191, 511, 16895, 65535, 131071, 262143, 524287, 524287, 2097151, 4194303, 8388607, 524287, 17301503, 67108863, 134217727]), (12, 7, [0, 1, 3, 3, 15, 31, 3, 127, 255, 511]), (13, 7, [0, 0, 3, 7, 15, 0, 32, 127]), (33, 8, [0, 1, 3, 7, 7, 7, 55, 119, 255, 511, 1023]), (17, 1000, [4, 5])] 0 (takeC 2 (dropC 8 (bodyOf Try.f3))) (mkFrom [(0, .sl 0 9 0 L.length), (5, .ptr 4 0), (6, .ptr 5 0), (7, .ptr 6 0), (9, .ptr 8 0), (10, .bool (met L n)), (14, .ptr 10 0), (15, .bool (met (L ++ [m]) n))] (fun _ => .junk) 219 0) [.fz 9 L.length (cH.g L), .fz 4 m.args.length (cA.g m.args), .fz 4 fl.length (gOf eF fl), .fz 3 ns.length (gOf eN ns), .cells 29 [.int .i64 m.id, .int .i64 m.mj, .int .i64 m.mn, .int .u8 m.core, .sl 1 4 0 m.args.length, .int .u8 m.rk, .int .i64 m.rlo, .int .i64 m.rhi, .int .i64 m.rsz], .cells 31 [.int .i64 n.a, .int .i64 n.b, .int .i64 n.c], .cells 35 [.val (.string nm), .int .i64 cx, .sl 2 4 0 fl.length, .sl 3 3 0 ns.length, .int .i64 lo, .int .i64 hi], .fz 4 (getF L n).args.length (cA.g (getF L n).args), .cells 29 [.int .i64 (getF L n).id, .int .i64 (getF L n).mj, .int .i64 (getF L n).mn, .int .u8 (getF L n).core, .sl 7 4 0 (getF L n).args.length, .int .u8 (getF L n).rk, .int .i64 (getF L n).rlo, .int .i64 (getF L n).rhi, .int .i64 (getF L n).rsz], .fz 4 (getF (L ++ [m]) n).args.length (cA.g (getF (L ++ [m]) n).args), .cells 29 [.int .i64 (getF (L ++ [m]) n).id, .int .i64 (getF (L ++ [m]) n).mj, .int .i64 (getF (L ++ [m]) n).mn, .int .u8 (getF (L ++ [m]) n).core, .sl 9 4 0 (getF (L ++ [m]) n).args.length, .int .u8 (getF (L ++ [m]) n).rk, .int .i64 (getF (L ++ [m]) n).rlo, .int .i64 (getF (L ++ [m]) n).rhi, .int .i64 (getF (L ++ [m]) n).rsz]] (forgetK [0, 7] Q K) := by
  generalize hKQ : forgetK [0, 7] Q K = KQ
  (conv => whnf)
  (repeat' (first | (refine step_t (by first | rfl | assumption) ?_; (conv => whnf)) | (refine step_f (by first | rfl | assumption) ?_; (conv => whnf)) | (refine step_nt (by assumption) ?_; (conv => whnf)) | (refine step_nf (by assumption) ?_; (conv => whnf)) | (refine step_n (fun hb => ?_) (fun hb => ?_) <;> (first | contradiction | (conv => whnf))) | (refine And.intro (fun hb => ?_) (fun hb => ?_) <;> (first | contradiction | (conv => whnf))) | (refine And.intro ?_ ?_; rotate_left 1; (conv => whnf)) | (intro hb; (conv => whnf))))
  all_goals try (simp only [sh0, isH_cel, decH_cel] at *)
  all_goals first
  | (subst hKQ; refine use_forget [0, 2, 3, 6] rfl (mle_cons ble_refl (mle_cons ble_refl (mle_cons ble_refl (mle_cons ble_refl mle_nil)))) rfl (vals := [.sl 0 9 0 L.length, .ptr 3 0]) rfl rfl hQ; done)
  | exact Hp.atMost_mono (n := 2000) (by omega) (getF_atMost (by rw [List.all_append, hLw]; simpa using hmw))
  | (simp; done)
  | (exfalso
     clear hR hB hQ hKQ hL hLw hmw hnm hfl hns
     cases h1 : meets n m
     · obtain ⟨e1, e2⟩ := more_f (L := L) (.inl h1)
       (repeat (revert hb))
       rw [e1]
       (try rw [e2, eqC_t rfl])
       unfold meets at h1
       intros
       simp_all
       done
     · by_cases h2 : met L n = false ∨ (getF L n).mn < m.mn
       · obtain ⟨e1, e2⟩ := more_t h1 h2
         (repeat (revert hb))
         rw [e1]
         (try rw [e2, eqC_t rfl])
         unfold meets at h1
         intros
         simp_all
         try omega
       · obtain ⟨e1, e2⟩ := more_f (L := L) (m := m) (n := n) (.inr ⟨by simp at h2; exact h2.1, fun h => h2 (.inr h)⟩)
         (repeat (revert hb))
         rw [e1]
         (try rw [e2, eqC_t rfl])
         unfold meets at h1
         intros
         simp_all
         try omega)

end Go.Proofs.Ytldlbkkcjphjoaa
namespace Go.Proofs.Ytldlbkkcjphjoaa
open Go.RowKit Go.Sx
set_option linter.unusedSimpArgs false
set_option linter.unusedVariables false
set_option linter.unnecessarySimpa false
set_option maxRecDepth 100000
set_option maxHeartbeats 4000000
theorem bb_10 {K : X → List SV → List Blk → Prop} (L : List Hp) (nm : ByteArray) (cx lo hi : Int) (fl : List Fd) (ns : List Nd) (hL : L.length ≤ 2000) (hLw : L.all (Hp.atMost 2000) = true) (hnm : nm.size ≤ 16000) (hfl : fl.length ≤ 2000) (hns : ns.length ≤ 2000) (hR : ∀ F M, nth F 8 = some .tt → K .ret F M) (hB : ∀ F M b, b = true → nth F 8 = some (.bool b) → K .ret F M) : run Try.prog ⟨[(4, k_awake), (5, k_hof), (6, k_tof), (7, k_find), (8, k_shelp)], eqs, [], [], [], mixs, meqs, [(9, k_all)]⟩ 10000 [(10, 26, [0, 0, 3, 7, 15, 0, 32, 127, 255, 511, 511, 2047, 4095, 8191, 511, 16895, 65535, 131071, 262143, 524287, 524287, 2097151, 4194303, 8388607, 524287, 17301503, 67108863, 134217727]), (12, 7, [0, 1, 3, 3, 15, 31, 3, 127, 255, 511]), (13, 7, [0, 0, 3, 7, 15, 0, 32, 127]), (33, 8, [0, 1, 3, 7, 7, 7, 55, 119, 255, 511, 1023]), (17, 1000, [4, 5])] 0 (dropC 10 (bodyOf Try.f3)) (mkFrom [(0, .sl 0 9 0 L.length), (7, .ptr 3 0)] (fun _ => .junk) 219 0) [.fz 9 L.length (cH.g L), .fz 4 fl.length (gOf eF fl), .fz 3 ns.length (gOf eN ns), .cells 35 [.val (.string nm), .int .i64 cx, .sl 1 4 0 fl.length, .sl 2 3 0 ns.length, .int .i64 lo, .int .i64 hi]] K := by
  (conv => whnf)
  (repeat' (first | (refine step_t (by first | rfl | assumption) ?_; (conv => whnf)) | (refine step_f (by first | rfl | assumption) ?_; (conv => whnf)) | (refine step_nt (by assumption) ?_; (conv => whnf)) | (refine step_nf (by assumption) ?_; (conv => whnf)) | (refine step_n (fun hb => ?_) (fun hb => ?_) <;> (first | contradiction | (conv => whnf))) | (refine And.intro (fun hb => ?_) (fun hb => ?_) <;> (first | contradiction | (conv => whnf))) | (refine And.intro ?_ ?_; rotate_left 1; (conv => whnf)) | (intro hb; (conv => whnf))))
  all_goals try (simp only [sh0, allIs_gOf, elts_all, isH_row, decH_row] at *)
  all_goals first
  | (show K .ret _ _; exact hB _ _ _ (by rfl) rfl; done)
  | (show K .ret _ _; exfalso; revert hb; simp; done)
  | (simp only [Bool.and_eq_true, decide_eq_true_eq]; first | omega | exact ⟨by omega, all_mono (by omega) hLw⟩ | (refine ⟨?_, ?_, ?_⟩ <;> omega))
  | (simp; done)
  | skip
  have hall : ns.all (met L) = true := by assumption
  refine .inr ⟨[], [0, 7, 17, 19], fun k vals M => ∃ j : Nat, j ≤ ns.length ∧ k = ns.length - j ∧ vals = [.sl 0 9 0 L.length, .ptr 3 0, .sl 4 9 0 (ns.map (getF L)).length, .int .i64 (j : Int)] ∧ M = [.fz 9 L.length (cH.g L), .fz 4 fl.length (gOf eF fl), .fz 3 ns.length (gOf eN ns), .cells 35 [.val (.string nm), .int .i64 cx, .sl 1 4 0 fl.length, .sl 2 3 0 ns.length, .int .i64 lo, .int .i64 hi], .fz 9 (ns.map (getF L)).length (cH.g (ns.map (getF L)))], ?_⟩
  conv => whnf
  refine And.intro ⟨ns.length, [.fz 9 L.length (cH.g L), .fz 4 fl.length (gOf eF fl), .fz 3 ns.length (gOf eN ns), .cells 35 [.val (.string nm), .int .i64 cx, .sl 1 4 0 fl.length, .sl 2 3 0 ns.length, .int .i64 lo, .int .i64 hi], .fz 9 (ns.map (getF L)).length (cH.g (ns.map (getF L)))], (mle_cons ble_refl (mle_cons ble_refl (mle_cons ble_refl (mle_cons ble_refl (mle_cons ble_refl mle_nil))))), rfl, rfl, 0, by omega, by omega, rfl, rfl⟩ ?_
  rintro k vals M1 ⟨j, hj, rfl, rfl, rfl⟩
  have hml : (ns.map (getF L)).length = ns.length := List.length_map ..
  have hz : 0 + ((j : Int)).toNat = j := by omega
  (conv => whnf)
  (repeat' (first | (refine step_t (by first | rfl | assumption) ?_; (conv => whnf)) | (refine step_f (by first | rfl | assumption) ?_; (conv => whnf)) | (refine step_nt (by assumption) ?_; (conv => whnf)) | (refine step_nf (by assumption) ?_; (conv => whnf)) | (refine step_n (fun hb => ?_) (fun hb => ?_) <;> (first | contradiction | (conv => whnf))) | (refine And.intro (fun hb => ?_) (fun hb => ?_) <;> (first | contradiction | (conv => whnf))) | (refine And.intro ?_ ?_; rotate_left 1; (conv => whnf)) | (intro hb; (conv => whnf))))
  all_goals try (simp only [hz, sh0, isH_row, decH_row, isH_cel, decH_cel, nd_eta, getF_eq, met_eq] at *)
  all_goals try (show K .ret _ _; exact hR _ _ rfl; done)
  all_goals (
    have hlt : j < ns.length := by
      have h9 : decide ((j : Int) < ((ns.map (getF L)).length : Int)) = true := by assumption
      have := of_decide_eq_true h9
      omega
    have hmj : met L (ns.getD j eN.dft) = true := all_getD hall hlt _
    have hmg : (ns.map (getF L)).getD j cH.dft = getF L (ns.getD j eN.dft) := by
      simp [List.getD_eq_getElem?_getD, hlt]
    first
    | rfl
    | exact decide_eq_true hlt
    | exact decide_eq_true (by omega)
    | (rw [Bool.and_eq_true]; exact ⟨decide_eq_true (by omega), decide_eq_true (by omega)⟩)
    | (rw [Bool.and_eq_true]; exact ⟨decide_eq_true (by omega), all_mono (by omega) hLw⟩)
    | exact Hp.atMost_mono (n := 2000) (by omega) (getF_atMost hLw)
    | (simp; done)
    | (exfalso; (repeat (revert hb)); rw [hmj]; (try rw [hmg, eqC_t rfl]); simp; done)
    | (refine ⟨ns.length - (j + 1), [.fz 9 L.length (cH.g L), .fz 4 fl.length (gOf eF fl), .fz 3 ns.length (gOf eN ns), .cells 35 [.val (.string nm), .int .i64 cx, .sl 1 4 0 fl.length, .sl 2 3 0 ns.length, .int .i64 lo, .int .i64 hi], .fz 9 (ns.map (getF L)).length (cH.g (ns.map (getF L)))], [0, 1, 2, 3, 4], by omega, rfl, (mle_cons ble_refl (mle_cons ble_refl (mle_cons ble_refl (mle_cons ble_refl (mle_cons ble_refl mle_nil))))), rfl, rfl, j + 1, by omega, rfl, ?_, rfl⟩
       show [SV.sl 0 9 0 L.length, .ptr 3 0, .sl 4 9 0 (ns.map (getF L)).length, .int .i64 (IntKind.i64.wrap ((j : Int) + 1))] = _
       rw [i64_of (n := (j : Int) + 1) (by omega) (by omega)]; try rfl)
    | skip)

end Go.Proofs.Ytldlbkkcjphjoaa
