import Derived.Test.YtldlbkkcjphjoaaXS
namespace Go.Proofs.Ytldlbkkcjphjoaa
open Go.RowKit Go.Sx
set_option linter.unusedSimpArgs false
set_option linter.unusedVariables false
set_option linter.unnecessarySimpa false
set_option maxRecDepth 100000
set_option maxHeartbeats 4000000
noncomputable def ams (L : List Hp) (n : Nd) : Hp → Bool := fun x => meets n x && eqC x (getF L n)
def OkF (x : SV) (b : Bool) : Prop := (x = .ff ∧ b = false) ∨ (x = .tt ∧ b = true) ∨ x = .bool b
theorem ams_f {L : List Hp} {n : Nd} {x : Hp} (h : meets n x = false) : ams L n x = false := by unfold ams; rw [h]; rfl
theorem ams_t {L : List Hp} {n : Nd} {x : Hp} (h : meets n x = true) : ams L n x = eqC x (getF L n) := by unfold ams; rw [h, Bool.true_and]
theorem getF_atMost {N : Nat} {L : List Hp} {n : Nd} (h : L.all (Hp.atMost N) = true) : (getF L n).atMost N = true := by
  unfold getF
  cases hf : findH n L with
  | none => simp [Hp.no, Hp.atMost]
  | some b => exact find_all h hf
theorem any_getD {α : Type} {p : α → Bool} {L : List α} {i : Nat} (hi : i < L.length) (d : α) (h : p (L.getD i d) = true) : L.any p = true := by
  rw [List.any_eq_true]
  exact ⟨L[i], List.getElem_mem hi, by simpa [List.getD_eq_getElem?_getD, hi] using h⟩
theorem any_not {α : Type} {p : α → Bool} {L : List α} (d : α) (h : ∀ i, i < L.length → p (L.getD i d) = false) : L.any p = false := by
  rw [List.any_eq_false]
  intro x hx
  obtain ⟨i, hi, rfl⟩ := List.getElem_of_mem hx
  have := h i hi
  simp [List.getD_eq_getElem?_getD, hi] at this
  simp [this]
theorem any_next {α : Type} {p : α → Bool} {L : List α} {j : Nat} (h : j < L.length) {d : α} : (L.take (j + 1)).any p = ((L.take j).any p || p (L.getD j d)) := by
  rw [List.take_succ_eq_append_getElem h, List.any_append]
  simp [List.getD_eq_getElem?_getD, h]
theorem find_spec (L : List Hp) (n : Nd) : met L n = L.any (meets n) ∧ (∀ i, i < L.length → meets n (L.getD i cH.dft) = true → (L.getD i cH.dft).mn ≤ (getF L n).mn) ∧ (met L n = true → L.any (ams L n) = true) ∧ (met L n = false → getF L n = Hp.no) := by
  have hp := find_part (n := n) (L := L) L.length (Nat.le_refl _)
  rw [List.take_length] at hp
  unfold met getF ams
  cases hf : findH n L with
  | none =>
    have h1 := hp.1 hf
    refine ⟨(any_not cH.dft h1).symm, fun i hi hm => ?_, fun h => (by cases h), fun _ => rfl⟩
    rw [h1 i hi] at hm; cases hm
  | some b =>
    obtain ⟨⟨i, hi, hb⟩, hm, ha⟩ := hp.2 b hf
    refine ⟨(any_getD hi cH.dft (by rw [← hb]; exact hm)).symm, ha, fun _ => any_getD hi cH.dft ?_, fun h => (by cases h)⟩
    rw [← hb, hm, Bool.true_and]
    show eqC b ((findH n L).getD Hp.no) = true
    rw [hf]
    exact eqC_t rfl
theorem meets_1 {n : Nd} {x : Hp} (h : (x.id == n.a) = false) : meets n x = false := by unfold meets; rw [h]; rfl
theorem meets_2 {n : Nd} {x : Hp} (h : (x.mj == n.b) = false) : meets n x = false := by unfold meets; rw [h]; simp
theorem meets_3 {n : Nd} {x : Hp} (h : decide (x.mn < n.c) = true) : meets n x = false := by
  unfold meets
  have := of_decide_eq_true h
  rw [decide_eq_false (by omega : ¬ n.c ≤ x.mn)]; simp
theorem meets_t {n : Nd} {x : Hp} (h1 : (x.id == n.a) = true) (h2 : (x.mj == n.b) = true) (h3 : decide (x.mn < n.c) = false) : meets n x = true := by
  unfold meets
  have := of_decide_eq_false h3
  rw [h1, h2, decide_eq_true (by omega : n.c ≤ x.mn)]; rfl
theorem bb_3 {K : X → List SV → List Blk → Prop} {Q : List SV → List Blk → Prop} (L : List Hp) (m : Hp) (n : Nd) (nm : ByteArray) (cx lo hi : Int) (fl : List Fd) (ns : List Nd) (hL : L.length ≤ 2000) (hLw : L.all (Hp.atMost 2000) = true) (hmw : m.atMost 2000 = true) (hnm : nm.size ≤ 16000) (hfl : fl.length ≤ 2000) (hns : ns.length ≤ 2000) (hR : ∀ F M, nth F 8 = some .tt → K .ret F M) (hB : ∀ F M b, b = true → nth F 8 = some (.bool b) → K .ret F M) (hQ : Q (mkFrom [(0, .sl 0 9 0 L.length), (5, .ptr 4 0), (6, .ptr 5 0), (7, .ptr 6 0), (9, .ptr 8 0), (10, .bool (met L n))] (fun _ => .junk) 219 0) [.fz 9 L.length (cH.g L), .fz 4 m.args.length (cA.g m.args), .fz 4 fl.length (gOf eF fl), .fz 3 ns.length (gOf eN ns), .cells 29 [.int .i64 m.id, .int .i64 m.mj, .int .i64 m.mn, .int .u8 m.core, .sl 1 4 0 m.args.length, .int .u8 m.rk, .int .i64 m.rlo, .int .i64 m.rhi, .int .i64 m.rsz], .cells 31 [.int .i64 n.a, .int .i64 n.b, .int .i64 n.c], .cells 35 [.val (.string nm), .int .i64 cx, .sl 2 4 0 fl.length, .sl 3 3 0 ns.length, .int .i64 lo, .int .i64 hi], .fz 4 (getF L n).args.length (cA.g (getF L n).args), .cells 29 [.int .i64 (getF L n).id, .int .i64 (getF L n).mj, .int .i64 (getF L n).mn, .int .u8 (getF L n).core, .sl 7 4 0 (getF L n).args.length, .int .u8 (getF L n).rk, .int .i64 (getF L n).rlo, .int .i64 (getF L n).rhi, .int .i64 (getF L n).rsz]]) : run Try.prog ⟨[(4, k_awake), (5, k_hof), (6, k_tof), (7, k_find), (8, k_shelp)], eqs, [], [], [], mixs, meqs, [(9, k_all)]⟩ 10000 [(10, 26, [0, 0, 3, 7, 15, 0, 32, 127, 255, 511, 511, 2047, 4095, 8191, 511, 16895, 65535, 131071, 262143, 524287, 524287, 2097151, 4194303, 8388607, 524287, 17301503, 67108863, 134217727]), (12, 7, [0, 1, 3, 3, 15, 31, 3, 127, 255, 511]), (13, 7, [0, 0, 3, 7, 15, 0, 32, 127]), (33, 8, [0, 1, 3, 7, 7, 7, 55, 119, 255, 511, 1023]), (17, 1000, [4, 5])] 0 (takeC 4 (dropC 3 (bodyOf Try.f3))) (mkFrom [(0, .sl 0 9 0 L.length), (5, .ptr 4 0), (6, .ptr 5 0), (7, .ptr 6 0)] (fun _ => .junk) 219 0) [.fz 9 L.length (cH.g L), .fz 4 m.args.length (cA.g m.args), .fz 4 fl.length (gOf eF fl), .fz 3 ns.length (gOf eN ns), .cells 29 [.int .i64 m.id, .int .i64 m.mj, .int .i64 m.mn, .int .u8 m.core, .sl 1 4 0 m.args.length, .int .u8 m.rk, .int .i64 m.rlo, .int .i64 m.rhi, .int .i64 m.rsz], .cells 31 [.int .i64 n.a, .int .i64 n.b, .int .i64 n.c], .cells 35 [.val (.string nm), .int .i64 cx, .sl 2 4 0 fl.length, .sl 3 3 0 ns.length, .int .i64 lo, .int .i64 hi]] (forgetK [0, 5, 6, 7, 9, 10] Q K) := by
  generalize hKQ : forgetK [0, 5, 6, 7, 9, 10] Q K = KQ
  have hby : Try.prog.types[29].bytes = 88 := by kernel_rfl
  (conv => whnf)
  (repeat' (first | (refine step_t (by first | rfl | assumption) ?_; (conv => whnf)) | (refine step_f (by first | rfl | assumption) ?_; (conv => whnf)) | (refine step_nt (by assumption) ?_; (conv => whnf)) | (refine step_nf (by assumption) ?_; (conv => whnf)) | (refine step_n (fun hb => ?_) (fun hb => ?_) <;> (first | contradiction | (conv => whnf))) | (refine And.intro (fun hb => ?_) (fun hb => ?_) <;> (first | contradiction | (conv => whnf))) | (refine And.intro ?_ ?_; rotate_left 1; (conv => whnf)) | (intro hb; (conv => whnf))))
  all_goals try (simp only [decH_sh, isH_sh, nd_eta, getF_eq, met_eq] at *)
  all_goals first
  | rfl
  | (simp; done)
  | (rw [Bool.and_eq_true]; exact ⟨decide_eq_true (by omega), all_mono (by omega) hLw⟩)
  | skip
  refine .inr ⟨[], [0, 5, 6, 7, 9, 10, 11, 12, 13], fun k vals M => ∃ (j : Nat) (x11 x12 : SV), j ≤ L.length ∧ k = L.length - j ∧ ((x11 = .ff ∧ (L.take j).any (meets n) = false) ∨ (x11 = .tt ∧ (L.take j).any (meets n) = true)) ∧ OkF x12 ((L.take j).any (ams L n)) ∧ vals = [.sl 0 9 0 L.length, .ptr 4 0, .ptr 5 0, .ptr 6 0, .ptr 8 0, .bool (met L n), x11, x12, .int .i64 (j : Int)] ∧ M = [.fz 9 L.length (cH.g L), .fz 4 m.args.length (cA.g m.args), .fz 4 fl.length (gOf eF fl), .fz 3 ns.length (gOf eN ns), .cells 29 [.int .i64 m.id, .int .i64 m.mj, .int .i64 m.mn, .int .u8 m.core, .sl 1 4 0 m.args.length, .int .u8 m.rk, .int .i64 m.rlo, .int .i64 m.rhi, .int .i64 m.rsz], .cells 31 [.int .i64 n.a, .int .i64 n.b, .int .i64 n.c], .cells 35 [.val (.string nm), .int .i64 cx, .sl 2 4 0 fl.length, .sl 3 3 0 ns.length, .int .i64 lo, .int .i64 hi], .fz 4 (getF L n).args.length (cA.g (getF L n).args), .cells 29 [.int .i64 (getF L n).id, .int .i64 (getF L n).mj, .int .i64 (getF L n).mn, .int .u8 (getF L n).core, .sl 7 4 0 (getF L n).args.length, .int .u8 (getF L n).rk, .int .i64 (getF L n).rlo, .int .i64 (getF L n).rhi, .int .i64 (getF L n).rsz]], ?_⟩
  conv => whnf
  refine And.intro ⟨L.length, [.fz 9 L.length (cH.g L), .fz 4 m.args.length (cA.g m.args), .fz 4 fl.length (gOf eF fl), .fz 3 ns.length (gOf eN ns), .cells 29 [.int .i64 m.id, .int .i64 m.mj, .int .i64 m.mn, .int .u8 m.core, .sl 1 4 0 m.args.length, .int .u8 m.rk, .int .i64 m.rlo, .int .i64 m.rhi, .int .i64 m.rsz], .cells 31 [.int .i64 n.a, .int .i64 n.b, .int .i64 n.c], .cells 35 [.val (.string nm), .int .i64 cx, .sl 2 4 0 fl.length, .sl 3 3 0 ns.length, .int .i64 lo, .int .i64 hi], .fz 4 (getF L n).args.length (cA.g (getF L n).args), .cells 29 [.int .i64 (getF L n).id, .int .i64 (getF L n).mj, .int .i64 (getF L n).mn, .int .u8 (getF L n).core, .sl 7 4 0 (getF L n).args.length, .int .u8 (getF L n).rk, .int .i64 (getF L n).rlo, .int .i64 (getF L n).rhi, .int .i64 (getF L n).rsz]], (mle_cons ble_refl (mle_cons ble_refl (mle_cons ble_refl (mle_cons ble_refl (mle_cons ble_refl (mle_cons ble_refl (mle_cons ble_refl (mle_cons ble_refl (mle_cons ble_refl mle_nil))))))))), rfl, rfl, 0, .ff, .ff, by omega, by omega, .inl ⟨rfl, rfl⟩, .inl ⟨rfl, rfl⟩, rfl, rfl⟩ ?_
  rintro k vals M1 ⟨j, x11, x12, hj, rfl, (⟨rfl, h11⟩ | ⟨rfl, h11⟩), (⟨rfl, h12⟩ | ⟨rfl, h12⟩ | rfl), rfl, rfl⟩
  all_goals (
    have hz : 0 + ((j : Int)).toNat = j := by omega
    obtain ⟨s1, s2, s3, s4⟩ := find_spec L n
    (conv => whnf)
    (repeat' (first | (refine step_t (by first | rfl | assumption) ?_; (conv => whnf)) | (refine step_f (by first | rfl | assumption) ?_; (conv => whnf)) | (refine step_nt (by assumption) ?_; (conv => whnf)) | (refine step_nf (by assumption) ?_; (conv => whnf)) | (refine step_n (fun hb => ?_) (fun hb => ?_) <;> (first | contradiction | (conv => whnf))) | (refine And.intro (fun hb => ?_) (fun hb => ?_) <;> (first | contradiction | (conv => whnf))) | (refine And.intro ?_ ?_; rotate_left 1; (conv => whnf)) | (intro hb; (conv => whnf))))
    all_goals try (simp only [hz, sh0, isH_cel, decH_cel, isH_no, decH_no] at *)
    all_goals first
    | rfl
    | (have hlt : j < L.length := (by
         have h9 : decide ((j : Int) < (L.length : Int)) = true := (by assumption)
         have := of_decide_eq_true h9
         omega)
       first
       | exact decide_eq_true hlt
       | (rw [Bool.and_eq_true]; exact ⟨decide_eq_true (by omega), decide_eq_true (by omega)⟩)
       | exact Hp.atMost_mono (by omega) (all_getD hLw hlt _)
       | (simp; done)
       | (cases hme : meets n (L.getD j cH.dft)
          all_goals first
          | (refine Bool.noConfusion ((meets_1 ?_).symm.trans hme); assumption)
          | (refine Bool.noConfusion ((meets_2 ?_).symm.trans hme); assumption)
          | (refine Bool.noConfusion ((meets_3 ?_).symm.trans hme); assumption)
          | (refine Bool.noConfusion ((meets_t ?_ ?_ ?_).symm.trans hme) <;> assumption)
          | (exfalso
             have h8 := of_decide_eq_true (p := (getF L n).mn < (L.getD j cH.dft).mn) (by assumption)
             have := s2 j hlt hme
             omega)
          | (refine ⟨L.length - (j + 1), [.fz 9 L.length (cH.g L), .fz 4 m.args.length (cA.g m.args), .fz 4 fl.length (gOf eF fl), .fz 3 ns.length (gOf eN ns), .cells 29 [.int .i64 m.id, .int .i64 m.mj, .int .i64 m.mn, .int .u8 m.core, .sl 1 4 0 m.args.length, .int .u8 m.rk, .int .i64 m.rlo, .int .i64 m.rhi, .int .i64 m.rsz], .cells 31 [.int .i64 n.a, .int .i64 n.b, .int .i64 n.c], .cells 35 [.val (.string nm), .int .i64 cx, .sl 2 4 0 fl.length, .sl 3 3 0 ns.length, .int .i64 lo, .int .i64 hi], .fz 4 (getF L n).args.length (cA.g (getF L n).args), .cells 29 [.int .i64 (getF L n).id, .int .i64 (getF L n).mj, .int .i64 (getF L n).mn, .int .u8 (getF L n).core, .sl 7 4 0 (getF L n).args.length, .int .u8 (getF L n).rk, .int .i64 (getF L n).rlo, .int .i64 (getF L n).rhi, .int .i64 (getF L n).rsz]], [0, 1, 2, 3, 4, 5, 6, 7, 8], by omega, rfl, (mle_cons ble_refl (mle_cons ble_refl (mle_cons ble_refl (mle_cons ble_refl (mle_cons ble_refl (mle_cons ble_refl (mle_cons ble_refl (mle_cons ble_refl (mle_cons ble_refl mle_nil))))))))), rfl, rfl, j + 1, .ff, .ff, by omega, rfl, ?_, ?_, ?_, rfl⟩
             rotate_left 2
             · (show [SV.sl 0 9 0 L.length, .ptr 4 0, .ptr 5 0, .ptr 6 0, .ptr 8 0, .bool (met L n), _, _, .int .i64 (IntKind.i64.wrap ((j : Int) + 1))] = _; rw [i64_of (n := (j : Int) + 1) (by omega) (by omega)]; try rfl)
             · rw [any_next hlt (d := cH.dft), hme, h11]; simp
             · rw [any_next hlt (d := cH.dft)]; first | (rw [ams_f hme, Bool.or_false]; first | exact .inl ⟨rfl, h12⟩ | exact .inr (.inl ⟨rfl, h12⟩) | exact .inr (.inr rfl)) | (rw [ams_t hme]; first | (rw [h12]; first | exact .inr (.inl ⟨rfl, rfl⟩) | exact .inr (.inr rfl)) | (have h9 : (L.take j).any (ams L n) = false := (by assumption); rw [h9]; exact .inr (.inr rfl)) | (have h9 : (L.take j).any (ams L n) = true := (by assumption); rw [h9]; exact .inr (.inl ⟨rfl, rfl⟩))))
          | (refine ⟨L.length - (j + 1), [.fz 9 L.length (cH.g L), .fz 4 m.args.length (cA.g m.args), .fz 4 fl.length (gOf eF fl), .fz 3 ns.length (gOf eN ns), .cells 29 [.int .i64 m.id, .int .i64 m.mj, .int .i64 m.mn, .int .u8 m.core, .sl 1 4 0 m.args.length, .int .u8 m.rk, .int .i64 m.rlo, .int .i64 m.rhi, .int .i64 m.rsz], .cells 31 [.int .i64 n.a, .int .i64 n.b, .int .i64 n.c], .cells 35 [.val (.string nm), .int .i64 cx, .sl 2 4 0 fl.length, .sl 3 3 0 ns.length, .int .i64 lo, .int .i64 hi], .fz 4 (getF L n).args.length (cA.g (getF L n).args), .cells 29 [.int .i64 (getF L n).id, .int .i64 (getF L n).mj, .int .i64 (getF L n).mn, .int .u8 (getF L n).core, .sl 7 4 0 (getF L n).args.length, .int .u8 (getF L n).rk, .int .i64 (getF L n).rlo, .int .i64 (getF L n).rhi, .int .i64 (getF L n).rsz]], [0, 1, 2, 3, 4, 5, 6, 7, 8], by omega, rfl, (mle_cons ble_refl (mle_cons ble_refl (mle_cons ble_refl (mle_cons ble_refl (mle_cons ble_refl (mle_cons ble_refl (mle_cons ble_refl (mle_cons ble_refl (mle_cons ble_refl mle_nil))))))))), rfl, rfl, j + 1, .ff, .tt, by omega, rfl, ?_, ?_, ?_, rfl⟩
             rotate_left 2
             · (show [SV.sl 0 9 0 L.length, .ptr 4 0, .ptr 5 0, .ptr 6 0, .ptr 8 0, .bool (met L n), _, _, .int .i64 (IntKind.i64.wrap ((j : Int) + 1))] = _; rw [i64_of (n := (j : Int) + 1) (by omega) (by omega)]; try rfl)
             · rw [any_next hlt (d := cH.dft), hme, h11]; simp
             · rw [any_next hlt (d := cH.dft)]; first | (rw [ams_f hme, Bool.or_false]; first | exact .inl ⟨rfl, h12⟩ | exact .inr (.inl ⟨rfl, h12⟩) | exact .inr (.inr rfl)) | (rw [ams_t hme]; first | (rw [h12]; first | exact .inr (.inl ⟨rfl, rfl⟩) | exact .inr (.inr rfl)) | (have h9 : (L.take j).any (ams L n) = false := (by assumption); rw [h9]; exact .inr (.inr rfl)) | (have h9 : (L.take j).any (ams L n) = true := (by assumption); rw [h9]; exact .inr (.inl ⟨rfl, rfl⟩))))
          | (refine ⟨L.length - (j + 1), [.fz 9 L.length (cH.g L), .fz 4 m.args.length (cA.g m.args), .fz 4 fl.length (gOf eF fl), .fz 3 ns.length (gOf eN ns), .cells 29 [.int .i64 m.id, .int .i64 m.mj, .int .i64 m.mn, .int .u8 m.core, .sl 1 4 0 m.args.length, .int .u8 m.rk, .int .i64 m.rlo, .int .i64 m.rhi, .int .i64 m.rsz], .cells 31 [.int .i64 n.a, .int .i64 n.b, .int .i64 n.c], .cells 35 [.val (.string nm), .int .i64 cx, .sl 2 4 0 fl.length, .sl 3 3 0 ns.length, .int .i64 lo, .int .i64 hi], .fz 4 (getF L n).args.length (cA.g (getF L n).args), .cells 29 [.int .i64 (getF L n).id, .int .i64 (getF L n).mj, .int .i64 (getF L n).mn, .int .u8 (getF L n).core, .sl 7 4 0 (getF L n).args.length, .int .u8 (getF L n).rk, .int .i64 (getF L n).rlo, .int .i64 (getF L n).rhi, .int .i64 (getF L n).rsz]], [0, 1, 2, 3, 4, 5, 6, 7, 8], by omega, rfl, (mle_cons ble_refl (mle_cons ble_refl (mle_cons ble_refl (mle_cons ble_refl (mle_cons ble_refl (mle_cons ble_refl (mle_cons ble_refl (mle_cons ble_refl (mle_cons ble_refl mle_nil))))))))), rfl, rfl, j + 1, .ff, .bool ((L.take j).any (ams L n)), by omega, rfl, ?_, ?_, ?_, rfl⟩
             rotate_left 2
             · (show [SV.sl 0 9 0 L.length, .ptr 4 0, .ptr 5 0, .ptr 6 0, .ptr 8 0, .bool (met L n), _, _, .int .i64 (IntKind.i64.wrap ((j : Int) + 1))] = _; rw [i64_of (n := (j : Int) + 1) (by omega) (by omega)]; try rfl)
             · rw [any_next hlt (d := cH.dft), hme, h11]; simp
             · rw [any_next hlt (d := cH.dft)]; first | (rw [ams_f hme, Bool.or_false]; first | exact .inl ⟨rfl, h12⟩ | exact .inr (.inl ⟨rfl, h12⟩) | exact .inr (.inr rfl)) | (rw [ams_t hme]; first | (rw [h12]; first | exact .inr (.inl ⟨rfl, rfl⟩) | exact .inr (.inr rfl)) | (have h9 : (L.take j).any (ams L n) = false := (by assumption); rw [h9]; exact .inr (.inr rfl)) | (have h9 : (L.take j).any (ams L n) = true := (by assumption); rw [h9]; exact .inr (.inl ⟨rfl, rfl⟩))))
          | (refine ⟨L.length - (j + 1), [.fz 9 L.length (cH.g L), .fz 4 m.args.length (cA.g m.args), .fz 4 fl.length (gOf eF fl), .fz 3 ns.length (gOf eN ns), .cells 29 [.int .i64 m.id, .int .i64 m.mj, .int .i64 m.mn, .int .u8 m.core, .sl 1 4 0 m.args.length, .int .u8 m.rk, .int .i64 m.rlo, .int .i64 m.rhi, .int .i64 m.rsz], .cells 31 [.int .i64 n.a, .int .i64 n.b, .int .i64 n.c], .cells 35 [.val (.string nm), .int .i64 cx, .sl 2 4 0 fl.length, .sl 3 3 0 ns.length, .int .i64 lo, .int .i64 hi], .fz 4 (getF L n).args.length (cA.g (getF L n).args), .cells 29 [.int .i64 (getF L n).id, .int .i64 (getF L n).mj, .int .i64 (getF L n).mn, .int .u8 (getF L n).core, .sl 7 4 0 (getF L n).args.length, .int .u8 (getF L n).rk, .int .i64 (getF L n).rlo, .int .i64 (getF L n).rhi, .int .i64 (getF L n).rsz]], [0, 1, 2, 3, 4, 5, 6, 7, 8], by omega, rfl, (mle_cons ble_refl (mle_cons ble_refl (mle_cons ble_refl (mle_cons ble_refl (mle_cons ble_refl (mle_cons ble_refl (mle_cons ble_refl (mle_cons ble_refl (mle_cons ble_refl mle_nil))))))))), rfl, rfl, j + 1, .ff, .bool (eqC (L.getD j cH.dft) (getF L n)), by omega, rfl, ?_, ?_, ?_, rfl⟩
             rotate_left 2
             · (show [SV.sl 0 9 0 L.length, .ptr 4 0, .ptr 5 0, .ptr 6 0, .ptr 8 0, .bool (met L n), _, _, .int .i64 (IntKind.i64.wrap ((j : Int) + 1))] = _; rw [i64_of (n := (j : Int) + 1) (by omega) (by omega)]; try rfl)
             · rw [any_next hlt (d := cH.dft), hme, h11]; simp
             · rw [any_next hlt (d := cH.dft)]; first | (rw [ams_f hme, Bool.or_false]; first | exact .inl ⟨rfl, h12⟩ | exact .inr (.inl ⟨rfl, h12⟩) | exact .inr (.inr rfl)) | (rw [ams_t hme]; first | (rw [h12]; first | exact .inr (.inl ⟨rfl, rfl⟩) | exact .inr (.inr rfl)) | (have h9 : (L.take j).any (ams L n) = false := (by assumption); rw [h9]; exact .inr (.inr rfl)) | (have h9 : (L.take j).any (ams L n) = true := (by assumption); rw [h9]; exact .inr (.inl ⟨rfl, rfl⟩))))
          | (refine ⟨L.length - (j + 1), [.fz 9 L.length (cH.g L), .fz 4 m.args.length (cA.g m.args), .fz 4 fl.length (gOf eF fl), .fz 3 ns.length (gOf eN ns), .cells 29 [.int .i64 m.id, .int .i64 m.mj, .int .i64 m.mn, .int .u8 m.core, .sl 1 4 0 m.args.length, .int .u8 m.rk, .int .i64 m.rlo, .int .i64 m.rhi, .int .i64 m.rsz], .cells 31 [.int .i64 n.a, .int .i64 n.b, .int .i64 n.c], .cells 35 [.val (.string nm), .int .i64 cx, .sl 2 4 0 fl.length, .sl 3 3 0 ns.length, .int .i64 lo, .int .i64 hi], .fz 4 (getF L n).args.length (cA.g (getF L n).args), .cells 29 [.int .i64 (getF L n).id, .int .i64 (getF L n).mj, .int .i64 (getF L n).mn, .int .u8 (getF L n).core, .sl 7 4 0 (getF L n).args.length, .int .u8 (getF L n).rk, .int .i64 (getF L n).rlo, .int .i64 (getF L n).rhi, .int .i64 (getF L n).rsz]], [0, 1, 2, 3, 4, 5, 6, 7, 8], by omega, rfl, (mle_cons ble_refl (mle_cons ble_refl (mle_cons ble_refl (mle_cons ble_refl (mle_cons ble_refl (mle_cons ble_refl (mle_cons ble_refl (mle_cons ble_refl (mle_cons ble_refl mle_nil))))))))), rfl, rfl, j + 1, .tt, .ff, by omega, rfl, ?_, ?_, ?_, rfl⟩
             rotate_left 2
             · (show [SV.sl 0 9 0 L.length, .ptr 4 0, .ptr 5 0, .ptr 6 0, .ptr 8 0, .bool (met L n), _, _, .int .i64 (IntKind.i64.wrap ((j : Int) + 1))] = _; rw [i64_of (n := (j : Int) + 1) (by omega) (by omega)]; try rfl)
             · rw [any_next hlt (d := cH.dft), hme, h11]; simp
             · rw [any_next hlt (d := cH.dft)]; first | (rw [ams_f hme, Bool.or_false]; first | exact .inl ⟨rfl, h12⟩ | exact .inr (.inl ⟨rfl, h12⟩) | exact .inr (.inr rfl)) | (rw [ams_t hme]; first | (rw [h12]; first | exact .inr (.inl ⟨rfl, rfl⟩) | exact .inr (.inr rfl)) | (have h9 : (L.take j).any (ams L n) = false := (by assumption); rw [h9]; exact .inr (.inr rfl)) | (have h9 : (L.take j).any (ams L n) = true := (by assumption); rw [h9]; exact .inr (.inl ⟨rfl, rfl⟩))))
          | (refine ⟨L.length - (j + 1), [.fz 9 L.length (cH.g L), .fz 4 m.args.length (cA.g m.args), .fz 4 fl.length (gOf eF fl), .fz 3 ns.length (gOf eN ns), .cells 29 [.int .i64 m.id, .int .i64 m.mj, .int .i64 m.mn, .int .u8 m.core, .sl 1 4 0 m.args.length, .int .u8 m.rk, .int .i64 m.rlo, .int .i64 m.rhi, .int .i64 m.rsz], .cells 31 [.int .i64 n.a, .int .i64 n.b, .int .i64 n.c], .cells 35 [.val (.string nm), .int .i64 cx, .sl 2 4 0 fl.length, .sl 3 3 0 ns.length, .int .i64 lo, .int .i64 hi], .fz 4 (getF L n).args.length (cA.g (getF L n).args), .cells 29 [.int .i64 (getF L n).id, .int .i64 (getF L n).mj, .int .i64 (getF L n).mn, .int .u8 (getF L n).core, .sl 7 4 0 (getF L n).args.length, .int .u8 (getF L n).rk, .int .i64 (getF L n).rlo, .int .i64 (getF L n).rhi, .int .i64 (getF L n).rsz]], [0, 1, 2, 3, 4, 5, 6, 7, 8], by omega, rfl, (mle_cons ble_refl (mle_cons ble_refl (mle_cons ble_refl (mle_cons ble_refl (mle_cons ble_refl (mle_cons ble_refl (mle_cons ble_refl (mle_cons ble_refl (mle_cons ble_refl mle_nil))))))))), rfl, rfl, j + 1, .tt, .tt, by omega, rfl, ?_, ?_, ?_, rfl⟩
             rotate_left 2
             · (show [SV.sl 0 9 0 L.length, .ptr 4 0, .ptr 5 0, .ptr 6 0, .ptr 8 0, .bool (met L n), _, _, .int .i64 (IntKind.i64.wrap ((j : Int) + 1))] = _; rw [i64_of (n := (j : Int) + 1) (by omega) (by omega)]; try rfl)
             · rw [any_next hlt (d := cH.dft), hme, h11]; simp
             · rw [any_next hlt (d := cH.dft)]; first | (rw [ams_f hme, Bool.or_false]; first | exact .inl ⟨rfl, h12⟩ | exact .inr (.inl ⟨rfl, h12⟩) | exact .inr (.inr rfl)) | (rw [ams_t hme]; first | (rw [h12]; first | exact .inr (.inl ⟨rfl, rfl⟩) | exact .inr (.inr rfl)) | (have h9 : (L.take j).any (ams L n) = false := (by assumption); rw [h9]; exact .inr (.inr rfl)) | (have h9 : (L.take j).any (ams L n) = true := (by assumption); rw [h9]; exact .inr (.inl ⟨rfl, rfl⟩))))
          | (refine ⟨L.length - (j + 1), [.fz 9 L.length (cH.g L), .fz 4 m.args.length (cA.g m.args), .fz 4 fl.length (gOf eF fl), .fz 3 ns.length (gOf eN ns), .cells 29 [.int .i64 m.id, .int .i64 m.mj, .int .i64 m.mn, .int .u8 m.core, .sl 1 4 0 m.args.length, .int .u8 m.rk, .int .i64 m.rlo, .int .i64 m.rhi, .int .i64 m.rsz], .cells 31 [.int .i64 n.a, .int .i64 n.b, .int .i64 n.c], .cells 35 [.val (.string nm), .int .i64 cx, .sl 2 4 0 fl.length, .sl 3 3 0 ns.length, .int .i64 lo, .int .i64 hi], .fz 4 (getF L n).args.length (cA.g (getF L n).args), .cells 29 [.int .i64 (getF L n).id, .int .i64 (getF L n).mj, .int .i64 (getF L n).mn, .int .u8 (getF L n).core, .sl 7 4 0 (getF L n).args.length, .int .u8 (getF L n).rk, .int .i64 (getF L n).rlo, .int .i64 (getF L n).rhi, .int .i64 (getF L n).rsz]], [0, 1, 2, 3, 4, 5, 6, 7, 8], by omega, rfl, (mle_cons ble_refl (mle_cons ble_refl (mle_cons ble_refl (mle_cons ble_refl (mle_cons ble_refl (mle_cons ble_refl (mle_cons ble_refl (mle_cons ble_refl (mle_cons ble_refl mle_nil))))))))), rfl, rfl, j + 1, .tt, .bool ((L.take j).any (ams L n)), by omega, rfl, ?_, ?_, ?_, rfl⟩
             rotate_left 2
             · (show [SV.sl 0 9 0 L.length, .ptr 4 0, .ptr 5 0, .ptr 6 0, .ptr 8 0, .bool (met L n), _, _, .int .i64 (IntKind.i64.wrap ((j : Int) + 1))] = _; rw [i64_of (n := (j : Int) + 1) (by omega) (by omega)]; try rfl)
             · rw [any_next hlt (d := cH.dft), hme, h11]; simp
             · rw [any_next hlt (d := cH.dft)]; first | (rw [ams_f hme, Bool.or_false]; first | exact .inl ⟨rfl, h12⟩ | exact .inr (.inl ⟨rfl, h12⟩) | exact .inr (.inr rfl)) | (rw [ams_t hme]; first | (rw [h12]; first | exact .inr (.inl ⟨rfl, rfl⟩) | exact .inr (.inr rfl)) | (have h9 : (L.take j).any (ams L n) = false := (by assumption); rw [h9]; exact .inr (.inr rfl)) | (have h9 : (L.take j).any (ams L n) = true := (by assumption); rw [h9]; exact .inr (.inl ⟨rfl, rfl⟩))))
          | (refine ⟨L.length - (j + 1), [.fz 9 L.length (cH.g L), .fz 4 m.args.length (cA.g m.args), .fz 4 fl.length (gOf eF fl), .fz 3 ns.length (gOf eN ns), .cells 29 [.int .i64 m.id, .int .i64 m.mj, .int .i64 m.mn, .int .u8 m.core, .sl 1 4 0 m.args.length, .int .u8 m.rk, .int .i64 m.rlo, .int .i64 m.rhi, .int .i64 m.rsz], .cells 31 [.int .i64 n.a, .int .i64 n.b, .int .i64 n.c], .cells 35 [.val (.string nm), .int .i64 cx, .sl 2 4 0 fl.length, .sl 3 3 0 ns.length, .int .i64 lo, .int .i64 hi], .fz 4 (getF L n).args.length (cA.g (getF L n).args), .cells 29 [.int .i64 (getF L n).id, .int .i64 (getF L n).mj, .int .i64 (getF L n).mn, .int .u8 (getF L n).core, .sl 7 4 0 (getF L n).args.length, .int .u8 (getF L n).rk, .int .i64 (getF L n).rlo, .int .i64 (getF L n).rhi, .int .i64 (getF L n).rsz]], [0, 1, 2, 3, 4, 5, 6, 7, 8], by omega, rfl, (mle_cons ble_refl (mle_cons ble_refl (mle_cons ble_refl (mle_cons ble_refl (mle_cons ble_refl (mle_cons ble_refl (mle_cons ble_refl (mle_cons ble_refl (mle_cons ble_refl mle_nil))))))))), rfl, rfl, j + 1, .tt, .bool (eqC (L.getD j cH.dft) (getF L n)), by omega, rfl, ?_, ?_, ?_, rfl⟩
             rotate_left 2
             · (show [SV.sl 0 9 0 L.length, .ptr 4 0, .ptr 5 0, .ptr 6 0, .ptr 8 0, .bool (met L n), _, _, .int .i64 (IntKind.i64.wrap ((j : Int) + 1))] = _; rw [i64_of (n := (j : Int) + 1) (by omega) (by omega)]; try rfl)
             · rw [any_next hlt (d := cH.dft), hme, h11]; simp
             · rw [any_next hlt (d := cH.dft)]; first | (rw [ams_f hme, Bool.or_false]; first | exact .inl ⟨rfl, h12⟩ | exact .inr (.inl ⟨rfl, h12⟩) | exact .inr (.inr rfl)) | (rw [ams_t hme]; first | (rw [h12]; first | exact .inr (.inl ⟨rfl, rfl⟩) | exact .inr (.inr rfl)) | (have h9 : (L.take j).any (ams L n) = false := (by assumption); rw [h9]; exact .inr (.inr rfl)) | (have h9 : (L.take j).any (ams L n) = true := (by assumption); rw [h9]; exact .inr (.inl ⟨rfl, rfl⟩))))))
    | (have hje : j = L.length := (by
         have h9 : decide ((j : Int) < (L.length : Int)) = false := (by assumption)
         have := of_decide_eq_false h9
         omega)
       first
       | (subst hKQ; refine use_forget [0, 1, 2, 3, 4, 5, 6, 7, 8] rfl (mle_cons ble_refl (mle_cons ble_refl (mle_cons ble_refl (mle_cons ble_refl (mle_cons ble_refl (mle_cons ble_refl (mle_cons ble_refl (mle_cons ble_refl (mle_cons ble_refl mle_nil))))))))) rfl (vals := [.sl 0 9 0 L.length, .ptr 4 0, .ptr 5 0, .ptr 6 0, .ptr 8 0, .bool (met L n)]) rfl rfl hQ; done)
       | exact Hp.atMost_mono (by omega) (getF_atMost hLw)
       | (simp; done)
       | (exfalso
          (repeat (revert hb))
          (try revert h12)
          revert h11
          simp only [hje, List.take_length, ← s1]
          clear hR hB hQ hKQ s1 s2 hje
          cases hm : met L n
          · have e4 := s4 hm
            (try rw [e4, eqC_t rfl])
            simp
          · have e3 := s3 hm
            (try rw [e3])
            simp
          done))
    | skip)

end Go.Proofs.Ytldlbkkcjphjoaa
