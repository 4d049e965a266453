import Derived.Test.YtldlbkkcjphjoaaXG
namespace Go.Proofs.Ytldlbkkcjphjoaa
open Go.RowKit Go.Sx
set_option linter.unusedSimpArgs false
set_option linter.unusedVariables false
set_option linter.unnecessarySimpa false
set_option maxRecDepth 100000
set_option maxHeartbeats 4000000
def mapsOf (most : Int) : List Ag → Int → Int
  | [], n => n
  | a :: l, n => if n ≤ most then mapsOf most l (IntKind.i64.wrap (n + a.maps.length)) else n
def hpsOf (most : Int) : List Hp → Int → Int
  | [], n => n
  | h :: l, n => if n ≤ most then hpsOf most l (mapsOf most h.args (IntKind.i64.wrap (n + h.args.length))) else n
theorem drop_getD {α : Type} {L : List α} {j : Nat} (h : j < L.length) (d : α) : L.drop j = L.getD j d :: L.drop (j + 1) := by
  rw [List.drop_eq_getElem_cons h]; simp [List.getD_eq_getElem?_getD, h]
theorem hof_run (L : List Hp) (most : Int) (hL : L.length ≤ 140737488355328) (hW : L.all (Hp.atMost 140737488355328) = true) : run Try.prog ⟨[], eqs, [], [], [], mixs, meqs, []⟩ 10000 [] 0 (bodyOf Try.f5) (initF Try.f5 [.sl 0 9 0 L.length, .int .i64 most]) [.ro 9 L.length (cH.g L)] (retK Try.prog Try.f5 fun x _ => eqv x (.int .i64 (hpsOf most L L.length))) := by
  (conv => whnf)
  (repeat' (first | (refine And.intro (fun hb => ?_) (fun hb => ?_) <;> (first | contradiction | (conv => whnf))) | (refine And.intro ?_ ?_; rotate_left 1; (conv => whnf))))
  refine .inr ⟨[], [0, 1, 5, 6], fun k vals M => ∃ (j : Nat) (n : Int), j ≤ L.length ∧ k = L.length - j ∧ hpsOf most (L.drop j) n = hpsOf most L L.length ∧ vals = [.sl 0 9 0 L.length, .int .i64 most, .int .i64 n, .int .i64 (j : Int)] ∧ M = [.ro 9 L.length (cH.g L)], ?_⟩
  conv => whnf
  refine And.intro ⟨L.length, [.ro 9 L.length (cH.g L)], mle_cons ble_refl mle_nil, rfl, rfl, 0, _, by omega, by omega, rfl, rfl, rfl⟩ ?_
  rintro k vals M1 ⟨j, n, hj, rfl, he, rfl, rfl⟩
  have hz : 0 + ((j : Int)).toNat = j := by omega
  (conv => whnf)
  (repeat' (first | (refine And.intro (fun hb => ?_) (fun hb => ?_) <;> (first | contradiction | (conv => whnf))) | (refine And.intro ?_ ?_; rotate_left 1; (conv => whnf))))
  all_goals try (first | rfl | exact decide_eq_true rfl | (refine decide_eq_true ?_; omega) | (simp only [decide_eq_true_eq]; omega))
  all_goals try (simp only [decide_eq_true_eq, decide_eq_false_iff_not] at *)
  all_goals try (have hlt : j < L.length := by omega)
  all_goals try (first | exact decide_eq_true hlt | (rw [Bool.and_eq_true]; exact ⟨decide_eq_true (by omega), decide_eq_true (by omega)⟩) | omega)
  · have hwA := all_getD hW hlt cH.dft
    have hlA := Hp.atMost_len hwA
    have hmA := Hp.atMost_all hwA
    refine .inr ⟨[], [0, 1, 5, 6, 7], fun k vals M => ∃ (i : Nat) (m : Int), i ≤ (L.getD j cH.dft).args.length ∧ k = (L.getD j cH.dft).args.length - i ∧ mapsOf most ((L.getD j cH.dft).args.drop i) m = mapsOf most (L.getD j cH.dft).args (IntKind.i64.wrap (n + (L.getD j cH.dft).args.length)) ∧ vals = [.sl 0 9 0 L.length, .int .i64 most, .int .i64 m, .int .i64 (j : Int), .int .i64 (i : Int)] ∧ M = [.ro 9 L.length (cH.g L)], ?_⟩
    conv => whnf
    refine And.intro ⟨(L.getD j cH.dft).args.length, [.ro 9 L.length (cH.g L)], mle_cons ble_refl mle_nil, rfl, rfl, 0, _, by omega, by omega, rfl, by rw [hz]; rfl, rfl⟩ ?_
    rintro k vals M1 ⟨i, m, hi, rfl, hm, rfl, rfl⟩
    have hzi : 0 + ((i : Int)).toNat = i := by omega
    (conv => whnf)
    (repeat' (first | (refine And.intro (fun hb => ?_) (fun hb => ?_) <;> (first | contradiction | (conv => whnf))) | (refine And.intro ?_ ?_; rotate_left 1; (conv => whnf))))
    all_goals try (simp only [hz, hzi, decide_eq_true_eq, decide_eq_false_iff_not] at *)
    all_goals try (have hlti : i < (L.getD j cH.dft).args.length := by omega)
    all_goals try (first | rfl | omega | exact hlti | exact hlt | exact decide_eq_true hlt | (rw [Bool.and_eq_true]; exact ⟨decide_eq_true (by omega), decide_eq_true (by omega)⟩))
    · refine ⟨(L.getD j cH.dft).args.length - (i + 1), [.ro 9 L.length (cH.g L)], [0], by omega, rfl, mle_cons ble_refl mle_nil, rfl, rfl, i + 1, IntKind.i64.wrap (m + ((L.getD j cH.dft).args.getD i cA.dft).maps.length), by omega, rfl, ?_, ?_, rfl⟩
      · rw [← hm, drop_getD hlti cA.dft, mapsOf, if_pos (by assumption)]
      · show [SV.sl 0 9 0 L.length, .int .i64 most, .int .i64 _, .int .i64 (j : Int), .int .i64 (IntKind.i64.wrap ((i : Int) + 1))] = _
        rw [i64_of (n := (i : Int) + 1) (by omega) (by omega)]; rfl
    · refine ⟨L.length - (j + 1), [.ro 9 L.length (cH.g L)], [0], by omega, rfl, mle_cons ble_refl mle_nil, rfl, rfl, j + 1, m, by omega, rfl, ?_, ?_, rfl⟩
      · rw [← he, drop_getD hlt cH.dft, hpsOf, if_pos (by assumption), ← hm, drop_getD hlti cA.dft, mapsOf, if_neg (by assumption)]
      · show [SV.sl 0 9 0 L.length, .int .i64 most, .int .i64 _, .int .i64 (IntKind.i64.wrap ((j : Int) + 1))] = _
        rw [i64_of (n := (j : Int) + 1) (by omega) (by omega)]; rfl
    · obtain rfl : i = (L.getD j cH.dft).args.length := by omega
      refine ⟨L.length - (j + 1), [.ro 9 L.length (cH.g L)], [0], by omega, rfl, mle_cons ble_refl mle_nil, rfl, rfl, j + 1, m, by omega, rfl, ?_, ?_, rfl⟩
      · rw [← he, drop_getD hlt cH.dft, hpsOf, if_pos (by assumption), ← hm, List.drop_length, mapsOf]
      · show [SV.sl 0 9 0 L.length, .int .i64 most, .int .i64 _, .int .i64 (IntKind.i64.wrap ((j : Int) + 1))] = _
        rw [i64_of (n := (j : Int) + 1) (by omega) (by omega)]; rfl
  · rw [← he, drop_getD hlt cH.dft, hpsOf, if_neg (by assumption)]
  · obtain rfl : j = L.length := by omega
    rw [← he, List.drop_length, hpsOf]

theorem hof1_run (h : Hp) (most : Int) (hw : h.atMost 140737488355328 = true) : run Try.prog ⟨[], eqs, [], [], [], mixs, meqs, []⟩ 10000 [] 0 (bodyOf Try.f5) (initF Try.f5 [.sl 0 9 0 1, .int .i64 most]) [.rc 29 [.int .i64 h.id, .int .i64 h.mj, .int .i64 h.mn, .int .u8 h.core, .sl 1 4 0 h.args.length, .int .u8 h.rk, .int .i64 h.rlo, .int .i64 h.rhi, .int .i64 h.rsz], .ro 4 h.args.length (cA.g h.args)] (retK Try.prog Try.f5 fun x _ => eqv x (.int .i64 (hpsOf most [h] 1))) := by
  have hl := Hp.atMost_len hw
  (conv => whnf)
  (repeat' (first | (refine And.intro (fun hb => ?_) (fun hb => ?_) <;> (first | contradiction | (conv => whnf))) | (refine And.intro ?_ ?_; rotate_left 1; (conv => whnf))))
  refine .inl ⟨2, ?_⟩
  (conv => whnf)
  (repeat' (first | (refine And.intro (fun hb => ?_) (fun hb => ?_) <;> (first | contradiction | (conv => whnf))) | (refine And.intro ?_ ?_; rotate_left 1; (conv => whnf))))
  all_goals first
  | rfl
  | (exfalso; revert hb; decide)
  | exact ⟨rfl, rfl⟩
  | (simp only [decide_eq_false_iff_not] at hb; have hb' : ¬ (1 : Int) ≤ most := hb; show (1 : Int) = hpsOf most [h] 1; rw [hpsOf, if_neg hb']; done)
  | skip

  · simp only [decide_eq_true_eq] at hb
    refine .inr ⟨[], [0, 1, 5, 6, 7], fun k vals M => ∃ (i : Nat) (m : Int), i ≤ h.args.length ∧ k = h.args.length - i ∧ mapsOf most (h.args.drop i) m = mapsOf most h.args (IntKind.i64.wrap (1 + h.args.length)) ∧ vals = [.sl 0 9 0 1, .int .i64 most, .int .i64 m, .int .i64 0, .int .i64 (i : Int)] ∧ M = [.rc 29 [.int .i64 h.id, .int .i64 h.mj, .int .i64 h.mn, .int .u8 h.core, .sl 1 4 0 h.args.length, .int .u8 h.rk, .int .i64 h.rlo, .int .i64 h.rhi, .int .i64 h.rsz], .ro 4 h.args.length (cA.g h.args)], ?_⟩
    conv => whnf
    refine And.intro ⟨h.args.length, [.rc 29 [.int .i64 h.id, .int .i64 h.mj, .int .i64 h.mn, .int .u8 h.core, .sl 1 4 0 h.args.length, .int .u8 h.rk, .int .i64 h.rlo, .int .i64 h.rhi, .int .i64 h.rsz], .ro 4 h.args.length (cA.g h.args)], mle_cons ble_refl (mle_cons ble_refl mle_nil), rfl, rfl, 0, _, by omega, by omega, rfl, rfl, rfl⟩ ?_
    rintro k vals M1 ⟨i, m, hi, rfl, hm, rfl, rfl⟩
    have hzi : 0 + ((i : Int)).toNat = i := by omega
    (conv => whnf)
    (repeat' (first | (refine And.intro (fun hb => ?_) (fun hb => ?_) <;> (first | contradiction | (conv => whnf))) | (refine And.intro ?_ ?_; rotate_left 1; (conv => whnf))))
    all_goals try (simp only [hzi, decide_eq_true_eq, decide_eq_false_iff_not] at *)
    all_goals first
    | rfl
    | assumption
    | (exfalso; rename_i hx; revert hx; decide)
    | omega
    | (rw [Bool.and_eq_true]; exact ⟨decide_eq_true (by omega), decide_eq_true (by omega)⟩)
    | (refine ⟨h.args.length - (i + 1), [.rc 29 [.int .i64 h.id, .int .i64 h.mj, .int .i64 h.mn, .int .u8 h.core, .sl 1 4 0 h.args.length, .int .u8 h.rk, .int .i64 h.rlo, .int .i64 h.rhi, .int .i64 h.rsz], .ro 4 h.args.length (cA.g h.args)], [0, 1], by omega, rfl, mle_cons ble_refl (mle_cons ble_refl mle_nil), rfl, rfl, i + 1, IntKind.i64.wrap (m + (h.args.getD i cA.dft).maps.length), by omega, rfl, ?_, ?_, rfl⟩
       · rw [← hm, drop_getD (j := i) (by omega) cA.dft, mapsOf, if_pos (by assumption)]
       · show [SV.sl 0 9 0 1, .int .i64 most, .int .i64 _, .int .i64 0, .int .i64 (IntKind.i64.wrap ((i : Int) + 1))] = _
         rw [i64_of (n := (i : Int) + 1) (by omega) (by omega)]; rfl)
    | (have hb1 : (1 : Int) ≤ most := (by assumption)
       have hlt : i < h.args.length := (by omega)
       show m = hpsOf most [h] 1
       rw [hpsOf, if_pos hb1, hpsOf, ← hm, drop_getD hlt cA.dft, mapsOf, if_neg (by assumption)])
    | (have hb1 : (1 : Int) ≤ most := (by assumption)
       obtain rfl : i = h.args.length := (by omega)
       show m = hpsOf most [h] 1
       rw [hpsOf, if_pos hb1, hpsOf, ← hm, List.drop_length, mapsOf])

noncomputable def k_hof : List SV → List Blk → Res := fun args M => match topA eltB M args with
  | some (b, [.one x, .one (.int .i64 most)]) => .test b (.test (cH.isR 9 x) (.test (decide ((cH.decR 9 x).length ≤ 140737488355328) && (cH.decR 9 x).all (Hp.atMost 140737488355328)) (.ok (.int .i64 (hpsOf most (cH.decR 9 x) (cH.decR 9 x).length)) [])))
  | _ => match args with
    | [.sl k 9 0 1, .int .i64 most] => match nth M k with
      | some (.cells 29 [.int .i64 id, .int .i64 mj, .int .i64 mn, .int .u8 core, .sl a 4 0 m, .int .u8 rk, .int .i64 rlo, .int .i64 rhi, .int .i64 rsz]) => match eltB (nth M a) with
        | some (4, m', g) => .test (decide (m ≤ m') && cA.isR 4 (.row 4 m g)) (.test (holds (∀ i, i < m → cA.g (cA.decR 4 (.row 4 m g)) i = g i)) (.test (Hp.atMost 140737488355328 ⟨id, mj, mn, core, cA.decR 4 (.row 4 m g), rk, rlo, rhi, rsz⟩) (.ok (.int .i64 (hpsOf most [⟨id, mj, mn, core, cA.decR 4 (.row 4 m g), rk, rlo, rhi, rsz⟩] 1)) [])))
        | _ => .fail
      | _ => .fail
    | _ => .fail
theorem k_hof_ok : CtrOk Try.prog Gw 5 k_hof := by
  refine ⟨fun _ _ => by kernel_rfl, fun args M => ?_⟩
  unfold k_hof
  split
  · rename_i b x most hv
    intro hb hi hw
    simp only [Bool.and_eq_true, decide_eq_true_eq] at hw
    exact ctr_top (Γ := ⟨[], eqs, [], [], [], mixs, meqs, []⟩) st_Gw ⟨okNil, eqs_ok, okNilB, okNilI, okNilP, mixs_ok, meqs_ok, okNilY⟩ Try.func5 rfl mixed [] (by kernel_rfl) 10000 [.one (.row 9 (cH.decR 9 x).length (cH.g (cH.decR 9 x))), .one (.int .i64 most)] hv hb (avcons (Cel.isR_dec hi) (AVEqL.refl _)) rfl (hof_run _ _ hw.1 hw.2)
  · split
    · rename_i k most hno
      split
      · rename_i id mj mn core a m rk rlo rhi rsz hk
        split
        · rename_i m' g ha
          intro h1 h2 hw
          simp only [Bool.and_eq_true, decide_eq_true_eq] at h1
          have h2 := holds_is h2
          have hml : m = (cA.decR 4 (.row 4 m g)).length := by
            rcases (Cel.isR_dec h1.2).inv_row rfl with ⟨e, _⟩ | ⟨s1, g1, e, _⟩
            · cases e
            · injection e
          simp only [nth_eq] at hk ha
          obtain ⟨bc, hbc⟩ : ∃ bc, M[a]? = some bc := by
            cases hq : M[a]? with
            | none => rw [hq] at ha; cases ha
            | some bc => exact ⟨bc, rfl⟩
          rw [hbc] at ha
          have hrun := hof1_run ⟨id, mj, mn, core, cA.decR 4 (.row 4 m g), rk, rlo, rhi, rsz⟩ most hw
          simp only [← hml] at hrun
          exact ctr_sel (Γ := ⟨[], eqs, [], [], [], mixs, meqs, []⟩) st_Gw ⟨okNil, eqs_ok, okNilB, okNilI, okNilP, mixs_ok, meqs_ok, okNilY⟩ Try.func5 rfl mixed [] (by kernel_rfl) 10000 [k, a] [.sl 0 9 0 1, .int .i64 most] [.rc 29 [.int .i64 id, .int .i64 mj, .int .i64 mn, .int .u8 core, .sl 1 4 0 m, .int .u8 rk, .int .i64 rlo, .int .i64 rhi, .int .i64 rsz], .ro 4 m (cA.g (cA.decR 4 (.row 4 m g)))] (fun ρ => rfl) rfl ⟨⟨_, hk, _, .inl rfl, fun ρ => rfl⟩, ⟨_, hbc, _, _, ha, h1.1, h2⟩, trivial⟩ hrun
        · trivial
      · trivial
    · trivial
/-- What is not too much is short. -/
theorem mapsOf_le : ∀ (l : List Ag) (n : Int), l.all (Ag.atMost 140737488355328) = true → 0 ≤ n → n ≤ 1000000000000000 → mapsOf 2000 l n ≤ 2000 → n ≤ 2000 ∧ n ≤ mapsOf 2000 l n ∧ l.all (Ag.atMost 2000) = true
  | [], n, _, _, _, h => ⟨h, Int.le_refl _, rfl⟩
  | a :: l, n, hw, h0, hn, h => by
    simp only [List.all_cons, Bool.and_eq_true] at hw
    have ha := Ag.atMost_len hw.1
    rw [mapsOf] at h ⊢
    split at h
    · rename_i hle
      rw [if_pos hle]
      rw [i64_of (by omega) (by omega)] at h ⊢
      obtain ⟨h1, h2, h3⟩ := mapsOf_le l _ hw.2 (by omega) (by omega) h
      refine ⟨hle, by omega, ?_⟩
      simp only [List.all_cons, Bool.and_eq_true]
      exact ⟨by simp only [Ag.atMost, decide_eq_true_eq]; omega, h3⟩
    · omega
theorem hpsOf_le : ∀ (l : List Hp) (n : Int), l.all (Hp.atMost 140737488355328) = true → 0 ≤ n → n ≤ 1000000000000000 → hpsOf 2000 l n ≤ 2000 → n ≤ 2000 ∧ n ≤ hpsOf 2000 l n ∧ l.all (Hp.atMost 2000) = true
  | [], n, _, _, _, h => ⟨h, Int.le_refl _, rfl⟩
  | a :: l, n, hw, h0, hn, h => by
    simp only [List.all_cons, Bool.and_eq_true] at hw
    have ha := Hp.atMost_len hw.1
    rw [hpsOf] at h ⊢
    split at h
    · rename_i hle
      rw [if_pos hle]
      rw [i64_of (n := n + a.args.length) (by omega) (by omega)] at h ⊢
      by_cases hm : mapsOf 2000 a.args (n + a.args.length) ≤ 2000
      · obtain ⟨m1, m2, m3⟩ := mapsOf_le a.args _ (Hp.atMost_all hw.1) (by omega) (by omega) hm
        obtain ⟨h1, h2, h3⟩ := hpsOf_le l _ hw.2 (by omega) (by omega) h
        refine ⟨hle, by omega, ?_⟩
        simp only [List.all_cons, Bool.and_eq_true]
        exact ⟨by simp only [Hp.atMost, Bool.and_eq_true, decide_eq_true_eq]; exact ⟨by omega, m3⟩, h3⟩
      · exfalso
        cases l with
        | nil => rw [hpsOf] at h; exact hm h
        | cons b l => rw [hpsOf, if_neg hm] at h; exact hm h
    · omega
end Go.Proofs.Ytldlbkkcjphjoaa
