import Derived.Test.YtnbcemeofhaogaaXG
import Derived.Test.YtnbcemeofhaogaaZY
namespace Go.Proofs.Ytnbcemeofhaogaa
open Go.RowKit Go.Sx
set_option linter.unusedSimpArgs false
set_option linter.unusedVariables false
set_option linter.unnecessarySimpa false
set_option maxRecDepth 100000
set_option maxHeartbeats 4000000
/-- A place below n. -/
def pick (x n : Int) : Int := if decide (n < 1) then 0 else if decide (Int.tmod x n < 0) then Int.tmod x n + n else Int.tmod x n
theorem pick_run (x n : Int) (hx : -9223372036854775808 ≤ x ∧ x ≤ 9223372036854775807) (hn : 0 ≤ n ∧ n ≤ 9223372036854775807) : run Try.prog ⟨[], eqs, [], [], [], mixs, meqs, []⟩ 10000 [] 0 (bodyOf Try.f10) (initF Try.f10 [.int .i64 x, .int .i64 n]) [] (retK Try.prog Try.f10 fun y _ => eqv y (.int .i64 (pick x n))) := by
  have hp : 0 < n → -n < Int.tmod x n ∧ Int.tmod x n < n := fun h => ⟨Int.lt_tmod_of_pos x h, Int.tmod_lt_of_pos x h⟩
  (conv => whnf)
  (repeat' (first | (refine step_t (by first | rfl | assumption) ?_; (conv => whnf)) | (refine step_f (by first | rfl | assumption) ?_; (conv => whnf)) | (refine step_nt (by assumption) ?_; (conv => whnf)) | (refine step_nf (by assumption) ?_; (conv => whnf)) | (refine step_n (fun hb => ?_) (fun hb => ?_) <;> (first | contradiction | (conv => whnf))) | (refine And.intro (fun hb => ?_) (fun hb => ?_) <;> (first | contradiction | (conv => whnf))) | (refine And.intro ?_ ?_; rotate_left 1; (conv => whnf))))
  all_goals try (simp only [decide_eq_true_eq, decide_eq_false_iff_not] at *)
  all_goals first
    | rfl
    | (show _ = pick x n; unfold pick; simp only [decide_eq_true_eq]; rw [if_pos (by assumption)])
    | (show _ = pick x n; have h9 := hp (by omega); unfold pick; simp only [decide_eq_true_eq]; rw [IntWalk.i64_in _ (by omega), if_neg (by assumption), if_pos (by assumption)])
    | (show _ = pick x n; unfold pick; simp only [decide_eq_true_eq]; rw [if_neg (by assumption), if_neg (by assumption)])
    | (rw [bne_iff_ne]; omega)
theorem pick_in {x n : Int} (hn : 0 < n) : 0 ≤ pick x n ∧ pick x n < n := by
  have h1 := Int.lt_tmod_of_pos x hn
  have h2 := Int.tmod_lt_of_pos x hn
  unfold pick
  rw [if_neg (by simp; omega)]
  split <;> rename_i h <;> simp only [decide_eq_true_eq] at h <;> omega
def k_Pick : List SV → List Blk → Res := fun args _ => match args with
  | [.int .i64 x, .int .i64 n] => .test ((decide (-9223372036854775808 ≤ x) && decide (x ≤ 9223372036854775807)) && (decide (0 ≤ n) && decide (n ≤ 9223372036854775807))) (.ok (.int .i64 (pick x n)) [])
  | _ => .fail
theorem k_Pick_ok : CtrOk Try.prog Gw 10 k_Pick := by
  refine ⟨fun _ _ => by kernel_rfl, fun args M => ?_⟩
  unfold k_Pick
  split
  · rename_i x n
    intro ht
    simp only [Bool.and_eq_true, decide_eq_true_eq] at ht
    exact ctr_flat (Γ := ⟨[], eqs, [], [], [], mixs, meqs, []⟩) (sv := .int .i64 (pick x n)) st_Gw ⟨okNil, eqs_ok, okNilB, okNilI, okNilP, mixs_ok, meqs_ok, okNilY⟩ Try.func10 rfl mixed [] (by kernel_rfl) 10000 (by rfl) (pick_run x n ht.1 ht.2)
  · trivial
theorem cpM_run (L : List Int) (hw : (decide (L.length ≤ 1099511627776)) = true) : run Try.prog ⟨[], eqs, [], [], [], mixs, meqs, []⟩ 10000 [] 0 (bodyOf Try.f86) (initF Try.f86 [.sl 0 1 0 L.length]) [.ro 1 L.length (gOf eB L)] (retK Try.prog Try.f86 (TellsC false [.one (.row 1 L.length (cB.g L))])) := by
  simp only [decide_eq_true_eq] at hw
  have hby : Try.prog.types[42].bytes = 1 := by kernel_rfl
  (conv => whnf)
  (repeat' (first | (refine And.intro (fun hb => ?_) (fun hb => ?_) <;> (first | contradiction | (conv => whnf))) | (refine And.intro ?_ ?_; rotate_left 1; (conv => whnf))))
  all_goals first
  | rfl
  | exact decide_eq_true (by omega)
  | (refine decide_eq_true ?_; rw [hby]; omega)
  | (refine ⟨[_], _, _, rfl, .inr rfl, rfl, ?_, ?_⟩
     · simp
     · exact avcons (Cel.row_of (c := cB) (by omega) fun i hi => by simp only [shiftG, gApp, Nat.not_lt_zero, decide_false, Nat.sub_zero, Nat.zero_add]; exact FVEqL.refl _) (AVEqL.refl []))
  | (have h0 : L.length = 0 := by
       have := of_decide_eq_false (by assumption : decide (0 < L.length) = false)
       omega
     obtain rfl := List.eq_nil_of_length_eq_zero h0
     exact ⟨[.val (.slice none 0 0)], _, _, rfl, .inr rfl, rfl, rfl, avcons FVEq.nil (AVEqL.refl [])⟩)
noncomputable def k_cpM : List SV → List Blk → Res := fun args M => match topA eltB M args with
  | some (b, [.one v0]) => .test b (.test (cB.isR 1 v0) (.test (decide ((cB.decR 1 v0).length ≤ 1099511627776)) (.ok (outA false (namA true M.length [.one (.row 1 (cB.decR 1 v0).length (cB.g (cB.decR 1 v0)))]).1) (namA true M.length [.one (.row 1 (cB.decR 1 v0).length (cB.g (cB.decR 1 v0)))]).2)))
  | _ => .fail
theorem k_cpM_ok : CtrOk Try.prog Gw 86 k_cpM := by
  refine ⟨fun _ _ => by kernel_rfl, fun args M => ?_⟩
  unfold k_cpM
  split
  · rename_i b v0 hv
    intro hb hi hw
    exact ctr_topc (Γ := ⟨[], eqs, [], [], [], mixs, meqs, []⟩) st_Gw ⟨okNil, eqs_ok, okNilB, okNilI, okNilP, mixs_ok, meqs_ok, okNilY⟩ Try.func86 rfl mixed [] (by kernel_rfl) 10000 [.one (.row 1 (cB.decR 1 v0).length (cB.g (cB.decR 1 v0)))] hv hb ⟨Cel.isR_dec (hi), trivial⟩ rfl false _ (cpM_run (cB.decR 1 v0) hw)
  · trivial
theorem cpA_run (a : Ag) (hw : (decide (a.maps.length ≤ 1099511627776)) = true) : run Try.prog ⟨[(86, k_cpM)], eqs, [], [], [], mixs, meqs, []⟩ 10000 [] 0 (bodyOf Try.f71) (initF Try.f71 [.agg [.int .u8 a.k, .int .i64 a.lo, .int .i64 a.hi, .sl 0 1 0 a.maps.length]]) [.ro 1 a.maps.length (gOf eB a.maps)] (retK Try.prog Try.f71 (TellsC false [.agg (celA a)])) := by
  simp only [decide_eq_true_eq] at hw
  (conv => whnf)
  (repeat' (first | (refine And.intro (fun hb => ?_) (fun hb => ?_) <;> (first | contradiction | (conv => whnf))) | (refine And.intro ?_ ?_; rotate_left 1; (conv => whnf))))
  all_goals try (simp only [decB_at, isB_at] at *)
  all_goals first
  | rfl
  | (simp; done)
  | exact decide_eq_true hw
  | (refine ⟨[_], _, _, rfl, .inr rfl, rfl, by simp, ?_⟩
     exact ⟨FVEqL.refl _, trivial⟩)
noncomputable def k_cpA : List SV → List Blk → Res := fun args M => match topA eltB M args with
  | some (b, [.agg v0]) => .test b (.test (cA.is v0) (.test (decide ((cA.dec v0).maps.length ≤ 1099511627776)) (.ok (outA false (namA true M.length [.agg (celA (cA.dec v0))]).1) (namA true M.length [.agg (celA (cA.dec v0))]).2)))
  | _ => .fail
theorem k_cpA_ok : CtrOk Try.prog Gw 71 k_cpA := by
  refine ⟨fun _ _ => by kernel_rfl, fun args M => ?_⟩
  unfold k_cpA
  split
  · rename_i b v0 hv
    intro hb hi hw
    exact ctr_topc (Γ := ⟨[(86, k_cpM)], eqs, [], [], [], mixs, meqs, []⟩) st_Gw ⟨(okCons k_cpM_ok okNil), eqs_ok, okNilB, okNilI, okNilP, mixs_ok, meqs_ok, okNilY⟩ Try.func71 rfl mixed [] (by kernel_rfl) 10000 [.agg (celA (cA.dec v0))] hv hb ⟨Cel.is_dec (hi), trivial⟩ rfl false _ (cpA_run (cA.dec v0) hw)
  · trivial
theorem cpArgs_run (L : List Ag) (hw : L.length ≤ 1099511627776) (hW : L.all (Ag.atMost 1099511627776) = true) : run Try.prog ⟨[(71, k_cpA)], eqs, [], [], [], mixs, meqs, []⟩ 10000 [] 0 (bodyOf Try.f33) (initF Try.f33 [.sl 0 4 0 L.length]) [.ro 4 L.length (cA.g L)] (retK Try.prog Try.f33 (Tells (.sl 0 4 0 L.length) [.own 40 4 L.length (cA.g L)])) := by
  have hby : Try.prog.types[40].bytes = 48 := by kernel_rfl
  have hsz : Try.prog.types[40].size = 4 := by kernel_rfl
  (conv => whnf)
  (repeat' (first | (refine And.intro (fun hb => ?_) (fun hb => ?_) <;> (first | contradiction | (conv => whnf))) | (refine And.intro ?_ ?_; rotate_left 1; (conv => whnf))))
  refine .inr ⟨[(3, 40, 4)], [0, 3, 4], fun k vals M => ∃ j : Nat, j ≤ L.length ∧ k = L.length - j ∧ vals = [.sl 0 4 0 L.length, .sl 1 4 0 j, .int .i64 (j : Int)] ∧ M = [.ro 4 L.length (cA.g L), .own 40 4 j (cA.g L)], ?_⟩
  conv => whnf
  refine And.intro ⟨L.length, [.ro 4 L.length (cA.g L), .own 40 4 0 (cA.g L)], mle_cons ble_refl (mle_cons (ble_own rfl fun i hi => absurd hi (Nat.not_lt_zero i)) mle_nil), rfl, rfl, 0, by omega, by omega, rfl, rfl⟩ ?_
  rintro k vals M1 ⟨j, hj, rfl, rfl, rfl⟩
  (conv => whnf)
  (repeat' (first | (refine And.intro (fun hb => ?_) (fun hb => ?_) <;> (first | contradiction | (conv => whnf))) | (refine And.intro ?_ ?_; rotate_left 1; (conv => whnf))))
  all_goals try (simp only [Int.toNat_natCast, Nat.zero_add, isA_at, decA_at] at *)
  all_goals try (have hlt : j < L.length := (by
    have h9 : decide ((j : Int) < (L.length : Int)) = true := (by assumption)
    have h8 := of_decide_eq_true h9
    omega))
  all_goals first
  | rfl
  | (simp; done)
  | exact hlt
  | exact decide_eq_true hlt
  | (rw [Bool.and_eq_true]; exact ⟨decide_eq_true (by omega), decide_eq_true hlt⟩)
  | exact decide_eq_true (Ag.atMost_len (all_getD hW hlt _))
  | exact decide_eq_true (by omega)
  | (refine decide_eq_true ?_; rw [hby]; omega)
  | (refine decide_eq_true ?_; rw [hsz]; show (1 : Nat) ≤ 4 / 4; decide)
  | (refine ⟨L.length - (j + 1), [.ro 4 L.length (cA.g L), .own 40 4 (j + 1) (cA.g L)], [0, 6], by omega, rfl, mle_cons ble_refl (mle_cons (ble_own_e rfl ?_) mle_nil), rfl, rfl, j + 1, by omega, rfl, ?_, rfl⟩
     · intro i hi
       unfold gApp
       by_cases hij : i < j
       · simp only [decide_eq_true hij]
         exact FVEqL.refl _
       · obtain rfl : i = j := by omega
         simp only [decide_eq_false hij, Nat.sub_self, hsz]
         exact FVEqL.refl _
     · show [SV.sl 0 4 0 L.length, .sl 1 4 0 (j + 1), .int .i64 (IntKind.i64.wrap ((j : Int) + 1))] = _
       rw [i64_of (n := (j : Int) + 1) (by omega) (by omega)]; rfl)
  | (obtain rfl : j = L.length := (by
       have h9 : decide ((j : Int) < (L.length : Int)) = false := (by assumption)
       have h8 := of_decide_eq_false h9
       omega)
     exact ⟨[1], rfl, mle_cons ble_refl mle_nil, _, rfl, fun _ => rfl⟩)

noncomputable def k_cpArgs : List SV → List Blk → Res := fun args M => match topA eltB M args with
  | some (b, [.one v]) => .test b (.test (cA.isR 4 v) (.test (decide ((cA.decR 4 v).length ≤ 1099511627776) && (cA.decR 4 v).all (Ag.atMost 1099511627776)) (.ok (shS M.length (.sl 0 4 0 (cA.decR 4 v).length)) ([Blk.own 40 4 (cA.decR 4 v).length (cA.g (cA.decR 4 v))].map (shB M.length)))))
  | _ => .fail
theorem k_cpArgs_ok : CtrOk Try.prog Gw 33 k_cpArgs := by
  refine ⟨fun _ _ => by kernel_rfl, fun args M => ?_⟩
  unfold k_cpArgs
  split
  · rename_i b v hv
    intro hb hi hw
    simp only [Bool.and_eq_true, decide_eq_true_eq] at hw
    exact ctr_topg (Γ := ⟨[(71, k_cpA)], eqs, [], [], [], mixs, meqs, []⟩) st_Gw ⟨(okCons k_cpA_ok okNil), eqs_ok, okNilB, okNilI, okNilP, mixs_ok, meqs_ok, okNilY⟩ Try.func33 rfl mixed [] (by kernel_rfl) 10000 [.one (.row 4 (cA.decR 4 v).length (cA.g (cA.decR 4 v)))] hv hb ⟨Cel.isR_dec hi, trivial⟩ rfl _ _ rfl rfl rfl rfl (cpArgs_run _ hw.1 hw.2)
  · trivial
theorem cpH_run (h : Hp) (hw : h.atMost 1099511627776 = true) : run Try.prog ⟨[(33, k_cpArgs)], eqs, [], [], [], mixs, meqs, []⟩ 10000 [] 0 (bodyOf Try.f12) (initF Try.f12 [.agg [.int .i64 h.id, .int .i64 h.mj, .int .i64 h.mn, .int .u8 h.core, .sl 0 4 0 h.args.length, .int .u8 h.rk, .int .i64 h.rlo, .int .i64 h.rhi, .int .i64 h.rsz]]) [.ro 4 h.args.length (cA.g h.args)] (retK Try.prog Try.f12 (Tells (.agg [.int .i64 h.id, .int .i64 h.mj, .int .i64 h.mn, .int .u8 h.core, .sl 0 4 0 h.args.length, .int .u8 h.rk, .int .i64 h.rlo, .int .i64 h.rhi, .int .i64 h.rsz]) [.own 40 4 h.args.length (cA.g h.args)])) := by
  have hlen := Hp.atMost_len hw
  have hall := Hp.atMost_all hw
  (conv => whnf)
  (repeat' (first | (refine And.intro (fun hb => ?_) (fun hb => ?_) <;> (first | contradiction | (conv => whnf))) | (refine And.intro ?_ ?_; rotate_left 1; (conv => whnf))))
  all_goals try (simp only [isLA, decLA] at *)
  all_goals first
  | rfl
  | (simp; done)
  | (rw [Bool.and_eq_true]; exact ⟨decide_eq_true hlen, hall⟩)
  | exact ⟨[1], rfl, mle_cons ble_refl mle_nil, _, rfl, fun _ => rfl⟩
  | exact ⟨[2], rfl, mle_cons ble_refl mle_nil, _, rfl, fun _ => rfl⟩
  | exact ⟨[3], rfl, mle_cons ble_refl mle_nil, _, rfl, fun _ => rfl⟩
  | exact ⟨[4], rfl, mle_cons ble_refl mle_nil, _, rfl, fun _ => rfl⟩

noncomputable def k_cpH : List SV → List Blk → Res := fun args M => match topA eltB M args with
  | some (b, [.agg v]) => .test b (.test (cH.is v) (.test ((cH.dec v).atMost 1099511627776) (.ok (shS M.length (.agg [.int .i64 (cH.dec v).id, .int .i64 (cH.dec v).mj, .int .i64 (cH.dec v).mn, .int .u8 (cH.dec v).core, .sl 0 4 0 (cH.dec v).args.length, .int .u8 (cH.dec v).rk, .int .i64 (cH.dec v).rlo, .int .i64 (cH.dec v).rhi, .int .i64 (cH.dec v).rsz])) ([Blk.own 40 4 (cH.dec v).args.length (cA.g (cH.dec v).args)].map (shB M.length)))))
  | _ => .fail
theorem k_cpH_ok : CtrOk Try.prog Gw 12 k_cpH := by
  refine ⟨fun _ _ => by kernel_rfl, fun args M => ?_⟩
  unfold k_cpH
  split
  · rename_i b v hv
    intro hb hi hw
    exact ctr_topg (Γ := ⟨[(33, k_cpArgs)], eqs, [], [], [], mixs, meqs, []⟩) st_Gw ⟨(okCons k_cpArgs_ok okNil), eqs_ok, okNilB, okNilI, okNilP, mixs_ok, meqs_ok, okNilY⟩ Try.func12 rfl mixed [] (by kernel_rfl) 10000 [.agg (celH (cH.dec v))] hv hb ⟨Cel.is_dec hi, trivial⟩ rfl _ _ rfl rfl rfl rfl (cpH_run _ hw)
  · trivial
end Go.Proofs.Ytnbcemeofhaogaa
