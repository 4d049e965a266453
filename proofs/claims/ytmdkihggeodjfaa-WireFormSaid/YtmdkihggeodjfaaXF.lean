import Derived.Test.YtmdkihggeodjfaaXE
namespace Go.Proofs.Ytmdkihggeodjfaa
open Go.RowKit Go.Sx
set_option linter.unusedSimpArgs false
set_option linter.unusedVariables false
set_option linter.unnecessarySimpa false
set_option maxRecDepth 100000
set_option maxHeartbeats 4000000
def k_Of : List SV → List Blk → Res := fun args _ => match args with
  | [.int .i64 n] => .ok (.agg [.int .u8 1, .int .i64 n, .val (.slice none 0 0), .val (.slice none 0 0)]) []
  | _ => .fail
theorem k_Of_ok : CtrOk Try.prog Gw 11 k_Of := by
  refine ⟨fun _ _ => by kernel_rfl, fun args M => ?_⟩
  unfold k_Of
  split
  · rename_i n
    refine ctr_flat (Γ := ⟨[], eqs, [], [], [], mixs, meqs, []⟩) (sv := .agg [.int .u8 1, .int .i64 n, .val (.slice none 0 0), .val (.slice none 0 0)]) st_Gw ⟨okNil, eqs_ok, okNilB, okNilI, okNilP, mixs_ok, meqs_ok, okNilY⟩ Try.func11 rfl mixed [] (by kernel_rfl) 10000 (by rfl) ?_
    (conv => whnf)
    (repeat' (first | (refine And.intro (fun hb => ?_) (fun hb => ?_) <;> (first | contradiction | (conv => whnf))) | (refine And.intro ?_ ?_; rotate_left 1; (conv => whnf))))
    all_goals (first | rfl | trivial | (simp [eqv, eqv1, eqvL1]; done))
  · trivial
/-- What Put tells. -/
def asP (t : Tr) : List AV := [.one (.row 1 t.puts.1.length (gOf eB t.puts.1)), .one (.int .i64 t.puts.2)]
noncomputable def k_Put : List SV → List Blk → Res := fun args M => match topA eltB M args with
  | some (b, [.agg l]) => .test b (.test (isT l && (decide ((decT l).sz ≤ 1099511627776) && decide ((decT l).put.length ≤ 1099511627776))) (.ok (outA true (namA true M.length (asP (decT l))).1) (namA true M.length (asP (decT l))).2))
  | _ => .fail
theorem Put_run (t : Tr) (hl : t.sz ≤ 1099511627776) (hp : t.put.length ≤ 1099511627776) : run Try.prog ⟨[(18, k_Right), (26, k_within)], eqs, [(27, k_put)], [], [], mixs, meqs, []⟩ 10000 [] 0 (bodyOf Try.f9) (initF Try.f9 [.agg [.int .u8 t.k, .int .i64 t.n, .sl 0 1 0 t.bs.length, .sl 1 4 0 t.kids.length]]) [.ro 1 t.bs.length (gOf eB t.bs), .ro 4 t.kids.length (gK t.kids)] (retK Try.prog Try.f9 (TellsC true (asP t))) := by
  have hs : isT [.int .u8 t.k, .int .i64 t.n, .row 1 t.bs.length (shiftG 0 (gOf eB t.bs)), .row 4 t.kids.length (shiftG 0 (gK t.kids))] = true := isT_gK' t
  have hd : decT [.int .u8 t.k, .int .i64 t.n, .row 1 t.bs.length (shiftG 0 (gOf eB t.bs)), .row 4 t.kids.length (shiftG 0 (gK t.kids))] = t := decT_gK t
  (conv => whnf)
  (repeat' (first | (refine And.intro (fun hb => ?_) (fun hb => ?_) <;> (first | contradiction | (conv => whnf))) | (refine And.intro ?_ ?_; rotate_left 1; (conv => whnf))))
  all_goals try (simp only [hs, hd] at *)
  all_goals try (first | rfl | exact decide_eq_true rfl | (refine decide_eq_true ?_; omega) | (simp only [decide_eq_true_eq]; omega))
  all_goals try (first | (rw [Bool.true_and]; exact decide_eq_true hl) | exact decide_eq_true hl | exact decide_eq_true hp | (simp; done))
  · have hh : t.puts = ([], 2) := by unfold Tr.puts; simp_all
    refine ⟨[.val (.slice none 0 0), .int .i64 2], _, _, rfl, .inl (by trivial), rfl, rfl, ?_⟩
    unfold asP; rw [hh]; exact avcons FVEq.nil (AVEqL.refl _)
  · have hh : t.puts = ([], 3) := by unfold Tr.puts; simp_all
    refine ⟨[.val (.slice none 0 0), .int .i64 3], _, _, rfl, .inl (by trivial), rfl, rfl, ?_⟩
    unfold asP; rw [hh]; exact avcons FVEq.nil (AVEqL.refl _)
  · have hh : t.puts = (t.put, 0) := by unfold Tr.puts; simp_all
    refine ⟨_, _, _, rfl, .inl (by trivial), rfl, ?_, ?_⟩
    · simp
    · unfold asP; rw [hh]; exact avcons (FVEq.refl _) (AVEqL.refl _)
theorem k_Put_ok : CtrOk Try.prog Gw 9 k_Put := by
  refine ⟨fun _ _ => by kernel_rfl, fun args M => ?_⟩
  unfold k_Put
  split
  · rename_i b l hv
    intro hb ht
    simp only [Bool.and_eq_true, decide_eq_true_eq] at ht
    exact ctr_topc (Γ := ⟨[(18, k_Right), (26, k_within)], eqs, [(27, k_put)], [], [], mixs, meqs, []⟩) st_Gw ⟨(okCons k_Right_ok (okCons k_within_ok okNil)), eqs_ok, (okConsB k_put_ok okNilB), okNilI, okNilP, mixs_ok, meqs_ok, okNilY⟩ Try.func9 rfl mixed [] (by kernel_rfl) 10000 _ hv hb (open_T ht.1) rfl true (asP (decT l)) (Put_run (decT l) ht.2.1 ht.2.2)
  · trivial
noncomputable def k_Size : List SV → List Blk → Res := fun args M => match topA eltB M args with
  | some (b, [.agg l]) => .test b (.test (isT l && (decide ((decT l).sz ≤ 1099511627776) && decide ((decT l).put.length ≤ 1099511627776))) (.ok (.int .i64 ((decT l).puts.1.length : Int)) []))
  | _ => .fail
theorem Size_run (t : Tr) (hl : t.sz ≤ 1099511627776) (hp : t.put.length ≤ 1099511627776) : run Try.prog ⟨[(9, k_Put)], eqs, [], [], [], mixs, meqs, []⟩ 10000 [] 0 (bodyOf Try.f20) (initF Try.f20 [.agg [.int .u8 t.k, .int .i64 t.n, .sl 0 1 0 t.bs.length, .sl 1 4 0 t.kids.length]]) [.ro 1 t.bs.length (gOf eB t.bs), .ro 4 t.kids.length (gK t.kids)] (retK Try.prog Try.f20 fun x _ => eqv x (.int .i64 (t.puts.1.length : Int))) := by
  have hs : isT [.int .u8 t.k, .int .i64 t.n, .row 1 t.bs.length (shiftG 0 (gOf eB t.bs)), .row 4 t.kids.length (shiftG 0 (gK t.kids))] = true := isT_gK' t
  have hd : decT [.int .u8 t.k, .int .i64 t.n, .row 1 t.bs.length (shiftG 0 (gOf eB t.bs)), .row 4 t.kids.length (shiftG 0 (gK t.kids))] = t := decT_gK t
  (conv => whnf)
  (repeat' (first | (refine And.intro (fun hb => ?_) (fun hb => ?_) <;> (first | contradiction | (conv => whnf))) | (refine And.intro ?_ ?_; rotate_left 1; (conv => whnf))))
  all_goals try (simp only [hs, hd] at *)
  all_goals try (first | rfl | exact decide_eq_true rfl | (refine decide_eq_true ?_; omega) | (simp only [decide_eq_true_eq]; omega))
  all_goals try (first | (rw [Bool.true_and, Bool.and_eq_true]; exact ⟨decide_eq_true hl, decide_eq_true hp⟩) | exact ⟨rfl, rfl⟩ | (simp; done))
theorem k_Size_ok : CtrOk Try.prog Gw 20 k_Size := by
  refine ⟨fun _ _ => by kernel_rfl, fun args M => ?_⟩
  unfold k_Size
  split
  · rename_i b l hv
    intro hb ht
    simp only [Bool.and_eq_true, decide_eq_true_eq] at ht
    exact ctr_top (Γ := ⟨[(9, k_Put)], eqs, [], [], [], mixs, meqs, []⟩) st_Gw ⟨(okCons k_Put_ok okNil), eqs_ok, okNilB, okNilI, okNilP, mixs_ok, meqs_ok, okNilY⟩ Try.func20 rfl mixed [] (by kernel_rfl) 10000 _ hv hb (open_T ht.1) rfl (Size_run (decT l) ht.2.1 ht.2.2)
  · trivial
end Go.Proofs.Ytmdkihggeodjfaa
namespace Go.Proofs.Ytmdkihggeodjfaa
open Go.RowKit Go.Sx
set_option linter.unusedSimpArgs false
set_option linter.unusedVariables false
set_option linter.unnecessarySimpa false
set_option maxRecDepth 100000
set_option maxHeartbeats 4000000
/-- A place below n. -/
def pick (x n : Int) : Int := if decide (n < 1) then 0 else if decide (Int.tmod x n < 0) then Int.tmod x n + n else Int.tmod x n
theorem pick_run (x n : Int) (hx : -9223372036854775808 ≤ x ∧ x ≤ 9223372036854775807) (hn : 0 ≤ n ∧ n ≤ 9223372036854775807) : run Try.prog ⟨[], eqs, [], [], [], mixs, meqs, []⟩ 10000 [] 0 (bodyOf Try.f13) (initF Try.f13 [.int .i64 x, .int .i64 n]) [] (retK Try.prog Try.f13 fun y _ => eqv y (.int .i64 (pick x n))) := by
  have hp : 0 < n → -n < Int.tmod x n ∧ Int.tmod x n < n := fun h => ⟨Int.lt_tmod_of_pos x h, Int.tmod_lt_of_pos x h⟩
  (conv => whnf)
  (repeat' (first | (refine step_t (by first | rfl | assumption) ?_; (conv => whnf)) | (refine step_f (by first | rfl | assumption) ?_; (conv => whnf)) | (refine step_nt (by assumption) ?_; (conv => whnf)) | (refine step_nf (by assumption) ?_; (conv => whnf)) | (refine step_n (fun hb => ?_) (fun hb => ?_) <;> (first | contradiction | (conv => whnf))) | (refine And.intro (fun hb => ?_) (fun hb => ?_) <;> (first | contradiction | (conv => whnf))) | (refine And.intro ?_ ?_; rotate_left 1; (conv => whnf))))
  all_goals try (simp only [decide_eq_true_eq, decide_eq_false_iff_not] at *)
  all_goals first
    | rfl
    | (show _ = pick x n; unfold pick; simp only [decide_eq_true_eq]; rw [if_pos (by assumption)])
    | (show _ = pick x n; have h9 := hp (by omega); unfold pick; simp only [decide_eq_true_eq]; rw [IntWalk.i64_in _ (by omega), if_neg (by assumption), if_pos (by assumption)])
    | (show _ = pick x n; unfold pick; simp only [decide_eq_true_eq]; rw [if_neg (by assumption), if_neg (by assumption)])
    | (rw [bne_iff_ne]; omega)
theorem pick_in {x n : Int} (hn : 0 < n) : 0 ≤ pick x n ∧ pick x n < n := by
  have h1 := Int.lt_tmod_of_pos x hn
  have h2 := Int.tmod_lt_of_pos x hn
  unfold pick
  rw [if_neg (by simp; omega)]
  split <;> rename_i h <;> simp only [decide_eq_true_eq] at h <;> omega
def k_Pick : List SV → List Blk → Res := fun args _ => match args with
  | [.int .i64 x, .int .i64 n] => .test ((decide (-9223372036854775808 ≤ x) && decide (x ≤ 9223372036854775807)) && (decide (0 ≤ n) && decide (n ≤ 9223372036854775807))) (.ok (.int .i64 (pick x n)) [])
  | _ => .fail
theorem k_Pick_ok : CtrOk Try.prog Gw 13 k_Pick := by
  refine ⟨fun _ _ => by kernel_rfl, fun args M => ?_⟩
  unfold k_Pick
  split
  · rename_i x n
    intro ht
    simp only [Bool.and_eq_true, decide_eq_true_eq] at ht
    exact ctr_flat (Γ := ⟨[], eqs, [], [], [], mixs, meqs, []⟩) (sv := .int .i64 (pick x n)) st_Gw ⟨okNil, eqs_ok, okNilB, okNilI, okNilP, mixs_ok, meqs_ok, okNilY⟩ Try.func13 rfl mixed [] (by kernel_rfl) 10000 (by rfl) (pick_run x n ht.1 ht.2)
  · trivial
end Go.Proofs.Ytmdkihggeodjfaa
