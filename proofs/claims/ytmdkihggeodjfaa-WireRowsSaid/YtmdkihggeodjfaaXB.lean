import Derived.Test.YtmdkihggeodjfaaXA
namespace Go.Proofs.Ytmdkihggeodjfaa
open Go.RowKit Go.Sx
set_option linter.unusedSimpArgs false
set_option linter.unusedVariables false
set_option linter.unnecessarySimpa false
set_option maxRecDepth 100000
set_option maxHeartbeats 4000000
theorem dec0 (u : Tr) : decT [.int .u8 u.k, .int .i64 u.n, .row 1 u.bs.length (shiftG 0 (gOf eB u.bs)), .row 4 u.kids.length (shiftG 0 (encK u.kids))] = u := decT_cel u
theorem is0 (u : Tr) : isT [.int .u8 u.k, .int .i64 u.n, .row 1 u.bs.length (shiftG 0 (gOf eB u.bs)), .row 4 u.kids.length (shiftG 0 (encK u.kids))] = true := isT_cel' u
theorem put_2 {t : Tr} {L : List Int} {M1 : List Blk} {k : Nat} (h1 : (t.k == 1) = false) (h2 : (t.k == 2) = true) (hk : nth M1 k = some (.own 5 1 (L.length + (Tr.head 2 (BitVec.ofInt 64 t.bs.length)).length + t.bs.length) (gApp (L.length + (Tr.head 2 (BitVec.ofInt 64 t.bs.length)).length) (gOf eB (elts eB 0 L.length (gOf eB L) ++ Tr.head 2 (BitVec.ofInt 64 t.bs.length))) fun k => gOf eB t.bs (0 + k)))) :
    Tells (.sl 0 1 0 (L.length + t.put.length)) [.own 5 1 (L.length + t.put.length) (gOf eB (L ++ t.put))] (.sl k 1 0 (L.length + (Tr.head 2 (BitVec.ofInt 64 t.bs.length)).length + t.bs.length)) M1 := by
  have hp2 : t.put = Tr.head 2 (BitVec.ofInt 64 t.bs.length) ++ t.bs := by rw [Tr.put_eq, if_neg (by rw [h1]; simp), if_pos h2]
  rw [hp2]
  refine tells_own hk (by simp; omega) fun i hi => ?_
  rw [elts_all, ← List.append_assoc]
  exact gOf_app eB (by simp) (fun j hj => by rw [Nat.zero_add]) i (by simp at hi ⊢; omega)
theorem put_2b {t : Tr} {L : List Int} {b : Nat} (hb : b = 1) (hL : L.length + t.put.length ≤ 1099511627776) (h1 : (t.k == 1) = false) (h2 : (t.k == 2) = true) : decide ((L.length + (Tr.head 2 (BitVec.ofInt 64 t.bs.length)).length + t.bs.length) * b ≤ 140737488355328 ∧ L.length + (Tr.head 2 (BitVec.ofInt 64 t.bs.length)).length + t.bs.length ≤ 9223372036854775807) = true := by
  have hp2 : t.put = Tr.head 2 (BitVec.ofInt 64 t.bs.length) ++ t.bs := by rw [Tr.put_eq, if_neg (by rw [h1]; simp), if_pos h2]
  rw [hp2, List.length_append] at hL
  subst hb
  refine decide_eq_true ?_
  omega
noncomputable def k_putN (N : Nat) : List SV → List Blk → BRes := fun args M => match args with
  | .sl k sz 0 m :: rest => match nth M k with
    | some (.own ty sz' m' g) => match Nat.beq ty 5 && (Nat.beq sz 1 && Nat.beq sz' 1), topA eltB (M.set k .dead) rest with
      | true, some (b, [.agg l]) => .test b (.test (isT l && decide ((decT l).sz < N)) (.test (decide (m = m')) (.test (allIs eB 0 m g && decide (m + (decT l).put.length ≤ 1099511627776)) (.ok (.sl M.length 1 0 (m + (decT l).put.length)) (M.set k .dead ++ [.own 5 1 (m + (decT l).put.length) (gOf eB (elts eB 0 m g ++ (decT l).put))])))))
      | _, _ => .fail
    | _ => .fail
  | .val (.slice none 0 0) :: rest => match topA eltB M rest with
    | some (b, [.agg l]) => .test b (.test (isT l && decide ((decT l).sz < N)) (.test (decide ((decT l).put.length ≤ 1099511627776)) (.ok (.sl M.length 1 0 (decT l).put.length) (M ++ [.own 5 1 (decT l).put.length (gOf eB (decT l).put)]))))
    | _ => .fail
  | _ => .fail
theorem put_run (N : Nat) (ih : BCtrOk Try.prog Gw 27 (k_putN N)) (t : Tr) (ht : t.sz < N + 1) (L : List Int) (hL : L.length + t.put.length ≤ 1099511627776) : run Try.prog ⟨[], eqs, [(41, k_head), (27, k_putN N)], [], [], mixs, meqs⟩ 10000 [] 0 (bodyOf Try.f27) (initF Try.f27 [.sl 0 1 0 L.length, .agg [.int .u8 t.k, .int .i64 t.n, .sl 1 1 0 t.bs.length, .sl 2 4 0 t.kids.length]]) [.own 5 1 L.length (gOf eB L), .ro 1 t.bs.length (gOf eB t.bs), .ro 4 t.kids.length (gK t.kids)] (retK Try.prog Try.f27 (Tells (.sl 0 1 0 (L.length + t.put.length)) [.own 5 1 (L.length + t.put.length) (gOf eB (L ++ t.put))])) := by
  have hbytes : Try.prog.types[5].bytes = 1 := rfl
  have e0 : allIs eB 0 L.length (gOf eB L) = true := allIs_gOf eB L 0 L.length
  have e1 : elts eB 0 L.length (gOf eB L) = L := elts_all eB L
  have hp := Tr.put_eq t
  (conv => whnf)
  (repeat' (first | (refine And.intro (fun hb => ?_) (fun hb => ?_) <;> (first | contradiction | (conv => whnf))) | (refine And.intro ?_ ?_; rotate_left 1; (conv => whnf))))
  all_goals try (first | rfl | exact decide_eq_true rfl | (refine decide_eq_true ?_; omega) | (simp only [hbytes, decide_eq_true_eq]; omega))
  all_goals try (simp only [e0, Bool.true_and, Bool.and_true, decide_eq_true_eq]; omega)
  · have hp1 : t.put = Tr.head 1 (Tr.zig t.n) := by rw [hp, if_pos hb]
    rw [hp1]
    exact tells_own rfl rfl (fun i hi => by rw [e1]; rfl)
  all_goals first | exact put_2 (by assumption) (by assumption) rfl | exact put_2b hbytes hL (by assumption) (by assumption) | skip
  · rename_i h1
    have h2 := hb
    have hp3 : t.put = Tr.head 3 (BitVec.ofInt 64 t.kids.length) ++ Tr.putL t.kids := by rw [hp, if_neg (by rw [h1]; simp), if_neg (by rw [h2]; simp)]
    have hk := Tr.putL_len t.kids
    rw [hp3] at hL ⊢
    simp only [List.length_append] at hL
    generalize hH : Tr.head 3 (BitVec.ofInt 64 t.kids.length) = H at hL ⊢
    refine .inr ⟨[], [0, 40, 41, 42], fun k vals M => ∃ j : Nat, j ≤ t.kids.length ∧ k = t.kids.length - j ∧ vals = [.sl 4 1 0 (L.length + H.length + (Tr.putL (t.kids.take j)).length), .sl 2 4 0 t.kids.length, .int .i64 (t.kids.length : Int), .int .i64 (j : Int)] ∧ M = [.dead, .dead, .ro 4 t.kids.length (gK t.kids), .dead, .own 5 1 (L.length + H.length + (Tr.putL (t.kids.take j)).length) (gOf eB (L ++ H ++ Tr.putL (t.kids.take j)))], ?_⟩
    conv => whnf
    refine And.intro ⟨t.kids.length, [.dead, .dead, .ro 4 t.kids.length (gK t.kids), .dead, .own 5 1 (L.length + H.length) (gOf eB (L ++ H))], mle_cons ble_dead (mle_cons ble_dead (mle_cons ble_refl (mle_cons ble_dead (mle_cons (ble_own ?_ fun i hi => ?_) mle_nil)))), rfl, rfl, 0, by omega, by omega, ?_, ?_⟩ ?_
    · rw [← hH]
    · rw [e1, ← hH]
    · rw [← hH]; rfl
    · simp [Tr.putL]
    rintro k vals M1 ⟨j, hj, rfl, rfl, rfl⟩
    have hpart := Tr.putL_part t.kids (j + 1)
    have f0 : allIs eB 0 (L.length + H.length + (Tr.putL (t.kids.take j)).length) (gOf eB (L ++ H ++ Tr.putL (t.kids.take j))) = true := allIs_gOf ..
    have hz : 0 + ((j : Int)).toNat = j := by omega
    (conv => whnf)
    (repeat' (first | (refine And.intro (fun hb => ?_) (fun hb => ?_) <;> (first | contradiction | (conv => whnf))) | (refine And.intro ?_ ?_; rotate_left 1; (conv => whnf))))
    all_goals try (simp only [decide_eq_true_eq, decide_eq_false_iff_not] at hb)
    all_goals try (have hlt : j < t.kids.length := by omega)
    all_goals try (have hnx := Tr.putL_take t.kids j (by omega))
    all_goals try (have hnl := congrArg List.length hnx; rw [List.length_append] at hnl)
    all_goals try (simp only [dec0, is0, hz])
    all_goals first | (first | rfl | exact decide_eq_true rfl | (refine decide_eq_true ?_; omega) | (simp only [hbytes, decide_eq_true_eq]; omega)) | (rw [f0, Bool.true_and]; exact decide_eq_true (by omega)) | (exact decide_eq_true (by have := Tr.kid_lt hlt; omega)) | (simp; done) | skip
    · refine ⟨t.kids.length - (j + 1), [.dead, .dead, .ro 4 t.kids.length (gK t.kids), .dead, .own 5 1 (L.length + H.length + (Tr.putL (t.kids.take (j + 1))).length) (gOf eB (L ++ H ++ Tr.putL (t.kids.take (j + 1))))], [0, 1, 2, 3, 8], by omega, rfl, mle_cons ble_dead (mle_cons ble_dead (mle_cons ble_refl (mle_cons ble_dead (mle_cons (ble_own (by omega) fun i hi => ?_) mle_nil)))), rfl, rfl, j + 1, by omega, rfl, ?_, rfl⟩
      · rw [elts_eq eB (by simp only [List.length_append]), hnx, ← List.append_assoc]
      · show [SV.sl 4 1 0 (L.length + H.length + (Tr.putL (t.kids.take j)).length + (t.kids.getD j .no).put.length), .sl 2 4 0 t.kids.length, .int .i64 (t.kids.length : Int), .int .i64 (IntKind.i64.wrap ((j : Int) + 1))] = _
        rw [i64_of (n := (j : Int) + 1) (by omega) (by omega), hnl]
        simp [Nat.add_assoc]
    · obtain rfl : j = t.kids.length := by omega
      rw [List.take_length]
      exact tells_own rfl (by simp only [List.length_append]; omega) (fun i hi => by rw [← List.append_assoc])
theorem k_putN_ok : ∀ N, BCtrOk Try.prog Gw 27 (k_putN N) := by
  intro N
  induction N with
  | zero =>
    refine ⟨fun _ _ => by kernel_rfl, fun args M => ?_⟩
    unfold k_putN
    split
    · split
      · split
        · intro _ h; simp at h
        · trivial
      · trivial
    · split
      · intro _ h; simp at h
      · trivial
    · trivial
  | succ N ih =>
    refine ⟨fun _ _ => by kernel_rfl, fun args M => ?_⟩
    unfold k_putN
    split
    · rename_i k sz m rest
      split
      · rename_i ty sz' m' g hk
        split
        · rename_i b l hb hv
          simp only [Bool.and_eq_true] at hb
          obtain rfl := Nat.eq_of_beq_eq_true hb.1
          obtain rfl := Nat.eq_of_beq_eq_true hb.2.1
          obtain rfl := Nat.eq_of_beq_eq_true hb.2.2
          intro hb1 ht hm hc
          simp only [Bool.and_eq_true, decide_eq_true_eq] at hm hc ht
          subst hm
          have e := elts_length eB 0 m g
          have h := put_run N ih (decT l) ht.2 (elts eB 0 m g) (by omega)
          rw [e] at h
          exact bctr_top (Γ := ⟨[], eqs, [(41, k_head), (27, k_putN N)], [], [], mixs, meqs⟩) ⟨okNil, eqs_ok, (okConsB k_head_ok (okConsB ih okNilB)), okNilI, okNilP, mixs_ok, meqs_ok⟩ Try.func27 rfl mixed [] (by kernel_rfl) 10000 (gOf eB (elts eB 0 m g)) (.sl 0 1 0 (m + (decT l).put.length)) [.own 5 1 (m + (decT l).put.length) (gOf eB (elts eB 0 m g ++ (decT l).put))] (by rw [← nth_eq]; exact hk) (fun i hi => by rw [gOf_elts eB hc.1 i hi, Nat.zero_add]) _ hv hb1 (open_T ht.1) rfl rfl rfl rfl (by simp [okSt, scL, SV.sc, scAll, Blk.sc]) h
        · trivial
      · trivial
    · rename_i rest
      split
      · rename_i b l hv
        intro hb1 ht hc
        simp only [Bool.and_eq_true, decide_eq_true_eq] at hc ht
        have h := put_run N ih (decT l) ht.2 [] (by simpa using hc)
        simp only [List.length_nil, Nat.zero_add, List.nil_append] at h
        exact bctr_nil (Γ := ⟨[], eqs, [(41, k_head), (27, k_putN N)], [], [], mixs, meqs⟩) ⟨okNil, eqs_ok, (okConsB k_head_ok (okConsB ih okNilB)), okNilI, okNilP, mixs_ok, meqs_ok⟩ Try.func27 rfl mixed [] (by kernel_rfl) 10000 (gOf eB []) (.sl 0 1 0 (decT l).put.length) [.own 5 1 (decT l).put.length (gOf eB (decT l).put)] _ hv hb1 (open_T ht.1) rfl rfl rfl rfl (by simp [okSt, scL, SV.sc, scAll, Blk.sc]) h
      · trivial
    · trivial
end Go.Proofs.Ytmdkihggeodjfaa
