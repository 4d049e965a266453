import Derived.Test.YtmdkihggeodjfaaX0
namespace Go.Proofs.Ytmdkihggeodjfaa
open Go.RowKit Go.Sx
set_option linter.unusedSimpArgs false
set_option linter.unusedVariables false
set_option linter.unnecessarySimpa false
set_option maxRecDepth 100000
set_option maxHeartbeats 4000000
theorem i64_of {n : Int} (h0 : 0 ≤ n) (h1 : n < 9223372036854775808) : IntKind.i64.wrap n = n := IntWalk.i64_in _ (by omega)
theorem i64_in_sub {n : Int} (h0 : -1000000 ≤ n) (h1 : n < 9223372036854775808) : IntKind.i64.wrap (n - 1) = n - 1 := IntWalk.i64_in _ (by omega)
theorem head_run (L : List Int) (kd : Int) (v : BitVec 64) (hL : L.length ≤ 1099511627776) : run Try.prog ⟨[(73, k_len64)], eqs, [], [], [], mixs, meqs, []⟩ 10000 [] 0 (bodyOf Try.f41) (initF Try.f41 [.sl 0 1 0 L.length, .int .u8 kd, .u64 v]) [.own 5 1 L.length (gOf eB L)] (retK Try.prog Try.f41 (Tells (.sl 0 1 0 (L.length + (Tr.head kd v).length)) [.own 5 1 (L.length + (Tr.head kd v).length) (gOf eB (L ++ Tr.head kd v))])) := by
  have hm := Tr.many_le v
  have hbytes : Try.prog.types[5].bytes = 1 := rfl
  (conv => whnf)
  (repeat' (first | (refine And.intro (fun hb => ?_) (fun hb => ?_) <;> (first | contradiction | (conv => whnf))) | (refine And.intro ?_ ?_; rotate_left 1; (conv => whnf))))
  all_goals try (first | rfl | exact decide_eq_true rfl | (refine decide_eq_true ?_; omega) | (simp only [hbytes, decide_eq_true_eq]; omega))
  · have hH : Tr.head kd v = [Tr.top kd (uv v)] := by simp only [Tr.head, hb, if_true]
    rw [hH]
    exact ⟨[2], rfl, mle_cons (ble_own rfl fun i hi => gOf_snoc eB L _ _ rfl i hi) mle_nil, _, rfl, fun _ => rfl⟩
  · have hH : Tr.head kd v = Tr.top kd (55 + (Tr.many v : Int)) :: Tr.low v (Tr.many v) := by simp only [Tr.head, hb, if_false, Bool.false_eq_true]
    have e8 : IntKind.i64.wrap (Int.tdiv (IntKind.i64.wrap ((bl v : Nat) + 7)) 8) = (Tr.many v : Int) := by
      have := bl_le v
      rw [i64_of (n := (bl v : Int) + 7) (by omega) (by omega)]
      have : ((bl v : Int) + 7).tdiv 8 = ((Tr.many v : Nat) : Int) := by
        unfold Tr.many
        rw [Int.tdiv_eq_ediv_of_nonneg (by omega)]; omega
      rw [this, i64_of (by omega) (by omega)]
    rw [hH]
    generalize hc : Tr.top kd (55 + (Tr.many v : Int)) = c
    refine .inr ⟨[], [0, 2, 8], fun k vals M => ∃ X : List Int, k ≤ Tr.many v ∧ X ++ Tr.low v k = Tr.low v (Tr.many v) ∧ vals = [.sl 2 1 0 (L.length + 1 + X.length), .u64 v, .int .i64 ((k : Int) - 1)] ∧ M = [.dead, .dead, .own 5 1 (L.length + 1 + X.length) (gOf eB (L ++ (c :: X)))], ?_⟩
    conv => whnf
    refine And.intro ⟨Tr.many v, [.dead, .dead, .own 5 1 (L.length + 1) (gOf eB (L ++ [c]))], mle_cons ble_dead (mle_cons ble_dead (mle_cons (ble_own rfl fun i hi => ?_) mle_nil)), rfl, rfl, [], Nat.le_refl _, rfl, ?_, rfl⟩ ?_
    · refine gOf_snoc eB L c _ ?_ i hi
      show [FV.int .u8 _] = [FV.int .u8 c]
      rw [e8, i64_of (n := 55 + (Tr.many v : Int)) (by omega) (by omega), ← hc]; rfl
    · show [SV.sl 2 1 0 (L.length + 1), .u64 v, .int .i64 (IntKind.i64.wrap (_ - 1))] = _
      rw [e8, i64_in_sub (by omega) (by omega)]; rfl
    rintro k vals M1 ⟨X, hk, hX, rfl, rfl⟩
    have hxl : X.length + k = Tr.many v := by have := congrArg List.length hX; simpa [Tr.low_length] using this
    (conv => whnf)
    (repeat' (first | (refine And.intro (fun hb => ?_) (fun hb => ?_) <;> (first | contradiction | (conv => whnf))) | (refine And.intro ?_ ?_; rotate_left 1; (conv => whnf))))
    all_goals try (first | rfl | exact decide_eq_true rfl | (refine decide_eq_true ?_; omega) | (simp only [hbytes, decide_eq_true_eq]; omega))
    · simp only [decide_eq_true_eq] at hb
      obtain ⟨m, rfl⟩ : ∃ m, k = m + 1 := ⟨k - 1, by omega⟩
      have e1 : IntKind.i64.wrap (8 * (((m + 1 : Nat) : Int) - 1)) = ((8 * m : Nat) : Int) := by rw [i64_of (by omega) (by omega)]; omega
      rw [e1]
      refine ⟨m, [.dead, .dead, .own 5 1 (L.length + 1 + (X ++ [IntKind.u8.wrap (uv (v >>> (8 * m)))]).length) (gOf eB (L ++ (c :: (X ++ [IntKind.u8.wrap (uv (v >>> (8 * m)))]))))], [0, 1, 4], by omega, rfl, mle_cons ble_dead (mle_cons ble_dead (mle_cons (ble_own (by simp; omega) fun i hi => ?_) mle_nil)), rfl, rfl, X ++ [IntKind.u8.wrap (uv (v >>> (8 * m)))], by omega, ?_, ?_, rfl⟩
      · rw [show L ++ c :: (X ++ [IntKind.u8.wrap (uv (v >>> (8 * m)))]) = (L ++ c :: X) ++ [IntKind.u8.wrap (uv (v >>> (8 * m)))] by simp, show L.length + 1 + X.length = (L ++ c :: X).length by simp; omega]
        exact gOf_snoc eB _ _ _ rfl i (by simp at hi ⊢; omega)
      · rw [← hX]; simp [Tr.low]
      · show [SV.sl 2 1 0 (L.length + 1 + X.length + 1), .u64 v, .int .i64 (IntKind.i64.wrap (((m + 1 : Nat) : Int) - 1 - 1))] = _
        rw [i64_in_sub (by omega) (by omega)]
        simp; omega
    · simp only [decide_eq_true_eq, decide_eq_false_iff_not] at hb ⊢
      rw [i64_of (by omega) (by omega)]; omega
    · simp only [decide_eq_false_iff_not] at hb
      obtain rfl : k = 0 := by omega
      have hX' : X = Tr.low v (Tr.many v) := by rw [← hX]; simp [Tr.low]
      rw [← hX']
      have hl : L.length + (c :: X).length = L.length + 1 + X.length := by simp; omega
      rw [hl]
      exact ⟨[2], rfl, mle_cons (ble_own rfl fun i hi => rfl) mle_nil, _, rfl, fun _ => rfl⟩
def k_head : List SV → List Blk → BRes := fun args M => match args with
  | .sl k sz 0 m :: rest => match nth M k with
    | some (.own ty sz' m' g) => match Nat.beq ty 5 && (Nat.beq sz 1 && Nat.beq sz' 1), topA eltB (M.set k .dead) rest with
      | true, some (b, [.one (.int .u8 kd), .one (.u64 v)]) => .test b (.test (decide (m = m')) (.test (allIs eB 0 m g && decide (m ≤ 1099511627776)) (.ok (.sl M.length 1 0 (m + (Tr.head kd v).length)) (M.set k .dead ++ [.own 5 1 (m + (Tr.head kd v).length) (gOf eB (elts eB 0 m g ++ Tr.head kd v))]))))
      | _, _ => .fail
    | _ => .fail
  | .val (.slice none 0 0) :: rest => match topA eltB M rest with
    | some (b, [.one (.int .u8 kd), .one (.u64 v)]) => .test b (.ok (.sl M.length 1 0 (Tr.head kd v).length) (M ++ [.own 5 1 (Tr.head kd v).length (gOf eB (Tr.head kd v))]))
    | _ => .fail
  | _ => .fail
theorem k_head_ok : BCtrOk Try.prog Gw 41 k_head := by
  refine ⟨fun _ _ => by kernel_rfl, fun args M => ?_⟩
  unfold k_head
  split
  · rename_i k sz m rest
    split
    · rename_i ty sz' m' g hk
      split
      · rename_i b kd v hb hv
        simp only [Bool.and_eq_true] at hb
        obtain rfl := Nat.eq_of_beq_eq_true hb.1
        obtain rfl := Nat.eq_of_beq_eq_true hb.2.1
        obtain rfl := Nat.eq_of_beq_eq_true hb.2.2
        intro hb1 hm hc
        simp only [Bool.and_eq_true, decide_eq_true_eq] at hm hc
        subst hm
        have e := elts_length eB 0 m g
        have h := head_run (elts eB 0 m g) kd v (by omega)
        rw [e] at h
        exact bctr_top (Γ := ⟨[(73, k_len64)], eqs, [], [], [], mixs, meqs, []⟩) ⟨(okCons k_len64_ok okNil), eqs_ok, okNilB, okNilI, okNilP, mixs_ok, meqs_ok, okNilY⟩ Try.func41 rfl mixed [] (by kernel_rfl) 10000 (gOf eB (elts eB 0 m g)) (.sl 0 1 0 (m + (Tr.head kd v).length)) [.own 5 1 (m + (Tr.head kd v).length) (gOf eB (elts eB 0 m g ++ Tr.head kd v))] (by rw [← nth_eq]; exact hk) (fun i hi => by rw [gOf_elts eB hc.1 i hi, Nat.zero_add]) _ hv hb1 (AVEqL.refl _) rfl rfl rfl rfl (by simp [okSt, scL, SV.sc, scAll, Blk.sc]) h
      · trivial
    · trivial
  · rename_i rest
    split
    · rename_i b kd v hv
      intro hb1
      have h := head_run [] kd v (by simp)
      simp only [List.length_nil, Nat.zero_add, List.nil_append] at h
      exact bctr_nil (Γ := ⟨[(73, k_len64)], eqs, [], [], [], mixs, meqs, []⟩) ⟨(okCons k_len64_ok okNil), eqs_ok, okNilB, okNilI, okNilP, mixs_ok, meqs_ok, okNilY⟩ Try.func41 rfl mixed [] (by kernel_rfl) 10000 (gOf eB []) (.sl 0 1 0 (Tr.head kd v).length) [.own 5 1 (Tr.head kd v).length (gOf eB (Tr.head kd v))] _ hv hb1 (AVEqL.refl _) rfl rfl rfl rfl (by simp [okSt, scL, SV.sc, scAll, Blk.sc]) h
    · trivial
  · trivial
end Go.Proofs.Ytmdkihggeodjfaa
namespace Go.Proofs.Ytmdkihggeodjfaa
open Go.RowKit Go.Sx
set_option linter.unusedSimpArgs false
set_option linter.unusedVariables false
set_option linter.unnecessarySimpa false
set_option maxRecDepth 100000
set_option maxHeartbeats 4000000
theorem dec0 (u : Tr) : decT [.int .u8 u.k, .int .i64 u.n, .row 1 u.bs.length (shiftG 0 (gOf eB u.bs)), .row 4 u.kids.length (shiftG 0 (encK u.kids))] = u := decT_cel u
theorem is0 (u : Tr) : isT [.int .u8 u.k, .int .i64 u.n, .row 1 u.bs.length (shiftG 0 (gOf eB u.bs)), .row 4 u.kids.length (shiftG 0 (encK u.kids))] = true := isT_cel' u
theorem put_2 {t : Tr} {L : List Int} {M1 : List Blk} {k : Nat} (h1 : (t.k == 1) = false) (h2 : (t.k == 2) = true) (hk : nth M1 k = some (.own 5 1 (L.length + (Tr.head 2 (BitVec.ofInt 64 t.bs.length)).length + t.bs.length) (gApp (L.length + (Tr.head 2 (BitVec.ofInt 64 t.bs.length)).length) (gOf eB (elts eB 0 L.length (gOf eB L) ++ Tr.head 2 (BitVec.ofInt 64 t.bs.length))) fun k => gOf eB t.bs (0 + k)))) :
    Tells (.sl 0 1 0 (L.length + t.put.length)) [.own 5 1 (L.length + t.put.length) (gOf eB (L ++ t.put))] (.sl k 1 0 (L.length + (Tr.head 2 (BitVec.ofInt 64 t.bs.length)).length + t.bs.length)) M1 := by
  have hp2 : t.put = Tr.head 2 (BitVec.ofInt 64 t.bs.length) ++ t.bs := by rw [Tr.put_eq, if_neg (by rw [h1]; simp), if_pos h2]
  rw [hp2]
  refine tells_own hk (by simp; omega) fun i hi => ?_
  rw [elts_all, ← List.append_assoc]
  exact gOf_app eB (by simp) (fun j hj => by rw [Nat.zero_add]) i (by simp at hi ⊢; omega)
theorem put_2b {t : Tr} {L : List Int} {b : Nat} (hb : b = 1) (hL : L.length + t.put.length ≤ 1099511627776) (h1 : (t.k == 1) = false) (h2 : (t.k == 2) = true) : decide ((L.length + (Tr.head 2 (BitVec.ofInt 64 t.bs.length)).length + t.bs.length) * b ≤ 140737488355328 ∧ L.length + (Tr.head 2 (BitVec.ofInt 64 t.bs.length)).length + t.bs.length ≤ 9223372036854775807) = true := by
  have hp2 : t.put = Tr.head 2 (BitVec.ofInt 64 t.bs.length) ++ t.bs := by rw [Tr.put_eq, if_neg (by rw [h1]; simp), if_pos h2]
  rw [hp2, List.length_append] at hL
  subst hb
  refine decide_eq_true ?_
  omega
noncomputable def k_putN (N : Nat) : List SV → List Blk → BRes := fun args M => match args with
  | .sl k sz 0 m :: rest => match nth M k with
    | some (.own ty sz' m' g) => match Nat.beq ty 5 && (Nat.beq sz 1 && Nat.beq sz' 1), topA eltB (M.set k .dead) rest with
      | true, some (b, [.agg l]) => .test b (.test (isT l && decide ((decT l).sz < N)) (.test (decide (m = m')) (.test (allIs eB 0 m g && decide (m + (decT l).put.length ≤ 1099511627776)) (.ok (.sl M.length 1 0 (m + (decT l).put.length)) (M.set k .dead ++ [.own 5 1 (m + (decT l).put.length) (gOf eB (elts eB 0 m g ++ (decT l).put))])))))
      | _, _ => .fail
    | _ => .fail
  | .val (.slice none 0 0) :: rest => match topA eltB M rest with
    | some (b, [.agg l]) => .test b (.test (isT l && decide ((decT l).sz < N)) (.test (decide ((decT l).put.length ≤ 1099511627776)) (.ok (.sl M.length 1 0 (decT l).put.length) (M ++ [.own 5 1 (decT l).put.length (gOf eB (decT l).put)]))))
    | _ => .fail
  | _ => .fail
theorem put_run (N : Nat) (ih : BCtrOk Try.prog Gw 27 (k_putN N)) (t : Tr) (ht : t.sz < N + 1) (L : List Int) (hL : L.length + t.put.length ≤ 1099511627776) : run Try.prog ⟨[], eqs, [(41, k_head), (27, k_putN N)], [], [], mixs, meqs, []⟩ 10000 [] 0 (bodyOf Try.f27) (initF Try.f27 [.sl 0 1 0 L.length, .agg [.int .u8 t.k, .int .i64 t.n, .sl 1 1 0 t.bs.length, .sl 2 4 0 t.kids.length]]) [.own 5 1 L.length (gOf eB L), .ro 1 t.bs.length (gOf eB t.bs), .ro 4 t.kids.length (gK t.kids)] (retK Try.prog Try.f27 (Tells (.sl 0 1 0 (L.length + t.put.length)) [.own 5 1 (L.length + t.put.length) (gOf eB (L ++ t.put))])) := by
  have hbytes : Try.prog.types[5].bytes = 1 := rfl
  have e0 : allIs eB 0 L.length (gOf eB L) = true := allIs_gOf eB L 0 L.length
  have e1 : elts eB 0 L.length (gOf eB L) = L := elts_all eB L
  have hp := Tr.put_eq t
  (conv => whnf)
  (repeat' (first | (refine And.intro (fun hb => ?_) (fun hb => ?_) <;> (first | contradiction | (conv => whnf))) | (refine And.intro ?_ ?_; rotate_left 1; (conv => whnf))))
  all_goals try (first | rfl | exact decide_eq_true rfl | (refine decide_eq_true ?_; omega) | (simp only [hbytes, decide_eq_true_eq]; omega))
  all_goals try (simp only [e0, Bool.true_and, Bool.and_true, decide_eq_true_eq]; omega)
  · have hp1 : t.put = Tr.head 1 (Tr.zig t.n) := by rw [hp, if_pos hb]
    rw [hp1]
    exact tells_own rfl rfl (fun i hi => by rw [e1]; rfl)
  all_goals first | exact put_2 (by assumption) (by assumption) rfl | exact put_2b hbytes hL (by assumption) (by assumption) | skip
  · rename_i h1
    have h2 := hb
    have hp3 : t.put = Tr.head 3 (BitVec.ofInt 64 t.kids.length) ++ Tr.putL t.kids := by rw [hp, if_neg (by rw [h1]; simp), if_neg (by rw [h2]; simp)]
    have hk := Tr.putL_len t.kids
    rw [hp3] at hL ⊢
    simp only [List.length_append] at hL
    generalize hH : Tr.head 3 (BitVec.ofInt 64 t.kids.length) = H at hL ⊢
    refine .inr ⟨[], [0, 40, 41, 42], fun k vals M => ∃ j : Nat, j ≤ t.kids.length ∧ k = t.kids.length - j ∧ vals = [.sl 4 1 0 (L.length + H.length + (Tr.putL (t.kids.take j)).length), .sl 2 4 0 t.kids.length, .int .i64 (t.kids.length : Int), .int .i64 (j : Int)] ∧ M = [.dead, .dead, .ro 4 t.kids.length (gK t.kids), .dead, .own 5 1 (L.length + H.length + (Tr.putL (t.kids.take j)).length) (gOf eB (L ++ H ++ Tr.putL (t.kids.take j)))], ?_⟩
    conv => whnf
    refine And.intro ⟨t.kids.length, [.dead, .dead, .ro 4 t.kids.length (gK t.kids), .dead, .own 5 1 (L.length + H.length) (gOf eB (L ++ H))], mle_cons ble_dead (mle_cons ble_dead (mle_cons ble_refl (mle_cons ble_dead (mle_cons (ble_own ?_ fun i hi => ?_) mle_nil)))), rfl, rfl, 0, by omega, by omega, ?_, ?_⟩ ?_
    · rw [← hH]
    · rw [e1, ← hH]
    · rw [← hH]; rfl
    · simp [Tr.putL]
    rintro k vals M1 ⟨j, hj, rfl, rfl, rfl⟩
    have hpart := Tr.putL_part t.kids (j + 1)
    have f0 : allIs eB 0 (L.length + H.length + (Tr.putL (t.kids.take j)).length) (gOf eB (L ++ H ++ Tr.putL (t.kids.take j))) = true := allIs_gOf ..
    have hz : 0 + ((j : Int)).toNat = j := by omega
    (conv => whnf)
    (repeat' (first | (refine And.intro (fun hb => ?_) (fun hb => ?_) <;> (first | contradiction | (conv => whnf))) | (refine And.intro ?_ ?_; rotate_left 1; (conv => whnf))))
    all_goals try (simp only [decide_eq_true_eq, decide_eq_false_iff_not] at hb)
    all_goals try (have hlt : j < t.kids.length := by omega)
    all_goals try (have hnx := Tr.putL_take t.kids j (by omega))
    all_goals try (have hnl := congrArg List.length hnx; rw [List.length_append] at hnl)
    all_goals try (simp only [dec0, is0, hz])
    all_goals first | (first | rfl | exact decide_eq_true rfl | (refine decide_eq_true ?_; omega) | (simp only [hbytes, decide_eq_true_eq]; omega)) | (rw [f0, Bool.true_and]; exact decide_eq_true (by omega)) | (exact decide_eq_true (by have := Tr.kid_lt hlt; omega)) | (simp; done) | skip
    · refine ⟨t.kids.length - (j + 1), [.dead, .dead, .ro 4 t.kids.length (gK t.kids), .dead, .own 5 1 (L.length + H.length + (Tr.putL (t.kids.take (j + 1))).length) (gOf eB (L ++ H ++ Tr.putL (t.kids.take (j + 1))))], [0, 1, 2, 3, 8], by omega, rfl, mle_cons ble_dead (mle_cons ble_dead (mle_cons ble_refl (mle_cons ble_dead (mle_cons (ble_own (by omega) fun i hi => ?_) mle_nil)))), rfl, rfl, j + 1, by omega, rfl, ?_, rfl⟩
      · rw [elts_eq eB (by simp only [List.length_append]), hnx, ← List.append_assoc]
      · show [SV.sl 4 1 0 (L.length + H.length + (Tr.putL (t.kids.take j)).length + (t.kids.getD j .no).put.length), .sl 2 4 0 t.kids.length, .int .i64 (t.kids.length : Int), .int .i64 (IntKind.i64.wrap ((j : Int) + 1))] = _
        rw [i64_of (n := (j : Int) + 1) (by omega) (by omega), hnl]
        simp [Nat.add_assoc]
    · obtain rfl : j = t.kids.length := by omega
      rw [List.take_length]
      exact tells_own rfl (by simp only [List.length_append]; omega) (fun i hi => by rw [← List.append_assoc])
theorem k_putN_ok : ∀ N, BCtrOk Try.prog Gw 27 (k_putN N) := by
  intro N
  induction N with
  | zero =>
    refine ⟨fun _ _ => by kernel_rfl, fun args M => ?_⟩
    unfold k_putN
    split
    · split
      · split
        · intro _ h; simp at h
        · trivial
      · trivial
    · split
      · intro _ h; simp at h
      · trivial
    · trivial
  | succ N ih =>
    refine ⟨fun _ _ => by kernel_rfl, fun args M => ?_⟩
    unfold k_putN
    split
    · rename_i k sz m rest
      split
      · rename_i ty sz' m' g hk
        split
        · rename_i b l hb hv
          simp only [Bool.and_eq_true] at hb
          obtain rfl := Nat.eq_of_beq_eq_true hb.1
          obtain rfl := Nat.eq_of_beq_eq_true hb.2.1
          obtain rfl := Nat.eq_of_beq_eq_true hb.2.2
          intro hb1 ht hm hc
          simp only [Bool.and_eq_true, decide_eq_true_eq] at hm hc ht
          subst hm
          have e := elts_length eB 0 m g
          have h := put_run N ih (decT l) ht.2 (elts eB 0 m g) (by omega)
          rw [e] at h
          exact bctr_top (Γ := ⟨[], eqs, [(41, k_head), (27, k_putN N)], [], [], mixs, meqs, []⟩) ⟨okNil, eqs_ok, (okConsB k_head_ok (okConsB ih okNilB)), okNilI, okNilP, mixs_ok, meqs_ok, okNilY⟩ Try.func27 rfl mixed [] (by kernel_rfl) 10000 (gOf eB (elts eB 0 m g)) (.sl 0 1 0 (m + (decT l).put.length)) [.own 5 1 (m + (decT l).put.length) (gOf eB (elts eB 0 m g ++ (decT l).put))] (by rw [← nth_eq]; exact hk) (fun i hi => by rw [gOf_elts eB hc.1 i hi, Nat.zero_add]) _ hv hb1 (open_T ht.1) rfl rfl rfl rfl (by simp [okSt, scL, SV.sc, scAll, Blk.sc]) h
        · trivial
      · trivial
    · rename_i rest
      split
      · rename_i b l hv
        intro hb1 ht hc
        simp only [Bool.and_eq_true, decide_eq_true_eq] at hc ht
        have h := put_run N ih (decT l) ht.2 [] (by simpa using hc)
        simp only [List.length_nil, Nat.zero_add, List.nil_append] at h
        exact bctr_nil (Γ := ⟨[], eqs, [(41, k_head), (27, k_putN N)], [], [], mixs, meqs, []⟩) ⟨okNil, eqs_ok, (okConsB k_head_ok (okConsB ih okNilB)), okNilI, okNilP, mixs_ok, meqs_ok, okNilY⟩ Try.func27 rfl mixed [] (by kernel_rfl) 10000 (gOf eB []) (.sl 0 1 0 (decT l).put.length) [.own 5 1 (decT l).put.length (gOf eB (decT l).put)] _ hv hb1 (open_T ht.1) rfl rfl rfl rfl (by simp [okSt, scL, SV.sc, scAll, Blk.sc]) h
      · trivial
    · trivial
end Go.Proofs.Ytmdkihggeodjfaa
