import Derived.Test.YtmdkihggeodjfaaX0
namespace Go.Proofs.Ytmdkihggeodjfaa
open Go.RowKit Go.Sx
set_option linter.unusedSimpArgs false
set_option linter.unusedVariables false
set_option linter.unnecessarySimpa false
set_option maxRecDepth 100000
set_option maxHeartbeats 4000000
theorem i64_of {n : Int} (h0 : 0 ≤ n) (h1 : n < 9223372036854775808) : IntKind.i64.wrap n = n := IntWalk.i64_in _ (by omega)
theorem i64_in_sub {n : Int} (h0 : -1000000 ≤ n) (h1 : n < 9223372036854775808) : IntKind.i64.wrap (n - 1) = n - 1 := IntWalk.i64_in _ (by omega)
theorem head_run (L : List Int) (kd : Int) (v : BitVec 64) (hL : L.length ≤ 1099511627776) : run Try.prog ⟨[(73, k_len64)], eqs, [], [], [], mixs, meqs⟩ 10000 [] 0 (bodyOf Try.f41) (initF Try.f41 [.sl 0 1 0 L.length, .int .u8 kd, .u64 v]) [.own 5 1 L.length (gOf eB L)] (retK Try.prog Try.f41 (Tells (.sl 0 1 0 (L.length + (Tr.head kd v).length)) [.own 5 1 (L.length + (Tr.head kd v).length) (gOf eB (L ++ Tr.head kd v))])) := by
  have hm := Tr.many_le v
  have hbytes : Try.prog.types[5].bytes = 1 := rfl
  (conv => whnf)
  (repeat' (first | (refine And.intro (fun hb => ?_) (fun hb => ?_) <;> (first | contradiction | (conv => whnf))) | (refine And.intro ?_ ?_; rotate_left 1; (conv => whnf))))
  all_goals try (first | rfl | exact decide_eq_true rfl | (refine decide_eq_true ?_; omega) | (simp only [hbytes, decide_eq_true_eq]; omega))
  · have hH : Tr.head kd v = [Tr.top kd (uv v)] := by simp only [Tr.head, hb, if_true]
    rw [hH]
    exact ⟨[2], rfl, mle_cons (ble_own rfl fun i hi => gOf_snoc eB L _ _ rfl i hi) mle_nil, _, rfl, fun _ => rfl⟩
  · have hH : Tr.head kd v = Tr.top kd (55 + (Tr.many v : Int)) :: Tr.low v (Tr.many v) := by simp only [Tr.head, hb, if_false, Bool.false_eq_true]
    have e8 : IntKind.i64.wrap (Int.tdiv (IntKind.i64.wrap ((bl v : Nat) + 7)) 8) = (Tr.many v : Int) := by
      have := bl_le v
      rw [i64_of (n := (bl v : Int) + 7) (by omega) (by omega)]
      have : ((bl v : Int) + 7).tdiv 8 = ((Tr.many v : Nat) : Int) := by
        unfold Tr.many
        rw [Int.tdiv_eq_ediv_of_nonneg (by omega)]; omega
      rw [this, i64_of (by omega) (by omega)]
    rw [hH]
    generalize hc : Tr.top kd (55 + (Tr.many v : Int)) = c
    refine .inr ⟨[], [0, 2, 8], fun k vals M => ∃ X : List Int, k ≤ Tr.many v ∧ X ++ Tr.low v k = Tr.low v (Tr.many v) ∧ vals = [.sl 2 1 0 (L.length + 1 + X.length), .u64 v, .int .i64 ((k : Int) - 1)] ∧ M = [.dead, .dead, .own 5 1 (L.length + 1 + X.length) (gOf eB (L ++ (c :: X)))], ?_⟩
    conv => whnf
    refine And.intro ⟨Tr.many v, [.dead, .dead, .own 5 1 (L.length + 1) (gOf eB (L ++ [c]))], mle_cons ble_dead (mle_cons ble_dead (mle_cons (ble_own rfl fun i hi => ?_) mle_nil)), rfl, rfl, [], Nat.le_refl _, rfl, ?_, rfl⟩ ?_
    · refine gOf_snoc eB L c _ ?_ i hi
      show [FV.int .u8 _] = [FV.int .u8 c]
      rw [e8, i64_of (n := 55 + (Tr.many v : Int)) (by omega) (by omega), ← hc]; rfl
    · show [SV.sl 2 1 0 (L.length + 1), .u64 v, .int .i64 (IntKind.i64.wrap (_ - 1))] = _
      rw [e8, i64_in_sub (by omega) (by omega)]; rfl
    rintro k vals M1 ⟨X, hk, hX, rfl, rfl⟩
    have hxl : X.length + k = Tr.many v := by have := congrArg List.length hX; simpa [Tr.low_length] using this
    (conv => whnf)
    (repeat' (first | (refine And.intro (fun hb => ?_) (fun hb => ?_) <;> (first | contradiction | (conv => whnf))) | (refine And.intro ?_ ?_; rotate_left 1; (conv => whnf))))
    all_goals try (first | rfl | exact decide_eq_true rfl | (refine decide_eq_true ?_; omega) | (simp only [hbytes, decide_eq_true_eq]; omega))
    · simp only [decide_eq_true_eq] at hb
      obtain ⟨m, rfl⟩ : ∃ m, k = m + 1 := ⟨k - 1, by omega⟩
      have e1 : IntKind.i64.wrap (8 * (((m + 1 : Nat) : Int) - 1)) = ((8 * m : Nat) : Int) := by rw [i64_of (by omega) (by omega)]; omega
      rw [e1]
      refine ⟨m, [.dead, .dead, .own 5 1 (L.length + 1 + (X ++ [IntKind.u8.wrap (uv (v >>> (8 * m)))]).length) (gOf eB (L ++ (c :: (X ++ [IntKind.u8.wrap (uv (v >>> (8 * m)))]))))], [0, 1, 4], by omega, rfl, mle_cons ble_dead (mle_cons ble_dead (mle_cons (ble_own (by simp; omega) fun i hi => ?_) mle_nil)), rfl, rfl, X ++ [IntKind.u8.wrap (uv (v >>> (8 * m)))], by omega, ?_, ?_, rfl⟩
      · rw [show L ++ c :: (X ++ [IntKind.u8.wrap (uv (v >>> (8 * m)))]) = (L ++ c :: X) ++ [IntKind.u8.wrap (uv (v >>> (8 * m)))] by simp, show L.length + 1 + X.length = (L ++ c :: X).length by simp; omega]
        exact gOf_snoc eB _ _ _ rfl i (by simp at hi ⊢; omega)
      · rw [← hX]; simp [Tr.low]
      · show [SV.sl 2 1 0 (L.length + 1 + X.length + 1), .u64 v, .int .i64 (IntKind.i64.wrap (((m + 1 : Nat) : Int) - 1 - 1))] = _
        rw [i64_in_sub (by omega) (by omega)]
        simp; omega
    · simp only [decide_eq_true_eq, decide_eq_false_iff_not] at hb ⊢
      rw [i64_of (by omega) (by omega)]; omega
    · simp only [decide_eq_false_iff_not] at hb
      obtain rfl : k = 0 := by omega
      have hX' : X = Tr.low v (Tr.many v) := by rw [← hX]; simp [Tr.low]
      rw [← hX']
      have hl : L.length + (c :: X).length = L.length + 1 + X.length := by simp; omega
      rw [hl]
      exact ⟨[2], rfl, mle_cons (ble_own rfl fun i hi => rfl) mle_nil, _, rfl, fun _ => rfl⟩
def k_head : List SV → List Blk → BRes := fun args M => match args with
  | .sl k sz 0 m :: rest => match nth M k with
    | some (.own ty sz' m' g) => match Nat.beq ty 5 && (Nat.beq sz 1 && Nat.beq sz' 1), topA eltB (M.set k .dead) rest with
      | true, some (b, [.one (.int .u8 kd), .one (.u64 v)]) => .test b (.test (decide (m = m')) (.test (allIs eB 0 m g && decide (m ≤ 1099511627776)) (.ok (.sl M.length 1 0 (m + (Tr.head kd v).length)) (M.set k .dead ++ [.own 5 1 (m + (Tr.head kd v).length) (gOf eB (elts eB 0 m g ++ Tr.head kd v))]))))
      | _, _ => .fail
    | _ => .fail
  | .val (.slice none 0 0) :: rest => match topA eltB M rest with
    | some (b, [.one (.int .u8 kd), .one (.u64 v)]) => .test b (.ok (.sl M.length 1 0 (Tr.head kd v).length) (M ++ [.own 5 1 (Tr.head kd v).length (gOf eB (Tr.head kd v))]))
    | _ => .fail
  | _ => .fail
theorem k_head_ok : BCtrOk Try.prog Gw 41 k_head := by
  refine ⟨fun _ _ => by kernel_rfl, fun args M => ?_⟩
  unfold k_head
  split
  · rename_i k sz m rest
    split
    · rename_i ty sz' m' g hk
      split
      · rename_i b kd v hb hv
        simp only [Bool.and_eq_true] at hb
        obtain rfl := Nat.eq_of_beq_eq_true hb.1
        obtain rfl := Nat.eq_of_beq_eq_true hb.2.1
        obtain rfl := Nat.eq_of_beq_eq_true hb.2.2
        intro hb1 hm hc
        simp only [Bool.and_eq_true, decide_eq_true_eq] at hm hc
        subst hm
        have e := elts_length eB 0 m g
        have h := head_run (elts eB 0 m g) kd v (by omega)
        rw [e] at h
        exact bctr_top (Γ := ⟨[(73, k_len64)], eqs, [], [], [], mixs, meqs⟩) ⟨(okCons k_len64_ok okNil), eqs_ok, okNilB, okNilI, okNilP, mixs_ok, meqs_ok⟩ Try.func41 rfl mixed [] (by kernel_rfl) 10000 (gOf eB (elts eB 0 m g)) (.sl 0 1 0 (m + (Tr.head kd v).length)) [.own 5 1 (m + (Tr.head kd v).length) (gOf eB (elts eB 0 m g ++ Tr.head kd v))] (by rw [← nth_eq]; exact hk) (fun i hi => by rw [gOf_elts eB hc.1 i hi, Nat.zero_add]) _ hv hb1 (AVEqL.refl _) rfl rfl rfl rfl (by simp [okSt, scL, SV.sc, scAll, Blk.sc]) h
      · trivial
    · trivial
  · rename_i rest
    split
    · rename_i b kd v hv
      intro hb1
      have h := head_run [] kd v (by simp)
      simp only [List.length_nil, Nat.zero_add, List.nil_append] at h
      exact bctr_nil (Γ := ⟨[(73, k_len64)], eqs, [], [], [], mixs, meqs⟩) ⟨(okCons k_len64_ok okNil), eqs_ok, okNilB, okNilI, okNilP, mixs_ok, meqs_ok⟩ Try.func41 rfl mixed [] (by kernel_rfl) 10000 (gOf eB []) (.sl 0 1 0 (Tr.head kd v).length) [.own 5 1 (Tr.head kd v).length (gOf eB (Tr.head kd v))] _ hv hb1 (AVEqL.refl _) rfl rfl rfl rfl (by simp [okSt, scL, SV.sc, scAll, Blk.sc]) h
    · trivial
  · trivial
end Go.Proofs.Ytmdkihggeodjfaa
