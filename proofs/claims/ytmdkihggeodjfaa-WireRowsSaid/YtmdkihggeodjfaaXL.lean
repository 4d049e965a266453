import Derived.Test.YtmdkihggeodjfaaXQ
import Derived.Test.YtmdkihggeodjfaaXJ
import Derived.Test.YtmdkihggeodjfaaXK
import Derived.Test.YtmdkihggeodjfaaSxC
import Derived.Test.YtmdkihggeodjfaaXG
namespace Go.Proofs.Ytmdkihggeodjfaa
open Go.RowKit Go.Sx
set_option linter.unusedSimpArgs false
set_option linter.unusedVariables false
set_option linter.unnecessarySimpa false
set_option maxRecDepth 100000
set_option maxHeartbeats 4000000
/-- Rows of a tree that is 0. -/
def cN : List FV := [.int .u8 1, .int .i64 0, .val (.slice none 0 0), .val (.slice none 0 0)]
theorem massL_at {L : List Tr} {i : Nat} (h : i < L.length) (hm : Tr.massL L ≤ 1048576) : (L.getD i .no).sz ≤ 1048576 ∧ (L.getD i .no).mass ≤ 1048576 ∧ (L.getD i .no).put.length ≤ 10485760 := by
  have := Tr.massL_get L i h
  have := Tr.sz_mass (L.getD i .no)
  have := Tr.put_mass (L.getD i .no)
  exact ⟨by omega, by omega, by omega⟩
theorem allIs_sh (l : List Int) : allIs eB 0 l.length (shiftG 0 (gOf eB l)) = true := allIs_gOf eB l 0 l.length
theorem gApp_0 (f h : Nat → List FV) (i : Nat) : gApp 0 f h i = h i := by
  unfold gApp
  rw [decide_eq_false (Nat.not_lt_zero i)]
  rw [Nat.sub_zero]
theorem rows_0 {K : X → List SV → List Blk → Prop} (L : List Tr) (turn : Int) (ht : -9223372036854775808 ≤ turn ∧ turn ≤ 9223372036854775807) (hf : Tr.fitL L = true) (hw : Tr.wideL L = true) (hl : L.length ≤ 140737488355328) (hR : ∀ F M, nth F 4 = some .tt → K .ret F M) (hB : ∀ F M b, b = true → nth F 4 = some (.bool b) → K .ret F M) (hK : ∀ (d : Nat → SV) (hm : Tr.massL L ≤ 4000) , K .normal (mkFrom [(0, .sl 0 4 0 L.length), (1, .int .i64 turn), (6, .val (.slice none 0 0))] d 197 0) [.ro 4 L.length (gK L)]) : run Try.prog ⟨[(7, k_awake), (8, k_weight), (9, k_Put), (10, k_Row), (11, k_Of), (12, k_same), (13, k_Pick), (14, k_sameT)], eqs, [], [], [], mixs, meqs⟩ 10000 [(28, 30, [0, 1, 3, 7, 15, 31, 63, 127, 255, 127, 639, 2047, 127, 8191, 16383, 32767, 65535, 65535, 262143, 65535, 65535, 1638399, 4194303, 8388607, 16777215, 33554431, 67108863, 67108863, 268435455, 67108863, 1073741823, 2147483647, 4294967295]), (37, 15, [0, 1, 3, 3, 15, 31, 3, 3, 3, 387, 3, 1027, 3971, 8131, 16323, 32767, 65535, 131071, 262143])] 0 (takeC 6 (bodyOf Try.f3)) (initF Try.f3 [.sl 0 4 0 L.length, .int .i64 turn]) [.ro 4 L.length (gK L)] K := by
  have hll := Tr.massL_len L
  (conv => whnf)
  (repeat' (first | (refine step_t (by first | rfl | assumption) ?_; (conv => whnf)) | (refine step_f (by first | rfl | assumption) ?_; (conv => whnf)) | (refine step_nt (by assumption) ?_; (conv => whnf)) | (refine step_nf (by assumption) ?_; (conv => whnf)) | (refine step_n (fun hb => ?_) (fun hb => ?_) <;> (first | contradiction | (conv => whnf))) | (refine And.intro (fun hb => ?_) (fun hb => ?_) <;> (first | contradiction | (conv => whnf))) | (refine And.intro ?_ ?_; rotate_left 1; (conv => whnf))))
  all_goals try (exact decide_eq_true (by omega))
  all_goals try (rw [show (0 : Nat) + L.length = L.length from Nat.zero_add _]; exact decide_eq_true (Nat.le_refl _))
  refine .inr ⟨[], [0, 1, 5, 6, 7], fun k vals M => ∃ (j : Nat) (n : Int), j ≤ L.length ∧ k = L.length - j ∧ n = L.length + Tr.wsum (L.take j) ∧ (0 ≤ n ∧ n ≤ 300000000000000) ∧ vals = [.sl 0 4 0 L.length, .int .i64 turn, .int .i64 n, .val (.slice none 0 0), .int .i64 (j : Int)] ∧ M = [.ro 4 L.length (gK L)], ?_⟩
  conv => whnf
  refine And.intro ⟨L.length, [.ro 4 L.length (gK L)], mle_cons ble_refl mle_nil, rfl, rfl, 0, (L.length : Int), by omega, by omega, by simp [Tr.wsum], ⟨by omega, by omega⟩, rfl, rfl⟩ ?_
  rintro k vals M1 ⟨j, n, hj, rfl, hn, ⟨hn0, hn1⟩, rfl, rfl⟩
  have hz : 0 + ((j : Int)).toNat = j := by omega
  (conv => whnf)
  (repeat' (first | (refine step_t (by first | rfl | assumption) ?_; (conv => whnf)) | (refine step_f (by first | rfl | assumption) ?_; (conv => whnf)) | (refine step_nt (by assumption) ?_; (conv => whnf)) | (refine step_nf (by assumption) ?_; (conv => whnf)) | (refine step_n (fun hb => ?_) (fun hb => ?_) <;> (first | contradiction | (conv => whnf))) | (refine And.intro (fun hb => ?_) (fun hb => ?_) <;> (first | contradiction | (conv => whnf))) | (refine And.intro ?_ ?_; rotate_left 1; (conv => whnf))))
  all_goals try (simp only [dec0, is0, hz] at *)
  all_goals try (simp only [decide_eq_true_eq, decide_eq_false_iff_not] at *)
  all_goals try (exfalso; omega)
  all_goals try first | rfl | (refine decide_eq_true ?_; omega)
  all_goals try
    (have hlt : j < L.length := by omega
     first | exact hlt | (rw [Bool.and_eq_true]; exact ⟨decide_eq_true (by omega), decide_eq_true (by omega)⟩) | (rw [Bool.true_and]; exact Tr.wideL_get L j hlt hw) | (simp; done))
  · have hlt : j < L.length := by omega
    have h1 := Tr.weight_one hw hlt
    have h2 := Tr.wsum_take hlt
    refine ⟨L.length - (j + 1), [.ro 4 L.length (gK L)], [0], by omega, rfl, mle_cons ble_refl mle_nil, rfl, rfl, j + 1, n + (L.getD j .no).weight 4000 15, by omega, rfl, by omega, ⟨by omega, by omega⟩, ?_, rfl⟩
    show [SV.sl 0 4 0 L.length, .int .i64 turn, .int .i64 (IntKind.i64.wrap (n + (L.getD j .no).weight 4000 15)), .val (.slice none 0 0), .int .i64 (IntKind.i64.wrap ((j : Int) + 1))] = _
    rw [i64_of (n := (j : Int) + 1) (by omega) (by omega), i64_of (n := n + (L.getD j .no).weight 4000 15) (by omega) (by omega)]; rfl
  all_goals first
    | exact hR _ _ rfl
    | (have hjl : j = L.length := by omega
       subst hjl
       rw [List.take_length] at hn
       have h1 := Tr.wsum_mass L hw
       have h2 := h1.2 (by omega)
       exact use_live (fun d => hK d (by omega)) rfl ⟨rfl, rfl, rfl, trivial⟩)
theorem rows_6 {K : X → List SV → List Blk → Prop} (L : List Tr) (turn : Int) (ht : -9223372036854775808 ≤ turn ∧ turn ≤ 9223372036854775807) (hf : Tr.fitL L = true) (hm : Tr.massL L ≤ 1048576) (d : Nat → SV) (hR : ∀ F M, nth F 4 = some .tt → K .ret F M) (hB : ∀ F M b, b = true → nth F 4 = some (.bool b) → K .ret F M) (hK : ∀ (d : Nat → SV) (b2 b3 : Blk) (hall : (L.all fun t => t.right && t.within 16) = true) (q1 : Tr.withinL L 15 = true) , K .normal (mkFrom [(0, .sl 0 4 0 L.length), (1, .int .i64 turn), (6, .sl 1 1 0 (Tr.putL L).length), (11, .sl 4 1 0 (Tr.row L).put.length), (13, .int .i64 (Tr.head 3 (BitVec.ofInt 64 L.length)).length)] d 197 0) [.ro 4 L.length (gK L), .own 5 1 (Tr.putL L).length (gOf eB (Tr.putL L)), b2, b3, .fz 1 (Tr.row L).put.length (gOf eB (Tr.row L).put)]) : run Try.prog ⟨[(7, k_awake), (8, k_weight), (9, k_Put), (10, k_Row), (11, k_Of), (12, k_same), (13, k_Pick), (14, k_sameT)], eqs, [], [], [], mixs, meqs⟩ 9994 [(28, 30, [0, 1, 3, 7, 15, 31, 63, 127, 255, 127, 639, 2047, 127, 8191, 16383, 32767, 65535, 65535, 262143, 65535, 65535, 1638399, 4194303, 8388607, 16777215, 33554431, 67108863, 67108863, 268435455, 67108863, 1073741823, 2147483647, 4294967295]), (37, 15, [0, 1, 3, 3, 15, 31, 3, 3, 3, 387, 3, 1027, 3971, 8131, 16323, 32767, 65535, 131071, 262143])] 0 (takeC 4 (dropC 6 (bodyOf Try.f3))) (mkFrom [(0, .sl 0 4 0 L.length), (1, .int .i64 turn), (6, .val (.slice none 0 0))] d 197 0) [.ro 4 L.length (gK L)] K := by
  have hll := Tr.massL_len L
  (conv => whnf)
  (repeat' (first | (refine step_t (by first | rfl | assumption) ?_; (conv => whnf)) | (refine step_f (by first | rfl | assumption) ?_; (conv => whnf)) | (refine step_nt (by assumption) ?_; (conv => whnf)) | (refine step_nf (by assumption) ?_; (conv => whnf)) | (refine step_n (fun hb => ?_) (fun hb => ?_) <;> (first | contradiction | (conv => whnf))) | (refine And.intro (fun hb => ?_) (fun hb => ?_) <;> (first | contradiction | (conv => whnf))) | (refine And.intro ?_ ?_; rotate_left 1; (conv => whnf))))
  refine .inr ⟨[(6, 5, 1)], [0, 1, 6, 8], fun k vals M => ∃ (j : Nat), j ≤ L.length ∧ k = L.length - j ∧ ((L.take j).all fun t => t.right && t.within 16) = true ∧ vals = [.sl 0 4 0 L.length, .int .i64 turn, .sl 1 1 0 (Tr.putL (L.take j)).length, .int .i64 (j : Int)] ∧ M = [.ro 4 L.length (gK L), .own 5 1 (Tr.putL (L.take j)).length (gOf eB (Tr.putL (L.take j)))], ?_⟩
  conv => whnf
  refine And.intro ⟨L.length, [.ro 4 L.length (gK L), .own 5 1 0 (gOf eB [])], mle_cons ble_refl (mle_cons (ble_own rfl fun i hi => absurd hi (Nat.not_lt_zero i)) mle_nil), rfl, rfl, 0, by omega, by omega, rfl, rfl, rfl⟩ ?_
  rintro k vals M1 ⟨j, hj, rfl, hall, rfl, rfl⟩
  have hz : 0 + ((j : Int)).toNat = j := by omega
  (conv => whnf)
  (repeat' (first | (refine step_t (by first | rfl | assumption) ?_; (conv => whnf)) | (refine step_f (by first | rfl | assumption) ?_; (conv => whnf)) | (refine step_nt (by assumption) ?_; (conv => whnf)) | (refine step_nf (by assumption) ?_; (conv => whnf)) | (refine step_n (fun hb => ?_) (fun hb => ?_) <;> (first | contradiction | (conv => whnf))) | (refine And.intro (fun hb => ?_) (fun hb => ?_) <;> (first | contradiction | (conv => whnf))) | (refine And.intro ?_ ?_; rotate_left 1; (conv => whnf))))
  all_goals try (simp only [dec0, is0, hz, Tr.map_gK, Tr.all_gK] at *)
  all_goals try (first | rfl | (refine decide_eq_true ?_; omega) | (simp only [Tr.bs_row, Tr.kids_row]; simp; done))
  all_goals try
    (have hlt : j < L.length := by
       have h9 : decide ((j : Int) < (L.length : Int)) = true := by assumption
       simpa using h9
     have hb1 := massL_at hlt hm
     have hb2 := Tr.puts_len (L.getD j .no)
     have hb3 := Tr.putL_part L j
     have hb4 := Tr.putL_mass L
     first | exact decide_eq_true (by omega) | (rw [Bool.and_eq_true]; exact ⟨decide_eq_true (by omega), decide_eq_true (by omega)⟩) | (rw [Bool.true_and, Bool.and_eq_true]; exact ⟨decide_eq_true (by omega), decide_eq_true (by omega)⟩) | (simp; done) | (rw [show (Try.prog.types[5]).bytes = 1 from by kernel_rfl]; exact decide_eq_true (by omega)))
  all_goals try
    (have hb1 := Tr.row_sz L
     have hb2 := Tr.row_len L
     rw [Bool.true_and, Bool.and_eq_true]; exact ⟨decide_eq_true (by omega), decide_eq_true (by omega)⟩)
  all_goals try exact hR _ _ rfl
  · have hlt : j < L.length := by
      have h9 : decide ((j : Int) < (L.length : Int)) = true := by assumption
      simpa using h9
    obtain ⟨p1, p2⟩ := Tr.puts_ok hb
    have e : Tr.putL (L.take (j + 1)) = Tr.putL (L.take j) ++ (L.getD j .no).put := Tr.putL_take L j hlt
    rw [p2]
    refine ⟨L.length - (j + 1), [.ro 4 L.length (gK L), .own 5 1 (Tr.putL (L.take (j + 1))).length (gOf eB (Tr.putL (L.take (j + 1))))], [0, 5], by omega, rfl, mle_cons ble_refl (mle_cons (ble_own (by rw [e, List.length_append]) ?_) mle_nil), rfl, rfl, j + 1, by omega, rfl, ?_, ?_, rfl⟩
    · rw [e, List.length_append]
      exact gOf_app eB rfl fun i hi => by simp
    · rw [Tr.all_take hlt, hall, p1]; rfl
    · show [SV.sl 0 4 0 L.length, .int .i64 turn, .sl 1 1 0 ((Tr.putL (L.take j)).length + (L.getD j .no).put.length), .int .i64 (IntKind.i64.wrap ((j : Int) + 1))] = _
      rw [i64_of (n := (j : Int) + 1) (by omega) (by omega), e, List.length_append]; rfl
  all_goals
    have hjl : j = L.length := by
      have h9 : decide ((j : Int) < (L.length : Int)) = false := by assumption
      simp at h9; omega
    subst hjl
    rw [List.take_length] at *
    first
    | (simp; done)
    | (have hb1 := Tr.row_sz L
       have hb2 := Tr.row_len L
       show (true && (decide ((Tr.row L).sz ≤ _) && decide ((Tr.row L).put.length ≤ _))) = true
       rw [Bool.true_and, Bool.and_eq_true]; exact ⟨decide_eq_true (by omega), decide_eq_true (by omega)⟩)
    | (have hb9 : ((Tr.row L).puts.2 == 0) = false := by assumption
       refine hB _ _ _ ?_ rfl
       show ((Tr.row L).puts.2 == 3) = true
       rw [Tr.row_puts hall] at hb9 ⊢
       split
       · rename_i h; rw [if_pos h] at hb9; simp at hb9
       · rfl)
    | (have hb9 : ((Tr.row L).puts.2 == 0) = true := by assumption
       obtain ⟨q1, q2⟩ : Tr.withinL L 15 = true ∧ (Tr.row L).puts = ((Tr.row L).put, 0) := by
         rw [Tr.row_puts hall] at hb9 ⊢
         split at hb9
         · rename_i h; exact ⟨h, by rw [if_pos h]⟩
         · simp at hb9
       have hlen : (Tr.row L).put.length = (Tr.head 3 (BitVec.ofInt 64 L.length)).length + (Tr.putL L).length := by rw [Tr.row_put, List.length_append]
       have hsm := Tr.row_len L
       have hw : IntKind.i64.wrap (((Tr.row L).put.length : Int) - (Tr.putL L).length) = ((Tr.head 3 (BitVec.ofInt 64 L.length)).length : Int) := by rw [IntWalk.i64_in _ (by omega)]; omega
       rw [show Tr.mk 3 0 [] L = Tr.row L from rfl, q2]
       rw [hw]
       exact use_live (fun d => hK d _ _ hall q1) rfl ⟨rfl, rfl, rfl, rfl, rfl, trivial⟩)
theorem rows_10 {K : X → List SV → List Blk → Prop} (L : List Tr) (turn : Int) (ht : -9223372036854775808 ≤ turn ∧ turn ≤ 9223372036854775807) (hf : Tr.fitL L = true) (hm : Tr.massL L ≤ 1048576) (hall : (L.all fun t => t.right && t.within 16) = true) (q1 : Tr.withinL L 15 = true) (b2 b3 : Blk) (d : Nat → SV) (hR : ∀ F M, nth F 4 = some .tt → K .ret F M) (hB : ∀ F M b, b = true → nth F 4 = some (.bool b) → K .ret F M) (hK : ∀ (d : Nat → SV) (hall : (L.all fun t => t.right && t.within 16) = true) (q1 : Tr.withinL L 15 = true) , K .normal (mkFrom [(0, .sl 0 4 0 L.length), (1, .int .i64 turn), (6, .sl 1 1 0 (Tr.putL L).length), (11, .sl 4 1 0 (Tr.row L).put.length), (13, .int .i64 (Tr.head 3 (BitVec.ofInt 64 L.length)).length), (14, .sl 5 4 0 L.length)] d 197 0) [.ro 4 L.length (gK L), .own 5 1 (Tr.putL L).length (gOf eB (Tr.putL L)), .dead, .dead, .fz 1 (Tr.row L).put.length (gOf eB (Tr.row L).put), .own 28 4 L.length (fun _ => cN)]) : run Try.prog ⟨[(7, k_awake), (8, k_weight), (9, k_Put), (10, k_Row), (11, k_Of), (12, k_same), (13, k_Pick), (14, k_sameT)], eqs, [], [], [], mixs, meqs⟩ 9990 [(28, 30, [0, 1, 3, 7, 15, 31, 63, 127, 255, 127, 639, 2047, 127, 8191, 16383, 32767, 65535, 65535, 262143, 65535, 65535, 1638399, 4194303, 8388607, 16777215, 33554431, 67108863, 67108863, 268435455, 67108863, 1073741823, 2147483647, 4294967295]), (37, 15, [0, 1, 3, 3, 15, 31, 3, 3, 3, 387, 3, 1027, 3971, 8131, 16323, 32767, 65535, 131071, 262143])] 0 (takeC 2 (dropC 10 (bodyOf Try.f3))) (mkFrom [(0, .sl 0 4 0 L.length), (1, .int .i64 turn), (6, .sl 1 1 0 (Tr.putL L).length), (11, .sl 4 1 0 (Tr.row L).put.length), (13, .int .i64 (Tr.head 3 (BitVec.ofInt 64 L.length)).length)] d 197 0) [.ro 4 L.length (gK L), .own 5 1 (Tr.putL L).length (gOf eB (Tr.putL L)), b2, b3, .fz 1 (Tr.row L).put.length (gOf eB (Tr.row L).put)] K := by
  have hll := Tr.massL_len L
  (conv => whnf)
  (repeat' (first | (refine step_t (by first | rfl | assumption) ?_; (conv => whnf)) | (refine step_f (by first | rfl | assumption) ?_; (conv => whnf)) | (refine step_nt (by assumption) ?_; (conv => whnf)) | (refine step_nf (by assumption) ?_; (conv => whnf)) | (refine step_n (fun hb => ?_) (fun hb => ?_) <;> (first | contradiction | (conv => whnf))) | (refine And.intro (fun hb => ?_) (fun hb => ?_) <;> (first | contradiction | (conv => whnf))) | (refine And.intro ?_ ?_; rotate_left 1; (conv => whnf))))
  refine .inr ⟨[(14, 28, 4)], [0, 1, 6, 11, 13, 14, 15], fun k vals M => ∃ (j : Nat), j ≤ L.length ∧ k = L.length - j ∧ vals = [.sl 0 4 0 L.length, .int .i64 turn, .sl 1 1 0 (Tr.putL L).length, .sl 4 1 0 (Tr.row L).put.length, .int .i64 (Tr.head 3 (BitVec.ofInt 64 L.length)).length, .sl 5 4 0 j, .int .i64 (j : Int)] ∧ M = [.ro 4 L.length (gK L), .own 5 1 (Tr.putL L).length (gOf eB (Tr.putL L)), .dead, .dead, .fz 1 (Tr.row L).put.length (gOf eB (Tr.row L).put), .own 28 4 j (fun _ => cN)], ?_⟩
  conv => whnf
  refine And.intro ⟨L.length, [.ro 4 L.length (gK L), .own 5 1 (Tr.putL L).length (gOf eB (Tr.putL L)), .dead, .dead, .fz 1 (Tr.row L).put.length (gOf eB (Tr.row L).put), .own 28 4 0 (fun _ => cN)], mle_cons ble_refl (mle_cons ble_refl (mle_cons ble_dead (mle_cons ble_dead (mle_cons ble_refl (mle_cons (ble_own rfl fun i hi => absurd hi (Nat.not_lt_zero i)) mle_nil))))), rfl, rfl, 0, by omega, by omega, rfl, rfl⟩ ?_
  rintro k vals M1 ⟨j, hj, rfl, rfl, rfl⟩
  (conv => whnf)
  (repeat' (first | (refine step_t (by first | rfl | assumption) ?_; (conv => whnf)) | (refine step_f (by first | rfl | assumption) ?_; (conv => whnf)) | (refine step_nt (by assumption) ?_; (conv => whnf)) | (refine step_nf (by assumption) ?_; (conv => whnf)) | (refine step_n (fun hb => ?_) (fun hb => ?_) <;> (first | contradiction | (conv => whnf))) | (refine And.intro (fun hb => ?_) (fun hb => ?_) <;> (first | contradiction | (conv => whnf))) | (refine And.intro ?_ ?_; rotate_left 1; (conv => whnf))))
  all_goals try (first | rfl | (refine decide_eq_true ?_; omega))
  · have hlt : j < L.length := by
      have h9 : decide ((j : Int) < (L.length : Int)) = true := by assumption
      simpa using h9
    refine ⟨L.length - (j + 1), [.ro 4 L.length (gK L), .own 5 1 (Tr.putL L).length (gOf eB (Tr.putL L)), .dead, .dead, .fz 1 (Tr.row L).put.length (gOf eB (Tr.row L).put), .own 28 4 (j + 1) (fun _ => cN)], [0, 1, 2, 3, 4, 7], by omega, rfl, mle_cons ble_refl (mle_cons ble_refl (mle_cons ble_dead (mle_cons ble_dead (mle_cons ble_refl (mle_cons (ble_own rfl fun i hi => ?_) mle_nil))))), rfl, rfl, j + 1, by omega, rfl, ?_, rfl⟩
    · unfold gApp
      by_cases hij : i < j
      · rw [decide_eq_true hij]
      · obtain rfl : i = j := by omega
        rw [decide_eq_false hij]
        simp only [Nat.sub_self]
        rfl
    · show [SV.sl 0 4 0 L.length, .int .i64 turn, .sl 1 1 0 (Tr.putL L).length, .sl 4 1 0 (Tr.row L).put.length, .int .i64 (Tr.head 3 (BitVec.ofInt 64 L.length)).length, .sl 5 4 0 (j + 1), .int .i64 (IntKind.i64.wrap ((j : Int) + 1))] = _
      rw [i64_of (n := (j : Int) + 1) (by omega) (by omega)]; rfl
  · have hlt : j < L.length := by
      have h9 : decide ((j : Int) < (L.length : Int)) = true := by assumption
      simpa using h9
    rw [show (Try.prog.types[28]).bytes = 64 from by kernel_rfl]; exact decide_eq_true (by omega)
  · obtain rfl : j = L.length := by
      have h9 : decide ((j : Int) < (L.length : Int)) = false := by assumption
      simp at h9; omega
    exact use_live (fun d => hK d hall q1) rfl ⟨rfl, rfl, rfl, rfl, rfl, rfl, trivial⟩
theorem rows_12 {K : X → List SV → List Blk → Prop} (L : List Tr) (turn : Int) (ht : -9223372036854775808 ≤ turn ∧ turn ≤ 9223372036854775807) (hf : Tr.fitL L = true) (hm : Tr.massL L ≤ 1048576) (hall : (L.all fun t => t.right && t.within 16) = true) (q1 : Tr.withinL L 15 = true) (d : Nat → SV) (hR : ∀ F M, nth F 4 = some .tt → K .ret F M) (hB : ∀ F M b, b = true → nth F 4 = some (.bool b) → K .ret F M) (hK : ∀ (d : Nat → SV) (m6 m7 m8 : Nat) (g6 g7 g8 : Nat → List FV) (hall : (L.all fun t => t.right && t.within 16) = true) (q1 : Tr.withinL L 15 = true) , K .normal (mkFrom [(0, .sl 0 4 0 L.length), (1, .int .i64 turn), (11, .sl 4 1 0 (Tr.row L).put.length)] d 197 0) [.ro 4 L.length (gK L), .own 5 1 (Tr.putL L).length (gOf eB (Tr.putL L)), .dead, .dead, .fz 1 (Tr.row L).put.length (gOf eB (Tr.row L).put), .own 28 4 L.length (fun _ => cN), .fz 1 m6 g6, .fz 4 m7 g7, .fz 1 m8 g8]) (hK1 : ∀ (d : Nat → SV) (m6 m7 m8 : Nat) (g6 g7 g8 : Nat → List FV) (hall : (L.all fun t => t.right && t.within 16) = true) (q1 : Tr.withinL L 15 = true) , K .normal (mkFrom [(0, .sl 0 4 0 L.length), (1, .int .i64 turn), (11, .sl 4 1 0 (Tr.row L).put.length)] d 197 0) [.ro 4 L.length (gK L), .own 5 1 (Tr.putL L).length (gOf eB (Tr.putL L)), .dead, .dead, .fz 1 (Tr.row L).put.length (gOf eB (Tr.row L).put), .own 28 4 L.length (fun _ => cN), .fz 1 m6 g6, .fz 4 m7 g7, .fz 1 m8 g8, .ro 1 0 (fun _ => [])]) (hK2 : ∀ (d : Nat → SV) (m6 m7 m8 : Nat) (g6 g7 g8 : Nat → List FV) (hall : (L.all fun t => t.right && t.within 16) = true) (q1 : Tr.withinL L 15 = true) , K .normal (mkFrom [(0, .sl 0 4 0 L.length), (1, .int .i64 turn), (11, .sl 4 1 0 (Tr.row L).put.length)] d 197 0) [.ro 4 L.length (gK L), .own 5 1 (Tr.putL L).length (gOf eB (Tr.putL L)), .dead, .dead, .fz 1 (Tr.row L).put.length (gOf eB (Tr.row L).put), .own 28 4 L.length (fun _ => cN), .fz 1 m6 g6, .fz 4 m7 g7, .fz 1 m8 g8, .ro 1 0 (fun _ => []), .ro 1 0 (fun _ => [])]) : run Try.prog ⟨[(7, k_awake), (8, k_weight), (9, k_Put), (10, k_Row), (11, k_Of), (12, k_same), (13, k_Pick), (14, k_sameT)], eqs, [], [], [], mixs, meqs⟩ 9988 [(28, 30, [0, 1, 3, 7, 15, 31, 63, 127, 255, 127, 639, 2047, 127, 8191, 16383, 32767, 65535, 65535, 262143, 65535, 65535, 1638399, 4194303, 8388607, 16777215, 33554431, 67108863, 67108863, 268435455, 67108863, 1073741823, 2147483647, 4294967295]), (37, 15, [0, 1, 3, 3, 15, 31, 3, 3, 3, 387, 3, 1027, 3971, 8131, 16323, 32767, 65535, 131071, 262143])] 0 (takeC 2 (dropC 12 (bodyOf Try.f3))) (mkFrom [(0, .sl 0 4 0 L.length), (1, .int .i64 turn), (6, .sl 1 1 0 (Tr.putL L).length), (11, .sl 4 1 0 (Tr.row L).put.length), (13, .int .i64 (Tr.head 3 (BitVec.ofInt 64 L.length)).length), (14, .sl 5 4 0 L.length)] d 197 0) [.ro 4 L.length (gK L), .own 5 1 (Tr.putL L).length (gOf eB (Tr.putL L)), .dead, .dead, .fz 1 (Tr.row L).put.length (gOf eB (Tr.row L).put), .own 28 4 L.length (fun _ => cN)] K := by
  have hll := Tr.massL_len L
  have hN : IsT cN (tA 0) := isA 0
  have hh := Tr.head_pos 3 (BitVec.ofInt 64 L.length)
  have hlen : (Tr.row L).put.length = (Tr.head 3 (BitVec.ofInt 64 L.length)).length + (Tr.putL L).length := by rw [Tr.row_put, List.length_append]
  have hsm := Tr.row_len L
  have hw2 : IntKind.i64.wrap ((((Tr.head 3 (BitVec.ofInt 64 L.length)).length + L.length : Nat) : Int) - (L.length : Int)) = ((Tr.head 3 (BitVec.ofInt 64 L.length)).length : Int) := by rw [IntWalk.i64_in _ (by omega)]; omega
  have f1 : elts eB 0 (Tr.head 3 (BitVec.ofInt 64 L.length)).length (gOf eB (Tr.row L).put) = Tr.head 3 (BitVec.ofInt 64 L.length) := by
    rw [elts_gOf eB (by omega), Tr.row_put, List.drop_zero, List.take_left]
  have f2 : elts eB 0 (Tr.head 3 (BitVec.ofInt 64 L.length)).length (gOf eB (Tr.head 3 (BitVec.ofInt 64 L.length) ++ List.replicate L.length 0)) = Tr.head 3 (BitVec.ofInt 64 L.length) := by
    rw [elts_gOf eB (by rw [List.length_append]; omega), List.drop_zero, List.take_left]
  have f3 : elts eB 0 ((Tr.row L).put.length - (Tr.head 3 (BitVec.ofInt 64 L.length)).length) (shiftG (Tr.head 3 (BitVec.ofInt 64 L.length)).length (gOf eB (Tr.row L).put)) = Tr.putL L := by
    have : elts eB 0 ((Tr.row L).put.length - (Tr.head 3 (BitVec.ofInt 64 L.length)).length) (shiftG (Tr.head 3 (BitVec.ofInt 64 L.length)).length (gOf eB (Tr.row L).put)) = elts eB (Tr.head 3 (BitVec.ofInt 64 L.length)).length ((Tr.row L).put.length - (Tr.head 3 (BitVec.ofInt 64 L.length)).length) (gOf eB (Tr.row L).put) := by
      unfold elts; congr 1; funext i; rw [shiftG_eq, Nat.zero_add]
    rw [this, elts_gOf eB (by omega), Tr.row_put, List.drop_left, List.length_append, Nat.add_sub_cancel_left, List.take_length]
  have f4 : elts eB 0 (Tr.putL L).length (gOf eB (Tr.putL L)) = Tr.putL L := elts_all eB _
  have f5 : ∀ g : Nat → List FV, elts eB 0 0 g = [] := fun _ => rfl
  have h0 : ∀ g : Nat → List FV, shiftG 0 g = g := fun _ => rfl
  have f6 : ¬ (Tr.head 3 (BitVec.ofInt 64 L.length)).length < (Tr.row L).put.length → Tr.putL L = [] := fun h => List.eq_nil_of_length_eq_zero (by omega)
  have hms := Tr.row_sz (List.replicate L.length (tA 0))
  have hml := Tr.row_len (List.replicate L.length (tA 0))
  rw [Tr.massL_rep] at hms hml
  have ais : ∀ (o n : Nat) (l : List Int), allIs eB 0 n (shiftG o (gOf eB l)) = true := fun o n l => by
    unfold allIs; rw [List.all_eq_true]; intro i _; rw [shiftG_eq]; rfl
  have ai0 : ∀ (n : Nat) (l : List Int), allIs eB 0 n (gOf eB l) = true := fun n l => ais 0 n l
  have ai1 : ∀ g : Nat → List FV, allIs eB 0 0 g = true := fun _ => rfl
  (conv => whnf)
  (repeat' (first | (refine step_t (by first | rfl | assumption) ?_; (conv => whnf)) | (refine step_f (by first | rfl | assumption) ?_; (conv => whnf)) | (refine step_nt (by assumption) ?_; (conv => whnf)) | (refine step_nf (by assumption) ?_; (conv => whnf)) | (refine step_n (fun hb => ?_) (fun hb => ?_) <;> (first | contradiction | (conv => whnf))) | (refine And.intro (fun hb => ?_) (fun hb => ?_) <;> (first | contradiction | (conv => whnf))) | (refine And.intro ?_ ?_; rotate_left 1; (conv => whnf))))
  all_goals try (first | rfl | (refine decide_eq_true ?_; omega))
  all_goals first
    | (refine use_live (fun d => hK d _ _ _ _ _ _ hall q1) rfl ⟨rfl, rfl, rfl, trivial⟩)
    | (refine use_live (fun d => hK1 d _ _ _ _ _ _ hall q1) rfl ⟨rfl, rfl, rfl, trivial⟩)
    | (refine use_live (fun d => hK2 d _ _ _ _ _ _ hall q1) rfl ⟨rfl, rfl, rfl, trivial⟩)
    | (exfalso; clear hK hK1 hK2 hR hB; (repeat (revert hb)); (try simp only [dec0, is0, Tr.map_N hN, Tr.all_N hN, Tr.nought_puts]); (try simp only [hw2, f1, f2, f3, f4, f5, h0, ais, ai0, ai1, Tr.bs_row, Tr.kids_row, Nat.zero_add, Nat.sub_zero, Int.toNat_natCast, List.length_append, List.length_replicate, Bool.true_and, Bool.and_true, Bool.and_eq_true, decide_eq_true_eq, decide_eq_false_iff_not, beq_self_eq_true, Bool.true_eq_false, Bool.false_eq_true, implies_true, true_implies, forall_const, false_implies, imp_false, not_false_eq_true, not_true_eq_false, and_true, true_and, bne_self_eq_false, bne_iff_ne, ne_eq, beq_iff_eq, beq_eq_false_iff_ne, bne_eq_false_iff_eq]); done)
    | (exfalso; clear hK hK1 hK2 hR hB; (repeat (revert hb)); (try simp only [dec0, is0, Tr.map_N hN, Tr.all_N hN, Tr.nought_puts]); (try simp only [hw2, f1, f2, f3, f4, f5, h0, ais, ai0, ai1, Tr.bs_row, Tr.kids_row, Nat.zero_add, Nat.sub_zero, Int.toNat_natCast, List.length_append, List.length_replicate, Bool.true_and, Bool.and_true, Bool.and_eq_true, decide_eq_true_eq, decide_eq_false_iff_not, beq_self_eq_true, Bool.true_eq_false, Bool.false_eq_true, implies_true, true_implies, forall_const, false_implies, imp_false, not_false_eq_true, not_true_eq_false, and_true, true_and, bne_self_eq_false, bne_iff_ne, ne_eq, beq_iff_eq, beq_eq_false_iff_ne, bne_eq_false_iff_eq]); (try intros); omega)
    | (exfalso; clear hK hK1 hK2 hR hB; (repeat (revert hb)); (try simp only [dec0, is0, Tr.map_N hN, Tr.all_N hN, Tr.nought_puts]); (try simp only [hw2, f1, f2, f3, f4, f5, h0, ais, ai0, ai1, Tr.bs_row, Tr.kids_row, Nat.zero_add, Nat.sub_zero, Int.toNat_natCast, List.length_append, List.length_replicate, Bool.true_and, Bool.and_true, Bool.and_eq_true, decide_eq_true_eq, decide_eq_false_iff_not, beq_self_eq_true, Bool.true_eq_false, Bool.false_eq_true, implies_true, true_implies, forall_const, false_implies, imp_false, not_false_eq_true, not_true_eq_false, and_true, true_and, bne_self_eq_false, bne_iff_ne, ne_eq, beq_iff_eq, beq_eq_false_iff_ne, bne_eq_false_iff_eq]); intros; simp_all; done)
    | (clear hK hK1 hK2 hR hB; (repeat (revert hb)); (try simp only [dec0, is0, Tr.map_N hN, Tr.all_N hN, Tr.nought_puts]); (try simp only [hw2, f1, f2, f3, f4, f5, h0, ais, ai0, ai1, Tr.bs_row, Tr.kids_row, Nat.zero_add, Nat.sub_zero, Int.toNat_natCast, List.length_append, List.length_replicate, Bool.true_and, Bool.and_true, Bool.and_eq_true, decide_eq_true_eq, decide_eq_false_iff_not, beq_self_eq_true, Bool.true_eq_false, Bool.false_eq_true, implies_true, true_implies, forall_const, false_implies, imp_false, not_false_eq_true, not_true_eq_false, and_true, true_and, bne_self_eq_false, bne_iff_ne, ne_eq, beq_iff_eq, beq_eq_false_iff_ne, bne_eq_false_iff_eq]); done)
    | (clear hK hK1 hK2 hR hB; (repeat (revert hb)); (try simp only [dec0, is0, Tr.map_N hN, Tr.all_N hN, Tr.nought_puts]); (try simp only [hw2, f1, f2, f3, f4, f5, h0, ais, ai0, ai1, Tr.bs_row, Tr.kids_row, Nat.zero_add, Nat.sub_zero, Int.toNat_natCast, List.length_append, List.length_replicate, Bool.true_and, Bool.and_true, Bool.and_eq_true, decide_eq_true_eq, decide_eq_false_iff_not, beq_self_eq_true, Bool.true_eq_false, Bool.false_eq_true, implies_true, true_implies, forall_const, false_implies, imp_false, not_false_eq_true, not_true_eq_false, and_true, true_and, bne_self_eq_false, bne_iff_ne, ne_eq, beq_iff_eq, beq_eq_false_iff_ne, bne_eq_false_iff_eq]); (try intros); omega)
    | (clear hK hK1 hK2 hR hB; (repeat (revert hb)); (try simp only [dec0, is0, Tr.map_N hN, Tr.all_N hN, Tr.nought_puts]); (try simp only [hw2, f1, f2, f3, f4, f5, h0, ais, ai0, ai1, Tr.bs_row, Tr.kids_row, Nat.zero_add, Nat.sub_zero, Int.toNat_natCast, List.length_append, List.length_replicate, Bool.true_and, Bool.and_true, Bool.and_eq_true, decide_eq_true_eq, decide_eq_false_iff_not, beq_self_eq_true, Bool.true_eq_false, Bool.false_eq_true, implies_true, true_implies, forall_const, false_implies, imp_false, not_false_eq_true, not_true_eq_false, and_true, true_and, bne_self_eq_false, bne_iff_ne, ne_eq, beq_iff_eq, beq_eq_false_iff_ne, bne_eq_false_iff_eq]); exact ⟨Nat.le_trans hms (by omega), Nat.le_trans hml (by omega)⟩)
theorem rowf_14 {K : X → List SV → List Blk → Prop} {Q : List SV → List Blk → Prop} (L : List Tr) (turn : Int) (ht : -9223372036854775808 ≤ turn ∧ turn ≤ 9223372036854775807) (hf : Tr.fitL L = true) (hm : Tr.massL L ≤ 1048576) (hall : (L.all fun t => t.right && t.within 16) = true) (q1 : Tr.withinL L 15 = true) (d : Nat → SV) (hQ : ∀ (c : Nat), c ≤ L.length → Q (mkFrom [(0, .sl 0 4 0 L.length), (11, .sl 1 1 0 (Tr.row L).put.length), (18, .int .i64 (c : Int))] (fun _ => .junk) 197 0) [.ro 4 L.length (gK L), .fz 1 (Tr.row L).put.length (gOf eB (Tr.row L).put)]) : run Try.prog ⟨[(7, k_awake), (8, k_weight), (9, k_Put), (10, k_Row), (11, k_Of), (12, k_same), (13, k_Pick), (14, k_sameT)], eqs, [], [], [], mixs, meqs⟩ 9986 [(28, 30, [0, 1, 3, 7, 15, 31, 63, 127, 255, 127, 639, 2047, 127, 8191, 16383, 32767, 65535, 65535, 262143, 65535, 65535, 1638399, 4194303, 8388607, 16777215, 33554431, 67108863, 67108863, 268435455, 67108863, 1073741823, 2147483647, 4294967295]), (37, 15, [0, 1, 3, 3, 15, 31, 3, 3, 3, 387, 3, 1027, 3971, 8131, 16323, 32767, 65535, 131071, 262143])] 0 (takeC 1 (dropC 14 (bodyOf Try.f3))) (mkFrom [(0, .sl 0 4 0 L.length), (1, .int .i64 turn), (11, .sl 1 1 0 (Tr.row L).put.length)] d 197 0) [.ro 4 L.length (gK L), .fz 1 (Tr.row L).put.length (gOf eB (Tr.row L).put)] (forgetK [0, 11, 18] Q K) := by
  have hll := Tr.massL_len L
  generalize hKQ : forgetK [0, 11, 18] Q K = KQ
  have hpi := pick_in (x := turn) (n := (L.length : Int) + 1) (by omega)
  have hwn : IntKind.i64.wrap ((L.length : Int) + 1) = (L.length : Int) + 1 := IntWalk.i64_in _ (by omega)
  (conv => whnf)
  (repeat' (first | (refine step_t (by first | rfl | assumption) ?_; (conv => whnf)) | (refine step_f (by first | rfl | assumption) ?_; (conv => whnf)) | (refine step_nt (by assumption) ?_; (conv => whnf)) | (refine step_nf (by assumption) ?_; (conv => whnf)) | (refine step_n (fun hb => ?_) (fun hb => ?_) <;> (first | contradiction | (conv => whnf))) | (refine And.intro (fun hb => ?_) (fun hb => ?_) <;> (first | contradiction | (conv => whnf))) | (refine And.intro ?_ ?_; rotate_left 1; (conv => whnf))))
  · subst hKQ
    refine use_forget [0, 1] rfl (mle_cons ble_refl (mle_cons ble_refl mle_nil)) rfl (vals := [.sl 0 4 0 L.length, .sl 1 1 0 (Tr.row L).put.length, .int .i64 ((pick turn ((L.length : Int) + 1)).toNat : Int)]) ?_ rfl ?_
    · show [SV.sl 0 4 0 L.length, .sl 1 1 0 (Tr.row L).put.length, .int .i64 (pick turn (IntKind.i64.wrap ((L.length : Int) + 1)))] = _
      rw [hwn, Int.toNat_of_nonneg hpi.1]
    · exact hQ _ (by omega)
  · rw [hwn]
    simp only [Bool.and_eq_true, decide_eq_true_eq]
    omega
theorem rowf_15 {K : X → List SV → List Blk → Prop} {Q : List SV → List Blk → Prop} (L : List Tr) (turn : Int) (ht : -9223372036854775808 ≤ turn ∧ turn ≤ 9223372036854775807) (hf : Tr.fitL L = true) (hm : Tr.massL L ≤ 1048576) (hall : (L.all fun t => t.right && t.within 16) = true) (q1 : Tr.withinL L 15 = true) (c : Nat) (hc : c ≤ L.length) (d : Nat → SV) (hQ : Q (mkFrom [(0, .sl 0 4 0 L.length), (11, .sl 1 1 0 (Tr.row L).put.length), (18, .int .i64 (c : Int)), (19, .sl 2 1 0 (Tr.row (L.drop c ++ L.take c)).put.length)] (fun _ => .junk) 197 0) [.ro 4 L.length (gK L), .fz 1 (Tr.row L).put.length (gOf eB (Tr.row L).put), .fz 1 (Tr.row (L.drop c ++ L.take c)).put.length (gOf eB (Tr.row (L.drop c ++ L.take c)).put)]) : run Try.prog ⟨[(7, k_awake), (8, k_weight), (9, k_Put), (10, k_Row), (11, k_Of), (12, k_same), (13, k_Pick), (14, k_sameT)], eqs, [], [], [], mixs, meqs⟩ 9985 [(28, 30, [0, 1, 3, 7, 15, 31, 63, 127, 255, 127, 639, 2047, 127, 8191, 16383, 32767, 65535, 65535, 262143, 65535, 65535, 1638399, 4194303, 8388607, 16777215, 33554431, 67108863, 67108863, 268435455, 67108863, 1073741823, 2147483647, 4294967295]), (37, 15, [0, 1, 3, 3, 15, 31, 3, 3, 3, 387, 3, 1027, 3971, 8131, 16323, 32767, 65535, 131071, 262143])] 0 (takeC 1 (dropC 15 (bodyOf Try.f3))) (mkFrom [(0, .sl 0 4 0 L.length), (11, .sl 1 1 0 (Tr.row L).put.length), (18, .int .i64 (c : Int))] d 197 0) [.ro 4 L.length (gK L), .fz 1 (Tr.row L).put.length (gOf eB (Tr.row L).put)] (forgetK [0, 11, 18, 19] Q K) := by
  have hll := Tr.massL_len L
  generalize hKQ : forgetK [0, 11, 18, 19] Q K = KQ
  have hz64 : (Try.prog.types[28]).bytes = 64 := by kernel_rfl
  have hml := Tr.massL_rot L c
  have hP : (Tr.mk 3 0 [] (L.drop c ++ L.take c)).puts = ((Tr.row (L.drop c ++ L.take c)).put, 0) := Tr.rot_puts hall q1
  have hNl := Tr.rot_len L hc
  have hsz : (Tr.mk 3 0 [] (L.drop c ++ L.take c)).sz ≤ 1099511627776 := Nat.le_trans (Tr.row_sz _) (by omega)
  have hpl : (Tr.mk 3 0 [] (L.drop c ++ L.take c)).put.length ≤ 1099511627776 := Nat.le_trans (Tr.row_len _) (by omega)
  have ct : (c : Int).toNat = c := Int.toNat_natCast c
  rcases Nat.lt_or_ge c L.length with hlt | hge
  · have hb1 : decide ((c : Int).toNat < L.length) = true := decide_eq_true (by omega)
    have hb2 : decide (0 < L.length) = true := decide_eq_true (by omega)
    have hG : ∀ (f0 : Nat → List FV) (i : Nat), i < (L.drop c ++ L.take c).length → IsT (shiftG 0 (gApp (0 + (L.length - (c : Int).toNat)) (gApp 0 f0 fun k => gK L (0 + (c : Int).toNat + k)) fun k => gK L (0 + 0 + k)) i) ((L.drop c ++ L.take c).getD i .no) := fun f0 =>
      Tr.gApp_is (a := L.drop c) (b := L.take c) (g := gApp 0 f0 fun k => gK L (0 + (c : Int).toNat + k)) (h := fun k => gK L (0 + 0 + k)) (by rw [List.length_drop]; omega) (Tr.part_is L c fun i => by rw [gApp_0, ct, Nat.zero_add]) (Tr.head_is L c hc fun i => by simp only [Nat.zero_add])
    have hX : ∀ f0 : Nat → List FV, ((List.range (0 + (L.length - (c : Int).toNat) + ((c : Int).toNat - 0))).map fun i => decT (shiftG 0 (gApp (0 + (L.length - (c : Int).toNat)) (gApp 0 f0 fun k => gK L (0 + (c : Int).toNat + k)) fun k => gK L (0 + 0 + k)) i)) = L.drop c ++ L.take c := fun f0 => Tr.map_dec (by omega) (hG f0)
    have hXa : ∀ f0 : Nat → List FV, ((List.range (0 + (L.length - (c : Int).toNat) + ((c : Int).toNat - 0))).all fun i => isT (shiftG 0 (gApp (0 + (L.length - (c : Int).toNat)) (gApp 0 f0 fun k => gK L (0 + (c : Int).toNat + k)) fun k => gK L (0 + 0 + k)) i)) = true := fun f0 => Tr.all_is (by omega) (hG f0)
    (conv => whnf)
    (repeat' (first | (refine step_t (by first | rfl | assumption) ?_; (conv => whnf)) | (refine step_f (by first | rfl | assumption) ?_; (conv => whnf)) | (refine step_nt (by assumption) ?_; (conv => whnf)) | (refine step_nf (by assumption) ?_; (conv => whnf)) | (refine step_n (fun hb => ?_) (fun hb => ?_) <;> (first | contradiction | (conv => whnf))) | (refine And.intro (fun hb => ?_) (fun hb => ?_) <;> (first | contradiction | (conv => whnf))) | (refine And.intro ?_ ?_; rotate_left 1; (conv => whnf))))
    all_goals first
      | (show KQ _ _ _; simp only [dec0, hX, hP]; subst hKQ; refine use_forget [0, 1, 7] rfl ((mle_cons ble_refl (mle_cons ble_refl (mle_cons ble_refl mle_nil)))) rfl (vals := [.sl 0 4 0 L.length, .sl 1 1 0 (Tr.row L).put.length, .int .i64 (c : Int), .sl 2 1 0 (Tr.row (L.drop c ++ L.take c)).put.length]) rfl rfl ?_; exact hQ)
      | rfl
      | assumption
      | (refine decide_eq_true ?_; omega)
      | (rw [hz64]; refine decide_eq_true ?_; omega)
      | (rw [Bool.and_true]; refine decide_eq_true ?_; omega)
      | exact hXa _
      | (simp only [List.length_map, List.length_range]; refine decide_eq_true ?_; omega)
      | (simp only [Nat.zero_add, Nat.le_refl, decide_true, Bool.and_self]; done)
      | (simp only [Bool.true_and, Bool.and_true, Bool.and_eq_true, decide_eq_true_eq]; omega)
      | (simp only [dec0, is0, hX, hsz, hpl, decide_true, Bool.and_self]; done)
  · have hb1 : decide ((c : Int).toNat < L.length) = false := decide_eq_false (by omega)
    rcases Nat.eq_zero_or_pos L.length with h0 | h0
    · have hb2 : decide (0 < L.length) = false := decide_eq_false (by omega)
      have hX : ∀ F : Nat → Tr, (List.range (0 + 0 + 0)).map F = L.drop c ++ L.take c := fun F => (List.eq_nil_of_length_eq_zero (by omega)).symm
      have hXa : ∀ F : Nat → Bool, (List.range (0 + 0 + 0)).all F = true := fun F => rfl
      (conv => whnf)
      (repeat' (first | (refine step_t (by first | rfl | assumption) ?_; (conv => whnf)) | (refine step_f (by first | rfl | assumption) ?_; (conv => whnf)) | (refine step_nt (by assumption) ?_; (conv => whnf)) | (refine step_nf (by assumption) ?_; (conv => whnf)) | (refine step_n (fun hb => ?_) (fun hb => ?_) <;> (first | contradiction | (conv => whnf))) | (refine And.intro (fun hb => ?_) (fun hb => ?_) <;> (first | contradiction | (conv => whnf))) | (refine And.intro ?_ ?_; rotate_left 1; (conv => whnf))))
      all_goals first
        | (show KQ _ _ _; simp only [dec0, hX, hP]; subst hKQ; refine use_forget [0, 1, 9] rfl ((mle_cons ble_refl (mle_cons ble_refl (mle_cons ble_refl mle_nil)))) rfl (vals := [.sl 0 4 0 L.length, .sl 1 1 0 (Tr.row L).put.length, .int .i64 (c : Int), .sl 2 1 0 (Tr.row (L.drop c ++ L.take c)).put.length]) rfl rfl ?_; exact hQ)
        | rfl
        | assumption
        | (refine decide_eq_true ?_; omega)
        | (rw [hz64]; refine decide_eq_true ?_; omega)
        | (rw [Bool.and_true]; refine decide_eq_true ?_; omega)
        | exact hXa _
        | (simp only [List.length_map, List.length_range]; refine decide_eq_true ?_; omega)
        | (simp only [Nat.zero_add, Nat.le_refl, decide_true, Bool.and_self]; done)
        | (simp only [Bool.true_and, Bool.and_true, Bool.and_eq_true, decide_eq_true_eq]; omega)
        | (simp only [dec0, is0, hX, hsz, hpl, decide_true, Bool.and_self]; done)
    · have hb2 : decide (0 < L.length) = true := decide_eq_true h0
      have hG : ∀ (f0 : Nat → List FV) (i : Nat), i < (L.drop c ++ L.take c).length → IsT (shiftG 0 (gApp (0 + 0) f0 fun k => gK L (0 + 0 + k)) i) ((L.drop c ++ L.take c).getD i .no) := fun f0 =>
        Tr.gApp_is (a := L.drop c) (b := L.take c) (n := 0 + 0) (g := f0) (h := fun k => gK L (0 + 0 + k)) (by rw [List.length_drop]; omega) (fun i hi => by rw [List.length_drop] at hi; omega) (Tr.head_is L c hc fun i => by simp only [Nat.zero_add])
      have hX : ∀ f0 : Nat → List FV, ((List.range (0 + 0 + ((c : Int).toNat - 0))).map fun i => decT (shiftG 0 (gApp (0 + 0) f0 fun k => gK L (0 + 0 + k)) i)) = L.drop c ++ L.take c := fun f0 => Tr.map_dec (by omega) (hG f0)
      have hXa : ∀ f0 : Nat → List FV, ((List.range (0 + 0 + ((c : Int).toNat - 0))).all fun i => isT (shiftG 0 (gApp (0 + 0) f0 fun k => gK L (0 + 0 + k)) i)) = true := fun f0 => Tr.all_is (by omega) (hG f0)
      (conv => whnf)
      (repeat' (first | (refine step_t (by first | rfl | assumption) ?_; (conv => whnf)) | (refine step_f (by first | rfl | assumption) ?_; (conv => whnf)) | (refine step_nt (by assumption) ?_; (conv => whnf)) | (refine step_nf (by assumption) ?_; (conv => whnf)) | (refine step_n (fun hb => ?_) (fun hb => ?_) <;> (first | contradiction | (conv => whnf))) | (refine And.intro (fun hb => ?_) (fun hb => ?_) <;> (first | contradiction | (conv => whnf))) | (refine And.intro ?_ ?_; rotate_left 1; (conv => whnf))))
      all_goals first
        | (show KQ _ _ _; simp only [dec0, hX, hP]; subst hKQ; refine use_forget [0, 1, 8] rfl ((mle_cons ble_refl (mle_cons ble_refl (mle_cons ble_refl mle_nil)))) rfl (vals := [.sl 0 4 0 L.length, .sl 1 1 0 (Tr.row L).put.length, .int .i64 (c : Int), .sl 2 1 0 (Tr.row (L.drop c ++ L.take c)).put.length]) rfl rfl ?_; exact hQ)
        | rfl
        | assumption
        | (refine decide_eq_true ?_; omega)
        | (rw [hz64]; refine decide_eq_true ?_; omega)
        | (rw [Bool.and_true]; refine decide_eq_true ?_; omega)
        | exact hXa _
        | (simp only [List.length_map, List.length_range]; refine decide_eq_true ?_; omega)
        | (simp only [Nat.zero_add, Nat.le_refl, decide_true, Bool.and_self]; done)
        | (simp only [Bool.true_and, Bool.and_true, Bool.and_eq_true, decide_eq_true_eq]; omega)
        | (simp only [dec0, is0, hX, hsz, hpl, decide_true, Bool.and_self]; done)
theorem rowf_16 {K : X → List SV → List Blk → Prop} {Q : List SV → List Blk → Prop} (L : List Tr) (turn : Int) (ht : -9223372036854775808 ≤ turn ∧ turn ≤ 9223372036854775807) (hf : Tr.fitL L = true) (hm : Tr.massL L ≤ 1048576) (hall : (L.all fun t => t.right && t.within 16) = true) (q1 : Tr.withinL L 15 = true) (c : Nat) (hc : c ≤ L.length) (d : Nat → SV) (hQ : Q (mkFrom [(0, .sl 0 4 0 L.length), (11, .sl 1 1 0 (Tr.row L).put.length), (18, .int .i64 (c : Int)), (19, .sl 2 1 0 (Tr.row (L.drop c ++ L.take c)).put.length), (21, .sl 3 1 0 (Tr.row (L.take c)).put.length)] (fun _ => .junk) 197 0) [.ro 4 L.length (gK L), .fz 1 (Tr.row L).put.length (gOf eB (Tr.row L).put), .fz 1 (Tr.row (L.drop c ++ L.take c)).put.length (gOf eB (Tr.row (L.drop c ++ L.take c)).put), .fz 1 (Tr.row (L.take c)).put.length (gOf eB (Tr.row (L.take c)).put)]) : run Try.prog ⟨[(7, k_awake), (8, k_weight), (9, k_Put), (10, k_Row), (11, k_Of), (12, k_same), (13, k_Pick), (14, k_sameT)], eqs, [], [], [], mixs, meqs⟩ 9984 [(28, 30, [0, 1, 3, 7, 15, 31, 63, 127, 255, 127, 639, 2047, 127, 8191, 16383, 32767, 65535, 65535, 262143, 65535, 65535, 1638399, 4194303, 8388607, 16777215, 33554431, 67108863, 67108863, 268435455, 67108863, 1073741823, 2147483647, 4294967295]), (37, 15, [0, 1, 3, 3, 15, 31, 3, 3, 3, 387, 3, 1027, 3971, 8131, 16323, 32767, 65535, 131071, 262143])] 0 (takeC 1 (dropC 16 (bodyOf Try.f3))) (mkFrom [(0, .sl 0 4 0 L.length), (11, .sl 1 1 0 (Tr.row L).put.length), (18, .int .i64 (c : Int)), (19, .sl 2 1 0 (Tr.row (L.drop c ++ L.take c)).put.length)] d 197 0) [.ro 4 L.length (gK L), .fz 1 (Tr.row L).put.length (gOf eB (Tr.row L).put), .fz 1 (Tr.row (L.drop c ++ L.take c)).put.length (gOf eB (Tr.row (L.drop c ++ L.take c)).put)] (forgetK [0, 11, 18, 19, 21] Q K) := by
  have hll := Tr.massL_len L
  generalize hKQ : forgetK [0, 11, 18, 19, 21] Q K = KQ
  have hz64 : (Try.prog.types[28]).bytes = 64 := by kernel_rfl
  have hml := Tr.massL_take L c
  have hP : (Tr.mk 3 0 [] (L.take c)).puts = ((Tr.row (L.take c)).put, 0) := Tr.tk_puts hall q1
  have hNl : (L.take c).length = c := by rw [List.length_take]; omega
  have hsz : (Tr.mk 3 0 [] (L.take c)).sz ≤ 1099511627776 := Nat.le_trans (Tr.row_sz _) (by omega)
  have hpl : (Tr.mk 3 0 [] (L.take c)).put.length ≤ 1099511627776 := Nat.le_trans (Tr.row_len _) (by omega)
  have ct : (c : Int).toNat = c := Int.toNat_natCast c
  rcases Nat.eq_zero_or_pos L.length with h0 | h0
  · have hb2 : decide (0 < L.length) = false := decide_eq_false (by omega)
    have hX : ∀ F : Nat → Tr, (List.range 0).map F = L.take c := fun F => (List.eq_nil_of_length_eq_zero (by omega)).symm
    have hXa : ∀ F : Nat → Bool, (List.range 0).all F = true := fun F => rfl
    (conv => whnf)
    (repeat' (first | (refine step_t (by first | rfl | assumption) ?_; (conv => whnf)) | (refine step_f (by first | rfl | assumption) ?_; (conv => whnf)) | (refine step_nt (by assumption) ?_; (conv => whnf)) | (refine step_nf (by assumption) ?_; (conv => whnf)) | (refine step_n (fun hb => ?_) (fun hb => ?_) <;> (first | contradiction | (conv => whnf))) | (refine And.intro (fun hb => ?_) (fun hb => ?_) <;> (first | contradiction | (conv => whnf))) | (refine And.intro ?_ ?_; rotate_left 1; (conv => whnf))))
    all_goals first
      | (show KQ _ _ _; simp only [dec0, hX, hP]; subst hKQ; refine use_forget [0, 1, 2, 6] rfl ((mle_cons ble_refl (mle_cons ble_refl (mle_cons ble_refl (mle_cons ble_refl mle_nil))))) rfl (vals := [.sl 0 4 0 L.length, .sl 1 1 0 (Tr.row L).put.length, .int .i64 (c : Int), .sl 2 1 0 (Tr.row (L.drop c ++ L.take c)).put.length, .sl 3 1 0 (Tr.row (L.take c)).put.length]) rfl rfl ?_; exact hQ)
      | rfl
      | assumption
      | (refine decide_eq_true ?_; omega)
      | (rw [hz64]; refine decide_eq_true ?_; omega)
      | (rw [Bool.and_true]; refine decide_eq_true ?_; omega)
      | exact hXa _
      | (simp only [List.length_map, List.length_range]; refine decide_eq_true ?_; omega)
      | (simp only [Nat.zero_add, Nat.le_refl, decide_true, Bool.and_self]; done)
      | (simp only [Bool.true_and, Bool.and_true, Bool.and_eq_true, decide_eq_true_eq]; omega)
      | (simp only [dec0, is0, hX, hsz, hpl, decide_true, Bool.and_self]; done)
  · have hb2 : decide (0 < L.length) = true := decide_eq_true h0
    have hG : ∀ i, i < (L.take c).length → IsT (shiftG (0 + 0) (gK L) i) ((L.take c).getD i .no) := Tr.head_is L c hc fun i => by rw [shiftG_eq]; simp only [Nat.zero_add]
    have hX : ((List.range ((c : Int).toNat - 0)).map fun i => decT (shiftG (0 + 0) (gK L) i)) = L.take c := Tr.map_dec (by omega) hG
    have hXa' : ((List.range ((c : Int).toNat - 0)).all fun i => isT (shiftG (0 + 0) (gK L) i)) = true := Tr.all_is (by omega) hG
    have hXa : Unit → ((List.range ((c : Int).toNat - 0)).all fun i => isT (shiftG (0 + 0) (gK L) i)) = true := fun _ => hXa'
    (conv => whnf)
    (repeat' (first | (refine step_t (by first | rfl | assumption) ?_; (conv => whnf)) | (refine step_f (by first | rfl | assumption) ?_; (conv => whnf)) | (refine step_nt (by assumption) ?_; (conv => whnf)) | (refine step_nf (by assumption) ?_; (conv => whnf)) | (refine step_n (fun hb => ?_) (fun hb => ?_) <;> (first | contradiction | (conv => whnf))) | (refine And.intro (fun hb => ?_) (fun hb => ?_) <;> (first | contradiction | (conv => whnf))) | (refine And.intro ?_ ?_; rotate_left 1; (conv => whnf))))
    all_goals first
      | (show KQ _ _ _; simp only [dec0, hX, hP]; subst hKQ; refine use_forget [0, 1, 2, 5] rfl ((mle_cons ble_refl (mle_cons ble_refl (mle_cons ble_refl (mle_cons ble_refl mle_nil))))) rfl (vals := [.sl 0 4 0 L.length, .sl 1 1 0 (Tr.row L).put.length, .int .i64 (c : Int), .sl 2 1 0 (Tr.row (L.drop c ++ L.take c)).put.length, .sl 3 1 0 (Tr.row (L.take c)).put.length]) rfl rfl ?_; exact hQ)
      | rfl
      | assumption
      | (refine decide_eq_true ?_; omega)
      | (rw [hz64]; refine decide_eq_true ?_; omega)
      | (rw [Bool.and_true]; refine decide_eq_true ?_; omega)
      | exact hXa _
      | (simp only [List.length_map, List.length_range]; refine decide_eq_true ?_; omega)
      | (simp only [Nat.zero_add, Nat.le_refl, decide_true, Bool.and_self]; done)
      | (simp only [Bool.true_and, Bool.and_true, Bool.and_eq_true, decide_eq_true_eq]; omega)
      | (simp only [dec0, is0, hX, hsz, hpl, decide_true, Bool.and_self]; done)
theorem rowf_17 {K : X → List SV → List Blk → Prop} (L : List Tr) (hf : Tr.fitL L = true) (hm : Tr.massL L ≤ 1048576) (hall : (L.all fun t => t.right && t.within 16) = true) (q1 : Tr.withinL L 15 = true) (c : Nat) (hc : c ≤ L.length) (d : Nat → SV) (hR : ∀ F M, nth F 4 = some .tt → K .ret F M) (hB : ∀ F M b, b = true → nth F 4 = some (.bool b) → K .ret F M) : run Try.prog ⟨[(7, k_awake), (8, k_weight), (9, k_Put), (10, k_Row), (11, k_Of), (12, k_same), (13, k_Pick), (14, k_sameT)], eqs, [], [], [], mixs, meqs⟩ 10000 [(28, 30, [0, 1, 3, 7, 15, 31, 63, 127, 255, 127, 639, 2047, 127, 8191, 16383, 32767, 65535, 65535, 262143, 65535, 65535, 1638399, 4194303, 8388607, 16777215, 33554431, 67108863, 67108863, 268435455, 67108863, 1073741823, 2147483647, 4294967295]), (37, 15, [0, 1, 3, 3, 15, 31, 3, 3, 3, 387, 3, 1027, 3971, 8131, 16323, 32767, 65535, 131071, 262143])] 0 (dropC 17 (bodyOf Try.f3)) (mkFrom [(0, .sl 0 4 0 L.length), (11, .sl 1 1 0 (Tr.row L).put.length), (18, .int .i64 (c : Int)), (19, .sl 2 1 0 (Tr.row (L.drop c ++ L.take c)).put.length), (21, .sl 3 1 0 (Tr.row (L.take c)).put.length)] d 197 0) [.ro 4 L.length (gK L), .fz 1 (Tr.row L).put.length (gOf eB (Tr.row L).put), .fz 1 (Tr.row (L.drop c ++ L.take c)).put.length (gOf eB (Tr.row (L.drop c ++ L.take c)).put), .fz 1 (Tr.row (L.take c)).put.length (gOf eB (Tr.row (L.take c)).put)] K := by
  have hll := Tr.massL_len L
  (conv => whnf)
  (repeat' (first | (refine step_t (by first | rfl | assumption) ?_; (conv => whnf)) | (refine step_f (by first | rfl | assumption) ?_; (conv => whnf)) | (refine step_nt (by assumption) ?_; (conv => whnf)) | (refine step_nf (by assumption) ?_; (conv => whnf)) | (refine step_n (fun hb => ?_) (fun hb => ?_) <;> (first | contradiction | (conv => whnf))) | (refine And.intro (fun hb => ?_) (fun hb => ?_) <;> (first | contradiction | (conv => whnf))) | (refine And.intro ?_ ?_; rotate_left 1; (conv => whnf))))
  refine .inr ⟨[], [0, 11, 18, 19, 21, 23, 24], fun k vals M => ∃ (j : Nat) (v : SV), j ≤ L.length ∧ k = L.length - j ∧ ((v = .ff ∧ Tr.mv L c j = false) ∨ (v = .tt ∧ Tr.mv L c j = true) ∨ v = .bool (Tr.mv L c j)) ∧ vals = [.sl 0 4 0 L.length, .sl 1 1 0 (Tr.row L).put.length, .int .i64 (c : Int), .sl 2 1 0 (Tr.row (L.drop c ++ L.take c)).put.length, .sl 3 1 0 (Tr.row (L.take c)).put.length, v, .int .i64 (j : Int)] ∧ M = [.ro 4 L.length (gK L), .fz 1 (Tr.row L).put.length (gOf eB (Tr.row L).put), .fz 1 (Tr.row (L.drop c ++ L.take c)).put.length (gOf eB (Tr.row (L.drop c ++ L.take c)).put), .fz 1 (Tr.row (L.take c)).put.length (gOf eB (Tr.row (L.take c)).put)], ?_⟩
  conv => whnf
  refine And.intro ⟨L.length, [.ro 4 L.length (gK L), .fz 1 (Tr.row L).put.length (gOf eB (Tr.row L).put), .fz 1 (Tr.row (L.drop c ++ L.take c)).put.length (gOf eB (Tr.row (L.drop c ++ L.take c)).put), .fz 1 (Tr.row (L.take c)).put.length (gOf eB (Tr.row (L.take c)).put)], mle_cons ble_refl (mle_cons ble_refl (mle_cons ble_refl (mle_cons ble_refl mle_nil))), rfl, rfl, 0, .ff, by omega, by omega, .inl ⟨rfl, rfl⟩, rfl, rfl⟩ ?_
  rintro k vals M1 ⟨j, v, hj, rfl, hv, rfl, rfl⟩
  have hz : 0 + ((j : Int)).toNat = j := by omega
  have hrl := Tr.rot_law hc hall hf hm
  have htl := Tr.tk_law hc hall hf hm
  have q2 := Tr.row_len L
  have q3 := Tr.row_len (L.drop c ++ L.take c)
  have q4 := Tr.row_len (L.take c)
  have q5 := Tr.massL_rot L c
  have q6 := Tr.massL_take L c
  have hmd : j < L.length → Int.tmod (IntKind.i64.wrap ((j : Int) + c)) (L.length : Int) = (((j + c) % L.length : Nat) : Int) := fun h => by
    rw [i64_of (by omega) (by omega), Int.tmod_eq_emod_of_nonneg (by omega)]; exact (Int.natCast_emod (j + c) L.length).symm
  have hml : j < L.length → (j + c) % L.length < L.length := fun h => Nat.mod_lt _ (by omega)
  have e3' : ((c : Int) == (L.length : Int)) = (c == L.length) := e3 c L.length
  rcases hv with ⟨rfl, hmv⟩ | ⟨rfl, hmv⟩ | rfl
  all_goals
    (conv => whnf)
    (repeat' (first | (refine step_t (by first | rfl | assumption) ?_; (conv => whnf)) | (refine step_f (by first | rfl | assumption) ?_; (conv => whnf)) | (refine step_nt (by assumption) ?_; (conv => whnf)) | (refine step_nf (by assumption) ?_; (conv => whnf)) | (refine step_n (fun hb => ?_) (fun hb => ?_) <;> (first | contradiction | (conv => whnf))) | (refine And.intro (fun hb => ?_) (fun hb => ?_) <;> (first | contradiction | (conv => whnf))) | (refine And.intro ?_ ?_; rotate_left 1; (conv => whnf))))
  all_goals first
    | rfl
    | (simp only [elts_sh, allIs_sh, Bool.and_self]; done)
    | (simp only [elts_sh]; refine decide_eq_true ?_; omega)
    | (simp only [Nat.zero_add, Nat.le_refl, decide_true, Bool.and_self]; done)
    | (have hlt : j < L.length := by
         have h9 : decide ((j : Int) < (L.length : Int)) = true := by assumption
         simpa using h9
       have hml := hml hlt
       have hma := massL_at hlt hm
       first
       | (rw [bne_iff_ne]; omega)
       | (simp only [hmd hlt, Int.toNat_natCast, Nat.zero_add]; exact decide_eq_true (by omega))
       | (simp only [hmd hlt, Int.toNat_natCast, Nat.zero_add]; rw [Bool.and_eq_true]; exact ⟨decide_eq_true (by omega), decide_eq_true (by omega)⟩)
       | (simp only [dec0, is0, hz, Bool.true_and]; exact decide_eq_true (by omega))
       | (refine ⟨L.length - (j + 1), [.ro 4 L.length (gK L), .fz 1 (Tr.row L).put.length (gOf eB (Tr.row L).put), .fz 1 (Tr.row (L.drop c ++ L.take c)).put.length (gOf eB (Tr.row (L.drop c ++ L.take c)).put), .fz 1 (Tr.row (L.take c)).put.length (gOf eB (Tr.row (L.take c)).put)], [0, 1, 2, 3], by omega, rfl, mle_cons ble_refl (mle_cons ble_refl (mle_cons ble_refl (mle_cons ble_refl mle_nil))), rfl, rfl, j + 1, .tt, by omega, rfl, .inr (.inl ⟨rfl, by rw [Tr.mv, show Tr.mv L c j = true from by assumption]; rfl⟩), ?_, rfl⟩
          show [SV.sl 0 4 0 L.length, .sl 1 1 0 (Tr.row L).put.length, .int .i64 (c : Int), .sl 2 1 0 (Tr.row (L.drop c ++ L.take c)).put.length, .sl 3 1 0 (Tr.row (L.take c)).put.length, SV.tt, .int .i64 (IntKind.i64.wrap ((j : Int) + 1))] = _
          rw [i64_of (n := (j : Int) + 1) (by omega) (by omega)]; rfl)
       | (refine ⟨L.length - (j + 1), [.ro 4 L.length (gK L), .fz 1 (Tr.row L).put.length (gOf eB (Tr.row L).put), .fz 1 (Tr.row (L.drop c ++ L.take c)).put.length (gOf eB (Tr.row (L.drop c ++ L.take c)).put), .fz 1 (Tr.row (L.take c)).put.length (gOf eB (Tr.row (L.take c)).put)], [0, 1, 2, 3], by omega, rfl, mle_cons ble_refl (mle_cons ble_refl (mle_cons ble_refl (mle_cons ble_refl mle_nil))), rfl, rfl, j + 1, .bool (Tr.mv L c (j + 1)), by omega, rfl, .inr (.inr rfl), ?_, rfl⟩
          show [SV.sl 0 4 0 L.length, .sl 1 1 0 (Tr.row L).put.length, .int .i64 (c : Int), .sl 2 1 0 (Tr.row (L.drop c ++ L.take c)).put.length, .sl 3 1 0 (Tr.row (L.take c)).put.length, SV.bool (!(decT [FV.int IntKind.u8 (L.getD (0 + (j : Int).toNat) Tr.no).k, FV.int IntKind.i64 (L.getD (0 + (j : Int).toNat) Tr.no).n, FV.row 1 (L.getD (0 + (j : Int).toNat) Tr.no).bs.length (shiftG 0 (gOf eB (L.getD (0 + (j : Int).toNat) Tr.no).bs)), FV.row 4 (L.getD (0 + (j : Int).toNat) Tr.no).kids.length (shiftG 0 (encK (L.getD (0 + (j : Int).toNat) Tr.no).kids))]).same (decT [FV.int IntKind.u8 (L.getD (0 + (Int.tmod (IntKind.i64.wrap ((j : Int) + c)) (L.length : Int)).toNat) Tr.no).k, FV.int IntKind.i64 (L.getD (0 + (Int.tmod (IntKind.i64.wrap ((j : Int) + c)) (L.length : Int)).toNat) Tr.no).n, FV.row 1 (L.getD (0 + (Int.tmod (IntKind.i64.wrap ((j : Int) + c)) (L.length : Int)).toNat) Tr.no).bs.length (shiftG 0 (gOf eB (L.getD (0 + (Int.tmod (IntKind.i64.wrap ((j : Int) + c)) (L.length : Int)).toNat) Tr.no).bs)), FV.row 4 (L.getD (0 + (Int.tmod (IntKind.i64.wrap ((j : Int) + c)) (L.length : Int)).toNat) Tr.no).kids.length (shiftG 0 (encK (L.getD (0 + (Int.tmod (IntKind.i64.wrap ((j : Int) + c)) (L.length : Int)).toNat) Tr.no).kids))])), .int .i64 (IntKind.i64.wrap ((j : Int) + 1))] = _
          rw [i64_of (n := (j : Int) + 1) (by omega) (by omega), dec0, dec0, hmd hlt, Tr.mv, show Tr.mv L c j = false from by assumption]
          simp only [Int.toNat_natCast, Nat.zero_add, Bool.false_or]; rfl))
    | (have hbX := hb
       have hjl : j = L.length := by
         have h9 : decide ((j : Int) < (L.length : Int)) = false := by assumption
         simp at h9; omega
       subst hjl
       first
       | (show K .ret _ _; refine hB _ _ _ ?_ rfl; simp only [elts_sh, e3', htl]; exact beq_self_eq_true _)
       | (show K .ret _ _; exfalso; rw [elts_sh, elts_sh, hrl] at hbX; revert hbX; first | (rw [hmv]; decide) | (cases Tr.mv L c L.length <;> decide)))
end Go.Proofs.Ytmdkihggeodjfaa
