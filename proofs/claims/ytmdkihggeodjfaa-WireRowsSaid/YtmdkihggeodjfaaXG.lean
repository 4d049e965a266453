import Derived.Test.YtmdkihggeodjfaaXZ
import Derived.Test.YtmdkihggeodjfaaXF
namespace Go.Proofs.Ytmdkihggeodjfaa
open Go.RowKit Go.Sx
set_option linter.unusedSimpArgs false
set_option linter.unusedVariables false
set_option linter.unnecessarySimpa false
set_option maxRecDepth 100000
set_option maxHeartbeats 4000000
theorem order_run (a c : Int) (ha : -9223372036854775808 ≤ a ∧ a ≤ 9223372036854775807) (hc : -9223372036854775808 ≤ c ∧ c ≤ 9223372036854775807) : run Try.prog ⟨[(7, k_awake), (11, k_Of), (20, k_Size), (9, k_Put), (12, k_same)], eqs, [], [], [], mixs, meqs⟩ 10000 [(11, 16, [0, 0, 3, 0, 0, 24, 63, 127, 255, 255, 1023, 2047, 255, 255, 12543, 28927, 65535, 131071, 262143, 524287])] 0 (bodyOf Try.f5) (initF Try.f5 [.int .i64 a, .int .i64 c]) [] (retK Try.prog Try.f5 fun x _ => eqv x (.bool true)) := by
  have hw : IntKind.i64.wrap (-1 - a) = -1 - a := IntWalk.i64_in _ (by omega)
  have hm : 0 ≤ (if c < a then c else a) → (nb (if c < a then c else a)).length ≤ (nb (if a < c then c else a)).length := fun h => nb_mono h (by split <;> split <;> omega) (by split <;> omega)
  have hl : ∀ n, (decT [.int .u8 1, .int .i64 n, .val (.slice none 0 0), .val (.slice none 0 0)]).puts = (nb n, 0) := fun n => by rw [decT_of (isA n)]; exact puts_A n
  obtain ⟨p, x, y, hp, e1, e2, hx⟩ := nb_pair a ha.1 ha.2
  have hd : ∀ n, decT [.int .u8 1, .int .i64 n, .val (.slice none 0 0), .val (.slice none 0 0)] = tA n := fun n => decT_of (isA n)
  have hq : ∀ z, IntKind.i64.wrap (((p ++ [z]).length : Nat) - 1 : Int) = (p.length : Int) := fun z => by
    rw [List.length_append, List.length_singleton, IntWalk.i64_in _ (by omega)]; omega
  have hq2 : IntKind.i64.wrap (((p.length + 1 : Nat) : Int) - 1) = (p.length : Int) := by rw [IntWalk.i64_in _ (by omega)]; omega
  have hg : ∀ z, (p ++ [z]).getD p.length eB.dft = z := fun z => by simp [List.getD_eq_getElem?_getD]
  have he : ∀ z, elts eB 0 p.length (gOf eB (p ++ [z])) = p := fun z => by
    rw [elts_gOf eB (by rw [List.length_append]; omega), List.drop_zero, List.take_left]
  have hu : ∀ n, (tA n).put = nb n := fun n => rfl
  have hs : ∀ n, (tA n).sz = 1 := fun n => rfl
  have hi : ∀ n, isT [.int .u8 1, .int .i64 n, .val (.slice none 0 0), .val (.slice none 0 0)] = true := fun n => isT_of (isA n)
  have hb' : ∀ z, allIs eB 0 p.length (gOf eB (p ++ [z])) = true := fun z => allIs_gOf eB _ 0 _
  have h0 : ∀ g : Nat → List FV, shiftG 0 g = g := fun _ => rfl
  have z1 := nb_le (if a < c then c else a)
  have z2 := nb_le (if c < a then c else a)
  (conv => whnf)
  (repeat' (first | (refine step_t (by first | rfl | assumption) ?_; (conv => whnf)) | (refine step_f (by first | rfl | assumption) ?_; (conv => whnf)) | (refine step_nt (by assumption) ?_; (conv => whnf)) | (refine step_nf (by assumption) ?_; (conv => whnf)) | (refine step_n (fun hb => ?_) (fun hb => ?_) <;> (first | contradiction | (conv => whnf))) | (refine And.intro (fun hb => ?_) (fun hb => ?_) <;> (first | contradiction | (conv => whnf))) | (refine And.intro ?_ ?_; rotate_left 1; (conv => whnf))))
  all_goals first
    | rfl
    | ((repeat (revert hb)); simp only [puts_A, hd, hw, e1, e2, hq, hq2, hu, hs, hi, h0, hg, he, hb', hx, Nat.zero_add, Nat.sub_zero, Int.toNat_natCast, List.length_append, List.length_singleton, Bool.true_and, Bool.and_true, Bool.and_eq_true, decide_eq_true_eq, decide_eq_false_iff_not, beq_self_eq_true, Nat.lt_add_one, Bool.true_eq_false, Bool.false_eq_true, implies_true, true_implies, forall_const, false_implies, imp_false, not_false_eq_true, and_true, beq_iff_eq, beq_eq_false_iff_ne, not_true_eq_false, ne_eq]; done)
    | ((repeat (revert hb)); simp only [puts_A, hd, hw, e1, e2, hq, hq2, hu, hs, hi, h0, hg, he, hb', hx, Nat.zero_add, Nat.sub_zero, Int.toNat_natCast, List.length_append, List.length_singleton, Bool.true_and, Bool.and_true, Bool.and_eq_true, decide_eq_true_eq, decide_eq_false_iff_not, beq_self_eq_true, Nat.lt_add_one, Bool.true_eq_false, Bool.false_eq_true, implies_true, true_implies, forall_const, false_implies, imp_false, not_false_eq_true, and_true, beq_iff_eq, beq_eq_false_iff_ne, not_true_eq_false, ne_eq]; (try intros); omega)
def k_WireOrder : List SV → List Blk → Res := fun args _ => match args with
  | [.int .i64 a, .int .i64 c] => .test ((decide (-9223372036854775808 ≤ a) && decide (a ≤ 9223372036854775807)) && (decide (-9223372036854775808 ≤ c) && decide (c ≤ 9223372036854775807))) (.ok (.bool true) [])
  | _ => .fail
theorem k_WireOrder_ok : CtrOk Try.prog Gw 5 k_WireOrder := by
  refine ⟨fun _ _ => by kernel_rfl, fun args M => ?_⟩
  unfold k_WireOrder
  split
  · rename_i a c
    intro ht
    exact ctr_flat (Γ := ⟨[(7, k_awake), (11, k_Of), (20, k_Size), (9, k_Put), (12, k_same)], eqs, [], [], [], mixs, meqs⟩) (sv := .bool true) st_Gw ⟨(okCons k_awake_ok (okCons k_Of_ok (okCons k_Size_ok (okCons k_Put_ok (okCons k_same_ok okNil))))), eqs_ok, okNilB, okNilI, okNilP, mixs_ok, meqs_ok⟩ Try.func5 rfl mixed [(11, 16, [0, 0, 3, 0, 0, 24, 63, 127, 255, 255, 1023, 2047, 255, 255, 12543, 28927, 65535, 131071, 262143, 524287])] (by kernel_rfl) 10000 (by rfl) (by
      simp only [Bool.and_eq_true, decide_eq_true_eq] at ht
      exact order_run a c ht.1 ht.2)
  · trivial
end Go.Proofs.Ytmdkihggeodjfaa
