import Derived.Test.YtgaclnllkiihlaaX3
namespace Go.Proofs.Ytgaclnllkiihlaa
open Go.RowKit Go.Sx
set_option linter.unusedSimpArgs false
set_option linter.unusedVariables false
set_option linter.unnecessarySimpa false
set_option maxRecDepth 100000
set_option maxHeartbeats 4000000
def k_fitU : List SV → List Blk → Res := fun args _ => match args with
  | [.u64 n, .int .i64 k] => .test (decide (0 ≤ k)) (.ok (.bool (S.fitU n k.toNat)) [])
  | _ => .fail
theorem k_fitU_ok : CtrOk Try.prog Gw 36 k_fitU := by
  refine ⟨fun _ _ => by kernel_rfl, fun args M => ?_⟩
  unfold k_fitU
  split
  · rename_i n k
    intro ht
    refine ctr_flat (Γ := ⟨[], eqs, [], [], []⟩) (sv := .bool (S.fitU n k.toNat)) st_Gw ⟨okNil, eqs_ok, okNilB, okNilI, okNilP⟩ Try.func36 rfl mixed [] (by kernel_rfl) 10000 (by rfl) ?_
    (conv => whnf)
    (repeat' (first | (refine And.intro (fun hb => ?_) (fun hb => ?_) <;> (first | contradiction | (conv => whnf))) | (refine And.intro ?_ ?_; rotate_left 1; (conv => whnf))))
    all_goals (first | exact ht | first | rfl | trivial | ((try dsimp only at *); (try simp only [Bool.not_eq_true', Bool.not_eq_false', bne, ite_uv] at *); (simp only [eqv, eqv1, eqv2, eqvL1, eqvL2, *, S.fitU, bne, Bool.and_true, Bool.true_and, Bool.and_false, Bool.false_and, Bool.or_true, Bool.true_or, Bool.or_false, Bool.false_or, Bool.not_true, Bool.not_false, if_true, if_false, Bool.false_eq_true, beq_self_eq_true]; done)) | ((try dsimp only at *); (try simp only [Bool.not_eq_true', Bool.not_eq_false', bne] at *); simp only [eqv, eqv1, eqv2, eqvL1, eqvL2, *, S.fitU, bne, Bool.and_true, Bool.true_and, Bool.and_false, Bool.false_and, Bool.or_true, Bool.true_or, Bool.or_false, Bool.false_or, Bool.not_true, Bool.not_false, if_true, if_false, Bool.false_eq_true, beq_self_eq_true]; rfl) | (simp_all [eqv, eqv1, eqv2, eqvL1, eqvL2, S.fitU]; done))
  · trivial
def k_fitI : List SV → List Blk → Res := fun args _ => match args with
  | [.int .i64 n, .int .i64 k] => .test (decide (0 ≤ k)) (.ok (.bool (S.fitI n k.toNat)) [])
  | _ => .fail
theorem k_fitI_ok : CtrOk Try.prog Gw 37 k_fitI := by
  refine ⟨fun _ _ => by kernel_rfl, fun args M => ?_⟩
  unfold k_fitI
  split
  · rename_i n k
    intro ht
    refine ctr_flat (Γ := ⟨[], eqs, [], [], []⟩) (sv := .bool (S.fitI n k.toNat)) st_Gw ⟨okNil, eqs_ok, okNilB, okNilI, okNilP⟩ Try.func37 rfl mixed [] (by kernel_rfl) 10000 (by rfl) ?_
    (conv => whnf)
    (repeat' (first | (refine And.intro (fun hb => ?_) (fun hb => ?_) <;> (first | contradiction | (conv => whnf))) | (refine And.intro ?_ ?_; rotate_left 1; (conv => whnf))))
    all_goals (first | exact ht | first | rfl | trivial | ((try dsimp only at *); (try simp only [Bool.not_eq_true', Bool.not_eq_false', bne, ite_uv] at *); (simp only [eqv, eqv1, eqv2, eqvL1, eqvL2, *, S.fitI, bne, Bool.and_true, Bool.true_and, Bool.and_false, Bool.false_and, Bool.or_true, Bool.true_or, Bool.or_false, Bool.false_or, Bool.not_true, Bool.not_false, if_true, if_false, Bool.false_eq_true, beq_self_eq_true]; done)) | ((try dsimp only at *); (try simp only [Bool.not_eq_true', Bool.not_eq_false', bne] at *); simp only [eqv, eqv1, eqv2, eqvL1, eqvL2, *, S.fitI, bne, Bool.and_true, Bool.true_and, Bool.and_false, Bool.false_and, Bool.or_true, Bool.true_or, Bool.or_false, Bool.false_or, Bool.not_true, Bool.not_false, if_true, if_false, Bool.false_eq_true, beq_self_eq_true]; rfl) | (simp_all [eqv, eqv1, eqv2, eqvL1, eqvL2, S.fitI]; done))
  · trivial
def k_Shift : List SV → List Blk → Res := fun args _ => match args with
  | [.int .u8 op, .agg [.u64 alo, .u64 ahi, .int .i64 asl, .int .i64 ash], .int .i64 k] => .ok (.tup [spv (S.shift op (⟨alo, ahi, asl, ash⟩ : Sp) k).1, .bool (S.shift op (⟨alo, ahi, asl, ash⟩ : Sp) k).2]) []
  | _ => .fail
theorem k_Shift_ok : CtrOk Try.prog Gw 10 k_Shift := by
  refine ⟨fun _ _ => by kernel_rfl, fun args M => ?_⟩
  unfold k_Shift
  split
  · rename_i op alo ahi asl ash k
    refine ctr_flat (Γ := ⟨[(17, k_of), (19, k_good), (20, k_span), (35, k_all), (36, k_fitU), (37, k_fitI)], eqs, [], [], []⟩) (sv := .tup [spv (S.shift op (⟨alo, ahi, asl, ash⟩ : Sp) k).1, .bool (S.shift op (⟨alo, ahi, asl, ash⟩ : Sp) k).2]) st_Gw ⟨(okCons k_of_ok (okCons k_good_ok (okCons k_span_ok (okCons k_all_ok (okCons k_fitU_ok (okCons k_fitI_ok okNil)))))), eqs_ok, okNilB, okNilI, okNilP⟩ Try.func10 rfl mixed [(12, 15, [0, 1, 3, 0, 15, 0, 32, 96, 0, 480, 1023, 0, 2048, 6144, 14336, 32767, 65535]), (14, 10, [0, 1, 3, 0, 15, 0, 32, 96, 0, 480, 1023, 2047, 4095]), (6, 10, [0, 1, 3, 0, 15, 0, 32, 96, 0, 480, 1023, 2047, 4095]), (8, 10, [0, 1, 3, 0, 15, 0, 32, 96, 0, 480, 1023, 2047, 4095])] (by kernel_rfl) 10000 (by rfl) ?_
    (conv => whnf)
    (repeat' (first | (refine And.intro (fun hb => ?_) (fun hb => ?_) <;> (first | contradiction | (conv => whnf))) | (refine And.intro ?_ ?_; rotate_left 1; (conv => whnf))))
    all_goals (first | (simp only [decide_eq_false_iff_not, decide_eq_true_eq, Int.not_lt, beq_eq_false_iff_ne] at *; first | omega | (rw [IntWalk.i64_in _ (by omega)]; omega)) | first | rfl | trivial | ((try dsimp only at *); (try simp only [Bool.not_eq_true', Bool.not_eq_false', bne, ite_uv] at *); (simp only [eqv, eqv1, eqv2, eqvL1, eqvL2, *, S.shift, show IntKind.i64.bits = 64 from rfl, bne, Bool.and_true, Bool.true_and, Bool.and_false, Bool.false_and, Bool.or_true, Bool.true_or, Bool.or_false, Bool.false_or, Bool.not_true, Bool.not_false, if_true, if_false, Bool.false_eq_true, beq_self_eq_true]; done)) | ((try dsimp only at *); (try simp only [Bool.not_eq_true', Bool.not_eq_false', bne] at *); simp only [eqv, eqv1, eqv2, eqvL1, eqvL2, *, S.shift, show IntKind.i64.bits = 64 from rfl, bne, Bool.and_true, Bool.true_and, Bool.and_false, Bool.false_and, Bool.or_true, Bool.true_or, Bool.or_false, Bool.false_or, Bool.not_true, Bool.not_false, if_true, if_false, Bool.false_eq_true, beq_self_eq_true]; rfl) | (simp_all [eqv, eqv1, eqv2, eqvL1, eqvL2, S.shift, show IntKind.i64.bits = 64 from rfl]; done))
  · trivial
end Go.Proofs.Ytgaclnllkiihlaa
