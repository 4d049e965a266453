import Derived.Test.YtgaclnllkiihlaaX2
namespace Go.Proofs.Ytgaclnllkiihlaa
open Go.RowKit Go.Sx
set_option linter.unusedSimpArgs false
set_option linter.unusedVariables false
set_option linter.unnecessarySimpa false
set_option maxRecDepth 100000
set_option maxHeartbeats 4000000
def k_and : List SV → List Blk → Res := fun args _ => match args with
  | [.agg [.u64 alo, .u64 ahi, .int .i64 asl, .int .i64 ash], .agg [.u64 blo, .u64 bhi, .int .i64 bsl, .int .i64 bsh]] => .ok (spv (S.and (⟨alo, ahi, asl, ash⟩ : Sp) (⟨blo, bhi, bsl, bsh⟩ : Sp))) []
  | _ => .fail
theorem k_and_ok : CtrOk Try.prog Gw 55 k_and := by
  refine ⟨fun _ _ => by kernel_rfl, fun args M => ?_⟩
  unfold k_and
  split
  · rename_i alo ahi asl ash blo bhi bsl bsh
    refine ctr_flat (Γ := ⟨[(35, k_all)], eqs, [], [], []⟩) (sv := spv (S.and (⟨alo, ahi, asl, ash⟩ : Sp) (⟨blo, bhi, bsl, bsh⟩ : Sp))) st_Gw ⟨(okCons k_all_ok okNil), eqs_ok, okNilB, okNilI, okNilP⟩ Try.func55 rfl mixed [] (by kernel_rfl) 10000 (by rfl) ?_
    (conv => whnf)
    (repeat' (first | (refine .inl ⟨20, ?_⟩; (conv => whnf)) | (refine And.intro (fun hb => ?_) (fun hb => ?_) <;> (first | contradiction | (conv => whnf))) | (refine And.intro ?_ ?_; rotate_left 1; (conv => whnf))))
    all_goals (first | rfl | trivial | ((try dsimp only at *); (try simp only [Bool.not_eq_true', Bool.not_eq_false', bne, ite_uv] at *); (simp only [eqv, eqv1, eqv2, eqvL1, eqvL2, *, S.and, S.full, bne, Bool.and_true, Bool.true_and, Bool.and_false, Bool.false_and, Bool.or_true, Bool.true_or, Bool.or_false, Bool.false_or, Bool.not_true, Bool.not_false, if_true, if_false, Bool.false_eq_true, beq_self_eq_true]; done)) | ((try dsimp only at *); (try simp only [Bool.not_eq_true', Bool.not_eq_false', bne] at *); simp only [eqv, eqv1, eqv2, eqvL1, eqvL2, *, S.and, S.full, bne, Bool.and_true, Bool.true_and, Bool.and_false, Bool.false_and, Bool.or_true, Bool.true_or, Bool.or_false, Bool.false_or, Bool.not_true, Bool.not_false, if_true, if_false, Bool.false_eq_true, beq_self_eq_true]; rfl) | (simp_all [eqv, eqv1, eqv2, eqvL1, eqvL2, S.and, S.full]; done))
  · trivial
def k_Do : List SV → List Blk → Res := fun args _ => match args with
  | [.int .u8 op, .agg [.u64 alo, .u64 ahi, .int .i64 asl, .int .i64 ash], .agg [.u64 blo, .u64 bhi, .int .i64 bsl, .int .i64 bsh]] => .ok (.tup [spv (S.does op (⟨alo, ahi, asl, ash⟩ : Sp) (⟨blo, bhi, bsl, bsh⟩ : Sp)).1, .bool (S.does op (⟨alo, ahi, asl, ash⟩ : Sp) (⟨blo, bhi, bsl, bsh⟩ : Sp)).2]) []
  | _ => .fail
theorem k_Do_ok : CtrOk Try.prog Gw 7 k_Do := by
  refine ⟨fun _ _ => by kernel_rfl, fun args M => ?_⟩
  unfold k_Do
  split
  · rename_i op alo ahi asl ash blo bhi bsl bsh
    refine ctr_flat (Γ := ⟨[(17, k_of), (19, k_good), (20, k_span), (49, k_sum), (50, k_sums), (51, k_less), (52, k_times), (53, k_quotient), (54, k_rest), (55, k_and), (57, k_or)], eqs, [], [(18, Try.f18, []), (48, Try.f48, [(1, 9, [0, 1, 0, 4, 15, 0, 32, 0, 128, 511, 1023, 2047])]), (56, Try.f56, []), (58, Try.f58, [])], []⟩) (sv := .tup [spv (S.does op (⟨alo, ahi, asl, ash⟩ : Sp) (⟨blo, bhi, bsl, bsh⟩ : Sp)).1, .bool (S.does op (⟨alo, ahi, asl, ash⟩ : Sp) (⟨blo, bhi, bsl, bsh⟩ : Sp)).2]) st_Gw ⟨(okCons k_of_ok (okCons k_good_ok (okCons k_span_ok (okCons k_sum_ok (okCons k_sums_ok (okCons k_less_ok (okCons k_times_ok (okCons k_quotient_ok (okCons k_rest_ok (okCons k_and_ok (okCons k_or_ok okNil))))))))))), eqs_ok, okNilB, (okConsI Try.func18 rfl (by kernel_rfl) (fun _ _ => by kernel_rfl) (okConsI Try.func48 rfl (by kernel_rfl) (fun _ _ => by kernel_rfl) (okConsI Try.func56 rfl (by kernel_rfl) (fun _ _ => by kernel_rfl) (okConsI Try.func58 rfl (by kernel_rfl) (fun _ _ => by kernel_rfl) okNilI)))), okNilP⟩ Try.func7 rfl mixed [(1, 6, [0, 1, 0, 7, 0, 0, 63, 127])] (by kernel_rfl) 10000 (by rfl) ?_
    (conv => whnf)
    (repeat' (first | (refine And.intro (fun hb => ?_) (fun hb => ?_) <;> (first | contradiction | (conv => whnf))) | (refine And.intro ?_ ?_; rotate_left 1; (conv => whnf))))
    all_goals (first | rfl | trivial | ((try dsimp only at *); (try simp only [Bool.not_eq_true', Bool.not_eq_false', bne, ite_uv] at *); (simp only [eqv, eqv1, eqv2, eqvL1, eqvL2, *, S.does, S.way, bne, Bool.and_true, Bool.true_and, Bool.and_false, Bool.false_and, Bool.or_true, Bool.true_or, Bool.or_false, Bool.false_or, Bool.not_true, Bool.not_false, if_true, if_false, Bool.false_eq_true, beq_self_eq_true]; done)) | ((try dsimp only at *); (try simp only [Bool.not_eq_true', Bool.not_eq_false', bne] at *); simp only [eqv, eqv1, eqv2, eqvL1, eqvL2, *, S.does, S.way, bne, Bool.and_true, Bool.true_and, Bool.and_false, Bool.false_and, Bool.or_true, Bool.true_or, Bool.or_false, Bool.false_or, Bool.not_true, Bool.not_false, if_true, if_false, Bool.false_eq_true, beq_self_eq_true]; rfl) | (simp_all [eqv, eqv1, eqv2, eqvL1, eqvL2, S.does, S.way]; done))
  · trivial
end Go.Proofs.Ytgaclnllkiihlaa
