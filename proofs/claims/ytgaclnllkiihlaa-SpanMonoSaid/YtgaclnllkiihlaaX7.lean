import Derived.Test.YtgaclnllkiihlaaX6
namespace Go.Proofs.Ytgaclnllkiihlaa
open Go.RowKit Go.Sx
set_option linter.unusedSimpArgs false
set_option linter.unusedVariables false
set_option linter.unnecessarySimpa false
set_option maxRecDepth 100000
set_option maxHeartbeats 4000000
def k_rBits : List SV → List Blk → Res := fun args _ => match args with
  | [.int .u8 op, .agg [.u64 alo, .u64 ahi, .int .i64 asl, .int .i64 ash], .agg [.u64 blo, .u64 bhi, .int .i64 bsl, .int .i64 bsh]] => .ok (spv (R.bits op (⟨alo, ahi, asl, ash⟩ : Sp) (⟨blo, bhi, bsl, bsh⟩ : Sp))) []
  | _ => .fail
theorem k_rBits_ok : CtrOk Try.prog Gw 31 k_rBits := by
  refine ⟨fun _ _ => by kernel_rfl, fun args M => ?_⟩
  unfold k_rBits
  split
  · rename_i op alo ahi asl ash blo bhi bsl bsh
    refine ctr_flat (Γ := ⟨[(61, k_rFull), (62, k_rOnes)], eqs, [], [(25, Try.f25, [])], []⟩) (sv := spv (R.bits op (⟨alo, ahi, asl, ash⟩ : Sp) (⟨blo, bhi, bsl, bsh⟩ : Sp))) st_Gw ⟨(okCons k_rFull_ok (okCons k_rOnes_ok okNil)), eqs_ok, okNilB, (okConsI Try.func25 rfl (by kernel_rfl) (fun _ _ => by kernel_rfl) okNilI), okNilP⟩ Try.func31 rfl mixed [] (by kernel_rfl) 10000 (by rfl) ?_
    (conv => whnf)
    (repeat' (first | (refine And.intro (fun hb => ?_) (fun hb => ?_) <;> (first | contradiction | (conv => whnf))) | (refine And.intro ?_ ?_; rotate_left 1; (conv => whnf))))
    all_goals (first | rfl | trivial | ((try dsimp only at *); (try simp only [Bool.not_eq_true', Bool.not_eq_false', bne, ite_uv] at *); (simp only [eqv, eqv1, eqv2, eqvL1, eqvL2, *, R.bits, R.two, S.full, bne, Bool.and_true, Bool.true_and, Bool.and_false, Bool.false_and, Bool.or_true, Bool.true_or, Bool.or_false, Bool.false_or, Bool.not_true, Bool.not_false, if_true, if_false, Bool.false_eq_true, beq_self_eq_true]; done)) | ((try dsimp only at *); (try simp only [Bool.not_eq_true', Bool.not_eq_false', bne] at *); simp only [eqv, eqv1, eqv2, eqvL1, eqvL2, *, R.bits, R.two, S.full, bne, Bool.and_true, Bool.true_and, Bool.and_false, Bool.false_and, Bool.or_true, Bool.true_or, Bool.or_false, Bool.false_or, Bool.not_true, Bool.not_false, if_true, if_false, Bool.false_eq_true, beq_self_eq_true]; rfl) | (simp_all [eqv, eqv1, eqv2, eqvL1, eqvL2, R.bits, R.two, S.full]; done))
  · trivial
def k_rDo : List SV → List Blk → Res := fun args _ => match args with
  | [.int .u8 op, .agg [.u64 alo, .u64 ahi, .int .i64 asl, .int .i64 ash], .agg [.u64 blo, .u64 bhi, .int .i64 bsl, .int .i64 bsh]] => .ok (.tup [spv (R.does op (⟨alo, ahi, asl, ash⟩ : Sp) (⟨blo, bhi, bsl, bsh⟩ : Sp)).1, .bool (R.does op (⟨alo, ahi, asl, ash⟩ : Sp) (⟨blo, bhi, bsl, bsh⟩ : Sp)).2]) []
  | _ => .fail
theorem k_rDo_ok : CtrOk Try.prog Gw 8 k_rDo := by
  refine ⟨fun _ _ => by kernel_rfl, fun args M => ?_⟩
  unfold k_rDo
  split
  · rename_i op alo ahi asl ash blo bhi bsl bsh
    refine ctr_flat (Γ := ⟨[(21, k_rRight), (22, k_rAdd), (28, k_rSub), (23, k_rPlain), (24, k_rSigned), (26, k_rFits), (27, k_rSigns), (29, k_rProducts), (30, k_rRests), (31, k_rBits), (61, k_rFull)], eqs, [], [(25, Try.f25, [])], []⟩) (sv := .tup [spv (R.does op (⟨alo, ahi, asl, ash⟩ : Sp) (⟨blo, bhi, bsl, bsh⟩ : Sp)).1, .bool (R.does op (⟨alo, ahi, asl, ash⟩ : Sp) (⟨blo, bhi, bsl, bsh⟩ : Sp)).2]) st_Gw ⟨(okCons k_rRight_ok (okCons k_rAdd_ok (okCons k_rSub_ok (okCons k_rPlain_ok (okCons k_rSigned_ok (okCons k_rFits_ok (okCons k_rSigns_ok (okCons k_rProducts_ok (okCons k_rRests_ok (okCons k_rBits_ok (okCons k_rFull_ok okNil))))))))))), eqs_ok, okNilB, (okConsI Try.func25 rfl (by kernel_rfl) (fun _ _ => by kernel_rfl) okNilI), okNilP⟩ Try.func8 rfl mixed [(5, 8, [0, 1, 3, 0, 8, 31, 63, 0, 255]), (6, 16, [0, 1, 3, 0, 8, 31, 63, 0, 128, 511, 0, 1024, 4095, 8191, 0, 0, 65535, 131071]), (7, 21, [0, 1, 0, 4, 15, 0, 32, 0, 128, 0, 512, 1536, 0, 4096, 12288, 0, 33152, 98688, 229760, 491904, 1016192, 2097151, 4194303, 8388607]), (9, 16, [0, 1, 3, 0, 8, 31, 63, 0, 128, 511, 0, 1024, 4095, 8191, 0, 0, 65535, 131071]), (10, 16, [0, 1, 3, 0, 8, 31, 63, 0, 128, 511, 0, 1024, 4095, 8191, 0, 0, 65535, 131071]), (11, 18, [0, 1, 0, 4, 0, 16, 0, 64, 192, 0, 512, 1536, 0, 4144, 12336, 28720, 61488, 127024, 262143, 524287, 1048575])] (by kernel_rfl) 10000 (by rfl) ?_
    (conv => whnf)
    (repeat' (first | (refine And.intro (fun hb => ?_) (fun hb => ?_) <;> (first | contradiction | (conv => whnf))) | (refine And.intro ?_ ?_; rotate_left 1; (conv => whnf))))
    all_goals (first | rfl | trivial | ((try dsimp only at *); (try simp only [Bool.not_eq_true', Bool.not_eq_false', bne, ite_uv] at *); (simp only [eqv, eqv1, eqv2, eqvL1, eqvL2, *, R.does, R.two, R.sum, R.dif, S.full, bne, Bool.and_true, Bool.true_and, Bool.and_false, Bool.false_and, Bool.or_true, Bool.true_or, Bool.or_false, Bool.false_or, Bool.not_true, Bool.not_false, if_true, if_false, Bool.false_eq_true, beq_self_eq_true]; done)) | ((try dsimp only at *); (try simp only [Bool.not_eq_true', Bool.not_eq_false', bne] at *); simp only [eqv, eqv1, eqv2, eqvL1, eqvL2, *, R.does, R.two, R.sum, R.dif, S.full, bne, Bool.and_true, Bool.true_and, Bool.and_false, Bool.false_and, Bool.or_true, Bool.true_or, Bool.or_false, Bool.false_or, Bool.not_true, Bool.not_false, if_true, if_false, Bool.false_eq_true, beq_self_eq_true]; rfl) | (simp_all [eqv, eqv1, eqv2, eqvL1, eqvL2, R.does, R.two, R.sum, R.dif, S.full]; done))
  · trivial
def k_rShift : List SV → List Blk → Res := fun args _ => match args with
  | [.int .u8 op, .agg [.u64 alo, .u64 ahi, .int .i64 asl, .int .i64 ash], .int .i64 k] => .test (R.inI asl && R.inI ash) (.ok (.tup [spv (R.shift op (⟨alo, ahi, asl, ash⟩ : Sp) k).1, .bool (R.shift op (⟨alo, ahi, asl, ash⟩ : Sp) k).2]) [])
  | _ => .fail
theorem k_rShift_ok : CtrOk Try.prog Gw 11 k_rShift := by
  refine ⟨fun _ _ => by kernel_rfl, fun args M => ?_⟩
  unfold k_rShift
  split
  · rename_i op alo ahi asl ash k
    intro ht
    refine ctr_flat (Γ := ⟨[(21, k_rRight), (38, k_rPower), (39, k_rHalf), (41, k_rDoubled), (40, k_rTimes), (61, k_rFull)], eqs, [], [(25, Try.f25, [])], []⟩) (sv := .tup [spv (R.shift op (⟨alo, ahi, asl, ash⟩ : Sp) k).1, .bool (R.shift op (⟨alo, ahi, asl, ash⟩ : Sp) k).2]) st_Gw ⟨(okCons k_rRight_ok (okCons k_rPower_ok (okCons k_rHalf_ok (okCons k_rDoubled_ok (okCons k_rTimes_ok (okCons k_rFull_ok okNil)))))), eqs_ok, okNilB, (okConsI Try.func25 rfl (by kernel_rfl) (fun _ _ => by kernel_rfl) okNilI), okNilP⟩ Try.func11 rfl mixed [(8, 11, [0, 1, 0, 7, 0, 16, 0, 112, 0, 256, 768, 2047, 4095, 8191]), (10, 7, [0, 1, 0, 7, 0, 16, 0, 127, 255, 511, 1023])] (by kernel_rfl) 10000 (by rfl) ?_
    (conv => whnf)
    (repeat' (first | (refine And.intro (fun hb => ?_) (fun hb => ?_) <;> (first | contradiction | (conv => whnf))) | (refine And.intro ?_ ?_; rotate_left 1; (conv => whnf))))
    all_goals (first | exact R.pow_ne (by simp only [decide_eq_true_eq, decide_eq_false_iff_not] at *; omega) | first | rfl | trivial | ((try dsimp only at *); (try simp only [Bool.not_eq_true', Bool.not_eq_false', bne, ite_uv] at *); (simp only [eqv, eqv1, eqv2, eqvL1, eqvL2, *, R.shift, R.two, S.full, bne, Bool.and_true, Bool.true_and, Bool.and_false, Bool.false_and, Bool.or_true, Bool.true_or, Bool.or_false, Bool.false_or, Bool.not_true, Bool.not_false, if_true, if_false, Bool.false_eq_true, beq_self_eq_true]; done)) | ((try dsimp only at *); (try simp only [Bool.not_eq_true', Bool.not_eq_false', bne] at *); simp only [eqv, eqv1, eqv2, eqvL1, eqvL2, *, R.shift, R.two, S.full, bne, Bool.and_true, Bool.true_and, Bool.and_false, Bool.false_and, Bool.or_true, Bool.true_or, Bool.or_false, Bool.false_or, Bool.not_true, Bool.not_false, if_true, if_false, Bool.false_eq_true, beq_self_eq_true]; rfl) | (simp_all [eqv, eqv1, eqv2, eqvL1, eqvL2, R.shift, R.two, S.full]; done))
  · trivial
end Go.Proofs.Ytgaclnllkiihlaa
