import Derived.Test.YtgfemfgimefmeaaGreatX0
namespace Go.Proofs.YtgfemfgimefmeaaGreat
open Go.RowKit Go.Sx
set_option linter.unusedSimpArgs false
set_option linter.unusedVariables false
set_option linter.unnecessarySimpa false
set_option maxRecDepth 100000
set_option maxHeartbeats 4000000
def k_sof : List SV → List Blk → Res := fun args _ => match args with
  | [.agg [.u64 alo, .u64 ahi, .int .i64 asl, .int .i64 ash]] => .ok (spv (⟨alo, ahi, asl, ash⟩ : Sp)) []
  | _ => .fail
theorem k_sof_ok : CtrOk Tryz.prog Gw 98 k_sof := by
  refine ⟨fun _ _ => by kernel_rfl, fun args M => ?_⟩
  unfold k_sof
  split
  · rename_i alo ahi asl ash
    refine ctr_flat (Γ := ⟨[], eqs, [], [], [], mixs, meqs⟩) (sv := spv (⟨alo, ahi, asl, ash⟩ : Sp)) st_Gw ⟨okNil, eqs_ok, okNilB, okNilI, okNilP, mixs_ok, meqs_ok⟩ Tryz.func98 rfl mixed [] (by kernel_rfl) 10000 (by rfl) ?_
    (conv => whnf)
    (repeat' (first | (refine And.intro (fun hb => ?_) (fun hb => ?_) <;> (first | contradiction | (conv => whnf))) | (refine And.intro ?_ ?_; rotate_left 1; (conv => whnf))))
    all_goals (first | rfl | trivial | ((try dsimp only at *); (try simp only [Bool.not_eq_true', Bool.not_eq_false', bne, ite_uv] at *); (simp only [eqv, eqv1, eqv2, eqvL1, eqvL2, *, bne, Bool.and_true, Bool.true_and, Bool.and_false, Bool.false_and, Bool.or_true, Bool.true_or, Bool.or_false, Bool.false_or, Bool.not_true, Bool.not_false, if_true, if_false, Bool.false_eq_true, beq_self_eq_true]; done)) | ((try dsimp only at *); (try simp only [Bool.not_eq_true', Bool.not_eq_false', bne] at *); simp only [eqv, eqv1, eqv2, eqvL1, eqvL2, *, bne, Bool.and_true, Bool.true_and, Bool.and_false, Bool.false_and, Bool.or_true, Bool.true_or, Bool.or_false, Bool.false_or, Bool.not_true, Bool.not_false, if_true, if_false, Bool.false_eq_true, beq_self_eq_true]; rfl) | (simp_all [eqv, eqv1, eqv2, eqvL1, eqvL2]; done))
  · trivial
def k_sall : List SV → List Blk → Res := fun args _ => match args with
  | [] => .ok (spv S.full) []
  | _ => .fail
theorem k_sall_ok : CtrOk Tryz.prog Gw 161 k_sall := by
  refine ⟨fun _ _ => by kernel_rfl, fun args M => ?_⟩
  unfold k_sall
  split
  · refine ctr_flat (Γ := ⟨[], eqs, [], [], [], mixs, meqs⟩) (sv := spv S.full) st_Gw ⟨okNil, eqs_ok, okNilB, okNilI, okNilP, mixs_ok, meqs_ok⟩ Tryz.func161 rfl mixed [] (by kernel_rfl) 10000 (by rfl) ?_
    (conv => whnf)
    (repeat' (first | (refine And.intro (fun hb => ?_) (fun hb => ?_) <;> (first | contradiction | (conv => whnf))) | (refine And.intro ?_ ?_; rotate_left 1; (conv => whnf))))
    all_goals (first | rfl | trivial | ((try dsimp only at *); (try simp only [Bool.not_eq_true', Bool.not_eq_false', bne, ite_uv] at *); (simp only [eqv, eqv1, eqv2, eqvL1, eqvL2, *, bne, Bool.and_true, Bool.true_and, Bool.and_false, Bool.false_and, Bool.or_true, Bool.true_or, Bool.or_false, Bool.false_or, Bool.not_true, Bool.not_false, if_true, if_false, Bool.false_eq_true, beq_self_eq_true]; done)) | ((try dsimp only at *); (try simp only [Bool.not_eq_true', Bool.not_eq_false', bne] at *); simp only [eqv, eqv1, eqv2, eqvL1, eqvL2, *, bne, Bool.and_true, Bool.true_and, Bool.and_false, Bool.false_and, Bool.or_true, Bool.true_or, Bool.or_false, Bool.false_or, Bool.not_true, Bool.not_false, if_true, if_false, Bool.false_eq_true, beq_self_eq_true]; rfl) | (simp_all [eqv, eqv1, eqv2, eqvL1, eqvL2]; done))
  · trivial
def k_sspan : List SV → List Blk → Res := fun args _ => match args with
  | [.agg [.u64 alo, .u64 ahi, .int .i64 asl, .int .i64 ash]] => .ok (spv (⟨alo, ahi, asl, ash⟩ : Sp)) []
  | _ => .fail
theorem k_sspan_ok : CtrOk Tryz.prog Gw 145 k_sspan := by
  refine ⟨fun _ _ => by kernel_rfl, fun args M => ?_⟩
  unfold k_sspan
  split
  · rename_i alo ahi asl ash
    refine ctr_flat (Γ := ⟨[], eqs, [], [], [], mixs, meqs⟩) (sv := spv (⟨alo, ahi, asl, ash⟩ : Sp)) st_Gw ⟨okNil, eqs_ok, okNilB, okNilI, okNilP, mixs_ok, meqs_ok⟩ Tryz.func145 rfl mixed [] (by kernel_rfl) 10000 (by rfl) ?_
    (conv => whnf)
    (repeat' (first | (refine And.intro (fun hb => ?_) (fun hb => ?_) <;> (first | contradiction | (conv => whnf))) | (refine And.intro ?_ ?_; rotate_left 1; (conv => whnf))))
    all_goals (first | rfl | trivial | ((try dsimp only at *); (try simp only [Bool.not_eq_true', Bool.not_eq_false', bne, ite_uv] at *); (simp only [eqv, eqv1, eqv2, eqvL1, eqvL2, *, bne, Bool.and_true, Bool.true_and, Bool.and_false, Bool.false_and, Bool.or_true, Bool.true_or, Bool.or_false, Bool.false_or, Bool.not_true, Bool.not_false, if_true, if_false, Bool.false_eq_true, beq_self_eq_true]; done)) | ((try dsimp only at *); (try simp only [Bool.not_eq_true', Bool.not_eq_false', bne] at *); simp only [eqv, eqv1, eqv2, eqvL1, eqvL2, *, bne, Bool.and_true, Bool.true_and, Bool.and_false, Bool.false_and, Bool.or_true, Bool.true_or, Bool.or_false, Bool.false_or, Bool.not_true, Bool.not_false, if_true, if_false, Bool.false_eq_true, beq_self_eq_true]; rfl) | (simp_all [eqv, eqv1, eqv2, eqvL1, eqvL2]; done))
  · trivial
def k_srightU : List SV → List Blk → Res := fun args _ => match args with
  | [.agg [.u64 alo, .u64 ahi]] => .ok (.bool (decide (alo ≤ ahi))) []
  | _ => .fail
theorem k_srightU_ok : CtrOk Tryz.prog Gw 148 k_srightU := by
  refine ⟨fun _ _ => by kernel_rfl, fun args M => ?_⟩
  unfold k_srightU
  split
  · rename_i alo ahi
    refine ctr_flat (Γ := ⟨[], eqs, [], [], [], mixs, meqs⟩) (sv := .bool (decide (alo ≤ ahi))) st_Gw ⟨okNil, eqs_ok, okNilB, okNilI, okNilP, mixs_ok, meqs_ok⟩ Tryz.func148 rfl mixed [] (by kernel_rfl) 10000 (by rfl) ?_
    (conv => whnf)
    (repeat' (first | (refine And.intro (fun hb => ?_) (fun hb => ?_) <;> (first | contradiction | (conv => whnf))) | (refine And.intro ?_ ?_; rotate_left 1; (conv => whnf))))
    all_goals (first | rfl | trivial | ((try dsimp only at *); (try simp only [Bool.not_eq_true', Bool.not_eq_false', bne, ite_uv] at *); (simp only [eqv, eqv1, eqv2, eqvL1, eqvL2, *, bne, Bool.and_true, Bool.true_and, Bool.and_false, Bool.false_and, Bool.or_true, Bool.true_or, Bool.or_false, Bool.false_or, Bool.not_true, Bool.not_false, if_true, if_false, Bool.false_eq_true, beq_self_eq_true]; done)) | ((try dsimp only at *); (try simp only [Bool.not_eq_true', Bool.not_eq_false', bne] at *); simp only [eqv, eqv1, eqv2, eqvL1, eqvL2, *, bne, Bool.and_true, Bool.true_and, Bool.and_false, Bool.false_and, Bool.or_true, Bool.true_or, Bool.or_false, Bool.false_or, Bool.not_true, Bool.not_false, if_true, if_false, Bool.false_eq_true, beq_self_eq_true]; rfl) | (simp_all [eqv, eqv1, eqv2, eqvL1, eqvL2]; done))
  · trivial
def k_srightI : List SV → List Blk → Res := fun args _ => match args with
  | [.agg [.int .i64 asl, .int .i64 ash]] => .ok (.bool (decide (asl ≤ ash))) []
  | _ => .fail
theorem k_srightI_ok : CtrOk Tryz.prog Gw 149 k_srightI := by
  refine ⟨fun _ _ => by kernel_rfl, fun args M => ?_⟩
  unfold k_srightI
  split
  · rename_i asl ash
    refine ctr_flat (Γ := ⟨[], eqs, [], [], [], mixs, meqs⟩) (sv := .bool (decide (asl ≤ ash))) st_Gw ⟨okNil, eqs_ok, okNilB, okNilI, okNilP, mixs_ok, meqs_ok⟩ Tryz.func149 rfl mixed [] (by kernel_rfl) 10000 (by rfl) ?_
    (conv => whnf)
    (repeat' (first | (refine And.intro (fun hb => ?_) (fun hb => ?_) <;> (first | contradiction | (conv => whnf))) | (refine And.intro ?_ ?_; rotate_left 1; (conv => whnf))))
    all_goals (first | rfl | trivial | ((try dsimp only at *); (try simp only [Bool.not_eq_true', Bool.not_eq_false', bne, ite_uv] at *); (simp only [eqv, eqv1, eqv2, eqvL1, eqvL2, *, bne, Bool.and_true, Bool.true_and, Bool.and_false, Bool.false_and, Bool.or_true, Bool.true_or, Bool.or_false, Bool.false_or, Bool.not_true, Bool.not_false, if_true, if_false, Bool.false_eq_true, beq_self_eq_true]; done)) | ((try dsimp only at *); (try simp only [Bool.not_eq_true', Bool.not_eq_false', bne] at *); simp only [eqv, eqv1, eqv2, eqvL1, eqvL2, *, bne, Bool.and_true, Bool.true_and, Bool.and_false, Bool.false_and, Bool.or_true, Bool.true_or, Bool.or_false, Bool.false_or, Bool.not_true, Bool.not_false, if_true, if_false, Bool.false_eq_true, beq_self_eq_true]; rfl) | (simp_all [eqv, eqv1, eqv2, eqvL1, eqvL2]; done))
  · trivial
def k_swithinU : List SV → List Blk → Res := fun args _ => match args with
  | [.agg [.u64 alo, .u64 ahi], .agg [.u64 blo, .u64 bhi]] => .ok (.bool (decide (blo ≤ alo) && decide (ahi ≤ bhi))) []
  | _ => .fail
theorem k_swithinU_ok : CtrOk Tryz.prog Gw 100 k_swithinU := by
  refine ⟨fun _ _ => by kernel_rfl, fun args M => ?_⟩
  unfold k_swithinU
  split
  · rename_i alo ahi blo bhi
    refine ctr_flat (Γ := ⟨[], eqs, [], [], [], mixs, meqs⟩) (sv := .bool (decide (blo ≤ alo) && decide (ahi ≤ bhi))) st_Gw ⟨okNil, eqs_ok, okNilB, okNilI, okNilP, mixs_ok, meqs_ok⟩ Tryz.func100 rfl mixed [] (by kernel_rfl) 10000 (by rfl) ?_
    (conv => whnf)
    (repeat' (first | (refine And.intro (fun hb => ?_) (fun hb => ?_) <;> (first | contradiction | (conv => whnf))) | (refine And.intro ?_ ?_; rotate_left 1; (conv => whnf))))
    all_goals (first | rfl | trivial | ((try dsimp only at *); (try simp only [Bool.not_eq_true', Bool.not_eq_false', bne, ite_uv] at *); (simp only [eqv, eqv1, eqv2, eqvL1, eqvL2, *, bne, Bool.and_true, Bool.true_and, Bool.and_false, Bool.false_and, Bool.or_true, Bool.true_or, Bool.or_false, Bool.false_or, Bool.not_true, Bool.not_false, if_true, if_false, Bool.false_eq_true, beq_self_eq_true]; done)) | ((try dsimp only at *); (try simp only [Bool.not_eq_true', Bool.not_eq_false', bne] at *); simp only [eqv, eqv1, eqv2, eqvL1, eqvL2, *, bne, Bool.and_true, Bool.true_and, Bool.and_false, Bool.false_and, Bool.or_true, Bool.true_or, Bool.or_false, Bool.false_or, Bool.not_true, Bool.not_false, if_true, if_false, Bool.false_eq_true, beq_self_eq_true]; rfl) | (simp_all [eqv, eqv1, eqv2, eqvL1, eqvL2]; done))
  · trivial
def k_swithinI : List SV → List Blk → Res := fun args _ => match args with
  | [.agg [.int .i64 asl, .int .i64 ash], .agg [.int .i64 bsl, .int .i64 bsh]] => .ok (.bool (decide (bsl ≤ asl) && decide (ash ≤ bsh))) []
  | _ => .fail
theorem k_swithinI_ok : CtrOk Tryz.prog Gw 101 k_swithinI := by
  refine ⟨fun _ _ => by kernel_rfl, fun args M => ?_⟩
  unfold k_swithinI
  split
  · rename_i asl ash bsl bsh
    refine ctr_flat (Γ := ⟨[], eqs, [], [], [], mixs, meqs⟩) (sv := .bool (decide (bsl ≤ asl) && decide (ash ≤ bsh))) st_Gw ⟨okNil, eqs_ok, okNilB, okNilI, okNilP, mixs_ok, meqs_ok⟩ Tryz.func101 rfl mixed [] (by kernel_rfl) 10000 (by rfl) ?_
    (conv => whnf)
    (repeat' (first | (refine And.intro (fun hb => ?_) (fun hb => ?_) <;> (first | contradiction | (conv => whnf))) | (refine And.intro ?_ ?_; rotate_left 1; (conv => whnf))))
    all_goals (first | rfl | trivial | ((try dsimp only at *); (try simp only [Bool.not_eq_true', Bool.not_eq_false', bne, ite_uv] at *); (simp only [eqv, eqv1, eqv2, eqvL1, eqvL2, *, bne, Bool.and_true, Bool.true_and, Bool.and_false, Bool.false_and, Bool.or_true, Bool.true_or, Bool.or_false, Bool.false_or, Bool.not_true, Bool.not_false, if_true, if_false, Bool.false_eq_true, beq_self_eq_true]; done)) | ((try dsimp only at *); (try simp only [Bool.not_eq_true', Bool.not_eq_false', bne] at *); simp only [eqv, eqv1, eqv2, eqvL1, eqvL2, *, bne, Bool.and_true, Bool.true_and, Bool.and_false, Bool.false_and, Bool.or_true, Bool.true_or, Bool.or_false, Bool.false_or, Bool.not_true, Bool.not_false, if_true, if_false, Bool.false_eq_true, beq_self_eq_true]; rfl) | (simp_all [eqv, eqv1, eqv2, eqvL1, eqvL2]; done))
  · trivial
def k_sgood : List SV → List Blk → Res := fun args _ => match args with
  | [.agg [.u64 alo, .u64 ahi, .int .i64 asl, .int .i64 ash]] => .ok (.bool (S.good (⟨alo, ahi, asl, ash⟩ : Sp))) []
  | _ => .fail
theorem k_sgood_ok : CtrOk Tryz.prog Gw 99 k_sgood := by
  refine ⟨fun _ _ => by kernel_rfl, fun args M => ?_⟩
  unfold k_sgood
  split
  · rename_i alo ahi asl ash
    refine ctr_flat (Γ := ⟨[(148, k_srightU), (149, k_srightI)], eqs, [], [], [], mixs, meqs⟩) (sv := .bool (S.good (⟨alo, ahi, asl, ash⟩ : Sp))) st_Gw ⟨(okCons k_srightU_ok (okCons k_srightI_ok okNil)), eqs_ok, okNilB, okNilI, okNilP, mixs_ok, meqs_ok⟩ Tryz.func99 rfl mixed [] (by kernel_rfl) 10000 (by rfl) ?_
    (conv => whnf)
    (repeat' (first | (refine And.intro (fun hb => ?_) (fun hb => ?_) <;> (first | contradiction | (conv => whnf))) | (refine And.intro ?_ ?_; rotate_left 1; (conv => whnf))))
    all_goals (first | rfl | trivial | ((try dsimp only at *); (try simp only [Bool.not_eq_true', Bool.not_eq_false', bne, ite_uv] at *); (simp only [eqv, eqv1, eqv2, eqvL1, eqvL2, *, S.good, bne, Bool.and_true, Bool.true_and, Bool.and_false, Bool.false_and, Bool.or_true, Bool.true_or, Bool.or_false, Bool.false_or, Bool.not_true, Bool.not_false, if_true, if_false, Bool.false_eq_true, beq_self_eq_true]; done)) | ((try dsimp only at *); (try simp only [Bool.not_eq_true', Bool.not_eq_false', bne] at *); simp only [eqv, eqv1, eqv2, eqvL1, eqvL2, *, S.good, bne, Bool.and_true, Bool.true_and, Bool.and_false, Bool.false_and, Bool.or_true, Bool.true_or, Bool.or_false, Bool.false_or, Bool.not_true, Bool.not_false, if_true, if_false, Bool.false_eq_true, beq_self_eq_true]; rfl) | (simp_all [eqv, eqv1, eqv2, eqvL1, eqvL2, S.good]; done))
  · trivial
def k_soneU : List SV → List Blk → Res := fun args _ => match args with
  | [.u64 n] => .ok (.agg [.u64 n, .u64 n]) []
  | _ => .fail
theorem k_soneU_ok : CtrOk Tryz.prog Gw 143 k_soneU := by
  refine ⟨fun _ _ => by kernel_rfl, fun args M => ?_⟩
  unfold k_soneU
  split
  · rename_i n
    refine ctr_flat (Γ := ⟨[], eqs, [], [], [], mixs, meqs⟩) (sv := .agg [.u64 n, .u64 n]) st_Gw ⟨okNil, eqs_ok, okNilB, okNilI, okNilP, mixs_ok, meqs_ok⟩ Tryz.func143 rfl mixed [] (by kernel_rfl) 10000 (by rfl) ?_
    (conv => whnf)
    (repeat' (first | (refine And.intro (fun hb => ?_) (fun hb => ?_) <;> (first | contradiction | (conv => whnf))) | (refine And.intro ?_ ?_; rotate_left 1; (conv => whnf))))
    all_goals (first | rfl | trivial | ((try dsimp only at *); (try simp only [Bool.not_eq_true', Bool.not_eq_false', bne, ite_uv] at *); (simp only [eqv, eqv1, eqv2, eqvL1, eqvL2, *, bne, Bool.and_true, Bool.true_and, Bool.and_false, Bool.false_and, Bool.or_true, Bool.true_or, Bool.or_false, Bool.false_or, Bool.not_true, Bool.not_false, if_true, if_false, Bool.false_eq_true, beq_self_eq_true]; done)) | ((try dsimp only at *); (try simp only [Bool.not_eq_true', Bool.not_eq_false', bne] at *); simp only [eqv, eqv1, eqv2, eqvL1, eqvL2, *, bne, Bool.and_true, Bool.true_and, Bool.and_false, Bool.false_and, Bool.or_true, Bool.true_or, Bool.or_false, Bool.false_or, Bool.not_true, Bool.not_false, if_true, if_false, Bool.false_eq_true, beq_self_eq_true]; rfl) | (simp_all [eqv, eqv1, eqv2, eqvL1, eqvL2]; done))
  · trivial
def k_soneI : List SV → List Blk → Res := fun args _ => match args with
  | [.int .i64 n] => .ok (.agg [.int .i64 n, .int .i64 n]) []
  | _ => .fail
theorem k_soneI_ok : CtrOk Tryz.prog Gw 144 k_soneI := by
  refine ⟨fun _ _ => by kernel_rfl, fun args M => ?_⟩
  unfold k_soneI
  split
  · rename_i n
    refine ctr_flat (Γ := ⟨[], eqs, [], [], [], mixs, meqs⟩) (sv := .agg [.int .i64 n, .int .i64 n]) st_Gw ⟨okNil, eqs_ok, okNilB, okNilI, okNilP, mixs_ok, meqs_ok⟩ Tryz.func144 rfl mixed [] (by kernel_rfl) 10000 (by rfl) ?_
    (conv => whnf)
    (repeat' (first | (refine And.intro (fun hb => ?_) (fun hb => ?_) <;> (first | contradiction | (conv => whnf))) | (refine And.intro ?_ ?_; rotate_left 1; (conv => whnf))))
    all_goals (first | rfl | trivial | ((try dsimp only at *); (try simp only [Bool.not_eq_true', Bool.not_eq_false', bne, ite_uv] at *); (simp only [eqv, eqv1, eqv2, eqvL1, eqvL2, *, bne, Bool.and_true, Bool.true_and, Bool.and_false, Bool.false_and, Bool.or_true, Bool.true_or, Bool.or_false, Bool.false_or, Bool.not_true, Bool.not_false, if_true, if_false, Bool.false_eq_true, beq_self_eq_true]; done)) | ((try dsimp only at *); (try simp only [Bool.not_eq_true', Bool.not_eq_false', bne] at *); simp only [eqv, eqv1, eqv2, eqvL1, eqvL2, *, bne, Bool.and_true, Bool.true_and, Bool.and_false, Bool.false_and, Bool.or_true, Bool.true_or, Bool.or_false, Bool.false_or, Bool.not_true, Bool.not_false, if_true, if_false, Bool.false_eq_true, beq_self_eq_true]; rfl) | (simp_all [eqv, eqv1, eqv2, eqvL1, eqvL2]; done))
  · trivial
def k_sFull : List SV → List Blk → Res := fun args _ => match args with
  | [] => .ok (spv S.full) []
  | _ => .fail
theorem k_sFull_ok : CtrOk Tryz.prog Gw 140 k_sFull := by
  refine ⟨fun _ _ => by kernel_rfl, fun args M => ?_⟩
  unfold k_sFull
  split
  · refine ctr_flat (Γ := ⟨[(161, k_sall), (145, k_sspan)], eqs, [], [], [], mixs, meqs⟩) (sv := spv S.full) st_Gw ⟨(okCons k_sall_ok (okCons k_sspan_ok okNil)), eqs_ok, okNilB, okNilI, okNilP, mixs_ok, meqs_ok⟩ Tryz.func140 rfl mixed [] (by kernel_rfl) 10000 (by rfl) ?_
    (conv => whnf)
    (repeat' (first | (refine And.intro (fun hb => ?_) (fun hb => ?_) <;> (first | contradiction | (conv => whnf))) | (refine And.intro ?_ ?_; rotate_left 1; (conv => whnf))))
    all_goals (first | rfl | trivial | ((try dsimp only at *); (try simp only [Bool.not_eq_true', Bool.not_eq_false', bne, ite_uv] at *); (simp only [eqv, eqv1, eqv2, eqvL1, eqvL2, *, bne, Bool.and_true, Bool.true_and, Bool.and_false, Bool.false_and, Bool.or_true, Bool.true_or, Bool.or_false, Bool.false_or, Bool.not_true, Bool.not_false, if_true, if_false, Bool.false_eq_true, beq_self_eq_true]; done)) | ((try dsimp only at *); (try simp only [Bool.not_eq_true', Bool.not_eq_false', bne] at *); simp only [eqv, eqv1, eqv2, eqvL1, eqvL2, *, bne, Bool.and_true, Bool.true_and, Bool.and_false, Bool.false_and, Bool.or_true, Bool.true_or, Bool.or_false, Bool.false_or, Bool.not_true, Bool.not_false, if_true, if_false, Bool.false_eq_true, beq_self_eq_true]; rfl) | (simp_all [eqv, eqv1, eqv2, eqvL1, eqvL2]; done))
  · trivial
def k_sConst : List SV → List Blk → Res := fun args _ => match args with
  | [.u64 n] => .ok (spv (S.one n)) []
  | _ => .fail
theorem k_sConst_ok : CtrOk Tryz.prog Gw 94 k_sConst := by
  refine ⟨fun _ _ => by kernel_rfl, fun args M => ?_⟩
  unfold k_sConst
  split
  · rename_i n
    refine ctr_flat (Γ := ⟨[(143, k_soneU), (144, k_soneI), (145, k_sspan)], eqs, [], [], [], mixs, meqs⟩) (sv := spv (S.one n)) st_Gw ⟨(okCons k_soneU_ok (okCons k_soneI_ok (okCons k_sspan_ok okNil))), eqs_ok, okNilB, okNilI, okNilP, mixs_ok, meqs_ok⟩ Tryz.func94 rfl mixed [] (by kernel_rfl) 10000 (by rfl) ?_
    (conv => whnf)
    (repeat' (first | (refine And.intro (fun hb => ?_) (fun hb => ?_) <;> (first | contradiction | (conv => whnf))) | (refine And.intro ?_ ?_; rotate_left 1; (conv => whnf))))
    all_goals (first | rfl | trivial | ((try dsimp only at *); (try simp only [Bool.not_eq_true', Bool.not_eq_false', bne, ite_uv] at *); (simp only [eqv, eqv1, eqv2, eqvL1, eqvL2, *, S.one, bne, Bool.and_true, Bool.true_and, Bool.and_false, Bool.false_and, Bool.or_true, Bool.true_or, Bool.or_false, Bool.false_or, Bool.not_true, Bool.not_false, if_true, if_false, Bool.false_eq_true, beq_self_eq_true]; done)) | ((try dsimp only at *); (try simp only [Bool.not_eq_true', Bool.not_eq_false', bne] at *); simp only [eqv, eqv1, eqv2, eqvL1, eqvL2, *, S.one, bne, Bool.and_true, Bool.true_and, Bool.and_false, Bool.false_and, Bool.or_true, Bool.true_or, Bool.or_false, Bool.false_or, Bool.not_true, Bool.not_false, if_true, if_false, Bool.false_eq_true, beq_self_eq_true]; rfl) | (simp_all [eqv, eqv1, eqv2, eqvL1, eqvL2, S.one]; done))
  · trivial
def k_sRight : List SV → List Blk → Res := fun args _ => match args with
  | [.agg [.u64 alo, .u64 ahi, .int .i64 asl, .int .i64 ash]] => .ok (.bool (S.good (⟨alo, ahi, asl, ash⟩ : Sp))) []
  | _ => .fail
theorem k_sRight_ok : CtrOk Tryz.prog Gw 96 k_sRight := by
  refine ⟨fun _ _ => by kernel_rfl, fun args M => ?_⟩
  unfold k_sRight
  split
  · rename_i alo ahi asl ash
    refine ctr_flat (Γ := ⟨[(98, k_sof), (99, k_sgood)], eqs, [], [], [], mixs, meqs⟩) (sv := .bool (S.good (⟨alo, ahi, asl, ash⟩ : Sp))) st_Gw ⟨(okCons k_sof_ok (okCons k_sgood_ok okNil)), eqs_ok, okNilB, okNilI, okNilP, mixs_ok, meqs_ok⟩ Tryz.func96 rfl mixed [] (by kernel_rfl) 10000 (by rfl) ?_
    (conv => whnf)
    (repeat' (first | (refine And.intro (fun hb => ?_) (fun hb => ?_) <;> (first | contradiction | (conv => whnf))) | (refine And.intro ?_ ?_; rotate_left 1; (conv => whnf))))
    all_goals (first | rfl | trivial | ((try dsimp only at *); (try simp only [Bool.not_eq_true', Bool.not_eq_false', bne, ite_uv] at *); (simp only [eqv, eqv1, eqv2, eqvL1, eqvL2, *, bne, Bool.and_true, Bool.true_and, Bool.and_false, Bool.false_and, Bool.or_true, Bool.true_or, Bool.or_false, Bool.false_or, Bool.not_true, Bool.not_false, if_true, if_false, Bool.false_eq_true, beq_self_eq_true]; done)) | ((try dsimp only at *); (try simp only [Bool.not_eq_true', Bool.not_eq_false', bne] at *); simp only [eqv, eqv1, eqv2, eqvL1, eqvL2, *, bne, Bool.and_true, Bool.true_and, Bool.and_false, Bool.false_and, Bool.or_true, Bool.true_or, Bool.or_false, Bool.false_or, Bool.not_true, Bool.not_false, if_true, if_false, Bool.false_eq_true, beq_self_eq_true]; rfl) | (simp_all [eqv, eqv1, eqv2, eqvL1, eqvL2]; done))
  · trivial
def k_sLeq : List SV → List Blk → Res := fun args _ => match args with
  | [.agg [.u64 alo, .u64 ahi, .int .i64 asl, .int .i64 ash], .agg [.u64 blo, .u64 bhi, .int .i64 bsl, .int .i64 bsh]] => .ok (.bool (S.leq (⟨alo, ahi, asl, ash⟩ : Sp) (⟨blo, bhi, bsl, bsh⟩ : Sp))) []
  | _ => .fail
theorem k_sLeq_ok : CtrOk Tryz.prog Gw 49 k_sLeq := by
  refine ⟨fun _ _ => by kernel_rfl, fun args M => ?_⟩
  unfold k_sLeq
  split
  · rename_i alo ahi asl ash blo bhi bsl bsh
    refine ctr_flat (Γ := ⟨[(98, k_sof), (99, k_sgood), (100, k_swithinU), (101, k_swithinI)], eqs, [], [], [], mixs, meqs⟩) (sv := .bool (S.leq (⟨alo, ahi, asl, ash⟩ : Sp) (⟨blo, bhi, bsl, bsh⟩ : Sp))) st_Gw ⟨(okCons k_sof_ok (okCons k_sgood_ok (okCons k_swithinU_ok (okCons k_swithinI_ok okNil)))), eqs_ok, okNilB, okNilI, okNilP, mixs_ok, meqs_ok⟩ Tryz.func49 rfl mixed [(1, 6, [0, 1, 0, 7, 0, 0, 63, 127])] (by kernel_rfl) 10000 (by rfl) ?_
    (conv => whnf)
    (repeat' (first | (refine And.intro (fun hb => ?_) (fun hb => ?_) <;> (first | contradiction | (conv => whnf))) | (refine And.intro ?_ ?_; rotate_left 1; (conv => whnf))))
    all_goals (first | rfl | trivial | ((try dsimp only at *); (try simp only [Bool.not_eq_true', Bool.not_eq_false', bne, ite_uv] at *); (simp only [eqv, eqv1, eqv2, eqvL1, eqvL2, *, S.leq, bne, Bool.and_true, Bool.true_and, Bool.and_false, Bool.false_and, Bool.or_true, Bool.true_or, Bool.or_false, Bool.false_or, Bool.not_true, Bool.not_false, if_true, if_false, Bool.false_eq_true, beq_self_eq_true]; done)) | ((try dsimp only at *); (try simp only [Bool.not_eq_true', Bool.not_eq_false', bne] at *); simp only [eqv, eqv1, eqv2, eqvL1, eqvL2, *, S.leq, bne, Bool.and_true, Bool.true_and, Bool.and_false, Bool.false_and, Bool.or_true, Bool.true_or, Bool.or_false, Bool.false_or, Bool.not_true, Bool.not_false, if_true, if_false, Bool.false_eq_true, beq_self_eq_true]; rfl) | (simp_all [eqv, eqv1, eqv2, eqvL1, eqvL2, S.leq]; done))
  · trivial
end Go.Proofs.YtgfemfgimefmeaaGreat
namespace Go.Proofs.YtgfemfgimefmeaaGreat
open Go.RowKit Go.Sx
set_option linter.unusedSimpArgs false
set_option linter.unusedVariables false
set_option linter.unnecessarySimpa false
set_option maxRecDepth 100000
set_option maxHeartbeats 4000000
namespace S
theorem has_form (a : Sp) (n : BitVec 64) : has a n = (good a && (decide (a.lo ≤ n) && (decide (n ≤ a.hi) && (decide (a.sl ≤ sv n) && decide (sv n ≤ a.sh))))) := by
  unfold has leq
  rw [one_good]
  show (true && (good a && ((decide (a.lo ≤ n) && decide (n ≤ a.hi)) && (decide (a.sl ≤ sv n) && decide (sv n ≤ a.sh))))) = _
  cases good a <;> cases decide (a.lo ≤ n) <;> cases decide (n ≤ a.hi) <;> simp
end S
def k_sjoinU : List SV → List Blk → Res := fun args _ => match args with
  | [.agg [.u64 alo, .u64 ahi], .agg [.u64 blo, .u64 bhi]] => .ok (.agg [.u64 (S.minB alo blo), .u64 (S.maxB ahi bhi)]) []
  | _ => .fail
theorem k_sjoinU_ok : CtrOk Tryz.prog Gw 189 k_sjoinU := by
  refine ⟨fun _ _ => by kernel_rfl, fun args M => ?_⟩
  unfold k_sjoinU
  split
  · rename_i alo ahi blo bhi
    refine ctr_flat (Γ := ⟨[], eqs, [], [], [], mixs, meqs⟩) (sv := .agg [.u64 (S.minB alo blo), .u64 (S.maxB ahi bhi)]) st_Gw ⟨okNil, eqs_ok, okNilB, okNilI, okNilP, mixs_ok, meqs_ok⟩ Tryz.func189 rfl mixed [] (by kernel_rfl) 10000 (by rfl) ?_
    (conv => whnf)
    (repeat' (first | (refine And.intro (fun hb => ?_) (fun hb => ?_) <;> (first | contradiction | (conv => whnf))) | (refine And.intro ?_ ?_; rotate_left 1; (conv => whnf))))
    all_goals (first | rfl | trivial | ((try dsimp only at *); (try simp only [Bool.not_eq_true', Bool.not_eq_false', bne, ite_uv] at *); (simp only [eqv, eqv1, eqv2, eqvL1, eqvL2, *, S.maxB, S.minB, bne, Bool.and_true, Bool.true_and, Bool.and_false, Bool.false_and, Bool.or_true, Bool.true_or, Bool.or_false, Bool.false_or, Bool.not_true, Bool.not_false, if_true, if_false, Bool.false_eq_true, beq_self_eq_true]; done)) | ((try dsimp only at *); (try simp only [Bool.not_eq_true', Bool.not_eq_false', bne] at *); simp only [eqv, eqv1, eqv2, eqvL1, eqvL2, *, S.maxB, S.minB, bne, Bool.and_true, Bool.true_and, Bool.and_false, Bool.false_and, Bool.or_true, Bool.true_or, Bool.or_false, Bool.false_or, Bool.not_true, Bool.not_false, if_true, if_false, Bool.false_eq_true, beq_self_eq_true]; rfl) | (simp_all [eqv, eqv1, eqv2, eqvL1, eqvL2, S.maxB, S.minB]; done))
  · trivial
def k_sjoinI : List SV → List Blk → Res := fun args _ => match args with
  | [.agg [.int .i64 asl, .int .i64 ash], .agg [.int .i64 bsl, .int .i64 bsh]] => .ok (.agg [.int .i64 (S.minI asl bsl), .int .i64 (S.maxI ash bsh)]) []
  | _ => .fail
theorem k_sjoinI_ok : CtrOk Tryz.prog Gw 190 k_sjoinI := by
  refine ⟨fun _ _ => by kernel_rfl, fun args M => ?_⟩
  unfold k_sjoinI
  split
  · rename_i asl ash bsl bsh
    refine ctr_flat (Γ := ⟨[], eqs, [], [], [], mixs, meqs⟩) (sv := .agg [.int .i64 (S.minI asl bsl), .int .i64 (S.maxI ash bsh)]) st_Gw ⟨okNil, eqs_ok, okNilB, okNilI, okNilP, mixs_ok, meqs_ok⟩ Tryz.func190 rfl mixed [] (by kernel_rfl) 10000 (by rfl) ?_
    (conv => whnf)
    (repeat' (first | (refine And.intro (fun hb => ?_) (fun hb => ?_) <;> (first | contradiction | (conv => whnf))) | (refine And.intro ?_ ?_; rotate_left 1; (conv => whnf))))
    all_goals (first | rfl | trivial | ((try dsimp only at *); (try simp only [Bool.not_eq_true', Bool.not_eq_false', bne, ite_uv] at *); (simp only [eqv, eqv1, eqv2, eqvL1, eqvL2, *, S.maxI, S.minI, bne, Bool.and_true, Bool.true_and, Bool.and_false, Bool.false_and, Bool.or_true, Bool.true_or, Bool.or_false, Bool.false_or, Bool.not_true, Bool.not_false, if_true, if_false, Bool.false_eq_true, beq_self_eq_true]; done)) | ((try dsimp only at *); (try simp only [Bool.not_eq_true', Bool.not_eq_false', bne] at *); simp only [eqv, eqv1, eqv2, eqvL1, eqvL2, *, S.maxI, S.minI, bne, Bool.and_true, Bool.true_and, Bool.and_false, Bool.false_and, Bool.or_true, Bool.true_or, Bool.or_false, Bool.false_or, Bool.not_true, Bool.not_false, if_true, if_false, Bool.false_eq_true, beq_self_eq_true]; rfl) | (simp_all [eqv, eqv1, eqv2, eqvL1, eqvL2, S.maxI, S.minI]; done))
  · trivial
def k_srRight : List SV → List Blk → Res := fun args _ => match args with
  | [.agg [.u64 alo, .u64 ahi, .int .i64 asl, .int .i64 ash]] => .ok (.bool (S.good (⟨alo, ahi, asl, ash⟩ : Sp))) []
  | _ => .fail
theorem k_srRight_ok : CtrOk Tryz.prog Gw 156 k_srRight := by
  refine ⟨fun _ _ => by kernel_rfl, fun args M => ?_⟩
  unfold k_srRight
  split
  · rename_i alo ahi asl ash
    refine ctr_flat (Γ := ⟨[], eqs, [], [], [], mixs, meqs⟩) (sv := .bool (S.good (⟨alo, ahi, asl, ash⟩ : Sp))) st_Gw ⟨okNil, eqs_ok, okNilB, okNilI, okNilP, mixs_ok, meqs_ok⟩ Tryz.func156 rfl mixed [] (by kernel_rfl) 10000 (by rfl) ?_
    (conv => whnf)
    (repeat' (first | (refine And.intro (fun hb => ?_) (fun hb => ?_) <;> (first | contradiction | (conv => whnf))) | (refine And.intro ?_ ?_; rotate_left 1; (conv => whnf))))
    all_goals (first | rfl | trivial | ((try dsimp only at *); (try simp only [Bool.not_eq_true', Bool.not_eq_false', bne, ite_uv] at *); (simp only [eqv, eqv1, eqv2, eqvL1, eqvL2, *, S.good, bne, Bool.and_true, Bool.true_and, Bool.and_false, Bool.false_and, Bool.or_true, Bool.true_or, Bool.or_false, Bool.false_or, Bool.not_true, Bool.not_false, if_true, if_false, Bool.false_eq_true, beq_self_eq_true]; done)) | ((try dsimp only at *); (try simp only [Bool.not_eq_true', Bool.not_eq_false', bne] at *); simp only [eqv, eqv1, eqv2, eqvL1, eqvL2, *, S.good, bne, Bool.and_true, Bool.true_and, Bool.and_false, Bool.false_and, Bool.or_true, Bool.true_or, Bool.or_false, Bool.false_or, Bool.not_true, Bool.not_false, if_true, if_false, Bool.false_eq_true, beq_self_eq_true]; rfl) | (simp_all [eqv, eqv1, eqv2, eqvL1, eqvL2, S.good]; done))
  · trivial
end Go.Proofs.YtgfemfgimefmeaaGreat
