import Derived.Test.YtddcaklgflfkeaaGreatDoorX0
namespace Go.Proofs.YtddcaklgflfkeaaGreatDoor
open Go.RowKit Go.Sx
set_option linter.unusedSimpArgs false
set_option linter.unusedVariables false
set_option linter.unnecessarySimpa false
set_option maxRecDepth 100000
set_option maxHeartbeats 4000000
def k_sof : List SV → List Blk → Res := fun args _ => match args with
  | [.agg [.u64 alo, .u64 ahi, .int .i64 asl, .int .i64 ash]] => .ok (spv (⟨alo, ahi, asl, ash⟩ : Sp)) []
  | _ => .fail
theorem k_sof_ok : CtrOk Tryz.prog Gw 75 k_sof := by
  refine ⟨fun _ _ => by kernel_rfl, fun args M => ?_⟩
  unfold k_sof
  split
  · rename_i alo ahi asl ash
    refine ctr_flat (Γ := ⟨[], eqs, [], [], []⟩) (sv := spv (⟨alo, ahi, asl, ash⟩ : Sp)) st_Gw ⟨okNil, eqs_ok, okNilB, okNilI, okNilP⟩ Tryz.func75 rfl mixed [] (by kernel_rfl) 10000 (by rfl) ?_
    (conv => whnf)
    (repeat' (first | (refine And.intro (fun hb => ?_) (fun hb => ?_) <;> (first | contradiction | (conv => whnf))) | (refine And.intro ?_ ?_; rotate_left 1; (conv => whnf))))
    all_goals (first | rfl | trivial | ((try dsimp only at *); (try simp only [Bool.not_eq_true', Bool.not_eq_false', bne, ite_uv] at *); (simp only [eqv, eqv1, eqv2, eqvL1, eqvL2, *, bne, Bool.and_true, Bool.true_and, Bool.and_false, Bool.false_and, Bool.or_true, Bool.true_or, Bool.or_false, Bool.false_or, Bool.not_true, Bool.not_false, if_true, if_false, Bool.false_eq_true, beq_self_eq_true]; done)) | ((try dsimp only at *); (try simp only [Bool.not_eq_true', Bool.not_eq_false', bne] at *); simp only [eqv, eqv1, eqv2, eqvL1, eqvL2, *, bne, Bool.and_true, Bool.true_and, Bool.and_false, Bool.false_and, Bool.or_true, Bool.true_or, Bool.or_false, Bool.false_or, Bool.not_true, Bool.not_false, if_true, if_false, Bool.false_eq_true, beq_self_eq_true]; rfl) | (simp_all [eqv, eqv1, eqv2, eqvL1, eqvL2]; done))
  · trivial
def k_sall : List SV → List Blk → Res := fun args _ => match args with
  | [] => .ok (spv S.full) []
  | _ => .fail
theorem k_sall_ok : CtrOk Tryz.prog Gw 78 k_sall := by
  refine ⟨fun _ _ => by kernel_rfl, fun args M => ?_⟩
  unfold k_sall
  split
  · refine ctr_flat (Γ := ⟨[], eqs, [], [], []⟩) (sv := spv S.full) st_Gw ⟨okNil, eqs_ok, okNilB, okNilI, okNilP⟩ Tryz.func78 rfl mixed [] (by kernel_rfl) 10000 (by rfl) ?_
    (conv => whnf)
    (repeat' (first | (refine And.intro (fun hb => ?_) (fun hb => ?_) <;> (first | contradiction | (conv => whnf))) | (refine And.intro ?_ ?_; rotate_left 1; (conv => whnf))))
    all_goals (first | rfl | trivial | ((try dsimp only at *); (try simp only [Bool.not_eq_true', Bool.not_eq_false', bne, ite_uv] at *); (simp only [eqv, eqv1, eqv2, eqvL1, eqvL2, *, bne, Bool.and_true, Bool.true_and, Bool.and_false, Bool.false_and, Bool.or_true, Bool.true_or, Bool.or_false, Bool.false_or, Bool.not_true, Bool.not_false, if_true, if_false, Bool.false_eq_true, beq_self_eq_true]; done)) | ((try dsimp only at *); (try simp only [Bool.not_eq_true', Bool.not_eq_false', bne] at *); simp only [eqv, eqv1, eqv2, eqvL1, eqvL2, *, bne, Bool.and_true, Bool.true_and, Bool.and_false, Bool.false_and, Bool.or_true, Bool.true_or, Bool.or_false, Bool.false_or, Bool.not_true, Bool.not_false, if_true, if_false, Bool.false_eq_true, beq_self_eq_true]; rfl) | (simp_all [eqv, eqv1, eqv2, eqvL1, eqvL2]; done))
  · trivial
def k_sspan : List SV → List Blk → Res := fun args _ => match args with
  | [.agg [.u64 alo, .u64 ahi, .int .i64 asl, .int .i64 ash]] => .ok (spv (⟨alo, ahi, asl, ash⟩ : Sp)) []
  | _ => .fail
theorem k_sspan_ok : CtrOk Tryz.prog Gw 55 k_sspan := by
  refine ⟨fun _ _ => by kernel_rfl, fun args M => ?_⟩
  unfold k_sspan
  split
  · rename_i alo ahi asl ash
    refine ctr_flat (Γ := ⟨[], eqs, [], [], []⟩) (sv := spv (⟨alo, ahi, asl, ash⟩ : Sp)) st_Gw ⟨okNil, eqs_ok, okNilB, okNilI, okNilP⟩ Tryz.func55 rfl mixed [] (by kernel_rfl) 10000 (by rfl) ?_
    (conv => whnf)
    (repeat' (first | (refine And.intro (fun hb => ?_) (fun hb => ?_) <;> (first | contradiction | (conv => whnf))) | (refine And.intro ?_ ?_; rotate_left 1; (conv => whnf))))
    all_goals (first | rfl | trivial | ((try dsimp only at *); (try simp only [Bool.not_eq_true', Bool.not_eq_false', bne, ite_uv] at *); (simp only [eqv, eqv1, eqv2, eqvL1, eqvL2, *, bne, Bool.and_true, Bool.true_and, Bool.and_false, Bool.false_and, Bool.or_true, Bool.true_or, Bool.or_false, Bool.false_or, Bool.not_true, Bool.not_false, if_true, if_false, Bool.false_eq_true, beq_self_eq_true]; done)) | ((try dsimp only at *); (try simp only [Bool.not_eq_true', Bool.not_eq_false', bne] at *); simp only [eqv, eqv1, eqv2, eqvL1, eqvL2, *, bne, Bool.and_true, Bool.true_and, Bool.and_false, Bool.false_and, Bool.or_true, Bool.true_or, Bool.or_false, Bool.false_or, Bool.not_true, Bool.not_false, if_true, if_false, Bool.false_eq_true, beq_self_eq_true]; rfl) | (simp_all [eqv, eqv1, eqv2, eqvL1, eqvL2]; done))
  · trivial
def k_srightU : List SV → List Blk → Res := fun args _ => match args with
  | [.agg [.u64 alo, .u64 ahi]] => .ok (.bool (decide (alo ≤ ahi))) []
  | _ => .fail
theorem k_srightU_ok : CtrOk Tryz.prog Gw 100 k_srightU := by
  refine ⟨fun _ _ => by kernel_rfl, fun args M => ?_⟩
  unfold k_srightU
  split
  · rename_i alo ahi
    refine ctr_flat (Γ := ⟨[], eqs, [], [], []⟩) (sv := .bool (decide (alo ≤ ahi))) st_Gw ⟨okNil, eqs_ok, okNilB, okNilI, okNilP⟩ Tryz.func100 rfl mixed [] (by kernel_rfl) 10000 (by rfl) ?_
    (conv => whnf)
    (repeat' (first | (refine And.intro (fun hb => ?_) (fun hb => ?_) <;> (first | contradiction | (conv => whnf))) | (refine And.intro ?_ ?_; rotate_left 1; (conv => whnf))))
    all_goals (first | rfl | trivial | ((try dsimp only at *); (try simp only [Bool.not_eq_true', Bool.not_eq_false', bne, ite_uv] at *); (simp only [eqv, eqv1, eqv2, eqvL1, eqvL2, *, bne, Bool.and_true, Bool.true_and, Bool.and_false, Bool.false_and, Bool.or_true, Bool.true_or, Bool.or_false, Bool.false_or, Bool.not_true, Bool.not_false, if_true, if_false, Bool.false_eq_true, beq_self_eq_true]; done)) | ((try dsimp only at *); (try simp only [Bool.not_eq_true', Bool.not_eq_false', bne] at *); simp only [eqv, eqv1, eqv2, eqvL1, eqvL2, *, bne, Bool.and_true, Bool.true_and, Bool.and_false, Bool.false_and, Bool.or_true, Bool.true_or, Bool.or_false, Bool.false_or, Bool.not_true, Bool.not_false, if_true, if_false, Bool.false_eq_true, beq_self_eq_true]; rfl) | (simp_all [eqv, eqv1, eqv2, eqvL1, eqvL2]; done))
  · trivial
def k_srightI : List SV → List Blk → Res := fun args _ => match args with
  | [.agg [.int .i64 asl, .int .i64 ash]] => .ok (.bool (decide (asl ≤ ash))) []
  | _ => .fail
theorem k_srightI_ok : CtrOk Tryz.prog Gw 101 k_srightI := by
  refine ⟨fun _ _ => by kernel_rfl, fun args M => ?_⟩
  unfold k_srightI
  split
  · rename_i asl ash
    refine ctr_flat (Γ := ⟨[], eqs, [], [], []⟩) (sv := .bool (decide (asl ≤ ash))) st_Gw ⟨okNil, eqs_ok, okNilB, okNilI, okNilP⟩ Tryz.func101 rfl mixed [] (by kernel_rfl) 10000 (by rfl) ?_
    (conv => whnf)
    (repeat' (first | (refine And.intro (fun hb => ?_) (fun hb => ?_) <;> (first | contradiction | (conv => whnf))) | (refine And.intro ?_ ?_; rotate_left 1; (conv => whnf))))
    all_goals (first | rfl | trivial | ((try dsimp only at *); (try simp only [Bool.not_eq_true', Bool.not_eq_false', bne, ite_uv] at *); (simp only [eqv, eqv1, eqv2, eqvL1, eqvL2, *, bne, Bool.and_true, Bool.true_and, Bool.and_false, Bool.false_and, Bool.or_true, Bool.true_or, Bool.or_false, Bool.false_or, Bool.not_true, Bool.not_false, if_true, if_false, Bool.false_eq_true, beq_self_eq_true]; done)) | ((try dsimp only at *); (try simp only [Bool.not_eq_true', Bool.not_eq_false', bne] at *); simp only [eqv, eqv1, eqv2, eqvL1, eqvL2, *, bne, Bool.and_true, Bool.true_and, Bool.and_false, Bool.false_and, Bool.or_true, Bool.true_or, Bool.or_false, Bool.false_or, Bool.not_true, Bool.not_false, if_true, if_false, Bool.false_eq_true, beq_self_eq_true]; rfl) | (simp_all [eqv, eqv1, eqv2, eqvL1, eqvL2]; done))
  · trivial
def k_swithinU : List SV → List Blk → Res := fun args _ => match args with
  | [.agg [.u64 alo, .u64 ahi], .agg [.u64 blo, .u64 bhi]] => .ok (.bool (decide (blo ≤ alo) && decide (ahi ≤ bhi))) []
  | _ => .fail
theorem k_swithinU_ok : CtrOk Tryz.prog Gw 98 k_swithinU := by
  refine ⟨fun _ _ => by kernel_rfl, fun args M => ?_⟩
  unfold k_swithinU
  split
  · rename_i alo ahi blo bhi
    refine ctr_flat (Γ := ⟨[], eqs, [], [], []⟩) (sv := .bool (decide (blo ≤ alo) && decide (ahi ≤ bhi))) st_Gw ⟨okNil, eqs_ok, okNilB, okNilI, okNilP⟩ Tryz.func98 rfl mixed [] (by kernel_rfl) 10000 (by rfl) ?_
    (conv => whnf)
    (repeat' (first | (refine And.intro (fun hb => ?_) (fun hb => ?_) <;> (first | contradiction | (conv => whnf))) | (refine And.intro ?_ ?_; rotate_left 1; (conv => whnf))))
    all_goals (first | rfl | trivial | ((try dsimp only at *); (try simp only [Bool.not_eq_true', Bool.not_eq_false', bne, ite_uv] at *); (simp only [eqv, eqv1, eqv2, eqvL1, eqvL2, *, bne, Bool.and_true, Bool.true_and, Bool.and_false, Bool.false_and, Bool.or_true, Bool.true_or, Bool.or_false, Bool.false_or, Bool.not_true, Bool.not_false, if_true, if_false, Bool.false_eq_true, beq_self_eq_true]; done)) | ((try dsimp only at *); (try simp only [Bool.not_eq_true', Bool.not_eq_false', bne] at *); simp only [eqv, eqv1, eqv2, eqvL1, eqvL2, *, bne, Bool.and_true, Bool.true_and, Bool.and_false, Bool.false_and, Bool.or_true, Bool.true_or, Bool.or_false, Bool.false_or, Bool.not_true, Bool.not_false, if_true, if_false, Bool.false_eq_true, beq_self_eq_true]; rfl) | (simp_all [eqv, eqv1, eqv2, eqvL1, eqvL2]; done))
  · trivial
def k_swithinI : List SV → List Blk → Res := fun args _ => match args with
  | [.agg [.int .i64 asl, .int .i64 ash], .agg [.int .i64 bsl, .int .i64 bsh]] => .ok (.bool (decide (bsl ≤ asl) && decide (ash ≤ bsh))) []
  | _ => .fail
theorem k_swithinI_ok : CtrOk Tryz.prog Gw 99 k_swithinI := by
  refine ⟨fun _ _ => by kernel_rfl, fun args M => ?_⟩
  unfold k_swithinI
  split
  · rename_i asl ash bsl bsh
    refine ctr_flat (Γ := ⟨[], eqs, [], [], []⟩) (sv := .bool (decide (bsl ≤ asl) && decide (ash ≤ bsh))) st_Gw ⟨okNil, eqs_ok, okNilB, okNilI, okNilP⟩ Tryz.func99 rfl mixed [] (by kernel_rfl) 10000 (by rfl) ?_
    (conv => whnf)
    (repeat' (first | (refine And.intro (fun hb => ?_) (fun hb => ?_) <;> (first | contradiction | (conv => whnf))) | (refine And.intro ?_ ?_; rotate_left 1; (conv => whnf))))
    all_goals (first | rfl | trivial | ((try dsimp only at *); (try simp only [Bool.not_eq_true', Bool.not_eq_false', bne, ite_uv] at *); (simp only [eqv, eqv1, eqv2, eqvL1, eqvL2, *, bne, Bool.and_true, Bool.true_and, Bool.and_false, Bool.false_and, Bool.or_true, Bool.true_or, Bool.or_false, Bool.false_or, Bool.not_true, Bool.not_false, if_true, if_false, Bool.false_eq_true, beq_self_eq_true]; done)) | ((try dsimp only at *); (try simp only [Bool.not_eq_true', Bool.not_eq_false', bne] at *); simp only [eqv, eqv1, eqv2, eqvL1, eqvL2, *, bne, Bool.and_true, Bool.true_and, Bool.and_false, Bool.false_and, Bool.or_true, Bool.true_or, Bool.or_false, Bool.false_or, Bool.not_true, Bool.not_false, if_true, if_false, Bool.false_eq_true, beq_self_eq_true]; rfl) | (simp_all [eqv, eqv1, eqv2, eqvL1, eqvL2]; done))
  · trivial
def k_sgood : List SV → List Blk → Res := fun args _ => match args with
  | [.agg [.u64 alo, .u64 ahi, .int .i64 asl, .int .i64 ash]] => .ok (.bool (S.good (⟨alo, ahi, asl, ash⟩ : Sp))) []
  | _ => .fail
theorem k_sgood_ok : CtrOk Tryz.prog Gw 76 k_sgood := by
  refine ⟨fun _ _ => by kernel_rfl, fun args M => ?_⟩
  unfold k_sgood
  split
  · rename_i alo ahi asl ash
    refine ctr_flat (Γ := ⟨[(100, k_srightU), (101, k_srightI)], eqs, [], [], []⟩) (sv := .bool (S.good (⟨alo, ahi, asl, ash⟩ : Sp))) st_Gw ⟨(okCons k_srightU_ok (okCons k_srightI_ok okNil)), eqs_ok, okNilB, okNilI, okNilP⟩ Tryz.func76 rfl mixed [] (by kernel_rfl) 10000 (by rfl) ?_
    (conv => whnf)
    (repeat' (first | (refine And.intro (fun hb => ?_) (fun hb => ?_) <;> (first | contradiction | (conv => whnf))) | (refine And.intro ?_ ?_; rotate_left 1; (conv => whnf))))
    all_goals (first | rfl | trivial | ((try dsimp only at *); (try simp only [Bool.not_eq_true', Bool.not_eq_false', bne, ite_uv] at *); (simp only [eqv, eqv1, eqv2, eqvL1, eqvL2, *, S.good, bne, Bool.and_true, Bool.true_and, Bool.and_false, Bool.false_and, Bool.or_true, Bool.true_or, Bool.or_false, Bool.false_or, Bool.not_true, Bool.not_false, if_true, if_false, Bool.false_eq_true, beq_self_eq_true]; done)) | ((try dsimp only at *); (try simp only [Bool.not_eq_true', Bool.not_eq_false', bne] at *); simp only [eqv, eqv1, eqv2, eqvL1, eqvL2, *, S.good, bne, Bool.and_true, Bool.true_and, Bool.and_false, Bool.false_and, Bool.or_true, Bool.true_or, Bool.or_false, Bool.false_or, Bool.not_true, Bool.not_false, if_true, if_false, Bool.false_eq_true, beq_self_eq_true]; rfl) | (simp_all [eqv, eqv1, eqv2, eqvL1, eqvL2, S.good]; done))
  · trivial
def k_soneU : List SV → List Blk → Res := fun args _ => match args with
  | [.u64 n] => .ok (.agg [.u64 n, .u64 n]) []
  | _ => .fail
theorem k_soneU_ok : CtrOk Tryz.prog Gw 53 k_soneU := by
  refine ⟨fun _ _ => by kernel_rfl, fun args M => ?_⟩
  unfold k_soneU
  split
  · rename_i n
    refine ctr_flat (Γ := ⟨[], eqs, [], [], []⟩) (sv := .agg [.u64 n, .u64 n]) st_Gw ⟨okNil, eqs_ok, okNilB, okNilI, okNilP⟩ Tryz.func53 rfl mixed [] (by kernel_rfl) 10000 (by rfl) ?_
    (conv => whnf)
    (repeat' (first | (refine And.intro (fun hb => ?_) (fun hb => ?_) <;> (first | contradiction | (conv => whnf))) | (refine And.intro ?_ ?_; rotate_left 1; (conv => whnf))))
    all_goals (first | rfl | trivial | ((try dsimp only at *); (try simp only [Bool.not_eq_true', Bool.not_eq_false', bne, ite_uv] at *); (simp only [eqv, eqv1, eqv2, eqvL1, eqvL2, *, bne, Bool.and_true, Bool.true_and, Bool.and_false, Bool.false_and, Bool.or_true, Bool.true_or, Bool.or_false, Bool.false_or, Bool.not_true, Bool.not_false, if_true, if_false, Bool.false_eq_true, beq_self_eq_true]; done)) | ((try dsimp only at *); (try simp only [Bool.not_eq_true', Bool.not_eq_false', bne] at *); simp only [eqv, eqv1, eqv2, eqvL1, eqvL2, *, bne, Bool.and_true, Bool.true_and, Bool.and_false, Bool.false_and, Bool.or_true, Bool.true_or, Bool.or_false, Bool.false_or, Bool.not_true, Bool.not_false, if_true, if_false, Bool.false_eq_true, beq_self_eq_true]; rfl) | (simp_all [eqv, eqv1, eqv2, eqvL1, eqvL2]; done))
  · trivial
def k_soneI : List SV → List Blk → Res := fun args _ => match args with
  | [.int .i64 n] => .ok (.agg [.int .i64 n, .int .i64 n]) []
  | _ => .fail
theorem k_soneI_ok : CtrOk Tryz.prog Gw 54 k_soneI := by
  refine ⟨fun _ _ => by kernel_rfl, fun args M => ?_⟩
  unfold k_soneI
  split
  · rename_i n
    refine ctr_flat (Γ := ⟨[], eqs, [], [], []⟩) (sv := .agg [.int .i64 n, .int .i64 n]) st_Gw ⟨okNil, eqs_ok, okNilB, okNilI, okNilP⟩ Tryz.func54 rfl mixed [] (by kernel_rfl) 10000 (by rfl) ?_
    (conv => whnf)
    (repeat' (first | (refine And.intro (fun hb => ?_) (fun hb => ?_) <;> (first | contradiction | (conv => whnf))) | (refine And.intro ?_ ?_; rotate_left 1; (conv => whnf))))
    all_goals (first | rfl | trivial | ((try dsimp only at *); (try simp only [Bool.not_eq_true', Bool.not_eq_false', bne, ite_uv] at *); (simp only [eqv, eqv1, eqv2, eqvL1, eqvL2, *, bne, Bool.and_true, Bool.true_and, Bool.and_false, Bool.false_and, Bool.or_true, Bool.true_or, Bool.or_false, Bool.false_or, Bool.not_true, Bool.not_false, if_true, if_false, Bool.false_eq_true, beq_self_eq_true]; done)) | ((try dsimp only at *); (try simp only [Bool.not_eq_true', Bool.not_eq_false', bne] at *); simp only [eqv, eqv1, eqv2, eqvL1, eqvL2, *, bne, Bool.and_true, Bool.true_and, Bool.and_false, Bool.false_and, Bool.or_true, Bool.true_or, Bool.or_false, Bool.false_or, Bool.not_true, Bool.not_false, if_true, if_false, Bool.false_eq_true, beq_self_eq_true]; rfl) | (simp_all [eqv, eqv1, eqv2, eqvL1, eqvL2]; done))
  · trivial
def k_sFull : List SV → List Blk → Res := fun args _ => match args with
  | [] => .ok (spv S.full) []
  | _ => .fail
theorem k_sFull_ok : CtrOk Tryz.prog Gw 36 k_sFull := by
  refine ⟨fun _ _ => by kernel_rfl, fun args M => ?_⟩
  unfold k_sFull
  split
  · refine ctr_flat (Γ := ⟨[(78, k_sall), (55, k_sspan)], eqs, [], [], []⟩) (sv := spv S.full) st_Gw ⟨(okCons k_sall_ok (okCons k_sspan_ok okNil)), eqs_ok, okNilB, okNilI, okNilP⟩ Tryz.func36 rfl mixed [] (by kernel_rfl) 10000 (by rfl) ?_
    (conv => whnf)
    (repeat' (first | (refine And.intro (fun hb => ?_) (fun hb => ?_) <;> (first | contradiction | (conv => whnf))) | (refine And.intro ?_ ?_; rotate_left 1; (conv => whnf))))
    all_goals (first | rfl | trivial | ((try dsimp only at *); (try simp only [Bool.not_eq_true', Bool.not_eq_false', bne, ite_uv] at *); (simp only [eqv, eqv1, eqv2, eqvL1, eqvL2, *, bne, Bool.and_true, Bool.true_and, Bool.and_false, Bool.false_and, Bool.or_true, Bool.true_or, Bool.or_false, Bool.false_or, Bool.not_true, Bool.not_false, if_true, if_false, Bool.false_eq_true, beq_self_eq_true]; done)) | ((try dsimp only at *); (try simp only [Bool.not_eq_true', Bool.not_eq_false', bne] at *); simp only [eqv, eqv1, eqv2, eqvL1, eqvL2, *, bne, Bool.and_true, Bool.true_and, Bool.and_false, Bool.false_and, Bool.or_true, Bool.true_or, Bool.or_false, Bool.false_or, Bool.not_true, Bool.not_false, if_true, if_false, Bool.false_eq_true, beq_self_eq_true]; rfl) | (simp_all [eqv, eqv1, eqv2, eqvL1, eqvL2]; done))
  · trivial
def k_sConst : List SV → List Blk → Res := fun args _ => match args with
  | [.u64 n] => .ok (spv (S.one n)) []
  | _ => .fail
theorem k_sConst_ok : CtrOk Tryz.prog Gw 25 k_sConst := by
  refine ⟨fun _ _ => by kernel_rfl, fun args M => ?_⟩
  unfold k_sConst
  split
  · rename_i n
    refine ctr_flat (Γ := ⟨[(53, k_soneU), (54, k_soneI), (55, k_sspan)], eqs, [], [], []⟩) (sv := spv (S.one n)) st_Gw ⟨(okCons k_soneU_ok (okCons k_soneI_ok (okCons k_sspan_ok okNil))), eqs_ok, okNilB, okNilI, okNilP⟩ Tryz.func25 rfl mixed [] (by kernel_rfl) 10000 (by rfl) ?_
    (conv => whnf)
    (repeat' (first | (refine And.intro (fun hb => ?_) (fun hb => ?_) <;> (first | contradiction | (conv => whnf))) | (refine And.intro ?_ ?_; rotate_left 1; (conv => whnf))))
    all_goals (first | rfl | trivial | ((try dsimp only at *); (try simp only [Bool.not_eq_true', Bool.not_eq_false', bne, ite_uv] at *); (simp only [eqv, eqv1, eqv2, eqvL1, eqvL2, *, S.one, bne, Bool.and_true, Bool.true_and, Bool.and_false, Bool.false_and, Bool.or_true, Bool.true_or, Bool.or_false, Bool.false_or, Bool.not_true, Bool.not_false, if_true, if_false, Bool.false_eq_true, beq_self_eq_true]; done)) | ((try dsimp only at *); (try simp only [Bool.not_eq_true', Bool.not_eq_false', bne] at *); simp only [eqv, eqv1, eqv2, eqvL1, eqvL2, *, S.one, bne, Bool.and_true, Bool.true_and, Bool.and_false, Bool.false_and, Bool.or_true, Bool.true_or, Bool.or_false, Bool.false_or, Bool.not_true, Bool.not_false, if_true, if_false, Bool.false_eq_true, beq_self_eq_true]; rfl) | (simp_all [eqv, eqv1, eqv2, eqvL1, eqvL2, S.one]; done))
  · trivial
def k_sRight : List SV → List Blk → Res := fun args _ => match args with
  | [.agg [.u64 alo, .u64 ahi, .int .i64 asl, .int .i64 ash]] => .ok (.bool (S.good (⟨alo, ahi, asl, ash⟩ : Sp))) []
  | _ => .fail
theorem k_sRight_ok : CtrOk Tryz.prog Gw 33 k_sRight := by
  refine ⟨fun _ _ => by kernel_rfl, fun args M => ?_⟩
  unfold k_sRight
  split
  · rename_i alo ahi asl ash
    refine ctr_flat (Γ := ⟨[(75, k_sof), (76, k_sgood)], eqs, [], [], []⟩) (sv := .bool (S.good (⟨alo, ahi, asl, ash⟩ : Sp))) st_Gw ⟨(okCons k_sof_ok (okCons k_sgood_ok okNil)), eqs_ok, okNilB, okNilI, okNilP⟩ Tryz.func33 rfl mixed [] (by kernel_rfl) 10000 (by rfl) ?_
    (conv => whnf)
    (repeat' (first | (refine And.intro (fun hb => ?_) (fun hb => ?_) <;> (first | contradiction | (conv => whnf))) | (refine And.intro ?_ ?_; rotate_left 1; (conv => whnf))))
    all_goals (first | rfl | trivial | ((try dsimp only at *); (try simp only [Bool.not_eq_true', Bool.not_eq_false', bne, ite_uv] at *); (simp only [eqv, eqv1, eqv2, eqvL1, eqvL2, *, bne, Bool.and_true, Bool.true_and, Bool.and_false, Bool.false_and, Bool.or_true, Bool.true_or, Bool.or_false, Bool.false_or, Bool.not_true, Bool.not_false, if_true, if_false, Bool.false_eq_true, beq_self_eq_true]; done)) | ((try dsimp only at *); (try simp only [Bool.not_eq_true', Bool.not_eq_false', bne] at *); simp only [eqv, eqv1, eqv2, eqvL1, eqvL2, *, bne, Bool.and_true, Bool.true_and, Bool.and_false, Bool.false_and, Bool.or_true, Bool.true_or, Bool.or_false, Bool.false_or, Bool.not_true, Bool.not_false, if_true, if_false, Bool.false_eq_true, beq_self_eq_true]; rfl) | (simp_all [eqv, eqv1, eqv2, eqvL1, eqvL2]; done))
  · trivial
def k_sLeq : List SV → List Blk → Res := fun args _ => match args with
  | [.agg [.u64 alo, .u64 ahi, .int .i64 asl, .int .i64 ash], .agg [.u64 blo, .u64 bhi, .int .i64 bsl, .int .i64 bsh]] => .ok (.bool (S.leq (⟨alo, ahi, asl, ash⟩ : Sp) (⟨blo, bhi, bsl, bsh⟩ : Sp))) []
  | _ => .fail
theorem k_sLeq_ok : CtrOk Tryz.prog Gw 73 k_sLeq := by
  refine ⟨fun _ _ => by kernel_rfl, fun args M => ?_⟩
  unfold k_sLeq
  split
  · rename_i alo ahi asl ash blo bhi bsl bsh
    refine ctr_flat (Γ := ⟨[(75, k_sof), (76, k_sgood), (98, k_swithinU), (99, k_swithinI)], eqs, [], [], []⟩) (sv := .bool (S.leq (⟨alo, ahi, asl, ash⟩ : Sp) (⟨blo, bhi, bsl, bsh⟩ : Sp))) st_Gw ⟨(okCons k_sof_ok (okCons k_sgood_ok (okCons k_swithinU_ok (okCons k_swithinI_ok okNil)))), eqs_ok, okNilB, okNilI, okNilP⟩ Tryz.func73 rfl mixed [(1, 6, [0, 1, 0, 7, 0, 0, 63, 127])] (by kernel_rfl) 10000 (by rfl) ?_
    (conv => whnf)
    (repeat' (first | (refine And.intro (fun hb => ?_) (fun hb => ?_) <;> (first | contradiction | (conv => whnf))) | (refine And.intro ?_ ?_; rotate_left 1; (conv => whnf))))
    all_goals (first | rfl | trivial | ((try dsimp only at *); (try simp only [Bool.not_eq_true', Bool.not_eq_false', bne, ite_uv] at *); (simp only [eqv, eqv1, eqv2, eqvL1, eqvL2, *, S.leq, bne, Bool.and_true, Bool.true_and, Bool.and_false, Bool.false_and, Bool.or_true, Bool.true_or, Bool.or_false, Bool.false_or, Bool.not_true, Bool.not_false, if_true, if_false, Bool.false_eq_true, beq_self_eq_true]; done)) | ((try dsimp only at *); (try simp only [Bool.not_eq_true', Bool.not_eq_false', bne] at *); simp only [eqv, eqv1, eqv2, eqvL1, eqvL2, *, S.leq, bne, Bool.and_true, Bool.true_and, Bool.and_false, Bool.false_and, Bool.or_true, Bool.true_or, Bool.or_false, Bool.false_or, Bool.not_true, Bool.not_false, if_true, if_false, Bool.false_eq_true, beq_self_eq_true]; rfl) | (simp_all [eqv, eqv1, eqv2, eqvL1, eqvL2, S.leq]; done))
  · trivial
def k_sHas : List SV → List Blk → Res := fun args _ => match args with
  | [.agg [.u64 alo, .u64 ahi, .int .i64 asl, .int .i64 ash], .u64 n] => .ok (.bool (S.has (⟨alo, ahi, asl, ash⟩ : Sp) n)) []
  | _ => .fail
theorem k_sHas_ok : CtrOk Tryz.prog Gw 31 k_sHas := by
  refine ⟨fun _ _ => by kernel_rfl, fun args M => ?_⟩
  unfold k_sHas
  split
  · rename_i alo ahi asl ash n
    refine ctr_flat (Γ := ⟨[(25, k_sConst), (73, k_sLeq)], eqs, [], [], []⟩) (sv := .bool (S.has (⟨alo, ahi, asl, ash⟩ : Sp) n)) st_Gw ⟨(okCons k_sConst_ok (okCons k_sLeq_ok okNil)), eqs_ok, okNilB, okNilI, okNilP⟩ Tryz.func31 rfl mixed [(1, 3, [0, 1, 0, 7, 15])] (by kernel_rfl) 10000 (by rfl) ?_
    (conv => whnf)
    (repeat' (first | (refine And.intro (fun hb => ?_) (fun hb => ?_) <;> (first | contradiction | (conv => whnf))) | (refine And.intro ?_ ?_; rotate_left 1; (conv => whnf))))
    all_goals (first | rfl | trivial | ((try dsimp only at *); (try simp only [Bool.not_eq_true', Bool.not_eq_false', bne, ite_uv] at *); (simp only [eqv, eqv1, eqv2, eqvL1, eqvL2, *, S.has, bne, Bool.and_true, Bool.true_and, Bool.and_false, Bool.false_and, Bool.or_true, Bool.true_or, Bool.or_false, Bool.false_or, Bool.not_true, Bool.not_false, if_true, if_false, Bool.false_eq_true, beq_self_eq_true]; done)) | ((try dsimp only at *); (try simp only [Bool.not_eq_true', Bool.not_eq_false', bne] at *); simp only [eqv, eqv1, eqv2, eqvL1, eqvL2, *, S.has, bne, Bool.and_true, Bool.true_and, Bool.and_false, Bool.false_and, Bool.or_true, Bool.true_or, Bool.or_false, Bool.false_or, Bool.not_true, Bool.not_false, if_true, if_false, Bool.false_eq_true, beq_self_eq_true]; rfl) | (simp_all [eqv, eqv1, eqv2, eqvL1, eqvL2, S.has]; done))
  · trivial
end Go.Proofs.YtddcaklgflfkeaaGreatDoor
namespace Go.Proofs.YtddcaklgflfkeaaGreatDoor
open Go.RowKit Go.Sx
set_option linter.unusedSimpArgs false
set_option linter.unusedVariables false
set_option linter.unnecessarySimpa false
set_option maxRecDepth 100000
set_option maxHeartbeats 4000000
/-- A sum of words, its carry. -/
def k_Add64 : List SV → Option SV := fun args => match args with
  | [.u64 x, .u64 y, .u64 c] => match Nat.beq c.toNat 0 with
    | true => some (.tup [.u64 (x + y), .u64 (S.carry x y)])
    | false => none
  | _ => none
theorem k_Add64_ok : PrimOk Tryz.prog 277 k_Add64 := by
  intro args sv h ρ w
  unfold k_Add64 at h
  split at h
  · rename_i x y c
    split at h
    · rename_i hc
      obtain rfl := Option.some.inj h
      have hc0 : uv c = 0 := by
        have := Nat.eq_of_beq_eq_true hc
        unfold uv; omega
      rw [run_callFunc_extern (e := add64Entry) Tryz.func277 (by kernel_rfl) (by kernel_rfl) (by kernel_rfl) (by kernel_rfl)]
      have := run_add64 (P := Tryz.prog) (uv x) (uv y) (uv c) (uv_nonneg x) (uv_nonneg y) (by omega) (by omega) w
      simp only [denL, SV.den]
      rw [this]
      have e1 : (uv x + uv y + uv c) % 18446744073709551616 = uv (x + y) := by
        rw [hc0]; unfold uv; rw [BitVec.toNat_add]; omega
      have e2 : (uv x + uv y + uv c) / 18446744073709551616 = uv (S.carry x y) := by
        rw [hc0]; unfold uv S.carry; rw [BitVec.toNat_ofNat, Nat.mod_eq_of_lt (by have := x.isLt; have := y.isLt; omega)]; omega
      rw [e1, e2]; rfl
    · cases h
  · cases h
def k_ssum : List SV → List Blk → Res := fun args _ => match args with
  | [.agg [.u64 alo, .u64 ahi], .agg [.u64 blo, .u64 bhi]] => .ok (plv (S.sum (⟨alo, ahi⟩ : Pl) (⟨blo, bhi⟩ : Pl))) []
  | _ => .fail
theorem k_ssum_ok : CtrOk Tryz.prog Gw 261 k_ssum := by
  refine ⟨fun _ _ => by kernel_rfl, fun args M => ?_⟩
  unfold k_ssum
  split
  · rename_i alo ahi blo bhi
    refine ctr_flat (Γ := ⟨[(78, k_sall)], eqs, [], [], [(277, k_Add64)]⟩) (sv := plv (S.sum (⟨alo, ahi⟩ : Pl) (⟨blo, bhi⟩ : Pl))) st_Gw ⟨(okCons k_sall_ok okNil), eqs_ok, okNilB, okNilI, (okConsP k_Add64_ok okNilP)⟩ Tryz.func261 rfl mixed [] (by kernel_rfl) 10000 (by rfl) ?_
    (conv => whnf)
    (repeat' (first | (refine And.intro (fun hb => ?_) (fun hb => ?_) <;> (first | contradiction | (conv => whnf))) | (refine And.intro ?_ ?_; rotate_left 1; (conv => whnf))))
    all_goals (first | rfl | trivial | ((try dsimp only at *); (try simp only [Bool.not_eq_true', Bool.not_eq_false', bne, ite_uv] at *); (simp only [eqv, eqv1, eqv2, eqvL1, eqvL2, *, S.sum, S.full, bne, Bool.and_true, Bool.true_and, Bool.and_false, Bool.false_and, Bool.or_true, Bool.true_or, Bool.or_false, Bool.false_or, Bool.not_true, Bool.not_false, if_true, if_false, Bool.false_eq_true, beq_self_eq_true]; done)) | ((try dsimp only at *); (try simp only [Bool.not_eq_true', Bool.not_eq_false', bne] at *); simp only [eqv, eqv1, eqv2, eqvL1, eqvL2, *, S.sum, S.full, bne, Bool.and_true, Bool.true_and, Bool.and_false, Bool.false_and, Bool.or_true, Bool.true_or, Bool.or_false, Bool.false_or, Bool.not_true, Bool.not_false, if_true, if_false, Bool.false_eq_true, beq_self_eq_true]; rfl) | (simp_all [eqv, eqv1, eqv2, eqvL1, eqvL2, S.sum, S.full]; done))
  · trivial
def k_sover : List SV → List Blk → Res := fun args _ => match args with
  | [.int .i64 a, .int .i64 b] => .ok (.bool (S.over a b)) []
  | _ => .fail
theorem k_sover_ok : CtrOk Tryz.prog Gw 278 k_sover := by
  refine ⟨fun _ _ => by kernel_rfl, fun args M => ?_⟩
  unfold k_sover
  split
  · rename_i a b
    refine ctr_flat (Γ := ⟨[], eqs, [], [], []⟩) (sv := .bool (S.over a b)) st_Gw ⟨okNil, eqs_ok, okNilB, okNilI, okNilP⟩ Tryz.func278 rfl mixed [] (by kernel_rfl) 10000 (by rfl) ?_
    (conv => whnf)
    (repeat' (first | (refine And.intro (fun hb => ?_) (fun hb => ?_) <;> (first | contradiction | (conv => whnf))) | (refine And.intro ?_ ?_; rotate_left 1; (conv => whnf))))
    all_goals (first | rfl | trivial | ((try dsimp only at *); (try simp only [Bool.not_eq_true', Bool.not_eq_false', bne, ite_uv] at *); (simp only [eqv, eqv1, eqv2, eqvL1, eqvL2, *, S.over, bne, Bool.and_true, Bool.true_and, Bool.and_false, Bool.false_and, Bool.or_true, Bool.true_or, Bool.or_false, Bool.false_or, Bool.not_true, Bool.not_false, if_true, if_false, Bool.false_eq_true, beq_self_eq_true]; done)) | ((try dsimp only at *); (try simp only [Bool.not_eq_true', Bool.not_eq_false', bne] at *); simp only [eqv, eqv1, eqv2, eqvL1, eqvL2, *, S.over, bne, Bool.and_true, Bool.true_and, Bool.and_false, Bool.false_and, Bool.or_true, Bool.true_or, Bool.or_false, Bool.false_or, Bool.not_true, Bool.not_false, if_true, if_false, Bool.false_eq_true, beq_self_eq_true]; rfl) | (simp_all [eqv, eqv1, eqv2, eqvL1, eqvL2, S.over]; done))
  · trivial
def k_sunder : List SV → List Blk → Res := fun args _ => match args with
  | [.int .i64 a, .int .i64 b] => .ok (.bool (S.under a b)) []
  | _ => .fail
theorem k_sunder_ok : CtrOk Tryz.prog Gw 279 k_sunder := by
  refine ⟨fun _ _ => by kernel_rfl, fun args M => ?_⟩
  unfold k_sunder
  split
  · rename_i a b
    refine ctr_flat (Γ := ⟨[], eqs, [], [], []⟩) (sv := .bool (S.under a b)) st_Gw ⟨okNil, eqs_ok, okNilB, okNilI, okNilP⟩ Tryz.func279 rfl mixed [] (by kernel_rfl) 10000 (by rfl) ?_
    (conv => whnf)
    (repeat' (first | (refine And.intro (fun hb => ?_) (fun hb => ?_) <;> (first | contradiction | (conv => whnf))) | (refine And.intro ?_ ?_; rotate_left 1; (conv => whnf))))
    all_goals (first | rfl | trivial | ((try dsimp only at *); (try simp only [Bool.not_eq_true', Bool.not_eq_false', bne, ite_uv] at *); (simp only [eqv, eqv1, eqv2, eqvL1, eqvL2, *, S.under, bne, Bool.and_true, Bool.true_and, Bool.and_false, Bool.false_and, Bool.or_true, Bool.true_or, Bool.or_false, Bool.false_or, Bool.not_true, Bool.not_false, if_true, if_false, Bool.false_eq_true, beq_self_eq_true]; done)) | ((try dsimp only at *); (try simp only [Bool.not_eq_true', Bool.not_eq_false', bne] at *); simp only [eqv, eqv1, eqv2, eqvL1, eqvL2, *, S.under, bne, Bool.and_true, Bool.true_and, Bool.and_false, Bool.false_and, Bool.or_true, Bool.true_or, Bool.or_false, Bool.false_or, Bool.not_true, Bool.not_false, if_true, if_false, Bool.false_eq_true, beq_self_eq_true]; rfl) | (simp_all [eqv, eqv1, eqv2, eqvL1, eqvL2, S.under]; done))
  · trivial
def k_ssums : List SV → List Blk → Res := fun args _ => match args with
  | [.agg [.int .i64 asl, .int .i64 ash], .agg [.int .i64 bsl, .int .i64 bsh]] => .ok (sgv (S.sums (⟨asl, ash⟩ : Sg) (⟨bsl, bsh⟩ : Sg))) []
  | _ => .fail
theorem k_ssums_ok : CtrOk Tryz.prog Gw 262 k_ssums := by
  refine ⟨fun _ _ => by kernel_rfl, fun args M => ?_⟩
  unfold k_ssums
  split
  · rename_i asl ash bsl bsh
    refine ctr_flat (Γ := ⟨[(278, k_sover), (78, k_sall)], eqs, [], [], []⟩) (sv := sgv (S.sums (⟨asl, ash⟩ : Sg) (⟨bsl, bsh⟩ : Sg))) st_Gw ⟨(okCons k_sover_ok (okCons k_sall_ok okNil)), eqs_ok, okNilB, okNilI, okNilP⟩ Tryz.func262 rfl mixed [] (by kernel_rfl) 10000 (by rfl) ?_
    (conv => whnf)
    (repeat' (first | (refine And.intro (fun hb => ?_) (fun hb => ?_) <;> (first | contradiction | (conv => whnf))) | (refine And.intro ?_ ?_; rotate_left 1; (conv => whnf))))
    all_goals (first | rfl | trivial | ((try dsimp only at *); (try simp only [Bool.not_eq_true', Bool.not_eq_false', bne, ite_uv] at *); (simp only [eqv, eqv1, eqv2, eqvL1, eqvL2, *, S.sums, S.full, bne, Bool.and_true, Bool.true_and, Bool.and_false, Bool.false_and, Bool.or_true, Bool.true_or, Bool.or_false, Bool.false_or, Bool.not_true, Bool.not_false, if_true, if_false, Bool.false_eq_true, beq_self_eq_true]; done)) | ((try dsimp only at *); (try simp only [Bool.not_eq_true', Bool.not_eq_false', bne] at *); simp only [eqv, eqv1, eqv2, eqvL1, eqvL2, *, S.sums, S.full, bne, Bool.and_true, Bool.true_and, Bool.and_false, Bool.false_and, Bool.or_true, Bool.true_or, Bool.or_false, Bool.false_or, Bool.not_true, Bool.not_false, if_true, if_false, Bool.false_eq_true, beq_self_eq_true]; rfl) | (simp_all [eqv, eqv1, eqv2, eqvL1, eqvL2, S.sums, S.full]; done))
  · trivial
def k_sless : List SV → List Blk → Res := fun args _ => match args with
  | [.agg [.u64 alo, .u64 ahi, .int .i64 asl, .int .i64 ash], .agg [.u64 blo, .u64 bhi, .int .i64 bsl, .int .i64 bsh]] => .ok (spv (S.less (⟨alo, ahi, asl, ash⟩ : Sp) (⟨blo, bhi, bsl, bsh⟩ : Sp))) []
  | _ => .fail
theorem k_sless_ok : CtrOk Tryz.prog Gw 263 k_sless := by
  refine ⟨fun _ _ => by kernel_rfl, fun args M => ?_⟩
  unfold k_sless
  split
  · rename_i alo ahi asl ash blo bhi bsl bsh
    refine ctr_flat (Γ := ⟨[(279, k_sunder), (78, k_sall)], eqs, [], [], []⟩) (sv := spv (S.less (⟨alo, ahi, asl, ash⟩ : Sp) (⟨blo, bhi, bsl, bsh⟩ : Sp))) st_Gw ⟨(okCons k_sunder_ok (okCons k_sall_ok okNil)), eqs_ok, okNilB, okNilI, okNilP⟩ Tryz.func263 rfl mixed [] (by kernel_rfl) 10000 (by rfl) ?_
    (conv => whnf)
    (repeat' (first | (refine And.intro (fun hb => ?_) (fun hb => ?_) <;> (first | contradiction | (conv => whnf))) | (refine And.intro ?_ ?_; rotate_left 1; (conv => whnf))))
    all_goals (first | rfl | trivial | ((try dsimp only at *); (try simp only [Bool.not_eq_true', Bool.not_eq_false', bne, ite_uv] at *); (simp only [eqv, eqv1, eqv2, eqvL1, eqvL2, *, S.less, S.full, bne, Bool.and_true, Bool.true_and, Bool.and_false, Bool.false_and, Bool.or_true, Bool.true_or, Bool.or_false, Bool.false_or, Bool.not_true, Bool.not_false, if_true, if_false, Bool.false_eq_true, beq_self_eq_true]; done)) | ((try dsimp only at *); (try simp only [Bool.not_eq_true', Bool.not_eq_false', bne] at *); simp only [eqv, eqv1, eqv2, eqvL1, eqvL2, *, S.less, S.full, bne, Bool.and_true, Bool.true_and, Bool.and_false, Bool.false_and, Bool.or_true, Bool.true_or, Bool.or_false, Bool.false_or, Bool.not_true, Bool.not_false, if_true, if_false, Bool.false_eq_true, beq_self_eq_true]; rfl) | (simp_all [eqv, eqv1, eqv2, eqvL1, eqvL2, S.less, S.full]; done))
  · trivial
def k_stimes : List SV → List Blk → Res := fun args _ => match args with
  | [.agg [.u64 alo, .u64 ahi, .int .i64 asl, .int .i64 ash], .agg [.u64 blo, .u64 bhi, .int .i64 bsl, .int .i64 bsh]] => .ok (spv (S.times (⟨alo, ahi, asl, ash⟩ : Sp) (⟨blo, bhi, bsl, bsh⟩ : Sp))) []
  | _ => .fail
theorem k_stimes_ok : CtrOk Tryz.prog Gw 264 k_stimes := by
  refine ⟨fun _ _ => by kernel_rfl, fun args M => ?_⟩
  unfold k_stimes
  split
  · rename_i alo ahi asl ash blo bhi bsl bsh
    refine ctr_flat (Γ := ⟨[(280, k_mul64), (78, k_sall)], eqs, [], [], []⟩) (sv := spv (S.times (⟨alo, ahi, asl, ash⟩ : Sp) (⟨blo, bhi, bsl, bsh⟩ : Sp))) st_Gw ⟨(okCons k_mul64_ok (okCons k_sall_ok okNil)), eqs_ok, okNilB, okNilI, okNilP⟩ Tryz.func264 rfl mixed [] (by kernel_rfl) 10000 (by rfl) ?_
    (conv => whnf)
    (repeat' (first | (refine And.intro (fun hb => ?_) (fun hb => ?_) <;> (first | contradiction | (conv => whnf))) | (refine And.intro ?_ ?_; rotate_left 1; (conv => whnf))))
    all_goals (first | rfl | trivial | ((try dsimp only at *); (try simp only [Bool.not_eq_true', Bool.not_eq_false', bne, ite_uv] at *); (simp only [eqv, eqv1, eqv2, eqvL1, eqvL2, *, S.times, S.full, bne, Bool.and_true, Bool.true_and, Bool.and_false, Bool.false_and, Bool.or_true, Bool.true_or, Bool.or_false, Bool.false_or, Bool.not_true, Bool.not_false, if_true, if_false, Bool.false_eq_true, beq_self_eq_true]; done)) | ((try dsimp only at *); (try simp only [Bool.not_eq_true', Bool.not_eq_false', bne] at *); simp only [eqv, eqv1, eqv2, eqvL1, eqvL2, *, S.times, S.full, bne, Bool.and_true, Bool.true_and, Bool.and_false, Bool.false_and, Bool.or_true, Bool.true_or, Bool.or_false, Bool.false_or, Bool.not_true, Bool.not_false, if_true, if_false, Bool.false_eq_true, beq_self_eq_true]; rfl) | (simp_all [eqv, eqv1, eqv2, eqvL1, eqvL2, S.times, S.full]; done))
  · trivial
def k_squotient : List SV → List Blk → Res := fun args _ => match args with
  | [.agg [.u64 alo, .u64 ahi, .int .i64 asl, .int .i64 ash], .agg [.u64 blo, .u64 bhi, .int .i64 bsl, .int .i64 bsh]] => .ok (spv (S.quotient (⟨alo, ahi, asl, ash⟩ : Sp) (⟨blo, bhi, bsl, bsh⟩ : Sp))) []
  | _ => .fail
theorem k_squotient_ok : CtrOk Tryz.prog Gw 265 k_squotient := by
  refine ⟨fun _ _ => by kernel_rfl, fun args M => ?_⟩
  unfold k_squotient
  split
  · rename_i alo ahi asl ash blo bhi bsl bsh
    refine ctr_flat (Γ := ⟨[(78, k_sall)], eqs, [], [], []⟩) (sv := spv (S.quotient (⟨alo, ahi, asl, ash⟩ : Sp) (⟨blo, bhi, bsl, bsh⟩ : Sp))) st_Gw ⟨(okCons k_sall_ok okNil), eqs_ok, okNilB, okNilI, okNilP⟩ Tryz.func265 rfl mixed [(2, 14, [0, 1, 3, 0, 8, 24, 63, 0, 128, 384, 0, 1024, 3072, 8064, 16383, 32767, 65535])] (by kernel_rfl) 10000 (by rfl) ?_
    (conv => whnf)
    (repeat' (first | (refine And.intro (fun hb => ?_) (fun hb => ?_) <;> (first | contradiction | (conv => whnf))) | (refine And.intro ?_ ?_; rotate_left 1; (conv => whnf))))
    all_goals (first | rfl | trivial | ((try dsimp only at *); (try simp only [Bool.not_eq_true', Bool.not_eq_false', bne, ite_uv] at *); (simp only [eqv, eqv1, eqv2, eqvL1, eqvL2, *, S.quotient, S.full, bne, Bool.and_true, Bool.true_and, Bool.and_false, Bool.false_and, Bool.or_true, Bool.true_or, Bool.or_false, Bool.false_or, Bool.not_true, Bool.not_false, if_true, if_false, Bool.false_eq_true, beq_self_eq_true]; done)) | ((try dsimp only at *); (try simp only [Bool.not_eq_true', Bool.not_eq_false', bne] at *); simp only [eqv, eqv1, eqv2, eqvL1, eqvL2, *, S.quotient, S.full, bne, Bool.and_true, Bool.true_and, Bool.and_false, Bool.false_and, Bool.or_true, Bool.true_or, Bool.or_false, Bool.false_or, Bool.not_true, Bool.not_false, if_true, if_false, Bool.false_eq_true, beq_self_eq_true]; rfl) | (simp_all [eqv, eqv1, eqv2, eqvL1, eqvL2, S.quotient, S.full]; done))
  · trivial
def k_srest : List SV → List Blk → Res := fun args _ => match args with
  | [.agg [.u64 alo, .u64 ahi, .int .i64 asl, .int .i64 ash], .agg [.u64 blo, .u64 bhi, .int .i64 bsl, .int .i64 bsh]] => .ok (spv (S.rest (⟨alo, ahi, asl, ash⟩ : Sp) (⟨blo, bhi, bsl, bsh⟩ : Sp))) []
  | _ => .fail
theorem k_srest_ok : CtrOk Tryz.prog Gw 266 k_srest := by
  refine ⟨fun _ _ => by kernel_rfl, fun args M => ?_⟩
  unfold k_srest
  split
  · rename_i alo ahi asl ash blo bhi bsl bsh
    refine ctr_flat (Γ := ⟨[(78, k_sall)], eqs, [], [], []⟩) (sv := spv (S.rest (⟨alo, ahi, asl, ash⟩ : Sp) (⟨blo, bhi, bsl, bsh⟩ : Sp))) st_Gw ⟨(okCons k_sall_ok okNil), eqs_ok, okNilB, okNilI, okNilP⟩ Tryz.func266 rfl mixed [] (by kernel_rfl) 10000 (by rfl) ?_
    (conv => whnf)
    (repeat' (first | (refine And.intro (fun hb => ?_) (fun hb => ?_) <;> (first | contradiction | (conv => whnf))) | (refine And.intro ?_ ?_; rotate_left 1; (conv => whnf))))
    all_goals (first | rfl | trivial | ((try dsimp only at *); (try simp only [Bool.not_eq_true', Bool.not_eq_false', bne, ite_uv] at *); (simp only [eqv, eqv1, eqv2, eqvL1, eqvL2, *, S.rest, S.full, bne, Bool.and_true, Bool.true_and, Bool.and_false, Bool.false_and, Bool.or_true, Bool.true_or, Bool.or_false, Bool.false_or, Bool.not_true, Bool.not_false, if_true, if_false, Bool.false_eq_true, beq_self_eq_true]; done)) | ((try dsimp only at *); (try simp only [Bool.not_eq_true', Bool.not_eq_false', bne] at *); simp only [eqv, eqv1, eqv2, eqvL1, eqvL2, *, S.rest, S.full, bne, Bool.and_true, Bool.true_and, Bool.and_false, Bool.false_and, Bool.or_true, Bool.true_or, Bool.or_false, Bool.false_or, Bool.not_true, Bool.not_false, if_true, if_false, Bool.false_eq_true, beq_self_eq_true]; rfl) | (simp_all [eqv, eqv1, eqv2, eqvL1, eqvL2, S.rest, S.full]; done))
  · trivial
def k_sones : List SV → List Blk → Res := fun args _ => match args with
  | [.u64 n] => .ok (.u64 (S.ones n)) []
  | _ => .fail
theorem k_sones_ok : CtrOk Tryz.prog Gw 281 k_sones := by
  refine ⟨fun _ _ => by kernel_rfl, fun args M => ?_⟩
  unfold k_sones
  split
  · rename_i n
    refine ctr_flat (Γ := ⟨[(213, k_len64)], eqs, [], [], []⟩) (sv := .u64 (S.ones n)) st_Gw ⟨(okCons k_len64_ok okNil), eqs_ok, okNilB, okNilI, okNilP⟩ Tryz.func281 rfl mixed [] (by kernel_rfl) 10000 (by rfl) ?_
    (conv => whnf)
    (repeat' (first | (refine And.intro (fun hb => ?_) (fun hb => ?_) <;> (first | contradiction | (conv => whnf))) | (refine And.intro ?_ ?_; rotate_left 1; (conv => whnf))))
    all_goals (first | rfl | trivial | ((try dsimp only at *); (try simp only [Bool.not_eq_true', Bool.not_eq_false', bne, ite_uv] at *); (simp only [eqv, eqv1, eqv2, eqvL1, eqvL2, *, S.ones, bne, Bool.and_true, Bool.true_and, Bool.and_false, Bool.false_and, Bool.or_true, Bool.true_or, Bool.or_false, Bool.false_or, Bool.not_true, Bool.not_false, if_true, if_false, Bool.false_eq_true, beq_self_eq_true]; done)) | ((try dsimp only at *); (try simp only [Bool.not_eq_true', Bool.not_eq_false', bne] at *); simp only [eqv, eqv1, eqv2, eqvL1, eqvL2, *, S.ones, bne, Bool.and_true, Bool.true_and, Bool.and_false, Bool.false_and, Bool.or_true, Bool.true_or, Bool.or_false, Bool.false_or, Bool.not_true, Bool.not_false, if_true, if_false, Bool.false_eq_true, beq_self_eq_true]; rfl) | (simp_all [eqv, eqv1, eqv2, eqvL1, eqvL2, S.ones]; done))
  · trivial
def k_sor : List SV → List Blk → Res := fun args _ => match args with
  | [.agg [.u64 alo, .u64 ahi, .int .i64 asl, .int .i64 ash], .agg [.u64 blo, .u64 bhi, .int .i64 bsl, .int .i64 bsh], .agg [.u64 clo, .u64 chi, .int .i64 csl, .int .i64 csh]] => .ok (spv (S.or (⟨alo, ahi, asl, ash⟩ : Sp) (⟨blo, bhi, bsl, bsh⟩ : Sp) (⟨clo, chi, csl, csh⟩ : Sp))) []
  | _ => .fail
theorem k_sor_ok : CtrOk Tryz.prog Gw 269 k_sor := by
  refine ⟨fun _ _ => by kernel_rfl, fun args M => ?_⟩
  unfold k_sor
  split
  · rename_i alo ahi asl ash blo bhi bsl bsh clo chi csl csh
    refine ctr_flat (Γ := ⟨[(281, k_sones), (78, k_sall)], eqs, [], [], []⟩) (sv := spv (S.or (⟨alo, ahi, asl, ash⟩ : Sp) (⟨blo, bhi, bsl, bsh⟩ : Sp) (⟨clo, chi, csl, csh⟩ : Sp))) st_Gw ⟨(okCons k_sones_ok (okCons k_sall_ok okNil)), eqs_ok, okNilB, okNilI, okNilP⟩ Tryz.func269 rfl mixed [(2, 11, [0, 1, 3, 0, 8, 24, 0, 64, 192, 504, 1016, 2047, 4095, 8191]), (4, 13, [0, 1, 3, 0, 8, 24, 0, 64, 192, 504, 1016, 2040, 4088, 8191, 16383, 32767])] (by kernel_rfl) 10000 (by rfl) ?_
    (conv => whnf)
    (repeat' (first | (refine And.intro (fun hb => ?_) (fun hb => ?_) <;> (first | contradiction | (conv => whnf))) | (refine And.intro ?_ ?_; rotate_left 1; (conv => whnf))))
    all_goals (first | rfl | trivial | ((try dsimp only at *); (try simp only [Bool.not_eq_true', Bool.not_eq_false', bne, ite_uv] at *); (simp only [eqv, eqv1, eqv2, eqvL1, eqvL2, *, S.or, S.full, bne, Bool.and_true, Bool.true_and, Bool.and_false, Bool.false_and, Bool.or_true, Bool.true_or, Bool.or_false, Bool.false_or, Bool.not_true, Bool.not_false, if_true, if_false, Bool.false_eq_true, beq_self_eq_true]; done)) | ((try dsimp only at *); (try simp only [Bool.not_eq_true', Bool.not_eq_false', bne] at *); simp only [eqv, eqv1, eqv2, eqvL1, eqvL2, *, S.or, S.full, bne, Bool.and_true, Bool.true_and, Bool.and_false, Bool.false_and, Bool.or_true, Bool.true_or, Bool.or_false, Bool.false_or, Bool.not_true, Bool.not_false, if_true, if_false, Bool.false_eq_true, beq_self_eq_true]; rfl) | (simp_all [eqv, eqv1, eqv2, eqvL1, eqvL2, S.or, S.full]; done))
  · trivial
end Go.Proofs.YtddcaklgflfkeaaGreatDoor
namespace Go.Proofs.YtddcaklgflfkeaaGreatDoor
open Go.RowKit Go.Sx
set_option linter.unusedSimpArgs false
set_option linter.unusedVariables false
set_option linter.unnecessarySimpa false
set_option maxRecDepth 100000
set_option maxHeartbeats 4000000
def k_sand : List SV → List Blk → Res := fun args _ => match args with
  | [.agg [.u64 alo, .u64 ahi, .int .i64 asl, .int .i64 ash], .agg [.u64 blo, .u64 bhi, .int .i64 bsl, .int .i64 bsh]] => .ok (spv (S.and (⟨alo, ahi, asl, ash⟩ : Sp) (⟨blo, bhi, bsl, bsh⟩ : Sp))) []
  | _ => .fail
theorem k_sand_ok : CtrOk Tryz.prog Gw 267 k_sand := by
  refine ⟨fun _ _ => by kernel_rfl, fun args M => ?_⟩
  unfold k_sand
  split
  · rename_i alo ahi asl ash blo bhi bsl bsh
    refine ctr_flat (Γ := ⟨[(78, k_sall)], eqs, [], [], []⟩) (sv := spv (S.and (⟨alo, ahi, asl, ash⟩ : Sp) (⟨blo, bhi, bsl, bsh⟩ : Sp))) st_Gw ⟨(okCons k_sall_ok okNil), eqs_ok, okNilB, okNilI, okNilP⟩ Tryz.func267 rfl mixed [] (by kernel_rfl) 10000 (by rfl) ?_
    (conv => whnf)
    (repeat' (first | (refine .inl ⟨20, ?_⟩; (conv => whnf)) | (refine And.intro (fun hb => ?_) (fun hb => ?_) <;> (first | contradiction | (conv => whnf))) | (refine And.intro ?_ ?_; rotate_left 1; (conv => whnf))))
    all_goals (first | rfl | trivial | ((try dsimp only at *); (try simp only [Bool.not_eq_true', Bool.not_eq_false', bne, ite_uv] at *); (simp only [eqv, eqv1, eqv2, eqvL1, eqvL2, *, S.and, S.full, bne, Bool.and_true, Bool.true_and, Bool.and_false, Bool.false_and, Bool.or_true, Bool.true_or, Bool.or_false, Bool.false_or, Bool.not_true, Bool.not_false, if_true, if_false, Bool.false_eq_true, beq_self_eq_true]; done)) | ((try dsimp only at *); (try simp only [Bool.not_eq_true', Bool.not_eq_false', bne] at *); simp only [eqv, eqv1, eqv2, eqvL1, eqvL2, *, S.and, S.full, bne, Bool.and_true, Bool.true_and, Bool.and_false, Bool.false_and, Bool.or_true, Bool.true_or, Bool.or_false, Bool.false_or, Bool.not_true, Bool.not_false, if_true, if_false, Bool.false_eq_true, beq_self_eq_true]; rfl) | (simp_all [eqv, eqv1, eqv2, eqvL1, eqvL2, S.and, S.full]; done))
  · trivial
def k_sDo : List SV → List Blk → Res := fun args _ => match args with
  | [.int .u8 op, .agg [.u64 alo, .u64 ahi, .int .i64 asl, .int .i64 ash], .agg [.u64 blo, .u64 bhi, .int .i64 bsl, .int .i64 bsh]] => .ok (.tup [spv (S.does op (⟨alo, ahi, asl, ash⟩ : Sp) (⟨blo, bhi, bsl, bsh⟩ : Sp)).1, .bool (S.does op (⟨alo, ahi, asl, ash⟩ : Sp) (⟨blo, bhi, bsl, bsh⟩ : Sp)).2]) []
  | _ => .fail
theorem k_sDo_ok : CtrOk Tryz.prog Gw 207 k_sDo := by
  refine ⟨fun _ _ => by kernel_rfl, fun args M => ?_⟩
  unfold k_sDo
  split
  · rename_i op alo ahi asl ash blo bhi bsl bsh
    refine ctr_flat (Γ := ⟨[(75, k_sof), (76, k_sgood), (55, k_sspan), (261, k_ssum), (262, k_ssums), (263, k_sless), (264, k_stimes), (265, k_squotient), (266, k_srest), (267, k_sand), (269, k_sor)], eqs, [], [(244, Tryz.f244, []), (260, Tryz.f260, [(1, 9, [0, 1, 0, 4, 15, 0, 32, 0, 128, 511, 1023, 2047])]), (268, Tryz.f268, []), (270, Tryz.f270, [])], []⟩) (sv := .tup [spv (S.does op (⟨alo, ahi, asl, ash⟩ : Sp) (⟨blo, bhi, bsl, bsh⟩ : Sp)).1, .bool (S.does op (⟨alo, ahi, asl, ash⟩ : Sp) (⟨blo, bhi, bsl, bsh⟩ : Sp)).2]) st_Gw ⟨(okCons k_sof_ok (okCons k_sgood_ok (okCons k_sspan_ok (okCons k_ssum_ok (okCons k_ssums_ok (okCons k_sless_ok (okCons k_stimes_ok (okCons k_squotient_ok (okCons k_srest_ok (okCons k_sand_ok (okCons k_sor_ok okNil))))))))))), eqs_ok, okNilB, (okConsI Tryz.func244 rfl (by kernel_rfl) (fun _ _ => by kernel_rfl) (okConsI Tryz.func260 rfl (by kernel_rfl) (fun _ _ => by kernel_rfl) (okConsI Tryz.func268 rfl (by kernel_rfl) (fun _ _ => by kernel_rfl) (okConsI Tryz.func270 rfl (by kernel_rfl) (fun _ _ => by kernel_rfl) okNilI)))), okNilP⟩ Tryz.func207 rfl mixed [(1, 6, [0, 1, 0, 7, 0, 0, 63, 127])] (by kernel_rfl) 10000 (by rfl) ?_
    (conv => whnf)
    (repeat' (first | (refine And.intro (fun hb => ?_) (fun hb => ?_) <;> (first | contradiction | (conv => whnf))) | (refine And.intro ?_ ?_; rotate_left 1; (conv => whnf))))
    all_goals (first | rfl | trivial | ((try dsimp only at *); (try simp only [Bool.not_eq_true', Bool.not_eq_false', bne, ite_uv] at *); (simp only [eqv, eqv1, eqv2, eqvL1, eqvL2, *, S.does, S.way, bne, Bool.and_true, Bool.true_and, Bool.and_false, Bool.false_and, Bool.or_true, Bool.true_or, Bool.or_false, Bool.false_or, Bool.not_true, Bool.not_false, if_true, if_false, Bool.false_eq_true, beq_self_eq_true]; done)) | ((try dsimp only at *); (try simp only [Bool.not_eq_true', Bool.not_eq_false', bne] at *); simp only [eqv, eqv1, eqv2, eqvL1, eqvL2, *, S.does, S.way, bne, Bool.and_true, Bool.true_and, Bool.and_false, Bool.false_and, Bool.or_true, Bool.true_or, Bool.or_false, Bool.false_or, Bool.not_true, Bool.not_false, if_true, if_false, Bool.false_eq_true, beq_self_eq_true]; rfl) | (simp_all [eqv, eqv1, eqv2, eqvL1, eqvL2, S.does, S.way]; done))
  · trivial
end Go.Proofs.YtddcaklgflfkeaaGreatDoor
namespace Go.Proofs.YtddcaklgflfkeaaGreatDoor
open Go.RowKit Go.Sx
set_option linter.unusedSimpArgs false
set_option linter.unusedVariables false
set_option linter.unnecessarySimpa false
set_option maxRecDepth 100000
set_option maxHeartbeats 4000000
def k_sfitU : List SV → List Blk → Res := fun args _ => match args with
  | [.u64 n, .int .i64 k] => .test (decide (0 ≤ k)) (.ok (.bool (S.fitU n k.toNat)) [])
  | _ => .fail
theorem k_sfitU_ok : CtrOk Tryz.prog Gw 274 k_sfitU := by
  refine ⟨fun _ _ => by kernel_rfl, fun args M => ?_⟩
  unfold k_sfitU
  split
  · rename_i n k
    intro ht
    refine ctr_flat (Γ := ⟨[], eqs, [], [], []⟩) (sv := .bool (S.fitU n k.toNat)) st_Gw ⟨okNil, eqs_ok, okNilB, okNilI, okNilP⟩ Tryz.func274 rfl mixed [] (by kernel_rfl) 10000 (by rfl) ?_
    (conv => whnf)
    (repeat' (first | (refine And.intro (fun hb => ?_) (fun hb => ?_) <;> (first | contradiction | (conv => whnf))) | (refine And.intro ?_ ?_; rotate_left 1; (conv => whnf))))
    all_goals (first | exact ht | first | rfl | trivial | ((try dsimp only at *); (try simp only [Bool.not_eq_true', Bool.not_eq_false', bne, ite_uv] at *); (simp only [eqv, eqv1, eqv2, eqvL1, eqvL2, *, S.fitU, bne, Bool.and_true, Bool.true_and, Bool.and_false, Bool.false_and, Bool.or_true, Bool.true_or, Bool.or_false, Bool.false_or, Bool.not_true, Bool.not_false, if_true, if_false, Bool.false_eq_true, beq_self_eq_true]; done)) | ((try dsimp only at *); (try simp only [Bool.not_eq_true', Bool.not_eq_false', bne] at *); simp only [eqv, eqv1, eqv2, eqvL1, eqvL2, *, S.fitU, bne, Bool.and_true, Bool.true_and, Bool.and_false, Bool.false_and, Bool.or_true, Bool.true_or, Bool.or_false, Bool.false_or, Bool.not_true, Bool.not_false, if_true, if_false, Bool.false_eq_true, beq_self_eq_true]; rfl) | (simp_all [eqv, eqv1, eqv2, eqvL1, eqvL2, S.fitU]; done))
  · trivial
def k_sfitI : List SV → List Blk → Res := fun args _ => match args with
  | [.int .i64 n, .int .i64 k] => .test (decide (0 ≤ k)) (.ok (.bool (S.fitI n k.toNat)) [])
  | _ => .fail
theorem k_sfitI_ok : CtrOk Tryz.prog Gw 275 k_sfitI := by
  refine ⟨fun _ _ => by kernel_rfl, fun args M => ?_⟩
  unfold k_sfitI
  split
  · rename_i n k
    intro ht
    refine ctr_flat (Γ := ⟨[], eqs, [], [], []⟩) (sv := .bool (S.fitI n k.toNat)) st_Gw ⟨okNil, eqs_ok, okNilB, okNilI, okNilP⟩ Tryz.func275 rfl mixed [] (by kernel_rfl) 10000 (by rfl) ?_
    (conv => whnf)
    (repeat' (first | (refine And.intro (fun hb => ?_) (fun hb => ?_) <;> (first | contradiction | (conv => whnf))) | (refine And.intro ?_ ?_; rotate_left 1; (conv => whnf))))
    all_goals (first | exact ht | first | rfl | trivial | ((try dsimp only at *); (try simp only [Bool.not_eq_true', Bool.not_eq_false', bne, ite_uv] at *); (simp only [eqv, eqv1, eqv2, eqvL1, eqvL2, *, S.fitI, bne, Bool.and_true, Bool.true_and, Bool.and_false, Bool.false_and, Bool.or_true, Bool.true_or, Bool.or_false, Bool.false_or, Bool.not_true, Bool.not_false, if_true, if_false, Bool.false_eq_true, beq_self_eq_true]; done)) | ((try dsimp only at *); (try simp only [Bool.not_eq_true', Bool.not_eq_false', bne] at *); simp only [eqv, eqv1, eqv2, eqvL1, eqvL2, *, S.fitI, bne, Bool.and_true, Bool.true_and, Bool.and_false, Bool.false_and, Bool.or_true, Bool.true_or, Bool.or_false, Bool.false_or, Bool.not_true, Bool.not_false, if_true, if_false, Bool.false_eq_true, beq_self_eq_true]; rfl) | (simp_all [eqv, eqv1, eqv2, eqvL1, eqvL2, S.fitI]; done))
  · trivial
def k_sShift : List SV → List Blk → Res := fun args _ => match args with
  | [.int .u8 op, .agg [.u64 alo, .u64 ahi, .int .i64 asl, .int .i64 ash], .int .i64 k] => .ok (.tup [spv (S.shift op (⟨alo, ahi, asl, ash⟩ : Sp) k).1, .bool (S.shift op (⟨alo, ahi, asl, ash⟩ : Sp) k).2]) []
  | _ => .fail
theorem k_sShift_ok : CtrOk Tryz.prog Gw 246 k_sShift := by
  refine ⟨fun _ _ => by kernel_rfl, fun args M => ?_⟩
  unfold k_sShift
  split
  · rename_i op alo ahi asl ash k
    refine ctr_flat (Γ := ⟨[(75, k_sof), (76, k_sgood), (55, k_sspan), (78, k_sall), (274, k_sfitU), (275, k_sfitI)], eqs, [], [], []⟩) (sv := .tup [spv (S.shift op (⟨alo, ahi, asl, ash⟩ : Sp) k).1, .bool (S.shift op (⟨alo, ahi, asl, ash⟩ : Sp) k).2]) st_Gw ⟨(okCons k_sof_ok (okCons k_sgood_ok (okCons k_sspan_ok (okCons k_sall_ok (okCons k_sfitU_ok (okCons k_sfitI_ok okNil)))))), eqs_ok, okNilB, okNilI, okNilP⟩ Tryz.func246 rfl mixed [(12, 15, [0, 1, 3, 0, 15, 0, 32, 96, 0, 480, 1023, 0, 2048, 6144, 14336, 32767, 65535]), (14, 10, [0, 1, 3, 0, 15, 0, 32, 96, 0, 480, 1023, 2047, 4095]), (6, 10, [0, 1, 3, 0, 15, 0, 32, 96, 0, 480, 1023, 2047, 4095]), (8, 10, [0, 1, 3, 0, 15, 0, 32, 96, 0, 480, 1023, 2047, 4095])] (by kernel_rfl) 10000 (by rfl) ?_
    (conv => whnf)
    (repeat' (first | (refine And.intro (fun hb => ?_) (fun hb => ?_) <;> (first | contradiction | (conv => whnf))) | (refine And.intro ?_ ?_; rotate_left 1; (conv => whnf))))
    all_goals (first | (simp only [decide_eq_false_iff_not, decide_eq_true_eq, Int.not_lt, beq_eq_false_iff_ne] at *; first | omega | (rw [IntWalk.i64_in _ (by omega)]; omega)) | first | rfl | trivial | ((try dsimp only at *); (try simp only [Bool.not_eq_true', Bool.not_eq_false', bne, ite_uv] at *); (simp only [eqv, eqv1, eqv2, eqvL1, eqvL2, *, S.shift, show IntKind.i64.bits = 64 from rfl, bne, Bool.and_true, Bool.true_and, Bool.and_false, Bool.false_and, Bool.or_true, Bool.true_or, Bool.or_false, Bool.false_or, Bool.not_true, Bool.not_false, if_true, if_false, Bool.false_eq_true, beq_self_eq_true]; done)) | ((try dsimp only at *); (try simp only [Bool.not_eq_true', Bool.not_eq_false', bne] at *); simp only [eqv, eqv1, eqv2, eqvL1, eqvL2, *, S.shift, show IntKind.i64.bits = 64 from rfl, bne, Bool.and_true, Bool.true_and, Bool.and_false, Bool.false_and, Bool.or_true, Bool.true_or, Bool.or_false, Bool.false_or, Bool.not_true, Bool.not_false, if_true, if_false, Bool.false_eq_true, beq_self_eq_true]; rfl) | (simp_all [eqv, eqv1, eqv2, eqvL1, eqvL2, S.shift, show IntKind.i64.bits = 64 from rfl]; done))
  · trivial
end Go.Proofs.YtddcaklgflfkeaaGreatDoor
