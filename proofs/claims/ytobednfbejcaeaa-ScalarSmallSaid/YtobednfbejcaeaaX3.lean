import Derived.Test.YtobednfbejcaeaaX2
namespace Go.Proofs.Ytobednfbejcaeaa
open Go.RowKit Go.Sx
set_option linter.unusedSimpArgs false
set_option linter.unusedVariables false
set_option linter.unnecessarySimpa false
set_option maxRecDepth 100000
set_option maxHeartbeats 4000000
def k_qOf : List SV → List Blk → Res := fun args _ => match args with
  | [.agg [.u64 av, .u64 am], .agg [.u64 alo, .u64 ahi, .int .i64 asl, .int .i64 ash]] => .test (R.inS ⟨alo, ahi, asl, ash⟩) (.ok (.tup [scv (C.of ⟨av, am⟩ ⟨alo, ahi, asl, ash⟩).1, .bool (C.of ⟨av, am⟩ ⟨alo, ahi, asl, ash⟩).2]) [])
  | _ => .fail
theorem k_qOf_ok : CtrOk Try.prog Gw 14 k_qOf := by
  refine ⟨fun _ _ => by kernel_rfl, fun args M => ?_⟩
  unfold k_qOf
  split
  · rename_i av am alo ahi asl ash
    intro ht
    refine ctr_flat (Γ := ⟨[(39, k_rTog)], eqs, [], [], []⟩) (sv := .tup [scv (C.of ⟨av, am⟩ ⟨alo, ahi, asl, ash⟩).1, .bool (C.of ⟨av, am⟩ ⟨alo, ahi, asl, ash⟩).2]) st_Gw ⟨(okCons k_rTog_ok okNil), eqs_ok, okNilB, okNilI, okNilP⟩ Try.func14 rfl mixed [] (by kernel_rfl) 10000 (by rfl) ?_
    (conv => whnf)
    (repeat' (first | (refine And.intro (fun hb => ?_) (fun hb => ?_) <;> (first | contradiction | (conv => whnf))) | (refine And.intro ?_ ?_; rotate_left 1; (conv => whnf))))
    all_goals (first | assumption | first | rfl | trivial | ((try dsimp only at *); (try simp only [Bool.not_eq_true', Bool.not_eq_false', bne, ite_uv] at *); (simp only [eqv, eqv1, eqv2, eqvL1, eqvL2, *, bne, Bool.and_true, Bool.true_and, Bool.and_false, Bool.false_and, Bool.or_true, Bool.true_or, Bool.or_false, Bool.false_or, Bool.not_true, Bool.not_false, if_true, if_false, Bool.false_eq_true, beq_self_eq_true]; done)) | ((try dsimp only at *); (try simp only [Bool.not_eq_true', Bool.not_eq_false', bne] at *); simp only [eqv, eqv1, eqv2, eqvL1, eqvL2, *, bne, Bool.and_true, Bool.true_and, Bool.and_false, Bool.false_and, Bool.or_true, Bool.true_or, Bool.or_false, Bool.false_or, Bool.not_true, Bool.not_false, if_true, if_false, Bool.false_eq_true, beq_self_eq_true]; rfl) | (simp_all [eqv, eqv1, eqv2, eqvL1, eqvL2]; done))
  · trivial
def k_qConst : List SV → List Blk → Res := fun args _ => match args with
  | [.u64 n] => .ok (scv (C.const n)) []
  | _ => .fail
theorem k_qConst_ok : CtrOk Try.prog Gw 26 k_qConst := by
  refine ⟨fun _ _ => by kernel_rfl, fun args M => ?_⟩
  unfold k_qConst
  split
  · rename_i n
    refine ctr_flat (Γ := ⟨[(57, k_rConst)], eqs, [], [], []⟩) (sv := scv (C.const n)) st_Gw ⟨(okCons k_rConst_ok okNil), eqs_ok, okNilB, okNilI, okNilP⟩ Try.func26 rfl mixed [] (by kernel_rfl) 10000 (by rfl) ?_
    (conv => whnf)
    (repeat' (first | (refine And.intro (fun hb => ?_) (fun hb => ?_) <;> (first | contradiction | (conv => whnf))) | (refine And.intro ?_ ?_; rotate_left 1; (conv => whnf))))
    all_goals (first | rfl | trivial | ((try dsimp only at *); (try simp only [Bool.not_eq_true', Bool.not_eq_false', bne, ite_uv] at *); (simp only [eqv, eqv1, eqv2, eqvL1, eqvL2, *, C.const, bne, Bool.and_true, Bool.true_and, Bool.and_false, Bool.false_and, Bool.or_true, Bool.true_or, Bool.or_false, Bool.false_or, Bool.not_true, Bool.not_false, if_true, if_false, Bool.false_eq_true, beq_self_eq_true]; done)) | ((try dsimp only at *); (try simp only [Bool.not_eq_true', Bool.not_eq_false', bne] at *); simp only [eqv, eqv1, eqv2, eqvL1, eqvL2, *, C.const, bne, Bool.and_true, Bool.true_and, Bool.and_false, Bool.false_and, Bool.or_true, Bool.true_or, Bool.or_false, Bool.false_or, Bool.not_true, Bool.not_false, if_true, if_false, Bool.false_eq_true, beq_self_eq_true]; rfl) | (simp_all [eqv, eqv1, eqv2, eqvL1, eqvL2, C.const]; done))
  · trivial
def k_qUnknown : List SV → List Blk → Res := fun args _ => match args with
  | [] => .ok (scv C.unknown) []
  | _ => .fail
theorem k_qUnknown_ok : CtrOk Try.prog Gw 28 k_qUnknown := by
  refine ⟨fun _ _ => by kernel_rfl, fun args M => ?_⟩
  unfold k_qUnknown
  split
  · refine ctr_flat (Γ := ⟨[(50, k_rUnknown)], eqs, [], [], []⟩) (sv := scv C.unknown) st_Gw ⟨(okCons k_rUnknown_ok okNil), eqs_ok, okNilB, okNilI, okNilP⟩ Try.func28 rfl mixed [] (by kernel_rfl) 10000 (by rfl) ?_
    (conv => whnf)
    (repeat' (first | (refine And.intro (fun hb => ?_) (fun hb => ?_) <;> (first | contradiction | (conv => whnf))) | (refine And.intro ?_ ?_; rotate_left 1; (conv => whnf))))
    all_goals (first | rfl | trivial | ((try dsimp only at *); (try simp only [Bool.not_eq_true', Bool.not_eq_false', bne, ite_uv] at *); (simp only [eqv, eqv1, eqv2, eqvL1, eqvL2, *, C.unknown, bne, Bool.and_true, Bool.true_and, Bool.and_false, Bool.false_and, Bool.or_true, Bool.true_or, Bool.or_false, Bool.false_or, Bool.not_true, Bool.not_false, if_true, if_false, Bool.false_eq_true, beq_self_eq_true]; done)) | ((try dsimp only at *); (try simp only [Bool.not_eq_true', Bool.not_eq_false', bne] at *); simp only [eqv, eqv1, eqv2, eqvL1, eqvL2, *, C.unknown, bne, Bool.and_true, Bool.true_and, Bool.and_false, Bool.false_and, Bool.or_true, Bool.true_or, Bool.or_false, Bool.false_or, Bool.not_true, Bool.not_false, if_true, if_false, Bool.false_eq_true, beq_self_eq_true]; rfl) | (simp_all [eqv, eqv1, eqv2, eqvL1, eqvL2, C.unknown]; done))
  · trivial
def k_qRight : List SV → List Blk → Res := fun args _ => match args with
  | [.agg [.u64 av, .u64 am, .u64 alo, .u64 ahi, .int .i64 asl, .int .i64 ash]] => .test (R.inS ⟨alo, ahi, asl, ash⟩) (.ok (.bool (C.right (⟨⟨av, am⟩, ⟨alo, ahi, asl, ash⟩⟩ : Sc))) [])
  | _ => .fail
theorem k_qRight_ok : CtrOk Try.prog Gw 21 k_qRight := by
  refine ⟨fun _ _ => by kernel_rfl, fun args M => ?_⟩
  unfold k_qRight
  split
  · rename_i av am alo ahi asl ash
    intro ht
    refine ctr_flat (Γ := ⟨[(39, k_rTog)], eqs, [], [], []⟩) (sv := .bool (C.right (⟨⟨av, am⟩, ⟨alo, ahi, asl, ash⟩⟩ : Sc))) st_Gw ⟨(okCons k_rTog_ok okNil), eqs_ok, okNilB, okNilI, okNilP⟩ Try.func21 rfl mixed [] (by kernel_rfl) 10000 (by rfl) ?_
    (conv => whnf)
    (repeat' (first | (refine And.intro (fun hb => ?_) (fun hb => ?_) <;> (first | contradiction | (conv => whnf))) | (refine And.intro ?_ ?_; rotate_left 1; (conv => whnf))))
    all_goals (first | assumption | first | rfl | trivial | ((try dsimp only at *); (try simp only [Bool.not_eq_true', Bool.not_eq_false', bne, ite_uv] at *); (simp only [eqv, eqv1, eqv2, eqvL1, eqvL2, *, C.right, C.eqc, bne, Bool.and_true, Bool.true_and, Bool.and_false, Bool.false_and, Bool.or_true, Bool.true_or, Bool.or_false, Bool.false_or, Bool.not_true, Bool.not_false, if_true, if_false, Bool.false_eq_true, beq_self_eq_true]; done)) | ((try dsimp only at *); (try simp only [Bool.not_eq_true', Bool.not_eq_false', bne] at *); simp only [eqv, eqv1, eqv2, eqvL1, eqvL2, *, C.right, C.eqc, bne, Bool.and_true, Bool.true_and, Bool.and_false, Bool.false_and, Bool.or_true, Bool.true_or, Bool.or_false, Bool.false_or, Bool.not_true, Bool.not_false, if_true, if_false, Bool.false_eq_true, beq_self_eq_true]; rfl) | (simp_all [eqv, eqv1, eqv2, eqvL1, eqvL2, C.right, C.eqc]; done))
  · trivial
def k_qHas : List SV → List Blk → Res := fun args _ => match args with
  | [.agg [.u64 av, .u64 am, .u64 alo, .u64 ahi, .int .i64 asl, .int .i64 ash], .u64 n] => .test (R.inS ⟨alo, ahi, asl, ash⟩) (.ok (.bool (C.hasb (⟨⟨av, am⟩, ⟨alo, ahi, asl, ash⟩⟩ : Sc) n)) [])
  | _ => .fail
theorem k_qHas_ok : CtrOk Try.prog Gw 22 k_qHas := by
  refine ⟨fun _ _ => by kernel_rfl, fun args M => ?_⟩
  unfold k_qHas
  split
  · rename_i av am alo ahi asl ash n
    intro ht
    refine ctr_flat (Γ := ⟨[(21, k_qRight), (51, k_rHas), (52, k_srHas)], eqs, [], [], []⟩) (sv := .bool (C.hasb (⟨⟨av, am⟩, ⟨alo, ahi, asl, ash⟩⟩ : Sc) n)) st_Gw ⟨(okCons k_qRight_ok (okCons k_rHas_ok (okCons k_srHas_ok okNil))), eqs_ok, okNilB, okNilI, okNilP⟩ Try.func22 rfl mixed [] (by kernel_rfl) 10000 (by rfl) ?_
    (conv => whnf)
    (repeat' (first | (refine And.intro (fun hb => ?_) (fun hb => ?_) <;> (first | contradiction | (conv => whnf))) | (refine And.intro ?_ ?_; rotate_left 1; (conv => whnf))))
    all_goals (first | assumption | first | rfl | trivial | ((try dsimp only at *); (try simp only [Bool.not_eq_true', Bool.not_eq_false', bne, ite_uv] at *); (simp only [eqv, eqv1, eqv2, eqvL1, eqvL2, *, C.hasb, bne, Bool.and_true, Bool.true_and, Bool.and_false, Bool.false_and, Bool.or_true, Bool.true_or, Bool.or_false, Bool.false_or, Bool.not_true, Bool.not_false, if_true, if_false, Bool.false_eq_true, beq_self_eq_true]; done)) | ((try dsimp only at *); (try simp only [Bool.not_eq_true', Bool.not_eq_false', bne] at *); simp only [eqv, eqv1, eqv2, eqvL1, eqvL2, *, C.hasb, bne, Bool.and_true, Bool.true_and, Bool.and_false, Bool.false_and, Bool.or_true, Bool.true_or, Bool.or_false, Bool.false_or, Bool.not_true, Bool.not_false, if_true, if_false, Bool.false_eq_true, beq_self_eq_true]; rfl) | (simp_all [eqv, eqv1, eqv2, eqvL1, eqvL2, C.hasb]; done))
  · trivial
def k_qOne : List SV → List Blk → Res := fun args _ => match args with
  | [.agg [.u64 av, .u64 am, .u64 alo, .u64 ahi, .int .i64 asl, .int .i64 ash]] => .test (R.inS ⟨alo, ahi, asl, ash⟩) (.ok (.tup [.u64 (C.one (⟨⟨av, am⟩, ⟨alo, ahi, asl, ash⟩⟩ : Sc)).1, .bool (C.one (⟨⟨av, am⟩, ⟨alo, ahi, asl, ash⟩⟩ : Sc)).2]) [])
  | _ => .fail
theorem k_qOne_ok : CtrOk Try.prog Gw 20 k_qOne := by
  refine ⟨fun _ _ => by kernel_rfl, fun args M => ?_⟩
  unfold k_qOne
  split
  · rename_i av am alo ahi asl ash
    intro ht
    refine ctr_flat (Γ := ⟨[(21, k_qRight)], eqs, [], [], []⟩) (sv := .tup [.u64 (C.one (⟨⟨av, am⟩, ⟨alo, ahi, asl, ash⟩⟩ : Sc)).1, .bool (C.one (⟨⟨av, am⟩, ⟨alo, ahi, asl, ash⟩⟩ : Sc)).2]) st_Gw ⟨(okCons k_qRight_ok okNil), eqs_ok, okNilB, okNilI, okNilP⟩ Try.func20 rfl mixed [] (by kernel_rfl) 10000 (by rfl) ?_
    (conv => whnf)
    (repeat' (first | (refine And.intro (fun hb => ?_) (fun hb => ?_) <;> (first | contradiction | (conv => whnf))) | (refine And.intro ?_ ?_; rotate_left 1; (conv => whnf))))
    all_goals (first | assumption | first | rfl | trivial | ((try dsimp only at *); (try simp only [Bool.not_eq_true', Bool.not_eq_false', bne, ite_uv] at *); (simp only [eqv, eqv1, eqv2, eqvL1, eqvL2, *, C.one, bne, Bool.and_true, Bool.true_and, Bool.and_false, Bool.false_and, Bool.or_true, Bool.true_or, Bool.or_false, Bool.false_or, Bool.not_true, Bool.not_false, if_true, if_false, Bool.false_eq_true, beq_self_eq_true]; done)) | ((try dsimp only at *); (try simp only [Bool.not_eq_true', Bool.not_eq_false', bne] at *); simp only [eqv, eqv1, eqv2, eqvL1, eqvL2, *, C.one, bne, Bool.and_true, Bool.true_and, Bool.and_false, Bool.false_and, Bool.or_true, Bool.true_or, Bool.or_false, Bool.false_or, Bool.not_true, Bool.not_false, if_true, if_false, Bool.false_eq_true, beq_self_eq_true]; rfl) | (simp_all [eqv, eqv1, eqv2, eqvL1, eqvL2, C.one]; done))
  · trivial
def k_qLeq : List SV → List Blk → Res := fun args _ => match args with
  | [.agg [.u64 av, .u64 am, .u64 alo, .u64 ahi, .int .i64 asl, .int .i64 ash], .agg [.u64 bv, .u64 bm, .u64 blo, .u64 bhi, .int .i64 bsl, .int .i64 bsh]] => .test (R.inS ⟨alo, ahi, asl, ash⟩ && R.inS ⟨blo, bhi, bsl, bsh⟩) (.ok (.bool (C.leq (⟨⟨av, am⟩, ⟨alo, ahi, asl, ash⟩⟩ : Sc) (⟨⟨bv, bm⟩, ⟨blo, bhi, bsl, bsh⟩⟩ : Sc))) [])
  | _ => .fail
theorem k_qLeq_ok : CtrOk Try.prog Gw 24 k_qLeq := by
  refine ⟨fun _ _ => by kernel_rfl, fun args M => ?_⟩
  unfold k_qLeq
  split
  · rename_i av am alo ahi asl ash bv bm blo bhi bsl bsh
    intro ht
    have ha := (Bool.and_eq_true _ _ ▸ ht).1
    have hb2 := (Bool.and_eq_true _ _ ▸ ht).2
    refine ctr_flat (Γ := ⟨[(21, k_qRight), (53, k_rLeq), (54, k_srLeq)], eqs, [], [], []⟩) (sv := .bool (C.leq (⟨⟨av, am⟩, ⟨alo, ahi, asl, ash⟩⟩ : Sc) (⟨⟨bv, bm⟩, ⟨blo, bhi, bsl, bsh⟩⟩ : Sc))) st_Gw ⟨(okCons k_qRight_ok (okCons k_rLeq_ok (okCons k_srLeq_ok okNil))), eqs_ok, okNilB, okNilI, okNilP⟩ Try.func24 rfl mixed [] (by kernel_rfl) 10000 (by rfl) ?_
    (conv => whnf)
    (repeat' (first | (refine And.intro (fun hb => ?_) (fun hb => ?_) <;> (first | contradiction | (conv => whnf))) | (refine And.intro ?_ ?_; rotate_left 1; (conv => whnf))))
    all_goals (first | assumption | first | rfl | trivial | ((try dsimp only at *); (try simp only [Bool.not_eq_true', Bool.not_eq_false', bne, ite_uv] at *); (simp only [eqv, eqv1, eqv2, eqvL1, eqvL2, *, C.leq, bne, Bool.and_true, Bool.true_and, Bool.and_false, Bool.false_and, Bool.or_true, Bool.true_or, Bool.or_false, Bool.false_or, Bool.not_true, Bool.not_false, if_true, if_false, Bool.false_eq_true, beq_self_eq_true]; done)) | ((try dsimp only at *); (try simp only [Bool.not_eq_true', Bool.not_eq_false', bne] at *); simp only [eqv, eqv1, eqv2, eqvL1, eqvL2, *, C.leq, bne, Bool.and_true, Bool.true_and, Bool.and_false, Bool.false_and, Bool.or_true, Bool.true_or, Bool.or_false, Bool.false_or, Bool.not_true, Bool.not_false, if_true, if_false, Bool.false_eq_true, beq_self_eq_true]; rfl) | (simp_all [eqv, eqv1, eqv2, eqvL1, eqvL2, C.leq]; done))
  · trivial
def k_qMeet : List SV → List Blk → Res := fun args _ => match args with
  | [.agg [.u64 av, .u64 am, .u64 alo, .u64 ahi, .int .i64 asl, .int .i64 ash], .agg [.u64 bv, .u64 bm, .u64 blo, .u64 bhi, .int .i64 bsl, .int .i64 bsh]] => .test (R.inS ⟨alo, ahi, asl, ash⟩ && R.inS ⟨blo, bhi, bsl, bsh⟩) (.ok (.tup [scv (C.meet (⟨⟨av, am⟩, ⟨alo, ahi, asl, ash⟩⟩ : Sc) (⟨⟨bv, bm⟩, ⟨blo, bhi, bsl, bsh⟩⟩ : Sc)).1, .bool (C.meet (⟨⟨av, am⟩, ⟨alo, ahi, asl, ash⟩⟩ : Sc) (⟨⟨bv, bm⟩, ⟨blo, bhi, bsl, bsh⟩⟩ : Sc)).2]) [])
  | _ => .fail
theorem k_qMeet_ok : CtrOk Try.prog Gw 16 k_qMeet := by
  refine ⟨fun _ _ => by kernel_rfl, fun args M => ?_⟩
  unfold k_qMeet
  split
  · rename_i av am alo ahi asl ash bv bm blo bhi bsl bsh
    intro ht
    have ha := (Bool.and_eq_true _ _ ▸ ht).1
    have hb2 := (Bool.and_eq_true _ _ ▸ ht).2
    refine ctr_flat (Γ := ⟨[(21, k_qRight), (44, k_rMeet), (45, k_srMeet), (39, k_rTog)], eqs, [], [], []⟩) (sv := .tup [scv (C.meet (⟨⟨av, am⟩, ⟨alo, ahi, asl, ash⟩⟩ : Sc) (⟨⟨bv, bm⟩, ⟨blo, bhi, bsl, bsh⟩⟩ : Sc)).1, .bool (C.meet (⟨⟨av, am⟩, ⟨alo, ahi, asl, ash⟩⟩ : Sc) (⟨⟨bv, bm⟩, ⟨blo, bhi, bsl, bsh⟩⟩ : Sc)).2]) st_Gw ⟨(okCons k_qRight_ok (okCons k_rMeet_ok (okCons k_srMeet_ok (okCons k_rTog_ok okNil)))), eqs_ok, okNilB, okNilI, okNilP⟩ Try.func16 rfl mixed [] (by kernel_rfl) 10000 (by rfl) ?_
    (conv => whnf)
    (repeat' (first | (refine And.intro (fun hb => ?_) (fun hb => ?_) <;> (first | contradiction | (conv => whnf))) | (refine And.intro ?_ ?_; rotate_left 1; (conv => whnf))))
    all_goals (first | assumption | exact C.meet_in ha hb2 | first | rfl | trivial | ((try dsimp only at *); (try simp only [Bool.not_eq_true', Bool.not_eq_false', bne, ite_uv] at *); (simp only [eqv, eqv1, eqv2, eqvL1, eqvL2, *, C.meet, bne, Bool.and_true, Bool.true_and, Bool.and_false, Bool.false_and, Bool.or_true, Bool.true_or, Bool.or_false, Bool.false_or, Bool.not_true, Bool.not_false, if_true, if_false, Bool.false_eq_true, beq_self_eq_true]; done)) | ((try dsimp only at *); (try simp only [Bool.not_eq_true', Bool.not_eq_false', bne] at *); simp only [eqv, eqv1, eqv2, eqvL1, eqvL2, *, C.meet, bne, Bool.and_true, Bool.true_and, Bool.and_false, Bool.false_and, Bool.or_true, Bool.true_or, Bool.or_false, Bool.false_or, Bool.not_true, Bool.not_false, if_true, if_false, Bool.false_eq_true, beq_self_eq_true]; rfl) | (simp_all [eqv, eqv1, eqv2, eqvL1, eqvL2, C.meet]; done))
  · trivial
def k_cConst : List SV → List Blk → Res := fun args _ => match args with
  | [.u64 n] => .ok (scv (C.const n)) []
  | _ => .fail
theorem k_cConst_ok : CtrOk Try.prog Gw 25 k_cConst := by
  refine ⟨fun _ _ => by kernel_rfl, fun args M => ?_⟩
  unfold k_cConst
  split
  · rename_i n
    refine ctr_flat (Γ := ⟨[(55, k_Const), (56, k_sConst)], eqs, [], [], []⟩) (sv := scv (C.const n)) st_Gw ⟨(okCons k_Const_ok (okCons k_sConst_ok okNil)), eqs_ok, okNilB, okNilI, okNilP⟩ Try.func25 rfl mixed [] (by kernel_rfl) 10000 (by rfl) ?_
    (conv => whnf)
    (repeat' (first | (refine And.intro (fun hb => ?_) (fun hb => ?_) <;> (first | contradiction | (conv => whnf))) | (refine And.intro ?_ ?_; rotate_left 1; (conv => whnf))))
    all_goals (first | rfl | trivial | ((try dsimp only at *); (try simp only [Bool.not_eq_true', Bool.not_eq_false', bne, ite_uv] at *); (simp only [eqv, eqv1, eqv2, eqvL1, eqvL2, *, C.const, bne, Bool.and_true, Bool.true_and, Bool.and_false, Bool.false_and, Bool.or_true, Bool.true_or, Bool.or_false, Bool.false_or, Bool.not_true, Bool.not_false, if_true, if_false, Bool.false_eq_true, beq_self_eq_true]; done)) | ((try dsimp only at *); (try simp only [Bool.not_eq_true', Bool.not_eq_false', bne] at *); simp only [eqv, eqv1, eqv2, eqvL1, eqvL2, *, C.const, bne, Bool.and_true, Bool.true_and, Bool.and_false, Bool.false_and, Bool.or_true, Bool.true_or, Bool.or_false, Bool.false_or, Bool.not_true, Bool.not_false, if_true, if_false, Bool.false_eq_true, beq_self_eq_true]; rfl) | (simp_all [eqv, eqv1, eqv2, eqvL1, eqvL2, C.const]; done))
  · trivial
def k_cUnknown : List SV → List Blk → Res := fun args _ => match args with
  | [] => .ok (scv C.unknown) []
  | _ => .fail
theorem k_cUnknown_ok : CtrOk Try.prog Gw 27 k_cUnknown := by
  refine ⟨fun _ _ => by kernel_rfl, fun args M => ?_⟩
  unfold k_cUnknown
  split
  · refine ctr_flat (Γ := ⟨[(47, k_Unknown), (58, k_sFull)], eqs, [], [], []⟩) (sv := scv C.unknown) st_Gw ⟨(okCons k_Unknown_ok (okCons k_sFull_ok okNil)), eqs_ok, okNilB, okNilI, okNilP⟩ Try.func27 rfl mixed [] (by kernel_rfl) 10000 (by rfl) ?_
    (conv => whnf)
    (repeat' (first | (refine And.intro (fun hb => ?_) (fun hb => ?_) <;> (first | contradiction | (conv => whnf))) | (refine And.intro ?_ ?_; rotate_left 1; (conv => whnf))))
    all_goals (first | rfl | trivial | ((try dsimp only at *); (try simp only [Bool.not_eq_true', Bool.not_eq_false', bne, ite_uv] at *); (simp only [eqv, eqv1, eqv2, eqvL1, eqvL2, *, C.unknown, bne, Bool.and_true, Bool.true_and, Bool.and_false, Bool.false_and, Bool.or_true, Bool.true_or, Bool.or_false, Bool.false_or, Bool.not_true, Bool.not_false, if_true, if_false, Bool.false_eq_true, beq_self_eq_true]; done)) | ((try dsimp only at *); (try simp only [Bool.not_eq_true', Bool.not_eq_false', bne] at *); simp only [eqv, eqv1, eqv2, eqvL1, eqvL2, *, C.unknown, bne, Bool.and_true, Bool.true_and, Bool.and_false, Bool.false_and, Bool.or_true, Bool.true_or, Bool.or_false, Bool.false_or, Bool.not_true, Bool.not_false, if_true, if_false, Bool.false_eq_true, beq_self_eq_true]; rfl) | (simp_all [eqv, eqv1, eqv2, eqvL1, eqvL2, C.unknown]; done))
  · trivial
def k_cRight : List SV → List Blk → Res := fun args _ => match args with
  | [.agg [.u64 av, .u64 am, .u64 alo, .u64 ahi, .int .i64 asl, .int .i64 ash]] => .test (R.inS ⟨alo, ahi, asl, ash⟩) (.ok (.bool (C.right (⟨⟨av, am⟩, ⟨alo, ahi, asl, ash⟩⟩ : Sc))) [])
  | _ => .fail
theorem k_cRight_ok : CtrOk Try.prog Gw 11 k_cRight := by
  refine ⟨fun _ _ => by kernel_rfl, fun args M => ?_⟩
  unfold k_cRight
  split
  · rename_i av am alo ahi asl ash
    intro ht
    refine ctr_flat (Γ := ⟨[(9, k_Of)], eqs, [], [], []⟩) (sv := .bool (C.right (⟨⟨av, am⟩, ⟨alo, ahi, asl, ash⟩⟩ : Sc))) st_Gw ⟨(okCons k_Of_ok okNil), eqs_ok, okNilB, okNilI, okNilP⟩ Try.func11 rfl mixed [] (by kernel_rfl) 10000 (by rfl) ?_
    (conv => whnf)
    (repeat' (first | (refine And.intro (fun hb => ?_) (fun hb => ?_) <;> (first | contradiction | (conv => whnf))) | (refine And.intro ?_ ?_; rotate_left 1; (conv => whnf))))
    all_goals (first | assumption | first | rfl | trivial | ((try dsimp only at *); (try simp only [Bool.not_eq_true', Bool.not_eq_false', bne, ite_uv] at *); (simp only [eqv, eqv1, eqv2, eqvL1, eqvL2, *, C.right, C.eqc, bne, Bool.and_true, Bool.true_and, Bool.and_false, Bool.false_and, Bool.or_true, Bool.true_or, Bool.or_false, Bool.false_or, Bool.not_true, Bool.not_false, if_true, if_false, Bool.false_eq_true, beq_self_eq_true]; done)) | ((try dsimp only at *); (try simp only [Bool.not_eq_true', Bool.not_eq_false', bne] at *); simp only [eqv, eqv1, eqv2, eqvL1, eqvL2, *, C.right, C.eqc, bne, Bool.and_true, Bool.true_and, Bool.and_false, Bool.false_and, Bool.or_true, Bool.true_or, Bool.or_false, Bool.false_or, Bool.not_true, Bool.not_false, if_true, if_false, Bool.false_eq_true, beq_self_eq_true]; rfl) | (simp_all [eqv, eqv1, eqv2, eqvL1, eqvL2, C.right, C.eqc]; done))
  · trivial
def k_cHas : List SV → List Blk → Res := fun args _ => match args with
  | [.agg [.u64 av, .u64 am, .u64 alo, .u64 ahi, .int .i64 asl, .int .i64 ash], .u64 n] => .test (R.inS ⟨alo, ahi, asl, ash⟩) (.ok (.bool (C.hasb (⟨⟨av, am⟩, ⟨alo, ahi, asl, ash⟩⟩ : Sc) n)) [])
  | _ => .fail
theorem k_cHas_ok : CtrOk Try.prog Gw 10 k_cHas := by
  refine ⟨fun _ _ => by kernel_rfl, fun args M => ?_⟩
  unfold k_cHas
  split
  · rename_i av am alo ahi asl ash n
    intro ht
    refine ctr_flat (Γ := ⟨[(11, k_cRight), (29, k_Has), (30, k_sHas)], eqs, [], [], []⟩) (sv := .bool (C.hasb (⟨⟨av, am⟩, ⟨alo, ahi, asl, ash⟩⟩ : Sc) n)) st_Gw ⟨(okCons k_cRight_ok (okCons k_Has_ok (okCons k_sHas_ok okNil))), eqs_ok, okNilB, okNilI, okNilP⟩ Try.func10 rfl mixed [] (by kernel_rfl) 10000 (by rfl) ?_
    (conv => whnf)
    (repeat' (first | (refine And.intro (fun hb => ?_) (fun hb => ?_) <;> (first | contradiction | (conv => whnf))) | (refine And.intro ?_ ?_; rotate_left 1; (conv => whnf))))
    all_goals (first | assumption | first | rfl | trivial | ((try dsimp only at *); (try simp only [Bool.not_eq_true', Bool.not_eq_false', bne, ite_uv] at *); (simp only [eqv, eqv1, eqv2, eqvL1, eqvL2, *, C.hasb, bne, Bool.and_true, Bool.true_and, Bool.and_false, Bool.false_and, Bool.or_true, Bool.true_or, Bool.or_false, Bool.false_or, Bool.not_true, Bool.not_false, if_true, if_false, Bool.false_eq_true, beq_self_eq_true]; done)) | ((try dsimp only at *); (try simp only [Bool.not_eq_true', Bool.not_eq_false', bne] at *); simp only [eqv, eqv1, eqv2, eqvL1, eqvL2, *, C.hasb, bne, Bool.and_true, Bool.true_and, Bool.and_false, Bool.false_and, Bool.or_true, Bool.true_or, Bool.or_false, Bool.false_or, Bool.not_true, Bool.not_false, if_true, if_false, Bool.false_eq_true, beq_self_eq_true]; rfl) | (simp_all [eqv, eqv1, eqv2, eqvL1, eqvL2, C.hasb]; done))
  · trivial
def k_cOne : List SV → List Blk → Res := fun args _ => match args with
  | [.agg [.u64 av, .u64 am, .u64 alo, .u64 ahi, .int .i64 asl, .int .i64 ash]] => .test (R.inS ⟨alo, ahi, asl, ash⟩) (.ok (.tup [.u64 (C.one (⟨⟨av, am⟩, ⟨alo, ahi, asl, ash⟩⟩ : Sc)).1, .bool (C.one (⟨⟨av, am⟩, ⟨alo, ahi, asl, ash⟩⟩ : Sc)).2]) [])
  | _ => .fail
theorem k_cOne_ok : CtrOk Try.prog Gw 19 k_cOne := by
  refine ⟨fun _ _ => by kernel_rfl, fun args M => ?_⟩
  unfold k_cOne
  split
  · rename_i av am alo ahi asl ash
    intro ht
    refine ctr_flat (Γ := ⟨[(11, k_cRight)], eqs, [], [], []⟩) (sv := .tup [.u64 (C.one (⟨⟨av, am⟩, ⟨alo, ahi, asl, ash⟩⟩ : Sc)).1, .bool (C.one (⟨⟨av, am⟩, ⟨alo, ahi, asl, ash⟩⟩ : Sc)).2]) st_Gw ⟨(okCons k_cRight_ok okNil), eqs_ok, okNilB, okNilI, okNilP⟩ Try.func19 rfl mixed [] (by kernel_rfl) 10000 (by rfl) ?_
    (conv => whnf)
    (repeat' (first | (refine And.intro (fun hb => ?_) (fun hb => ?_) <;> (first | contradiction | (conv => whnf))) | (refine And.intro ?_ ?_; rotate_left 1; (conv => whnf))))
    all_goals (first | assumption | first | rfl | trivial | ((try dsimp only at *); (try simp only [Bool.not_eq_true', Bool.not_eq_false', bne, ite_uv] at *); (simp only [eqv, eqv1, eqv2, eqvL1, eqvL2, *, C.one, bne, Bool.and_true, Bool.true_and, Bool.and_false, Bool.false_and, Bool.or_true, Bool.true_or, Bool.or_false, Bool.false_or, Bool.not_true, Bool.not_false, if_true, if_false, Bool.false_eq_true, beq_self_eq_true]; done)) | ((try dsimp only at *); (try simp only [Bool.not_eq_true', Bool.not_eq_false', bne] at *); simp only [eqv, eqv1, eqv2, eqvL1, eqvL2, *, C.one, bne, Bool.and_true, Bool.true_and, Bool.and_false, Bool.false_and, Bool.or_true, Bool.true_or, Bool.or_false, Bool.false_or, Bool.not_true, Bool.not_false, if_true, if_false, Bool.false_eq_true, beq_self_eq_true]; rfl) | (simp_all [eqv, eqv1, eqv2, eqvL1, eqvL2, C.one]; done))
  · trivial
def k_cLeq : List SV → List Blk → Res := fun args _ => match args with
  | [.agg [.u64 av, .u64 am, .u64 alo, .u64 ahi, .int .i64 asl, .int .i64 ash], .agg [.u64 bv, .u64 bm, .u64 blo, .u64 bhi, .int .i64 bsl, .int .i64 bsh]] => .test (R.inS ⟨alo, ahi, asl, ash⟩ && R.inS ⟨blo, bhi, bsl, bsh⟩) (.ok (.bool (C.leq (⟨⟨av, am⟩, ⟨alo, ahi, asl, ash⟩⟩ : Sc) (⟨⟨bv, bm⟩, ⟨blo, bhi, bsl, bsh⟩⟩ : Sc))) [])
  | _ => .fail
theorem k_cLeq_ok : CtrOk Try.prog Gw 23 k_cLeq := by
  refine ⟨fun _ _ => by kernel_rfl, fun args M => ?_⟩
  unfold k_cLeq
  split
  · rename_i av am alo ahi asl ash bv bm blo bhi bsl bsh
    intro ht
    have ha := (Bool.and_eq_true _ _ ▸ ht).1
    have hb2 := (Bool.and_eq_true _ _ ▸ ht).2
    refine ctr_flat (Γ := ⟨[(11, k_cRight), (31, k_Leq), (32, k_sLeq)], eqs, [], [], []⟩) (sv := .bool (C.leq (⟨⟨av, am⟩, ⟨alo, ahi, asl, ash⟩⟩ : Sc) (⟨⟨bv, bm⟩, ⟨blo, bhi, bsl, bsh⟩⟩ : Sc))) st_Gw ⟨(okCons k_cRight_ok (okCons k_Leq_ok (okCons k_sLeq_ok okNil))), eqs_ok, okNilB, okNilI, okNilP⟩ Try.func23 rfl mixed [] (by kernel_rfl) 10000 (by rfl) ?_
    (conv => whnf)
    (repeat' (first | (refine And.intro (fun hb => ?_) (fun hb => ?_) <;> (first | contradiction | (conv => whnf))) | (refine And.intro ?_ ?_; rotate_left 1; (conv => whnf))))
    all_goals (first | assumption | first | rfl | trivial | ((try dsimp only at *); (try simp only [Bool.not_eq_true', Bool.not_eq_false', bne, ite_uv] at *); (simp only [eqv, eqv1, eqv2, eqvL1, eqvL2, *, C.leq, bne, Bool.and_true, Bool.true_and, Bool.and_false, Bool.false_and, Bool.or_true, Bool.true_or, Bool.or_false, Bool.false_or, Bool.not_true, Bool.not_false, if_true, if_false, Bool.false_eq_true, beq_self_eq_true]; done)) | ((try dsimp only at *); (try simp only [Bool.not_eq_true', Bool.not_eq_false', bne] at *); simp only [eqv, eqv1, eqv2, eqvL1, eqvL2, *, C.leq, bne, Bool.and_true, Bool.true_and, Bool.and_false, Bool.false_and, Bool.or_true, Bool.true_or, Bool.or_false, Bool.false_or, Bool.not_true, Bool.not_false, if_true, if_false, Bool.false_eq_true, beq_self_eq_true]; rfl) | (simp_all [eqv, eqv1, eqv2, eqvL1, eqvL2, C.leq]; done))
  · trivial
def k_cMeet : List SV → List Blk → Res := fun args _ => match args with
  | [.agg [.u64 av, .u64 am, .u64 alo, .u64 ahi, .int .i64 asl, .int .i64 ash], .agg [.u64 bv, .u64 bm, .u64 blo, .u64 bhi, .int .i64 bsl, .int .i64 bsh]] => .test (R.inS ⟨alo, ahi, asl, ash⟩ && R.inS ⟨blo, bhi, bsl, bsh⟩) (.ok (.tup [scv (C.meet (⟨⟨av, am⟩, ⟨alo, ahi, asl, ash⟩⟩ : Sc) (⟨⟨bv, bm⟩, ⟨blo, bhi, bsl, bsh⟩⟩ : Sc)).1, .bool (C.meet (⟨⟨av, am⟩, ⟨alo, ahi, asl, ash⟩⟩ : Sc) (⟨⟨bv, bm⟩, ⟨blo, bhi, bsl, bsh⟩⟩ : Sc)).2]) [])
  | _ => .fail
theorem k_cMeet_ok : CtrOk Try.prog Gw 15 k_cMeet := by
  refine ⟨fun _ _ => by kernel_rfl, fun args M => ?_⟩
  unfold k_cMeet
  split
  · rename_i av am alo ahi asl ash bv bm blo bhi bsl bsh
    intro ht
    have ha := (Bool.and_eq_true _ _ ▸ ht).1
    have hb2 := (Bool.and_eq_true _ _ ▸ ht).2
    refine ctr_flat (Γ := ⟨[(11, k_cRight), (42, k_Meet), (43, k_sMeet), (9, k_Of)], eqs, [], [], []⟩) (sv := .tup [scv (C.meet (⟨⟨av, am⟩, ⟨alo, ahi, asl, ash⟩⟩ : Sc) (⟨⟨bv, bm⟩, ⟨blo, bhi, bsl, bsh⟩⟩ : Sc)).1, .bool (C.meet (⟨⟨av, am⟩, ⟨alo, ahi, asl, ash⟩⟩ : Sc) (⟨⟨bv, bm⟩, ⟨blo, bhi, bsl, bsh⟩⟩ : Sc)).2]) st_Gw ⟨(okCons k_cRight_ok (okCons k_Meet_ok (okCons k_sMeet_ok (okCons k_Of_ok okNil)))), eqs_ok, okNilB, okNilI, okNilP⟩ Try.func15 rfl mixed [] (by kernel_rfl) 10000 (by rfl) ?_
    (conv => whnf)
    (repeat' (first | (refine And.intro (fun hb => ?_) (fun hb => ?_) <;> (first | contradiction | (conv => whnf))) | (refine And.intro ?_ ?_; rotate_left 1; (conv => whnf))))
    all_goals (first | assumption | exact C.meet_in ha hb2 | first | rfl | trivial | ((try dsimp only at *); (try simp only [Bool.not_eq_true', Bool.not_eq_false', bne, ite_uv] at *); (simp only [eqv, eqv1, eqv2, eqvL1, eqvL2, *, C.meet, bne, Bool.and_true, Bool.true_and, Bool.and_false, Bool.false_and, Bool.or_true, Bool.true_or, Bool.or_false, Bool.false_or, Bool.not_true, Bool.not_false, if_true, if_false, Bool.false_eq_true, beq_self_eq_true]; done)) | ((try dsimp only at *); (try simp only [Bool.not_eq_true', Bool.not_eq_false', bne] at *); simp only [eqv, eqv1, eqv2, eqvL1, eqvL2, *, C.meet, bne, Bool.and_true, Bool.true_and, Bool.and_false, Bool.false_and, Bool.or_true, Bool.true_or, Bool.or_false, Bool.false_or, Bool.not_true, Bool.not_false, if_true, if_false, Bool.false_eq_true, beq_self_eq_true]; rfl) | (simp_all [eqv, eqv1, eqv2, eqvL1, eqvL2, C.meet]; done))
  · trivial
end Go.Proofs.Ytobednfbejcaeaa
