import Derived.Test.YtkfbjnikkmoanaaGreatDoorXW
import Derived.Test.YtkfbjnikkmoanaaGreatDoorPXA
import Derived.Test.YtkfbjnikkmoanaaGreatDoorSpanR
namespace Go.Proofs.YtkfbjnikkmoanaaGreatDoor
open Go.RowKit Go.Sx
set_option linter.unusedSimpArgs false
set_option linter.unusedVariables false
set_option linter.unnecessarySimpa false
set_option maxRecDepth 100000
set_option maxHeartbeats 4000000
def k_srRight : List SV → List Blk → Res := fun args _ => match args with
  | [.agg [.u64 alo, .u64 ahi, .int .i64 asl, .int .i64 ash]] => .ok (.bool (S.good (⟨alo, ahi, asl, ash⟩ : Sp))) []
  | _ => .fail
theorem k_srRight_ok : CtrOk Tryz.prog Gw 142 k_srRight := by
  refine ⟨fun _ _ => by kernel_rfl, fun args M => ?_⟩
  unfold k_srRight
  split
  · rename_i alo ahi asl ash
    refine ctr_flat (Γ := ⟨[], eqs, [], [], []⟩) (sv := .bool (S.good (⟨alo, ahi, asl, ash⟩ : Sp))) st_Gw ⟨okNil, eqs_ok, okNilB, okNilI, okNilP⟩ Tryz.func142 rfl mixed [] (by kernel_rfl) 10000 (by rfl) ?_
    (conv => whnf)
    (repeat' (first | (refine And.intro (fun hb => ?_) (fun hb => ?_) <;> (first | contradiction | (conv => whnf))) | (refine And.intro ?_ ?_; rotate_left 1; (conv => whnf))))
    all_goals (first | rfl | trivial | ((try dsimp only at *); (try simp only [Bool.not_eq_true', Bool.not_eq_false', bne, ite_uv] at *); (simp only [eqv, eqv1, eqv2, eqvL1, eqvL2, *, S.good, bne, Bool.and_true, Bool.true_and, Bool.and_false, Bool.false_and, Bool.or_true, Bool.true_or, Bool.or_false, Bool.false_or, Bool.not_true, Bool.not_false, if_true, if_false, Bool.false_eq_true, beq_self_eq_true]; done)) | ((try dsimp only at *); (try simp only [Bool.not_eq_true', Bool.not_eq_false', bne] at *); simp only [eqv, eqv1, eqv2, eqvL1, eqvL2, *, S.good, bne, Bool.and_true, Bool.true_and, Bool.and_false, Bool.false_and, Bool.or_true, Bool.true_or, Bool.or_false, Bool.false_or, Bool.not_true, Bool.not_false, if_true, if_false, Bool.false_eq_true, beq_self_eq_true]; rfl) | (simp_all [eqv, eqv1, eqv2, eqvL1, eqvL2, S.good]; done))
  · trivial
def k_srFull : List SV → List Blk → Res := fun args _ => match args with
  | [] => .ok (spv S.full) []
  | _ => .fail
theorem k_srFull_ok : CtrOk Tryz.prog Gw 192 k_srFull := by
  refine ⟨fun _ _ => by kernel_rfl, fun args M => ?_⟩
  unfold k_srFull
  split
  · refine ctr_flat (Γ := ⟨[], eqs, [], [], []⟩) (sv := spv S.full) st_Gw ⟨okNil, eqs_ok, okNilB, okNilI, okNilP⟩ Tryz.func192 rfl mixed [] (by kernel_rfl) 10000 (by rfl) ?_
    (conv => whnf)
    (repeat' (first | (refine And.intro (fun hb => ?_) (fun hb => ?_) <;> (first | contradiction | (conv => whnf))) | (refine And.intro ?_ ?_; rotate_left 1; (conv => whnf))))
    all_goals (first | rfl | trivial | ((try dsimp only at *); (try simp only [Bool.not_eq_true', Bool.not_eq_false', bne, ite_uv] at *); (simp only [eqv, eqv1, eqv2, eqvL1, eqvL2, *, bne, Bool.and_true, Bool.true_and, Bool.and_false, Bool.false_and, Bool.or_true, Bool.true_or, Bool.or_false, Bool.false_or, Bool.not_true, Bool.not_false, if_true, if_false, Bool.false_eq_true, beq_self_eq_true]; done)) | ((try dsimp only at *); (try simp only [Bool.not_eq_true', Bool.not_eq_false', bne] at *); simp only [eqv, eqv1, eqv2, eqvL1, eqvL2, *, bne, Bool.and_true, Bool.true_and, Bool.and_false, Bool.false_and, Bool.or_true, Bool.true_or, Bool.or_false, Bool.false_or, Bool.not_true, Bool.not_false, if_true, if_false, Bool.false_eq_true, beq_self_eq_true]; rfl) | (simp_all [eqv, eqv1, eqv2, eqvL1, eqvL2]; done))
  · trivial
def k_srPlain : List SV → List Blk → Res := fun args _ => match args with
  | [.u64 n] => .ok (wdv (⟨0, n⟩ : Wd)) []
  | _ => .fail
theorem k_srPlain_ok : CtrOk Tryz.prog Gw 149 k_srPlain := by
  refine ⟨fun _ _ => by kernel_rfl, fun args M => ?_⟩
  unfold k_srPlain
  split
  · rename_i n
    refine ctr_flat (Γ := ⟨[], eqs, [], [], []⟩) (sv := wdv (⟨0, n⟩ : Wd)) st_Gw ⟨okNil, eqs_ok, okNilB, okNilI, okNilP⟩ Tryz.func149 rfl mixed [] (by kernel_rfl) 10000 (by rfl) ?_
    (conv => whnf)
    (repeat' (first | (refine And.intro (fun hb => ?_) (fun hb => ?_) <;> (first | contradiction | (conv => whnf))) | (refine And.intro ?_ ?_; rotate_left 1; (conv => whnf))))
    all_goals (first | rfl | trivial | ((try dsimp only at *); (try simp only [Bool.not_eq_true', Bool.not_eq_false', bne, ite_uv] at *); (simp only [eqv, eqv1, eqv2, eqvL1, eqvL2, *, bne, Bool.and_true, Bool.true_and, Bool.and_false, Bool.false_and, Bool.or_true, Bool.true_or, Bool.or_false, Bool.false_or, Bool.not_true, Bool.not_false, if_true, if_false, Bool.false_eq_true, beq_self_eq_true]; done)) | ((try dsimp only at *); (try simp only [Bool.not_eq_true', Bool.not_eq_false', bne] at *); simp only [eqv, eqv1, eqv2, eqvL1, eqvL2, *, bne, Bool.and_true, Bool.true_and, Bool.and_false, Bool.false_and, Bool.or_true, Bool.true_or, Bool.or_false, Bool.false_or, Bool.not_true, Bool.not_false, if_true, if_false, Bool.false_eq_true, beq_self_eq_true]; rfl) | (simp_all [eqv, eqv1, eqv2, eqvL1, eqvL2]; done))
  · trivial
def k_srSigned : List SV → List Blk → Res := fun args _ => match args with
  | [.int .i64 n] => .ok (wdv (R.signed n)) []
  | _ => .fail
theorem k_srSigned_ok : CtrOk Tryz.prog Gw 150 k_srSigned := by
  refine ⟨fun _ _ => by kernel_rfl, fun args M => ?_⟩
  unfold k_srSigned
  split
  · rename_i n
    refine ctr_flat (Γ := ⟨[], eqs, [], [], []⟩) (sv := wdv (R.signed n)) st_Gw ⟨okNil, eqs_ok, okNilB, okNilI, okNilP⟩ Tryz.func150 rfl mixed [] (by kernel_rfl) 10000 (by rfl) ?_
    (conv => whnf)
    (repeat' (first | (refine And.intro (fun hb => ?_) (fun hb => ?_) <;> (first | contradiction | (conv => whnf))) | (refine And.intro ?_ ?_; rotate_left 1; (conv => whnf))))
    all_goals (first | rfl | trivial | ((try dsimp only at *); (try simp only [Bool.not_eq_true', Bool.not_eq_false', bne, ite_uv] at *); (simp only [eqv, eqv1, eqv2, eqvL1, eqvL2, *, R.signed, bne, Bool.and_true, Bool.true_and, Bool.and_false, Bool.false_and, Bool.or_true, Bool.true_or, Bool.or_false, Bool.false_or, Bool.not_true, Bool.not_false, if_true, if_false, Bool.false_eq_true, beq_self_eq_true]; done)) | ((try dsimp only at *); (try simp only [Bool.not_eq_true', Bool.not_eq_false', bne] at *); simp only [eqv, eqv1, eqv2, eqvL1, eqvL2, *, R.signed, bne, Bool.and_true, Bool.true_and, Bool.and_false, Bool.false_and, Bool.or_true, Bool.true_or, Bool.or_false, Bool.false_or, Bool.not_true, Bool.not_false, if_true, if_false, Bool.false_eq_true, beq_self_eq_true]; rfl) | (simp_all [eqv, eqv1, eqv2, eqvL1, eqvL2, R.signed]; done))
  · trivial
def k_srAdd : List SV → List Blk → Res := fun args _ => match args with
  | [.agg [.int .i64 ahi, .u64 alo], .agg [.int .i64 bhi, .u64 blo]] => .ok (wdv (R.add (⟨ahi, alo⟩ : Wd) (⟨bhi, blo⟩ : Wd))) []
  | _ => .fail
theorem k_srAdd_ok : CtrOk Tryz.prog Gw 148 k_srAdd := by
  refine ⟨fun _ _ => by kernel_rfl, fun args M => ?_⟩
  unfold k_srAdd
  split
  · rename_i ahi alo bhi blo
    refine ctr_flat (Γ := ⟨[], eqs, [], [], []⟩) (sv := wdv (R.add (⟨ahi, alo⟩ : Wd) (⟨bhi, blo⟩ : Wd))) st_Gw ⟨okNil, eqs_ok, okNilB, okNilI, okNilP⟩ Tryz.func148 rfl mixed [] (by kernel_rfl) 10000 (by rfl) ?_
    (conv => whnf)
    (repeat' (first | (refine And.intro (fun hb => ?_) (fun hb => ?_) <;> (first | contradiction | (conv => whnf))) | (refine And.intro ?_ ?_; rotate_left 1; (conv => whnf))))
    all_goals (first | rfl | trivial | ((try dsimp only at *); (try simp only [Bool.not_eq_true', Bool.not_eq_false', bne, ite_uv] at *); (simp only [eqv, eqv1, eqv2, eqvL1, eqvL2, *, R.add, bne, Bool.and_true, Bool.true_and, Bool.and_false, Bool.false_and, Bool.or_true, Bool.true_or, Bool.or_false, Bool.false_or, Bool.not_true, Bool.not_false, if_true, if_false, Bool.false_eq_true, beq_self_eq_true]; done)) | ((try dsimp only at *); (try simp only [Bool.not_eq_true', Bool.not_eq_false', bne] at *); simp only [eqv, eqv1, eqv2, eqvL1, eqvL2, *, R.add, bne, Bool.and_true, Bool.true_and, Bool.and_false, Bool.false_and, Bool.or_true, Bool.true_or, Bool.or_false, Bool.false_or, Bool.not_true, Bool.not_false, if_true, if_false, Bool.false_eq_true, beq_self_eq_true]; rfl) | (simp_all [eqv, eqv1, eqv2, eqvL1, eqvL2, R.add]; done))
  · trivial
def k_srSub : List SV → List Blk → Res := fun args _ => match args with
  | [.agg [.int .i64 ahi, .u64 alo], .agg [.int .i64 bhi, .u64 blo]] => .ok (wdv (R.sub (⟨ahi, alo⟩ : Wd) (⟨bhi, blo⟩ : Wd))) []
  | _ => .fail
theorem k_srSub_ok : CtrOk Tryz.prog Gw 154 k_srSub := by
  refine ⟨fun _ _ => by kernel_rfl, fun args M => ?_⟩
  unfold k_srSub
  split
  · rename_i ahi alo bhi blo
    refine ctr_flat (Γ := ⟨[], eqs, [], [], []⟩) (sv := wdv (R.sub (⟨ahi, alo⟩ : Wd) (⟨bhi, blo⟩ : Wd))) st_Gw ⟨okNil, eqs_ok, okNilB, okNilI, okNilP⟩ Tryz.func154 rfl mixed [] (by kernel_rfl) 10000 (by rfl) ?_
    (conv => whnf)
    (repeat' (first | (refine And.intro (fun hb => ?_) (fun hb => ?_) <;> (first | contradiction | (conv => whnf))) | (refine And.intro ?_ ?_; rotate_left 1; (conv => whnf))))
    all_goals (first | rfl | trivial | ((try dsimp only at *); (try simp only [Bool.not_eq_true', Bool.not_eq_false', bne, ite_uv] at *); (simp only [eqv, eqv1, eqv2, eqvL1, eqvL2, *, R.sub, bne, Bool.and_true, Bool.true_and, Bool.and_false, Bool.false_and, Bool.or_true, Bool.true_or, Bool.or_false, Bool.false_or, Bool.not_true, Bool.not_false, if_true, if_false, Bool.false_eq_true, beq_self_eq_true]; done)) | ((try dsimp only at *); (try simp only [Bool.not_eq_true', Bool.not_eq_false', bne] at *); simp only [eqv, eqv1, eqv2, eqvL1, eqvL2, *, R.sub, bne, Bool.and_true, Bool.true_and, Bool.and_false, Bool.false_and, Bool.or_true, Bool.true_or, Bool.or_false, Bool.false_or, Bool.not_true, Bool.not_false, if_true, if_false, Bool.false_eq_true, beq_self_eq_true]; rfl) | (simp_all [eqv, eqv1, eqv2, eqvL1, eqvL2, R.sub]; done))
  · trivial
def k_srFits : List SV → List Blk → Res := fun args _ => match args with
  | [.agg [.int .i64 ahi, .u64 alo]] => .ok (.bool (R.fits (⟨ahi, alo⟩ : Wd))) []
  | _ => .fail
theorem k_srFits_ok : CtrOk Tryz.prog Gw 152 k_srFits := by
  refine ⟨fun _ _ => by kernel_rfl, fun args M => ?_⟩
  unfold k_srFits
  split
  · rename_i ahi alo
    refine ctr_flat (Γ := ⟨[], eqs, [], [], []⟩) (sv := .bool (R.fits (⟨ahi, alo⟩ : Wd))) st_Gw ⟨okNil, eqs_ok, okNilB, okNilI, okNilP⟩ Tryz.func152 rfl mixed [] (by kernel_rfl) 10000 (by rfl) ?_
    (conv => whnf)
    (repeat' (first | (refine And.intro (fun hb => ?_) (fun hb => ?_) <;> (first | contradiction | (conv => whnf))) | (refine And.intro ?_ ?_; rotate_left 1; (conv => whnf))))
    all_goals (first | rfl | trivial | ((try dsimp only at *); (try simp only [Bool.not_eq_true', Bool.not_eq_false', bne, ite_uv] at *); (simp only [eqv, eqv1, eqv2, eqvL1, eqvL2, *, R.fits, bne, Bool.and_true, Bool.true_and, Bool.and_false, Bool.false_and, Bool.or_true, Bool.true_or, Bool.or_false, Bool.false_or, Bool.not_true, Bool.not_false, if_true, if_false, Bool.false_eq_true, beq_self_eq_true]; done)) | ((try dsimp only at *); (try simp only [Bool.not_eq_true', Bool.not_eq_false', bne] at *); simp only [eqv, eqv1, eqv2, eqvL1, eqvL2, *, R.fits, bne, Bool.and_true, Bool.true_and, Bool.and_false, Bool.false_and, Bool.or_true, Bool.true_or, Bool.or_false, Bool.false_or, Bool.not_true, Bool.not_false, if_true, if_false, Bool.false_eq_true, beq_self_eq_true]; rfl) | (simp_all [eqv, eqv1, eqv2, eqvL1, eqvL2, R.fits]; done))
  · trivial
def k_srSigns : List SV → List Blk → Res := fun args _ => match args with
  | [.agg [.int .i64 ahi, .u64 alo]] => .ok (.bool (R.signs (⟨ahi, alo⟩ : Wd))) []
  | _ => .fail
theorem k_srSigns_ok : CtrOk Tryz.prog Gw 153 k_srSigns := by
  refine ⟨fun _ _ => by kernel_rfl, fun args M => ?_⟩
  unfold k_srSigns
  split
  · rename_i ahi alo
    refine ctr_flat (Γ := ⟨[], eqs, [], [], []⟩) (sv := .bool (R.signs (⟨ahi, alo⟩ : Wd))) st_Gw ⟨okNil, eqs_ok, okNilB, okNilI, okNilP⟩ Tryz.func153 rfl mixed [] (by kernel_rfl) 10000 (by rfl) ?_
    (conv => whnf)
    (repeat' (first | (refine And.intro (fun hb => ?_) (fun hb => ?_) <;> (first | contradiction | (conv => whnf))) | (refine And.intro ?_ ?_; rotate_left 1; (conv => whnf))))
    all_goals (first | rfl | trivial | ((try dsimp only at *); (try simp only [Bool.not_eq_true', Bool.not_eq_false', bne, ite_uv] at *); (simp only [eqv, eqv1, eqv2, eqvL1, eqvL2, *, R.signs, bne, Bool.and_true, Bool.true_and, Bool.and_false, Bool.false_and, Bool.or_true, Bool.true_or, Bool.or_false, Bool.false_or, Bool.not_true, Bool.not_false, if_true, if_false, Bool.false_eq_true, beq_self_eq_true]; done)) | ((try dsimp only at *); (try simp only [Bool.not_eq_true', Bool.not_eq_false', bne] at *); simp only [eqv, eqv1, eqv2, eqvL1, eqvL2, *, R.signs, bne, Bool.and_true, Bool.true_and, Bool.and_false, Bool.false_and, Bool.or_true, Bool.true_or, Bool.or_false, Bool.false_or, Bool.not_true, Bool.not_false, if_true, if_false, Bool.false_eq_true, beq_self_eq_true]; rfl) | (simp_all [eqv, eqv1, eqv2, eqvL1, eqvL2, R.signs]; done))
  · trivial
def k_srTimes : List SV → List Blk → Res := fun args _ => match args with
  | [.u64 a, .u64 b] => .ok (.tup [.u64 (R.times a b).1, .bool (R.times a b).2]) []
  | _ => .fail
theorem k_srTimes_ok : CtrOk Tryz.prog Gw 190 k_srTimes := by
  refine ⟨fun _ _ => by kernel_rfl, fun args M => ?_⟩
  unfold k_srTimes
  split
  · rename_i a b
    refine ctr_flat (Γ := ⟨[], eqs, [], [], []⟩) (sv := .tup [.u64 (R.times a b).1, .bool (R.times a b).2]) st_Gw ⟨okNil, eqs_ok, okNilB, okNilI, okNilP⟩ Tryz.func190 rfl mixed [(3, 8, [0, 0, 3, 0, 0, 16, 56, 7, 255])] (by kernel_rfl) 10000 (by rfl) ?_
    (conv => whnf)
    (repeat' (first | (refine And.intro (fun hb => ?_) (fun hb => ?_) <;> (first | contradiction | (conv => whnf))) | (refine And.intro ?_ ?_; rotate_left 1; (conv => whnf))))
    all_goals (first | (simp only [bne, beq_eq_false_iff_ne] at *; simp_all; done) | first | rfl | trivial | ((try dsimp only at *); (try simp only [Bool.not_eq_true', Bool.not_eq_false', bne, ite_uv] at *); (simp only [eqv, eqv1, eqv2, eqvL1, eqvL2, *, R.times, bne, Bool.and_true, Bool.true_and, Bool.and_false, Bool.false_and, Bool.or_true, Bool.true_or, Bool.or_false, Bool.false_or, Bool.not_true, Bool.not_false, if_true, if_false, Bool.false_eq_true, beq_self_eq_true]; done)) | ((try dsimp only at *); (try simp only [Bool.not_eq_true', Bool.not_eq_false', bne] at *); simp only [eqv, eqv1, eqv2, eqvL1, eqvL2, *, R.times, bne, Bool.and_true, Bool.true_and, Bool.and_false, Bool.false_and, Bool.or_true, Bool.true_or, Bool.or_false, Bool.false_or, Bool.not_true, Bool.not_false, if_true, if_false, Bool.false_eq_true, beq_self_eq_true]; rfl) | (simp_all [eqv, eqv1, eqv2, eqvL1, eqvL2, R.times]; done))
  · trivial
def k_srProducts : List SV → List Blk → Res := fun args _ => match args with
  | [.agg [.u64 alo, .u64 ahi, .int .i64 asl, .int .i64 ash], .agg [.u64 blo, .u64 bhi, .int .i64 bsl, .int .i64 bsh]] => .ok (spv (R.products (⟨alo, ahi, asl, ash⟩ : Sp) (⟨blo, bhi, bsl, bsh⟩ : Sp))) []
  | _ => .fail
theorem k_srProducts_ok : CtrOk Tryz.prog Gw 155 k_srProducts := by
  refine ⟨fun _ _ => by kernel_rfl, fun args M => ?_⟩
  unfold k_srProducts
  split
  · rename_i alo ahi asl ash blo bhi bsl bsh
    refine ctr_flat (Γ := ⟨[(190, k_srTimes), (192, k_srFull)], eqs, [], [(151, Tryz.f151, [])], []⟩) (sv := spv (R.products (⟨alo, ahi, asl, ash⟩ : Sp) (⟨blo, bhi, bsl, bsh⟩ : Sp))) st_Gw ⟨(okCons k_srTimes_ok (okCons k_srFull_ok okNil)), eqs_ok, okNilB, (okConsI Tryz.func151 rfl (by kernel_rfl) (fun _ _ => by kernel_rfl) okNilI), okNilP⟩ Tryz.func155 rfl mixed [] (by kernel_rfl) 10000 (by rfl) ?_
    (conv => whnf)
    (repeat' (first | (refine And.intro (fun hb => ?_) (fun hb => ?_) <;> (first | contradiction | (conv => whnf))) | (refine And.intro ?_ ?_; rotate_left 1; (conv => whnf))))
    all_goals (first | rfl | trivial | ((try dsimp only at *); (try simp only [Bool.not_eq_true', Bool.not_eq_false', bne, ite_uv] at *); (simp only [eqv, eqv1, eqv2, eqvL1, eqvL2, *, R.products, R.two, S.full, bne, Bool.and_true, Bool.true_and, Bool.and_false, Bool.false_and, Bool.or_true, Bool.true_or, Bool.or_false, Bool.false_or, Bool.not_true, Bool.not_false, if_true, if_false, Bool.false_eq_true, beq_self_eq_true]; done)) | ((try dsimp only at *); (try simp only [Bool.not_eq_true', Bool.not_eq_false', bne] at *); simp only [eqv, eqv1, eqv2, eqvL1, eqvL2, *, R.products, R.two, S.full, bne, Bool.and_true, Bool.true_and, Bool.and_false, Bool.false_and, Bool.or_true, Bool.true_or, Bool.or_false, Bool.false_or, Bool.not_true, Bool.not_false, if_true, if_false, Bool.false_eq_true, beq_self_eq_true]; rfl) | (simp_all [eqv, eqv1, eqv2, eqvL1, eqvL2, R.products, R.two, S.full]; done))
  · trivial
def k_srRests : List SV → List Blk → Res := fun args _ => match args with
  | [.int .u8 op, .agg [.u64 alo, .u64 ahi, .int .i64 asl, .int .i64 ash], .agg [.u64 blo, .u64 bhi, .int .i64 bsl, .int .i64 bsh]] => .ok (spv (R.rests op (⟨alo, ahi, asl, ash⟩ : Sp) (⟨blo, bhi, bsl, bsh⟩ : Sp))) []
  | _ => .fail
theorem k_srRests_ok : CtrOk Tryz.prog Gw 156 k_srRests := by
  refine ⟨fun _ _ => by kernel_rfl, fun args M => ?_⟩
  unfold k_srRests
  split
  · rename_i op alo ahi asl ash blo bhi bsl bsh
    refine ctr_flat (Γ := ⟨[(192, k_srFull)], eqs, [], [(151, Tryz.f151, [])], []⟩) (sv := spv (R.rests op (⟨alo, ahi, asl, ash⟩ : Sp) (⟨blo, bhi, bsl, bsh⟩ : Sp))) st_Gw ⟨(okCons k_srFull_ok okNil), eqs_ok, okNilB, (okConsI Tryz.func151 rfl (by kernel_rfl) (fun _ _ => by kernel_rfl) okNilI), okNilP⟩ Tryz.func156 rfl mixed [(1, 8, [0, 1, 0, 4, 15, 0, 32, 31, 255]), (3, 8, [0, 1, 0, 7, 0, 16, 0, 112, 255, 511])] (by kernel_rfl) 10000 (by rfl) ?_
    (conv => whnf)
    (repeat' (first | (refine And.intro (fun hb => ?_) (fun hb => ?_) <;> (first | contradiction | (conv => whnf))) | (refine And.intro ?_ ?_; rotate_left 1; (conv => whnf))))
    all_goals (first | rfl | trivial | ((try dsimp only at *); (try simp only [Bool.not_eq_true', Bool.not_eq_false', bne, ite_uv] at *); (simp only [eqv, eqv1, eqv2, eqvL1, eqvL2, *, R.rests, R.two, S.full, bne, Bool.and_true, Bool.true_and, Bool.and_false, Bool.false_and, Bool.or_true, Bool.true_or, Bool.or_false, Bool.false_or, Bool.not_true, Bool.not_false, if_true, if_false, Bool.false_eq_true, beq_self_eq_true]; done)) | ((try dsimp only at *); (try simp only [Bool.not_eq_true', Bool.not_eq_false', bne] at *); simp only [eqv, eqv1, eqv2, eqvL1, eqvL2, *, R.rests, R.two, S.full, bne, Bool.and_true, Bool.true_and, Bool.and_false, Bool.false_and, Bool.or_true, Bool.true_or, Bool.or_false, Bool.false_or, Bool.not_true, Bool.not_false, if_true, if_false, Bool.false_eq_true, beq_self_eq_true]; rfl) | (simp_all [eqv, eqv1, eqv2, eqvL1, eqvL2, R.rests, R.two, S.full]; done))
  · trivial
end Go.Proofs.YtkfbjnikkmoanaaGreatDoor
namespace Go.Proofs.YtkfbjnikkmoanaaGreatDoor
open Go.RowKit Go.Sx
set_option linter.unusedSimpArgs false
set_option linter.unusedVariables false
set_option linter.unnecessarySimpa false
set_option maxRecDepth 100000
set_option maxHeartbeats 4000000
namespace R
theorem bl_lt {n : BitVec 64} {j : Nat} (hj : j ≤ 64) : 2 ^ j ≤ n.toNat ↔ j < bl n := by
  constructor
  · intro h
    have e := Lib.bitLen_shift j n.toNat h n.isLt
    have hp : 0 < 2 ^ j := Nat.pow_pos (by omega)
    have hq : n.toNat / 2 ^ j ≠ 0 := by
      have := Nat.div_le_div_right (c := 2 ^ j) h
      rw [Nat.div_self hp] at this; omega
    have hq2 : n.toNat / 2 ^ j < 2 ^ 64 := Nat.lt_of_le_of_lt (Nat.div_le_self ..) n.isLt
    have := Lib.bitLen_half _ hq hq2
    unfold bl; omega
  · intro h
    apply Classical.byContradiction
    intro hn
    have := Lib.bitLen_le n.toNat j hj (by omega)
    unfold bl at h; omega
theorem ones_lt {n : BitVec 64} {j : Nat} (hj : j ≤ 64) : decide (BitVec.ofNat 64 (2 ^ j - 1) < n) = decide (j < bl n) := by
  apply decide_eq_decide.2
  rw [← bl_lt hj, BitVec.lt_def, BitVec.toNat_ofNat]
  have h1 : 2 ^ j ≤ 2 ^ 64 := Nat.pow_le_pow_right (by omega) hj
  have hp : 0 < 2 ^ j := Nat.pow_pos (by omega)
  rw [Nat.mod_eq_of_lt (by omega)]
  omega
theorem ones_succ (j : Nat) : BitVec.ofNat 64 (2 ^ j - 1) * BitVec.ofInt 64 2 + BitVec.ofInt 64 1 = BitVec.ofNat 64 (2 ^ (j + 1) - 1) := by
  have hp : 0 < 2 ^ j := Nat.pow_pos (by omega)
  rw [show BitVec.ofInt 64 2 = BitVec.ofNat 64 2 by decide, show BitVec.ofInt 64 1 = BitVec.ofNat 64 1 by decide, ← BitVec.ofNat_mul, ← BitVec.ofNat_add]
  congr 1; rw [Nat.pow_succ]; omega
theorem ones_end : ∀ j : Fin 65, BitVec.ofNat 64 (2 ^ j.val - 1) = BitVec.ofInt 64 1 <<< j.val - BitVec.ofInt 64 1 := by decide
theorem half_succ (n : Int) (j : Nat) : half n (j + 1) = half n j / 2 := by
  unfold half
  have h1 : (0 : Int) < 2 ^ j := Int.pow_pos (by decide)
  have h2 : (0 : Int) < 2 ^ (j + 1) := Int.pow_pos (by decide)
  rw [Int.fdiv_eq_ediv_of_nonneg _ (Int.le_of_lt h1), Int.fdiv_eq_ediv_of_nonneg _ (Int.le_of_lt h2), Int.pow_succ, ← Int.ediv_ediv_of_nonneg (Int.le_of_lt h1)]
theorem inI_iff {n : Int} : inI n = true ↔ -9223372036854775808 ≤ n ∧ n ≤ 9223372036854775807 := by unfold inI; simp
theorem half_in {n : Int} (h : inI n = true) : ∀ j, inI (half n j) = true
  | 0 => by simpa [half] using h
  | j + 1 => by
    have := inI_iff.1 (half_in h j)
    rw [half_succ]; apply inI_iff.2; omega
theorem half_neg {m : Int} (h : inI m = true) (hn : m < 0) : IntKind.i64.wrap (IntKind.i64.wrap ((IntKind.i64.wrap (m + 1)).tdiv 2) - 1) = m / 2 := by
  have h := inI_iff.1 h
  rw [IntWalk.i64_in (m + 1) (by omega), Int.tdiv_eq_ediv]
  have hd : ((m + 1) / 2 + if 0 ≤ m + 1 ∨ (2 : Int) ∣ m + 1 then (0 : Int) else (2 : Int).sign) = m / 2 + 1 := by
    rw [show (2 : Int).sign = 1 from rfl]; split <;> omega
  rw [hd, IntWalk.i64_in (m / 2 + 1) (by omega), IntWalk.i64_in _ (by omega)]; omega
theorem half_pos {m : Int} (h : inI m = true) (hn : ¬ m < 0) : IntKind.i64.wrap (m.tdiv 2) = m / 2 := by
  have h := inI_iff.1 h
  rw [Int.tdiv_eq_ediv, if_pos (.inl (by omega)), Int.add_zero, IntWalk.i64_in _ (by omega)]
theorem dbl_out {n : Int} {j : Nat} (h : inI (n * 2 ^ j) = false) : ∀ i, inI (n * 2 ^ (j + i)) = false
  | 0 => h
  | i + 1 => by
    have ih := dbl_out h i
    rw [Bool.eq_false_iff, ne_eq, inI_iff] at ih ⊢
    rw [← Nat.add_assoc, Int.pow_succ, ← Int.mul_assoc]; omega
theorem dbl_no {n : Int} {j K : Nat} (hj : j < K) (h : 4611686018427387903 < n * 2 ^ j ∨ n * 2 ^ j < -4611686018427387904) : doubled n K = (0, false) := by
  have h1 : inI (n * 2 ^ (j + 1)) = false := by
    rw [Bool.eq_false_iff, ne_eq, inI_iff, Int.pow_succ, ← Int.mul_assoc]; omega
  have := dbl_out h1 (K - (j + 1))
  rw [show j + 1 + (K - (j + 1)) = K by omega] at this
  unfold doubled; rw [if_neg (by rw [this]; decide)]
theorem pow_ne {k : Nat} (h : k < 64) : (BitVec.ofInt 64 1 <<< k != 0#64) = true := by
  have : ∀ j : Fin 64, (BitVec.ofInt 64 1 <<< j.val != 0#64) = true := by decide
  exact this ⟨k, h⟩
theorem pow_succ : ∀ j : Fin 64, BitVec.ofInt 64 2 * (BitVec.ofInt 64 1 <<< j.val) = BitVec.ofInt 64 1 <<< (j.val + 1) := by decide
end R
theorem rones_run (n : BitVec 64) : run Tryz.prog ⟨[], eqs, [], [], []⟩ 10000 [] 0 (bodyOf Tryz.f193) (initF Tryz.f193 [.u64 n]) [] (retK Tryz.prog Tryz.f193 fun x _ => eqv x (.u64 (S.ones n))) := by
  (conv => whnf)
  (repeat' (first | (refine And.intro (fun hb => ?_) (fun hb => ?_) <;> (first | contradiction | (conv => whnf))) | (refine And.intro ?_ ?_; rotate_left 1; (conv => whnf))))
  have h64 := bl_le n
  refine .inr ⟨[], [0, 3], fun k vals M => ∃ j : Nat, j ≤ (bl n) ∧ k = (bl n) - j ∧ (True) ∧ vals = [.u64 n, .u64 (BitVec.ofNat 64 (2 ^ j - 1))] ∧ M = [], ?_⟩
  conv => whnf
  refine And.intro ⟨(bl n), [], mle_nil, rfl, rfl, 0, by omega, by omega, trivial, rfl, rfl⟩ ?_
  rintro k vals M1 ⟨j, hj, rfl, hx, rfl, rfl⟩
  (conv => whnf)
  (repeat' (first | (refine And.intro (fun hb => ?_) (fun hb => ?_) <;> (first | contradiction | (conv => whnf))) | (refine And.intro ?_ ?_; rotate_left 1; (conv => whnf))))
  all_goals rw [R.ones_lt (by omega)] at hb
  · have hlt : j < bl n := by simpa using hb
    refine ⟨(bl n) - (j + 1), [], [], by omega, rfl, mle_nil, rfl, rfl, j + 1, by omega, rfl, trivial, ?_, rfl⟩
    rw [← R.ones_succ]; rfl
  · have hj2 : j = bl n := by simp at hb; omega
    subst hj2
    unfold S.ones
    rw [R.ones_end ⟨bl n, by omega⟩]
def k_srOnes : List SV → List Blk → Res := fun args _ => match args with
  | [.u64 n] => .ok (.u64 (S.ones n)) []
  | _ => .fail
theorem k_srOnes_ok : CtrOk Tryz.prog Gw 193 k_srOnes := by
  refine ⟨fun _ _ => by kernel_rfl, fun args M => ?_⟩
  unfold k_srOnes
  split
  · rename_i n
    exact ctr_flat (Γ := ⟨[], eqs, [], [], []⟩) (sv := .u64 (S.ones n)) st_Gw ⟨okNil, eqs_ok, okNilB, okNilI, okNilP⟩ Tryz.func193 rfl mixed [] (by kernel_rfl) 10000 (by rfl) (rones_run n)
  · trivial
theorem rhalf_run (n : Int) (K : Nat) (hn : R.inI n = true) (hK : K ≤ 64) : run Tryz.prog ⟨[], eqs, [], [], []⟩ 10000 [] 0 (bodyOf Tryz.f189) (initF Tryz.f189 [.int .i64 n, .int .i64 (K : Int)]) [] (retK Tryz.prog Tryz.f189 fun x _ => eqv x (.int .i64 (R.half n K))) := by
  (conv => whnf)
  (repeat' (first | (refine And.intro (fun hb => ?_) (fun hb => ?_) <;> (first | contradiction | (conv => whnf))) | (refine And.intro ?_ ?_; rotate_left 1; (conv => whnf))))
  refine .inr ⟨[], [0, 1, 5], fun k vals M => ∃ j : Nat, j ≤ K ∧ k = K - j ∧ (True) ∧ vals = [.int .i64 (R.half n j), .int .i64 (K : Int), .int .i64 (j : Int)] ∧ M = [], ?_⟩
  conv => whnf
  refine And.intro ⟨K, [], mle_nil, rfl, rfl, 0, by omega, by omega, trivial, by simp [Sx.pickF, Sx.nth, R.half], rfl⟩ ?_
  rintro k vals M1 ⟨j, hj, rfl, hx, rfl, rfl⟩
  (conv => whnf)
  (repeat' (first | (refine And.intro (fun hb => ?_) (fun hb => ?_) <;> (first | contradiction | (conv => whnf))) | (refine And.intro ?_ ?_; rotate_left 1; (conv => whnf))))
  all_goals try (first | rfl | trivial | (simp; done) | (simp; omega) | (simp at hb ⊢; omega) | (simp only [decide_eq_true_eq, Bool.and_eq_true, Int.toNat_natCast] at *; omega))
  · have hlt : j < K := by (have h := ‹decide ((j : Int) < (K : Int)) = true›; simp at h; omega)
    refine ⟨K - (j + 1), [], [], by omega, rfl, mle_nil, rfl, rfl, j + 1, by omega, rfl, trivial, ?_, rfl⟩
    rw [R.half_succ, ← R.half_neg (R.half_in hn j) (by simpa using hb), ← wrap_succ (by omega)]; rfl
  · have hlt : j < K := by (have h := ‹decide ((j : Int) < (K : Int)) = true›; simp at h; omega)
    refine ⟨K - (j + 1), [], [], by omega, rfl, mle_nil, rfl, rfl, j + 1, by omega, rfl, trivial, ?_, rfl⟩
    rw [R.half_succ, ← R.half_pos (R.half_in hn j) (of_decide_eq_false hb), ← wrap_succ (by omega)]; rfl
  · have hj2 : j = K := by simp at hb; omega
    subst hj2; rfl
def k_srHalf : List SV → List Blk → Res := fun args _ => match args with
  | [.int .i64 n, .int .i64 k] => .test (R.inI n && (decide (0 ≤ k) && decide (k ≤ 63))) (.ok (.int .i64 (R.half n k.toNat)) [])
  | _ => .fail
theorem k_srHalf_ok : CtrOk Tryz.prog Gw 189 k_srHalf := by
  refine ⟨fun _ _ => by kernel_rfl, fun args M => ?_⟩
  unfold k_srHalf
  split
  · rename_i n k
    intro ht
    exact ctr_flat (Γ := ⟨[], eqs, [], [], []⟩) (sv := .int .i64 (R.half n k.toNat)) st_Gw ⟨okNil, eqs_ok, okNilB, okNilI, okNilP⟩ Tryz.func189 rfl mixed [] (by kernel_rfl) 10000 (by rfl) (by
      simp only [Bool.and_eq_true, decide_eq_true_eq] at ht
      obtain ⟨K, rfl⟩ : ∃ K : Nat, k = K := ⟨k.toNat, by omega⟩
      exact rhalf_run n K ht.1 (by omega))
  · trivial
theorem rdoubled_run (n : Int) (K : Nat) (hn : R.inI n = true) (hK : K ≤ 64) : run Tryz.prog ⟨[], eqs, [], [], []⟩ 10000 [] 0 (bodyOf Tryz.f191) (initF Tryz.f191 [.int .i64 n, .int .i64 (K : Int)]) [] (retK Tryz.prog Tryz.f191 fun x _ => eqv x (.tup [.int .i64 (R.doubled n K).1, .bool (R.doubled n K).2])) := by
  (conv => whnf)
  (repeat' (first | (refine And.intro (fun hb => ?_) (fun hb => ?_) <;> (first | contradiction | (conv => whnf))) | (refine And.intro ?_ ?_; rotate_left 1; (conv => whnf))))
  refine .inr ⟨[], [0, 1, 6], fun k vals M => ∃ j : Nat, j ≤ K ∧ k = K - j ∧ (R.inI (n * 2 ^ j) = true) ∧ vals = [.int .i64 (n * 2 ^ j), .int .i64 (K : Int), .int .i64 (j : Int)] ∧ M = [], ?_⟩
  conv => whnf
  refine And.intro ⟨K, [], mle_nil, rfl, rfl, 0, by omega, by omega, by simpa using hn, by simp [Sx.pickF, Sx.nth], rfl⟩ ?_
  rintro k vals M1 ⟨j, hj, rfl, hx, rfl, rfl⟩
  (conv => whnf)
  (repeat' (first | (refine And.intro (fun hb => ?_) (fun hb => ?_) <;> (first | contradiction | (conv => whnf))) | (refine And.intro ?_ ?_; rotate_left 1; (conv => whnf))))
  all_goals try (first | rfl | trivial | (simp; done) | (simp; omega) | (simp at hb ⊢; omega) | (simp only [decide_eq_true_eq, Bool.and_eq_true, Int.toNat_natCast] at *; omega))
  all_goals first
    | (have hlt : j < K := by (have h := ‹decide ((j : Int) < (K : Int)) = true›; simp at h; omega)
       rw [R.dbl_no hlt (by simp only [decide_eq_true_eq, decide_eq_false_iff_not] at *; omega)]; try rfl)
    | (have hlt : j < K := by (have h := ‹decide ((j : Int) < (K : Int)) = true›; simp at h; omega)
       have h2 : R.inI (n * 2 ^ (j + 1)) = true := by
         rw [R.inI_iff, Int.pow_succ, ← Int.mul_assoc]
         simp only [decide_eq_true_eq, decide_eq_false_iff_not] at *; omega
       refine ⟨K - (j + 1), [], [], by omega, rfl, mle_nil, rfl, rfl, j + 1, by omega, rfl, h2, ?_, rfl⟩
       have h3 := R.inI_iff.1 h2
       rw [← wrap_succ (by omega), show n * 2 ^ (j + 1) = IntKind.i64.wrap (2 * (n * 2 ^ j)) by
         rw [Int.pow_succ, ← Int.mul_assoc] at h3 ⊢
         rw [IntWalk.i64_in _ (by omega)]; omega]; rfl)
    | (have hj2 : j = K := by simp at hb; omega
       subst hj2
       unfold R.doubled; rw [if_pos hx]; try rfl)
def k_srDoubled : List SV → List Blk → Res := fun args _ => match args with
  | [.int .i64 n, .int .i64 k] => .test (R.inI n && (decide (0 ≤ k) && decide (k ≤ 63))) (.ok (.tup [.int .i64 (R.doubled n k.toNat).1, .bool (R.doubled n k.toNat).2]) [])
  | _ => .fail
theorem k_srDoubled_ok : CtrOk Tryz.prog Gw 191 k_srDoubled := by
  refine ⟨fun _ _ => by kernel_rfl, fun args M => ?_⟩
  unfold k_srDoubled
  split
  · rename_i n k
    intro ht
    exact ctr_flat (Γ := ⟨[], eqs, [], [], []⟩) (sv := .tup [.int .i64 (R.doubled n k.toNat).1, .bool (R.doubled n k.toNat).2]) st_Gw ⟨okNil, eqs_ok, okNilB, okNilI, okNilP⟩ Tryz.func191 rfl mixed [] (by kernel_rfl) 10000 (by rfl) (by
      simp only [Bool.and_eq_true, decide_eq_true_eq] at ht
      obtain ⟨K, rfl⟩ : ∃ K : Nat, k = K := ⟨k.toNat, by omega⟩
      exact rdoubled_run n K ht.1 (by omega))
  · trivial
theorem rpower_run (K : Nat) (hK : K ≤ 63) : run Tryz.prog ⟨[], eqs, [], [], []⟩ 10000 [] 0 (bodyOf Tryz.f188) (initF Tryz.f188 [.int .i64 (K : Int)]) [] (retK Tryz.prog Tryz.f188 fun x _ => eqv x (.u64 (BitVec.ofInt 64 1 <<< K))) := by
  (conv => whnf)
  (repeat' (first | (refine And.intro (fun hb => ?_) (fun hb => ?_) <;> (first | contradiction | (conv => whnf))) | (refine And.intro ?_ ?_; rotate_left 1; (conv => whnf))))
  refine .inr ⟨[], [0, 3, 4], fun k vals M => ∃ j : Nat, j ≤ K ∧ k = K - j ∧ (True) ∧ vals = [.int .i64 (K : Int), .u64 (BitVec.ofInt 64 1 <<< j), .int .i64 (j : Int)] ∧ M = [], ?_⟩
  conv => whnf
  refine And.intro ⟨K, [], mle_nil, rfl, rfl, 0, by omega, by omega, trivial, rfl, rfl⟩ ?_
  rintro k vals M1 ⟨j, hj, rfl, hx, rfl, rfl⟩
  (conv => whnf)
  (repeat' (first | (refine And.intro (fun hb => ?_) (fun hb => ?_) <;> (first | contradiction | (conv => whnf))) | (refine And.intro ?_ ?_; rotate_left 1; (conv => whnf))))
  all_goals try (first | rfl | trivial | (simp; done) | (simp; omega) | (simp at hb ⊢; omega) | (simp only [decide_eq_true_eq, Bool.and_eq_true, Int.toNat_natCast] at *; omega))
  · have hlt : j < K := by simp at hb; omega
    refine ⟨K - (j + 1), [], [], by omega, rfl, mle_nil, rfl, rfl, j + 1, by omega, rfl, trivial, ?_, rfl⟩
    rw [← R.pow_succ ⟨j, by omega⟩, ← wrap_succ (by omega)]; rfl
  · have hj2 : j = K := by simp at hb; omega
    subst hj2; rfl
def k_srPower : List SV → List Blk → Res := fun args _ => match args with
  | [.int .i64 k] => .test (decide (0 ≤ k) && decide (k ≤ 63)) (.ok (.u64 (BitVec.ofInt 64 1 <<< k.toNat)) [])
  | _ => .fail
theorem k_srPower_ok : CtrOk Tryz.prog Gw 188 k_srPower := by
  refine ⟨fun _ _ => by kernel_rfl, fun args M => ?_⟩
  unfold k_srPower
  split
  · rename_i k
    intro ht
    exact ctr_flat (Γ := ⟨[], eqs, [], [], []⟩) (sv := .u64 (BitVec.ofInt 64 1 <<< k.toNat)) st_Gw ⟨okNil, eqs_ok, okNilB, okNilI, okNilP⟩ Tryz.func188 rfl mixed [] (by kernel_rfl) 10000 (by rfl) (by
      simp only [Bool.and_eq_true, decide_eq_true_eq] at ht
      obtain ⟨K, rfl⟩ : ∃ K : Nat, k = K := ⟨k.toNat, by omega⟩
      exact rpower_run K (by omega))
  · trivial
end Go.Proofs.YtkfbjnikkmoanaaGreatDoor
namespace Go.Proofs.YtkfbjnikkmoanaaGreatDoor
open Go.RowKit Go.Sx
set_option linter.unusedSimpArgs false
set_option linter.unusedVariables false
set_option linter.unnecessarySimpa false
set_option maxRecDepth 100000
set_option maxHeartbeats 4000000
def k_srBits : List SV → List Blk → Res := fun args _ => match args with
  | [.int .u8 op, .agg [.u64 alo, .u64 ahi, .int .i64 asl, .int .i64 ash], .agg [.u64 blo, .u64 bhi, .int .i64 bsl, .int .i64 bsh]] => .ok (spv (R.bits op (⟨alo, ahi, asl, ash⟩ : Sp) (⟨blo, bhi, bsl, bsh⟩ : Sp))) []
  | _ => .fail
theorem k_srBits_ok : CtrOk Tryz.prog Gw 157 k_srBits := by
  refine ⟨fun _ _ => by kernel_rfl, fun args M => ?_⟩
  unfold k_srBits
  split
  · rename_i op alo ahi asl ash blo bhi bsl bsh
    refine ctr_flat (Γ := ⟨[(192, k_srFull), (193, k_srOnes)], eqs, [], [(151, Tryz.f151, [])], []⟩) (sv := spv (R.bits op (⟨alo, ahi, asl, ash⟩ : Sp) (⟨blo, bhi, bsl, bsh⟩ : Sp))) st_Gw ⟨(okCons k_srFull_ok (okCons k_srOnes_ok okNil)), eqs_ok, okNilB, (okConsI Tryz.func151 rfl (by kernel_rfl) (fun _ _ => by kernel_rfl) okNilI), okNilP⟩ Tryz.func157 rfl mixed [] (by kernel_rfl) 10000 (by rfl) ?_
    (conv => whnf)
    (repeat' (first | (refine And.intro (fun hb => ?_) (fun hb => ?_) <;> (first | contradiction | (conv => whnf))) | (refine And.intro ?_ ?_; rotate_left 1; (conv => whnf))))
    all_goals (first | rfl | trivial | ((try dsimp only at *); (try simp only [Bool.not_eq_true', Bool.not_eq_false', bne, ite_uv] at *); (simp only [eqv, eqv1, eqv2, eqvL1, eqvL2, *, R.bits, R.two, S.full, bne, Bool.and_true, Bool.true_and, Bool.and_false, Bool.false_and, Bool.or_true, Bool.true_or, Bool.or_false, Bool.false_or, Bool.not_true, Bool.not_false, if_true, if_false, Bool.false_eq_true, beq_self_eq_true]; done)) | ((try dsimp only at *); (try simp only [Bool.not_eq_true', Bool.not_eq_false', bne] at *); simp only [eqv, eqv1, eqv2, eqvL1, eqvL2, *, R.bits, R.two, S.full, bne, Bool.and_true, Bool.true_and, Bool.and_false, Bool.false_and, Bool.or_true, Bool.true_or, Bool.or_false, Bool.false_or, Bool.not_true, Bool.not_false, if_true, if_false, Bool.false_eq_true, beq_self_eq_true]; rfl) | (simp_all [eqv, eqv1, eqv2, eqvL1, eqvL2, R.bits, R.two, S.full]; done))
  · trivial
def k_srDo : List SV → List Blk → Res := fun args _ => match args with
  | [.int .u8 op, .agg [.u64 alo, .u64 ahi, .int .i64 asl, .int .i64 ash], .agg [.u64 blo, .u64 bhi, .int .i64 bsl, .int .i64 bsh]] => .ok (.tup [spv (R.does op (⟨alo, ahi, asl, ash⟩ : Sp) (⟨blo, bhi, bsl, bsh⟩ : Sp)).1, .bool (R.does op (⟨alo, ahi, asl, ash⟩ : Sp) (⟨blo, bhi, bsl, bsh⟩ : Sp)).2]) []
  | _ => .fail
theorem k_srDo_ok : CtrOk Tryz.prog Gw 116 k_srDo := by
  refine ⟨fun _ _ => by kernel_rfl, fun args M => ?_⟩
  unfold k_srDo
  split
  · rename_i op alo ahi asl ash blo bhi bsl bsh
    refine ctr_flat (Γ := ⟨[(142, k_srRight), (148, k_srAdd), (154, k_srSub), (149, k_srPlain), (150, k_srSigned), (152, k_srFits), (153, k_srSigns), (155, k_srProducts), (156, k_srRests), (157, k_srBits), (192, k_srFull)], eqs, [], [(151, Tryz.f151, [])], []⟩) (sv := .tup [spv (R.does op (⟨alo, ahi, asl, ash⟩ : Sp) (⟨blo, bhi, bsl, bsh⟩ : Sp)).1, .bool (R.does op (⟨alo, ahi, asl, ash⟩ : Sp) (⟨blo, bhi, bsl, bsh⟩ : Sp)).2]) st_Gw ⟨(okCons k_srRight_ok (okCons k_srAdd_ok (okCons k_srSub_ok (okCons k_srPlain_ok (okCons k_srSigned_ok (okCons k_srFits_ok (okCons k_srSigns_ok (okCons k_srProducts_ok (okCons k_srRests_ok (okCons k_srBits_ok (okCons k_srFull_ok okNil))))))))))), eqs_ok, okNilB, (okConsI Tryz.func151 rfl (by kernel_rfl) (fun _ _ => by kernel_rfl) okNilI), okNilP⟩ Tryz.func116 rfl mixed [(5, 8, [0, 1, 3, 0, 8, 31, 63, 0, 255]), (6, 16, [0, 1, 3, 0, 8, 31, 63, 0, 128, 511, 0, 1024, 4095, 8191, 0, 0, 65535, 131071]), (7, 21, [0, 1, 0, 4, 15, 0, 32, 0, 128, 0, 512, 1536, 0, 4096, 12288, 0, 33152, 98688, 229760, 491904, 1016192, 2097151, 4194303, 8388607]), (9, 16, [0, 1, 3, 0, 8, 31, 63, 0, 128, 511, 0, 1024, 4095, 8191, 0, 0, 65535, 131071]), (10, 16, [0, 1, 3, 0, 8, 31, 63, 0, 128, 511, 0, 1024, 4095, 8191, 0, 0, 65535, 131071]), (11, 18, [0, 1, 0, 4, 0, 16, 0, 64, 192, 0, 512, 1536, 0, 4144, 12336, 28720, 61488, 127024, 262143, 524287, 1048575])] (by kernel_rfl) 10000 (by rfl) ?_
    (conv => whnf)
    (repeat' (first | (refine And.intro (fun hb => ?_) (fun hb => ?_) <;> (first | contradiction | (conv => whnf))) | (refine And.intro ?_ ?_; rotate_left 1; (conv => whnf))))
    all_goals (first | rfl | trivial | ((try dsimp only at *); (try simp only [Bool.not_eq_true', Bool.not_eq_false', bne, ite_uv] at *); (simp only [eqv, eqv1, eqv2, eqvL1, eqvL2, *, R.does, R.two, R.sum, R.dif, S.full, bne, Bool.and_true, Bool.true_and, Bool.and_false, Bool.false_and, Bool.or_true, Bool.true_or, Bool.or_false, Bool.false_or, Bool.not_true, Bool.not_false, if_true, if_false, Bool.false_eq_true, beq_self_eq_true]; done)) | ((try dsimp only at *); (try simp only [Bool.not_eq_true', Bool.not_eq_false', bne] at *); simp only [eqv, eqv1, eqv2, eqvL1, eqvL2, *, R.does, R.two, R.sum, R.dif, S.full, bne, Bool.and_true, Bool.true_and, Bool.and_false, Bool.false_and, Bool.or_true, Bool.true_or, Bool.or_false, Bool.false_or, Bool.not_true, Bool.not_false, if_true, if_false, Bool.false_eq_true, beq_self_eq_true]; rfl) | (simp_all [eqv, eqv1, eqv2, eqvL1, eqvL2, R.does, R.two, R.sum, R.dif, S.full]; done))
  · trivial
def k_srShift : List SV → List Blk → Res := fun args _ => match args with
  | [.int .u8 op, .agg [.u64 alo, .u64 ahi, .int .i64 asl, .int .i64 ash], .int .i64 k] => .test (R.inI asl && R.inI ash) (.ok (.tup [spv (R.shift op (⟨alo, ahi, asl, ash⟩ : Sp) k).1, .bool (R.shift op (⟨alo, ahi, asl, ash⟩ : Sp) k).2]) [])
  | _ => .fail
theorem k_srShift_ok : CtrOk Tryz.prog Gw 147 k_srShift := by
  refine ⟨fun _ _ => by kernel_rfl, fun args M => ?_⟩
  unfold k_srShift
  split
  · rename_i op alo ahi asl ash k
    intro ht
    refine ctr_flat (Γ := ⟨[(142, k_srRight), (188, k_srPower), (189, k_srHalf), (191, k_srDoubled), (190, k_srTimes), (192, k_srFull)], eqs, [], [(151, Tryz.f151, [])], []⟩) (sv := .tup [spv (R.shift op (⟨alo, ahi, asl, ash⟩ : Sp) k).1, .bool (R.shift op (⟨alo, ahi, asl, ash⟩ : Sp) k).2]) st_Gw ⟨(okCons k_srRight_ok (okCons k_srPower_ok (okCons k_srHalf_ok (okCons k_srDoubled_ok (okCons k_srTimes_ok (okCons k_srFull_ok okNil)))))), eqs_ok, okNilB, (okConsI Tryz.func151 rfl (by kernel_rfl) (fun _ _ => by kernel_rfl) okNilI), okNilP⟩ Tryz.func147 rfl mixed [(8, 11, [0, 1, 0, 7, 0, 16, 0, 112, 0, 256, 768, 2047, 4095, 8191]), (10, 7, [0, 1, 0, 7, 0, 16, 0, 127, 255, 511, 1023])] (by kernel_rfl) 10000 (by rfl) ?_
    (conv => whnf)
    (repeat' (first | (refine And.intro (fun hb => ?_) (fun hb => ?_) <;> (first | contradiction | (conv => whnf))) | (refine And.intro ?_ ?_; rotate_left 1; (conv => whnf))))
    all_goals (first | exact R.pow_ne (by simp only [decide_eq_true_eq, decide_eq_false_iff_not] at *; omega) | first | rfl | trivial | ((try dsimp only at *); (try simp only [Bool.not_eq_true', Bool.not_eq_false', bne, ite_uv] at *); (simp only [eqv, eqv1, eqv2, eqvL1, eqvL2, *, R.shift, R.two, S.full, bne, Bool.and_true, Bool.true_and, Bool.and_false, Bool.false_and, Bool.or_true, Bool.true_or, Bool.or_false, Bool.false_or, Bool.not_true, Bool.not_false, if_true, if_false, Bool.false_eq_true, beq_self_eq_true]; done)) | ((try dsimp only at *); (try simp only [Bool.not_eq_true', Bool.not_eq_false', bne] at *); simp only [eqv, eqv1, eqv2, eqvL1, eqvL2, *, R.shift, R.two, S.full, bne, Bool.and_true, Bool.true_and, Bool.and_false, Bool.false_and, Bool.or_true, Bool.true_or, Bool.or_false, Bool.false_or, Bool.not_true, Bool.not_false, if_true, if_false, Bool.false_eq_true, beq_self_eq_true]; rfl) | (simp_all [eqv, eqv1, eqv2, eqvL1, eqvL2, R.shift, R.two, S.full]; done))
  · trivial
end Go.Proofs.YtkfbjnikkmoanaaGreatDoor
