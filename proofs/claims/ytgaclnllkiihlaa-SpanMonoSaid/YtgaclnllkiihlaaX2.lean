import Derived.Test.YtgaclnllkiihlaaX1
namespace Go.Proofs.Ytgaclnllkiihlaa
open Go.RowKit Go.Sx
set_option linter.unusedSimpArgs false
set_option linter.unusedVariables false
set_option linter.unnecessarySimpa false
set_option maxRecDepth 100000
set_option maxHeartbeats 4000000
/-- A sum of words, its carry. -/
def k_Add64 : List SV → Option SV := fun args => match args with
  | [.u64 x, .u64 y, .u64 c] => match Nat.beq c.toNat 0 with
    | true => some (.tup [.u64 (x + y), .u64 (S.carry x y)])
    | false => none
  | _ => none
theorem k_Add64_ok : PrimOk Try.prog 105 k_Add64 := by
  intro args sv h ρ w
  unfold k_Add64 at h
  split at h
  · rename_i x y c
    split at h
    · rename_i hc
      obtain rfl := Option.some.inj h
      have hc0 : uv c = 0 := by
        have := Nat.eq_of_beq_eq_true hc
        unfold uv; omega
      rw [run_callFunc_extern (e := add64Entry) Try.func105 (by kernel_rfl) (by kernel_rfl) (by kernel_rfl) (by kernel_rfl)]
      have := run_add64 (P := Try.prog) (uv x) (uv y) (uv c) (uv_nonneg x) (uv_nonneg y) (by omega) (by omega) w
      simp only [denL, SV.den]
      rw [this]
      have e1 : (uv x + uv y + uv c) % 18446744073709551616 = uv (x + y) := by
        rw [hc0]; unfold uv; rw [BitVec.toNat_add]; omega
      have e2 : (uv x + uv y + uv c) / 18446744073709551616 = uv (S.carry x y) := by
        rw [hc0]; unfold uv S.carry; rw [BitVec.toNat_ofNat, Nat.mod_eq_of_lt (by have := x.isLt; have := y.isLt; omega)]; omega
      rw [e1, e2]; rfl
    · cases h
  · cases h
def k_sum : List SV → List Blk → Res := fun args _ => match args with
  | [.agg [.u64 alo, .u64 ahi], .agg [.u64 blo, .u64 bhi]] => .ok (plv (S.sum (⟨alo, ahi⟩ : Pl) (⟨blo, bhi⟩ : Pl))) []
  | _ => .fail
theorem k_sum_ok : CtrOk Try.prog Gw 49 k_sum := by
  refine ⟨fun _ _ => by kernel_rfl, fun args M => ?_⟩
  unfold k_sum
  split
  · rename_i alo ahi blo bhi
    refine ctr_flat (Γ := ⟨[(35, k_all)], eqs, [], [], [(105, k_Add64)]⟩) (sv := plv (S.sum (⟨alo, ahi⟩ : Pl) (⟨blo, bhi⟩ : Pl))) st_Gw ⟨(okCons k_all_ok okNil), eqs_ok, okNilB, okNilI, (okConsP k_Add64_ok okNilP)⟩ Try.func49 rfl mixed [] (by kernel_rfl) 10000 (by rfl) ?_
    (conv => whnf)
    (repeat' (first | (refine And.intro (fun hb => ?_) (fun hb => ?_) <;> (first | contradiction | (conv => whnf))) | (refine And.intro ?_ ?_; rotate_left 1; (conv => whnf))))
    all_goals (first | rfl | trivial | ((try dsimp only at *); (try simp only [Bool.not_eq_true', Bool.not_eq_false', bne, ite_uv] at *); (simp only [eqv, eqv1, eqv2, eqvL1, eqvL2, *, S.sum, S.full, bne, Bool.and_true, Bool.true_and, Bool.and_false, Bool.false_and, Bool.or_true, Bool.true_or, Bool.or_false, Bool.false_or, Bool.not_true, Bool.not_false, if_true, if_false, Bool.false_eq_true, beq_self_eq_true]; done)) | ((try dsimp only at *); (try simp only [Bool.not_eq_true', Bool.not_eq_false', bne] at *); simp only [eqv, eqv1, eqv2, eqvL1, eqvL2, *, S.sum, S.full, bne, Bool.and_true, Bool.true_and, Bool.and_false, Bool.false_and, Bool.or_true, Bool.true_or, Bool.or_false, Bool.false_or, Bool.not_true, Bool.not_false, if_true, if_false, Bool.false_eq_true, beq_self_eq_true]; rfl) | (simp_all [eqv, eqv1, eqv2, eqvL1, eqvL2, S.sum, S.full]; done))
  · trivial
def k_over : List SV → List Blk → Res := fun args _ => match args with
  | [.int .i64 a, .int .i64 b] => .ok (.bool (S.over a b)) []
  | _ => .fail
theorem k_over_ok : CtrOk Try.prog Gw 106 k_over := by
  refine ⟨fun _ _ => by kernel_rfl, fun args M => ?_⟩
  unfold k_over
  split
  · rename_i a b
    refine ctr_flat (Γ := ⟨[], eqs, [], [], []⟩) (sv := .bool (S.over a b)) st_Gw ⟨okNil, eqs_ok, okNilB, okNilI, okNilP⟩ Try.func106 rfl mixed [] (by kernel_rfl) 10000 (by rfl) ?_
    (conv => whnf)
    (repeat' (first | (refine And.intro (fun hb => ?_) (fun hb => ?_) <;> (first | contradiction | (conv => whnf))) | (refine And.intro ?_ ?_; rotate_left 1; (conv => whnf))))
    all_goals (first | rfl | trivial | ((try dsimp only at *); (try simp only [Bool.not_eq_true', Bool.not_eq_false', bne, ite_uv] at *); (simp only [eqv, eqv1, eqv2, eqvL1, eqvL2, *, S.over, bne, Bool.and_true, Bool.true_and, Bool.and_false, Bool.false_and, Bool.or_true, Bool.true_or, Bool.or_false, Bool.false_or, Bool.not_true, Bool.not_false, if_true, if_false, Bool.false_eq_true, beq_self_eq_true]; done)) | ((try dsimp only at *); (try simp only [Bool.not_eq_true', Bool.not_eq_false', bne] at *); simp only [eqv, eqv1, eqv2, eqvL1, eqvL2, *, S.over, bne, Bool.and_true, Bool.true_and, Bool.and_false, Bool.false_and, Bool.or_true, Bool.true_or, Bool.or_false, Bool.false_or, Bool.not_true, Bool.not_false, if_true, if_false, Bool.false_eq_true, beq_self_eq_true]; rfl) | (simp_all [eqv, eqv1, eqv2, eqvL1, eqvL2, S.over]; done))
  · trivial
def k_under : List SV → List Blk → Res := fun args _ => match args with
  | [.int .i64 a, .int .i64 b] => .ok (.bool (S.under a b)) []
  | _ => .fail
theorem k_under_ok : CtrOk Try.prog Gw 107 k_under := by
  refine ⟨fun _ _ => by kernel_rfl, fun args M => ?_⟩
  unfold k_under
  split
  · rename_i a b
    refine ctr_flat (Γ := ⟨[], eqs, [], [], []⟩) (sv := .bool (S.under a b)) st_Gw ⟨okNil, eqs_ok, okNilB, okNilI, okNilP⟩ Try.func107 rfl mixed [] (by kernel_rfl) 10000 (by rfl) ?_
    (conv => whnf)
    (repeat' (first | (refine And.intro (fun hb => ?_) (fun hb => ?_) <;> (first | contradiction | (conv => whnf))) | (refine And.intro ?_ ?_; rotate_left 1; (conv => whnf))))
    all_goals (first | rfl | trivial | ((try dsimp only at *); (try simp only [Bool.not_eq_true', Bool.not_eq_false', bne, ite_uv] at *); (simp only [eqv, eqv1, eqv2, eqvL1, eqvL2, *, S.under, bne, Bool.and_true, Bool.true_and, Bool.and_false, Bool.false_and, Bool.or_true, Bool.true_or, Bool.or_false, Bool.false_or, Bool.not_true, Bool.not_false, if_true, if_false, Bool.false_eq_true, beq_self_eq_true]; done)) | ((try dsimp only at *); (try simp only [Bool.not_eq_true', Bool.not_eq_false', bne] at *); simp only [eqv, eqv1, eqv2, eqvL1, eqvL2, *, S.under, bne, Bool.and_true, Bool.true_and, Bool.and_false, Bool.false_and, Bool.or_true, Bool.true_or, Bool.or_false, Bool.false_or, Bool.not_true, Bool.not_false, if_true, if_false, Bool.false_eq_true, beq_self_eq_true]; rfl) | (simp_all [eqv, eqv1, eqv2, eqvL1, eqvL2, S.under]; done))
  · trivial
def k_sums : List SV → List Blk → Res := fun args _ => match args with
  | [.agg [.int .i64 asl, .int .i64 ash], .agg [.int .i64 bsl, .int .i64 bsh]] => .ok (sgv (S.sums (⟨asl, ash⟩ : Sg) (⟨bsl, bsh⟩ : Sg))) []
  | _ => .fail
theorem k_sums_ok : CtrOk Try.prog Gw 50 k_sums := by
  refine ⟨fun _ _ => by kernel_rfl, fun args M => ?_⟩
  unfold k_sums
  split
  · rename_i asl ash bsl bsh
    refine ctr_flat (Γ := ⟨[(106, k_over), (35, k_all)], eqs, [], [], []⟩) (sv := sgv (S.sums (⟨asl, ash⟩ : Sg) (⟨bsl, bsh⟩ : Sg))) st_Gw ⟨(okCons k_over_ok (okCons k_all_ok okNil)), eqs_ok, okNilB, okNilI, okNilP⟩ Try.func50 rfl mixed [] (by kernel_rfl) 10000 (by rfl) ?_
    (conv => whnf)
    (repeat' (first | (refine And.intro (fun hb => ?_) (fun hb => ?_) <;> (first | contradiction | (conv => whnf))) | (refine And.intro ?_ ?_; rotate_left 1; (conv => whnf))))
    all_goals (first | rfl | trivial | ((try dsimp only at *); (try simp only [Bool.not_eq_true', Bool.not_eq_false', bne, ite_uv] at *); (simp only [eqv, eqv1, eqv2, eqvL1, eqvL2, *, S.sums, S.full, bne, Bool.and_true, Bool.true_and, Bool.and_false, Bool.false_and, Bool.or_true, Bool.true_or, Bool.or_false, Bool.false_or, Bool.not_true, Bool.not_false, if_true, if_false, Bool.false_eq_true, beq_self_eq_true]; done)) | ((try dsimp only at *); (try simp only [Bool.not_eq_true', Bool.not_eq_false', bne] at *); simp only [eqv, eqv1, eqv2, eqvL1, eqvL2, *, S.sums, S.full, bne, Bool.and_true, Bool.true_and, Bool.and_false, Bool.false_and, Bool.or_true, Bool.true_or, Bool.or_false, Bool.false_or, Bool.not_true, Bool.not_false, if_true, if_false, Bool.false_eq_true, beq_self_eq_true]; rfl) | (simp_all [eqv, eqv1, eqv2, eqvL1, eqvL2, S.sums, S.full]; done))
  · trivial
def k_less : List SV → List Blk → Res := fun args _ => match args with
  | [.agg [.u64 alo, .u64 ahi, .int .i64 asl, .int .i64 ash], .agg [.u64 blo, .u64 bhi, .int .i64 bsl, .int .i64 bsh]] => .ok (spv (S.less (⟨alo, ahi, asl, ash⟩ : Sp) (⟨blo, bhi, bsl, bsh⟩ : Sp))) []
  | _ => .fail
theorem k_less_ok : CtrOk Try.prog Gw 51 k_less := by
  refine ⟨fun _ _ => by kernel_rfl, fun args M => ?_⟩
  unfold k_less
  split
  · rename_i alo ahi asl ash blo bhi bsl bsh
    refine ctr_flat (Γ := ⟨[(107, k_under), (35, k_all)], eqs, [], [], []⟩) (sv := spv (S.less (⟨alo, ahi, asl, ash⟩ : Sp) (⟨blo, bhi, bsl, bsh⟩ : Sp))) st_Gw ⟨(okCons k_under_ok (okCons k_all_ok okNil)), eqs_ok, okNilB, okNilI, okNilP⟩ Try.func51 rfl mixed [] (by kernel_rfl) 10000 (by rfl) ?_
    (conv => whnf)
    (repeat' (first | (refine And.intro (fun hb => ?_) (fun hb => ?_) <;> (first | contradiction | (conv => whnf))) | (refine And.intro ?_ ?_; rotate_left 1; (conv => whnf))))
    all_goals (first | rfl | trivial | ((try dsimp only at *); (try simp only [Bool.not_eq_true', Bool.not_eq_false', bne, ite_uv] at *); (simp only [eqv, eqv1, eqv2, eqvL1, eqvL2, *, S.less, S.full, bne, Bool.and_true, Bool.true_and, Bool.and_false, Bool.false_and, Bool.or_true, Bool.true_or, Bool.or_false, Bool.false_or, Bool.not_true, Bool.not_false, if_true, if_false, Bool.false_eq_true, beq_self_eq_true]; done)) | ((try dsimp only at *); (try simp only [Bool.not_eq_true', Bool.not_eq_false', bne] at *); simp only [eqv, eqv1, eqv2, eqvL1, eqvL2, *, S.less, S.full, bne, Bool.and_true, Bool.true_and, Bool.and_false, Bool.false_and, Bool.or_true, Bool.true_or, Bool.or_false, Bool.false_or, Bool.not_true, Bool.not_false, if_true, if_false, Bool.false_eq_true, beq_self_eq_true]; rfl) | (simp_all [eqv, eqv1, eqv2, eqvL1, eqvL2, S.less, S.full]; done))
  · trivial
def k_times : List SV → List Blk → Res := fun args _ => match args with
  | [.agg [.u64 alo, .u64 ahi, .int .i64 asl, .int .i64 ash], .agg [.u64 blo, .u64 bhi, .int .i64 bsl, .int .i64 bsh]] => .ok (spv (S.times (⟨alo, ahi, asl, ash⟩ : Sp) (⟨blo, bhi, bsl, bsh⟩ : Sp))) []
  | _ => .fail
theorem k_times_ok : CtrOk Try.prog Gw 52 k_times := by
  refine ⟨fun _ _ => by kernel_rfl, fun args M => ?_⟩
  unfold k_times
  split
  · rename_i alo ahi asl ash blo bhi bsl bsh
    refine ctr_flat (Γ := ⟨[(108, k_mul64), (35, k_all)], eqs, [], [], []⟩) (sv := spv (S.times (⟨alo, ahi, asl, ash⟩ : Sp) (⟨blo, bhi, bsl, bsh⟩ : Sp))) st_Gw ⟨(okCons k_mul64_ok (okCons k_all_ok okNil)), eqs_ok, okNilB, okNilI, okNilP⟩ Try.func52 rfl mixed [] (by kernel_rfl) 10000 (by rfl) ?_
    (conv => whnf)
    (repeat' (first | (refine And.intro (fun hb => ?_) (fun hb => ?_) <;> (first | contradiction | (conv => whnf))) | (refine And.intro ?_ ?_; rotate_left 1; (conv => whnf))))
    all_goals (first | rfl | trivial | ((try dsimp only at *); (try simp only [Bool.not_eq_true', Bool.not_eq_false', bne, ite_uv] at *); (simp only [eqv, eqv1, eqv2, eqvL1, eqvL2, *, S.times, S.full, bne, Bool.and_true, Bool.true_and, Bool.and_false, Bool.false_and, Bool.or_true, Bool.true_or, Bool.or_false, Bool.false_or, Bool.not_true, Bool.not_false, if_true, if_false, Bool.false_eq_true, beq_self_eq_true]; done)) | ((try dsimp only at *); (try simp only [Bool.not_eq_true', Bool.not_eq_false', bne] at *); simp only [eqv, eqv1, eqv2, eqvL1, eqvL2, *, S.times, S.full, bne, Bool.and_true, Bool.true_and, Bool.and_false, Bool.false_and, Bool.or_true, Bool.true_or, Bool.or_false, Bool.false_or, Bool.not_true, Bool.not_false, if_true, if_false, Bool.false_eq_true, beq_self_eq_true]; rfl) | (simp_all [eqv, eqv1, eqv2, eqvL1, eqvL2, S.times, S.full]; done))
  · trivial
def k_quotient : List SV → List Blk → Res := fun args _ => match args with
  | [.agg [.u64 alo, .u64 ahi, .int .i64 asl, .int .i64 ash], .agg [.u64 blo, .u64 bhi, .int .i64 bsl, .int .i64 bsh]] => .ok (spv (S.quotient (⟨alo, ahi, asl, ash⟩ : Sp) (⟨blo, bhi, bsl, bsh⟩ : Sp))) []
  | _ => .fail
theorem k_quotient_ok : CtrOk Try.prog Gw 53 k_quotient := by
  refine ⟨fun _ _ => by kernel_rfl, fun args M => ?_⟩
  unfold k_quotient
  split
  · rename_i alo ahi asl ash blo bhi bsl bsh
    refine ctr_flat (Γ := ⟨[(35, k_all)], eqs, [], [], []⟩) (sv := spv (S.quotient (⟨alo, ahi, asl, ash⟩ : Sp) (⟨blo, bhi, bsl, bsh⟩ : Sp))) st_Gw ⟨(okCons k_all_ok okNil), eqs_ok, okNilB, okNilI, okNilP⟩ Try.func53 rfl mixed [(2, 14, [0, 1, 3, 0, 8, 24, 63, 0, 128, 384, 0, 1024, 3072, 8064, 16383, 32767, 65535])] (by kernel_rfl) 10000 (by rfl) ?_
    (conv => whnf)
    (repeat' (first | (refine And.intro (fun hb => ?_) (fun hb => ?_) <;> (first | contradiction | (conv => whnf))) | (refine And.intro ?_ ?_; rotate_left 1; (conv => whnf))))
    all_goals (first | rfl | trivial | ((try dsimp only at *); (try simp only [Bool.not_eq_true', Bool.not_eq_false', bne, ite_uv] at *); (simp only [eqv, eqv1, eqv2, eqvL1, eqvL2, *, S.quotient, S.full, bne, Bool.and_true, Bool.true_and, Bool.and_false, Bool.false_and, Bool.or_true, Bool.true_or, Bool.or_false, Bool.false_or, Bool.not_true, Bool.not_false, if_true, if_false, Bool.false_eq_true, beq_self_eq_true]; done)) | ((try dsimp only at *); (try simp only [Bool.not_eq_true', Bool.not_eq_false', bne] at *); simp only [eqv, eqv1, eqv2, eqvL1, eqvL2, *, S.quotient, S.full, bne, Bool.and_true, Bool.true_and, Bool.and_false, Bool.false_and, Bool.or_true, Bool.true_or, Bool.or_false, Bool.false_or, Bool.not_true, Bool.not_false, if_true, if_false, Bool.false_eq_true, beq_self_eq_true]; rfl) | (simp_all [eqv, eqv1, eqv2, eqvL1, eqvL2, S.quotient, S.full]; done))
  · trivial
def k_rest : List SV → List Blk → Res := fun args _ => match args with
  | [.agg [.u64 alo, .u64 ahi, .int .i64 asl, .int .i64 ash], .agg [.u64 blo, .u64 bhi, .int .i64 bsl, .int .i64 bsh]] => .ok (spv (S.rest (⟨alo, ahi, asl, ash⟩ : Sp) (⟨blo, bhi, bsl, bsh⟩ : Sp))) []
  | _ => .fail
theorem k_rest_ok : CtrOk Try.prog Gw 54 k_rest := by
  refine ⟨fun _ _ => by kernel_rfl, fun args M => ?_⟩
  unfold k_rest
  split
  · rename_i alo ahi asl ash blo bhi bsl bsh
    refine ctr_flat (Γ := ⟨[(35, k_all)], eqs, [], [], []⟩) (sv := spv (S.rest (⟨alo, ahi, asl, ash⟩ : Sp) (⟨blo, bhi, bsl, bsh⟩ : Sp))) st_Gw ⟨(okCons k_all_ok okNil), eqs_ok, okNilB, okNilI, okNilP⟩ Try.func54 rfl mixed [] (by kernel_rfl) 10000 (by rfl) ?_
    (conv => whnf)
    (repeat' (first | (refine And.intro (fun hb => ?_) (fun hb => ?_) <;> (first | contradiction | (conv => whnf))) | (refine And.intro ?_ ?_; rotate_left 1; (conv => whnf))))
    all_goals (first | rfl | trivial | ((try dsimp only at *); (try simp only [Bool.not_eq_true', Bool.not_eq_false', bne, ite_uv] at *); (simp only [eqv, eqv1, eqv2, eqvL1, eqvL2, *, S.rest, S.full, bne, Bool.and_true, Bool.true_and, Bool.and_false, Bool.false_and, Bool.or_true, Bool.true_or, Bool.or_false, Bool.false_or, Bool.not_true, Bool.not_false, if_true, if_false, Bool.false_eq_true, beq_self_eq_true]; done)) | ((try dsimp only at *); (try simp only [Bool.not_eq_true', Bool.not_eq_false', bne] at *); simp only [eqv, eqv1, eqv2, eqvL1, eqvL2, *, S.rest, S.full, bne, Bool.and_true, Bool.true_and, Bool.and_false, Bool.false_and, Bool.or_true, Bool.true_or, Bool.or_false, Bool.false_or, Bool.not_true, Bool.not_false, if_true, if_false, Bool.false_eq_true, beq_self_eq_true]; rfl) | (simp_all [eqv, eqv1, eqv2, eqvL1, eqvL2, S.rest, S.full]; done))
  · trivial
def k_ones : List SV → List Blk → Res := fun args _ => match args with
  | [.u64 n] => .ok (.u64 (S.ones n)) []
  | _ => .fail
theorem k_ones_ok : CtrOk Try.prog Gw 109 k_ones := by
  refine ⟨fun _ _ => by kernel_rfl, fun args M => ?_⟩
  unfold k_ones
  split
  · rename_i n
    refine ctr_flat (Γ := ⟨[(110, k_len64)], eqs, [], [], []⟩) (sv := .u64 (S.ones n)) st_Gw ⟨(okCons k_len64_ok okNil), eqs_ok, okNilB, okNilI, okNilP⟩ Try.func109 rfl mixed [] (by kernel_rfl) 10000 (by rfl) ?_
    (conv => whnf)
    (repeat' (first | (refine And.intro (fun hb => ?_) (fun hb => ?_) <;> (first | contradiction | (conv => whnf))) | (refine And.intro ?_ ?_; rotate_left 1; (conv => whnf))))
    all_goals (first | rfl | trivial | ((try dsimp only at *); (try simp only [Bool.not_eq_true', Bool.not_eq_false', bne, ite_uv] at *); (simp only [eqv, eqv1, eqv2, eqvL1, eqvL2, *, S.ones, bne, Bool.and_true, Bool.true_and, Bool.and_false, Bool.false_and, Bool.or_true, Bool.true_or, Bool.or_false, Bool.false_or, Bool.not_true, Bool.not_false, if_true, if_false, Bool.false_eq_true, beq_self_eq_true]; done)) | ((try dsimp only at *); (try simp only [Bool.not_eq_true', Bool.not_eq_false', bne] at *); simp only [eqv, eqv1, eqv2, eqvL1, eqvL2, *, S.ones, bne, Bool.and_true, Bool.true_and, Bool.and_false, Bool.false_and, Bool.or_true, Bool.true_or, Bool.or_false, Bool.false_or, Bool.not_true, Bool.not_false, if_true, if_false, Bool.false_eq_true, beq_self_eq_true]; rfl) | (simp_all [eqv, eqv1, eqv2, eqvL1, eqvL2, S.ones]; done))
  · trivial
def k_or : List SV → List Blk → Res := fun args _ => match args with
  | [.agg [.u64 alo, .u64 ahi, .int .i64 asl, .int .i64 ash], .agg [.u64 blo, .u64 bhi, .int .i64 bsl, .int .i64 bsh], .agg [.u64 clo, .u64 chi, .int .i64 csl, .int .i64 csh]] => .ok (spv (S.or (⟨alo, ahi, asl, ash⟩ : Sp) (⟨blo, bhi, bsl, bsh⟩ : Sp) (⟨clo, chi, csl, csh⟩ : Sp))) []
  | _ => .fail
theorem k_or_ok : CtrOk Try.prog Gw 57 k_or := by
  refine ⟨fun _ _ => by kernel_rfl, fun args M => ?_⟩
  unfold k_or
  split
  · rename_i alo ahi asl ash blo bhi bsl bsh clo chi csl csh
    refine ctr_flat (Γ := ⟨[(109, k_ones), (35, k_all)], eqs, [], [], []⟩) (sv := spv (S.or (⟨alo, ahi, asl, ash⟩ : Sp) (⟨blo, bhi, bsl, bsh⟩ : Sp) (⟨clo, chi, csl, csh⟩ : Sp))) st_Gw ⟨(okCons k_ones_ok (okCons k_all_ok okNil)), eqs_ok, okNilB, okNilI, okNilP⟩ Try.func57 rfl mixed [(2, 11, [0, 1, 3, 0, 8, 24, 0, 64, 192, 504, 1016, 2047, 4095, 8191]), (4, 13, [0, 1, 3, 0, 8, 24, 0, 64, 192, 504, 1016, 2040, 4088, 8191, 16383, 32767])] (by kernel_rfl) 10000 (by rfl) ?_
    (conv => whnf)
    (repeat' (first | (refine And.intro (fun hb => ?_) (fun hb => ?_) <;> (first | contradiction | (conv => whnf))) | (refine And.intro ?_ ?_; rotate_left 1; (conv => whnf))))
    all_goals (first | rfl | trivial | ((try dsimp only at *); (try simp only [Bool.not_eq_true', Bool.not_eq_false', bne, ite_uv] at *); (simp only [eqv, eqv1, eqv2, eqvL1, eqvL2, *, S.or, S.full, bne, Bool.and_true, Bool.true_and, Bool.and_false, Bool.false_and, Bool.or_true, Bool.true_or, Bool.or_false, Bool.false_or, Bool.not_true, Bool.not_false, if_true, if_false, Bool.false_eq_true, beq_self_eq_true]; done)) | ((try dsimp only at *); (try simp only [Bool.not_eq_true', Bool.not_eq_false', bne] at *); simp only [eqv, eqv1, eqv2, eqvL1, eqvL2, *, S.or, S.full, bne, Bool.and_true, Bool.true_and, Bool.and_false, Bool.false_and, Bool.or_true, Bool.true_or, Bool.or_false, Bool.false_or, Bool.not_true, Bool.not_false, if_true, if_false, Bool.false_eq_true, beq_self_eq_true]; rfl) | (simp_all [eqv, eqv1, eqv2, eqvL1, eqvL2, S.or, S.full]; done))
  · trivial
end Go.Proofs.Ytgaclnllkiihlaa
