import Derived.Test.YtgaclnllkiihlaaX7
namespace Go.Proofs.Ytgaclnllkiihlaa
open Go.RowKit Go.Sx
set_option linter.unusedSimpArgs false
set_option linter.unusedVariables false
set_option linter.unnecessarySimpa false
set_option maxRecDepth 100000
set_option maxHeartbeats 4000000
def k_of18 : List SV → List Blk → Res := fun args _ => match args with
  | [.int .i64 lo, .int .i64 hi] => .ok (spv (⟨BitVec.ofInt 64 lo, BitVec.ofInt 64 hi, lo, hi⟩ : Sp)) []
  | _ => .fail
theorem k_of18_ok : CtrOk Try.prog Gw 32 k_of18 := by
  refine ⟨fun _ _ => by kernel_rfl, fun args M => ?_⟩
  unfold k_of18
  split
  · rename_i lo hi
    refine ctr_flat (Γ := ⟨[], eqs, [], [], []⟩) (sv := spv (⟨BitVec.ofInt 64 lo, BitVec.ofInt 64 hi, lo, hi⟩ : Sp)) st_Gw ⟨okNil, eqs_ok, okNilB, okNilI, okNilP⟩ Try.func32 rfl mixed [] (by kernel_rfl) 10000 (by rfl) ?_
    (conv => whnf)
    (repeat' (first | (refine And.intro (fun hb => ?_) (fun hb => ?_) <;> (first | contradiction | (conv => whnf))) | (refine And.intro ?_ ?_; rotate_left 1; (conv => whnf))))
    all_goals (first | rfl | trivial | ((try dsimp only at *); (try simp only [Bool.not_eq_true', Bool.not_eq_false', bne, ite_uv] at *); (simp only [eqv, eqv1, eqv2, eqvL1, eqvL2, *, bne, Bool.and_true, Bool.true_and, Bool.and_false, Bool.false_and, Bool.or_true, Bool.true_or, Bool.or_false, Bool.false_or, Bool.not_true, Bool.not_false, if_true, if_false, Bool.false_eq_true, beq_self_eq_true]; done)) | ((try dsimp only at *); (try simp only [Bool.not_eq_true', Bool.not_eq_false', bne] at *); simp only [eqv, eqv1, eqv2, eqvL1, eqvL2, *, bne, Bool.and_true, Bool.true_and, Bool.and_false, Bool.false_and, Bool.or_true, Bool.true_or, Bool.or_false, Bool.false_or, Bool.not_true, Bool.not_false, if_true, if_false, Bool.false_eq_true, beq_self_eq_true]; rfl) | (simp_all [eqv, eqv1, eqv2, eqvL1, eqvL2]; done))
  · trivial
def S.eqs (a b : Sp) : Bool := a.lo == b.lo && (a.hi == b.hi && (a.sl == b.sl && (a.sh == b.sh && true)))
def k_is18 : List SV → List Blk → Res := fun args _ => match args with
  | [.agg [.u64 alo, .u64 ahi, .int .i64 asl, .int .i64 ash], .bool k, .agg [.u64 blo, .u64 bhi, .int .i64 bsl, .int .i64 bsh]] => .ok (.bool (k && S.eqs (⟨alo, ahi, asl, ash⟩ : Sp) (⟨blo, bhi, bsl, bsh⟩ : Sp))) []
  | _ => .fail
theorem k_is18_ok : CtrOk Try.prog Gw 34 k_is18 := by
  refine ⟨fun _ _ => by kernel_rfl, fun args M => ?_⟩
  unfold k_is18
  split
  · rename_i alo ahi asl ash k blo bhi bsl bsh
    refine ctr_flat (Γ := ⟨[], eqs, [], [], []⟩) (sv := .bool (k && S.eqs (⟨alo, ahi, asl, ash⟩ : Sp) (⟨blo, bhi, bsl, bsh⟩ : Sp))) st_Gw ⟨okNil, eqs_ok, okNilB, okNilI, okNilP⟩ Try.func34 rfl mixed [] (by kernel_rfl) 10000 (by rfl) ?_
    (conv => whnf)
    (repeat' (first | (refine And.intro (fun hb => ?_) (fun hb => ?_) <;> (first | contradiction | (conv => whnf))) | (refine And.intro ?_ ?_; rotate_left 1; (conv => whnf))))
    all_goals (first | rfl | trivial | ((try dsimp only at *); (try simp only [Bool.not_eq_true', Bool.not_eq_false', bne, ite_uv] at *); (simp only [eqv, eqv1, eqv2, eqvL1, eqvL2, *, S.eqs, bne, Bool.and_true, Bool.true_and, Bool.and_false, Bool.false_and, Bool.or_true, Bool.true_or, Bool.or_false, Bool.false_or, Bool.not_true, Bool.not_false, if_true, if_false, Bool.false_eq_true, beq_self_eq_true]; done)) | ((try dsimp only at *); (try simp only [Bool.not_eq_true', Bool.not_eq_false', bne] at *); simp only [eqv, eqv1, eqv2, eqvL1, eqvL2, *, S.eqs, bne, Bool.and_true, Bool.true_and, Bool.and_false, Bool.false_and, Bool.or_true, Bool.true_or, Bool.or_false, Bool.false_or, Bool.not_true, Bool.not_false, if_true, if_false, Bool.false_eq_true, beq_self_eq_true]; rfl) | (simp_all [eqv, eqv1, eqv2, eqvL1, eqvL2, S.eqs]; done))
  · trivial
def k_awake : List SV → List Blk → Res := fun args _ => match args with
  | [] => .ok (.bool true) []
  | _ => .fail
theorem k_awake_ok : CtrOk Try.prog Gw 9 k_awake := by
  refine ⟨fun _ _ => by kernel_rfl, fun args M => ?_⟩
  unfold k_awake
  split
  · refine ctr_flat (Γ := ⟨[(7, k_Do), (32, k_of18), (33, k_Full), (16, k_Const), (10, k_Shift), (34, k_is18)], eqs, [], [], []⟩) (sv := .bool true) st_Gw ⟨(okCons k_Do_ok (okCons k_of18_ok (okCons k_Full_ok (okCons k_Const_ok (okCons k_Shift_ok (okCons k_is18_ok okNil)))))), eqs_ok, okNilB, okNilI, okNilP⟩ Try.func9 rfl mixed [(6, 20, [0, 0, 0, 7, 15, 31, 31, 31, 255, 511, 1023, 2047, 2047, 2047, 16383, 32767, 65535, 131071, 131071, 131071, 1048575, 2097151, 4194303])] (by kernel_rfl) 10000 (by rfl) ?_
    (conv => whnf)
    (repeat' (first | (refine And.intro (fun hb => ?_) (fun hb => ?_) <;> (first | contradiction | (conv => whnf))) | (refine And.intro ?_ ?_; rotate_left 1; (conv => whnf))))
    all_goals (first | kernel_rfl | trivial | (simp (decide := true) at hb; done) | (exact absurd hb (by decide)))
  · trivial
end Go.Proofs.Ytgaclnllkiihlaa
