import Derived.Test.YtgaclnllkiihlaaSpanP
import Derived.Test.YtgaclnllkiihlaaX8
namespace Go.Proofs.Ytgaclnllkiihlaa
open Go.RowKit Go.Sx
set_option linter.unusedSimpArgs false
set_option linter.unusedVariables false
set_option linter.unnecessarySimpa false
set_option maxRecDepth 100000
set_option maxHeartbeats 4000000
def k_SpanDoes : List SV → List Blk → Res := fun args _ => match args with
  | [.int .u8 op, .agg [.u64 alo, .u64 ahi, .int .i64 asl, .int .i64 ash], .agg [.u64 blo, .u64 bhi, .int .i64 bsl, .int .i64 bsh]] => .test (R.inS (⟨alo, ahi, asl, ash⟩ : Sp) && R.inS (⟨blo, bhi, bsl, bsh⟩ : Sp)) (.ok (.bool true) [])
  | _ => .fail
theorem k_SpanDoes_ok : CtrOk Try.prog Gw 3 k_SpanDoes := by
  refine ⟨fun _ _ => by kernel_rfl, fun args M => ?_⟩
  unfold k_SpanDoes
  split
  · rename_i op alo ahi asl ash blo bhi bsl bsh
    intro ht
    have e := R.does_eq op (Bool.and_eq_true _ _ ▸ ht).1 (Bool.and_eq_true _ _ ▸ ht).2
    refine ctr_flat (Γ := ⟨[(9, k_awake), (7, k_Do), (8, k_rDo)], eqs, [], [], []⟩) (sv := .bool true) st_Gw ⟨(okCons k_awake_ok (okCons k_Do_ok (okCons k_rDo_ok okNil))), eqs_ok, okNilB, okNilI, okNilP⟩ Try.func3 rfl mixed [] (by kernel_rfl) 10000 (by rfl) ?_
    (conv => whnf)
    (repeat' (first | (refine And.intro (fun hb => ?_) (fun hb => ?_) <;> (first | contradiction | (conv => whnf))) | (refine And.intro ?_ ?_; rotate_left 1; (conv => whnf))))
    all_goals (first | trivial | rfl | (simp only [e, bne_self_eq_false, beq_self_eq_true, Bool.and_self, eqv, eqv1] at *; done) | (simp_all [eqv, eqv1]; done))
  · trivial
def k_SpanShifts : List SV → List Blk → Res := fun args _ => match args with
  | [.int .u8 op, .agg [.u64 alo, .u64 ahi, .int .i64 asl, .int .i64 ash], .int .i64 k] => .test (R.inS (⟨alo, ahi, asl, ash⟩ : Sp)) (.ok (.bool true) [])
  | _ => .fail
theorem k_SpanShifts_ok : CtrOk Try.prog Gw 4 k_SpanShifts := by
  refine ⟨fun _ _ => by kernel_rfl, fun args M => ?_⟩
  unfold k_SpanShifts
  split
  · rename_i op alo ahi asl ash k
    intro ht
    have e := R.shift_eq op k ht
    have ht2 := ht
    unfold R.inS at ht2
    refine ctr_flat (Γ := ⟨[(9, k_awake), (10, k_Shift), (11, k_rShift)], eqs, [], [], []⟩) (sv := .bool true) st_Gw ⟨(okCons k_awake_ok (okCons k_Shift_ok (okCons k_rShift_ok okNil))), eqs_ok, okNilB, okNilI, okNilP⟩ Try.func4 rfl mixed [] (by kernel_rfl) 10000 (by rfl) ?_
    (conv => whnf)
    (repeat' (first | (refine And.intro (fun hb => ?_) (fun hb => ?_) <;> (first | contradiction | (conv => whnf))) | (refine And.intro ?_ ?_; rotate_left 1; (conv => whnf))))
    all_goals (first | trivial | rfl | exact ht2 | (simp only [e, bne_self_eq_false, beq_self_eq_true, Bool.and_self, eqv, eqv1] at *; done) | (simp_all [eqv, eqv1]; done))
  · trivial
end Go.Proofs.Ytgaclnllkiihlaa
