import Derived.Test.YtobednfbejcaeaaX5
namespace Go.Proofs.Ytobednfbejcaeaa
open Go.RowKit Go.Sx
set_option linter.unusedSimpArgs false
set_option linter.unusedVariables false
set_option linter.unnecessarySimpa false
set_option maxRecDepth 100000
set_option maxHeartbeats 4000000
def k_awake : List SV → List Blk → Res := fun args _ => match args with
  | [] => .ok (.bool true) []
  | _ => .fail
theorem k_awake_ok : CtrOk Try.prog Gw 8 k_awake := by
  refine ⟨fun _ _ => by kernel_rfl, fun args M => ?_⟩
  unfold k_awake
  split
  · refine ctr_flat (Γ := ⟨[(9, k_Of)], eqs, [], [], []⟩) (sv := .bool true) st_Gw ⟨(okCons k_Of_ok okNil), eqs_ok, okNilB, okNilI, okNilP⟩ Try.func8 rfl mixed [] (by kernel_rfl) 10000 (by rfl) ?_
    (conv => whnf)
    (repeat' (first | (refine And.intro (fun hb => ?_) (fun hb => ?_) <;> (first | contradiction | (conv => whnf))) | (refine And.intro ?_ ?_; rotate_left 1; (conv => whnf))))
    all_goals (first | kernel_rfl | trivial | (simp (decide := true) at hb; done))
  · trivial
def k_ScalarTells : List SV → List Blk → Res := fun args _ => match args with
  | [.agg [.u64 tv, .u64 tm], .agg [.u64 slo, .u64 shi, .int .i64 ssl, .int .i64 ssh], .agg [.u64 av, .u64 am, .u64 alo, .u64 ahi, .int .i64 asl, .int .i64 ash], .agg [.u64 bv, .u64 bm, .u64 blo, .u64 bhi, .int .i64 bsl, .int .i64 bsh], .u64 n, .int .i64 k, .bool sg] => .test (R.inS ⟨slo, shi, ssl, ssh⟩ && (R.inS ⟨alo, ahi, asl, ash⟩ && R.inS ⟨blo, bhi, bsl, bsh⟩)) (.ok (.bool true) [])
  | _ => .fail
theorem k_ScalarTells_ok : CtrOk Try.prog Gw 5 k_ScalarTells := by
  refine ⟨fun _ _ => by kernel_rfl, fun args M => ?_⟩
  unfold k_ScalarTells
  split
  · rename_i tv tm slo shi ssl ssh av am alo ahi asl ash bv bm blo bhi bsl bsh n k sg
    intro ht
    have hs := (Bool.and_eq_true _ _ ▸ ht).1
    have hab := (Bool.and_eq_true _ _ ▸ ht).2
    have ha := (Bool.and_eq_true _ _ ▸ hab).1
    have hb2 := (Bool.and_eq_true _ _ ▸ hab).2
    refine ctr_flat (Γ := ⟨[(8, k_awake), (9, k_Of), (14, k_qOf), (15, k_cMeet), (16, k_qMeet), (17, k_cLow), (18, k_qLow), (19, k_cOne), (20, k_qOne), (11, k_cRight), (21, k_qRight), (10, k_cHas), (22, k_qHas), (23, k_cLeq), (24, k_qLeq), (25, k_cConst), (26, k_qConst), (27, k_cUnknown), (28, k_qUnknown)], eqs, [], [], []⟩) (sv := .bool true) st_Gw ⟨(okCons k_awake_ok (okCons k_Of_ok (okCons k_qOf_ok (okCons k_cMeet_ok (okCons k_qMeet_ok (okCons k_cLow_ok (okCons k_qLow_ok (okCons k_cOne_ok (okCons k_qOne_ok (okCons k_cRight_ok (okCons k_qRight_ok (okCons k_cHas_ok (okCons k_qHas_ok (okCons k_cLeq_ok (okCons k_qLeq_ok (okCons k_cConst_ok (okCons k_qConst_ok (okCons k_cUnknown_ok (okCons k_qUnknown_ok okNil))))))))))))))))))), eqs_ok, okNilB, okNilI, okNilP⟩ Try.func5 rfl mixed [(13, 27, [0, 1, 0, 7, 15, 31, 63, 63, 255, 63, 63, 2047, 4095, 8191, 16383, 32767, 32767, 131071, 32767, 32767, 1048575, 2097151, 4194303, 8388607, 16777215, 33554431, 16777215, 134217727, 268435455, 536870911, 1073741823, 2147483647, 4294967295, 8589934591, 17179869183, 34359738367])] (by kernel_rfl) 10000 (by rfl) ?_
    (conv => whnf)
    (repeat' (first | (refine step_t (by first | rfl | (simp only [beq_self_eq_true, bne_self_eq_false, Bool.and_self, Bool.not_true, Bool.not_false, Bool.and_true]; done) | assumption) ?_; (conv => whnf)) | (refine step_f (by first | rfl | (simp only [beq_self_eq_true, bne_self_eq_false, Bool.and_self, Bool.not_true, Bool.not_false, Bool.and_true]; done) | assumption) ?_; (conv => whnf)) | (refine step_nt (by assumption) ?_; (conv => whnf)) | (refine step_nf (by assumption) ?_; (conv => whnf)) | (refine step_n (fun hb => ?_) (fun hb => ?_) <;> (first | contradiction | (conv => whnf))) | (refine And.intro (fun hb => ?_) (fun hb => ?_) <;> (first | contradiction | (conv => whnf))) | (refine And.intro ?_ ?_; rotate_left 1; (conv => whnf))))
    all_goals (first | trivial | assumption | rfl | (simp only [bne_self_eq_false, beq_self_eq_true, Bool.and_self, eqv, eqv1] at *; done) | (simp_all [eqv, eqv1]; done))
  · trivial
end Go.Proofs.Ytobednfbejcaeaa
