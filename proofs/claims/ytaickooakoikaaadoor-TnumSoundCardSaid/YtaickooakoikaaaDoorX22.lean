import Derived.Test.YtaickooakoikaaaDoorX21
namespace Go.Proofs.YtaickooakoikaaaDoor
open Go.RowKit Go.Sx
set_option linter.unusedSimpArgs false
set_option linter.unusedVariables false
set_option linter.unnecessarySimpa false
set_option maxRecDepth 100000
set_option maxHeartbeats 4000000
def k_TnumTells : List SV → List Blk → Res := fun args _ => match args with
  | [.int .u8 op, .agg [.u64 av, .u64 am], .agg [.u64 bv, .u64 bm], .u64 n, .u64 m, .int .i64 k] => .ok (.bool true) []
  | _ => .fail
theorem k_TnumTells_ok : CtrOk Tryd.prog Gw 7 k_TnumTells := by
  refine ⟨fun _ _ => by kernel_rfl, fun args M => ?_⟩
  unfold k_TnumTells
  split
  · rename_i op av am bv bm n m k
    refine ctr_flat (Γ := ⟨[(9, k_awake), (15, k_Do), (21, k_rDo), (22, k_Shift), (23, k_rShift), (20, k_Meet), (24, k_rMeet), (25, k_Low), (26, k_rLow), (12, k_Right), (27, k_rRight), (17, k_Has), (28, k_rHas), (19, k_Leq), (29, k_rLeq), (16, k_Range), (30, k_rRange), (14, k_Const), (31, k_rConst), (32, k_Unknown), (33, k_rUnknown)], eqs, [], [], []⟩) (sv := .bool true) st_Gw ⟨(okCons k_awake_ok (okCons k_Do_ok (okCons k_rDo_ok (okCons k_Shift_ok (okCons k_rShift_ok (okCons k_Meet_ok (okCons k_rMeet_ok (okCons k_Low_ok (okCons k_rLow_ok (okCons k_Right_ok (okCons k_rRight_ok (okCons k_Has_ok (okCons k_rHas_ok (okCons k_Leq_ok (okCons k_rLeq_ok (okCons k_Range_ok (okCons k_rRange_ok (okCons k_Const_ok (okCons k_rConst_ok (okCons k_Unknown_ok (okCons k_rUnknown_ok okNil))))))))))))))))))))), eqs_ok, okNilB, okNilI, okNilP⟩ Tryd.func7 rfl mixed [(13, 36, [0, 1, 0, 7, 15, 31, 63, 63, 255, 63, 63, 2047, 4095, 8191, 16383, 32767, 32767, 131071, 32767, 32767, 1048575, 2097151, 4194303, 8388607, 16777215, 16777215, 67108863, 16777215, 16777215, 536870911, 1073741823, 2147483647, 4294967295, 8589934591, 17179869183, 8589934591, 68719476735, 137438953471, 274877906943, 549755813887, 1099511627775, 2199023255551, 4398046511103, 8796093022207, 17592186044415])] (by kernel_rfl) 10000 (by rfl) ?_
    (conv => whnf)
    (repeat' (first | (refine step_t (by first | rfl | (simp only [beq_self_eq_true, bne_self_eq_false, Bool.and_self, Bool.not_true, Bool.not_false, Bool.and_true]; done) | assumption) ?_; (conv => whnf)) | (refine step_f (by first | rfl | (simp only [beq_self_eq_true, bne_self_eq_false, Bool.and_self, Bool.not_true, Bool.not_false, Bool.and_true]; done) | assumption) ?_; (conv => whnf)) | (refine step_nt (by assumption) ?_; (conv => whnf)) | (refine step_nf (by assumption) ?_; (conv => whnf)) | (refine step_n (fun hb => ?_) (fun hb => ?_) <;> (first | contradiction | (conv => whnf))) | (refine And.intro (fun hb => ?_) (fun hb => ?_) <;> (first | contradiction | (conv => whnf))) | (refine And.intro ?_ ?_; rotate_left 1; (conv => whnf))))
    all_goals (first | trivial | rfl | (simp [eqv, eqv1]; done))
  · trivial
end Go.Proofs.YtaickooakoikaaaDoor
