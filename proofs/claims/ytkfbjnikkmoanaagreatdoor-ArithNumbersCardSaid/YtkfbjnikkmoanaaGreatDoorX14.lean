import Derived.Test.YtkfbjnikkmoanaaGreatDoorX13
namespace Go.Proofs.YtkfbjnikkmoanaaGreatDoor
open Go.RowKit Go.Sx
set_option linter.unusedSimpArgs false
set_option linter.unusedVariables false
set_option linter.unnecessarySimpa false
set_option maxRecDepth 100000
set_option maxHeartbeats 4000000
attribute [local irreducible] A.does W.aluG C.const C.right C.leq C.hasb R.inS
theorem numbers_run (op off : Int) (w : Bool) (n m av am alo ahi : BitVec 64) (asl ash : Int) (ia : R.inS (⟨⟨av, am⟩, ⟨alo, ahi, asl, ash⟩⟩ : Sc).s = true) : run Tryz.prog ⟨[(9, k_awake20), (10, k_ado), (12, k_AluG), (11, k_cConst), (14, k_cRight), (15, k_cHas), (13, k_cLeq)], eqs, [], [], []⟩ 10000 [(5, 9, [0, 0, 3, 7, 15, 31, 63, 63, 191, 511, 1023, 2047]), (7, 10, [0, 0, 0, 0, 8, 31, 63, 127, 127, 0, 767, 2047])] 0 (bodyOf Tryz.f3) (initF Tryz.f3 [.int .u8 op, .int .i16 off, .bool w, .u64 n, .u64 m, .agg [.u64 av, .u64 am, .u64 alo, .u64 ahi, .int .i64 asl, .int .i64 ash]]) [] (retK Tryz.prog Tryz.f3 fun x _ => eqv x (.bool true)) := by
  have g1 : ((A.does op off w (C.const n) (C.const m)).2 == (W.aluG op off w n m).2) = true := by rw [A.does_told op off w _ _ n m, C.const_right, C.const_right]; cases (W.aluG op off w n m).2 <;> rfl
  have g2 : (A.does op off w (C.const n) (C.const m)).2 = true → C.eqc (A.does op off w (C.const n) (C.const m)).1 (C.const (W.aluG op off w n m).1) = true := fun h => C.eqc_iff.2 (A.does_const op off w n m (by rw [← beq_iff_eq.1 g1]; exact h))
  have g3 : (A.does op off false (⟨⟨av, am⟩, ⟨alo, ahi, asl, ash⟩⟩ : Sc) (C.const m)).2 = true → decide ((A.does op off false (⟨⟨av, am⟩, ⟨alo, ahi, asl, ash⟩⟩ : Sc) (C.const m)).1.s.hi < BitVec.ofInt 64 4294967296) = true := fun h => decide_eq_true (A.does_hi ia (C.const_ins m) h)
  have c1 := C.and2 (C.const_ins n) (C.const_ins m)
  have c2 := C.and2 ia (C.const_ins m)
  (conv => whnf)
  (repeat' (first | (refine .inl ⟨20, ?_⟩; (conv => whnf)) | (refine step_t (by first | rfl | assumption | exact g1 | exact g2 (by assumption) | exact g3 (by assumption) ) ?_; (conv => whnf)) | (refine step_f (by first | rfl | assumption | exact g1 | exact g2 (by assumption) | exact g3 (by assumption) ) ?_; (conv => whnf)) | (refine step_nt (by first | rfl | assumption | exact g1 | exact g2 (by assumption) | exact g3 (by assumption) ) ?_; (conv => whnf)) | (refine step_nf (by assumption) ?_; (conv => whnf)) | (refine step_n (fun hb => ?_) (fun hb => ?_) <;> (first | contradiction | (conv => whnf))) | (refine And.intro (fun hb => ?_) (fun hb => ?_) <;> (first | contradiction | (conv => whnf))) | (refine And.intro ?_ ?_; rotate_left 1; (conv => whnf))))
  all_goals first | rfl | trivial | assumption | exact c1 | exact c2 | exact g1 | exact g2 (by assumption) | exact g3 (by assumption)
def k_ArithNumbers : List SV → List Blk → Res := fun args _ => match args with
  | [.int .u8 op, .int .i16 off, .bool w, .u64 n, .u64 m, .agg [.u64 av, .u64 am, .u64 alo, .u64 ahi, .int .i64 asl, .int .i64 ash]] => .test (R.inS ⟨alo, ahi, asl, ash⟩) (.ok (.bool true) [])
  | _ => .fail
theorem k_ArithNumbers_ok : CtrOk Tryz.prog Gw 3 k_ArithNumbers := by
  refine ⟨fun _ _ => by kernel_rfl, fun args M => ?_⟩
  unfold k_ArithNumbers
  split
  · rename_i op off w n m av am alo ahi asl ash
    intro ht
    exact ctr_flat (Γ := ⟨[(9, k_awake20), (10, k_ado), (12, k_AluG), (11, k_cConst), (14, k_cRight), (15, k_cHas), (13, k_cLeq)], eqs, [], [], []⟩) (sv := .bool true) st_Gw ⟨(okCons k_awake20_ok (okCons k_ado_ok (okCons k_AluG_ok (okCons k_cConst_ok (okCons k_cRight_ok (okCons k_cHas_ok (okCons k_cLeq_ok okNil))))))), eqs_ok, okNilB, okNilI, okNilP⟩ Tryz.func3 rfl mixed [(5, 9, [0, 0, 3, 7, 15, 31, 63, 63, 191, 511, 1023, 2047]), (7, 10, [0, 0, 0, 0, 8, 31, 63, 127, 127, 0, 767, 2047])] (by kernel_rfl) 10000 (by rfl) (by
      exact numbers_run op off w n m av am alo ahi asl ash ht)
  · trivial
end Go.Proofs.YtkfbjnikkmoanaaGreatDoor
