import Derived.Test.YtkfbjnikkmoanaaGreatDoorX13
import Derived.Test.YtkfbjnikkmoanaaGreatDoorXC
namespace Go.Proofs.YtkfbjnikkmoanaaGreatDoor
open Go.RowKit Go.Sx
set_option linter.unusedSimpArgs false
set_option linter.unusedVariables false
set_option linter.unnecessarySimpa false
set_option maxRecDepth 100000
set_option maxHeartbeats 4000000
theorem less_run (op off : Int) (w : Bool) (av am alo ahi : BitVec 64) (asl ash : Int) (bv bm blo bhi : BitVec 64) (bsl bsh : Int) (cv cm clo chi : BitVec 64) (csl csh : Int) (n m : BitVec 64) (ia : R.inS (⟨⟨av, am⟩, ⟨alo, ahi, asl, ash⟩⟩ : Sc).s = true) (ib : R.inS (⟨⟨bv, bm⟩, ⟨blo, bhi, bsl, bsh⟩⟩ : Sc).s = true) (ic : R.inS (⟨⟨cv, cm⟩, ⟨clo, chi, csl, csh⟩⟩ : Sc).s = true) : run Tryz.prog ⟨[(9, k_awake20), (10, k_ado), (12, k_AluG), (11, k_cConst), (14, k_cRight), (15, k_cHas), (13, k_cLeq)], eqs, [], [], []⟩ 10000 [] 0 (bodyOf Tryz.f5) (initF Tryz.f5 [.int .u8 op, .int .i16 off, .bool w, .agg [.u64 av, .u64 am, .u64 alo, .u64 ahi, .int .i64 asl, .int .i64 ash], .agg [.u64 bv, .u64 bm, .u64 blo, .u64 bhi, .int .i64 bsl, .int .i64 bsh], .agg [.u64 cv, .u64 cm, .u64 clo, .u64 chi, .int .i64 csl, .int .i64 csh], .u64 n, .u64 m]) [] (retK Tryz.prog Tryz.f5 fun x _ => eqv x (.bool true)) := by
  have g1 : C.leq (⟨⟨av, am⟩, ⟨alo, ahi, asl, ash⟩⟩ : Sc) (⟨⟨bv, bm⟩, ⟨blo, bhi, bsl, bsh⟩⟩ : Sc) = true → C.right (⟨⟨cv, cm⟩, ⟨clo, chi, csl, csh⟩⟩ : Sc) = true → ((A.does op off w (⟨⟨bv, bm⟩, ⟨blo, bhi, bsl, bsh⟩⟩ : Sc) (⟨⟨cv, cm⟩, ⟨clo, chi, csl, csh⟩⟩ : Sc)).2 == (W.aluG op off w n m).2) = true := fun h k => by rw [A.does_told op off w _ _ n m, (C.leq_right2 h).2, k]; cases (W.aluG op off w n m).2 <;> rfl
  have g2 : C.leq (⟨⟨av, am⟩, ⟨alo, ahi, asl, ash⟩⟩ : Sc) (⟨⟨bv, bm⟩, ⟨blo, bhi, bsl, bsh⟩⟩ : Sc) = true → C.right (⟨⟨cv, cm⟩, ⟨clo, chi, csl, csh⟩⟩ : Sc) = true → C.hasb (⟨⟨av, am⟩, ⟨alo, ahi, asl, ash⟩⟩ : Sc) n = true → C.hasb (⟨⟨cv, cm⟩, ⟨clo, chi, csl, csh⟩⟩ : Sc) m = true → (A.does op off w (⟨⟨bv, bm⟩, ⟨blo, bhi, bsl, bsh⟩⟩ : Sc) (⟨⟨cv, cm⟩, ⟨clo, chi, csl, csh⟩⟩ : Sc)).2 = true → C.hasb (A.does op off w (⟨⟨bv, bm⟩, ⟨blo, bhi, bsl, bsh⟩⟩ : Sc) (⟨⟨cv, cm⟩, ⟨clo, chi, csl, csh⟩⟩ : Sc)).1 (W.aluG op off w n m).1 = true := fun h k hn hm hd => A.does_has ib ic (C.leq_hasb h hn) hm (by rw [← beq_iff_eq.1 (g1 h k)]; exact hd)
  have i1 := C.and2 ia ib
  have i2 := C.and2 ib ic
  have i3 : R.inS (A.does op off w (⟨⟨bv, bm⟩, ⟨blo, bhi, bsl, bsh⟩⟩ : Sc) (⟨⟨cv, cm⟩, ⟨clo, chi, csl, csh⟩⟩ : Sc)).1.s = true := A.does_in ib ic
  (conv => whnf)
  (repeat' (first | (refine .inl ⟨20, ?_⟩; (conv => whnf)) | (refine step_t (by first | rfl | assumption | exact g1 (by assumption) (by assumption) | exact g2 (by assumption) (by assumption) (by assumption) (by assumption) (by assumption) ) ?_; (conv => whnf)) | (refine step_f (by first | rfl | assumption | exact g1 (by assumption) (by assumption) | exact g2 (by assumption) (by assumption) (by assumption) (by assumption) (by assumption) ) ?_; (conv => whnf)) | (refine step_nt (by first | rfl | assumption | exact g1 (by assumption) (by assumption) | exact g2 (by assumption) (by assumption) (by assumption) (by assumption) (by assumption) ) ?_; (conv => whnf)) | (refine step_nf (by assumption) ?_; (conv => whnf)) | (refine step_n (fun hb => ?_) (fun hb => ?_) <;> (first | contradiction | (conv => whnf))) | (refine And.intro (fun hb => ?_) (fun hb => ?_) <;> (first | contradiction | (conv => whnf))) | (refine And.intro ?_ ?_; rotate_left 1; (conv => whnf))))
  all_goals first | rfl | trivial | assumption | exact i1 | exact i2 | exact i3 | exact g1 (by assumption) (by assumption) | exact g2 (by assumption) (by assumption) (by assumption) (by assumption) (by assumption)
def k_ArithLess : List SV → List Blk → Res := fun args _ => match args with
  | [.int .u8 op, .int .i16 off, .bool w, .agg [.u64 av, .u64 am, .u64 alo, .u64 ahi, .int .i64 asl, .int .i64 ash], .agg [.u64 bv, .u64 bm, .u64 blo, .u64 bhi, .int .i64 bsl, .int .i64 bsh], .agg [.u64 cv, .u64 cm, .u64 clo, .u64 chi, .int .i64 csl, .int .i64 csh], .u64 n, .u64 m] => .test ((R.inS ⟨alo, ahi, asl, ash⟩) && (R.inS ⟨blo, bhi, bsl, bsh⟩) && (R.inS ⟨clo, chi, csl, csh⟩)) (.ok (.bool true) [])
  | _ => .fail
theorem k_ArithLess_ok : CtrOk Tryz.prog Gw 5 k_ArithLess := by
  refine ⟨fun _ _ => by kernel_rfl, fun args M => ?_⟩
  unfold k_ArithLess
  split
  · rename_i op off w av am alo ahi asl ash bv bm blo bhi bsl bsh cv cm clo chi csl csh n m
    intro ht
    exact ctr_flat (Γ := ⟨[(9, k_awake20), (10, k_ado), (12, k_AluG), (11, k_cConst), (14, k_cRight), (15, k_cHas), (13, k_cLeq)], eqs, [], [], []⟩) (sv := .bool true) st_Gw ⟨(okCons k_awake20_ok (okCons k_ado_ok (okCons k_AluG_ok (okCons k_cConst_ok (okCons k_cRight_ok (okCons k_cHas_ok (okCons k_cLeq_ok okNil))))))), eqs_ok, okNilB, okNilI, okNilP⟩ Tryz.func5 rfl mixed [] (by kernel_rfl) 10000 (by rfl) (by
      rw [Bool.and_eq_true, Bool.and_eq_true] at ht
      exact less_run op off w av am alo ahi asl ash bv bm blo bhi bsl bsh cv cm clo chi csl csh n m ht.1.1 ht.1.2 ht.2)
  · trivial
end Go.Proofs.YtkfbjnikkmoanaaGreatDoor
