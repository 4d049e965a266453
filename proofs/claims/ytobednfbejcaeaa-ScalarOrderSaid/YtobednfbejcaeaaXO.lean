import Derived.Test.YtobednfbejcaeaaXN
namespace Go.Proofs.Ytobednfbejcaeaa
open Go.RowKit Go.Sx
set_option linter.unusedSimpArgs false
set_option linter.unusedVariables false
set_option linter.unnecessarySimpa false
set_option maxRecDepth 100000
set_option maxHeartbeats 4000000
namespace C
theorem and2 {a b : Bool} (h : a = true) (k : b = true) : (a && b) = true := by rw [h, k]; rfl
theorem and4 {a b c d : Bool} (h : a = true) (k : b = true) (l : c = true) (m : d = true) : (a && (b && (c && d))) = true := by rw [h, k, l, m]; rfl
theorem leq_no1 {a b : Sc} (h : right a = false) : leq a b = false := by unfold leq; rw [h]; rfl
theorem leq_no2 {a b : Sc} (h : right b = false) : leq a b = false := by unfold leq; rw [h]; cases right a <;> rfl
theorem unknown_in : R.inS unknown.s = true := rfl
end C
attribute [local irreducible] C.leq C.hasb C.meet C.join C.right C.of R.inS
theorem order_run (av am alo ahi : BitVec 64) (asl ash : Int) (bv bm blo bhi : BitVec 64) (bsl bsh : Int) (cv cm clo chi : BitVec 64) (csl csh : Int) (n : BitVec 64) (ia : R.inS (⟨⟨av, am⟩, ⟨alo, ahi, asl, ash⟩⟩ : Sc).s = true) (ib : R.inS (⟨⟨bv, bm⟩, ⟨blo, bhi, bsl, bsh⟩⟩ : Sc).s = true) (ic : R.inS (⟨⟨cv, cm⟩, ⟨clo, chi, csl, csh⟩⟩ : Sc).s = true) : run Try.prog ⟨[(8, k_awake), (23, k_cLeq), (11, k_cRight), (12, k_cJoin), (15, k_cMeet), (27, k_cUnknown), (10, k_cHas)], eqs, [], [], []⟩ 10000 [(9, 28, [0, 0, 3, 7, 15, 31, 31, 127, 255, 511, 1023, 2047, 2047, 2047, 14335, 30719, 65535, 131071, 262143, 524287, 1048575, 2097151, 2097151, 8388607, 16777215, 33554431, 67108863, 67108863, 268435455, 536870911, 1073741823, 2147483647, 4294967295]), (11, 17, [0, 0, 3, 7, 15, 15, 63, 127, 255, 511, 511, 2047, 4095, 8191, 16383, 32767, 32767, 131071, 262143, 524287, 1048575])] 0 (bodyOf Try.f6) (initF Try.f6 [.agg [.u64 av, .u64 am, .u64 alo, .u64 ahi, .int .i64 asl, .int .i64 ash], .agg [.u64 bv, .u64 bm, .u64 blo, .u64 bhi, .int .i64 bsl, .int .i64 bsh], .agg [.u64 cv, .u64 cm, .u64 clo, .u64 chi, .int .i64 csl, .int .i64 csh], .u64 n]) [] (retK Try.prog Try.f6 fun x _ => eqv x (.bool true)) := by
  cases ra : C.right (⟨⟨av, am⟩, ⟨alo, ahi, asl, ash⟩⟩ : Sc)
  · have h0 : C.leq (⟨⟨av, am⟩, ⟨alo, ahi, asl, ash⟩⟩ : Sc) (⟨⟨bv, bm⟩, ⟨blo, bhi, bsl, bsh⟩⟩ : Sc) = false := C.leq_no1 ra
    (conv => whnf)
    (repeat' (first | (refine step_t (by first | rfl | assumption | exact h11 (by assumption) (by assumption) | exact hTr (by assumption) (by assumption) | exact h9 (by assumption) | exact h10 (by assumption) | exact hH (by assumption) (by assumption)) ?_; (conv => whnf)) | (refine step_f (by first | rfl | assumption | exact h11 (by assumption) (by assumption) | exact hTr (by assumption) (by assumption) | exact h9 (by assumption) | exact h10 (by assumption) | exact hH (by assumption) (by assumption)) ?_; (conv => whnf)) | (refine step_nt (by first | rfl | assumption | exact h11 (by assumption) (by assumption) | exact hTr (by assumption) (by assumption) | exact h9 (by assumption) | exact h10 (by assumption) | exact hH (by assumption) (by assumption)) ?_; (conv => whnf)) | (refine step_nf (by assumption) ?_; (conv => whnf)) | (refine step_n (fun hb => ?_) (fun hb => ?_) <;> (first | contradiction | (conv => whnf))) | (refine And.intro (fun hb => ?_) (fun hb => ?_) <;> (first | contradiction | (conv => whnf))) | (refine And.intro (a := (_ : Bool) = true) ?_ ?_; rotate_left 1; (conv => whnf))))
    all_goals (first | rfl | trivial | assumption | exact C.and2 (by assumption) (by assumption) | exact C.and4 rfl rfl rfl (C.and2 (by assumption) (C.and2 (by assumption) rfl)))
  cases rb : C.right (⟨⟨bv, bm⟩, ⟨blo, bhi, bsl, bsh⟩⟩ : Sc)
  · have h0 : C.leq (⟨⟨av, am⟩, ⟨alo, ahi, asl, ash⟩⟩ : Sc) (⟨⟨bv, bm⟩, ⟨blo, bhi, bsl, bsh⟩⟩ : Sc) = false := C.leq_no2 rb
    (conv => whnf)
    (repeat' (first | (refine step_t (by first | rfl | assumption | exact h11 (by assumption) (by assumption) | exact hTr (by assumption) (by assumption) | exact h9 (by assumption) | exact h10 (by assumption) | exact hH (by assumption) (by assumption)) ?_; (conv => whnf)) | (refine step_f (by first | rfl | assumption | exact h11 (by assumption) (by assumption) | exact hTr (by assumption) (by assumption) | exact h9 (by assumption) | exact h10 (by assumption) | exact hH (by assumption) (by assumption)) ?_; (conv => whnf)) | (refine step_nt (by first | rfl | assumption | exact h11 (by assumption) (by assumption) | exact hTr (by assumption) (by assumption) | exact h9 (by assumption) | exact h10 (by assumption) | exact hH (by assumption) (by assumption)) ?_; (conv => whnf)) | (refine step_nf (by assumption) ?_; (conv => whnf)) | (refine step_n (fun hb => ?_) (fun hb => ?_) <;> (first | contradiction | (conv => whnf))) | (refine And.intro (fun hb => ?_) (fun hb => ?_) <;> (first | contradiction | (conv => whnf))) | (refine And.intro (a := (_ : Bool) = true) ?_ ?_; rotate_left 1; (conv => whnf))))
    all_goals (first | rfl | trivial | assumption | exact C.and2 (by assumption) (by assumption) | exact C.and4 rfl rfl rfl (C.and2 (by assumption) (C.and2 (by assumption) rfl)))
  cases rc : C.right (⟨⟨cv, cm⟩, ⟨clo, chi, csl, csh⟩⟩ : Sc)
  · (conv => whnf)
    (repeat' (first | (refine step_t (by first | rfl | assumption | exact h11 (by assumption) (by assumption) | exact hTr (by assumption) (by assumption) | exact h9 (by assumption) | exact h10 (by assumption) | exact hH (by assumption) (by assumption)) ?_; (conv => whnf)) | (refine step_f (by first | rfl | assumption | exact h11 (by assumption) (by assumption) | exact hTr (by assumption) (by assumption) | exact h9 (by assumption) | exact h10 (by assumption) | exact hH (by assumption) (by assumption)) ?_; (conv => whnf)) | (refine step_nt (by first | rfl | assumption | exact h11 (by assumption) (by assumption) | exact hTr (by assumption) (by assumption) | exact h9 (by assumption) | exact h10 (by assumption) | exact hH (by assumption) (by assumption)) ?_; (conv => whnf)) | (refine step_nf (by assumption) ?_; (conv => whnf)) | (refine step_n (fun hb => ?_) (fun hb => ?_) <;> (first | contradiction | (conv => whnf))) | (refine And.intro (fun hb => ?_) (fun hb => ?_) <;> (first | contradiction | (conv => whnf))) | (refine And.intro (a := (_ : Bool) = true) ?_ ?_; rotate_left 1; (conv => whnf))))
    all_goals (first | rfl | trivial | assumption | exact C.and2 (by assumption) (by assumption) | exact C.and4 rfl rfl rfl (C.and2 (by assumption) (C.and2 (by assumption) rfl)))
  have hAA := C.leq_refl2 ia ra
  have hJ := C.join_above ia ib ra rb
  have hAJ : C.leq (⟨⟨av, am⟩, ⟨alo, ahi, asl, ash⟩⟩ : Sc) (C.join [(⟨⟨av, am⟩, ⟨alo, ahi, asl, ash⟩⟩ : Sc), (⟨⟨bv, bm⟩, ⟨blo, bhi, bsl, bsh⟩⟩ : Sc)]) = true := hJ.1
  have hBJ : C.leq (⟨⟨bv, bm⟩, ⟨blo, bhi, bsl, bsh⟩⟩ : Sc) (C.join [(⟨⟨av, am⟩, ⟨alo, ahi, asl, ash⟩⟩ : Sc), (⟨⟨bv, bm⟩, ⟨blo, bhi, bsl, bsh⟩⟩ : Sc)]) = true := hJ.2
  have hJJ : C.eqc (C.join [(⟨⟨av, am⟩, ⟨alo, ahi, asl, ash⟩⟩ : Sc), (⟨⟨bv, bm⟩, ⟨blo, bhi, bsl, bsh⟩⟩ : Sc)]) (C.join [(⟨⟨bv, bm⟩, ⟨blo, bhi, bsl, bsh⟩⟩ : Sc), (⟨⟨av, am⟩, ⟨alo, ahi, asl, ash⟩⟩ : Sc)]) = true := C.eqc_iff.2 (C.join_comm ia ib ra rb)
  have iJ : R.inS (C.join [(⟨⟨av, am⟩, ⟨alo, ahi, asl, ash⟩⟩ : Sc), (⟨⟨bv, bm⟩, ⟨blo, bhi, bsl, bsh⟩⟩ : Sc)]).s = true := C.join_in ia ib
  have iM : R.inS (C.meet (⟨⟨av, am⟩, ⟨alo, ahi, asl, ash⟩⟩ : Sc) (⟨⟨bv, bm⟩, ⟨blo, bhi, bsl, bsh⟩⟩ : Sc)).1.s = true := C.cmeet_in ia ib
  have h11 : C.leq (⟨⟨av, am⟩, ⟨alo, ahi, asl, ash⟩⟩ : Sc) (⟨⟨bv, bm⟩, ⟨blo, bhi, bsl, bsh⟩⟩ : Sc) = true → C.leq (⟨⟨bv, bm⟩, ⟨blo, bhi, bsl, bsh⟩⟩ : Sc) (⟨⟨av, am⟩, ⟨alo, ahi, asl, ash⟩⟩ : Sc) = true → C.eqc (⟨⟨av, am⟩, ⟨alo, ahi, asl, ash⟩⟩ : Sc) (⟨⟨bv, bm⟩, ⟨blo, bhi, bsl, bsh⟩⟩ : Sc) = true := fun h k => C.eqc_iff.2 (C.leq_antisymm2 h k)
  have hTr : C.leq (⟨⟨av, am⟩, ⟨alo, ahi, asl, ash⟩⟩ : Sc) (⟨⟨bv, bm⟩, ⟨blo, bhi, bsl, bsh⟩⟩ : Sc) = true → C.leq (⟨⟨bv, bm⟩, ⟨blo, bhi, bsl, bsh⟩⟩ : Sc) (⟨⟨cv, cm⟩, ⟨clo, chi, csl, csh⟩⟩ : Sc) = true → C.leq (⟨⟨av, am⟩, ⟨alo, ahi, asl, ash⟩⟩ : Sc) (⟨⟨cv, cm⟩, ⟨clo, chi, csl, csh⟩⟩ : Sc) = true := fun h k => C.leq_trans2 ia ic h k
  have h9 : (C.meet (⟨⟨av, am⟩, ⟨alo, ahi, asl, ash⟩⟩ : Sc) (⟨⟨bv, bm⟩, ⟨blo, bhi, bsl, bsh⟩⟩ : Sc)).2 = true → C.leq (C.meet (⟨⟨av, am⟩, ⟨alo, ahi, asl, ash⟩⟩ : Sc) (⟨⟨bv, bm⟩, ⟨blo, bhi, bsl, bsh⟩⟩ : Sc)).1 (⟨⟨av, am⟩, ⟨alo, ahi, asl, ash⟩⟩ : Sc) = true := fun h => (C.meet_below ia ib h).1
  have h10 : (C.meet (⟨⟨av, am⟩, ⟨alo, ahi, asl, ash⟩⟩ : Sc) (⟨⟨bv, bm⟩, ⟨blo, bhi, bsl, bsh⟩⟩ : Sc)).2 = true → C.leq (C.meet (⟨⟨av, am⟩, ⟨alo, ahi, asl, ash⟩⟩ : Sc) (⟨⟨bv, bm⟩, ⟨blo, bhi, bsl, bsh⟩⟩ : Sc)).1 (⟨⟨bv, bm⟩, ⟨blo, bhi, bsl, bsh⟩⟩ : Sc) = true := fun h => (C.meet_below ia ib h).2
  have hAU : C.leq (⟨⟨av, am⟩, ⟨alo, ahi, asl, ash⟩⟩ : Sc) C.unknown = true := C.leq_unknown ia ra
  have iU : R.inS C.unknown.s = true := C.unknown_in
  have hH : C.leq (⟨⟨av, am⟩, ⟨alo, ahi, asl, ash⟩⟩ : Sc) (⟨⟨bv, bm⟩, ⟨blo, bhi, bsl, bsh⟩⟩ : Sc) = true → C.hasb (⟨⟨av, am⟩, ⟨alo, ahi, asl, ash⟩⟩ : Sc) n = true → C.hasb (⟨⟨bv, bm⟩, ⟨blo, bhi, bsl, bsh⟩⟩ : Sc) n = true := fun h k => C.leq_hasb h k
  (conv => whnf)
  (repeat' (first | (refine step_t (by first | rfl | assumption | exact h11 (by assumption) (by assumption) | exact hTr (by assumption) (by assumption) | exact h9 (by assumption) | exact h10 (by assumption) | exact hH (by assumption) (by assumption)) ?_; (conv => whnf)) | (refine step_f (by first | rfl | assumption | exact h11 (by assumption) (by assumption) | exact hTr (by assumption) (by assumption) | exact h9 (by assumption) | exact h10 (by assumption) | exact hH (by assumption) (by assumption)) ?_; (conv => whnf)) | (refine step_nt (by first | rfl | assumption | exact h11 (by assumption) (by assumption) | exact hTr (by assumption) (by assumption) | exact h9 (by assumption) | exact h10 (by assumption) | exact hH (by assumption) (by assumption)) ?_; (conv => whnf)) | (refine step_nf (by assumption) ?_; (conv => whnf)) | (refine step_n (fun hb => ?_) (fun hb => ?_) <;> (first | contradiction | (conv => whnf))) | (refine And.intro (fun hb => ?_) (fun hb => ?_) <;> (first | contradiction | (conv => whnf))) | (refine And.intro (a := (_ : Bool) = true) ?_ ?_; rotate_left 1; (conv => whnf))))
  all_goals (first | rfl | trivial | assumption | exact hH (by assumption) (by assumption) | first | rfl | trivial | assumption | exact C.and2 (by assumption) (by assumption) | exact C.and4 rfl rfl rfl (C.and2 (by assumption) (C.and2 (by assumption) rfl)))
def k_ScalarOrder : List SV → List Blk → Res := fun args _ => match args with
  | [.agg [.u64 av, .u64 am, .u64 alo, .u64 ahi, .int .i64 asl, .int .i64 ash], .agg [.u64 bv, .u64 bm, .u64 blo, .u64 bhi, .int .i64 bsl, .int .i64 bsh], .agg [.u64 cv, .u64 cm, .u64 clo, .u64 chi, .int .i64 csl, .int .i64 csh], .u64 n] => .test (R.inS (⟨alo, ahi, asl, ash⟩ : Sp) && (R.inS (⟨blo, bhi, bsl, bsh⟩ : Sp) && R.inS (⟨clo, chi, csl, csh⟩ : Sp))) (.ok (.bool true) [])
  | _ => .fail
theorem k_ScalarOrder_ok : CtrOk Try.prog Gw 6 k_ScalarOrder := by
  refine ⟨fun _ _ => by kernel_rfl, fun args M => ?_⟩
  unfold k_ScalarOrder
  split
  · rename_i av am alo ahi asl ash bv bm blo bhi bsl bsh cv cm clo chi csl csh n
    intro ht
    exact ctr_flat (Γ := ⟨[(8, k_awake), (23, k_cLeq), (11, k_cRight), (12, k_cJoin), (15, k_cMeet), (27, k_cUnknown), (10, k_cHas)], eqs, [], [], []⟩) (sv := .bool true) st_Gw ⟨(okCons k_awake_ok (okCons k_cLeq_ok (okCons k_cRight_ok (okCons k_cJoin_ok (okCons k_cMeet_ok (okCons k_cUnknown_ok (okCons k_cHas_ok okNil))))))), eqs_ok, okNilB, okNilI, okNilP⟩ Try.func6 rfl mixed [(9, 28, [0, 0, 3, 7, 15, 31, 31, 127, 255, 511, 1023, 2047, 2047, 2047, 14335, 30719, 65535, 131071, 262143, 524287, 1048575, 2097151, 2097151, 8388607, 16777215, 33554431, 67108863, 67108863, 268435455, 536870911, 1073741823, 2147483647, 4294967295]), (11, 17, [0, 0, 3, 7, 15, 15, 63, 127, 255, 511, 511, 2047, 4095, 8191, 16383, 32767, 32767, 131071, 262143, 524287, 1048575])] (by kernel_rfl) 10000 (by rfl) (by
      rw [Bool.and_eq_true, Bool.and_eq_true] at ht
      exact order_run av am alo ahi asl ash bv bm blo bhi bsl bsh cv cm clo chi csl csh n ht.1 ht.2.1 ht.2.2)
  · trivial
end Go.Proofs.Ytobednfbejcaeaa
