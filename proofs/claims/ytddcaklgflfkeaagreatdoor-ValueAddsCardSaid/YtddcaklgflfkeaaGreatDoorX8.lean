import Derived.Test.YtddcaklgflfkeaaGreatDoorX7
namespace Go.Proofs.YtddcaklgflfkeaaGreatDoor
open Go.RowKit Go.Sx
set_option linter.unusedSimpArgs false
set_option linter.unusedVariables false
set_option linter.unnecessarySimpa false
set_option maxRecDepth 100000
set_option maxHeartbeats 4000000
theorem A.c0_in : R.inS (C.const (BitVec.ofInt 64 0)).s = true := rfl
attribute [local irreducible] A.made A.both A.quot A.rem A.moved A.shiftA A.exactB A.exactV W.aluG C.one C.const C.of C.right R.inS
def k_amade : List SV → List Blk → Res := fun args _ => match args with
  | [.agg [.int .u8 op, .int .i16 off, .tt, .u64 av, .u64 am, .u64 alo, .u64 ahi, .int .i64 asl, .int .i64 ash, .u64 bv, .u64 bm, .u64 blo, .u64 bhi, .int .i64 bsl, .int .i64 bsh]] => .test (R.inS ⟨alo, ahi, asl, ash⟩ && R.inS ⟨blo, bhi, bsl, bsh⟩) (.ok (scv (A.made op off true (⟨⟨av, am⟩, ⟨alo, ahi, asl, ash⟩⟩ : Sc) (⟨⟨bv, bm⟩, ⟨blo, bhi, bsl, bsh⟩⟩ : Sc))) [])
  | [.agg [.int .u8 op, .int .i16 off, .ff, .u64 av, .u64 am, .u64 alo, .u64 ahi, .int .i64 asl, .int .i64 ash, .u64 bv, .u64 bm, .u64 blo, .u64 bhi, .int .i64 bsl, .int .i64 bsh]] => .test (R.inS ⟨alo, ahi, asl, ash⟩ && R.inS ⟨blo, bhi, bsl, bsh⟩) (.ok (scv (A.made op off false (⟨⟨av, am⟩, ⟨alo, ahi, asl, ash⟩⟩ : Sc) (⟨⟨bv, bm⟩, ⟨blo, bhi, bsl, bsh⟩⟩ : Sc))) [])
  | _ => .fail
set_option maxHeartbeats 0 in
theorem k_amade_ok : CtrOk Tryz.prog Gw 51 k_amade := by
  refine ⟨fun _ _ => by kernel_rfl, fun args M => ?_⟩
  unfold k_amade
  split
  · rename_i op off av am alo ahi asl ash bv bm blo bhi bsl bsh
    intro ht
    have hq := S.and_true2 ht
    have hq1 := hq.1
    have hq2 := hq.2
    have hc : R.inS (C.const (BitVec.ofInt 64 0)).s = true := A.c0_in
    have hc2 := C.and2 hc hq1
    refine ctr_flat (Γ := ⟨[(175, k_aexact), (169, k_aboth), (170, k_amoved), (171, k_aquot), (172, k_arem), (173, k_ashift), (9, k_cConst), (15, k_cUnknown), (95, k_gotC)], eqs, [], [(94, Tryz.f94, []), (168, Tryz.f168, [(1, 3, [0, 0, 2, 7, 15])]), (174, Tryz.f174, [])], []⟩) (sv := scv (A.made op off true (⟨⟨av, am⟩, ⟨alo, ahi, asl, ash⟩⟩ : Sc) (⟨⟨bv, bm⟩, ⟨blo, bhi, bsl, bsh⟩⟩ : Sc))) st_Gw ⟨(okCons k_aexact_ok (okCons k_aboth_ok (okCons k_amoved_ok (okCons k_aquot_ok (okCons k_arem_ok (okCons k_ashift_ok (okCons k_cConst_ok (okCons k_cUnknown_ok (okCons k_gotC_ok okNil))))))))), eqs_ok, okNilB, (okConsI Tryz.func94 rfl (by kernel_rfl) (fun _ _ => by kernel_rfl) (okConsI Tryz.func168 rfl (by kernel_rfl) (fun _ _ => by kernel_rfl) (okConsI Tryz.func174 rfl (by kernel_rfl) (fun _ _ => by kernel_rfl) okNilI))), okNilP⟩ Tryz.func51 rfl mixed [] (by kernel_rfl) 10000 (by rfl) ?_
    (conv => whnf)
    (repeat' (first | (refine step_t (by first | rfl | assumption) ?_; (conv => whnf)) | (refine step_f (by first | rfl | assumption) ?_; (conv => whnf)) | (refine step_nt (by assumption) ?_; (conv => whnf)) | (refine step_nf (by assumption) ?_; (conv => whnf)) | (refine step_n (fun hb => ?_) (fun hb => ?_) <;> (first | contradiction | (conv => whnf))) | (refine And.intro (fun hb => ?_) (fun hb => ?_) <;> (first | contradiction | (conv => whnf))) | (refine And.intro (a := (_ : Bool) = true) ?_ ?_; rotate_left 1; (conv => whnf))))
    all_goals (first | rfl | trivial | assumption | exact eqv_of (A.mk_e (by assumption)) | exact eqv_of (A.mk_neg (by assumption) (by assumption)) | exact eqv_of (A.mk_mov (by assumption) (by assumption) (by assumption)) | exact eqv_of (A.mk_div (by assumption) (by assumption) (by assumption) (by assumption)) | exact eqv_of (A.mk_mod (by assumption) (by assumption) (by assumption) (by assumption) (by assumption)) | exact eqv_of (A.mk_lsh (by assumption) (by assumption) (by assumption) (by assumption) (by assumption) (by assumption)) | exact eqv_of (A.mk_rsh (by assumption) (by assumption) (by assumption) (by assumption) (by assumption) (by assumption) (by assumption)) | exact eqv_of (A.mk_ars (by assumption) (by assumption) (by assumption) (by assumption) (by assumption) (by assumption) (by assumption) (by assumption)) | exact eqv_of (A.mk_two (by assumption) (by assumption) (by assumption) (by assumption) (by assumption) (by assumption) (by assumption) (by assumption)) | exact C.and2 hc hq1 | exact ht)
  · rename_i op off av am alo ahi asl ash bv bm blo bhi bsl bsh
    intro ht
    have hq := S.and_true2 ht
    have hq1 := hq.1
    have hq2 := hq.2
    have hc : R.inS (C.const (BitVec.ofInt 64 0)).s = true := A.c0_in
    have hc2 := C.and2 hc hq1
    refine ctr_flat (Γ := ⟨[(175, k_aexact), (169, k_aboth), (170, k_amoved), (171, k_aquot), (172, k_arem), (173, k_ashift), (9, k_cConst), (15, k_cUnknown), (95, k_gotC)], eqs, [], [(94, Tryz.f94, []), (168, Tryz.f168, [(1, 3, [0, 0, 2, 7, 15])]), (174, Tryz.f174, [])], []⟩) (sv := scv (A.made op off false (⟨⟨av, am⟩, ⟨alo, ahi, asl, ash⟩⟩ : Sc) (⟨⟨bv, bm⟩, ⟨blo, bhi, bsl, bsh⟩⟩ : Sc))) st_Gw ⟨(okCons k_aexact_ok (okCons k_aboth_ok (okCons k_amoved_ok (okCons k_aquot_ok (okCons k_arem_ok (okCons k_ashift_ok (okCons k_cConst_ok (okCons k_cUnknown_ok (okCons k_gotC_ok okNil))))))))), eqs_ok, okNilB, (okConsI Tryz.func94 rfl (by kernel_rfl) (fun _ _ => by kernel_rfl) (okConsI Tryz.func168 rfl (by kernel_rfl) (fun _ _ => by kernel_rfl) (okConsI Tryz.func174 rfl (by kernel_rfl) (fun _ _ => by kernel_rfl) okNilI))), okNilP⟩ Tryz.func51 rfl mixed [] (by kernel_rfl) 10000 (by rfl) ?_
    (conv => whnf)
    (repeat' (first | (refine step_t (by first | rfl | assumption) ?_; (conv => whnf)) | (refine step_f (by first | rfl | assumption) ?_; (conv => whnf)) | (refine step_nt (by assumption) ?_; (conv => whnf)) | (refine step_nf (by assumption) ?_; (conv => whnf)) | (refine step_n (fun hb => ?_) (fun hb => ?_) <;> (first | contradiction | (conv => whnf))) | (refine And.intro (fun hb => ?_) (fun hb => ?_) <;> (first | contradiction | (conv => whnf))) | (refine And.intro (a := (_ : Bool) = true) ?_ ?_; rotate_left 1; (conv => whnf))))
    all_goals (first | rfl | trivial | assumption | exact eqv_of (A.mk_e (by assumption)) | exact eqv_of (A.mk_neg (by assumption) (by assumption)) | exact eqv_of (A.mk_mov (by assumption) (by assumption) (by assumption)) | exact eqv_of (A.mk_div (by assumption) (by assumption) (by assumption) (by assumption)) | exact eqv_of (A.mk_mod (by assumption) (by assumption) (by assumption) (by assumption) (by assumption)) | exact eqv_of (A.mk_lsh (by assumption) (by assumption) (by assumption) (by assumption) (by assumption) (by assumption)) | exact eqv_of (A.mk_rsh (by assumption) (by assumption) (by assumption) (by assumption) (by assumption) (by assumption) (by assumption)) | exact eqv_of (A.mk_ars (by assumption) (by assumption) (by assumption) (by assumption) (by assumption) (by assumption) (by assumption) (by assumption)) | exact eqv_of (A.mk_two (by assumption) (by assumption) (by assumption) (by assumption) (by assumption) (by assumption) (by assumption) (by assumption)) | exact C.and2 hc hq1 | exact ht)
  · trivial
end Go.Proofs.YtddcaklgflfkeaaGreatDoor
