import Derived.Test.YtddcaklgflfkeaaGreatDoorX6
namespace Go.Proofs.YtddcaklgflfkeaaGreatDoor
open Go.RowKit Go.Sx
set_option linter.unusedSimpArgs false
set_option linter.unusedVariables false
set_option linter.unnecessarySimpa false
set_option maxRecDepth 100000
set_option maxHeartbeats 4000000
def k_amoved : List SV → List Blk → Res := fun args _ => match args with
  | [.agg [.int .u8 op, .int .i16 off, .tt, .u64 av, .u64 am, .u64 alo, .u64 ahi, .int .i64 asl, .int .i64 ash, .u64 bv, .u64 bm, .u64 blo, .u64 bhi, .int .i64 bsl, .int .i64 bsh]] => .test (R.inS ⟨alo, ahi, asl, ash⟩ && R.inS ⟨blo, bhi, bsl, bsh⟩) (.ok (scv (A.moved off (⟨⟨bv, bm⟩, ⟨blo, bhi, bsl, bsh⟩⟩ : Sc))) [])
  | [.agg [.int .u8 op, .int .i16 off, .ff, .u64 av, .u64 am, .u64 alo, .u64 ahi, .int .i64 asl, .int .i64 ash, .u64 bv, .u64 bm, .u64 blo, .u64 bhi, .int .i64 bsl, .int .i64 bsh]] => .test (R.inS ⟨alo, ahi, asl, ash⟩ && R.inS ⟨blo, bhi, bsl, bsh⟩) (.ok (scv (A.moved off (⟨⟨bv, bm⟩, ⟨blo, bhi, bsl, bsh⟩⟩ : Sc))) [])
  | _ => .fail
theorem k_amoved_ok : CtrOk Tryz.prog Gw 170 k_amoved := by
  refine ⟨fun _ _ => by kernel_rfl, fun args M => ?_⟩
  unfold k_amoved
  split
  · rename_i op off av am alo ahi asl ash bv bm blo bhi bsl bsh
    intro ht
    have hq := S.and_true2 ht
    have hq1 := hq.1
    have hq2 := hq.2
    have hs : R.inS (A.sdo op (⟨alo, ahi, asl, ash⟩ : Sp) (⟨blo, bhi, bsl, bsh⟩ : Sp)) = true := A.sdo_in hq.1 hq.2
    refine ctr_flat (Γ := ⟨[(96, k_cLow), (15, k_cUnknown), (95, k_gotC), (97, k_orC)], eqs, [], [], []⟩) (sv := scv (A.moved off (⟨⟨bv, bm⟩, ⟨blo, bhi, bsl, bsh⟩⟩ : Sc))) st_Gw ⟨(okCons k_cLow_ok (okCons k_cUnknown_ok (okCons k_gotC_ok (okCons k_orC_ok okNil)))), eqs_ok, okNilB, okNilI, okNilP⟩ Tryz.func170 rfl mixed [] (by kernel_rfl) 10000 (by rfl) ?_
    (conv => whnf)
    (repeat' (first | (refine step_t (by first | rfl | assumption) ?_; (conv => whnf)) | (refine step_f (by first | rfl | assumption) ?_; (conv => whnf)) | (refine step_nt (by assumption) ?_; (conv => whnf)) | (refine step_nf (by assumption) ?_; (conv => whnf)) | (refine step_n (fun hb => ?_) (fun hb => ?_) <;> (first | contradiction | (conv => whnf))) | (refine And.intro (fun hb => ?_) (fun hb => ?_) <;> (first | contradiction | (conv => whnf))) | (refine And.intro (a := (_ : Bool) = true) ?_ ?_; rotate_left 1; (conv => whnf))))
    all_goals (first | rfl | trivial | assumption | exact eqv_of (x := (⟨⟨bv, bm⟩, ⟨blo, bhi, bsl, bsh⟩⟩ : Sc)) (A.mov_0 (by assumption)) | exact eqv_of (A.mov_1 (by assumption)) )
  · rename_i op off av am alo ahi asl ash bv bm blo bhi bsl bsh
    intro ht
    have hq := S.and_true2 ht
    have hq1 := hq.1
    have hq2 := hq.2
    have hs : R.inS (A.sdo op (⟨alo, ahi, asl, ash⟩ : Sp) (⟨blo, bhi, bsl, bsh⟩ : Sp)) = true := A.sdo_in hq.1 hq.2
    refine ctr_flat (Γ := ⟨[(96, k_cLow), (15, k_cUnknown), (95, k_gotC), (97, k_orC)], eqs, [], [], []⟩) (sv := scv (A.moved off (⟨⟨bv, bm⟩, ⟨blo, bhi, bsl, bsh⟩⟩ : Sc))) st_Gw ⟨(okCons k_cLow_ok (okCons k_cUnknown_ok (okCons k_gotC_ok (okCons k_orC_ok okNil)))), eqs_ok, okNilB, okNilI, okNilP⟩ Tryz.func170 rfl mixed [] (by kernel_rfl) 10000 (by rfl) ?_
    (conv => whnf)
    (repeat' (first | (refine step_t (by first | rfl | assumption) ?_; (conv => whnf)) | (refine step_f (by first | rfl | assumption) ?_; (conv => whnf)) | (refine step_nt (by assumption) ?_; (conv => whnf)) | (refine step_nf (by assumption) ?_; (conv => whnf)) | (refine step_n (fun hb => ?_) (fun hb => ?_) <;> (first | contradiction | (conv => whnf))) | (refine And.intro (fun hb => ?_) (fun hb => ?_) <;> (first | contradiction | (conv => whnf))) | (refine And.intro (a := (_ : Bool) = true) ?_ ?_; rotate_left 1; (conv => whnf))))
    all_goals (first | rfl | trivial | assumption | exact eqv_of (x := (⟨⟨bv, bm⟩, ⟨blo, bhi, bsl, bsh⟩⟩ : Sc)) (A.mov_0 (by assumption)) | exact eqv_of (A.mov_1 (by assumption)) )
  · trivial
def k_aquot : List SV → List Blk → Res := fun args _ => match args with
  | [.agg [.int .u8 op, .int .i16 off, .tt, .u64 av, .u64 am, .u64 alo, .u64 ahi, .int .i64 asl, .int .i64 ash, .u64 bv, .u64 bm, .u64 blo, .u64 bhi, .int .i64 bsl, .int .i64 bsh]] => .test (R.inS ⟨alo, ahi, asl, ash⟩ && R.inS ⟨blo, bhi, bsl, bsh⟩) (.ok (scv (A.quot op off (⟨⟨av, am⟩, ⟨alo, ahi, asl, ash⟩⟩ : Sc) (⟨⟨bv, bm⟩, ⟨blo, bhi, bsl, bsh⟩⟩ : Sc))) [])
  | [.agg [.int .u8 op, .int .i16 off, .ff, .u64 av, .u64 am, .u64 alo, .u64 ahi, .int .i64 asl, .int .i64 ash, .u64 bv, .u64 bm, .u64 blo, .u64 bhi, .int .i64 bsl, .int .i64 bsh]] => .test (R.inS ⟨alo, ahi, asl, ash⟩ && R.inS ⟨blo, bhi, bsl, bsh⟩) (.ok (scv (A.quot op off (⟨⟨av, am⟩, ⟨alo, ahi, asl, ash⟩⟩ : Sc) (⟨⟨bv, bm⟩, ⟨blo, bhi, bsl, bsh⟩⟩ : Sc))) [])
  | _ => .fail
theorem k_aquot_ok : CtrOk Tryz.prog Gw 171 k_aquot := by
  refine ⟨fun _ _ => by kernel_rfl, fun args M => ?_⟩
  unfold k_aquot
  split
  · rename_i op off av am alo ahi asl ash bv bm blo bhi bsl bsh
    intro ht
    have hq := S.and_true2 ht
    have hq1 := hq.1
    have hq2 := hq.2
    have hs : R.inS (A.sdo op (⟨alo, ahi, asl, ash⟩ : Sp) (⟨blo, bhi, bsl, bsh⟩ : Sp)) = true := A.sdo_in hq.1 hq.2
    refine ctr_flat (Γ := ⟨[(21, k_cOne), (15, k_cUnknown), (207, k_sDo), (36, k_sFull), (35, k_Unknown), (202, k_aof), (209, k_aup), (206, k_gotS), (208, k_orS)], eqs, [], [], []⟩) (sv := scv (A.quot op off (⟨⟨av, am⟩, ⟨alo, ahi, asl, ash⟩⟩ : Sc) (⟨⟨bv, bm⟩, ⟨blo, bhi, bsl, bsh⟩⟩ : Sc))) st_Gw ⟨(okCons k_cOne_ok (okCons k_cUnknown_ok (okCons k_sDo_ok (okCons k_sFull_ok (okCons k_Unknown_ok (okCons k_aof_ok (okCons k_aup_ok (okCons k_gotS_ok (okCons k_orS_ok okNil))))))))), eqs_ok, okNilB, okNilI, okNilP⟩ Tryz.func171 rfl mixed [(5, 11, [0, 0, 2, 0, 8, 24, 0, 64, 192, 511, 1023, 1023, 4095, 8191, 16383, 32767, 65535])] (by kernel_rfl) 10000 (by rfl) ?_
    (conv => whnf)
    (repeat' (first | (refine step_t (by first | rfl | assumption) ?_; (conv => whnf)) | (refine step_f (by first | rfl | assumption) ?_; (conv => whnf)) | (refine step_nt (by assumption) ?_; (conv => whnf)) | (refine step_nf (by assumption) ?_; (conv => whnf)) | (refine step_n (fun hb => ?_) (fun hb => ?_) <;> (first | contradiction | (conv => whnf))) | (refine And.intro (fun hb => ?_) (fun hb => ?_) <;> (first | contradiction | (conv => whnf))) | (refine And.intro (a := (_ : Bool) = true) ?_ ?_; rotate_left 1; (conv => whnf))))
    all_goals (first | rfl | trivial | assumption | exact hs | exact eqv_of (A.quo_u (by assumption)) | exact eqv_of (A.quo_1 (by assumption) (by assumption) (by assumption)) | exact eqv_of (A.quo_2 (by assumption) (by assumption) (by assumption)) | exact eqv_of (A.quo_3 (by assumption) (by assumption)) )
  · rename_i op off av am alo ahi asl ash bv bm blo bhi bsl bsh
    intro ht
    have hq := S.and_true2 ht
    have hq1 := hq.1
    have hq2 := hq.2
    have hs : R.inS (A.sdo op (⟨alo, ahi, asl, ash⟩ : Sp) (⟨blo, bhi, bsl, bsh⟩ : Sp)) = true := A.sdo_in hq.1 hq.2
    refine ctr_flat (Γ := ⟨[(21, k_cOne), (15, k_cUnknown), (207, k_sDo), (36, k_sFull), (35, k_Unknown), (202, k_aof), (209, k_aup), (206, k_gotS), (208, k_orS)], eqs, [], [], []⟩) (sv := scv (A.quot op off (⟨⟨av, am⟩, ⟨alo, ahi, asl, ash⟩⟩ : Sc) (⟨⟨bv, bm⟩, ⟨blo, bhi, bsl, bsh⟩⟩ : Sc))) st_Gw ⟨(okCons k_cOne_ok (okCons k_cUnknown_ok (okCons k_sDo_ok (okCons k_sFull_ok (okCons k_Unknown_ok (okCons k_aof_ok (okCons k_aup_ok (okCons k_gotS_ok (okCons k_orS_ok okNil))))))))), eqs_ok, okNilB, okNilI, okNilP⟩ Tryz.func171 rfl mixed [(5, 11, [0, 0, 2, 0, 8, 24, 0, 64, 192, 511, 1023, 1023, 4095, 8191, 16383, 32767, 65535])] (by kernel_rfl) 10000 (by rfl) ?_
    (conv => whnf)
    (repeat' (first | (refine step_t (by first | rfl | assumption) ?_; (conv => whnf)) | (refine step_f (by first | rfl | assumption) ?_; (conv => whnf)) | (refine step_nt (by assumption) ?_; (conv => whnf)) | (refine step_nf (by assumption) ?_; (conv => whnf)) | (refine step_n (fun hb => ?_) (fun hb => ?_) <;> (first | contradiction | (conv => whnf))) | (refine And.intro (fun hb => ?_) (fun hb => ?_) <;> (first | contradiction | (conv => whnf))) | (refine And.intro (a := (_ : Bool) = true) ?_ ?_; rotate_left 1; (conv => whnf))))
    all_goals (first | rfl | trivial | assumption | exact hs | exact eqv_of (A.quo_u (by assumption)) | exact eqv_of (A.quo_1 (by assumption) (by assumption) (by assumption)) | exact eqv_of (A.quo_2 (by assumption) (by assumption) (by assumption)) | exact eqv_of (A.quo_3 (by assumption) (by assumption)) )
  · trivial
def k_arem : List SV → List Blk → Res := fun args _ => match args with
  | [.agg [.int .u8 op, .int .i16 off, .tt, .u64 av, .u64 am, .u64 alo, .u64 ahi, .int .i64 asl, .int .i64 ash, .u64 bv, .u64 bm, .u64 blo, .u64 bhi, .int .i64 bsl, .int .i64 bsh]] => .test (R.inS ⟨alo, ahi, asl, ash⟩ && R.inS ⟨blo, bhi, bsl, bsh⟩) (.ok (scv (A.rem off (⟨⟨av, am⟩, ⟨alo, ahi, asl, ash⟩⟩ : Sc) (⟨⟨bv, bm⟩, ⟨blo, bhi, bsl, bsh⟩⟩ : Sc))) [])
  | [.agg [.int .u8 op, .int .i16 off, .ff, .u64 av, .u64 am, .u64 alo, .u64 ahi, .int .i64 asl, .int .i64 ash, .u64 bv, .u64 bm, .u64 blo, .u64 bhi, .int .i64 bsl, .int .i64 bsh]] => .test (R.inS ⟨alo, ahi, asl, ash⟩ && R.inS ⟨blo, bhi, bsl, bsh⟩) (.ok (scv (A.rem off (⟨⟨av, am⟩, ⟨alo, ahi, asl, ash⟩⟩ : Sc) (⟨⟨bv, bm⟩, ⟨blo, bhi, bsl, bsh⟩⟩ : Sc))) [])
  | _ => .fail
theorem k_arem_ok : CtrOk Tryz.prog Gw 172 k_arem := by
  refine ⟨fun _ _ => by kernel_rfl, fun args M => ?_⟩
  unfold k_arem
  split
  · rename_i op off av am alo ahi asl ash bv bm blo bhi bsl bsh
    intro ht
    have hq := S.and_true2 ht
    have hq1 := hq.1
    have hq2 := hq.2
    have hs : R.inS (A.sdo op (⟨alo, ahi, asl, ash⟩ : Sp) (⟨blo, bhi, bsl, bsh⟩ : Sp)) = true := A.sdo_in hq.1 hq.2
    refine ctr_flat (Γ := ⟨[(21, k_cOne), (15, k_cUnknown), (209, k_aup)], eqs, [], [], []⟩) (sv := scv (A.rem off (⟨⟨av, am⟩, ⟨alo, ahi, asl, ash⟩⟩ : Sc) (⟨⟨bv, bm⟩, ⟨blo, bhi, bsl, bsh⟩⟩ : Sc))) st_Gw ⟨(okCons k_cOne_ok (okCons k_cUnknown_ok (okCons k_aup_ok okNil))), eqs_ok, okNilB, okNilI, okNilP⟩ Tryz.func172 rfl mixed [] (by kernel_rfl) 10000 (by rfl) ?_
    (conv => whnf)
    (repeat' (first | (refine step_t (by first | rfl | assumption) ?_; (conv => whnf)) | (refine step_f (by first | rfl | assumption) ?_; (conv => whnf)) | (refine step_nt (by assumption) ?_; (conv => whnf)) | (refine step_nf (by assumption) ?_; (conv => whnf)) | (refine step_n (fun hb => ?_) (fun hb => ?_) <;> (first | contradiction | (conv => whnf))) | (refine And.intro (fun hb => ?_) (fun hb => ?_) <;> (first | contradiction | (conv => whnf))) | (refine And.intro (a := (_ : Bool) = true) ?_ ?_; rotate_left 1; (conv => whnf))))
    all_goals (first | rfl | trivial | assumption | exact eqv_of (A.rem_u (by assumption)) | exact eqv_of (x := (⟨⟨av, am⟩, ⟨alo, ahi, asl, ash⟩⟩ : Sc)) (A.rem_1 (by assumption) (by assumption) (by assumption) (by assumption)) | exact eqv_of (A.rem_2 (by assumption) (by assumption) (by assumption) (by assumption)) | exact eqv_of (A.rem_3 (by assumption) (by assumption) (by assumption)) | exact eqv_of (A.rem_4 (by assumption) (by assumption)) )
  · rename_i op off av am alo ahi asl ash bv bm blo bhi bsl bsh
    intro ht
    have hq := S.and_true2 ht
    have hq1 := hq.1
    have hq2 := hq.2
    have hs : R.inS (A.sdo op (⟨alo, ahi, asl, ash⟩ : Sp) (⟨blo, bhi, bsl, bsh⟩ : Sp)) = true := A.sdo_in hq.1 hq.2
    refine ctr_flat (Γ := ⟨[(21, k_cOne), (15, k_cUnknown), (209, k_aup)], eqs, [], [], []⟩) (sv := scv (A.rem off (⟨⟨av, am⟩, ⟨alo, ahi, asl, ash⟩⟩ : Sc) (⟨⟨bv, bm⟩, ⟨blo, bhi, bsl, bsh⟩⟩ : Sc))) st_Gw ⟨(okCons k_cOne_ok (okCons k_cUnknown_ok (okCons k_aup_ok okNil))), eqs_ok, okNilB, okNilI, okNilP⟩ Tryz.func172 rfl mixed [] (by kernel_rfl) 10000 (by rfl) ?_
    (conv => whnf)
    (repeat' (first | (refine step_t (by first | rfl | assumption) ?_; (conv => whnf)) | (refine step_f (by first | rfl | assumption) ?_; (conv => whnf)) | (refine step_nt (by assumption) ?_; (conv => whnf)) | (refine step_nf (by assumption) ?_; (conv => whnf)) | (refine step_n (fun hb => ?_) (fun hb => ?_) <;> (first | contradiction | (conv => whnf))) | (refine And.intro (fun hb => ?_) (fun hb => ?_) <;> (first | contradiction | (conv => whnf))) | (refine And.intro (a := (_ : Bool) = true) ?_ ?_; rotate_left 1; (conv => whnf))))
    all_goals (first | rfl | trivial | assumption | exact eqv_of (A.rem_u (by assumption)) | exact eqv_of (x := (⟨⟨av, am⟩, ⟨alo, ahi, asl, ash⟩⟩ : Sc)) (A.rem_1 (by assumption) (by assumption) (by assumption) (by assumption)) | exact eqv_of (A.rem_2 (by assumption) (by assumption) (by assumption) (by assumption)) | exact eqv_of (A.rem_3 (by assumption) (by assumption) (by assumption)) | exact eqv_of (A.rem_4 (by assumption) (by assumption)) )
  · trivial
def k_ashift : List SV → List Blk → Res := fun args _ => match args with
  | [.agg [.int .u8 op, .int .i16 off, .tt, .u64 av, .u64 am, .u64 alo, .u64 ahi, .int .i64 asl, .int .i64 ash, .u64 bv, .u64 bm, .u64 blo, .u64 bhi, .int .i64 bsl, .int .i64 bsh]] => .test (R.inS ⟨alo, ahi, asl, ash⟩ && R.inS ⟨blo, bhi, bsl, bsh⟩) (.ok (scv (A.shiftA op true (⟨⟨av, am⟩, ⟨alo, ahi, asl, ash⟩⟩ : Sc) (⟨⟨bv, bm⟩, ⟨blo, bhi, bsl, bsh⟩⟩ : Sc))) [])
  | [.agg [.int .u8 op, .int .i16 off, .ff, .u64 av, .u64 am, .u64 alo, .u64 ahi, .int .i64 asl, .int .i64 ash, .u64 bv, .u64 bm, .u64 blo, .u64 bhi, .int .i64 bsl, .int .i64 bsh]] => .test (R.inS ⟨alo, ahi, asl, ash⟩ && R.inS ⟨blo, bhi, bsl, bsh⟩) (.ok (scv (A.shiftA op false (⟨⟨av, am⟩, ⟨alo, ahi, asl, ash⟩⟩ : Sc) (⟨⟨bv, bm⟩, ⟨blo, bhi, bsl, bsh⟩⟩ : Sc))) [])
  | _ => .fail
theorem k_ashift_ok : CtrOk Tryz.prog Gw 173 k_ashift := by
  refine ⟨fun _ _ => by kernel_rfl, fun args M => ?_⟩
  unfold k_ashift
  split
  · rename_i op off av am alo ahi asl ash bv bm blo bhi bsl bsh
    intro ht
    have hq := S.and_true2 ht
    have hq1 := hq.1
    have hq2 := hq.2
    have hs : R.inS (A.sdo op (⟨alo, ahi, asl, ash⟩ : Sp) (⟨blo, bhi, bsl, bsh⟩ : Sp)) = true := A.sdo_in hq.1 hq.2
    refine ctr_flat (Γ := ⟨[(21, k_cOne), (15, k_cUnknown), (211, k_ashifted)], eqs, [], [(210, Tryz.f210, [])], []⟩) (sv := scv (A.shiftA op true (⟨⟨av, am⟩, ⟨alo, ahi, asl, ash⟩⟩ : Sc) (⟨⟨bv, bm⟩, ⟨blo, bhi, bsl, bsh⟩⟩ : Sc))) st_Gw ⟨(okCons k_cOne_ok (okCons k_cUnknown_ok (okCons k_ashifted_ok okNil))), eqs_ok, okNilB, (okConsI Tryz.func210 rfl (by kernel_rfl) (fun _ _ => by kernel_rfl) okNilI), okNilP⟩ Tryz.func173 rfl mixed [] (by kernel_rfl) 10000 (by rfl) ?_
    (conv => whnf)
    (repeat' (first | (refine step_t (by first | rfl | assumption) ?_; (conv => whnf)) | (refine step_f (by first | rfl | assumption) ?_; (conv => whnf)) | (refine step_nt (by assumption) ?_; (conv => whnf)) | (refine step_nf (by assumption) ?_; (conv => whnf)) | (refine step_n (fun hb => ?_) (fun hb => ?_) <;> (first | contradiction | (conv => whnf))) | (refine And.intro (fun hb => ?_) (fun hb => ?_) <;> (first | contradiction | (conv => whnf))) | (refine And.intro (a := (_ : Bool) = true) ?_ ?_; rotate_left 1; (conv => whnf))))
    all_goals (first | rfl | trivial | assumption | exact eqv_of (A.shi_u (by assumption)) | exact eqv_of (A.shi_w (by assumption)) | exact eqv_of (A.shi_n (by assumption) (by assumption)) | exact eqv_of (A.shi_a (by assumption) (by assumption) (by assumption)) | exact eqv_of (A.shi_b (by assumption) (by assumption) (by assumption)) )
  · rename_i op off av am alo ahi asl ash bv bm blo bhi bsl bsh
    intro ht
    have hq := S.and_true2 ht
    have hq1 := hq.1
    have hq2 := hq.2
    have hs : R.inS (A.sdo op (⟨alo, ahi, asl, ash⟩ : Sp) (⟨blo, bhi, bsl, bsh⟩ : Sp)) = true := A.sdo_in hq.1 hq.2
    refine ctr_flat (Γ := ⟨[(21, k_cOne), (15, k_cUnknown), (211, k_ashifted)], eqs, [], [(210, Tryz.f210, [])], []⟩) (sv := scv (A.shiftA op false (⟨⟨av, am⟩, ⟨alo, ahi, asl, ash⟩⟩ : Sc) (⟨⟨bv, bm⟩, ⟨blo, bhi, bsl, bsh⟩⟩ : Sc))) st_Gw ⟨(okCons k_cOne_ok (okCons k_cUnknown_ok (okCons k_ashifted_ok okNil))), eqs_ok, okNilB, (okConsI Tryz.func210 rfl (by kernel_rfl) (fun _ _ => by kernel_rfl) okNilI), okNilP⟩ Tryz.func173 rfl mixed [] (by kernel_rfl) 10000 (by rfl) ?_
    (conv => whnf)
    (repeat' (first | (refine step_t (by first | rfl | assumption) ?_; (conv => whnf)) | (refine step_f (by first | rfl | assumption) ?_; (conv => whnf)) | (refine step_nt (by assumption) ?_; (conv => whnf)) | (refine step_nf (by assumption) ?_; (conv => whnf)) | (refine step_n (fun hb => ?_) (fun hb => ?_) <;> (first | contradiction | (conv => whnf))) | (refine And.intro (fun hb => ?_) (fun hb => ?_) <;> (first | contradiction | (conv => whnf))) | (refine And.intro (a := (_ : Bool) = true) ?_ ?_; rotate_left 1; (conv => whnf))))
    all_goals (first | rfl | trivial | assumption | exact eqv_of (A.shi_u (by assumption)) | exact eqv_of (A.shi_w (by assumption)) | exact eqv_of (A.shi_n (by assumption) (by assumption)) | exact eqv_of (A.shi_a (by assumption) (by assumption) (by assumption)) | exact eqv_of (A.shi_b (by assumption) (by assumption) (by assumption)) )
  · trivial
def k_aexact : List SV → List Blk → Res := fun args _ => match args with
  | [.agg [.int .u8 op, .int .i16 off, .tt, .u64 av, .u64 am, .u64 alo, .u64 ahi, .int .i64 asl, .int .i64 ash, .u64 bv, .u64 bm, .u64 blo, .u64 bhi, .int .i64 bsl, .int .i64 bsh]] => .test (R.inS ⟨alo, ahi, asl, ash⟩ && R.inS ⟨blo, bhi, bsl, bsh⟩) (.ok (.tup [scv (A.exactV op off true (⟨⟨av, am⟩, ⟨alo, ahi, asl, ash⟩⟩ : Sc) (⟨⟨bv, bm⟩, ⟨blo, bhi, bsl, bsh⟩⟩ : Sc)), .bool (A.exactB op off true (⟨⟨av, am⟩, ⟨alo, ahi, asl, ash⟩⟩ : Sc) (⟨⟨bv, bm⟩, ⟨blo, bhi, bsl, bsh⟩⟩ : Sc))]) [])
  | [.agg [.int .u8 op, .int .i16 off, .ff, .u64 av, .u64 am, .u64 alo, .u64 ahi, .int .i64 asl, .int .i64 ash, .u64 bv, .u64 bm, .u64 blo, .u64 bhi, .int .i64 bsl, .int .i64 bsh]] => .test (R.inS ⟨alo, ahi, asl, ash⟩ && R.inS ⟨blo, bhi, bsl, bsh⟩) (.ok (.tup [scv (A.exactV op off false (⟨⟨av, am⟩, ⟨alo, ahi, asl, ash⟩⟩ : Sc) (⟨⟨bv, bm⟩, ⟨blo, bhi, bsl, bsh⟩⟩ : Sc)), .bool (A.exactB op off false (⟨⟨av, am⟩, ⟨alo, ahi, asl, ash⟩⟩ : Sc) (⟨⟨bv, bm⟩, ⟨blo, bhi, bsl, bsh⟩⟩ : Sc))]) [])
  | _ => .fail
theorem k_aexact_ok : CtrOk Tryz.prog Gw 175 k_aexact := by
  refine ⟨fun _ _ => by kernel_rfl, fun args M => ?_⟩
  unfold k_aexact
  split
  · rename_i op off av am alo ahi asl ash bv bm blo bhi bsl bsh
    intro ht
    have hq := S.and_true2 ht
    have hq1 := hq.1
    have hq2 := hq.2
    have hs : R.inS (A.sdo op (⟨alo, ahi, asl, ash⟩ : Sp) (⟨blo, bhi, bsl, bsh⟩ : Sp)) = true := A.sdo_in hq.1 hq.2
    refine ctr_flat (Γ := ⟨[(21, k_cOne), (50, k_AluG), (9, k_cConst)], eqs, [], [], []⟩) (sv := .tup [scv (A.exactV op off true (⟨⟨av, am⟩, ⟨alo, ahi, asl, ash⟩⟩ : Sc) (⟨⟨bv, bm⟩, ⟨blo, bhi, bsl, bsh⟩⟩ : Sc)), .bool (A.exactB op off true (⟨⟨av, am⟩, ⟨alo, ahi, asl, ash⟩⟩ : Sc) (⟨⟨bv, bm⟩, ⟨blo, bhi, bsl, bsh⟩⟩ : Sc))]) st_Gw ⟨(okCons k_cOne_ok (okCons k_AluG_ok (okCons k_cConst_ok okNil))), eqs_ok, okNilB, okNilI, okNilP⟩ Tryz.func175 rfl mixed [] (by kernel_rfl) 10000 (by rfl) ?_
    (conv => whnf)
    (repeat' (first | (refine step_t (by first | rfl | assumption) ?_; (conv => whnf)) | (refine step_f (by first | rfl | assumption) ?_; (conv => whnf)) | (refine step_nt (by assumption) ?_; (conv => whnf)) | (refine step_nf (by assumption) ?_; (conv => whnf)) | (refine step_n (fun hb => ?_) (fun hb => ?_) <;> (first | contradiction | (conv => whnf))) | (refine And.intro (fun hb => ?_) (fun hb => ?_) <;> (first | contradiction | (conv => whnf))) | (refine And.intro (a := (_ : Bool) = true) ?_ ?_; rotate_left 1; (conv => whnf))))
    all_goals (first | rfl | trivial | assumption | (refine ⟨eqv_s (A.exactV op off _ (⟨⟨av, am⟩, ⟨alo, ahi, asl, ash⟩⟩ : Sc) (⟨⟨bv, bm⟩, ⟨blo, bhi, bsl, bsh⟩⟩ : Sc)), ?_, trivial⟩; unfold A.exactB; simp_all [eqv1, eqv2]; done))
  · rename_i op off av am alo ahi asl ash bv bm blo bhi bsl bsh
    intro ht
    have hq := S.and_true2 ht
    have hq1 := hq.1
    have hq2 := hq.2
    have hs : R.inS (A.sdo op (⟨alo, ahi, asl, ash⟩ : Sp) (⟨blo, bhi, bsl, bsh⟩ : Sp)) = true := A.sdo_in hq.1 hq.2
    refine ctr_flat (Γ := ⟨[(21, k_cOne), (50, k_AluG), (9, k_cConst)], eqs, [], [], []⟩) (sv := .tup [scv (A.exactV op off false (⟨⟨av, am⟩, ⟨alo, ahi, asl, ash⟩⟩ : Sc) (⟨⟨bv, bm⟩, ⟨blo, bhi, bsl, bsh⟩⟩ : Sc)), .bool (A.exactB op off false (⟨⟨av, am⟩, ⟨alo, ahi, asl, ash⟩⟩ : Sc) (⟨⟨bv, bm⟩, ⟨blo, bhi, bsl, bsh⟩⟩ : Sc))]) st_Gw ⟨(okCons k_cOne_ok (okCons k_AluG_ok (okCons k_cConst_ok okNil))), eqs_ok, okNilB, okNilI, okNilP⟩ Tryz.func175 rfl mixed [] (by kernel_rfl) 10000 (by rfl) ?_
    (conv => whnf)
    (repeat' (first | (refine step_t (by first | rfl | assumption) ?_; (conv => whnf)) | (refine step_f (by first | rfl | assumption) ?_; (conv => whnf)) | (refine step_nt (by assumption) ?_; (conv => whnf)) | (refine step_nf (by assumption) ?_; (conv => whnf)) | (refine step_n (fun hb => ?_) (fun hb => ?_) <;> (first | contradiction | (conv => whnf))) | (refine And.intro (fun hb => ?_) (fun hb => ?_) <;> (first | contradiction | (conv => whnf))) | (refine And.intro (a := (_ : Bool) = true) ?_ ?_; rotate_left 1; (conv => whnf))))
    all_goals (first | rfl | trivial | assumption | (refine ⟨eqv_s (A.exactV op off _ (⟨⟨av, am⟩, ⟨alo, ahi, asl, ash⟩⟩ : Sc) (⟨⟨bv, bm⟩, ⟨blo, bhi, bsl, bsh⟩⟩ : Sc)), ?_, trivial⟩; unfold A.exactB; simp_all [eqv1, eqv2]; done))
  · trivial
end Go.Proofs.YtddcaklgflfkeaaGreatDoor
