import Derived.Test.YtfjemlegodhfnaaGreatM28
import Derived.Test.YtfjemlegodhfnaaGreatM30
set_option linter.all false
namespace Go.Proofs.YtfjemlegodhfnaaGreat
open Go.RowKit Go.Sx
set_option maxRecDepth 100000
set_option maxHeartbeats 4000000
def k_sof:List SV→List Blk→Res:=fun args _=>match args with
 |[.agg [.u64 alo,.u64 ahi,.int .i64 asl,.int .i64 ash]]=>.ok (spv (⟨alo,ahi,asl,ash⟩:Sp)) []
 |_=>.fail
theorem k_sof_ok:CtrOk Tryz.prog Gw 88 k_sof:=by
 refine⟨fun _ _=>by kernel_rfl,fun args M => ?_⟩
 unfold k_sof
 split
 . rename_i alo ahi asl ash
   refine ctr_flat (Γ:=⟨[],eqs,[],[],[],mixs,meqs,[]⟩) (sv:=spv (⟨alo,ahi,asl,ash⟩:Sp)) st_Gw ⟨okNil,eqs_ok,okNilB,okNilI,okNilP,mixs_ok,meqs_ok,okNilY⟩ Tryz.func88 rfl mixed [] (by kernel_rfl) 10000 (by rfl) ?_
   (conv=>whnf)
   (repeat' (first | (refine And.intro (fun hb => ?_) (fun hb => ?_)<;>(first|contradiction | (conv=>whnf))) | (refine And.intro ?_ ?_;rotate_left 1;(conv=>whnf))))
   all_goals (first|rfl|trivial | ((try dsimp only at *);(try simp only[Bool.not_eq_true',Bool.not_eq_false',bne,ite_uv] at *);(simp only[eqv,eqv1,eqv2,eqvL1,eqvL2, *,bne,Bool.and_true,Bool.true_and,Bool.and_false,Bool.false_and,Bool.or_true,Bool.true_or,Bool.or_false,Bool.false_or,Bool.not_true,Bool.not_false,if_true,if_false,Bool.false_eq_true,beq_self_eq_true];done)) | ((try dsimp only at *);(try simp only[Bool.not_eq_true',Bool.not_eq_false',bne] at *);simp only[eqv,eqv1,eqv2,eqvL1,eqvL2, *,bne,Bool.and_true,Bool.true_and,Bool.and_false,Bool.false_and,Bool.or_true,Bool.true_or,Bool.or_false,Bool.false_or,Bool.not_true,Bool.not_false,if_true,if_false,Bool.false_eq_true,beq_self_eq_true];rfl) | (simp_all [eqv,eqv1,eqv2,eqvL1,eqvL2];done))
 . trivial
def k_sall:List SV→List Blk→Res:=fun args _=>match args with
 |[]=>.ok (spv S.full) []
 |_=>.fail
theorem k_sall_ok:CtrOk Tryz.prog Gw 86 k_sall:=by
 refine⟨fun _ _=>by kernel_rfl,fun args M => ?_⟩
 unfold k_sall
 split
 . refine ctr_flat (Γ:=⟨[],eqs,[],[],[],mixs,meqs,[]⟩) (sv:=spv S.full) st_Gw ⟨okNil,eqs_ok,okNilB,okNilI,okNilP,mixs_ok,meqs_ok,okNilY⟩ Tryz.func86 rfl mixed [] (by kernel_rfl) 10000 (by rfl) ?_
   (conv=>whnf)
   (repeat' (first | (refine And.intro (fun hb => ?_) (fun hb => ?_)<;>(first|contradiction | (conv=>whnf))) | (refine And.intro ?_ ?_;rotate_left 1;(conv=>whnf))))
   all_goals (first|rfl|trivial | ((try dsimp only at *);(try simp only[Bool.not_eq_true',Bool.not_eq_false',bne,ite_uv] at *);(simp only[eqv,eqv1,eqv2,eqvL1,eqvL2, *,bne,Bool.and_true,Bool.true_and,Bool.and_false,Bool.false_and,Bool.or_true,Bool.true_or,Bool.or_false,Bool.false_or,Bool.not_true,Bool.not_false,if_true,if_false,Bool.false_eq_true,beq_self_eq_true];done)) | ((try dsimp only at *);(try simp only[Bool.not_eq_true',Bool.not_eq_false',bne] at *);simp only[eqv,eqv1,eqv2,eqvL1,eqvL2, *,bne,Bool.and_true,Bool.true_and,Bool.and_false,Bool.false_and,Bool.or_true,Bool.true_or,Bool.or_false,Bool.false_or,Bool.not_true,Bool.not_false,if_true,if_false,Bool.false_eq_true,beq_self_eq_true];rfl) | (simp_all [eqv,eqv1,eqv2,eqvL1,eqvL2];done))
 . trivial
def k_sspan:List SV→List Blk→Res:=fun args _=>match args with
 |[.agg [.u64 alo,.u64 ahi,.int .i64 asl,.int .i64 ash]]=>.ok (spv (⟨alo,ahi,asl,ash⟩:Sp)) []
 |_=>.fail
theorem k_sspan_ok:CtrOk Tryz.prog Gw 38 k_sspan:=by
 refine⟨fun _ _=>by kernel_rfl,fun args M => ?_⟩
 unfold k_sspan
 split
 . rename_i alo ahi asl ash
   refine ctr_flat (Γ:=⟨[],eqs,[],[],[],mixs,meqs,[]⟩) (sv:=spv (⟨alo,ahi,asl,ash⟩:Sp)) st_Gw ⟨okNil,eqs_ok,okNilB,okNilI,okNilP,mixs_ok,meqs_ok,okNilY⟩ Tryz.func38 rfl mixed [] (by kernel_rfl) 10000 (by rfl) ?_
   (conv=>whnf)
   (repeat' (first | (refine And.intro (fun hb => ?_) (fun hb => ?_)<;>(first|contradiction | (conv=>whnf))) | (refine And.intro ?_ ?_;rotate_left 1;(conv=>whnf))))
   all_goals (first|rfl|trivial | ((try dsimp only at *);(try simp only[Bool.not_eq_true',Bool.not_eq_false',bne,ite_uv] at *);(simp only[eqv,eqv1,eqv2,eqvL1,eqvL2, *,bne,Bool.and_true,Bool.true_and,Bool.and_false,Bool.false_and,Bool.or_true,Bool.true_or,Bool.or_false,Bool.false_or,Bool.not_true,Bool.not_false,if_true,if_false,Bool.false_eq_true,beq_self_eq_true];done)) | ((try dsimp only at *);(try simp only[Bool.not_eq_true',Bool.not_eq_false',bne] at *);simp only[eqv,eqv1,eqv2,eqvL1,eqvL2, *,bne,Bool.and_true,Bool.true_and,Bool.and_false,Bool.false_and,Bool.or_true,Bool.true_or,Bool.or_false,Bool.false_or,Bool.not_true,Bool.not_false,if_true,if_false,Bool.false_eq_true,beq_self_eq_true];rfl) | (simp_all [eqv,eqv1,eqv2,eqvL1,eqvL2];done))
 . trivial
def k_srightU:List SV→List Blk→Res:=fun args _=>match args with
 |[.agg [.u64 alo,.u64 ahi]]=>.ok (.bool (decide (alo≤ahi))) []
 |_=>.fail
theorem k_srightU_ok:CtrOk Tryz.prog Gw 93 k_srightU:=by
 refine⟨fun _ _=>by kernel_rfl,fun args M => ?_⟩
 unfold k_srightU
 split
 . rename_i alo ahi
   refine ctr_flat (Γ:=⟨[],eqs,[],[],[],mixs,meqs,[]⟩) (sv:=.bool (decide (alo≤ahi))) st_Gw ⟨okNil,eqs_ok,okNilB,okNilI,okNilP,mixs_ok,meqs_ok,okNilY⟩ Tryz.func93 rfl mixed [] (by kernel_rfl) 10000 (by rfl) ?_
   (conv=>whnf)
   (repeat' (first | (refine And.intro (fun hb => ?_) (fun hb => ?_)<;>(first|contradiction | (conv=>whnf))) | (refine And.intro ?_ ?_;rotate_left 1;(conv=>whnf))))
   all_goals (first|rfl|trivial | ((try dsimp only at *);(try simp only[Bool.not_eq_true',Bool.not_eq_false',bne,ite_uv] at *);(simp only[eqv,eqv1,eqv2,eqvL1,eqvL2, *,bne,Bool.and_true,Bool.true_and,Bool.and_false,Bool.false_and,Bool.or_true,Bool.true_or,Bool.or_false,Bool.false_or,Bool.not_true,Bool.not_false,if_true,if_false,Bool.false_eq_true,beq_self_eq_true];done)) | ((try dsimp only at *);(try simp only[Bool.not_eq_true',Bool.not_eq_false',bne] at *);simp only[eqv,eqv1,eqv2,eqvL1,eqvL2, *,bne,Bool.and_true,Bool.true_and,Bool.and_false,Bool.false_and,Bool.or_true,Bool.true_or,Bool.or_false,Bool.false_or,Bool.not_true,Bool.not_false,if_true,if_false,Bool.false_eq_true,beq_self_eq_true];rfl) | (simp_all [eqv,eqv1,eqv2,eqvL1,eqvL2];done))
 . trivial
def k_srightI:List SV→List Blk→Res:=fun args _=>match args with
 |[.agg [.int .i64 asl,.int .i64 ash]]=>.ok (.bool (decide (asl≤ash))) []
 |_=>.fail
theorem k_srightI_ok:CtrOk Tryz.prog Gw 94 k_srightI:=by
 refine⟨fun _ _=>by kernel_rfl,fun args M => ?_⟩
 unfold k_srightI
 split
 . rename_i asl ash
   refine ctr_flat (Γ:=⟨[],eqs,[],[],[],mixs,meqs,[]⟩) (sv:=.bool (decide (asl≤ash))) st_Gw ⟨okNil,eqs_ok,okNilB,okNilI,okNilP,mixs_ok,meqs_ok,okNilY⟩ Tryz.func94 rfl mixed [] (by kernel_rfl) 10000 (by rfl) ?_
   (conv=>whnf)
   (repeat' (first | (refine And.intro (fun hb => ?_) (fun hb => ?_)<;>(first|contradiction | (conv=>whnf))) | (refine And.intro ?_ ?_;rotate_left 1;(conv=>whnf))))
   all_goals (first|rfl|trivial | ((try dsimp only at *);(try simp only[Bool.not_eq_true',Bool.not_eq_false',bne,ite_uv] at *);(simp only[eqv,eqv1,eqv2,eqvL1,eqvL2, *,bne,Bool.and_true,Bool.true_and,Bool.and_false,Bool.false_and,Bool.or_true,Bool.true_or,Bool.or_false,Bool.false_or,Bool.not_true,Bool.not_false,if_true,if_false,Bool.false_eq_true,beq_self_eq_true];done)) | ((try dsimp only at *);(try simp only[Bool.not_eq_true',Bool.not_eq_false',bne] at *);simp only[eqv,eqv1,eqv2,eqvL1,eqvL2, *,bne,Bool.and_true,Bool.true_and,Bool.and_false,Bool.false_and,Bool.or_true,Bool.true_or,Bool.or_false,Bool.false_or,Bool.not_true,Bool.not_false,if_true,if_false,Bool.false_eq_true,beq_self_eq_true];rfl) | (simp_all [eqv,eqv1,eqv2,eqvL1,eqvL2];done))
 . trivial
def k_sgood:List SV→List Blk→Res:=fun args _=>match args with
 |[.agg [.u64 alo,.u64 ahi,.int .i64 asl,.int .i64 ash]]=>.ok (.bool (S.good (⟨alo,ahi,asl,ash⟩:Sp))) []
 |_=>.fail
theorem k_sgood_ok:CtrOk Tryz.prog Gw 89 k_sgood:=by
 refine⟨fun _ _=>by kernel_rfl,fun args M => ?_⟩
 unfold k_sgood
 split
 . rename_i alo ahi asl ash
   refine ctr_flat (Γ:=⟨[(93,k_srightU),(94,k_srightI)],eqs,[],[],[],mixs,meqs,[]⟩) (sv:=.bool (S.good (⟨alo,ahi,asl,ash⟩:Sp))) st_Gw ⟨(okCons k_srightU_ok (okCons k_srightI_ok okNil)),eqs_ok,okNilB,okNilI,okNilP,mixs_ok,meqs_ok,okNilY⟩ Tryz.func89 rfl mixed [] (by kernel_rfl) 10000 (by rfl) ?_
   (conv=>whnf)
   (repeat' (first | (refine And.intro (fun hb => ?_) (fun hb => ?_)<;>(first|contradiction | (conv=>whnf))) | (refine And.intro ?_ ?_;rotate_left 1;(conv=>whnf))))
   all_goals (first|rfl|trivial | ((try dsimp only at *);(try simp only[Bool.not_eq_true',Bool.not_eq_false',bne,ite_uv] at *);(simp only[eqv,eqv1,eqv2,eqvL1,eqvL2, *,S.good,bne,Bool.and_true,Bool.true_and,Bool.and_false,Bool.false_and,Bool.or_true,Bool.true_or,Bool.or_false,Bool.false_or,Bool.not_true,Bool.not_false,if_true,if_false,Bool.false_eq_true,beq_self_eq_true];done)) | ((try dsimp only at *);(try simp only[Bool.not_eq_true',Bool.not_eq_false',bne] at *);simp only[eqv,eqv1,eqv2,eqvL1,eqvL2, *,S.good,bne,Bool.and_true,Bool.true_and,Bool.and_false,Bool.false_and,Bool.or_true,Bool.true_or,Bool.or_false,Bool.false_or,Bool.not_true,Bool.not_false,if_true,if_false,Bool.false_eq_true,beq_self_eq_true];rfl) | (simp_all [eqv,eqv1,eqv2,eqvL1,eqvL2,S.good];done))
 . trivial
def k_soneU:List SV→List Blk→Res:=fun args _=>match args with
 |[.u64 n]=>.ok (.agg [.u64 n,.u64 n]) []
 |_=>.fail
theorem k_soneU_ok:CtrOk Tryz.prog Gw 36 k_soneU:=by
 refine⟨fun _ _=>by kernel_rfl,fun args M => ?_⟩
 unfold k_soneU
 split
 . rename_i n
   refine ctr_flat (Γ:=⟨[],eqs,[],[],[],mixs,meqs,[]⟩) (sv:=.agg [.u64 n,.u64 n]) st_Gw ⟨okNil,eqs_ok,okNilB,okNilI,okNilP,mixs_ok,meqs_ok,okNilY⟩ Tryz.func36 rfl mixed [] (by kernel_rfl) 10000 (by rfl) ?_
   (conv=>whnf)
   (repeat' (first | (refine And.intro (fun hb => ?_) (fun hb => ?_)<;>(first|contradiction | (conv=>whnf))) | (refine And.intro ?_ ?_;rotate_left 1;(conv=>whnf))))
   all_goals (first|rfl|trivial | ((try dsimp only at *);(try simp only[Bool.not_eq_true',Bool.not_eq_false',bne,ite_uv] at *);(simp only[eqv,eqv1,eqv2,eqvL1,eqvL2, *,bne,Bool.and_true,Bool.true_and,Bool.and_false,Bool.false_and,Bool.or_true,Bool.true_or,Bool.or_false,Bool.false_or,Bool.not_true,Bool.not_false,if_true,if_false,Bool.false_eq_true,beq_self_eq_true];done)) | ((try dsimp only at *);(try simp only[Bool.not_eq_true',Bool.not_eq_false',bne] at *);simp only[eqv,eqv1,eqv2,eqvL1,eqvL2, *,bne,Bool.and_true,Bool.true_and,Bool.and_false,Bool.false_and,Bool.or_true,Bool.true_or,Bool.or_false,Bool.false_or,Bool.not_true,Bool.not_false,if_true,if_false,Bool.false_eq_true,beq_self_eq_true];rfl) | (simp_all [eqv,eqv1,eqv2,eqvL1,eqvL2];done))
 . trivial
def k_soneI:List SV→List Blk→Res:=fun args _=>match args with
 |[.int .i64 n]=>.ok (.agg [.int .i64 n,.int .i64 n]) []
 |_=>.fail
theorem k_soneI_ok:CtrOk Tryz.prog Gw 37 k_soneI:=by
 refine⟨fun _ _=>by kernel_rfl,fun args M => ?_⟩
 unfold k_soneI
 split
 . rename_i n
   refine ctr_flat (Γ:=⟨[],eqs,[],[],[],mixs,meqs,[]⟩) (sv:=.agg [.int .i64 n,.int .i64 n]) st_Gw ⟨okNil,eqs_ok,okNilB,okNilI,okNilP,mixs_ok,meqs_ok,okNilY⟩ Tryz.func37 rfl mixed [] (by kernel_rfl) 10000 (by rfl) ?_
   (conv=>whnf)
   (repeat' (first | (refine And.intro (fun hb => ?_) (fun hb => ?_)<;>(first|contradiction | (conv=>whnf))) | (refine And.intro ?_ ?_;rotate_left 1;(conv=>whnf))))
   all_goals (first|rfl|trivial | ((try dsimp only at *);(try simp only[Bool.not_eq_true',Bool.not_eq_false',bne,ite_uv] at *);(simp only[eqv,eqv1,eqv2,eqvL1,eqvL2, *,bne,Bool.and_true,Bool.true_and,Bool.and_false,Bool.false_and,Bool.or_true,Bool.true_or,Bool.or_false,Bool.false_or,Bool.not_true,Bool.not_false,if_true,if_false,Bool.false_eq_true,beq_self_eq_true];done)) | ((try dsimp only at *);(try simp only[Bool.not_eq_true',Bool.not_eq_false',bne] at *);simp only[eqv,eqv1,eqv2,eqvL1,eqvL2, *,bne,Bool.and_true,Bool.true_and,Bool.and_false,Bool.false_and,Bool.or_true,Bool.true_or,Bool.or_false,Bool.false_or,Bool.not_true,Bool.not_false,if_true,if_false,Bool.false_eq_true,beq_self_eq_true];rfl) | (simp_all [eqv,eqv1,eqv2,eqvL1,eqvL2];done))
 . trivial
def k_sFull:List SV→List Blk→Res:=fun args _=>match args with
 |[]=>.ok (spv S.full) []
 |_=>.fail
theorem k_sFull_ok:CtrOk Tryz.prog Gw 63 k_sFull:=by
 refine⟨fun _ _=>by kernel_rfl,fun args M => ?_⟩
 unfold k_sFull
 split
 . refine ctr_flat (Γ:=⟨[(86,k_sall),(38,k_sspan)],eqs,[],[],[],mixs,meqs,[]⟩) (sv:=spv S.full) st_Gw ⟨(okCons k_sall_ok (okCons k_sspan_ok okNil)),eqs_ok,okNilB,okNilI,okNilP,mixs_ok,meqs_ok,okNilY⟩ Tryz.func63 rfl mixed [] (by kernel_rfl) 10000 (by rfl) ?_
   (conv=>whnf)
   (repeat' (first | (refine And.intro (fun hb => ?_) (fun hb => ?_)<;>(first|contradiction | (conv=>whnf))) | (refine And.intro ?_ ?_;rotate_left 1;(conv=>whnf))))
   all_goals (first|rfl|trivial | ((try dsimp only at *);(try simp only[Bool.not_eq_true',Bool.not_eq_false',bne,ite_uv] at *);(simp only[eqv,eqv1,eqv2,eqvL1,eqvL2, *,bne,Bool.and_true,Bool.true_and,Bool.and_false,Bool.false_and,Bool.or_true,Bool.true_or,Bool.or_false,Bool.false_or,Bool.not_true,Bool.not_false,if_true,if_false,Bool.false_eq_true,beq_self_eq_true];done)) | ((try dsimp only at *);(try simp only[Bool.not_eq_true',Bool.not_eq_false',bne] at *);simp only[eqv,eqv1,eqv2,eqvL1,eqvL2, *,bne,Bool.and_true,Bool.true_and,Bool.and_false,Bool.false_and,Bool.or_true,Bool.true_or,Bool.or_false,Bool.false_or,Bool.not_true,Bool.not_false,if_true,if_false,Bool.false_eq_true,beq_self_eq_true];rfl) | (simp_all [eqv,eqv1,eqv2,eqvL1,eqvL2];done))
 . trivial
def k_sConst:List SV→List Blk→Res:=fun args _=>match args with
 |[.u64 n]=>.ok (spv (S.one n)) []
 |_=>.fail
theorem k_sConst_ok:CtrOk Tryz.prog Gw 24 k_sConst:=by
 refine⟨fun _ _=>by kernel_rfl,fun args M => ?_⟩
 unfold k_sConst
 split
 . rename_i n
   refine ctr_flat (Γ:=⟨[(36,k_soneU),(37,k_soneI),(38,k_sspan)],eqs,[],[],[],mixs,meqs,[]⟩) (sv:=spv (S.one n)) st_Gw ⟨(okCons k_soneU_ok (okCons k_soneI_ok (okCons k_sspan_ok okNil))),eqs_ok,okNilB,okNilI,okNilP,mixs_ok,meqs_ok,okNilY⟩ Tryz.func24 rfl mixed [] (by kernel_rfl) 10000 (by rfl) ?_
   (conv=>whnf)
   (repeat' (first | (refine And.intro (fun hb => ?_) (fun hb => ?_)<;>(first|contradiction | (conv=>whnf))) | (refine And.intro ?_ ?_;rotate_left 1;(conv=>whnf))))
   all_goals (first|rfl|trivial | ((try dsimp only at *);(try simp only[Bool.not_eq_true',Bool.not_eq_false',bne,ite_uv] at *);(simp only[eqv,eqv1,eqv2,eqvL1,eqvL2, *,S.one,bne,Bool.and_true,Bool.true_and,Bool.and_false,Bool.false_and,Bool.or_true,Bool.true_or,Bool.or_false,Bool.false_or,Bool.not_true,Bool.not_false,if_true,if_false,Bool.false_eq_true,beq_self_eq_true];done)) | ((try dsimp only at *);(try simp only[Bool.not_eq_true',Bool.not_eq_false',bne] at *);simp only[eqv,eqv1,eqv2,eqvL1,eqvL2, *,S.one,bne,Bool.and_true,Bool.true_and,Bool.and_false,Bool.false_and,Bool.or_true,Bool.true_or,Bool.or_false,Bool.false_or,Bool.not_true,Bool.not_false,if_true,if_false,Bool.false_eq_true,beq_self_eq_true];rfl) | (simp_all [eqv,eqv1,eqv2,eqvL1,eqvL2,S.one];done))
 . trivial
def k_sRight:List SV→List Blk→Res:=fun args _=>match args with
 |[.agg [.u64 alo,.u64 ahi,.int .i64 asl,.int .i64 ash]]=>.ok (.bool (S.good (⟨alo,ahi,asl,ash⟩:Sp))) []
 |_=>.fail
theorem k_sRight_ok:CtrOk Tryz.prog Gw 66 k_sRight:=by
 refine⟨fun _ _=>by kernel_rfl,fun args M => ?_⟩
 unfold k_sRight
 split
 . rename_i alo ahi asl ash
   refine ctr_flat (Γ:=⟨[(88,k_sof),(89,k_sgood)],eqs,[],[],[],mixs,meqs,[]⟩) (sv:=.bool (S.good (⟨alo,ahi,asl,ash⟩:Sp))) st_Gw ⟨(okCons k_sof_ok (okCons k_sgood_ok okNil)),eqs_ok,okNilB,okNilI,okNilP,mixs_ok,meqs_ok,okNilY⟩ Tryz.func66 rfl mixed [] (by kernel_rfl) 10000 (by rfl) ?_
   (conv=>whnf)
   (repeat' (first | (refine And.intro (fun hb => ?_) (fun hb => ?_)<;>(first|contradiction | (conv=>whnf))) | (refine And.intro ?_ ?_;rotate_left 1;(conv=>whnf))))
   all_goals (first|rfl|trivial | ((try dsimp only at *);(try simp only[Bool.not_eq_true',Bool.not_eq_false',bne,ite_uv] at *);(simp only[eqv,eqv1,eqv2,eqvL1,eqvL2, *,bne,Bool.and_true,Bool.true_and,Bool.and_false,Bool.false_and,Bool.or_true,Bool.true_or,Bool.or_false,Bool.false_or,Bool.not_true,Bool.not_false,if_true,if_false,Bool.false_eq_true,beq_self_eq_true];done)) | ((try dsimp only at *);(try simp only[Bool.not_eq_true',Bool.not_eq_false',bne] at *);simp only[eqv,eqv1,eqv2,eqvL1,eqvL2, *,bne,Bool.and_true,Bool.true_and,Bool.and_false,Bool.false_and,Bool.or_true,Bool.true_or,Bool.or_false,Bool.false_or,Bool.not_true,Bool.not_false,if_true,if_false,Bool.false_eq_true,beq_self_eq_true];rfl) | (simp_all [eqv,eqv1,eqv2,eqvL1,eqvL2];done))
 . trivial
end Go.Proofs.YtfjemlegodhfnaaGreat
namespace Go.Proofs.YtfjemlegodhfnaaGreat
open Go.RowKit Go.Sx
set_option maxRecDepth 100000
set_option maxHeartbeats 4000000
namespace S
theorem has_form (a:Sp)(n:BitVec 64):has a n=(good a&&(decide (a.lo≤n)&&(decide (n≤a.hi)&&(decide (a.sl≤sv n)&&decide (sv n≤a.sh))))):=by
 unfold has leq
 rw[one_good]
 show(true&&(good a&&((decide (a.lo≤n)&&decide (n≤a.hi))&&(decide (a.sl≤sv n)&&decide (sv n≤a.sh)))))=_
 cases good a<;>cases decide (a.lo≤n)<;>cases decide (n≤a.hi)<;>simp
end S
end Go.Proofs.YtfjemlegodhfnaaGreat
namespace Go.Proofs.YtfjemlegodhfnaaGreat
open Go.RowKit Go.Sx
set_option maxRecDepth 100000
set_option maxHeartbeats 4000000
theorem eqv_ff (y:Sc):eqv (.tup [scv y,.ff]) (.tup [scv y,.bool false]):=⟨⟨rfl,rfl,rfl,rfl,⟨rfl,rfl⟩,⟨rfl,rfl⟩,trivial⟩,rfl,trivial⟩
theorem eqv_tt (y:Sc):eqv (.tup [scv y,.tt]) (.tup [scv y,.bool true]):=⟨⟨rfl,rfl,rfl,rfl,⟨rfl,rfl⟩,⟨rfl,rfl⟩,trivial⟩,rfl,trivial⟩
theorem C.bt {a b:BitVec 64}(h:(a != b)=false):(a==b)=true:=by revert h;unfold bne;cases (a==b)<;>simp
theorem C.bf {a b:BitVec 64}(h:(a != b)=true):(a==b)=false:=by revert h;unfold bne;cases (a==b)<;>simp
theorem C.ct {a b:Bool}(h:(a != b)=false):(a==b)=true:=by revert h;cases a<;>cases b<;>simp
theorem C.cf {a b:Bool}(h:(a != b)=true):(a==b)=false:=by revert h;cases a<;>cases b<;>simp
end Go.Proofs.YtfjemlegodhfnaaGreat
