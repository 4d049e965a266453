import Derived.Test.YtfgkhenhlpoheaaGreatM14
set_option linter.all false
namespace Go.Proofs.YtfgkhenhlpoheaaGreat
open Go.RowKit Go.Sx
set_option maxRecDepth 100000
set_option maxHeartbeats 4000000
def k_qOf:List SV→List Blk→Res:=fun args _=>match args with
 |[.agg [.u64 av,.u64 am],.agg [.u64 alo,.u64 ahi,.int .i64 asl,.int .i64 ash]]=>.test (R.inS ⟨alo,ahi,asl,ash⟩) (.ok (.tup [scv (C.of ⟨av,am⟩ ⟨alo,ahi,asl,ash⟩).1,.bool (C.of ⟨av,am⟩ ⟨alo,ahi,asl,ash⟩).2]) [])
 |_=>.fail
def k_qConst:List SV→List Blk→Res:=fun args _=>match args with
 |[.u64 n]=>.ok (scv (C.const n)) []
 |_=>.fail
theorem k_qConst_ok:CtrOk Tryz.prog Gw 33 k_qConst:=by
 refine⟨fun _ _=>by kernel_rfl,fun args M => ?_⟩
 unfold k_qConst
 split
 . rename_i n
   refine ctr_flat (Γ:=⟨[(80,k_rConst)],eqs,[],[],[],mixs,meqs,[]⟩) (sv:=scv (C.const n)) st_Gw ⟨(okCons k_rConst_ok okNil),eqs_ok,okNilB,okNilI,okNilP,mixs_ok,meqs_ok,okNilY⟩ Tryz.func33 rfl mixed [] (by kernel_rfl) 10000 (by rfl) ?_
   (conv=>whnf)
   (repeat' (first | (refine And.intro (fun hb => ?_) (fun hb => ?_)<;>(first|contradiction | (conv=>whnf))) | (refine And.intro ?_ ?_;rotate_left 1;(conv=>whnf))))
   all_goals (first|rfl|trivial | ((try dsimp only at *);(try simp only[Bool.not_eq_true',Bool.not_eq_false',bne,ite_uv] at *);(simp only[eqv,eqv1,eqv2,eqvL1,eqvL2, *,C.const,bne,Bool.and_true,Bool.true_and,Bool.and_false,Bool.false_and,Bool.or_true,Bool.true_or,Bool.or_false,Bool.false_or,Bool.not_true,Bool.not_false,if_true,if_false,Bool.false_eq_true,beq_self_eq_true];done)) | ((try dsimp only at *);(try simp only[Bool.not_eq_true',Bool.not_eq_false',bne] at *);simp only[eqv,eqv1,eqv2,eqvL1,eqvL2, *,C.const,bne,Bool.and_true,Bool.true_and,Bool.and_false,Bool.false_and,Bool.or_true,Bool.true_or,Bool.or_false,Bool.false_or,Bool.not_true,Bool.not_false,if_true,if_false,Bool.false_eq_true,beq_self_eq_true];rfl) | (simp_all [eqv,eqv1,eqv2,eqvL1,eqvL2,C.const];done))
 . trivial
def k_qUnknown:List SV→List Blk→Res:=fun args _=>match args with
 |[]=>.ok (scv C.unknown) []
 |_=>.fail
theorem k_qUnknown_ok:CtrOk Tryz.prog Gw 76 k_qUnknown:=by
 refine⟨fun _ _=>by kernel_rfl,fun args M => ?_⟩
 unfold k_qUnknown
 split
 . refine ctr_flat (Γ:=⟨[(64,k_rUnknown)],eqs,[],[],[],mixs,meqs,[]⟩) (sv:=scv C.unknown) st_Gw ⟨(okCons k_rUnknown_ok okNil),eqs_ok,okNilB,okNilI,okNilP,mixs_ok,meqs_ok,okNilY⟩ Tryz.func76 rfl mixed [] (by kernel_rfl) 10000 (by rfl) ?_
   (conv=>whnf)
   (repeat' (first | (refine And.intro (fun hb => ?_) (fun hb => ?_)<;>(first|contradiction | (conv=>whnf))) | (refine And.intro ?_ ?_;rotate_left 1;(conv=>whnf))))
   all_goals (first|rfl|trivial | ((try dsimp only at *);(try simp only[Bool.not_eq_true',Bool.not_eq_false',bne,ite_uv] at *);(simp only[eqv,eqv1,eqv2,eqvL1,eqvL2, *,C.unknown,bne,Bool.and_true,Bool.true_and,Bool.and_false,Bool.false_and,Bool.or_true,Bool.true_or,Bool.or_false,Bool.false_or,Bool.not_true,Bool.not_false,if_true,if_false,Bool.false_eq_true,beq_self_eq_true];done)) | ((try dsimp only at *);(try simp only[Bool.not_eq_true',Bool.not_eq_false',bne] at *);simp only[eqv,eqv1,eqv2,eqvL1,eqvL2, *,C.unknown,bne,Bool.and_true,Bool.true_and,Bool.and_false,Bool.false_and,Bool.or_true,Bool.true_or,Bool.or_false,Bool.false_or,Bool.not_true,Bool.not_false,if_true,if_false,Bool.false_eq_true,beq_self_eq_true];rfl) | (simp_all [eqv,eqv1,eqv2,eqvL1,eqvL2,C.unknown];done))
 . trivial
def k_qRight:List SV→List Blk→Res:=fun args _=>match args with
 |[.agg [.u64 av,.u64 am,.u64 alo,.u64 ahi,.int .i64 asl,.int .i64 ash]]=>.test (R.inS ⟨alo,ahi,asl,ash⟩) (.ok (.bool (C.right (⟨⟨av,am⟩,⟨alo,ahi,asl,ash⟩⟩:Sc))) [])
 |_=>.fail
theorem k_qRight_ok:CtrOk Tryz.prog Gw 85 k_qRight:=by
 refine⟨fun _ _=>by kernel_rfl,fun args M => ?_⟩
 unfold k_qRight
 split
 . rename_i av am alo ahi asl ash
   intro ht
   refine ctr_flat (Γ:=⟨[(112,k_rTog)],eqs,[],[],[],mixs,meqs,[]⟩) (sv:=.bool (C.right (⟨⟨av,am⟩,⟨alo,ahi,asl,ash⟩⟩:Sc))) st_Gw ⟨(okCons k_rTog_ok okNil),eqs_ok,okNilB,okNilI,okNilP,mixs_ok,meqs_ok,okNilY⟩ Tryz.func85 rfl mixed [] (by kernel_rfl) 10000 (by rfl) ?_
   (conv=>whnf)
   (repeat' (first | (refine And.intro (fun hb => ?_) (fun hb => ?_)<;>(first|contradiction | (conv=>whnf))) | (refine And.intro ?_ ?_;rotate_left 1;(conv=>whnf))))
   all_goals (first|assumption|first|rfl|trivial | ((try dsimp only at *);(try simp only[Bool.not_eq_true',Bool.not_eq_false',bne,ite_uv] at *);(simp only[eqv,eqv1,eqv2,eqvL1,eqvL2, *,C.right,C.eqc,bne,Bool.and_true,Bool.true_and,Bool.and_false,Bool.false_and,Bool.or_true,Bool.true_or,Bool.or_false,Bool.false_or,Bool.not_true,Bool.not_false,if_true,if_false,Bool.false_eq_true,beq_self_eq_true];done)) | ((try dsimp only at *);(try simp only[Bool.not_eq_true',Bool.not_eq_false',bne] at *);simp only[eqv,eqv1,eqv2,eqvL1,eqvL2, *,C.right,C.eqc,bne,Bool.and_true,Bool.true_and,Bool.and_false,Bool.false_and,Bool.or_true,Bool.true_or,Bool.or_false,Bool.false_or,Bool.not_true,Bool.not_false,if_true,if_false,Bool.false_eq_true,beq_self_eq_true];rfl) | (simp_all [eqv,eqv1,eqv2,eqvL1,eqvL2,C.right,C.eqc];done))
 . trivial
def k_qOne:List SV→List Blk→Res:=fun args _=>match args with
 |[.agg [.u64 av,.u64 am,.u64 alo,.u64 ahi,.int .i64 asl,.int .i64 ash]]=>.test (R.inS ⟨alo,ahi,asl,ash⟩) (.ok (.tup [.u64 (C.one (⟨⟨av,am⟩,⟨alo,ahi,asl,ash⟩⟩:Sc)).1,.bool (C.one (⟨⟨av,am⟩,⟨alo,ahi,asl,ash⟩⟩:Sc)).2]) [])
 |_=>.fail
theorem k_qOne_ok:CtrOk Tryz.prog Gw 62 k_qOne:=by
 refine⟨fun _ _=>by kernel_rfl,fun args M => ?_⟩
 unfold k_qOne
 split
 . rename_i av am alo ahi asl ash
   intro ht
   refine ctr_flat (Γ:=⟨[(85,k_qRight)],eqs,[],[],[],mixs,meqs,[]⟩) (sv:=.tup [.u64 (C.one (⟨⟨av,am⟩,⟨alo,ahi,asl,ash⟩⟩:Sc)).1,.bool (C.one (⟨⟨av,am⟩,⟨alo,ahi,asl,ash⟩⟩:Sc)).2]) st_Gw ⟨(okCons k_qRight_ok okNil),eqs_ok,okNilB,okNilI,okNilP,mixs_ok,meqs_ok,okNilY⟩ Tryz.func62 rfl mixed [] (by kernel_rfl) 10000 (by rfl) ?_
   (conv=>whnf)
   (repeat' (first | (refine And.intro (fun hb => ?_) (fun hb => ?_)<;>(first|contradiction | (conv=>whnf))) | (refine And.intro ?_ ?_;rotate_left 1;(conv=>whnf))))
   all_goals (first|assumption|first|rfl|trivial | ((try dsimp only at *);(try simp only[Bool.not_eq_true',Bool.not_eq_false',bne,ite_uv] at *);(simp only[eqv,eqv1,eqv2,eqvL1,eqvL2, *,C.one,bne,Bool.and_true,Bool.true_and,Bool.and_false,Bool.false_and,Bool.or_true,Bool.true_or,Bool.or_false,Bool.false_or,Bool.not_true,Bool.not_false,if_true,if_false,Bool.false_eq_true,beq_self_eq_true];done)) | ((try dsimp only at *);(try simp only[Bool.not_eq_true',Bool.not_eq_false',bne] at *);simp only[eqv,eqv1,eqv2,eqvL1,eqvL2, *,C.one,bne,Bool.and_true,Bool.true_and,Bool.and_false,Bool.false_and,Bool.or_true,Bool.true_or,Bool.or_false,Bool.false_or,Bool.not_true,Bool.not_false,if_true,if_false,Bool.false_eq_true,beq_self_eq_true];rfl) | (simp_all [eqv,eqv1,eqv2,eqvL1,eqvL2,C.one];done))
 . trivial
def k_cConst:List SV→List Blk→Res:=fun args _=>match args with
 |[.u64 n]=>.ok (scv (C.const n)) []
 |_=>.fail
theorem k_cConst_ok:CtrOk Tryz.prog Gw 5 k_cConst:=by
 refine⟨fun _ _=>by kernel_rfl,fun args M => ?_⟩
 unfold k_cConst
 split
 . rename_i n
   refine ctr_flat (Γ:=⟨[(10,k_Const),(11,k_sConst)],eqs,[],[],[],mixs,meqs,[]⟩) (sv:=scv (C.const n)) st_Gw ⟨(okCons k_Const_ok (okCons k_sConst_ok okNil)),eqs_ok,okNilB,okNilI,okNilP,mixs_ok,meqs_ok,okNilY⟩ Tryz.func5 rfl mixed [] (by kernel_rfl) 10000 (by rfl) ?_
   (conv=>whnf)
   (repeat' (first | (refine And.intro (fun hb => ?_) (fun hb => ?_)<;>(first|contradiction | (conv=>whnf))) | (refine And.intro ?_ ?_;rotate_left 1;(conv=>whnf))))
   all_goals (first|rfl|trivial | ((try dsimp only at *);(try simp only[Bool.not_eq_true',Bool.not_eq_false',bne,ite_uv] at *);(simp only[eqv,eqv1,eqv2,eqvL1,eqvL2, *,C.const,bne,Bool.and_true,Bool.true_and,Bool.and_false,Bool.false_and,Bool.or_true,Bool.true_or,Bool.or_false,Bool.false_or,Bool.not_true,Bool.not_false,if_true,if_false,Bool.false_eq_true,beq_self_eq_true];done)) | ((try dsimp only at *);(try simp only[Bool.not_eq_true',Bool.not_eq_false',bne] at *);simp only[eqv,eqv1,eqv2,eqvL1,eqvL2, *,C.const,bne,Bool.and_true,Bool.true_and,Bool.and_false,Bool.false_and,Bool.or_true,Bool.true_or,Bool.or_false,Bool.false_or,Bool.not_true,Bool.not_false,if_true,if_false,Bool.false_eq_true,beq_self_eq_true];rfl) | (simp_all [eqv,eqv1,eqv2,eqvL1,eqvL2,C.const];done))
 . trivial
def k_cUnknown:List SV→List Blk→Res:=fun args _=>match args with
 |[]=>.ok (scv C.unknown) []
 |_=>.fail
theorem k_cUnknown_ok:CtrOk Tryz.prog Gw 121 k_cUnknown:=by
 refine⟨fun _ _=>by kernel_rfl,fun args M => ?_⟩
 unfold k_cUnknown
 split
 . refine ctr_flat (Γ:=⟨[(102,k_Unknown),(169,k_sFull)],eqs,[],[],[],mixs,meqs,[]⟩) (sv:=scv C.unknown) st_Gw ⟨(okCons k_Unknown_ok (okCons k_sFull_ok okNil)),eqs_ok,okNilB,okNilI,okNilP,mixs_ok,meqs_ok,okNilY⟩ Tryz.func121 rfl mixed [] (by kernel_rfl) 10000 (by rfl) ?_
   (conv=>whnf)
   (repeat' (first | (refine And.intro (fun hb => ?_) (fun hb => ?_)<;>(first|contradiction | (conv=>whnf))) | (refine And.intro ?_ ?_;rotate_left 1;(conv=>whnf))))
   all_goals (first|rfl|trivial | ((try dsimp only at *);(try simp only[Bool.not_eq_true',Bool.not_eq_false',bne,ite_uv] at *);(simp only[eqv,eqv1,eqv2,eqvL1,eqvL2, *,C.unknown,bne,Bool.and_true,Bool.true_and,Bool.and_false,Bool.false_and,Bool.or_true,Bool.true_or,Bool.or_false,Bool.false_or,Bool.not_true,Bool.not_false,if_true,if_false,Bool.false_eq_true,beq_self_eq_true];done)) | ((try dsimp only at *);(try simp only[Bool.not_eq_true',Bool.not_eq_false',bne] at *);simp only[eqv,eqv1,eqv2,eqvL1,eqvL2, *,C.unknown,bne,Bool.and_true,Bool.true_and,Bool.and_false,Bool.false_and,Bool.or_true,Bool.true_or,Bool.or_false,Bool.false_or,Bool.not_true,Bool.not_false,if_true,if_false,Bool.false_eq_true,beq_self_eq_true];rfl) | (simp_all [eqv,eqv1,eqv2,eqvL1,eqvL2,C.unknown];done))
 . trivial
def k_cRight:List SV→List Blk→Res:=fun args _=>match args with
 |[.agg [.u64 av,.u64 am,.u64 alo,.u64 ahi,.int .i64 asl,.int .i64 ash]]=>.test (R.inS ⟨alo,ahi,asl,ash⟩) (.ok (.bool (C.right (⟨⟨av,am⟩,⟨alo,ahi,asl,ash⟩⟩:Sc))) [])
 |_=>.fail
theorem k_cRight_ok:CtrOk Tryz.prog Gw 83 k_cRight:=by
 refine⟨fun _ _=>by kernel_rfl,fun args M => ?_⟩
 unfold k_cRight
 split
 . rename_i av am alo ahi asl ash
   intro ht
   refine ctr_flat (Γ:=⟨[(101,k_Of)],eqs,[],[],[],mixs,meqs,[]⟩) (sv:=.bool (C.right (⟨⟨av,am⟩,⟨alo,ahi,asl,ash⟩⟩:Sc))) st_Gw ⟨(okCons k_Of_ok okNil),eqs_ok,okNilB,okNilI,okNilP,mixs_ok,meqs_ok,okNilY⟩ Tryz.func83 rfl mixed [] (by kernel_rfl) 10000 (by rfl) ?_
   (conv=>whnf)
   (repeat' (first | (refine And.intro (fun hb => ?_) (fun hb => ?_)<;>(first|contradiction | (conv=>whnf))) | (refine And.intro ?_ ?_;rotate_left 1;(conv=>whnf))))
   all_goals (first|assumption|first|rfl|trivial | ((try dsimp only at *);(try simp only[Bool.not_eq_true',Bool.not_eq_false',bne,ite_uv] at *);(simp only[eqv,eqv1,eqv2,eqvL1,eqvL2, *,C.right,C.eqc,bne,Bool.and_true,Bool.true_and,Bool.and_false,Bool.false_and,Bool.or_true,Bool.true_or,Bool.or_false,Bool.false_or,Bool.not_true,Bool.not_false,if_true,if_false,Bool.false_eq_true,beq_self_eq_true];done)) | ((try dsimp only at *);(try simp only[Bool.not_eq_true',Bool.not_eq_false',bne] at *);simp only[eqv,eqv1,eqv2,eqvL1,eqvL2, *,C.right,C.eqc,bne,Bool.and_true,Bool.true_and,Bool.and_false,Bool.false_and,Bool.or_true,Bool.true_or,Bool.or_false,Bool.false_or,Bool.not_true,Bool.not_false,if_true,if_false,Bool.false_eq_true,beq_self_eq_true];rfl) | (simp_all [eqv,eqv1,eqv2,eqvL1,eqvL2,C.right,C.eqc];done))
 . trivial
def k_cOne:List SV→List Blk→Res:=fun args _=>match args with
 |[.agg [.u64 av,.u64 am,.u64 alo,.u64 ahi,.int .i64 asl,.int .i64 ash]]=>.test (R.inS ⟨alo,ahi,asl,ash⟩) (.ok (.tup [.u64 (C.one (⟨⟨av,am⟩,⟨alo,ahi,asl,ash⟩⟩:Sc)).1,.bool (C.one (⟨⟨av,am⟩,⟨alo,ahi,asl,ash⟩⟩:Sc)).2]) [])
 |_=>.fail
theorem k_cOne_ok:CtrOk Tryz.prog Gw 97 k_cOne:=by
 refine⟨fun _ _=>by kernel_rfl,fun args M => ?_⟩
 unfold k_cOne
 split
 . rename_i av am alo ahi asl ash
   intro ht
   refine ctr_flat (Γ:=⟨[(83,k_cRight)],eqs,[],[],[],mixs,meqs,[]⟩) (sv:=.tup [.u64 (C.one (⟨⟨av,am⟩,⟨alo,ahi,asl,ash⟩⟩:Sc)).1,.bool (C.one (⟨⟨av,am⟩,⟨alo,ahi,asl,ash⟩⟩:Sc)).2]) st_Gw ⟨(okCons k_cRight_ok okNil),eqs_ok,okNilB,okNilI,okNilP,mixs_ok,meqs_ok,okNilY⟩ Tryz.func97 rfl mixed [] (by kernel_rfl) 10000 (by rfl) ?_
   (conv=>whnf)
   (repeat' (first | (refine And.intro (fun hb => ?_) (fun hb => ?_)<;>(first|contradiction | (conv=>whnf))) | (refine And.intro ?_ ?_;rotate_left 1;(conv=>whnf))))
   all_goals (first|assumption|first|rfl|trivial | ((try dsimp only at *);(try simp only[Bool.not_eq_true',Bool.not_eq_false',bne,ite_uv] at *);(simp only[eqv,eqv1,eqv2,eqvL1,eqvL2, *,C.one,bne,Bool.and_true,Bool.true_and,Bool.and_false,Bool.false_and,Bool.or_true,Bool.true_or,Bool.or_false,Bool.false_or,Bool.not_true,Bool.not_false,if_true,if_false,Bool.false_eq_true,beq_self_eq_true];done)) | ((try dsimp only at *);(try simp only[Bool.not_eq_true',Bool.not_eq_false',bne] at *);simp only[eqv,eqv1,eqv2,eqvL1,eqvL2, *,C.one,bne,Bool.and_true,Bool.true_and,Bool.and_false,Bool.false_and,Bool.or_true,Bool.true_or,Bool.or_false,Bool.false_or,Bool.not_true,Bool.not_false,if_true,if_false,Bool.false_eq_true,beq_self_eq_true];rfl) | (simp_all [eqv,eqv1,eqv2,eqvL1,eqvL2,C.one];done))
 . trivial
end Go.Proofs.YtfgkhenhlpoheaaGreat
