import Derived.Test.YtfgkhenhlpoheaaGreatM18
set_option linter.all false
namespace Go.Proofs.YtfgkhenhlpoheaaGreat
open Go.RowKit Go.Sx
set_option maxRecDepth 100000
set_option maxHeartbeats 4000000
theorem one_lt (x:Int):decide (1≤x)=decide (0<x):=rfl
theorem lt_no {x:Int}(h:decide (0≤x)=false):decide (0<x)=false:=decide_eq_false (by have:=of_decide_eq_false h;omega)
theorem id_no {x:Int}(h:decide (0≤x)=false):(x==0)=false:=beq_false_of_ne (by have:=of_decide_eq_false h;omega)
theorem id_eq {x:Int}(h:decide (0≤x)=true)(k:decide (0<x)=false):(x==0)=true:=beq_iff_eq.2 (by have:=of_decide_eq_true h;have:=of_decide_eq_false k;omega)
attribute [local irreducible] C.right C.leq C.join C.unknown C.const R.inS
def k_unear:List SV→List Blk→Res:=fun args _=>match args with
 |[.int .i64 n]=>.ok (.bool (V.near n)) []
 |_=>.fail
theorem k_unear_ok:CtrOk Tryz.prog Gw 82 k_unear:=by
 refine⟨fun _ _=>by kernel_rfl,fun args M => ?_⟩
 unfold k_unear
 split
 . rename_i n
   refine ctr_flat (Γ:=⟨[],eqs,[],[],[],mixs,meqs,[]⟩) (sv:=.bool (V.near n)) st_Gw ⟨okNil,eqs_ok,okNilB,okNilI,okNilP,mixs_ok,meqs_ok,okNilY⟩ Tryz.func82 rfl mixed [] (by kernel_rfl) 10000 (by rfl) ?_
   (conv=>whnf)
   (repeat' (first | (refine step_t (by first|rfl|assumption) ?_;(conv=>whnf)) | (refine step_f (by first|rfl|assumption) ?_;(conv=>whnf)) | (refine step_nt (by assumption) ?_;(conv=>whnf)) | (refine step_nf (by assumption) ?_;(conv=>whnf)) | (refine step_n (fun hb => ?_) (fun hb => ?_)<;>(first|contradiction | (conv=>whnf))) | (refine And.intro (fun hb => ?_) (fun hb => ?_)<;>(first|contradiction | (conv=>whnf))) | (refine And.intro (a:=(_:Bool)=true) ?_ ?_;rotate_left 1;(conv=>whnf))))
   all_goals (first|rfl|trivial|assumption | (simp only[V.near, *,Bool.true_or,Bool.or_true,Bool.or_self,Bool.false_or,Bool.or_false,Bool.and_true,Bool.true_and,Bool.false_and,Bool.and_false,Bool.and_self,↓reduceIte,Bool.not_true,Bool.not_false,Bool.false_eq_true,Bool.and_assoc];done) | (simp only[V.near, *,Bool.true_or,Bool.or_true,Bool.or_self,Bool.false_or,Bool.or_false,Bool.and_true,Bool.true_and,Bool.false_and,Bool.and_false,↓reduceIte,Bool.not_true,Bool.not_false,Bool.false_eq_true,beq_self_eq_true,beq_false];done) | (simp only[V.near, *,Bool.true_or,Bool.or_true,Bool.or_self,Bool.false_or,Bool.or_false,Bool.and_true,Bool.true_and,Bool.false_and,Bool.and_false,↓reduceIte,Bool.not_true,Bool.not_false,Bool.false_eq_true,beq_self_eq_true,beq_false,Bool.and_assoc];done) | (simp_all [V.near];done))
 . trivial
def k_unum:List SV→List Blk→Res:=fun args _=>match args with
 |[.agg [.u64 nv,.u64 nm,.u64 nlo,.u64 nhi,.int .i64 nsl,.int .i64 nsh]]=>.test (R.inS ⟨nlo,nhi,nsl,nsh⟩) (.ok (.bool (C.right (⟨⟨nv,nm⟩,⟨nlo,nhi,nsl,nsh⟩⟩:Sc)&&(decide (nhi≤BitVec.ofInt 64 1048576)&&decide (0≤nsl)))) [])
 |_=>.fail
theorem k_unum_ok:CtrOk Tryz.prog Gw 127 k_unum:=by
 refine⟨fun _ _=>by kernel_rfl,fun args M => ?_⟩
 unfold k_unum
 split
 . rename_i nv nm nlo nhi nsl nsh
   intro ht
   refine ctr_flat (Γ:=⟨[(85,k_qRight)],eqs,[],[],[],mixs,meqs,[]⟩) (sv:=.bool (C.right (⟨⟨nv,nm⟩,⟨nlo,nhi,nsl,nsh⟩⟩:Sc)&&(decide (nhi≤BitVec.ofInt 64 1048576)&&decide (0≤nsl)))) st_Gw ⟨(okCons k_qRight_ok okNil),eqs_ok,okNilB,okNilI,okNilP,mixs_ok,meqs_ok,okNilY⟩ Tryz.func127 rfl mixed [] (by kernel_rfl) 10000 (by rfl) ?_
   (conv=>whnf)
   (repeat' (first | (refine step_t (by first|rfl|assumption) ?_;(conv=>whnf)) | (refine step_f (by first|rfl|assumption) ?_;(conv=>whnf)) | (refine step_nt (by assumption) ?_;(conv=>whnf)) | (refine step_nf (by assumption) ?_;(conv=>whnf)) | (refine step_n (fun hb => ?_) (fun hb => ?_)<;>(first|contradiction | (conv=>whnf))) | (refine And.intro (fun hb => ?_) (fun hb => ?_)<;>(first|contradiction | (conv=>whnf))) | (refine And.intro (a:=(_:Bool)=true) ?_ ?_;rotate_left 1;(conv=>whnf))))
   all_goals (first|rfl|trivial|assumption | (simp only[Bool.and_true, *,Bool.true_or,Bool.or_true,Bool.or_self,Bool.false_or,Bool.or_false,Bool.and_true,Bool.true_and,Bool.false_and,Bool.and_false,Bool.and_self,↓reduceIte,Bool.not_true,Bool.not_false,Bool.false_eq_true,Bool.and_assoc];done) | (simp only[Bool.and_true, *,Bool.true_or,Bool.or_true,Bool.or_self,Bool.false_or,Bool.or_false,Bool.and_true,Bool.true_and,Bool.false_and,Bool.and_false,↓reduceIte,Bool.not_true,Bool.not_false,Bool.false_eq_true,beq_self_eq_true,beq_false];done) | (simp only[Bool.and_true, *,Bool.true_or,Bool.or_true,Bool.or_self,Bool.false_or,Bool.or_false,Bool.and_true,Bool.true_and,Bool.false_and,Bool.and_false,↓reduceIte,Bool.not_true,Bool.not_false,Bool.false_eq_true,beq_self_eq_true,beq_false,Bool.and_assoc];done) | (simp_all [Bool.and_true];done))
 . trivial
def k_unull:List SV→List Blk→Res:=fun args _=>match args with
 |[.agg [.int .u8 ak,.u64 av,.u64 am,.u64 alo,.u64 ahi,.int .i64 asl,.int .i64 ash,.int .i64 aof,.int .i64 amp,.int .i64 aid,.int .i64 arm,.bool anu]]=>.ok (.bool (V.nulled (⟨ak,(⟨⟨av,am⟩,⟨alo,ahi,asl,ash⟩⟩:Sc),aof,amp,aid,arm,anu⟩:Ab))) []
 |_=>.fail
theorem k_unull_ok:CtrOk Tryz.prog Gw 129 k_unull:=by
 refine⟨fun _ _=>by kernel_rfl,fun args M => ?_⟩
 unfold k_unull
 split
 . rename_i ak av am alo ahi asl ash aof amp aid arm anu
   refine ctr_flat (Γ:=⟨[(33,k_qConst)],eqs,[],[(128,Tryz.f128,[])],[],mixs,meqs,[]⟩) (sv:=.bool (V.nulled (⟨ak,(⟨⟨av,am⟩,⟨alo,ahi,asl,ash⟩⟩:Sc),aof,amp,aid,arm,anu⟩:Ab))) st_Gw ⟨(okCons k_qConst_ok okNil),eqs_ok,okNilB,(okConsI Tryz.func128 rfl (by kernel_rfl) (fun _ _=>by kernel_rfl) okNilI),okNilP,mixs_ok,meqs_ok,okNilY⟩ Tryz.func129 rfl mixed [] (by kernel_rfl) 10000 (by rfl) ?_
   (conv=>whnf)
   (repeat' (first | (refine step_t (by first|rfl|assumption) ?_;(conv=>whnf)) | (refine step_f (by first|rfl|assumption) ?_;(conv=>whnf)) | (refine step_nt (by assumption) ?_;(conv=>whnf)) | (refine step_nf (by assumption) ?_;(conv=>whnf)) | (refine step_n (fun hb => ?_) (fun hb => ?_)<;>(first|contradiction | (conv=>whnf))) | (refine And.intro (fun hb => ?_) (fun hb => ?_)<;>(first|contradiction | (conv=>whnf))) | (refine And.intro (a:=(_:Bool)=true) ?_ ?_;rotate_left 1;(conv=>whnf))))
   all_goals (first|rfl|trivial|assumption | (simp only[V.nulled,V.nought,C.eqc, *,Bool.true_or,Bool.or_true,Bool.or_self,Bool.false_or,Bool.or_false,Bool.and_true,Bool.true_and,Bool.false_and,Bool.and_false,Bool.and_self,↓reduceIte,Bool.not_true,Bool.not_false,Bool.false_eq_true,Bool.and_assoc];done) | (simp only[V.nulled,V.nought,C.eqc, *,Bool.true_or,Bool.or_true,Bool.or_self,Bool.false_or,Bool.or_false,Bool.and_true,Bool.true_and,Bool.false_and,Bool.and_false,↓reduceIte,Bool.not_true,Bool.not_false,Bool.false_eq_true,beq_self_eq_true,beq_false];done) | (simp only[V.nulled,V.nought,C.eqc, *,Bool.true_or,Bool.or_true,Bool.or_self,Bool.false_or,Bool.or_false,Bool.and_true,Bool.true_and,Bool.false_and,Bool.and_false,↓reduceIte,Bool.not_true,Bool.not_false,Bool.false_eq_true,beq_self_eq_true,beq_false,Bool.and_assoc];done) | (simp_all [V.nulled,V.nought,C.eqc];done) | (simp only[Bool.and_true,one_lt] at *;simp only[V.nulled,V.nought,C.eqc, *,Bool.and_true,Bool.true_and,Bool.false_and,Bool.and_false,↓reduceIte,Bool.false_eq_true];done))
 . trivial
attribute [local irreducible] V.near
def k_uRight:List SV→List Blk→Res:=fun args _=>match args with
 |[.agg [.int .u8 ak,.u64 av,.u64 am,.u64 alo,.u64 ahi,.int .i64 asl,.int .i64 ash,.int .i64 aof,.int .i64 amp,.int .i64 aid,.int .i64 arm,.bool anu]]=>.test (R.inS ⟨alo,ahi,asl,ash⟩) (.ok (.bool (V.right (⟨ak,(⟨⟨av,am⟩,⟨alo,ahi,asl,ash⟩⟩:Sc),aof,amp,aid,arm,anu⟩:Ab))) [])
 |_=>.fail
theorem k_uRight_ok:CtrOk Tryz.prog Gw 81 k_uRight:=by
 refine⟨fun _ _=>by kernel_rfl,fun args M => ?_⟩
 unfold k_uRight
 split
 . rename_i ak av am alo ahi asl ash aof amp aid arm anu
   intro ht
   refine ctr_flat (Γ:=⟨[(85,k_qRight),(82,k_unear),(127,k_unum),(129,k_unull),(33,k_qConst)],eqs,[],[(128,Tryz.f128,[])],[],mixs,meqs,[]⟩) (sv:=.bool (V.right (⟨ak,(⟨⟨av,am⟩,⟨alo,ahi,asl,ash⟩⟩:Sc),aof,amp,aid,arm,anu⟩:Ab))) st_Gw ⟨(okCons k_qRight_ok (okCons k_unear_ok (okCons k_unum_ok (okCons k_unull_ok (okCons k_qConst_ok okNil))))),eqs_ok,okNilB,(okConsI Tryz.func128 rfl (by kernel_rfl) (fun _ _=>by kernel_rfl) okNilI),okNilP,mixs_ok,meqs_ok,okNilY⟩ Tryz.func81 rfl mixed [] (by kernel_rfl) 10000 (by rfl) ?_
   (conv=>whnf)
   (repeat' (first | (refine step_t (by first|rfl|assumption) ?_;(conv=>whnf)) | (refine step_f (by first|rfl|assumption) ?_;(conv=>whnf)) | (refine step_nt (by assumption) ?_;(conv=>whnf)) | (refine step_nf (by assumption) ?_;(conv=>whnf)) | (refine step_n (fun hb => ?_) (fun hb => ?_)<;>(first|contradiction | (conv=>whnf))) | (refine And.intro (fun hb => ?_) (fun hb => ?_)<;>(first|contradiction | (conv=>whnf))) | (refine And.intro (a:=(_:Bool)=true) ?_ ?_;rotate_left 1;(conv=>whnf))))
   all_goals (first|rfl|trivial|assumption | (simp only[V.right,V.zeroB,V.placed,V.added,V.numbered,V.named,V.nought,V.roomy,V.mapped,V.sized, *,Bool.true_or,Bool.or_true,Bool.or_self,Bool.false_or,Bool.or_false,Bool.and_true,Bool.true_and,Bool.false_and,Bool.and_false,Bool.and_self,↓reduceIte,Bool.not_true,Bool.not_false,Bool.false_eq_true,Bool.and_assoc];done) | (simp only[V.right,V.zeroB,V.placed,V.added,V.numbered,V.named,V.nought,V.roomy,V.mapped,V.sized, *,Bool.true_or,Bool.or_true,Bool.or_self,Bool.false_or,Bool.or_false,Bool.and_true,Bool.true_and,Bool.false_and,Bool.and_false,↓reduceIte,Bool.not_true,Bool.not_false,Bool.false_eq_true,beq_self_eq_true,beq_false];done) | (simp only[V.right,V.zeroB,V.placed,V.added,V.numbered,V.named,V.nought,V.roomy,V.mapped,V.sized, *,Bool.true_or,Bool.or_true,Bool.or_self,Bool.false_or,Bool.or_false,Bool.and_true,Bool.true_and,Bool.false_and,Bool.and_false,↓reduceIte,Bool.not_true,Bool.not_false,Bool.false_eq_true,beq_self_eq_true,beq_false,Bool.and_assoc];done) | (simp_all [V.right,V.zeroB,V.placed,V.added,V.numbered,V.named,V.nought,V.roomy,V.mapped,V.sized];done) | (have h0:=lt_no (x:=aid) (by assumption);have h1:=id_no (x:=aid) (by assumption);simp only[V.right,V.zeroB,V.placed,V.added,V.numbered,V.named,V.nought,V.roomy,V.mapped,V.sized,C.eqc, *,Bool.and_true,Bool.true_and,Bool.false_and,Bool.and_false,↓reduceIte,Bool.false_eq_true,Bool.or_self,Bool.or_true,Bool.or_false,Bool.false_or,beq_self_eq_true,beq_false,Bool.and_assoc];done) | (have h1:=id_eq (x:=aid) (by assumption) (by assumption);simp only[Bool.and_true,one_lt] at *;simp only[V.right,V.zeroB,V.placed,V.added,V.numbered,V.named,V.nought,V.roomy,V.mapped,V.sized,C.eqc, *,Bool.and_true,Bool.true_and,Bool.false_and,Bool.and_false,↓reduceIte,Bool.false_eq_true,Bool.or_self,Bool.or_true,Bool.or_false,Bool.false_or,beq_self_eq_true,beq_false,Bool.and_assoc];done) | (simp only[Bool.and_true,one_lt] at *;simp only[V.right,V.zeroB,V.placed,V.added,V.numbered,V.named,V.nought,V.roomy,V.mapped,V.sized,C.eqc, *,Bool.and_true,Bool.true_and,Bool.false_and,Bool.and_false,↓reduceIte,Bool.false_eq_true,Bool.or_self,Bool.or_true,Bool.or_false,Bool.false_or,beq_self_eq_true,beq_false,Bool.and_assoc];done))
 . trivial
end Go.Proofs.YtfgkhenhlpoheaaGreat
