import Derived.Test.YtfgkhenhlpoheaaGreatM26
import Derived.Test.YtfgkhenhlpoheaaGreatM21
import Derived.Test.YtfgkhenhlpoheaaGreatM10
set_option linter.all false
namespace Go.Proofs.YtfgkhenhlpoheaaGreat
open Go.RowKit Go.Sx
set_option maxRecDepth 100000
set_option maxHeartbeats 4000000
attribute [local irreducible] V.near V.right R.inS
def k_uNumber:List SV→List Blk→Res:=fun args _=>match args with
 |[.agg [.u64 nv,.u64 nm,.u64 nlo,.u64 nhi,.int .i64 nsl,.int .i64 nsh]]=>.test (R.inS ⟨nlo,nhi,nsl,nsh⟩) (.ok (abv (V.number (⟨⟨nv,nm⟩,⟨nlo,nhi,nsl,nsh⟩⟩:Sc))) [])
 |_=>.fail
theorem k_uNumber_ok:CtrOk Tryz.prog Gw 43 k_uNumber:=by
 refine⟨fun _ _=>by kernel_rfl,fun args M => ?_⟩
 unfold k_uNumber
 split
 . rename_i nv nm nlo nhi nsl nsh
   intro ht
   refine ctr_flat (Γ:=⟨[(85,k_qRight)],eqs,[],[],[],mixs,meqs,[]⟩) (sv:=abv (V.number (⟨⟨nv,nm⟩,⟨nlo,nhi,nsl,nsh⟩⟩:Sc))) st_Gw ⟨(okCons k_qRight_ok okNil),eqs_ok,okNilB,okNilI,okNilP,mixs_ok,meqs_ok,okNilY⟩ Tryz.func43 rfl mixed [] (by kernel_rfl) 10000 (by rfl) ?_
   (conv=>whnf)
   (repeat' (first | (refine step_t (by first|rfl|assumption) ?_;(conv=>whnf)) | (refine step_f (by first|rfl|assumption) ?_;(conv=>whnf)) | (refine step_nt (by assumption) ?_;(conv=>whnf)) | (refine step_nf (by assumption) ?_;(conv=>whnf)) | (refine step_n (fun hb => ?_) (fun hb => ?_)<;>(first|contradiction | (conv=>whnf))) | (refine And.intro (fun hb => ?_) (fun hb => ?_)<;>(first|contradiction | (conv=>whnf))) | (refine And.intro (a:=(_:Bool)=true) ?_ ?_;rotate_left 1;(conv=>whnf))))
   all_goals (first|rfl|trivial|assumption | (simp_all [eqv,eqv1,eqv2,eqvL1,eqvL2,V.number,V.zero,V.zs];done) | (simp_all [eqv,eqv1,eqv2,eqvL1,eqvL2,V.number,V.zero,V.zs];intros;omega))
 . trivial
def k_uTouch:List SV→List Blk→Res:=fun args _=>match args with
 |[.agg [.int .u8 ak,.u64 av,.u64 am,.u64 alo,.u64 ahi,.int .i64 asl,.int .i64 ash,.int .i64 aof,.int .i64 amp,.int .i64 aid,.int .i64 arm,.bool anu],.int .i64 off,.int .i64 size,.agg [.int .u8 mk,.int .i64 mkey,.int .i64 mval,.int .i64 mmax]]=>.test (R.inS ⟨alo,ahi,asl,ash⟩) (.ok (.int .i64 (V.touch (⟨ak,(⟨⟨av,am⟩,⟨alo,ahi,asl,ash⟩⟩:Sc),aof,amp,aid,arm,anu⟩:Ab) off size mval)) [])
 |_=>.fail
theorem k_uTouch_ok:CtrOk Tryz.prog Gw 35 k_uTouch:=by
 refine⟨fun _ _=>by kernel_rfl,fun args M => ?_⟩
 unfold k_uTouch
 split
 . rename_i ak av am alo ahi asl ash aof amp aid arm anu off size mk mkey mval mmax
   intro ht
   refine ctr_flat (Γ:=⟨[(81,k_uRight),(82,k_unear)],eqs,[],[],[],mixs,meqs,[]⟩) (sv:=.int .i64 (V.touch (⟨ak,(⟨⟨av,am⟩,⟨alo,ahi,asl,ash⟩⟩:Sc),aof,amp,aid,arm,anu⟩:Ab) off size mval)) st_Gw ⟨(okCons k_uRight_ok (okCons k_unear_ok okNil)),eqs_ok,okNilB,okNilI,okNilP,mixs_ok,meqs_ok,okNilY⟩ Tryz.func35 rfl mixed [] (by kernel_rfl) 10000 (by rfl) ?_
   (conv=>whnf)
   (repeat' (first | (refine step_t (by first|rfl|assumption) ?_;(conv=>whnf)) | (refine step_f (by first|rfl|assumption) ?_;(conv=>whnf)) | (refine step_nt (by assumption) ?_;(conv=>whnf)) | (refine step_nf (by assumption) ?_;(conv=>whnf)) | (refine step_n (fun hb => ?_) (fun hb => ?_)<;>(first|contradiction | (conv=>whnf))) | (refine And.intro (fun hb => ?_) (fun hb => ?_)<;>(first|contradiction | (conv=>whnf))) | (refine And.intro (a:=(_:Bool)=true) ?_ ?_;rotate_left 1;(conv=>whnf))))
   all_goals (first|rfl|trivial|assumption | (have hn:anu=false:=(V.right_4 (a:=(⟨ak,(⟨⟨av,am⟩,⟨alo,ahi,asl,ash⟩⟩:Sc),aof,amp,aid,arm,anu⟩:Ab)) (by assumption) (eq_of_beq (by assumption))).2.2.2.2.2;simp_all [eqv,eqv1,eqv2,eqvL1,eqvL2,V.touch,V.over,V.wr];done) | (have hn:anu=false:=(V.right_4 (a:=(⟨ak,(⟨⟨av,am⟩,⟨alo,ahi,asl,ash⟩⟩:Sc),aof,amp,aid,arm,anu⟩:Ab)) (by assumption) (eq_of_beq (by assumption))).2.2.2.2.2;simp_all [eqv,eqv1,eqv2,eqvL1,eqvL2,V.touch,V.over,V.wr];intros;omega) | (simp_all [eqv,eqv1,eqv2,eqvL1,eqvL2,V.touch,V.over,V.wr];done) | (simp_all [eqv,eqv1,eqv2,eqvL1,eqvL2,V.touch,V.over,V.wr];intros;omega))
 . trivial
end Go.Proofs.YtfgkhenhlpoheaaGreat
namespace Go.Proofs.YtfgkhenhlpoheaaGreat
open Go.RowKit Go.Sx
set_option maxRecDepth 100000
set_option maxHeartbeats 4000000
namespace A
theorem size_g:∀ n:Fin 256,(Go.bits .and .u8 ((n.val:Nat):Int) 24==0)=false→(Go.bits .and .u8 ((n.val:Nat):Int) 24==8)=false→(Go.bits .and .u8 ((n.val:Nat):Int) 24==16)=false→size ((n.val:Nat):Int)=8:=by decide +kernel
theorem size_8 {op:Int}(h:(decide (0≤op)&&decide (op≤255))=true)(a:(Go.bits .and .u8 op 24==0)=false)(b:(Go.bits .and .u8 op 24==8)=false)(c:(Go.bits .and .u8 op 24==16)=false):size op=8:=by
 simp only[Bool.and_eq_true,decide_eq_true_eq] at h
 have e:((op.toNat:Nat):Int)=op:=by omega
 have k:=size_g ⟨op.toNat,by omega⟩
 rw[e] at k
 exact k a b c
end A
def k_gSize:List SV→List Blk→Res:=fun args _=>match args with
 |[.agg [.int .u8 op,.int .u8 dst,.int .u8 src,.int .i16 off,.int .i32 imm]]=>.test (decide (0≤op)&&decide (op≤255)) (.ok (.int .i64 (A.size op)) [])
 |_=>.fail
theorem k_gSize_ok:CtrOk Tryz.prog Gw 28 k_gSize:=by
 refine⟨fun _ _=>by kernel_rfl,fun args M => ?_⟩
 unfold k_gSize
 split
 . rename_i op dst src off imm
   intro ht
   refine ctr_flat (Γ:=⟨[],eqs,[],[],[],mixs,meqs,[]⟩) (sv:=.int .i64 (A.size op)) st_Gw ⟨okNil,eqs_ok,okNilB,okNilI,okNilP,mixs_ok,meqs_ok,okNilY⟩ Tryz.func28 rfl mixed [] (by kernel_rfl) 10000 (by rfl) ?_
   (conv=>whnf)
   (repeat' (first | (refine step_t (by first|rfl|assumption) ?_;(conv=>whnf)) | (refine step_f (by first|rfl|assumption) ?_;(conv=>whnf)) | (refine step_nt (by assumption) ?_;(conv=>whnf)) | (refine step_nf (by assumption) ?_;(conv=>whnf)) | (refine step_n (fun hb => ?_) (fun hb => ?_)<;>(first|contradiction | (conv=>whnf))) | (refine And.intro (fun hb => ?_) (fun hb => ?_)<;>(first|contradiction | (conv=>whnf))) | (refine And.intro (a:=(_:Bool)=true) ?_ ?_;rotate_left 1;(conv=>whnf))))
   all_goals (first|rfl|trivial | (rw[A.size_8 (by assumption) (by assumption) (by assumption) (by assumption)];exact⟨rfl,rfl⟩) | (simp_all [eqv,eqv1,A.size];done))
 . trivial
def k_gSgn:List SV→List Blk→Res:=fun args _=>match args with
 |[.agg [.int .u8 op,.int .u8 dst,.int .u8 src,.int .i16 off,.int .i32 imm]]=>.ok (.bool (A.sgn op)) []
 |_=>.fail
theorem k_gSgn_ok:CtrOk Tryz.prog Gw 29 k_gSgn:=by
 refine⟨fun _ _=>by kernel_rfl,fun args M => ?_⟩
 unfold k_gSgn
 split
 . rename_i op dst src off imm
   refine ctr_flat (Γ:=⟨[],eqs,[],[],[],mixs,meqs,[]⟩) (sv:=.bool (A.sgn op)) st_Gw ⟨okNil,eqs_ok,okNilB,okNilI,okNilP,mixs_ok,meqs_ok,okNilY⟩ Tryz.func29 rfl mixed [] (by kernel_rfl) 10000 (by rfl) ?_
   (conv=>whnf)
   (repeat' (first | (refine step_t (by first|rfl|assumption) ?_;(conv=>whnf)) | (refine step_f (by first|rfl|assumption) ?_;(conv=>whnf)) | (refine step_nt (by assumption) ?_;(conv=>whnf)) | (refine step_nf (by assumption) ?_;(conv=>whnf)) | (refine step_n (fun hb => ?_) (fun hb => ?_)<;>(first|contradiction | (conv=>whnf))) | (refine And.intro (fun hb => ?_) (fun hb => ?_)<;>(first|contradiction | (conv=>whnf))) | (refine And.intro (a:=(_:Bool)=true) ?_ ?_;rotate_left 1;(conv=>whnf))))
   all_goals (first|rfl|trivial | (simp_all [eqv,eqv1,A.sgn];done))
 . trivial
def k_gSome:List SV→List Blk→Res:=fun args _=>match args with
 |[.int .i64 n,.bool sg]=>.ok (abv (V.number (C.low C.unknown n sg).1)) []
 |_=>.fail
theorem k_gSome_ok:CtrOk Tryz.prog Gw 30 k_gSome:=by
 refine⟨fun _ _=>by kernel_rfl,fun args M => ?_⟩
 unfold k_gSome
 split
 . rename_i n sg
   refine ctr_flat (Γ:=⟨[(75,k_qLow),(76,k_qUnknown),(43,k_uNumber)],eqs,[],[],[],mixs,meqs,[]⟩) (sv:=abv (V.number (C.low C.unknown n sg).1)) st_Gw ⟨(okCons k_qLow_ok (okCons k_qUnknown_ok (okCons k_uNumber_ok okNil))),eqs_ok,okNilB,okNilI,okNilP,mixs_ok,meqs_ok,okNilY⟩ Tryz.func30 rfl mixed [] (by kernel_rfl) 10000 (by rfl) ?_
   (conv=>whnf)
   (repeat' (first | (refine step_t (by first|rfl|assumption) ?_;(conv=>whnf)) | (refine step_f (by first|rfl|assumption) ?_;(conv=>whnf)) | (refine step_nt (by assumption) ?_;(conv=>whnf)) | (refine step_nf (by assumption) ?_;(conv=>whnf)) | (refine step_n (fun hb => ?_) (fun hb => ?_)<;>(first|contradiction | (conv=>whnf))) | (refine And.intro (fun hb => ?_) (fun hb => ?_)<;>(first|contradiction | (conv=>whnf))) | (refine And.intro (a:=(_:Bool)=true) ?_ ?_;rotate_left 1;(conv=>whnf))))
   all_goals (first|rfl|trivial|exact C.low_in rfl _ _|exact ab_eqv rfl)
 . trivial
end Go.Proofs.YtfgkhenhlpoheaaGreat
namespace Go.Proofs.YtfgkhenhlpoheaaGreat
open Go.RowKit Go.Sx
set_option maxRecDepth 100000
set_option maxHeartbeats 4000000
namespace A
end A
end Go.Proofs.YtfgkhenhlpoheaaGreat
