import Derived.Test.YtfjemlegodhfnaaGreatM44
import Derived.Test.YtfjemlegodhfnaaGreatM21
import Derived.Test.YtfjemlegodhfnaaGreatM45
import Derived.Test.YtfjemlegodhfnaaGreatM46
import Derived.Test.YtfjemlegodhfnaaGreatM43
set_option linter.all false
namespace Go.Proofs.YtfjemlegodhfnaaGreat
open Go.RowKit Go.Sx
set_option maxRecDepth 100000
set_option maxHeartbeats 4000000
attribute [local irreducible] F.right F.load F.store V.touch K.field A.size A.sgn A.numb
attribute [local irreducible] A.store A.stoF A.sval A.what A.okS A.mval A.tval V.number C.const
set_option maxHeartbeats 40000000 in
theorem astore_2 (f:Fr)(hf:f.wf)(t:Ty)(maps:List Mp)(op dst src off imm:Int)(hd:0≤dst)(hs:0≤src)(hw:t.atMost 140737488355328=true)(hm:maps.length≤140737488355328)(h2:((f.R.getD dst.toNat eA.dft).k==2)=true):run Tryz.prog ⟨[(28,k_iSize),(25,k_fRight),(35,k_fStore),(32,k_vTouch),(45,k_field),(10,k_cConst),(17,k_vNumber)],eqs,[],[(11,Tryz.f11,[(1,16,[0,0,0,7,15,0,32,96,224,480,992,2016,4064,8160,16352,16383,65535])]),(22,Tryz.f22,[]),(18,Tryz.f18,[(1,18,[0,1,3,7,0,16,0,64,192,496,0,1024,0,8191,16383,32767,32767,0,196607,524287])]),(21,Tryz.f21,[])],[],mixt,meqs,[(19,k_toCtx),(20,k_toMem)]⟩ 10000 [(5,16,[0,0,2,1,9,25,63,127,0,256,768,1792,3840,7936,0,0,65535,131071]),(7,6,[0,0,2,1,9,25,63,127,255]),(11,1000,[5,10,11,13])] 0 (bodyOf Tryz.f7) (initF Tryz.f7 [frv f,.agg [.val (.string t.nm),.int .i64 t.cx,.sl 0 4 0 t.fs.length,.sl 1 3 0 t.ns.length,.int .i64 t.lo,.int .i64 t.hi],.sl 2 4 0 maps.length,.agg [.int .u8 op,.int .u8 dst,.int .u8 src,.int .i16 off,.int .i32 imm]]) [.ro 4 t.fs.length (gOf eF t.fs),.ro 3 t.ns.length (gOf eN t.ns),.ro 4 maps.length (gOf eM maps)] (retK Tryz.prog Tryz.f7 fun x _=>eqv x (.tup [frv (A.st f t.fs maps op dst src (IntKind.i64.wrap off) (IntKind.i64.wrap imm)).1,.int .i64 (A.st f t.fs maps op dst src (IntKind.i64.wrap off) (IntKind.i64.wrap imm)).2])):=by
 have hdt:decide (dst≤10)=true→dst.toNat<11:=fun h=>by have:=of_decide_eq_true h;omega
 have hst:decide (src≤10)=true→src.toNat<11:=fun h=>by have:=of_decide_eq_true h;omega
 (conv=>whnf)
 (repeat' (first | (refine And.intro (a:=keepP _ _ _) (by first|exact⟨rfl,rfl,rfl,rfl,trivial⟩|exact⟨rfl,rfl,rfl,trivial⟩|exact⟨rfl,rfl,trivial⟩|exact⟨rfl,trivial⟩) ?_;(conv=>whnf)) | (refine step_t (by first|rfl|assumption) ?_;(conv=>whnf)) | (refine step_f (by first|rfl|assumption) ?_;(conv=>whnf)) | (refine step_nt (by assumption) ?_;(conv=>whnf)) | (refine step_nf (by assumption) ?_;(conv=>whnf)) | (refine step_n (fun hb => ?_) (fun hb => ?_)<;>(first|contradiction | (conv=>whnf))) | (refine And.intro (fun hb => ?_) (fun hb => ?_)<;>(first|contradiction | (conv=>whnf))) | (refine And.intro (a:=(_:Bool)=true) ?_ ?_;rotate_left 1;(conv=>whnf)) | (intro hb;(conv=>whnf))))
 all_goals (try simp only[frD_of hf,isY_at,decY_at,elts_all,allIs_gOf] at *)
 all_goals first
 |rfl
 |trivial
 |exact frB_of hf
 |exact hw
 |exact C.const_S _
 |exact num_in (C.const_S _)
 |exact decide_eq_true (hst (by assumption))
 |exact decide_eq_true (hdt (by assumption))
 |(rw[Bool.and_eq_true];exact⟨decide_eq_true hs,decide_eq_true (hst (by assumption))⟩)
 |(rw[Bool.and_eq_true];exact⟨decide_eq_true hd,decide_eq_true (hdt (by assumption))⟩)
 |exact and_t (frB_of hf) (inA_at hf.ri (by rw[hf.r];exact hst (by assumption)))
 |exact and_t (frB_of hf) (num_in (C.const_S _))
 |(have hin:=inA_at hf.ri (i:=dst.toNat) (by rw[hf.r];exact hdt (by assumption))
   exact and_t rfl (and_t (and_t (decide_eq_true (Nat.le_refl _)) (and_t (decide_eq_true (Nat.le_refl _)) (decide_eq_true (Nat.le_refl _)))) (and_t rfl (and_t (and_t (decide_eq_true (Ty.atMost_nm hw)) (and_t (decide_eq_true (Ty.atMost_fs hw)) (and_t (decide_eq_true (Ty.atMost_ns hw)) (decide_eq_true hm)))) (and_t hin rfl)))))
 |(have hin:=inA_at hf.ri (i:=src.toNat) (by rw[hf.r];exact hst (by assumption))
   exact and_t (frB_of hf) hin)
 |exact two_no (A.st_bad (A.okS_1 (by assumption) (by assumption)))
 |exact two_no (A.st_bad (A.okS_2 (by assumption)))
 |exact two_no (A.st_bad (A.okS_3 (by assumption)))
 |exact two_no (A.st_bad (A.okS_4 (by assumption)))
 |exact two_no (A.st_bad (A.okS_5 (by assumption)))
 |(simp;done)
 |exact two_no (A.st_30 (A.okS_t (by first|exact .inl (by assumption)|exact .inr (by assumption)) (by assumption) (by assumption) (by assumption) (by assumption)) (.inl (eq_of_beq (by assumption))))
 |exact two_no (A.st_30 (A.okS_t (by first|exact .inl (by assumption)|exact .inr (by assumption)) (by assumption) (by assumption) (by assumption) (by assumption)) (.inr (by rw[A.what_t (by assumption)];exact eq_of_beq (by assumption))))
 |exact two_no (A.st_30 (A.okS_t (by first|exact .inl (by assumption)|exact .inr (by assumption)) (by assumption) (by assumption) (by assumption) (by assumption)) (.inr (by rw[A.what_f (by assumption)];exact eq_of_beq (by assumption))))
 |exact two_no (A.st_er (A.okS_t (by first|exact .inl (by assumption)|exact .inr (by assumption)) (by assumption) (by assumption) (by assumption) (by assumption)) (beq_f (by assumption)) (by rw[A.what_t (by assumption)];exact beq_f (by assumption)) (by rw[A.sval_2 h2,A.what_t (by assumption)]) (beq_f (by assumption)))
 |exact two_no (A.st_er (A.okS_t (by first|exact .inl (by assumption)|exact .inr (by assumption)) (by assumption) (by assumption) (by assumption) (by assumption)) (beq_f (by assumption)) (by rw[A.what_f (by assumption)];exact beq_f (by assumption)) (by rw[A.sval_2 h2,A.what_f (by assumption)]) (beq_f (by assumption)))
 |exact two_same (A.st_2 (A.okS_t (by first|exact .inl (by assumption)|exact .inr (by assumption)) (by assumption) (by assumption) (by assumption) (by assumption)) (beq_f (by assumption)) (by rw[A.what_t (by assumption)];exact beq_f (by assumption)) (by rw[A.sval_2 h2,A.what_t (by assumption)];exact eq_of_beq (by assumption)) (eq_of_beq h2) (A.what_t (by assumption)))
 |exact two_same (A.st_2 (A.okS_t (by first|exact .inl (by assumption)|exact .inr (by assumption)) (by assumption) (by assumption) (by assumption) (by assumption)) (beq_f (by assumption)) (by rw[A.what_f (by assumption)];exact beq_f (by assumption)) (by rw[A.sval_2 h2,A.what_f (by assumption)];exact eq_of_beq (by assumption)) (eq_of_beq h2) (A.what_f (by assumption)))
end Go.Proofs.YtfjemlegodhfnaaGreat
namespace Go.Proofs.YtfjemlegodhfnaaGreat
open Go.RowKit Go.Sx
set_option maxRecDepth 100000
set_option maxHeartbeats 4000000
attribute [local irreducible] F.right F.load F.store V.touch K.field A.size A.sgn A.numb
theorem astore_run (f:Fr)(hf:f.wf)(t:Ty)(maps:List Mp)(op dst src off imm:Int)(hd:0≤dst)(hs:0≤src)(hw:t.atMost 140737488355328=true)(hm:maps.length≤140737488355328):run Tryz.prog ⟨[(28,k_iSize),(25,k_fRight),(35,k_fStore),(32,k_vTouch),(45,k_field),(10,k_cConst),(17,k_vNumber)],eqs,[],[(11,Tryz.f11,[(1,16,[0,0,0,7,15,0,32,96,224,480,992,2016,4064,8160,16352,16383,65535])]),(22,Tryz.f22,[]),(18,Tryz.f18,[(1,18,[0,1,3,7,0,16,0,64,192,496,0,1024,0,8191,16383,32767,32767,0,196607,524287])]),(21,Tryz.f21,[])],[],mixt,meqs,[(19,k_toCtx),(20,k_toMem)]⟩ 10000 [(5,16,[0,0,2,1,9,25,63,127,0,256,768,1792,3840,7936,0,0,65535,131071]),(7,6,[0,0,2,1,9,25,63,127,255]),(11,1000,[5,10,11,13])] 0 (bodyOf Tryz.f7) (initF Tryz.f7 [frv f,.agg [.val (.string t.nm),.int .i64 t.cx,.sl 0 4 0 t.fs.length,.sl 1 3 0 t.ns.length,.int .i64 t.lo,.int .i64 t.hi],.sl 2 4 0 maps.length,.agg [.int .u8 op,.int .u8 dst,.int .u8 src,.int .i16 off,.int .i32 imm]]) [.ro 4 t.fs.length (gOf eF t.fs),.ro 3 t.ns.length (gOf eN t.ns),.ro 4 maps.length (gOf eM maps)] (retK Tryz.prog Tryz.f7 fun x _=>eqv x (.tup [frv (A.st f t.fs maps op dst src (IntKind.i64.wrap off) (IntKind.i64.wrap imm)).1,.int .i64 (A.st f t.fs maps op dst src (IntKind.i64.wrap off) (IntKind.i64.wrap imm)).2])):=by
 cases h2:((f.R.getD dst.toNat eA.dft).k==2) with
 |true=>exact astore_2 f hf t maps op dst src off imm hd hs hw hm h2
 |false=>
 cases h3:((f.R.getD dst.toNat eA.dft).k==3) with
 |true=>exact astore_3 f hf t maps op dst src off imm hd hs hw hm h2 h3
 |false=>
 cases h4:((f.R.getD dst.toNat eA.dft).k==4) with
 |true=>exact astore_4 f hf t maps op dst src off imm hd hs hw hm h2 h3 h4
 |false=>
 cases h7:((f.R.getD dst.toNat eA.dft).k==7) with
 |true=>exact astore_7 f hf t maps op dst src off imm hd hs hw hm h2 h3 h4 h7
 |false=>
 cases h8:((f.R.getD dst.toNat eA.dft).k==8) with
 |true=>exact astore_8 f hf t maps op dst src off imm hd hs hw hm h2 h3 h4 h7 h8
 |false=>
 exact astore_None f hf t maps op dst src off imm hd hs hw hm h2 h3 h4 h7 h8
def k_aStore:YC:=fun args M K=>match args with
 | .mix [.arr 11 12 g,.arr 64 14 h,.int .i64 ids]::rest=>match topA eltB M rest with
   |some (b,[.agg vt,.one vm,.agg [.int .u8 op,.int .u8 dst,.int .u8 src,.int .i16 off,.int .i32 imm]])=>b=true∧(frB g h&&(cY.is vt&&(cM.isR 4 vm&&((cY.dec vt).atMost 140737488355328&&(decide ((cM.decR 4 vm).length≤140737488355328)&&(decide (0≤dst)&&decide (0≤src)))))))=true∧(true=true→K none (.tup [frv (A.st (frD g h ids) (cY.dec vt).fs (cM.decR 4 vm) op dst src (IntKind.i64.wrap off) (IntKind.i64.wrap imm)).1,.int .i64 (A.st (frD g h ids) (cY.dec vt).fs (cM.decR 4 vm) op dst src (IntKind.i64.wrap off) (IntKind.i64.wrap imm)).2]) M)
   |_=>False
 |_=>False
theorem k_aStore_ok:YCtrOk Tryz.prog Gw 7 k_aStore:=by
 refine⟨fun _ _=>by kernel_rfl,fun args M K hk hsc hwf => ?_⟩
 unfold k_aStore at hk
 split at hk
 . rename_i g h ids rest
   split at hk
   . rename_i b vt vm op dst src off imm hv
     obtain⟨hb,hc,hK⟩:=hk
     simp only[Bool.and_eq_true,decide_eq_true_eq] at hc
     obtain⟨c1,c2,c3,c4,c5,c6,c7⟩:=hc
     exact yctr_topm (Γ:=⟨[(28,k_iSize),(25,k_fRight),(35,k_fStore),(32,k_vTouch),(45,k_field),(10,k_cConst),(17,k_vNumber)],eqs,[],[(11,Tryz.f11,[(1,16,[0,0,0,7,15,0,32,96,224,480,992,2016,4064,8160,16352,16383,65535])]),(22,Tryz.f22,[]),(18,Tryz.f18,[(1,18,[0,1,3,7,0,16,0,64,192,496,0,1024,0,8191,16383,32767,32767,0,196607,524287])]),(21,Tryz.f21,[])],[],mixt,meqs,[(19,k_toCtx),(20,k_toMem)]⟩) (pre:=[.mix [.arr 11 12 g,.arr 64 14 h,.int .i64 ids]]) (pre0:=[frv (frD g h ids)]) st_Gw ⟨(okCons k_iSize_ok (okCons k_fRight_ok (okCons k_fStore_ok (okCons k_vTouch_ok (okCons k_field_ok (okCons k_cConst_ok (okCons k_vNumber_ok okNil))))))),eqs_ok,okNilB,(okConsI Tryz.func11 rfl (by kernel_rfl) (fun _ _=>by kernel_rfl) (okConsI Tryz.func22 rfl (by kernel_rfl) (fun _ _=>by kernel_rfl) (okConsI Tryz.func18 rfl (by kernel_rfl) (fun _ _=>by kernel_rfl) (okConsI Tryz.func21 rfl (by kernel_rfl) (fun _ _=>by kernel_rfl) okNilI)))),okNilP,mixt_ok,meqs_ok,(okConsY k_toCtx_ok (okConsY k_toMem_ok okNilY))⟩ Tryz.func7 rfl mixed [(5,16,[0,0,2,1,9,25,63,127,0,256,768,1792,3840,7936,0,0,65535,131071]),(7,6,[0,0,2,1,9,25,63,127,255]),(11,1000,[5,10,11,13])] (by kernel_rfl) 10000 [.agg (celY (cY.dec vt)),.one (.row 4 (cM.decR 4 vm).length (cM.g (cM.decR 4 vm))),.agg [.int .u8 op,.int .u8 dst,.int .u8 src,.int .i16 off,.int .i32 imm]] (fun ρ ρ'=>congrArg (fun x=>[x]) (frv_den c1 ρ').symm) rfl hv hb ⟨Cel.is_dec c2,Cel.isR_dec c3,FVEqL.refl _,trivial⟩ rfl (fun x=>eqv x (.tup [frv (A.st (frD g h ids) (cY.dec vt).fs (cM.decR 4 vm) op dst src (IntKind.i64.wrap off) (IntKind.i64.wrap imm)).1,.int .i64 (A.st (frD g h ids) (cY.dec vt).fs (cM.decR 4 vm) op dst src (IntKind.i64.wrap off) (IntKind.i64.wrap imm)).2])) (astore_run (frD g h ids) (frD_wf c1) (cY.dec vt) (cM.decR 4 vm) op dst src off imm c6 c7 c4 c5) (fun x hx=>⟨_,eqv_den hx,hK rfl⟩) hwf
   . exact hk.elim
 . exact hk.elim
end Go.Proofs.YtfjemlegodhfnaaGreat
namespace Go.Proofs.YtfjemlegodhfnaaGreat
open Go.RowKit Go.Sx
set_option maxRecDepth 100000
set_option maxHeartbeats 4000000
attribute [local irreducible] F.right F.load F.store V.touch K.field A.size A.sgn A.numb
set_option maxHeartbeats 40000000 in
theorem aload_2 (f:Fr)(hf:f.wf)(t:Ty)(maps:List Mp)(op dst src off imm:Int)(hd:0≤dst)(hs:0≤src)(hw:t.atMost 140737488355328=true)(hm:maps.length≤140737488355328)(h0:((f.R.getD src.toNat eA.dft).k==0)=false)(h2:((f.R.getD src.toNat eA.dft).k==2)=true):run Tryz.prog ⟨[(28,k_iSize),(29,k_iSgn),(31,k_iSome),(25,k_fRight),(27,k_fLoad),(32,k_vTouch),(45,k_field),(10,k_cConst)],eqs,[],[(11,Tryz.f11,[(1,16,[0,0,0,7,15,0,32,96,224,480,992,2016,4064,8160,16352,16383,65535])]),(12,Tryz.f12,[]),(26,Tryz.f26,[]),(16,Tryz.f16,[]),(13,Tryz.f13,[(1,16,[0,1,3,7,0,16,0,64,192,496,0,1024,0,7168,16383,32767,32767,131071,262143])])],[],mixt,meqs,[(14,k_ofCtx),(15,k_ofMem)]⟩ 10000 [(5,9,[0,0,2,1,9,25,63,127,0,511]),(9,7,[0,0,2,0,1,17,49,127,255]),(6,1000,[5,13,14])] 0 (bodyOf Tryz.f6) (initF Tryz.f6 [frv f,.agg [.val (.string t.nm),.int .i64 t.cx,.sl 0 4 0 t.fs.length,.sl 1 3 0 t.ns.length,.int .i64 t.lo,.int .i64 t.hi],.sl 2 4 0 maps.length,.agg [.int .u8 op,.int .u8 dst,.int .u8 src,.int .i16 off,.int .i32 imm]]) [.ro 4 t.fs.length (gOf eF t.fs),.ro 3 t.ns.length (gOf eN t.ns),.ro 4 maps.length (gOf eM maps)] (retK Tryz.prog Tryz.f6 fun x _=>eqv x (.tup [frv (A.load f t.fs maps op dst src (IntKind.i64.wrap off)).1,.int .i64 (A.load f t.fs maps op dst src (IntKind.i64.wrap off)).2])):=by
 have hdt:decide (dst<10)=true→dst.toNat<11:=fun h=>by have:=of_decide_eq_true h;omega
 have hst:decide (src≤10)=true→src.toNat<11:=fun h=>by have:=of_decide_eq_true h;omega
 (conv=>whnf)
 (repeat' (first | (refine And.intro (a:=keepP _ _ _) (by first|exact⟨rfl,rfl,rfl,rfl,trivial⟩|exact⟨rfl,rfl,rfl,trivial⟩|exact⟨rfl,rfl,trivial⟩|exact⟨rfl,trivial⟩) ?_;(conv=>whnf)) | (refine step_t (by first|rfl|assumption) ?_;(conv=>whnf)) | (refine step_f (by first|rfl|assumption) ?_;(conv=>whnf)) | (refine step_nt (by assumption) ?_;(conv=>whnf)) | (refine step_nf (by assumption) ?_;(conv=>whnf)) | (refine step_n (fun hb => ?_) (fun hb => ?_)<;>(first|contradiction | (conv=>whnf))) | (refine And.intro (fun hb => ?_) (fun hb => ?_)<;>(first|contradiction | (conv=>whnf))) | (refine And.intro (a:=(_:Bool)=true) ?_ ?_;rotate_left 1;(conv=>whnf)) | (intro hb;(conv=>whnf))))
 all_goals (try simp only[frD_of hf,isY_at,decY_at,elts_all,allIs_gOf] at *)
 all_goals first
 |rfl
 |trivial
 |exact frB_of hf
 |exact hw
 |exact decide_eq_true (hst (by assumption))
 |exact decide_eq_true (hdt (by assumption))
 |(rw[Bool.and_eq_true];exact⟨decide_eq_true hs,decide_eq_true (hst (by assumption))⟩)
 |(rw[Bool.and_eq_true];exact⟨decide_eq_true hd,decide_eq_true (hdt (by assumption))⟩)
 |(have hin:=inA_at hf.ri (i:=src.toNat) (by rw[hf.r];exact hst (by assumption))
   exact and_t rfl (and_t (and_t (decide_eq_true (Nat.le_refl _)) (and_t (decide_eq_true (Nat.le_refl _)) (decide_eq_true (Nat.le_refl _)))) (and_t rfl (and_t (and_t (decide_eq_true (Ty.atMost_nm hw)) (and_t (decide_eq_true (Ty.atMost_fs hw)) (and_t (decide_eq_true (Ty.atMost_ns hw)) (decide_eq_true hm)))) (and_t hin rfl)))))
 |exact two_no (A.load_bad (A.okL_1 (by assumption)))
 |exact two_no (A.load_bad (A.okL_2 (by assumption)))
 |exact two_no (A.load_bad (A.okL_3 (by assumption)))
 |exact two_no (A.load_bad (A.okL_4 (by assumption)))
 |exact two_no (A.load_bad (A.okL_5 (by assumption)))
 |(simp;done)
 |exact two_fr (A.load_ok (A.okL_t (by assumption) (by assumption) (by assumption) (by assumption) (by assumption)) (A.lval_2ok h2 (by assumption))) (set_fr hf (hdt (by assumption)) rfl)
 |exact two_no (A.load_err (A.okL_t (by assumption) (by assumption) (by assumption) (by assumption) (by assumption)) (by rw[A.lval_2 h2]) (beq_f (by assumption)))
end Go.Proofs.YtfjemlegodhfnaaGreat
namespace Go.Proofs.YtfjemlegodhfnaaGreat
open Go.RowKit Go.Sx
set_option maxRecDepth 100000
set_option maxHeartbeats 4000000
attribute [local irreducible] F.right F.load F.store V.touch K.field A.size A.sgn A.numb
set_option maxHeartbeats 40000000 in
theorem aload_3 (f:Fr)(hf:f.wf)(t:Ty)(maps:List Mp)(op dst src off imm:Int)(hd:0≤dst)(hs:0≤src)(hw:t.atMost 140737488355328=true)(hm:maps.length≤140737488355328)(h0:((f.R.getD src.toNat eA.dft).k==0)=false)(h2:((f.R.getD src.toNat eA.dft).k==2)=false)(h3:((f.R.getD src.toNat eA.dft).k==3)=true):run Tryz.prog ⟨[(28,k_iSize),(29,k_iSgn),(31,k_iSome),(25,k_fRight),(27,k_fLoad),(32,k_vTouch),(45,k_field),(10,k_cConst)],eqs,[],[(11,Tryz.f11,[(1,16,[0,0,0,7,15,0,32,96,224,480,992,2016,4064,8160,16352,16383,65535])]),(12,Tryz.f12,[]),(26,Tryz.f26,[]),(16,Tryz.f16,[]),(13,Tryz.f13,[(1,16,[0,1,3,7,0,16,0,64,192,496,0,1024,0,7168,16383,32767,32767,131071,262143])])],[],mixt,meqs,[(14,k_ofCtx),(15,k_ofMem)]⟩ 10000 [(5,9,[0,0,2,1,9,25,63,127,0,511]),(9,7,[0,0,2,0,1,17,49,127,255]),(6,1000,[5,13,14])] 0 (bodyOf Tryz.f6) (initF Tryz.f6 [frv f,.agg [.val (.string t.nm),.int .i64 t.cx,.sl 0 4 0 t.fs.length,.sl 1 3 0 t.ns.length,.int .i64 t.lo,.int .i64 t.hi],.sl 2 4 0 maps.length,.agg [.int .u8 op,.int .u8 dst,.int .u8 src,.int .i16 off,.int .i32 imm]]) [.ro 4 t.fs.length (gOf eF t.fs),.ro 3 t.ns.length (gOf eN t.ns),.ro 4 maps.length (gOf eM maps)] (retK Tryz.prog Tryz.f6 fun x _=>eqv x (.tup [frv (A.load f t.fs maps op dst src (IntKind.i64.wrap off)).1,.int .i64 (A.load f t.fs maps op dst src (IntKind.i64.wrap off)).2])):=by
 have hdt:decide (dst<10)=true→dst.toNat<11:=fun h=>by have:=of_decide_eq_true h;omega
 have hst:decide (src≤10)=true→src.toNat<11:=fun h=>by have:=of_decide_eq_true h;omega
 (conv=>whnf)
 (repeat' (first | (refine And.intro (a:=keepP _ _ _) (by first|exact⟨rfl,rfl,rfl,rfl,trivial⟩|exact⟨rfl,rfl,rfl,trivial⟩|exact⟨rfl,rfl,trivial⟩|exact⟨rfl,trivial⟩) ?_;(conv=>whnf)) | (refine step_t (by first|rfl|assumption) ?_;(conv=>whnf)) | (refine step_f (by first|rfl|assumption) ?_;(conv=>whnf)) | (refine step_nt (by assumption) ?_;(conv=>whnf)) | (refine step_nf (by assumption) ?_;(conv=>whnf)) | (refine step_n (fun hb => ?_) (fun hb => ?_)<;>(first|contradiction | (conv=>whnf))) | (refine And.intro (fun hb => ?_) (fun hb => ?_)<;>(first|contradiction | (conv=>whnf))) | (refine And.intro (a:=(_:Bool)=true) ?_ ?_;rotate_left 1;(conv=>whnf)) | (intro hb;(conv=>whnf))))
 all_goals (try simp only[frD_of hf,isY_at,decY_at,elts_all,allIs_gOf] at *)
 all_goals first
 |rfl
 |trivial
 |exact frB_of hf
 |exact hw
 |exact decide_eq_true (hst (by assumption))
 |exact decide_eq_true (hdt (by assumption))
 |(rw[Bool.and_eq_true];exact⟨decide_eq_true hs,decide_eq_true (hst (by assumption))⟩)
 |(rw[Bool.and_eq_true];exact⟨decide_eq_true hd,decide_eq_true (hdt (by assumption))⟩)
 |(have hin:=inA_at hf.ri (i:=src.toNat) (by rw[hf.r];exact hst (by assumption))
   exact and_t rfl (and_t (and_t (decide_eq_true (Nat.le_refl _)) (and_t (decide_eq_true (Nat.le_refl _)) (decide_eq_true (Nat.le_refl _)))) (and_t rfl (and_t (and_t (decide_eq_true (Ty.atMost_nm hw)) (and_t (decide_eq_true (Ty.atMost_fs hw)) (and_t (decide_eq_true (Ty.atMost_ns hw)) (decide_eq_true hm)))) (and_t hin rfl)))))
 |exact two_no (A.load_bad (A.okL_1 (by assumption)))
 |exact two_no (A.load_bad (A.okL_2 (by assumption)))
 |exact two_no (A.load_bad (A.okL_3 (by assumption)))
 |exact two_no (A.load_bad (A.okL_4 (by assumption)))
 |exact two_no (A.load_bad (A.okL_5 (by assumption)))
 |(simp;done)
 |exact two_fr (A.load_ok (A.okL_t (by assumption) (by assumption) (by assumption) (by assumption) (by assumption)) (A.lval_3ok h3 (by assumption))) (set_fr hf (hdt (by assumption)) rfl)
 |exact two_no (A.load_err (A.okL_t (by assumption) (by assumption) (by assumption) (by assumption) (by assumption)) (by rw[A.lval_3 h3]) (beq_f (by assumption)))
end Go.Proofs.YtfjemlegodhfnaaGreat
namespace Go.Proofs.YtfjemlegodhfnaaGreat
open Go.RowKit Go.Sx
set_option maxRecDepth 100000
set_option maxHeartbeats 4000000
attribute [local irreducible] F.right F.load F.store V.touch K.field A.size A.sgn A.numb
set_option maxHeartbeats 40000000 in
theorem aload_4 (f:Fr)(hf:f.wf)(t:Ty)(maps:List Mp)(op dst src off imm:Int)(hd:0≤dst)(hs:0≤src)(hw:t.atMost 140737488355328=true)(hm:maps.length≤140737488355328)(h0:((f.R.getD src.toNat eA.dft).k==0)=false)(h2:((f.R.getD src.toNat eA.dft).k==2)=false)(h3:((f.R.getD src.toNat eA.dft).k==3)=false)(h4:((f.R.getD src.toNat eA.dft).k==4)=true):run Tryz.prog ⟨[(28,k_iSize),(29,k_iSgn),(31,k_iSome),(25,k_fRight),(27,k_fLoad),(32,k_vTouch),(45,k_field),(10,k_cConst)],eqs,[],[(11,Tryz.f11,[(1,16,[0,0,0,7,15,0,32,96,224,480,992,2016,4064,8160,16352,16383,65535])]),(12,Tryz.f12,[]),(26,Tryz.f26,[]),(16,Tryz.f16,[]),(13,Tryz.f13,[(1,16,[0,1,3,7,0,16,0,64,192,496,0,1024,0,7168,16383,32767,32767,131071,262143])])],[],mixt,meqs,[(14,k_ofCtx),(15,k_ofMem)]⟩ 10000 [(5,9,[0,0,2,1,9,25,63,127,0,511]),(9,7,[0,0,2,0,1,17,49,127,255]),(6,1000,[5,13,14])] 0 (bodyOf Tryz.f6) (initF Tryz.f6 [frv f,.agg [.val (.string t.nm),.int .i64 t.cx,.sl 0 4 0 t.fs.length,.sl 1 3 0 t.ns.length,.int .i64 t.lo,.int .i64 t.hi],.sl 2 4 0 maps.length,.agg [.int .u8 op,.int .u8 dst,.int .u8 src,.int .i16 off,.int .i32 imm]]) [.ro 4 t.fs.length (gOf eF t.fs),.ro 3 t.ns.length (gOf eN t.ns),.ro 4 maps.length (gOf eM maps)] (retK Tryz.prog Tryz.f6 fun x _=>eqv x (.tup [frv (A.load f t.fs maps op dst src (IntKind.i64.wrap off)).1,.int .i64 (A.load f t.fs maps op dst src (IntKind.i64.wrap off)).2])):=by
 have hdt:decide (dst<10)=true→dst.toNat<11:=fun h=>by have:=of_decide_eq_true h;omega
 have hst:decide (src≤10)=true→src.toNat<11:=fun h=>by have:=of_decide_eq_true h;omega
 (conv=>whnf)
 (repeat' (first | (refine And.intro (a:=keepP _ _ _) (by first|exact⟨rfl,rfl,rfl,rfl,trivial⟩|exact⟨rfl,rfl,rfl,trivial⟩|exact⟨rfl,rfl,trivial⟩|exact⟨rfl,trivial⟩) ?_;(conv=>whnf)) | (refine step_t (by first|rfl|assumption) ?_;(conv=>whnf)) | (refine step_f (by first|rfl|assumption) ?_;(conv=>whnf)) | (refine step_nt (by assumption) ?_;(conv=>whnf)) | (refine step_nf (by assumption) ?_;(conv=>whnf)) | (refine step_n (fun hb => ?_) (fun hb => ?_)<;>(first|contradiction | (conv=>whnf))) | (refine And.intro (fun hb => ?_) (fun hb => ?_)<;>(first|contradiction | (conv=>whnf))) | (refine And.intro (a:=(_:Bool)=true) ?_ ?_;rotate_left 1;(conv=>whnf)) | (intro hb;(conv=>whnf))))
 all_goals (try simp only[frD_of hf,isY_at,decY_at,elts_all,allIs_gOf] at *)
 all_goals first
 |rfl
 |trivial
 |exact frB_of hf
 |exact hw
 |exact decide_eq_true (hst (by assumption))
 |exact decide_eq_true (hdt (by assumption))
 |(rw[Bool.and_eq_true];exact⟨decide_eq_true hs,decide_eq_true (hst (by assumption))⟩)
 |(rw[Bool.and_eq_true];exact⟨decide_eq_true hd,decide_eq_true (hdt (by assumption))⟩)
 |(have hin:=inA_at hf.ri (i:=src.toNat) (by rw[hf.r];exact hst (by assumption))
   exact and_t rfl (and_t (and_t (decide_eq_true (Nat.le_refl _)) (and_t (decide_eq_true (Nat.le_refl _)) (decide_eq_true (Nat.le_refl _)))) (and_t rfl (and_t (and_t (decide_eq_true (Ty.atMost_nm hw)) (and_t (decide_eq_true (Ty.atMost_fs hw)) (and_t (decide_eq_true (Ty.atMost_ns hw)) (decide_eq_true hm)))) (and_t hin rfl)))))
 |exact two_no (A.load_bad (A.okL_1 (by assumption)))
 |exact two_no (A.load_bad (A.okL_2 (by assumption)))
 |exact two_no (A.load_bad (A.okL_3 (by assumption)))
 |exact two_no (A.load_bad (A.okL_4 (by assumption)))
 |exact two_no (A.load_bad (A.okL_5 (by assumption)))
 |(simp;done)
 |exact two_fr (A.load_ok (A.okL_t (by assumption) (by assumption) (by assumption) (by assumption) (by assumption)) (A.lval_mk (.inl h4) (by assumption))) (set_fr hf (hdt (by assumption)) rfl)
 |exact two_no (A.load_err (A.okL_t (by assumption) (by assumption) (by assumption) (by assumption) (by assumption)) (by rw[A.lval_m (.inl h4)]) (beq_f (by assumption)))
end Go.Proofs.YtfjemlegodhfnaaGreat
