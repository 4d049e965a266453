import Derived.Test.YtfgkhenhlpoheaaGreatM33
import Derived.Test.YtfgkhenhlpoheaaGreatM34
import Derived.Test.YtfgkhenhlpoheaaGreatM35
import Derived.Test.YtfgkhenhlpoheaaGreatM36
import Derived.Test.YtfgkhenhlpoheaaGreatM37
import Derived.Test.YtfgkhenhlpoheaaGreatM38
import Derived.Test.YtfgkhenhlpoheaaGreatM39
set_option linter.all false
namespace Go.Proofs.YtfgkhenhlpoheaaGreat
open Go.RowKit Go.Sx
set_option maxRecDepth 100000
set_option maxHeartbeats 4000000
attribute [local irreducible] F.right F.load F.store V.touch K.field A.size A.sgn A.numb
theorem aload_run (f:Fr)(hf:f.wf)(t:Ty)(maps:List Mp)(op dst src off imm:Int)(hd:0≤dst)(hs:0≤src)(hw:t.atMost 140737488355328=true)(hm:maps.length≤140737488355328):run Tryz.prog ⟨[(68,k_iSize),(69,k_iSgn),(71,k_iSome),(65,k_fRight),(67,k_fLoad),(72,k_vTouch),(119,k_field),(5,k_cConst)],eqs,[],[(18,Tryz.f18,[(1,16,[0,0,0,7,15,0,32,96,224,480,992,2016,4064,8160,16352,16383,65535])]),(19,Tryz.f19,[]),(66,Tryz.f66,[]),(23,Tryz.f23,[]),(20,Tryz.f20,[(1,16,[0,1,3,7,0,16,0,64,192,496,0,1024,0,7168,16383,32767,32767,131071,262143])])],[],mixt,meqs,[(21,k_ofCtx),(22,k_ofMem)]⟩ 10000 [(5,9,[0,0,2,1,9,25,63,127,0,511]),(9,7,[0,0,2,0,1,17,49,127,255]),(6,1000,[5,13,14])] 0 (bodyOf Tryz.f9) (initF Tryz.f9 [frv f,.agg [.val (.string t.nm),.int .i64 t.cx,.sl 0 4 0 t.fs.length,.sl 1 3 0 t.ns.length,.int .i64 t.lo,.int .i64 t.hi],.sl 2 4 0 maps.length,.agg [.int .u8 op,.int .u8 dst,.int .u8 src,.int .i16 off,.int .i32 imm]]) [.ro 4 t.fs.length (gOf eF t.fs),.ro 3 t.ns.length (gOf eN t.ns),.ro 4 maps.length (gOf eM maps)] (retK Tryz.prog Tryz.f9 fun x _=>eqv x (.tup [frv (A.load f t.fs maps op dst src (IntKind.i64.wrap off)).1,.int .i64 (A.load f t.fs maps op dst src (IntKind.i64.wrap off)).2])):=by
 cases h0:((f.R.getD src.toNat eA.dft).k==0) with
 |true=>exact aload_0 f hf t maps op dst src off imm hd hs hw hm h0
 |false=>
 cases h2:((f.R.getD src.toNat eA.dft).k==2) with
 |true=>exact aload_2 f hf t maps op dst src off imm hd hs hw hm h0 h2
 |false=>
 cases h3:((f.R.getD src.toNat eA.dft).k==3) with
 |true=>exact aload_3 f hf t maps op dst src off imm hd hs hw hm h0 h2 h3
 |false=>
 cases h4:((f.R.getD src.toNat eA.dft).k==4) with
 |true=>exact aload_4 f hf t maps op dst src off imm hd hs hw hm h0 h2 h3 h4
 |false=>
 cases h7:((f.R.getD src.toNat eA.dft).k==7) with
 |true=>exact aload_7 f hf t maps op dst src off imm hd hs hw hm h0 h2 h3 h4 h7
 |false=>
 cases h8:((f.R.getD src.toNat eA.dft).k==8) with
 |true=>exact aload_8 f hf t maps op dst src off imm hd hs hw hm h0 h2 h3 h4 h7 h8
 |false=>
 exact aload_None f hf t maps op dst src off imm hd hs hw hm h0 h2 h3 h4 h7 h8
def k_aLoad:YC:=fun args M K=>match args with
 | .mix [.arr 11 12 g,.arr 64 14 h,.int .i64 ids]::rest=>match topA eltB M rest with
   |some (b,[.agg vt,.one vm,.agg [.int .u8 op,.int .u8 dst,.int .u8 src,.int .i16 off,.int .i32 imm]])=>b=true∧(frB g h&&(cY.is vt&&(cM.isR 4 vm&&((cY.dec vt).atMost 140737488355328&&(decide ((cM.decR 4 vm).length≤140737488355328)&&(decide (0≤dst)&&decide (0≤src)))))))=true∧(true=true→K none (.tup [frv (A.load (frD g h ids) (cY.dec vt).fs (cM.decR 4 vm) op dst src (IntKind.i64.wrap off)).1,.int .i64 (A.load (frD g h ids) (cY.dec vt).fs (cM.decR 4 vm) op dst src (IntKind.i64.wrap off)).2]) M)
   |_=>False
 |_=>False
theorem k_aLoad_ok:YCtrOk Tryz.prog Gw 9 k_aLoad:=by
 refine⟨fun _ _=>by kernel_rfl,fun args M K hk hsc hwf => ?_⟩
 unfold k_aLoad at hk
 split at hk
 . rename_i g h ids rest
   split at hk
   . rename_i b vt vm op dst src off imm hv
     obtain⟨hb,hc,hK⟩:=hk
     simp only[Bool.and_eq_true,decide_eq_true_eq] at hc
     obtain⟨c1,c2,c3,c4,c5,c6,c7⟩:=hc
     exact yctr_topm (Γ:=⟨[(68,k_iSize),(69,k_iSgn),(71,k_iSome),(65,k_fRight),(67,k_fLoad),(72,k_vTouch),(119,k_field),(5,k_cConst)],eqs,[],[(18,Tryz.f18,[(1,16,[0,0,0,7,15,0,32,96,224,480,992,2016,4064,8160,16352,16383,65535])]),(19,Tryz.f19,[]),(66,Tryz.f66,[]),(23,Tryz.f23,[]),(20,Tryz.f20,[(1,16,[0,1,3,7,0,16,0,64,192,496,0,1024,0,7168,16383,32767,32767,131071,262143])])],[],mixt,meqs,[(21,k_ofCtx),(22,k_ofMem)]⟩) (pre:=[.mix [.arr 11 12 g,.arr 64 14 h,.int .i64 ids]]) (pre0:=[frv (frD g h ids)]) st_Gw ⟨(okCons k_iSize_ok (okCons k_iSgn_ok (okCons k_iSome_ok (okCons k_fRight_ok (okCons k_fLoad_ok (okCons k_vTouch_ok (okCons k_field_ok (okCons k_cConst_ok okNil)))))))),eqs_ok,okNilB,(okConsI Tryz.func18 rfl (by kernel_rfl) (fun _ _=>by kernel_rfl) (okConsI Tryz.func19 rfl (by kernel_rfl) (fun _ _=>by kernel_rfl) (okConsI Tryz.func66 rfl (by kernel_rfl) (fun _ _=>by kernel_rfl) (okConsI Tryz.func23 rfl (by kernel_rfl) (fun _ _=>by kernel_rfl) (okConsI Tryz.func20 rfl (by kernel_rfl) (fun _ _=>by kernel_rfl) okNilI))))),okNilP,mixt_ok,meqs_ok,(okConsY k_ofCtx_ok (okConsY k_ofMem_ok okNilY))⟩ Tryz.func9 rfl mixed [(5,9,[0,0,2,1,9,25,63,127,0,511]),(9,7,[0,0,2,0,1,17,49,127,255]),(6,1000,[5,13,14])] (by kernel_rfl) 10000 [.agg (celY (cY.dec vt)),.one (.row 4 (cM.decR 4 vm).length (cM.g (cM.decR 4 vm))),.agg [.int .u8 op,.int .u8 dst,.int .u8 src,.int .i16 off,.int .i32 imm]] (fun ρ ρ'=>congrArg (fun x=>[x]) (frv_den c1 ρ').symm) rfl hv hb ⟨Cel.is_dec c2,Cel.isR_dec c3,FVEqL.refl _,trivial⟩ rfl (fun x=>eqv x (.tup [frv (A.load (frD g h ids) (cY.dec vt).fs (cM.decR 4 vm) op dst src (IntKind.i64.wrap off)).1,.int .i64 (A.load (frD g h ids) (cY.dec vt).fs (cM.decR 4 vm) op dst src (IntKind.i64.wrap off)).2])) (aload_run (frD g h ids) (frD_wf c1) (cY.dec vt) (cM.decR 4 vm) op dst src off imm c6 c7 c4 c5) (fun x hx=>⟨_,eqv_den hx,hK rfl⟩) hwf
   . exact hk.elim
 . exact hk.elim
end Go.Proofs.YtfgkhenhlpoheaaGreat
namespace Go.Proofs.YtfgkhenhlpoheaaGreat
open Go.RowKit Go.Sx
set_option maxRecDepth 100000
set_option maxHeartbeats 4000000
namespace F
def start:Fr:=⟨[V.zero,⟨3,V.zs,0,0,0,0,false⟩,V.zero,V.zero,V.zero,V.zero,V.zero,V.zero,V.zero,V.zero,⟨2,V.zs,0,0,0,0,false⟩],List.replicate 64 noSl,0⟩
theorem start_wf:start.wf:=⟨rfl,rfl,rfl,rfl⟩
end F
def KF:List Fd:=[⟨0,8,2,false⟩,⟨8,8,3,false⟩,⟨16,4,1,true⟩]
def KT:Ty:=⟨⟨#[116]⟩,24,KF,[],0,0⟩
theorem ble_own_lit {ty sz sz' n:Nat}{g g':Nat→List FV}(h:(Nat.beq sz' sz&&(List.range n).all fun i=>fvLB 3 (g' i) (g i))=true):BLe (.own ty sz' n g') (.own ty sz n g):=by
 simp only[Bool.and_eq_true,List.all_eq_true] at h
 obtain rfl:=Nat.eq_of_beq_eq_true h.1
 exact ble_own_e rfl fun i hi=>fvLB_ok (h.2 i (List.mem_range.2 hi))
theorem kt_cel:FVEqL [.val (.string ⟨#[116]⟩),.int .i64 24,.row 4 3 (shiftG 0 (gOf eF KF)),.val (.slice none 0 0),.int .i64 0,.int .i64 0] (celY KT):=fvl_cons (FVEq.refl _) (fvl_cons (FVEq.refl _) (fvl_cons (FVEq.refl _) (fvl_cons .nil (FVEqL.refl _))))
theorem kt_is:cY.is [.val (.string ⟨#[116]⟩),.int .i64 24,.row 4 3 (shiftG 0 (gOf eF KF)),.val (.slice none 0 0),.int .i64 0,.int .i64 0]=true:=Cel.is_of (c:=cY) kt_cel
theorem kt_dec:cY.dec [.val (.string ⟨#[116]⟩),.int .i64 24,.row 4 3 (shiftG 0 (gOf eF KF)),.val (.slice none 0 0),.int .i64 0,.int .i64 0]=KT:=Cel.dec_of (c:=cY) kt_cel
theorem nilM_is:cM.isR 4 (.val (.slice none 0 0))=true:=Cel.isR_of (L:=[]) FVEq.nil
theorem nilM_dec:cM.decR 4 (.val (.slice none 0 0))=[]:=Cel.decR_of (L:=[]) FVEq.nil
def F1:Fr:=⟨F.start.R.set 2 ⟨4,C.const (BitVec.ofInt 64 0),0,0,0,0,false⟩,F.start.S,F.start.ids⟩
theorem f1_wf:F1.wf:=⟨rfl,rfl,rfl,rfl⟩
theorem aw_1:A.load F.start KT.fs [] 121 2 1 (IntKind.i64.wrap 0)=(F1,0):=by kernel_rfl
theorem aw_2:(A.load F1 KT.fs [] 113 3 2 (IntKind.i64.wrap 0)).2=32:=by kernel_rfl
def k_fStart:List SV→List Blk→Res:=fun args _=>match args with
 |[]=>.ok (frv F.start) []
 |_=>.fail
theorem k_fStart_ok:CtrOk Tryz.prog Gw 6 k_fStart:=by
 refine⟨fun _ _=>by kernel_rfl,fun args M => ?_⟩
 unfold k_fStart
 split
 . refine ctr_flat (Γ:=⟨[],eqs,[],[],[],mixs,meqs,[]⟩) (sv:=frv F.start) st_Gw ⟨okNil,eqs_ok,okNilB,okNilI,okNilP,mixs_ok,meqs_ok,okNilY⟩ Tryz.func6 rfl mixed [] (by kernel_rfl) 10000 (by rfl) ?_
   (conv=>whnf)
   (repeat' (first | (refine step_t (by first|rfl|assumption) ?_;(conv=>whnf)) | (refine step_f (by first|rfl|assumption) ?_;(conv=>whnf)) | (refine step_nt (by assumption) ?_;(conv=>whnf)) | (refine step_nf (by assumption) ?_;(conv=>whnf)) | (refine step_n (fun hb => ?_) (fun hb => ?_)<;>(first|contradiction | (conv=>whnf))) | (refine And.intro (fun hb => ?_) (fun hb => ?_)<;>(first|contradiction | (conv=>whnf))) | (refine And.intro (a:=(_:Bool)=true) ?_ ?_;rotate_left 1;(conv=>whnf))))
   all_goals (first|rfl|trivial | (refine eqv_fr (X:=F.start) (fun i hi => ?_) F.zero_S rfl;match i,hi with|0,_=>rfl|1,_=>rfl|2,_=>rfl|3,_=>rfl|4,_=>rfl|5,_=>rfl|6,_=>rfl|7,_=>rfl|8,_=>rfl|9,_=>rfl|10,_=>rfl))
 . trivial
def nb_kind0:List Blk:=[.own 71 4 3 (gOf eF KF)]
def k_kind0:List SV→List Blk→Res:=fun args M=>match args with
 |[]=>.ok (shS M.length (.agg [.val (.string ⟨#[116]⟩),.int .i64 24,.sl 0 4 0 3,.val (.slice none 0 0),.int .i64 0,.int .i64 0])) (nb_kind0.map (shB M.length))
 |_=>.fail
theorem k_kind0_ok:CtrOk Tryz.prog Gw 8 k_kind0:=by
 refine⟨fun _ _=>by kernel_rfl,fun args M => ?_⟩
 unfold k_kind0
 split
 . refine ctr_gen (Γ:=⟨[],eqs,[],[],[],mixs,meqs,[]⟩) st_Gw ⟨okNil,eqs_ok,okNilB,okNilI,okNilP,mixs_ok,meqs_ok,okNilY⟩ Tryz.func8 rfl mixed [] (by kernel_rfl) 10000 [] [] [] (.agg [.val (.string ⟨#[116]⟩),.int .i64 24,.sl 0 4 0 3,.val (.slice none 0 0),.int .i64 0,.int .i64 0]) nb_kind0 (fun ρ=>rfl) (by rfl) trivial rfl rfl (by rfl) (by rfl) ?_
   (conv=>whnf)
   (repeat' (first | (refine And.intro (fun hb => ?_) (fun hb => ?_)<;>(first|contradiction | (conv=>whnf))) | (refine And.intro ?_ ?_;rotate_left 1;(conv=>whnf))))
   all_goals (first|rfl | (first|exact⟨[0],rfl,mle_cons (ble_own_lit (by kernel_rfl)) mle_nil,_,rfl,fun _=>rfl⟩|exact⟨[1],rfl,mle_cons (ble_own_lit (by kernel_rfl)) mle_nil,_,rfl,fun _=>rfl⟩|exact⟨[2],rfl,mle_cons (ble_own_lit (by kernel_rfl)) mle_nil,_,rfl,fun _=>rfl⟩))
 . trivial
end Go.Proofs.YtfgkhenhlpoheaaGreat
