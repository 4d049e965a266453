import Derived.Test.YtfgkhenhlpoheaaGreatM45
import Derived.Test.YtfgkhenhlpoheaaGreatM46
import Derived.Test.YtfgkhenhlpoheaaGreatM47
import Derived.Test.YtfgkhenhlpoheaaGreatM48
import Derived.Test.YtfgkhenhlpoheaaGreatM49
import Derived.Test.YtfgkhenhlpoheaaGreatM50
set_option linter.all false
namespace Go.Proofs.YtfgkhenhlpoheaaGreat
open Go.RowKit Go.Sx
set_option maxRecDepth 100000
set_option maxHeartbeats 4000000
attribute [local irreducible] F.right F.load F.store V.touch K.field A.size A.sgn A.numb
theorem astore_run (f:Fr)(hf:f.wf)(t:Ty)(maps:List Mp)(op dst src off imm:Int)(hd:0≤dst)(hs:0≤src)(hw:t.atMost 140737488355328=true)(hm:maps.length≤140737488355328):run Tryz.prog ⟨[(68,k_iSize),(65,k_fRight),(84,k_fStore),(72,k_vTouch),(119,k_field),(5,k_cConst),(37,k_vNumber)],eqs,[],[(18,Tryz.f18,[(1,16,[0,0,0,7,15,0,32,96,224,480,992,2016,4064,8160,16352,16383,65535])]),(42,Tryz.f42,[]),(38,Tryz.f38,[(1,18,[0,1,3,7,0,16,0,64,192,496,0,1024,0,8191,16383,32767,32767,0,196607,524287])]),(41,Tryz.f41,[])],[],mixt,meqs,[(39,k_toCtx),(40,k_toMem)]⟩ 10000 [(5,16,[0,0,2,1,9,25,63,127,0,256,768,1792,3840,7936,0,0,65535,131071]),(7,6,[0,0,2,1,9,25,63,127,255]),(11,1000,[5,10,11,13])] 0 (bodyOf Tryz.f14) (initF Tryz.f14 [frv f,.agg [.val (.string t.nm),.int .i64 t.cx,.sl 0 4 0 t.fs.length,.sl 1 3 0 t.ns.length,.int .i64 t.lo,.int .i64 t.hi],.sl 2 4 0 maps.length,.agg [.int .u8 op,.int .u8 dst,.int .u8 src,.int .i16 off,.int .i32 imm]]) [.ro 4 t.fs.length (gOf eF t.fs),.ro 3 t.ns.length (gOf eN t.ns),.ro 4 maps.length (gOf eM maps)] (retK Tryz.prog Tryz.f14 fun x _=>eqv x (.tup [frv (A.st f t.fs maps op dst src (IntKind.i64.wrap off) (IntKind.i64.wrap imm)).1,.int .i64 (A.st f t.fs maps op dst src (IntKind.i64.wrap off) (IntKind.i64.wrap imm)).2])):=by
 cases h2:((f.R.getD dst.toNat eA.dft).k==2) with
 |true=>exact astore_2 f hf t maps op dst src off imm hd hs hw hm h2
 |false=>
 cases h3:((f.R.getD dst.toNat eA.dft).k==3) with
 |true=>exact astore_3 f hf t maps op dst src off imm hd hs hw hm h2 h3
 |false=>
 cases h4:((f.R.getD dst.toNat eA.dft).k==4) with
 |true=>exact astore_4 f hf t maps op dst src off imm hd hs hw hm h2 h3 h4
 |false=>
 cases h7:((f.R.getD dst.toNat eA.dft).k==7) with
 |true=>exact astore_7 f hf t maps op dst src off imm hd hs hw hm h2 h3 h4 h7
 |false=>
 cases h8:((f.R.getD dst.toNat eA.dft).k==8) with
 |true=>exact astore_8 f hf t maps op dst src off imm hd hs hw hm h2 h3 h4 h7 h8
 |false=>
 exact astore_None f hf t maps op dst src off imm hd hs hw hm h2 h3 h4 h7 h8
def k_aStore:YC:=fun args M K=>match args with
 | .mix [.arr 11 12 g,.arr 64 14 h,.int .i64 ids]::rest=>match topA eltB M rest with
   |some (b,[.agg vt,.one vm,.agg [.int .u8 op,.int .u8 dst,.int .u8 src,.int .i16 off,.int .i32 imm]])=>b=true∧(frB g h&&(cY.is vt&&(cM.isR 4 vm&&((cY.dec vt).atMost 140737488355328&&(decide ((cM.decR 4 vm).length≤140737488355328)&&(decide (0≤dst)&&decide (0≤src)))))))=true∧(true=true→K none (.tup [frv (A.st (frD g h ids) (cY.dec vt).fs (cM.decR 4 vm) op dst src (IntKind.i64.wrap off) (IntKind.i64.wrap imm)).1,.int .i64 (A.st (frD g h ids) (cY.dec vt).fs (cM.decR 4 vm) op dst src (IntKind.i64.wrap off) (IntKind.i64.wrap imm)).2]) M)
   |_=>False
 |_=>False
theorem k_aStore_ok:YCtrOk Tryz.prog Gw 14 k_aStore:=by
 refine⟨fun _ _=>by kernel_rfl,fun args M K hk hsc hwf => ?_⟩
 unfold k_aStore at hk
 split at hk
 . rename_i g h ids rest
   split at hk
   . rename_i b vt vm op dst src off imm hv
     obtain⟨hb,hc,hK⟩:=hk
     simp only[Bool.and_eq_true,decide_eq_true_eq] at hc
     obtain⟨c1,c2,c3,c4,c5,c6,c7⟩:=hc
     exact yctr_topm (Γ:=⟨[(68,k_iSize),(65,k_fRight),(84,k_fStore),(72,k_vTouch),(119,k_field),(5,k_cConst),(37,k_vNumber)],eqs,[],[(18,Tryz.f18,[(1,16,[0,0,0,7,15,0,32,96,224,480,992,2016,4064,8160,16352,16383,65535])]),(42,Tryz.f42,[]),(38,Tryz.f38,[(1,18,[0,1,3,7,0,16,0,64,192,496,0,1024,0,8191,16383,32767,32767,0,196607,524287])]),(41,Tryz.f41,[])],[],mixt,meqs,[(39,k_toCtx),(40,k_toMem)]⟩) (pre:=[.mix [.arr 11 12 g,.arr 64 14 h,.int .i64 ids]]) (pre0:=[frv (frD g h ids)]) st_Gw ⟨(okCons k_iSize_ok (okCons k_fRight_ok (okCons k_fStore_ok (okCons k_vTouch_ok (okCons k_field_ok (okCons k_cConst_ok (okCons k_vNumber_ok okNil))))))),eqs_ok,okNilB,(okConsI Tryz.func18 rfl (by kernel_rfl) (fun _ _=>by kernel_rfl) (okConsI Tryz.func42 rfl (by kernel_rfl) (fun _ _=>by kernel_rfl) (okConsI Tryz.func38 rfl (by kernel_rfl) (fun _ _=>by kernel_rfl) (okConsI Tryz.func41 rfl (by kernel_rfl) (fun _ _=>by kernel_rfl) okNilI)))),okNilP,mixt_ok,meqs_ok,(okConsY k_toCtx_ok (okConsY k_toMem_ok okNilY))⟩ Tryz.func14 rfl mixed [(5,16,[0,0,2,1,9,25,63,127,0,256,768,1792,3840,7936,0,0,65535,131071]),(7,6,[0,0,2,1,9,25,63,127,255]),(11,1000,[5,10,11,13])] (by kernel_rfl) 10000 [.agg (celY (cY.dec vt)),.one (.row 4 (cM.decR 4 vm).length (cM.g (cM.decR 4 vm))),.agg [.int .u8 op,.int .u8 dst,.int .u8 src,.int .i16 off,.int .i32 imm]] (fun ρ ρ'=>congrArg (fun x=>[x]) (frv_den c1 ρ').symm) rfl hv hb ⟨Cel.is_dec c2,Cel.isR_dec c3,FVEqL.refl _,trivial⟩ rfl (fun x=>eqv x (.tup [frv (A.st (frD g h ids) (cY.dec vt).fs (cM.decR 4 vm) op dst src (IntKind.i64.wrap off) (IntKind.i64.wrap imm)).1,.int .i64 (A.st (frD g h ids) (cY.dec vt).fs (cM.decR 4 vm) op dst src (IntKind.i64.wrap off) (IntKind.i64.wrap imm)).2])) (astore_run (frD g h ids) (frD_wf c1) (cY.dec vt) (cM.decR 4 vm) op dst src off imm c6 c7 c4 c5) (fun x hx=>⟨_,eqv_den hx,hK rfl⟩) hwf
   . exact hk.elim
 . exact hk.elim
end Go.Proofs.YtfgkhenhlpoheaaGreat
