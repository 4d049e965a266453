import Derived.Test.YtfgkhenhlpoheaaGreatM52
import Derived.Test.YtfgkhenhlpoheaaGreatM30
import Derived.Test.YtfgkhenhlpoheaaGreatM44
import Derived.Test.YtfgkhenhlpoheaaGreatM27
import Derived.Test.YtfgkhenhlpoheaaGreatM51
import Derived.Test.YtfgkhenhlpoheaaGreatM43
set_option linter.all false
namespace Go.Proofs.YtfgkhenhlpoheaaGreat
open Go.RowKit Go.Sx
set_option maxRecDepth 100000
set_option maxHeartbeats 4000000
theorem eqArr_A (L:List Ab):eqArr 11 [.int,.int,.int,.int,.int,.int,.int,.int,.int,.int,.int,.bool] (gOf eA L) (gOf eA L)=true:=decide_eq_true fun i _=>by
 show some _=some true
 simp
theorem eqArr_S (L:List Sl):eqArr 64 [.bool,.int,.int,.int,.int,.int,.int,.int,.int,.int,.int,.int,.int,.bool] (gOf eS L) (gOf eS L)=true:=decide_eq_true fun i _=>by
 show some _=some true
 simp
attribute [local irreducible] A.load A.store A.stoF
theorem tells_run (f:Fr)(hf:f.wf)(t:Ty)(maps:List Mp)(op dst src off imm:Int)(hd:0≤dst)(hs:0≤src)(hw:t.atMost 140737488355328=true)(hm:maps.length≤140737488355328)(ho:(decide (0≤op)&&decide (op≤255))=true):run Tryz.prog ⟨[(4,k_awake)],eqs,[],[(12,Tryz.f12,[])],[],mixt,meqs,[(9,k_aLoad),(13,k_gaLoad),(14,k_aStore),(15,k_gaStore),(16,k_call0),(17,k_gcall0)]⟩ 10000 [] 0 (bodyOf Tryz.f7) (initF Tryz.f7 [frv f,.agg [.val (.string t.nm),.int .i64 t.cx,.sl 0 4 0 t.fs.length,.sl 1 3 0 t.ns.length,.int .i64 t.lo,.int .i64 t.hi],.sl 2 4 0 maps.length,.agg [.int .u8 op,.int .u8 dst,.int .u8 src,.int .i16 off,.int .i32 imm],.agg ZHL]) [.ro 4 t.fs.length (gOf eF t.fs),.ro 3 t.ns.length (gOf eN t.ns),.ro 4 maps.length (gOf eM maps)] (retK Tryz.prog Tryz.f7 fun x _=>eqv x (.bool true)):=by
 (conv=>whnf)
 (repeat' (first | (refine .inl ⟨1,?_⟩;(conv=>whnf)) | (refine And.intro (a:=keepP _ _ _) (by first|exact⟨rfl,rfl,rfl,rfl,trivial⟩|exact⟨rfl,rfl,rfl,trivial⟩|exact⟨rfl,rfl,trivial⟩|exact⟨rfl,trivial⟩) ?_;(conv=>whnf)) | (refine step_t (by first|rfl|assumption) ?_;(conv=>whnf)) | (refine step_f (by first|rfl|assumption) ?_;(conv=>whnf)) | (refine step_nt (by assumption) ?_;(conv=>whnf)) | (refine step_nf (by assumption) ?_;(conv=>whnf)) | (refine step_n (fun hb => ?_) (fun hb => ?_)<;>(first|contradiction | (conv=>whnf))) | (refine And.intro (fun hb => ?_) (fun hb => ?_)<;>(first|contradiction | (conv=>whnf))) | (refine And.intro (a:=(_:Bool)=true) ?_ ?_;rotate_left 1;(conv=>whnf)) | (intro hb;(conv=>whnf))))
 all_goals (try simp only[frD_of hf,isY_at,decY_at,rowM_is,rowM_dec] at *)
 all_goals first
 |rfl
 |trivial
 |exact frB_of hf
 |(simp;done)
 |(simp only[Bool.and_eq_true,decide_eq_true_eq,frB_of hf,hw,true_and,and_true] at *;omega)
 |exact and_t (frB_of hf) (and_t rfl (and_t rfl (decide_eq_true hm)))
 |(exfalso;simp only[eqArr_A,eqArr_S,beq_self_eq_true,Bool.and_self,Bool.and_true,Bool.true_eq_false,reduceCtorEq] at *;done)
def k_tells:YC:=fun args M K=>match args with
 | .mix [.arr 11 12 g,.arr 64 14 h,.int .i64 ids]::rest=>match topA eltB M rest with
   |some (b,[.agg vt,.one vm,.agg [.int .u8 op,.int .u8 dst,.int .u8 src,.int .i16 off,.int .i32 imm],.agg vh])=>b=true∧(frB g h&&(cY.is vt&&(cM.isR 4 vm&&((cY.dec vt).atMost 140737488355328&&(decide ((cM.decR 4 vm).length≤140737488355328)&&(decide (0≤dst)&&(decide (0≤src)&&(decide (0≤op)&&(decide (op≤255)&&zhF vh)))))))))=true∧(true=true→K none (.bool true) M)
   |_=>False
 |_=>False
theorem k_tells_ok:YCtrOk Tryz.prog Gw 7 k_tells:=by
 refine⟨fun _ _=>by kernel_rfl,fun args M K hk hsc hwf => ?_⟩
 unfold k_tells at hk
 split at hk
 . rename_i g h ids rest
   split at hk
   . rename_i b vt vm op dst src off imm vh hv
     obtain⟨hb,hc,hK⟩:=hk
     simp only[Bool.and_eq_true,decide_eq_true_eq] at hc
     obtain⟨c1,c2,c3,c4,c5,c6,c7,c8,c9,c10⟩:=hc
     obtain rfl:=zhF_eq c10
     exact yctr_topm (Γ:=⟨[(4,k_awake)],eqs,[],[(12,Tryz.f12,[])],[],mixt,meqs,[(9,k_aLoad),(13,k_gaLoad),(14,k_aStore),(15,k_gaStore),(16,k_call0),(17,k_gcall0)]⟩) (pre:=[.mix [.arr 11 12 g,.arr 64 14 h,.int .i64 ids]]) (pre0:=[frv (frD g h ids)]) st_Gw ⟨(okCons k_awake_ok okNil),eqs_ok,okNilB,(okConsI Tryz.func12 rfl (by kernel_rfl) (fun _ _=>by kernel_rfl) okNilI),okNilP,mixt_ok,meqs_ok,(okConsY k_aLoad_ok (okConsY k_gaLoad_ok (okConsY k_aStore_ok (okConsY k_gaStore_ok (okConsY k_call0_ok (okConsY k_gcall0_ok okNilY))))))⟩ Tryz.func7 rfl mixed [] (by kernel_rfl) 10000 [.agg (celY (cY.dec vt)),.one (.row 4 (cM.decR 4 vm).length (cM.g (cM.decR 4 vm))),.agg [.int .u8 op,.int .u8 dst,.int .u8 src,.int .i16 off,.int .i32 imm],.agg ZHF] (fun ρ ρ'=>congrArg (fun x=>[x]) (frv_den c1 ρ').symm) rfl hv hb ⟨Cel.is_dec c2,Cel.isR_dec c3,FVEqL.refl _,FVEqL.refl _,trivial⟩ rfl (fun x=>eqv x (.bool true)) (tells_run (frD g h ids) (frD_wf c1) (cY.dec vt) (cM.decR 4 vm) op dst src off imm c6 c7 c4 c5 (by rw[Bool.and_eq_true];exact⟨decide_eq_true c8,decide_eq_true c9⟩)) (fun x hx=>⟨_,eqv_den hx,hK rfl⟩) hwf
   . exact hk.elim
 . exact hk.elim
end Go.Proofs.YtfgkhenhlpoheaaGreat
