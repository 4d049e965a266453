import Derived.Test.YtfgkhenhlpoheaaGreatM26
import Derived.Test.YtfgkhenhlpoheaaGreatM32
import Derived.Test.YtfgkhenhlpoheaaGreatM29
import Derived.Test.YtfgkhenhlpoheaaGreatM10
import Derived.Test.YtfgkhenhlpoheaaGreatM27
set_option linter.all false
namespace Go.Proofs.YtfgkhenhlpoheaaGreat
open Go.RowKit Go.Sx
set_option maxRecDepth 100000
set_option maxHeartbeats 4000000
namespace A
theorem lt_t {x:Int}(h:decide (10≤x)=false):decide (x<10)=true:=decide_eq_true (by have:=of_decide_eq_false h;omega)
theorem lt_f {x:Int}(h:decide (10≤x)=true):decide (x<10)=false:=decide_eq_false (by have:=of_decide_eq_true h;omega)
theorem le_t {x:Int}(h:decide (10<x)=false):decide (x≤10)=true:=decide_eq_true (by have:=of_decide_eq_false h;omega)
theorem le_f {x:Int}(h:decide (10<x)=true):decide (x≤10)=false:=decide_eq_false (by have:=of_decide_eq_true h;omega)
end A
attribute [local irreducible] F.right F.load F.store V.touch K.field A.size A.sgn V.number C.const C.low
set_option maxHeartbeats 40000000 in
theorem gaload_run (f:Fr)(hf:f.wf)(t:Ty)(maps:List Mp)(op dst src off imm:Int)(hd:0≤dst)(hs:0≤src)(hw:t.atMost 140737488355328=true)(hm:maps.length≤140737488355328)(ho:(decide (0≤op)&&decide (op≤255))=true):run Tryz.prog ⟨[(28,k_gSize),(29,k_gSgn),(30,k_gSome),(74,k_gRight),(31,k_gLoad),(35,k_uTouch),(32,k_gField),(33,k_qConst),(36,k_gspec)],eqs,[],[(34,Tryz.f34,[]),(27,Tryz.f27,[])],[],mixt,meqs,[]⟩ 10000 [(4,3,[0,1,0,7,15,31]),(25,8,[0,0,2,6,0,0,0,96,255,511])] 0 (bodyOf Tryz.f13) (initF Tryz.f13 [frv f,.agg [.val (.string t.nm),.int .i64 t.cx,.sl 0 4 0 t.fs.length,.sl 1 3 0 t.ns.length,.int .i64 t.lo,.int .i64 t.hi],.sl 2 4 0 maps.length,.agg [.int .u8 op,.int .u8 dst,.int .u8 src,.int .i16 off,.int .i32 imm]]) [.ro 4 t.fs.length (gOf eF t.fs),.ro 3 t.ns.length (gOf eN t.ns),.ro 4 maps.length (gOf eM maps)] (retK Tryz.prog Tryz.f13 fun x _=>eqv x (.tup [frv (A.load f t.fs maps op dst src (IntKind.i64.wrap off)).1,.int .i64 (A.load f t.fs maps op dst src (IntKind.i64.wrap off)).2])):=by
 have hdt:decide (10≤dst)=false→dst.toNat<11:=fun h=>by have:=of_decide_eq_false h;omega
 have hdt2:decide (10<dst)=false→dst.toNat<11:=fun h=>by have:=of_decide_eq_false h;omega
 have hst:decide (10<src)=false→src.toNat<11:=fun h=>by have:=of_decide_eq_false h;omega
 (conv=>whnf)
 (repeat' (first | (refine And.intro (a:=keepP _ _ _) (by first|exact⟨rfl,rfl,rfl,rfl,trivial⟩|exact⟨rfl,rfl,rfl,trivial⟩|exact⟨rfl,rfl,trivial⟩|exact⟨rfl,trivial⟩) ?_;(conv=>whnf)) | (refine step_t (by first|rfl|assumption) ?_;(conv=>whnf)) | (refine step_f (by first|rfl|assumption) ?_;(conv=>whnf)) | (refine step_nt (by assumption) ?_;(conv=>whnf)) | (refine step_nf (by assumption) ?_;(conv=>whnf)) | (refine step_n (fun hb => ?_) (fun hb => ?_)<;>(first|contradiction | (conv=>whnf))) | (refine And.intro (fun hb => ?_) (fun hb => ?_)<;>(first|contradiction | (conv=>whnf))) | (refine And.intro (a:=(_:Bool)=true) ?_ ?_;rotate_left 1;(conv=>whnf)) | (intro hb;(conv=>whnf))))
 all_goals (try simp only[frD_of hf,isY_at,decY_at,rowM_is,rowM_dec,elts_all,allIs_gOf,Nat.zero_add] at *)
 all_goals first
 |rfl
 |trivial
 |exact frB_of hf
 |exact hw
 |(rw[hw];simp;done)
 |(simp;done)
 |exact ho
 |exact num_in (C.const_S _)
 |exact C.const_S _
 |exact decide_eq_true (hst (by assumption))
 |exact decide_eq_true (hdt (by assumption))
 |exact decide_eq_true (hdt2 (by assumption))
 |(rw[Bool.and_eq_true];exact⟨decide_eq_true hs,decide_eq_true (hst (by assumption))⟩)
 |(rw[Bool.and_eq_true];exact⟨decide_eq_true hd,decide_eq_true (hdt (by assumption))⟩)
 |(rw[Bool.and_eq_true];exact⟨decide_eq_true hd,decide_eq_true (hdt2 (by assumption))⟩)
 |exact inA_at hf.ri (i:=src.toNat) (by rw[hf.r];exact hst (by assumption))
 |exact inA_at hf.ri (i:=dst.toNat) (by rw[hf.r];exact hdt2 (by assumption))
 |exact and_t (frB_of hf) (inA_at hf.ri (by rw[hf.r];exact hst (by assumption)))
 |exact and_t (frB_of hf) (num_in (C.const_S _))
 |(simp only[decide_eq_false_iff_not] at *;exact decide_eq_true (by omega))
 |(simp only[decide_eq_false_iff_not] at *;rw[Bool.and_eq_true];exact⟨decide_eq_true (by omega),decide_eq_true (by omega)⟩)
 |exact two_no (A.load_bad (A.okL_1 (by assumption)))
 |exact two_no (A.load_bad (A.okL_2 (A.lt_f (by assumption))))
 |exact two_no (A.load_bad (A.okL_3 (A.le_f (by assumption))))
 |exact two_no (A.load_bad (A.okL_4 (by assumption)))
 |exact two_no (A.load_bad (A.okL_5 (by assumption)))
 |exact two_no (A.load_err (A.okL_t (by assumption) (A.lt_t (by assumption)) (A.le_t (by assumption)) (by assumption) (by assumption)) (by rw[A.lval_0 (by assumption)]) (by decide))
 |exact two_fr (A.load_ok (A.okL_t (by assumption) (A.lt_t (by assumption)) (A.le_t (by assumption)) (by assumption) (by assumption)) (A.lval_2ok (by assumption) (by assumption))) (set_fr hf (hdt (by assumption)) rfl)
 |exact two_no (A.load_err (A.okL_t (by assumption) (A.lt_t (by assumption)) (A.le_t (by assumption)) (by assumption) (by assumption)) (by rw[A.lval_2 (by assumption)]) (beq_f (by assumption)))
 |exact two_no (A.load_err (A.okL_t (by assumption) (A.lt_t (by assumption)) (A.le_t (by assumption)) (by assumption) (by assumption)) (by rw[A.lval_3 (by assumption),A.cval_a (by assumption)]) (by decide))
 |exact two_fr (A.load_ok (A.okL_t (by assumption) (A.lt_t (by assumption)) (A.le_t (by assumption)) (by assumption) (by assumption)) (by rw[A.lval_3 (by assumption),A.cval_b (by assumption) (by assumption)];rfl)) (set_fr hf (hdt (by assumption)) rfl)
 |exact two_no (A.load_err (A.okL_t (by assumption) (A.lt_t (by assumption)) (A.le_t (by assumption)) (by assumption) (by assumption)) (by rw[A.lval_3 (by assumption),A.cval_c (by assumption) (by assumption) (by assumption)]) (by decide))
 |exact two_fr (A.load_ok (A.okL_t (by assumption) (A.lt_t (by assumption)) (A.le_t (by assumption)) (by assumption) (by assumption)) (by rw[A.lval_3 (by assumption),A.cval_d (by assumption) (by assumption) (by assumption) (by assumption)])) (set_fr hf (hdt (by assumption)) rfl)
 |exact two_fr (A.load_ok (A.okL_t (by assumption) (A.lt_t (by assumption)) (A.le_t (by assumption)) (by assumption) (by assumption)) (by rw[A.lval_3 (by assumption),A.cval_e (by assumption) (by assumption) (by assumption) (by assumption)])) (set_fr hf (hdt (by assumption)) rfl)
 |exact two_fr (A.load_ok (A.okL_t (by assumption) (A.lt_t (by assumption)) (A.le_t (by assumption)) (by assumption) (by assumption)) (A.lval_mok (.inl (by assumption)) (A.spec_val _ _).symm (by assumption))) (set_fr hf (hdt (by assumption)) rfl)
 |exact two_fr (A.load_ok (A.okL_t (by assumption) (A.lt_t (by assumption)) (A.le_t (by assumption)) (by assumption) (by assumption)) (A.lval_mok (.inr (.inl (by assumption))) (A.spec_val _ _).symm (by assumption))) (set_fr hf (hdt (by assumption)) rfl)
 |exact two_fr (A.load_ok (A.okL_t (by assumption) (A.lt_t (by assumption)) (A.le_t (by assumption)) (by assumption) (by assumption)) (A.lval_mok (.inr (.inr (by assumption))) (A.spec_val _ _).symm (by assumption))) (set_fr hf (hdt (by assumption)) rfl)
 |exact two_no (A.load_err (A.okL_t (by assumption) (A.lt_t (by assumption)) (A.le_t (by assumption)) (by assumption) (by assumption)) (A.lval_mer (.inl (by assumption)) (A.spec_val _ _).symm) (beq_f (by assumption)))
 |exact two_no (A.load_err (A.okL_t (by assumption) (A.lt_t (by assumption)) (A.le_t (by assumption)) (by assumption) (by assumption)) (A.lval_mer (.inr (.inl (by assumption))) (A.spec_val _ _).symm) (beq_f (by assumption)))
 |exact two_no (A.load_err (A.okL_t (by assumption) (A.lt_t (by assumption)) (A.le_t (by assumption)) (by assumption) (by assumption)) (A.lval_mer (.inr (.inr (by assumption))) (A.spec_val _ _).symm) (beq_f (by assumption)))
 |exact two_no (A.load_err (A.okL_t (by assumption) (A.lt_t (by assumption)) (A.le_t (by assumption)) (by assumption) (by assumption)) (by rw[A.lval_no (by assumption) (by assumption) (by assumption) (by assumption) (by assumption) (by assumption)]) (by decide))
def k_gaLoad:YC:=fun args M K=>match args with
 | .mix [.arr 11 12 g,.arr 64 14 h,.int .i64 ids]::rest=>match topA eltB M rest with
   |some (b,[.agg vt,.one vm,.agg [.int .u8 op,.int .u8 dst,.int .u8 src,.int .i16 off,.int .i32 imm]])=>b=true∧(frB g h&&(cY.is vt&&(cM.isR 4 vm&&((cY.dec vt).atMost 140737488355328&&(decide ((cM.decR 4 vm).length≤140737488355328)&&(decide (0≤dst)&&(decide (0≤src)&&(decide (0≤op)&&decide (op≤255)))))))))=true∧(true=true→K none (.tup [frv (A.load (frD g h ids) (cY.dec vt).fs (cM.decR 4 vm) op dst src (IntKind.i64.wrap off)).1,.int .i64 (A.load (frD g h ids) (cY.dec vt).fs (cM.decR 4 vm) op dst src (IntKind.i64.wrap off)).2]) M)
   |_=>False
 |_=>False
theorem k_gaLoad_ok:YCtrOk Tryz.prog Gw 13 k_gaLoad:=by
 refine⟨fun _ _=>by kernel_rfl,fun args M K hk hsc hwf => ?_⟩
 unfold k_gaLoad at hk
 split at hk
 . rename_i g h ids rest
   split at hk
   . rename_i b vt vm op dst src off imm hv
     obtain⟨hb,hc,hK⟩:=hk
     simp only[Bool.and_eq_true,decide_eq_true_eq] at hc
     obtain⟨c1,c2,c3,c4,c5,c6,c7,c8,c9⟩:=hc
     exact yctr_topm (Γ:=⟨[(28,k_gSize),(29,k_gSgn),(30,k_gSome),(74,k_gRight),(31,k_gLoad),(35,k_uTouch),(32,k_gField),(33,k_qConst),(36,k_gspec)],eqs,[],[(34,Tryz.f34,[]),(27,Tryz.f27,[])],[],mixt,meqs,[]⟩) (pre:=[.mix [.arr 11 12 g,.arr 64 14 h,.int .i64 ids]]) (pre0:=[frv (frD g h ids)]) st_Gw ⟨(okCons k_gSize_ok (okCons k_gSgn_ok (okCons k_gSome_ok (okCons k_gRight_ok (okCons k_gLoad_ok (okCons k_uTouch_ok (okCons k_gField_ok (okCons k_qConst_ok (okCons k_gspec_ok okNil))))))))),eqs_ok,okNilB,(okConsI Tryz.func34 rfl (by kernel_rfl) (fun _ _=>by kernel_rfl) (okConsI Tryz.func27 rfl (by kernel_rfl) (fun _ _=>by kernel_rfl) okNilI)),okNilP,mixt_ok,meqs_ok,okNilY⟩ Tryz.func13 rfl mixed [(4,3,[0,1,0,7,15,31]),(25,8,[0,0,2,6,0,0,0,96,255,511])] (by kernel_rfl) 10000 [.agg (celY (cY.dec vt)),.one (.row 4 (cM.decR 4 vm).length (cM.g (cM.decR 4 vm))),.agg [.int .u8 op,.int .u8 dst,.int .u8 src,.int .i16 off,.int .i32 imm]] (fun ρ ρ'=>congrArg (fun x=>[x]) (frv_den c1 ρ').symm) rfl hv hb ⟨Cel.is_dec c2,Cel.isR_dec c3,FVEqL.refl _,trivial⟩ rfl (fun x=>eqv x (.tup [frv (A.load (frD g h ids) (cY.dec vt).fs (cM.decR 4 vm) op dst src (IntKind.i64.wrap off)).1,.int .i64 (A.load (frD g h ids) (cY.dec vt).fs (cM.decR 4 vm) op dst src (IntKind.i64.wrap off)).2])) (gaload_run (frD g h ids) (frD_wf c1) (cY.dec vt) (cM.decR 4 vm) op dst src off imm c6 c7 c4 c5 (by rw[Bool.and_eq_true];exact⟨decide_eq_true c8,decide_eq_true c9⟩)) (fun x hx=>⟨_,eqv_den hx,hK rfl⟩) hwf
   . exact hk.elim
 . exact hk.elim
end Go.Proofs.YtfgkhenhlpoheaaGreat
