import Derived.Test.YtfgkhenhlpoheaaGreatM29
import Derived.Test.YtfgkhenhlpoheaaGreatM10
import Derived.Test.YtfgkhenhlpoheaaGreatM31
set_option linter.all false
namespace Go.Proofs.YtfgkhenhlpoheaaGreat
open Go.RowKit Go.Sx
set_option maxRecDepth 100000
set_option maxHeartbeats 4000000
attribute [local irreducible] F.right F.load F.store V.touch K.field A.size A.sgn A.numb
set_option maxHeartbeats 40000000 in
theorem aload_None (f:Fr)(hf:f.wf)(t:Ty)(maps:List Mp)(op dst src off imm:Int)(hd:0≤dst)(hs:0≤src)(hw:t.atMost 140737488355328=true)(hm:maps.length≤140737488355328)(h0:((f.R.getD src.toNat eA.dft).k==0)=false)(h2:((f.R.getD src.toNat eA.dft).k==2)=false)(h3:((f.R.getD src.toNat eA.dft).k==3)=false)(h4:((f.R.getD src.toNat eA.dft).k==4)=false)(h7:((f.R.getD src.toNat eA.dft).k==7)=false)(h8:((f.R.getD src.toNat eA.dft).k==8)=false):run Tryz.prog ⟨[(68,k_iSize),(69,k_iSgn),(71,k_iSome),(65,k_fRight),(67,k_fLoad),(72,k_vTouch),(119,k_field),(5,k_cConst)],eqs,[],[(18,Tryz.f18,[(1,16,[0,0,0,7,15,0,32,96,224,480,992,2016,4064,8160,16352,16383,65535])]),(19,Tryz.f19,[]),(66,Tryz.f66,[]),(23,Tryz.f23,[]),(20,Tryz.f20,[(1,16,[0,1,3,7,0,16,0,64,192,496,0,1024,0,7168,16383,32767,32767,131071,262143])])],[],mixt,meqs,[(21,k_ofCtx),(22,k_ofMem)]⟩ 10000 [(5,9,[0,0,2,1,9,25,63,127,0,511]),(9,7,[0,0,2,0,1,17,49,127,255]),(6,1000,[5,13,14])] 0 (bodyOf Tryz.f9) (initF Tryz.f9 [frv f,.agg [.val (.string t.nm),.int .i64 t.cx,.sl 0 4 0 t.fs.length,.sl 1 3 0 t.ns.length,.int .i64 t.lo,.int .i64 t.hi],.sl 2 4 0 maps.length,.agg [.int .u8 op,.int .u8 dst,.int .u8 src,.int .i16 off,.int .i32 imm]]) [.ro 4 t.fs.length (gOf eF t.fs),.ro 3 t.ns.length (gOf eN t.ns),.ro 4 maps.length (gOf eM maps)] (retK Tryz.prog Tryz.f9 fun x _=>eqv x (.tup [frv (A.load f t.fs maps op dst src (IntKind.i64.wrap off)).1,.int .i64 (A.load f t.fs maps op dst src (IntKind.i64.wrap off)).2])):=by
 have hdt:decide (dst<10)=true→dst.toNat<11:=fun h=>by have:=of_decide_eq_true h;omega
 have hst:decide (src≤10)=true→src.toNat<11:=fun h=>by have:=of_decide_eq_true h;omega
 (conv=>whnf)
 (repeat' (first | (refine And.intro (a:=keepP _ _ _) (by first|exact⟨rfl,rfl,rfl,rfl,trivial⟩|exact⟨rfl,rfl,rfl,trivial⟩|exact⟨rfl,rfl,trivial⟩|exact⟨rfl,trivial⟩) ?_;(conv=>whnf)) | (refine step_t (by first|rfl|assumption) ?_;(conv=>whnf)) | (refine step_f (by first|rfl|assumption) ?_;(conv=>whnf)) | (refine step_nt (by assumption) ?_;(conv=>whnf)) | (refine step_nf (by assumption) ?_;(conv=>whnf)) | (refine step_n (fun hb => ?_) (fun hb => ?_)<;>(first|contradiction | (conv=>whnf))) | (refine And.intro (fun hb => ?_) (fun hb => ?_)<;>(first|contradiction | (conv=>whnf))) | (refine And.intro (a:=(_:Bool)=true) ?_ ?_;rotate_left 1;(conv=>whnf)) | (intro hb;(conv=>whnf))))
 all_goals (try simp only[frD_of hf,isY_at,decY_at,elts_all,allIs_gOf] at *)
 all_goals first
 |rfl
 |trivial
 |exact frB_of hf
 |exact hw
 |exact decide_eq_true (hst (by assumption))
 |exact decide_eq_true (hdt (by assumption))
 |(rw[Bool.and_eq_true];exact⟨decide_eq_true hs,decide_eq_true (hst (by assumption))⟩)
 |(rw[Bool.and_eq_true];exact⟨decide_eq_true hd,decide_eq_true (hdt (by assumption))⟩)
 |(have hin:=inA_at hf.ri (i:=src.toNat) (by rw[hf.r];exact hst (by assumption))
   exact and_t rfl (and_t (and_t (decide_eq_true (Nat.le_refl _)) (and_t (decide_eq_true (Nat.le_refl _)) (decide_eq_true (Nat.le_refl _)))) (and_t rfl (and_t (and_t (decide_eq_true (Ty.atMost_nm hw)) (and_t (decide_eq_true (Ty.atMost_fs hw)) (and_t (decide_eq_true (Ty.atMost_ns hw)) (decide_eq_true hm)))) (and_t hin rfl)))))
 |exact two_no (A.load_bad (A.okL_1 (by assumption)))
 |exact two_no (A.load_bad (A.okL_2 (by assumption)))
 |exact two_no (A.load_bad (A.okL_3 (by assumption)))
 |exact two_no (A.load_bad (A.okL_4 (by assumption)))
 |exact two_no (A.load_bad (A.okL_5 (by assumption)))
 |(simp;done)
 |exact two_no (A.load_err (A.okL_t (by assumption) (by assumption) (by assumption) (by assumption) (by assumption)) (c:=31) (by rw[A.lval_no h0 h2 h3 h4 h7 h8]) (by decide))
end Go.Proofs.YtfgkhenhlpoheaaGreat
