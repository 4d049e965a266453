import Derived.Test.YtfgkhenhlpoheaaGreatM40
import Derived.Test.YtfgkhenhlpoheaaGreatM10
import Derived.Test.YtfgkhenhlpoheaaGreatM41
set_option linter.all false
namespace Go.Proofs.YtfgkhenhlpoheaaGreat
open Go.RowKit Go.Sx
set_option maxRecDepth 100000
set_option maxHeartbeats 4000000
attribute [local irreducible] F.right F.load F.store V.touch K.field A.size A.sgn A.numb
attribute [local irreducible] A.store A.stoF A.sval A.what A.okS A.mval A.tval V.number C.const
set_option maxHeartbeats 40000000 in
theorem astore_2 (f:Fr)(hf:f.wf)(t:Ty)(maps:List Mp)(op dst src off imm:Int)(hd:0≤dst)(hs:0≤src)(hw:t.atMost 140737488355328=true)(hm:maps.length≤140737488355328)(h2:((f.R.getD dst.toNat eA.dft).k==2)=true):run Tryz.prog ⟨[(68,k_iSize),(65,k_fRight),(84,k_fStore),(72,k_vTouch),(119,k_field),(5,k_cConst),(37,k_vNumber)],eqs,[],[(18,Tryz.f18,[(1,16,[0,0,0,7,15,0,32,96,224,480,992,2016,4064,8160,16352,16383,65535])]),(42,Tryz.f42,[]),(38,Tryz.f38,[(1,18,[0,1,3,7,0,16,0,64,192,496,0,1024,0,8191,16383,32767,32767,0,196607,524287])]),(41,Tryz.f41,[])],[],mixt,meqs,[(39,k_toCtx),(40,k_toMem)]⟩ 10000 [(5,16,[0,0,2,1,9,25,63,127,0,256,768,1792,3840,7936,0,0,65535,131071]),(7,6,[0,0,2,1,9,25,63,127,255]),(11,1000,[5,10,11,13])] 0 (bodyOf Tryz.f14) (initF Tryz.f14 [frv f,.agg [.val (.string t.nm),.int .i64 t.cx,.sl 0 4 0 t.fs.length,.sl 1 3 0 t.ns.length,.int .i64 t.lo,.int .i64 t.hi],.sl 2 4 0 maps.length,.agg [.int .u8 op,.int .u8 dst,.int .u8 src,.int .i16 off,.int .i32 imm]]) [.ro 4 t.fs.length (gOf eF t.fs),.ro 3 t.ns.length (gOf eN t.ns),.ro 4 maps.length (gOf eM maps)] (retK Tryz.prog Tryz.f14 fun x _=>eqv x (.tup [frv (A.st f t.fs maps op dst src (IntKind.i64.wrap off) (IntKind.i64.wrap imm)).1,.int .i64 (A.st f t.fs maps op dst src (IntKind.i64.wrap off) (IntKind.i64.wrap imm)).2])):=by
 have hdt:decide (dst≤10)=true→dst.toNat<11:=fun h=>by have:=of_decide_eq_true h;omega
 have hst:decide (src≤10)=true→src.toNat<11:=fun h=>by have:=of_decide_eq_true h;omega
 (conv=>whnf)
 (repeat' (first | (refine And.intro (a:=keepP _ _ _) (by first|exact⟨rfl,rfl,rfl,rfl,trivial⟩|exact⟨rfl,rfl,rfl,trivial⟩|exact⟨rfl,rfl,trivial⟩|exact⟨rfl,trivial⟩) ?_;(conv=>whnf)) | (refine step_t (by first|rfl|assumption) ?_;(conv=>whnf)) | (refine step_f (by first|rfl|assumption) ?_;(conv=>whnf)) | (refine step_nt (by assumption) ?_;(conv=>whnf)) | (refine step_nf (by assumption) ?_;(conv=>whnf)) | (refine step_n (fun hb => ?_) (fun hb => ?_)<;>(first|contradiction | (conv=>whnf))) | (refine And.intro (fun hb => ?_) (fun hb => ?_)<;>(first|contradiction | (conv=>whnf))) | (refine And.intro (a:=(_:Bool)=true) ?_ ?_;rotate_left 1;(conv=>whnf)) | (intro hb;(conv=>whnf))))
 all_goals (try simp only[frD_of hf,isY_at,decY_at,elts_all,allIs_gOf] at *)
 all_goals first
 |rfl
 |trivial
 |exact frB_of hf
 |exact hw
 |exact C.const_S _
 |exact num_in (C.const_S _)
 |exact decide_eq_true (hst (by assumption))
 |exact decide_eq_true (hdt (by assumption))
 |(rw[Bool.and_eq_true];exact⟨decide_eq_true hs,decide_eq_true (hst (by assumption))⟩)
 |(rw[Bool.and_eq_true];exact⟨decide_eq_true hd,decide_eq_true (hdt (by assumption))⟩)
 |exact and_t (frB_of hf) (inA_at hf.ri (by rw[hf.r];exact hst (by assumption)))
 |exact and_t (frB_of hf) (num_in (C.const_S _))
 |(have hin:=inA_at hf.ri (i:=dst.toNat) (by rw[hf.r];exact hdt (by assumption))
   exact and_t rfl (and_t (and_t (decide_eq_true (Nat.le_refl _)) (and_t (decide_eq_true (Nat.le_refl _)) (decide_eq_true (Nat.le_refl _)))) (and_t rfl (and_t (and_t (decide_eq_true (Ty.atMost_nm hw)) (and_t (decide_eq_true (Ty.atMost_fs hw)) (and_t (decide_eq_true (Ty.atMost_ns hw)) (decide_eq_true hm)))) (and_t hin rfl)))))
 |(have hin:=inA_at hf.ri (i:=src.toNat) (by rw[hf.r];exact hst (by assumption))
   exact and_t (frB_of hf) hin)
 |exact two_no (A.st_bad (A.okS_1 (by assumption) (by assumption)))
 |exact two_no (A.st_bad (A.okS_2 (by assumption)))
 |exact two_no (A.st_bad (A.okS_3 (by assumption)))
 |exact two_no (A.st_bad (A.okS_4 (by assumption)))
 |exact two_no (A.st_bad (A.okS_5 (by assumption)))
 |(simp;done)
 |exact two_no (A.st_30 (A.okS_t (by first|exact .inl (by assumption)|exact .inr (by assumption)) (by assumption) (by assumption) (by assumption) (by assumption)) (.inl (eq_of_beq (by assumption))))
 |exact two_no (A.st_30 (A.okS_t (by first|exact .inl (by assumption)|exact .inr (by assumption)) (by assumption) (by assumption) (by assumption) (by assumption)) (.inr (by rw[A.what_t (by assumption)];exact eq_of_beq (by assumption))))
 |exact two_no (A.st_30 (A.okS_t (by first|exact .inl (by assumption)|exact .inr (by assumption)) (by assumption) (by assumption) (by assumption) (by assumption)) (.inr (by rw[A.what_f (by assumption)];exact eq_of_beq (by assumption))))
 |exact two_no (A.st_er (A.okS_t (by first|exact .inl (by assumption)|exact .inr (by assumption)) (by assumption) (by assumption) (by assumption) (by assumption)) (beq_f (by assumption)) (by rw[A.what_t (by assumption)];exact beq_f (by assumption)) (by rw[A.sval_2 h2,A.what_t (by assumption)]) (beq_f (by assumption)))
 |exact two_no (A.st_er (A.okS_t (by first|exact .inl (by assumption)|exact .inr (by assumption)) (by assumption) (by assumption) (by assumption) (by assumption)) (beq_f (by assumption)) (by rw[A.what_f (by assumption)];exact beq_f (by assumption)) (by rw[A.sval_2 h2,A.what_f (by assumption)]) (beq_f (by assumption)))
 |exact two_same (A.st_2 (A.okS_t (by first|exact .inl (by assumption)|exact .inr (by assumption)) (by assumption) (by assumption) (by assumption) (by assumption)) (beq_f (by assumption)) (by rw[A.what_t (by assumption)];exact beq_f (by assumption)) (by rw[A.sval_2 h2,A.what_t (by assumption)];exact eq_of_beq (by assumption)) (eq_of_beq h2) (A.what_t (by assumption)))
 |exact two_same (A.st_2 (A.okS_t (by first|exact .inl (by assumption)|exact .inr (by assumption)) (by assumption) (by assumption) (by assumption) (by assumption)) (beq_f (by assumption)) (by rw[A.what_f (by assumption)];exact beq_f (by assumption)) (by rw[A.sval_2 h2,A.what_f (by assumption)];exact eq_of_beq (by assumption)) (eq_of_beq h2) (A.what_f (by assumption)))
end Go.Proofs.YtfgkhenhlpoheaaGreat
