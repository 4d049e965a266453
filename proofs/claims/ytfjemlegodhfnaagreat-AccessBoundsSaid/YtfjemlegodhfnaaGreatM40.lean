import Derived.Test.YtfjemlegodhfnaaGreatM39
set_option linter.all false
namespace Go.Proofs.YtfjemlegodhfnaaGreat
open Go.RowKit Go.Sx
set_option maxRecDepth 100000
set_option maxHeartbeats 4000000
namespace A
def mval (a v:Ab)(sz op off:Int):Int:=if v.k=1 then V.touch a off (size op) sz else 31
def tval (fs:List Fd)(at_:Int)(v:Ab)(op:Int):Int:=
 if v.k=1 then
    (if (K.field fs at_ (size op)).isSome=false then 32
    else if ((K.field fs at_ (size op)).getD eF.dft).k=1 then (if ((K.field fs at_ (size op)).getD eF.dft).w=true then 0 else 33)
    else 33)
 else 31
section
variable {fs:List Fd}{maps:List Mp}{a v:Ab}{op off o sz:Int}
theorem mval_n (h:(v.k==1)=false):mval a v sz op off=31:=by
 unfold mval;rw[if_neg (by simpa using h)]
theorem mval_t (h:(v.k==1)=true):mval a v sz op off=V.touch a off (size op) sz:=by
 unfold mval;rw[if_pos (eq_of_beq h)]
theorem tval_n (h:(v.k==1)=false):tval fs o v op=31:=by
 unfold tval;rw[if_neg (by simpa using h)]
theorem tval_a (h:(v.k==1)=true)(h1:(K.field fs o (size op)).isSome=false):tval fs o v op=32:=by
 unfold tval;rw[if_pos (eq_of_beq h),if_pos h1]
theorem tval_b (h:(v.k==1)=true)(h1:(K.field fs o (size op)).isSome=true)(h2:(((K.field fs o (size op)).getD eF.dft).k==1)=false):tval fs o v op=33:=by
 unfold tval;rw[if_pos (eq_of_beq h),if_neg (by rw[h1];exact Bool.false_ne_true.symm),if_neg (by simpa using h2)]
theorem tval_c (h:(v.k==1)=true)(h1:(K.field fs o (size op)).isSome=true)(h2:(((K.field fs o (size op)).getD eF.dft).k==1)=true)(h3:((K.field fs o (size op)).getD eF.dft).w=true):tval fs o v op=0:=by
 unfold tval;rw[if_pos (eq_of_beq h),if_neg (by rw[h1];exact Bool.false_ne_true.symm),if_pos (eq_of_beq h2),if_pos h3]
theorem tval_d (h:(v.k==1)=true)(h1:(K.field fs o (size op)).isSome=true)(h2:(((K.field fs o (size op)).getD eF.dft).k==1)=true)(h3:((K.field fs o (size op)).getD eF.dft).w=false):tval fs o v op=33:=by
 unfold tval;rw[if_pos (eq_of_beq h),if_neg (by rw[h1];exact Bool.false_ne_true.symm),if_pos (eq_of_beq h2),if_neg (by rw[h3];exact Bool.false_ne_true)]
end
def sval (f:Fr)(fs:List Fd)(maps:List Mp)(a v:Ab)(op off:Int):Int:=
 if a.k=2 then (F.store f (IntKind.i64.wrap (a.of+off)) (size op) v).2
 else if a.k=3 then tval fs (IntKind.i64.wrap (a.of+off)) v op
 else if a.k=4∨a.k=7∨a.k=8 then mval a v (specv maps a.mp) op off
 else 31
def okS (f:Fr)(maps:List Mp)(op dst src:Int):Bool:=((Go.bits .and .u8 op 7==2||Go.bits .and .u8 op 7==3)&&(decide (dst≤10)&&decide (src≤10)))&&(decide ((maps.length:Int)≤32)&&F.right f)
def what (f:Fr)(op src imm:Int):Ab:=if (Go.bits .and .u8 op 7==3)=true then f.R.getD src.toNat eA.dft else V.number (C.const (BitVec.ofInt 64 imm))
def store (f:Fr)(fs:List Fd)(maps:List Mp)(op dst src off imm:Int):Int:=
 if okS f maps op dst src=true then
    (if (f.R.getD dst.toNat eA.dft).k=0∨(what f op src imm).k=0 then 30
    else sval f fs maps (f.R.getD dst.toNat eA.dft) (what f op src imm) op off)
 else 2
def stoF (f:Fr)(fs:List Fd)(maps:List Mp)(op dst src off imm:Int):Fr:=
 if store f fs maps op dst src off imm=0 then (if (f.R.getD dst.toNat eA.dft).k=2 then (F.store f (IntKind.i64.wrap ((f.R.getD dst.toNat eA.dft).of+off)) (size op) (what f op src imm)).1 else f) else F.none
end A
theorem num_in {s:Sc}(h:R.inS s.s=true):R.inS (V.number s).n.s=true:=by
 unfold V.number
 split
 . exact h
 . rfl
namespace A
@[reducible] def st (f:Fr) (fs:List Fd) (maps:List Mp) (op dst src off imm:Int):Fr×Int:=(stoF f fs maps op dst src off imm,store f fs maps op dst src off imm)
section
variable {f:Fr}{fs:List Fd}{maps:List Mp}{op dst src off imm c:Int}
theorem okS_t (h1:(Go.bits .and .u8 op 7==2)=true∨(Go.bits .and .u8 op 7==3)=true)(h2:decide (dst≤10)=true)(h3:decide (src≤10)=true)(h4:decide ((maps.length:Int)≤32)=true)(h5:F.right f=true):okS f maps op dst src=true:=by
 unfold okS
 rcases h1 with h1|h1
 . rw[h1,h2,h3,h4,h5];rfl
 . rw[h1,h2,h3,h4,h5,Bool.or_true];rfl
theorem okS_1 (h1:(Go.bits .and .u8 op 7==2)=false)(h2:(Go.bits .and .u8 op 7==3)=false):okS f maps op dst src=false:=by
 unfold okS;rw[h1,h2];rfl
theorem okS_2 (h1:decide (dst≤10)=false):okS f maps op dst src=false:=by
 unfold okS;rw[h1,Bool.false_and,Bool.and_false];rfl
theorem okS_3 (h1:decide (src≤10)=false):okS f maps op dst src=false:=by
 unfold okS;rw[h1,Bool.and_false,Bool.and_false];rfl
theorem okS_4 (h1:decide ((maps.length:Int)≤32)=false):okS f maps op dst src=false:=by
 unfold okS;rw[h1,Bool.false_and,Bool.and_false]
theorem okS_5 (h1:F.right f=false):okS f maps op dst src=false:=by
 unfold okS;rw[h1,Bool.and_false,Bool.and_false]
theorem what_t (h:(Go.bits .and .u8 op 7==3)=true):what f op src imm=f.R.getD src.toNat eA.dft:=by
 unfold what;rw[if_pos h]
theorem what_f (h:(Go.bits .and .u8 op 7==3)=false):what f op src imm=V.number (C.const (BitVec.ofInt 64 imm)):=by
 unfold what;rw[if_neg (by rw[h];exact Bool.false_ne_true)]
theorem stoF_no (h:store f fs maps op dst src off imm=c)(hc:c≠0):stoF f fs maps op dst src off imm=F.none:=by
 unfold stoF;rw[if_neg (by rw[h];exact hc)]
theorem st_bad (h:okS f maps op dst src=false):st f fs maps op dst src off imm=(F.none,2):=by
 have:store f fs maps op dst src off imm=2:=by unfold store;rw[if_neg (by simp[h])]
 exact Prod.ext (stoF_no this (by decide)) this
theorem st_30 (h:okS f maps op dst src=true)(h':(f.R.getD dst.toNat eA.dft).k=0∨(what f op src imm).k=0):st f fs maps op dst src off imm=(F.none,30):=by
 have:store f fs maps op dst src off imm=30:=by unfold store;rw[if_pos h,if_pos h']
 exact Prod.ext (stoF_no this (by decide)) this
theorem store_is (h:okS f maps op dst src=true)(ha:(f.R.getD dst.toNat eA.dft).k≠0)(hv:(what f op src imm).k≠0)(e:sval f fs maps (f.R.getD dst.toNat eA.dft) (what f op src imm) op off=c):store f fs maps op dst src off imm=c:=by
 unfold store;rw[if_pos h,if_neg (by rintro(h1|h1);exact ha h1;exact hv h1),e]
theorem st_er (h:okS f maps op dst src=true)(ha:(f.R.getD dst.toNat eA.dft).k≠0)(hv:(what f op src imm).k≠0)(e:sval f fs maps (f.R.getD dst.toNat eA.dft) (what f op src imm) op off=c)(hc:c≠0):st f fs maps op dst src off imm=(F.none,c):=by
 have:=store_is h ha hv e
 exact Prod.ext (stoF_no this hc) this
theorem st_ok (h:okS f maps op dst src=true)(ha:(f.R.getD dst.toNat eA.dft).k≠0)(hv:(what f op src imm).k≠0)(e:sval f fs maps (f.R.getD dst.toNat eA.dft) (what f op src imm) op off=0)(hk:(f.R.getD dst.toNat eA.dft).k≠2):st f fs maps op dst src off imm=(f,0):=by
 have:=store_is h ha hv e
 refine Prod.ext ?_ this
 show stoF f fs maps op dst src off imm=f
 unfold stoF;rw[if_pos this,if_neg hk]
theorem st_2 {X:Ab}(h:okS f maps op dst src=true)(ha:(f.R.getD dst.toNat eA.dft).k≠0)(hv:(what f op src imm).k≠0)(e:sval f fs maps (f.R.getD dst.toNat eA.dft) (what f op src imm) op off=0)(hk:(f.R.getD dst.toNat eA.dft).k=2)(hx:what f op src imm=X):st f fs maps op dst src off imm=((F.store f (IntKind.i64.wrap ((f.R.getD dst.toNat eA.dft).of+off)) (size op) X).1,0):=by
 have:=store_is h ha hv e
 refine Prod.ext ?_ this
 show stoF f fs maps op dst src off imm=_
 unfold stoF;rw[if_pos this,if_pos hk,hx]
end
section
variable {f:Fr}{fs:List Fd}{maps:List Mp}{a v:Ab}{op off:Int}
theorem sval_2 (h:(a.k==2)=true):sval f fs maps a v op off=(F.store f (IntKind.i64.wrap (a.of+off)) (size op) v).2:=by
 unfold sval;rw[if_pos (eq_of_beq h)]
theorem sval_3 (h:(a.k==3)=true):sval f fs maps a v op off=tval fs (IntKind.i64.wrap (a.of+off)) v op:=by
 have:=eq_of_beq h
 unfold sval;rw[if_neg (by omega),if_pos this]
theorem sval_m (h:(a.k==4)=true∨(a.k==7)=true∨(a.k==8)=true):sval f fs maps a v op off=mval a v (specv maps a.mp) op off:=by
 simp only[beq_iff_eq] at h
 unfold sval;rw[if_neg (by omega),if_neg (by omega),if_pos h]
theorem sval_no (h2:(a.k==2)=false)(h3:(a.k==3)=false)(h4:(a.k==4)=false)(h7:(a.k==7)=false)(h8:(a.k==8)=false):sval f fs maps a v op off=31:=by
 simp only[beq_eq_false_iff_ne,ne_eq] at h2 h3 h4 h7 h8
 unfold sval;rw[if_neg h2,if_neg h3,if_neg (by omega)]
theorem k_ne {x y:Int}(h:(x==y)=true){z:Int}(hz:y≠z):x≠z:=by rw[eq_of_beq h];exact hz
end
end A
end Go.Proofs.YtfjemlegodhfnaaGreat
namespace Go.Proofs.YtfjemlegodhfnaaGreat
open Go.RowKit Go.Sx
set_option maxRecDepth 100000
set_option maxHeartbeats 4000000
theorem field_run (t:Ty)(o:Int)(z:Int)(hw:(t.atMost 140737488355328)=true):run Tryz.prog ⟨[],eqs,[],[(58,Tryz.f58,[]),(59,Tryz.f59,[])],[],mixs,meqs,[]⟩ 10000 [] 0 (bodyOf Tryz.f45) (initF Tryz.f45 [.agg [.val (.string t.nm),.int .i64 t.cx,.sl 0 4 0 t.fs.length,.sl 1 3 0 t.ns.length,.int .i64 t.lo,.int .i64 t.hi],.int .i64 o,.int .i64 z]) [.ro 4 t.fs.length (gOf eF t.fs),.ro 3 t.ns.length (gOf eN t.ns)] (retK Tryz.prog Tryz.f45 (TellsC true [.agg [.int .i64 ((K.field t.fs o z).getD eF.dft).o,.int .i64 ((K.field t.fs o z).getD eF.dft).z,.int .u8 ((K.field t.fs o z).getD eF.dft).k,.bool ((K.field t.fs o z).getD eF.dft).w],.one (.bool (K.field t.fs o z).isSome)])):=by
 simp only[Ty.atMost,Bool.and_eq_true,decide_eq_true_eq] at hw
 obtain⟨hs,hl,hn⟩:=hw
 (conv=>whnf)
 (repeat' (first | (refine step_t (by first|rfl|assumption) ?_;(conv=>whnf)) | (refine step_f (by first|rfl|assumption) ?_;(conv=>whnf)) | (refine step_nt (by assumption) ?_;(conv=>whnf)) | (refine step_nf (by assumption) ?_;(conv=>whnf)) | (refine step_n (fun hb => ?_) (fun hb => ?_)<;>(first|contradiction | (conv=>whnf))) | (refine And.intro (fun hb => ?_) (fun hb => ?_)<;>(first|contradiction | (conv=>whnf))) | (refine And.intro (a:=(_:Bool)=true) ?_ ?_;rotate_left 1;(conv=>whnf))))
 refine .inr ⟨[],[0,1,7,8],fun k vals M=>∃ j:Nat,j≤t.fs.length∧k=t.fs.length-j∧K.upto (fun i => !((t.fs.getD i eF.dft).o==o&&(t.fs.getD i eF.dft).z==z)) j=true∧vals=[.sl 0 4 0 t.fs.length,.fn (.func 59) [] [.ptr 3 0,.ptr 4 0],.int .i64 (t.fs.length:Int),.int .i64 (j:Int)]∧M=[.ro 4 t.fs.length (gOf eF t.fs),.ro 3 t.ns.length (gOf eN t.ns),.cells 41 [.val (.string t.nm),.int .i64 t.cx,.sl 0 4 0 t.fs.length,.sl 1 3 0 t.ns.length,.int .i64 t.lo,.int .i64 t.hi],.cells 3 [.int .i64 o],.cells 3 [.int .i64 z],.cells 64 [.int .i64 0,.int .i64 0,.int .u8 0,.ff]],?_⟩
 conv=>whnf
 refine And.intro ⟨t.fs.length,[.ro 4 t.fs.length (gOf eF t.fs),.ro 3 t.ns.length (gOf eN t.ns),.cells 41 [.val (.string t.nm),.int .i64 t.cx,.sl 0 4 0 t.fs.length,.sl 1 3 0 t.ns.length,.int .i64 t.lo,.int .i64 t.hi],.cells 3 [.int .i64 o],.cells 3 [.int .i64 z],.cells 64 [.int .i64 0,.int .i64 0,.int .u8 0,.ff]],(mle_cons ble_refl (mle_cons ble_refl (mle_cons ble_refl (mle_cons ble_refl (mle_cons ble_refl (mle_cons ble_refl mle_nil)))))),rfl,rfl,0,by omega,by omega,K.upto_0,rfl,rfl⟩ ?_
 rintro k vals M1 ⟨j,hj,rfl,he,rfl,rfl⟩
 (conv=>whnf)
 (repeat' (first | (refine step_t (by first|rfl|assumption) ?_;(conv=>whnf)) | (refine step_f (by first|rfl|assumption) ?_;(conv=>whnf)) | (refine step_nt (by assumption) ?_;(conv=>whnf)) | (refine step_nf (by assumption) ?_;(conv=>whnf)) | (refine step_n (fun hb => ?_) (fun hb => ?_)<;>(first|contradiction | (conv=>whnf))) | (refine And.intro (fun hb => ?_) (fun hb => ?_)<;>(first|contradiction | (conv=>whnf))) | (refine And.intro (a:=(_:Bool)=true) ?_ ?_;rotate_left 1;(conv=>whnf))))
 all_goals have hz:((j:Int)).toNat=j:=by omega
 all_goals simp only[hz,Nat.zero_add,Nat.sub_zero] at *
 all_goals try (have hlt:j<t.fs.length:=(by
  have h9:decide ((j:Int) < (t.fs.length:Int))=true:=(by assumption)
  have h8:=of_decide_eq_true h9
  omega))
 all_goals try (have hjl:j=t.fs.length:=(by
  have h9:decide ((j:Int) < (t.fs.length:Int))=false:=(by assumption)
  have h8:=of_decide_eq_false h9
  omega)
                have hx:=K.field_no (hjl▸he))
 all_goals first
 |rfl
 |exact decide_eq_true hlt
 |(rw[Bool.and_eq_true];exact⟨decide_eq_true (by omega),decide_eq_true hlt⟩)
 |exact decide_eq_true (by omega)
 |(exfalso
   have h7:decide ((j:Int)<0)=true:=(by assumption)
   have h8:=of_decide_eq_true h7
   omega)
 |(rw[K.field_is hlt he (by assumption) (by assumption)]
   exact⟨_,_,_,rfl,.inl (by trivial),rfl,rfl,avcons (FVEqL.refl _) (AVEqL.refl _)⟩)
 |(rw[hx]
   exact⟨_,_,_,rfl,.inl (by trivial),rfl,rfl,avcons (FVEqL.refl _) (AVEqL.refl _)⟩)
 |(refine⟨t.fs.length - (j+1),[.ro 4 t.fs.length (gOf eF t.fs),.ro 3 t.ns.length (gOf eN t.ns),.cells 41 [.val (.string t.nm),.int .i64 t.cx,.sl 0 4 0 t.fs.length,.sl 1 3 0 t.ns.length,.int .i64 t.lo,.int .i64 t.hi],.cells 3 [.int .i64 o],.cells 3 [.int .i64 z],.cells 64 [.int .i64 0,.int .i64 0,.int .u8 0,.ff]],[0,1,2,3,4,5],by omega,rfl,(mle_cons ble_refl (mle_cons ble_refl (mle_cons ble_refl (mle_cons ble_refl (mle_cons ble_refl (mle_cons ble_refl mle_nil)))))),rfl,rfl,j+1,by omega,rfl,K.upto_next he ?_,?_,rfl⟩
   . simp_all
   . show[SV.sl 0 4 0 t.fs.length,.fn (.func 59) [] [.ptr 3 0,.ptr 4 0],.int .i64 (t.fs.length:Int),.int .i64 (IntKind.i64.wrap ((j:Int)+1))]=_
     rw[i64_all (n:=(j:Int)+1) (by omega) (by omega)];rfl)
noncomputable def k_field:List SV→List Blk→Res:=fun args M=>match topA eltB M args with
 |some (b,[.agg v0,.one (.int .i64 v1),.one (.int .i64 v2)])=>.test b (.test (cY.is v0) (.test ((cY.dec v0).atMost 140737488355328) (.ok (outA true (namA true M.length [.agg [.int .i64 ((K.field (cY.dec v0).fs v1 v2).getD eF.dft).o,.int .i64 ((K.field (cY.dec v0).fs v1 v2).getD eF.dft).z,.int .u8 ((K.field (cY.dec v0).fs v1 v2).getD eF.dft).k,.bool ((K.field (cY.dec v0).fs v1 v2).getD eF.dft).w],.one (.bool (K.field (cY.dec v0).fs v1 v2).isSome)]).1) (namA true M.length [.agg [.int .i64 ((K.field (cY.dec v0).fs v1 v2).getD eF.dft).o,.int .i64 ((K.field (cY.dec v0).fs v1 v2).getD eF.dft).z,.int .u8 ((K.field (cY.dec v0).fs v1 v2).getD eF.dft).k,.bool ((K.field (cY.dec v0).fs v1 v2).getD eF.dft).w],.one (.bool (K.field (cY.dec v0).fs v1 v2).isSome)]).2)))
 |_=>.fail
theorem k_field_ok:CtrOk Tryz.prog Gw 45 k_field:=by
 refine⟨fun _ _=>by kernel_rfl,fun args M => ?_⟩
 unfold k_field
 split
 . rename_i b v0 v1 v2 hv
   intro hb hi hw
   exact ctr_topc (Γ:=⟨[],eqs,[],[(58,Tryz.f58,[]),(59,Tryz.f59,[])],[],mixs,meqs,[]⟩) st_Gw ⟨okNil,eqs_ok,okNilB,(okConsI Tryz.func58 rfl (by kernel_rfl) (fun _ _=>by kernel_rfl) (okConsI Tryz.func59 rfl (by kernel_rfl) (fun _ _=>by kernel_rfl) okNilI)),okNilP,mixs_ok,meqs_ok,okNilY⟩ Tryz.func45 rfl mixed [] (by kernel_rfl) 10000 [.agg (celY (cY.dec v0)),.one (.int .i64 v1),.one (.int .i64 v2)] hv hb ⟨Cel.is_dec (hi),⟨FVEq.refl _,⟨FVEq.refl _,trivial⟩⟩⟩ rfl true _ (field_run (cY.dec v0) v1 v2 hw)
 . trivial
end Go.Proofs.YtfjemlegodhfnaaGreat
