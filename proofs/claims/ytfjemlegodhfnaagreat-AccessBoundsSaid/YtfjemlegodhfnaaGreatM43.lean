import Derived.Test.YtfjemlegodhfnaaGreatM42
import Derived.Test.YtfjemlegodhfnaaGreatM39
set_option linter.all false
namespace Go.Sx
open Go.RowKit Go.Proofs.YtfjemlegodhfnaaGreat
section
variable {P:Program}{G:World→Prop}{Γ:Env}
def EndI (c0:Blk)(K:SV→Prop):Option Value→SV→List Blk→Prop
 |some _,_,_=>False
 |none,x,M1=>M1[0]? = some c0∧∃ y,(∀ ρ ρ':Val,x.den ρ=y.den ρ')∧K y
theorem ymix_top (hΓ:EnvOk P G Γ){f:FuncId}{fn:Func}(hf:P.funcs[f]? = some fn)(hb:fn.body.isSome=true)(hm:Okay P)(T:Tbl)(hT:codeOk T (bodyOf fn)=true)(n:Nat)(args0 xs:List SV)(V:List Blk)(σ:List Nat)
  {args:List SV} {M:List Blk} {k:Nat} {ty:TypeId} {xs0:List SV} {K:Option Value→SV→List Blk→Prop} (hk:M[k]? = some (.mix ty xs0)) (hwf:M.all (Blk.sc fun n=>decide (n<M.length))=true) (hks:k ∉ σ)
  (hargs:∀ ρ,denL (renρ (k::σ) ρ) args0=denL ρ args) (hxs:∀ ρ,mixL xs (denL (renρ (k::σ) ρ) xs)=mixL xs0 (denL ρ xs0)) (hsc:okSt args0 (.mix ty xs::V)=true) (hxc:scL (fun n=>decide (n<1+V.length)) xs=true) (hv:View M (k::σ) σ V)
  (h:run P Γ n T (1+V.length) (bodyOf fn) (initF fn args0) (.mix ty xs::V) (retKP P fn (EndI (.mix ty xs) fun y=>K none y M))):
  ∀ (B:Bd) (ρ:Val) (w:World),(∀ w',Kept B w w'→G w')→MRel B ρ M w→Calls P f (denL ρ args).toArray w fun e w'=>
    ∃ (p:Option Value) (sv:SV) (M':List Blk) (ρ':Val),e=endS p sv ρ'∧K p sv M'∧MRel B ρ' M' w'∧M'.all (Blk.sc fun n=>decide (n<M'.length))=true∧M.length≤M'.length∧(∀ k,k<M.length→ρ' k=ρ k)∧Kept B w w':=by
 intro B ρ w hG hM
 have hklt:k<M.length:=(List.getElem?_eq_some_iff.1 hk).1
 have hbk:=hM.ok k _ hk
 let x:List Nat:=(ρ k).toList.map (·.blk)
 let B':Bd:=⟨w.heap.size,x,ρ.z⟩
 have inx:∀ j,j∈x→∃ l,ρ k=some l∧l.blk=j:=fun j hj=>by
  cases hl:ρ k with
  |none=>simp[x,hl] at hj
  |some l=>simp[x,hl] at hj;exact⟨l,rfl,hj.symm⟩
 have bmay:∀ j,B'.may j→B.may j:=fun j hj=>by
  rcases hj with hj|hj
  . obtain⟨l,hl,rfl⟩:=inx j hj
    exact(Blk.ok_lt hbk rfl hl).1
  . exact .inr (Nat.le_trans hM.size hj)
 have zm:∀ j,ρ.z j → ¬ B'.may j:=fun j hj hm=>by
  rcases hm with hm|hm
  . obtain⟨l,hl,rfl⟩:=inx j hm
    exact hM.zown k _ l hk rfl hl hj
  . exact absurd (hM.zhi j hj).1 (Nat.not_lt_of_le hm)
 have others:∀ (i:Nat) (b:Blk) (l:Loc),i≠k→M[i]? = some b→b.isOwn=true→ρ i=some l → ¬ B'.may l.blk:=fun i b l hne hi ho' hl hm=>by
  rcases hm with hm|hm
  . obtain⟨lk,hlk,he⟩:=inx _ hm
    exact hM.apart i k b _ l lk hne hi hk ho' rfl hl hlk he.symm
  . exact absurd (Blk.ok_lt (hM.ok i b hi) ho' hl).2 (Nat.not_lt_of_le hm)
 let ρ0:Val:=renρ (k::σ) ρ
 have hz0:ρ0.z=ρ.z:=rfl
 have h00:ρ0 0=ρ k:=rfl
 have hV:∀ (i:Nat) (c:Blk),V[i]? = some c→c.isOwn=false∧c.ok B' ρ0 (i+1) w:=fun i c hc=>by
  obtain⟨n,b,hσ,hn,hb⟩:=hv.get i c hc
  refine⟨by cases c<;>first|rfl|exact hb.elim,?_⟩
  have hnk:n≠k:=fun e=>hks (e▸List.mem_of_getElem? hσ)
  have e0:ρ0 (i+1)=ρ n:=by show(match (k::σ)[i+1]? with|some n=>ρ n|none=>none)=ρ n;simp[hσ]
  by_cases hcd:c = .dead
  . subst hcd;trivial
  refine view_one hM hn hb e0 (fun _ h=>h) (fun _ _ h=>h) (fun l hl hpos hin => ?_) (fun l ty' xs hbe hl hin => ?_)
  . cases b with
    |own ty' sz' m' g'=>exact others n _ l hnk hn rfl hl (.inl hin)
    |ro sz' m' g'=>
     obtain⟨q,hr,ho'⟩:=hM.ok n _ hn
     exact(ho'.2 l hl).2.1 (hpos _ _ _ rfl) (bmay _ (.inl hin))
    |fz sz' m' g'=>
     obtain⟨q,hr,ho'⟩:=hM.ok n _ hn
     exact zm _ ((ho'.2 l hl).2.1 (hpos _ _ _ rfl)) (.inl hin)
    |cells ty' xs=>exact others n _ l hnk hn rfl hl (.inl hin)
    |map es=>exact others n _ l hnk hn rfl hl (.inl hin)
    |mix ty' xs=>exact others n _ l hnk hn rfl hl (.inl hin)
    |fm m' q'=>exact others n _ l hnk hn rfl hl (.inl hin)
    |lp T' fe ps asg bd st=>exact others n _ l hnk hn rfl hl (.inl hin)
    |rc ty' xs=>
     obtain⟨l',hl',_,hnm,_⟩:=hM.ok n _ hn
     rw[hl] at hl';obtain rfl:=Option.some.inj hl'
     exact hnm (bmay _ (.inl hin))
    |dead=>cases c<;>first|exact absurd rfl hcd|exact hb.elim | (obtain⟨_,_,h1,_⟩:=hb;cases h1;done) | (obtain⟨_,h1|h1,_⟩:=hb<;>cases h1)
  . rcases hbe with rfl|rfl
    . exact others n _ l hnk hn rfl hl (.inl hin)
    . obtain⟨l',hl',_,hnm,_⟩:=hM.ok n _ hn
      rw[hl] at hl';obtain rfl:=Option.some.inj hl'
      exact hnm (bmay _ (.inl hin))
 have hM0:MRel B' ρ0 (.mix ty xs::V) w:=by
  refine⟨Nat.le_refl _,fun i c hc => ?_,fun i j c d l l' hne h1 h2 o1 o2 => ?_,zm,fun _ h=>by rw[hz0];exact h,fun j hj=>by rw[hz0] at hj;exact⟨(hM.zhi j hj).1,.inl hj⟩,fun i c l hc ho' hl hz => ?_,fun j hj=>by rw[hz0] at hj;exact .inl hj⟩
  . cases i with
    |zero=>
     simp only[List.getElem?_cons_zero,Option.some.injEq] at hc
     subst hc
     obtain⟨l,e,h0,_,hh⟩:=hbk
     exact⟨l,h00.trans e,h0,.inl (by show l.blk∈(ρ.loc k).toList.map (·.blk);rw[show ρ.loc k=some l from e];simp),by rw[hxs];exact hh⟩
    |succ i=>
     simp only[List.getElem?_cons_succ] at hc
     exact(hV i c hc).2
  . cases i with
    |zero=>cases j with
     |zero=>exact absurd rfl hne
     |succ j=>simp only[List.getElem?_cons_succ] at h2;rw[(hV j d h2).1] at o2;cases o2
    |succ i=>simp only[List.getElem?_cons_succ] at h1;rw[(hV i c h1).1] at o1;cases o1
  . rw[hz0] at hz
    cases i with
    |zero=>exact hM.zown k _ l hk rfl (h00.symm.trans hl) hz
    |succ i=>simp only[List.getElem?_cons_succ] at hc;rw[(hV i c hc).1] at ho';cases ho'
 have kept:∀ w',Kept B' w w'→Kept B w w':=fun w' hw=>⟨hw.os,hw.tape,hw.output,hw.size,fun i hi=>hw.block i fun h=>hi (bmay i h),hw.dq,hw.lq⟩
 have hrun:=calls_run_p hΓ hf hb hm T hT n (1+V.length) (B:=B') (M0:=.mix ty xs::V) (ρ0:=ρ0) (args:=args0) (fun w' hw=>hG w' (kept w' hw)) hsc hM0 (by simp;omega) h
 rw[hargs] at hrun
 refine hrun.mono ?_
 rintro e w' ⟨p,ρ1,sv,M1,rfl,hΦ,hM1,_,hw,_,hρ1⟩
 cases p with
 |some v=>exact hΦ.elim
 |none=>
  obtain⟨hc0,y,hy,hKy⟩:=hΦ
  have zs:∀ j,ρ.z j→w'.heap[j]? = w.heap[j]? := fun j hj=>hw.block j (zm j hj)
  have h0b:(Blk.mix ty xs).ok B' ρ1 0 w':=hM1.ok 0 _ hc0
  have e10:ρ1 0=ρ k:=(hρ1 0 (by omega)).trans h00
  refine⟨none,y,M,ρ,?_,hKy,⟨Nat.le_trans hM.size hw.size,fun i c hc => ?_,hM.apart,hM.zb,hM.zlo,fun j hj=>⟨Nat.lt_of_lt_of_le (hM.zhi j hj).1 hw.size,(hM.zhi j hj).2⟩,hM.zown,fun j hj=>(hM.zc j hj).imp_right fun hc=>hc.same (zs j hj)⟩,hwf,Nat.le_refl _,fun _ _=>rfl,kept w' hw⟩
  . show Ending.returned _=Ending.returned _
    rw[hy ρ1 ρ]
  . by_cases hik:i=k
    . subst hik
      rw[hk] at hc
      obtain rfl:=Option.some.inj hc
      obtain⟨l,e,h0,_,hh⟩:=h0b
      obtain⟨l',e',h0',hm',hh'⟩:=hbk
      refine⟨l,e10.symm.trans e,h0,?_,?_⟩
      . rw[show l=l' from Option.some.inj ((e.symm.trans e10).trans e')];exact hm'
      . rw[hh,← hxs ρ,denL_congr (p:=fun n=>decide (n<1+V.length)) (ρ:=ρ0) (ρ':=ρ1) (fun n hn=>hρ1 n (by simpa using hn)) xs hxc]
    . exact c.ok_same (hM.ok i c hc) (fun j hj=>hw.block j fun h=>hj (bmay j h)) zs fun ho' l hl=>hw.block _ (others i c l hik hc ho' hl)
theorem yctr_topm (hS:Stable G)(hΓ:EnvOk P G Γ){f:FuncId}{fn:Func}(hf:P.funcs[f]? = some fn)(hb:fn.body.isSome=true)(hm:Okay P)(T:Tbl)(hT:codeOk T (bodyOf fn)=true)(n:Nat)
  {pre pre0 args:List SV} {M:List Blk} {c:Bool} {av:List AV} (av':List AV) {args0:List SV} {M0:List Blk} (hpre:∀ ρ ρ':Val,denL ρ pre0=denL ρ' pre) (hps:scL (fun _=>false) pre0=true) (hv:topA eltB M args=some (c,av)) (hc:c=true) (he:AVEqL av av') (h0:namA false 0 av'=(args0,M0)) (S:SV→Prop)
  (h:run P Γ n T 0 (bodyOf fn) (initF fn (pre0++args0)) M0 (retK P fn fun x _=>S x)) {K:Option Value→SV→List Blk→Prop} (hK:∀ x,S x→∃ y,(∀ ρ ρ':Val,x.den ρ=y.den ρ')∧K none y M) (hwf:M.all (Blk.sc fun n=>decide (n<M.length))=true):
  ∀ (B:Bd) (ρ:Val) (w:World),(∀ w',Kept B w w'→G w')→MRel B ρ M w→
    Calls P f (denL ρ (pre++args)).toArray w fun e w'=>∃ (p:Option Value) (sv:SV) (M':List Blk) (ρ':Val),e=endS p sv ρ'∧K p sv M'∧MRel B ρ' M' w'∧M'.all (Blk.sc fun n=>decide (n<M'.length))=true∧M.length≤M'.length∧(∀ k,k<M.length→ρ' k=ρ k)∧Kept B w w':=by
 intro B ρ w hG hM
 obtain⟨ρ0,e1,e2,e3,e4⟩:=enter_top hM hv hc he h0
 have e5:okSt (pre0++args0) M0=true:=by
  unfold okSt at e4 ⊢
  simp only[Bool.and_eq_true] at e4 ⊢
  exact⟨by rw[scL_append,scL_mono (fun _ h=>by cases h) _ hps,e4.1];rfl,e4.2⟩
 have e6:denL ρ0 (pre0++args0)=denL ρ (pre++args):=by rw[denL_append,denL_append,e2,hpre ρ0 ρ]
 have hrun:=calls_run hS hΓ hf hb hm T hT n (hG w (Kept.refl _ _)) e5 e3 h
 rw[e6] at hrun
 refine hrun.mono ?_
 rintro e w' ⟨ρ',x,M',rfl,hx,hM',hbel⟩
 have hM2:=hM.grown hwf (Val.Ext.refl ..) hbel (new_none hM hbel)
 rw[List.append_nil] at hM2
 obtain⟨y,hy,hKy⟩:=hK x hx
 refine⟨none,y,M,ρ,?_,hKy,hM2,hwf,Nat.le_refl _,fun _ _=>rfl,Kept.of_below hM.size hbel⟩
 show Ending.returned _=Ending.returned _
 rw[hy ρ' ρ]
theorem ctr_back (hS:Stable G)(hΓ:EnvOk P G Γ){f:FuncId}{fn:Func}(hf:P.funcs[f]? = some fn)(hb:fn.body.isSome=true)(hm:Okay P)(T:Tbl)(hT:codeOk T (bodyOf fn)=true)(n:Nat)(σ:List Nat)(args0:List SV)(M0:List Blk)(sv0:SV)
  {args:List SV} {M:List Blk} {sv:SV} (hargs:∀ ρ,denL (renρ σ ρ) args0=denL ρ args) (hsv:∀ ρ,sv0.den (renρ σ ρ)=sv.den ρ) (hsc:okSt args0 M0=true) (hv:View M σ σ M0) (hs:sv0.sc (fun n=>decide (n<M0.length))=true)
  (h:run P Γ n T M0.length (bodyOf fn) (initF fn args0) M0 (retKP P fn fun p x _=>p=none∧x=sv0)):
  ∀ (B:Bd) (ρ:Val) (w:World),G w→MRel B ρ M w→Calls P f (denL ρ args).toArray w fun e w'=>
    ∃ (ρ':Val) (v:Value),e = .returned v∧(sv ≠ .junk→v=sv.den ρ')∧Val.Ext w.heap.size (fun n => ¬ (M.length≤n∧n<M.length+([]:List Blk).length)) ρ ρ'∧Below w.heap.size w w'∧New B w.heap.size ρ' M.length [] w':=by
 intro B ρ w hGw hM
 have hrun:=calls_run_p hΓ hf hb hm T hT n M0.length (B:=⟨w.heap.size,[],ρ.z⟩) (M0:=M0) (ρ0:=renρ σ ρ) (args:=args0) (fun w' hk=>hS w w' hGw (hk.below rfl)) hsc (View.rel hM hv) (Nat.le_refl _) h
 rw[hargs] at hrun
 refine hrun.mono ?_
 rintro e w' ⟨p,ρ1,x,M',rfl,⟨rfl,rfl⟩,_,_,hk,_,hρ1⟩
 have hw:=hk.below rfl
 refine⟨ρ,_,rfl,fun _ => ?_,Val.Ext.refl ..,hw,new_none hM hw⟩
 rw[← hsv ρ]
 exact SV.den_congr (p:=fun n=>decide (n<M0.length)) (fun n hn=>hρ1 n (by simpa using hn)) _ hs
end
end Go.Sx
namespace Go.Proofs.YtfjemlegodhfnaaGreat
open Go.RowKit Go.Sx
set_option maxRecDepth 100000
set_option maxHeartbeats 4000000
theorem and_t {a b:Bool}(h:a=true)(k:b=true):(a&&b)=true:=by rw[h,k];rfl
theorem EndI_of {c0:Blk}{K:SV→Prop}{x y:SV}{M1:List Blk}(h0:M1[0]? = some c0)(he:eqv x y)(hk:K y):EndI c0 K none x M1:=⟨h0,y,eqv_den he,hk⟩
attribute [local irreducible] F.right F.load F.store V.touch K.field A.size A.sgn A.numb
theorem ofMem_run (g h:Nat→List FV)(ids:Int)(t:Ty)(maps:List Mp)(ak:Int)(av am alo ahi:BitVec 64)(asl ash aof amp aid arm:Int)(anu:Bool)(op dst src off imm:Int)(hw:t.atMost 140737488355328=true)(hm:maps.length≤140737488355328)(ha:R.inS ⟨alo,ahi,asl,ash⟩=true){K:SV→Prop}(hK:K (.tup [abv (A.numb op),.int .i64 (V.touch (⟨ak,(⟨⟨av,am⟩,⟨alo,ahi,asl,ash⟩⟩:Sc),aof,amp,aid,arm,anu⟩:Ab) (IntKind.i64.wrap off) (A.size op) (A.specv maps amp))])):run Tryz.prog ⟨[(28,k_iSize),(31,k_iSome),(32,k_vTouch)],eqs,[],[(33,Tryz.f33,[(1,11,[0,1,3,7,15,31,15,79,207,463,975,2047,4095]),(3,6,[0,1,3,7,0,16,63,127,255])])],[],mixs,meqs,[]⟩ 10000 [(1,1000,[4,5])] 4 (bodyOf Tryz.f15) (initF Tryz.f15 [.ptr 0 0,.agg [.int .u8 ak,.u64 av,.u64 am,.u64 alo,.u64 ahi,.int .i64 asl,.int .i64 ash,.int .i64 aof,.int .i64 amp,.int .i64 aid,.int .i64 arm,.bool anu],.agg [.int .u8 op,.int .u8 dst,.int .u8 src,.int .i16 off,.int .i32 imm]]) [.mix 85 [.arr 11 12 g,.arr 64 14 h,.int .i64 ids,.val (.string t.nm),.int .i64 t.cx,.sl 1 4 0 t.fs.length,.sl 2 3 0 t.ns.length,.int .i64 t.lo,.int .i64 t.hi,.sl 3 4 0 maps.length],.ro 4 t.fs.length (gOf eF t.fs),.ro 3 t.ns.length (gOf eN t.ns),.ro 4 maps.length (gOf eM maps)] (retKP Tryz.prog Tryz.f15 (EndI (.mix 85 [.arr 11 12 g,.arr 64 14 h,.int .i64 ids,.val (.string t.nm),.int .i64 t.cx,.sl 1 4 0 t.fs.length,.sl 2 3 0 t.ns.length,.int .i64 t.lo,.int .i64 t.hi,.sl 3 4 0 maps.length]) K)):=by
 (conv=>whnf)
 (repeat' (first | (refine And.intro (a:=keepP _ _ _) (by first|exact⟨rfl,rfl,rfl,rfl,trivial⟩|exact⟨rfl,rfl,rfl,trivial⟩|exact⟨rfl,rfl,trivial⟩|exact⟨rfl,trivial⟩) ?_;(conv=>whnf)) | (refine step_t (by first|rfl|assumption) ?_;(conv=>whnf)) | (refine step_f (by first|rfl|assumption) ?_;(conv=>whnf)) | (refine step_nt (by assumption) ?_;(conv=>whnf)) | (refine step_nf (by assumption) ?_;(conv=>whnf)) | (refine step_n (fun hb => ?_) (fun hb => ?_)<;>(first|contradiction | (conv=>whnf))) | (refine And.intro (fun hb => ?_) (fun hb => ?_)<;>(first|contradiction | (conv=>whnf))) | (refine And.intro (a:=(_:Bool)=true) ?_ ?_;rotate_left 1;(conv=>whnf))))
 all_goals (try simp only[isY_at,decY_at,Nat.zero_add] at *)
 all_goals first
 |rfl
 |trivial
 |exact hw
 |exact ha
 |(simp;done)
 |(rw[A.specv_1 (by assumption)] at hK;exact⟨rfl,_,fun _ _=>rfl,hK⟩)
 |(rw[A.specv_2 (by assumption)] at hK;exact⟨rfl,_,fun _ _=>rfl,hK⟩)
 |(rw[A.specv_3 (by assumption) (by assumption)] at hK;exact⟨rfl,_,fun _ _=>rfl,hK⟩)
 |(simp only[decide_eq_false_iff_not] at *;exact decide_eq_true (by omega))
 |(simp only[decide_eq_false_iff_not] at *;rw[Bool.and_eq_true];exact⟨decide_eq_true (by omega),decide_eq_true (by omega)⟩)
def k_ofMem:YC:=fun args M K=>match args with
 |[.ptr k 0,.agg [.int .u8 ak,.u64 av,.u64 am,.u64 alo,.u64 ahi,.int .i64 asl,.int .i64 ash,.int .i64 aof,.int .i64 amp,.int .i64 aid,.int .i64 arm,.bool anu],.agg [.int .u8 op,.int .u8 dst,.int .u8 src,.int .i16 off,.int .i32 imm]]=>match nth M k with
  |some (.mix ty [.arr 11 12 g,.arr 64 14 h,.int .i64 ids,.val (.string nm),.int .i64 cx,.sl j1 4 0 p,.sl j2 3 0 q,.int .i64 lo,.int .i64 hi,.sl j3 4 0 m])=>match eltB (nth M j1),eltB (nth M j2),eltB (nth M j3) with
   |some (z1,p',g1),some (z2,q',g2),some (z3,m',g3)=>((Nat.beq ty 85&&(Nat.beq z1 4&&(Nat.beq z2 3&&Nat.beq z3 4)))&&((decide (p≤p')&&(decide (q≤q')&&decide (m≤m')))&&((allIs eF 0 p g1&&(allIs eN 0 q g2&&allIs eM 0 m g3))&&((decide (nm.size≤140737488355328)&&(decide (p≤140737488355328)&&(decide (q≤140737488355328)&&decide (m≤140737488355328))))&&(R.inS ⟨alo,ahi,asl,ash⟩&&(!(Nat.beq k j1)&&(!(Nat.beq k j2) && !(Nat.beq k j3))))))))=true∧(true=true→K none (.tup [abv (A.numb op),.int .i64 (V.touch (⟨ak,(⟨⟨av,am⟩,⟨alo,ahi,asl,ash⟩⟩:Sc),aof,amp,aid,arm,anu⟩:Ab) (IntKind.i64.wrap off) (A.size op) (A.specv (elts eM 0 m g3) amp))]) M)
   |_,_,_=>False
  |_=>False
 |_=>False
theorem k_ofMem_ok:YCtrOk Tryz.prog Gw 15 k_ofMem:=by
 refine⟨fun _ _=>by kernel_rfl,fun args M K hk hsc hwf => ?_⟩
 unfold k_ofMem at hk
 split at hk
 . rename_i k ak av am alo ahi asl ash aof amp aid arm anu op dst src off imm
   split at hk
   . rename_i ty g h ids nm cx j1 p j2 q lo hi j3 m hblk
     split at hk
     . rename_i z1 p' g1 z2 q' g2 z3 m' g3 e1 e2 e3
       obtain⟨hc,hK⟩:=hk
       simp only[Bool.and_eq_true,decide_eq_true_eq,Bool.not_eq_true'] at hc
       obtain⟨⟨b0,b1,b2,b3⟩,⟨c1,c2,c3⟩,⟨a1,a2,a3⟩,⟨w0,w1,w2,w3⟩,hin,n1,n2,n3⟩:=hc
       obtain rfl:=Nat.eq_of_beq_eq_true b0
       obtain rfl:=Nat.eq_of_beq_eq_true b1
       obtain rfl:=Nat.eq_of_beq_eq_true b2
       obtain rfl:=Nat.eq_of_beq_eq_true b3
       have m1:k≠j1:=fun e=>by subst e;rw[Nat.beq_refl] at n1;cases n1
       have m2:k≠j2:=fun e=>by subst e;rw[Nat.beq_refl] at n2;cases n2
       have m3:k≠j3:=fun e=>by subst e;rw[Nat.beq_refl] at n3;cases n3
       simp only[nth_eq] at hblk e1 e2 e3
       obtain⟨x1,hx1⟩:∃ b,M[j1]? = some b:=by
        cases hq:M[j1]? with
        |none=>rw[hq] at e1;cases e1
        |some b=>exact⟨b,rfl⟩
       obtain⟨x2,hx2⟩:∃ b,M[j2]? = some b:=by
        cases hq:M[j2]? with
        |none=>rw[hq] at e2;cases e2
        |some b=>exact⟨b,rfl⟩
       obtain⟨x3,hx3⟩:∃ b,M[j3]? = some b:=by
        cases hq:M[j3]? with
        |none=>rw[hq] at e3;cases e3
        |some b=>exact⟨b,rfl⟩
       rw[hx1] at e1;rw[hx2] at e2;rw[hx3] at e3
       have l1:=elts_length eF 0 p g1
       have l2:=elts_length eN 0 q g2
       have l3:=elts_length eM 0 m g3
       have hr:=ofMem_run g h ids ⟨nm,cx,elts eF 0 p g1,elts eN 0 q g2,lo,hi⟩ (elts eM 0 m g3) ak av am alo ahi asl ash aof amp aid arm anu op dst src off imm (by simp only[Ty.atMost,l1,l2,Bool.and_eq_true,decide_eq_true_eq];exact⟨w0,w1,w2⟩) (by rw[l3];exact w3) hin (K:=fun y=>K none y M) (hK rfl)
       simp only[l1,l2,l3] at hr
       exact ymix_top (Γ:=⟨[(28,k_iSize),(31,k_iSome),(32,k_vTouch)],eqs,[],[(33,Tryz.f33,[(1,11,[0,1,3,7,15,31,15,79,207,463,975,2047,4095]),(3,6,[0,1,3,7,0,16,63,127,255])])],[],mixs,meqs,[]⟩) ⟨(okCons k_iSize_ok (okCons k_iSome_ok (okCons k_vTouch_ok okNil))),eqs_ok,okNilB,(okConsI Tryz.func33 rfl (by kernel_rfl) (fun _ _=>by kernel_rfl) okNilI),okNilP,mixs_ok,meqs_ok,okNilY⟩ Tryz.func15 rfl mixed [(1,1000,[4,5])] (by kernel_rfl) 10000 [.ptr 0 0,.agg [.int .u8 ak,.u64 av,.u64 am,.u64 alo,.u64 ahi,.int .i64 asl,.int .i64 ash,.int .i64 aof,.int .i64 amp,.int .i64 aid,.int .i64 arm,.bool anu],.agg [.int .u8 op,.int .u8 dst,.int .u8 src,.int .i16 off,.int .i32 imm]] [.arr 11 12 g,.arr 64 14 h,.int .i64 ids,.val (.string nm),.int .i64 cx,.sl 1 4 0 p,.sl 2 3 0 q,.int .i64 lo,.int .i64 hi,.sl 3 4 0 m] [.ro 4 p (gOf eF (elts eF 0 p g1)),.ro 3 q (gOf eN (elts eN 0 q g2)),.ro 4 m (gOf eM (elts eM 0 m g3))] [j1,j2,j3] hblk hwf (by simp[m1,m2,m3]) (fun ρ=>rfl) (fun ρ=>rfl) rfl rfl ⟨⟨x1,hx1,_,_,e1,c1,fun i hi=>by rw[gOf_elts eF a1 i hi,Nat.zero_add]⟩,⟨x2,hx2,_,_,e2,c2,fun i hi=>by rw[gOf_elts eN a2 i hi,Nat.zero_add]⟩,⟨x3,hx3,_,_,e3,c3,fun i hi=>by rw[gOf_elts eM a3 i hi,Nat.zero_add]⟩,trivial⟩ hr
     . exact hk.elim
   . exact hk.elim
 . exact hk.elim
end Go.Proofs.YtfjemlegodhfnaaGreat
