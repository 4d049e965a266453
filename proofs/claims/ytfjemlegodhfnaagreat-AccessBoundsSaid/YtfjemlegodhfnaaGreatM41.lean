import Derived.Test.YtfjemlegodhfnaaGreatM19
import Derived.Test.YtfjemlegodhfnaaGreatM21
import Derived.RecoverIn
set_option linter.all false
namespace Go.Sx
open Go.RowKit Go.Proofs.YtfjemlegodhfnaaGreat
def OutM (P:Program):List Deferred→World→(World→Prop)→Prop
 |[],w,Q=>Q w
 |d::ds,w,Q=>∃ r w',d.target = .collected r∧(Instr.takeDeferred r).run P w = .ok [] w'∧OutM P ds w' Q
theorem OutM.steps {P:Program}{Fc:Fence}{n:Nat}{Q:World→Prop}:∀ (ds:List Deferred) (w:World) (fr:Frame) (cs:List Frame),fr.mode = .returning→fr.defers=ds→Fc.fn fr.fn→Fc.room (cs.length+1+n)→OutM P ds w Q→
  ∃ w',Q w'∧StepsIn (Machine.fenced P Fc) P (lone fr cs w) (lone {fr with defers:=[]} cs w')
 |[],w,fr,cs,hm,hd,hF,hr,h=>⟨w,h,by cases fr;simp only at hd;subst hd;exact StepsIn.refl _⟩
 |d::ds,w,fr,cs,hm,hd,hF,hr,h=>by
  obtain⟨r,w',ht,hk,h'⟩:=h
  have h1:=step_collected (P:=P) (cs:=cs) (by rw[hm];simp) hd ht hk
  have i1:(lone fr cs w).fenced P Fc:=fenced_out hF hr (by rw[hm];simp) hd (fun g hg=>by rw[ht] at hg;simp[Target.leads] at hg)
  obtain⟨w'',hq,hs⟩:=OutM.steps ds w' {fr with defers:=[]++ds} cs hm rfl hF hr h'
  exact⟨w'',hq,.head i1 h1 hs⟩
def wpSV (P:Program)(c:Code)(Q:Exit→Act→List Frame→World→Prop)(a:Act)(cs:List Frame)(w:World):Prop:=
 ∀ (b:Frame) (k:List Item),b.kind = .deferred→b.roundOf=none→(P.funcs[b.fn]?).isSome=true→
   ∃ e a' cs' w',cs'.length=cs.length∧Q e a' cs' w'∧ArrivesIn (Machine.fenced P (Fe none)) P (lone (b.atR a (.code c::k)) cs w) b k cs' e a' w'
section
variable {P:Program}{Q:Exit→Act→List Frame→World→Prop}{a:Act}{cs:List Frame}{w:World}
theorem SV_of {c:Code}(h:c.wpSIn (Fe none) 0 P Q a cs w):wpSV P c Q a cs w:=fun b k hk hr _=>h b k hk hr trivial (fe_room _)
theorem SV_of_V {c:Code}(h:wpV none P c (fun e a' w'=>Q e a' cs w') a w):wpSV P c Q a cs w:=fun b k _ hr hb=>
 let ⟨e,a',w',q,r⟩:=h b k cs hr hb
 ⟨e,a',cs,w',rfl,q,r⟩
theorem SV_seq {x y:Code}(h:wpSV P x (Exit.thenS (wpSV P y Q) Q) a cs w):wpSV P (.seq x y) Q a cs w:=by
 intro b k hk hr hb
 have s0:=calm1 (ro:=none) (P:=P) (w:=w) (fr:=b.atR a (.code (.seq x y)::k)) (cs:=cs) rfl stepR_seq
 obtain⟨e,a1,cs1,w1,hl,hq,harr⟩:=h b (.code y::k) hk hr hb
 by_cases he:e = .normal
 . subst he
   obtain⟨e2,a2,cs2,w2,hl2,hq2,harr2⟩:=hq b k hk hr hb
   exact⟨e2,a2,cs2,w2,hl2.trans hl,hq2,.of_steps (s0.trans harr) harr2⟩
 . refine⟨e,a1,cs1,w1,hl,?_,.of_steps s0 (.pass (x:=.code y) rfl (fun _ _=>.inl he) harr)⟩
   cases e<;>first|exact absurd rfl he|exact hq
end
theorem callsDIn_marks {P:Program}{f:FuncId}{fn:Func}{c:Code}{args:Array Value}{u:FrameMode}{w:World}{R:FrameMode→World→Prop}
  (hf:P.funcs[f]? = some fn) (hb:fn.body=some c) (hres:fn.results = #[])
  (h:∀ (c₀:Frame) (cs:List Frame),c₀.mode=u→
    wpSV P c (fun e a cs' w=>(e = .normal∨e = .ret)∧∃ u',cs'={c₀ with mode:=u'}::cs∧OutM P a.defers w (R u')) {tmps:=args++Array.replicate (fn.ntmps-args.size) undef,defers:=[]} (c₀::cs) w):
  CallsDIn (Fe none) 0 P f args u w fun e u' w'=>e = .returned (.tuple #[])∧R u' w':=by
 refine⟨trivial,fun c₀ cs hu hroom => ?_⟩
 have hF:(Fe none).fn f:=trivial
 let b:Frame:={(default:Frame) with fn:=f,kind:=.deferred,roundOf:=none}
 have henter:Frame.enter P f args .deferred =
   b.atR {tmps:=args++Array.replicate (fn.ntmps-args.size) undef,defers:=[]} [.code c]:=by
  simp[Frame.enter,Frame.atR,hf,hb,b]
 obtain⟨e,a',cs',w',hl,⟨he,u',rfl,hout⟩,harr⟩:=h c₀ cs hu b [] rfl rfl (by show(P.funcs[f]?).isSome=true;rw[hf];rfl)
 rw[← henter] at harr
 have hroom':(Fe none).room (({c₀ with mode:=u'}::cs:List Frame).length+1+0):=hroom
 have hrv:∀ w'',(results fn a'.tmps).run P w'' = .ok (.tuple #[]) w'':=fun w''=>by simp[results,hres]
 rcases he with rfl|rfl
 . obtain⟨w'',hq,hs⟩:=OutM.steps a'.defers w' {b.atR a' [] with mode:=.returning} ({c₀ with mode:=u'}::cs) rfl rfl hF hroom' hout
   exact⟨.returned (.tuple #[]),u',w'',_,⟨rfl,hq⟩,StepsIn.trans (StepsIn.trans harr (.one (fenced_calm (fr:=b.atR a' []) hF hroom' rfl) (stepR_end rfl))) hs,rfl,rfl,rfl,rfl,fn,hf,hrv w''⟩
 . obtain⟨todo,hs₀⟩:=harr.1 rfl
   obtain⟨w'',hq,hs⟩:=OutM.steps a'.defers w' {b.atR a' todo with mode:=.returning} ({c₀ with mode:=u'}::cs) rfl rfl hF hroom' hout
   exact⟨.returned (.tuple #[]),u',w'',_,⟨rfl,hq⟩,StepsIn.trans hs₀ hs,rfl,rfl,rfl,rfl,fn,hf,hrv w''⟩
theorem out_marks {P:Program}{B:Bd}{w0:World}{L:LD}{ρ:Val}{F:List SV}{M:List Blk}{Q:World→Prop}(hBs:B.s≤w0.heap.size)(hL:L.ds=[]){tmps:Array Value}:
  ∀ (rs:List Nat) (w:World),rs.Nodup→(∀ r∈rs,w0.heap.size≤r∧w.heap[r]? = some (Obj.deferred (some [])))→Rel B w0 L ρ F M {tmps:=tmps,defers:=[]} w→(∀ w',Rel B w0 L ρ F M {tmps:=tmps,defers:=[]} w'→Q w')→
    OutM P (rs.map (fun r=>{target:=.collected r,args := #[]})) w Q
 |[],w,_,_,hR,hQ=>hQ w hR
 |r::rs,w,hn,hw,hR,hQ=>by
  obtain⟨h1,h2⟩:=hw r (List.mem_cons_self ..)
  have hn':=List.nodup_cons.1 hn
  refine⟨r,_,rfl,run_takeDeferred h2,?_⟩
  have hother:∀ k,k≠r→(w.putObj r (Obj.deferred none)).heap[k]? = w.heap[k]? := fun k hk=>World.putObj_heap_other hk
  have hM':=hR.mem.close h2 (Nat.le_trans hBs h1)
  have hk:Kept B w0 (w.putObj r (Obj.deferred none)):=by
   refine⟨hR.below.os,hR.below.tape,hR.below.output,by simpa using hR.below.size,fun k hk => ?_,fun k hk => ?_,fun k r0 hk => ?_⟩
   . rw[hother k fun e=>hk (e ▸ .inr (Nat.le_trans hBs h1))];exact hR.below.block k hk
   . rw[hother k fun e=>by subst e;have:=(Array.getElem?_eq_some_iff.1 hk).1;omega];exact hR.below.dq k hk
   . rw[hother k fun e=>by subst e;have:=(Array.getElem?_eq_some_iff.1 hk).1;omega];exact hR.below.lq k r0 hk
  refine out_marks hBs hL rs _ hn'.2 (fun r' hr' => ?_) ⟨by rw[hL];exact Marks.nil _ _ _,hR.len,hR.size,hR.slot,hR.scF,hR.scM,hM',hk⟩ hQ
  have:=hw r' (List.mem_cons_of_mem _ hr')
  exact⟨this.1,by rw[hother r' fun e=>hn'.1 (e▸hr')];exact this.2⟩
def ModeV (u:FrameMode)(V:Value):Prop:=(u = .returning∧V = .nilIface)∨u = .panicking [{v:=V,recovered:=false}]
theorem wp_recover {P:Program}{Q:Exit→Act→List Frame→World→Prop}{a:Act}{cs:List Frame}{w:World}{c₀:Frame}{u:FrameMode}{V:Value}(hu:c₀.mode=u)(hV:ModeV u V){id:Nat}{ops:Array Oper}{o1 o2:Oper}{d1:Nat}{ts:Array TypeId}
  (hops:ops = #[o1,o2]) (h1:o1.op = .call ⟨.builtin .recover,#[],ts⟩) (hd1:o1.dst=some d1) (hg1:o1.guard=none) (h2:o2.op = .assign (.tmp d1)) (hg2:o2.guard=none) (hlt:d1<a.tmps.size)
  (h:∀ u',settle u' = .returning→Q .normal ((a.put (some d1) V).put o2.dst V) ({c₀ with mode:=u'}::cs) w):
  (Code.region id ops false).wpSIn (Fe none) 0 P Q a (c₀::cs) w:=by
 subst hops
 refine wpSIn_region ?_
 have e2:∀ x:Act,x.tmps[d1]? = some V→(execOp x.eval o2).run P w = .ok (.value V) w:=fun x hx=>by
  unfold execOp
  rw[h2]
  simp[Act.eval,Array.getD_eq_getD_getElem?,hx]
 have hx:(a.put (some d1) V).tmps[d1]? = some V:=by rw[put_tmps];simp[hlt]
 have e1:(execOp a.eval o1).run P w = .ok .recover w:=by
  unfold execOp
  rw[h1]
  rfl
 have hl:List.range (#[o1,o2]:Array Oper).size=[0,1]:=rfl
 have g0:(#[o1,o2]:Array Oper)[0]? = some o1:=rfl
 have g1:(#[o1,o2]:Array Oper)[1]? = some o2:=rfl
 have w1:∀ y,Region.wanted o1 y=true:=fun y=>by simp[Region.wanted,hg1]
 have w2:∀ y,Region.wanted o2 y=true:=fun y=>by simp[Region.wanted,hg2]
 rw[hl]
 simp only[wpOpsSIn,g0,g1,w1,w2,if_true]
 refine⟨fun _ _=>trivial,?_⟩
 rw[e1]
 rcases hV with⟨rfl,rfl⟩|rfl
 . have hr:recoverD (c₀::cs)=none:=by simp[recoverD,hu]
   simp only[hr,hd1]
   refine⟨fun _ _=>trivial,?_⟩
   rw[e2 _ hx]
   have:=h .returning rfl
   rw[← hu] at this
   exact this
 . have hr:recoverD (c₀::cs)=some (V,{c₀ with mode:=.panicking [{v:=V,recovered:=true}]}::cs):=by simp[recoverD,hu]
   simp only[hr,hd1]
   refine⟨fun _ _=>trivial,?_⟩
   rw[e2 _ hx]
   exact h _ rfl
section
variable {P:Program}{G:World→Prop}{Γ:Env}
structure RecOk (P:Program)(g:FuncId)(fg:Func)(Tg:Tbl)(restG:Code)(d1:Nat)(d2:Option Nat):Prop where
 iter:IterOk P g fg Tg
 res:fg.results = #[]
 shape:∃ (id:Nat) (o1 o2:Oper) (ts:Array TypeId),bodyOf fg = .seq (.region id #[o1,o2] false) restG∧o1.op = .call ⟨.builtin .recover,#[],ts⟩∧o1.dst=some d1∧o1.guard=none∧o2.op = .assign (.tmp d1)∧o2.guard=none∧o2.dst=d2
theorem den_initF {ρ:Val}{fn:Func}{args:List SV}:(denL ρ args).toArray++Array.replicate (fn.ntmps - (denL ρ args).toArray.size) undef=(denL ρ (initF fn args)).toArray:=by
 apply Array.ext'
 simp only[initF,denL_append,undefs_eq,Array.toList_append,Array.toList_replicate,List.size_toArray]
 simp[denL_eq]
theorem rel_init {B:Bd}{ρ:Val}{fn:Func}{args:List SV}{M:List Blk}{w:World}(hsc:okSt args M=true)(hM:MRel B ρ M w):
  Rel B w ⟨(initF fn args).length,[]⟩ ρ (initF fn args) M {tmps:=(denL ρ args).toArray++Array.replicate (fn.ntmps - (denL ρ args).toArray.size) undef,defers:=[]} w:=by
 simp only[okSt,Bool.and_eq_true] at hsc
 rw[den_initF]
 refine⟨Marks.nil _ _ _,rfl,by simp[denL_eq],fun s x hs hx => ?_,?_,hsc.2,hM,Kept.refl _ _⟩
 . simp[denL_eq,hs]
 . rw[initF,scL_append,hsc.1,undefs_sc];rfl
theorem recover_calls (hm:Okay P)(hΓ:EnvOk P G Γ){g:FuncId}{fg:Func}{Tg:Tbl}{restG:Code}{d1:Nat}{d2:Option Nat}(hI:RecOk P g fg Tg restG d1 d2){u:FrameMode}{V:Value}(hV:ModeV u V)
  {B:Bd} {ρ:Val} {caps:List SV} {M:List Blk} {w:World} {n:Nat} {K:X→List SV→List Blk→Prop} (hG:∀ w',Kept B w w'→G w') (hsc:okSt caps M=true) (hM:MRel B ρ M w) (hd1:d1 < (initF fg caps).length)
  (h:run P Γ n Tg M.length restG (setF (setF (initF fg caps) (some d1) (.val V)) d2 (.val V)) M K) (hK:∀ x F M,K x F M→x = .normal∨x = .ret):
  CallsDIn (Fe none) 0 P g (denL ρ caps).toArray u w fun e u' w'=>e = .returned (.tuple #[])∧settle u' = .returning∧∃ (x:X) (F':List SV) (M':List Blk) (ρ':Val),K x F' M'∧MRel B ρ' M' w'∧scAll M'.length M'=true∧Kept B w w'∧M.length≤M'.length∧∀ n,n<M.length→ρ' n=ρ n:=by
 obtain⟨c,hc⟩:=Option.isSome_iff_exists.1 hI.iter.body
 obtain⟨id,o1,o2,ts,hbg,h1,e1,g1,h2,g2,e2⟩:=hI.shape
 have hbody:bodyOf fg=c:=by unfold bodyOf;rw[hc]
 have hcode:=hI.iter.code
 rw[hbg] at hcode
 simp only[codeOk,Bool.and_eq_true] at hcode
 have hR:=rel_init (fn:=fg) (w:=w) hsc hM
 refine callsDIn_marks hI.iter.func hc hI.res fun c₀ cs hu => ?_
 rw[← hbody,hbg]
 have hlt:d1 < ((denL ρ caps).toArray++Array.replicate (fg.ntmps - (denL ρ caps).toArray.size) undef).size:=by
  rw[den_initF];simp[denL_eq];simpa using hd1
 refine SV_seq (SV_of (wp_recover hu hV rfl h1 e1 g1 h2 g2 hlt fun u' hu' => ?_))
 have hR1:=hR.put (d:=some d1) (sv:=.val V) (v:=V) (Nat.le_refl _) (fun _ _ _ _=>rfl) (fun _=>rfl) rfl hR.mem hR.scM (Kept.refl _ _)
 have hR2:=hR1.put (d:=d2) (sv:=.val V) (v:=V) (Nat.le_refl _) (fun _ _ _ _=>rfl) (fun _=>rfl) rfl hR1.mem hR1.scM (Kept.refl _ _)
 rw[e2]
 show wpSV P restG _ _ _ _
 refine SV_of_V (V_mono (run_sound hm hΓ n Tg M.length restG _ M K ρ _ w B w _ none hG hM.size (fun l e=>by cases e) hcode.2 (Nat.le_refl _) h hR2) ?_)
 rintro e a' w' ⟨x,F',M',ρ',rfl,hR',hz',hρ',hK'⟩
 obtain⟨rs,hd,hnod,hrs⟩:=hR'.marks
 have hR'':Rel B w ⟨(initF fg caps).length,[]⟩ ρ' F' M' {tmps:=a'.tmps,defers:=[]} w':=⟨Marks.nil _ _ _,hR'.len,hR'.size,hR'.slot,hR'.scF,hR'.scM,hR'.mem,hR'.below⟩
 have hout:OutM P a'.defers w' fun w'=>settle u' = .returning∧∃ (x:X) (F':List SV) (M':List Blk) (ρ':Val),K x F' M'∧MRel B ρ' M' w'∧scAll M'.length M'=true∧Kept B w w'∧M.length≤M'.length∧∀ n,n<M.length→ρ' n=ρ n:=by
  rw[hd,List.append_nil]
  exact out_marks hM.size rfl rs w' hnod hrs hR'' fun w'' hw''=>⟨hu',x,F',M',ρ',hK',hw''.mem,hR'.scM,hw''.below,hz',hρ'⟩
 rcases hK x F' M' hK' with rfl|rfl
 . exact⟨.inl rfl,u',rfl,hout⟩
 . exact⟨.inr rfl,u',rfl,hout⟩
def panVal:X→Option Value
 | .normal=>some .nilIface
 | .ret=>some .nilIface
 | .panic v=>some v
 | .exit _=>none
def lastK (P:Program)(fn:Func)(F:List SV)(Φ:SV→List Blk→Prop):X→List SV→List Blk→Prop
 | .exit _,_,_=>False
 | .panic _,_,_=>False
 | .normal,_,M=>match retS P fn F M with
   |some sv=>force3 sv fun sv=>Φ sv M
   |none=>False
 | .ret,_,M=>match retS P fn F M with
   |some sv=>force3 sv fun sv=>Φ sv M
   |none=>False
def endK (P:Program)(Γ:Env)(n:Nat)(fg:Func)(Tg:Tbl)(restG:Code)(d1:Nat)(d2:Option Nat)(fn:Func)(caps:List SV)(Φ:SV→List Blk→Prop):X→List SV→List Blk→Prop:=fun x F' M'=>match panVal x with
 |none=>False
 |some V=>match Nat.blt d1 (initF fg caps).length with
  |true=>spine (setF (setF (initF fg caps) (some d1) (.val V)) d2 (.val V)) fun FG=>run P Γ n Tg M'.length restG FG M' (lastK P fn F' Φ)
  |false=>False
def guardK (P:Program)(Γ:Env)(n m:Nat)(T:Tbl)(rest:Code)(d:Nat)(caps:List Operand)(fg:Func)(Tg:Tbl)(restG:Code)(d1:Nat)(d2:Option Nat)(fn:Func)(Φ:SV→List Blk→Prop):X→List SV→List Blk→Prop:=fun e F M=>match e with
 | .normal=>match njL (evL (evS F) caps)&&Nat.blt d F.length with
   |true=>setFF F (some d) .junk fun F'=>run P Γ n T M.length rest F' M (endK P Γ m fg Tg restG d1 d2 fn (evL (evS F) caps) Φ)
   |false=>False
 |e=>retK P fn Φ e F M
structure DefOk (P:Program)(f:FuncId)(fn:Func)(T:Tbl)(k:Nat)(g:FuncId)(caps:List Operand)(d:Nat)(rest:Code):Prop where
 func:P.funcs[f]? = some fn
 body:fn.body.isSome=true
 chain:chainB k (bodyOf fn)=true
 code1:codeOk T (takeC k (bodyOf fn))=true
 code2:codeOk T rest=true
 shape:∃ (id:Nat) (o1 o2:Oper) (cs:Array Operand) (ts:Array TypeId),dropC k (bodyOf fn) = .seq (.region id #[o1,o2] false) rest∧o1.op = .makeFunc (.func g) #[] cs∧cs.toList=caps∧o1.dst=some d∧o1.guard=none∧o2.op = .defer ⟨.value (.tmp d),#[],ts⟩∧o2.dst=none∧o2.guard=none
theorem cut_wp (hm:Okay P)(hΓ:EnvOk P G Γ){T:Tbl}{B:Bd}{w0:World}{L:LD}{ro:Option Nat}{K:X→List SV→List Blk→Prop}{Q:Exit→Act→World→Prop}(hG:∀ w',Kept B w0 w'→G w')(hBs:B.s≤w0.heap.size)(hro:∀ l,ro=some l→∃ r,w0.heap[l]? = some (Obj.loop r)):
  ∀ (k n:Nat) (c:Code) (F:List SV) (M:List Blk) (ρ:Val) (a:Act) (w:World),chainB k c=true→codeOk T (takeC k c)=true→run P Γ n T 0 (takeC k c) F M K→Rel B w0 L ρ F M a w→
    (∀ F' M' ρ' a' w',Rel B w0 L ρ' F' M' a' w'→K .normal F' M'→wpV ro P (dropC k c) Q a' w')→(∀ (x:X) (F':List SV) (M':List Blk) (ρ':Val) (a':Act) (w':World),x ≠ .normal→Rel B w0 L ρ' F' M' a' w'→K x F' M'→Q x.to a' w')→wpV ro P c Q a w
 |0,n,c,F,M,ρ,a,w,_,_,h,hR,hQ,_=>by
  cases n with
  |zero=>exact h.elim
  |succ n=>exact hQ F M ρ a w hR h
 |k+1,n,c,F,M,ρ,a,w,hc,hT,h,hR,hQ,hE=>by
  cases c with
  |seq x y=>
   cases n with
   |zero=>exact h.elim
   |succ n=>
    have h':run P Γ n T 0 x F M (fun e F' M'=>match e with
       | .normal=>run P Γ n T 0 (takeC k y) F' M' K
       |e=>K e F' M'):=h
    have hT':codeOk T x=true∧codeOk T (takeC k y)=true:=by
       have:codeOk T (.seq x (takeC k y))=true:=hT
       simpa only [codeOk,Bool.and_eq_true] using this
    refine V_seq (V_mono (run_sound hm hΓ n T 0 x F M _ ρ a w B w0 L ro hG hBs hro hT'.1 (Nat.zero_le _) h' hR) ?_)
    rintro e a' w' ⟨x',F',M',ρ',rfl,hR',hz',hρ',hK⟩
    cases x' with
    |normal=>exact cut_wp hm hΓ hG hBs hro k n y F' M' ρ' a' w' hc hT'.2 hK hR' hQ hE
    |exit id=>exact hE (.exit id) F' M' ρ' a' w' (by simp) hR' hK
    |ret=>exact hE .ret F' M' ρ' a' w' (by simp) hR' hK
    |panic v=>exact hE (.panic v) F' M' ρ' a' w' (by simp) hR' hK
  |_=>cases hc
theorem lastK_is {fn:Func}{F:List SV}{Φ:SV→List Blk→Prop}{x:X}{F0:List SV}{M:List Blk}(h:lastK P fn F Φ x F0 M):(x = .normal∨x = .ret)∧∃ sv,retS P fn F M=some sv∧Φ sv M:=by
 cases x with
 |exit id=>exact h.elim
 |panic v=>exact h.elim
 |normal=>
  simp only[lastK] at h
  split at h
  . rename_i sv hs;rw[force3_eq] at h;exact⟨.inl rfl,sv,hs,h⟩
  . exact h.elim
 |ret=>
  simp only[lastK] at h
  split at h
  . rename_i sv hs;rw[force3_eq] at h;exact⟨.inr rfl,sv,hs,h⟩
  . exact h.elim
theorem guard_calls (hm:Okay P)(hΓ:EnvOk P G Γ){f:FuncId}{fn:Func}{T:Tbl}{k:Nat}{g:FuncId}{caps:List Operand}{d:Nat}{rest:Code}(hD:DefOk P f fn T k g caps d rest){fg:Func}{Tg:Tbl}{restG:Code}{d1:Nat}{d2:Option Nat}(hI:RecOk P g fg Tg restG d1 d2)
  {n1 n2 n3:Nat} {args:List SV} {M0:List Blk} {ρ0:Val} {w:World} {Φ:SV→List Blk→Prop} {B:Bd} (hG:∀ w',Kept B w w'→G w') (hsc:okSt args M0=true) (hM:MRel B ρ0 M0 w)
  (h:run P Γ n1 T 0 (takeC k (bodyOf fn)) (initF fn args) M0 (guardK P Γ n2 n3 T rest d caps fg Tg restG d1 d2 fn Φ)):
  Calls P f (denL ρ0 args).toArray w fun e w'=>∃ (ρ':Val) (sv:SV) (M:List Blk),e = .returned (sv.den ρ')∧Φ sv M∧MRel B ρ' M w'∧scAll M.length M=true∧Kept B w w':=by
 obtain⟨c,hc⟩:=Option.isSome_iff_exists.1 hD.body
 obtain⟨id,o1,o2,cs,ts,hdc,h1,hcs,e1,g1,h2,e2,g2⟩:=hD.shape
 have hbody:bodyOf fn=c:=by unfold bodyOf;rw[hc]
 have hR:=rel_init (fn:=fn) (w:=w) hsc hM
 refine(callsIn_wide (n:=0)).1 (show CallsIn (Fe none) 0 P f _ w _ from calls_of_V hD.func hc ?_)
 rw[← hbody]
 refine cut_wp hm hΓ hG hM.size (fun l e=>by cases e) k n1 (bodyOf fn) _ M0 ρ0 _ w hD.chain hD.code1 h hR ?_ ?_
 ·
  intro F1 M1 ρ1 a1 w1 hR1 hK
  rw[hdc]
  simp only[guardK,setFF_eq] at hK
  split at hK
  . rename_i hnj
    simp only[Bool.and_eq_true] at hnj
    obtain⟨hnj,hdl⟩:=hnj
    have hdl:d<F1.length:=Nat.le_of_ble_eq_true hdl
    have hcapv:cs.map a1.eval=(denL ρ1 (evL (evS F1) caps)).toArray:=by
        have:=evL_eval (a:=a1) (ρ:=ρ1) (ev:=evS F1) caps (fun x _ hx=>hR1.ev x hx) hnj
        rw[← this,← hcs];apply Array.ext';simp
    let fv:Value:=.func (.func g) #[] (denL ρ1 (evL (evS F1) caps)).toArray
    let dfr:Deferred:={target:=.fn (.func g) (denL ρ1 (evL (evS F1) caps)).toArray,args := #[]}
    have run1:(execOp a1.eval o1).run P w1 = .ok (.value fv) w1:=by
        unfold execOp
        rw[h1]
        simp[Instr.makeFunc,hcapv,fv]
    have hd2:(a1.put (some d) fv).eval (.tmp d)=fv:=by
        have hx:(a1.put (some d) fv).tmps[d]? = some fv:=by rw[put_tmps,if_pos rfl,if_pos (by rw[hR1.size,← hR1.len];exact hdl)]
        simp[Act.eval,Array.getD_eq_getD_getElem?,hx]
    have run2:(execOp (a1.put (some d) fv).eval o2).run P w1 = .ok (.defer dfr) w1:=by
        unfold execOp
        rw[h2]
        simp only[resolve,hd2,fv,dfr,Deferred.ofValue]
        simp
    refine V_seq (V_of (wpIn_region_list ?_))
    have wd1:∀ y,Region.wanted o1 y=true:=fun y=>by simp[Region.wanted,g1]
    have wd2:∀ y,Region.wanted o2 y=true:=fun y=>by simp[Region.wanted,g2]
    have nd1:isDef o1=false:=by unfold isDef;rw[h1]
    show wpListIn (Fe none) 0 P #[o1,o2] _ [o1,o2] a1 w1
    simp only[wpListIn,wd1,wd2,if_true]
    refine wp_in nd1 (wp_of_run run1 ?_)
    rw[e1]
    refine⟨fun _ _=>trivial,?_⟩
    rw[show(Fe none).round=none from rfl,Oper.semAt_none,run2,Oper.uponIn_defer,e2]
    let a2:Act:={tmps:=(a1.put (some d) fv).tmps,defers:=dfr::a1.defers}
    have hR2:Rel B w1 ⟨(initF fn args).length,dfr::a1.defers⟩ ρ1 (setF F1 (some d) .junk) M1 a2 w1:=by
        have:=hR1.put (d:=some d) (sv:=.junk) (v:=fv) (Nat.le_refl _) (fun _ _ _ _=>rfl) (fun e=>absurd rfl e) rfl hR1.mem hR1.scM (Kept.refl _ _)
        exact⟨Marks.nil _ _ _,this.len,this.size,this.slot,this.scF,this.scM,this.mem,Kept.refl _ _⟩
    have hG1:∀ w',Kept B w1 w'→G w':=fun w' hw'=>hG w' (hR1.below.trans hw')
    show wpV none P rest _ a2 w1
    refine V_mono (run_sound hm hΓ n2 T M1.length rest _ M1 _ ρ1 a2 w1 B w1 _ none hG1 hR1.mem.size (fun l e=>by cases e) hD.code2 (Nat.le_refl _) hK hR2) ?_
    rintro e a3 w3 ⟨x,F3,M3,ρ3,rfl,hR3,hz3,hρ3,hK3⟩
    unfold endK at hK3
    split at hK3
    . exact hK3.elim
    . rename_i V hV
      split at hK3
      . rename_i hlt
        rw[spine_eq] at hK3
        have hlt:d1 < (initF fg (evL (evS F1) caps)).length:=Nat.le_of_ble_eq_true hlt
        obtain⟨rs,hd3,hnod,hrs⟩:=hR3.marks
        have fin:∀ u,ModeV u V→u ≠ .run→LeavesInM (Fe none) 0 P fn a3.tmps (fun e w'=>∃ (ρ':Val) (sv:SV) (M:List Blk),e = .returned (sv.den ρ')∧Φ sv M∧MRel B ρ' M w'∧scAll M.length M=true∧Kept B w w') a3.defers u w3:=by
         intro u hmode hu
         rw[hd3]
         refine leave_marksT (L:=⟨(initF fn args).length,dfr::a1.defers⟩) hR1.mem.size hu rs w3 hnod hrs ⟨Marks.nil _ _ _,hR3.len,hR3.size,hR3.slot,hR3.scF,hR3.scM,hR3.mem,hR3.below⟩ fun w4 hR4 => ?_
         have hcapsc:okSt (evL (evS F1) caps) M3=true:=by
          simp only[okSt,Bool.and_eq_true]
          exact⟨scL_mono (fun n hn=>by simp only[decide_eq_true_eq] at hn ⊢;omega) _ (evL_sc hR1.scF caps),hR4.scM⟩
         have hden:denL ρ3 (evL (evS F1) caps)=denL ρ1 (evL (evS F1) caps):=denL_congr (p:=fun n=>decide (n<M1.length)) (fun n hn=>hρ3 n (by simpa using hn)) _ (evL_sc hR1.scF caps)
         have hcl:=recover_calls hm hΓ hI hmode (fun w' hw'=>hG1 w' (hR4.below.trans hw')) hcapsc hR4.mem hlt hK3 (fun x F M hk=>(lastK_is hk).1)
         rw[hden] at hcl
         refine⟨hu,.inr ⟨fun h0=>by simp at h0,.func g,_,g,_,rfl,?_,fun _ _=>trivial,hcl.mono ?_⟩⟩
         . have e0:invoke dfr.target dfr.args=callFunc g (denL ρ1 (evL (evS F1) caps)).toArray:=by
            show callFunc g (#[]++_)=_
            rw[Array.empty_append]
           rw[e0]
           exact hI.iter.call _ w4
         . rintro e u' w5 ⟨rfl,hset,y,F5,M5,ρ5,hK5,hM5,hsc5,hk5,hlen5,hρ5⟩
           obtain⟨_,sv,hsv,hΦ⟩:=lastK_is hK5
           show LeavesInM (Fe none) 0 P fn a3.tmps _ a1.defers (settle u') w5
           rw[hset]
           have hR4':Rel B w ⟨(initF fn args).length,[]⟩ ρ3 F3 M3 {tmps:=a3.tmps,defers:=a1.defers} w4:=⟨hR1.marks.keep hR4.below.dq,hR4.len,hR4.size,hR4.slot,hR4.scF,hR4.scM,hR4.mem,hR1.below.trans hR4.below⟩
           have hR5:=hR4'.more hlen5 hρ5 hM5 hsc5 hk5
           obtain⟨rs0,hd0,hnod0,hrs0⟩:=hR5.marks
           simp only[List.append_nil] at hd0
           rw[hd0]
           have:=leave_marksT (P:=P) (fn:=fn) (L:=⟨(initF fn args).length,[]⟩) (u:=.returning) (tmps:=a3.tmps) (R:=fun e w'=>∃ (ρ':Val) (sv:SV) (M:List Blk),e = .returned (sv.den ρ')∧Φ sv M∧MRel B ρ' M w'∧scAll M.length M=true∧Kept B w w') hM.size (by simp) rs0 w5 hnod0 hrs0 ⟨Marks.nil _ _ _,hR5.len,hR5.size,hR5.slot,hR5.scF,hR5.scM,hR5.mem,hR5.below⟩ (fun w6 hR6=>⟨_,retS_run hR6 hsv,ρ5,sv,M5,rfl,hΦ,hR6.mem,hsc5,hR6.below⟩)
           simpa using this
        cases x with
        |exit id=>cases hV
        |normal=>obtain rfl:=Option.some.inj hV;exact fin .returning (.inl ⟨rfl,rfl⟩) (by simp)
        |ret=>obtain rfl:=Option.some.inj hV;exact fin .returning (.inl ⟨rfl,rfl⟩) (by simp)
        |panic v=>obtain rfl:=Option.some.inj hV;exact fin (.panicking [{v:=v,recovered:=false}]) (.inr rfl) (by simp)
      . exact hK3.elim
  . exact hK.elim
 ·
  intro x F1 M1 ρ1 a1 w1 hx hR1 hK
  have hK':retK P fn Φ x F1 M1:=by
   cases x with
   |normal=>exact absurd rfl hx
   |exit id=>exact hK
   |ret=>exact hK
   |panic v=>exact hK
  obtain⟨hx',sv,hsv,hΦ⟩:=retK_is hK'
  obtain⟨rs0,hd0,hnod0,hrs0⟩:=hR1.marks
  simp only[List.append_nil] at hd0
  have:=leave_marksT (P:=P) (fn:=fn) (L:=⟨(initF fn args).length,[]⟩) (u:=.returning) (tmps:=a1.tmps) (R:=fun e w'=>∃ (ρ':Val) (sv:SV) (M:List Blk),e = .returned (sv.den ρ')∧Φ sv M∧MRel B ρ' M w'∧scAll M.length M=true∧Kept B w w') hM.size (by simp) rs0 w1 hnod0 hrs0 ⟨Marks.nil _ _ _,hR1.len,hR1.size,hR1.slot,hR1.scF,hR1.scM,hR1.mem,hR1.below⟩ (fun w6 hR6=>⟨_,retS_run hR6 hsv,ρ1,sv,M1,rfl,hΦ,hR6.mem,hR1.scM,hR6.below⟩)
  rcases hx' with rfl|rfl
  . exact absurd rfl hx
  . show LeavesInM (Fe none) 0 P fn a1.tmps _ a1.defers .returning w1
    rw[hd0]
    simpa using this
theorem ctr_guard (hm:Okay P)(hS:Stable G)(hΓ:EnvOk P G Γ){f:FuncId}{fn:Func}{T:Tbl}{k:Nat}{g:FuncId}{caps:List Operand}{d:Nat}{rest:Code}(hD:DefOk P f fn T k g caps d rest){fg:Func}{Tg:Tbl}{restG:Code}{d1:Nat}{d2:Option Nat}(hI:RecOk P g fg Tg restG d1 d2)
  {n1 n2 n3:Nat} (σ:List Nat) (args0:List SV) (M0:List Blk) {args:List SV} {M:List Blk} (sv0:SV) (nb0:List Blk) {sv:SV} {nb:List Blk} (hargs:∀ ρ,denL (renρ σ ρ) args0=denL ρ args) (hsc:okSt args0 M0=true) (hv:View M σ σ M0) (hsv:sv=shS M.length sv0) (hnb:nb=nb0.map (shB M.length)) (ho:nb0.all ownM=true) (hok:okSt [sv0] nb0=true)
  (h:run P Γ n1 T 0 (takeC k (bodyOf fn)) (initF fn args0) M0 (guardK P Γ n2 n3 T rest d caps fg Tg restG d1 d2 fn (Tells sv0 nb0))):
  ∀ (B:Bd) (ρ:Val) (w:World),G w→MRel B ρ M w→Calls P f (denL ρ args).toArray w fun e w'=>
    ∃ (ρ':Val) (v:Value),e = .returned v∧(sv ≠ .junk→v=sv.den ρ')∧Val.Ext w.heap.size (fun n => ¬ (M.length≤n∧n<M.length+nb.length)) ρ ρ'∧Below w.heap.size w w'∧New B w.heap.size ρ' M.length nb w':=by
 intro B ρ w hGw hM
 have hrun:=guard_calls hm hΓ hD hI (B:=⟨w.heap.size,[],ρ.z⟩) (fun w1 h1=>hS w w1 hGw (h1.below rfl)) hsc (View.rel hM hv) h
 rw[hargs] at hrun
 refine hrun.mono ?_
 rintro e w' ⟨ρ1,x,M',rfl,hx,hM',_,hw⟩
 obtain⟨ρ',h1,h2,h3⟩:=tells_new hM hx hM' ho hok
 subst hsv hnb
 exact⟨ρ',_,rfl,fun _=>h1,by simpa using h2,hw.below rfl,h3⟩
theorem topc_end {B:Bd}{ρ:Val}{w w':World}{M M1:List Blk}(hM:MRel B ρ M w){ρ1:Val}{x:SV}{tp:Bool}{as0:List AV}(hT:TellsC tp as0 x M1)(hM1:MRel ⟨w.heap.size,[],ρ.z⟩ ρ1 M1 w')(hbel:Below w.heap.size w w'):
  ∃ ρ':Val,x.den ρ1=(outA tp (namA true M.length as0).1).den ρ'∧Val.Ext w.heap.size (fun n => ¬ (M.length≤n∧n<M.length+(namA true M.length as0).2.length)) ρ ρ'∧New B w.heap.size ρ' M.length (namA true M.length as0).2 w':=by
 obtain⟨xs,b,as1,rfl,hlen,hv1,hb1,he1⟩:=hT
 let z':Nat→Prop:=fun k=>ρ.z k∨(w.heap.size≤k∧isC w' k)
 have fresh:∀ j,(⟨w.heap.size,[],ρ.z⟩:Bd).may j→w.heap.size≤j:=fun j hj=>hj.elim (fun h=>by cases h) fun h=>h
 have zsub:∀ k,ρ1.z k→z' k:=fun k hk=>by
  rcases (hM1.zhi k hk).2 with h|h
  . exact .inl h
  . rcases hM1.zc k hk with h2|h2
    . exact .inl h2
    . exact .inr ⟨fresh k h,h2⟩
 have lies:Lies eltZ z' ρ1 M1:=by
  refine⟨fun b r h => ?_,fun n b l hn hl ⟨sz,m,g,hk,hp⟩ => ?_⟩
  . cases b with
    |none=>cases h
    |some b=>cases b<;>first|exact h|cases h
  . cases b with
    |fz sz' m' g'=>
     simp only[eltZ,Option.some.injEq,Prod.mk.injEq] at hk
     obtain⟨rfl,rfl,rfl⟩:=hk
     obtain⟨q,hr,ho⟩:=hM1.ok n _ hn
     exact zsub _ ((ho.2 l hl).2.1 hp)
    |own ty sz' m' g'=>
     have hm:=(Blk.ok_lt (hM1.ok n _ hn) rfl hl).1
     obtain⟨q,hr,ho⟩:=hM1.ok n _ hn
     rcases ho.2 with⟨h0,_⟩ | ⟨l',cur,hl',_,_,hh,_⟩
     . rw[hl] at h0;cases h0
     . rw[hl] at hl';obtain rfl:=Option.some.inj hl'
       exact .inr ⟨fresh _ hm,cur,_,_,hh⟩
    |_=>cases hk
 have h1:=(topA_ok hM1 lies hv1 hb1).eqv he1
 have h2:TopAL z' z' w' as0 (denL ρ1 xs):=TopAL.mono zsub h1
 obtain⟨ρ',f1,f2,f3,f4,f5⟩:=namA_ok (B:=B) (z:=true) (zz:=z') (fun k hk=>hk) as0 _ ⟨ρ.loc,z'⟩ M.length rfl h2
 have fo:∀ (k:Nat) (b:Blk),(namA true M.length as0).2[k]? = some b→b.isOwn=false:=fun k b hb=>(f4 k b hb).2
 refine⟨ρ',outA_den f3.symm hlen,⟨fun k hk=>f2 k hk,fun k hk=>by rw[f1];exact .inl hk,fun k hk=>by rw[f1] at hk;exact hk.imp_right (·.1)⟩,⟨fun k b hb=>(f4 k b hb).1,fun k b l hb ho=>(by rw[fo k b hb] at ho;cases ho),fun i j b c l k _ h1 _ o1=>(by rw[fo i b h1] at o1;cases o1),fun k b l hb ho=>(by rw[fo k b hb] at ho;cases ho),fun k hk => ?_,fun k hk hl => ?_⟩⟩
 . rw[f1] at hk
   rcases hk with hk | ⟨_,cur,ty,fz,hh⟩
   . exact Nat.lt_of_lt_of_le (hM.zhi k hk).1 hbel.size
   . exact(Array.getElem?_eq_some_iff.1 hh).1
 . rw[f1] at hk
   rcases hk with hk | ⟨_,hc⟩
   . have:=(hM.zhi k hk).1;omega
   . exact hc
theorem ctr_viewc (hG:Stable G)(hΓ:EnvOk P G Γ){f:FuncId}{fn:Func}(hf:P.funcs[f]? = some fn)(hb:fn.body.isSome=true)(hm:Okay P)(T:Tbl)(hT:codeOk T (bodyOf fn)=true)(l:List (Nat×Nat×List Nat))(σ:List Nat)(args0:List SV)(M0:List Blk)
  {args:List SV} {M:List Blk} (hargs:∀ ρ,denL (renρ σ ρ) args0=denL ρ args) (hsc:okSt args0 M0=true) (hv:View M σ σ M0) (tp:Bool) (as0:List AV)
  (h:runs P Γ l T 0 (bodyOf fn) (initF fn args0) M0 (retK P fn (TellsC tp as0))):
  ∀ (B:Bd) (ρ:Val) (w:World),G w→MRel B ρ M w→Calls P f (denL ρ args).toArray w fun e w'=>
    ∃ (ρ':Val) (v:Value),e = .returned v∧(outA tp (namA true M.length as0).1 ≠ .junk→v=(outA tp (namA true M.length as0).1).den ρ')∧Val.Ext w.heap.size (fun n => ¬ (M.length≤n∧n<M.length+(namA true M.length as0).2.length)) ρ ρ'∧Below w.heap.size w w'∧New B w.heap.size ρ' M.length (namA true M.length as0).2 w':=by
 intro B ρ w hGw hM
 have hrun:=calls_runs (Φ:=TellsC tp as0) (z:=ρ.z) hG hΓ hf hb hm T hT l (M0:=M0) (ρ0:=renρ σ ρ) (args:=args0) hGw hsc (View.rel hM hv) h
 rw[hargs] at hrun
 refine hrun.mono ?_
 rintro e w' ⟨ρ1,x,M1,rfl,hx,hM1,hbel⟩
 obtain⟨ρ',h1,h2,h3⟩:=topc_end hM hx hM1 hbel
 exact⟨ρ',_,rfl,fun _=>h1,h2,hbel,h3⟩
noncomputable def holds (p:Prop):Bool:=by
 classical
 exact decide p
theorem holds_t {p:Prop}(h:p):holds p=true:=by
 classical
 unfold holds;exact decide_eq_true h
theorem holds_is {p:Prop}(h:holds p=true):p:=by
 classical
 unfold holds at h;exact of_decide_eq_true h
theorem yctr_top (hS:Stable G)(hΓ:EnvOk P G Γ){f:FuncId}{fn:Func}(hf:P.funcs[f]? = some fn)(hb:fn.body.isSome=true)(hm:Okay P)(T:Tbl)(hT:codeOk T (bodyOf fn)=true)(n:Nat)
  {args:List SV} {M:List Blk} {c:Bool} {av:List AV} (av':List AV) {args0:List SV} {M0:List Blk} (hv:topA eltB M args=some (c,av)) (hc:c=true) (he:AVEqL av av') (h0:namA false 0 av'=(args0,M0)) (S:SV→Prop)
  (h:run P Γ n T 0 (bodyOf fn) (initF fn args0) M0 (retK P fn fun x _=>S x)) {K:Option Value→SV→List Blk→Prop} (hK:∀ x,S x→∃ y,(∀ ρ ρ':Val,x.den ρ=y.den ρ')∧K none y M) (hwf:M.all (Blk.sc fun n=>decide (n<M.length))=true):
  ∀ (B:Bd) (ρ:Val) (w:World),(∀ w',Kept B w w'→G w')→MRel B ρ M w→
    Calls P f (denL ρ args).toArray w fun e w'=>∃ (p:Option Value) (sv:SV) (M':List Blk) (ρ':Val),e=endS p sv ρ'∧K p sv M'∧MRel B ρ' M' w'∧M'.all (Blk.sc fun n=>decide (n<M'.length))=true∧M.length≤M'.length∧(∀ k,k<M.length→ρ' k=ρ k)∧Kept B w w':=by
 intro B ρ w hG hM
 obtain⟨ρ0,e1,e2,e3,e4⟩:=enter_top hM hv hc he h0
 have hrun:=calls_run hS hΓ hf hb hm T hT n (hG w (Kept.refl _ _)) e4 e3 h
 rw[e2] at hrun
 refine hrun.mono ?_
 rintro e w' ⟨ρ',x,M',rfl,hx,hM',hbel⟩
 have hM2:=hM.grown hwf (Val.Ext.refl ..) hbel (new_none hM hbel)
 rw[List.append_nil] at hM2
 obtain⟨y,hy,hKy⟩:=hK x hx
 refine⟨none,y,M,ρ,?_,hKy,hM2,hwf,Nat.le_refl _,fun _ _=>rfl,Kept.of_below hM.size hbel⟩
 show Ending.returned _=Ending.returned _
 rw[hy ρ' ρ]
theorem yctr_guard (hm:Okay P)(hS:Stable G)(hΓ:EnvOk P G Γ){f:FuncId}{fn:Func}{T:Tbl}{k:Nat}{g:FuncId}{caps:List Operand}{d:Nat}{rest:Code}(hD:DefOk P f fn T k g caps d rest){fg:Func}{Tg:Tbl}{restG:Code}{d1:Nat}{d2:Option Nat}(hI:RecOk P g fg Tg restG d1 d2)
  {n1 n2 n3:Nat} {args:List SV} {M:List Blk} {c:Bool} {av:List AV} (av':List AV) {args0:List SV} {M0:List Blk} (hv:topA eltB M args=some (c,av)) (hc:c=true) (he:AVEqL av av') (h0:namA false 0 av'=(args0,M0)) {K:Option Value→SV→List Blk→Prop}
  (h:run P Γ n1 T 0 (takeC k (bodyOf fn)) (initF fn args0) M0 (guardK P Γ n2 n3 T rest d caps fg Tg restG d1 d2 fn fun x M1=>∃ (sv0:SV) (nb0:List Blk),Tells sv0 nb0 x M1∧nb0.all ownM=true∧okSt [sv0] nb0=true∧chk M (shS M.length sv0) (nb0.map (shB M.length))=true∧K none (shS M.length sv0) (M++nb0.map (shB M.length)))) (hwf:M.all (Blk.sc fun n=>decide (n<M.length))=true):
  ∀ (B:Bd) (ρ:Val) (w:World),(∀ w',Kept B w w'→G w')→MRel B ρ M w→
    Calls P f (denL ρ args).toArray w fun e w'=>∃ (p:Option Value) (sv:SV) (M':List Blk) (ρ':Val),e=endS p sv ρ'∧K p sv M'∧MRel B ρ' M' w'∧M'.all (Blk.sc fun n=>decide (n<M'.length))=true∧M.length≤M'.length∧(∀ k,k<M.length→ρ' k=ρ k)∧Kept B w w':=by
 intro B ρ w hG hM
 obtain⟨ρ0,e1,e2,e3,e4⟩:=enter_top hM hv hc he h0
 have hrun:=guard_calls hm hΓ hD hI (B:=⟨w.heap.size,[],ρ.z⟩) (fun w1 h1=>hS w w1 (hG w (Kept.refl _ _)) (h1.below rfl)) e4 e3 h
 rw[e2] at hrun
 refine hrun.mono ?_
 rintro e w' ⟨ρ1,x,M',rfl,⟨sv0,nb0,hT,ho,hok,hchk,hK⟩,hM',_,hk⟩
 obtain⟨ρ',h1,h2,h3⟩:=tells_new hM hT hM' ho hok
 have hext:Val.Ext w.heap.size (fun n=>n<M.length) ρ ρ':=h2.mono (fun n hn=>by omega) (Nat.le_refl _)
 have hbel:=hk.below rfl
 refine⟨none,_,_,ρ',?_,hK,hM.grown hwf hext hbel h3,(chk_spec hchk hwf).2,by simp,hext.eq,Kept.of_below hM.size hbel⟩
 show Ending.returned _=Ending.returned _
 rw[h1]
theorem outA_sc {tp:Bool}{xs:List SV}{p:Nat→Bool}(h:scL p xs=true):(outA tp xs).sc p=true:=by
 cases tp with
 |true=>exact h
 |false=>match xs,h with
  |[],_=>rfl
  |[x],h=>
   simp only[scL,Bool.and_true] at h
   exact h
  |_::_::_,_=>rfl
theorem chk_namA {M:List Blk}{tp:Bool}{as0:List AV}:chk M (outA tp (namA true M.length as0).1) (namA true M.length as0).2=true:=by
 unfold chk
 rw[Bool.and_eq_true]
 refine⟨outA_sc (namA_sc as0 M.length),?_⟩
 simp only[scAll,List.all_eq_true]
 exact fun b hb=>namA_bsc as0 M.length b hb
theorem yctr_guardc (hm:Okay P)(hS:Stable G)(hΓ:EnvOk P G Γ){f:FuncId}{fn:Func}{T:Tbl}{k:Nat}{g:FuncId}{caps:List Operand}{d:Nat}{rest:Code}(hD:DefOk P f fn T k g caps d rest){fg:Func}{Tg:Tbl}{restG:Code}{d1:Nat}{d2:Option Nat}(hI:RecOk P g fg Tg restG d1 d2)
  {n1 n2 n3:Nat} {args:List SV} {M:List Blk} {c:Bool} {av:List AV} (av':List AV) {args0:List SV} {M0:List Blk} (hv:topA eltB M args=some (c,av)) (hc:c=true) (he:AVEqL av av') (h0:namA false 0 av'=(args0,M0)) {K:Option Value→SV→List Blk→Prop}
  (h:run P Γ n1 T 0 (takeC k (bodyOf fn)) (initF fn args0) M0 (guardK P Γ n2 n3 T rest d caps fg Tg restG d1 d2 fn fun x M1=>∃ (tp:Bool) (as0:List AV),TellsC tp as0 x M1∧K none (outA tp (namA true M.length as0).1) (M++(namA true M.length as0).2))) (hwf:M.all (Blk.sc fun n=>decide (n<M.length))=true):
  ∀ (B:Bd) (ρ:Val) (w:World),(∀ w',Kept B w w'→G w')→MRel B ρ M w→
    Calls P f (denL ρ args).toArray w fun e w'=>∃ (p:Option Value) (sv:SV) (M':List Blk) (ρ':Val),e=endS p sv ρ'∧K p sv M'∧MRel B ρ' M' w'∧M'.all (Blk.sc fun n=>decide (n<M'.length))=true∧M.length≤M'.length∧(∀ k,k<M.length→ρ' k=ρ k)∧Kept B w w':=by
 intro B ρ w hG hM
 obtain⟨ρ0,e1,e2,e3,e4⟩:=enter_top hM hv hc he h0
 have hrun:=guard_calls hm hΓ hD hI (B:=⟨w.heap.size,[],ρ.z⟩) (fun w1 h1=>hS w w1 (hG w (Kept.refl _ _)) (h1.below rfl)) e4 e3 h
 rw[e2] at hrun
 refine hrun.mono ?_
 rintro e w' ⟨ρ1,x,M',rfl,⟨tp,as0,hT,hK⟩,hM',_,hk⟩
 have hbel:=hk.below rfl
 obtain⟨ρ',h1,h2,h3⟩:=topc_end hM hT hM' hbel
 have hext:Val.Ext w.heap.size (fun n=>n<M.length) ρ ρ':=h2.mono (fun n hn=>by omega) (Nat.le_refl _)
 refine⟨none,_,_,ρ',?_,hK,hM.grown hwf hext hbel h3,(chk_spec (chk_namA (tp:=tp)) hwf).2,by simp,hext.eq,Kept.of_below hM.size hbel⟩
 show Ending.returned _=Ending.returned _
 rw[h1]
end
end Go.Sx
