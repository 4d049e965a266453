import Derived.Test.YtfjemlegodhfnaaGreatM11
import Derived.RangeFuncLeaves
set_option linter.all false
namespace Go.Sx
open Go.RowKit Go.Proofs.YtfjemlegodhfnaaGreat
def wpV (ro:Option Nat)(P:Program)(c:Code)(Q:Exit→Act→World→Prop)(a:Act)(w:World):Prop:=
 ∀ (b:Frame) (k:List Item) (cs:List Frame),b.roundOf=ro→(P.funcs[b.fn]?).isSome=true→
   ∃ e a' w',Q e a' w'∧ArrivesIn (Machine.fenced P (Fe ro)) P (lone (b.atR a (.code c::k)) cs w) b k cs e a' w'
section
variable {P:Program}{ro:Option Nat}{Q Q':Exit→Act→World→Prop}{a:Act}{w:World}
theorem fe_room (n:Nat):(Fe ro).room n:=fun _ h=>by cases h
theorem calm1 {fr fr':Frame}{cs cs':List Frame}{w':World}(ha:fr.about P w=none)(hs:step P (lone fr cs w) = .next (lone fr' cs' w')):
 StepsIn (Machine.fenced P (Fe ro)) P (lone fr cs w) (lone fr' cs' w'):=.one (fenced_calm (n:=0) trivial (fe_room _) ha) hs
theorem V_of {c:Code}(h:c.wpIn (Fe ro) 0 P Q a w):wpV ro P c Q a w:=fun b k cs hro _=>h b k cs hro trivial (fe_room _)
theorem V_mono {c:Code}(h:wpV ro P c Q a w)(hq:∀ e a w,Q e a w→Q' e a w):wpV ro P c Q' a w:=fun b k cs hro hb=>
 let ⟨e,a',w',q,r⟩:=h b k cs hro hb
 ⟨e,a',w',hq _ _ _ q,r⟩
theorem V_seq {x y:Code}(h:wpV ro P x (Exit.then (wpV ro P y Q) Q) a w):wpV ro P (.seq x y) Q a w:=by
 intro b k cs hro hb
 have s0:=calm1 (ro:=ro) (P:=P) (w:=w) (fr:=b.atR a (.code (.seq x y)::k)) (cs:=cs) rfl stepR_seq
 obtain⟨e,a1,w1,hq,harr⟩:=h b (.code y::k) cs hro hb
 by_cases he:e = .normal
 . subst he
   obtain⟨e2,a2,w2,hq2,harr2⟩:=hq b k cs hro hb
   exact⟨e2,a2,w2,hq2,.of_steps (s0.trans harr) harr2⟩
 . refine⟨e,a1,w1,?_,.of_steps s0 (.pass (x:=.code y) rfl (fun _ _=>.inl he) harr)⟩
   cases e<;>first|exact absurd rfl he|exact hq
theorem V_cond {c:Operand}{x y:Code}{t:Bool}(hc:a.eval c = .bool t)(ht:t=true→wpV ro P x Q a w)(hf:t=false→wpV ro P y Q a w):wpV ro P (.cond c x y) Q a w:=by
 intro b k cs hro hb
 have s0:=calm1 (ro:=ro) (P:=P) (w:=w) (fr:=b.atR a (.code (.cond c x y)::k)) (cs:=cs) rfl (stepR_cond hc)
 have hh:wpV ro P (if t then x else y) Q a w:=by
  cases t
  . exact hf rfl
  . exact ht rfl
 obtain⟨e,a1,w1,hq,harr⟩:=hh b k cs hro hb
 exact⟨e,a1,w1,hq,.of_steps s0 harr⟩
theorem V_block {id:Nat}{c:Code}(h:wpV ro P c (Exit.inBlock id Q) a w):wpV ro P (.block id c) Q a w:=by
 intro b k cs hro hb
 have s0:=calm1 (ro:=ro) (P:=P) (w:=w) (fr:=b.atR a (.code (.block id c)::k)) (cs:=cs) rfl stepR_block
 obtain⟨e,a1,w1,hq,harr⟩:=h b (.inBlock id::k) cs hro hb
 cases e with
 |normal=>exact⟨.normal,a1,w1,hq,(s0.trans harr).trans (calm1 rfl stepR_inBlock)⟩
 |exit id'=>
  by_cases hid:id'=id
  . subst hid
    simp only[Exit.inBlock,if_true] at hq
    exact⟨.normal,a1,w1,hq,s0.trans (harr.1 k (by simp[exitTo]))⟩
  . simp only[Exit.inBlock,if_neg hid] at hq
    have hx:exitTo id' (.inBlock id::k)=exitTo id' k:=by
        have:(id==id')=false:=by simpa using fun e=>hid e.symm
        simp[exitTo,this]
    refine⟨.exit id',a1,w1,hq,fun k' hk=>s0.trans (harr.1 k' (hx.trans hk)),fun hr hk => ?_⟩
    obtain⟨k1,h1,h2⟩:=harr.2 hr (hx.trans hk)
    exact⟨k1,h1,s0.trans h2⟩
 |goto l=>
  have hx:gotoIn l (.inBlock id::k)=gotoIn l k:=by simp[gotoIn]
  refine⟨.goto l,a1,w1,hq,fun k' hk=>s0.trans (harr.1 k' (hx.trans hk)),fun hr hk => ?_⟩
  obtain⟨k1,h1,h2⟩:=harr.2 hr (hx.trans hk)
  exact⟨k1,h1,s0.trans h2⟩
 |ret=>exact⟨_,a1,w1,hq,.of_steps s0 harr⟩
 |panic ch=>exact⟨_,a1,w1,hq,.of_steps s0 harr⟩
 |outgrown=>exact⟨_,a1,w1,hq,.of_steps s0 harr⟩
theorem V_loop_at {c:Code}(I:Nat→Act→World→Prop)(round:∀ k a w,I k a w→wpV ro P c (Exit.then (fun a' w'=>∃ k',k'<k∧I k' a' w') Q) a w):
  ∀ {k:Nat} {a:Act} {w:World},I k a w→wpV ro P (.loop c) Q a w:=by
 have key:∀ (n:Nat) (a:Act) (w:World),I n a w→∀ (b:Frame) (k:List Item) (cs:List Frame),b.roundOf=ro→(P.funcs[b.fn]?).isSome=true→∃ e a' w',Q e a' w'∧ArrivesIn (Machine.fenced P (Fe ro)) P (lone (b.atR a (.code c :: .inLoop c::k)) cs w) b k cs e a' w':=by
  intro n
  induction n using Nat.strongRecOn with
  |_ n ih=>
   intro a w hI b k cs hro hb
   obtain⟨e,a₁,w₁,hq,harr⟩:=round n a w hI b (.inLoop c::k) cs hro hb
   by_cases he:e = .normal
   . subst he
     obtain⟨m,hlt,hI₁⟩:=hq
     obtain⟨e₂,a₂,w₂,hq₂,harr₂⟩:=ih m hlt a₁ w₁ hI₁ b k cs hro hb
     exact⟨e₂,a₂,w₂,hq₂,.of_steps (StepsIn.trans harr (calm1 rfl stepR_inLoop)) harr₂⟩
   . refine⟨e,a₁,w₁,?_,.pass (x:=.inLoop c) rfl (fun _ _=>.inl he) harr⟩
     cases e<;>first|exact absurd rfl he|exact hq
 intro k a w hI b k' cs hro hb
 obtain⟨e,a',w',hq,harr⟩:=key k a w hI b k' cs hro hb
 exact⟨e,a',w',hq,.of_steps (calm1 rfl stepR_loop) harr⟩
theorem V_rangeFunc {g:Operand}{ps:Array Tmp}{assign body:Code}
  (h:∀ fn,(P.funcs[fn]?).isSome=true→∃ (l:Nat) (mark:List Deferred) (w1:World) (d:Deferred) (w1':World) (f:FuncId) (args:Array Value) (w2:World),
    (Instr.enterLoop fn a.tmps ps assign body ro).run P w = .ok (l,mark) w1∧
    (resolve a.eval (rangeCall g l) 0).run P w1 = .ok d w1'∧
    (invoke d.target d.args).run P w1' = .ok (.enter f args) w2∧
    CallsIn (Fe ro) 0 P f args w2 (rangePost (Fe ro) 0 P l Q {a with defers:=mark++a.defers})):
  wpV ro P (.rangeFunc g ps assign body) Q a w:=by
 intro b k cs hro hb
 obtain⟨l,mark,w1,d,w1',f,args,w2,he,hres,hinv,_,hcall⟩:=h b.fn hb
 rw[← hro] at he
 have s0:StepsIn (Machine.fenced P (Fe ro)) P (lone (b.atR a (.code (.rangeFunc g ps assign body)::k)) cs w) (lone (Frame.enter P f args .normal) (b.atR {a with defers:=mark++a.defers} (.inRangeFunc l::k)::cs) w2):=
  .one (fenced_lone (.inl trivial) (fun _ _=>trivial) (fe_room _)) (stepR_rangeFunc he hres hinv)
 obtain⟨e,w3,fr,hR,hsteps,hfn,hleave⟩:=hcall (b.atR {a with defers:=mark++a.defers} (.inRangeFunc l::k)::cs) (fe_room _)
 cases e with
 |outgrown=>
  obtain⟨a0,w0,hq⟩:=hR
  exact⟨.outgrown,a0,w0,hq,.inr (Outgrown.of_steps (.one (stepR_rangeFunc he hres hinv)) hsteps)⟩
 |returned v=>
  have hl:(lone fr (b.atR {a with defers:=mark++a.defers} (.inRangeFunc l::k)::cs) w3).fenced P (Fe ro):=fenced_leaving (n:=0) trivial (fe_room _) hleave
  obtain⟨jump,w4,hend,hj⟩:=hR
  have hs1:step P (lone fr (b.atR {a with defers:=mark++a.defers} (.inRangeFunc l::k)::cs) w3) = .next (lone (b.atR {a with defers:=mark++a.defers} (.endRangeFunc l::k)) cs w3):=by
   rw[← finish_atR_inRangeFunc l v];exact step_leave_returned hleave
  have s3:=(s0.trans hsteps).trans ((StepsIn.one hl hs1).trans (calm1 (fr:=b.atR {a with defers:=mark++a.defers} (.endRangeFunc l::k)) rfl (stepR_endRangeFunc hend)))
  cases jump with
  |none=>exact⟨.normal,_,w4,hj,s3⟩
  |some c=>
   obtain⟨e',a'',w5,hq,harr⟩:=hj b k cs hro trivial (fe_room _)
   exact⟨e',a'',w5,hq,.of_steps s3 harr⟩
 |panicked chain=>
  have hl:(lone fr (b.atR {a with defers:=mark++a.defers} (.inRangeFunc l::k)::cs) w3).fenced P (Fe ro):=fenced_leaving (n:=0) trivial (fe_room _) hleave
  refine⟨.panic chain,_,w3,hR,.inRangeFunc l::k,(s0.trans hsteps).trans (.one hl ?_)⟩
  rw[← Frame.raise_atR];exact step_leave_panicked hleave
theorem calls_of_V {f:FuncId}{fn:Func}{c:Code}{args:Array Value}{R:Ending→World→Prop}(hf:P.funcs[f]? = some fn)(hb:fn.body=some c)
  (h:wpV none P c (bodyPostM (Fe none) 0 P fn R) {tmps:=args++Array.replicate (fn.ntmps-args.size) undef,defers:=[]} w):CallsIn (Fe none) 0 P f args w R:=by
 refine⟨trivial,fun cs hr => ?_⟩
 let b:Frame:={(default:Frame) with fn:=f,kind:=.normal,roundOf:=none}
 have hent:Frame.enter P f args .normal=b.atR {tmps:=args++Array.replicate (fn.ntmps-args.size) undef,defers:=[]} [.code c]:=by simp[Frame.enter,Frame.atR,hf,hb,b]
 obtain⟨e,a',w',hq,harr⟩:=h b [] cs rfl (by show(P.funcs[f]?).isSome=true;rw[hf];rfl)
 rw[← hent] at harr
 have go:∀ (u:FrameMode) (todo:List Item),StepsIn (Machine.fenced P (Fe none)) P (lone (Frame.enter P f args .normal) cs w) (lone {b.atR a' todo with mode:=u} cs w')→LeavesInM (Fe none) 0 P fn a'.tmps R a'.defers u w'→
   ∃ e w'' fr',R e w''∧ComesIn (Machine.fenced P (Fe none)) P (lone (Frame.enter P f args .normal) cs w) (lone fr' cs w'') e∧fr'.fn=f∧fr'.leaving P w'' e:=by
  intro u todo hs hl
  obtain⟨e',w'',fr',hR,hs',hfn,hl'⟩:=leaves_stepsInM a'.defers u w' {b.atR a' todo with mode:=u} cs rfl rfl rfl hf rfl trivial hr hl
  exact⟨e',w'',fr',hR,ComesIn.of_steps hs hs',hfn,hl'⟩
 cases e with
 |normal=>exact go .returning [] (harr.trans (calm1 (fr:=b.atR a' []) rfl (stepR_end rfl))) hq
 |ret=>
  obtain⟨todo,hs⟩:=harr.1 rfl
  exact go .returning todo hs hq
 |panic chain=>
  obtain⟨todo,hs⟩:=harr
  exact go (.panicking chain) todo hs hq
 |exit id=>exact hq.elim
 |goto l=>exact hq.elim
 |outgrown=>exact⟨.outgrown,w',b,hq,harr.resolve_left (by simp[b]),rfl,trivial⟩
def roundPostP (P:Program)(l:Nat)(fn:Func)(R:Ending→World→Prop):Exit→Act→World→Prop
 | .panic chain,a,w=>LeavesInM (Fe none) 0 P fn a.tmps (fun e w'=>∃ c,e = .panicked c∧R (.panicked c) w') a.defers (.panicking chain) w
 |e,a,w=>roundPost P l R e a w
theorem round_of_V {l:Nat}{f:FuncId}{fn:Func}{tmps:Array Value}{assign body:Code}{R:Ending→World→Prop}(hf:P.funcs[f]? = some fn)
  (h:wpV (some l) P assign (Exit.then (fun a1 w1=>∃ w2,(Instr.beginRound l).run P w1 = .ok () w2∧wpV (some l) P body (roundPostP P l fn R) a1 w2) (fun _ _ _=>False)) {tmps:=tmps,defers:=[]} w):
  RoundIn (Fe ro) 0 P l f tmps assign body w R:=by
 refine⟨trivial,fun c cs hr => ?_⟩
 let b:Frame:={(default:Frame) with fn:=f,kind:=.normal,roundOf:=some l}
 have hb0:Frame.round l f tmps assign body .normal=b.atR {tmps:=tmps,defers:=[]} [.code assign,.beginRound,.code body]:=by simp[Frame.round,Frame.atR,b]
 have hbf:(P.funcs[b.fn]?).isSome=true:=by show(P.funcs[f]?).isSome=true;rw[hf];rfl
 obtain⟨e,a1,w1,hq,harr⟩:=h b [.beginRound,.code body] (c::cs) rfl hbf
 rw[← hb0] at harr
 cases e with
 |normal=>
  obtain⟨w2,hbr,hbody⟩:=hq
  have s1:StepsIn (Machine.fenced P (Fe ro)) P (lone (Frame.round l f tmps assign body .normal) (c::cs) w) (lone (b.atR a1 [.code body]) (c::cs) w2):=
   StepsIn.trans harr (calm1 (fr:=b.atR a1 [.beginRound,.code body]) rfl (stepR_beginRound rfl hbr))
  obtain⟨e2,a2,w3,hq2,harr2⟩:=hbody b [] (c::cs) rfl hbf
  cases e2 with
  |normal=>
   obtain⟨v,w4,hend,hR⟩:=hq2
   exact⟨.returned v,w4,hR,s1.trans (StepsIn.trans harr2 (calm1 (fr:=b.atR a2 []) rfl (stepR_round_end rfl rfl hend)))⟩
  |ret=>
   obtain⟨v,w4,hend,hR⟩:=hq2
   obtain⟨k1,hs⟩:=harr2.2 rfl
   exact⟨.returned v,w4,hR,s1.trans (StepsIn.trans hs (calm1 (fr:=b.atR a2 (.code .ret::k1)) rfl (stepR_round_ret rfl rfl hend)))⟩
  |exit id=>
   obtain⟨v,w4,hend,hR⟩:=hq2
   obtain⟨k1,hk,hs⟩:=harr2.2 rfl rfl
   exact⟨.returned v,w4,hR,s1.trans (StepsIn.trans hs (calm1 (fr:=b.atR a2 (.code (.exit id)::k1)) rfl (stepR_round_exit rfl rfl hk hend)))⟩
  |goto t=>
   obtain⟨v,w4,hend,hR⟩:=hq2
   obtain⟨k1,hk,hs⟩:=harr2.2 rfl rfl
   exact⟨.returned v,w4,hR,s1.trans (StepsIn.trans hs (calm1 (fr:=b.atR a2 (.code (.goto t)::k1)) rfl (stepR_round_goto rfl rfl hk hend)))⟩
  |outgrown=>exact hq2.elim
  |panic chain=>
   obtain⟨todo,hs⟩:=harr2
   obtain⟨e',w4,fr',⟨c',rfl,hR⟩,hs',hfn,hl⟩:=leaves_stepsInM (F:=Fe none) (n:=0) a2.defers (.panicking chain) w3 {b.atR a2 todo with mode:=.panicking chain} (c::cs) rfl rfl rfl hf rfl trivial (fun _ h=>by cases h) hq2
   have hs2:StepsIn (Machine.fenced P (Fe ro)) P (lone {b.atR a2 todo with mode:=.panicking chain} (c::cs) w3) (lone fr' (c::cs) w4):=hs'
   exact⟨.panicked c',w4,hR,s1.trans (StepsIn.trans hs (hs2.trans (.one (fenced_leaving (n:=0) trivial (fe_room _) hl) (step_leave_panicked hl))))⟩
 |exit id=>exact hq.elim
 |goto t=>exact hq.elim
 |ret=>exact hq.elim
 |panic chain=>exact hq.elim
 |outgrown=>exact hq.elim
end
end Go.Sx
