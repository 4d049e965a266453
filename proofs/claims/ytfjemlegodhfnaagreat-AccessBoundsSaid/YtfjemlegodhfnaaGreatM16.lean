import Derived.Test.YtfjemlegodhfnaaGreatM15
set_option linter.all false
namespace Go.Sx
open Go.RowKit Go.Proofs.YtfjemlegodhfnaaGreat
def retK (P:Program)(fn:Func)(Φ:SV→List Blk→Prop):X→List SV→List Blk→Prop
 | .exit _,_,_=>False
 | .panic _,_,_=>False
 | .normal,F,M=>match retS P fn F M with
   |some x=>force3 x fun x=>Φ x M
   |none=>False
 | .ret,F,M=>match retS P fn F M with
   |some x=>force3 x fun x=>Φ x M
   |none=>False
def Stable (G:World→Prop):Prop:=∀ w w',G w→Below w.heap.size w w'→G w'
theorem retK_is {P:Program}{fn:Func}{Φ:SV→List Blk→Prop}{x:X}{F:List SV}{M:List Blk}(h:retK P fn Φ x F M):(x = .normal∨x = .ret)∧∃ sv,retS P fn F M=some sv∧Φ sv M:=by
 cases x with
 |exit id=>exact h.elim
 |panic v=>exact h.elim
 |normal=>
  simp only[retK] at h
  split at h
  . rename_i sv hs;rw[force3_eq] at h;exact⟨.inl rfl,sv,hs,h⟩
  . exact h.elim
 |ret=>
  simp only[retK] at h
  split at h
  . rename_i sv hs;rw[force3_eq] at h;exact⟨.inr rfl,sv,hs,h⟩
  . exact h.elim
theorem calls_run_z {P:Program}{G:World→Prop}{Γ:Env}(hΓ:EnvOk P G Γ){f:FuncId}{fn:Func}(hf:P.funcs[f]? = some fn)(hb:fn.body.isSome=true)(hm:Okay P)(T:Tbl)(hT:codeOk T (bodyOf fn)=true)(n z:Nat){args:List SV}{M0:List Blk}{ρ0:Val}{w:World}{Φ:SV→List Blk→Prop}{B:Bd}(hG:∀ w',Kept B w w'→G w')
  (hsc:okSt args M0=true) (hM:MRel B ρ0 M0 w) (hz:z≤M0.length) (h:run P Γ n T z (bodyOf fn) (initF fn args) M0 (retK P fn Φ)):
  Calls P f (denL ρ0 args).toArray w fun e w'=>∃ (ρ':Val) (sv:SV) (M:List Blk),e = .returned (sv.den ρ')∧Φ sv M∧MRel B ρ' M w'∧scAll M.length M=true∧Kept B w w'∧z≤M.length∧∀ n,n<z→ρ' n=ρ0 n:=by
 have:=body_sound (run_sound hm hΓ n) hf hb hT hG hsc hM hz h (fun x F M hK=>⟨(retK_is hK).1,let ⟨sv,h1,_⟩:=(retK_is hK).2;⟨sv,h1⟩⟩)
 refine(callsIn_wide (n:=0).1 this).mono ?_
 rintro e w' ⟨ρ',sv,x,F',M',rfl,hsv,hK,hM',hsc',hk,hz',hρ'⟩
 obtain⟨_,sv',h1,h2⟩:=retK_is hK
 obtain rfl:sv=sv':=by rw[hsv] at h1;exact Option.some.inj h1
 exact⟨ρ',sv,M',rfl,h2,hM',hsc',hk,hz',hρ'⟩
theorem calls_run_at {P:Program}{G:World→Prop}{Γ:Env}(hΓ:EnvOk P G Γ){f:FuncId}{fn:Func}(hf:P.funcs[f]? = some fn)(hb:fn.body.isSome=true)(hm:Okay P)(T:Tbl)(hT:codeOk T (bodyOf fn)=true)(n:Nat){args:List SV}{M0:List Blk}{ρ0:Val}{w:World}{Φ:SV→List Blk→Prop}{B:Bd}(hG:∀ w',Kept B w w'→G w')
  (hsc:okSt args M0=true) (hM:MRel B ρ0 M0 w) (h:run P Γ n T 0 (bodyOf fn) (initF fn args) M0 (retK P fn Φ)):
  Calls P f (denL ρ0 args).toArray w fun e w'=>∃ (ρ':Val) (sv:SV) (M:List Blk),e = .returned (sv.den ρ')∧Φ sv M∧MRel B ρ' M w'∧Kept B w w':=
 (calls_run_z hΓ hf hb hm T hT n 0 hG hsc hM (Nat.zero_le _) h).mono fun e w' ⟨ρ',sv,M,h1,h2,h3,_,h4,_⟩=>⟨ρ',sv,M,h1,h2,h3,h4⟩
theorem calls_run {P:Program}{G:World→Prop}(hG:Stable G){Γ:Env}(hΓ:EnvOk P G Γ){f:FuncId}{fn:Func}(hf:P.funcs[f]? = some fn)(hb:fn.body.isSome=true)(hm:Okay P)(T:Tbl)(hT:codeOk T (bodyOf fn)=true)(n:Nat){args:List SV}{M0:List Blk}{ρ0:Val}{w:World}{Φ:SV→List Blk→Prop}
  {z:Nat→Prop} (hGw:G w) (hsc:okSt args M0=true) (hM:MRel ⟨w.heap.size,[],z⟩ ρ0 M0 w) (h:run P Γ n T 0 (bodyOf fn) (initF fn args) M0 (retK P fn Φ)):
  Calls P f (denL ρ0 args).toArray w fun e w'=>∃ (ρ':Val) (sv:SV) (M:List Blk),e = .returned (sv.den ρ')∧Φ sv M∧MRel ⟨w.heap.size,[],z⟩ ρ' M w'∧Below w.heap.size w w':=
 (calls_run_at hΓ hf hb hm T hT n (fun w1 h1=>hG w w1 hGw (h1.below rfl)) hsc hM h).mono fun e w' ⟨ρ',sv,M,h1,h2,h3,h4⟩=>⟨ρ',sv,M,h1,h2,h3,h4.below rfl⟩
def eqv1:SV→SV→Prop
 | .tt,.tt=>True
 | .ff,.ff=>True
 | .tt,.bool b=>b=true
 | .ff,.bool b=>b=false
 | .bool b,.tt=>b=true
 | .bool b,.ff=>b=false
 | .bool a,.bool b=>a=b
 | .u64 a,.u64 b=>a=b
 | .int k a,.int k' b=>k=k'∧a=b
 | .val a,.val b=>a=b
 | .fn f [] [],.fn g [] []=>f=g
 |_,_=>False
def eqvL1:List SV→List SV→Prop
 |[],[]=>True
 |x::xs,y::ys=>eqv1 x y∧eqvL1 xs ys
 |_,_=>False
def eqvI:SV→SV→Prop
 | .arr n sz g,.arr n' sz' h=>n=n'∧sz=sz'∧∀ i,i<n→g i=h i
 |x,y=>plS x=true∧plS y=true∧eqv1 x y
def eqvM:List SV→List SV→Prop
 |[],[]=>True
 |x::xs,y::ys=>eqvI x y∧eqvM xs ys
 |_,_=>False
def eqv2:SV→SV→Prop
 | .agg xs,.agg ys=>eqvL1 xs ys
 | .mix xs,.mix ys=>eqvM xs ys
 |x,y=>eqv1 x y
def eqvL2:List SV→List SV→Prop
 |[],[]=>True
 |x::xs,y::ys=>eqv2 x y∧eqvL2 xs ys
 |_,_=>False
def eqv:SV→SV→Prop
 | .agg xs,.agg ys=>eqvL1 xs ys
 | .tup xs,.tup ys=>eqvL2 xs ys
 | .mix xs,.mix ys=>eqvM xs ys
 |x,y=>eqv1 x y
theorem eqv1_den {x y:SV}(h:eqv1 x y):∀ ρ ρ':Val,x.den ρ=y.den ρ':=by
 intro ρ ρ'
 unfold eqv1 at h
 split at h<;>first|exact h.elim|rfl | (simp only[SV.den];simp[h,denL])
theorem eqvL1_den:∀ {xs ys:List SV} (_:eqvL1 xs ys) (ρ ρ':Val),denL ρ xs=denL ρ' ys
 |[],[],_,_,_=>rfl
 |x::xs,y::ys,h,ρ,ρ'=>by simp only[denL,eqv1_den h.1 ρ ρ',eqvL1_den h.2 ρ ρ']
 |[],_::_,h,_,_=>h.elim
 |_::_,[],h,_,_=>h.elim
theorem eqvI_den {x y:SV}(h:eqvI x y)(ρ ρ':Val):itemL x (x.den ρ)=itemL y (y.den ρ'):=by
 unfold eqvI at h
 split at h
 . obtain⟨rfl,rfl,hg⟩:=h
   exact arrL_congr hg
 . rw[plS_item h.1,plS_item h.2.1,eqv1_den h.2.2 ρ ρ']
theorem eqvM_den:∀ {xs ys:List SV} (_:eqvM xs ys) (ρ ρ':Val),mixD ρ xs=mixD ρ' ys
 |[],[],_,_,_=>rfl
 |x::xs,y::ys,h,ρ,ρ'=>by rw[mixD_cons,mixD_cons,eqvI_den h.1 ρ ρ',eqvM_den h.2 ρ ρ']
 |[],_::_,h,_,_=>h.elim
 |_::_,[],h,_,_=>h.elim
theorem eqv2_den {x y:SV}(h:eqv2 x y):∀ ρ ρ':Val,x.den ρ=y.den ρ':=by
 intro ρ ρ'
 unfold eqv2 at h
 split at h
 . simp only[SV.den,eqvL1_den h ρ ρ']
 . simp only[SV.den,eqvM_den h ρ ρ']
 . exact eqv1_den h ρ ρ'
theorem eqvL2_den:∀ {xs ys:List SV} (_:eqvL2 xs ys) (ρ ρ':Val),denL ρ xs=denL ρ' ys
 |[],[],_,_,_=>rfl
 |x::xs,y::ys,h,ρ,ρ'=>by simp only[denL,eqv2_den h.1 ρ ρ',eqvL2_den h.2 ρ ρ']
 |[],_::_,h,_,_=>h.elim
 |_::_,[],h,_,_=>h.elim
theorem eqv_den {x y:SV}(h:eqv x y):∀ ρ ρ':Val,x.den ρ=y.den ρ':=by
 intro ρ ρ'
 unfold eqv at h
 split at h
 . simp only[SV.den,eqvL1_den h ρ ρ']
 . simp only[SV.den,eqvL2_den h ρ ρ']
 . simp only[SV.den,eqvM_den h ρ ρ']
 . exact eqv1_den h ρ ρ'
theorem zlt_sub {B:Bd}{ρ:Val}{M:List Blk}{w:World}(h:MRel B ρ M w):∀ k,ρ.z k → ¬ (⟨w.heap.size,[],ρ.z⟩:Bd).may k:=fun k hk hm=>by
 have:=(h.zhi k hk).1
 rcases hm with hm|hm
 . cases hm
 . exact absurd this (Nat.not_lt_of_le hm)
theorem new_none {B:Bd}{ρ:Val}{M:List Blk}{w w':World}{m:Nat}(h:MRel B ρ M w)(hb:Below w.heap.size w w'):New B w.heap.size ρ m [] w':=New.nil (fun k hk=>(h.zhi k hk).1) hb.size
@[reducible] def noρ:Val:=⟨fun _=>none,fun _=>False⟩
theorem mrel_no {w:World}:MRel ⟨w.heap.size,[],fun _=>False⟩ noρ [] w:=MRel.nil (Nat.le_refl _) (fun _ h=>h.elim) rfl
theorem ctr_flat {P:Program}{G:World→Prop}(hG:Stable G){Γ:Env}(hΓ:EnvOk P G Γ){f:FuncId}{fn:Func}(hf:P.funcs[f]? = some fn)(hb:fn.body.isSome=true)(hm:Okay P)(T:Tbl)(hT:codeOk T (bodyOf fn)=true)(n:Nat){args:List SV}{M:List Blk}{sv:SV}
  (hsc:scL (fun _=>false) args=true) (h:run P Γ n T 0 (bodyOf fn) (initF fn args) [] (retK P fn fun x _=>eqv x sv)):
  ∀ (B:Bd) (ρ:Val) (w:World),G w→MRel B ρ M w→Calls P f (denL ρ args).toArray w fun e w'=>
    ∃ (ρ':Val) (v:Value),e = .returned v∧(sv ≠ .junk→v=sv.den ρ')∧Val.Ext w.heap.size (fun n => ¬ (M.length≤n∧n<M.length+([]:List Blk).length)) ρ ρ'∧Below w.heap.size w w'∧New B w.heap.size ρ' M.length [] w':=by
 intro B ρ w hGw hM
 refine(calls_run hG hΓ hf hb hm T hT n (M0:=[]) (ρ0:=ρ) hGw (by simp[okSt,scAll];exact scL_mono (fun n hn=>by cases hn) _ hsc) (MRel.nil (Nat.le_refl _) (zlt_sub hM) rfl) h).mono ?_
 rintro e w' ⟨ρ',x,M',rfl,hx,hM',hbel⟩
 exact⟨ρ,_,rfl,fun _=>eqv_den hx ρ' ρ,Val.Ext.refl ..,hbel,new_none hM hbel⟩
theorem calls_val {P:Program}{G:World→Prop}(hG:Stable G){Γ:Env}(hΓ:EnvOk P G Γ){f:FuncId}{fn:Func}(hf:P.funcs[f]? = some fn)(hb:fn.body.isSome=true)(hm:Okay P)(T:Tbl)(hT:codeOk T (bodyOf fn)=true)(n:Nat){args:List SV}{w:World}{sv:SV}(hGw:G w)
  (hsc:scL (fun _=>false) args=true) (h:run P Γ n T 0 (bodyOf fn) (initF fn args) [] (retK P fn fun x _=>eqv x sv)):
  Calls P f (denL noρ args).toArray w (Ret w (sv.den noρ)):=by
 refine(calls_run hG hΓ hf hb hm T hT n (M0:=[]) (ρ0:=noρ) hGw (by simp[okSt,scAll];exact scL_mono (fun n hn=>by cases hn) _ hsc) mrel_no h).mono ?_
 rintro e w' ⟨ρ',x,M',rfl,hx,hM',hbel⟩
 exact⟨by rw[eqv_den hx],grow_mk hbel⟩
theorem bctr_own {P:Program}{G:World→Prop}{Γ:Env}(hΓ:EnvOk P G Γ){f:FuncId}{fn:Func}(hf:P.funcs[f]? = some fn)(hb:fn.body.isSome=true)(hm:Okay P)(T:Tbl)(hT:codeOk T (bodyOf fn)=true)(n:Nat)
  {rest:List SV} {M:List Blk} {k:Nat} {ty:TypeId} {sz m:Nat} {g0 g:Nat→List FV} {sv:SV} (hk:M[k]? = some (.own ty sz m g0)) (hg0:∀ i,i<m→g i=g0 i) (hsc:scL (fun _=>false) rest=true)
  (h:run P Γ n T 0 (bodyOf fn) (initF fn (.sl 0 sz 0 m::rest)) [.own ty sz m g] (retK P fn fun x _=>eqv x sv)):
  ∀ (B:Bd) (ρ:Val) (w:World),(∀ w',Kept B w w'→G w')→M.all (Blk.sc fun n=>decide (n<M.length))=true→MRel B ρ M w→Calls P f (denL ρ (.sl k sz 0 m::rest)).toArray w fun e w'=>
    ∃ (ρ':Val) (v:Value),e = .returned v∧(sv ≠ .junk→v=sv.den ρ')∧(∀ n,n<M.length→ρ' n=ρ n)∧Kept B w w'∧MRel B ρ' (M.set k .dead) w':=by
 intro B ρ w hG hwf hM
 have hok:=own_congr (hM.ok k _ hk) hg0
 let B':Bd:=⟨w.heap.size,(ρ k).toList.map (·.blk),ρ.z⟩
 have hmay:∀ l,ρ k=some l→B'.may l.blk:=fun l hl=>.inl (by simp[B',hl])
 have hle:∀ i,¬ B.may i → ¬ B'.may i:=by
  intro i hi hi'
  rcases hi' with hx|hs
  . cases hl:ρ k with
    |none=>simp[B',hl] at hx
    |some l=>
     simp[B',hl] at hx
     exact hi (hx▸(Blk.ok_lt hok rfl hl).1)
  . have:=Bd.lt hi;have:=hM.size
    have hs':w.heap.size≤i:=hs
    omega
 have kept:∀ w',Kept B' w w'→Kept B w w':=fun w' hw=>⟨hw.os,hw.tape,hw.output,hw.size,fun i hi=>hw.block i (hle i hi),hw.dq,hw.lq⟩
 let ρ0:Val:=⟨fun i=>if i=0 then ρ k else none,ρ.z⟩
 have zm:∀ j,ρ.z j → ¬ B'.may j:=fun j hj hm=>by
  rcases hm with hx|hs
  . cases hl:ρ k with
    |none=>simp[B',hl] at hx
    |some l=>
     simp[B',hl] at hx
     exact hM.zown k _ l hk rfl hl (hx▸hj)
  . exact absurd (hM.zhi j hj).1 (Nat.not_lt_of_le hs)
 have hden:denL ρ0 (.sl 0 sz 0 m::rest)=denL ρ (.sl k sz 0 m::rest):=by
  simp only[denL]
  rw[denL_congr (ρ:=ρ) (ρ':=ρ0) (p:=fun _=>false) (fun n hn=>by cases hn) rest hsc]
  rfl
 have hM0:MRel B' ρ0 [.own ty sz m g] w:=by
  refine⟨Nat.le_refl _,fun i b hb => ?_,fun i j b c l l' hne h1 h2 => ?_,zm,fun _ h=>h,fun j hj=>⟨(hM.zhi j hj).1,.inl hj⟩,fun i b l hb ho hl hz => ?_,fun j hj=>.inl hj⟩
  . cases i with
    |zero=>
     simp only[List.getElem?_cons_zero,Option.some.injEq] at hb
     subst hb
     obtain⟨q,hr,hok⟩:=hok
     refine⟨q,hr,hok.1,?_⟩
     rcases hok.2 with⟨e,h0⟩ | ⟨l,cur,e,h0,_,h2⟩
     . exact .inl ⟨by simp[ρ0,e],h0⟩
     . exact .inr ⟨l,cur,by simp[ρ0,e],h0,hmay l e,h2⟩
    |succ i=>simp at hb
  . cases i with
    |zero=>cases j with
     |zero=>exact absurd rfl hne
     |succ j=>simp at h2
    |succ i=>simp at h1
  . cases i with
    |zero=>exact hM.zown k _ l hk rfl (by simpa [ρ0] using hl) hz
    |succ i=>simp at hb
 have hrun:=calls_run_at hΓ hf hb hm T hT n (B:=B') (M0:=[.own ty sz m g]) (ρ0:=ρ0) (args:=.sl 0 sz 0 m::rest) (fun w' hw=>hG w' (kept w' hw)) (by
  simp only[okSt,scL,SV.sc,Bool.and_eq_true]
  exact⟨⟨rfl,scL_mono (fun n hn=>by cases hn) _ hsc⟩,rfl⟩) hM0 h
 rw[hden] at hrun
 refine hrun.mono ?_
 rintro e w' ⟨ρ',x,M',rfl,hx,_,hw⟩
 refine⟨ρ,_,rfl,fun _=>eqv_den hx ρ' ρ,fun _ _=>rfl,kept w' hw,?_⟩
 have other:∀ i b,(M.set k .dead)[i]? = some b→b = .dead∨(i≠k∧M[i]? = some b):=by
  intro i b hb
  rw[List.getElem?_set] at hb
  split at hb
  . split at hb
    . exact .inl (Option.some.inj hb).symm
    . cases hb
  . rename_i hne;exact .inr ⟨fun e=>hne e.symm,hb⟩
 refine⟨Nat.le_trans hM.size hw.size,fun i b hb => ?_,fun i j b c l l' hne h1 h2 o1 o2 e1 e2 => ?_,hM.zb,hM.zlo,fun j hj=>⟨Nat.lt_of_lt_of_le (hM.zhi j hj).1 hw.size,(hM.zhi j hj).2⟩,fun i b l hb ho hl => ?_,fun j hj=>(hM.zc j hj).imp_right fun hc=>hc.same (hw.block j (zm j hj))⟩
 . rcases other i b hb with rfl | ⟨hne,hb'⟩
   . trivial
   . refine b.ok_same (hM.ok i b hb') (fun j hj=>hw.block j (hle j hj)) (fun j hj=>hw.block j (zm j hj)) fun ho l hl=>hw.block _ fun hmay' => ?_
     have hlt:=Blk.ok_lt (hM.ok i b hb') ho hl
     rcases hmay' with hx'|hs
     . cases hlk:ρ k with
       |none=>simp[B',hlk] at hx'
       |some lk=>
        simp[B',hlk] at hx'
        exact hM.apart i k b _ l lk hne hb' hk ho rfl hl hlk hx'
     . have hs':w.heap.size≤l.blk:=hs
       omega
 . rcases other i b h1 with rfl | ⟨_,h1'⟩
   . cases o1
   . rcases other j c h2 with rfl | ⟨_,h2'⟩
     . cases o2
     . exact hM.apart i j b c l l' hne h1' h2' o1 o2 e1 e2
 . rcases other i b hb with rfl | ⟨_,hb'⟩
   . cases ho
   . exact hM.zown i b l hb' ho hl
theorem ctr_ret {P:Program}{f:FuncId}{args:List SV}{M:List Blk}{sv:SV}{ρ:Val}{B:Bd}{w:World}(hM:MRel B ρ M w)(hsv:∀ ρ',sv.den ρ'=sv.den ρ)(h:Calls P f (denL ρ args).toArray w (Ret w (sv.den ρ))):
  Calls P f (denL ρ args).toArray w fun e w'=>
   ∃ (ρ':Val) (v:Value),e = .returned v∧(sv ≠ .junk→v=sv.den ρ')∧Val.Ext w.heap.size (fun n => ¬ (M.length≤n∧n<M.length+([]:List Blk).length)) ρ ρ'∧Below w.heap.size w w'∧New B w.heap.size ρ' M.length [] w':=
 h.mono fun e w' ⟨he,g,hg⟩=>⟨ρ,_,he,fun _=>rfl,Val.Ext.refl ..,hg▸grow_below w g,new_none hM (hg▸grow_below w g)⟩
theorem okNilB {P:Program}{G:World→Prop}:∀ p∈([]:List BCtr),BCtrOk P G p.1 p.2:=fun _ h=>by cases h
theorem okConsB {P:Program}{G:World→Prop}{g:FuncId}{c:List SV→List Blk→BRes}{l:List BCtr}(h:BCtrOk P G g c)(t:∀ p∈l,BCtrOk P G p.1 p.2):∀ p∈(g,c)::l,BCtrOk P G p.1 p.2:=by
 intro p hp
 cases hp with
 |head=>exact h
 |tail _ hp=>exact t p hp
theorem okNil {P:Program}{G:World→Prop}:∀ p∈([]:List Ctr),CtrOk P G p.1 p.2:=fun _ h=>by cases h
theorem okCons {P:Program}{G:World→Prop}{g:FuncId}{c:List SV→List Blk→Res}{l:List Ctr}(h:CtrOk P G g c)(t:∀ p∈l,CtrOk P G p.1 p.2):∀ p∈(g,c)::l,CtrOk P G p.1 p.2:=by
 intro p hp
 cases hp with
 |head=>exact h
 |tail _ hp=>exact t p hp
end Go.Sx
