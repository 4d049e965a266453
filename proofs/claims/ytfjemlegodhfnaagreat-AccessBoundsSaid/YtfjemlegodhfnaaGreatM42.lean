import Derived.Test.YtfjemlegodhfnaaGreatM41
set_option linter.all false
namespace Go.Sx
open Go.RowKit Go.Proofs.YtfjemlegodhfnaaGreat
def retKP (P:Program)(fn:Func)(Φ:Option Value→SV→List Blk→Prop):X→List SV→List Blk→Prop
 | .exit _,_,_=>False
 | .panic v,_,M=>Φ (some v) .junk M
 | .normal,F,M=>match retS P fn F M with
   |some x=>force3 x fun x=>Φ none x M
   |none=>False
 | .ret,F,M=>match retS P fn F M with
   |some x=>force3 x fun x=>Φ none x M
   |none=>False
section
variable {P:Program}{G:World→Prop}{Γ:Env}
theorem retKP_is {fn:Func}{Φ:Option Value→SV→List Blk→Prop}{x:X}{F:List SV}{M:List Blk}(h:retKP P fn Φ x F M):(∃ v,x = .panic v∧Φ (some v) .junk M)∨((x = .normal∨x = .ret)∧∃ sv,retS P fn F M=some sv∧Φ none sv M):=by
 cases x with
 |exit id=>exact h.elim
 |panic v=>exact .inl ⟨v,rfl,h⟩
 |normal=>
  simp only[retKP] at h
  split at h
  . rename_i sv hs;rw[force3_eq] at h;exact .inr ⟨.inl rfl,sv,hs,h⟩
  . exact h.elim
 |ret=>
  simp only[retKP] at h
  split at h
  . rename_i sv hs;rw[force3_eq] at h;exact .inr ⟨.inr rfl,sv,hs,h⟩
  . exact h.elim
theorem calls_run_p (hΓ:EnvOk P G Γ){f:FuncId}{fn:Func}(hf:P.funcs[f]? = some fn)(hb:fn.body.isSome=true)(hm:Okay P)(T:Tbl)(hT:codeOk T (bodyOf fn)=true)(n z:Nat){args:List SV}{M0:List Blk}{ρ0:Val}{w:World}{Φ:Option Value→SV→List Blk→Prop}{B:Bd}(hG:∀ w',Kept B w w'→G w')
  (hsc:okSt args M0=true) (hM:MRel B ρ0 M0 w) (hz:z≤M0.length) (h:run P Γ n T z (bodyOf fn) (initF fn args) M0 (retKP P fn Φ)):
  Calls P f (denL ρ0 args).toArray w fun e w'=>∃ (p:Option Value) (ρ':Val) (sv:SV) (M:List Blk),e=endS p sv ρ'∧Φ p sv M∧MRel B ρ' M w'∧scAll M.length M=true∧Kept B w w'∧z≤M.length∧∀ n,n<z→ρ' n=ρ0 n:=by
 have:=body_soundP (run_sound hm hΓ n) hf hb hT hG hsc hM hz h (fun x F M hK=>by
  rcases retKP_is hK with⟨v,e,_⟩ | ⟨hx,sv,hs,_⟩
  . exact .inl ⟨v,e⟩
  . exact .inr ⟨hx,sv,hs⟩)
 refine(callsIn_wide (n:=0).1 this).mono ?_
 rintro e w' ⟨ρ',p,sv,x,F',M',rfl,hE,hK,hM',hsc',hk,hz',hρ'⟩
 rcases hE with⟨rfl,hx,hsv⟩ | ⟨v,rfl,rfl⟩
 . rcases retKP_is hK with⟨v,e,_⟩ | ⟨_,sv',h1,h2⟩
   . subst e;rcases hx with e|e<;>cases e
   . obtain rfl:sv=sv':=by rw[hsv] at h1;exact Option.some.inj h1
     exact⟨none,ρ',sv,M',rfl,h2,hM',hsc',hk,hz',hρ'⟩
 . rcases retKP_is hK with⟨v',e,h2⟩ | ⟨hx,_⟩
   . cases e;exact⟨some v,ρ',.junk,M',rfl,h2,hM',hsc',hk,hz',hρ'⟩
   . rcases hx with e|e<;>cases e
structure Agree (m k nv:Nat)(π:Nat→Nat)(ρc ρw:Val):Prop where
 head:ρc k=ρw 0
 view:∀ i,i<nv→ρc (π i)=ρw (i+1)
 new:∀ j,ρc (m+j)=ρw (1+nv+j)
def rowM:Blk→Bool
 | .dead=>true
 | .own .. => true
 |_=>false
theorem rowM_ok {B B':Bd}{ρ ρ':Val}{n n':Nat}{w:World}{b:Blk}(h:rowM b=true)(hb:b.ok B ρ n w)(e:ρ' n'=ρ n)(hz:∀ k,ρ.z k→ρ'.z k)(hB:∀ j,B.may j→B'.may j):b.ok B' ρ' n' w:=by
 cases b with
 |dead=>trivial
 |own ty sz m g=>
  obtain⟨q,hr,h1,h2⟩:=hb
  refine⟨q,fun i hi=>(hr i hi).mono hz (fun _ _=>rfl),h1,?_⟩
  rcases h2 with⟨e0,h0⟩ | ⟨l,cur,e0,h0,hm,h2⟩
  . exact .inl ⟨e.trans e0,h0⟩
  . exact .inr ⟨l,cur,e.trans e0,h0,hB _ hm,h2⟩
 |_=>cases h
def EndY (M:List Blk)(k nv:Nat)(π:Nat→Nat)(ty:TypeId)(K:Option Value→SV→List Blk→Prop):Option Value→SV→List Blk→Prop
 |some v,_,_=>K (some v) .junk (M.set k .dead)
 |none,x,M1=>∃ (τ:List Nat) (xs' xsC:List SV) (nb0:List Blk) (y svC:SV),nodN (List.range (1+nv)++τ)=true∧MLe (renMs M1 (List.range (1+nv)++τ) (List.range (1+nv)++τ)) (.cells ty xs'::(List.replicate nv .dead++nb0))∧nb0.all rowM=true∧renS (List.range (1+nv)++τ) x=some y∧
   (∀ ρc ρw:Val,Agree M.length k nv π ρc ρw→y.den ρw=svC.den ρc∧denL ρw xs'=denL ρc xsC)∧scAll (M.set k (.cells ty xsC)++nb0).length (M.set k (.cells ty xsC)++nb0)=true∧K none svC (M.set k (.cells ty xsC)++nb0)
theorem set_look {M:List Blk}{k i:Nat}{b c:Blk}(h:(M.set k b)[i]? = some c):(i=k∧c=b)∨(i≠k∧M[i]? = some c):=by
 rw[List.getElem?_set] at h
 by_cases e:k=i
 . rw[if_pos e] at h
   split at h
   . exact .inl ⟨e.symm,(Option.some.inj h).symm⟩
   . cases h
 . rw[if_neg e] at h;exact .inr ⟨Ne.symm e,h⟩
theorem ycell_core (hΓ:EnvOk P G Γ){f:FuncId}{fn:Func}(hf:P.funcs[f]? = some fn)(hb:fn.body.isSome=true)(hm:Okay P)(T:Tbl)(hT:codeOk T (bodyOf fn)=true)(n:Nat)(args0 xs:List SV)(V:List Blk)(π:Nat→Nat)
  {args:List SV} {M:List Blk} {k:Nat} {ty:TypeId} {xs0:List SV} {K:Option Value→SV→List Blk→Prop} (hk:M[k]? = some (.cells ty xs0)) (hwf:M.all (Blk.sc fun n=>decide (n<M.length))=true) (hsc:okSt args0 (.cells ty xs::V)=true)
  (hview:∀ (B:Bd) (ρ:Val) (w:World),MRel B ρ M w→(∀ j,(⟨w.heap.size,(ρ k).toList.map (·.blk),ρ.z⟩:Bd).may j→B.may j)→(∀ j,ρ.z j → ¬ (⟨w.heap.size,(ρ k).toList.map (·.blk),ρ.z⟩:Bd).may j)→(∀ (i:Nat) (b:Blk) (l:Loc),i≠k→M[i]? = some b→b.isOwn=true→ρ i=some l → ¬ (⟨w.heap.size,(ρ k).toList.map (·.blk),ρ.z⟩:Bd).may l.blk)→
    ∃ ρ0:Val,ρ0.z=ρ.z∧ρ0 0=ρ k∧denL ρ0 args0=denL ρ args∧denL ρ0 xs=denL ρ xs0∧(∀ i,i<V.length→ρ (π i)=ρ0 (i+1))∧∀ (i:Nat) (c:Blk),V[i]? = some c→c.isOwn=false∧c.ok ⟨w.heap.size,(ρ k).toList.map (·.blk),ρ.z⟩ ρ0 (i+1) w) (hπ:∀ i,i<V.length→π i<M.length)
  (h:run P Γ n T (1+V.length) (bodyOf fn) (initF fn args0) (.cells ty xs::V) (retKP P fn (EndY M k V.length π ty K))):
  ∀ (B:Bd) (ρ:Val) (w:World),(∀ w',Kept B w w'→G w')→MRel B ρ M w→Calls P f (denL ρ args).toArray w fun e w'=>
    ∃ (p:Option Value) (sv:SV) (M':List Blk) (ρ':Val),e=endS p sv ρ'∧K p sv M'∧MRel B ρ' M' w'∧M'.all (Blk.sc fun n=>decide (n<M'.length))=true∧M.length≤M'.length∧(∀ k,k<M.length→ρ' k=ρ k)∧Kept B w w':=by
 intro B ρ w hG hM
 have hklt:k<M.length:=(List.getElem?_eq_some_iff.1 hk).1
 have hbk:=hM.ok k _ hk
 let x:List Nat:=(ρ k).toList.map (·.blk)
 let B':Bd:=⟨w.heap.size,x,ρ.z⟩
 have inx:∀ j,j∈x→∃ l,ρ k=some l∧l.blk=j:=fun j hj=>by
  cases hl:ρ k with
  |none=>simp[x,hl] at hj
  |some l=>simp[x,hl] at hj;exact⟨l,rfl,hj.symm⟩
 have bmay:∀ j,B'.may j→B.may j:=fun j hj=>by
  rcases hj with hj|hj
  . obtain⟨l,hl,rfl⟩:=inx j hj
    exact(Blk.ok_lt hbk rfl hl).1
  . exact .inr (Nat.le_trans hM.size hj)
 have zm:∀ j,ρ.z j → ¬ B'.may j:=fun j hj hm=>by
  rcases hm with hm|hm
  . obtain⟨l,hl,rfl⟩:=inx j hm
    exact hM.zown k _ l hk rfl hl hj
  . exact absurd (hM.zhi j hj).1 (Nat.not_lt_of_le hm)
 have others:∀ (i:Nat) (b:Blk) (l:Loc),i≠k→M[i]? = some b→b.isOwn=true→ρ i=some l → ¬ B'.may l.blk:=fun i b l hne hi ho' hl hm=>by
  rcases hm with hm|hm
  . obtain⟨lk,hlk,he⟩:=inx _ hm
    exact hM.apart i k b _ l lk hne hi hk ho' rfl hl hlk he.symm
  . exact absurd (Blk.ok_lt (hM.ok i b hi) ho' hl).2 (Nat.not_lt_of_le hm)
 obtain⟨ρ0,hz0,h00,hargs,hxs,hvw,hV⟩:=hview B ρ w hM bmay zm others
 have hM0:MRel B' ρ0 (.cells ty xs::V) w:=by
  refine⟨Nat.le_refl _,fun i c hc => ?_,fun i j c d l l' hne h1 h2 o1 o2 => ?_,zm,fun _ h=>by rw[hz0];exact h,fun j hj=>by rw[hz0] at hj;exact⟨(hM.zhi j hj).1,.inl hj⟩,fun i c l hc ho' hl hz => ?_,fun j hj=>by rw[hz0] at hj;exact .inl hj⟩
  . cases i with
    |zero=>
     simp only[List.getElem?_cons_zero,Option.some.injEq] at hc
     subst hc
     obtain⟨l,e,h0,_,hh⟩:=hbk
     exact⟨l,h00.trans e,h0,.inl (by show l.blk∈(ρ.loc k).toList.map (·.blk);rw[show ρ.loc k=some l from e];simp),by rw[hxs];exact hh⟩
    |succ i=>
     simp only[List.getElem?_cons_succ] at hc
     exact(hV i c hc).2
  . cases i with
    |zero=>cases j with
     |zero=>exact absurd rfl hne
     |succ j=>simp only[List.getElem?_cons_succ] at h2;rw[(hV j d h2).1] at o2;cases o2
    |succ i=>simp only[List.getElem?_cons_succ] at h1;rw[(hV i c h1).1] at o1;cases o1
  . rw[hz0] at hz
    cases i with
    |zero=>exact hM.zown k _ l hk rfl (h00.symm.trans hl) hz
    |succ i=>simp only[List.getElem?_cons_succ] at hc;rw[(hV i c hc).1] at ho';cases ho'
 have kept:∀ w',Kept B' w w'→Kept B w w':=fun w' hw=>⟨hw.os,hw.tape,hw.output,hw.size,fun i hi=>hw.block i fun h=>hi (bmay i h),hw.dq,hw.lq⟩
 have hrun:=calls_run_p hΓ hf hb hm T hT n (1+V.length) (B:=B') (M0:=.cells ty xs::V) (ρ0:=ρ0) (args:=args0) (fun w' hw=>hG w' (kept w' hw)) hsc hM0 (by simp;omega) h
 rw[hargs] at hrun
 refine hrun.mono ?_
 rintro e w' ⟨p,ρ1,sv,M1,rfl,hΦ,hM1,_,hw,_,hρ1⟩
 have zs:∀ j,ρ.z j→w'.heap[j]? = w.heap[j]? := fun j hj=>hw.block j (zm j hj)
 have keepM:∀ (z:Nat→Prop) (ρc:Val),(∀ j,j<M.length→ρc j=ρ j)→(∀ j,ρ.z j→ρc.z j)→∀ (i:Nat) (c:Blk),i≠k→M[i]? = some c→c.ok B ρc i w':=fun z ρc hold hzz i c hne hi=>by
  have h1:c.ok B ρ i w':=c.ok_same (hM.ok i c hi) (fun j hj=>hw.block j fun h=>hj (bmay j h)) zs fun ho' l hl=>hw.block _ (others i c l hne hi ho' hl)
  exact h1.elim_congr (m:=M.length) hold hzz (List.getElem?_eq_some_iff.1 hi).1 (List.all_eq_true.1 hwf c (List.mem_of_getElem? hi))
 cases p with
 |some v=>
  refine⟨some v,.junk,M.set k .dead,ρ,rfl,hΦ,⟨Nat.le_trans hM.size hw.size,fun i c hc => ?_,fun i j c d l l' hne h1 h2 o1 o2 e1 e2 => ?_,hM.zb,hM.zlo,fun j hj=>⟨Nat.lt_of_lt_of_le (hM.zhi j hj).1 hw.size,(hM.zhi j hj).2⟩,fun i c l hc ho' hl hzl => ?_,fun j hj => ?_⟩,?_,by rw[List.length_set];exact Nat.le_refl _,fun _ _=>rfl,kept w' hw⟩
  . rcases set_look hc with⟨_,rfl⟩ | ⟨hne,hi⟩
    . trivial
    . exact keepM ρ.z ρ (fun _ _=>rfl) (fun _ h=>h) i c hne hi
  . rcases set_look h1 with⟨_,rfl⟩ | ⟨_,hi⟩
    . cases o1
    . rcases set_look h2 with⟨_,rfl⟩ | ⟨_,hj⟩
      . cases o2
      . exact hM.apart i j c d l l' hne hi hj o1 o2 e1 e2
  . rcases set_look hc with⟨_,rfl⟩ | ⟨_,hi⟩
    . cases ho'
    . exact hM.zown i c l hi ho' hl hzl
  . exact(hM.zc j hj).imp_right fun hc=>hc.same (zs j hj)
  . rw[List.length_set,List.all_eq_true]
    intro c hc
    rcases List.mem_or_eq_of_mem_set hc with h1|rfl
    . exact List.all_eq_true.1 hwf c h1
    . rfl
 |none=>
  obtain⟨τ,xs',xsC,nb0,y,svC,hnod,hle,hrow,hy,hag,hscN,hKn⟩:=hΦ
  obtain⟨z,hz,hz1,hz2⟩:=(hM1.ren (nodN_iff hnod)).le hle
  let σ:=List.range (1+V.length)++τ
  let ρw:Val:=⟨(renρ σ ρ1).loc,z⟩
  have hσ:∀ i,i<1+V.length→σ[i]? = some i:=fun i hi=>by
   show(List.range (1+V.length)++τ)[i]? = some i
   rw[List.getElem?_append_left (by simpa using hi),List.getElem?_range hi]
  have hlow:∀ i,i<1+V.length→ρw i=ρ0 i:=fun i hi=>by
   show(match σ[i]? with|some n=>ρ1 n|none=>none)=ρ0 i
   rw[hσ i hi];exact hρ1 i hi
  let ρc:Val:=⟨fun i=>if M.length≤i then ρw (1+V.length+(i-M.length)) else ρ i,z⟩
  have hold:∀ j,j<M.length→ρc j=ρ j:=fun j hj=>by
   show(if M.length≤j then _ else ρ j)=ρ j
   rw[if_neg (by omega)]
  have hnew:∀ j,ρc (M.length+j)=ρw (1+V.length+j):=fun j=>by
   show(if M.length≤M.length+j then ρw (1+V.length+(M.length+j-M.length)) else _)=_
   rw[if_pos (by omega),Nat.add_sub_cancel_left]
  have hagr:Agree M.length k V.length π ρc ρw:=⟨by rw[hold k hklt,hlow 0 (by omega),h00],fun i hi=>by rw[hold _ (hπ i hi),hvw i hi,hlow _ (by omega)],hnew⟩
  obtain⟨hden,hxsC⟩:=hag ρc ρw hagr
  have h0b:(Blk.cells ty xs').ok B' ρw 0 w':=hz.ok 0 _ rfl
  have hnb:∀ (j:Nat) (b:Blk),nb0[j]? = some b→b.ok B' ρw (1+V.length+j) w':=fun j b hj=>hz.ok _ b (by
   rw[show 1+V.length+j=(V.length+j)+1 by omega,List.getElem?_cons_succ,List.getElem?_append_right (by simp)]
   simpa using hj)
  have look:∀ (i:Nat) (c:Blk),(M.set k (.cells ty xsC)++nb0)[i]? = some c→(i=k∧c = .cells ty xsC)∨(i≠k∧i<M.length∧M[i]? = some c) ∨ ∃ j,i=M.length+j∧nb0[j]? = some c:=fun i c hc=>by
   rcases Nat.lt_or_ge i M.length with hlt|hge
   . rw[List.getElem?_append_left (by simpa using hlt)] at hc
     rcases set_look hc with h | ⟨h1,h2⟩
     . exact .inl h
     . exact .inr (.inl ⟨h1,hlt,h2⟩)
   . rw[List.getElem?_append_right (by simpa using hge),List.length_set] at hc
     exact .inr (.inr ⟨i-M.length,by omega,hc⟩)
  have kmay:∀ l,ρ k=some l→B'.may l.blk:=fun l hl=>.inl (by show l.blk∈(ρ.loc k).toList.map (·.blk);rw[show ρ.loc k=some l from hl];simp)
  have nmay:∀ (j:Nat) (b:Blk) (l:Loc),nb0[j]? = some b→b.isOwn=true→ρw (1+V.length+j)=some l→B'.may l.blk:=fun j b l hj ho hl=>(Blk.ok_lt (hnb j b hj) ho hl).1
  have nidx:∀ (j:Nat) (b:Blk),nb0[j]? = some b→(Blk.cells ty xs'::(List.replicate V.length Blk.dead++nb0))[1+V.length+j]? = some b:=fun j b hj=>by
   rw[show 1+V.length+j=(V.length+j)+1 by omega,List.getElem?_cons_succ,List.getElem?_append_right (by simp)]
   simpa using hj
  have hk0:ρw 0=ρ k:=(hlow 0 (by omega)).trans h00
  refine⟨none,svC,M.set k (.cells ty xsC)++nb0,ρc,?_,hKn,⟨Nat.le_trans hM.size hw.size,fun i c hc => ?_,fun i j c d l l' hne h1 h2 o1 o2 e1 e2 => ?_,hM.zb,fun j hj=>hz.zlo j (hM.zlo j hj),fun j hj=>⟨(hz.zhi j hj).1,?_⟩,fun i c l hc ho' hl hzl => ?_,fun j hj => ?_⟩,hscN,by rw[List.length_append,List.length_set];omega,hold,kept w' hw⟩
  . show Ending.returned _=Ending.returned _
    have e1:=(renS_den (ρ:=ρ1) hy).1
    have e2:y.den ρw=y.den (renρ σ ρ1):=SV.den_congr (ρ:=renρ σ ρ1) (ρ':=ρw) (p:=fun _=>true) (fun _ _=>rfl) y (SV.sc_all y)
    rw[← hden,e2,e1]
  . rcases look i c hc with⟨rfl,rfl⟩ | ⟨hne,hlt,hi⟩ | ⟨j,rfl,hj⟩
    . obtain⟨l,e,h0,_,hh⟩:=h0b
      have e':ρ i=some l:=hk0.symm.trans e
      exact⟨l,(hold i hklt).trans e',h0,bmay _ (kmay l e'),by rw[← hxsC];exact hh⟩
    . exact keepM z ρc hold (fun j hj=>hz.zlo j hj) i c hne hi
    . exact rowM_ok (List.all_eq_true.1 hrow c (List.mem_of_getElem? hj)) (hnb j c hj) (hnew j) (fun _ h=>h) bmay
  . rcases look i c h1 with⟨rfl,rfl⟩ | ⟨hnk,hlt,hi⟩ | ⟨a,rfl,ha⟩
    . rw[hold i hklt] at e1
      rcases look j d h2 with⟨rfl,rfl⟩ | ⟨hnk',hlt',hj⟩ | ⟨a',rfl,ha'⟩
      . exact absurd rfl hne
      . rw[hold j hlt'] at e2
        exact fun he=>others j d l' hnk' hj o2 e2 (he▸kmay l e1)
      . rw[hnew a'] at e2
        exact hz.apart 0 (1+V.length+a') _ d l l' (by omega) rfl (nidx a' d ha') rfl o2 (hk0.trans e1) e2
    . rw[hold i hlt] at e1
      rcases look j d h2 with⟨rfl,rfl⟩ | ⟨hnk',hlt',hj⟩ | ⟨a',rfl,ha'⟩
      . rw[hold j hklt] at e2
        exact fun he=>others i c l hnk hi o1 e1 (he▸kmay l' e2)
      . rw[hold j hlt'] at e2
        exact hM.apart i j c d l l' hne hi hj o1 o2 e1 e2
      . rw[hnew a'] at e2
        exact fun he=>others i c l hnk hi o1 e1 (he▸nmay a' d l' ha' o2 e2)
    . rw[hnew a] at e1
      rcases look j d h2 with⟨rfl,rfl⟩ | ⟨hnk',hlt',hj⟩ | ⟨a',rfl,ha'⟩
      . rw[hold j hklt] at e2
        exact fun he=>hz.apart 0 (1+V.length+a) _ c l' l (by omega) rfl (nidx a c ha) rfl o1 (hk0.trans e2) e1 he.symm
      . rw[hold j hlt'] at e2
        exact fun he=>others j d l' hnk' hj o2 e2 (he▸nmay a c l ha o1 e1)
      . rw[hnew a'] at e2
        exact hz.apart (1+V.length+a) (1+V.length+a') c d l l' (fun e=>hne (by omega)) (nidx a c ha) (nidx a' d ha') o1 o2 e1 e2
  . rcases (hz.zhi j hj).2 with h|h
    . exact(hM.zhi j h).2
    . exact .inr (bmay j h)
  . rcases look i c hc with⟨rfl,rfl⟩ | ⟨hnk,hlt,hi⟩ | ⟨a,rfl,ha⟩
    . rw[hold i hklt] at hl
      exact hz.zown 0 _ l rfl rfl (hk0.trans hl) hzl
    . rw[hold i hlt] at hl
      rcases (hz.zhi _ hzl).2 with h|h
      . exact hM.zown i c l hi ho' hl h
      . exact others i c l hnk hi ho' hl h
    . rw[hnew a] at hl
      exact hz.zown _ c l (nidx a c ha) ho' hl hzl
  . rcases hz.zc j hj with h|h
    . exact(hM.zc j h).imp_right fun hc=>hc.same (zs j h)
    . exact .inr h
def EndYC (M:List Blk)(k nv:Nat)(σ:List Nat)(ty:TypeId)(K:Option Value→SV→List Blk→Prop):Option Value→SV→List Blk→Prop
 |some v,_,_=>K (some v) .junk (M.set k .dead)
 |none,x,M1=>∃ (xs' xsC:List SV) (tp:Bool) (as0:List AV),M1[0]? = some (.cells ty xs')∧(∀ ρc ρw:Val,(∀ i,i<1+nv→∃ n,(k::σ)[i]? = some n∧ρw i=ρc n)→denL ρw xs'=denL ρc xsC)∧
   scL (fun n=>decide (n<M.length)) xsC=true∧TellsC tp as0 x M1∧K none (outA tp (namA true M.length as0).1) (M.set k (.cells ty xsC)++(namA true M.length as0).2)
theorem ycell_top (hΓ:EnvOk P G Γ){f:FuncId}{fn:Func}(hf:P.funcs[f]? = some fn)(hb:fn.body.isSome=true)(hm:Okay P)(T:Tbl)(hT:codeOk T (bodyOf fn)=true)(n:Nat)(args0 xs:List SV)(V:List Blk)(σ:List Nat)
  {args:List SV} {M:List Blk} {k:Nat} {ty:TypeId} {xs0:List SV} {K:Option Value→SV→List Blk→Prop} (hk:M[k]? = some (.cells ty xs0)) (hwf:M.all (Blk.sc fun n=>decide (n<M.length))=true) (hks:k ∉ σ)
  (hargs:∀ ρ,denL (renρ (k::σ) ρ) args0=denL ρ args) (hxs:∀ ρ,denL (renρ (k::σ) ρ) xs=denL ρ xs0) (hsc:okSt args0 (.cells ty xs::V)=true) (hv:View M (k::σ) σ V)
  (h:run P Γ n T (1+V.length) (bodyOf fn) (initF fn args0) (.cells ty xs::V) (retKP P fn (EndYC M k V.length σ ty K))):
  ∀ (B:Bd) (ρ:Val) (w:World),(∀ w',Kept B w w'→G w')→MRel B ρ M w→Calls P f (denL ρ args).toArray w fun e w'=>
    ∃ (p:Option Value) (sv:SV) (M':List Blk) (ρ':Val),e=endS p sv ρ'∧K p sv M'∧MRel B ρ' M' w'∧M'.all (Blk.sc fun n=>decide (n<M'.length))=true∧M.length≤M'.length∧(∀ k,k<M.length→ρ' k=ρ k)∧Kept B w w':=by
 intro B ρ w hG hM
 have hklt:k<M.length:=(List.getElem?_eq_some_iff.1 hk).1
 have hbk:=hM.ok k _ hk
 let x:List Nat:=(ρ k).toList.map (·.blk)
 let B':Bd:=⟨w.heap.size,x,ρ.z⟩
 have inx:∀ j,j∈x→∃ l,ρ k=some l∧l.blk=j:=fun j hj=>by
  cases hl:ρ k with
  |none=>simp[x,hl] at hj
  |some l=>simp[x,hl] at hj;exact⟨l,rfl,hj.symm⟩
 have bmay:∀ j,B'.may j→B.may j:=fun j hj=>by
  rcases hj with hj|hj
  . obtain⟨l,hl,rfl⟩:=inx j hj
    exact(Blk.ok_lt hbk rfl hl).1
  . exact .inr (Nat.le_trans hM.size hj)
 have zm:∀ j,ρ.z j → ¬ B'.may j:=fun j hj hm=>by
  rcases hm with hm|hm
  . obtain⟨l,hl,rfl⟩:=inx j hm
    exact hM.zown k _ l hk rfl hl hj
  . exact absurd (hM.zhi j hj).1 (Nat.not_lt_of_le hm)
 have others:∀ (i:Nat) (b:Blk) (l:Loc),i≠k→M[i]? = some b→b.isOwn=true→ρ i=some l → ¬ B'.may l.blk:=fun i b l hne hi ho' hl hm=>by
  rcases hm with hm|hm
  . obtain⟨lk,hlk,he⟩:=inx _ hm
    exact hM.apart i k b _ l lk hne hi hk ho' rfl hl hlk he.symm
  . exact absurd (Blk.ok_lt (hM.ok i b hi) ho' hl).2 (Nat.not_lt_of_le hm)
 let ρ0:Val:=renρ (k::σ) ρ
 have hz0:ρ0.z=ρ.z:=rfl
 have h00:ρ0 0=ρ k:=rfl
 have hV:∀ (i:Nat) (c:Blk),V[i]? = some c→c.isOwn=false∧c.ok B' ρ0 (i+1) w:=fun i c hc=>by
  obtain⟨n,b,hσ,hn,hb⟩:=hv.get i c hc
  refine⟨by cases c<;>first|rfl|exact hb.elim,?_⟩
  have hnk:n≠k:=fun e=>hks (e▸List.mem_of_getElem? hσ)
  have e0:ρ0 (i+1)=ρ n:=by show(match (k::σ)[i+1]? with|some n=>ρ n|none=>none)=ρ n;simp[hσ]
  by_cases hcd:c = .dead
  . subst hcd;trivial
  refine view_one hM hn hb e0 (fun _ h=>h) (fun _ _ h=>h) (fun l hl hpos hin => ?_) (fun l ty' xs hbe hl hin => ?_)
  . cases b with
    |own ty' sz' m' g'=>exact others n _ l hnk hn rfl hl (.inl hin)
    |ro sz' m' g'=>
     obtain⟨q,hr,ho'⟩:=hM.ok n _ hn
     exact(ho'.2 l hl).2.1 (hpos _ _ _ rfl) (bmay _ (.inl hin))
    |fz sz' m' g'=>
     obtain⟨q,hr,ho'⟩:=hM.ok n _ hn
     exact zm _ ((ho'.2 l hl).2.1 (hpos _ _ _ rfl)) (.inl hin)
    |cells ty' xs=>exact others n _ l hnk hn rfl hl (.inl hin)
    |map es=>exact others n _ l hnk hn rfl hl (.inl hin)
    |mix ty' xs=>exact others n _ l hnk hn rfl hl (.inl hin)
    |fm m' q'=>exact others n _ l hnk hn rfl hl (.inl hin)
    |lp T' fe ps asg bd st=>exact others n _ l hnk hn rfl hl (.inl hin)
    |rc ty' xs=>
     obtain⟨l',hl',_,hnm,_⟩:=hM.ok n _ hn
     rw[hl] at hl';obtain rfl:=Option.some.inj hl'
     exact hnm (bmay _ (.inl hin))
    |dead=>cases c<;>first|exact absurd rfl hcd|exact hb.elim | (obtain⟨_,_,h1,_⟩:=hb;cases h1;done) | (obtain⟨_,h1|h1,_⟩:=hb<;>cases h1)
  . rcases hbe with rfl|rfl
    . exact others n _ l hnk hn rfl hl (.inl hin)
    . obtain⟨l',hl',_,hnm,_⟩:=hM.ok n _ hn
      rw[hl] at hl';obtain rfl:=Option.some.inj hl'
      exact hnm (bmay _ (.inl hin))
 have hM0:MRel B' ρ0 (.cells ty xs::V) w:=by
  refine⟨Nat.le_refl _,fun i c hc => ?_,fun i j c d l l' hne h1 h2 o1 o2 => ?_,zm,fun _ h=>by rw[hz0];exact h,fun j hj=>by rw[hz0] at hj;exact⟨(hM.zhi j hj).1,.inl hj⟩,fun i c l hc ho' hl hz => ?_,fun j hj=>by rw[hz0] at hj;exact .inl hj⟩
  . cases i with
    |zero=>
     simp only[List.getElem?_cons_zero,Option.some.injEq] at hc
     subst hc
     obtain⟨l,e,h0,_,hh⟩:=hbk
     exact⟨l,h00.trans e,h0,.inl (by show l.blk∈(ρ.loc k).toList.map (·.blk);rw[show ρ.loc k=some l from e];simp),by rw[hxs];exact hh⟩
    |succ i=>
     simp only[List.getElem?_cons_succ] at hc
     exact(hV i c hc).2
  . cases i with
    |zero=>cases j with
     |zero=>exact absurd rfl hne
     |succ j=>simp only[List.getElem?_cons_succ] at h2;rw[(hV j d h2).1] at o2;cases o2
    |succ i=>simp only[List.getElem?_cons_succ] at h1;rw[(hV i c h1).1] at o1;cases o1
  . rw[hz0] at hz
    cases i with
    |zero=>exact hM.zown k _ l hk rfl (h00.symm.trans hl) hz
    |succ i=>simp only[List.getElem?_cons_succ] at hc;rw[(hV i c hc).1] at ho';cases ho'
 have kept:∀ w',Kept B' w w'→Kept B w w':=fun w' hw=>⟨hw.os,hw.tape,hw.output,hw.size,fun i hi=>hw.block i fun h=>hi (bmay i h),hw.dq,hw.lq⟩
 have hrun:=calls_run_p hΓ hf hb hm T hT n (1+V.length) (B:=B') (M0:=.cells ty xs::V) (ρ0:=ρ0) (args:=args0) (fun w' hw=>hG w' (kept w' hw)) hsc hM0 (by simp;omega) h
 rw[hargs] at hrun
 refine hrun.mono ?_
 rintro e w' ⟨p,ρ1,sv,M1,rfl,hΦ,hM1,_,hw,_,hρ1⟩
 have zs:∀ j,ρ.z j→w'.heap[j]? = w.heap[j]? := fun j hj=>hw.block j (zm j hj)
 have keepM:∀ (ρc:Val),(∀ j,j<M.length→ρc j=ρ j)→(∀ j,ρ.z j→ρc.z j)→∀ (i:Nat) (c:Blk),i≠k→M[i]? = some c→c.ok B ρc i w':=fun ρc hold hzz i c hne hi=>by
  have h1:c.ok B ρ i w':=c.ok_same (hM.ok i c hi) (fun j hj=>hw.block j fun h=>hj (bmay j h)) zs fun ho' l hl=>hw.block _ (others i c l hne hi ho' hl)
  exact h1.elim_congr (m:=M.length) hold hzz (List.getElem?_eq_some_iff.1 hi).1 (List.all_eq_true.1 hwf c (List.mem_of_getElem? hi))
 cases p with
 |some v=>
  refine⟨some v,.junk,M.set k .dead,ρ,rfl,hΦ,⟨Nat.le_trans hM.size hw.size,fun i c hc => ?_,fun i j c d l l' hne h1 h2 o1 o2 e1 e2 => ?_,hM.zb,hM.zlo,fun j hj=>⟨Nat.lt_of_lt_of_le (hM.zhi j hj).1 hw.size,(hM.zhi j hj).2⟩,fun i c l hc ho' hl hzl => ?_,fun j hj => ?_⟩,?_,by rw[List.length_set];exact Nat.le_refl _,fun _ _=>rfl,kept w' hw⟩
  . rcases set_look hc with⟨_,rfl⟩ | ⟨hne,hi⟩
    . trivial
    . exact keepM ρ (fun _ _=>rfl) (fun _ h=>h) i c hne hi
  . rcases set_look h1 with⟨_,rfl⟩ | ⟨_,hi⟩
    . cases o1
    . rcases set_look h2 with⟨_,rfl⟩ | ⟨_,hj⟩
      . cases o2
      . exact hM.apart i j c d l l' hne hi hj o1 o2 e1 e2
  . rcases set_look hc with⟨_,rfl⟩ | ⟨_,hi⟩
    . cases ho'
    . exact hM.zown i c l hi ho' hl hzl
  . exact(hM.zc j hj).imp_right fun hc=>hc.same (zs j hj)
  . rw[List.length_set,List.all_eq_true]
    intro c hc
    rcases List.mem_or_eq_of_mem_set hc with h1|rfl
    . exact List.all_eq_true.1 hwf c h1
    . rfl
 |none=>
  obtain⟨xs',xsC,tp,as0,hc0,hag,hscC,hT0,hKn⟩:=hΦ
  obtain⟨ys,b,as1,rfl,hlen,hv1,hb1,he1⟩:=hT0
  let z':Nat→Prop:=fun j=>ρ.z j∨(w.heap.size≤j∧isC w' j)
  have h0b:(Blk.cells ty xs').ok B' ρ1 0 w':=hM1.ok 0 _ hc0
  have e10:ρ1 0=ρ k:=(hρ1 0 (by omega)).trans h00
  have kx:∀ j,j∈x→∃ l,ρ1 0=some l∧l.blk=j:=fun j hj=>by
   obtain⟨l,hl,e⟩:=inx j hj;exact⟨l,e10.trans hl,e⟩
  have zsub:∀ j,ρ1.z j→z' j:=fun j hj=>by
   rcases (hM1.zhi j hj).2 with h|h
   . exact .inl h
   . rcases hM1.zc j hj with h2|h2
     . exact .inl h2
     . rcases h with h|h
       . obtain⟨l,hl,rfl⟩:=kx j h
         exact absurd hj (hM1.zown 0 _ l hc0 rfl hl)
       . exact .inr ⟨h,h2⟩
  have lies:Lies eltZ z' ρ1 M1:=by
   refine⟨fun b r h => ?_,fun n b l hn hl ⟨sz,m,g,hk',hp⟩ => ?_⟩
   . cases b with
     |none=>cases h
     |some b=>cases b<;>first|exact h|cases h
   . cases b with
     |fz sz' m' g'=>
      simp only[eltZ,Option.some.injEq,Prod.mk.injEq] at hk'
      obtain⟨rfl,rfl,rfl⟩:=hk'
      obtain⟨q,hr,ho⟩:=hM1.ok n _ hn
      exact zsub _ ((ho.2 l hl).2.1 hp)
     |own ty' sz' m' g'=>
      have hmay:=(Blk.ok_lt (hM1.ok n _ hn) rfl hl).1
      obtain⟨q,hr,ho⟩:=hM1.ok n _ hn
      rcases ho.2 with⟨h0,_⟩ | ⟨l',cur,hl',_,_,hh,_⟩
      . rw[hl] at h0;cases h0
      . rw[hl] at hl';obtain rfl:=Option.some.inj hl'
        rcases hmay with h|h
        . obtain⟨l0,hl0,e0⟩:=kx _ h
          have hn0:n≠0:=fun e=>by
           subst e
           rw[hc0] at hn;cases hn
          exact absurd e0.symm (hM1.apart n 0 _ _ l l0 hn0 hn hc0 rfl rfl hl hl0)
        . exact .inr ⟨h,cur,_,_,hh⟩
     |_=>cases hk'
  have h1:=(topA_ok hM1 lies hv1 hb1).eqv he1
  have h2:TopAL z' z' w' as0 (denL ρ1 ys):=TopAL.mono zsub h1
  obtain⟨ρ',f1,f2,f3,f4,f5⟩:=namA_ok (B:=B) (z:=true) (zz:=z') (fun k hk=>hk) as0 _ ⟨ρ.loc,z'⟩ M.length rfl h2
  have hold:∀ j,j<M.length→ρ' j=ρ j:=fun j hj=>f2 j (by omega)
  have zz:∀ j,ρ.z j→ρ'.z j:=fun j hj=>by rw[f1];exact .inl hj
  have look:∀ (i:Nat) (c:Blk),(M.set k (.cells ty xsC)++(namA true M.length as0).2)[i]? = some c→(i=k∧c = .cells ty xsC)∨(i≠k∧i<M.length∧M[i]? = some c) ∨ ∃ j,i=M.length+j∧(namA true M.length as0).2[j]? = some c:=fun i c hc=>by
   rcases Nat.lt_or_ge i M.length with hlt|hge
   . rw[List.getElem?_append_left (by simpa using hlt)] at hc
     rcases set_look hc with h | ⟨h1,h2⟩
     . exact .inl h
     . exact .inr (.inl ⟨h1,hlt,h2⟩)
   . rw[List.getElem?_append_right (by simpa using hge),List.length_set] at hc
     exact .inr (.inr ⟨i-M.length,by omega,hc⟩)
  have old:∀ (i:Nat) (c:Blk) (l:Loc),(M.set k (.cells ty xsC)++(namA true M.length as0).2)[i]? = some c→c.isOwn=true→ρ' i=some l→i<M.length∧ρ i=some l∧l.blk<w.heap.size∧∃ d,M[i]? = some d∧d.isOwn=true:=fun i c l hc ho hl=>by
   rcases look i c hc with⟨rfl,rfl⟩ | ⟨hne,hlt,hi⟩ | ⟨j,rfl,hj⟩
   . rw[hold i hklt] at hl
     exact⟨hklt,hl,(Blk.ok_lt hbk rfl hl).2,_,hk,rfl⟩
   . rw[hold i hlt] at hl
     exact⟨hlt,hl,(Blk.ok_lt (hM.ok i c hi) ho hl).2,_,hi,ho⟩
   . rw[(f4 j c hj).2] at ho;cases ho
  have hden:denL ρ1 xs'=denL ρ' xsC:=hag ρ' ρ1 fun i hi=>by
   cases i with
   |zero=>exact⟨k,rfl,e10.trans (hold k hklt).symm⟩
   |succ i=>
    have hi':i<V.length:=by omega
    obtain⟨n,b,hσ,hn,_⟩:=hv.get i _ (List.getElem?_eq_getElem hi')
    have hlt:n<M.length:=(List.getElem?_eq_some_iff.1 hn).1
    refine⟨n,hσ,?_⟩
    rw[hρ1 (i+1) hi,hold n hlt]
    show(match (k::σ)[i+1]? with|some n=>ρ n|none=>none)=ρ n
    simp[hσ]
  refine⟨none,_,_,ρ',?_,hKn,⟨Nat.le_trans hM.size hw.size,fun i c hc => ?_,fun i j c d l l' hne h1 h2 o1 o2 e1 e2 => ?_,hM.zb,fun j hj=>zz j (hM.zlo j hj),fun j hj => ?_,fun i c l hc ho' hl hzl => ?_,fun j hj => ?_⟩,?_,by rw[List.length_append,List.length_set];omega,hold,kept w' hw⟩
  . show Ending.returned _=Ending.returned _
    rw[outA_den f3.symm hlen]
  . rcases look i c hc with⟨rfl,rfl⟩ | ⟨hne,hlt,hi⟩ | ⟨j,rfl,hj⟩
    . obtain⟨l,e,h0,_,hh⟩:=h0b
      have e':ρ i=some l:=e10.symm.trans e
      exact⟨l,(hold i hklt).trans e',h0,bmay _ (.inl (by show l.blk∈(ρ.loc i).toList.map (·.blk);rw[show ρ.loc i=some l from e'];simp)),by rw[← hden];exact hh⟩
    . exact keepM ρ' hold zz i c hne hi
    . exact(f4 j c hj).1
  . obtain⟨a1,a2,_,c',a3,a4⟩:=old i c l h1 o1 e1
    obtain⟨b1,b2,_,d',b3,b4⟩:=old j d l' h2 o2 e2
    exact hM.apart i j c' d' l l' hne a3 b3 a4 b4 a2 b2
  . rw[f1] at hj
    rcases hj with hj | ⟨hj,hc⟩
    . exact⟨Nat.lt_of_lt_of_le (hM.zhi j hj).1 hw.size,(hM.zhi j hj).2⟩
    . obtain⟨cur,_,_,hh⟩:=hc
      exact⟨(Array.getElem?_eq_some_iff.1 hh).1,.inr (.inr (Nat.le_trans hM.size hj))⟩
  . obtain⟨a1,a2,a5,c',a3,a4⟩:=old i c l hc ho' hl
    rw[f1] at hzl
    rcases hzl with hzl | ⟨hzl,_⟩
    . exact hM.zown i c' l a3 a4 a2 hzl
    . omega
  . rw[f1] at hj
    rcases hj with hj | ⟨_,hc⟩
    . exact(hM.zc j hj).imp_right fun hc=>hc.same (zs j hj)
    . exact .inr hc
  . rw[List.all_eq_true]
    intro c hc
    rcases List.mem_append.1 hc with hc|hc
    . rcases List.mem_or_eq_of_mem_set hc with h1|rfl
      . exact Blk.sc_mono (fun n hn=>by simp only[decide_eq_true_eq,List.length_append,List.length_set] at hn ⊢;omega) c (List.all_eq_true.1 hwf c h1)
      . exact scL_mono (fun n hn=>by simp only[decide_eq_true_eq,List.length_append,List.length_set] at hn ⊢;omega) _ hscC
    . exact namA_bsc as0 M.length c hc
def EndYR (M:List Blk)(k nn sz off len:Nat)(ty:TypeId)(K:Option Value→SV→List Blk→Prop):Option Value→SV→List Blk→Prop
 |some v,_,_=>K (some v) .junk (M.set k .dead)
 |none,x,M1=>∃ (e o2 l2:Nat) (ds2:List SV) (tp:Bool) (as0:List AV),nth M1 0=some (.cells ty (.sl e sz o2 l2::ds2))∧scL (fun _=>false) ds2=true∧TellsC tp as0 x M1∧
   ((e=1∧o2+l2≤len∧K none (outA tp (namA true M.length as0).1) (M.set k (.cells ty (.sl nn sz (off+o2) l2::ds2))++((namA true M.length as0).2++[.ro sz 0 (fun _=>[])]))) ∨
    (l2=0∧K none (outA tp (namA true M.length as0).1) (M.set k (.cells ty (.sl (M.length+(namA true M.length as0).2.length) sz 0 0::ds2))++((namA true M.length as0).2++[.ro sz 0 (fun _=>[])]))))
theorem ds_den {ρ ρ':Val}{ds:List SV}(h:scL (fun _=>false) ds=true):denL ρ ds=denL ρ' ds:=denL_congr (p:=fun _=>false) (fun n hn=>by cases hn) ds h
theorem sl_shift {ρ ρ':Val}{e N sz o l:Nat}(h:ρ' N=(ρ e).map fun q=>⟨q.blk,q.off+o*sz,q.cap-o,q.sp,q.ok.imp_left fun h=>by omega⟩):(SV.sl e sz o l).den ρ=(SV.sl N sz 0 l).den ρ':=by
 simp only[SV.den,h]
 cases ρ e with
 |none=>simp
 |some q=>simp[Loc.sp0]
theorem yread_top (hΓ:EnvOk P G Γ){f:FuncId}{fn:Func}(hf:P.funcs[f]? = some fn)(hb:fn.body.isSome=true)(hm:Okay P)(T:Tbl)(hT:codeOk T (bodyOf fn)=true)(n:Nat){o:Nat}{M:List Blk}{k nn sz off len m:Nat}{ty:TypeId}{ds:List SV}{g:Nat→List FV}(g':Nat→List FV){K:Option Value→SV→List Blk→Prop}
  (hk:M[k]? = some (.cells ty (.sl nn sz off len::ds))) (hwf:M.all (Blk.sc fun n=>decide (n<M.length))=true) (hn:M[nn]? = some (.ro sz m g)) (hle:off+len≤m) (hg:∀ i,i<len→g' i=g (off+i)) (hds:scL (fun _=>false) ds=true)
  (h:run P Γ n T 2 (bodyOf fn) (initF fn [.ptr 0 o]) [.cells ty (.sl 1 sz 0 len::ds),.ro sz len g'] (retKP P fn (EndYR M k nn sz off len ty K))):
  ∀ (B:Bd) (ρ:Val) (w:World),(∀ w',Kept B w w'→G w')→MRel B ρ M w→Calls P f (denL ρ [.ptr k o]).toArray w fun e w'=>
    ∃ (p:Option Value) (sv:SV) (M':List Blk) (ρ':Val),e=endS p sv ρ'∧K p sv M'∧MRel B ρ' M' w'∧M'.all (Blk.sc fun n=>decide (n<M'.length))=true∧M.length≤M'.length∧(∀ k,k<M.length→ρ' k=ρ k)∧Kept B w w':=by
 intro B ρ w hG hM
 have hklt:k<M.length:=(List.getElem?_eq_some_iff.1 hk).1
 have hbk:=hM.ok k _ hk
 let x:List Nat:=(ρ k).toList.map (·.blk)
 let B':Bd:=⟨w.heap.size,x,ρ.z⟩
 have inx:∀ j,j∈x→∃ l,ρ k=some l∧l.blk=j:=fun j hj=>by
  cases hl:ρ k with
  |none=>simp[x,hl] at hj
  |some l=>simp[x,hl] at hj;exact⟨l,rfl,hj.symm⟩
 have bmay:∀ j,B'.may j→B.may j:=fun j hj=>by
  rcases hj with hj|hj
  . obtain⟨l,hl,rfl⟩:=inx j hj
    exact(Blk.ok_lt hbk rfl hl).1
  . exact .inr (Nat.le_trans hM.size hj)
 have zm:∀ j,ρ.z j → ¬ B'.may j:=fun j hj hm=>by
  rcases hm with hm|hm
  . obtain⟨l,hl,rfl⟩:=inx j hm
    exact hM.zown k _ l hk rfl hl hj
  . exact absurd (hM.zhi j hj).1 (Nat.not_lt_of_le hm)
 have others:∀ (i:Nat) (b:Blk) (l:Loc),i≠k→M[i]? = some b→b.isOwn=true→ρ i=some l → ¬ B'.may l.blk:=fun i b l hne hi ho' hl hm=>by
  rcases hm with hm|hm
  . obtain⟨lk,hlk,he⟩:=inx _ hm
    exact hM.apart i k b _ l lk hne hi hk ho' rfl hl hlk he.symm
  . exact absurd (Blk.ok_lt (hM.ok i b hi) ho' hl).2 (Nat.not_lt_of_le hm)
 let V:List Blk:=[.ro sz len g']
 let xs:List SV:=.sl 1 sz 0 len::ds
 let ρ0:Val:=⟨fun i=>if i=0 then ρ k else if i=1 then (ρ nn).map fun l=>⟨l.blk,l.off+off*sz,l.cap-off,l.sp,l.ok.imp_left fun h=>by omega⟩ else none,ρ.z⟩
 have hz0:ρ0.z=ρ.z:=rfl
 have h00:ρ0 0=ρ k:=rfl
 have h01:ρ0 1=(ρ nn).map fun l=>⟨l.blk,l.off+off*sz,l.cap-off,l.sp,l.ok.imp_left fun h=>by omega⟩:=rfl
 have hbn:=hM.ok nn _ hn
 have hxs:denL ρ0 xs=denL ρ (.sl nn sz off len::ds):=by
  simp only[xs,denL]
  rw[sl_shift h01,ds_den hds]
 have hV:∀ (i:Nat) (c:Blk),V[i]? = some c→c.isOwn=false∧c.ok B' ρ0 (i+1) w:=fun i c hc=>by
  cases i with
  |succ i=>simp[V] at hc
  |zero=>
   obtain rfl:Blk.ro sz len g'=c:=by simpa [V] using hc
   refine⟨rfl,ro_part hM.size hbn rfl hle hg (fun _ h=>h) h01 (fun l hl hp hin => ?_)⟩
   obtain⟨q,hr,ho'⟩:=hbn
   exact(ho'.2 l hl).2.1 (by omega) (bmay _ (.inl hin))
 have hsc:okSt [.ptr 0 o] (.cells ty xs::V)=true:=by
  simp only[okSt,scL,SV.sc,scAll,Blk.sc,V,xs,List.all_cons,List.all_nil,List.length_cons,List.length_nil,Bool.and_true,Bool.and_eq_true]
  exact⟨by simp,by simp,scL_mono (fun n hn=>by cases hn) _ hds⟩
 have hargs:denL ρ0 [.ptr 0 o]=denL ρ [.ptr k o]:=by simp only[denL,SV.den,h00]
 have hM0:MRel B' ρ0 (.cells ty xs::V) w:=by
  refine⟨Nat.le_refl _,fun i c hc => ?_,fun i j c d l l' hne h1 h2 o1 o2 => ?_,zm,fun _ h=>by rw[hz0];exact h,fun j hj=>by rw[hz0] at hj;exact⟨(hM.zhi j hj).1,.inl hj⟩,fun i c l hc ho' hl hz => ?_,fun j hj=>by rw[hz0] at hj;exact .inl hj⟩
  . cases i with
    |zero=>
     simp only[List.getElem?_cons_zero,Option.some.injEq] at hc
     subst hc
     obtain⟨l,e,h0,_,hh⟩:=hbk
     exact⟨l,h00.trans e,h0,.inl (by show l.blk∈(ρ.loc k).toList.map (·.blk);rw[show ρ.loc k=some l from e];simp),by rw[hxs];exact hh⟩
    |succ i=>
     simp only[List.getElem?_cons_succ] at hc
     exact(hV i c hc).2
  . cases i with
    |zero=>cases j with
     |zero=>exact absurd rfl hne
     |succ j=>simp only[List.getElem?_cons_succ] at h2;rw[(hV j d h2).1] at o2;cases o2
    |succ i=>simp only[List.getElem?_cons_succ] at h1;rw[(hV i c h1).1] at o1;cases o1
  . rw[hz0] at hz
    cases i with
    |zero=>exact hM.zown k _ l hk rfl (h00.symm.trans hl) hz
    |succ i=>simp only[List.getElem?_cons_succ] at hc;rw[(hV i c hc).1] at ho';cases ho'
 have kept:∀ w',Kept B' w w'→Kept B w w':=fun w' hw=>⟨hw.os,hw.tape,hw.output,hw.size,fun i hi=>hw.block i fun h=>hi (bmay i h),hw.dq,hw.lq⟩
 have hrun:=calls_run_p hΓ hf hb hm T hT n 2 (B:=B') (M0:=.cells ty xs::V) (ρ0:=ρ0) (args:=[.ptr 0 o]) (fun w' hw=>hG w' (kept w' hw)) hsc hM0 (by simp[V]) h
 rw[hargs] at hrun
 refine hrun.mono ?_
 rintro e w' ⟨p,ρ1,sv,M1,rfl,hΦ,hM1,_,hw,_,hρ1⟩
 have zs:∀ j,ρ.z j→w'.heap[j]? = w.heap[j]? := fun j hj=>hw.block j (zm j hj)
 have keepM:∀ (ρc:Val),(∀ j,j<M.length→ρc j=ρ j)→(∀ j,ρ.z j→ρc.z j)→∀ (i:Nat) (c:Blk),i≠k→M[i]? = some c→c.ok B ρc i w':=fun ρc hold hzz i c hne hi=>by
  have h1:c.ok B ρ i w':=c.ok_same (hM.ok i c hi) (fun j hj=>hw.block j fun h=>hj (bmay j h)) zs fun ho' l hl=>hw.block _ (others i c l hne hi ho' hl)
  exact h1.elim_congr (m:=M.length) hold hzz (List.getElem?_eq_some_iff.1 hi).1 (List.all_eq_true.1 hwf c (List.mem_of_getElem? hi))
 cases p with
 |some v=>
  refine⟨some v,.junk,M.set k .dead,ρ,rfl,hΦ,⟨Nat.le_trans hM.size hw.size,fun i c hc => ?_,fun i j c d l l' hne h1 h2 o1 o2 e1 e2 => ?_,hM.zb,hM.zlo,fun j hj=>⟨Nat.lt_of_lt_of_le (hM.zhi j hj).1 hw.size,(hM.zhi j hj).2⟩,fun i c l hc ho' hl hzl => ?_,fun j hj => ?_⟩,?_,by rw[List.length_set];exact Nat.le_refl _,fun _ _=>rfl,kept w' hw⟩
  . rcases set_look hc with⟨_,rfl⟩ | ⟨hne,hi⟩
    . trivial
    . exact keepM ρ (fun _ _=>rfl) (fun _ h=>h) i c hne hi
  . rcases set_look h1 with⟨_,rfl⟩ | ⟨_,hi⟩
    . cases o1
    . rcases set_look h2 with⟨_,rfl⟩ | ⟨_,hj⟩
      . cases o2
      . exact hM.apart i j c d l l' hne hi hj o1 o2 e1 e2
  . rcases set_look hc with⟨_,rfl⟩ | ⟨_,hi⟩
    . cases ho'
    . exact hM.zown i c l hi ho' hl hzl
  . exact(hM.zc j hj).imp_right fun hc=>hc.same (zs j hj)
  . rw[List.length_set,List.all_eq_true]
    intro c hc
    rcases List.mem_or_eq_of_mem_set hc with h1|rfl
    . exact List.all_eq_true.1 hwf c h1
    . rfl
 |none=>
  obtain⟨e1,o2,l2,ds2,tp,as0,hc0,hd2,hT0,hor⟩:=hΦ
  rw[nth_eq] at hc0
  let xs':List SV:=.sl e1 sz o2 l2::ds2
  let N:Nat:=M.length+(namA true M.length as0).2.length
  let lN:Option Loc:=(ρ1 e1).map fun q=>⟨q.blk,q.off+o2*sz,q.cap-o2,q.sp,q.ok.imp_left fun h=>by omega⟩
  obtain⟨ys,b,as1,rfl,hlen,hv1,hb1,he1⟩:=hT0
  let z':Nat→Prop:=fun j=>ρ.z j∨(w.heap.size≤j∧isC w' j)
  have h0b:(Blk.cells ty xs').ok B' ρ1 0 w':=hM1.ok 0 _ hc0
  have e10:ρ1 0=ρ k:=(hρ1 0 (by omega)).trans h00
  have kx:∀ j,j∈x→∃ l,ρ1 0=some l∧l.blk=j:=fun j hj=>by
   obtain⟨l,hl,e⟩:=inx j hj;exact⟨l,e10.trans hl,e⟩
  have zsub:∀ j,ρ1.z j→z' j:=fun j hj=>by
   rcases (hM1.zhi j hj).2 with h|h
   . exact .inl h
   . rcases hM1.zc j hj with h2|h2
     . exact .inl h2
     . rcases h with h|h
       . obtain⟨l,hl,rfl⟩:=kx j h
         exact absurd hj (hM1.zown 0 _ l hc0 rfl hl)
       . exact .inr ⟨h,h2⟩
  have lies:Lies eltZ z' ρ1 M1:=by
   refine⟨fun b r h => ?_,fun n b l hn hl ⟨sz,m,g,hk',hp⟩ => ?_⟩
   . cases b with
     |none=>cases h
     |some b=>cases b<;>first|exact h|cases h
   . cases b with
     |fz sz' m' g'=>
      simp only[eltZ,Option.some.injEq,Prod.mk.injEq] at hk'
      obtain⟨rfl,rfl,rfl⟩:=hk'
      obtain⟨q,hr,ho⟩:=hM1.ok n _ hn
      exact zsub _ ((ho.2 l hl).2.1 hp)
     |own ty' sz' m' g'=>
      have hmay:=(Blk.ok_lt (hM1.ok n _ hn) rfl hl).1
      obtain⟨q,hr,ho⟩:=hM1.ok n _ hn
      rcases ho.2 with⟨h0,_⟩ | ⟨l',cur,hl',_,_,hh,_⟩
      . rw[hl] at h0;cases h0
      . rw[hl] at hl';obtain rfl:=Option.some.inj hl'
        rcases hmay with h|h
        . obtain⟨l0,hl0,e0⟩:=kx _ h
          have hn0:n≠0:=fun e=>by
           subst e
           rw[hc0] at hn;cases hn
          exact absurd e0.symm (hM1.apart n 0 _ _ l l0 hn0 hn hc0 rfl rfl hl hl0)
        . exact .inr ⟨h,cur,_,_,hh⟩
     |_=>cases hk'
  have h1:=(topA_ok hM1 lies hv1 hb1).eqv he1
  have h2:TopAL z' z' w' as0 (denL ρ1 ys):=TopAL.mono zsub h1
  obtain⟨ρa,f1,f2,f3,f4,f5⟩:=namA_ok (B:=B) (z:=true) (zz:=z') (fun k hk=>hk) as0 _ ⟨ρ.loc,z'⟩ M.length rfl h2
  let ρ':Val:=⟨fun i=>if i=N then lN else ρa i,ρa.z⟩
  have hN:ρ' N=lN:=by show(if N=N then lN else _)=lN;rw[if_pos rfl]
  have hNa:∀ i,i<N→ρ' i=ρa i:=fun i hi=>by show(if i=N then lN else _)=_;rw[if_neg (by omega)]
  have f1':ρ'.z=z':=f1
  have hnnk:nn<M.length:=(List.getElem?_eq_some_iff.1 hn).1
  obtain⟨slC,hslC,hscS,hKn⟩:∃ slC:SV,(SV.sl e1 sz o2 l2).den ρ1=slC.den ρ'∧slC.sc (fun n=>decide (n<N+1))=true∧K none (outA tp (namA true M.length as0).1) (M.set k (.cells ty (slC::ds2))++((namA true M.length as0).2++[.ro sz 0 (fun _=>[])])):=by
   rcases hor with⟨rfl,hlen2,hK⟩ | ⟨h0,hK⟩
   . refine⟨.sl nn sz (off+o2) l2,?_,?_,hK⟩
     . have e11:ρ1 1=ρ0 1:=hρ1 1 (by omega)
       have enn:ρ' nn=ρ nn:=(hNa nn (by show nn<M.length+_;omega)).trans (f2 nn (by omega))
       simp only[SV.den,e11,h01,enn]
       cases ρ nn with
       |none=>simp
       |some q=>simp[Loc.sp0,Nat.add_mul,Nat.add_assoc,Nat.sub_sub]
     . simp only[SV.sc,decide_eq_true_eq];show nn<M.length+_+1;omega
   . subst h0
     refine⟨.sl N sz 0 0,sl_shift hN,?_,hK⟩
     simp only[SV.sc,decide_eq_true_eq];omega
  let xsC:List SV:=slC::ds2
  have hold:∀ j,j<M.length→ρ' j=ρ j:=fun j hj=>(hNa j (by show j<M.length+_;omega)).trans (f2 j (by omega))
  have zz:∀ j,ρ.z j→ρ'.z j:=fun j hj=>by rw[f1'];exact .inl hj
  have look:∀ (i:Nat) (c:Blk),(M.set k (.cells ty xsC)++((namA true M.length as0).2++[.ro sz 0 (fun _=>[])]))[i]? = some c→(i=k∧c = .cells ty xsC)∨(i≠k∧i<M.length∧M[i]? = some c)∨(∃ j,i=M.length+j∧(namA true M.length as0).2[j]? = some c)∨(i=N∧c = .ro sz 0 (fun _=>[])):=fun i c hc=>by
   rcases Nat.lt_or_ge i M.length with hlt|hge
   . rw[List.getElem?_append_left (by simpa using hlt)] at hc
     rcases set_look hc with h | ⟨h1,h2⟩
     . exact .inl h
     . exact .inr (.inl ⟨h1,hlt,h2⟩)
   . rw[List.getElem?_append_right (by simpa using hge),List.length_set] at hc
     rcases Nat.lt_or_ge (i-M.length) (namA true M.length as0).2.length with hl|hl
     . rw[List.getElem?_append_left hl] at hc
       exact .inr (.inr (.inl ⟨i-M.length,by omega,hc⟩))
     . rw[List.getElem?_append_right hl] at hc
       obtain⟨h0,h1⟩:=List.getElem?_eq_some_iff.1 hc
       simp only[List.length_singleton] at h0
       refine .inr (.inr (.inr ⟨by show i=M.length+_;omega,?_⟩))
       rw[← h1]
       simp
  have old:∀ (i:Nat) (c:Blk) (l:Loc),(M.set k (.cells ty xsC)++((namA true M.length as0).2++[.ro sz 0 (fun _=>[])]))[i]? = some c→c.isOwn=true→ρ' i=some l→i<M.length∧ρ i=some l∧l.blk<w.heap.size∧∃ d,M[i]? = some d∧d.isOwn=true:=fun i c l hc ho hl=>by
   rcases look i c hc with⟨rfl,rfl⟩ | ⟨hne,hlt,hi⟩ | ⟨j,rfl,hj⟩ | ⟨_,rfl⟩
   . rw[hold i hklt] at hl
     exact⟨hklt,hl,(Blk.ok_lt hbk rfl hl).2,_,hk,rfl⟩
   . rw[hold i hlt] at hl
     exact⟨hlt,hl,(Blk.ok_lt (hM.ok i c hi) ho hl).2,_,hi,ho⟩
   . rw[(f4 j c hj).2] at ho;cases ho
   . cases ho
  have hden:denL ρ1 xs'=denL ρ' xsC:=by
   simp only[xs',xsC,denL]
   rw[hslC,ds_den hd2]
  have hro:(Blk.ro sz 0 (fun _=>[])).ok B ρ' N w':=⟨fun _=>[],fun i hi=>absurd hi (Nat.not_lt_zero i),fun _=>rfl,fun l hl=>⟨Nat.zero_le _,fun h=>absurd h (Nat.lt_irrefl 0),fun i hi=>absurd hi (Nat.not_lt_zero i)⟩⟩
  refine⟨none,_,_,ρ',?_,hKn,⟨Nat.le_trans hM.size hw.size,fun i c hc => ?_,fun i j c d l l' hne h1 h2 o1 o2 e1 e2 => ?_,hM.zb,fun j hj=>zz j (hM.zlo j hj),fun j hj => ?_,fun i c l hc ho' hl hzl => ?_,fun j hj => ?_⟩,?_,by rw[List.length_append,List.length_set];omega,hold,kept w' hw⟩
  . show Ending.returned _=Ending.returned _
    have hd:denL ρ' (namA true M.length as0).1=denL ρa (namA true M.length as0).1:=denL_congr (p:=fun n=>decide (n<M.length+(namA true M.length as0).2.length)) (fun n hn=>hNa n (by simpa using hn)) _ f5
    rw[outA_den (f3.symm.trans hd.symm) hlen]
  . rcases look i c hc with⟨rfl,rfl⟩ | ⟨hne,hlt,hi⟩ | ⟨j,rfl,hj⟩ | ⟨rfl,rfl⟩
    . obtain⟨l,e,h0,_,hh⟩:=h0b
      have e':ρ i=some l:=e10.symm.trans e
      exact⟨l,(hold i hklt).trans e',h0,bmay _ (.inl (by show l.blk∈(ρ.loc i).toList.map (·.blk);rw[show ρ.loc i=some l from e'];simp)),by rw[← hden];exact hh⟩
    . exact keepM ρ' hold zz i c hne hi
    . have hj0:j < (namA true M.length as0).2.length:=(List.getElem?_eq_some_iff.1 hj).1
      exact(f4 j c hj).1.elim_congr (m:=N) (ρ:=ρa) (ρ':=ρ') (fun i hi=>hNa i hi) (fun _ h=>h) (by show M.length+j<M.length+_;omega) (namA_bsc as0 M.length c (List.mem_of_getElem? hj))
    . exact hro
  . obtain⟨a1,a2,_,c',a3,a4⟩:=old i c l h1 o1 e1
    obtain⟨b1,b2,_,d',b3,b4⟩:=old j d l' h2 o2 e2
    exact hM.apart i j c' d' l l' hne a3 b3 a4 b4 a2 b2
  . rw[f1'] at hj
    rcases hj with hj | ⟨hj,hc⟩
    . exact⟨Nat.lt_of_lt_of_le (hM.zhi j hj).1 hw.size,(hM.zhi j hj).2⟩
    . obtain⟨cur,_,_,hh⟩:=hc
      exact⟨(Array.getElem?_eq_some_iff.1 hh).1,.inr (.inr (Nat.le_trans hM.size hj))⟩
  . obtain⟨a1,a2,a5,c',a3,a4⟩:=old i c l hc ho' hl
    rw[f1'] at hzl
    rcases hzl with hzl | ⟨hzl,_⟩
    . exact hM.zown i c' l a3 a4 a2 hzl
    . omega
  . rw[f1'] at hj
    rcases hj with hj | ⟨_,hc⟩
    . exact(hM.zc j hj).imp_right fun hc=>hc.same (zs j hj)
    . exact .inr hc
  . rw[List.all_eq_true]
    intro c hc
    rcases List.mem_append.1 hc with hc|hc
    . rcases List.mem_or_eq_of_mem_set hc with h1|rfl
      . exact Blk.sc_mono (fun n hn=>by simp only[decide_eq_true_eq,List.length_append,List.length_set] at hn ⊢;omega) c (List.all_eq_true.1 hwf c h1)
      . simp only[Blk.sc,xsC,scL,Bool.and_eq_true]
        exact⟨SV.sc_mono (fun n hn=>by simp only[decide_eq_true_eq,List.length_append,List.length_set,List.length_singleton] at hn ⊢;have:n<M.length+(namA true M.length as0).2.length+1:=hn;omega) _ hscS,scL_mono (fun n hn=>by cases hn) _ hd2⟩
    . rcases List.mem_append.1 hc with hc|hc
      . exact namA_bsc as0 M.length c hc
      . obtain rfl:=List.mem_singleton.1 hc
        rfl
end
end Go.Sx
