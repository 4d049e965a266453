import Derived.Test.YtfjemlegodhfnaaGreatM17
set_option linter.all false
namespace Go.Sx
open Go.RowKit Go.Proofs.YtfjemlegodhfnaaGreat
mutual
def shS (m:Nat):SV→SV
 | .agg xs=>.agg (shL m xs)
 | .tup xs=>.tup (shL m xs)
 | .ptr n off=>.ptr (m+n) off
 | .ep n i sz j=>.ep (m+n) i sz j
 | .sl n sz off len=>.sl (m+n) sz off len
 | .mp n=>.mp (m+n)
 | .yld n=>.yld (m+n)
 | .nilb n=>.nilb (m+n)
 | .arr n sz g=>.arr n sz g
 | .mix xs=>.mix (shL m xs)
 | .fn f a b=>.fn f (shL m a) (shL m b)
 | .junk=>.junk
 | .val v=>.val v
 | .tt=>.tt
 | .ff=>.ff
 | .bool b=>.bool b
 | .int k n=>.int k n
 | .u64 x=>.u64 x
def shL (m:Nat):List SV→List SV
 |[]=>[]
 |x::l=>shS m x::shL m l
end
def shB (m:Nat):Blk→Blk
 | .cells ty xs=>.cells ty (shL m xs)
 | .fz sz n g=>.fz sz n g
 | .own ty sz n g=>.own ty sz n g
 | .map es=>.map (es.map fun p=>(shS m p.1,shS m p.2))
 | .mix ty xs=>.mix ty (shL m xs)
 |_=>.dead
def ownM:Blk→Bool
 | .dead=>true
 | .cells .. => true
 | .fz .. => true
 | .own .. => true
 | .map .. => true
 |_=>false
theorem shS_item (m:Nat)(x:SV)(v:Value):itemL (shS m x) v=itemL x v:=by cases x<;>rfl
theorem shL_mix (m:Nat):∀ (l:List SV) (vs:List Value),mixL (shL m l) vs=mixL l vs
 |[],_=>rfl
 |x::l,[]=>rfl
 |x::l,v::vs=>by simp only[shL,mixL,shS_item,shL_mix m l vs]
mutual
theorem shS_den {m:Nat}{ρ ρ':Val}{p:Nat→Bool}(h:∀ n,p n=true→ρ' (m+n)=ρ n):∀ x:SV,x.sc p=true→(shS m x).den ρ'=x.den ρ
 | .junk,_=>rfl
 | .val _,_=>rfl
 | .tt,_=>rfl
 | .ff,_=>rfl
 | .bool _,_=>rfl
 | .int _ _,_=>rfl
 | .u64 _,_=>rfl
 | .agg xs,hs=>by simp only[SV.sc] at hs;simp only[shS,SV.den,shL_den h xs hs]
 | .tup xs,hs=>by simp only[SV.sc] at hs;simp only[shS,SV.den,shL_den h xs hs]
 | .ptr n _,hs=>by simp only[SV.sc] at hs;simp only[shS,SV.den,h n hs]
 | .ep n _ _ _,hs=>by simp only[SV.sc] at hs;simp only[shS,SV.den,h n hs]
 | .sl n _ _ _,hs=>by simp only[SV.sc] at hs;simp only[shS,SV.den,h n hs]
 | .mp n,hs=>by simp only[SV.sc] at hs;simp only[shS,SV.den,h n hs]
 | .yld n,hs=>by simp only[SV.sc] at hs;simp only[shS,SV.den,h n hs]
 | .nilb n,hs=>by simp only[SV.sc] at hs;simp only[shS,SV.den,h n hs]
 | .arr _ _ _,_=>rfl
 | .mix xs,hs=>by simp only[SV.sc] at hs;simp only[shS,SV.den,shL_den h xs hs,shL_mix]
 | .fn _ a b,hs=>by simp only[SV.sc,Bool.and_eq_true] at hs;simp only[shS,SV.den,shL_den h a hs.1,shL_den h b hs.2]
theorem shL_den {m:Nat}{ρ ρ':Val}{p:Nat→Bool}(h:∀ n,p n=true→ρ' (m+n)=ρ n):∀ l:List SV,scL p l=true→denL ρ' (shL m l)=denL ρ l
 |[],_=>rfl
 |x::l,hs=>by simp only[scL,Bool.and_eq_true] at hs;simp only[shL,denL,shS_den h x hs.1,shL_den h l hs.2]
end
theorem shB_own {m:Nat}{b:Blk}(h:ownM b=true):(shB m b).isOwn=b.isOwn:=by cases b<;>first|rfl|cases h
theorem scL_map {p:Nat→Bool}{l:List SV}:scL p l=l.all (SV.sc p):=scL_eq p l
theorem shB_ok {B B':Bd}{ρ ρ':Val}{m k:Nat}{w:World}{p:Nat→Bool}{b:Blk}(ho:ownM b=true)(hs:b.sc p=true)(h:∀ n,p n=true→ρ' (m+n)=ρ n)(hk:ρ' (m+k)=ρ k)(hz:∀ j,ρ.z j→ρ'.z j)(hB:∀ j,B'.may j→B.may j)(hb:b.ok B' ρ k w):(shB m b).ok B ρ' (m+k) w:=by
 cases b with
 |dead=>trivial
 |cells ty xs=>
  obtain⟨l,e,h0,h1,h2⟩:=hb
  exact⟨l,by rw[hk];exact e,h0,hB _ h1,by rw[shL_den h xs hs];exact h2⟩
 |fz sz n g=>
  obtain⟨q,hr,ho⟩:=hb
  exact⟨q,fun i hi=>(hr i hi).mono hz (fun _ _=>rfl),ho.congr hk hz⟩
 |own ty sz n g=>
  obtain⟨q,hr,h1,h2⟩:=hb
  refine⟨q,fun i hi=>(hr i hi).mono hz (fun _ _=>rfl),h1,?_⟩
  rw[hk]
  rcases h2 with h2 | ⟨l,cur,a1,a2,a3,a4⟩
  . exact .inl h2
  . exact .inr ⟨l,cur,a1,a2,hB _ a3,a4⟩
 |map es=>
  obtain⟨l,arr,cnt,e,h1,h2,h3⟩:=hb
  have hes:esD ρ' (es.map fun p=>(shS m p.1,shS m p.2))=esD ρ es:=by
   simp only[Blk.sc,Bool.and_eq_true,scL_eq,List.all_map,List.all_eq_true] at hs
   simp only[esD,List.map_map]
   refine List.map_congr_left fun q hq => ?_
   simp only[Function.comp]
   rw[shS_den h q.1 (hs.1 q hq),shS_den h q.2 (hs.2 q hq)]
  exact⟨l,arr,cnt,by rw[hk];exact e,hB _ h1,h2,by rw[hes];exact h3.perm,by rw[hes];exact h3.nodup⟩
 |rc=>cases ho
 |ro=>cases ho
 |fm=>cases ho
 |mix=>cases ho
 |lp=>cases ho
def Tells (sv0:SV)(nb0:List Blk):SV→List Blk→Prop:=fun x M1=>∃ σ,nodN σ=true∧MLe (renMs M1 σ σ) nb0∧∃ y,renS σ x=some y∧∀ ρ,y.den ρ=sv0.den ρ
theorem tells_new {B:Bd}{ρ ρ1:Val}{M M1:List Blk}{w w':World}{sv0 x:SV}{nb0:List Blk}(hM:MRel B ρ M w)(h:Tells sv0 nb0 x M1)(hM1:MRel ⟨w.heap.size,[],ρ.z⟩ ρ1 M1 w')(ho:nb0.all ownM=true)(hsc:okSt [sv0] nb0=true):
  ∃ ρ':Val,x.den ρ1=(shS M.length sv0).den ρ'∧Val.Ext w.heap.size (fun n => ¬ (M.length≤n∧n<M.length+nb0.length)) ρ ρ'∧New B w.heap.size ρ' M.length (nb0.map (shB M.length)) w':=by
 obtain⟨σ,hn,hle,y,hy,hden⟩:=h
 obtain⟨z,hz,hz1,hz2⟩:=(hM1.ren (nodN_iff hn)).le hle
 have fresh:∀ j,(⟨w.heap.size,[],ρ.z⟩:Bd).may j→w.heap.size≤j:=fun j hj=>hj.elim (fun h=>by cases h) fun h=>h
 let ρ':Val:=⟨fun i=>if M.length≤i∧i<M.length+nb0.length then renρ σ ρ1 (i-M.length) else ρ i,z⟩
 have hin:∀ k,k<nb0.length→ρ' (M.length+k)=renρ σ ρ1 k:=fun k hk=>by
  show(if M.length≤M.length+k∧M.length+k<M.length+nb0.length then renρ σ ρ1 (M.length+k-M.length) else _)=_
  rw[if_pos ⟨by omega,by omega⟩]
  congr 1;omega
 simp only[okSt,Bool.and_eq_true,scL] at hsc
 refine⟨ρ',?_,⟨fun i hi => ?_,fun j hj=>hz.zlo j hj,fun j hj => ?_⟩,⟨fun k b hb => ?_,fun k b l hb hown hl => ?_,fun i j b c l k hne h1 h2 o1 o2 e1 e2 => ?_,fun k b l hb hown hl => ?_,fun j hj=>(hz.zhi j hj).1,fun j hj hl => ?_⟩⟩
 . rw[shS_den (ρ:=renρ σ ρ1) (p:=fun n=>decide (n<nb0.length)) (fun n hn=>hin n (by simpa using hn)) sv0 hsc.1.1,← hden,(renS_den hy).1]
 . show(if M.length≤i∧i<M.length+nb0.length then _ else ρ i)=ρ i
   rw[if_neg hi]
 . exact(hz.zhi j hj).2.imp_right (fresh j)
 . rw[List.getElem?_map,Option.map_eq_some_iff] at hb
   obtain⟨b0,hb0,rfl⟩:=hb
   have hk:k<nb0.length:=(List.getElem?_eq_some_iff.1 hb0).1
   exact shB_ok (ρ:=⟨(renρ σ ρ1).loc,z⟩) (p:=fun n=>decide (n<nb0.length)) (List.all_eq_true.1 ho b0 (List.mem_of_getElem? hb0)) (List.all_eq_true.1 hsc.2 b0 (List.mem_of_getElem? hb0)) (fun n hn=>hin n (by simpa using hn)) (hin k hk) (fun _ h=>h) (fun j hj=>.inr (Nat.le_trans hM.size (fresh j hj))) (hz.ok k b0 hb0)
 . rw[List.getElem?_map,Option.map_eq_some_iff] at hb
   obtain⟨b0,hb0,rfl⟩:=hb
   have hk:k<nb0.length:=(List.getElem?_eq_some_iff.1 hb0).1
   rw[shB_own (List.all_eq_true.1 ho b0 (List.mem_of_getElem? hb0))] at hown
   rw[hin k hk] at hl
   exact fresh _ (Blk.ok_lt (hz.ok k b0 hb0) hown hl).1
 . rw[List.getElem?_map,Option.map_eq_some_iff] at h1 h2
   obtain⟨b0,hb0,rfl⟩:=h1
   obtain⟨c0,hc0,rfl⟩:=h2
   rw[shB_own (List.all_eq_true.1 ho b0 (List.mem_of_getElem? hb0))] at o1
   rw[shB_own (List.all_eq_true.1 ho c0 (List.mem_of_getElem? hc0))] at o2
   rw[hin i (List.getElem?_eq_some_iff.1 hb0).1] at e1
   rw[hin j (List.getElem?_eq_some_iff.1 hc0).1] at e2
   exact hz.apart i j b0 c0 l k hne hb0 hc0 o1 o2 e1 e2
 . rw[List.getElem?_map,Option.map_eq_some_iff] at hb
   obtain⟨b0,hb0,rfl⟩:=hb
   have hk:k<nb0.length:=(List.getElem?_eq_some_iff.1 hb0).1
   rw[shB_own (List.all_eq_true.1 ho b0 (List.mem_of_getElem? hb0))] at hown
   rw[hin k hk] at hl
   exact hz.zown k b0 l hb0 hown hl
 . rcases hz.zc j hj with hz'|hc
   . have hz'':ρ.z j:=hz'
     have:=(hM.zhi j hz'').1;omega
   . exact hc
theorem ctr_gen {P:Program}{G:World→Prop}(hG:Stable G){Γ:Env}(hΓ:EnvOk P G Γ){f:FuncId}{fn:Func}(hf:P.funcs[f]? = some fn)(hb:fn.body.isSome=true)(hm:Okay P)(T:Tbl)(hT:codeOk T (bodyOf fn)=true)(n:Nat)(σ:List Nat)(args0:List SV)(M0:List Blk)
  {args:List SV} {M:List Blk} (sv0:SV) (nb0:List Blk) {sv:SV} {nb:List Blk} (hargs:∀ ρ,denL (renρ σ ρ) args0=denL ρ args) (hsc:okSt args0 M0=true) (hv:View M σ σ M0) (hsv:sv=shS M.length sv0) (hnb:nb=nb0.map (shB M.length)) (ho:nb0.all ownM=true) (hok:okSt [sv0] nb0=true)
  (h:run P Γ n T 0 (bodyOf fn) (initF fn args0) M0 (retK P fn (Tells sv0 nb0))):
  ∀ (B:Bd) (ρ:Val) (w:World),G w→MRel B ρ M w→Calls P f (denL ρ args).toArray w fun e w'=>
    ∃ (ρ':Val) (v:Value),e = .returned v∧(sv ≠ .junk→v=sv.den ρ')∧Val.Ext w.heap.size (fun n => ¬ (M.length≤n∧n<M.length+nb.length)) ρ ρ'∧Below w.heap.size w w'∧New B w.heap.size ρ' M.length nb w':=by
 intro B ρ w hGw hM
 have hrun:=calls_run hG hΓ hf hb hm T hT n (M0:=M0) (ρ0:=renρ σ ρ) (args:=args0) hGw hsc (View.rel hM hv) h
 rw[hargs] at hrun
 refine hrun.mono ?_
 rintro e w' ⟨ρ1,x,M',rfl,hx,hM',hw⟩
 obtain⟨ρ',h1,h2,h3⟩:=tells_new hM hx hM' ho hok
 subst hsv hnb
 exact⟨ρ',_,rfl,fun _=>h1,by simpa using h2,hw,h3⟩
theorem ctr_bar {P:Program}{G:World→Prop}{f:FuncId}{args:List SV}{M:List Blk}{sv:SV}{nb:List Blk}(h:∀ (B:Bd) (ρ:Val) (w:World),G w→MRel B ρ M w→Calls P f (denL ρ args).toArray w fun e w'=>
   ∃ (ρ':Val) (v:Value),e = .returned v∧(sv ≠ .junk→v=sv.den ρ')∧Val.Ext w.heap.size (fun n => ¬ (M.length≤n∧n<M.length+nb.length)) ρ ρ'∧Below w.heap.size w w'∧New B w.heap.size ρ' M.length nb w'):
  ∀ (B:Bd) (ρ:Val) (w:World),(∀ w',Kept B w w'→G w')→M.all (Blk.sc fun n=>decide (n<M.length))=true→MRel B ρ M w→Calls P f (denL ρ args).toArray w fun e w'=>
    ∃ (ρ':Val) (v:Value),e = .returned v∧(sv ≠ .junk→v=sv.den ρ')∧(∀ n,n<M.length→ρ' n=ρ n)∧Kept B w w'∧MRel B ρ' (M++nb) w':=by
 intro B ρ w hG hwf hM
 refine(h B ρ w (hG w (Kept.refl _ _)) hM).mono ?_
 rintro e w' ⟨ρ',v,h1,h2,h3,h4,h5⟩
 have h3':Val.Ext w.heap.size (fun n=>n<M.length) ρ ρ':=h3.mono (fun n hn=>by omega) (Nat.le_refl _)
 exact⟨ρ',v,h1,h2,h3'.eq,Kept.of_below hM.size h4,hM.grown hwf h3' h4 h5⟩
theorem bctr_core {P:Program}{G:World→Prop}{Γ:Env}(hΓ:EnvOk P G Γ){f:FuncId}{fn:Func}(hf:P.funcs[f]? = some fn)(hb:fn.body.isSome=true)(hm:Okay P)(T:Tbl)(hT:codeOk T (bodyOf fn)=true)(n:Nat)(args0:List SV)(V:List Blk)
  {args:List SV} {M:List Blk} {k:Nat} {ty:TypeId} {sz m:Nat} {g0 g:Nat→List FV} (sv0:SV) (nb0:List Blk) {sv:SV} {M':List Blk} (hk:M[k]? = some (.own ty sz m g0)) (hg0:∀ i,i<m→g i=g0 i)
  (hsc:okSt args0 (.own ty sz m g::V)=true)
  (hview:∀ (B:Bd) (ρ:Val) (w:World),MRel B ρ M w→(∀ j,(⟨w.heap.size,(ρ k).toList.map (·.blk),ρ.z⟩:Bd).may j→B.may j)→(∀ j,ρ.z j → ¬ (⟨w.heap.size,(ρ k).toList.map (·.blk),ρ.z⟩:Bd).may j)→(∀ (i:Nat) (b:Blk) (l:Loc),i≠k→M[i]? = some b→b.isOwn=true→ρ i=some l → ¬ (⟨w.heap.size,(ρ k).toList.map (·.blk),ρ.z⟩:Bd).may l.blk)→
    ∃ ρ0:Val,ρ0.z=ρ.z∧ρ0 0=ρ k∧denL ρ0 args0=denL ρ args∧∀ (i:Nat) (c:Blk),V[i]? = some c→c.isOwn=false∧c.ok ⟨w.heap.size,(ρ k).toList.map (·.blk),ρ.z⟩ ρ0 (i+1) w) (hsv:sv=shS M.length sv0) (hnb:M'=M.set k .dead++nb0.map (shB M.length)) (ho:nb0.all ownM=true) (hok:okSt [sv0] nb0=true)
  (h:run P Γ n T 0 (bodyOf fn) (initF fn args0) (.own ty sz m g::V) (retK P fn (Tells sv0 nb0))):
  ∀ (B:Bd) (ρ:Val) (w:World),(∀ w',Kept B w w'→G w')→M.all (Blk.sc fun n=>decide (n<M.length))=true→MRel B ρ M w→Calls P f (denL ρ args).toArray w fun e w'=>
    ∃ (ρ':Val) (v:Value),e = .returned v∧(sv ≠ .junk→v=sv.den ρ')∧(∀ n,n<M.length→ρ' n=ρ n)∧Kept B w w'∧MRel B ρ' M' w':=by
 intro B ρ w hG hwf hM
 have hklt:k<M.length:=(List.getElem?_eq_some_iff.1 hk).1
 have hbk:=own_congr (hM.ok k _ hk) hg0
 let x:List Nat:=(ρ k).toList.map (·.blk)
 let B':Bd:=⟨w.heap.size,x,ρ.z⟩
 have inx:∀ j,j∈x→∃ l,ρ k=some l∧l.blk=j:=fun j hj=>by
  cases hl:ρ k with
  |none=>simp[x,hl] at hj
  |some l=>simp[x,hl] at hj;exact⟨l,rfl,hj.symm⟩
 have bmay:∀ j,B'.may j→B.may j:=fun j hj=>by
  rcases hj with hj|hj
  . obtain⟨l,hl,rfl⟩:=inx j hj
    exact(Blk.ok_lt (hM.ok k _ hk) rfl hl).1
  . exact .inr (Nat.le_trans hM.size hj)
 have zm:∀ j,ρ.z j → ¬ B'.may j:=fun j hj hm=>by
  rcases hm with hm|hm
  . obtain⟨l,hl,rfl⟩:=inx j hm
    exact hM.zown k _ l hk rfl hl hj
  . exact absurd (hM.zhi j hj).1 (Nat.not_lt_of_le hm)
 have others:∀ (i:Nat) (b:Blk) (l:Loc),i≠k→M[i]? = some b→b.isOwn=true→ρ i=some l → ¬ B'.may l.blk:=fun i b l hne hi ho' hl hm=>by
  rcases hm with hm|hm
  . obtain⟨lk,hlk,he⟩:=inx _ hm
    exact hM.apart i k b _ l lk hne hi hk ho' rfl hl hlk he.symm
  . exact absurd (Blk.ok_lt (hM.ok i b hi) ho' hl).2 (Nat.not_lt_of_le hm)
 obtain⟨ρ0,hz0,h00,hargs,hV⟩:=hview B ρ w hM bmay zm others
 have hM0:MRel B' ρ0 (.own ty sz m g::V) w:=by
  refine⟨Nat.le_refl _,fun i c hc => ?_,fun i j c d l l' hne h1 h2 o1 o2 => ?_,zm,fun _ h=>by rw[hz0];exact h,fun j hj=>by rw[hz0] at hj;exact⟨(hM.zhi j hj).1,.inl hj⟩,fun i c l hc ho' hl hz => ?_,fun j hj=>by rw[hz0] at hj;exact .inl hj⟩
  . cases i with
    |zero=>
     simp only[List.getElem?_cons_zero,Option.some.injEq] at hc
     subst hc
     obtain⟨q,hr,h1,h2⟩:=hbk
     refine⟨q,fun i hi=>by rw[hz0];exact hr i hi,h1,?_⟩
     rcases h2 with⟨e,h0⟩ | ⟨l,cur,e,h0,_,h2⟩
     . exact .inl ⟨h00.trans e,h0⟩
     . exact .inr ⟨l,cur,h00.trans e,h0,.inl (by show l.blk∈(ρ.loc k).toList.map (·.blk);rw[show ρ.loc k=some l from e];simp),h2⟩
    |succ i=>
     simp only[List.getElem?_cons_succ] at hc
     exact(hV i c hc).2
  . cases i with
    |zero=>cases j with
     |zero=>exact absurd rfl hne
     |succ j=>simp only[List.getElem?_cons_succ] at h2;rw[(hV j d h2).1] at o2;cases o2
    |succ i=>simp only[List.getElem?_cons_succ] at h1;rw[(hV i c h1).1] at o1;cases o1
  . rw[hz0] at hz
    cases i with
    |zero=>exact hM.zown k _ l hk rfl (h00.symm.trans hl) hz
    |succ i=>simp only[List.getElem?_cons_succ] at hc;rw[(hV i c hc).1] at ho';cases ho'
 have kept:∀ w',Kept B' w w'→Kept B w w':=fun w' hw=>⟨hw.os,hw.tape,hw.output,hw.size,fun i hi=>hw.block i fun h=>hi (bmay i h),hw.dq,hw.lq⟩
 have hrun:=calls_run_at hΓ hf hb hm T hT n (B:=B') (M0:=.own ty sz m g::V) (ρ0:=ρ0) (args:=args0) (fun w' hw=>hG w' (kept w' hw)) hsc hM0 h
 rw[hargs] at hrun
 refine hrun.mono ?_
 rintro e w' ⟨ρ1,y,M1,rfl,⟨τ,hnod,hle,y',hy,hden⟩,hM1,hw⟩
 obtain⟨z,hz,hz1,hz2⟩:=(hM1.ren (nodN_iff hnod)).le hle
 let ρ':Val:=⟨fun i=>if M.length≤i∧i<M.length+nb0.length then renρ τ ρ1 (i-M.length) else ρ i,z⟩
 have hin:∀ j,j<nb0.length→ρ' (M.length+j)=renρ τ ρ1 j:=fun j hj=>by
  show(if M.length≤M.length+j∧M.length+j<M.length+nb0.length then renρ τ ρ1 (M.length+j-M.length) else _)=_
  rw[if_pos ⟨by omega,by omega⟩]
  congr 1;omega
 have hold:∀ j,j<M.length→ρ' j=ρ j:=fun j hj=>by
  show(if M.length≤j∧j<M.length+nb0.length then _ else ρ j)=ρ j
  rw[if_neg (by omega)]
 have zs:∀ j,ρ.z j→w'.heap[j]? = w.heap[j]? := fun j hj=>hw.block j (zm j hj)
 simp only[okSt,Bool.and_eq_true,scL] at hok
 have look:∀ (i:Nat) (c:Blk),M'[i]? = some c→(i<M.length∧(c = .dead∨(i≠k∧M[i]? = some c))) ∨ ∃ (j:Nat) (b0:Blk),i=M.length+j∧j<nb0.length∧nb0[j]? = some b0∧c=shB M.length b0∧ownM b0=true:=by
  intro i c hc
  rw[hnb] at hc
  rcases Nat.lt_or_ge i M.length with hlt|hge
  . rw[List.getElem?_append_left (by simpa using hlt),List.getElem?_set] at hc
    split at hc
    . rename_i e;subst e
      simp only[hlt,if_true,Option.some.injEq] at hc
      exact .inl ⟨hlt,.inl hc.symm⟩
    . rename_i hne;exact .inl ⟨hlt,.inr ⟨Ne.symm hne,hc⟩⟩
  . rw[List.getElem?_append_right (by simpa using hge)] at hc
    simp only[List.length_set,List.getElem?_map,Option.map_eq_some_iff] at hc
    obtain⟨b0,hb0,rfl⟩:=hc
    exact .inr ⟨i-M.length,b0,by omega,(List.getElem?_eq_some_iff.1 hb0).1,hb0,rfl,List.all_eq_true.1 ho b0 (List.mem_of_getElem? hb0)⟩
 have newmay:∀ (j:Nat) (b0:Blk) (l:Loc),nb0[j]? = some b0→b0.isOwn=true→renρ τ ρ1 j=some l→B'.may l.blk:=fun j b0 l hb0 ho' hl=>(Blk.ok_lt (hz.ok j b0 hb0) ho' hl).1
 refine⟨ρ',_,rfl,fun _ => ?_,hold,kept w' hw,⟨Nat.le_trans hM.size hw.size,fun i c hc => ?_,fun i j c d l l' hne h1 h2 o1 o2 e1 e2 => ?_,hM.zb,fun j hj=>hz.zlo j (hM.zlo j hj),fun j hj=>⟨(hz.zhi j hj).1,?_⟩,fun i c l hc ho' hl hzl => ?_,fun j hj => ?_⟩⟩
 . rw[hsv,shS_den (ρ:=renρ τ ρ1) (p:=fun n=>decide (n<nb0.length)) (fun n hn=>hin n (by simpa using hn)) sv0 hok.1.1,← hden,(renS_den hy).1]
 . rcases look i c hc with⟨hlt,rfl | ⟨hne,hi⟩⟩ | ⟨j,b0,rfl,hj,hb0,rfl,hown⟩
   . trivial
   . have h1:c.ok B ρ i w':=c.ok_same (hM.ok i c hi) (fun j hj=>hw.block j fun h=>hj (bmay j h)) zs fun ho' l hl=>hw.block _ (others i c l hne hi ho' hl)
     exact h1.elim_congr (m:=M.length) hold (fun j hj=>hz.zlo j hj) hlt (List.all_eq_true.1 hwf c (List.mem_of_getElem? hi))
   . exact shB_ok (ρ:=⟨(renρ τ ρ1).loc,z⟩) (p:=fun n=>decide (n<nb0.length)) hown (List.all_eq_true.1 hok.2 b0 (List.mem_of_getElem? hb0)) (fun n hn=>hin n (by simpa using hn)) (hin j hj) (fun _ h=>h) bmay (hz.ok j b0 hb0)
 . rcases look i c h1 with⟨hlt,rfl | ⟨hnk,hi⟩⟩ | ⟨a,b0,rfl,ha,hb0,rfl,hown⟩
   . cases o1
   . rw[hold i hlt] at e1
     rcases look j d h2 with⟨hlt',rfl | ⟨hnk',hj⟩⟩ | ⟨a',b0',rfl,ha',hb0',rfl,hown'⟩
     . cases o2
     . rw[hold j hlt'] at e2
       exact hM.apart i j c d l l' hne hi hj o1 o2 e1 e2
     . rw[shB_own hown'] at o2
       rw[hin a' ha'] at e2
       exact fun he=>others i c l hnk hi o1 e1 (he▸newmay a' b0' l' hb0' o2 e2)
   . rw[shB_own hown] at o1
     rw[hin a ha] at e1
     rcases look j d h2 with⟨hlt',rfl | ⟨hnk',hj⟩⟩ | ⟨a',b0',rfl,ha',hb0',rfl,hown'⟩
     . cases o2
     . rw[hold j hlt'] at e2
       exact fun he=>others j d l' hnk' hj o2 e2 (he▸newmay a b0 l hb0 o1 e1)
     . rw[shB_own hown'] at o2
       rw[hin a' ha'] at e2
       exact hz.apart a a' b0 b0' l l' (fun e=>hne (by rw[e])) hb0 hb0' o1 o2 e1 e2
 . rcases (hz.zhi j hj).2 with h|h
   . exact(hM.zhi j h).2
   . exact .inr (bmay j h)
 . rcases look i c hc with⟨hlt,rfl | ⟨hnk,hi⟩⟩ | ⟨a,b0,rfl,ha,hb0,rfl,hown⟩
   . cases ho'
   . rw[hold i hlt] at hl
     rcases (hz.zhi _ hzl).2 with h|h
     . exact hM.zown i c l hi ho' hl h
     . exact others i c l hnk hi ho' hl h
   . rw[shB_own hown] at ho'
     rw[hin a ha] at hl
     exact hz.zown a b0 l hb0 ho' hl hzl
 . rcases hz.zc j hj with h|h
   . exact(hM.zc j h).imp_right fun hc=>hc.same (zs j h)
   . exact .inr h
theorem bctr_gen {P:Program}{G:World→Prop}{Γ:Env}(hΓ:EnvOk P G Γ){f:FuncId}{fn:Func}(hf:P.funcs[f]? = some fn)(hb:fn.body.isSome=true)(hm:Okay P)(T:Tbl)(hT:codeOk T (bodyOf fn)=true)(n:Nat)(σ:List Nat)(args0:List SV)(V:List Blk)
  {args:List SV} {M:List Blk} {k:Nat} {ty:TypeId} {sz m:Nat} {g0 g:Nat→List FV} (sv0:SV) (nb0:List Blk) {sv:SV} {M':List Blk} (hk:M[k]? = some (.own ty sz m g0)) (hg0:∀ i,i<m→g i=g0 i) (hks:k ∉ σ)
  (hargs:∀ ρ,denL (renρ (k::σ) ρ) args0=denL ρ args) (hsc:okSt args0 (.own ty sz m g::V)=true) (hv:View M (k::σ) σ V) (hsv:sv=shS M.length sv0) (hnb:M'=M.set k .dead++nb0.map (shB M.length)) (ho:nb0.all ownM=true) (hok:okSt [sv0] nb0=true)
  (h:run P Γ n T 0 (bodyOf fn) (initF fn args0) (.own ty sz m g::V) (retK P fn (Tells sv0 nb0))):
  ∀ (B:Bd) (ρ:Val) (w:World),(∀ w',Kept B w w'→G w')→M.all (Blk.sc fun n=>decide (n<M.length))=true→MRel B ρ M w→Calls P f (denL ρ args).toArray w fun e w'=>
    ∃ (ρ':Val) (v:Value),e = .returned v∧(sv ≠ .junk→v=sv.den ρ')∧(∀ n,n<M.length→ρ' n=ρ n)∧Kept B w w'∧MRel B ρ' M' w':=by
 refine bctr_core hΓ hf hb hm T hT n args0 V sv0 nb0 hk hg0 hsc (fun B ρ w hM bmay zm others => ?_) hsv hnb ho hok h
 have hp:(renρ (k::σ) ρ).z=ρ.z:=rfl
 refine⟨renρ (k::σ) ρ,rfl,rfl,hargs ρ,fun i c hc => ?_⟩
 obtain⟨n,b,hσ,hn,hb⟩:=hv.get i c hc
 refine⟨by cases c<;>first|rfl|exact hb.elim,?_⟩
 have hnk:n≠k:=fun e=>hks (e▸List.mem_of_getElem? hσ)
 have e0:(renρ (k::σ) ρ) (i+1)=ρ n:=by show(match (k::σ)[i+1]? with|some n=>ρ n|none=>none)=ρ n;simp[hσ]
 by_cases hcd:c = .dead
 . subst hcd;trivial
 refine view_one hM hn hb e0 (fun _ h=>h) (fun _ _ h=>h) (fun l hl hpos hin => ?_) (fun l ty' xs hbe hl hin => ?_)
 . cases b with
   |own ty' sz' m' g'=>exact others n _ l hnk hn rfl hl (.inl hin)
   |ro sz' m' g'=>
    obtain⟨q,hr,ho'⟩:=hM.ok n _ hn
    exact(ho'.2 l hl).2.1 (hpos _ _ _ rfl) (bmay _ (.inl hin))
   |fz sz' m' g'=>
    obtain⟨q,hr,ho'⟩:=hM.ok n _ hn
    exact zm _ ((ho'.2 l hl).2.1 (hpos _ _ _ rfl)) (.inl hin)
   |cells ty' xs=>exact others n _ l hnk hn rfl hl (.inl hin)
   |map es=>exact others n _ l hnk hn rfl hl (.inl hin)
   |mix ty' xs=>exact others n _ l hnk hn rfl hl (.inl hin)
   |fm m' q'=>exact others n _ l hnk hn rfl hl (.inl hin)
   |lp T' fe ps asg bd st=>exact others n _ l hnk hn rfl hl (.inl hin)
   |rc ty' xs=>
    obtain⟨l',hl',_,hnm,_⟩:=hM.ok n _ hn
    rw[hl] at hl';obtain rfl:=Option.some.inj hl'
    exact hnm (bmay _ (.inl hin))
   |dead=>cases c<;>first|exact absurd rfl hcd|exact hb.elim | (obtain⟨_,_,h1,_⟩:=hb;cases h1;done) | (obtain⟨_,h1|h1,_⟩:=hb<;>cases h1)
 . rcases hbe with rfl|rfl
   . exact others n _ l hnk hn rfl hl (.inl hin)
   . obtain⟨l',hl',_,hnm,_⟩:=hM.ok n _ hn
     rw[hl] at hl';obtain rfl:=Option.some.inj hl'
     exact hnm (bmay _ (.inl hin))
end Go.Sx
