import Derived.Test.YtfgkhenhlpoheaaGreatM09
import Derived.Carry
import Derived.Deep.SlicePairs
set_option linter.all false
namespace Go.Sx
open Go.RowKit Go.Proofs.YtfgkhenhlpoheaaGreat
def retK (P:Program)(fn:Func)(Φ:SV→List Blk→Prop):X→List SV→List Blk→Prop
 | .exit _,_,_=>False
 | .panic _,_,_=>False
 | .normal,F,M=>match retS P fn F M with
   |some x=>force3 x fun x=>Φ x M
   |none=>False
 | .ret,F,M=>match retS P fn F M with
   |some x=>force3 x fun x=>Φ x M
   |none=>False
def Stable (G:World→Prop):Prop:=∀ w w',G w→Below w.heap.size w w'→G w'
theorem retK_is {P:Program}{fn:Func}{Φ:SV→List Blk→Prop}{x:X}{F:List SV}{M:List Blk}(h:retK P fn Φ x F M):(x = .normal∨x = .ret)∧∃ sv,retS P fn F M=some sv∧Φ sv M:=by
 cases x with
 |exit id=>exact h.elim
 |panic v=>exact h.elim
 |normal=>
  simp only[retK] at h
  split at h
  . rename_i sv hs;rw[force3_eq] at h;exact⟨.inl rfl,sv,hs,h⟩
  . exact h.elim
 |ret=>
  simp only[retK] at h
  split at h
  . rename_i sv hs;rw[force3_eq] at h;exact⟨.inr rfl,sv,hs,h⟩
  . exact h.elim
theorem calls_run_z {P:Program}{G:World→Prop}{Γ:Env}(hΓ:EnvOk P G Γ){f:FuncId}{fn:Func}(hf:P.funcs[f]? = some fn)(hb:fn.body.isSome=true)(hm:Okay P)(T:Tbl)(hT:codeOk T (bodyOf fn)=true)(n z:Nat){args:List SV}{M0:List Blk}{ρ0:Val}{w:World}{Φ:SV→List Blk→Prop}{B:Bd}(hG:∀ w',Kept B w w'→G w')
  (hsc:okSt args M0=true) (hM:MRel B ρ0 M0 w) (hz:z≤M0.length) (h:run P Γ n T z (bodyOf fn) (initF fn args) M0 (retK P fn Φ)):
  Calls P f (denL ρ0 args).toArray w fun e w'=>∃ (ρ':Val) (sv:SV) (M:List Blk),e = .returned (sv.den ρ')∧Φ sv M∧MRel B ρ' M w'∧scAll M.length M=true∧Kept B w w'∧z≤M.length∧∀ n,n<z→ρ' n=ρ0 n:=by
 have:=body_sound (run_sound hm hΓ n) hf hb hT hG hsc hM hz h (fun x F M hK=>⟨(retK_is hK).1,let ⟨sv,h1,_⟩:=(retK_is hK).2;⟨sv,h1⟩⟩)
 refine(callsIn_wide (n:=0).1 this).mono ?_
 rintro e w' ⟨ρ',sv,x,F',M',rfl,hsv,hK,hM',hsc',hk,hz',hρ'⟩
 obtain⟨_,sv',h1,h2⟩:=retK_is hK
 obtain rfl:sv=sv':=by rw[hsv] at h1;exact Option.some.inj h1
 exact⟨ρ',sv,M',rfl,h2,hM',hsc',hk,hz',hρ'⟩
theorem calls_run_at {P:Program}{G:World→Prop}{Γ:Env}(hΓ:EnvOk P G Γ){f:FuncId}{fn:Func}(hf:P.funcs[f]? = some fn)(hb:fn.body.isSome=true)(hm:Okay P)(T:Tbl)(hT:codeOk T (bodyOf fn)=true)(n:Nat){args:List SV}{M0:List Blk}{ρ0:Val}{w:World}{Φ:SV→List Blk→Prop}{B:Bd}(hG:∀ w',Kept B w w'→G w')
  (hsc:okSt args M0=true) (hM:MRel B ρ0 M0 w) (h:run P Γ n T 0 (bodyOf fn) (initF fn args) M0 (retK P fn Φ)):
  Calls P f (denL ρ0 args).toArray w fun e w'=>∃ (ρ':Val) (sv:SV) (M:List Blk),e = .returned (sv.den ρ')∧Φ sv M∧MRel B ρ' M w'∧Kept B w w':=
 (calls_run_z hΓ hf hb hm T hT n 0 hG hsc hM (Nat.zero_le _) h).mono fun e w' ⟨ρ',sv,M,h1,h2,h3,_,h4,_⟩=>⟨ρ',sv,M,h1,h2,h3,h4⟩
theorem calls_run {P:Program}{G:World→Prop}(hG:Stable G){Γ:Env}(hΓ:EnvOk P G Γ){f:FuncId}{fn:Func}(hf:P.funcs[f]? = some fn)(hb:fn.body.isSome=true)(hm:Okay P)(T:Tbl)(hT:codeOk T (bodyOf fn)=true)(n:Nat){args:List SV}{M0:List Blk}{ρ0:Val}{w:World}{Φ:SV→List Blk→Prop}
  {z:Nat→Prop} (hGw:G w) (hsc:okSt args M0=true) (hM:MRel ⟨w.heap.size,[],z⟩ ρ0 M0 w) (h:run P Γ n T 0 (bodyOf fn) (initF fn args) M0 (retK P fn Φ)):
  Calls P f (denL ρ0 args).toArray w fun e w'=>∃ (ρ':Val) (sv:SV) (M:List Blk),e = .returned (sv.den ρ')∧Φ sv M∧MRel ⟨w.heap.size,[],z⟩ ρ' M w'∧Below w.heap.size w w':=
 (calls_run_at hΓ hf hb hm T hT n (fun w1 h1=>hG w w1 hGw (h1.below rfl)) hsc hM h).mono fun e w' ⟨ρ',sv,M,h1,h2,h3,h4⟩=>⟨ρ',sv,M,h1,h2,h3,h4.below rfl⟩
def eqv1:SV→SV→Prop
 | .tt,.tt=>True
 | .ff,.ff=>True
 | .tt,.bool b=>b=true
 | .ff,.bool b=>b=false
 | .bool b,.tt=>b=true
 | .bool b,.ff=>b=false
 | .bool a,.bool b=>a=b
 | .u64 a,.u64 b=>a=b
 | .int k a,.int k' b=>k=k'∧a=b
 | .val a,.val b=>a=b
 | .fn f [] [],.fn g [] []=>f=g
 |_,_=>False
def eqvL1:List SV→List SV→Prop
 |[],[]=>True
 |x::xs,y::ys=>eqv1 x y∧eqvL1 xs ys
 |_,_=>False
def eqvI:SV→SV→Prop
 | .arr n sz g,.arr n' sz' h=>n=n'∧sz=sz'∧∀ i,i<n→g i=h i
 |x,y=>plS x=true∧plS y=true∧eqv1 x y
def eqvM:List SV→List SV→Prop
 |[],[]=>True
 |x::xs,y::ys=>eqvI x y∧eqvM xs ys
 |_,_=>False
def eqv2:SV→SV→Prop
 | .agg xs,.agg ys=>eqvL1 xs ys
 | .mix xs,.mix ys=>eqvM xs ys
 |x,y=>eqv1 x y
def eqvL2:List SV→List SV→Prop
 |[],[]=>True
 |x::xs,y::ys=>eqv2 x y∧eqvL2 xs ys
 |_,_=>False
def eqv:SV→SV→Prop
 | .agg xs,.agg ys=>eqvL1 xs ys
 | .tup xs,.tup ys=>eqvL2 xs ys
 | .mix xs,.mix ys=>eqvM xs ys
 |x,y=>eqv1 x y
theorem eqv1_den {x y:SV}(h:eqv1 x y):∀ ρ ρ':Val,x.den ρ=y.den ρ':=by
 intro ρ ρ'
 unfold eqv1 at h
 split at h<;>first|exact h.elim|rfl | (simp only[SV.den];simp[h,denL])
theorem eqvL1_den:∀ {xs ys:List SV} (_:eqvL1 xs ys) (ρ ρ':Val),denL ρ xs=denL ρ' ys
 |[],[],_,_,_=>rfl
 |x::xs,y::ys,h,ρ,ρ'=>by simp only[denL,eqv1_den h.1 ρ ρ',eqvL1_den h.2 ρ ρ']
 |[],_::_,h,_,_=>h.elim
 |_::_,[],h,_,_=>h.elim
theorem eqvI_den {x y:SV}(h:eqvI x y)(ρ ρ':Val):itemL x (x.den ρ)=itemL y (y.den ρ'):=by
 unfold eqvI at h
 split at h
 . obtain⟨rfl,rfl,hg⟩:=h
   exact arrL_congr hg
 . rw[plS_item h.1,plS_item h.2.1,eqv1_den h.2.2 ρ ρ']
theorem eqvM_den:∀ {xs ys:List SV} (_:eqvM xs ys) (ρ ρ':Val),mixD ρ xs=mixD ρ' ys
 |[],[],_,_,_=>rfl
 |x::xs,y::ys,h,ρ,ρ'=>by rw[mixD_cons,mixD_cons,eqvI_den h.1 ρ ρ',eqvM_den h.2 ρ ρ']
 |[],_::_,h,_,_=>h.elim
 |_::_,[],h,_,_=>h.elim
theorem eqv2_den {x y:SV}(h:eqv2 x y):∀ ρ ρ':Val,x.den ρ=y.den ρ':=by
 intro ρ ρ'
 unfold eqv2 at h
 split at h
 . simp only[SV.den,eqvL1_den h ρ ρ']
 . simp only[SV.den,eqvM_den h ρ ρ']
 . exact eqv1_den h ρ ρ'
theorem eqvL2_den:∀ {xs ys:List SV} (_:eqvL2 xs ys) (ρ ρ':Val),denL ρ xs=denL ρ' ys
 |[],[],_,_,_=>rfl
 |x::xs,y::ys,h,ρ,ρ'=>by simp only[denL,eqv2_den h.1 ρ ρ',eqvL2_den h.2 ρ ρ']
 |[],_::_,h,_,_=>h.elim
 |_::_,[],h,_,_=>h.elim
theorem eqv_den {x y:SV}(h:eqv x y):∀ ρ ρ':Val,x.den ρ=y.den ρ':=by
 intro ρ ρ'
 unfold eqv at h
 split at h
 . simp only[SV.den,eqvL1_den h ρ ρ']
 . simp only[SV.den,eqvL2_den h ρ ρ']
 . simp only[SV.den,eqvM_den h ρ ρ']
 . exact eqv1_den h ρ ρ'
theorem zlt_sub {B:Bd}{ρ:Val}{M:List Blk}{w:World}(h:MRel B ρ M w):∀ k,ρ.z k → ¬ (⟨w.heap.size,[],ρ.z⟩:Bd).may k:=fun k hk hm=>by
 have:=(h.zhi k hk).1
 rcases hm with hm|hm
 . cases hm
 . exact absurd this (Nat.not_lt_of_le hm)
theorem new_none {B:Bd}{ρ:Val}{M:List Blk}{w w':World}{m:Nat}(h:MRel B ρ M w)(hb:Below w.heap.size w w'):New B w.heap.size ρ m [] w':=New.nil (fun k hk=>(h.zhi k hk).1) hb.size
@[reducible] def noρ:Val:=⟨fun _=>none,fun _=>False⟩
theorem mrel_no {w:World}:MRel ⟨w.heap.size,[],fun _=>False⟩ noρ [] w:=MRel.nil (Nat.le_refl _) (fun _ h=>h.elim) rfl
theorem ctr_flat {P:Program}{G:World→Prop}(hG:Stable G){Γ:Env}(hΓ:EnvOk P G Γ){f:FuncId}{fn:Func}(hf:P.funcs[f]? = some fn)(hb:fn.body.isSome=true)(hm:Okay P)(T:Tbl)(hT:codeOk T (bodyOf fn)=true)(n:Nat){args:List SV}{M:List Blk}{sv:SV}
  (hsc:scL (fun _=>false) args=true) (h:run P Γ n T 0 (bodyOf fn) (initF fn args) [] (retK P fn fun x _=>eqv x sv)):
  ∀ (B:Bd) (ρ:Val) (w:World),G w→MRel B ρ M w→Calls P f (denL ρ args).toArray w fun e w'=>
    ∃ (ρ':Val) (v:Value),e = .returned v∧(sv ≠ .junk→v=sv.den ρ')∧Val.Ext w.heap.size (fun n => ¬ (M.length≤n∧n<M.length+([]:List Blk).length)) ρ ρ'∧Below w.heap.size w w'∧New B w.heap.size ρ' M.length [] w':=by
 intro B ρ w hGw hM
 refine(calls_run hG hΓ hf hb hm T hT n (M0:=[]) (ρ0:=ρ) hGw (by simp[okSt,scAll];exact scL_mono (fun n hn=>by cases hn) _ hsc) (MRel.nil (Nat.le_refl _) (zlt_sub hM) rfl) h).mono ?_
 rintro e w' ⟨ρ',x,M',rfl,hx,hM',hbel⟩
 exact⟨ρ,_,rfl,fun _=>eqv_den hx ρ' ρ,Val.Ext.refl ..,hbel,new_none hM hbel⟩
theorem ctr_ret {P:Program}{f:FuncId}{args:List SV}{M:List Blk}{sv:SV}{ρ:Val}{B:Bd}{w:World}(hM:MRel B ρ M w)(hsv:∀ ρ',sv.den ρ'=sv.den ρ)(h:Calls P f (denL ρ args).toArray w (Ret w (sv.den ρ))):
  Calls P f (denL ρ args).toArray w fun e w'=>
   ∃ (ρ':Val) (v:Value),e = .returned v∧(sv ≠ .junk→v=sv.den ρ')∧Val.Ext w.heap.size (fun n => ¬ (M.length≤n∧n<M.length+([]:List Blk).length)) ρ ρ'∧Below w.heap.size w w'∧New B w.heap.size ρ' M.length [] w':=
 h.mono fun e w' ⟨he,g,hg⟩=>⟨ρ,_,he,fun _=>rfl,Val.Ext.refl ..,hg▸grow_below w g,new_none hM (hg▸grow_below w g)⟩
theorem okNilB {P:Program}{G:World→Prop}:∀ p∈([]:List BCtr),BCtrOk P G p.1 p.2:=fun _ h=>by cases h
theorem okNil {P:Program}{G:World→Prop}:∀ p∈([]:List Ctr),CtrOk P G p.1 p.2:=fun _ h=>by cases h
theorem okCons {P:Program}{G:World→Prop}{g:FuncId}{c:List SV→List Blk→Res}{l:List Ctr}(h:CtrOk P G g c)(t:∀ p∈l,CtrOk P G p.1 p.2):∀ p∈(g,c)::l,CtrOk P G p.1 p.2:=by
 intro p hp
 cases hp with
 |head=>exact h
 |tail _ hp=>exact t p hp
end Go.Sx
namespace Go.Sx
open Go.RowKit Go.Proofs.YtfgkhenhlpoheaaGreat
def takeC:Nat→Code→Code
 |0,_=>.skip
 |k+1,c=>match c with
  | .seq a b=>.seq a (takeC k b)
  |c=>c
def dropC:Nat→Code→Code
 |0,c=>c
 |k+1,c=>match c with
  | .seq _ b=>dropC k b
  |_=>.skip
def chainB:Nat→Code→Bool
 |0,_=>true
 |k+1,c=>match c with
  | .seq _ b=>chainB k b
  |_=>false
section
variable {P:Program}{Γ:Env}{T:Tbl}{z:Nat}
end
end Go.Sx
namespace Go.Sx
def assocS:List (Nat×SV)→Nat→SV→SV
 |[],_,d=>d
 |(j,v)::l,i,d=>match Nat.beq j i with
  |true=>v
  |false=>assocS l i d
def mkFrom (live:List (Nat×SV))(d:Nat→SV):Nat→Nat→List SV
 |0,_=>[]
 |n+1,i=>assocS live i (d i)::mkFrom live d n (i+1)
section
variable {P:Program}{Γ:Env}{T:Tbl}{z:Nat}
end
end Go.Sx
namespace Go.Sx
open Go.RowKit Go.Proofs.YtfgkhenhlpoheaaGreat
section
variable {P:Program}{G:World→Prop}
def forgetK (keep:List Nat)(Q:List SV→List Blk→Prop)(K:X→List SV→List Blk→Prop):X→List SV→List Blk→Prop:=fun e F' M'=>match e with
 | .normal=>∃ (σ:List Nat) (M1:List Blk),nodN σ=true∧MLe (renMs M' σ σ) M1∧okSt (renFL σ (pickF F' keep)) M1=true∧Q (spreadF (junkF F'.length) keep (renFL σ (pickF F' keep))) M1
 |e=>K e F' M'
theorem codeOk_drop {T:Tbl}:∀ (k:Nat) (c:Code),chainB k c=true→codeOk T c=true→codeOk T (dropC k c)=true
 |0,_,_,h=>h
 |k+1,c,hc,h=>by
  cases c with
  |seq a b=>
   simp only[codeOk,Bool.and_eq_true] at h
   exact codeOk_drop k b hc h.2
  |_=>cases hc
theorem cut_sound (hm:Okay P){Γ:Env}(hΓ:EnvOk P G Γ){T:Tbl}{K:X→List SV→List Blk→Prop}{Q:List SV→List Blk→Prop}{keep:List Nat}{B:Bd}{w0:World}{L:LD}{ro:Option Nat}
  (hG:∀ w',Kept B w0 w'→G w') (hBs:B.s≤w0.heap.size) (hro:∀ l,ro=some l→∃ r,w0.heap[l]? = some (Obj.loop r)):
  ∀ (k n:Nat) (c:Code) (F:List SV) (M:List Blk) (ρ:Val) (a:Act) (w:World),codeOk T c=true→chainB k c=true→run P Γ (n+k+1) T 0 (takeC k c) F M (forgetK keep Q K)→Rel B w0 L ρ F M a w→
    (∀ F1 M1 ρ1 a1 w1,Q F1 M1→Rel B w0 L ρ1 F1 M1 a1 w1→wpV ro P (dropC k c) (Post B w0 L ρ1 0 K) a1 w1)→wpV ro P c (Post B w0 L ρ 0 K) a w
 |0,n,c,F,M,ρ,a,w,hT,hc,h,hR,hQ=>by
  have h':forgetK keep Q K .normal F M:=h
  obtain⟨σ,M1,h1,h2,h3,h4⟩:=h'
  obtain⟨zz,hcut⟩:=hR.recut (nodN_iff h1) h2 h3
  have hl:F.length=L.n:=hR.len
  rw[hl] at h4
  refine V_mono (hQ _ _ _ _ _ h4 hcut) ?_
  rintro e a' w' ⟨x',F',M',ρ',rfl,hR',hz',_,hK⟩
  exact⟨x',F',M',ρ',rfl,hR',hz',fun n hn=>absurd hn (Nat.not_lt_zero n),hK⟩
 |k+1,n,c,F,M,ρ,a,w,hT,hc,h,hR,hQ=>by
  cases c with
  |seq x y=>
   simp only[codeOk,Bool.and_eq_true] at hT
   have h':run P Γ (n+k+1) T 0 x F M (fun e F' M'=>match e with
    | .normal=>run P Γ (n+k+1) T 0 (takeC k y) F' M' (forgetK keep Q K)
    |e=>forgetK keep Q K e F' M'):=by
    have h2:run P Γ (n+k+1+1) T 0 (.seq x (takeC k y)) F M (forgetK keep Q K):=h
    rw[run_succ] at h2
    exact h2
   refine V_seq (V_mono (run_sound hm hΓ (n+k+1) T 0 x F M _ ρ a w B w0 L ro hG hBs hro hT.1 (Nat.zero_le _) h' hR) ?_)
   rintro e a' w' ⟨x',F',M',ρ',rfl,hR',hz',hρ',hK⟩
   cases x' with
   |normal=>
    refine V_mono (cut_sound hm hΓ hG hBs hro k n y F' M' ρ' a' w' hT.2 hc hK hR' hQ) ?_
    rintro e a'' w'' ⟨x'',F'',M'',ρ'',rfl,hR'',hz'',_,hK'⟩
    exact⟨x'',F'',M'',ρ'',rfl,hR'',hz'',fun n hn=>absurd hn (Nat.not_lt_zero n),hK'⟩
   |exit id=>exact⟨.exit id,F',M',ρ',rfl,hR',hz',fun n hn=>absurd hn (Nat.not_lt_zero n),hK⟩
   |panic v=>exact⟨.panic v,F',M',ρ',rfl,hR',hz',fun n hn=>absurd hn (Nat.not_lt_zero n),hK⟩
   |ret=>exact⟨.ret,F',M',ρ',rfl,hR',hz',fun n hn=>absurd hn (Nat.not_lt_zero n),hK⟩
  |_=>cases hc
def runs (P:Program)(Γ:Env):List (Nat×Nat×List Nat)→RunT
 |[]=>fun T z c F M K=>z=0∧run P Γ 10000 T 0 c F M K
 |(k,n,keep)::l=>fun T z c F M K=>z=0∧chainB k c=true∧run P Γ (n+k+1) T 0 (takeC k c) F M (forgetK keep (fun F1 M1=>runs P Γ l T 0 (dropC k c) F1 M1 K) K)
theorem runs_sound (hm:Okay P){Γ:Env}(hΓ:EnvOk P G Γ):∀ l,SoundAt P G (runs P Γ l)
 |[]=>by
  intro T z c F M K ρ a w B w0 L ro hG hBs hro hT hz h hR
  obtain⟨rfl,h⟩:=h
  exact run_sound hm hΓ 10000 T 0 c F M K ρ a w B w0 L ro hG hBs hro hT hz h hR
 |(k,n,keep)::l=>by
  intro T z c F M K ρ a w B w0 L ro hG hBs hro hT hz h hR
  obtain⟨rfl,hc,h⟩:=h
  exact cut_sound hm hΓ hG hBs hro k n c F M ρ a w hT hc h hR fun F1 M1 ρ1 a1 w1 hq hR1=>
   runs_sound hm hΓ l T 0 (dropC k c) F1 M1 K ρ1 a1 w1 B w0 L ro hG hBs hro (codeOk_drop k c hc hT) (Nat.zero_le _) hq hR1
theorem calls_runs {Γ:Env}(hG:Stable G)(hΓ:EnvOk P G Γ){f:FuncId}{fn:Func}(hf:P.funcs[f]? = some fn)(hb:fn.body.isSome=true)(hm:Okay P)(T:Tbl)(hT:codeOk T (bodyOf fn)=true)(l:List (Nat×Nat×List Nat)){args:List SV}{M0:List Blk}{ρ0:Val}{w:World}{Φ:SV→List Blk→Prop}
  {z:Nat→Prop} (hGw:G w) (hsc:okSt args M0=true) (hM:MRel ⟨w.heap.size,[],z⟩ ρ0 M0 w) (h:runs P Γ l T 0 (bodyOf fn) (initF fn args) M0 (retK P fn Φ)):
  Calls P f (denL ρ0 args).toArray w fun e w'=>∃ (ρ':Val) (sv:SV) (M:List Blk),e = .returned (sv.den ρ')∧Φ sv M∧MRel ⟨w.heap.size,[],z⟩ ρ' M w'∧Below w.heap.size w w':=by
 have:=body_sound (runs_sound hm hΓ l) hf hb hT (fun w1 h1=>hG w w1 hGw (h1.below rfl)) hsc hM (Nat.zero_le _) h (fun x F M hK=>⟨(retK_is hK).1,let ⟨sv,h1,_⟩:=(retK_is hK).2;⟨sv,h1⟩⟩)
 refine(callsIn_wide (n:=0).1 this).mono ?_
 rintro e w' ⟨ρ',sv,x,F',M',rfl,hsv,hK,hM',hsc',hk,hz',hρ'⟩
 obtain⟨_,sv',h1,h2⟩:=retK_is hK
 obtain rfl:sv=sv':=by rw[hsv] at h1;exact Option.some.inj h1
 exact⟨ρ',sv,M',rfl,h2,hM',hk.below rfl⟩
end
end Go.Sx
namespace Go.Sx
open Go.RowKit Go.Proofs.YtfgkhenhlpoheaaGreat
structure Enc (α:Type) where
 enc:α→List FV
 dec:List FV→α
 is:List FV→Bool
 dft:α
 ok:∀ l,is l=true→enc (dec l)=l
 dec_enc:∀ a,dec (enc a)=a
 is_enc:∀ a,is (enc a)=true
section
variable {α:Type}
def gOf (e:Enc α)(L:List α):Nat→List FV:=fun i=>e.enc (L.getD i e.dft)
def elts (e:Enc α)(off n:Nat)(g:Nat→List FV):List α:=(List.range n).map fun i=>e.dec (g (off+i))
def allIs (e:Enc α)(off n:Nat)(g:Nat→List FV):Bool:=(List.range n).all fun i=>e.is (g (off+i))
theorem elts_length (e:Enc α)(off n:Nat)(g:Nat→List FV):(elts e off n g).length=n:=by simp[elts]
theorem gOf_elts (e:Enc α){off n:Nat}{g:Nat→List FV}(h:allIs e off n g=true):∀ i,i<n→gOf e (elts e off n g) i=g (off+i):=by
 intro i hi
 simp only[allIs,List.all_eq_true,List.mem_range] at h
 have:(elts e off n g).getD i e.dft=e.dec (g (off+i)):=by simp[elts,List.getD_eq_getElem?_getD,hi]
 unfold gOf
 rw[this,e.ok _ (h i hi)]
theorem elts_gOf (e:Enc α){L:List α}{off n:Nat}(h:off+n≤L.length):elts e off n (gOf e L)=(L.drop off).take n:=by
 apply List.ext_getElem
 . simp[elts];omega
 . intro i h1 h2
   simp only[elts_length] at h1
   have:off+i<L.length:=by omega
   simp[elts,gOf,e.dec_enc,List.getD_eq_getElem?_getD,this]
theorem elts_all (e:Enc α)(L:List α):elts e 0 L.length (gOf e L)=L:=by rw[elts_gOf e (by omega)];simp
theorem allIs_gOf (e:Enc α)(L:List α)(off n:Nat):allIs e off n (gOf e L)=true:=by simp[allIs,gOf,e.is_enc]
end
theorem mle_nil {M:List Blk}:MLe M []:=by cases M<;>trivial
theorem mle_cons {b c:Blk}{M N:List Blk}(h:BLe b c)(t:MLe M N):MLe (b::M) (c::N):=⟨h,t⟩
theorem itemLe_refl (x:SV):itemLe x x:=by cases x<;>first|exact⟨rfl,rfl,fun _ _=>rfl⟩|rfl
theorem itemsLe_refl:∀ xs:List SV,itemsLe xs xs
 |[]=>trivial
 |x::xs=>⟨itemLe_refl x,itemsLe_refl xs⟩
theorem ble_refl {b:Blk}:BLe b b:=by cases b<;>first|exact⟨rfl,itemsLe_refl _⟩|exact⟨rfl,fun _ _=>rfl⟩|trivial|rfl|exact⟨rfl,rfl,rfl,fun _ _=>FVEqL.refl _⟩|exact⟨rfl,rfl,fun _ _=>FVEqL.refl _⟩
theorem ble_mix {ty:TypeId}{xs ys:List SV}(h:itemsLe ys xs):BLe (.mix ty ys) (.mix ty xs):=⟨rfl,h⟩
theorem ble_dead {b:Blk}:BLe b .dead:=trivial
theorem ble_own_e {ty sz m m':Nat}{g g':Nat→List FV}(hm:m=m')(h:∀ i,i<m→FVEqL (g' i) (g i)):BLe (.own ty sz m' g') (.own ty sz m g):=⟨rfl,rfl,hm,h⟩
theorem ble_cells {ty:TypeId}{xs ys:List SV}(h:xs=ys):BLe (.cells ty ys) (.cells ty xs):=by rw[h];rfl
theorem gSet_gOf {α:Type}(e:Enc α){L:List α}{i:Nat}{a:α}{fs:List FV}(hi:i<L.length)(hf:fs=e.enc a)(hl:(e.enc (L.getD i e.dft)).length=fs.length):∀ k,k<L.length→gOf e (L.set i a) k=gSet (gOf e L) i 0 fs k:=by
 intro k hk
 unfold gSet
 by_cases hki:k=i
 . subst hki
   have h0:(gOf e L k).drop (0+fs.length)=[]:=by
    apply List.drop_eq_nil_of_le
    unfold gOf;omega
   simp only[decide_true,List.take_zero,List.nil_append,h0,List.append_nil]
   unfold gOf
   rw[hf];congr 1
   simp[List.getD_eq_getElem?_getD,hk]
 . simp only[decide_eq_false hki]
   unfold gOf
   congr 1
   simp[List.getD_eq_getElem?_getD,List.getElem?_set,Ne.symm hki]
theorem src_lt {B:Bd}{ρ:Val}{n:Nat}{w:World}{b:Blk}{sz m:Nat}{g:Nat→List FV}(hs:B.s≤w.heap.size)(hz:∀ k,ρ.z k→k<w.heap.size)(hb:b.ok B ρ n w)(hk:eltB (some b)=some (sz,m,g))(hm:0<m){l:Loc}(hl:ρ n=some l):l.blk<w.heap.size:=by
 cases b with
 |own ty sz' m' g'=>exact(Blk.ok_lt hb rfl hl).2
 |ro sz' m' g'=>
  simp only[eltB,Option.some.injEq,Prod.mk.injEq] at hk
  obtain⟨rfl,rfl,rfl⟩:=hk
  obtain⟨q,hr,ho⟩:=hb
  have:=Bd.lt ((ho.2 l hl).2.1 hm);omega
 |fz sz' m' g'=>
  simp only[eltB,Option.some.injEq,Prod.mk.injEq] at hk
  obtain⟨rfl,rfl,rfl⟩:=hk
  obtain⟨q,hr,ho⟩:=hb
  exact hz _ ((ho.2 l hl).2.1 hm)
 |_=>cases hk
theorem ro_part {B:Bd}{ρ ρ0:Val}{n i:Nat}{w:World}{b:Blk}{sz m off len:Nat}{g g':Nat→List FV}{x:List Nat}{zz:Nat→Prop}(hs:B.s≤w.heap.size)(hb:b.ok B ρ n w)(hk:eltB (some b)=some (sz,m,g))(hle:off+len≤m)(hg:∀ i,i<len→g' i=g (off+i))(hz:∀ k,ρ.z k→ρ0.z k)
  (hρ:ρ0 i=(ρ n).map fun l=>⟨l.blk,l.off+off*sz,l.cap-off,l.sp,l.ok.imp_left fun h=>by omega⟩) (hx:∀ l,ρ n=some l→0<len→l.blk ∉ x:=by intros;simp) (hlt:∀ k,ρ.z k→k<w.heap.size:=by first|assumption|exact fun k hk=>(MRel.zhi (by assumption) k hk).1):(Blk.ro sz len g').ok ⟨w.heap.size,x,zz⟩ ρ0 i w:=by
 obtain⟨q,hr,h1,h2,h3⟩:=eltB_ok hb hk
 have hlb:lenB (some b)=some m:=by
  cases b with
  |ro sz' m' g''=>
   simp only[eltB,Option.some.injEq,Prod.mk.injEq] at hk
   rw[← hk.2.1];rfl
  |fz sz' m' g''=>
   simp only[eltB,Option.some.injEq,Prod.mk.injEq] at hk
   rw[← hk.2.1];rfl
  |own ty sz' m' g''=>
   simp only[eltB,Option.some.injEq,Prod.mk.injEq] at hk
   rw[← hk.2.1];rfl
  |_=>cases hk
 obtain⟨c1,c2⟩:=len_cap hb hlb
 refine⟨fun i=>q (off+i),fun i hi => ?_,fun hn => ?_,fun l hl => ?_⟩
 . rw[hg i hi];exact(hr _ (by omega)).mono hz (fun _ _=>rfl)
 . rw[hρ] at hn
   cases hl:ρ n with
   |none=>have:=c1 hl;omega
   |some l=>rw[hl] at hn;cases hn
 . rw[hρ] at hl
   cases hlb':ρ n with
   |none=>rw[hlb'] at hl;cases hl
   |some lb=>
    rw[hlb'] at hl
    obtain rfl:=Option.some.inj hl
    have hcap:=c2 lb hlb'
    refine⟨by show len≤lb.cap-off;omega,fun hpos hm => ?_,fun i hi=>⟨h1 _ (by omega),fun j x hx => ?_⟩⟩
    . rcases hm with hm|hm
      . exact hx lb hlb' hpos hm
      . exact absurd (src_lt hs hlt hb hk (by omega) hlb') (Nat.not_lt_of_le hm)
    . have:=h3 lb (off+i) j x hlb' (by omega) hx
      rw[← this]
      simp only[Nat.add_mul,Nat.add_assoc]
theorem step_t {c:Bool}{A B:Prop}(h:c=true)(k:A):(c=true→A)∧(c=false→B):=⟨fun _=>k,fun h'=>Bool.noConfusion (h.symm.trans h')⟩
theorem step_f {c:Bool}{A B:Prop}(h:c=false)(k:B):(c=true→A)∧(c=false→B):=⟨fun h'=>Bool.noConfusion (h.symm.trans h'),fun _=>k⟩
theorem step_nt {c:Bool}{A B:Prop}(h:c=true)(k:B):((!c)=true→A)∧((!c)=false→B):=step_f (by rw[h];rfl) k
theorem step_nf {c:Bool}{A B:Prop}(h:c=false)(k:A):((!c)=true→A)∧((!c)=false→B):=step_t (by rw[h];rfl) k
theorem step_n {c:Bool}{A B:Prop}(hf:c=false→A)(ht:c=true→B):((!c)=true→A)∧((!c)=false→B):=⟨fun h=>hf (by revert h;cases c<;>simp),fun h=>ht (by revert h;cases c<;>simp)⟩
end Go.Sx
namespace Go.Sx
open Go.RowKit Go.Proofs.YtfgkhenhlpoheaaGreat
def ViewB (σ:List Nat)(b:Blk):Blk→Prop
 | .dead=>True
 | .rc ty ys=>∃ xs,(b = .cells ty xs∨b = .rc ty xs)∧∀ ρ,denL (renρ σ ρ) ys=denL ρ xs
 | .ro sz m g=>∃ m' g',eltB (some b)=some (sz,m',g')∧m≤m'∧∀ i,i<m→g i=g' i
 | .fz sz m g=>∃ m' g',b = .fz sz m' g'∧m≤m'∧∀ i,i<m→g i=g' i
 |_=>False
def View (M:List Blk)(τ:List Nat):List Nat→List Blk→Prop
 |n::σ,c::M0=>(∃ b,M[n]? = some b∧ViewB τ b c)∧View M τ σ M0
 |_,[]=>True
 |[],_::_=>False
theorem View.get {M:List Blk}{τ:List Nat}:∀ {σ:List Nat} {M0:List Blk},View M τ σ M0→∀ (i:Nat) (c:Blk),M0[i]? = some c→∃ n b,σ[i]? = some n∧M[n]? = some b∧ViewB τ b c
 |_,[],_,i,c,h=>by simp at h
 |[],_::_,hv,_,_,_=>hv.elim
 |n::σ,d::M0,hv,0,c,h=>by
  simp only[List.getElem?_cons_zero,Option.some.injEq] at h
  subst h
  obtain⟨b,h1,h2⟩:=hv.1
  exact⟨n,b,rfl,h1,h2⟩
 |n::σ,d::M0,hv,i+1,c,h=>by
  simp only[List.getElem?_cons_succ] at h ⊢
  exact View.get hv.2 i c h
theorem view_one {B:Bd}{ρ ρ0:Val}{M:List Blk}{w:World}{σ:List Nat}{x:List Nat}{zz:Nat→Prop}(h:MRel B ρ M w){i n:Nat}{b c:Blk}(hn:M[n]? = some b)(hb:ViewB σ b c)(e:ρ0 i=ρ n)(hz:∀ k,ρ.z k→ρ0.z k)(hden:∀ xs ys:List SV,denL (renρ σ ρ) ys=denL ρ xs→denL ρ0 ys=denL ρ xs)
  (hx:∀ l,ρ n=some l→(∀ sz m g,eltB (some b)=some (sz,m,g)→0<m)→l.blk ∉ x) (hx2:∀ l ty xs,b = .cells ty xs∨b = .rc ty xs→ρ n=some l→l.blk ∉ x):c.ok ⟨w.heap.size,x,zz⟩ ρ0 i w:=by
 have hok:=h.ok n b hn
 cases c with
 |dead=>trivial
 |rc ty ys=>
  obtain⟨xs,hbe,hd⟩:=hb
  have key:∀ l:Loc,ρ n=some l→l.off=0→w.heap[l.blk]? = some (.cells (denL ρ xs).toArray ty (0,0))→(Blk.rc ty ys).ok ⟨w.heap.size,x,zz⟩ ρ0 i w:=fun l hl h0 hh=>by
   refine⟨l,by rw[e];exact hl,h0,fun hm => ?_,by rw[hden xs ys (hd ρ)];exact hh⟩
   have hlt:=(Array.getElem?_eq_some_iff.1 hh).1
   rcases hm with hx'|hx'
   . exact hx2 l ty xs hbe hl hx'
   . exact absurd hlt (Nat.not_lt_of_le hx')
  rcases hbe with rfl|rfl
  . obtain⟨l,hl,h0,_,hh⟩:=hok
    exact key l hl h0 hh
  . obtain⟨l,hl,h0,_,hh⟩:=hok
    exact key l hl h0 hh
 |ro sz m g=>
  obtain⟨m',g',hk,hm,hg⟩:=hb
  by_cases h0:0<m
  . exact ro_part (off:=0) h.size hok hk (by omega) (fun i hi=>by rw[hg i hi,Nat.zero_add]) hz (by rw[e];cases ρ n<;>simp) (fun l hl _=>hx l hl fun sz' m'' g'' hk'=>by rw[hk] at hk';simp only[Option.some.injEq,Prod.mk.injEq] at hk';omega) (fun k hk=>(h.zhi k hk).1)
  . obtain rfl:m=0:=by omega
    exact⟨fun _=>[],fun i hi=>by omega,fun _=>rfl,fun l hl=>⟨Nat.zero_le _,fun h=>by omega,fun i hi=>by omega⟩⟩
 |fz sz m g=>
  obtain⟨m',g',rfl,hm,hg⟩:=hb
  obtain⟨q,hr,ho⟩:=hok
  refine⟨q,fun i hi=>by rw[hg i hi];exact(hr i (by omega)).mono hz (fun _ _=>rfl),fun hn => ?_,fun l hl => ?_⟩
  . rw[e] at hn;have:=ho.1 hn;omega
  . rw[e] at hl
    obtain⟨q1,q2,q3⟩:=ho.2 l hl
    exact⟨by omega,fun h=>hz _ (q2 (by omega)),fun i hi=>q3 i (by omega)⟩
 |cells=>exact hb.elim
 |own=>exact hb.elim
 |map=>exact hb.elim
 |mix=>exact hb.elim
 |fm=>exact hb.elim
 |lp=>exact hb.elim
theorem View.rel {B:Bd}{ρ:Val}{M M0:List Blk}{w:World}{σ:List Nat}(h:MRel B ρ M w)(hv:View M σ σ M0):MRel ⟨w.heap.size,[],ρ.z⟩ (renρ σ ρ) M0 w:=by
 have own:∀ (i:Nat) (c:Blk),M0[i]? = some c→c.isOwn=false:=fun i c hc=>by
  obtain⟨n,b,_,_,hb⟩:=hv.get i c hc
  cases c<;>first|rfl|exact hb.elim
 refine⟨Nat.le_refl _,fun i c hc => ?_,fun i j c d l k _ h1 _ o1=>(by rw[own i c h1] at o1;cases o1),zlt_sub h,fun _ h=>h,fun k hk=>⟨(h.zhi k hk).1,.inl hk⟩,fun i c l hc ho=>(by rw[own i c hc] at ho;cases ho),fun k hk=>.inl hk⟩
 obtain⟨n,b,hσ,hn,hb⟩:=hv.get i c hc
 exact view_one h hn hb (by simp[renρ,hσ]) (fun _ h=>h) (fun _ _ h=>h) (fun _ _ _ h=>by cases h) (fun _ _ _ _ _ h=>by cases h)
theorem ctr_sel {P:Program}{G:World→Prop}(hG:Stable G){Γ:Env}(hΓ:EnvOk P G Γ){f:FuncId}{fn:Func}(hf:P.funcs[f]? = some fn)(hb:fn.body.isSome=true)(hm:Okay P)(T:Tbl)(hT:codeOk T (bodyOf fn)=true)(n:Nat)(σ:List Nat)(args0:List SV)(M0:List Blk)
  {args:List SV} {M:List Blk} {sv:SV} (hargs:∀ ρ,denL (renρ σ ρ) args0=denL ρ args) (hsc:okSt args0 M0=true) (hv:View M σ σ M0)
  (h:run P Γ n T 0 (bodyOf fn) (initF fn args0) M0 (retK P fn fun x _=>eqv x sv)):
  ∀ (B:Bd) (ρ:Val) (w:World),G w→MRel B ρ M w→Calls P f (denL ρ args).toArray w fun e w'=>
    ∃ (ρ':Val) (v:Value),e = .returned v∧(sv ≠ .junk→v=sv.den ρ')∧Val.Ext w.heap.size (fun n => ¬ (M.length≤n∧n<M.length+([]:List Blk).length)) ρ ρ'∧Below w.heap.size w w'∧New B w.heap.size ρ' M.length [] w':=by
 intro B ρ w hGw hM
 have hrun:=calls_run hG hΓ hf hb hm T hT n (M0:=M0) (ρ0:=renρ σ ρ) (args:=args0) hGw hsc (View.rel hM hv) h
 rw[hargs] at hrun
 refine hrun.mono ?_
 rintro e w' ⟨ρ',x,M',rfl,hx,_,hw⟩
 exact⟨ρ,_,rfl,fun _=>eqv_den hx ρ' ρ,Val.Ext.refl ..,hw,new_none hM hw⟩
theorem okConsI {P:Program}{f:FuncId}{fn:Func}{T:Tbl}{l:List (FuncId×Func×Tbl)}(h1:P.funcs[f]? = some fn)(h2:fn.body.isSome=true)(h3:codeOk T (bodyOf fn)=true)(h4:∀ (args:Array Value) (w:World),(callFunc f args).run P w = .ok (.enter f args) w)(t:∀ p∈l,IterOk P p.1 p.2.1 p.2.2):∀ p∈(f,fn,T)::l,IterOk P p.1 p.2.1 p.2.2:=by
 intro p hp
 cases hp with
 |head=>exact⟨h1,h2,h3,h4⟩
 |tail _ hp=>exact t p hp
theorem okNilY {P:Program}{G:World→Prop}:∀ p∈([]:List (FuncId×YC)),YCtrOk P G p.1 p.2:=fun _ h=>by cases h
theorem okConsY {P:Program}{G:World→Prop}{g:FuncId}{c:YC}{l:List (FuncId×YC)}(h:YCtrOk P G g c)(t:∀ p∈l,YCtrOk P G p.1 p.2):∀ p∈(g,c)::l,YCtrOk P G p.1 p.2
 |_,.head _=>h
 |_,.tail _ m=>t _ m
theorem okNilI {P:Program}:∀ p∈([]:List (FuncId×Func×Tbl)),IterOk P p.1 p.2.1 p.2.2:=fun _ h=>by cases h
theorem okNilP {P:Program}:∀ p∈([]:List (FuncId×(List SV→Option SV))),PrimOk P p.1 p.2:=fun _ h=>by cases h
end Go.Sx
namespace Go.Sx
open Go.RowKit Go.Proofs.YtfgkhenhlpoheaaGreat
mutual
def shS (m:Nat):SV→SV
 | .agg xs=>.agg (shL m xs)
 | .tup xs=>.tup (shL m xs)
 | .ptr n off=>.ptr (m+n) off
 | .ep n i sz j=>.ep (m+n) i sz j
 | .sl n sz off len=>.sl (m+n) sz off len
 | .mp n=>.mp (m+n)
 | .yld n=>.yld (m+n)
 | .nilb n=>.nilb (m+n)
 | .arr n sz g=>.arr n sz g
 | .mix xs=>.mix (shL m xs)
 | .fn f a b=>.fn f (shL m a) (shL m b)
 | .junk=>.junk
 | .val v=>.val v
 | .tt=>.tt
 | .ff=>.ff
 | .bool b=>.bool b
 | .int k n=>.int k n
 | .u64 x=>.u64 x
def shL (m:Nat):List SV→List SV
 |[]=>[]
 |x::l=>shS m x::shL m l
end
def shB (m:Nat):Blk→Blk
 | .cells ty xs=>.cells ty (shL m xs)
 | .fz sz n g=>.fz sz n g
 | .own ty sz n g=>.own ty sz n g
 | .map es=>.map (es.map fun p=>(shS m p.1,shS m p.2))
 | .mix ty xs=>.mix ty (shL m xs)
 |_=>.dead
def ownM:Blk→Bool
 | .dead=>true
 | .cells .. => true
 | .fz .. => true
 | .own .. => true
 | .map .. => true
 |_=>false
theorem shS_item (m:Nat)(x:SV)(v:Value):itemL (shS m x) v=itemL x v:=by cases x<;>rfl
theorem shL_mix (m:Nat):∀ (l:List SV) (vs:List Value),mixL (shL m l) vs=mixL l vs
 |[],_=>rfl
 |x::l,[]=>rfl
 |x::l,v::vs=>by simp only[shL,mixL,shS_item,shL_mix m l vs]
mutual
theorem shS_den {m:Nat}{ρ ρ':Val}{p:Nat→Bool}(h:∀ n,p n=true→ρ' (m+n)=ρ n):∀ x:SV,x.sc p=true→(shS m x).den ρ'=x.den ρ
 | .junk,_=>rfl
 | .val _,_=>rfl
 | .tt,_=>rfl
 | .ff,_=>rfl
 | .bool _,_=>rfl
 | .int _ _,_=>rfl
 | .u64 _,_=>rfl
 | .agg xs,hs=>by simp only[SV.sc] at hs;simp only[shS,SV.den,shL_den h xs hs]
 | .tup xs,hs=>by simp only[SV.sc] at hs;simp only[shS,SV.den,shL_den h xs hs]
 | .ptr n _,hs=>by simp only[SV.sc] at hs;simp only[shS,SV.den,h n hs]
 | .ep n _ _ _,hs=>by simp only[SV.sc] at hs;simp only[shS,SV.den,h n hs]
 | .sl n _ _ _,hs=>by simp only[SV.sc] at hs;simp only[shS,SV.den,h n hs]
 | .mp n,hs=>by simp only[SV.sc] at hs;simp only[shS,SV.den,h n hs]
 | .yld n,hs=>by simp only[SV.sc] at hs;simp only[shS,SV.den,h n hs]
 | .nilb n,hs=>by simp only[SV.sc] at hs;simp only[shS,SV.den,h n hs]
 | .arr _ _ _,_=>rfl
 | .mix xs,hs=>by simp only[SV.sc] at hs;simp only[shS,SV.den,shL_den h xs hs,shL_mix]
 | .fn _ a b,hs=>by simp only[SV.sc,Bool.and_eq_true] at hs;simp only[shS,SV.den,shL_den h a hs.1,shL_den h b hs.2]
theorem shL_den {m:Nat}{ρ ρ':Val}{p:Nat→Bool}(h:∀ n,p n=true→ρ' (m+n)=ρ n):∀ l:List SV,scL p l=true→denL ρ' (shL m l)=denL ρ l
 |[],_=>rfl
 |x::l,hs=>by simp only[scL,Bool.and_eq_true] at hs;simp only[shL,denL,shS_den h x hs.1,shL_den h l hs.2]
end
theorem shB_own {m:Nat}{b:Blk}(h:ownM b=true):(shB m b).isOwn=b.isOwn:=by cases b<;>first|rfl|cases h
theorem shB_ok {B B':Bd}{ρ ρ':Val}{m k:Nat}{w:World}{p:Nat→Bool}{b:Blk}(ho:ownM b=true)(hs:b.sc p=true)(h:∀ n,p n=true→ρ' (m+n)=ρ n)(hk:ρ' (m+k)=ρ k)(hz:∀ j,ρ.z j→ρ'.z j)(hB:∀ j,B'.may j→B.may j)(hb:b.ok B' ρ k w):(shB m b).ok B ρ' (m+k) w:=by
 cases b with
 |dead=>trivial
 |cells ty xs=>
  obtain⟨l,e,h0,h1,h2⟩:=hb
  exact⟨l,by rw[hk];exact e,h0,hB _ h1,by rw[shL_den h xs hs];exact h2⟩
 |fz sz n g=>
  obtain⟨q,hr,ho⟩:=hb
  exact⟨q,fun i hi=>(hr i hi).mono hz (fun _ _=>rfl),ho.congr hk hz⟩
 |own ty sz n g=>
  obtain⟨q,hr,h1,h2⟩:=hb
  refine⟨q,fun i hi=>(hr i hi).mono hz (fun _ _=>rfl),h1,?_⟩
  rw[hk]
  rcases h2 with h2 | ⟨l,cur,a1,a2,a3,a4⟩
  . exact .inl h2
  . exact .inr ⟨l,cur,a1,a2,hB _ a3,a4⟩
 |map es=>
  obtain⟨l,arr,cnt,e,h1,h2,h3⟩:=hb
  have hes:esD ρ' (es.map fun p=>(shS m p.1,shS m p.2))=esD ρ es:=by
   simp only[Blk.sc,Bool.and_eq_true,scL_eq,List.all_map,List.all_eq_true] at hs
   simp only[esD,List.map_map]
   refine List.map_congr_left fun q hq => ?_
   simp only[Function.comp]
   rw[shS_den h q.1 (hs.1 q hq),shS_den h q.2 (hs.2 q hq)]
  exact⟨l,arr,cnt,by rw[hk];exact e,hB _ h1,h2,by rw[hes];exact h3.perm,by rw[hes];exact h3.nodup⟩
 |rc=>cases ho
 |ro=>cases ho
 |fm=>cases ho
 |mix=>cases ho
 |lp=>cases ho
def Tells (sv0:SV)(nb0:List Blk):SV→List Blk→Prop:=fun x M1=>∃ σ,nodN σ=true∧MLe (renMs M1 σ σ) nb0∧∃ y,renS σ x=some y∧∀ ρ,y.den ρ=sv0.den ρ
theorem tells_new {B:Bd}{ρ ρ1:Val}{M M1:List Blk}{w w':World}{sv0 x:SV}{nb0:List Blk}(hM:MRel B ρ M w)(h:Tells sv0 nb0 x M1)(hM1:MRel ⟨w.heap.size,[],ρ.z⟩ ρ1 M1 w')(ho:nb0.all ownM=true)(hsc:okSt [sv0] nb0=true):
  ∃ ρ':Val,x.den ρ1=(shS M.length sv0).den ρ'∧Val.Ext w.heap.size (fun n => ¬ (M.length≤n∧n<M.length+nb0.length)) ρ ρ'∧New B w.heap.size ρ' M.length (nb0.map (shB M.length)) w':=by
 obtain⟨σ,hn,hle,y,hy,hden⟩:=h
 obtain⟨z,hz,hz1,hz2⟩:=(hM1.ren (nodN_iff hn)).le hle
 have fresh:∀ j,(⟨w.heap.size,[],ρ.z⟩:Bd).may j→w.heap.size≤j:=fun j hj=>hj.elim (fun h=>by cases h) fun h=>h
 let ρ':Val:=⟨fun i=>if M.length≤i∧i<M.length+nb0.length then renρ σ ρ1 (i-M.length) else ρ i,z⟩
 have hin:∀ k,k<nb0.length→ρ' (M.length+k)=renρ σ ρ1 k:=fun k hk=>by
  show(if M.length≤M.length+k∧M.length+k<M.length+nb0.length then renρ σ ρ1 (M.length+k-M.length) else _)=_
  rw[if_pos ⟨by omega,by omega⟩]
  congr 1;omega
 simp only[okSt,Bool.and_eq_true,scL] at hsc
 refine⟨ρ',?_,⟨fun i hi => ?_,fun j hj=>hz.zlo j hj,fun j hj => ?_⟩,⟨fun k b hb => ?_,fun k b l hb hown hl => ?_,fun i j b c l k hne h1 h2 o1 o2 e1 e2 => ?_,fun k b l hb hown hl => ?_,fun j hj=>(hz.zhi j hj).1,fun j hj hl => ?_⟩⟩
 . rw[shS_den (ρ:=renρ σ ρ1) (p:=fun n=>decide (n<nb0.length)) (fun n hn=>hin n (by simpa using hn)) sv0 hsc.1.1,← hden,(renS_den hy).1]
 . show(if M.length≤i∧i<M.length+nb0.length then _ else ρ i)=ρ i
   rw[if_neg hi]
 . exact(hz.zhi j hj).2.imp_right (fresh j)
 . rw[List.getElem?_map,Option.map_eq_some_iff] at hb
   obtain⟨b0,hb0,rfl⟩:=hb
   have hk:k<nb0.length:=(List.getElem?_eq_some_iff.1 hb0).1
   exact shB_ok (ρ:=⟨(renρ σ ρ1).loc,z⟩) (p:=fun n=>decide (n<nb0.length)) (List.all_eq_true.1 ho b0 (List.mem_of_getElem? hb0)) (List.all_eq_true.1 hsc.2 b0 (List.mem_of_getElem? hb0)) (fun n hn=>hin n (by simpa using hn)) (hin k hk) (fun _ h=>h) (fun j hj=>.inr (Nat.le_trans hM.size (fresh j hj))) (hz.ok k b0 hb0)
 . rw[List.getElem?_map,Option.map_eq_some_iff] at hb
   obtain⟨b0,hb0,rfl⟩:=hb
   have hk:k<nb0.length:=(List.getElem?_eq_some_iff.1 hb0).1
   rw[shB_own (List.all_eq_true.1 ho b0 (List.mem_of_getElem? hb0))] at hown
   rw[hin k hk] at hl
   exact fresh _ (Blk.ok_lt (hz.ok k b0 hb0) hown hl).1
 . rw[List.getElem?_map,Option.map_eq_some_iff] at h1 h2
   obtain⟨b0,hb0,rfl⟩:=h1
   obtain⟨c0,hc0,rfl⟩:=h2
   rw[shB_own (List.all_eq_true.1 ho b0 (List.mem_of_getElem? hb0))] at o1
   rw[shB_own (List.all_eq_true.1 ho c0 (List.mem_of_getElem? hc0))] at o2
   rw[hin i (List.getElem?_eq_some_iff.1 hb0).1] at e1
   rw[hin j (List.getElem?_eq_some_iff.1 hc0).1] at e2
   exact hz.apart i j b0 c0 l k hne hb0 hc0 o1 o2 e1 e2
 . rw[List.getElem?_map,Option.map_eq_some_iff] at hb
   obtain⟨b0,hb0,rfl⟩:=hb
   have hk:k<nb0.length:=(List.getElem?_eq_some_iff.1 hb0).1
   rw[shB_own (List.all_eq_true.1 ho b0 (List.mem_of_getElem? hb0))] at hown
   rw[hin k hk] at hl
   exact hz.zown k b0 l hb0 hown hl
 . rcases hz.zc j hj with hz'|hc
   . have hz'':ρ.z j:=hz'
     have:=(hM.zhi j hz'').1;omega
   . exact hc
theorem ctr_gen {P:Program}{G:World→Prop}(hG:Stable G){Γ:Env}(hΓ:EnvOk P G Γ){f:FuncId}{fn:Func}(hf:P.funcs[f]? = some fn)(hb:fn.body.isSome=true)(hm:Okay P)(T:Tbl)(hT:codeOk T (bodyOf fn)=true)(n:Nat)(σ:List Nat)(args0:List SV)(M0:List Blk)
  {args:List SV} {M:List Blk} (sv0:SV) (nb0:List Blk) {sv:SV} {nb:List Blk} (hargs:∀ ρ,denL (renρ σ ρ) args0=denL ρ args) (hsc:okSt args0 M0=true) (hv:View M σ σ M0) (hsv:sv=shS M.length sv0) (hnb:nb=nb0.map (shB M.length)) (ho:nb0.all ownM=true) (hok:okSt [sv0] nb0=true)
  (h:run P Γ n T 0 (bodyOf fn) (initF fn args0) M0 (retK P fn (Tells sv0 nb0))):
  ∀ (B:Bd) (ρ:Val) (w:World),G w→MRel B ρ M w→Calls P f (denL ρ args).toArray w fun e w'=>
    ∃ (ρ':Val) (v:Value),e = .returned v∧(sv ≠ .junk→v=sv.den ρ')∧Val.Ext w.heap.size (fun n => ¬ (M.length≤n∧n<M.length+nb.length)) ρ ρ'∧Below w.heap.size w w'∧New B w.heap.size ρ' M.length nb w':=by
 intro B ρ w hGw hM
 have hrun:=calls_run hG hΓ hf hb hm T hT n (M0:=M0) (ρ0:=renρ σ ρ) (args:=args0) hGw hsc (View.rel hM hv) h
 rw[hargs] at hrun
 refine hrun.mono ?_
 rintro e w' ⟨ρ1,x,M',rfl,hx,hM',hw⟩
 obtain⟨ρ',h1,h2,h3⟩:=tells_new hM hx hM' ho hok
 subst hsv hnb
 exact⟨ρ',_,rfl,fun _=>h1,by simpa using h2,hw,h3⟩
end Go.Sx
namespace Go.Sx
open Go.RowKit Go.Proofs.YtfgkhenhlpoheaaGreat
def shiftG (off:Nat)(g:Nat→List FV):Nat→List FV:=match off with
 |0=>g
 |k+1=>fun i=>g (k+1+i)
theorem shiftG_eq (off:Nat)(g:Nat→List FV)(i:Nat):shiftG off g i=g (off+i):=by
 cases off with
 |zero=>simp[shiftG]
 |succ k=>rfl
inductive AV where
 |one (x:FV)
 |agg (l:List FV)
def AVEq:AV→AV→Prop
 | .one x,.one y=>FVEq x y
 | .agg l,.agg m=>FVEqL l m
 |_,_=>False
def AVEqL:List AV→List AV→Prop
 |[],[]=>True
 |a::l,b::m=>AVEq a b∧AVEqL l m
 |_,_=>False
theorem AVEq.refl (a:AV):AVEq a a:=by cases a with
 |one x=>exact FVEq.refl x
 |agg l=>exact FVEqL.refl l
theorem AVEqL.refl:∀ l:List AV,AVEqL l l
 |[]=>trivial
 |a::l=>⟨AVEq.refl a,AVEqL.refl l⟩
def eltZ:Option Blk→Option (Nat×Nat×(Nat→List FV))
 |some (.fz sz m g)=>some (sz,m,g)
 |some (.own _ sz m g)=>some (sz,m,g)
 |_=>none
abbrev EltF:=Option Blk→Option (Nat×Nat×(Nat→List FV))
def topS (E:EltF)(M:List Blk)(x:SV):Option (Bool×FV):=match x with
 | .sl n sz off len=>match E (nth M n) with
   |some (sz',m,g)=>match Nat.beq sz sz' with
    |true=>some (decide (off+len≤m),.row sz len (shiftG off g))
    |false=>none
   |none=>none
 |x=>match fvS x with
  |some y=>some (true,y)
  |none=>none
def topL (E:EltF)(M:List Blk):List SV→Option (Bool×List FV)
 |[]=>some (true,[])
 |x::l=>match topS E M x,topL E M l with
  |some (b,y),some (c,m)=>some (b&&c,y::m)
  |_,_=>none
def topA (E:EltF)(M:List Blk):List SV→Option (Bool×List AV)
 |[]=>some (true,[])
 |x::l=>match x with
  | .agg xs=>match topL E M xs,topA E M l with
    |some (b,ys),some (c,m)=>some (b&&c,.agg ys::m)
    |_,_=>none
  |x=>match topS E M x,topA E M l with
   |some (b,y),some (c,m)=>some (b&&c,.one y::m)
   |_,_=>none
structure RoL (Q:Nat→Prop)(z:Nat→Prop)(w:World)(l:Option Loc)(sz m:Nat)(g:Nat→List FV):Prop where
 nil:l=none→m=0
 some:∃ h:Nat→List FV,(∀ i,i<m→RepL z w (g i) (h i))∧∀ k,l=some k→m≤k.cap∧(0<m→Q k.blk)∧∀ i,i<m→okG sz (h i)∧∀ (j:Nat) (x:FV),(h i)[j]? = some x→w.cell? ⟨k.blk,k.off+i*sz+j,none⟩=some x.den
inductive TopR (Q:Nat→Prop)(z:Nat→Prop)(w:World):FV→FV→Prop
 |flat {x:FV} (h:x.flat=true):TopR Q z w x x
 |row {sz n:Nat} {g:Nat→List FV} (l:Option Loc) (h:RoL Q z w l sz n g):TopR Q z w (.row sz n g) (.val (rowV l n))
def TopRL (Q:Nat→Prop)(z:Nat→Prop)(w:World):List FV→List FV→Prop
 |[],[]=>True
 |x::l,y::m=>TopR Q z w x y∧TopRL Q z w l m
 |_,_=>False
section
variable {Q:Nat→Prop}{z:Nat→Prop}{w:World}
theorem TopR.eqv {x y:FV}(h:TopR Q z w x y){x':FV}(he:FVEq x x'):TopR Q z w x' y:=by
 cases h with
 |flat hf=>
  cases he with
  |nil=>exact .row none ⟨fun _=>rfl,fun _=>[],fun i hi=>absurd hi (Nat.not_lt_zero i),fun k hk=>by cases hk⟩
  |flat _=>exact .flat hf
  |row=>cases hf
 | @row sz n g l h=>
   cases he with
   |flat hf=>cases hf
   | @row _ sz' _ _ g' hs hl hr=>
     obtain⟨q,hq,hk⟩:=h.some
     refine .row l ⟨h.nil,q,fun i hi=>(hq i hi).eqv ⟨hl i hi,fun j a b ha hb=>hr i j a b hi ha hb⟩,fun k hk' => ?_⟩
     obtain⟨h1,h2,h3⟩:=hk k hk'
     refine⟨h1,h2,fun i hi => ?_⟩
     rw[← hs (by omega)];exact h3 i hi
theorem TopRL.eqv:∀ {a b:List FV} (_:TopRL Q z w a b) {a':List FV},FVEqL a a'→TopRL Q z w a' b
 |[],[],_,a',he=>by
  obtain rfl:a'=[]:=List.eq_nil_of_length_eq_zero he.1.symm
  trivial
 |x::a,y::b,h,[],he=>by have:=he.1;simp at this
 |x::a,y::b,h,x'::a',he=>⟨h.1.eqv (he.2 0 x x' rfl rfl),h.2.eqv ⟨by simpa using he.1,fun j u v hu hv=>he.2 (j+1) u v (by simpa using hu) (by simpa using hv)⟩⟩
 |[],_::_,h,_,_=>h.elim
 |_::_,[],h,_,_=>h.elim
end
def Lies (E:EltF)(Q:Nat→Prop)(ρ:Val)(M:List Blk):Prop:=(∀ b r,E b=some r→eltB b=some r)∧∀ (n:Nat) (b:Blk) (l:Loc),M[n]? = some b→ρ n=some l→(∃ sz m g,E (some b)=some (sz,m,g)∧0<m)→Q l.blk
theorem src_row {Q z:Nat→Prop}{w:World}{l:Option Loc}{sz m off len:Nat}{g:Nat→List FV}(h:SrcOk z w l sz m g)(hcap:∀ k,l=some k→m≤k.cap)(hle:off+len≤m)(hQ:∀ k,l=some k→0<m→Q k.blk):
  RoL Q z w (l.map fun k=>⟨k.blk,k.off+off*sz,k.cap-off,k.sp,k.ok.imp_left fun h=>by omega⟩) sz len (shiftG off g):=by
 obtain⟨q,h1,h2,h3,h4⟩:=h
 refine⟨fun hn => ?_,fun i=>q (off+i),fun i hi=>by rw[shiftG_eq];exact h1 _ (by omega),fun k hk => ?_⟩
 . cases l with
   |none=>
    rcases Nat.eq_zero_or_pos m with h|h
    . omega
    . obtain⟨k,hk⟩:=h3 h;cases hk
   |some k=>cases hn
 . cases l with
   |none=>cases hk
   |some k0=>
    obtain rfl:=Option.some.inj hk
    have hc:=hcap k0 rfl
    refine⟨by show len≤k0.cap-off;omega,fun hp=>hQ k0 rfl (by omega),fun i hi=>⟨h2 _ (by omega),fun j x hx => ?_⟩⟩
    have:=h4 k0 (off+i) j x rfl (by omega) hx
    rw[← this]
    show w.cell? ⟨k0.blk,k0.off+off*sz+i*sz+j,none⟩=_
    congr 2;rw[Nat.add_mul];omega
theorem eltB_len {b:Blk}{sz m:Nat}{g:Nat→List FV}(h:eltB (some b)=some (sz,m,g)):lenB (some b)=some m:=by
 cases b<;>first | (simp only[eltB,Option.some.injEq,Prod.mk.injEq] at h;obtain⟨_,rfl,_⟩:=h;rfl)|cases h
section
variable {B:Bd}{ρ:Val}{w:World}{M:List Blk}{Q:Nat→Prop}{E:EltF}
theorem fvS_nj {x:SV}{y:FV}(h:fvS x=some y):x.nj=true:=by cases x<;>first|rfl|cases h
theorem topS_ok (hM:MRel B ρ M w)(hQ:Lies E Q ρ M){x:SV}{b:Bool}{y:FV}(h:topS E M x=some (b,y))(hb:b=true):∃ q,TopR Q ρ.z w y q∧x.den ρ=q.den∧x.nj=true:=by
 unfold topS at h
 split at h
 . rename_i n sz off len
   split at h
   . rename_i sz' m g hk
     split at h
     . rename_i hs
       obtain rfl:sz=sz':=Nat.eq_of_beq_eq_true hs
       obtain⟨rfl,rfl⟩:=Prod.mk.inj (Option.some.inj h)
       simp only[decide_eq_true_eq] at hb
       obtain⟨c,hc⟩:∃ c,M[n]? = some c:=by
        cases hq:M[n]? with
        |none=>rw[nth_eq,hq] at hk;have:=hQ.1 _ _ hk;cases this
        |some c=>exact⟨c,rfl⟩
       rw[nth_eq,hc] at hk
       have hkE:=hk
       replace hk:=hQ.1 _ _ hk
       have hsrc:=eltB_ok (hM.ok n c hc) hk
       have hcap:=(len_cap (hM.ok n c hc) (eltB_len hk)).2
       refine⟨_,.row ((ρ n).map fun k=>⟨k.blk,k.off+off*sz,k.cap-off,k.sp,k.ok.imp_left fun h=>by omega⟩) (src_row hsrc hcap hb fun k hk' hp=>hQ.2 n c k hc hk' ⟨sz,m,g,hkE,hp⟩),?_,rfl⟩
       simp only[FV.den,SV.den,rowV]
       cases hl:ρ n with
       |none=>have:=(len_cap (hM.ok n c hc) (eltB_len hk)).1 hl;simp
       |some l=>simp
     . cases h
   . cases h
 . rename_i x hx
   split at h
   . rename_i y' hy
     obtain⟨rfl,rfl⟩:=Prod.mk.inj (Option.some.inj h)
     exact⟨y',.flat (fvS_flat hy),fvS_den hy ρ,fvS_nj hy⟩
   . cases h
theorem topL_ok (hM:MRel B ρ M w)(hQ:Lies E Q ρ M):∀ {l:List SV} {b:Bool} {m:List FV},topL E M l=some (b,m)→b=true→∃ q,TopRL Q ρ.z w m q∧denL ρ l=q.map FV.den
 |[],b,m,h,_=>by
  obtain⟨rfl,rfl⟩:=Prod.mk.inj (Option.some.inj h)
  exact⟨[],trivial,rfl⟩
 |x::l,b,m,h,hb=>by
  simp only[topL] at h
  split at h
  . rename_i b1 y c m' h1 h2
    obtain⟨rfl,rfl⟩:=Prod.mk.inj (Option.some.inj h)
    simp only[Bool.and_eq_true] at hb
    obtain⟨q1,r1,e1,_⟩:=topS_ok hM hQ h1 hb.1
    obtain⟨q2,r2,e2⟩:=topL_ok hM hQ h2 hb.2
    exact⟨q1::q2,⟨r1,r2⟩,by simp only[denL,List.map_cons,e1,e2]⟩
  . cases h
def mkR (z:Bool)(sz n:Nat)(g:Nat→List FV):Blk:=match z with
 |true=>.fz sz n g
 |false=>.ro sz n g
def namT (z:Bool):Nat→List FV→List SV×List Blk
 |_,[]=>([],[])
 |m,x::l=>match x with
  | .row sz n g=>match namT z (m+1) l with
    |(xs,bs)=>(.sl m sz 0 n::xs,mkR z sz n g::bs)
  |x=>match namT z m l with
   |(xs,bs)=>(x.sv::xs,bs)
theorem namT_flat {z:Bool}{m:Nat}{x:FV}(l:List FV)(h:x.flat=true):namT z m (x::l)=(x.sv::(namT z m l).1,(namT z m l).2):=by cases x<;>first|rfl|cases h
theorem namT_row (z:Bool)(m sz n:Nat)(g:Nat→List FV)(l:List FV):namT z m (.row sz n g::l)=(.sl m sz 0 n::(namT z (m+1) l).1,mkR z sz n g::(namT z (m+1) l).2):=rfl
def Fits (B:Bd)(Q zz:Nat→Prop):Bool→Prop
 |true=>∀ k,Q k→zz k
 |false=>∀ k,Q k → ¬ B.may k
theorem mkR_own (z:Bool)(sz n:Nat)(g:Nat→List FV):(mkR z sz n g).isOwn=false:=by cases z<;>rfl
theorem mkR_sc (z:Bool)(sz n:Nat)(g:Nat→List FV)(p:Nat→Bool):(mkR z sz n g).sc p=true:=by cases z<;>rfl
theorem RoL.ok {z:Bool}{l:Option Loc}{sz n:Nat}{g:Nat→List FV}(h:RoL Q ρ.z w l sz n g)(hQ:Fits B Q ρ.z z){m:Nat}(hl:ρ m=l):(mkR z sz n g).ok B ρ m w:=by
 obtain⟨q,hq,hk⟩:=h.some
 have key:∀ R:Nat→Prop,(∀ k,Q k→R k)→roOk R ρ m w sz n q:=fun R hR=>by
  refine⟨fun hn=>h.nil (by rw[← hl];exact hn),fun k hk' => ?_⟩
  rw[hl] at hk'
  obtain⟨h1,h2,h3⟩:=hk k hk'
  exact⟨h1,fun hp=>hR _ (h2 hp),fun i hi=>h3 i hi⟩
 cases z with
 |true=>exact⟨q,hq,key _ hQ⟩
 |false=>exact⟨q,hq,key _ hQ⟩
theorem namT_ok {z:Bool}{zz:Nat→Prop}(hQ:Fits B Q zz z):∀ (fs hs:List FV) (ρ:Val) (m:Nat),ρ.z=zz→TopRL Q ρ.z w fs hs→∃ ρ':Val,ρ'.z=ρ.z∧(∀ n,¬ (m≤n∧n<m+(namT z m fs).2.length)→ρ' n=ρ n)∧denL ρ' (namT z m fs).1=hs.map FV.den∧(∀ (k:Nat) (b:Blk),(namT z m fs).2[k]? = some b→b.ok B ρ' (m+k) w∧b.isOwn=false)
 |[],hs,ρ,m,hz,h=>by
  obtain rfl:hs=[]:=by cases hs with
    |nil=>rfl
    |cons y ys=>exact h.elim
  exact⟨ρ,rfl,fun _ _=>rfl,rfl,by simp[namT]⟩
 |x::fs,hs,ρ,m,hz,h=>by
  obtain⟨y,ys,rfl⟩:∃ y ys,hs=y::ys:=by
   cases hs with
   |nil=>exact h.elim
   |cons y ys=>exact⟨y,ys,rfl⟩
  obtain⟨h1,h2⟩:=h
  cases h1 with
  |flat hf=>
   obtain⟨ρ',e1,e2,e3,e4⟩:=namT_ok hQ fs ys ρ m hz h2
   rw[namT_flat _ hf]
   exact⟨ρ',e1,e2,by simp only[denL,List.map_cons,e3,FV.sv_den],e4⟩
  | @row sz n g l hr=>
    obtain⟨ρ',e1,e2,e3,e4⟩:=namT_ok hQ fs ys (setρ ρ m l) (m+1) hz h2
    have hm:ρ' m=l:=by rw[e2 m (by omega),setρ_self]
    rw[namT_row]
    refine⟨ρ',e1,fun k hk => ?_,?_,fun k b hb => ?_⟩
    . simp only[List.length_cons] at hk
      rw[e2 k (by omega),setρ_other (by omega)]
    . simp only[denL,List.map_cons,e3,SV.den,hm,FV.den,rowV,Nat.zero_mul,Nat.add_zero,Nat.sub_zero]
    . cases k with
      |zero=>
       obtain rfl:mkR z sz n g=b:=by simpa using hb
       refine⟨RoL.ok (l:=l) (by rw[e1];exact hr) (by rw[e1];exact hz▸hQ) (by rw[Nat.add_zero];exact hm),mkR_own ..⟩
      |succ k=>
       have:=e4 k b (by simpa using hb)
       rwa [show m+1+k=m+(k+1) by omega] at this
theorem namT_sc {z:Bool}:∀ (fs:List FV) (m:Nat),scL (fun n=>decide (n<m+(namT z m fs).2.length)) (namT z m fs).1=true
 |[],m=>rfl
 |x::fs,m=>by
  by_cases hf:x.flat=true
  . rw[namT_flat _ hf];simp only[scL,FV.sv_sc,Bool.true_and];exact namT_sc fs m
  . cases x<;>try (exact absurd rfl hf)
    rw[namT_row]
    simp only[scL,SV.sc,List.length_cons,Bool.and_eq_true,decide_eq_true_eq]
    exact⟨by omega,scL_mono (fun n hn=>by simp only[decide_eq_true_eq] at hn ⊢;omega) _ (namT_sc fs (m+1))⟩
theorem namT_bsc {z:Bool}:∀ (fs:List FV) (m:Nat) (b:Blk),b∈(namT z m fs).2→∀ {p:Nat→Bool},b.sc p=true
 |[],m,b,h=>by cases h
 |x::fs,m,b,h=>by
  by_cases hf:x.flat=true
  . rw[namT_flat _ hf] at h;exact namT_bsc fs m b h
  . cases x<;>try (exact absurd rfl hf)
    rw[namT_row] at h
    rcases List.mem_cons.1 h with rfl|h
    . exact mkR_sc ..
    . exact namT_bsc fs (m+1) b h
def namA (z:Bool):Nat→List AV→List SV×List Blk
 |_,[]=>([],[])
 |m,a::l=>match a with
  | .one x=>match x with
    | .row sz n g=>match namA z (m+1) l with
      |(xs,bs)=>(.sl m sz 0 n::xs,mkR z sz n g::bs)
    |x=>match namA z m l with
     |(xs,bs)=>(x.sv::xs,bs)
  | .agg fs=>match namT z m fs with
    |(ys,cs)=>match namA z (m+cs.length) l with
     |(xs,bs)=>(.agg ys::xs,cs++bs)
theorem namA_flat {z:Bool}{m:Nat}{x:FV}(l:List AV)(h:x.flat=true):namA z m (.one x::l)=(x.sv::(namA z m l).1,(namA z m l).2):=by cases x<;>first|rfl|cases h
theorem namA_row (z:Bool)(m sz n:Nat)(g:Nat→List FV)(l:List AV):namA z m (.one (.row sz n g)::l)=(.sl m sz 0 n::(namA z (m+1) l).1,mkR z sz n g::(namA z (m+1) l).2):=rfl
theorem namA_agg (z:Bool)(m:Nat)(fs:List FV)(l:List AV):namA z m (.agg fs::l)=(.agg (namT z m fs).1::(namA z (m+(namT z m fs).2.length) l).1,(namT z m fs).2++(namA z (m+(namT z m fs).2.length) l).2):=rfl
theorem namA_bsc {z:Bool}:∀ (l:List AV) (m:Nat) (b:Blk),b∈(namA z m l).2→∀ {p:Nat→Bool},b.sc p=true
 |[],m,b,h=>by cases h
 | .one x::l,m,b,h=>by
   by_cases hf:x.flat=true
   . rw[namA_flat _ hf] at h;exact namA_bsc l m b h
   . cases x<;>try (exact absurd rfl hf)
     rw[namA_row] at h
     rcases List.mem_cons.1 h with rfl|h
     . exact mkR_sc ..
     . exact namA_bsc l (m+1) b h
 | .agg fs::l,m,b,h=>by
   rw[namA_agg] at h
   rcases List.mem_append.1 h with h|h
   . exact namT_bsc fs m b h
   . exact namA_bsc l _ b h
theorem namA_sc {z:Bool}:∀ (l:List AV) (m:Nat),scL (fun n=>decide (n<m+(namA z m l).2.length)) (namA z m l).1=true
 |[],m=>rfl
 | .one x::l,m=>by
   by_cases hf:x.flat=true
   . rw[namA_flat _ hf];simp only[scL,FV.sv_sc,Bool.true_and];exact namA_sc l m
   . cases x<;>try (exact absurd rfl hf)
     rw[namA_row]
     simp only[scL,SV.sc,List.length_cons,Bool.and_eq_true,decide_eq_true_eq]
     exact⟨by omega,scL_mono (fun n hn=>by simp only[decide_eq_true_eq] at hn ⊢;omega) _ (namA_sc l (m+1))⟩
 | .agg fs::l,m=>by
   rw[namA_agg]
   simp only[scL,SV.sc,List.length_append,Bool.and_eq_true]
   exact⟨scL_mono (fun n hn=>by simp only[decide_eq_true_eq] at hn ⊢;omega) _ (namT_sc fs m),by rw[← Nat.add_assoc];exact namA_sc l _⟩
def TopAL (Q:Nat→Prop)(z:Nat→Prop)(w:World):List AV→List Value→Prop
 |[],[]=>True
 | .one x::l,v::vs=>(∃ q,TopR Q z w x q∧v=q.den)∧TopAL Q z w l vs
 | .agg fs::l,v::vs=>(∃ qs,TopRL Q z w fs qs∧v = .agg (qs.map FV.den).toArray)∧TopAL Q z w l vs
 |_,_=>False
theorem topA_ok (hM:MRel B ρ M w)(hQ:Lies E Q ρ M):∀ {l:List SV} {b:Bool} {m:List AV},topA E M l=some (b,m)→b=true→TopAL Q ρ.z w m (denL ρ l)
 |[],b,m,h,_=>by
  obtain⟨rfl,rfl⟩:=Prod.mk.inj (Option.some.inj h)
  trivial
 |x::l,b,m,h,hb=>by
  simp only[topA] at h
  split at h
  . rename_i xs
    split at h
    . rename_i b1 ys c m' h1 h2
      obtain⟨rfl,rfl⟩:=Prod.mk.inj (Option.some.inj h)
      simp only[Bool.and_eq_true] at hb
      obtain⟨q1,r1,e1⟩:=topL_ok hM hQ h1 hb.1
      exact⟨⟨q1,r1,by simp only[SV.den,e1]⟩,topA_ok hM hQ h2 hb.2⟩
    . cases h
  . split at h
    . rename_i b1 y c m' h1 h2
      obtain⟨rfl,rfl⟩:=Prod.mk.inj (Option.some.inj h)
      simp only[Bool.and_eq_true] at hb
      obtain⟨q1,r1,e1,_⟩:=topS_ok hM hQ h1 hb.1
      exact⟨⟨q1,r1,e1⟩,topA_ok hM hQ h2 hb.2⟩
    . cases h
theorem TopAL.eqv {z:Nat→Prop}:∀ {l m:List AV} {vs:List Value},AVEqL l m→TopAL Q z w l vs→TopAL Q z w m vs
 |[],[],_,_,h=>h
 | .one x::l,.one y::m,v::vs,he,⟨⟨q,h1,h2⟩,h3⟩=>⟨⟨q,h1.eqv he.1,h2⟩,TopAL.eqv he.2 h3⟩
 | .agg x::l,.agg y::m,v::vs,he,⟨⟨q,h1,h2⟩,h3⟩=>⟨⟨q,h1.eqv he.1,h2⟩,TopAL.eqv he.2 h3⟩
 | .one _::_,.agg _::_,_,he,_=>he.1.elim
 | .agg _::_,.one _::_,_,he,_=>he.1.elim
 |[],_::_,_,he,_=>he.elim
 |_::_,[],_,he,_=>he.elim
 | .one _::_,.one _::_,[],_,h=>h.elim
 | .agg _::_,.agg _::_,[],_,h=>h.elim
theorem namA_ok {z:Bool}{zz:Nat→Prop}(hQ:Fits B Q zz z):∀ (l:List AV) (vs:List Value) (ρ:Val) (m:Nat),ρ.z=zz→TopAL Q ρ.z w l vs→∃ ρ':Val,ρ'.z=ρ.z∧(∀ n,¬ (m≤n∧n<m+(namA z m l).2.length)→ρ' n=ρ n)∧denL ρ' (namA z m l).1=vs∧(∀ (k:Nat) (b:Blk),(namA z m l).2[k]? = some b→b.ok B ρ' (m+k) w∧b.isOwn=false)∧scL (fun n=>decide (n<m+(namA z m l).2.length)) (namA z m l).1=true
 |[],vs,ρ,m,hz,h=>by
  obtain rfl:vs=[]:=by cases vs with
    |nil=>rfl
    |cons y ys=>exact h.elim
  exact⟨ρ,rfl,fun _ _=>rfl,rfl,by simp[namA],rfl⟩
 |a::l,[],ρ,m,hz,h=>by cases a<;>exact h.elim
 | .one x::l,v::vs,ρ,m,hz,⟨⟨q,h1,h2⟩,h3⟩=>by
   cases h1 with
   |flat hf=>
    obtain⟨ρ',e1,e2,e3,e4,e5⟩:=namA_ok hQ l vs ρ m hz h3
    rw[namA_flat _ hf]
    refine⟨ρ',e1,e2,by simp only[denL,e3,FV.sv_den,h2],e4,?_⟩
    simp only[scL,FV.sv_sc,Bool.true_and];exact e5
   | @row sz n g lo hr=>
     obtain⟨ρ',e1,e2,e3,e4,e5⟩:=namA_ok hQ l vs (setρ ρ m lo) (m+1) hz h3
     have hm:ρ' m=lo:=by rw[e2 m (by omega),setρ_self]
     rw[namA_row]
     refine⟨ρ',e1,fun k hk => ?_,?_,fun k b hb => ?_,?_⟩
     . simp only[List.length_cons] at hk
       rw[e2 k (by omega),setρ_other (by omega)]
     . simp only[denL,e3,SV.den,hm,h2,FV.den,rowV,Nat.zero_mul,Nat.add_zero,Nat.sub_zero]
     . cases k with
       |zero=>
        obtain rfl:mkR z sz n g=b:=by simpa using hb
        refine⟨RoL.ok (l:=lo) (by rw[e1];exact hr) (by rw[e1];exact hz▸hQ) (by rw[Nat.add_zero];exact hm),mkR_own ..⟩
       |succ k=>
        have:=e4 k b (by simpa using hb)
        rwa [show m+1+k=m+(k+1) by omega] at this
     . simp only[scL,SV.sc,List.length_cons,Bool.and_eq_true,decide_eq_true_eq]
       exact⟨by omega,scL_mono (fun n hn=>by simp only[decide_eq_true_eq] at hn ⊢;omega) _ e5⟩
 | .agg fs::l,v::vs,ρ,m,hz,⟨⟨qs,h1,h2⟩,h3⟩=>by
   obtain⟨ρ1,a1,a2,a3,a4⟩:=namT_ok hQ fs qs ρ m hz h1
   obtain⟨ρ',e1,e2,e3,e4,e5⟩:=namA_ok hQ l vs ρ1 (m+(namT z m fs).2.length) (a1.trans hz) (by rw[a1];exact h3)
   have hkeep:∀ n,n<m+(namT z m fs).2.length→ρ' n=ρ1 n:=fun n hn=>e2 n (by omega)
   have hsc:scL (fun n=>decide (n<m+(namT z m fs).2.length)) (namT z m fs).1=true:=namT_sc fs m
   rw[namA_agg]
   refine⟨ρ',e1.trans a1,fun k hk => ?_,?_,fun k b hb => ?_,?_⟩
   . simp only[List.length_append] at hk
     rw[e2 k (by omega),a2 k (by omega)]
   . simp only[denL,e3,SV.den,h2]
     rw[denL_congr (ρ:=ρ1) (ρ':=ρ') (p:=fun n=>decide (n<m+(namT z m fs).2.length)) (fun n hn=>hkeep n (by simpa using hn)) _ hsc,a3]
   . rcases Nat.lt_or_ge k (namT z m fs).2.length with hlt|hge
     . rw[List.getElem?_append_left hlt] at hb
       obtain⟨b1,b2⟩:=a4 k b hb
       exact⟨b1.elim_congr (m:=m+(namT z m fs).2.length) hkeep (fun j hj=>by rw[e1];exact hj) (by omega) (namT_bsc fs m b (List.mem_of_getElem? hb)),b2⟩
     . rw[List.getElem?_append_right hge] at hb
       have:=e4 _ b hb
       rwa [show m+(namT z m fs).2.length+(k - (namT z m fs).2.length)=m+k by omega] at this
   . simp only[scL,SV.sc,List.length_append,Bool.and_eq_true]
     exact⟨scL_mono (fun n hn=>by simp only[decide_eq_true_eq] at hn ⊢;omega) _ hsc,by rw[← Nat.add_assoc];exact e5⟩
end
theorem TopR.mono {Q z z':Nat→Prop}{w:World}(hz:∀ k,z k→z' k){x y:FV}(h:TopR Q z w x y):TopR Q z' w x y:=by
 cases h with
 |flat hf=>exact .flat hf
 |row l h=>
  obtain⟨q,h1,h2⟩:=h.some
  exact .row l ⟨h.nil,q,fun i hi=>(h1 i hi).mono hz (fun _ _=>rfl),h2⟩
theorem TopRL.mono {Q z z':Nat→Prop}{w:World}(hz:∀ k,z k→z' k):∀ {a b:List FV},TopRL Q z w a b→TopRL Q z' w a b
 |[],[],_=>trivial
 |x::a,y::b,h=>⟨h.1.mono hz,TopRL.mono hz h.2⟩
 |[],_::_,h=>h.elim
 |_::_,[],h=>h.elim
theorem TopAL.mono {Q z z':Nat→Prop}{w:World}(hz:∀ k,z k→z' k):∀ {l:List AV} {vs:List Value},TopAL Q z w l vs→TopAL Q z' w l vs
 |[],[],_=>trivial
 | .one x::l,v::vs,⟨⟨q,h1,h2⟩,h3⟩=>⟨⟨q,h1.mono hz,h2⟩,TopAL.mono hz h3⟩
 | .agg x::l,v::vs,⟨⟨q,h1,h2⟩,h3⟩=>⟨⟨q,h1.mono hz,h2⟩,TopAL.mono hz h3⟩
 |[],_::_,h=>h.elim
 | .one _::_,[],h=>h.elim
 | .agg _::_,[],h=>h.elim
theorem lies_all {B:Bd}{ρ:Val}{w:World}{M:List Blk}(hM:MRel B ρ M w):Lies eltB (fun k=>k<w.heap.size) ρ M:=
 ⟨fun _ _ h=>h,fun n b l hn hl ⟨sz,m,g,hk,hp⟩=>src_lt hM.size (fun k hk=>(hM.zhi k hk).1) (hM.ok n b hn) hk hp hl⟩
theorem mrel_ro {B':Bd}{ρ':Val}{w:World}{V:List Blk}(hs:B'.s≤w.heap.size)(hz:ρ'.z=B'.z)(hzb:∀ k,B'.z k → ¬ B'.may k)(hzl:∀ k,B'.z k→k<w.heap.size)(hV:∀ (k:Nat) (b:Blk),V[k]? = some b→b.ok B' ρ' k w∧b.isOwn=false):MRel B' ρ' V w:=
 ⟨hs,fun n b hb=>(hV n b hb).1,fun n m b c l k hne h1 h2 o1=>by rw[(hV n b h1).2] at o1;(cases o1),hzb,fun k hk=>by rw[hz];exact hk,fun k hk=>by rw[hz] at hk;exact⟨hzl k hk,.inl hk⟩,fun n b l hb ho=>by rw[(hV n b hb).2] at ho;(cases ho),fun k hk=>by rw[hz] at hk;exact .inl hk⟩
section
variable {P:Program}{G:World→Prop}{Γ:Env}{f:FuncId}{fn:Func}
theorem enter_top {B:Bd}{ρ:Val}{w:World}{M:List Blk}(hM:MRel B ρ M w){args args0:List SV}{M0:List Blk}{b:Bool}{av av':List AV}(hv:topA eltB M args=some (b,av))(hb:b=true)(he:AVEqL av av')(h0:namA false 0 av'=(args0,M0)):
  ∃ ρ0:Val,ρ0.z=ρ.z∧denL ρ0 args0=denL ρ args∧MRel ⟨w.heap.size,[],ρ.z⟩ ρ0 M0 w∧okSt args0 M0=true:=by
 have h1:=(topA_ok hM (lies_all hM) hv hb).eqv he
 have hfit:Fits ⟨w.heap.size,[],ρ.z⟩ (fun k=>k<w.heap.size) ρ.z false:=fun k hk hm=>hm.elim (fun h=>by cases h) fun h=>by
  have h:w.heap.size≤k:=h
  omega
 obtain⟨ρ0,e1,_,e3,e4,e5⟩:=namA_ok (B:=⟨w.heap.size,[],ρ.z⟩) hfit av' _ ⟨fun _=>none,ρ.z⟩ 0 rfl h1
 rw[h0] at e3 e4 e5
 refine⟨ρ0,e1,e3,mrel_ro (Nat.le_refl _) e1 (zlt_sub hM) (fun k hk=>(hM.zhi k hk).1) (fun k c hc=>by have:=e4 k c hc;rwa [Nat.zero_add] at this),?_⟩
 simp only[okSt,Bool.and_eq_true]
 refine⟨by simpa using e5,?_⟩
 simp only[scAll,List.all_eq_true]
 intro c hc
 have:c∈(namA false 0 av').2:=by rw[h0];exact hc
 exact namA_bsc av' 0 c this
theorem ctr_top (hG:Stable G)(hΓ:EnvOk P G Γ)(hf:P.funcs[f]? = some fn)(hb:fn.body.isSome=true)(hm:Okay P)(T:Tbl)(hT:codeOk T (bodyOf fn)=true)(n:Nat)
  {args:List SV} {M:List Blk} {sv:SV} {c:Bool} {av:List AV} (av':List AV) {args0:List SV} {M0:List Blk} (hv:topA eltB M args=some (c,av)) (hc:c=true) (he:AVEqL av av') (h0:namA false 0 av'=(args0,M0))
  (h:run P Γ n T 0 (bodyOf fn) (initF fn args0) M0 (retK P fn fun x _=>eqv x sv)):
  ∀ (B:Bd) (ρ:Val) (w:World),G w→MRel B ρ M w→Calls P f (denL ρ args).toArray w fun e w'=>
    ∃ (ρ':Val) (v:Value),e = .returned v∧(sv ≠ .junk→v=sv.den ρ')∧Val.Ext w.heap.size (fun n => ¬ (M.length≤n∧n<M.length+([]:List Blk).length)) ρ ρ'∧Below w.heap.size w w'∧New B w.heap.size ρ' M.length [] w':=by
 intro B ρ w hGw hM
 obtain⟨ρ0,e1,e2,e3,e4⟩:=enter_top hM hv hc he h0
 have hrun:=calls_run hG hΓ hf hb hm T hT n hGw e4 e3 h
 rw[e2] at hrun
 refine hrun.mono ?_
 rintro e w' ⟨ρ',x,M',rfl,hx,hM',hbel⟩
 exact⟨ρ,_,rfl,fun _=>eqv_den hx ρ' ρ,Val.Ext.refl ..,hbel,new_none hM hbel⟩
def outA (tp:Bool)(xs:List SV):SV:=match tp with
 |true=>.tup xs
 |false=>match xs with
  |[x]=>x
  |_=>.junk
def TellsC (tp:Bool)(as0:List AV):SV→List Blk→Prop:=fun x M1=>∃ xs b av,x=outA tp xs∧(tp=true∨xs.length=1)∧topA eltZ M1 xs=some (b,av)∧b=true∧AVEqL av as0
theorem outA_den {tp:Bool}{xs ys:List SV}{ρ ρ':Val}(h:denL ρ xs=denL ρ' ys)(hl:tp=true∨xs.length=1):(outA tp xs).den ρ=(outA tp ys).den ρ':=by
 cases tp with
 |true=>simp only[outA,SV.den,h]
 |false=>
  rcases hl with hl|hl
  . cases hl
  . obtain⟨x,rfl⟩:=List.length_eq_one_iff.1 hl
    have h2:=congrArg List.length h
    simp only[denL_eq,List.length_map] at h2
    obtain⟨y,rfl⟩:=List.length_eq_one_iff.1 h2.symm
    simpa [outA,denL] using h
theorem ctr_topc (hG:Stable G)(hΓ:EnvOk P G Γ)(hf:P.funcs[f]? = some fn)(hb:fn.body.isSome=true)(hm:Okay P)(T:Tbl)(hT:codeOk T (bodyOf fn)=true)(n:Nat)
  {args:List SV} {M:List Blk} {c:Bool} {av:List AV} (av':List AV) {args0:List SV} {M0:List Blk} (hv:topA eltB M args=some (c,av)) (hc:c=true) (he:AVEqL av av') (h0:namA false 0 av'=(args0,M0)) (tp:Bool) (as0:List AV)
  (h:run P Γ n T 0 (bodyOf fn) (initF fn args0) M0 (retK P fn (TellsC tp as0))):
  ∀ (B:Bd) (ρ:Val) (w:World),G w→MRel B ρ M w→Calls P f (denL ρ args).toArray w fun e w'=>
    ∃ (ρ':Val) (v:Value),e = .returned v∧(outA tp (namA true M.length as0).1 ≠ .junk→v=(outA tp (namA true M.length as0).1).den ρ')∧Val.Ext w.heap.size (fun n => ¬ (M.length≤n∧n<M.length+(namA true M.length as0).2.length)) ρ ρ'∧Below w.heap.size w w'∧New B w.heap.size ρ' M.length (namA true M.length as0).2 w':=by
 intro B ρ w hGw hM
 obtain⟨ρ0,e1,e2,e3,e4⟩:=enter_top hM hv hc he h0
 have hrun:=calls_run hG hΓ hf hb hm T hT n hGw e4 e3 h
 rw[e2] at hrun
 refine hrun.mono ?_
 rintro e w' ⟨ρ1,x,M1,rfl,⟨xs,b,as1,rfl,hlen,hv1,hb1,he1⟩,hM1,hbel⟩
 let z':Nat→Prop:=fun k=>ρ.z k∨(w.heap.size≤k∧isC w' k)
 have fresh:∀ j,(⟨w.heap.size,[],ρ.z⟩:Bd).may j→w.heap.size≤j:=fun j hj=>hj.elim (fun h=>by cases h) fun h=>h
 have zsub:∀ k,ρ1.z k→z' k:=fun k hk=>by
  rcases (hM1.zhi k hk).2 with h|h
  . exact .inl h
  . rcases hM1.zc k hk with h2|h2
    . exact .inl h2
    . exact .inr ⟨fresh k h,h2⟩
 have lies:Lies eltZ z' ρ1 M1:=by
  refine⟨fun b r h => ?_,fun n b l hn hl ⟨sz,m,g,hk,hp⟩ => ?_⟩
  . cases b with
    |none=>cases h
    |some b=>cases b<;>first|exact h|cases h
  . cases b with
    |fz sz' m' g'=>
     simp only[eltZ,Option.some.injEq,Prod.mk.injEq] at hk
     obtain⟨rfl,rfl,rfl⟩:=hk
     obtain⟨q,hr,ho⟩:=hM1.ok n _ hn
     exact zsub _ ((ho.2 l hl).2.1 hp)
    |own ty sz' m' g'=>
     have hm:=(Blk.ok_lt (hM1.ok n _ hn) rfl hl).1
     obtain⟨q,hr,ho⟩:=hM1.ok n _ hn
     rcases ho.2 with⟨h0,_⟩ | ⟨l',cur,hl',_,_,hh,_⟩
     . rw[hl] at h0;cases h0
     . rw[hl] at hl';obtain rfl:=Option.some.inj hl'
       exact .inr ⟨fresh _ hm,cur,_,_,hh⟩
    |_=>cases hk
 have h1:=(topA_ok hM1 lies hv1 hb1).eqv he1
 have h2:TopAL z' z' w' as0 (denL ρ1 xs):=TopAL.mono zsub h1
 obtain⟨ρ',f1,f2,f3,f4,f5⟩:=namA_ok (B:=B) (z:=true) (zz:=z') (fun k hk=>hk) as0 _ ⟨ρ.loc,z'⟩ M.length rfl h2
 have fo:∀ (k:Nat) (b:Blk),(namA true M.length as0).2[k]? = some b→b.isOwn=false:=fun k b hb=>(f4 k b hb).2
 refine⟨ρ',_,rfl,fun _=>outA_den f3.symm hlen,⟨fun k hk=>f2 k hk,fun k hk=>by rw[f1];exact .inl hk,fun k hk=>by rw[f1] at hk;exact hk.imp_right (·.1)⟩,hbel,⟨fun k b hb=>(f4 k b hb).1,fun k b l hb ho=>(by rw[fo k b hb] at ho;cases ho),fun i j b c l k _ h1 _ o1=>(by rw[fo i b h1] at o1;cases o1),fun k b l hb ho=>(by rw[fo k b hb] at ho;cases ho),fun k hk => ?_,fun k hk hl => ?_⟩⟩
 . rw[f1] at hk
   rcases hk with hk | ⟨_,cur,ty,fz,hh⟩
   . exact Nat.lt_of_lt_of_le (hM.zhi k hk).1 hbel.size
   . exact(Array.getElem?_eq_some_iff.1 hh).1
 . rw[f1] at hk
   rcases hk with hk | ⟨_,hc⟩
   . have:=(hM.zhi k hk).1;omega
   . exact hc
end
end Go.Sx
namespace Go.Sx
open Go.RowKit Go.Proofs.YtfgkhenhlpoheaaGreat
inductive Tr where
 |mk (k n:Int) (bs:List Int) (kids:List Tr)
namespace Tr
def k:Tr→Int
 |mk k _ _ _=>k
def n:Tr→Int
 |mk _ n _ _=>n
def bs:Tr→List Int
 |mk _ _ b _=>b
def kids:Tr→List Tr
 |mk _ _ _ l=>l
def no:Tr:=mk 0 0 [] []
mutual
def sz:Tr→Nat
 |mk _ _ _ l=>1+szL l
def szL:List Tr→Nat
 |[]=>0
 |t::l=>sz t+szL l
end
theorem eta (t:Tr):t=mk t.k t.n t.bs t.kids:=by cases t;rfl
theorem sz_eq (t:Tr):t.sz=1+szL t.kids:=by cases t;rfl
theorem szL_get:∀ (l:List Tr) (i:Nat),i<l.length→(l.getD i no).sz≤szL l
 |t::l,0,_=>by simp[szL]
 |t::l,i+1,h=>by
  have:=szL_get l i (by simpa using h)
  simp only[List.getD_cons_succ,szL];omega
theorem kid_lt {t:Tr}{i:Nat}(h:i<t.kids.length):(t.kids.getD i no).sz<t.sz:=by
 have:=szL_get t.kids i h
 rw[sz_eq t];omega
theorem ind {p:Tr→Prop}(h:∀ t,(∀ i,i<t.kids.length→p (t.kids.getD i no))→p t)(t:Tr):p t:=by
 have:∀ N (t:Tr),t.sz<N→p t:=by
  intro N
  induction N with
  |zero=>intro t h;omega
  |succ N ih=>intro t ht;exact h t fun i hi=>ih _ (by have:=kid_lt hi;omega)
 exact this _ t (Nat.lt_succ_self _)
end Tr
def eB:Enc Int:=⟨fun b=>[.int .u8 b],fun l=>match l with | [.int .u8 b]=>b|_=>0,fun l=>match l with | [.int .u8 _]=>true|_=>false,0,
 fun l h=>by revert h;split<;>simp_all,fun _=>rfl,fun _=>rfl⟩
mutual
def encT:Tr→List FV
 | .mk k n bs l=>[.int .u8 k,.int .i64 n,.row 1 bs.length (gOf eB bs),.row 4 l.length (encK l)]
def encK:List Tr→Nat→List FV
 |[],_=>[]
 |t::_,0=>encT t
 |_::l,i+1=>encK l i
end
@[reducible] def celT (t:Tr):List FV:=[.int .u8 t.k,.int .i64 t.n,.row 1 t.bs.length (gOf eB t.bs),.row 4 t.kids.length (encK t.kids)]
theorem encT_eq (t:Tr):encT t=celT t:=by cases t;simp[encT,celT,Tr.k,Tr.n,Tr.bs,Tr.kids]
theorem encK_get:∀ (l:List Tr) (i:Nat),i<l.length→encK l i=celT (l.getD i .no)
 |t::l,0,_=>by simp only[encK,List.getD_cons_zero,encT_eq]
 |t::l,i+1,h=>by
  simp only[encK,List.getD_cons_succ]
  exact encK_get l i (by simpa using h)
@[reducible] def gK (l:List Tr):Nat→List FV:=fun i=>celT (l.getD i .no)
theorem FVEq.inv_row {x y:FV}(h:FVEq x y):∀ {sz n:Nat} {g:Nat→List FV},y = .row sz n g→(x = .val (.slice none 0 0)∧n=0) ∨ ∃ sz' g',x = .row sz' n g'∧(0<n→sz'=sz)∧∀ i,i<n→FVEqL (g' i) (g i):=by
 cases h with
 |nil=>intro sz n g e;injection e with e1 e2;exact .inl ⟨rfl,e2.symm⟩
 |flat hf=>intro sz n g e;subst e;cases hf
 | @row sz0 sz1 n0 g0 g1 hs hl hr=>
   intro sz n g e
   injection e with e1 e2 e3
   subst e1 e2 e3
   exact .inr ⟨sz0,g0,rfl,hs,fun i hi=>⟨hl i hi,fun j a b ha hb=>hr i j a b hi ha hb⟩⟩
theorem FVEq.inv_int {x:FV}{k:IntKind}{n:Int}(h:FVEq x (.int k n)):x = .int k n:=by
 generalize hy:FV.int k n=y at h
 cases h with
 |nil=>cases hy
 |flat _=>rfl
 |row=>cases hy
@[reducible] def IsT (l:List FV) (t:Tr):Prop:=FVEqL l (celT t)
theorem isT_inv {l:List FV}{t:Tr}(h:IsT l t):∃ c d,l=[.int .u8 t.k,.int .i64 t.n,c,d]∧FVEq c (.row 1 t.bs.length (gOf eB t.bs))∧FVEq d (.row 4 t.kids.length (encK t.kids)):=by
 obtain⟨hl,hr⟩:=h
 match l,hl with
 |[a,b,c,d],_=>
  have h0:=FVEq.inv_int (hr 0 a _ rfl rfl)
  have h1:=FVEq.inv_int (hr 1 b _ rfl rfl)
  exact⟨c,d,by rw[h0,h1],hr 2 c _ rfl rfl,hr 3 d _ rfl rfl⟩
theorem isT_mk {t:Tr}{c d:FV}(hc:FVEq c (.row 1 t.bs.length (gOf eB t.bs)))(hd:FVEq d (.row 4 t.kids.length (encK t.kids))):IsT [.int .u8 t.k,.int .i64 t.n,c,d] t:=by
 refine⟨rfl,fun j x y hx hy => ?_⟩
 match j with
 |0=>simp at hx hy;subst hx hy;exact .flat rfl
 |1=>simp at hx hy;subst hx hy;exact .flat rfl
 |2=>simp at hx hy;subst hx hy;exact hc
 |3=>simp at hx hy;subst hx hy;exact hd
 |j+4=>simp at hx
theorem bytes_uniq {c:FV}{a b:List Int}(h1:FVEq c (.row 1 a.length (gOf eB a)))(h2:FVEq c (.row 1 b.length (gOf eB b))):a=b:=by
 rcases h1.inv_row rfl with⟨e1,l1⟩ | ⟨s1,g1,e1,_,r1⟩
 . rcases h2.inv_row rfl with⟨_,l2⟩ | ⟨s2,g2,e2,_,r2⟩
   . rw[List.eq_nil_of_length_eq_zero l1,List.eq_nil_of_length_eq_zero l2]
   . rw[e1] at e2;cases e2
 . rcases h2.inv_row rfl with⟨e2,_⟩ | ⟨s2,g2,e2,_,r2⟩
   . rw[e1] at e2;cases e2
   . rw[e1] at e2
     injection e2 with x1 x2 x3
     subst x1 x3
     apply List.ext_getElem x2
     intro i hi hi'
     have q1:=r1 i hi
     have q2:=r2 i hi'
     have hl:=q1.1
     match hg:g1 i,hl with
     |[x],_=>
      rw[hg] at q1 q2
      have a1:=FVEq.inv_int (q1.2 0 x (.int .u8 (a.getD i 0)) rfl rfl)
      have a2:=FVEq.inv_int (q2.2 0 x (.int .u8 (b.getD i 0)) rfl rfl)
      rw[a1] at a2
      injection a2 with _ a3
      simpa [List.getD_eq_getElem?_getD,hi,hi'] using a3
theorem isT_uniq:∀ (t:Tr) {l:List FV} {u:Tr},IsT l t→IsT l u→t=u:=by
 refine Tr.ind fun t ih => ?_
 intro l u h1 h2
 obtain⟨c,d,e1,c1,d1⟩:=isT_inv h1
 obtain⟨c',d',e2,c2,d2⟩:=isT_inv h2
 rw[e1] at e2
 injection e2 with x1 x2
 injection x2 with x2 x3
 injection x3 with x3 x4
 injection x4 with x4 _
 injection x1 with _ x1
 injection x2 with _ x2
 subst x3 x4
 have hb:=bytes_uniq c1 c2
 have hk:t.kids=u.kids:=by
  rcases d1.inv_row rfl with⟨q1,l1⟩ | ⟨s1,g1,q1,_,r1⟩
  . rcases d2.inv_row rfl with⟨_,l2⟩ | ⟨s2,g2,q2,_,r2⟩
    . rw[List.eq_nil_of_length_eq_zero l1,List.eq_nil_of_length_eq_zero l2]
    . rw[q1] at q2;cases q2
  . rcases d2.inv_row rfl with⟨q2,_⟩ | ⟨s2,g2,q2,_,r2⟩
    . rw[q1] at q2;cases q2
    . rw[q1] at q2
      injection q2 with y1 y2 y3
      subst y1 y3
      apply List.ext_getElem y2
      intro i hi hi'
      have w1:=r1 i hi
      have w2:=r2 i hi'
      rw[encK_get _ _ hi] at w1
      rw[encK_get _ _ hi'] at w2
      have:=ih i hi w1 w2
      simpa [List.getD_eq_getElem?_getD,hi,hi'] using this
 rw[t.eta,u.eta,x1,x2,hb,hk]
theorem FVEq.of_rows {sz n:Nat}{g h:Nat→List FV}(e:∀ i,i<n→g i=h i):FVEq (.row sz n g) (.row sz n h):=
 .row (fun _=>rfl) (fun i hi=>by rw[e i hi]) fun i j x y hi hx hy=>by
   rw[e i hi,hy] at hx
   obtain rfl:=Option.some.inj hx
   exact FVEq.refl _
noncomputable def decT (l:List FV):Tr:=by
 classical
 exact if h:∃ t,IsT l t then h.choose else .no
noncomputable def isT (l:List FV):Bool:=by
 classical
 exact decide (∃ t,IsT l t)
theorem isT_of {l:List FV}{t:Tr}(h:IsT l t):isT l=true:=by
 classical
 unfold isT
 simp only[decide_eq_true_eq];exact⟨t,h⟩
theorem decT_of {l:List FV}{t:Tr}(h:IsT l t):decT l=t:=by
 classical
 have hx:∃ t,IsT l t:=⟨t,h⟩
 unfold decT
 rw[dif_pos hx]
 exact isT_uniq _ hx.choose_spec h
theorem isT_cel (t:Tr):IsT (celT t) t:=FVEqL.refl _
@[simp] theorem decT_cel (t:Tr):decT [.int .u8 t.k,.int .i64 t.n,.row 1 t.bs.length (gOf eB t.bs),.row 4 t.kids.length (encK t.kids)]=t:=decT_of (isT_cel t)
@[simp] theorem isT_cel' (t:Tr):isT [.int .u8 t.k,.int .i64 t.n,.row 1 t.bs.length (gOf eB t.bs),.row 4 t.kids.length (encK t.kids)]=true:=isT_of (isT_cel t)
theorem isT_gK (t:Tr):IsT [.int .u8 t.k,.int .i64 t.n,.row 1 t.bs.length (gOf eB t.bs),.row 4 t.kids.length (gK t.kids)] t:=
 isT_mk (.refl _) (.of_rows fun i hi=>(encK_get _ i hi).symm)
@[simp] theorem decT_gK (t:Tr):decT [.int .u8 t.k,.int .i64 t.n,.row 1 t.bs.length (gOf eB t.bs),.row 4 t.kids.length (gK t.kids)]=t:=decT_of (isT_gK t)
@[simp] theorem isT_gK' (t:Tr):isT [.int .u8 t.k,.int .i64 t.n,.row 1 t.bs.length (gOf eB t.bs),.row 4 t.kids.length (gK t.kids)]=true:=isT_of (isT_gK t)
namespace Tr
mutual
def right:Tr→Bool
 |mk k n bs l=>(k==1||(k==3||k==2))&&((k==1||n==0)&&((k==2||bs.length==0)&&((k==3||l.length==0)&&rightL l)))
def rightL:List Tr→Bool
 |[]=>true
 |t::l=>right t&&rightL l
end
mutual
def within:Tr→Int→Bool
 |mk k _ _ l,d=>k != 3||(decide (0<d)&&withinL l (IntKind.i64.wrap (d-1)))
def withinL:List Tr→Int→Bool
 |[],_=>true
 |t::l,d=>within t d&&withinL l d
end
def low (v:BitVec 64):Nat→List Int
 |0=>[]
 |m+1=>IntKind.u8.wrap (uv (v >>> (8*m)))::low v m
def many (v:BitVec 64):Nat:=(bl v+7) / 8
def top (k:Int)(b:Int):Int:=Go.bits .or .u8 (IntKind.u8.wrap (IntKind.u8.wrap (k-1)*2^min (BitVec.ofInt 64 6).toNat IntKind.u8.bits)) (IntKind.u8.wrap b)
def head (k:Int)(v:BitVec 64):List Int:=if decide (v<BitVec.ofInt 64 56) then [top k (uv v)] else top k (55+(many v:Int))::low v (many v)
def zig (n:Int):BitVec 64:=(BitVec.ofInt 64 n <<< (BitVec.ofInt 64 1).toNat) ^^^ BitVec.ofInt 64 (n.fdiv (2^min (BitVec.ofInt 64 63).toNat IntKind.i64.bits))
mutual
def put:Tr→List Int
 |mk k n bs l=>if k==1 then head 1 (zig n) else if k==2 then head 2 (BitVec.ofInt 64 bs.length)++bs else head 3 (BitVec.ofInt 64 l.length)++putL l
def putL:List Tr→List Int
 |[]=>[]
 |t::l=>put t++putL l
end
mutual
def same:Tr→Tr→Bool
 |mk k n bs l,u=>k==u.k&&(n==u.n&&(l.length==u.kids.length&&(bs==u.bs&&sameL l u.kids)))
def sameL:List Tr→List Tr→Bool
 |[],_=>true
 |_::_,[]=>true
 |t::l,u::m=>same t u&&sameL l m
end
def puts (t:Tr):List Int×Int:=if t.right then (if t.within 16 then (t.put,0) else ([],3)) else ([],2)
end Tr
end Go.Sx
namespace Go.Sx
open Go.RowKit Go.Proofs.YtfgkhenhlpoheaaGreat
structure Cel (α:Type) where
 cel:α→List FV
 dft:α
 uniq:∀ {l:List FV} {a b:α},FVEqL l (cel a)→FVEqL l (cel b)→a=b
namespace Cel
section
variable {α:Type}(c:Cel α)
noncomputable def dec (l:List FV):α:=by
 classical
 exact if h:∃ a,FVEqL l (c.cel a) then h.choose else c.dft
noncomputable def is (l:List FV):Bool:=by
 classical
 exact decide (∃ a,FVEqL l (c.cel a))
variable {c}
theorem is_of {l:List FV}{a:α}(h:FVEqL l (c.cel a)):c.is l=true:=by
 classical
 unfold is
 simp only[decide_eq_true_eq];exact⟨a,h⟩
theorem dec_of {l:List FV}{a:α}(h:FVEqL l (c.cel a)):c.dec l=a:=by
 classical
 have hx:∃ a,FVEqL l (c.cel a):=⟨a,h⟩
 unfold dec
 rw[dif_pos hx]
 exact c.uniq hx.choose_spec h
theorem is_dec {l:List FV}(h:c.is l=true):FVEqL l (c.cel (c.dec l)):=by
 classical
 unfold is at h
 simp only[decide_eq_true_eq] at h
 obtain⟨a,ha⟩:=h
 rw[dec_of ha];exact ha
@[reducible] def g (c:Cel α) (L:List α):Nat→List FV:=fun i=>c.cel (L.getD i c.dft)
theorem rows_uniq {x:FV}{sz sz':Nat}{a b:List α}(h1:FVEq x (.row sz a.length (c.g a)))(h2:FVEq x (.row sz' b.length (c.g b))):a=b:=by
 rcases h1.inv_row rfl with⟨e1,l1⟩ | ⟨s1,g1,e1,_,r1⟩
 . rcases h2.inv_row rfl with⟨_,l2⟩ | ⟨s2,g2,e2,_,r2⟩
   . rw[List.eq_nil_of_length_eq_zero l1,List.eq_nil_of_length_eq_zero l2]
   . rw[e1] at e2;cases e2
 . rcases h2.inv_row rfl with⟨e2,_⟩ | ⟨s2,g2,e2,_,r2⟩
   . rw[e1] at e2;cases e2
   . rw[e1] at e2
     injection e2 with x1 x2 x3
     subst x1 x3
     apply List.ext_getElem x2
     intro i hi hi'
     have:=c.uniq (r1 i hi) (r2 i hi')
     simpa [List.getD_eq_getElem?_getD,hi,hi'] using this
variable (c)
noncomputable def isR (sz:Nat) (x:FV):Bool:=by
 classical
 exact decide (∃ L:List α,FVEq x (.row sz L.length (c.g L)))
noncomputable def decR (sz:Nat) (x:FV):List α:=by
 classical
 exact if h:∃ L:List α,FVEq x (.row sz L.length (c.g L)) then h.choose else []
variable {c}
theorem isR_of {sz:Nat}{x:FV}{L:List α}(h:FVEq x (.row sz L.length (c.g L))):c.isR sz x=true:=by
 classical
 unfold isR
 simp only[decide_eq_true_eq];exact⟨L,h⟩
theorem decR_of {sz:Nat}{x:FV}{L:List α}(h:FVEq x (.row sz L.length (c.g L))):c.decR sz x=L:=by
 classical
 have hx:∃ L:List α,FVEq x (.row sz L.length (c.g L)):=⟨L,h⟩
 unfold decR
 rw[dif_pos hx]
 exact rows_uniq hx.choose_spec h
theorem isR_dec {sz:Nat}{x:FV}(h:c.isR sz x=true):FVEq x (.row sz (c.decR sz x).length (c.g (c.decR sz x))):=by
 classical
 unfold isR at h
 simp only[decide_eq_true_eq] at h
 obtain⟨L,hL⟩:=h
 rw[decR_of hL];exact hL
theorem row_refl (sz:Nat)(L:List α):FVEq (.row sz L.length (c.g L)) (.row sz L.length (c.g L)):=FVEq.refl _
end
end Cel
theorem FVEq.inv_flat {x y:FV}(h:FVEq x y)(hy:y.flat=true):x=y:=by
 cases h with
 |nil=>cases hy
 |flat _=>rfl
 |row=>cases hy
theorem FVEqL.inv_cons {l:List FV}{y:FV}{m:List FV}(h:FVEqL l (y::m)):∃ x l',l=x::l'∧FVEq x y∧FVEqL l' m:=by
 obtain⟨hl,hr⟩:=h
 match l,hl with
 |x::l',hl=>exact⟨x,l',rfl,hr 0 x y rfl rfl,by simpa using hl,fun j a b ha hb=>hr (j+1) a b (by simpa using ha) (by simpa using hb)⟩
theorem FVEqL.inv_nil {l:List FV}(h:FVEqL l []):l=[]:=List.eq_nil_of_length_eq_zero h.1
def Enc.toCel {α:Type}(e:Enc α)(hf:∀ a,(e.enc a).all FV.flat=true):Cel α:=⟨e.enc,e.dft,fun{l a b} h1 h2=>by
 have key:∀ {l m:List FV},m.all FV.flat=true→FVEqL l m→l=m:=by
    intro l m
    induction m generalizing l with
    |nil=>intro _ h;exact h.inv_nil
    |cons y m ih=>
     intro hm h
     obtain⟨x,l',rfl,hx,hl⟩:=h.inv_cons
     simp only[List.all_cons,Bool.and_eq_true] at hm
     rw[hx.inv_flat hm.1,ih hm.2 hl]
 have:=(key (hf a) h1).symm.trans (key (hf b) h2)
 have:=congrArg e.dec this
 rwa [e.dec_enc,e.dec_enc] at this⟩
end Go.Sx
namespace Go.Sx
open Go.RowKit Go.Proofs.YtfgkhenhlpoheaaGreat
def nilB:FV→Bool
 | .val (.slice none 0 0)=>true
 |_=>false
theorem nilB_is {x:FV}(h:nilB x=true):x = .val (.slice none 0 0):=by
 unfold nilB at h
 split at h
 . rfl
 . cases h
def fvB:Nat→FV→FV→Bool
 |0,_,_=>false
 |d+1,x,y=>match x,y with
  | .row sz n g,.row sz' n' g'=>Nat.beq n n'&&((Nat.beq n 0||Nat.beq sz sz')&&(List.range n).all fun i=>Nat.beq (g i).length (g' i).length&&((g i).zip (g' i)).all fun p=>fvB d p.1 p.2)
  | .int k a,.int k' b=>decide (k=k')&&decide (a=b)
  | .bool a,.bool b=>a==b
  |x,.row _ n _=>nilB x&&Nat.beq n 0
  |x,y=>nilB x&&nilB y
theorem fvB_ok:∀ {d:Nat} {x y:FV},fvB d x y=true→FVEq x y
 |0,_,_,h=>by cases h
 |d+1,x,y,h=>by
  unfold fvB at h
  split at h
  . rename_i sz n g sz' n' g'
    simp only[Bool.and_eq_true,Bool.or_eq_true,List.all_eq_true,List.mem_range,Nat.beq_eq] at h
    obtain⟨rfl,h1,h2⟩:=h
    refine .row (fun hn=>h1.resolve_left (by omega)) (fun i hi=>(h2 i hi).1) fun i j x y hi hx hy => ?_
    refine fvB_ok ((h2 i hi).2 (x,y) ?_)
    refine List.mem_of_getElem? (i:=j) ?_
    rw[List.getElem?_zip_eq_some]
    exact⟨hx,hy⟩
  . simp only[Bool.and_eq_true,decide_eq_true_eq] at h
    obtain⟨rfl,rfl⟩:=h
    exact FVEq.refl _
  . simp only[beq_iff_eq] at h
    subst h
    exact FVEq.refl _
  . simp only[Bool.and_eq_true,Nat.beq_eq] at h
    obtain⟨h1,rfl⟩:=h
    rw[nilB_is h1]
    exact .nil
  . simp only[Bool.and_eq_true] at h
    rw[nilB_is h.1,nilB_is h.2]
    exact FVEq.refl _
def fvLB (d:Nat):List FV→List FV→Bool
 |[],[]=>true
 |x::l,y::m=>fvB d x y&&fvLB d l m
 |_,_=>false
theorem fvLB_ok {d:Nat}:∀ {l m:List FV},fvLB d l m=true→FVEqL l m
 |[],[],_=>FVEqL.refl _
 |x::l,y::m,h=>by
  simp only[fvLB,Bool.and_eq_true] at h
  have h2:=fvLB_ok h.2
  exact⟨by simp[h2.1],fun j a b ha hb=>by
   cases j with
   |zero=>
    simp only[List.getElem?_cons_zero,Option.some.injEq] at ha hb
    subst ha hb
    exact fvB_ok h.1
   |succ j=>exact h2.2 j a b (by simpa using ha) (by simpa using hb)⟩
 |[],_::_,h=>by cases h
 |_::_,[],h=>by cases h
section
variable {P:Program}{G:World→Prop}{Γ:Env}{f:FuncId}{fn:Func}
end
end Go.Sx
namespace Go.Sx
open Go.ChangeShapes Go.WideShapes Go.Deep Go.RowKit Go.Proofs.YtfgkhenhlpoheaaGreat
end Go.Sx
namespace Go.Sx
open Go.RowKit Go.Proofs.YtfgkhenhlpoheaaGreat
inductive FK where
 |u64
 |int (k:IntKind)
 |bool
def FK.is (P:Program)(k:FK)(t:TypeId):Bool:=match k,P.underlying t with
 | .u64,some (.int .u64)=>true
 | .int k,some (.int k')=>decide (k=k')
 | .bool,some .bool=>true
 |_,_=>false
def fits:List FK→List FV→Prop
 |[],l=>l=[]
 | .u64::ks,l=>∃ x r,l = .u64 x::r∧fits ks r
 | .int k::ks,l=>∃ n r,l = .int k n::r∧(k.min≤n∧n≤k.max)∧fits ks r
 | .bool::ks,l=>∃ b r,l = .bool b::r∧fits ks r
end Go.Sx
