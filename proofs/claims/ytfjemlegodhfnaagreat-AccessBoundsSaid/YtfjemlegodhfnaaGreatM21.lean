import Derived.Test.YtfjemlegodhfnaaGreatM20
import Derived.Test.YtfjemlegodhfnaaGreatM16
import Derived.Test.YtfjemlegodhfnaaGreatM17
import Derived.Carry
import Derived.Deep.SlicePairs
set_option linter.all false
namespace Go.Sx
open Go.RowKit Go.Proofs.YtfjemlegodhfnaaGreat
def nilB:FV→Bool
 | .val (.slice none 0 0)=>true
 |_=>false
theorem nilB_is {x:FV}(h:nilB x=true):x = .val (.slice none 0 0):=by
 unfold nilB at h
 split at h
 . rfl
 . cases h
def fvB:Nat→FV→FV→Bool
 |0,_,_=>false
 |d+1,x,y=>match x,y with
  | .row sz n g,.row sz' n' g'=>Nat.beq n n'&&((Nat.beq n 0||Nat.beq sz sz')&&(List.range n).all fun i=>Nat.beq (g i).length (g' i).length&&((g i).zip (g' i)).all fun p=>fvB d p.1 p.2)
  | .int k a,.int k' b=>decide (k=k')&&decide (a=b)
  | .bool a,.bool b=>a==b
  |x,.row _ n _=>nilB x&&Nat.beq n 0
  |x,y=>nilB x&&nilB y
theorem fvB_ok:∀ {d:Nat} {x y:FV},fvB d x y=true→FVEq x y
 |0,_,_,h=>by cases h
 |d+1,x,y,h=>by
  unfold fvB at h
  split at h
  . rename_i sz n g sz' n' g'
    simp only[Bool.and_eq_true,Bool.or_eq_true,List.all_eq_true,List.mem_range,Nat.beq_eq] at h
    obtain⟨rfl,h1,h2⟩:=h
    refine .row (fun hn=>h1.resolve_left (by omega)) (fun i hi=>(h2 i hi).1) fun i j x y hi hx hy => ?_
    refine fvB_ok ((h2 i hi).2 (x,y) ?_)
    refine List.mem_of_getElem? (i:=j) ?_
    rw[List.getElem?_zip_eq_some]
    exact⟨hx,hy⟩
  . simp only[Bool.and_eq_true,decide_eq_true_eq] at h
    obtain⟨rfl,rfl⟩:=h
    exact FVEq.refl _
  . simp only[beq_iff_eq] at h
    subst h
    exact FVEq.refl _
  . simp only[Bool.and_eq_true,Nat.beq_eq] at h
    obtain⟨h1,rfl⟩:=h
    rw[nilB_is h1]
    exact .nil
  . simp only[Bool.and_eq_true] at h
    rw[nilB_is h.1,nilB_is h.2]
    exact FVEq.refl _
def fvLB (d:Nat):List FV→List FV→Bool
 |[],[]=>true
 |x::l,y::m=>fvB d x y&&fvLB d l m
 |_,_=>false
theorem fvLB_ok {d:Nat}:∀ {l m:List FV},fvLB d l m=true→FVEqL l m
 |[],[],_=>FVEqL.refl _
 |x::l,y::m,h=>by
  simp only[fvLB,Bool.and_eq_true] at h
  have h2:=fvLB_ok h.2
  exact⟨by simp[h2.1],fun j a b ha hb=>by
   cases j with
   |zero=>
    simp only[List.getElem?_cons_zero,Option.some.injEq] at ha hb
    subst ha hb
    exact fvB_ok h.1
   |succ j=>exact h2.2 j a b (by simpa using ha) (by simpa using hb)⟩
 |[],_::_,h=>by cases h
 |_::_,[],h=>by cases h
def avB (d:Nat):List AV→List AV→Bool
 |[],[]=>true
 | .one x::l,.one y::m=>fvB d x y&&avB d l m
 | .agg x::l,.agg y::m=>fvLB d x y&&avB d l m
 |_,_=>false
theorem avB_ok {d:Nat}:∀ {l m:List AV},avB d l m=true→AVEqL l m
 |[],[],_=>trivial
 | .one x::l,.one y::m,h=>by
   simp only[avB,Bool.and_eq_true] at h
   exact⟨fvB_ok h.1,avB_ok h.2⟩
 | .agg x::l,.agg y::m,h=>by
   simp only[avB,Bool.and_eq_true] at h
   exact⟨fvLB_ok h.1,avB_ok h.2⟩
 | .one _::_,.agg _::_,h=>by cases h
 | .agg _::_,.one _::_,h=>by cases h
 |[],.one _::_,h=>by cases h
 |[],.agg _::_,h=>by cases h
 | .one _::_,[],h=>by cases h
 | .agg _::_,[],h=>by cases h
theorem ble_lit {sz sz' n:Nat}{g g':Nat→List FV}(h:(Nat.beq sz' sz&&(List.range n).all fun i=>fvLB 3 (g' i) (g i))=true):BLe (.fz sz' n g') (.fz sz n g):=by
 simp only[Bool.and_eq_true,List.all_eq_true,List.mem_range,Nat.beq_eq] at h
 exact⟨h.1.symm,rfl,fun i hi=>fvLB_ok (h.2 i hi)⟩
theorem Cel.isR_part {α:Type}{c:Cel α}{sz off n:Nat}{L:List α}(h:off+n≤L.length):c.isR sz (.row sz n (shiftG off (c.g L)))=true:=
 Cel.isR_of (Cel.row_part (sz:=sz) (L:=L) h (fun i _=>FVEqL.refl _) fun i hi=>shiftG_eq ..)
theorem Cel.decR_part {α:Type}{c:Cel α}{sz off n:Nat}{L:List α}(h:off+n≤L.length):c.decR sz (.row sz n (shiftG off (c.g L)))=(L.drop off).take n:=
 Cel.decR_of (Cel.row_part (sz:=sz) (L:=L) h (fun i _=>FVEqL.refl _) fun i hi=>shiftG_eq ..)
section
variable {P:Program}{G:World→Prop}{Γ:Env}{f:FuncId}{fn:Func}
theorem ctr_topx (hG:Stable G)(hΓ:EnvOk P G Γ)(hf:P.funcs[f]? = some fn)(hb:fn.body.isSome=true)(hm:Okay P)(T:Tbl)(hT:codeOk T (bodyOf fn)=true)(n:Nat)
  {args post post0:List SV} {M:List Blk} {sv:SV} {c:Bool} {av:List AV} (av':List AV) {args0:List SV} {M0:List Blk} (hpost:∀ ρ ρ':Val,denL ρ post0=denL ρ' post) (hps:scL (fun _=>false) post0=true) (hv:topA eltB M args=some (c,av)) (hc:c=true) (he:AVEqL av av') (h0:namA false 0 av'=(args0,M0))
  (h:run P Γ n T 0 (bodyOf fn) (initF fn (args0++post0)) M0 (retK P fn fun x _=>eqv x sv)):
  ∀ (B:Bd) (ρ:Val) (w:World),G w→MRel B ρ M w→Calls P f (denL ρ (args++post)).toArray w fun e w'=>
    ∃ (ρ':Val) (v:Value),e = .returned v∧(sv ≠ .junk→v=sv.den ρ')∧Val.Ext w.heap.size (fun n => ¬ (M.length≤n∧n<M.length+([]:List Blk).length)) ρ ρ'∧Below w.heap.size w w'∧New B w.heap.size ρ' M.length [] w':=by
 intro B ρ w hGw hM
 obtain⟨ρ0,e1,e2,e3,e4⟩:=enter_top hM hv hc he h0
 have e5:okSt (args0++post0) M0=true:=by
  unfold okSt at e4 ⊢
  simp only[Bool.and_eq_true] at e4 ⊢
  exact⟨by rw[scL_append,e4.1,scL_mono (fun _ h=>by cases h) _ hps];rfl,e4.2⟩
 have e6:denL ρ0 (args0++post0)=denL ρ (args++post):=by rw[denL_append,denL_append,e2,hpost ρ0 ρ]
 have hrun:=calls_run hG hΓ hf hb hm T hT n hGw e5 e3 h
 rw[e6] at hrun
 refine hrun.mono ?_
 rintro e w' ⟨ρ',x,M',rfl,hx,hM',hbel⟩
 exact⟨ρ,_,rfl,fun _=>eqv_den hx ρ' ρ,Val.Ext.refl ..,hbel,new_none hM hbel⟩
end
end Go.Sx
namespace Go.Sx
open Go.RowKit Go.Proofs.YtfjemlegodhfnaaGreat
def takeC:Nat→Code→Code
 |0,_=>.skip
 |k+1,c=>match c with
  | .seq a b=>.seq a (takeC k b)
  |c=>c
def dropC:Nat→Code→Code
 |0,c=>c
 |k+1,c=>match c with
  | .seq _ b=>dropC k b
  |_=>.skip
def chainB:Nat→Code→Bool
 |0,_=>true
 |k+1,c=>match c with
  | .seq _ b=>chainB k b
  |_=>false
section
variable {P:Program}{Γ:Env}{T:Tbl}{z:Nat}
def thenK (P:Program)(Γ:Env)(n:Nat)(T:Tbl)(z:Nat)(c:Code)(K:X→List SV→List Blk→Prop):X→List SV→List Blk→Prop:=fun e F' M'=>match e with
 | .normal=>run P Γ n T z c F' M' K
 |e=>K e F' M'
theorem run_take:∀ (k n:Nat) (c:Code) (F:List SV) (M:List Blk) (K:X→List SV→List Blk→Prop),chainB k c=true→run P Γ (n+k+1) T z (takeC k c) F M (thenK P Γ (n+1) T z (dropC k c) K)=run P Γ (n+k+1) T z c F M K
 |0,n,c,F,M,K,_=>rfl
 |k+1,n,c,F,M,K,h=>by
  cases c with
  |seq a b=>
   have ih:=fun F' M'=>run_take k n b F' M' K h
   show run P Γ (n+k+1+1) T z (.seq a (takeC k b)) F M (thenK P Γ (n+1) T z (dropC k b) K)=run P Γ (n+k+1+1) T z (.seq a b) F M K
   rw[run_succ,run_succ]
   simp only[stepC]
   congr 1
   funext e F' M'
   cases e with
   |normal=>exact ih F' M'
   |exit id=>rfl
   |panic v=>rfl
   |ret=>rfl
  |_=>cases h
theorem run_cut (k n:Nat){N:Nat}{c:Code}{F:List SV}{M:List Blk}{K:X→List SV→List Blk→Prop}(hN:N=n+k+1)(hc:chainB k c=true)(h:run P Γ N T z (takeC k c) F M (thenK P Γ (n+1) T z (dropC k c) K)):run P Γ N T z c F M K:=by
 subst hN
 rw[← run_take k n c F M K hc];exact h
end
end Go.Sx
namespace Go.Sx
def assocS:List (Nat×SV)→Nat→SV→SV
 |[],_,d=>d
 |(j,v)::l,i,d=>match Nat.beq j i with
  |true=>v
  |false=>assocS l i d
def mkFrom (live:List (Nat×SV))(d:Nat→SV):Nat→Nat→List SV
 |0,_=>[]
 |n+1,i=>assocS live i (d i)::mkFrom live d n (i+1)
def LiveOk (F:List SV):List (Nat×SV)→Prop
 |[]=>True
 |(j,v)::l=>nth F j=some v∧LiveOk F l
theorem assocS_ok {F:List SV}:∀ (live:List (Nat×SV)),LiveOk F live→∀ i x,nth F i=some x→assocS live i x=x
 |[],_,i,x,_=>rfl
 |(j,v)::l,h,i,x,hx=>by
  unfold assocS
  split
  . rename_i hb
    obtain rfl:=Nat.eq_of_beq_eq_true hb
    have:=h.1
    rw[hx] at this
    exact(Option.some.inj this).symm
  . exact assocS_ok l h.2 i x hx
theorem mkFrom_ok {F:List SV}{live:List (Nat×SV)}(h:LiveOk F live):∀ (n i:Nat),i+n=F.length→mkFrom live (fun i=>(nth F i).getD .junk) n i=F.drop i
 |0,i,hi=>by rw[List.drop_eq_nil_of_le (by omega)];rfl
 |n+1,i,hi=>by
  have hlt:i<F.length:=by omega
  have e:nth F i=some F[i]:=by rw[nth_eq];exact List.getElem?_eq_getElem hlt
  rw[List.drop_eq_getElem_cons hlt]
  show assocS live i ((nth F i).getD .junk)::mkFrom live _ n (i+1)=_
  rw[mkFrom_ok h n (i+1) (by omega),e]
  congr 1
  exact assocS_ok live h i _ e
theorem use_live {K:X→List SV→List Blk→Prop}{n:Nat}{live:List (Nat×SV)}{M:List Blk}(hK:∀ d:Nat→SV,K .normal (mkFrom live d n 0) M){F:List SV}(hn:n=F.length)(h:LiveOk F live):K .normal F M:=by
 have:=hK fun i=>(nth F i).getD .junk
 rw[mkFrom_ok h n 0 (by omega)] at this
 exact this
section
variable {P:Program}{Γ:Env}{T:Tbl}{z:Nat}
theorem then_cut (k n:Nat){N:Nat}{c:Code}{F:List SV}{M:List Blk}{K:X→List SV→List Blk→Prop}(hN:N=n+k+1)(hc:chainB k c=true)(h:run P Γ N T z (takeC k c) F M (thenK P Γ (n+1) T z (dropC k c) K)):thenK P Γ N T z c K .normal F M:=run_cut k n hN hc h
end
end Go.Sx
namespace Go.Sx
open Go.RowKit Go.Proofs.YtfjemlegodhfnaaGreat
section
variable {P:Program}{G:World→Prop}
def forgetK (keep:List Nat)(Q:List SV→List Blk→Prop)(K:X→List SV→List Blk→Prop):X→List SV→List Blk→Prop:=fun e F' M'=>match e with
 | .normal=>∃ (σ:List Nat) (M1:List Blk),nodN σ=true∧MLe (renMs M' σ σ) M1∧okSt (renFL σ (pickF F' keep)) M1=true∧Q (spreadF (junkF F'.length) keep (renFL σ (pickF F' keep))) M1
 |e=>K e F' M'
theorem codeOk_drop {T:Tbl}:∀ (k:Nat) (c:Code),chainB k c=true→codeOk T c=true→codeOk T (dropC k c)=true
 |0,_,_,h=>h
 |k+1,c,hc,h=>by
  cases c with
  |seq a b=>
   simp only[codeOk,Bool.and_eq_true] at h
   exact codeOk_drop k b hc h.2
  |_=>cases hc
theorem cut_sound (hm:Okay P){Γ:Env}(hΓ:EnvOk P G Γ){T:Tbl}{K:X→List SV→List Blk→Prop}{Q:List SV→List Blk→Prop}{keep:List Nat}{B:Bd}{w0:World}{L:LD}{ro:Option Nat}
  (hG:∀ w',Kept B w0 w'→G w') (hBs:B.s≤w0.heap.size) (hro:∀ l,ro=some l→∃ r,w0.heap[l]? = some (Obj.loop r)):
  ∀ (k n:Nat) (c:Code) (F:List SV) (M:List Blk) (ρ:Val) (a:Act) (w:World),codeOk T c=true→chainB k c=true→run P Γ (n+k+1) T 0 (takeC k c) F M (forgetK keep Q K)→Rel B w0 L ρ F M a w→
    (∀ F1 M1 ρ1 a1 w1,Q F1 M1→Rel B w0 L ρ1 F1 M1 a1 w1→wpV ro P (dropC k c) (Post B w0 L ρ1 0 K) a1 w1)→wpV ro P c (Post B w0 L ρ 0 K) a w
 |0,n,c,F,M,ρ,a,w,hT,hc,h,hR,hQ=>by
  have h':forgetK keep Q K .normal F M:=h
  obtain⟨σ,M1,h1,h2,h3,h4⟩:=h'
  obtain⟨zz,hcut⟩:=hR.recut (nodN_iff h1) h2 h3
  have hl:F.length=L.n:=hR.len
  rw[hl] at h4
  refine V_mono (hQ _ _ _ _ _ h4 hcut) ?_
  rintro e a' w' ⟨x',F',M',ρ',rfl,hR',hz',_,hK⟩
  exact⟨x',F',M',ρ',rfl,hR',hz',fun n hn=>absurd hn (Nat.not_lt_zero n),hK⟩
 |k+1,n,c,F,M,ρ,a,w,hT,hc,h,hR,hQ=>by
  cases c with
  |seq x y=>
   simp only[codeOk,Bool.and_eq_true] at hT
   have h':run P Γ (n+k+1) T 0 x F M (fun e F' M'=>match e with
    | .normal=>run P Γ (n+k+1) T 0 (takeC k y) F' M' (forgetK keep Q K)
    |e=>forgetK keep Q K e F' M'):=by
    have h2:run P Γ (n+k+1+1) T 0 (.seq x (takeC k y)) F M (forgetK keep Q K):=h
    rw[run_succ] at h2
    exact h2
   refine V_seq (V_mono (run_sound hm hΓ (n+k+1) T 0 x F M _ ρ a w B w0 L ro hG hBs hro hT.1 (Nat.zero_le _) h' hR) ?_)
   rintro e a' w' ⟨x',F',M',ρ',rfl,hR',hz',hρ',hK⟩
   cases x' with
   |normal=>
    refine V_mono (cut_sound hm hΓ hG hBs hro k n y F' M' ρ' a' w' hT.2 hc hK hR' hQ) ?_
    rintro e a'' w'' ⟨x'',F'',M'',ρ'',rfl,hR'',hz'',_,hK'⟩
    exact⟨x'',F'',M'',ρ'',rfl,hR'',hz'',fun n hn=>absurd hn (Nat.not_lt_zero n),hK'⟩
   |exit id=>exact⟨.exit id,F',M',ρ',rfl,hR',hz',fun n hn=>absurd hn (Nat.not_lt_zero n),hK⟩
   |panic v=>exact⟨.panic v,F',M',ρ',rfl,hR',hz',fun n hn=>absurd hn (Nat.not_lt_zero n),hK⟩
   |ret=>exact⟨.ret,F',M',ρ',rfl,hR',hz',fun n hn=>absurd hn (Nat.not_lt_zero n),hK⟩
  |_=>cases hc
def runs (P:Program)(Γ:Env):List (Nat×Nat×List Nat)→RunT
 |[]=>fun T z c F M K=>z=0∧run P Γ 10000 T 0 c F M K
 |(k,n,keep)::l=>fun T z c F M K=>z=0∧chainB k c=true∧run P Γ (n+k+1) T 0 (takeC k c) F M (forgetK keep (fun F1 M1=>runs P Γ l T 0 (dropC k c) F1 M1 K) K)
theorem runs_sound (hm:Okay P){Γ:Env}(hΓ:EnvOk P G Γ):∀ l,SoundAt P G (runs P Γ l)
 |[]=>by
  intro T z c F M K ρ a w B w0 L ro hG hBs hro hT hz h hR
  obtain⟨rfl,h⟩:=h
  exact run_sound hm hΓ 10000 T 0 c F M K ρ a w B w0 L ro hG hBs hro hT hz h hR
 |(k,n,keep)::l=>by
  intro T z c F M K ρ a w B w0 L ro hG hBs hro hT hz h hR
  obtain⟨rfl,hc,h⟩:=h
  exact cut_sound hm hΓ hG hBs hro k n c F M ρ a w hT hc h hR fun F1 M1 ρ1 a1 w1 hq hR1=>
   runs_sound hm hΓ l T 0 (dropC k c) F1 M1 K ρ1 a1 w1 B w0 L ro hG hBs hro (codeOk_drop k c hc hT) (Nat.zero_le _) hq hR1
theorem calls_runs {Γ:Env}(hG:Stable G)(hΓ:EnvOk P G Γ){f:FuncId}{fn:Func}(hf:P.funcs[f]? = some fn)(hb:fn.body.isSome=true)(hm:Okay P)(T:Tbl)(hT:codeOk T (bodyOf fn)=true)(l:List (Nat×Nat×List Nat)){args:List SV}{M0:List Blk}{ρ0:Val}{w:World}{Φ:SV→List Blk→Prop}
  {z:Nat→Prop} (hGw:G w) (hsc:okSt args M0=true) (hM:MRel ⟨w.heap.size,[],z⟩ ρ0 M0 w) (h:runs P Γ l T 0 (bodyOf fn) (initF fn args) M0 (retK P fn Φ)):
  Calls P f (denL ρ0 args).toArray w fun e w'=>∃ (ρ':Val) (sv:SV) (M:List Blk),e = .returned (sv.den ρ')∧Φ sv M∧MRel ⟨w.heap.size,[],z⟩ ρ' M w'∧Below w.heap.size w w':=by
 have:=body_sound (runs_sound hm hΓ l) hf hb hT (fun w1 h1=>hG w w1 hGw (h1.below rfl)) hsc hM (Nat.zero_le _) h (fun x F M hK=>⟨(retK_is hK).1,let ⟨sv,h1,_⟩:=(retK_is hK).2;⟨sv,h1⟩⟩)
 refine(callsIn_wide (n:=0).1 this).mono ?_
 rintro e w' ⟨ρ',sv,x,F',M',rfl,hsv,hK,hM',hsc',hk,hz',hρ'⟩
 obtain⟨_,sv',h1,h2⟩:=retK_is hK
 obtain rfl:sv=sv':=by rw[hsv] at h1;exact Option.some.inj h1
 exact⟨ρ',sv,M',rfl,h2,hM',hk.below rfl⟩
theorem use_forget {keep:List Nat}{Q:List SV→List Blk→Prop}{K:X→List SV→List Blk→Prop}{F:List SV}{M M1:List Blk}(σ:List Nat)(h1:nodN σ=true)(h2:MLe (renMs M σ σ) M1)(h3:okSt (renFL σ (pickF F keep)) M1=true){vals:List SV}(hv:renFL σ (pickF F keep)=vals){n:Nat}(hn:F.length=n)(h4:Q (spreadF (junkF n) keep vals) M1):forgetK keep Q K .normal F M:=
 ⟨σ,M1,h1,h2,h3,by rw[hn,hv];exact h4⟩
end
end Go.Sx
namespace Go.Sx
open Go.ChangeShapes Go.WideShapes Go.Deep Go.RowKit Go.Proofs.YtfjemlegodhfnaaGreat
def wordOf:Value→BitVec 64
 | .int _ n=>BitVec.ofInt 64 n
 |_=>0
@[reducible] def at0 (l:Option Loc):Val:=⟨fun i=>if i=0 then l else none,fun _=>False⟩
theorem ro_flat {B:Bd}{ρ:Val}{n:Nat}{w:World}{sz m:Nat}{g:Nat→List FV}(hf:∀ i,i<m→(g i).all FV.flat=true)(h:roOk (fun k => ¬ B.may k) ρ n w sz m g):(Blk.ro sz m g).ok B ρ n w:=⟨g,fun i hi=>RepL.refl (hf i hi),h⟩
theorem single {W:World}(l:Option Loc)(b:Blk)(ho:b.isOwn=false)(hb:b.ok ⟨W.heap.size,[],fun _=>False⟩ (at0 l) 0 W):MRel ⟨W.heap.size,[],fun _=>False⟩ (at0 l) [b] W:=
 ⟨Nat.le_refl _,fun n c hn=>by
   cases n with
   |zero=>simp at hn;subst hn;exact hb
   |succ n=>simp at hn,fun n m b c l k hne h1 h2=>by
   cases n with
   |zero=>
    cases m with
    |zero=>exact absurd rfl hne
    |succ m=>simp at h2
   |succ n=>simp at h1,fun _ h=>h.elim,fun _ h=>h,fun _ h=>h.elim,fun n c l hn ho'=>(by
   cases n with
   |zero=>simp at hn;subst hn;rw[ho] at ho';cases ho'
   |succ n=>simp at hn),fun _ h=>h.elim⟩
end Go.Sx
namespace Go.Sx
open Go.RowKit Go.Proofs.YtfjemlegodhfnaaGreat
inductive FK where
 |u64
 |int (k:IntKind)
 |bool
def FK.is (P:Program)(k:FK)(t:TypeId):Bool:=match k,P.underlying t with
 | .u64,some (.int .u64)=>true
 | .int k,some (.int k')=>decide (k=k')
 | .bool,some .bool=>true
 |_,_=>false
def FK.desc:FK→TypeDesc
 | .u64=>.int .u64
 | .int k=>.int k
 | .bool=>.bool
theorem FK.und {P:Program}{k:FK}{t:TypeId}(h:k.is P t=true):P.underlying t=some k.desc:=by
 unfold FK.is at h
 split at h
 . assumption
 . rename_i k k' hu
   obtain rfl:k=k':=by simpa using h
   exact hu
 . assumption
 . cases h
def fits:List FK→List FV→Prop
 |[],l=>l=[]
 | .u64::ks,l=>∃ x r,l = .u64 x::r∧fits ks r
 | .int k::ks,l=>∃ n r,l = .int k n::r∧(k.min≤n∧n≤k.max)∧fits ks r
 | .bool::ks,l=>∃ b r,l = .bool b::r∧fits ks r
theorem cell_fk {P:Program}{W:World}{base:Nat}{t:TypeId}{v:Value}{k:FK}(hk:k.is P t=true)(h:Cell.okWide P W .any base t v):∃ x:FV,v=x.den∧fits [k] [x]:=by
 unfold FK.is at hk
 split at hk
 . rename_i hu
   unfold Cell.okWide at h
   rw[hu] at h
   cases v with
   |int k n=>
    have h':Cell.ok P W .any base t (.int k n):=h
    unfold Cell.ok at h'
    rw[hu] at h'
    obtain⟨rfl,h1,h2⟩:=h'
    have e1:(0:Int)≤n:=h1
    have e2:n≤18446744073709551615:=h2
    exact⟨.u64 (BitVec.ofInt 64 n),by simp only[FV.den];rw[uv_of 64 n e1 (by omega)],_,[],rfl,rfl⟩
   |_=>exfalso;simp[Cell.ok,hu] at h
 . rename_i k k' hu
   obtain rfl:k=k':=by simpa using hk
   unfold Cell.okWide at h
   rw[hu] at h
   cases v with
   |int k' n=>
    have h':Cell.ok P W .any base t (.int k' n):=h
    unfold Cell.ok at h'
    rw[hu] at h'
    obtain⟨rfl,h1,h2⟩:=h'
    exact⟨.int k' n,rfl,n,[],rfl,⟨h1,h2⟩,rfl⟩
   |_=>exfalso;simp[Cell.ok,hu] at h
 . rename_i hu
   unfold Cell.okWide at h
   rw[hu] at h
   cases v with
   |bool b=>exact⟨.bool b,rfl,b,[],rfl,rfl⟩
   |_=>exfalso;simp[Cell.ok,hu] at h
 . cases hk
theorem open_fk {P:Program}{W:World}{base:Nat}{t:TypeId}{v:Value}(k:FK)(hk:k.is P t=true)(h:Value.okWide P W .any base t v):∃ x:FV,v=x.den∧fits [k] [x]:=by
 apply cell_fk (W:=W) (base:=base) hk
 have hu:=FK.und hk
 unfold Value.okWide at h
 rw[hu] at h
 cases k<;>exact h
def fksB (P:Program):List FK→List TypeId→Bool
 |[],[]=>true
 |k::ks,t::ts=>k.is P t&&fksB P ks ts
 |_,_=>false
def flatB (P:Program)(t:TypeId)(ks:List FK):Bool:=(match P.underlying t with|some (.struct _)=>true|some (.array _ _)=>true|_=>false)&&decide (P.cellsOf t=ks.length) &&
 match P.cellTypes P.depth t with
 |some ts=>fksB P ks ts
 |none=>false
theorem fits_cons {k:FK}{ks:List FK}{x:FV}{l:List FV}(h:fits [k] [x])(t:fits ks l):fits (k::ks) (x::l):=by
 cases k with
 |u64=>obtain⟨y,r,e,h⟩:=h;simp only[List.cons.injEq] at e;exact⟨y,l,by rw[e.1],t⟩
 |int k=>obtain⟨y,r,e,h1,h⟩:=h;simp only[List.cons.injEq] at e;exact⟨y,l,by rw[e.1],h1,t⟩
 |bool=>obtain⟨y,r,e,h⟩:=h;simp only[List.cons.injEq] at e;exact⟨y,l,by rw[e.1],t⟩
theorem cells_fks {P:Program}{W:World}{base:Nat}:∀ (ks:List FK) (ts:List TypeId) (cs:List Value),fksB P ks ts=true→cs.length=ts.length→(∀ (i:Nat) (v:Value),cs[i]? = some v→∃ u,ts[i]? = some u∧Cell.okWide P W .any base u v)→∃ l:List FV,cs=l.map FV.den∧fits ks l
 |[],[],cs,_,hl,_=>⟨[],by cases cs with|nil=>rfl|cons a r=>simp at hl,rfl⟩
 |k::ks,t::ts,cs,hb,hl,hc=>by
  simp only[fksB,Bool.and_eq_true] at hb
  cases cs with
  |nil=>simp at hl
  |cons c cs=>
   obtain⟨u,hu,hok⟩:=hc 0 c rfl
   obtain rfl:t=u:=by simpa using hu
   obtain⟨x,hx,hf⟩:=cell_fk hb.1 hok
   obtain⟨l,hl2,hf2⟩:=cells_fks ks ts cs hb.2 (by simpa using hl) fun i v hv=>by simpa using hc (i+1) v (by simpa using hv)
   exact⟨x::l,by rw[hx,hl2];rfl,fits_cons hf hf2⟩
 |[],_::_,_,hb,_,_=>by cases hb
 |_::_,[],_,hb,_,_=>by cases hb
theorem fksB_len {P:Program}:∀ {ks:List FK} {ts:List TypeId},fksB P ks ts=true→ks.length=ts.length
 |[],[],_=>rfl
 |_::_,_::_,h=>by simp only[fksB,Bool.and_eq_true] at h;simp[fksB_len h.2]
 |[],_::_,h=>by cases h
 |_::_,[],h=>by cases h
theorem open_flat {P:Program}{W:World}{base:Nat}{t:TypeId}{v:Value}(ks:List FK)(hk:flatB P t ks=true)(h:Value.okWide P W .any base t v):∃ l:List FV,v = .agg (l.map FV.den).toArray∧fits ks l:=by
 unfold flatB at hk
 simp only[Bool.and_eq_true,decide_eq_true_eq] at hk
 obtain⟨⟨h1,h2⟩,h3⟩:=hk
 have hcs:∃ cs,v = .agg cs∧cs.size=P.cellsOf t∧Row.okWide P W .any base t cs:=by
  unfold Value.okWide at h
  split at h1
  . rename_i hu;rw[hu] at h;exact h
  . rename_i hu;rw[hu] at h;exact h
  . cases h1
 obtain⟨cs,rfl,hsz,ts,hts,_,hcell⟩:=hcs
 rw[hts] at h3
 simp only at h3
 have hl:=fksB_len h3
 obtain⟨l,hl2,hf⟩:=cells_fks (P:=P) (W:=W) (base:=base) ks ts cs.toList h3 (by rw[Array.length_toList];omega) fun i v hv=>by
  have hi:i<cs.size:=by rw[← Array.length_toList];exact(List.getElem?_eq_some_iff.1 hv).1
  obtain⟨u,hu,hok⟩:=hcell i v (by simpa using hv)
  rw[Nat.mod_eq_of_lt (by omega)] at hu
  exact⟨u,hu,hok⟩
 exact⟨l,by rw[← hl2],hf⟩
theorem w_flat {P:Program}{G:World→Prop}{f:FuncId}{k:List SV→List Blk→Res}(hk:CtrOk P G f k){args:List SV}(hr:k args [] = .ok (.bool true) []){w:World}(hG:G w):
  Calls P f (denL noρ args).toArray w (Ret w (.bool true)):=by
 have h:=hk.2 args []
 rw[hr] at h
 refine(h ⟨w.heap.size,[],fun _=>False⟩ noρ w hG mrel_no).mono ?_
 rintro e w' ⟨ρ',v,rfl,hv,_,hbel,_⟩
 exact⟨by rw[hv (by simp)];rfl,grow_mk hbel⟩
theorem w_flat_t {P:Program}{G:World→Prop}{f:FuncId}{k:List SV→List Blk→Res}(hk:CtrOk P G f k){args:List SV}{b:Bool}(hr:k args [] = .test b (.ok (.bool true) []))(hb:b=true){w:World}(hG:G w):
  Calls P f (denL noρ args).toArray w (Ret w (.bool true)):=by
 have h:=hk.2 args []
 rw[hr] at h
 refine(h hb ⟨w.heap.size,[],fun _=>False⟩ noρ w hG mrel_no).mono ?_
 rintro e w' ⟨ρ',v,rfl,hv,_,hbel,_⟩
 exact⟨by rw[hv (by simp)];rfl,grow_mk hbel⟩
theorem i64_has {n:Int}(h:IntKind.i64.min≤n∧n≤IntKind.i64.max):(decide (-9223372036854775808≤n)&&decide (n≤9223372036854775807))=true:=by
 have h1:(-9223372036854775808:Int)≤n:=h.1
 have h2:n≤9223372036854775807:=h.2
 simp[h1,h2]
end Go.Sx
