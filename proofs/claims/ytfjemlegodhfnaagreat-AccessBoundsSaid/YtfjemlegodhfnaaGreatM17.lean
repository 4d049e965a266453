import Derived.Test.YtfjemlegodhfnaaGreatM16
set_option linter.all false
namespace Go.Sx
open Go.RowKit Go.Proofs.YtfjemlegodhfnaaGreat
structure Enc (α:Type) where
 enc:α→List FV
 dec:List FV→α
 is:List FV→Bool
 dft:α
 ok:∀ l,is l=true→enc (dec l)=l
 dec_enc:∀ a,dec (enc a)=a
 is_enc:∀ a,is (enc a)=true
section
variable {α:Type}
def gOf (e:Enc α)(L:List α):Nat→List FV:=fun i=>e.enc (L.getD i e.dft)
def elts (e:Enc α)(off n:Nat)(g:Nat→List FV):List α:=(List.range n).map fun i=>e.dec (g (off+i))
def allIs (e:Enc α)(off n:Nat)(g:Nat→List FV):Bool:=(List.range n).all fun i=>e.is (g (off+i))
theorem elts_length (e:Enc α)(off n:Nat)(g:Nat→List FV):(elts e off n g).length=n:=by simp[elts]
theorem gOf_elts (e:Enc α){off n:Nat}{g:Nat→List FV}(h:allIs e off n g=true):∀ i,i<n→gOf e (elts e off n g) i=g (off+i):=by
 intro i hi
 simp only[allIs,List.all_eq_true,List.mem_range] at h
 have:(elts e off n g).getD i e.dft=e.dec (g (off+i)):=by simp[elts,List.getD_eq_getElem?_getD,hi]
 unfold gOf
 rw[this,e.ok _ (h i hi)]
theorem elts_gOf (e:Enc α){L:List α}{off n:Nat}(h:off+n≤L.length):elts e off n (gOf e L)=(L.drop off).take n:=by
 apply List.ext_getElem
 . simp[elts];omega
 . intro i h1 h2
   simp only[elts_length] at h1
   have:off+i<L.length:=by omega
   simp[elts,gOf,e.dec_enc,List.getD_eq_getElem?_getD,this]
theorem elts_all (e:Enc α)(L:List α):elts e 0 L.length (gOf e L)=L:=by rw[elts_gOf e (by omega)];simp
theorem allIs_gOf (e:Enc α)(L:List α)(off n:Nat):allIs e off n (gOf e L)=true:=by simp[allIs,gOf,e.is_enc]
theorem gOf_snoc (e:Enc α)(L:List α)(a:α)(h:Nat→List FV)(hh:h 0=e.enc a):∀ i,i<L.length+1→gOf e (L++[a]) i=gApp L.length (gOf e L) h i:=by
 intro i hi
 unfold gOf gApp
 by_cases hlt:i<L.length
 . simp[hlt,List.getD_eq_getElem?_getD,List.getElem?_append_left hlt]
 . obtain rfl:i=L.length:=by omega
   simp[List.getD_eq_getElem?_getD,hh]
theorem gOf_append (e:Enc α)(L M:List α):∀ i,i<L.length+M.length→gOf e (L++M) i=gApp L.length (gOf e L) (gOf e M) i:=by
 intro i hi
 unfold gOf gApp
 by_cases hlt:i<L.length
 . simp[hlt,List.getD_eq_getElem?_getD,List.getElem?_append_left hlt]
 . simp[hlt,List.getD_eq_getElem?_getD,List.getElem?_append_right (Nat.le_of_not_lt hlt)]
end
theorem mle_nil {M:List Blk}:MLe M []:=by cases M<;>trivial
theorem mle_cons {b c:Blk}{M N:List Blk}(h:BLe b c)(t:MLe M N):MLe (b::M) (c::N):=⟨h,t⟩
theorem itemLe_refl (x:SV):itemLe x x:=by cases x<;>first|exact⟨rfl,rfl,fun _ _=>rfl⟩|rfl
theorem itemsLe_refl:∀ xs:List SV,itemsLe xs xs
 |[]=>trivial
 |x::xs=>⟨itemLe_refl x,itemsLe_refl xs⟩
theorem ble_refl {b:Blk}:BLe b b:=by cases b<;>first|exact⟨rfl,itemsLe_refl _⟩|exact⟨rfl,fun _ _=>rfl⟩|trivial|rfl|exact⟨rfl,rfl,rfl,fun _ _=>FVEqL.refl _⟩|exact⟨rfl,rfl,fun _ _=>FVEqL.refl _⟩
theorem ble_mix {ty:TypeId}{xs ys:List SV}(h:itemsLe ys xs):BLe (.mix ty ys) (.mix ty xs):=⟨rfl,h⟩
theorem ble_fm {n:Nat}{h h':List Int→Option Int}(e:∀ k,k.length=n→h' k=h k):BLe (.fm n h') (.fm n h):=⟨rfl,e⟩
theorem ble_fm0 {n:Nat}{h:List Int→Option Int}(e:∀ k,k.length=n→h k=none):BLe (.map []) (.fm n h):=e
theorem ble_dead {b:Blk}:BLe b .dead:=trivial
theorem ble_own {ty sz m m':Nat}{g g':Nat→List FV}(hm:m=m')(h:∀ i,i<m→g i=g' i):BLe (.own ty sz m' g') (.own ty sz m g):=⟨rfl,rfl,hm,fun i hi=>h i hi▸FVEqL.refl _⟩
theorem ble_own_e {ty sz m m':Nat}{g g':Nat→List FV}(hm:m=m')(h:∀ i,i<m→FVEqL (g' i) (g i)):BLe (.own ty sz m' g') (.own ty sz m g):=⟨rfl,rfl,hm,h⟩
theorem ble_freeze {ty sz m m':Nat}{g g':Nat→List FV}(hm:m=m')(h:∀ i,i<m→FVEqL (g' i) (g i)):BLe (.own ty sz m' g') (.fz sz m g):=⟨rfl,hm,h⟩
theorem ble_fz {sz m m':Nat}{g g':Nat→List FV}(hm:m=m')(h:∀ i,i<m→FVEqL (g' i) (g i)):BLe (.fz sz m' g') (.fz sz m g):=⟨rfl,hm,h⟩
theorem ble_cells {ty:TypeId}{xs ys:List SV}(h:xs=ys):BLe (.cells ty ys) (.cells ty xs):=by rw[h];rfl
theorem gSet_gOf {α:Type}(e:Enc α){L:List α}{i:Nat}{a:α}{fs:List FV}(hi:i<L.length)(hf:fs=e.enc a)(hl:(e.enc (L.getD i e.dft)).length=fs.length):∀ k,k<L.length→gOf e (L.set i a) k=gSet (gOf e L) i 0 fs k:=by
 intro k hk
 unfold gSet
 by_cases hki:k=i
 . subst hki
   have h0:(gOf e L k).drop (0+fs.length)=[]:=by
    apply List.drop_eq_nil_of_le
    unfold gOf;omega
   simp only[decide_true,List.take_zero,List.nil_append,h0,List.append_nil]
   unfold gOf
   rw[hf];congr 1
   simp[List.getD_eq_getElem?_getD,hk]
 . simp only[decide_eq_false hki]
   unfold gOf
   congr 1
   simp[List.getD_eq_getElem?_getD,List.getElem?_set,Ne.symm hki]
theorem src_lt {B:Bd}{ρ:Val}{n:Nat}{w:World}{b:Blk}{sz m:Nat}{g:Nat→List FV}(hs:B.s≤w.heap.size)(hz:∀ k,ρ.z k→k<w.heap.size)(hb:b.ok B ρ n w)(hk:eltB (some b)=some (sz,m,g))(hm:0<m){l:Loc}(hl:ρ n=some l):l.blk<w.heap.size:=by
 cases b with
 |own ty sz' m' g'=>exact(Blk.ok_lt hb rfl hl).2
 |ro sz' m' g'=>
  simp only[eltB,Option.some.injEq,Prod.mk.injEq] at hk
  obtain⟨rfl,rfl,rfl⟩:=hk
  obtain⟨q,hr,ho⟩:=hb
  have:=Bd.lt ((ho.2 l hl).2.1 hm);omega
 |fz sz' m' g'=>
  simp only[eltB,Option.some.injEq,Prod.mk.injEq] at hk
  obtain⟨rfl,rfl,rfl⟩:=hk
  obtain⟨q,hr,ho⟩:=hb
  exact hz _ ((ho.2 l hl).2.1 hm)
 |_=>cases hk
theorem ro_part {B:Bd}{ρ ρ0:Val}{n i:Nat}{w:World}{b:Blk}{sz m off len:Nat}{g g':Nat→List FV}{x:List Nat}{zz:Nat→Prop}(hs:B.s≤w.heap.size)(hb:b.ok B ρ n w)(hk:eltB (some b)=some (sz,m,g))(hle:off+len≤m)(hg:∀ i,i<len→g' i=g (off+i))(hz:∀ k,ρ.z k→ρ0.z k)
  (hρ:ρ0 i=(ρ n).map fun l=>⟨l.blk,l.off+off*sz,l.cap-off,l.sp,l.ok.imp_left fun h=>by omega⟩) (hx:∀ l,ρ n=some l→0<len→l.blk ∉ x:=by intros;simp) (hlt:∀ k,ρ.z k→k<w.heap.size:=by first|assumption|exact fun k hk=>(MRel.zhi (by assumption) k hk).1):(Blk.ro sz len g').ok ⟨w.heap.size,x,zz⟩ ρ0 i w:=by
 obtain⟨q,hr,h1,h2,h3⟩:=eltB_ok hb hk
 have hlb:lenB (some b)=some m:=by
  cases b with
  |ro sz' m' g''=>
   simp only[eltB,Option.some.injEq,Prod.mk.injEq] at hk
   rw[← hk.2.1];rfl
  |fz sz' m' g''=>
   simp only[eltB,Option.some.injEq,Prod.mk.injEq] at hk
   rw[← hk.2.1];rfl
  |own ty sz' m' g''=>
   simp only[eltB,Option.some.injEq,Prod.mk.injEq] at hk
   rw[← hk.2.1];rfl
  |_=>cases hk
 obtain⟨c1,c2⟩:=len_cap hb hlb
 refine⟨fun i=>q (off+i),fun i hi => ?_,fun hn => ?_,fun l hl => ?_⟩
 . rw[hg i hi];exact(hr _ (by omega)).mono hz (fun _ _=>rfl)
 . rw[hρ] at hn
   cases hl:ρ n with
   |none=>have:=c1 hl;omega
   |some l=>rw[hl] at hn;cases hn
 . rw[hρ] at hl
   cases hlb':ρ n with
   |none=>rw[hlb'] at hl;cases hl
   |some lb=>
    rw[hlb'] at hl
    obtain rfl:=Option.some.inj hl
    have hcap:=c2 lb hlb'
    refine⟨by show len≤lb.cap-off;omega,fun hpos hm => ?_,fun i hi=>⟨h1 _ (by omega),fun j x hx => ?_⟩⟩
    . rcases hm with hm|hm
      . exact hx lb hlb' hpos hm
      . exact absurd (src_lt hs hlt hb hk (by omega) hlb') (Nat.not_lt_of_le hm)
    . have:=h3 lb (off+i) j x hlb' (by omega) hx
      rw[← this]
      simp only[Nat.add_mul,Nat.add_assoc]
theorem ctr_row {P:Program}{G:World→Prop}(hG:Stable G){Γ:Env}(hΓ:EnvOk P G Γ){f:FuncId}{fn:Func}(hf:P.funcs[f]? = some fn)(hb:fn.body.isSome=true)(hm:Okay P)(T:Tbl)(hT:codeOk T (bodyOf fn)=true)(n:Nat)
  {rest:List SV} {M:List Blk} {b sz off len m:Nat} {g g':Nat→List FV} {sv:SV} (hk:eltB (nth M b)=some (sz,m,g)) (hle:off+len≤m) (hg:∀ i,i<len→g' i=g (off+i)) (hsc:scL (fun _=>false) rest=true)
  (h:run P Γ n T 0 (bodyOf fn) (initF fn (.sl 0 sz 0 len::rest)) [.ro sz len g'] (retK P fn fun x _=>eqv x sv)):
  ∀ (B:Bd) (ρ:Val) (w:World),G w→MRel B ρ M w→Calls P f (denL ρ (.sl b sz off len::rest)).toArray w fun e w'=>
    ∃ (ρ':Val) (v:Value),e = .returned v∧(sv ≠ .junk→v=sv.den ρ')∧Val.Ext w.heap.size (fun n => ¬ (M.length≤n∧n<M.length+([]:List Blk).length)) ρ ρ'∧Below w.heap.size w w'∧New B w.heap.size ρ' M.length [] w':=by
 intro B ρ w hGw hM
 obtain⟨bk,hbk⟩:∃ bk,nth M b=some bk:=by
  cases hq:nth M b with
  |none=>rw[hq] at hk;cases hk
  |some bk=>exact⟨bk,rfl⟩
 rw[hbk] at hk
 have hMb:M[b]? = some bk:=by rw[← nth_eq];exact hbk
 have hok:=hM.ok b bk hMb
 let ρ0:Val:=⟨fun i=>if i=0 then (ρ b).map fun l=>⟨l.blk,l.off+off*sz,l.cap-off,l.sp,l.ok.imp_left fun h=>by omega⟩ else none,ρ.z⟩
 have hden:denL ρ0 (.sl 0 sz 0 len::rest)=denL ρ (.sl b sz off len::rest):=by
  simp only[denL]
  rw[denL_congr (ρ:=ρ) (ρ':=ρ0) (p:=fun _=>false) (fun n hn=>by cases hn) rest hsc]
  congr 1
  cases hl:ρ b with
  |none=>simp[SV.den,ρ0,hl]
  |some l=>simp[SV.den,ρ0,hl]
 have hM0:MRel ⟨w.heap.size,[],ρ.z⟩ ρ0 [.ro sz len g'] w:=by
  have hro:(Blk.ro sz len g').ok ⟨w.heap.size,[],ρ.z⟩ ρ0 0 w:=ro_part (ρ0:=ρ0) hM.size hok hk hle hg (fun _ h=>h) (by simp[ρ0])
  refine⟨Nat.le_refl _,fun i bb hb' => ?_,fun i j bb c l l' hne e1 e2 => ?_,zlt_sub hM,fun _ h=>h,fun k hk=>⟨(hM.zhi k hk).1,.inl hk⟩,fun i bb l hb' ho => ?_,fun k hk=>.inl hk⟩
  . cases i with
    |zero=>
     simp only[List.getElem?_cons_zero,Option.some.injEq] at hb'
     subst hb';exact hro
    |succ i=>simp at hb'
  . cases i with
    |zero=>cases j with
     |zero=>exact absurd rfl hne
     |succ j=>simp at e2
    |succ i=>simp at e1
  . cases i with
    |zero=>simp only[List.getElem?_cons_zero,Option.some.injEq] at hb';subst hb';cases ho
    |succ i=>simp at hb'
 have hrun:=calls_run hG hΓ hf hb hm T hT n (M0:=[.ro sz len g']) (ρ0:=ρ0) (args:=.sl 0 sz 0 len::rest) hGw (by
  simp only[okSt,scL,SV.sc,Bool.and_eq_true]
  exact⟨⟨rfl,scL_mono (fun n hn=>by cases hn) _ hsc⟩,rfl⟩) hM0 h
 rw[hden] at hrun
 refine hrun.mono ?_
 rintro e w' ⟨ρ',x,M',rfl,hx,_,hw⟩
 exact⟨ρ,_,rfl,fun _=>eqv_den hx ρ' ρ,Val.Ext.refl ..,hw,new_none hM hw⟩
theorem step_t {c:Bool}{A B:Prop}(h:c=true)(k:A):(c=true→A)∧(c=false→B):=⟨fun _=>k,fun h'=>Bool.noConfusion (h.symm.trans h')⟩
theorem step_f {c:Bool}{A B:Prop}(h:c=false)(k:B):(c=true→A)∧(c=false→B):=⟨fun h'=>Bool.noConfusion (h.symm.trans h'),fun _=>k⟩
theorem step_nt {c:Bool}{A B:Prop}(h:c=true)(k:B):((!c)=true→A)∧((!c)=false→B):=step_f (by rw[h];rfl) k
theorem step_nf {c:Bool}{A B:Prop}(h:c=false)(k:A):((!c)=true→A)∧((!c)=false→B):=step_t (by rw[h];rfl) k
theorem step_n {c:Bool}{A B:Prop}(hf:c=false→A)(ht:c=true→B):((!c)=true→A)∧((!c)=false→B):=⟨fun h=>hf (by revert h;cases c<;>simp),fun h=>ht (by revert h;cases c<;>simp)⟩
end Go.Sx
namespace Go.Sx
open Go.RowKit Go.Proofs.YtfjemlegodhfnaaGreat
def ViewB (σ:List Nat)(b:Blk):Blk→Prop
 | .dead=>True
 | .rc ty ys=>∃ xs,(b = .cells ty xs∨b = .rc ty xs)∧∀ ρ,denL (renρ σ ρ) ys=denL ρ xs
 | .ro sz m g=>∃ m' g',eltB (some b)=some (sz,m',g')∧m≤m'∧∀ i,i<m→g i=g' i
 | .fz sz m g=>∃ m' g',b = .fz sz m' g'∧m≤m'∧∀ i,i<m→g i=g' i
 |_=>False
def View (M:List Blk)(τ:List Nat):List Nat→List Blk→Prop
 |n::σ,c::M0=>(∃ b,M[n]? = some b∧ViewB τ b c)∧View M τ σ M0
 |_,[]=>True
 |[],_::_=>False
theorem View.get {M:List Blk}{τ:List Nat}:∀ {σ:List Nat} {M0:List Blk},View M τ σ M0→∀ (i:Nat) (c:Blk),M0[i]? = some c→∃ n b,σ[i]? = some n∧M[n]? = some b∧ViewB τ b c
 |_,[],_,i,c,h=>by simp at h
 |[],_::_,hv,_,_,_=>hv.elim
 |n::σ,d::M0,hv,0,c,h=>by
  simp only[List.getElem?_cons_zero,Option.some.injEq] at h
  subst h
  obtain⟨b,h1,h2⟩:=hv.1
  exact⟨n,b,rfl,h1,h2⟩
 |n::σ,d::M0,hv,i+1,c,h=>by
  simp only[List.getElem?_cons_succ] at h ⊢
  exact View.get hv.2 i c h
theorem view_one {B:Bd}{ρ ρ0:Val}{M:List Blk}{w:World}{σ:List Nat}{x:List Nat}{zz:Nat→Prop}(h:MRel B ρ M w){i n:Nat}{b c:Blk}(hn:M[n]? = some b)(hb:ViewB σ b c)(e:ρ0 i=ρ n)(hz:∀ k,ρ.z k→ρ0.z k)(hden:∀ xs ys:List SV,denL (renρ σ ρ) ys=denL ρ xs→denL ρ0 ys=denL ρ xs)
  (hx:∀ l,ρ n=some l→(∀ sz m g,eltB (some b)=some (sz,m,g)→0<m)→l.blk ∉ x) (hx2:∀ l ty xs,b = .cells ty xs∨b = .rc ty xs→ρ n=some l→l.blk ∉ x):c.ok ⟨w.heap.size,x,zz⟩ ρ0 i w:=by
 have hok:=h.ok n b hn
 cases c with
 |dead=>trivial
 |rc ty ys=>
  obtain⟨xs,hbe,hd⟩:=hb
  have key:∀ l:Loc,ρ n=some l→l.off=0→w.heap[l.blk]? = some (.cells (denL ρ xs).toArray ty (0,0))→(Blk.rc ty ys).ok ⟨w.heap.size,x,zz⟩ ρ0 i w:=fun l hl h0 hh=>by
   refine⟨l,by rw[e];exact hl,h0,fun hm => ?_,by rw[hden xs ys (hd ρ)];exact hh⟩
   have hlt:=(Array.getElem?_eq_some_iff.1 hh).1
   rcases hm with hx'|hx'
   . exact hx2 l ty xs hbe hl hx'
   . exact absurd hlt (Nat.not_lt_of_le hx')
  rcases hbe with rfl|rfl
  . obtain⟨l,hl,h0,_,hh⟩:=hok
    exact key l hl h0 hh
  . obtain⟨l,hl,h0,_,hh⟩:=hok
    exact key l hl h0 hh
 |ro sz m g=>
  obtain⟨m',g',hk,hm,hg⟩:=hb
  by_cases h0:0<m
  . exact ro_part (off:=0) h.size hok hk (by omega) (fun i hi=>by rw[hg i hi,Nat.zero_add]) hz (by rw[e];cases ρ n<;>simp) (fun l hl _=>hx l hl fun sz' m'' g'' hk'=>by rw[hk] at hk';simp only[Option.some.injEq,Prod.mk.injEq] at hk';omega) (fun k hk=>(h.zhi k hk).1)
  . obtain rfl:m=0:=by omega
    exact⟨fun _=>[],fun i hi=>by omega,fun _=>rfl,fun l hl=>⟨Nat.zero_le _,fun h=>by omega,fun i hi=>by omega⟩⟩
 |fz sz m g=>
  obtain⟨m',g',rfl,hm,hg⟩:=hb
  obtain⟨q,hr,ho⟩:=hok
  refine⟨q,fun i hi=>by rw[hg i hi];exact(hr i (by omega)).mono hz (fun _ _=>rfl),fun hn => ?_,fun l hl => ?_⟩
  . rw[e] at hn;have:=ho.1 hn;omega
  . rw[e] at hl
    obtain⟨q1,q2,q3⟩:=ho.2 l hl
    exact⟨by omega,fun h=>hz _ (q2 (by omega)),fun i hi=>q3 i (by omega)⟩
 |cells=>exact hb.elim
 |own=>exact hb.elim
 |map=>exact hb.elim
 |mix=>exact hb.elim
 |fm=>exact hb.elim
 |lp=>exact hb.elim
theorem View.rel {B:Bd}{ρ:Val}{M M0:List Blk}{w:World}{σ:List Nat}(h:MRel B ρ M w)(hv:View M σ σ M0):MRel ⟨w.heap.size,[],ρ.z⟩ (renρ σ ρ) M0 w:=by
 have own:∀ (i:Nat) (c:Blk),M0[i]? = some c→c.isOwn=false:=fun i c hc=>by
  obtain⟨n,b,_,_,hb⟩:=hv.get i c hc
  cases c<;>first|rfl|exact hb.elim
 refine⟨Nat.le_refl _,fun i c hc => ?_,fun i j c d l k _ h1 _ o1=>(by rw[own i c h1] at o1;cases o1),zlt_sub h,fun _ h=>h,fun k hk=>⟨(h.zhi k hk).1,.inl hk⟩,fun i c l hc ho=>(by rw[own i c hc] at ho;cases ho),fun k hk=>.inl hk⟩
 obtain⟨n,b,hσ,hn,hb⟩:=hv.get i c hc
 exact view_one h hn hb (by simp[renρ,hσ]) (fun _ h=>h) (fun _ _ h=>h) (fun _ _ _ h=>by cases h) (fun _ _ _ _ _ h=>by cases h)
theorem ctr_sel {P:Program}{G:World→Prop}(hG:Stable G){Γ:Env}(hΓ:EnvOk P G Γ){f:FuncId}{fn:Func}(hf:P.funcs[f]? = some fn)(hb:fn.body.isSome=true)(hm:Okay P)(T:Tbl)(hT:codeOk T (bodyOf fn)=true)(n:Nat)(σ:List Nat)(args0:List SV)(M0:List Blk)
  {args:List SV} {M:List Blk} {sv:SV} (hargs:∀ ρ,denL (renρ σ ρ) args0=denL ρ args) (hsc:okSt args0 M0=true) (hv:View M σ σ M0)
  (h:run P Γ n T 0 (bodyOf fn) (initF fn args0) M0 (retK P fn fun x _=>eqv x sv)):
  ∀ (B:Bd) (ρ:Val) (w:World),G w→MRel B ρ M w→Calls P f (denL ρ args).toArray w fun e w'=>
    ∃ (ρ':Val) (v:Value),e = .returned v∧(sv ≠ .junk→v=sv.den ρ')∧Val.Ext w.heap.size (fun n => ¬ (M.length≤n∧n<M.length+([]:List Blk).length)) ρ ρ'∧Below w.heap.size w w'∧New B w.heap.size ρ' M.length [] w':=by
 intro B ρ w hGw hM
 have hrun:=calls_run hG hΓ hf hb hm T hT n (M0:=M0) (ρ0:=renρ σ ρ) (args:=args0) hGw hsc (View.rel hM hv) h
 rw[hargs] at hrun
 refine hrun.mono ?_
 rintro e w' ⟨ρ',x,M',rfl,hx,_,hw⟩
 exact⟨ρ,_,rfl,fun _=>eqv_den hx ρ' ρ,Val.Ext.refl ..,hw,new_none hM hw⟩
theorem okConsI {P:Program}{f:FuncId}{fn:Func}{T:Tbl}{l:List (FuncId×Func×Tbl)}(h1:P.funcs[f]? = some fn)(h2:fn.body.isSome=true)(h3:codeOk T (bodyOf fn)=true)(h4:∀ (args:Array Value) (w:World),(callFunc f args).run P w = .ok (.enter f args) w)(t:∀ p∈l,IterOk P p.1 p.2.1 p.2.2):∀ p∈(f,fn,T)::l,IterOk P p.1 p.2.1 p.2.2:=by
 intro p hp
 cases hp with
 |head=>exact⟨h1,h2,h3,h4⟩
 |tail _ hp=>exact t p hp
theorem okNilY {P:Program}{G:World→Prop}:∀ p∈([]:List (FuncId×YC)),YCtrOk P G p.1 p.2:=fun _ h=>by cases h
theorem okConsY {P:Program}{G:World→Prop}{g:FuncId}{c:YC}{l:List (FuncId×YC)}(h:YCtrOk P G g c)(t:∀ p∈l,YCtrOk P G p.1 p.2):∀ p∈(g,c)::l,YCtrOk P G p.1 p.2
 |_,.head _=>h
 |_,.tail _ m=>t _ m
theorem okNilI {P:Program}:∀ p∈([]:List (FuncId×Func×Tbl)),IterOk P p.1 p.2.1 p.2.2:=fun _ h=>by cases h
theorem okNilP {P:Program}:∀ p∈([]:List (FuncId×(List SV→Option SV))),PrimOk P p.1 p.2:=fun _ h=>by cases h
theorem okConsP {P:Program}{g:FuncId}{c:List SV→Option SV}{l:List (FuncId×(List SV→Option SV))}(h:PrimOk P g c)(t:∀ p∈l,PrimOk P p.1 p.2):∀ p∈(g,c)::l,PrimOk P p.1 p.2:=by
 intro p hp
 rcases List.mem_cons.1 hp with rfl|hp
 . exact h
 . exact t p hp
end Go.Sx
