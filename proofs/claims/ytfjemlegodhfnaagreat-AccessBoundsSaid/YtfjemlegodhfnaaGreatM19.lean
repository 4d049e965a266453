import Derived.Test.YtfjemlegodhfnaaGreatM18
set_option linter.all false
namespace Go.Sx
open Go.RowKit Go.Proofs.YtfjemlegodhfnaaGreat
def shiftG (off:Nat)(g:Nat→List FV):Nat→List FV:=match off with
 |0=>g
 |k+1=>fun i=>g (k+1+i)
theorem shiftG_eq (off:Nat)(g:Nat→List FV)(i:Nat):shiftG off g i=g (off+i):=by
 cases off with
 |zero=>simp[shiftG]
 |succ k=>rfl
inductive AV where
 |one (x:FV)
 |agg (l:List FV)
def AVEq:AV→AV→Prop
 | .one x,.one y=>FVEq x y
 | .agg l,.agg m=>FVEqL l m
 |_,_=>False
def AVEqL:List AV→List AV→Prop
 |[],[]=>True
 |a::l,b::m=>AVEq a b∧AVEqL l m
 |_,_=>False
theorem AVEq.refl (a:AV):AVEq a a:=by cases a with
 |one x=>exact FVEq.refl x
 |agg l=>exact FVEqL.refl l
theorem AVEqL.refl:∀ l:List AV,AVEqL l l
 |[]=>trivial
 |a::l=>⟨AVEq.refl a,AVEqL.refl l⟩
def eltZ:Option Blk→Option (Nat×Nat×(Nat→List FV))
 |some (.fz sz m g)=>some (sz,m,g)
 |some (.own _ sz m g)=>some (sz,m,g)
 |_=>none
abbrev EltF:=Option Blk→Option (Nat×Nat×(Nat→List FV))
def topS (E:EltF)(M:List Blk)(x:SV):Option (Bool×FV):=match x with
 | .sl n sz off len=>match E (nth M n) with
   |some (sz',m,g)=>match Nat.beq sz sz' with
    |true=>some (decide (off+len≤m),.row sz len (shiftG off g))
    |false=>none
   |none=>none
 |x=>match fvS x with
  |some y=>some (true,y)
  |none=>none
def topL (E:EltF)(M:List Blk):List SV→Option (Bool×List FV)
 |[]=>some (true,[])
 |x::l=>match topS E M x,topL E M l with
  |some (b,y),some (c,m)=>some (b&&c,y::m)
  |_,_=>none
def topA (E:EltF)(M:List Blk):List SV→Option (Bool×List AV)
 |[]=>some (true,[])
 |x::l=>match x with
  | .agg xs=>match topL E M xs,topA E M l with
    |some (b,ys),some (c,m)=>some (b&&c,.agg ys::m)
    |_,_=>none
  |x=>match topS E M x,topA E M l with
   |some (b,y),some (c,m)=>some (b&&c,.one y::m)
   |_,_=>none
structure RoL (Q:Nat→Prop)(z:Nat→Prop)(w:World)(l:Option Loc)(sz m:Nat)(g:Nat→List FV):Prop where
 nil:l=none→m=0
 some:∃ h:Nat→List FV,(∀ i,i<m→RepL z w (g i) (h i))∧∀ k,l=some k→m≤k.cap∧(0<m→Q k.blk)∧∀ i,i<m→okG sz (h i)∧∀ (j:Nat) (x:FV),(h i)[j]? = some x→w.cell? ⟨k.blk,k.off+i*sz+j,none⟩=some x.den
inductive TopR (Q:Nat→Prop)(z:Nat→Prop)(w:World):FV→FV→Prop
 |flat {x:FV} (h:x.flat=true):TopR Q z w x x
 |row {sz n:Nat} {g:Nat→List FV} (l:Option Loc) (h:RoL Q z w l sz n g):TopR Q z w (.row sz n g) (.val (rowV l n))
def TopRL (Q:Nat→Prop)(z:Nat→Prop)(w:World):List FV→List FV→Prop
 |[],[]=>True
 |x::l,y::m=>TopR Q z w x y∧TopRL Q z w l m
 |_,_=>False
section
variable {Q:Nat→Prop}{z:Nat→Prop}{w:World}
theorem TopR.eqv {x y:FV}(h:TopR Q z w x y){x':FV}(he:FVEq x x'):TopR Q z w x' y:=by
 cases h with
 |flat hf=>
  cases he with
  |nil=>exact .row none ⟨fun _=>rfl,fun _=>[],fun i hi=>absurd hi (Nat.not_lt_zero i),fun k hk=>by cases hk⟩
  |flat _=>exact .flat hf
  |row=>cases hf
 | @row sz n g l h=>
   cases he with
   |flat hf=>cases hf
   | @row _ sz' _ _ g' hs hl hr=>
     obtain⟨q,hq,hk⟩:=h.some
     refine .row l ⟨h.nil,q,fun i hi=>(hq i hi).eqv ⟨hl i hi,fun j a b ha hb=>hr i j a b hi ha hb⟩,fun k hk' => ?_⟩
     obtain⟨h1,h2,h3⟩:=hk k hk'
     refine⟨h1,h2,fun i hi => ?_⟩
     rw[← hs (by omega)];exact h3 i hi
theorem TopRL.eqv:∀ {a b:List FV} (_:TopRL Q z w a b) {a':List FV},FVEqL a a'→TopRL Q z w a' b
 |[],[],_,a',he=>by
  obtain rfl:a'=[]:=List.eq_nil_of_length_eq_zero he.1.symm
  trivial
 |x::a,y::b,h,[],he=>by have:=he.1;simp at this
 |x::a,y::b,h,x'::a',he=>⟨h.1.eqv (he.2 0 x x' rfl rfl),h.2.eqv ⟨by simpa using he.1,fun j u v hu hv=>he.2 (j+1) u v (by simpa using hu) (by simpa using hv)⟩⟩
 |[],_::_,h,_,_=>h.elim
 |_::_,[],h,_,_=>h.elim
end
def Lies (E:EltF)(Q:Nat→Prop)(ρ:Val)(M:List Blk):Prop:=(∀ b r,E b=some r→eltB b=some r)∧∀ (n:Nat) (b:Blk) (l:Loc),M[n]? = some b→ρ n=some l→(∃ sz m g,E (some b)=some (sz,m,g)∧0<m)→Q l.blk
theorem src_row {Q z:Nat→Prop}{w:World}{l:Option Loc}{sz m off len:Nat}{g:Nat→List FV}(h:SrcOk z w l sz m g)(hcap:∀ k,l=some k→m≤k.cap)(hle:off+len≤m)(hQ:∀ k,l=some k→0<m→Q k.blk):
  RoL Q z w (l.map fun k=>⟨k.blk,k.off+off*sz,k.cap-off,k.sp,k.ok.imp_left fun h=>by omega⟩) sz len (shiftG off g):=by
 obtain⟨q,h1,h2,h3,h4⟩:=h
 refine⟨fun hn => ?_,fun i=>q (off+i),fun i hi=>by rw[shiftG_eq];exact h1 _ (by omega),fun k hk => ?_⟩
 . cases l with
   |none=>
    rcases Nat.eq_zero_or_pos m with h|h
    . omega
    . obtain⟨k,hk⟩:=h3 h;cases hk
   |some k=>cases hn
 . cases l with
   |none=>cases hk
   |some k0=>
    obtain rfl:=Option.some.inj hk
    have hc:=hcap k0 rfl
    refine⟨by show len≤k0.cap-off;omega,fun hp=>hQ k0 rfl (by omega),fun i hi=>⟨h2 _ (by omega),fun j x hx => ?_⟩⟩
    have:=h4 k0 (off+i) j x rfl (by omega) hx
    rw[← this]
    show w.cell? ⟨k0.blk,k0.off+off*sz+i*sz+j,none⟩=_
    congr 2;rw[Nat.add_mul];omega
theorem eltB_len {b:Blk}{sz m:Nat}{g:Nat→List FV}(h:eltB (some b)=some (sz,m,g)):lenB (some b)=some m:=by
 cases b<;>first | (simp only[eltB,Option.some.injEq,Prod.mk.injEq] at h;obtain⟨_,rfl,_⟩:=h;rfl)|cases h
section
variable {B:Bd}{ρ:Val}{w:World}{M:List Blk}{Q:Nat→Prop}{E:EltF}
theorem fvS_nj {x:SV}{y:FV}(h:fvS x=some y):x.nj=true:=by cases x<;>first|rfl|cases h
theorem topS_ok (hM:MRel B ρ M w)(hQ:Lies E Q ρ M){x:SV}{b:Bool}{y:FV}(h:topS E M x=some (b,y))(hb:b=true):∃ q,TopR Q ρ.z w y q∧x.den ρ=q.den∧x.nj=true:=by
 unfold topS at h
 split at h
 . rename_i n sz off len
   split at h
   . rename_i sz' m g hk
     split at h
     . rename_i hs
       obtain rfl:sz=sz':=Nat.eq_of_beq_eq_true hs
       obtain⟨rfl,rfl⟩:=Prod.mk.inj (Option.some.inj h)
       simp only[decide_eq_true_eq] at hb
       obtain⟨c,hc⟩:∃ c,M[n]? = some c:=by
        cases hq:M[n]? with
        |none=>rw[nth_eq,hq] at hk;have:=hQ.1 _ _ hk;cases this
        |some c=>exact⟨c,rfl⟩
       rw[nth_eq,hc] at hk
       have hkE:=hk
       replace hk:=hQ.1 _ _ hk
       have hsrc:=eltB_ok (hM.ok n c hc) hk
       have hcap:=(len_cap (hM.ok n c hc) (eltB_len hk)).2
       refine⟨_,.row ((ρ n).map fun k=>⟨k.blk,k.off+off*sz,k.cap-off,k.sp,k.ok.imp_left fun h=>by omega⟩) (src_row hsrc hcap hb fun k hk' hp=>hQ.2 n c k hc hk' ⟨sz,m,g,hkE,hp⟩),?_,rfl⟩
       simp only[FV.den,SV.den,rowV]
       cases hl:ρ n with
       |none=>have:=(len_cap (hM.ok n c hc) (eltB_len hk)).1 hl;simp
       |some l=>simp
     . cases h
   . cases h
 . rename_i x hx
   split at h
   . rename_i y' hy
     obtain⟨rfl,rfl⟩:=Prod.mk.inj (Option.some.inj h)
     exact⟨y',.flat (fvS_flat hy),fvS_den hy ρ,fvS_nj hy⟩
   . cases h
theorem topL_ok (hM:MRel B ρ M w)(hQ:Lies E Q ρ M):∀ {l:List SV} {b:Bool} {m:List FV},topL E M l=some (b,m)→b=true→∃ q,TopRL Q ρ.z w m q∧denL ρ l=q.map FV.den
 |[],b,m,h,_=>by
  obtain⟨rfl,rfl⟩:=Prod.mk.inj (Option.some.inj h)
  exact⟨[],trivial,rfl⟩
 |x::l,b,m,h,hb=>by
  simp only[topL] at h
  split at h
  . rename_i b1 y c m' h1 h2
    obtain⟨rfl,rfl⟩:=Prod.mk.inj (Option.some.inj h)
    simp only[Bool.and_eq_true] at hb
    obtain⟨q1,r1,e1,_⟩:=topS_ok hM hQ h1 hb.1
    obtain⟨q2,r2,e2⟩:=topL_ok hM hQ h2 hb.2
    exact⟨q1::q2,⟨r1,r2⟩,by simp only[denL,List.map_cons,e1,e2]⟩
  . cases h
def mkR (z:Bool)(sz n:Nat)(g:Nat→List FV):Blk:=match z with
 |true=>.fz sz n g
 |false=>.ro sz n g
def namT (z:Bool):Nat→List FV→List SV×List Blk
 |_,[]=>([],[])
 |m,x::l=>match x with
  | .row sz n g=>match namT z (m+1) l with
    |(xs,bs)=>(.sl m sz 0 n::xs,mkR z sz n g::bs)
  |x=>match namT z m l with
   |(xs,bs)=>(x.sv::xs,bs)
theorem namT_flat {z:Bool}{m:Nat}{x:FV}(l:List FV)(h:x.flat=true):namT z m (x::l)=(x.sv::(namT z m l).1,(namT z m l).2):=by cases x<;>first|rfl|cases h
theorem namT_row (z:Bool)(m sz n:Nat)(g:Nat→List FV)(l:List FV):namT z m (.row sz n g::l)=(.sl m sz 0 n::(namT z (m+1) l).1,mkR z sz n g::(namT z (m+1) l).2):=rfl
def Fits (B:Bd)(Q zz:Nat→Prop):Bool→Prop
 |true=>∀ k,Q k→zz k
 |false=>∀ k,Q k → ¬ B.may k
theorem mkR_own (z:Bool)(sz n:Nat)(g:Nat→List FV):(mkR z sz n g).isOwn=false:=by cases z<;>rfl
theorem mkR_sc (z:Bool)(sz n:Nat)(g:Nat→List FV)(p:Nat→Bool):(mkR z sz n g).sc p=true:=by cases z<;>rfl
theorem RoL.ok {z:Bool}{l:Option Loc}{sz n:Nat}{g:Nat→List FV}(h:RoL Q ρ.z w l sz n g)(hQ:Fits B Q ρ.z z){m:Nat}(hl:ρ m=l):(mkR z sz n g).ok B ρ m w:=by
 obtain⟨q,hq,hk⟩:=h.some
 have key:∀ R:Nat→Prop,(∀ k,Q k→R k)→roOk R ρ m w sz n q:=fun R hR=>by
  refine⟨fun hn=>h.nil (by rw[← hl];exact hn),fun k hk' => ?_⟩
  rw[hl] at hk'
  obtain⟨h1,h2,h3⟩:=hk k hk'
  exact⟨h1,fun hp=>hR _ (h2 hp),fun i hi=>h3 i hi⟩
 cases z with
 |true=>exact⟨q,hq,key _ hQ⟩
 |false=>exact⟨q,hq,key _ hQ⟩
theorem namT_ok {z:Bool}{zz:Nat→Prop}(hQ:Fits B Q zz z):∀ (fs hs:List FV) (ρ:Val) (m:Nat),ρ.z=zz→TopRL Q ρ.z w fs hs→∃ ρ':Val,ρ'.z=ρ.z∧(∀ n,¬ (m≤n∧n<m+(namT z m fs).2.length)→ρ' n=ρ n)∧denL ρ' (namT z m fs).1=hs.map FV.den∧(∀ (k:Nat) (b:Blk),(namT z m fs).2[k]? = some b→b.ok B ρ' (m+k) w∧b.isOwn=false)
 |[],hs,ρ,m,hz,h=>by
  obtain rfl:hs=[]:=by cases hs with
    |nil=>rfl
    |cons y ys=>exact h.elim
  exact⟨ρ,rfl,fun _ _=>rfl,rfl,by simp[namT]⟩
 |x::fs,hs,ρ,m,hz,h=>by
  obtain⟨y,ys,rfl⟩:∃ y ys,hs=y::ys:=by
   cases hs with
   |nil=>exact h.elim
   |cons y ys=>exact⟨y,ys,rfl⟩
  obtain⟨h1,h2⟩:=h
  cases h1 with
  |flat hf=>
   obtain⟨ρ',e1,e2,e3,e4⟩:=namT_ok hQ fs ys ρ m hz h2
   rw[namT_flat _ hf]
   exact⟨ρ',e1,e2,by simp only[denL,List.map_cons,e3,FV.sv_den],e4⟩
  | @row sz n g l hr=>
    obtain⟨ρ',e1,e2,e3,e4⟩:=namT_ok hQ fs ys (setρ ρ m l) (m+1) hz h2
    have hm:ρ' m=l:=by rw[e2 m (by omega),setρ_self]
    rw[namT_row]
    refine⟨ρ',e1,fun k hk => ?_,?_,fun k b hb => ?_⟩
    . simp only[List.length_cons] at hk
      rw[e2 k (by omega),setρ_other (by omega)]
    . simp only[denL,List.map_cons,e3,SV.den,hm,FV.den,rowV,Nat.zero_mul,Nat.add_zero,Nat.sub_zero]
    . cases k with
      |zero=>
       obtain rfl:mkR z sz n g=b:=by simpa using hb
       refine⟨RoL.ok (l:=l) (by rw[e1];exact hr) (by rw[e1];exact hz▸hQ) (by rw[Nat.add_zero];exact hm),mkR_own ..⟩
      |succ k=>
       have:=e4 k b (by simpa using hb)
       rwa [show m+1+k=m+(k+1) by omega] at this
theorem namT_sc {z:Bool}:∀ (fs:List FV) (m:Nat),scL (fun n=>decide (n<m+(namT z m fs).2.length)) (namT z m fs).1=true
 |[],m=>rfl
 |x::fs,m=>by
  by_cases hf:x.flat=true
  . rw[namT_flat _ hf];simp only[scL,FV.sv_sc,Bool.true_and];exact namT_sc fs m
  . cases x<;>try (exact absurd rfl hf)
    rw[namT_row]
    simp only[scL,SV.sc,List.length_cons,Bool.and_eq_true,decide_eq_true_eq]
    exact⟨by omega,scL_mono (fun n hn=>by simp only[decide_eq_true_eq] at hn ⊢;omega) _ (namT_sc fs (m+1))⟩
theorem namT_bsc {z:Bool}:∀ (fs:List FV) (m:Nat) (b:Blk),b∈(namT z m fs).2→∀ {p:Nat→Bool},b.sc p=true
 |[],m,b,h=>by cases h
 |x::fs,m,b,h=>by
  by_cases hf:x.flat=true
  . rw[namT_flat _ hf] at h;exact namT_bsc fs m b h
  . cases x<;>try (exact absurd rfl hf)
    rw[namT_row] at h
    rcases List.mem_cons.1 h with rfl|h
    . exact mkR_sc ..
    . exact namT_bsc fs (m+1) b h
def namA (z:Bool):Nat→List AV→List SV×List Blk
 |_,[]=>([],[])
 |m,a::l=>match a with
  | .one x=>match x with
    | .row sz n g=>match namA z (m+1) l with
      |(xs,bs)=>(.sl m sz 0 n::xs,mkR z sz n g::bs)
    |x=>match namA z m l with
     |(xs,bs)=>(x.sv::xs,bs)
  | .agg fs=>match namT z m fs with
    |(ys,cs)=>match namA z (m+cs.length) l with
     |(xs,bs)=>(.agg ys::xs,cs++bs)
theorem namA_flat {z:Bool}{m:Nat}{x:FV}(l:List AV)(h:x.flat=true):namA z m (.one x::l)=(x.sv::(namA z m l).1,(namA z m l).2):=by cases x<;>first|rfl|cases h
theorem namA_row (z:Bool)(m sz n:Nat)(g:Nat→List FV)(l:List AV):namA z m (.one (.row sz n g)::l)=(.sl m sz 0 n::(namA z (m+1) l).1,mkR z sz n g::(namA z (m+1) l).2):=rfl
theorem namA_agg (z:Bool)(m:Nat)(fs:List FV)(l:List AV):namA z m (.agg fs::l)=(.agg (namT z m fs).1::(namA z (m+(namT z m fs).2.length) l).1,(namT z m fs).2++(namA z (m+(namT z m fs).2.length) l).2):=rfl
theorem namA_bsc {z:Bool}:∀ (l:List AV) (m:Nat) (b:Blk),b∈(namA z m l).2→∀ {p:Nat→Bool},b.sc p=true
 |[],m,b,h=>by cases h
 | .one x::l,m,b,h=>by
   by_cases hf:x.flat=true
   . rw[namA_flat _ hf] at h;exact namA_bsc l m b h
   . cases x<;>try (exact absurd rfl hf)
     rw[namA_row] at h
     rcases List.mem_cons.1 h with rfl|h
     . exact mkR_sc ..
     . exact namA_bsc l (m+1) b h
 | .agg fs::l,m,b,h=>by
   rw[namA_agg] at h
   rcases List.mem_append.1 h with h|h
   . exact namT_bsc fs m b h
   . exact namA_bsc l _ b h
theorem namA_sc {z:Bool}:∀ (l:List AV) (m:Nat),scL (fun n=>decide (n<m+(namA z m l).2.length)) (namA z m l).1=true
 |[],m=>rfl
 | .one x::l,m=>by
   by_cases hf:x.flat=true
   . rw[namA_flat _ hf];simp only[scL,FV.sv_sc,Bool.true_and];exact namA_sc l m
   . cases x<;>try (exact absurd rfl hf)
     rw[namA_row]
     simp only[scL,SV.sc,List.length_cons,Bool.and_eq_true,decide_eq_true_eq]
     exact⟨by omega,scL_mono (fun n hn=>by simp only[decide_eq_true_eq] at hn ⊢;omega) _ (namA_sc l (m+1))⟩
 | .agg fs::l,m=>by
   rw[namA_agg]
   simp only[scL,SV.sc,List.length_append,Bool.and_eq_true]
   exact⟨scL_mono (fun n hn=>by simp only[decide_eq_true_eq] at hn ⊢;omega) _ (namT_sc fs m),by rw[← Nat.add_assoc];exact namA_sc l _⟩
def TopAL (Q:Nat→Prop)(z:Nat→Prop)(w:World):List AV→List Value→Prop
 |[],[]=>True
 | .one x::l,v::vs=>(∃ q,TopR Q z w x q∧v=q.den)∧TopAL Q z w l vs
 | .agg fs::l,v::vs=>(∃ qs,TopRL Q z w fs qs∧v = .agg (qs.map FV.den).toArray)∧TopAL Q z w l vs
 |_,_=>False
theorem topA_ok (hM:MRel B ρ M w)(hQ:Lies E Q ρ M):∀ {l:List SV} {b:Bool} {m:List AV},topA E M l=some (b,m)→b=true→TopAL Q ρ.z w m (denL ρ l)
 |[],b,m,h,_=>by
  obtain⟨rfl,rfl⟩:=Prod.mk.inj (Option.some.inj h)
  trivial
 |x::l,b,m,h,hb=>by
  simp only[topA] at h
  split at h
  . rename_i xs
    split at h
    . rename_i b1 ys c m' h1 h2
      obtain⟨rfl,rfl⟩:=Prod.mk.inj (Option.some.inj h)
      simp only[Bool.and_eq_true] at hb
      obtain⟨q1,r1,e1⟩:=topL_ok hM hQ h1 hb.1
      exact⟨⟨q1,r1,by simp only[SV.den,e1]⟩,topA_ok hM hQ h2 hb.2⟩
    . cases h
  . split at h
    . rename_i b1 y c m' h1 h2
      obtain⟨rfl,rfl⟩:=Prod.mk.inj (Option.some.inj h)
      simp only[Bool.and_eq_true] at hb
      obtain⟨q1,r1,e1,_⟩:=topS_ok hM hQ h1 hb.1
      exact⟨⟨q1,r1,e1⟩,topA_ok hM hQ h2 hb.2⟩
    . cases h
theorem TopAL.eqv {z:Nat→Prop}:∀ {l m:List AV} {vs:List Value},AVEqL l m→TopAL Q z w l vs→TopAL Q z w m vs
 |[],[],_,_,h=>h
 | .one x::l,.one y::m,v::vs,he,⟨⟨q,h1,h2⟩,h3⟩=>⟨⟨q,h1.eqv he.1,h2⟩,TopAL.eqv he.2 h3⟩
 | .agg x::l,.agg y::m,v::vs,he,⟨⟨q,h1,h2⟩,h3⟩=>⟨⟨q,h1.eqv he.1,h2⟩,TopAL.eqv he.2 h3⟩
 | .one _::_,.agg _::_,_,he,_=>he.1.elim
 | .agg _::_,.one _::_,_,he,_=>he.1.elim
 |[],_::_,_,he,_=>he.elim
 |_::_,[],_,he,_=>he.elim
 | .one _::_,.one _::_,[],_,h=>h.elim
 | .agg _::_,.agg _::_,[],_,h=>h.elim
theorem namA_ok {z:Bool}{zz:Nat→Prop}(hQ:Fits B Q zz z):∀ (l:List AV) (vs:List Value) (ρ:Val) (m:Nat),ρ.z=zz→TopAL Q ρ.z w l vs→∃ ρ':Val,ρ'.z=ρ.z∧(∀ n,¬ (m≤n∧n<m+(namA z m l).2.length)→ρ' n=ρ n)∧denL ρ' (namA z m l).1=vs∧(∀ (k:Nat) (b:Blk),(namA z m l).2[k]? = some b→b.ok B ρ' (m+k) w∧b.isOwn=false)∧scL (fun n=>decide (n<m+(namA z m l).2.length)) (namA z m l).1=true
 |[],vs,ρ,m,hz,h=>by
  obtain rfl:vs=[]:=by cases vs with
    |nil=>rfl
    |cons y ys=>exact h.elim
  exact⟨ρ,rfl,fun _ _=>rfl,rfl,by simp[namA],rfl⟩
 |a::l,[],ρ,m,hz,h=>by cases a<;>exact h.elim
 | .one x::l,v::vs,ρ,m,hz,⟨⟨q,h1,h2⟩,h3⟩=>by
   cases h1 with
   |flat hf=>
    obtain⟨ρ',e1,e2,e3,e4,e5⟩:=namA_ok hQ l vs ρ m hz h3
    rw[namA_flat _ hf]
    refine⟨ρ',e1,e2,by simp only[denL,e3,FV.sv_den,h2],e4,?_⟩
    simp only[scL,FV.sv_sc,Bool.true_and];exact e5
   | @row sz n g lo hr=>
     obtain⟨ρ',e1,e2,e3,e4,e5⟩:=namA_ok hQ l vs (setρ ρ m lo) (m+1) hz h3
     have hm:ρ' m=lo:=by rw[e2 m (by omega),setρ_self]
     rw[namA_row]
     refine⟨ρ',e1,fun k hk => ?_,?_,fun k b hb => ?_,?_⟩
     . simp only[List.length_cons] at hk
       rw[e2 k (by omega),setρ_other (by omega)]
     . simp only[denL,e3,SV.den,hm,h2,FV.den,rowV,Nat.zero_mul,Nat.add_zero,Nat.sub_zero]
     . cases k with
       |zero=>
        obtain rfl:mkR z sz n g=b:=by simpa using hb
        refine⟨RoL.ok (l:=lo) (by rw[e1];exact hr) (by rw[e1];exact hz▸hQ) (by rw[Nat.add_zero];exact hm),mkR_own ..⟩
       |succ k=>
        have:=e4 k b (by simpa using hb)
        rwa [show m+1+k=m+(k+1) by omega] at this
     . simp only[scL,SV.sc,List.length_cons,Bool.and_eq_true,decide_eq_true_eq]
       exact⟨by omega,scL_mono (fun n hn=>by simp only[decide_eq_true_eq] at hn ⊢;omega) _ e5⟩
 | .agg fs::l,v::vs,ρ,m,hz,⟨⟨qs,h1,h2⟩,h3⟩=>by
   obtain⟨ρ1,a1,a2,a3,a4⟩:=namT_ok hQ fs qs ρ m hz h1
   obtain⟨ρ',e1,e2,e3,e4,e5⟩:=namA_ok hQ l vs ρ1 (m+(namT z m fs).2.length) (a1.trans hz) (by rw[a1];exact h3)
   have hkeep:∀ n,n<m+(namT z m fs).2.length→ρ' n=ρ1 n:=fun n hn=>e2 n (by omega)
   have hsc:scL (fun n=>decide (n<m+(namT z m fs).2.length)) (namT z m fs).1=true:=namT_sc fs m
   rw[namA_agg]
   refine⟨ρ',e1.trans a1,fun k hk => ?_,?_,fun k b hb => ?_,?_⟩
   . simp only[List.length_append] at hk
     rw[e2 k (by omega),a2 k (by omega)]
   . simp only[denL,e3,SV.den,h2]
     rw[denL_congr (ρ:=ρ1) (ρ':=ρ') (p:=fun n=>decide (n<m+(namT z m fs).2.length)) (fun n hn=>hkeep n (by simpa using hn)) _ hsc,a3]
   . rcases Nat.lt_or_ge k (namT z m fs).2.length with hlt|hge
     . rw[List.getElem?_append_left hlt] at hb
       obtain⟨b1,b2⟩:=a4 k b hb
       exact⟨b1.elim_congr (m:=m+(namT z m fs).2.length) hkeep (fun j hj=>by rw[e1];exact hj) (by omega) (namT_bsc fs m b (List.mem_of_getElem? hb)),b2⟩
     . rw[List.getElem?_append_right hge] at hb
       have:=e4 _ b hb
       rwa [show m+(namT z m fs).2.length+(k - (namT z m fs).2.length)=m+k by omega] at this
   . simp only[scL,SV.sc,List.length_append,Bool.and_eq_true]
     exact⟨scL_mono (fun n hn=>by simp only[decide_eq_true_eq] at hn ⊢;omega) _ hsc,by rw[← Nat.add_assoc];exact e5⟩
end
theorem TopR.mono {Q z z':Nat→Prop}{w:World}(hz:∀ k,z k→z' k){x y:FV}(h:TopR Q z w x y):TopR Q z' w x y:=by
 cases h with
 |flat hf=>exact .flat hf
 |row l h=>
  obtain⟨q,h1,h2⟩:=h.some
  exact .row l ⟨h.nil,q,fun i hi=>(h1 i hi).mono hz (fun _ _=>rfl),h2⟩
theorem TopRL.mono {Q z z':Nat→Prop}{w:World}(hz:∀ k,z k→z' k):∀ {a b:List FV},TopRL Q z w a b→TopRL Q z' w a b
 |[],[],_=>trivial
 |x::a,y::b,h=>⟨h.1.mono hz,TopRL.mono hz h.2⟩
 |[],_::_,h=>h.elim
 |_::_,[],h=>h.elim
theorem TopAL.mono {Q z z':Nat→Prop}{w:World}(hz:∀ k,z k→z' k):∀ {l:List AV} {vs:List Value},TopAL Q z w l vs→TopAL Q z' w l vs
 |[],[],_=>trivial
 | .one x::l,v::vs,⟨⟨q,h1,h2⟩,h3⟩=>⟨⟨q,h1.mono hz,h2⟩,TopAL.mono hz h3⟩
 | .agg x::l,v::vs,⟨⟨q,h1,h2⟩,h3⟩=>⟨⟨q,h1.mono hz,h2⟩,TopAL.mono hz h3⟩
 |[],_::_,h=>h.elim
 | .one _::_,[],h=>h.elim
 | .agg _::_,[],h=>h.elim
theorem lies_all {B:Bd}{ρ:Val}{w:World}{M:List Blk}(hM:MRel B ρ M w):Lies eltB (fun k=>k<w.heap.size) ρ M:=
 ⟨fun _ _ h=>h,fun n b l hn hl ⟨sz,m,g,hk,hp⟩=>src_lt hM.size (fun k hk=>(hM.zhi k hk).1) (hM.ok n b hn) hk hp hl⟩
theorem mrel_ro {B':Bd}{ρ':Val}{w:World}{V:List Blk}(hs:B'.s≤w.heap.size)(hz:ρ'.z=B'.z)(hzb:∀ k,B'.z k → ¬ B'.may k)(hzl:∀ k,B'.z k→k<w.heap.size)(hV:∀ (k:Nat) (b:Blk),V[k]? = some b→b.ok B' ρ' k w∧b.isOwn=false):MRel B' ρ' V w:=
 ⟨hs,fun n b hb=>(hV n b hb).1,fun n m b c l k hne h1 h2 o1=>by rw[(hV n b h1).2] at o1;(cases o1),hzb,fun k hk=>by rw[hz];exact hk,fun k hk=>by rw[hz] at hk;exact⟨hzl k hk,.inl hk⟩,fun n b l hb ho=>by rw[(hV n b hb).2] at ho;(cases ho),fun k hk=>by rw[hz] at hk;exact .inl hk⟩
section
variable {P:Program}{G:World→Prop}{Γ:Env}{f:FuncId}{fn:Func}
theorem enter_top {B:Bd}{ρ:Val}{w:World}{M:List Blk}(hM:MRel B ρ M w){args args0:List SV}{M0:List Blk}{b:Bool}{av av':List AV}(hv:topA eltB M args=some (b,av))(hb:b=true)(he:AVEqL av av')(h0:namA false 0 av'=(args0,M0)):
  ∃ ρ0:Val,ρ0.z=ρ.z∧denL ρ0 args0=denL ρ args∧MRel ⟨w.heap.size,[],ρ.z⟩ ρ0 M0 w∧okSt args0 M0=true:=by
 have h1:=(topA_ok hM (lies_all hM) hv hb).eqv he
 have hfit:Fits ⟨w.heap.size,[],ρ.z⟩ (fun k=>k<w.heap.size) ρ.z false:=fun k hk hm=>hm.elim (fun h=>by cases h) fun h=>by
  have h:w.heap.size≤k:=h
  omega
 obtain⟨ρ0,e1,_,e3,e4,e5⟩:=namA_ok (B:=⟨w.heap.size,[],ρ.z⟩) hfit av' _ ⟨fun _=>none,ρ.z⟩ 0 rfl h1
 rw[h0] at e3 e4 e5
 refine⟨ρ0,e1,e3,mrel_ro (Nat.le_refl _) e1 (zlt_sub hM) (fun k hk=>(hM.zhi k hk).1) (fun k c hc=>by have:=e4 k c hc;rwa [Nat.zero_add] at this),?_⟩
 simp only[okSt,Bool.and_eq_true]
 refine⟨by simpa using e5,?_⟩
 simp only[scAll,List.all_eq_true]
 intro c hc
 have:c∈(namA false 0 av').2:=by rw[h0];exact hc
 exact namA_bsc av' 0 c this
theorem ctr_top (hG:Stable G)(hΓ:EnvOk P G Γ)(hf:P.funcs[f]? = some fn)(hb:fn.body.isSome=true)(hm:Okay P)(T:Tbl)(hT:codeOk T (bodyOf fn)=true)(n:Nat)
  {args:List SV} {M:List Blk} {sv:SV} {c:Bool} {av:List AV} (av':List AV) {args0:List SV} {M0:List Blk} (hv:topA eltB M args=some (c,av)) (hc:c=true) (he:AVEqL av av') (h0:namA false 0 av'=(args0,M0))
  (h:run P Γ n T 0 (bodyOf fn) (initF fn args0) M0 (retK P fn fun x _=>eqv x sv)):
  ∀ (B:Bd) (ρ:Val) (w:World),G w→MRel B ρ M w→Calls P f (denL ρ args).toArray w fun e w'=>
    ∃ (ρ':Val) (v:Value),e = .returned v∧(sv ≠ .junk→v=sv.den ρ')∧Val.Ext w.heap.size (fun n => ¬ (M.length≤n∧n<M.length+([]:List Blk).length)) ρ ρ'∧Below w.heap.size w w'∧New B w.heap.size ρ' M.length [] w':=by
 intro B ρ w hGw hM
 obtain⟨ρ0,e1,e2,e3,e4⟩:=enter_top hM hv hc he h0
 have hrun:=calls_run hG hΓ hf hb hm T hT n hGw e4 e3 h
 rw[e2] at hrun
 refine hrun.mono ?_
 rintro e w' ⟨ρ',x,M',rfl,hx,hM',hbel⟩
 exact⟨ρ,_,rfl,fun _=>eqv_den hx ρ' ρ,Val.Ext.refl ..,hbel,new_none hM hbel⟩
def outA (tp:Bool)(xs:List SV):SV:=match tp with
 |true=>.tup xs
 |false=>match xs with
  |[x]=>x
  |_=>.junk
def TellsC (tp:Bool)(as0:List AV):SV→List Blk→Prop:=fun x M1=>∃ xs b av,x=outA tp xs∧(tp=true∨xs.length=1)∧topA eltZ M1 xs=some (b,av)∧b=true∧AVEqL av as0
theorem outA_den {tp:Bool}{xs ys:List SV}{ρ ρ':Val}(h:denL ρ xs=denL ρ' ys)(hl:tp=true∨xs.length=1):(outA tp xs).den ρ=(outA tp ys).den ρ':=by
 cases tp with
 |true=>simp only[outA,SV.den,h]
 |false=>
  rcases hl with hl|hl
  . cases hl
  . obtain⟨x,rfl⟩:=List.length_eq_one_iff.1 hl
    have h2:=congrArg List.length h
    simp only[denL_eq,List.length_map] at h2
    obtain⟨y,rfl⟩:=List.length_eq_one_iff.1 h2.symm
    simpa [outA,denL] using h
theorem ctr_topc (hG:Stable G)(hΓ:EnvOk P G Γ)(hf:P.funcs[f]? = some fn)(hb:fn.body.isSome=true)(hm:Okay P)(T:Tbl)(hT:codeOk T (bodyOf fn)=true)(n:Nat)
  {args:List SV} {M:List Blk} {c:Bool} {av:List AV} (av':List AV) {args0:List SV} {M0:List Blk} (hv:topA eltB M args=some (c,av)) (hc:c=true) (he:AVEqL av av') (h0:namA false 0 av'=(args0,M0)) (tp:Bool) (as0:List AV)
  (h:run P Γ n T 0 (bodyOf fn) (initF fn args0) M0 (retK P fn (TellsC tp as0))):
  ∀ (B:Bd) (ρ:Val) (w:World),G w→MRel B ρ M w→Calls P f (denL ρ args).toArray w fun e w'=>
    ∃ (ρ':Val) (v:Value),e = .returned v∧(outA tp (namA true M.length as0).1 ≠ .junk→v=(outA tp (namA true M.length as0).1).den ρ')∧Val.Ext w.heap.size (fun n => ¬ (M.length≤n∧n<M.length+(namA true M.length as0).2.length)) ρ ρ'∧Below w.heap.size w w'∧New B w.heap.size ρ' M.length (namA true M.length as0).2 w':=by
 intro B ρ w hGw hM
 obtain⟨ρ0,e1,e2,e3,e4⟩:=enter_top hM hv hc he h0
 have hrun:=calls_run hG hΓ hf hb hm T hT n hGw e4 e3 h
 rw[e2] at hrun
 refine hrun.mono ?_
 rintro e w' ⟨ρ1,x,M1,rfl,⟨xs,b,as1,rfl,hlen,hv1,hb1,he1⟩,hM1,hbel⟩
 let z':Nat→Prop:=fun k=>ρ.z k∨(w.heap.size≤k∧isC w' k)
 have fresh:∀ j,(⟨w.heap.size,[],ρ.z⟩:Bd).may j→w.heap.size≤j:=fun j hj=>hj.elim (fun h=>by cases h) fun h=>h
 have zsub:∀ k,ρ1.z k→z' k:=fun k hk=>by
  rcases (hM1.zhi k hk).2 with h|h
  . exact .inl h
  . rcases hM1.zc k hk with h2|h2
    . exact .inl h2
    . exact .inr ⟨fresh k h,h2⟩
 have lies:Lies eltZ z' ρ1 M1:=by
  refine⟨fun b r h => ?_,fun n b l hn hl ⟨sz,m,g,hk,hp⟩ => ?_⟩
  . cases b with
    |none=>cases h
    |some b=>cases b<;>first|exact h|cases h
  . cases b with
    |fz sz' m' g'=>
     simp only[eltZ,Option.some.injEq,Prod.mk.injEq] at hk
     obtain⟨rfl,rfl,rfl⟩:=hk
     obtain⟨q,hr,ho⟩:=hM1.ok n _ hn
     exact zsub _ ((ho.2 l hl).2.1 hp)
    |own ty sz' m' g'=>
     have hm:=(Blk.ok_lt (hM1.ok n _ hn) rfl hl).1
     obtain⟨q,hr,ho⟩:=hM1.ok n _ hn
     rcases ho.2 with⟨h0,_⟩ | ⟨l',cur,hl',_,_,hh,_⟩
     . rw[hl] at h0;cases h0
     . rw[hl] at hl';obtain rfl:=Option.some.inj hl'
       exact .inr ⟨fresh _ hm,cur,_,_,hh⟩
    |_=>cases hk
 have h1:=(topA_ok hM1 lies hv1 hb1).eqv he1
 have h2:TopAL z' z' w' as0 (denL ρ1 xs):=TopAL.mono zsub h1
 obtain⟨ρ',f1,f2,f3,f4,f5⟩:=namA_ok (B:=B) (z:=true) (zz:=z') (fun k hk=>hk) as0 _ ⟨ρ.loc,z'⟩ M.length rfl h2
 have fo:∀ (k:Nat) (b:Blk),(namA true M.length as0).2[k]? = some b→b.isOwn=false:=fun k b hb=>(f4 k b hb).2
 refine⟨ρ',_,rfl,fun _=>outA_den f3.symm hlen,⟨fun k hk=>f2 k hk,fun k hk=>by rw[f1];exact .inl hk,fun k hk=>by rw[f1] at hk;exact hk.imp_right (·.1)⟩,hbel,⟨fun k b hb=>(f4 k b hb).1,fun k b l hb ho=>(by rw[fo k b hb] at ho;cases ho),fun i j b c l k _ h1 _ o1=>(by rw[fo i b h1] at o1;cases o1),fun k b l hb ho=>(by rw[fo k b hb] at ho;cases ho),fun k hk => ?_,fun k hk hl => ?_⟩⟩
 . rw[f1] at hk
   rcases hk with hk | ⟨_,cur,ty,fz,hh⟩
   . exact Nat.lt_of_lt_of_le (hM.zhi k hk).1 hbel.size
   . exact(Array.getElem?_eq_some_iff.1 hh).1
 . rw[f1] at hk
   rcases hk with hk | ⟨_,hc⟩
   . have:=(hM.zhi k hk).1;omega
   . exact hc
theorem bctr_top (hΓ:EnvOk P G Γ)(hf:P.funcs[f]? = some fn)(hb:fn.body.isSome=true)(hm:Okay P)(T:Tbl)(hT:codeOk T (bodyOf fn)=true)(n:Nat)
  {rest:List SV} {M:List Blk} {k:Nat} {ty:TypeId} {sz m:Nat} {g0:Nat→List FV} (g:Nat→List FV) (sv0:SV) (nb0:List Blk) {sv:SV} {M':List Blk} (hk:M[k]? = some (.own ty sz m g0)) (hg0:∀ i,i<m→g i=g0 i)
  {c:Bool} {av:List AV} (av':List AV) {args0:List SV} {V:List Blk} (hv:topA eltB (M.set k .dead) rest=some (c,av)) (hc:c=true) (he:AVEqL av av') (h0:namA false 1 av'=(args0,V))
  (hsv:sv=shS M.length sv0) (hnb:M'=M.set k .dead++nb0.map (shB M.length)) (ho:nb0.all ownM=true) (hok:okSt [sv0] nb0=true)
  (h:run P Γ n T 0 (bodyOf fn) (initF fn (.sl 0 sz 0 m::args0)) (.own ty sz m g::V) (retK P fn (Tells sv0 nb0))):
  ∀ (B:Bd) (ρ:Val) (w:World),(∀ w',Kept B w w'→G w')→M.all (Blk.sc fun n=>decide (n<M.length))=true→MRel B ρ M w→Calls P f (denL ρ (.sl k sz 0 m::rest)).toArray w fun e w'=>
    ∃ (ρ':Val) (v:Value),e = .returned v∧(sv ≠ .junk→v=sv.den ρ')∧(∀ n,n<M.length→ρ' n=ρ n)∧Kept B w w'∧MRel B ρ' M' w':=by
 have hlen:(namA false 1 av').2=V:=by rw[h0]
 have h5:okSt (.sl 0 sz 0 m::args0) (.own ty sz m g::V)=true:=by
  simp only[okSt,Bool.and_eq_true,scL,SV.sc]
  refine⟨⟨by simp,?_⟩,?_⟩
  . have:=namA_sc (z:=false) av' 1
    rw[h0] at this
    exact scL_mono (fun n hn=>by simp only[decide_eq_true_eq,List.length_cons] at hn ⊢;omega) _ this
  . simp only[scAll,List.all_eq_true]
    intro b hb
    rcases List.mem_cons.1 hb with rfl|hb
    . rfl
    . exact namA_bsc av' 1 b (by rw[h0];exact hb)
 refine bctr_core hΓ hf hb hm T hT n (.sl 0 sz 0 m::args0) V sv0 nb0 hk hg0 h5 (fun B ρ w hM bmay zm others => ?_) hsv hnb ho hok h
 have hMd:MRel B ρ (M.set k .dead) w:=by
  refine⟨hM.size,fun i b hb => ?_,fun i j b c l l' hne h1 h2 o1 o2 e1 e2 => ?_,hM.zb,hM.zlo,hM.zhi,fun i b l hb ho hl => ?_,hM.zc⟩
  . rw[List.getElem?_set] at hb
    split at hb
    . split at hb
      . obtain rfl:=Option.some.inj hb;trivial
      . cases hb
    . exact hM.ok i b hb
  . rw[List.getElem?_set] at h1 h2
    split at h1
    . split at h1
      . obtain rfl:=Option.some.inj h1;cases o1
      . cases h1
    . split at h2
      . split at h2
        . obtain rfl:=Option.some.inj h2;cases o2
        . cases h2
      . exact hM.apart i j b c l l' hne h1 h2 o1 o2 e1 e2
  . rw[List.getElem?_set] at hb
    split at hb
    . split at hb
      . obtain rfl:=Option.some.inj hb;cases ho
      . cases hb
    . exact hM.zown i b l hb ho hl
 let B':Bd:=⟨w.heap.size,(ρ k).toList.map (·.blk),ρ.z⟩
 have lies:Lies eltB (fun j => ¬ B'.may j) ρ (M.set k .dead):=by
  refine⟨fun _ _ h=>h,fun i b l hb hl ⟨sz,m,g,he,hp⟩ hm => ?_⟩
  rw[List.getElem?_set] at hb
  split at hb
  . split at hb
    . obtain rfl:=Option.some.inj hb;cases he
    . cases hb
  . rename_i hne
    cases b with
    |own ty' sz' m' g'=>exact others i _ l (Ne.symm hne) hb rfl hl hm
    |ro sz' m' g'=>
     simp only[eltB,Option.some.injEq,Prod.mk.injEq] at he
     obtain⟨rfl,rfl,rfl⟩:=he
     obtain⟨q,hr,ho'⟩:=hM.ok i _ hb
     exact(ho'.2 l hl).2.1 hp (bmay _ hm)
    |fz sz' m' g'=>
     simp only[eltB,Option.some.injEq,Prod.mk.injEq] at he
     obtain⟨rfl,rfl,rfl⟩:=he
     obtain⟨q,hr,ho'⟩:=hM.ok i _ hb
     exact zm _ ((ho'.2 l hl).2.1 hp) hm
    |_=>cases he
 have h1:=(topA_ok hMd lies hv hc).eqv he
 obtain⟨ρ0,e1,e2,e3,e4,_⟩:=namA_ok (B:=B') (z:=false) (zz:=ρ.z) (fun j hj=>hj) av' _ ⟨fun i=>if i=0 then ρ k else none,ρ.z⟩ 1 rfl h1
 rw[h0] at e3 e4
 have h00:ρ0 0=ρ k:=by rw[e2 0 (by omega)];rfl
 refine⟨ρ0,e1,h00,?_,fun i b hb => ?_⟩
 . simp only[denL,e3,SV.den,h00]
 . have:=e4 i b hb
   rw[Nat.add_comm] at this
   exact⟨this.2,this.1⟩
theorem bctr_nil (hΓ:EnvOk P G Γ)(hf:P.funcs[f]? = some fn)(hb:fn.body.isSome=true)(hm:Okay P)(T:Tbl)(hT:codeOk T (bodyOf fn)=true)(n:Nat)
  {rest:List SV} {M:List Blk} {ty:TypeId} {sz:Nat} (g:Nat→List FV) (sv0:SV) (nb0:List Blk) {sv:SV} {M':List Blk}
  {c:Bool} {av:List AV} (av':List AV) {args0:List SV} {V:List Blk} (hv:topA eltB M rest=some (c,av)) (hc:c=true) (he:AVEqL av av') (h0:namA false 1 av'=(args0,V))
  (hsv:sv=shS M.length sv0) (hnb:M'=M++nb0.map (shB M.length)) (ho:nb0.all ownM=true) (hok:okSt [sv0] nb0=true)
  (h:run P Γ n T 0 (bodyOf fn) (initF fn (.sl 0 sz 0 0::args0)) (.own ty sz 0 g::V) (retK P fn (Tells sv0 nb0))):
  ∀ (B:Bd) (ρ:Val) (w:World),(∀ w',Kept B w w'→G w')→M.all (Blk.sc fun n=>decide (n<M.length))=true→MRel B ρ M w→Calls P f (denL ρ (.val (.slice none 0 0)::rest)).toArray w fun e w'=>
    ∃ (ρ':Val) (v:Value),e = .returned v∧(sv ≠ .junk→v=sv.den ρ')∧(∀ n,n<M.length→ρ' n=ρ n)∧Kept B w w'∧MRel B ρ' M' w':=by
 intro B ρ w hG hwf hM
 have h5:okSt (.sl 0 sz 0 0::args0) (.own ty sz 0 g::V)=true:=by
  simp only[okSt,Bool.and_eq_true,scL,SV.sc]
  refine⟨⟨by simp,?_⟩,?_⟩
  . have:=namA_sc (z:=false) av' 1
    rw[h0] at this
    exact scL_mono (fun n hn=>by simp only[decide_eq_true_eq,List.length_cons] at hn ⊢;omega) _ this
  . simp only[scAll,List.all_eq_true]
    intro b hb
    rcases List.mem_cons.1 hb with rfl|hb
    . rfl
    . exact namA_bsc av' 1 b (by rw[h0];exact hb)
 have h1:=(topA_ok hM (lies_all hM) hv hc).eqv he
 let B':Bd:=⟨w.heap.size,[],ρ.z⟩
 have hfit:Fits B' (fun k=>k<w.heap.size) ρ.z false:=fun k hk hm=>hm.elim (fun h=>by cases h) fun h=>by
  have h:w.heap.size≤k:=h
  omega
 obtain⟨ρ0,e1,e2,e3,e4,_⟩:=namA_ok (B:=B') hfit av' _ ⟨fun _=>none,ρ.z⟩ 1 rfl h1
 rw[h0] at e3 e4
 have h00:ρ0 0=none:=by rw[e2 0 (by omega)]
 have hM0:MRel B' ρ0 (.own ty sz 0 g::V) w:=by
  refine⟨Nat.le_refl _,fun i b hb => ?_,fun i j b d l l' hne hb1 hb2 o1 o2 => ?_,zlt_sub hM,fun j hj=>by rw[e1];exact hj,fun j hj=>by rw[e1] at hj;exact⟨(hM.zhi j hj).1,.inl hj⟩,fun i b l hb ho' hl hz => ?_,fun j hj=>by rw[e1] at hj;exact .inl hj⟩
  . cases i with
    |zero=>
     simp only[List.getElem?_cons_zero,Option.some.injEq] at hb
     subst hb
     exact⟨fun _=>[],fun i hi=>absurd hi (Nat.not_lt_zero i),fun i hi=>absurd hi (Nat.not_lt_zero i),.inl ⟨h00,rfl⟩⟩
    |succ i=>
     have:=(e4 i b (by simpa using hb)).1
     rwa [Nat.add_comm] at this
  . cases i with
    |zero=>cases j with
     |zero=>exact absurd rfl hne
     |succ j=>rw[(e4 j d (by simpa using hb2)).2] at o2;cases o2
    |succ i=>rw[(e4 i b (by simpa using hb1)).2] at o1;cases o1
  . cases i with
    |zero=>rw[show ρ0 0=none from h00] at hl;cases hl
    |succ i=>rw[(e4 i b (by simpa using hb)).2] at ho';cases ho'
 have hrun:=calls_run_at hΓ hf hb hm T hT n (B:=B') (M0:=.own ty sz 0 g::V) (ρ0:=ρ0) (args:=.sl 0 sz 0 0::args0) (fun w' hw=>hG w' (Kept.of_below hM.size (hw.below rfl))) h5 hM0 h
 have hden:denL ρ0 (.sl 0 sz 0 0::args0)=denL ρ (.val (.slice none 0 0)::rest):=by
  simp only[denL,e3,SV.den,h00,Option.map_none,Option.getD_none,Nat.zero_sub]
 rw[hden] at hrun
 refine hrun.mono ?_
 rintro e w' ⟨ρ1,x,M1,rfl,hx,hM1,hw⟩
 obtain⟨ρ',t1,t2,t3⟩:=tells_new hM hx hM1 ho hok
 have hbel:Below w.heap.size w w':=hw.below rfl
 have t2':Val.Ext w.heap.size (fun n=>n<M.length) ρ ρ':=t2.mono (fun n hn=>by omega) (Nat.le_refl _)
 subst hsv hnb
 exact⟨ρ',_,rfl,fun _=>t1,t2'.eq,Kept.of_below hM.size hbel,hM.grown hwf t2' hbel t3⟩
theorem ctr_topg (hG:Stable G)(hΓ:EnvOk P G Γ)(hf:P.funcs[f]? = some fn)(hb:fn.body.isSome=true)(hm:Okay P)(T:Tbl)(hT:codeOk T (bodyOf fn)=true)(n:Nat)
  {args:List SV} {M:List Blk} {c:Bool} {av:List AV} (av':List AV) {args0:List SV} {M0:List Blk} (hv:topA eltB M args=some (c,av)) (hc:c=true) (he:AVEqL av av') (h0:namA false 0 av'=(args0,M0)) (sv0:SV) (nb0:List Blk) {sv:SV} {nb:List Blk} (hsv:sv=shS M.length sv0) (hnb:nb=nb0.map (shB M.length)) (ho:nb0.all ownM=true) (hok:okSt [sv0] nb0=true)
  (h:run P Γ n T 0 (bodyOf fn) (initF fn args0) M0 (retK P fn (Tells sv0 nb0))):
  ∀ (B:Bd) (ρ:Val) (w:World),G w→MRel B ρ M w→Calls P f (denL ρ args).toArray w fun e w'=>
    ∃ (ρ':Val) (v:Value),e = .returned v∧(sv ≠ .junk→v=sv.den ρ')∧Val.Ext w.heap.size (fun n => ¬ (M.length≤n∧n<M.length+nb.length)) ρ ρ'∧Below w.heap.size w w'∧New B w.heap.size ρ' M.length nb w':=by
 intro B ρ w hGw hM
 obtain⟨ρ0,e1,e2,e3,e4⟩:=enter_top hM hv hc he h0
 have hrun:=calls_run hG hΓ hf hb hm T hT n hGw e4 e3 h
 rw[e2] at hrun
 refine hrun.mono ?_
 rintro e w' ⟨ρ1,x,M1,rfl,hx,hM1,hbel⟩
 obtain⟨ρ',t1,t2,t3⟩:=tells_new hM hx hM1 ho hok
 subst hsv hnb
 exact⟨ρ',_,rfl,fun _=>t1,by simpa using t2,hbel,t3⟩
end
end Go.Sx
