import Derived.Test.YtfgkhenhlpoheaaGreatM08
import Derived.RangeFuncNested
set_option linter.all false
namespace Go.Sx
open Go.RowKit Go.Proofs.YtfgkhenhlpoheaaGreat
def itemLe:SV→SV→Prop
 | .arr n sz g,.arr n' sz' g'=>n=n'∧sz=sz'∧∀ i,i<n→g i=g' i
 |x,y=>x=y
def itemsLe:List SV→List SV→Prop
 |[],[]=>True
 |x::xs,y::ys=>itemLe x y∧itemsLe xs ys
 |_,_=>False
theorem arrL_congr {n sz:Nat}{g g':Nat→List FV}(h:∀ i,i<n→g i=g' i):arrL n sz g=arrL n sz g':=by
 unfold arrL
 rw[List.flatMap_def,List.flatMap_def]
 congr 1
 apply List.map_congr_left
 intro i hi
 simp only[List.mem_range] at hi
 rw[h i hi]
theorem itemLe_den {ρ:Val}{x y:SV}(h:itemLe x y):itemL x (x.den ρ)=itemL y (y.den ρ):=by
 unfold itemLe at h
 split at h
 . obtain⟨rfl,rfl,hg⟩:=h
   exact arrL_congr hg
 . rw[h]
theorem itemsLe_den {ρ:Val}:∀ {xs ys:List SV},itemsLe xs ys→mixL xs (denL ρ xs)=mixL ys (denL ρ ys)
 |[],[],_=>rfl
 |x::xs,y::ys,h=>by simp only[mixL,denL,itemLe_den h.1,itemsLe_den h.2]
 |[],_::_,h=>h.elim
 |_::_,[],h=>h.elim
def BLe (b:Blk):Blk→Prop
 | .dead=>True
 | .cells ty xs=>b = .cells ty xs
 | .rc ty xs=>b = .rc ty xs
 | .map es=>b = .map es
 | .mix ty xs=>match b with
   | .mix ty' xs'=>ty=ty'∧itemsLe xs' xs
   |_=>False
 | .lp T fe ps asg bd st=>b = .lp T fe ps asg bd st
 | .fm n h=>match b with
   | .fm n' h'=>n=n'∧∀ k,k.length=n→h' k=h k
   | .map []=>∀ k,k.length=n→h k=none
   |_=>False
 | .own ty sz m g=>match b with
   | .own ty' sz' m' g'=>ty=ty'∧sz=sz'∧m=m'∧∀ i,i<m→FVEqL (g' i) (g i)
   |_=>False
 | .ro sz m g=>match b with
   | .ro sz' m' g'=>sz=sz'∧m=m'∧∀ i,i<m→FVEqL (g' i) (g i)
   |_=>False
 | .fz sz m g=>match b with
   | .fz sz' m' g'=>sz=sz'∧m=m'∧∀ i,i<m→FVEqL (g' i) (g i)
   | .own _ sz' m' g'=>sz=sz'∧m=m'∧∀ i,i<m→FVEqL (g' i) (g i)
   |_=>False
def MLe:List Blk→List Blk→Prop
 |_,[]=>True
 |b::M,c::N=>BLe b c∧MLe M N
 |[],_::_=>False
def pickF (F:List SV):List Nat→List SV
 |[]=>[]
 |s::l=>(match nth F s with
  |some x=>x
  |none=>.junk)::pickF F l
def junkF:Nat→List SV
 |0=>[]
 |n+1=>.junk::junkF n
def spreadF (F:List SV):List Nat→List SV→List SV
 |s::l,x::xs=>spreadF (setNth F s x) l xs
 |_,_=>F
def liftF:List (Nat×TypeId×Nat)→List SV→List Blk→Option (List SV×List Blk)
 |[],F,M=>some (F,M)
 |(s,ty,sz)::l,F,M=>match nth F s with
  |some (.val (.slice none 0 0))=>liftF l (setNth F s (.sl M.length sz 0 0)) (M++[.own ty sz 0 (fun _=>[])])
  |_=>none
def okSt (F:List SV)(M:List Blk):Bool:=scL (fun n=>decide (n<M.length)) F&&scAll M.length M
def idxN:List Nat→Nat→Option Nat
 |[],_=>none
 |m::l,n=>match Nat.beq m n with
  |true=>some 0
  |false=>match idxN l n with
   |some i=>some (i+1)
   |none=>none
theorem idxN_nth:∀ {σ:List Nat} {n i:Nat},idxN σ n=some i→σ[i]? = some n
 |[],_,_,h=>by cases h
 |m::l,n,i,h=>by
  simp only[idxN] at h
  split at h
  . rename_i hb
    obtain rfl:=Option.some.inj h
    simp[Nat.eq_of_beq_eq_true hb]
  . split at h
    . rename_i j hj
      obtain rfl:=Option.some.inj h
      simpa using idxN_nth hj
    . cases h
mutual
def renS (σ:List Nat):SV→Option SV
 | .agg xs=>match renL σ xs with
   |some ys=>some (.agg ys)
   |none=>none
 | .tup xs=>match renL σ xs with
   |some ys=>some (.tup ys)
   |none=>none
 | .ptr n off=>match idxN σ n with
   |some m=>some (.ptr m off)
   |none=>none
 | .ep n i sz j=>match idxN σ n with
   |some m=>some (.ep m i sz j)
   |none=>none
 | .sl n sz off len=>match idxN σ n with
   |some m=>some (.sl m sz off len)
   |none=>none
 | .mp n=>match idxN σ n with
   |some m=>some (.mp m)
   |none=>none
 | .yld n=>match idxN σ n with
   |some m=>some (.yld m)
   |none=>none
 | .fn f a b=>match renL σ a,renL σ b with
   |some a',some b'=>some (.fn f a' b')
   |_,_=>none
 | .junk=>some .junk
 | .nilb n=>match idxN σ n with
   |some m=>some (.nilb m)
   |none=>none
 | .mix xs=>match renL σ xs with
   |some ys=>some (.mix ys)
   |none=>none
 | .arr n sz g=>some (.arr n sz g)
 | .val v=>some (.val v)
 | .tt=>some .tt
 | .ff=>some .ff
 | .bool b=>some (.bool b)
 | .int k n=>some (.int k n)
 | .u64 x=>some (.u64 x)
def renL (σ:List Nat):List SV→Option (List SV)
 |[]=>some []
 |x::l=>match renS σ x,renL σ l with
  |some y,some m=>some (y::m)
  |_,_=>none
end
def renρ (σ:List Nat)(ρ:Val):Val:=⟨fun i=>match σ[i]? with
 |some n=>ρ n
 |none=>none,ρ.z⟩
theorem renρ_idx {σ:List Nat}{ρ:Val}{n i:Nat}(h:idxN σ n=some i):renρ σ ρ i=ρ n:=by simp[renρ,idxN_nth h]
theorem renS_item {σ:List Nat}{x y:SV}(h:renS σ x=some y)(v:Value):itemL y v=itemL x v:=by
 cases x<;>simp only[renS] at h<;>first | (rw[← Option.some.inj h];done) | (rw[← Option.some.inj h];rfl) | (split at h<;>first | (cases h;done) | (rw[← Option.some.inj h];rfl))
theorem renL_mix {σ:List Nat}:∀ {l m:List SV},renL σ l=some m→∀ vs,mixL m vs=mixL l vs
 |[],m,h,vs=>by rw[← Option.some.inj h]
 |x::l,m,h,vs=>by
  simp only[renL] at h
  split at h
  . rename_i y m' h1 h2
    rw[← Option.some.inj h]
    cases vs with
    |nil=>rfl
    |cons v vs=>simp only[mixL,renS_item h1,renL_mix h2]
  . cases h
mutual
theorem renS_den {σ:List Nat}{ρ:Val}:∀ {x y:SV},renS σ x=some y→y.den (renρ σ ρ)=x.den ρ∧(x = .junk↔y = .junk)
 | .agg xs,y,h=>by
   simp only[renS] at h
   split at h
   . rename_i ys hys;rw[← Option.some.inj h];simp only[SV.den,renL_den hys];simp
   . cases h
 | .tup xs,y,h=>by
   simp only[renS] at h
   split at h
   . rename_i ys hys;rw[← Option.some.inj h];simp only[SV.den,renL_den hys];simp
   . cases h
 | .ptr n off,y,h=>by
   simp only[renS] at h
   split at h
   . rename_i m hm;rw[← Option.some.inj h];simp only[SV.den,renρ_idx hm];simp
   . cases h
 | .ep n i sz j,y,h=>by
   simp only[renS] at h
   split at h
   . rename_i m hm;rw[← Option.some.inj h];simp only[SV.den,renρ_idx hm];simp
   . cases h
 | .sl n sz off len,y,h=>by
   simp only[renS] at h
   split at h
   . rename_i m hm;rw[← Option.some.inj h];simp only[SV.den,renρ_idx hm];simp
   . cases h
 | .mp n,y,h=>by
   simp only[renS] at h
   split at h
   . rename_i m hm;rw[← Option.some.inj h];simp only[SV.den,renρ_idx hm];simp
   . cases h
 | .yld n,y,h=>by
   simp only[renS] at h
   split at h
   . rename_i m hm;rw[← Option.some.inj h];simp only[SV.den,renρ_idx hm];simp
   . cases h
 | .fn f a b,y,h=>by
   simp only[renS] at h
   split at h
   . rename_i a' b' h1 h2;rw[← Option.some.inj h];simp only[SV.den,renL_den h1,renL_den h2];simp
   . cases h
 | .nilb n,y,h=>by
   simp only[renS] at h
   split at h
   . rename_i m hm;rw[← Option.some.inj h];simp only[SV.den,renρ_idx hm];simp
   . cases h
 | .mix xs,y,h=>by
   simp only[renS] at h
   split at h
   . rename_i ys hys;rw[← Option.some.inj h];simp only[SV.den,renL_den hys,renL_mix hys];simp
   . cases h
 | .arr n sz g,y,h=>by rw[← Option.some.inj h];exact⟨rfl,Iff.rfl⟩
 | .junk,y,h=>by rw[← Option.some.inj h];exact⟨rfl,Iff.rfl⟩
 | .val v,y,h=>by rw[← Option.some.inj h];exact⟨rfl,Iff.rfl⟩
 | .tt,y,h=>by rw[← Option.some.inj h];exact⟨rfl,Iff.rfl⟩
 | .ff,y,h=>by rw[← Option.some.inj h];exact⟨rfl,Iff.rfl⟩
 | .bool b,y,h=>by rw[← Option.some.inj h];exact⟨rfl,Iff.rfl⟩
 | .int k n,y,h=>by rw[← Option.some.inj h];exact⟨rfl,Iff.rfl⟩
 | .u64 x,y,h=>by rw[← Option.some.inj h];exact⟨rfl,Iff.rfl⟩
theorem renL_den {σ:List Nat}{ρ:Val}:∀ {l m:List SV},renL σ l=some m→denL (renρ σ ρ) m=denL ρ l
 |[],m,h=>by rw[← Option.some.inj h];rfl
 |x::l,m,h=>by
  simp only[renL] at h
  split at h
  . rename_i y m' h1 h2;rw[← Option.some.inj h];simp only[denL,(renS_den h1).1,renL_den h2]
  . cases h
end
def renF (σ:List Nat)(x:SV):SV:=match renS σ x with
 |some y=>y
 |none=>.junk
def renFL (σ:List Nat):List SV→List SV
 |[]=>[]
 |x::l=>renF σ x::renFL σ l
theorem renFL_eq (σ:List Nat):∀ l,renFL σ l=l.map (renF σ)
 |[]=>rfl
 |x::l=>by simp[renFL,renFL_eq σ l]
theorem renF_den {σ:List Nat}{ρ:Val}{x:SV}(h:renF σ x ≠ .junk):x ≠ .junk∧(renF σ x).den (renρ σ ρ)=x.den ρ:=by
 unfold renF at h ⊢
 cases hx:renS σ x with
 |none=>rw[hx] at h;exact absurd rfl h
 |some y=>
  rw[hx] at h
  have:=renS_den (ρ:=ρ) hx
  exact⟨fun e=>h (this.2.1 e),this.1⟩
def renE (σ:List Nat):List (SV×SV)→Option (List (SV×SV))
 |[]=>some []
 |(k,v)::l=>match renS σ k,renS σ v,renE σ l with
  |some k',some v',some m=>some ((k',v')::m)
  |_,_,_=>none
theorem renE_den {σ:List Nat}{ρ:Val}:∀ {l m:List (SV×SV)},renE σ l=some m→esD (renρ σ ρ) m=esD ρ l
 |[],m,h=>by rw[← Option.some.inj h];rfl
 |(k,v)::l,m,h=>by
  simp only[renE] at h
  split at h
  . rename_i k' v' m' h1 h2 h3
    rw[← Option.some.inj h]
    have:=renE_den (ρ:=ρ) h3
    simp only[esD,List.map_cons,(renS_den h1).1,(renS_den h2).1] at this ⊢
    rw[this]
  . cases h
def renB (σ:List Nat):Blk→Blk
 | .cells ty xs=>match renL σ xs with
   |some ys=>.cells ty ys
   |none=>.dead
 | .rc ty xs=>match renL σ xs with
   |some ys=>.rc ty ys
   |none=>.dead
 | .map es=>match renE σ es with
   |some es'=>.map es'
   |none=>.dead
 | .lp T fe ps asg bd st=>.lp T (renFL σ fe) ps asg bd st
 | .mix ty xs=>match renL σ xs with
   |some ys=>.mix ty ys
   |none=>.dead
 | .dead=>.dead
 | .fm n h=>.fm n h
 | .ro sz m g=>.ro sz m g
 | .fz sz m g=>.fz sz m g
 | .own ty sz m g=>.own ty sz m g
def renMs (M:List Blk)(τ:List Nat):List Nat→List Blk
 |[]=>[]
 |i::l=>(match nth M i with
  |some b=>renB τ b
  |none=>.dead)::renMs M τ l
theorem renMs_get (M:List Blk)(τ:List Nat):∀ (σ:List Nat) (i:Nat) (c:Blk),(renMs M τ σ)[i]? = some c→∃ n,σ[i]? = some n∧((∃ b,M[n]? = some b∧c=renB τ b)∨c = .dead)
 |[],i,c,h=>by simp[renMs] at h
 |n::σ,0,c,h=>by
  simp only[renMs,List.getElem?_cons_zero,Option.some.injEq] at h
  refine⟨n,rfl,?_⟩
  split at h
  . rename_i b hb;rw[nth_eq] at hb;exact .inl ⟨b,hb,h.symm⟩
  . exact .inr h.symm
 |n::σ,i+1,c,h=>by
  simp only[renMs,List.getElem?_cons_succ] at h ⊢
  exact renMs_get M τ σ i c h
def nodN:List Nat→Bool
 |[]=>true
 |n::l => !(memN n l)&&nodN l
theorem memN_iff {n:Nat}:∀ {l:List Nat},memN n l=true↔n∈l
 |[]=>by simp[memN]
 |m::l=>by simp[memN,memN_iff (l:=l)]
theorem nodN_iff:∀ {l:List Nat},nodN l=true→l.Nodup
 |[],_=>List.nodup_nil
 |n::l,h=>by
  simp only[nodN,Bool.and_eq_true,Bool.not_eq_true'] at h
  refine List.nodup_cons.2 ⟨fun hm => ?_,nodN_iff h.2⟩
  rw[memN_iff.2 hm] at h;cases h.1
def preN:Nat→Nat→List Nat→Bool
 |0,_,_=>true
 |z+1,i,m::l=>Nat.beq m i&&preN z (i+1) l
 |_+1,_,[]=>false
theorem preN_get:∀ {z i:Nat} {σ:List Nat},preN z i σ=true→∀ k,k<z→σ[k]? = some (i+k)
 |0,_,_,_,k,hk=>by omega
 |z+1,i,[],h,_,_=>by simp[preN] at h
 |z+1,i,m::l,h,k,hk=>by
  simp only[preN,Bool.and_eq_true] at h
  cases k with
  |zero=>simp[Nat.eq_of_beq_eq_true h.1]
  |succ k=>
   have:=preN_get h.2 k (by omega)
   simp only[List.getElem?_cons_succ,this]
   congr 1;omega
theorem Blk.ok_ren {B:Bd}{ρ:Val}{σ:List Nat}{n i:Nat}{w:World}(hn:σ[i]? = some n){b:Blk}(hb:b.ok B ρ n w):(renB σ b).ok B (renρ σ ρ) i w:=by
 have e:renρ σ ρ i=ρ n:=by simp[renρ,hn]
 cases b with
 |dead=>trivial
 |ro sz m g=>obtain⟨q,hr,ho⟩:=hb;exact⟨q,hr,ho.congr e fun _ h=>h⟩
 |fz sz m g=>obtain⟨q,hr,ho⟩:=hb;exact⟨q,hr,ho.congr e fun _ h=>h⟩
 |own ty sz m g=>obtain⟨q,hr,ho⟩:=hb;exact⟨q,hr,ho.congr e⟩
 |cells ty xs=>
  simp only[renB]
  cases h:renL σ xs with
  |none=>trivial
  |some ys=>simp only[Blk.ok,e,renL_den h] at hb ⊢;exact hb
 |rc ty xs=>
  simp only[renB]
  cases h:renL σ xs with
  |none=>trivial
  |some ys=>simp only[Blk.ok,e,renL_den h] at hb ⊢;exact hb
 |mix ty xs=>
  simp only[renB]
  cases h:renL σ xs with
  |none=>trivial
  |some ys=>simp only[Blk.ok,e,renL_den h,renL_mix h] at hb ⊢;exact hb
 |map es=>
  simp only[renB]
  cases h:renE σ es with
  |none=>trivial
  |some es'=>
   obtain⟨l,arr,cnt,h1,h2,h3,h4⟩:=hb
   exact⟨l,arr,cnt,by rw[e];exact h1,h2,h3,by rw[renE_den h];exact h4.perm,by rw[renE_den h];exact h4.nodup⟩
 |fm m q=>
  obtain⟨l,arr,cnt,h1,h2,h3,h4⟩:=hb
  exact⟨l,arr,cnt,by rw[e];exact h1,h2,h3,h4⟩
 |lp T fe ps asg bd st=>
  obtain⟨l,r,h1,h2,h3,h4⟩:=hb
  refine⟨l,r,by rw[e];exact h1,h2,h3,h4.okA,h4.okB,h4.params,h4.assign,h4.body,by rw[h4.size,renFL_eq,List.length_map],fun s x hs hx => ?_,h4.state,h4.pending,h4.known⟩
  rw[renFL_eq,List.getElem?_map] at hs
  cases hq:fe[s]? with
  |none=>rw[hq] at hs;cases hs
  |some y=>
   rw[hq] at hs
   simp only[Option.map_some,Option.some.injEq] at hs
   subst hs
   obtain⟨g1,g2⟩:=renF_den (ρ:=ρ) hx
   rw[g2];exact h4.slot s y hq g1
theorem renB_own {σ:List Nat}{b:Blk}(h:(renB σ b).isOwn=true):b.isOwn=true:=by
 cases b with
 |dead=>cases h
 |ro=>cases h
 |fz=>cases h
 |rc ty xs=>
  simp only[renB] at h
  split at h<;>cases h
 |_=>rfl
theorem MRel.ren {B:Bd}{ρ:Val}{M:List Blk}{w:World}{σ:List Nat}(h:MRel B ρ M w)(hn:σ.Nodup):MRel B (renρ σ ρ) (renMs M σ σ) w:=by
 refine⟨h.size,fun i c hc => ?_,fun i j c c' l k hne h1 h2 o1 o2 e1 e2 => ?_,h.zb,h.zlo,h.zhi,fun i c l hc ho hl => ?_,h.zc⟩
 . obtain⟨n,hσ,⟨b,hb,rfl⟩|rfl⟩:=renMs_get M σ σ i c hc
   . exact Blk.ok_ren hσ (h.ok n b hb)
   . trivial
 . obtain⟨n,hσ,⟨b,hb,rfl⟩|rfl⟩:=renMs_get M σ σ i c h1
   . obtain⟨m,hσ',⟨b',hb',rfl⟩|rfl⟩:=renMs_get M σ σ j c' h2
     . have hnm:n≠m:=fun e=>by
        subst e
        have h1:=(List.getElem?_eq_some_iff.1 hσ).1
        have h2:=(List.getElem?_eq_some_iff.1 hσ').1
        exact hne ((List.getElem?_inj h1 hn).1 (hσ.trans hσ'.symm))
       have q1:ρ n=some l:=by simpa [renρ,hσ] using e1
       have q2:ρ m=some k:=by simpa [renρ,hσ'] using e2
       exact h.apart n m b b' l k hnm hb hb' (renB_own o1) (renB_own o2) q1 q2
     . cases o2
   . cases o1
 . obtain⟨n,hσ,⟨b,hb,rfl⟩|rfl⟩:=renMs_get M σ σ i c hc
   . exact h.zown n b l hb (renB_own ho) (by simpa [renρ,hσ] using hl)
   . cases ho
def retOne (P:Program)(F:List SV)(M:List Blk):ResultVar→Option SV
 | .tmp t=>match nth F t with
   |some x=>match x.nj with
    |true=>some x
    |false=>none
   |none=>none
 | .cell a t=>match nth F a with
   |some (.ptr n off)=>match celB (nth M n) with
    |some xs=>partS P t xs off
    |none=>match mixB (nth M n) with
     |some xs=>partM P t xs off
     |none=>none
   |_=>none
def retL (P:Program)(F:List SV)(M:List Blk):List ResultVar→Option (List SV)
 |[]=>some []
 |r::l=>match retOne P F M r,retL P F M l with
  |some x,some xs=>some (x::xs)
  |_,_=>none
def retS (P:Program)(fn:Func)(F:List SV)(M:List Blk):Option SV:=match retL P F M fn.results.toList with
 |some [x]=>some x
 |some xs=>some (.tup xs)
 |none=>none
def undefs:Nat→List SV
 |0=>[]
 |n+1=>.tup []::undefs n
def initF (fn:Func)(args:List SV):List SV:=args++undefs (fn.ntmps-args.length)
def setPs:List SV→List Nat→List SV→Option (List SV)
 |F,[],[]=>some F
 |F,p::ps,x::xs=>setPs (setNth F p x) ps xs
 |_,_,_=>none
abbrev RunT:=Tbl→Nat→Code→List SV→List Blk→(X→List SV→List Blk→Prop)→Prop
def yieldY (P:Program)(Γ:Env)(ih:RunT):YH:=fun f args M K=>match f with
 | .yld n=>match nth M n with
   |some (.lp T fe ps asg bd .ready)=>match setPs fe ps.toList args with
    |some fe'=>spine fe' fun fe'=>ih T M.length asg fe' M fun e F1 M1=>match e with
     | .normal=>match nth M1 n with
       |some (.lp T2 fe2 ps2 asg2 bd2 .ready)=>spine (M1.set n (.lp T2 fe2 ps2 asg2 bd2 .busy)) fun M2=>ih T M.length bd F1 M2 fun e M3F M3=>match nth M3 n with
        |some (.lp T4 fe4 ps4 asg4 bd4 .busy)=>match e with
         | .normal=>spine (M3.set n (.lp T4 fe4 ps4 asg4 bd4 .ready)) (K none .tt)
         | .ret=>spine (M3.set n (.lp T4 fe4 ps4 asg4 bd4 (.done .ret))) (K none .ff)
         | .exit id=>spine (M3.set n (.lp T4 fe4 ps4 asg4 bd4 (.done (.exit id)))) (K none .ff)
         | .panic v=>K (some v) .junk M3
        |_=>False
       |_=>False
     |_=>False
    |none=>False
   |_=>False
 | .fn (.func g) fst cap=>match findX Γ.ys g with
   |some c=>c (fst++args++cap) M K
   |none=>match findI Γ.iters g with
    |some (fn,T')=>ih T' M.length (bodyOf fn) (initF fn (fst++args++cap)) M fun e F' M'=>match e with
     | .exit _=>False
     | .panic v=>K (some v) .junk M'
     |_=>match retS P fn F' M' with
      |some sv=>K none sv M'
      |none=>False
    |none=>False
 |_=>False
def unrollN (ih:List SV→List Blk→(X→List SV→List Blk→Prop)→Prop)(K:X→List SV→List Blk→Prop)(m:Nat):List SV→List Blk→Prop:=
 Nat.rec (motive:=fun _=>List SV→List Blk→Prop) (fun _ _=>False) (fun _ next F M=>ih F M fun e F' M'=>match e with
    | .normal=>next F' M'
    |e=>K e F' M') m
def stepC (P:Program)(Γ:Env)(ih:RunT)(T:Tbl)(z:Nat)(c:Code)(F:List SV)(M:List Blk)(K:X→List SV→List Blk→Prop):Prop:=
 match c with
    | .skip=>K .normal F M
    | .label _=>K .normal F M
    | .seq a b=>ih T z a F M fun e F' M'=>match e with
      | .normal=>ih T z b F' M' K
      |e=>K e F' M'
    | .cond c x y=>match evS F c with
      | .tt=>ih T z x F M K
      | .ff=>ih T z y F M K
      | .bool b=>(b=true→ih T z x F M K)∧(b=false→ih T z y F M K)
      | .nilb _=>(True→ih T z x F M K)∧(True→ih T z y F M K)
      |_=>False
    | .block id c=>ih T z c F M fun e F' M'=>match e with
      | .exit id'=>match Nat.beq id' id with
        |true=>K .normal F' M'
        |false=>K (.exit id') F' M'
      |e=>K e F' M'
    | .exit id=>K (.exit id) F M
    | .ret=>K .ret F M
    | .region id ops draw=>match draw with
      |false=>runOps P Γ (yieldY P Γ ih) ops.toList (guardsOf ops.toList) ops.toList 0 F M fun p F' M'=>match p with
       |none=>K .normal F' M'
       |some v=>K (.panic v) F' M'
      |true=>match findT T id with
       |some (h,bs)=>match Nat.beq h 1000 with
        |true=>runTreeS P Γ (yieldY P Γ ih) ops.toList (guardsOf ops.toList) bs M ops.toList [] F M fun p F' M'=>match p with
         |none=>K .normal F' M'
         |some v=>K (.panic v) (junkF F'.length) M'
        |false=>runHead P Γ ops.toList (guardsOf ops.toList) bs M.length (ops.toList.take h) 0 F M [] fun F' M'=>runOps P Γ (yieldY P Γ ih) ops.toList (guardsOf ops.toList) (ops.toList.drop h) h F' M' fun p F' M'=>match p with
         |none=>K .normal F' M'
         |some _=>False
       |none=>runTree P Γ (yieldY P Γ ih) ops.toList (guardsOf ops.toList) ops.toList [] F M fun p F' M'=>match p with
        |none=>K .normal F' M'
        |some _=>False
    | .loop c=>(∃ m,unrollN (ih T z c) K m F M) ∨ ∃ (lift:List (Nat×TypeId×Nat)) (keep:List Nat) (I:Nat→List SV→List Blk→Prop),match liftF lift F M with
      |none=>False
      |some (F0,M0)=>(∃ (k:Nat) (M1:List Blk),MLe M0 M1∧Nat.ble z M1.length=true∧okSt (pickF F0 keep) M1=true∧I k (pickF F0 keep) M1)∧
       ∀ (k:Nat) (vals:List SV) (M1:List Blk),I k vals M1→ih T z c (spreadF (junkF F.length) keep vals) M1 fun e F' M'=>match e with
         | .normal=>∃ (k':Nat) (M2:List Blk) (σ:List Nat),k'<k∧(nodN σ&&preN z 0 σ)=true∧MLe (renMs M' σ σ) M2∧Nat.ble z M2.length=true∧okSt (renFL σ (pickF F' keep)) M2=true∧I k' (renFL σ (pickF F' keep)) M2
         |e=>K e F' M'
    | .rangeFunc g ps asg bd=>match evS F g with
      | .fn (.func f) fst cap=>match findI Γ.iters f with
        |some (fn,T')=>spine (M++[.lp T F ps asg bd .ready]) fun M1=>ih T' (M.length+1) (bodyOf fn) (initF fn (fst ++ .yld M.length::cap)) M1 fun e F' M'=>match e with
         | .exit _=>False
         | .panic v=>K (.panic v) F M'
         |_=>match retS P fn F' M' with
          |some _=>match nth M' M.length with
           |some (.lp _ _ _ _ _ .ready)=>spine (M'.set M.length .dead) (K .normal F)
           |some (.lp _ _ _ _ _ (.done x))=>match x with
            | .normal=>False
            | .panic _=>False
            |x=>spine (M'.set M.length .dead) (K x F)
           |_=>False
          |none=>False
        |none=>False
      |_=>False
    |_=>False
def run (P:Program)(Γ:Env)(n:Nat):RunT:=
 Nat.rec (motive:=fun _=>RunT) (fun _ _ _ _ _ _=>False) (fun _ ih=>stepC P Γ ih) n
theorem run_succ (P:Program)(Γ:Env)(n:Nat)(T:Tbl)(z:Nat)(c:Code)(F:List SV)(M:List Blk)(K:X→List SV→List Blk→Prop):run P Γ (n+1) T z c F M K=stepC P Γ (run P Γ n) T z c F M K:=rfl
section
variable {P:Program}{B:Bd}{w0:World}{L:LD}
def Blk.isFz:Blk→Bool
 | .fz .. => true
 |_=>false
theorem BLe.ok {ρ:Val}{n:Nat}{w:World}{b c:Blk}(h:BLe b c)(hb:b.ok B ρ n w)(hz:c.isFz=true→b.isOwn=true→∀ l,ρ n=some l→ρ.z l.blk):c.ok B ρ n w:=by
 cases c with
 |dead=>trivial
 |cells ty xs=>obtain rfl:b=_:=h;exact hb
 |rc ty xs=>obtain rfl:b=_:=h;exact hb
 |map es=>obtain rfl:b=_:=h;exact hb
 |lp T fe ps asg bd st=>obtain rfl:b=_:=h;exact hb
 |fm m q=>
  cases b with
  |fm m' q'=>
   obtain⟨rfl,hq⟩:=h
   obtain⟨l,arr,cnt,h1,h2,h3,h4⟩:=hb
   exact⟨l,arr,cnt,h1,h2,h3,fun e he=>by
        obtain⟨k,v,a1,a2,a3,a4⟩:=h4.each e he
        exact⟨k,v,a1,a2,a3,(hq k a1).symm.trans a4⟩,fun k v hl hv=>h4.all k v hl ((hq k hl).trans hv),h4.nodup⟩
  |map es=>
   cases es with
   |cons _ _=>exact h.elim
   |nil=>
    obtain⟨l,arr,cnt,h1,h2,h3,h4⟩:=hb
    have h0:arr.toList=[]:=by
       have:=h4.perm
       simpa [esD] using this
    exact⟨l,arr,cnt,h1,h2,h3,(fun e he=>by rw[h0] at he;cases he),(fun k v hl hv=>by rw[h k hl] at hv;cases hv),by rw[h0];simp⟩
  |_=>exact h.elim
 |mix ty xs=>
  cases b<;>try (exact h.elim)
  obtain⟨rfl,hi⟩:=h
  simp only[Blk.ok,itemsLe_den hi] at hb ⊢;exact hb
 |own ty sz m g=>
  cases b<;>try (exact h.elim)
  obtain⟨rfl,rfl,rfl,hg⟩:=h
  exact own_eqv hb hg
 |ro sz m g=>
  cases b<;>try (exact h.elim)
  obtain⟨rfl,rfl,hg⟩:=h
  obtain⟨q,hr,ho⟩:=hb
  exact⟨q,fun i hi=>(hr i hi).eqv (hg i hi),ho⟩
 |fz sz m g=>
  cases b<;>try (exact h.elim)
  . obtain⟨rfl,rfl,hg⟩:=h
    obtain⟨q,hr,ho⟩:=hb
    exact⟨q,fun i hi=>(hr i hi).eqv (hg i hi),ho⟩
  . obtain⟨rfl,rfl,hg⟩:=h
    obtain⟨q,hr,ho⟩:=hb
    refine⟨q,fun i hi=>(hr i hi).eqv (hg i hi),fun hn => ?_,fun l hl=>⟨?_,fun _=>hz rfl rfl l hl,fun i hi=>⟨ho.1 i hi,fun j x hx => ?_⟩⟩⟩
    . rcases ho.2 with⟨_,h0⟩ | ⟨l,cur,hl,_⟩
      . exact h0
      . rw[hn] at hl;cases hl
    . rcases ho.2 with⟨h0,_⟩ | ⟨l',cur,hl',_,_,_,hm,_⟩
      . rw[hl] at h0;cases h0
      . rw[hl] at hl';obtain rfl:=Option.some.inj hl';exact hm
    . obtain⟨l',hl',hc⟩:=ownOk_cell ho hi
      rw[hl] at hl';obtain rfl:=Option.some.inj hl'
      exact hc j x hx
theorem BLe.own {b c:Blk}(h:BLe b c)(hc:c.isOwn=true):b.isOwn=true:=by
 cases c with
 |dead=>cases hc
 |rc=>cases hc
 |ro=>cases hc
 |fz=>cases hc
 |cells ty xs=>obtain rfl:b=_:=h;rfl
 |mix ty xs=>
  cases b<;>first|rfl | (exact h.elim)
 |map es=>obtain rfl:b=_:=h;rfl
 |lp T fe ps asg bd st=>obtain rfl:b=_:=h;rfl
 |fm m q=>cases b<;>first|rfl | (exact h.elim)
 |own ty sz m g=>cases b<;>first|rfl|exact h.elim
theorem MLe.get:∀ {M N:List Blk} (h:MLe M N) (n:Nat) (c:Blk),N[n]? = some c→∃ b,M[n]? = some b∧BLe b c
 |_,[],_,n,c,hc=>by simp at hc
 |[],_::_,h,_,_,_=>h.elim
 |b::M,d::N,h,0,c,hc=>by
  simp only[List.getElem?_cons_zero,Option.some.injEq] at hc
  subst hc;exact⟨b,rfl,h.1⟩
 |b::M,d::N,h,n+1,c,hc=>by
  simp only[List.getElem?_cons_succ] at hc ⊢
  exact MLe.get h.2 n c hc
theorem Blk.isFz_own {c:Blk}(h:c.isFz=true)(ho:c.isOwn=true):False:=by cases c<;>first | (cases h;done) | (cases ho;done)
theorem MRel.le {ρ:Val}{M N:List Blk}{w:World}(h:MRel B ρ M w)(hle:MLe M N):∃ z,MRel B ⟨ρ.loc,z⟩ N w∧(∀ k,ρ.z k→z k)∧∀ k,z k→ρ.z k∨B.may k:=by
 let z:Nat→Prop:=fun k=>ρ.z k ∨ ∃ (n:Nat) (b c:Blk) (l:Loc),M[n]? = some b∧N[n]? = some c∧b.isOwn=true∧c.isFz=true∧ρ n=some l∧l.blk=k∧isC w k
 refine⟨z,⟨h.size,fun n c hc => ?_,fun n m b c l k hne h1 h2 o1 o2 e1 e2 => ?_,h.zb,fun k hk=>.inl (h.zlo k hk),fun k hk => ?_,fun n c l hc ho hl hz => ?_,fun k hk => ?_⟩,fun k hk=>.inl hk,fun k hk => ?_⟩
 . obtain⟨b,hb,hbc⟩:=hle.get n c hc
   have h1:b.ok B ⟨ρ.loc,z⟩ n w:=Blk.ok_congr (ρ:=ρ) (ρ':=⟨ρ.loc,z⟩) (p:=fun _=>true) (fun _ _=>rfl) (fun _ h=>Or.inl h) rfl b (by cases b<;>first|rfl|exact scL_all _ | (simp only[Blk.sc,Bool.and_eq_true];exact⟨scL_all _,scL_all _⟩)) (h.ok n b hb)
   refine hbc.ok h1 fun hf ho l hl=>.inr ⟨n,b,c,l,hb,hc,ho,hf,hl,rfl,?_⟩
   cases c<;>try (cases hf;done)
   cases b<;>first|exact hbc.elim | (cases ho;done)|skip
   obtain⟨q,hr,ho'⟩:=h.ok n _ hb
   rcases ho'.2 with⟨h0,_⟩ | ⟨l',cur,hl',_,_,hh,_⟩
   . rw[show ρ.loc n=some l from hl] at h0;cases h0
   . rw[show ρ.loc n=some l from hl] at hl';obtain rfl:=Option.some.inj hl';exact⟨cur,_,_,hh⟩
 . obtain⟨b',hb',hbb⟩:=hle.get n b h1
   obtain⟨c',hc',hcc⟩:=hle.get m c h2
   exact h.apart n m b' c' l k hne hb' hc' (hbb.own o1) (hcc.own o2) e1 e2
 . rcases hk with hk | ⟨n,b,c,l,hb,hc,ho,hf,hl,rfl,_⟩
   . exact h.zhi k hk
   . have:=Blk.ok_lt (h.ok n b hb) ho hl
     exact⟨this.2,.inr this.1⟩
 . obtain⟨b',hb',hbb⟩:=hle.get n c hc
   rcases hz with hz | ⟨n',b,c',l',hb,hc',ho',hf,hl',he,_⟩
   . exact h.zown n b' l hb' (hbb.own ho) hl hz
   . by_cases hnn:n=n'
     . subst hnn
       rw[hc] at hc';obtain rfl:=Option.some.inj hc'
       exact Blk.isFz_own hf ho
     . exact h.apart n n' b' b l l' hnn hb' hb (hbb.own ho) ho' hl hl' he.symm
 . rcases hk with hk | ⟨n,b,c,l,hb,hc,ho,hf,hl,he,hc'⟩
   . exact h.zc k hk
   . exact .inr hc'
 . rcases hk with hk | ⟨n,b,c,l,hb,hc,ho,hf,hl,rfl,_⟩
   . exact .inl hk
   . exact .inr (Blk.ok_lt (h.ok n b hb) ho hl).1
theorem den_z (ρ:Val)(z:Nat→Prop)(x:SV):x.den ⟨ρ.loc,z⟩=x.den ρ:=SV.den_congr (ρ:=ρ) (ρ':=⟨ρ.loc,z⟩) (p:=fun _=>true) (fun _ _=>rfl) x (SV.sc_all x)
theorem junkF_length:∀ n,(junkF n).length=n
 |0=>rfl
 |n+1=>by simp[junkF,junkF_length n]
theorem junkF_get:∀ (n s:Nat) (x:SV),(junkF n)[s]? = some x→x = .junk
 |0,s,x,h=>by simp[junkF] at h
 |n+1,0,x,h=>by simp[junkF] at h;exact h.symm
 |n+1,s+1,x,h=>by simp only[junkF,List.getElem?_cons_succ] at h;exact junkF_get n s x h
theorem spreadF_length:∀ (keep:List Nat) (F vals:List SV),(spreadF F keep vals).length=F.length
 |[],F,vals=>by cases vals<;>rfl
 |_::_,F,[]=>rfl
 |s::l,F,x::xs=>by rw[spreadF,spreadF_length l];simp[setNth_eq]
theorem spreadF_get {G:Nat→SV→Prop}:∀ (keep:List Nat) (F vals:List SV),(∀ (s:Nat) (x:SV),F[s]? = some x→x ≠ .junk→G s x)→(∀ (i s:Nat) (x:SV),keep[i]? = some s→vals[i]? = some x→x ≠ .junk→G s x)→
  ∀ (s:Nat) (x:SV),(spreadF F keep vals)[s]? = some x→x ≠ .junk→G s x
 |[],F,vals,h,_,s,x,hs,hx=>by
  have:spreadF F [] vals=F:=by cases vals<;>rfl
  rw[this] at hs;exact h s x hs hx
 |k::l,F,[],h,_,s,x,hs,hx=>h s x hs hx
 |k::l,F,v::vs,h,hv,s,x,hs,hx=>by
  rw[spreadF] at hs
  refine spreadF_get l _ vs (fun s x hs hx => ?_) (fun i s x h1 h2=>hv (i+1) s x (by simpa using h1) (by simpa using h2)) s x hs hx
  rw[setNth_eq,List.getElem?_set] at hs
  split at hs
  . rename_i e;subst e
    split at hs
    . obtain rfl:=Option.some.inj hs;exact hv 0 k _ rfl rfl hx
    . cases hs
  . exact h s x hs hx
theorem pickF_get {F:List SV}:∀ (keep:List Nat) (i s:Nat) (x:SV),keep[i]? = some s→(pickF F keep)[i]? = some x→x ≠ .junk→F[s]? = some x
 |[],i,s,x,h,_,_=>by simp at h
 |k::l,0,s,x,h,hx,hj=>by
  simp only[List.getElem?_cons_zero,Option.some.injEq] at h
  subst h
  simp only[pickF,List.getElem?_cons_zero,Option.some.injEq] at hx
  split at hx
  . rename_i y hy;rw[nth_eq] at hy;rw[hy,hx]
  . exact absurd hx.symm hj
 |k::l,i+1,s,x,h,hx,hj=>by
  simp only[List.getElem?_cons_succ,pickF] at h hx
  exact pickF_get l i s x h hx hj
theorem Rel.cut {ρ:Val}{F:List SV}{M N:List Blk}{a:Act}{w:World}{keep:List Nat}(h:Rel B w0 L ρ F M a w)(hle:MLe M N)(hok:okSt (pickF F keep) N=true):
  ∃ z,Rel B w0 L ⟨ρ.loc,z⟩ (spreadF (junkF L.n) keep (pickF F keep)) N a w:=by
 simp only[okSt,Bool.and_eq_true] at hok
 obtain⟨z,hz,_⟩:=h.mem.le hle
 refine⟨z,h.marks,?_,h.size,?_,?_,hok.2,hz,h.below⟩
 . rw[spreadF_length,junkF_length]
 . simp only[den_z]
   exact spreadF_get (G:=fun s x=>a.tmps[s]? = some (x.den ρ)) keep _ _ (fun s x hs hx=>absurd (junkF_get _ s x hs) hx) (fun i s x h1 h2 hx=>h.slot s x (pickF_get keep i s x h1 h2 hx) hx)
 . refine scL_of fun s x hs => ?_
   by_cases hx:x = .junk
   . subst hx;rfl
   . refine spreadF_get (G:=fun s x=>x.sc (fun n=>decide (n<N.length))=true) keep _ _ (fun s x hs hx=>absurd (junkF_get _ s x hs) hx) (fun i s x h1 h2 hx=>scL_get hok.1 h2) s x hs hx
theorem Rel.recut {ρ:Val}{F:List SV}{M N:List Blk}{a:Act}{w:World}{keep σ:List Nat}(h:Rel B w0 L ρ F M a w)(hn:σ.Nodup)(hle:MLe (renMs M σ σ) N)(hok:okSt (renFL σ (pickF F keep)) N=true):
  ∃ z,Rel B w0 L ⟨(renρ σ ρ).loc,z⟩ (spreadF (junkF L.n) keep (renFL σ (pickF F keep))) N a w:=by
 simp only[okSt,Bool.and_eq_true] at hok
 obtain⟨z,hz,_⟩:=(h.mem.ren hn).le hle
 refine⟨z,h.marks,?_,h.size,?_,?_,hok.2,hz,h.below⟩
 . rw[spreadF_length,junkF_length]
 . simp only[den_z]
   refine spreadF_get (G:=fun s x=>a.tmps[s]? = some (x.den (renρ σ ρ))) keep _ _ (fun s x hs hx=>absurd (junkF_get _ s x hs) hx) (fun i s x h1 h2 hx => ?_)
   rw[renFL_eq,List.getElem?_map] at h2
   cases hq:(pickF F keep)[i]? with
   |none=>rw[hq] at h2;cases h2
   |some y=>
    rw[hq] at h2
    simp only[Option.map_some,Option.some.injEq] at h2
    subst h2
    obtain⟨g1,g2⟩:=renF_den (ρ:=ρ) hx
    rw[g2];exact h.slot s y (pickF_get keep i s y h1 hq g1) g1
 . refine scL_of fun s x hs => ?_
   by_cases hx:x = .junk
   . subst hx;rfl
   . refine spreadF_get (G:=fun s x=>x.sc (fun n=>decide (n<N.length))=true) keep _ _ (fun s x hs hx=>absurd (junkF_get _ s x hs) hx) (fun i s x h1 h2 hx=>scL_get hok.1 h2) s x hs hx
theorem liftF_rel:∀ (lift:List (Nat×TypeId×Nat)) {ρ:Val} {F F0:List SV} {M M0:List Blk} {a:Act} {w:World},Rel B w0 L ρ F M a w→liftF lift F M=some (F0,M0)→∃ ρ',Rel B w0 L ρ' F0 M0 a w∧(∀ n,n<M.length→ρ' n=ρ n)∧M.length≤M0.length
 |[],ρ,F,F0,M,M0,a,w,h,he=>by
  simp only[liftF,Option.some.injEq,Prod.mk.injEq] at he
  obtain⟨rfl,rfl⟩:=he;exact⟨ρ,h,fun _ _=>rfl,Nat.le_refl _⟩
 |(s,ty,sz)::l,ρ,F,F0,M,M0,a,w,h,he=>by
  simp only[liftF] at he
  split at he
  . rename_i hs
    rw[nth_eq] at hs
    have hlt:∀ k,k<M.length→setρ ρ M.length none k=ρ k:=fun k hk=>setρ_other (by omega)
    have hden:∀ (s:Nat) (x:SV),F[s]? = some x→x.den (setρ ρ M.length none)=x.den ρ:=fun s x hs=>SV.den_congr (p:=fun n=>decide (n<M.length)) (fun n hn=>hlt n (by simpa using hn)) x (scL_get h.scF hs)
    have hnew:New B w.heap.size (setρ ρ M.length none) M.length [.own ty sz 0 fun _=>[]] w:=new_one ⟨fun _=>[],fun i hi=>absurd hi (Nat.not_lt_zero i),fun i hi=>by omega,.inl ⟨setρ_self ..,rfl⟩⟩ (fun _ l hl=>by rw[setρ_self] at hl;cases hl) (fun k hk=>(h.mem.zhi k hk).1) (Nat.le_refl _)
    have hstep:Rel B w0 L (setρ ρ M.length none) (setNth F s (.sl M.length sz 0 0)) (M++[.own ty sz 0 fun _=>[]]) a w:=by
     refine⟨h.marks,by simp[setNth_eq,h.len],h.size,fun t x ht hx => ?_,scL_of fun t x ht => ?_,?_,h.mem.grown h.scM (setρ_ext fun k hk=>by omega) (Below.refl _ _) hnew,h.below⟩
     . rw[setNth_eq,List.getElem?_set] at ht
       split at ht
       . rename_i e;subst e
         split at ht
         . obtain rfl:=Option.some.inj ht
           rw[h.slot s _ hs (by simp)]
           simp[SV.den,setρ_self]
         . cases ht
       . rw[hden t x ht];exact h.slot t x ht hx
     . rw[setNth_eq,List.getElem?_set] at ht
       split at ht
       . split at ht
         . obtain rfl:=Option.some.inj ht;simp[SV.sc]
         . cases ht
       . exact SV.sc_mono (fun n hn=>by simp only[decide_eq_true_eq,List.length_append] at hn ⊢;omega) x (scL_get h.scF ht)
     . exact(chk_spec (sv:=.tt) (nb:=[.own ty sz 0 fun _=>[]]) rfl h.scM).2
    obtain⟨ρ',h1,h2,h3⟩:=liftF_rel l hstep he
    simp only[List.length_append,List.length_singleton] at h2 h3
    exact⟨ρ',h1,fun n hn=>by rw[h2 n (by omega),hlt n hn],by omega⟩
  . cases he
end
section
variable {P:Program}{B:Bd}{w0:World}{L:LD}{ρ:Val}{F:List SV}{M:List Blk}{a:Act}{w:World}
def resOne (tmps:Array Value)(r:ResultVar):Sem Value:=match r with
 | .tmp t=>pure (tmps.getD t undef)
 | .cell c t=>do loadVar t (← asAddr (tmps.getD c undef))
theorem results_eq (fn:Func)(tmps:Array Value):results fn tmps=(do let vs ← fn.results.mapM (resOne tmps);pure (if h:vs.size=1 then vs[0] else .tuple vs)):=rfl
theorem retOne_run (h:Rel B w0 L ρ F M a w){r:ResultVar}{x:SV}(hr:retOne P F M r=some x):
  (resOne a.tmps r).run P w = .ok (x.den ρ) w:=by
 unfold resOne
 cases r with
 |tmp t=>
  simp only[retOne] at hr
  split at hr
  . rename_i y hy
    split at hr
    . rename_i hnj
      obtain rfl:=Option.some.inj hr
      rw[nth_eq] at hy
      have:=h.slot t y hy (SV.nj_ne hnj)
      simp[Array.getD_eq_getD_getElem?,this]
    . cases hr
  . cases hr
 |cell c t=>
  simp only[retOne] at hr
  split at hr
  . rename_i n off hc
    split at hr
    . rename_i xs hn
      rw[nth_eq] at hc
      have hs:=h.slot c _ hc (by simp)
      obtain⟨l,ty,hl,h0,hh⟩:=celB_ok h.mem hn
      have hcell:∀ j v,(denL ρ xs)[j]? = some v→w.cell? ⟨l.blk,0+j,none⟩=some v:=fun j v hv=>by
       simp only[World.cell?,hh,Nat.zero_add];simpa using hv
      obtain⟨hr',_⟩:=run_load_part (ρ:=ρ) hr hcell
      simp only[Array.getD_eq_getD_getElem?,hs,Option.getD_some,SV.den,hl,Option.map_some,h0,asAddr,Sem.run_bind,Sem.run_pure,Result.andThen_ok]
      simpa [Instr.loadAt,Instr.sureAddr] using hr'
    . split at hr
      . rename_i xs hn
        rw[nth_eq] at hc
        have hs:=h.slot c _ hc (by simp)
        obtain⟨l,ty,_,hl,h0,_,hh⟩:=mixB_ok h.mem hn
        obtain⟨hr',_⟩:=run_load_m (ρ:=ρ) (w:=w) (b:=l.blk) (o:=0) hr (mixB_cell hh)
        simp only[Array.getD_eq_getD_getElem?,hs,Option.getD_some,SV.den,hl,Option.map_some,h0,asAddr,Sem.run_bind,Sem.run_pure,Result.andThen_ok]
        simpa [Instr.loadAt,Instr.sureAddr] using hr'
      . cases hr
  . cases hr
theorem retL_run (h:Rel B w0 L ρ F M a w):∀ (rs:List ResultVar) (xs:List SV),retL P F M rs=some xs→
  (rs.mapM (resOne a.tmps)).run P w = .ok (denL ρ xs) w
 |[],xs,hr=>by obtain rfl:=Option.some.inj hr;simp[denL]
 |r::l,xs,hr=>by
  simp only[retL] at hr
  split at hr
  . rename_i y ys h1 h2
    obtain rfl:=Option.some.inj hr
    simp only[List.mapM_cons,Sem.run_bind,retOne_run h h1,retL_run h l ys h2,Result.andThen_ok,Sem.run_pure,denL]
  . cases hr
theorem retS_run (h:Rel B w0 L ρ F M a w){fn:Func}{x:SV}(hr:retS P fn F M=some x):(results fn a.tmps).run P w = .ok (x.den ρ) w:=by
 unfold retS at hr
 rw[results_eq,Array.mapM_eq_mapM_toList]
 split at hr
 . rename_i y hy
   obtain rfl:=Option.some.inj hr
   have:=retL_run h _ _ hy
   simp only[Sem.run_bind,Sem.run_map,this]
   simp[denL]
 . rename_i xs hne hy
   obtain rfl:=Option.some.inj hr
   have:=retL_run h _ _ hy
   have hsz:xs.length≠1:=by
    intro e
    obtain⟨x,rfl⟩:=List.length_eq_one_iff.1 e
    exact hne x rfl
   simp only[Sem.run_bind,Sem.run_map,this]
   simp[denL_eq,hsz,SV.den]
 . cases hr
theorem undefs_eq:∀ (n:Nat) (ρ:Val),denL ρ (undefs n)=List.replicate n undef
 |0,ρ=>rfl
 |n+1,ρ=>by simp[undefs,denL,undefs_eq n ρ,List.replicate_succ,SV.den,undef]
theorem undefs_sc (p:Nat→Bool):∀ n,scL p (undefs n)=true
 |0=>rfl
 |n+1=>by simp[undefs,scL,SV.sc,undefs_sc p n]
theorem scL_append (p:Nat→Bool)(a b:List SV):scL p (a++b)=(scL p a&&scL p b):=by simp[scL_eq]
end
section
variable {P:Program}{G:World→Prop}
def Post (B:Bd)(w0:World)(L:LD)(ρ:Val)(z:Nat)(K:X→List SV→List Blk→Prop):Exit→Act→World→Prop:=fun e a' w'=>∃ (x:X) (F':List SV) (M':List Blk) (ρ':Val),e=x.to∧Rel B w0 L ρ' F' M' a' w'∧z≤M'.length∧(∀ n,n<z→ρ' n=ρ n)∧K x F' M'
def SoundAt (P:Program)(G:World→Prop)(R:RunT):Prop:=∀ (T:Tbl) (z:Nat) (c:Code) (F:List SV) (M:List Blk) (K:X→List SV→List Blk→Prop) (ρ:Val) (a:Act) (w:World) (B:Bd) (w0:World) (L:LD) (ro:Option Nat),
 (∀ w',Kept B w0 w'→G w')→B.s≤w0.heap.size→(∀ l,ro=some l→∃ r,w0.heap[l]? = some (Obj.loop r))→codeOk T c=true→z≤M.length→R T z c F M K→Rel B w0 L ρ F M a w→wpV ro P c (Post B w0 L ρ z K) a w
theorem lp_put {B:Bd}{ρ:Val}{M:List Blk}{w:World}{n:Nat}{T:Tbl}{fe:List SV}{ps:Array Tmp}{asg bd:Code}{st:LS}{l:Loc}{r r':Loop}{b':Blk}(hM:MRel B ρ M w)(hn:M[n]? = some (.lp T fe ps asg bd st))(hl:ρ n=some l)(hB:B.may l.blk)(hh:w.heap[l.blk]? = some (Obj.loop r))
  (hb':b'.ok B ρ n (w.putObj l.blk (Obj.loop r'))):MRel B ρ (M.set n b') (w.putObj l.blk (Obj.loop r'))∧Kept B w (w.putObj l.blk (Obj.loop r')):=by
 have hother:∀ k,k≠l.blk→(w.putObj l.blk (Obj.loop r')).heap[k]? = w.heap[k]? := fun k hk=>World.putObj_heap_other hk
 have hlt:l.blk<w.heap.size:=(Array.getElem?_eq_some_iff.1 hh).1
 refine⟨hM.set hn rfl hl (by simp) hother hb',⟨rfl,rfl,rfl,by simp,fun k hk=>hother k (fun e=>hk (e▸hB)),fun k hk => ?_,fun k r0 hk => ?_⟩⟩
 . rw[hother k fun e=>by subst e;rw[hh] at hk;cases hk];exact hk
 . by_cases e:k=l.blk
   . subst e;exact⟨r',World.putObj_heap_same hlt⟩
   . exact⟨r0,by rw[hother k e];exact hk⟩
theorem lp_ok {B:Bd}{ρ:Val}{n:Nat}{w:World}{T:Tbl}{fe:List SV}{ps:Array Tmp}{asg bd:Code}{st:LS}{l:Loc}{r':Loop}(hl:ρ n=some l)(hB:B.may l.blk)(hlt:l.blk<w.heap.size)(h:LoopIs ρ T fe ps asg bd st r'):(Blk.lp T fe ps asg bd st).ok B ρ n (w.putObj l.blk (Obj.loop r')):=
 ⟨l,r',hl,hB,World.putObj_heap_same hlt,h⟩
theorem scAll_set {M:List Blk}{n:Nat}{b b':Blk}(h:scAll M.length M=true)(hn:M[n]? = some b)(hb:∀ p,b.sc p=true→b'.sc p=true):scAll (M.set n b').length (M.set n b')=true:=by
 unfold scAll at *
 rw[List.length_set,List.all_eq_true] at *
 intro c hc
 rcases List.mem_or_eq_of_mem_set hc with h1|rfl
 . exact h c h1
 . exact hb _ (h b (List.mem_of_getElem? hn))
theorem setPs_spec {ρ:Val}:∀ (ps:List Nat) (args fe fe':List SV) (tmps:Array Value),setPs fe ps args=some fe'→tmps.size=fe.length→(∀ (s:Nat) (x:SV),fe[s]? = some x→x ≠ .junk→tmps[s]? = some (x.den ρ))→
  ps.length=args.length∧fe'.length=fe.length∧((ps.zip (denL ρ args)).foldl (fun t p=>t.setIfInBounds p.1 p.2) tmps).size=fe.length∧∀ (s:Nat) (x:SV),fe'[s]? = some x→x ≠ .junk→((ps.zip (denL ρ args)).foldl (fun t p=>t.setIfInBounds p.1 p.2) tmps)[s]? = some (x.den ρ)
 |[],[],fe,fe',tmps,h,hs,hx=>by
  obtain rfl:=Option.some.inj h
  exact⟨rfl,rfl,hs,hx⟩
 |[],_::_,_,_,_,h,_,_=>by cases h
 |_::_,[],_,_,_,h,_,_=>by cases h
 |p::ps,y::args,fe,fe',tmps,h,hs,hx=>by
  simp only[setPs] at h
  have:=setPs_spec (ρ:=ρ) ps args (setNth fe p y) fe' (tmps.setIfInBounds p (y.den ρ)) h (by simp[setNth_eq,hs]) (fun s x hs' hj=>by
   rw[setNth_eq,List.getElem?_set] at hs'
   rw[Array.getElem?_setIfInBounds]
   split at hs'
   . rename_i e;subst e
     split at hs'
     . rename_i hlt
       rw[if_pos rfl,if_pos (by omega),← Option.some.inj hs']
     . cases hs'
   . rename_i hne
     rw[if_neg hne];exact hx s x hs' hj)
  obtain⟨h1,h2,h3,h4⟩:=this
  rw[setNth_eq,List.length_set] at h2 h3
  exact⟨by simp[h1],h2,h3,h4⟩
theorem setPs_sc {p:Nat→Bool}:∀ (ps:List Nat) (args fe fe':List SV),setPs fe ps args=some fe'→scL p args=true→scL p fe=true→scL p fe'=true
 |[],[],fe,fe',h,_,hf=>by obtain rfl:=Option.some.inj h;exact hf
 |[],_::_,_,_,h,_,_=>by cases h
 |_::_,[],_,_,h,_,_=>by cases h
 |q::ps,y::args,fe,fe',h,ha,hf=>by
  simp only[setPs] at h
  simp only[scL,Bool.and_eq_true] at ha
  refine setPs_sc ps args _ fe' h ha.2 (scL_of fun s x hs => ?_)
  rw[setNth_eq,List.getElem?_set] at hs
  split at hs
  . split at hs
    . rw[← Option.some.inj hs];exact ha.1
    . cases hs
  . exact scL_get hf hs
theorem zip_fold (ps:Array Tmp)(l:List Value)(tmps:Array Value):(ps.zip l.toArray).foldl (fun tmps (t,a)=>tmps.setIfInBounds t a) tmps=(ps.toList.zip l).foldl (fun t p=>t.setIfInBounds p.1 p.2) tmps:=by
 rw[← Array.foldl_toList]
 simp[Array.toList_zip]
theorem MRel.close {B:Bd}{ρ:Val}{M:List Blk}{w:World}{r:Nat}(h:MRel B ρ M w)(hr:w.heap[r]? = some (Obj.deferred (some [])))(hB:B.s≤r):MRel B ρ M (w.putObj r (Obj.deferred none)):=by
 have zs:∀ k,ρ.z k→(w.putObj r (Obj.deferred none)).heap[k]? = w.heap[k]? := fun k hk=>World.putObj_heap_other fun e=>by
  subst e
  rcases h.zc k hk with hz | ⟨c,ty,f,hc⟩
  . exact h.zb k hz (.inr hB)
  . rw[hr] at hc;cases hc
 refine⟨by simpa using h.size,fun n b hn => ?_,h.apart,h.zb,h.zlo,fun k hk=>⟨by simpa using (h.zhi k hk).1,(h.zhi k hk).2⟩,h.zown,fun k hk=>(h.zc k hk).imp_right fun hc=>hc.same (zs k hk)⟩
 have hb:=h.ok n b hn
 refine b.ok_same hb (fun k hk=>World.putObj_heap_other fun e=>hk (e ▸ .inr hB)) zs fun ho l hl=>World.putObj_heap_other fun e => ?_
 have hne:∀ ob,w.heap[l.blk]? = some ob→ob≠Obj.deferred (some [])→False:=fun ob h1 h2=>by rw[e,hr] at h1;exact h2 (Option.some.inj h1).symm
 cases b with
 |dead=>cases ho
 |ro=>cases ho
 |fz=>cases ho
 |rc=>cases ho
 |cells ty xs=>
  obtain⟨l',e',_,_,h2⟩:=hb
  obtain rfl:l'=l:=by rw[hl] at e';exact(Option.some.inj e').symm
  exact hne _ h2 (by simp)
 |own ty sz m g=>
  obtain⟨_,_,hb⟩:=hb
  rcases hb.2 with⟨e',_⟩ | ⟨l',cur,e',_,_,h2,_⟩
  . rw[hl] at e';cases e'
  . obtain rfl:l'=l:=by rw[hl] at e';exact(Option.some.inj e').symm
    exact hne _ h2 (by simp)
 |mix ty xs=>
  obtain⟨l',e',_,_,h2⟩:=hb
  obtain rfl:l'=l:=by rw[hl] at e';exact(Option.some.inj e').symm
  exact hne _ h2 (by simp)
 |map es=>
  obtain⟨l',arr,cnt,e',_,h2,_⟩:=hb
  obtain rfl:l'=l:=by rw[hl] at e';exact(Option.some.inj e').symm
  exact hne _ h2 (by simp)
 |fm m q=>
  obtain⟨l',arr,cnt,e',_,h2,_⟩:=hb
  obtain rfl:l'=l:=by rw[hl] at e';exact(Option.some.inj e').symm
  exact hne _ h2 (by simp)
 |lp T fe ps asg bd st=>
  obtain⟨l',r',e',_,h2,_⟩:=hb
  obtain rfl:l'=l:=by rw[hl] at e';exact(Option.some.inj e').symm
  exact hne _ h2 (by simp)
theorem leave_marksT {B:Bd}{w0:World}{L:LD}{ρ:Val}{F:List SV}{M:List Blk}{fn:Func}{R:Ending→World→Prop}(hBs:B.s≤w0.heap.size){u:FrameMode}(hu:u ≠ .run){tmps:Array Value}:
  ∀ (rs:List Nat) (w:World),rs.Nodup→(∀ r∈rs,w0.heap.size≤r∧w.heap[r]? = some (Obj.deferred (some [])))→Rel B w0 L ρ F M {tmps:=tmps,defers:=L.ds} w→(∀ w',Rel B w0 L ρ F M {tmps:=tmps,defers:=L.ds} w'→LeavesInM (Fe none) 0 P fn tmps R L.ds u w')→
    LeavesInM (Fe none) 0 P fn tmps R (rs.map (fun r=>{target:=.collected r,args := #[]})++L.ds) u w
 |[],w,_,_,hR,hQ=>hQ w hR
 |r::rs,w,hn,hw,hR,hQ=>by
  obtain⟨h1,h2⟩:=hw r (List.mem_cons_self ..)
  have hn':=List.nodup_cons.1 hn
  refine⟨hu,.inl ⟨r,_,rfl,run_takeDeferred h2,?_⟩⟩
  have hother:∀ k,k≠r→(w.putObj r (Obj.deferred none)).heap[k]? = w.heap[k]? := fun k hk=>World.putObj_heap_other hk
  have hM':=hR.mem.close h2 (Nat.le_trans hBs h1)
  have hk:Kept B w0 (w.putObj r (Obj.deferred none)):=by
   refine⟨hR.below.os,hR.below.tape,hR.below.output,by simpa using hR.below.size,fun k hk => ?_,fun k hk => ?_,fun k r0 hk => ?_⟩
   . rw[hother k fun e=>hk (e ▸ .inr (Nat.le_trans hBs h1))];exact hR.below.block k hk
   . rw[hother k fun e=>by subst e;have:=(Array.getElem?_eq_some_iff.1 hk).1;omega];exact hR.below.dq k hk
   . rw[hother k fun e=>by subst e;have:=(Array.getElem?_eq_some_iff.1 hk).1;omega];exact hR.below.lq k r0 hk
  refine leave_marksT hBs hu rs _ hn'.2 (fun r' hr' => ?_) ⟨Marks.nil _ _ _,hR.len,hR.size,hR.slot,hR.scF,hR.scM,hM',hk⟩ hQ
  have:=hw r' (List.mem_cons_of_mem _ hr')
  exact⟨this.1,by rw[hother r' fun e=>hn'.1 (e▸hr')];exact this.2⟩
def EndOf (P:Program)(fn:Func)(p:Option Value)(sv:SV)(x:X)(F:List SV)(M:List Blk):Prop:=
 (p=none∧(x = .normal∨x = .ret)∧retS P fn F M=some sv) ∨ ∃ v,p=some v∧x = .panic v
theorem body_soundP {R:RunT}(ih:SoundAt P G R){f:FuncId}{fn:Func}(hf:P.funcs[f]? = some fn)(hb:fn.body.isSome=true){T:Tbl}(hT:codeOk T (bodyOf fn)=true){B:Bd}{ρ0:Val}{args:List SV}{M0:List Blk}{w:World}{z:Nat}{K:X→List SV→List Blk→Prop}(hG:∀ w',Kept B w w'→G w')
  (hsc:okSt args M0=true) (hM:MRel B ρ0 M0 w) (hz:z≤M0.length) (h:R T z (bodyOf fn) (initF fn args) M0 K) (hK:∀ x F M,K x F M→(∃ v,x = .panic v)∨((x = .normal∨x = .ret)∧∃ sv,retS P fn F M=some sv)):
  CallsIn (Fe none) 0 P f (denL ρ0 args).toArray w fun e w'=>∃ (ρ':Val) (p:Option Value) (sv:SV) (x:X) (F':List SV) (M':List Blk),e=endS p sv ρ'∧EndOf P fn p sv x F' M'∧K x F' M'∧MRel B ρ' M' w'∧scAll M'.length M'=true∧Kept B w w'∧z≤M'.length∧∀ n,n<z→ρ' n=ρ0 n:=by
 obtain⟨c,hc⟩:=Option.isSome_iff_exists.1 hb
 refine calls_of_V hf hc ?_
 have hbody:bodyOf fn=c:=by unfold bodyOf;rw[hc]
 rw[hbody] at h hT
 simp only[okSt,Bool.and_eq_true] at hsc
 have hR:Rel B w ⟨(initF fn args).length,[]⟩ ρ0 (initF fn args) M0 {tmps:=(denL ρ0 args).toArray++Array.replicate (fn.ntmps - (denL ρ0 args).toArray.size) undef,defers:=[]} w:=by
  have e:(denL ρ0 args).toArray++Array.replicate (fn.ntmps - (denL ρ0 args).toArray.size) undef=(denL ρ0 (initF fn args)).toArray:=by
   apply Array.ext'
   simp only[initF,denL_append,undefs_eq,Array.toList_append,Array.toList_replicate,List.size_toArray]
   simp[denL_eq]
  rw[e]
  refine⟨Marks.nil _ _ _,rfl,by simp[denL_eq],fun s x hs hx => ?_,?_,hsc.2,hM,Kept.refl _ _⟩
  . simp[denL_eq,hs]
  . rw[initF,scL_append,hsc.1,undefs_sc];rfl
 refine V_mono (ih T z c _ M0 _ ρ0 _ w B w _ none hG hM.size (fun l e=>by cases e) hT hz h hR) ?_
 rintro e a' w' ⟨x,F',M',ρ',rfl,hR',hz',hρ',hKx⟩
 obtain⟨rs,hd,hnod,hrs⟩:=hR'.marks
 have hR'':Rel B w ⟨(initF fn args).length,[]⟩ ρ' F' M' {tmps:=a'.tmps,defers:=[]} w':=⟨Marks.nil _ _ _,hR'.len,hR'.size,hR'.slot,hR'.scF,hR'.scM,hR'.mem,hR'.below⟩
 have hl:=fun(u:FrameMode) (hu:u ≠ .run) hq=>leave_marksT (P:=P) (fn:=fn) (L:=⟨(initF fn args).length,[]⟩) (R:=fun e w'=>∃ (ρ':Val) (p:Option Value) (sv:SV) (x:X) (F':List SV) (M':List Blk),e=endS p sv ρ'∧EndOf P fn p sv x F' M'∧K x F' M'∧MRel B ρ' M' w'∧scAll M'.length M'=true∧Kept B w w'∧z≤M'.length∧∀ n,n<z→ρ' n=ρ0 n) hM.size hu (tmps:=a'.tmps) rs w' hnod hrs hR'' hq
 have back:∀ (sv:SV),(x = .normal∨x = .ret)→retS P fn F' M'=some sv→LeavesInM (Fe none) 0 P fn a'.tmps (fun e w'=>∃ (ρ':Val) (p:Option Value) (sv:SV) (x:X) (F':List SV) (M':List Blk),e=endS p sv ρ'∧EndOf P fn p sv x F' M'∧K x F' M'∧MRel B ρ' M' w'∧scAll M'.length M'=true∧Kept B w w'∧z≤M'.length∧∀ n,n<z→ρ' n=ρ0 n) a'.defers .returning w':=by
  intro sv hx hsv
  rw[hd]
  exact hl .returning (by simp) fun w'' hw''=>⟨_,retS_run hw'' hsv,ρ',none,sv,x,F',M',rfl,.inl ⟨rfl,hx,hsv⟩,hKx,hw''.mem,hR'.scM,hw''.below,hz',hρ'⟩
 rcases hK x F' M' hKx with⟨v,rfl⟩ | ⟨rfl|rfl,sv,hsv⟩
 . show LeavesInM (Fe none) 0 P fn a'.tmps _ a'.defers (.panicking [{v,recovered:=false}]) w'
   rw[hd]
   exact hl _ (by simp) fun w'' hw''=>⟨ρ',some v,.junk,.panic v,F',M',rfl,.inr ⟨v,rfl,rfl⟩,hKx,hw''.mem,hR'.scM,hw''.below,hz',hρ'⟩
 . exact back sv (.inl rfl) hsv
 . exact back sv (.inr rfl) hsv
theorem body_sound {R:RunT}(ih:SoundAt P G R){f:FuncId}{fn:Func}(hf:P.funcs[f]? = some fn)(hb:fn.body.isSome=true){T:Tbl}(hT:codeOk T (bodyOf fn)=true){B:Bd}{ρ0:Val}{args:List SV}{M0:List Blk}{w:World}{z:Nat}{K:X→List SV→List Blk→Prop}(hG:∀ w',Kept B w w'→G w')
  (hsc:okSt args M0=true) (hM:MRel B ρ0 M0 w) (hz:z≤M0.length) (h:R T z (bodyOf fn) (initF fn args) M0 K) (hK:∀ x F M,K x F M→(x = .normal∨x = .ret)∧∃ sv,retS P fn F M=some sv):
  CallsIn (Fe none) 0 P f (denL ρ0 args).toArray w fun e w'=>∃ (ρ':Val) (sv:SV) (x:X) (F':List SV) (M':List Blk),e = .returned (sv.den ρ')∧retS P fn F' M'=some sv∧K x F' M'∧MRel B ρ' M' w'∧scAll M'.length M'=true∧Kept B w w'∧z≤M'.length∧∀ n,n<z→ρ' n=ρ0 n:=by
 refine(body_soundP ih hf hb hT hG hsc hM hz h fun x F M hk=>.inr (hK x F M hk)).mono ?_
 rintro e w' ⟨ρ',p,sv,x,F',M',rfl,hE,hk,h1⟩
 rcases hE with⟨rfl,_,hsv⟩ | ⟨v,rfl,rfl⟩
 . exact⟨ρ',sv,x,F',M',rfl,hsv,hk,h1⟩
 . obtain⟨h2,_⟩:=hK _ _ _ hk
   rcases h2 with h2|h2<;>cases h2
theorem callsIn_ro {ro:Option Nat}{f:FuncId}{args:Array Value}{w:World}{R:Ending→World→Prop}(h:CallsIn (Fe none) 0 P f args w R):CallsIn (Fe ro) 0 P f args w R:=by
 cases ro with
 |none=>exact h
 |some l=>exact CallsIn.inRound l h
theorem round_sound (hm:Okay P){Γ:Env}{R:RunT}(ih:SoundAt P G R)(B:Bd)(ro:Option Nat)(n:Nat)(args:List SV)(M:List Blk)(K:Option Value→SV→List Blk→Prop)(ρ:Val)(w:World)(h:yieldY P Γ R (.yld n) args M K)(hargs:okArgs args M=true)(hM:MRel B ρ M w)(hG:∀ w',Kept B w w'→G w'):
  ∃ (f:FuncId) (tmps:Array Value) (asg bd:Code),(Instr.yield (((ρ n).map fun l=>l.blk).getD 0) (denL ρ args).toArray).run P w = .ok (.round (((ρ n).map fun l=>l.blk).getD 0) f tmps asg bd) w∧
  RoundIn (Fe ro) 0 P (((ρ n).map fun l=>l.blk).getD 0) f tmps asg bd w fun e w'=>∃ (p:Option Value) (sv:SV) (M':List Blk) (ρ':Val),e=endS p sv ρ'∧K p sv M'∧MRel B ρ' M' w'∧scAll M'.length M'=true∧M.length≤M'.length∧(∀ k,k<M.length→ρ' k=ρ k)∧Kept B w w':=by
 simp only[okArgs,Bool.and_eq_true] at hargs
 obtain⟨⟨hsc,hscM⟩,hnj⟩:=hargs
 unfold yieldY at h
 simp only[spine_eq] at h
 split at h
 . rename_i T fe ps asg bd hn
   rw[nth_eq] at hn
   split at h
   . rename_i fe' hps
     obtain⟨l,r,hl,hB,hh,hL⟩:=hM.ok n _ hn
     have hfe:fe.all (SV.sc fun k=>decide (k<M.length))=true:=by
        have:=(List.all_eq_true.1 hscM) _ (List.mem_of_getElem? hn)
        simpa [Blk.sc,scL_eq] using this
     obtain⟨e1,e2,e3,e4⟩:=setPs_spec ps.toList args fe fe' r.tmps hps hL.size hL.slot
     have hl0:((ρ n).map fun l=>l.blk).getD 0=l.blk:=by rw[hl];rfl
     rw[hl0]
     refine⟨r.fn,_,r.assign,r.body,run_yield hh (by rw[hL.params];simp[denL_eq,← e1]),?_⟩
     rw[hL.params,zip_fold,hL.assign,hL.body]
     obtain⟨fnr,hfnr⟩:=Option.isSome_iff_exists.1 ((hm.known r.fn).2 hL.known)
     refine round_of_V hfnr ?_
     have hR:Rel B w ⟨fe.length,[]⟩ ρ fe' M {tmps:=(ps.toList.zip (denL ρ args)).foldl (fun t p=>t.setIfInBounds p.1 p.2) r.tmps,defers:=[]} w:=
        ⟨Marks.nil _ _ _,e2,e3,e4,setPs_sc _ _ _ _ hps hsc (by rw[scL_eq];exact hfe),hscM,hM,Kept.refl _ _⟩
     have hro:∀ l',some l.blk=some l'→∃ r,w.heap[l']? = some (Obj.loop r):=fun l' e=>⟨r,by rw[← Option.some.inj e];exact hh⟩
     refine V_mono (ih T M.length asg fe' M _ ρ _ w B w ⟨fe.length,[]⟩ (some l.blk) hG hM.size hro hL.okA (Nat.le_refl _) h hR) ?_
     rintro e a1 w1 ⟨x,F1,M1,ρ1,rfl,hR1,hz1,hρ1,hK⟩
     cases x with
     |exit id=>exact hK.elim
     |ret=>exact hK.elim
     |panic v=>exact hK.elim
     |normal=>
      simp only at hK
      split at hK
      . rename_i T2 fe2 ps2 asg2 bd2 hn1
        rw[nth_eq] at hn1
        obtain⟨l1,r1,hl1,hB1,hh1,hL1⟩:=hR1.mem.ok n _ hn1
        have hnlt:n<M.length:=(List.getElem?_eq_some_iff.1 hn).1
        obtain rfl:l1=l:=by rw[hρ1 n hnlt,hl] at hl1;exact(Option.some.inj hl1).symm
        have hlt1:l1.blk<w1.heap.size:=(Array.getElem?_eq_some_iff.1 hh1).1
        have hLb:LoopIs ρ1 T2 fe2 ps2 asg2 bd2 .busy {r1 with state:=.busy}:=⟨hL1.okA,hL1.okB,hL1.params,hL1.assign,hL1.body,hL1.size,hL1.slot,rfl,by rw[show({r1 with state:=LoopState.busy}:Loop).pending=r1.pending from rfl,hL1.pending];rfl,hL1.known⟩
        obtain⟨hM2,hk2⟩:=lp_put hR1.mem hn1 hl1 hB1 hh1 (lp_ok hl1 hB1 hlt1 hLb)
        refine⟨_,run_beginRound hh1 hL1.state,?_⟩
        have hR2:Rel B w ⟨fe.length,[]⟩ ρ1 F1 (M1.set n (.lp T2 fe2 ps2 asg2 bd2 .busy)) a1 (w1.putObj l1.blk (Obj.loop {r1 with state:=.busy})):=
         ⟨hR1.marks.keep hk2.dq,hR1.len,hR1.size,hR1.slot,by rw[List.length_set];exact hR1.scF,scAll_set hR1.scM hn1 (fun _ h=>h),hM2,hR1.below.trans hk2⟩
        refine V_mono (ih T M.length bd F1 _ _ ρ1 a1 _ B w ⟨fe.length,[]⟩ (some l1.blk) hG hM.size hro hL.okB (by rw[List.length_set];exact hz1) hK hR2) ?_
        rintro e a3 w3 ⟨x,F3,M3,ρ3,rfl,hR3,hz3,hρ3,hK3⟩
        split at hK3
        . rename_i T4 fe4 ps4 asg4 bd4 hn3
          rw[nth_eq] at hn3
          obtain⟨l3,r3,hl3,hB3,hh3,hL3⟩:=hR3.mem.ok n _ hn3
          obtain rfl:l3=l1:=by rw[hρ3 n hnlt,hl1] at hl3;exact(Option.some.inj hl3).symm
          have hlt3:l3.blk<w3.heap.size:=(Array.getElem?_eq_some_iff.1 hh3).1
          have fin:∀ (jump:Option Code) (st:LS) (b:SV),(if jump.isNone then SV.tt else SV.ff)=b→st.state=(if jump.isNone then .ready else .done)→st.pending=jump→K none b (M3.set n (.lp T4 fe4 ps4 asg4 bd4 st))→
            ∃ v w4,(Instr.endRound l3.blk jump).run P w3 = .ok v w4∧∃ (p:Option Value) (b:SV) (M':List Blk) (ρ':Val),Ending.returned v=endS p b ρ'∧K p b M'∧MRel B ρ' M' w4∧scAll M'.length M'=true∧M.length≤M'.length∧(∀ k,k<M.length→ρ' k=ρ k)∧Kept B w w4:=by
           intro jump st b hb hst hpd hKb
           have hLs:LoopIs ρ3 T4 fe4 ps4 asg4 bd4 st {r3 with state:=if jump.isNone then .ready else .done,pending:=jump}:=⟨hL3.okA,hL3.okB,hL3.params,hL3.assign,hL3.body,hL3.size,hL3.slot,hst.symm,hpd.symm,hL3.known⟩
           obtain⟨hM4,hk4⟩:=lp_put hR3.mem hn3 hl3 hB3 hh3 (lp_ok hl3 hB3 hlt3 hLs)
           exact⟨_,_,run_endRound jump hh3,none,b,_,ρ3,by rw[← hb];cases jump<;>rfl,hKb,hM4,scAll_set hR3.scM hn3 (fun _ h=>h),by rw[List.length_set];exact hz3,fun k hk=>by rw[hρ3 k hk,hρ1 k hk],hR3.below.trans hk4⟩
          cases x with
          |normal=>exact fin none .ready .tt rfl rfl rfl hK3
          |ret=>exact fin (some .ret) (.done .ret) .ff rfl rfl rfl hK3
          |exit id=>exact fin (some (.exit id)) (.done (.exit id)) .ff rfl rfl rfl hK3
          |panic v=>
           obtain⟨rs,hd,hnod,hrs⟩:=hR3.marks
           show LeavesInM (Fe none) 0 P fnr a3.tmps _ a3.defers (.panicking [{v,recovered:=false}]) w3
           rw[hd]
           exact leave_marksT (L:=⟨fe.length,[]⟩) (ρ:=ρ3) (F:=F3) (M:=M3) hM.size (by simp) rs w3 hnod hrs ⟨Marks.nil _ _ _,hR3.len,hR3.size,hR3.slot,hR3.scF,hR3.scM,hR3.mem,hR3.below⟩ fun w'' hw''=>
            ⟨_,rfl,some v,.junk,M3,ρ3,rfl,hK3,hw''.mem,hR3.scM,by have:=hz3;omega,fun k hk=>by rw[hρ3 k hk,hρ1 k hk],hw''.below⟩
        . exact hK3.elim
      . exact hK.elim
   . exact h.elim
 . exact h.elim
theorem yield_sound (hm:Okay P){Γ:Env}(hΓ:EnvOk P G Γ){R:RunT}(ih:SoundAt P G R)(B:Bd)(ro:Option Nat):YOk P G B ro (yieldY P Γ R):=by
 intro f args M K ρ w h hf hargs hM hG
 cases f with
 |yld n=>
  obtain⟨f,tmps,asg,bd,h1,h2⟩:=round_sound hm ih B ro n args M K ρ w h hargs hM hG
  refine⟨.round _ f tmps asg bd,?_,h2⟩
  simp only[SV.den,Deferred.ofValue,Sem.run_bind,Sem.run_pure,Result.andThen_ok,invoke,Array.empty_append]
  exact h1
 |fn f fst cap=>
  cases f with
  |func g=>
   unfold yieldY at h
   simp only at h
   split at h
   . rename_i c hfc
     obtain⟨hc1,hc2⟩:=hΓ.ys _ (findX_mem _ _ _ hfc)
     simp only[SV.sc,Bool.and_eq_true] at hf
     simp only[okArgs,Bool.and_eq_true] at hargs
     refine⟨.enter g (denL ρ (fst++args++cap)).toArray,?_,?_⟩
     . have:=hc1 ((denL ρ fst).toArray++(denL ρ args).toArray++(denL ρ cap).toArray) w
       simp only[SV.den,Deferred.ofValue,Sem.run_bind,Sem.run_pure,Result.andThen_ok]
       refine Eq.trans this ?_
       congr 2
       apply Array.ext'
       simp[denL_append]
     . have hcalls:=hc2 _ M K h (by simp only[scL_append,Bool.and_eq_true];exact⟨⟨hf.1,hargs.1.1⟩,hf.2⟩) hargs.1.2 B ρ w hG hM
       exact callsIn_ro ((callsIn_wide (n:=0)).2 hcalls)
   split at h
   . rename_i fn T' hfi
     have hI:=hΓ.iters _ (findI_mem _ _ _ hfi)
     simp only[SV.sc,Bool.and_eq_true] at hf
     simp only[okArgs,Bool.and_eq_true] at hargs
     have hcall:=body_soundP ih hI.func hI.body hI.code (B:=B) (ρ0:=ρ) (w:=w) (args:=fst++args++cap) hG (by
      simp only[okSt,Bool.and_eq_true,scL_append]
      exact⟨⟨⟨hf.1,hargs.1.1⟩,hf.2⟩,hargs.1.2⟩) hM (Nat.le_refl _) h (fun x F' M' hK=>by
      cases x with
      |exit id=>exact hK.elim
      |panic v=>exact .inl ⟨v,rfl⟩
      |normal=>
       refine .inr ⟨.inl rfl,?_⟩
       simp only at hK
       split at hK
       . rename_i sv hsv;exact⟨sv,hsv⟩
       . exact hK.elim
      |ret=>
       refine .inr ⟨.inr rfl,?_⟩
       simp only at hK
       split at hK
       . rename_i sv hsv;exact⟨sv,hsv⟩
       . exact hK.elim)
     refine⟨.enter g (denL ρ (fst++args++cap)).toArray,?_,?_⟩
     . have:=hI.call ((denL ρ fst).toArray++(denL ρ args).toArray++(denL ρ cap).toArray) w
       simp only[SV.den,Deferred.ofValue,Sem.run_bind,Sem.run_pure,Result.andThen_ok]
       refine Eq.trans this ?_
       congr 2
       apply Array.ext'
       simp[denL_append]
     . refine callsIn_ro (hcall.mono ?_)
       rintro e w' ⟨ρ',p,sv,x,F',M',rfl,hE,hK,hM',hsc',hk,hz',hρ'⟩
       rcases hE with⟨rfl,hx,hsv⟩ | ⟨v,rfl,rfl⟩
       . refine⟨none,sv,M',ρ',rfl,?_,hM',hsc',hz',hρ',hk⟩
         rcases hx with rfl|rfl
         . simp only[hsv] at hK;exact hK
         . simp only[hsv] at hK;exact hK
       . exact⟨some v,.junk,M',ρ',rfl,hK,hM',hsc',hz',hρ',hk⟩
   . exact h.elim
  |_=>exact h.elim
 |_=>exact h.elim
theorem enter_loop {ro:Option Nat}{w:World}(hro:∀ l,ro=some l→∃ r,w.heap[l]? = some (Obj.loop r))(fn:FuncId)(tmps:Array Value)(ps:Array Tmp)(asg bd:Code):
  ∃ (l:Nat) (mark:List Deferred) (w1:World) (db:Nat),(Instr.enterLoop fn tmps ps asg bd ro).run P w = .ok (l,mark) w1∧w1.heap[l]? = some (Obj.loop {state:=.ready,pending:=none,fn,tmps,params:=ps,assign:=asg,body:=bd,defers:=db})∧Below w.heap.size w w1∧w.heap.size≤l∧
    (mark=[]∨(mark=[{target:=.collected w.heap.size,args := #[]}]∧w1.heap[w.heap.size]? = some (Obj.deferred (some []))∧l≠w.heap.size)):=by
 cases ro with
 |none=>
  refine⟨_,_,_,w.heap.size,run_enterLoop_outer fn tmps ps asg bd,?_,?_,by omega,.inr ⟨rfl,?_,by omega⟩⟩
  . rw[show w.heap.size+1=(w.alloc (Obj.deferred (some []))).heap.size by simp]
    exact World.alloc_heap_new _ _
  . exact((Below.refl _ _).alloc (Nat.le_refl _) _).alloc (by simp) _
  . rw[heap_alloc_old _ _ (by simp)]
    exact World.alloc_heap_new _ _
 |some l0=>
  obtain⟨r0,h0⟩:=hro l0 rfl
  exact⟨_,_,_,r0.defers,run_enterLoop_inner h0 fn tmps ps asg bd,World.alloc_heap_new _ _,(Below.refl _ _).alloc (Nat.le_refl _) _,Nat.le_refl _,.inl rfl⟩
theorem run_sound (hm:Okay P){Γ:Env}(hΓ:EnvOk P G Γ):∀ (n:Nat),SoundAt P G (run P Γ n):=by
 intro n
 induction n with
 |zero=>intro T z c F M K ρ a w B w0 L ro _ _ _ _ _ h;exact h.elim
 |succ n ih=>
  intro T z c F M K ρ a w B w0 L ro hG hBs hro hT hz h hR
  rw[run_succ] at h
  cases c<;>simp only[stepC] at h
  case skip=>exact V_of (wpIn_skip ⟨.normal,F,M,ρ,rfl,hR,hz,fun _ _=>rfl,h⟩)
  case label=>exact V_of (wpIn_label ⟨.normal,F,M,ρ,rfl,hR,hz,fun _ _=>rfl,h⟩)
  case exit id=>exact V_of (wpIn_exit ⟨.exit id,F,M,ρ,rfl,hR,hz,fun _ _=>rfl,h⟩)
  case ret=>exact V_of (wpIn_ret ⟨.ret,F,M,ρ,rfl,hR,hz,fun _ _=>rfl,h⟩)
  case seq x y=>
   simp only[codeOk,Bool.and_eq_true] at hT
   refine V_seq (V_mono (ih T z x F M _ ρ a w B w0 L ro hG hBs hro hT.1 hz h hR) ?_)
   rintro e a' w' ⟨x',F',M',ρ',rfl,hR',hz',hρ',hK⟩
   cases x' with
   |normal=>
    refine V_mono (ih T z y F' M' K ρ' a' w' B w0 L ro hG hBs hro hT.2 hz' hK hR') ?_
    rintro e a'' w'' ⟨x'',F'',M'',ρ'',rfl,hR'',hz'',hρ'',hK'⟩
    exact⟨x'',F'',M'',ρ'',rfl,hR'',hz'',fun n hn=>by rw[hρ'' n hn,hρ' n hn],hK'⟩
   |exit id=>exact⟨.exit id,F',M',ρ',rfl,hR',hz',hρ',hK⟩
   |ret=>exact⟨.ret,F',M',ρ',rfl,hR',hz',hρ',hK⟩
   |panic v=>exact⟨.panic v,F',M',ρ',rfl,hR',hz',hρ',hK⟩
  case cond o x y=>
   simp only[codeOk,Bool.and_eq_true] at hT
   split at h
   . rename_i ho
     have he:=hR.ev o (by rw[ho];simp)
     rw[ho] at he
     exact V_cond he (fun _=>ih T z x F M K ρ a w B w0 L ro hG hBs hro hT.1 hz h hR) (fun e=>by cases e)
   . rename_i ho
     have he:=hR.ev o (by rw[ho];simp)
     rw[ho] at he
     exact V_cond he (fun e=>by cases e) (fun _=>ih T z y F M K ρ a w B w0 L ro hG hBs hro hT.2 hz h hR)
   . rename_i b ho
     have he:=hR.ev o (by rw[ho];simp)
     rw[ho] at he
     exact V_cond he (fun hb=>ih T z x F M K ρ a w B w0 L ro hG hBs hro hT.1 hz (h.1 hb) hR) (fun hb=>ih T z y F M K ρ a w B w0 L ro hG hBs hro hT.2 hz (h.2 hb) hR)
   . rename_i n ho
     have he:=hR.ev o (by rw[ho];simp)
     rw[ho] at he
     exact V_cond he (fun _=>ih T z x F M K ρ a w B w0 L ro hG hBs hro hT.1 hz (h.1 trivial) hR) (fun _=>ih T z y F M K ρ a w B w0 L ro hG hBs hro hT.2 hz (h.2 trivial) hR)
   . exact h.elim
  case block id c=>
   refine V_block (V_mono (ih T z c F M _ ρ a w B w0 L ro hG hBs hro hT hz h hR) ?_)
   rintro e a' w' ⟨x',F',M',ρ',rfl,hR',hz',hρ',hK⟩
   cases x' with
   |normal=>exact⟨.normal,F',M',ρ',rfl,hR',hz',hρ',hK⟩
   |ret=>exact⟨.ret,F',M',ρ',rfl,hR',hz',hρ',hK⟩
   |panic v=>exact⟨.panic v,F',M',ρ',rfl,hR',hz',hρ',hK⟩
   |exit id'=>
    simp only[X.to,Exit.inBlock]
    simp only at hK
    split at hK
    . rename_i hb
      rw[if_pos (Nat.eq_of_beq_eq_true hb)]
      exact⟨.normal,F',M',ρ',rfl,hR',hz',hρ',hK⟩
    . rename_i hb
      rw[if_neg (fun e=>by subst e;simp at hb)]
      exact⟨.exit id',F',M',ρ',rfl,hR',hz',hρ',hK⟩
  case region id ops draw=>
   simp only[codeOk,Bool.and_eq_true] at hT
   have hQ:∀ F' M' ρ' a' w',Rel B w0 L ρ' F' M' a' w'→z≤M'.length→(∀ n,n<z→ρ' n=ρ n)→K .normal F' M'→Post B w0 L ρ z K .normal a' w':=fun F' M' ρ' a' w' hR' hz' hρ' hK=>⟨.normal,F',M',ρ',rfl,hR',hz',hρ',hK⟩
   have hQP:∀ (v:Value) (F':List SV) (M':List Blk) (ρ':Val) (a':Act) (w':World),Rel B w0 L ρ' F' M' a' w'→z≤M'.length→(∀ n,n<z→ρ' n=ρ n)→K (.panic v) F' M'→Post B w0 L ρ z K (.panic [{v,recovered:=false}]) a' w':=fun v F' M' ρ' a' w' hR' hz' hρ' hK=>⟨.panic v,F',M',ρ',rfl,hR',hz',hρ',hK⟩
   let QN:Exit→Act→World→Prop:=fun e a' w'=>e = .normal∧Post B w0 L ρ z K e a' w'
   have hQN:∀ F' M' ρ' a' w',Rel B w0 L ρ' F' M' a' w'→z≤M'.length→(∀ n,n<z→ρ' n=ρ n)→K .normal F' M'→QN .normal a' w':=fun F' M' ρ' a' w' hR' hz' hρ' hK=>⟨rfl,hQ F' M' ρ' a' w' hR' hz' hρ' hK⟩
   have hno:∀ c a w,¬ QN (.panic c) a w:=fun c a w hq=>by cases hq.1
   cases draw with
   |false=>
    simp only at h
    have:=runOps_list (B:=B) (w0:=w0) (ro:=ro) hG hΓ (yield_sound hm hΓ ih B ro) (ops:=ops.toList) (gs:=guardsOf ops.toList) (Q:=Post B w0 L ρ z K) (K:=fun p F' M'=>match p with
     |none=>K .normal F' M'
     |some v=>K (.panic v) F' M') hQ hQP ops.toList 0 F M ρ a w hT.1 hz (fun _ _=>rfl) h hR
    exact V_of (wpIn_region_list (by simpa using this))
   |true=>
    simp only at h
    split at h
    . rename_i hh bs hf
      have hT2:=hT.2
      simp only[hf] at hT2
      split at h
      . rename_i hh1
        simp only[hh1] at hT2
        let QJ:Exit→Act→World→Prop:=fun e a' w'=>(e = .normal∧Post B w0 L ρ z K e a' w') ∨ ∃ (v:Value) (M':List Blk) (ρ':Val),e = .panic [{v,recovered:=false}]∧Rel B w0 L ρ' (junkF L.n) M' a' w'∧z≤M'.length∧(∀ n,n<z→ρ' n=ρ n)∧K (.panic v) (junkF L.n) M'
        have junked:∀ {ρ':Val} {F':List SV} {M':List Blk} {a' b':Act} {w':World},Rel B w0 L ρ' F' M' a' w'→b'.defers=a'.defers→b'.tmps.size=a'.tmps.size→Rel B w0 L ρ' (junkF L.n) M' b' w':=fun hr hd hs=>
           ⟨by rw[hd];exact hr.marks,junkF_length _,by rw[hs];exact hr.size,fun s sv h1 h2=>absurd (junkF_get _ s sv h1) h2,(by
              rw[scL_eq,List.all_eq_true]
              intro x hx
              obtain⟨i,hi⟩:=List.getElem?_of_mem hx
              rw[junkF_get _ i x hi];rfl),hr.scM,hr.mem,hr.below⟩
        refine V_of (wpIn_mono (F:=Fe ro) (Q:=QJ) ?_ (fun e a' w' hq=>by
           rcases hq with hq | ⟨v,M',ρ',rfl,h1,h2,h3,h4⟩
           . exact hq.2
           . exact hQP v _ M' ρ' a' w' h1 h2 h3 h4))
        have:=tree_soundS (B:=B) (w0:=w0) (ro:=ro) (id:=id) hm.mixed hG hΓ (yield_sound hm hΓ ih B ro) (ops:=ops.toList) (F:=F) (M:=M) (gs:=guardsOf ops.toList) (stay:=bs) hT2 hT.1 (Q:=QJ) (fun c a1 d v w1 hq=>by
              rcases hq with hq | ⟨v',M',ρ',e,h1,h2,h3,h4⟩
              . cases hq.1
              . exact .inr ⟨v',M',ρ',e,junked h1 (by cases d<;>rfl) (by cases d<;>simp[Act.put]),h2,h3,h4⟩) (K:=fun p F' M'=>match p with
           |none=>K .normal F' M'
           |some v=>K (.panic v) (junkF F'.length) M') (z:=z) (ρ0:=ρ) (fun v F' M' ρ' a' w' hR' hz' hρ' hK=>.inr ⟨v,M',ρ',rfl,junked hR' rfl rfl,hz',hρ',by
            simp only[hR'.len] at hK;exact hK⟩) hz (fun _ _=>rfl) (fun F' M' ρ' a' w' hR' hz' hρ' hK=>.inl ⟨rfl,hQ F' M' ρ' a' w' hR' hz' hρ' hK⟩) h hR
        simpa using this
      refine V_of (wpIn_mono (F:=Fe ro) (Q:=QN) ?_ (fun e a' w' hq=>hq.2))
      rename_i hh1
      simp only[hh1] at hT2
      have:=draw_sound (B:=B) (w0:=w0) (ro:=ro) (id:=id) hm.mixed hG hΓ (yield_sound hm hΓ ih B ro) (ops:=ops.toList) (bs:=bs) (F:=F) (M:=M) (gs:=guardsOf ops.toList) (h:=hh) hT2 hT.1 (Q:=QN) hno (K:=fun p F' M'=>match p with
       |none=>K .normal F' M'
       |some _=>False) (fun _ _ _ hk=>hk) hz (ρ0:=ρ) (fun _ _=>rfl) hQN h hR
      simpa using this
    . rename_i hf
      refine V_of (wpIn_mono (F:=Fe ro) (Q:=QN) ?_ (fun e a' w' hq=>hq.2))
      have hT2:=hT.2
      simp only[hf] at hT2
      have:=tree_sound (B:=B) (w0:=w0) (ro:=ro) (id:=id) hm.mixed hG hΓ (yield_sound hm hΓ ih B ro) (ops:=ops.toList) (F:=F) (M:=M) (gs:=guardsOf ops.toList) hT2 hT.1 (Q:=QN) hno (K:=fun p F' M'=>match p with
       |none=>K .normal F' M'
       |some _=>False) (fun _ _ _ hk=>hk) hz (ρ0:=ρ) (fun _ _=>rfl) hQN h hR
      simpa using this
  case loop c=>
   rcases h with⟨m,h⟩ | ⟨lift,keep,I,h⟩
   ·
        refine V_loop_at (I:=fun k a' w'=>∃ (F':List SV) (M':List Blk) (ρ':Val),unrollN (run P Γ n T z c) K k F' M'∧Rel B w0 L ρ' F' M' a' w'∧z≤M'.length∧∀ n,n<z→ρ' n=ρ n) (fun k a' w' hI => ?_) (k:=m) ⟨F,M,ρ,h,hR,hz,fun _ _=>rfl⟩
        obtain⟨F',M',ρ',hu,hR',hz',hρ'⟩:=hI
        cases k with
        |zero=>exact hu.elim
        |succ k=>
         have hu':run P Γ n T z c F' M' (fun e F'' M''=>match e with | .normal=>unrollN (run P Γ n T z c) K k F'' M''|e=>K e F'' M''):=hu
         refine V_mono (ih T z c F' M' _ ρ' a' w' B w0 L ro hG hBs hro hT hz' hu' hR') ?_
         rintro e a'' w'' ⟨x,F'',M'',ρ'',rfl,hR'',hz'',hρ'',hK⟩
         have hρ2:∀ n,n<z→ρ'' n=ρ n:=fun n hn=>by rw[hρ'' n hn,hρ' n hn]
         cases x with
         |normal=>exact⟨k,Nat.lt_succ_self k,F'',M'',ρ'',hK,hR'',hz'',hρ2⟩
         |exit id=>exact⟨.exit id,F'',M'',ρ'',rfl,hR'',hz'',hρ2,hK⟩
         |panic v=>exact⟨.panic v,F'',M'',ρ'',rfl,hR'',hz'',hρ2,hK⟩
         |ret=>exact⟨.ret,F'',M'',ρ'',rfl,hR'',hz'',hρ2,hK⟩
   . split at h
     . exact h.elim
     . rename_i F0 M0 hl
       obtain⟨⟨k,M1,hle,hz1,hok,hI⟩,hround⟩:=h
       obtain⟨ρ1,hR0,hρ1,hlen0⟩:=liftF_rel lift hR hl
       refine V_loop_at (I:=fun k a' w'=>∃ (vals:List SV) (M1:List Blk) (ρ':Val),I k vals M1∧Rel B w0 L ρ' (spreadF (junkF L.n) keep vals) M1 a' w'∧z≤M1.length∧∀ n,n<z→ρ' n=ρ n) (fun k a' w' hI' => ?_) (k:=k) (by
        obtain⟨zz,hcut⟩:=hR0.cut hle hok
        exact⟨_,M1,_,hI,hcut,Nat.le_of_ble_eq_true hz1,fun n hn=>hρ1 n (by omega)⟩)
       obtain⟨vals,M1,ρ',hI1,hR1,hz1,hρ'⟩:=hI'
       have hr:=hround k vals M1 hI1
       rw[hR.len] at hr
       refine V_mono (ih T z c _ M1 _ ρ' a' w' B w0 L ro hG hBs hro hT hz1 hr hR1) ?_
       rintro e a'' w'' ⟨x,F',M',ρ2,rfl,hR',hz',hρ2,hK⟩
       cases x with
       |normal=>
        obtain⟨k',M2,σ,hlt,hσ,hle2,hz2,hok2,hI2⟩:=hK
        simp only[Bool.and_eq_true] at hσ
        obtain⟨zz,hcut⟩:=hR'.recut (nodN_iff hσ.1) hle2 hok2
        refine⟨k',hlt,_,M2,_,hI2,hcut,Nat.le_of_ble_eq_true hz2,fun n hn => ?_⟩
        have hσn:=preN_get hσ.2 n hn
        rw[Nat.zero_add] at hσn
        simp only[renρ,hσn]
        rw[hρ2 n hn,hρ' n hn]
       |exit id=>exact⟨.exit id,F',M',ρ2,rfl,hR',hz',fun n hn=>by rw[hρ2 n hn,hρ' n hn],hK⟩
       |panic v=>exact⟨.panic v,F',M',ρ2,rfl,hR',hz',fun n hn=>by rw[hρ2 n hn,hρ' n hn],hK⟩
       |ret=>exact⟨.ret,F',M',ρ2,rfl,hR',hz',fun n hn=>by rw[hρ2 n hn,hρ' n hn],hK⟩
  case rangeFunc g ps asg bd=>
   simp only[codeOk,Bool.and_eq_true] at hT
   split at h
   . rename_i f fst cap hg
     split at h
     . rename_i fn T' hf
       simp only[spine_eq] at h
       have hI:=hΓ.iters _ (findI_mem _ _ _ hf)
       have hev:=hR.ev g (by rw[hg];simp)
       rw[hg] at hev
       have hgsc:=evS_sc hR.scF g
       rw[hg] at hgsc
       simp only[SV.sc,Bool.and_eq_true] at hgsc
       refine V_rangeFunc fun fnid hfnid => ?_
       obtain⟨l,mark,w1,db,hent,hh1,hbel,hlge,hmark⟩:=enter_loop (P:=P) (ro:=ro) (w:=w) (fun l hl=>by
        obtain⟨r,hr⟩:=hro l hl
        exact hR.below.lq l r hr) fnid a.tmps ps asg bd
       let ρ1:Val:=setρ ρ M.length (some ⟨l,0,0,none,.inr rfl⟩)
       have hρ1:∀ n,n<M.length→ρ1 n=ρ n:=fun n hn=>setρ_other (by omega)
       have hρl:ρ1 M.length=some ⟨l,0,0,none,.inr rfl⟩:=setρ_self ..
       have hden:∀ (x:SV),x.sc (fun n=>decide (n<M.length))=true→x.den ρ1=x.den ρ:=fun x hx=>SV.den_congr (p:=fun n=>decide (n<M.length)) (fun n hn=>hρ1 n (by simpa using hn)) x hx
       have hdenL:∀ (xs:List SV),scL (fun n=>decide (n<M.length)) xs=true→denL ρ1 xs=denL ρ xs:=fun xs hx=>denL_congr (p:=fun n=>decide (n<M.length)) (fun n hn=>hρ1 n (by simpa using hn)) xs hx
       have hLo:LoopIs ρ1 T F ps asg bd .ready {state:=.ready,pending:=none,fn:=fnid,tmps:=a.tmps,params:=ps,assign:=asg,body:=bd,defers:=db}:=
        ⟨hT.1,hT.2,rfl,rfl,rfl,by rw[hR.size,hR.len],fun s x hs hx=>by rw[hden x (scL_get hR.scF hs)];exact hR.slot s x hs hx,rfl,rfl,(hm.known fnid).1 hfnid⟩
       have hmay:B.may l:=.inr (Nat.le_trans hR.mem.size hlge)
       have hM1:MRel B ρ1 (M++[.lp T F ps asg bd .ready]) w1:=hR.mem.grown hR.scM (setρ_ext fun k hk=>by omega) hbel (new_one ⟨⟨l,0,0,none,.inr rfl⟩,_,hρl,hmay,hh1,hLo⟩ (fun _ l' hl'=>by rw[hρl] at hl';obtain rfl:=Option.some.inj hl';exact hlge) (fun k hk=>(hR.mem.zhi k hk).1) hbel.size)
       have hk1:Kept B w w1:=Kept.of_below hR.mem.size hbel
       have hargs:denL ρ1 (fst ++ .yld M.length::cap)=denL ρ fst ++ .func (.yield l) #[] #[]::denL ρ cap:=by
        rw[denL_append,hdenL fst hgsc.1]
        simp only[denL,hdenL cap hgsc.2]
        congr 2
        simp[SV.den,hρl]
       have hsc1:okSt (fst ++ .yld M.length::cap) (M++[.lp T F ps asg bd .ready])=true:=by
        have up:∀ xs:List SV,scL (fun n=>decide (n<M.length)) xs=true→scL (fun n=>decide (n < (M++[Blk.lp T F ps asg bd .ready]).length)) xs=true:=fun xs hx=>scL_mono (fun n hn=>by simp only[decide_eq_true_eq,List.length_append] at hn ⊢;omega) xs hx
        simp only[okSt,Bool.and_eq_true]
        refine⟨?_,?_⟩
        . rw[scL_append]
          simp only[scL,SV.sc,Bool.and_eq_true]
          exact⟨up fst hgsc.1,by simp,up cap hgsc.2⟩
        . refine(chk_spec (sv:=.tt) (nb:=[Blk.lp T F ps asg bd .ready]) ?_ hR.scM).2
          simp only[chk,Bool.and_eq_true]
          refine⟨rfl,?_⟩
          simp only[scAll,List.all_cons,List.all_nil,Bool.and_true,Blk.sc]
          exact scL_mono (fun n hn=>by simp only[decide_eq_true_eq] at hn ⊢;omega) F hR.scF
       have hcall:=body_soundP ih hI.func hI.body hI.code (B:=B) (ρ0:=ρ1) (w:=w1) (fun w' hw'=>hG w' ((hR.below.trans hk1).trans hw')) hsc1 hM1 (by simp) h (fun x F' M' hK=>by
        cases x with
        |exit id=>exact hK.elim
        |panic v=>exact .inl ⟨v,rfl⟩
        |normal=>
         refine .inr ⟨.inl rfl,?_⟩
         simp only at hK
         split at hK
         . rename_i sv hsv;exact⟨sv,hsv⟩
         . exact hK.elim
        |ret=>
         refine .inr ⟨.inr rfl,?_⟩
         simp only at hK
         split at hK
         . rename_i sv hsv;exact⟨sv,hsv⟩
         . exact hK.elim)
       refine⟨l,mark,w1,{target:=.fn (.func f) (denL ρ cap).toArray,args:=(denL ρ fst).toArray ++ #[.func (.yield l) #[] #[]]},w1,f,(denL ρ1 (fst ++ .yld M.length::cap)).toArray,w1,hent,?_,?_,?_⟩
       . have e:resolve a.eval (rangeCall g l) 0=Deferred.ofValue (a.eval g) ((#[.const (.func (.yield l) #[] #[])]:Array Operand).map a.eval):=rfl
         rw[e,hev]
         simp[SV.den,Deferred.ofValue,Act.eval]
       . have:=hI.call ((denL ρ fst).toArray ++ #[.func (.yield l) #[] #[]]++(denL ρ cap).toArray) w1
         rw[hargs]
         refine Eq.trans this ?_
         congr 2
         apply Array.ext'
         simp
       . refine callsIn_ro (hcall.mono ?_)
         rintro e w3 ⟨ρ3,p,sv,x,F3,M3,rfl,hE,hK,hM3,hsc3,hk3,hz3,hρ3⟩
         have out:∀ (M4:List Blk) (w4:World),MRel B ρ3 M4 w4→Kept B w w4→scAll M4.length M4=true→M4.length=M3.length→(∀ k:Nat,k≠l→w4.heap[k]? = w3.heap[k]?)→Rel B w0 L ρ3 F M4 {a with defers:=mark++a.defers} w4:=by
           intro M4 w4 hM4 hkall hsc4 hlen4 hother
           have hden3:∀ (s:Nat) (x:SV),F[s]? = some x→x.den ρ3=x.den ρ:=fun s x hs=>SV.den_congr (p:=fun n=>decide (n<M.length)) (fun n hn=>by
            simp only[decide_eq_true_eq] at hn
            rw[hρ3 n (by omega),hρ1 n hn]) x (scL_get hR.scF hs)
           refine⟨?_,hR.len,hR.size,fun s x hs hx=>by rw[hden3 s x hs];exact hR.slot s x hs hx,scL_mono (fun n hn=>by simp only[decide_eq_true_eq] at hn ⊢;omega) F hR.scF,hsc4,hM4,hR.below.trans hkall⟩
           obtain⟨rs,hd,hnod,hrs⟩:=hR.marks.keep hkall.dq
           rcases hmark with rfl | ⟨rfl,hm1,hne⟩
           . exact⟨rs,hd,hnod,hrs⟩
           . refine⟨w.heap.size::rs,by rw[hd];rfl,List.nodup_cons.2 ⟨fun hin => ?_,hnod⟩,fun r hr => ?_⟩
             . obtain⟨rs',hd',_,hrs'⟩:=hR.marks
               have e:rs=rs':=by
                have:=List.append_cancel_right (hd.symm.trans hd')
                have inj:∀ (a b:List Nat),(a.map fun r=>({target:=.collected r,args := #[]}:Deferred))=(b.map fun r=>({target:=.collected r,args := #[]}:Deferred))→a=b:=by
                   intro a
                   induction a with
                   |nil=>intro b hb;cases b with
                    |nil=>rfl
                    |cons=>cases hb
                   |cons x a ih=>intro b hb;cases b with
                    |nil=>cases hb
                    |cons y b=>
                     simp only[List.map_cons,List.cons.injEq,Deferred.mk.injEq,and_true] at hb
                     rw[ih b hb.2]
                     congr 1
                     injection hb.1
                exact inj _ _ this
               rw[e] at hin
               have:=(Array.getElem?_eq_some_iff.1 (hrs' _ hin).2).1
               omega
             . rcases List.mem_cons.1 hr with rfl|hr
               . refine⟨hR.below.size,?_⟩
                 rw[hother _ (Ne.symm hne)]
                 exact hk3.dq _ hm1
               . exact hrs r hr
         have fin:∀ (T4:Tbl) (fe4:List SV) (ps4:Array Tmp) (asg4 bd4:Code) (st:LS),nth M3 M.length=some (.lp T4 fe4 ps4 asg4 bd4 st)→st.state ≠ .busy→
           ∃ w4,(Instr.endLoop l).run P w3 = .ok st.pending w4∧Rel B w0 L ρ3 F (M3.set M.length .dead) {a with defers:=mark++a.defers} w4∧z≤(M3.set M.length Blk.dead).length∧(∀ n,n<z→ρ3 n=ρ n):=by
           intro T4 fe4 ps4 asg4 bd4 st hn4 hst
           rw[nth_eq] at hn4
           obtain⟨l4,r4,hl4,hB4,hh4,hL4⟩:=hM3.ok _ _ hn4
           have hl4':l4=⟨l,0,0,none,.inr rfl⟩:=by
            rw[hρ3 M.length (by omega),hρl] at hl4
            exact(Option.some.inj hl4).symm
           subst hl4'
           obtain⟨hM4,hk4⟩:=lp_put (b':=.dead) (r':={r4 with state:=.exhausted}) hM3 hn4 hl4 hB4 hh4 trivial
           refine⟨_,by rw[← hL4.pending];exact run_endLoop hh4 (by rw[hL4.state];exact hst),?_,by rw[List.length_set];omega,fun n hn=>by rw[hρ3 n (by omega),hρ1 n (by omega)]⟩
           exact out _ _ hM4 ((hk1.trans hk3).trans hk4) (scAll_set hsc3 hn4 (fun _ _=>rfl)) (by rw[List.length_set]) (fun k hk=>World.putObj_heap_other hk)
         have done:∀ (K':Prop),(match nth M3 M.length with
                  |some (.lp _ _ _ _ _ .ready)=>K .normal F (M3.set M.length .dead)
                  |some (.lp _ _ _ _ _ (.done x))=>match x with
                   | .normal=>False
                   | .panic _=>False
                   |x=>K x F (M3.set M.length .dead)
                  |_=>False)→rangePost (Fe ro) 0 P l (Post B w0 L ρ z K) {a with defers:=mark++a.defers} (.returned (sv.den ρ3)) w3:=by
           intro _ hK
           split at hK
           . rename_i T4 fe4 ps4 asg4 bd4 hn4
             obtain⟨w4,h1,h2,h3,h4⟩:=fin _ _ _ _ _ _ hn4 (by simp[LS.state])
             exact⟨_,w4,h1,.normal,F,_,ρ3,rfl,h2,h3,h4,hK⟩
           . rename_i T4 fe4 ps4 asg4 bd4 x hn4
             obtain⟨w4,h1,h2,h3,h4⟩:=fin _ _ _ _ _ _ hn4 (by simp[LS.state])
             cases x with
             |normal=>exact hK.elim
             |panic _=>exact hK.elim
             |ret=>exact⟨_,w4,h1,wpIn_ret ⟨.ret,F,_,ρ3,rfl,h2,h3,h4,hK⟩⟩
             |exit id=>exact⟨_,w4,h1,wpIn_exit ⟨.exit id,F,_,ρ3,rfl,h2,h3,h4,hK⟩⟩
           . exact hK.elim
         rcases hE with⟨rfl,hx,hsv⟩ | ⟨v,rfl,rfl⟩
         . rcases hx with rfl|rfl
           . simp only[hsv] at hK
             exact done True hK
           . simp only[hsv] at hK
             exact done True hK
         . exact⟨.panic v,F,M3,ρ3,rfl,out M3 w3 hM3 (hk1.trans hk3) hsc3 rfl (fun _ _=>rfl),by omega,fun n hn=>by rw[hρ3 n (by omega),hρ1 n (by omega)],hK⟩
     . exact h.elim
   . exact h.elim
  all_goals exact h.elim
end
end Go.Sx
