import Derived.Test.YtfgkhenhlpoheaaGreatM06
set_option linter.all false
namespace Go.Sx
open Go.RowKit Go.Proofs.YtfgkhenhlpoheaaGreat
def visB (bs:List Nat)(m0:Nat)(own:List Nat)(i n:Nat):Bool:=match Nat.blt n m0 with
 |true=>true
 |false=>match nth own (n-m0) with
  |some k=>match Nat.beq k i with
   |true=>true
   |false=>bitB bs i k
  |none=>false
def hidB (q:Bool)(m0 n:Nat)(b:Blk):Blk:=match b with
 | .map es=>match Nat.blt n m0 with
   |true=>.map es
   |false=>match q with
    |true=>.map es
    |false=>.dead
 |b=>b
def maskM (q:Bool)(p:Nat→Bool)(m0:Nat):Nat→List Blk→List Blk
 |_,[]=>[]
 |n,b::l=>(match p n with
  |true=>hidB q m0 n b
  |false=>.dead)::maskM q p m0 (n+1) l
def noIns (ops:List Oper):Bool:=ops.all fun o=>match o.op with
 | .insert .. => false
 |_=>true
def insBefore (bs:List Nat)(i:Nat):Nat→List Oper→Bool
 |_,[]=>true
 |j,o::l=>(match o.op with
  | .insert .. => Nat.blt j i&&bitB bs i j
  |_=>true)&&insBefore bs i (j+1) l
def seesIns (ops:List Oper)(bs:List Nat)(i:Nat):Bool:=match noIns ops with
 |true=>true
 |false=>insBefore bs i 0 ops
theorem insBefore_at {bs:List Nat}{i:Nat}:∀ (l:List Oper) (j k:Nat) (o:Oper) {t:TypeId} {x y z:Operand},insBefore bs i j l=true→l[k]? = some o→o.op = .insert t x y z→j+k<i∧bitB bs i (j+k)=true
 |[],_,_,_,_,_,_,_,_,h,_=>by simp at h
 |o'::l,j,0,o,t,x,y,z,h,ho,hop=>by
  simp only[List.getElem?_cons_zero,Option.some.injEq] at ho
  subst ho
  simp only[insBefore,hop,Bool.and_eq_true,Nat.blt_eq] at h
  exact h.1
 |o'::l,j,k+1,o,t,x,y,z,h,ho,hop=>by
  simp only[insBefore,Bool.and_eq_true] at h
  have:=insBefore_at l (j+1) k o h.2 (by simpa using ho) hop
  rw[show j+(k+1)=j+1+k by omega];exact this
theorem sees_at {ops:List Oper}{bs:List Nat}{i k:Nat}{o:Oper}{t:TypeId}{x y z:Operand}(h:seesIns ops bs i=true)(ho:ops[k]? = some o)(hop:o.op = .insert t x y z):k<i∧bitB bs i k=true:=by
 unfold seesIns at h
 split at h
 . rename_i hn
   have:=List.all_eq_true.1 hn o (List.mem_of_getElem? ho)
   rw[hop] at this;cases this
 . have:=insBefore_at ops 0 k o h ho hop
   simpa using this
def repN (i:Nat):Nat→List Nat
 |0=>[]
 |n+1=>i::repN i n
def insOf (o:Oper):Option (TypeId×Operand×Operand×Operand):=match o.op with
 | .insert t x k v=>some (t,x,k,v)
 |_=>none
def putMap (M:List Blk)(n:Nat)(k v:SV):List Blk:=match M,n with
 |[],_=>[]
 | .map es::l,0=>.map (es++[(k,v)])::l
 |b::l,0=>b::l
 |b::l,n+1=>b::putMap l n k v
def insOk (P:Program)(E:List (TypeId×List CK))(bs:List Nat)(m0 i:Nat)(own:List Nat)(M:List Blk)(t:TypeId)(n:Nat)(k v:SV):Option Bool:=match P.underlying t with
 |some (.map kt _)=>match Nat.ble m0 n,nth own (n-m0),nth M n with
  |true,some j,some (.map es)=>match bitB bs i j,keysOk P E kt k es,v.nj,k.sc (visB bs m0 own i)&&v.sc (visB bs m0 own i) with
   |true,true,true,true=>freshKey P E kt k es
   |_,_,_,_=>none
  |_,_,_=>none
 |_=>none
def lateS (P:Program)(ev:Operand→SV)(o:Oper):Bool:=match o.op with
 | .extract _ _=>true
 | .move _=>true
 | .fieldAddr t _ f=>match fieldS P t f with
   |some fd=>match sizeS P fd.type with
    |some (_+1)=>true
    |_=>false
   |none=>false
 | .nilCheck x=>match ev x with
   | .ptr _ _=>true
   | .ep _ _ _ _=>true
   | .fn (.func _) _ _=>true
   |_=>false
 | .call c=>match c.callee with
   | .builtin .min=>match c.args.toList with
     |[x,y]=>match ev x,ev y with
      | .u64 _,.u64 _=>true
      | .int _ _,.int _ _=>true
      |_,_=>false
     |_=>false
   | .builtin .max=>match c.args.toList with
     |[x,y]=>match ev x,ev y with
      | .u64 _,.u64 _=>true
      | .int _ _,.int _ _=>true
      |_,_=>false
     |_=>false
   | .builtin .len=>match c.args.toList,c.argTypes.toList with
     |[x],[t]=>match P.underlying t,ev x with
      |some (.slice _),.sl _ _ _ _=>true
      |some (.slice _),.val (.slice none 0 0)=>true
      |_,_=>false
     |_,_=>false
   |_=>false
 |_=>false
def stepD (P:Program)(Γ:Env)(ops:List Oper)(gs bs:List Nat)(m0:Nat)(o:Oper)(ih:Nat→List SV→List Blk→List Nat→(List SV→List Blk→Prop)→Prop)(i:Nat)(F:List SV)(M:List Blk)(own:List Nat)(K:List SV→List Blk→Prop):Prop:=
 match wants ops F o.guard with
    |none=>False
    |some false=>setFF F o.dst (.tup []) fun F'=>ih (i+1) F' M own K
    |some true=>match insOf o with
     |some (t,x,k,v)=>match evS F x with
      | .mp n=>match insOk P Γ.eqs bs m0 i own M t n (evS F k) (evS F v) with
        |some b=>b=true∧forceM (putMap M n (evS F k) (evS F v)) fun M'=>setFF F o.dst (.val undef) fun F'=>ih (i+1) F' M' own K
        |none=>False
      |_=>False
     |none=>(stepH P Γ (evS F) (maskM (seesIns ops bs i) (visB bs m0 own i) m0 0 M) o).run fun sv nb=>force3 sv fun sv=>match sv.sc (visB bs m0 (own++repN i nb.length) i)&&nb.all (Blk.sc (visB bs m0 (own++repN i nb.length) i))&&(!isLate o||lateS P (evS F) o) with
      |false=>False
      |true=>addM M nb fun M'=>spine (own++repN i nb.length) fun own'=>match memN i gs with
       |false=>setFF F o.dst sv fun F'=>ih (i+1) F' M' own' K
       |true=>match sv with
        | .tt=>setFF F o.dst .tt fun F'=>ih (i+1) F' M' own' K
        | .ff=>setFF F o.dst .ff fun F'=>ih (i+1) F' M' own' K
        | .bool b=>(b=true→setFF F o.dst .tt fun F'=>ih (i+1) F' M' own' K)∧(b=false→setFF F o.dst .ff fun F'=>ih (i+1) F' M' own' K)
        |_=>False
def runHead (P:Program)(Γ:Env)(ops:List Oper)(gs bs:List Nat)(m0:Nat)(os:List Oper):Nat→List SV→List Blk→List Nat→(List SV→List Blk→Prop)→Prop:=
 List.rec (motive:=fun _=>Nat→List SV→List Blk→List Nat→(List SV→List Blk→Prop)→Prop) (fun _ F M _ K=>K F M) (fun o _ ih=>stepD P Γ ops gs bs m0 o ih) os
theorem runHead_cons (P:Program)(Γ:Env)(ops:List Oper)(gs bs:List Nat)(m0:Nat)(o:Oper)(os:List Oper)(i:Nat)(F:List SV)(M:List Blk)(own:List Nat)(K:List SV→List Blk→Prop):
 runHead P Γ ops gs bs m0 (o::os) i F M own K=stepD P Γ ops gs bs m0 o (runHead P Γ ops gs bs m0 os) i F M own K:=rfl
structure HS where
 sv:SV
 nb:List Blk
 ins:Option (Nat×SV×SV)
def svN (hs:List HS)(i:Nat):SV:=((hs[i]?).map (·.sv)).getD .junk
def nbN (hs:List HS)(i:Nat):List Blk:=((hs[i]?).map (·.nb)).getD []
def insN (hs:List HS)(i:Nat):Option (Nat×SV×SV):=((hs[i]?).map (·.ins)).getD none
def FsN (ops:List Oper)(F:List SV)(hs:List HS):Nat→List SV
 |0=>F
 |i+1=>setF (FsN ops F hs i) (dstN ops i) (svN hs i)
def MsN (M:List Blk)(hs:List HS):Nat→List Blk
 |0=>M
 |i+1=>MsN M hs i++nbN hs i
def insL (hs:List HS)(p:Nat→Bool):Nat→Nat→List (SV×SV)
 |0,_=>[]
 |i+1,n=>insL hs p i n++(match insN hs i with
  |some (m,k,v)=>if p i=true∧m=n then [(k,v)] else []
  |none=>[])
def updB (es':List (SV×SV)):Blk→Blk
 | .map es=>.map (es++es')
 |b=>b
def MuN (M:List Blk)(hs:List HS):Nat→List Blk
 |0=>M
 |i+1=>(match insN hs i with
  |some (n,k,v)=>putMap (MuN M hs i) n k v
  |none=>MuN M hs i)++nbN hs i
def owN (hs:List HS):Nat→List Nat
 |0=>[]
 |i+1=>owN hs i++repN i (nbN hs i).length
theorem svN_append {hs:List HS}{t:List HS}{i:Nat}(h:i<hs.length):svN (hs++t) i=svN hs i:=by simp[svN,List.getElem?_append_left h]
theorem nbN_append {hs:List HS}{t:List HS}{i:Nat}(h:i<hs.length):nbN (hs++t) i=nbN hs i:=by simp[nbN,List.getElem?_append_left h]
theorem insN_append {hs:List HS}{t:List HS}{i:Nat}(h:i<hs.length):insN (hs++t) i=insN hs i:=by simp[insN,List.getElem?_append_left h]
theorem FsN_append {ops:List Oper}{F:List SV}{hs t:List HS}:∀ i,i≤hs.length→FsN ops F (hs++t) i=FsN ops F hs i
 |0,_=>rfl
 |i+1,h=>by
  have ih:=FsN_append (ops:=ops) (F:=F) (hs:=hs) (t:=t) i (by omega)
  simp only[FsN,ih,svN_append (show i<hs.length by omega)]
theorem MuN_append {M:List Blk}{hs t:List HS}:∀ i,i≤hs.length→MuN M (hs++t) i=MuN M hs i
 |0,_=>rfl
 |i+1,h=>by
  have ih:=MuN_append (M:=M) (hs:=hs) (t:=t) i (by omega)
  simp only[MuN,ih,nbN_append (show i<hs.length by omega),insN_append (show i<hs.length by omega)]
theorem owN_append {hs t:List HS}:∀ i,i≤hs.length→owN (hs++t) i=owN hs i
 |0,_=>rfl
 |i+1,h=>by
  have ih:=owN_append (hs:=hs) (t:=t) i (by omega)
  simp only[owN,ih,nbN_append (show i<hs.length by omega)]
theorem putMap_length:∀ (M:List Blk) (n:Nat) (k v:SV),(putMap M n k v).length=M.length
 |[],_,_,_=>by simp[putMap]
 |b::l,0,_,_=>by cases b<;>simp[putMap]
 |b::l,n+1,k,v=>by simp[putMap,putMap_length l n k v]
theorem putMap_get:∀ (M:List Blk) (n:Nat) (k v:SV) (m:Nat),(putMap M n k v)[m]? = (M[m]?).map (updB (if n=m then [(k,v)] else []))
 |[],_,_,_,m=>by simp[putMap]
 |b::l,0,k,v,0=>by cases b<;>simp[putMap,updB]
 |b::l,0,k,v,m+1=>by
  cases b<;>simp only[putMap,List.getElem?_cons_succ]<;>rw[if_neg (by omega)]<;>cases l[m]? <;> simp[updB]<;>(rename_i c;cases c<;>simp[updB])
 |b::l,n+1,k,v,0=>by simp only[putMap,List.getElem?_cons_zero,Option.map_some];rw[if_neg (by omega)];cases b<;>simp[updB]
 |b::l,n+1,k,v,m+1=>by
  simp only[putMap,List.getElem?_cons_succ]
  rw[putMap_get l n k v m]
  by_cases e:n=m
  . rw[if_pos e,if_pos (by omega)]
  . rw[if_neg e,if_neg (by omega)]
theorem updB_updB (es es':List (SV×SV))(b:Blk):updB es' (updB es b)=updB (es++es') b:=by cases b<;>simp[updB]
theorem updB_nil (b:Blk):updB [] b=b:=by cases b<;>simp[updB]
theorem updB_own (es:List (SV×SV))(b:Blk):(updB es b).isOwn=b.isOwn:=by cases b<;>rfl
theorem MuN_length (M:List Blk)(hs:List HS):∀ i,(MuN M hs i).length=(MsN M hs i).length
 |0=>rfl
 |i+1=>by
  simp only[MuN,MsN,List.length_append]
  cases insN hs i with
  |none=>rw[MuN_length M hs i]
  |some p=>simp only[putMap_length,MuN_length M hs i]
section
variable {P:Program}{G:World→Prop}{E:List (TypeId×List CK)}{ops:List Oper}{bs:List Nat}{F:List SV}{M:List Blk}
def PStep (P:Program)(G:World→Prop)(E:List (TypeId×List CK))(ops:List Oper)(bs:List Nat)(F:List SV)(M:List Blk)(hs:List HS)(i:Nat):Prop:=∃ o,ops[i]? = some o∧
 ((wants ops (FsN ops F hs i) o.guard=some false∧svN hs i = .tup []∧nbN hs i=[]∧insN hs i=none) ∨
  (wants ops (FsN ops F hs i) o.guard=some true∧OpOk P G (evS (FsN ops F hs i)) (maskM (seesIns ops bs i) (visB bs M.length (owN hs i) i) M.length 0 (MuN M hs i)) o (svN hs i) (nbN hs i)∧
   (svN hs i).sc (visB bs M.length (owN hs (i+1)) i)=true∧(nbN hs i).all (Blk.sc (visB bs M.length (owN hs (i+1)) i))=true∧insN hs i=none∧(isLate o=true→lateS P (evS (FsN ops F hs i)) o=true)) ∨
  (wants ops (FsN ops F hs i) o.guard=some true∧svN hs i = .val undef∧nbN hs i=[]∧∃ (t:TypeId) (x k v:Operand) (n:Nat),o.op = .insert t x k v∧evS (FsN ops F hs i) x = .mp n∧
    insN hs i=some (n,evS (FsN ops F hs i) k,evS (FsN ops F hs i) v)∧insOk P E bs M.length i (owN hs i) (MuN M hs i) t n (evS (FsN ops F hs i) k) (evS (FsN ops F hs i) v)=some true))
theorem PStep.append {hs t:List HS}{i:Nat}(h:PStep P G E ops bs F M hs i)(hi:i<hs.length):PStep P G E ops bs F M (hs++t) i:=by
 unfold PStep at *
 rw[FsN_append i (by omega),MuN_append i (by omega),owN_append i (by omega),owN_append (i+1) (by omega),svN_append hi,nbN_append hi,insN_append hi]
 exact h
theorem OpOk.lit {ev:Operand→SV}{M:List Blk}{o:Oper}{nb:List Blk}{b:Bool}{sv:SV}(h:OpOk P G ev M o (.bool b) nb)(hd:∀ ρ:Val,sv.den ρ = .bool b):OpOk P G ev M o sv nb:=
 fun B ρ a w next Q he hM hG hn=>h B ρ a w next Q he hM hG fun ρ' w' v hv=>hn ρ' w' v fun _=>by rw[hd];exact hv (by simp)
theorem runHead_path {Γ:Env}(hΓ:EnvOk P G Γ){gs:List Nat}{K:List SV→List Blk→Prop}:
  ∀ (os:List Oper) (hs:List HS),(∀ j,j<os.length→ops[hs.length+j]? = os[j]?)→(∀ i,i<hs.length→PStep P G Γ.eqs ops bs F M hs i)→
    runHead P Γ ops gs bs M.length os hs.length (FsN ops F hs hs.length) (MuN M hs hs.length) (owN hs hs.length) K→
    ∃ hs':List HS,hs'.length=hs.length+os.length∧(∀ i,i<hs'.length→PStep P G Γ.eqs ops bs F M hs' i)∧K (FsN ops F hs' hs'.length) (MuN M hs' hs'.length)
 |[],hs,_,hp,h=>⟨hs,by simp,hp,h⟩
 |o::os,hs,hops,hp,h=>by
  have ho:ops[hs.length]? = some o:=by simpa using hops 0 (by simp)
  have hd:dstN ops hs.length=o.dst:=by simp[dstN,ho]
  have go:∀ (sv:SV) (nb:List Blk) (ins:Option (Nat×SV×SV)),PStep P G Γ.eqs ops bs F M (hs++[⟨sv,nb,ins⟩]) hs.length→
        runHead P Γ ops gs bs M.length os (hs.length+1) (setF (FsN ops F hs hs.length) o.dst sv) ((match ins with|some (n,k,v)=>putMap (MuN M hs hs.length) n k v|none=>MuN M hs hs.length)++nb) (owN hs hs.length++repN hs.length nb.length) K→
        ∃ hs':List HS,hs'.length=hs.length+(o::os).length∧(∀ i,i<hs'.length→PStep P G Γ.eqs ops bs F M hs' i)∧K (FsN ops F hs' hs'.length) (MuN M hs' hs'.length):=by
   intro sv nb ins hstep hrun
   have e1:svN (hs++[⟨sv,nb,ins⟩]) hs.length=sv:=by simp[svN]
   have e2:nbN (hs++[⟨sv,nb,ins⟩]) hs.length=nb:=by simp[nbN]
   have e3:insN (hs++[⟨sv,nb,ins⟩]) hs.length=ins:=by simp[insN]
   obtain⟨hs',hl,hp',hK⟩:=runHead_path hΓ (gs:=gs) (K:=K) os (hs++[⟨sv,nb,ins⟩]) (fun j hj=>by
     have:=hops (j+1) (by simpa using hj)
     simpa [Nat.add_assoc,Nat.add_comm 1 j] using this)
        (fun i hi=>by
          rw[List.length_append,List.length_singleton] at hi
          by_cases e:i<hs.length
          . exact(hp i e).append e
          . obtain rfl:i=hs.length:=by omega
            exact hstep)
        (by
          rw[List.length_append,List.length_singleton]
          simp only[FsN,MuN,owN,FsN_append hs.length (Nat.le_refl _),MuN_append hs.length (Nat.le_refl _),owN_append hs.length (Nat.le_refl _),e1,e2,e3,hd]
          exact hrun)
   exact⟨hs',by rw[hl];simp;omega,hp',hK⟩
  have mk:∀ (sv:SV) (nb:List Blk) (ins:Option (Nat×SV×SV)),((wants ops (FsN ops F hs hs.length) o.guard=some false∧sv = .tup []∧nb=[]∧ins=none) ∨
        (wants ops (FsN ops F hs hs.length) o.guard=some true∧OpOk P G (evS (FsN ops F hs hs.length)) (maskM (seesIns ops bs hs.length) (visB bs M.length (owN hs hs.length) hs.length) M.length 0 (MuN M hs hs.length)) o sv nb∧
          sv.sc (visB bs M.length (owN hs hs.length++repN hs.length nb.length) hs.length)=true∧nb.all (Blk.sc (visB bs M.length (owN hs hs.length++repN hs.length nb.length) hs.length))=true∧ins=none∧(isLate o=true→lateS P (evS (FsN ops F hs hs.length)) o=true)) ∨
        (wants ops (FsN ops F hs hs.length) o.guard=some true∧sv = .val undef∧nb=[]∧∃ (t:TypeId) (x k v:Operand) (n:Nat),o.op = .insert t x k v∧evS (FsN ops F hs hs.length) x = .mp n∧
          ins=some (n,evS (FsN ops F hs hs.length) k,evS (FsN ops F hs hs.length) v)∧insOk P Γ.eqs bs M.length hs.length (owN hs hs.length) (MuN M hs hs.length) t n (evS (FsN ops F hs hs.length) k) (evS (FsN ops F hs hs.length) v)=some true))→
        PStep P G Γ.eqs ops bs F M (hs++[⟨sv,nb,ins⟩]) hs.length:=by
   intro sv nb ins hh
   refine⟨o,by simpa using ho,?_⟩
   have e1:svN (hs++[⟨sv,nb,ins⟩]) hs.length=sv:=by simp[svN]
   have e2:nbN (hs++[⟨sv,nb,ins⟩]) hs.length=nb:=by simp[nbN]
   have e4:insN (hs++[⟨sv,nb,ins⟩]) hs.length=ins:=by simp[insN]
   have e3:owN (hs++[⟨sv,nb,ins⟩]) (hs.length+1)=owN hs hs.length++repN hs.length nb.length:=by simp only[owN,owN_append hs.length (Nat.le_refl _),e2]
   rw[FsN_append hs.length (Nat.le_refl _),MuN_append hs.length (Nat.le_refl _),owN_append hs.length (Nat.le_refl _),e1,e2,e3,e4]
   exact hh
  rw[runHead_cons] at h
  unfold stepD at h
  simp only[force3_eq,addM_eq,setFF_eq,spine_eq,forceM_eq] at h
  have hnil:repN hs.length ([]:List Blk).length=[]:=rfl
  split at h
  . exact h.elim
  . rename_i hw
    exact go (.tup []) [] none (mk _ _ _ (.inl ⟨hw,rfl,rfl,rfl⟩)) (by rw[hnil,List.append_nil,List.append_nil];exact h)
  . rename_i hw
    split at h
    . rename_i t x k v hi
      have hop:o.op = .insert t x k v:=by
       unfold insOf at hi
       split at hi
       . rename_i hop
         simp only[Option.some.injEq,Prod.mk.injEq] at hi
         obtain⟨rfl,rfl,rfl,rfl⟩:=hi
         exact hop
       . cases hi
      split at h
      . rename_i n hx
        split at h
        . rename_i b hb
          obtain⟨rfl,h⟩:=h
          exact go (.val undef) [] (some (n,_,_)) (mk _ _ _ (.inr (.inr ⟨hw,rfl,rfl,t,x,k,v,n,hop,hx,rfl,hb⟩))) (by rw[hnil,List.append_nil,List.append_nil];exact h)
        . exact h.elim
      . exact h.elim
    . obtain⟨sv,nb,hK,hO⟩:=Res.good_run _ h (stepH_good hΓ)
      split at hK
      . exact hK.elim
      . rename_i hc
        simp only[Bool.and_eq_true] at hc
        have hlt:isLate o=true→lateS P (evS (FsN ops F hs hs.length)) o=true:=fun e=>by
         have:=hc.2
         rw[e] at this
         exact this
        split at hK
        . exact go sv nb none (mk _ _ _ (.inr (.inl ⟨hw,hO,hc.1.1,hc.1.2,rfl,hlt⟩))) hK
        . split at hK
          . exact go _ nb none (mk _ _ _ (.inr (.inl ⟨hw,hO,rfl,hc.1.2,rfl,hlt⟩))) hK
          . exact go _ nb none (mk _ _ _ (.inr (.inl ⟨hw,hO,rfl,hc.1.2,rfl,hlt⟩))) hK
          . rename_i b
            cases b
            . exact go .ff nb none (mk _ _ _ (.inr (.inl ⟨hw,hO.lit (fun _=>rfl),rfl,hc.1.2,rfl,hlt⟩))) (hK.2 rfl)
            . exact go .tt nb none (mk _ _ _ (.inr (.inl ⟨hw,hO.lit (fun _=>rfl),rfl,hc.1.2,rfl,hlt⟩))) (hK.1 rfl)
          . exact hK.elim
structure DrawOk (ops:List Oper)(bs:List Nat)(h:Nat):Prop where
 low:∀ (i:Nat) (o:Oper),ops[i]? = some o→∀ e∈o.after,Region.binds .any e=true→e.on<i
 clos:∀ (i j:Nat) (o:Oper),ops[i]? = some o→bitB bs i j=true→j<ops.length→∃ e∈o.after,Region.binds .any e=true∧(e.on=j∨bitB bs e.on j=true)
 hle:h≤ops.length
 seq:Region.seqB .any ops.toArray (ops.length-h) h (listedH ops.length h)=true
 nosel:Region.noSelect ops.toArray=true
 guard:∀ (i:Nat) (o:Oper) (g:Nat) (b:Bool),i<h→ops[i]? = some o→o.guard=some (g,b)→bitB bs i g=true∧g<i
 dst:∀ (i j t:Nat) (o:Oper),i<h→j<h→i≠j→ops[i]? = some o→dstN ops j=some t→o.dst≠some t
 looks:∀ (i j t:Nat) (o:Oper),i<h→j<h→i≠j→ops[i]? = some o→dstN ops j=some t→t∈o.looksAt ops.toArray→(j<i→bitB bs i j=true)∧(i<j→bitB bs j i=true)
 late:∀ (i j:Nat) (o oj:Oper),i<h→ops[i]? = some o→lateN ops bs h i=true→ops[j]? = some oj→i≠j→bitB bs i j=true∨(∃ e∈oj.after,Region.binds .any e=true∧e.on=i)∨o.apart ops.toArray oj=true
 tail:∀ (i j:Nat),h≤i→i<ops.length→j<i→bitB bs i j=true∨(j<h∧lateN ops bs h j=true)
 inst:∀ (i j:Nat) (o o':Oper) (t t':TypeId),i<h→j<h→ops[i]? = some o→ops[j]? = some o'→insT o=some t→insT o'=some t'→t=t'
theorem drawOk_spec {h:Nat}(hd:drawOk ops bs h=true):DrawOk ops bs h:=by
 simp only[drawOk,Bool.and_eq_true,decide_eq_true_eq] at hd
 obtain⟨⟨⟨⟨⟨⟨h1,h2⟩,h3⟩,hns⟩,h4⟩,h5⟩,h6⟩:=hd
 simp only[closB,List.all_eq_true,List.mem_range] at h1 h4 h5 h6
 have c:∀ (i:Nat) (o:Oper),ops[i]? = some o→(∀ e∈o.after,Region.binds .any e=true→e.on<i)∧∀ j,bitB bs i j=true→j<ops.length→∃ e∈o.after,Region.binds .any e=true∧(e.on=j∨bitB bs e.on j=true):=by
  intro i o ho
  have hi:i<ops.length:=(List.getElem?_eq_some_iff.1 ho).1
  have:=h1 i hi
  rw[ho] at this
  simp only[Bool.and_eq_true,List.all_eq_true,Bool.or_eq_true,Bool.not_eq_true',decide_eq_true_eq,List.mem_range,List.any_eq_true] at this
  refine⟨fun e he hb=>(this.1 e (by simpa using he)).resolve_left (by simp[hb]),fun j hj hlt => ?_⟩
  rcases this.2 j hlt with hh | ⟨e,he,hb,hh⟩
  . rw[hj] at hh;cases hh
  . exact⟨e,by simpa using he,hb,hh⟩
 have d:∀ (i:Nat) (o:Oper),i<h→ops[i]? = some o→(∀ g b,o.guard=some (g,b)→bitB bs i g=true∧g<i)∧(∀ j t,j<h→i≠j→dstN ops j=some t→o.dst≠some t∧(t∈o.looksAt ops.toArray→(if j<i then bitB bs i j else bitB bs j i)=true))∧
   (lateN ops bs h i=true→∀ j oj,ops[j]? = some oj→i≠j→bitB bs i j=true∨(∃ e∈oj.after,Region.binds .any e=true∧e.on=i)∨o.apart ops.toArray oj=true):=by
  intro i o hi ho
  have:=h4 i hi
  rw[ho] at this
  simp only[Bool.and_eq_true] at this
  obtain⟨⟨⟨_,t2⟩,t3⟩,t4⟩:=this
  refine⟨fun g b hg => ?_,fun j t hj hne ht => ?_,fun hl j oj hoj hne => ?_⟩
  . rw[hg] at t2
    simpa using t2
  . rw[List.all_eq_true] at t3
    have:=t3 j (by simpa using hj)
    rw[ht] at this
    simp only[Bool.or_eq_true,decide_eq_true_eq,Bool.and_eq_true,Bool.not_eq_true'] at this
    rcases this with e | ⟨e1,e2⟩
    . exact absurd e hne
    . refine⟨e1,fun hin => ?_⟩
      rcases e2 with e2|e2
      . exact absurd (List.contains_iff_mem.2 hin) (by rw[e2];simp)
      . exact e2
  . rw[hl] at t4
    simp only[Bool.not_true,Bool.false_or,List.all_eq_true,List.mem_range] at t4
    have:=t4 j (List.getElem?_eq_some_iff.1 hoj).1
    rw[hoj] at this
    simp only[Bool.or_eq_true,decide_eq_true_eq,List.any_eq_true,Bool.and_eq_true] at this
    rcases this with(e|e) | (⟨e,he,hb,hh⟩|e)
    . exact absurd e hne
    . exact .inl e
    . exact .inr (.inl ⟨e,by simpa using he,hb,hh⟩)
    . exact .inr (.inr e)
 refine⟨fun i o ho=>(c i o ho).1,fun i j o ho=>(c i o ho).2 j,h2,h3,hns,fun i o g b hi ho=>(d i o hi ho).1 g b,fun i j t o hi hj hne ho ht=>((d i o hi ho).2.1 j t hj hne ht).1,fun i j t o hi hj hne ho ht hin => ?_,fun i j o oj hi ho hl hoj hne=>(d i o hi ho).2.2 hl j oj hoj hne,fun i j hi hlt hj => ?_,fun i j o o' t t' hi hj ho ho' ht ht' => ?_⟩
 . have:=((d i o hi ho).2.1 j t hj hne ht).2 hin
   exact⟨fun hlt=>by rwa [if_pos hlt] at this,fun hlt=>by rwa [if_neg (by omega)] at this⟩
 . have:=h5 i hlt
   simp only[Bool.or_eq_true,decide_eq_true_eq,List.all_eq_true,List.mem_range,Bool.and_eq_true] at this
   exact(this.resolve_left (by omega)) j hj
 . have:=h6 i hi j hj
   rw[ho,ho'] at this
   simp only[Option.bind_some,ht,ht',decide_eq_true_eq] at this
   exact this
theorem repN_length (i:Nat):∀ n,(repN i n).length=n
 |0=>rfl
 |n+1=>by simp[repN,repN_length i n]
theorem repN_get (i:Nat):∀ (n p k:Nat),(repN i n)[p]? = some k→k=i
 |0,p,k,h=>by simp[repN] at h
 |n+1,0,k,h=>by simp[repN] at h;exact h.symm
 |n+1,p+1,k,h=>by simp only[repN,List.getElem?_cons_succ] at h;exact repN_get i n p k h
theorem MsN_length (hs:List HS):∀ i,(MsN M hs i).length=M.length+(owN hs i).length
 |0=>by simp[MsN,owN]
 |i+1=>by simp only[MsN,owN,List.length_append,MsN_length hs i,repN_length];omega
theorem MsN_pre (hs:List HS){i:Nat}:∀ {j:Nat},i≤j→∀ (n:Nat) (b:Blk),(MsN M hs i)[n]? = some b→(MsN M hs j)[n]? = some b:=by
 intro j hij
 induction hij with
 |refl=>exact fun n b h=>h
 |step _ ih=>
  intro n b h
  have:=ih n b h
  simp only[MsN]
  rw[List.getElem?_append_left (List.getElem?_eq_some_iff.1 this).1]
  exact this
theorem owN_pre (hs:List HS){i:Nat}:∀ {j:Nat},i≤j→∀ (n k:Nat),(owN hs i)[n]? = some k→(owN hs j)[n]? = some k:=by
 intro j hij
 induction hij with
 |refl=>exact fun n b h=>h
 |step _ ih=>
  intro n b h
  have:=ih n b h
  simp only[owN]
  rw[List.getElem?_append_left (List.getElem?_eq_some_iff.1 this).1]
  exact this
theorem owN_lt (hs:List HS):∀ (i n k:Nat),(owN hs i)[n]? = some k→k<i
 |0,n,k,h=>by simp[owN] at h
 |i+1,n,k,h=>by
  simp only[owN,List.getElem?_append] at h
  split at h
  . exact Nat.lt_succ_of_lt (owN_lt hs i n k h)
  . rw[repN_get i _ _ k h];exact Nat.lt_succ_self i
theorem owN_new (hs:List HS){i h p:Nat}(hi:i<h)(h1:(owN hs i).length≤p)(h2:p < (owN hs i).length+(nbN hs i).length):(owN hs h)[p]? = some i:=by
 have:(owN hs (i+1))[p]? = some i:=by
  simp only[owN]
  rw[List.getElem?_append_right h1]
  have hlt:p - (owN hs i).length < (repN i (nbN hs i).length).length:=by rw[repN_length];omega
  rw[List.getElem?_eq_getElem hlt]
  congr 1
  exact repN_get i _ _ _ (List.getElem?_eq_getElem hlt)
 exact owN_pre hs hi p i this
theorem FsN_get (ops:List Oper)(F:List SV)(hs:List HS):∀ (i t:Nat) (x:SV),(FsN ops F hs i)[t]? = some x→
  (∃ j,j<i∧dstN ops j=some t∧x=svN hs j∧t<F.length)∨((∀ j,j<i→dstN ops j≠some t)∧F[t]? = some x)
 |0,t,x,h=>.inr ⟨fun j hj=>by omega,h⟩
 |i+1,t,x,h=>by
  have hlen:∀ i,(FsN ops F hs i).length=F.length:=by
   intro i;induction i with
   |zero=>rfl
   |succ i ih=>simp only[FsN,setF_length,ih]
  simp only[FsN] at h
  have hlt:t<F.length:=by have:=(List.getElem?_eq_some_iff.1 h).1;rw[setF_length,hlen] at this;exact this
  rcases setF_get h with⟨hd,rfl⟩ | ⟨hd,h'⟩
  . exact .inl ⟨i,Nat.lt_succ_self i,hd,rfl,hlt⟩
  . rcases FsN_get ops F hs i t x h' with⟨j,hj,h1,h2,h3⟩ | ⟨h1,h2⟩
    . exact .inl ⟨j,by omega,h1,h2,h3⟩
    . refine .inr ⟨fun j hj => ?_,h2⟩
      rcases Nat.lt_or_ge j i with hlt|hge
      . exact h1 j hlt
      . obtain rfl:j=i:=by omega
        exact hd
theorem maskM_get (q:Bool)(p:Nat→Bool)(m0:Nat):∀ (M:List Blk) (n k:Nat) (b:Blk),(maskM q p m0 n M)[k]? = some b→b = .dead∨(M[k]? = some b∧p (n+k)=true∧(q=false→m0≤n+k→∀ es,b ≠ .map es))
 |[],n,k,b,h=>by simp[maskM] at h
 |c::M,n,0,b,h=>by
  simp only[maskM,List.getElem?_cons_zero,Option.some.injEq] at h
  split at h
  . rename_i hp
    subst h
    unfold hidB
    split
    . split
      . rename_i hb
        refine .inr ⟨rfl,hp,fun _ hge es => ?_⟩
        simp at hb;omega
      . split
        . exact .inr ⟨rfl,hp,fun h=>by cases h⟩
        . exact .inl rfl
    . rename_i hno
      exact .inr ⟨rfl,hp,fun _ _ es e=>hno es e⟩
  . exact .inl h.symm
 |c::M,n,k+1,b,h=>by
  simp only[maskM,List.getElem?_cons_succ] at h ⊢
  rcases maskM_get q p m0 M (n+1) k b h with h1 | ⟨h1,h2,h3⟩
  . exact .inl h1
  . exact .inr ⟨h1,by rw[show n+(k+1)=n+1+k by omega];exact h2,fun hq hge=>h3 hq (by omega)⟩
theorem maskM_length (q:Bool)(p:Nat→Bool)(m0:Nat):∀ (M:List Blk) (n:Nat),(maskM q p m0 n M).length=M.length
 |[],_=>rfl
 |_::M,n=>by simp[maskM,maskM_length q p m0 M (n+1)]
theorem insL_none {hs:List HS}{h:Nat}(hq:noIns ops=true)(hP:∀ i,i<h→PStep P G E ops bs F M hs i)(p:Nat→Bool)(n:Nat):∀ i,i≤h→insL hs p i n=[]
 |0,_=>rfl
 |i+1,hi=>by
  have hn:insN hs i=none:=by
   obtain⟨o,ho,hor⟩:=hP i hi
   rcases hor with⟨_,_,_,e⟩ | ⟨_,_,_,_,e,_⟩ | ⟨_,_,_,t,x,k,v,n',hop,_⟩
   . exact e
   . exact e
   . have:=List.all_eq_true.1 hq o (List.mem_of_getElem? ho)
     rw[hop] at this;cases this
  simp only[insL,hn,insL_none hq hP p n i (by omega),List.append_nil]
theorem insL_all {hs:List HS}{p:Nat→Bool}{n:Nat}{i:Nat}:∀ {h:Nat},i≤h→(∀ j,j<i→(insN hs j).isSome=true→p j=true)→(∀ j,i≤j→j<h→insN hs j=none)→insL hs p h n=insL hs (fun _=>true) i n
 |0,hi,_,_=>by
  obtain rfl:i=0:=by omega
  rfl
 |h+1,hi,h1,h2=>by
  rcases Nat.lt_or_ge h i with hlt|hge
  . obtain rfl:i=h+1:=by omega
    have:=insL_all (i:=h) (h:=h) (p:=p) (hs:=hs) (n:=n) (Nat.le_refl h) (fun j hj=>h1 j (by omega)) (fun j a b=>absurd b (by omega))
    simp only[insL,this]
    cases hn:insN hs h with
    |none=>rfl
    |some q=>
     have hp:=h1 h (by omega) (by rw[hn];rfl)
     simp[hp]
  . have:=insL_all (h:=h) (n:=n) hge h1 (fun j a b=>h2 j a (by omega))
    simp only[insL,this,h2 h hge (by omega),List.append_nil]
theorem insOk_spec {t:TypeId}{i n m0:Nat}{own:List Nat}{k v:SV}(h:insOk P E bs m0 i own M t n k v=some true):∃ (kt et:TypeId) (j:Nat) (es:List (SV×SV)),P.underlying t=some (.map kt et)∧m0≤n∧own[n-m0]? = some j∧M[n]? = some (.map es)∧bitB bs i j=true∧keysOk P E kt k es=true∧v ≠ .junk∧k.sc (visB bs m0 own i)=true∧v.sc (visB bs m0 own i)=true∧freshKey P E kt k es=some true:=by
 unfold insOk at h
 split at h
 . rename_i kt et hu
   split at h
   . rename_i j es h1 h2 h3
     split at h
     . rename_i g1 g2 g3 g4
       rw[nth_eq] at h2 h3
       simp only[Bool.and_eq_true] at g4
       exact⟨kt,et,j,es,hu,Nat.le_of_ble_eq_true h1,h2,h3,g1,g2,SV.nj_ne g3,g4.1,g4.2,h⟩
     . cases h
   . cases h
 . cases h
theorem MuN_get (hs:List HS):∀ (i:Nat),(∀ j,j<i→∀ n k v,insN hs j=some (n,k,v)→n < (MsN M hs j).length)→∀ n,(MuN M hs i)[n]? = ((MsN M hs i)[n]?).map (updB (insL hs (fun _=>true) i n))
 |0,_,n=>by simp only[MuN,MsN,insL];cases M[n]? <;> simp[updB_nil]
 |i+1,hlt,n=>by
  have ih:=MuN_get hs i (fun j hj=>hlt j (by omega)) n
  have none_of:∀ i',(∀ j,j<i'→∀ n k v,insN hs j=some (n,k,v)→n < (MsN M hs j).length)→(MsN M hs i').length≤n→insL hs (fun _=>true) i' n=[]:=by
   intro i'
   induction i' with
   |zero=>intro _ _;rfl
   |succ j ihj=>
    intro hh hge
    simp only[MsN,List.length_append] at hge
    simp only[insL,ihj (fun k hk=>hh k (by omega)) (by omega),List.nil_append]
    split
    . rename_i m k v hm
      have:=hh j (by omega) m k v hm
      rw[if_neg (by omega)]
    . rfl
  simp only[MuN,MsN,insL]
  rcases Nat.lt_or_ge n (MsN M hs i).length with h1|h1
  . rw[List.getElem?_append_left (show n < (MsN M hs i).length from h1)]
    cases hi:insN hs i with
    |none=>
     simp only
     rw[List.getElem?_append_left (by rw[MuN_length];exact h1),ih,List.append_nil]
    |some q=>
     obtain⟨m,k,v⟩:=q
     simp only
     rw[List.getElem?_append_left (by rw[putMap_length,MuN_length];exact h1),putMap_get,ih,Option.map_map]
     congr 1
     funext b
     simp only[Function.comp,updB_updB]
     congr 2
     by_cases e:m=n<;>simp[e]
  . rw[List.getElem?_append_right (show(MsN M hs i).length≤n from h1)]
    have e0:insL hs (fun _=>true) i n=[]:=none_of i (fun j hj=>hlt j (by omega)) h1
    have e1:(match insN hs i with|some (m,k,v)=>if True∧m=n then [(k,v)] else []|none=>([]:List (SV×SV)))=[]:=by
        split
        . rename_i m k v hm
          have:=hlt i (by omega) m k v hm
          rw[if_neg (by omega)]
        . rfl
    rw[e0,e1]
    have e2:∀ X:List Blk,X.length=(MsN M hs i).length→(X++nbN hs i)[n]? = (nbN hs i)[n - (MsN M hs i).length]? := fun X hX=>by rw[List.getElem?_append_right (by omega),hX]
    rw[e2 _ (by cases insN hs i<;>simp[putMap_length,MuN_length])]
    cases (nbN hs i)[n - (MsN M hs i).length]? <;> simp[updB_nil]
theorem visB_spec {m0:Nat}{own:List Nat}{i n:Nat}(h:visB bs m0 own i n=true):n<m0∨(m0≤n∧∃ k,own[n-m0]? = some k∧(k=i∨bitB bs i k=true)):=by
 unfold visB at h
 split at h
 . rename_i hb;exact .inl (by simpa using hb)
 . rename_i hb
   have hge:m0≤n:=by
    rcases Nat.lt_or_ge n m0 with h1|h1
    . exact absurd hb (by simp[h1])
    . exact h1
   split at h
   . rename_i k hk
     rw[nth_eq] at hk
     refine .inr ⟨hge,k,hk,?_⟩
     split at h
     . rename_i e;exact .inl (Nat.eq_of_beq_eq_true e)
     . exact .inr h
   . cases h
theorem blk_at (hs:List HS){i h n:Nat}{b:Blk}(hi:i<h)(hge:M.length≤n)(hk:(owN hs h)[n-M.length]? = some i)(hb:(MsN M hs h)[n]? = some b):∃ k,n=(MsN M hs i).length+k∧(nbN hs i)[k]? = some b:=by
 have h1:(MsN M hs i).length≤n:=by
  rcases Nat.lt_or_ge n (MsN M hs i).length with hlt|h1
  . exfalso
    rw[MsN_length] at hlt
    have hp:n-M.length < (owN hs i).length:=by omega
    have:=owN_pre hs (Nat.le_of_lt hi) _ _ (List.getElem?_eq_getElem hp)
    rw[hk] at this
    have hk':(owN hs i)[n-M.length]? = some i:=by rw[List.getElem?_eq_getElem hp];exact this.symm
    have:=owN_lt hs i _ _ hk'
    omega
  . exact h1
 have h2:n < (MsN M hs (i+1)).length:=by
  rcases Nat.lt_or_ge n (MsN M hs (i+1)).length with h2|hge2
  . exact h2
  . exfalso
    have:∀ j,i+1≤j→(MsN M hs (i+1)).length≤n→(owN hs j)[n-M.length]? ≠ some i:=by
        intro j hj hge3
        induction hj with
        |refl=>
         intro he
         have:=(List.getElem?_eq_some_iff.1 he).1
         rw[MsN_length] at hge3;omega
        |step _ ih=>
         rename_i j hj
         intro he
         simp only[owN,List.getElem?_append] at he
         split at he
         . exact ih he
         . have:=repN_get _ _ _ _ he
           have:i+1≤j:=hj
           omega
    exact this h hi hge2 hk
 refine⟨n - (MsN M hs i).length,by omega,?_⟩
 have h3:(MsN M hs (i+1))[n]? = some ((MsN M hs (i+1))[n]'h2):=List.getElem?_eq_getElem h2
 have h4:=MsN_pre (M:=M) hs (show i+1≤h from hi) _ _ h3
 rw[hb] at h4
 rw[← h4] at h3
 simp only[MsN] at h3
 rwa [List.getElem?_append_right h1] at h3
theorem blk_of (hs:List HS){i h n:Nat}{b:Blk}(hi:i<h)(hge:M.length≤n)(hk:(owN hs h)[n-M.length]? = some i)(hb:(MsN M hs h)[n]? = some b):b∈nbN hs i:=by
 obtain⟨k,_,hk'⟩:=blk_at hs hi hge hk hb
 exact List.mem_of_getElem? hk'
def Pres (m0 h:Nat)(hs:List HS)(listed:Array Bool)(n:Nat):Prop:=n<m0∨(m0≤n∧∃ k,(owN hs h)[n-m0]? = some k∧listed.getD k false=true)
def lst (listed:Array Bool):Nat→Bool:=fun i=>listed.getD i false
structure Inv (B:Bd)(w0:World)(L:LD)(ops:List Oper)(F:List SV)(M:List Blk)(hs:List HS)(h:Nat)(ρ0:Val)(listed:Array Bool)(ρ:Val)(a:Act)(w:World):Prop where
 size:listed.size=ops.length
 tail:∀ t,h≤t→listed.getD t false=false
 clos:∀ (j:Nat) (o:Oper),listed.getD j false=true→ops[j]? = some o→∀ e∈o.after,Region.binds .any e=true→listed.getD e.on false=true
 marks:Marks L.ds w0 w a.defers
 flen:F.length=L.n
 tsize:a.tmps.size=L.n
 slotL:∀ (i s:Nat),i<h→listed.getD i false=true→dstN ops i=some s→s<L.n→svN hs i ≠ .junk→a.tmps[s]? = some ((svN hs i).den ρ)
 slotF:∀ (s:Nat) (x:SV),F[s]? = some x→(∀ i,i<h→listed.getD i false=true→dstN ops i≠some s)→x ≠ .junk→a.tmps[s]? = some (x.den ρ)
 msize:B.s≤w.heap.size
 ok:∀ (n:Nat) (b:Blk),(MsN M hs h)[n]? = some b→Pres M.length h hs listed n→(updB (insL hs (lst listed) h n) b).ok B ρ n w
 apart:∀ (n m:Nat) (b c:Blk) (l k:Loc),n≠m→(MsN M hs h)[n]? = some b→(MsN M hs h)[m]? = some c→Pres M.length h hs listed n→Pres M.length h hs listed m→b.isOwn=true→c.isOwn=true→ρ n=some l→ρ m=some k→l.blk≠k.blk
 base:∀ n,n<M.length→ρ n=ρ0 n
 below:Kept B w0 w
 zb:∀ k,B.z k → ¬ B.may k
 zlo:∀ k,B.z k→ρ.z k
 zhi:∀ k,ρ.z k→k<w.heap.size∧(B.z k∨B.may k)
 zown:∀ (n:Nat) (b:Blk) (l:Loc),(MsN M hs h)[n]? = some b→Pres M.length h hs listed n→b.isOwn=true→ρ n=some l → ¬ ρ.z l.blk
 zc:∀ k,ρ.z k→B.z k∨isC w k
theorem insL_mem {hs:List HS}{p:Nat→Bool}{n:Nat}{q:SV×SV}:∀ {i:Nat},q∈insL hs p i n→∃ j,j<i∧p j=true∧insN hs j=some (n,q.1,q.2)
 |0,h=>by simp[insL] at h
 |i+1,h=>by
  simp only[insL,List.mem_append] at h
  rcases h with h|h
  . obtain⟨j,hj,h1,h2⟩:=insL_mem h
    exact⟨j,by omega,h1,h2⟩
  . split at h
    . rename_i m k v hm
      split at h
      . rename_i hc
        obtain rfl:=List.mem_singleton.1 h
        exact⟨i,Nat.lt_succ_self i,hc.1,by rw[hm,hc.2]⟩
      . cases h
    . cases h
theorem insL_of {hs:List HS}{p:Nat→Bool}{n j:Nat}{k v:SV}:∀ {i:Nat},j<i→p j=true→insN hs j=some (n,k,v)→(k,v)∈insL hs p i n
 |0,h,_,_=>by omega
 |i+1,h,hp,hj=>by
  simp only[insL,List.mem_append]
  rcases Nat.lt_or_ge j i with h1|h1
  . exact .inl (insL_of h1 hp hj)
  . obtain rfl:j=i:=by omega
    right
    rw[hj];simp[hp]
theorem insL_congr {hs:List HS}{p q:Nat→Bool}{n:Nat}:∀ {i:Nat},(∀ j,j<i→insN hs j≠none→p j=q j)→insL hs p i n=insL hs q i n
 |0,_=>rfl
 |i+1,h=>by
  simp only[insL,insL_congr (i:=i) (fun j hj=>h j (by omega))]
  congr 1
  cases hi:insN hs i with
  |none=>rfl
  |some r=>
   have:=h i (Nat.lt_succ_self i) (by rw[hi];simp)
   simp only[this]
theorem insL_put {hs:List HS}{p q:Nat→Bool}{n i0:Nat}{k v:SV}(h0:insN hs i0=some (n,k,v))(hp:p i0=false)(hq:q i0=true)(he:∀ j,j≠i0→p j=q j):∀ {i:Nat},i0<i→(insL hs q i n).Perm (insL hs p i n++[(k,v)])
 |0,h=>by omega
 |i+1,h=>by
  simp only[insL]
  rcases Nat.lt_or_ge i0 i with h1|h1
  . have ih:=insL_put h0 hp hq he (i:=i) h1
    rw[he i (by omega)]
    refine(ih.append_right _).trans ?_
    rw[List.append_assoc,List.append_assoc]
    exact List.Perm.append_left _ List.perm_append_comm
  . obtain rfl:i0=i:=by omega
    have e:insL hs q i0 n=insL hs p i0 n:=insL_congr fun j hj _=>(he j (by omega)).symm
    rw[h0,e]
    simp[hp,hq]
theorem updB_sc {p:Nat→Bool}{es:List (SV×SV)}{b:Blk}(hb:b.sc p=true)(he:∀ q∈es,q.1.sc p=true∧q.2.sc p=true):(updB es b).sc p=true:=by
 cases b with
 |map es0=>
  simp only[Blk.sc,updB,Bool.and_eq_true,List.map_append,scL_eq,List.all_append,List.all_eq_true,List.mem_map] at hb ⊢
  refine⟨⟨hb.1,?_⟩,⟨hb.2,?_⟩⟩
  . rintro x ⟨q,hq,rfl⟩;exact(he q hq).1
  . rintro x ⟨q,hq,rfl⟩;exact(he q hq).2
 |_=>exact hb
theorem MapIs.of_perm {ρ:Val}{es es':List (SV×SV)}{arr:Array MapEntry}(h:MapIs ρ es arr)(hp:es'.Perm es):MapIs ρ es' arr:=by
 have e:(esD ρ es').Perm (esD ρ es):=hp.map _
 exact⟨h.perm.trans e.symm,(e.map _).symm.nodup h.nodup⟩
section
variable {B:Bd}{w0:World}{L:LD}{h:Nat}{hs:List HS}{ρ0:Val}{listed:Array Bool}{ρ:Val}{a:Act}{w:World}
theorem Inv.bits (hd:DrawOk ops bs h)(hI:Inv B w0 L ops F M hs h ρ0 listed ρ a w){o:Oper}:∀ (i:Nat),(ops[i]? = some o→∀ e∈o.after,Region.binds .any e=true→listed.getD e.on false=true)→ops[i]? = some o→∀ j,j<ops.length→bitB bs i j=true→listed.getD j false=true:=by
 intro i
 induction i using Nat.strongRecOn generalizing o with
 |_ i ih=>
  intro hr ho j hj hb
  obtain⟨e,he,hbe,hor⟩:=hd.clos i j o ho hb hj
  have hel:=hr ho e he hbe
  rcases hor with rfl|hb'
  . exact hel
  . have hlt:=hd.low i o ho e he hbe
    obtain⟨oe,hoe⟩:∃ oe,ops[e.on]? = some oe:=by
      have:e.on<ops.length:=by have:=(List.getElem?_eq_some_iff.1 ho).1;omega
      exact⟨_,List.getElem?_eq_getElem this⟩
    exact ih e.on hlt (fun ho'=>hI.clos e.on oe hel ho') hoe j hj hb'
theorem ready_spec {i:Nat}(hr:i∈Region.ready .any ops.toArray listed):listed.getD i true=false∧∃ o,ops[i]? = some o∧∀ e∈o.after,Region.binds .any e=true→listed.getD e.on false=true:=by
 have:=mem_ready.1 hr
 simp only[List.getElem?_toArray] at this
 exact this
theorem setD {i:Nat}(hisz:i<listed.size):∀ k,(listed.setIfInBounds i true).getD k false=true↔(k=i∨listed.getD k false=true):=by
 intro k
 by_cases e:k=i
 . subst e;simp[hisz]
 . rw[getD_set_ne false (Ne.symm e)];simp[e]
theorem Inv.next (hd:DrawOk ops bs h)(hh:hs.length=h)(hP:∀ i,i<h→PStep P G E ops bs F M hs i)(hF:scL (fun n=>decide (n<M.length)) F=true)(hM:scAll M.length M=true)
  (hI:Inv B w0 L ops F M hs h ρ0 listed ρ a w) {i:Nat} {o:Oper} (hi:i<h) (ho:ops[i]? = some o) (hun:listed.getD i true=false) (hready:∀ e∈o.after,Region.binds .any e=true→listed.getD e.on false=true) (hins:insN hs i=none)
  {ρ':Val} {w':World} {v:Value} (hv:svN hs i ≠ .junk→v=(svN hs i).den ρ') (hE:Val.Ext w.heap.size (fun n => ¬ ((MsN M hs i).length≤n∧n < (MsN M hs i).length+(nbN hs i).length)) ρ ρ')
  (hb:Below w.heap.size w w') (hn:New B w.heap.size ρ' (MsN M hs i).length (nbN hs i) w'):Inv B w0 L ops F M hs h ρ0 (listed.setIfInBounds i true) ρ' (a.put o.dst v) w':=by
 have hρ:=hE.eq
 have hdst:dstN ops i=o.dst:=by simp[dstN,ho]
 have hilt:i<ops.length:=(List.getElem?_eq_some_iff.1 ho).1
 have hisz:i<listed.size:=by rw[hI.size];exact hilt
 have hun':listed.getD i false=false:=getD_both hun
 have setD:=setD (listed:=listed) hisz
 have hinsL:∀ n,insL hs (lst (listed.setIfInBounds i true)) h n=insL hs (lst listed) h n:=fun n=>insL_congr fun j hj hne=>by
  have:j≠i:=fun e=>by subst e;exact hne hins
  show(listed.setIfInBounds i true).getD j false=listed.getD j false
  rw[getD_set_ne false (Ne.symm this)]
 have owner:∀ n,M.length≤n→∀ k,(owN hs h)[n-M.length]? = some k→k≠i→ρ' n=ρ n:=by
  intro n hge k hk hne
  refine hρ n fun hin=>hne ?_
  rw[MsN_length] at hin
  have:=owN_new hs hi (p:=n-M.length) (by omega) (by omega)
  rw[hk] at this
  exact Option.some.inj this
 have old:∀ n,n<M.length→ρ' n=ρ n:=fun n hn=>hρ n fun hin=>by rw[MsN_length] at hin;omega
 have visk:∀ k,k<h→listed.getD k false=true→∀ k',k'≤h→∀ n,visB bs M.length (owN hs k') k n=true→ρ' n=ρ n:=by
  intro k hk hl k' hk'h n hvis
  rcases visB_spec hvis with hlt | ⟨hge,k2,hk',hor⟩
  . exact old n hlt
  . have hk2:=owN_pre hs hk'h _ _ hk'
    refine owner n hge k2 hk2 fun e => ?_
    subst e
    rcases hor with rfl|hbit
    . rw[hun'] at hl;cases hl
    . obtain⟨ok,hok⟩:∃ ok,ops[k]? = some ok:=⟨_,List.getElem?_eq_getElem (Nat.lt_of_lt_of_le hk hd.hle)⟩
      have:=hI.bits hd k (fun ho'=>hI.clos k ok hl ho') hok k2 hilt hbit
      rw[hun'] at this;cases this
 have svden:∀ k,k<h→listed.getD k false=true→(svN hs k).den ρ'=(svN hs k).den ρ:=by
  intro k hk hl
  obtain⟨ok,_,hor⟩:=hP k hk
  rcases hor with⟨_,e,_⟩ | ⟨_,_,hs1,_⟩ | ⟨_,e,_⟩
  . rw[e];rfl
  . exact SV.den_congr (visk k hk hl (k+1) hk) _ hs1
  . rw[e];rfl
 have tm:∀ s,(a.put o.dst v).tmps[s]? = if o.dst=some s then (if s<a.tmps.size then some v else none) else a.tmps[s]? := put_tmps a o.dst v
 have presOld:∀ n,Pres M.length h hs (listed.setIfInBounds i true) n→Pres M.length h hs listed n∨(M.length≤n∧(owN hs h)[n-M.length]? = some i):=by
  rintro n (hlt | ⟨hge,k,hk,hl⟩)
  . exact .inl (.inl hlt)
  . rcases (setD k).1 hl with rfl|hl'
    . exact .inr ⟨hge,hk⟩
    . exact .inl (.inr ⟨hge,k,hk,hl'⟩)
 have okOld:∀ n b,(MsN M hs h)[n]? = some b→Pres M.length h hs listed n→(updB (insL hs (lst listed) h n) b).ok B ρ' n w':=by
  intro n b hnb hp
  have h0:=hI.ok n b hnb hp
  let pc:Nat→Bool:=fun m => @decide (ρ' m=ρ m) (Classical.propDecidable _)
  have pcd:∀ m,pc m=true→ρ' m=ρ m:=fun m hm => @of_decide_eq_true _ (Classical.propDecidable _) hm
  have pct:∀ m,ρ' m=ρ m→pc m=true:=fun m hm => @decide_eq_true _ (Classical.propDecidable _) hm
  have hself:pc n=true∧b.sc pc=true:=by
   rcases hp with hlt | ⟨hge,k,hk,hl⟩
   . have hb0:M[n]? = some b:=by
      have:=MsN_pre (M:=M) hs (Nat.zero_le h) n (M[n]'hlt) (List.getElem?_eq_getElem hlt)
      rw[hnb] at this;rw[List.getElem?_eq_getElem hlt];exact this.symm▸rfl
     have hsb:=(List.all_eq_true.1 hM) b (List.mem_of_getElem? hb0)
     exact⟨pct n (old n hlt),Blk.sc_mono (fun m hm=>pct m (old m (by simpa using hm))) b hsb⟩
   . have hklt:=owN_lt hs h _ _ hk
     have hki:k≠i:=fun e=>by subst e;rw[hun'] at hl;cases hl
     obtain⟨ok,_,hor⟩:=hP k hklt
     have hmem:b∈nbN hs k:=blk_of hs (M:=M) hklt hge hk hnb
     refine⟨pct n (owner n hge k hk hki),?_⟩
     rcases hor with⟨_,_,e,_⟩ | ⟨_,_,_,hs2,_⟩ | ⟨_,_,e,_⟩
     . rw[e] at hmem;cases hmem
     . exact Blk.sc_mono (fun m hm=>pct m (visk k hklt hl (k+1) hklt m hm)) b ((List.all_eq_true.1 hs2) b hmem)
     . rw[e] at hmem;cases hmem
  have hent:∀ q∈insL hs (lst listed) h n,q.1.sc pc=true∧q.2.sc pc=true:=by
   intro q hq
   obtain⟨j,hj,hl,hjn⟩:=insL_mem hq
   obtain⟨oj,_,hor⟩:=hP j hj
   rcases hor with⟨_,_,_,e⟩ | ⟨_,_,_,_,e,_⟩ | ⟨_,_,_,t,x,k,v,n',_,_,e,hok⟩
   . rw[hjn] at e;cases e
   . rw[hjn] at e;cases e
   . rw[hjn] at e
     obtain⟨_,_,_,_,_,_,_,_,_,_,_,hk,hv,_⟩:=insOk_spec hok
     simp only[Option.some.injEq,Prod.mk.injEq] at e
     rw[e.2.1,e.2.2]
     exact⟨SV.sc_mono (fun m hm=>pct m (visk j hj hl j (Nat.le_of_lt hj) m hm)) _ hk,SV.sc_mono (fun m hm=>pct m (visk j hj hl j (Nat.le_of_lt hj) m hm)) _ hv⟩
  have h1:(updB (insL hs (lst listed) h n) b).ok B ρ n w':=Blk.ok_same _ h0 (fun k hk=>hb.block k (Nat.lt_of_lt_of_le (Bd.lt hk) hI.msize)) (fun k hk=>hb.block k (hI.zhi k hk).1) fun hown l hl=>hb.block _ (Blk.ok_lt h0 hown hl).2
  exact Blk.ok_congr (p:=pc) pcd hE.z hself.1 _ (updB_sc hself.2 hent) h1
 have lt_old:∀ n b l,(MsN M hs h)[n]? = some b→Pres M.length h hs listed n→b.isOwn=true→ρ' n=some l→l.blk<w.heap.size:=by
  intro n b l hnb hp hown hl
  have e:ρ' n=ρ n:=by
   rcases hp with hlt | ⟨hge,k,hk,hl'⟩
   . exact old n hlt
   . exact owner n hge k hk fun e=>by subst e;rw[hun'] at hl';cases hl'
  rw[e] at hl
  exact(Blk.ok_lt (hI.ok n b hnb hp) (by rw[updB_own];exact hown) hl).2
 have okNew:∀ n b,(MsN M hs h)[n]? = some b→M.length≤n→(owN hs h)[n-M.length]? = some i→∃ k,n=(MsN M hs i).length+k∧(nbN hs i)[k]? = some b:=by
  intro n b hnb hge hk
  exact blk_at hs (M:=M) hi hge hk hnb
 have noIns:∀ n,M.length≤n→(owN hs h)[n-M.length]? = some i→insL hs (lst listed) h n=[]:=by
  intro n hge hk
  cases hq:insL hs (lst listed) h n with
  |nil=>rfl
  |cons q qs=>
   exfalso
   obtain⟨j,hj,hl,hjn⟩:=insL_mem (q:=q) (by rw[hq];exact List.mem_cons_self ..)
   obtain⟨oj,hoj,hor⟩:=hP j hj
   rcases hor with⟨_,_,_,e⟩ | ⟨_,_,_,_,e,_⟩ | ⟨_,_,_,t,x,k,v,n',_,_,e,hok⟩
   . rw[hjn] at e;cases e
   . rw[hjn] at e;cases e
   . rw[hjn] at e
     simp only[Option.some.injEq,Prod.mk.injEq] at e
     obtain⟨_,_,j',_,_,_,hown,_,hbit,_⟩:=insOk_spec hok
     rw[← e.1] at hown
     have:=owN_pre hs (Nat.le_of_lt hj) _ _ hown
     rw[hk] at this
     obtain rfl:=Option.some.inj this
     have:=hI.bits hd j (fun ho'=>hI.clos j oj hl ho') hoj i hilt hbit
     rw[hun'] at this;cases this
 refine⟨by simp[hI.size],fun t ht => ?_,fun j oj hj hoj e he hbe => ?_,?_,hI.flen,?_,fun k s hk hl hds hs' hnj => ?_,fun s x hs' hno hx => ?_,Nat.le_trans hI.msize hb.size,fun n b hnb hp => ?_,fun n m b c l k hne h1 h2 p1 p2 o1 o2 e1 e2 => ?_,fun n hn=>(old n hn).trans (hI.base n hn),Kept.trans_full hI.below hI.msize hb,hI.zb,fun k hk=>hE.z k (hI.zlo k hk),fun k hk=>⟨hn.zsz k hk,(hE.fresh k hk).elim (fun hk=>(hI.zhi k hk).2) fun hk=>.inr (.inr (Nat.le_trans hI.msize hk))⟩,fun n b l hnb hp hown hl hz => ?_,fun k hk=>(hE.fresh k hk).elim (fun hk'=>(hI.zc k hk').imp_right fun hc=>hc.same (hb.block k (hI.zhi k hk').1)) fun hk'=>.inr (hn.zc k hk hk')⟩
 . rw[getD_set_ne false (by omega)];exact hI.tail t ht
 . rcases (setD j).1 hj with rfl|hj'
   . obtain rfl:o=oj:=by rw[ho] at hoj;exact Option.some.inj hoj
     exact(setD _).2 (.inr (hready e he hbe))
   . exact(setD _).2 (.inr (hI.clos j oj hj' hoj e he hbe))
 . have:=hI.marks.keep (dq_below hb)
   cases o.dst<;>exact this
 . rw[← hI.tsize];cases o.dst<;>simp[Act.put]
 . rw[tm]
   rcases (setD k).1 hl with rfl|hl'
   . rw[if_pos (by rw[← hdst];exact hds),if_pos (by rw[hI.tsize];exact hs'),hv hnj]
   . by_cases e:k=i
     . subst e;rw[hun'] at hl';cases hl'
     . rw[if_neg (hd.dst i k s o hi hk (Ne.symm e) ho hds),svden k hk hl']
       exact hI.slotL k s hk hl' hds hs' hnj
 . rw[tm,if_neg (by rw[← hdst];exact hno i hi ((setD i).2 (.inl rfl)))]
   rw[SV.den_congr (p:=fun n=>decide (n<M.length)) (fun n hn=>old n (by simpa using hn)) x (scL_get hF hs')]
   exact hI.slotF s x hs' (fun k hk hl=>hno k hk ((setD k).2 (.inr hl))) hx
 . rw[hinsL]
   rcases presOld n hp with hp' | ⟨hge,hk⟩
   . exact okOld n b hnb hp'
   . rw[noIns n hge hk,updB_nil]
     obtain⟨k,rfl,hkb⟩:=okNew n b hnb hge hk
     exact hn.ok k b hkb
 . rcases presOld n p1 with q1 | ⟨g1,k1⟩<;>rcases presOld m p2 with q2 | ⟨g2,k2⟩
   . have r1:ρ' n=ρ n:=by
        rcases q1 with hlt | ⟨hge,k,hk,hl'⟩
        . exact old n hlt
        . exact owner n hge k hk fun e=>by subst e;rw[hun'] at hl';cases hl'
     have r2:ρ' m=ρ m:=by
        rcases q2 with hlt | ⟨hge,k,hk,hl'⟩
        . exact old m hlt
        . exact owner m hge k hk fun e=>by subst e;rw[hun'] at hl';cases hl'
     exact hI.apart n m b c l k hne h1 h2 q1 q2 o1 o2 (by rw[← r1];exact e1) (by rw[← r2];exact e2)
   . obtain⟨j,rfl,hj⟩:=okNew m c h2 g2 k2
     have:=lt_old n b l h1 q1 o1 e1
     have:=hn.fresh j c k hj o2 e2
     omega
   . obtain⟨j,rfl,hj⟩:=okNew n b h1 g1 k1
     have:=lt_old m c k h2 q2 o2 e2
     have:=hn.fresh j b l hj o1 e1
     omega
   . obtain⟨j,rfl,hj⟩:=okNew n b h1 g1 k1
     obtain⟨j',rfl,hj'⟩:=okNew m c h2 g2 k2
     exact hn.apart j j' b c l k (by omega) hj hj' o1 o2 e1 e2
 . rcases presOld n hp with q1 | ⟨g1,k1⟩
   . have r1:ρ' n=ρ n:=by
        rcases q1 with hlt | ⟨hge,k,hk,hl'⟩
        . exact old n hlt
        . exact owner n hge k hk fun e=>by subst e;rw[hun'] at hl';cases hl'
     rcases hE.fresh _ hz with hz'|hz'
     . exact hI.zown n b l hnb q1 hown (by rw[← r1];exact hl) hz'
     . have:=lt_old n b l hnb q1 hown hl;omega
   . obtain⟨j,rfl,hj⟩:=okNew n b hnb g1 k1
     exact hn.zown j b l hj hown hl hz
end
section
variable {B:Bd}{w0:World}{L:LD}{h:Nat}{hs:List HS}{ρ0:Val}{listed:Array Bool}{ρ:Val}{a:Act}{w:World}
theorem Inv.slot (hd:DrawOk ops bs h)(hI:Inv B w0 L ops F M hs h ρ0 listed ρ a w){i:Nat}{o:Oper}(hi:i<h)(ho:ops[i]? = some o)(hun:listed.getD i true=false)(hready:∀ e∈o.after,Region.binds .any e=true→listed.getD e.on false=true)
  {t:Nat} {x:SV} (ht:t∈o.looksAt ops.toArray) (hx:(FsN ops F hs i)[t]? = some x) (hnj:x ≠ .junk):a.tmps[t]? = some (x.den ρ):=by
 have hilt:i<ops.length:=(List.getElem?_eq_some_iff.1 ho).1
 have hun':listed.getD i false=false:=getD_both hun
 have later:∀ j,j<h→i<j→listed.getD j false=true→dstN ops j≠some t:=by
  intro j hj hij hl hdt
  have hb:=(hd.looks i j t o hi hj (by omega) ho hdt ht).2 hij
  obtain⟨oj,hoj⟩:∃ oj,ops[j]? = some oj:=⟨_,List.getElem?_eq_getElem (Nat.lt_of_lt_of_le hj hd.hle)⟩
  have:=hI.bits hd j (fun ho'=>hI.clos j oj hl ho') hoj i hilt hb
  rw[hun'] at this;cases this
 rcases FsN_get ops F hs i t x hx with⟨j,hj,hdt,rfl,hlt⟩ | ⟨hno,hF⟩
 . have hb:=(hd.looks i j t o hi (by omega) (by omega) ho hdt ht).1 hj
   have hl:=hI.bits hd i (fun _=>hready) ho j (by omega) hb
   exact hI.slotL j t (by omega) hl hdt (by rw[← hI.flen];exact hlt) hnj
 . refine hI.slotF t x hF (fun j hj hl => ?_) hnj
   rcases Nat.lt_trichotomy j i with h1|h1|h1
   . exact hno j h1
   . subst h1;rw[hun'] at hl;cases hl
   . exact later j hj h1 hl
theorem Inv.ev (hd:DrawOk ops bs h)(hI:Inv B w0 L ops F M hs h ρ0 listed ρ a w){i:Nat}{o:Oper}(hi:i<h)(ho:ops[i]? = some o)(hun:listed.getD i true=false)(hready:∀ e∈o.after,Region.binds .any e=true→listed.getD e.on false=true):
  ∀ x∈o.op.operands,evS (FsN ops F hs i) x ≠ .junk→a.eval x=(evS (FsN ops F hs i) x).den ρ:=by
 intro x hin hx
 cases x with
 |tmp t=>
  simp only[evS] at hx ⊢
  split at hx
  . rename_i sv hsv
    rw[nth_eq] at hsv
    have hlk:t∈o.looksAt ops.toArray:=by
      unfold Oper.looksAt
      refine List.mem_append_left _ (List.mem_filterMap.2 ⟨.tmp t,by simpa using hin,rfl⟩)
    have:=hI.slot hd hi ho hun hready hlk hsv hx
    simp only[nth_eq,hsv,Act.eval,Array.getD_eq_getD_getElem?,this,Option.getD_some]
  . exact absurd rfl hx
 |const v=>simp only[evS,SV.ofV_den,Act.eval]
 |global g=>rfl
 |func f=>rfl
theorem Inv.wants (hd:DrawOk ops bs h)(hI:Inv B w0 L ops F M hs h ρ0 listed ρ a w){i:Nat}{o:Oper}(hi:i<h)(ho:ops[i]? = some o)(hun:listed.getD i true=false)(hready:∀ e∈o.after,Region.binds .any e=true→listed.getD e.on false=true)
  {b:Bool} (hw:wants ops (FsN ops F hs i) o.guard=some b):Region.wanted o (yielded ops.toArray a.tmps)=b:=by
 unfold Go.Sx.wants at hw
 unfold Region.wanted
 split at hw
 . rename_i hg;rw[hg];exact Option.some.inj hw
 . rename_i j want hg
   rw[hg]
   simp only
   split at hw
   . rename_i oj hj
     split at hw
     . rename_i d hdd
       have hjl:ops[j]? = some oj:=by rw[← nth_eq];exact hj
       have hlk:d∈o.looksAt ops.toArray:=by
        unfold Oper.looksAt
        refine List.mem_append_right _ ?_
        rw[hg]
        simp[hjl,hdd]
       have hy:∀ x v,(FsN ops F hs i)[d]? = some x→x ≠ .junk→x.den ρ=v→yielded ops.toArray a.tmps j=(match v with | .bool b=>some b|_=>none):=by
        intro x v hx hnj hv
        have hs:=hI.slot hd hi ho hun hready hlk hx hnj
        have:(ops.toArray[j]?).bind (·.dst)=some d:=by simp[hjl,hdd]
        unfold yielded
        rw[this]
        simp only[Option.bind_some,hs,hv]
        cases v<;>rfl
       split at hw
       . rename_i hs'
         rw[nth_eq] at hs'
         rw[hy _ _ hs' (by simp) rfl,← Option.some.inj hw]
         simp only[SV.den];cases want<;>rfl
       . rename_i hs'
         rw[nth_eq] at hs'
         rw[hy _ _ hs' (by simp) rfl,← Option.some.inj hw]
         simp only[SV.den];cases want<;>rfl
       . rename_i hs'
         rw[nth_eq] at hs'
         rw[hy _ _ hs' (by simp) rfl,← Option.some.inj hw]
         simp only[SV.den];cases want<;>rfl
       . cases hw
     . cases hw
   . cases hw
def cntU (listed:Array Bool):Nat→Nat
 |0=>0
 |k+1=>cntU listed k+(if listed.getD k false=true then 0 else 1)
theorem cntU_ge {i:Nat}:∀ k,k≤i→cntU (listed.setIfInBounds i true) k=cntU listed k
 |0,_=>rfl
 |k+1,hk=>by
  have ih:=cntU_ge k (by omega:k≤i)
  simp only[cntU,ih];rw[getD_set_ne false (by omega)]
theorem cntU_set {i:Nat}(hsz:i<listed.size)(hun:listed.getD i false=false):∀ k,i<k→cntU listed k=cntU (listed.setIfInBounds i true) k+1
 |0,hk=>by omega
 |k+1,hk=>by
  simp only[cntU]
  by_cases e:i=k
  . subst e
    rw[cntU_ge i (Nat.le_refl _)]
    have:(listed.setIfInBounds i true).getD i false=true:=by simp[hsz]
    rw[this,hun];simp
  . rw[cntU_set hsz hun k (by omega),getD_set_ne false e];omega
theorem cntU_zero:∀ k,cntU listed k=0→∀ i,i<k→listed.getD i false=true
 |0,_,i,hi=>by omega
 |k+1,hz,i,hi=>by
  simp only[cntU] at hz
  rcases Nat.lt_or_ge i k with h1|h1
  . exact cntU_zero k (by omega) i h1
  . obtain rfl:i=k:=by omega
    cases e:listed.getD i false
    . rw[e] at hz;simp at hz
    . rfl
theorem cntU_pos:∀ k,cntU listed k≠0→∃ i,i<k∧listed.getD i false=false∧∀ j,j<i→listed.getD j false=true
 |0,hz=>absurd rfl hz
 |k+1,hz=>by
  by_cases h0:cntU listed k=0
  . refine⟨k,Nat.lt_succ_self k,?_,cntU_zero k h0⟩
    cases e:listed.getD k false
    . rfl
    . simp only[cntU,h0,e] at hz;simp at hz
  . obtain⟨i,hi,h1,h2⟩:=cntU_pos k h0
    exact⟨i,by omega,h1,h2⟩
theorem pres_of (hd:DrawOk ops bs h)(hI:Inv B w0 L ops F M hs h ρ0 listed ρ a w){i n:Nat}{o:Oper}(hi:i<h)(ho:ops[i]? = some o)(hready:∀ e∈o.after,Region.binds .any e=true→listed.getD e.on false=true)
  (hv:visB bs M.length (owN hs i) i (0+n)=true):Pres M.length h hs listed n:=by
 rw[Nat.zero_add] at hv
 rcases visB_spec hv with hlt | ⟨hge,k,hk,hor⟩
 . exact .inl hlt
 . have hki:=owN_lt hs i _ _ hk
   refine .inr ⟨hge,k,owN_pre hs (Nat.le_of_lt hi) _ _ hk,?_⟩
   rcases hor with rfl|hb
   . omega
   . exact hI.bits hd i (fun _=>hready) ho k (by have:=hd.hle;omega) hb
theorem ins_low (hP:∀ i,i<h→PStep P G E ops bs F M hs i){j n:Nat}{k v:SV}(hj:j<h)(hjn:insN hs j=some (n,k,v)):M.length≤n∧n < (MsN M hs j).length:=by
 obtain⟨oj,_,hor⟩:=hP j hj
 rcases hor with⟨_,_,_,e⟩ | ⟨_,_,_,_,e,_⟩ | ⟨_,_,_,t,x,k',v',n',_,_,e,hok⟩
 . rw[hjn] at e;cases e
 . rw[hjn] at e;cases e
 . rw[hjn] at e
   simp only[Option.some.injEq,Prod.mk.injEq] at e
   obtain⟨_,_,_,_,_,hge,_,hM',_⟩:=insOk_spec hok
   rw[e.1]
   refine⟨hge,?_⟩
   rw[← MuN_length]
   exact(List.getElem?_eq_some_iff.1 hM').1
theorem insL_low (hP:∀ i,i<h→PStep P G E ops bs F M hs i){p:Nat→Bool}{i n:Nat}(hi:i≤h)(hn:n<M.length):insL hs p i n=[]:=by
 cases hq:insL hs p i n with
 |nil=>rfl
 |cons q qs=>
  exfalso
  obtain⟨j,hj,_,hjn⟩:=insL_mem (q:=q) (by rw[hq];exact List.mem_cons_self ..)
  have:=(ins_low hP (by omega) hjn).1
  omega
theorem MuN_at (hP:∀ i,i<h→PStep P G E ops bs F M hs i){i:Nat}(hi:i≤h)(n:Nat):(MuN M hs i)[n]? = ((MsN M hs i)[n]?).map (updB (insL hs (fun _=>true) i n)):=
 MuN_get hs i (fun j hj n k v hjn=>(ins_low hP (by omega) hjn).2) n
theorem cellEqS_symm {k:CK}{x y:SV}{b:Bool}(h:cellEqS k x y=some b):cellEqS k y x=some b:=by
 unfold cellEqS at h
 split at h
 . rw[← Option.some.inj h];simp only[cellEqS];congr 1;exact Bool.beq_comm
 . split at h
   . rename_i hk
     simp only[kEq,decide_eq_true_eq] at hk
     subst hk
     rw[← Option.some.inj h];simp only[cellEqS,kEq,decide_true];congr 1;exact Bool.beq_comm
   . cases h
 . split at h
   . rename_i x y a c h1 h2
     rw[← Option.some.inj h];unfold cellEqS;simp only[h1,h2];congr 1;exact Bool.beq_comm
   . cases h
 . rename_i a c
   rw[← Option.some.inj h];simp only[cellEqS]
   congr 1
   rw[Bool.eq_iff_iff,bytes_beq,bytes_beq];exact eq_comm
 . cases h
theorem cellsEqS_symm:∀ {ks:List CK} {xs ys:List SV} {b:Bool},cellsEqS ks xs ys=some b→cellsEqS ks ys xs=some b
 |[],[],[],b,h=>h
 |[],[],_::_,_,h=>by cases h
 |[],_::_,_,_,h=>by cases h
 |_::_,[],_,_,h=>by cases h
 |_::_,_::_,[],_,h=>by cases h
 |k::ks,x::xs,y::ys,b,h=>by
  simp only[cellsEqS] at h ⊢
  split at h
  . rename_i a c h1 h2
    rw[cellEqS_symm h1,cellsEqS_symm h2];exact h
  . cases h
theorem keyEqS_symm {kt:TypeId}{x y:SV}{b:Bool}(h:keyEqS P E kt x y=some b):keyEqS P E kt y x=some b:=by
 unfold keyEqS at h ⊢
 split at h
 . split at h
   . rw[← Option.some.inj h];exact congrArg some Bool.beq_comm
   . split at h
     . rename_i hk
       simp only[kEq,decide_eq_true_eq] at hk
       subst hk
       rw[← Option.some.inj h];simp only[kEq,decide_true];exact congrArg some Bool.beq_comm
     . cases h
   . cases h
 . split at h
   . rename_i a c
     rw[← Option.some.inj h]
     have:(c==a)=(a==c):=by rw[Bool.eq_iff_iff,bytes_beq,bytes_beq];exact eq_comm
     simp only[this]
   . cases h
 . split at h
   . split at h
     . rename_i ks hk
       exact cellsEqS_symm h
     . cases h
   . cases h
 . split at h
   . split at h
     . rename_i ks hk
       exact cellsEqS_symm h
     . cases h
   . cases h
 . cases h
theorem freshKey_mem {kt:TypeId}{k:SV}:∀ {es:List (SV×SV)},freshKey P E kt k es=some true→∀ p∈es,keyEqS P E kt k p.1=some false
 |[],_,p,hp=>by cases hp
 |(k',v)::l,h,p,hp=>by
  simp only[freshKey] at h
  split at h
  . rename_i b1 c h1 h2
    have h3:=Option.some.inj h
    simp only[Bool.and_eq_true,Bool.not_eq_true'] at h3
    rcases List.mem_cons.1 hp with rfl|hp
    . rw[h1,h3.1]
    . exact freshKey_mem (by rw[h2,h3.2]) p hp
  . cases h
theorem Inv.put (hE:∀ p∈E,EqOk P p.1 p.2)(hd:DrawOk ops bs h)(hh:hs.length=h)(hP:∀ i,i<h→PStep P G E ops bs F M hs i)
  (hI:Inv B w0 L ops F M hs h ρ0 listed ρ a w) {i:Nat} {o:Oper} (hi:i<h) (ho:ops[i]? = some o) (hun:listed.getD i true=false) (hready:∀ e∈o.after,Region.binds .any e=true→listed.getD e.on false=true)
  (hsv:svN hs i = .val undef) (hnb:nbN hs i=[]) {t:TypeId} {x k v:Operand} {n:Nat} (hop:o.op = .insert t x k v) (hx:evS (FsN ops F hs i) x = .mp n)
  (hin:insN hs i=some (n,evS (FsN ops F hs i) k,evS (FsN ops F hs i) v)) (hok:insOk P E bs M.length i (owN hs i) (MuN M hs i) t n (evS (FsN ops F hs i) k) (evS (FsN ops F hs i) v)=some true):
  ∃ w',(execOp a.eval o).run P w = .ok .skip w'∧Inv B w0 L ops F M hs h ρ0 (listed.setIfInBounds i true) ρ (a.put o.dst undef) w':=by
 have hdst:dstN ops i=o.dst:=by simp[dstN,ho]
 have hilt:i<ops.length:=(List.getElem?_eq_some_iff.1 ho).1
 have hisz:i<listed.size:=by rw[hI.size];exact hilt
 have hun':listed.getD i false=false:=getD_both hun
 have setD:=setD (listed:=listed) hisz
 obtain⟨kt,et,j0,es,hu,hge,hown,hMu,hbit,hkeys,hvj,hksc,hvsc,hfresh⟩:=insOk_spec hok
 obtain⟨es0,hMs,hes⟩:∃ es0,(MsN M hs i)[n]? = some (.map es0)∧es=es0++insL hs (fun _=>true) i n:=by
  have:=MuN_at hP (Nat.le_of_lt hi) n
  rw[hMu] at this
  cases hb:(MsN M hs i)[n]? with
  |none=>rw[hb] at this;cases this
  |some b0=>
   rw[hb] at this
   simp only[Option.map_some,Option.some.injEq] at this
   cases b0<;>simp only[updB] at this<;>first | (cases this;done) | (injection this with this;exact⟨_,rfl,this⟩)
 have hMh:(MsN M hs h)[n]? = some (.map es0):=MsN_pre hs (Nat.le_of_lt hi) _ _ hMs
 have hpres:Pres M.length h hs listed n:=.inr ⟨hge,j0,owN_pre hs (Nat.le_of_lt hi) _ _ hown,hI.bits hd i (fun _=>hready) ho j0 (by have:=owN_lt hs i _ _ hown;omega) hbit⟩
 obtain⟨l,arr,cnt,hl,hB,hheap,hmap⟩:=hI.ok n _ hMh hpres
 have hcmp:∀ p∈es0++insL hs (lst listed) h n,KeyEqV P kt ((evS (FsN ops F hs i) k).den ρ) (p.1.den ρ) false:=by
  intro p hp
  rcases List.mem_append.1 hp with hp|hp
  . exact freshKey_den hE ρ hfresh rfl p (by rw[hes];exact List.mem_append_left _ hp)
  . obtain⟨j,hj,hlj,hjn⟩:=insL_mem hp
    have hji:j≠i:=fun e=>by
        subst e
        have:listed.getD j false=true:=hlj
        rw[hun'] at this;cases this
    rcases Nat.lt_or_ge j i with h1|h1
    . exact freshKey_den hE ρ hfresh rfl p (by rw[hes];exact List.mem_append_right _ (insL_of h1 rfl hjn))
    . obtain⟨oj,hoj,hor⟩:=hP j hj
      rcases hor with⟨_,_,_,e⟩ | ⟨_,_,_,_,e,_⟩ | ⟨_,_,_,t',x',k',v',n',hop',_,e,hok'⟩
      . rw[hjn] at e;cases e
      . rw[hjn] at e;cases e
      . rw[hjn] at e
        simp only[Option.some.injEq,Prod.mk.injEq] at e
        obtain⟨kt',et',_,es',hu',_,_,hMu',_,_,_,_,_,hfresh'⟩:=insOk_spec hok'
        have ht:t=t':=hd.inst i j o oj t t' hi hj ho hoj (by simp[insT,hop]) (by simp[insT,hop'])
        subst ht
        rw[hu] at hu'
        injection hu' with hu'
        injection hu' with hkt _
        subst hkt
        have hmem:(evS (FsN ops F hs i) k,evS (FsN ops F hs i) v)∈es':=by
          have:=MuN_at hP (Nat.le_of_lt hj) n'
          rw[hMu',← e.1] at this
          rw[MsN_pre hs h1 _ _ hMs] at this
          simp only[Option.map_some,updB,Option.some.injEq,Blk.map.injEq] at this
          rw[this]
          exact List.mem_append_right _ (insL_of (by omega) rfl hin)
        have hk:=keyEqS_symm (freshKey_mem hfresh' _ hmem)
        rw[← e.2.1] at hk
        exact(keyEqS_den hE hk ρ).1
 have hne:∀ p∈es0++insL hs (lst listed) h n,p.1.den ρ≠(evS (FsN ops F hs i) k).den ρ:=fun p hp e=>by
  have:=(hcmp p hp).1.2 e.symm
  cases this
 obtain⟨hck,hkj,⟨d,hdk⟩,_⟩:=keysOk_den hE ρ hkeys
 have hev:=hI.ev hd hi ho hun hready
 have e1:=hev x (by simp[hop,Op.operands]) (by rw[hx];simp)
 rw[hx] at e1
 have e2:=hev k (by simp[hop,Op.operands]) hkj
 have e3:=hev v (by simp[hop,Op.operands]) hvj
 have hm:=run_insert (E:=E) (v:=(evS (FsN ops F hs i) v).den ρ) hu hdk hheap hck (hmap.keys fun p hp=>⟨false,hcmp p hp⟩) (hmap.ne hne)
 have hlt:l.blk<w.heap.size:=(Array.getElem?_eq_some_iff.1 hheap).1
 refine⟨{w with heap:=w.heap.setIfInBounds l.blk (.map (arr.push ⟨(evS (FsN ops F hs i) k).den ρ,(evS (FsN ops F hs i) v).den ρ,cnt⟩) (cnt+1))},?_,?_⟩
 . simp only[execOp,hop,e1,e2,e3,SV.den,hl,Option.map_some,Sem.run_bind,hm,Result.andThen_ok,Sem.run_pure]
 . have presOld:∀ m b,(MsN M hs h)[m]? = some b→Pres M.length h hs (listed.setIfInBounds i true) m→Pres M.length h hs listed m:=by
    rintro m b hb (hlt' | ⟨hge',k',hk',hl'⟩)
    . exact .inl hlt'
    . rcases (setD k').1 hl' with rfl|hl''
      . have:=blk_of hs (M:=M) hi hge' hk' hb
        rw[hnb] at this;cases this
      . exact .inr ⟨hge',k',hk',hl''⟩
   have tm:∀ s,(a.put o.dst undef).tmps[s]? = if o.dst=some s then (if s<a.tmps.size then some undef else none) else a.tmps[s]? := put_tmps a o.dst undef
   have hother:∀ k',k'≠l.blk→(w.heap.setIfInBounds l.blk (.map (arr.push ⟨(evS (FsN ops F hs i) k).den ρ,(evS (FsN ops F hs i) v).den ρ,cnt⟩) (cnt+1)))[k']? = w.heap[k']? := fun k' hk'=>by
    simp only[Array.getElem?_setIfInBounds];rw[if_neg (Ne.symm hk')]
   have hlst:∀ j,j≠i→lst listed j=lst (listed.setIfInBounds i true) j:=fun j hj=>by
    show listed.getD j false=(listed.setIfInBounds i true).getD j false
    rw[getD_set_ne false (Ne.symm hj)]
   refine⟨by simp[hI.size],fun t ht => ?_,fun j oj hj hoj e he hbe => ?_,?_,hI.flen,?_,fun k' s hk' hl' hds hs' hnj => ?_,fun s x hs' hno hx' => ?_,by simpa using hI.msize,fun m b hb hp => ?_,fun m m' b c l' k' hne' h1 h2 p1 p2 o1 o2 q1 q2=>hI.apart m m' b c l' k' hne' h1 h2 (presOld m b h1 p1) (presOld m' c h2 p2) o1 o2 q1 q2,hI.base,hI.below.trans ⟨rfl,rfl,rfl,by simp,fun k' hk'=>hother k' (fun e=>hk' (e▸hB)),dq_set hheap (by simp),lq_set hheap (by simp)⟩,hI.zb,hI.zlo,fun k' hk'=>⟨by simpa using (hI.zhi k' hk').1,(hI.zhi k' hk').2⟩,fun m b l' hb hp ho' hl'=>hI.zown m b l' hb (presOld m b hb hp) ho' hl',fun k' hk'=>(hI.zc k' hk').imp_right fun hc=>hc.same (hother k' fun e'=>hI.zown n _ l hMh hpres rfl hl (e'▸hk'))⟩
   . rw[getD_set_ne false (by omega)];exact hI.tail t ht
   . rcases (setD j).1 hj with rfl|hj'
     . obtain rfl:o=oj:=by rw[ho] at hoj;exact Option.some.inj hoj
       exact(setD _).2 (.inr (hready e he hbe))
     . exact(setD _).2 (.inr (hI.clos j oj hj' hoj e he hbe))
   . have:=hI.marks.keep (w':={w with heap:=w.heap.setIfInBounds l.blk (.map (arr.push ⟨(evS (FsN ops F hs i) k).den ρ,(evS (FsN ops F hs i) v).den ρ,cnt⟩) (cnt+1))}) (dq_set hheap (by simp))
     cases o.dst<;>exact this
   . rw[← hI.tsize];cases o.dst<;>simp[Act.put]
   . rw[tm]
     rcases (setD k').1 hl' with rfl|hl''
     . rw[if_pos (by rw[← hdst];exact hds),if_pos (by rw[hI.tsize];exact hs'),hsv];rfl
     . by_cases e:k'=i
       . subst e;rw[hun'] at hl'';cases hl''
       . rw[if_neg (hd.dst i k' s o hi hk' (Ne.symm e) ho hds)]
         exact hI.slotL k' s hk' hl'' hds hs' hnj
   . rw[tm,if_neg (by rw[← hdst];exact hno i hi ((setD i).2 (.inl rfl)))]
     exact hI.slotF s x hs' (fun k' hk' hl'=>hno k' hk' ((setD k').2 (.inr hl'))) hx'
   . have hp':=presOld m b hb hp
     by_cases e:m=n
     . subst e
       rw[hMh] at hb
       obtain rfl:=Option.some.inj hb
       refine⟨l,_,cnt+1,hl,hB,?_,(hmap.snoc (v:=evS (FsN ops F hs i) v) (cnt:=cnt) hne).of_perm ?_⟩
       . simp only[Array.getElem?_setIfInBounds];simp[hlt]
       . rw[List.append_assoc]
         exact List.Perm.append_left _ (insL_put hin (by exact hun') (by show(listed.setIfInBounds i true).getD i false=true;exact(setD i).2 (.inl rfl)) hlst hi)
     . have hsame:insL hs (lst (listed.setIfInBounds i true)) h m=insL hs (lst listed) h m:=by
        have:∀ (p q:Nat→Bool),(∀ j,j≠i→p j=q j)→∀ i',insL hs p i' m=insL hs q i' m:=by
            intro p q hpq i'
            induction i' with
            |zero=>rfl
            |succ i' ih=>
             simp only[insL,ih]
             congr 1
             by_cases e':i'=i
             . subst e'
               rw[hin]
               simp only[]
               rw[if_neg (fun hc=>e hc.2.symm),if_neg (fun hc=>e hc.2.symm)]
             . rw[hpq i' e']
        exact this _ _ (fun j hj=>(hlst j hj).symm) h
       rw[hsame]
       have h0:=hI.ok m b hb hp'
       refine Blk.ok_same _ h0 (fun k' hk'=>hother k' (fun e'=>hk' (e'▸hB))) (fun k' hk'=>hother k' fun e'=>hI.zown n _ l hMh hpres rfl hl (e'▸hk')) fun ho' l' hl'=>hother _ fun e' => ?_
       exact hI.apart m n b _ l' l e hb hMh hp' hpres (by rw[← updB_own];exact ho') rfl hl' hl e'
end
section
variable {ro:Option Nat}{aops:Array Oper}{Q:Exit→Act→World→Prop}
theorem wpOpIn_put {j:Nat}{oi oj:Oper}{v:Value}(hj:aops[j]? = some oj)(hap:oi.apart aops oj=true)
  (hsi:∀ cs b,oi.op ≠ .select cs b) (hsj:∀ cs b,oj.op ≠ .select cs b) (hdj:isDef oj=false)
  (hQ:∀ c a w,¬ Q (.panic c) a w) {K:Act→World→Prop} {a:Act} {w:World}
  (hy:Yields P aops oi v a) (h:wpOpIn (Fe ro) 0 P aops Q j K (a.put oi.dst v) w):
  wpOpIn (Fe ro) 0 P aops Q j (fun a' w'=>Yields P aops oi v a'∧K (a'.put oi.dst v) w') a w:=by
 obtain⟨h1,h2,h3⟩:=Oper.apart_spec hap
 have keep:∀ u,Yields P aops oi v (a.put oj.dst u):=fun u=>hy.of_same (execOp_put oi hsi a oj.dst u h3) (wanted_put oi a oj.dst u h3)
 unfold wpOpIn at *
 simp only[hj] at *
 rw[wanted_put oj a oi.dst v h1] at h
 split
 . rename_i hw
   simp only[hw,if_true] at h
   unfold Oper.wpIn at *
   refine⟨fun _ _=>trivial,?_⟩
   have h:=h.2
   rw[Oper.semAt_eq _ _ _ (notDef hdj),execOp_put oj hsj a oi.dst v h1] at h
   rw[Oper.semAt_eq _ _ _ (notDef hdj)]
   have hnd:∀ d w',(execOp a.eval oj).run P w = .ok (.defer d) w'→Yields P aops oi v {a with defers:=d::a.defers}:=fun d w' _=>hy.of_same rfl rfl
   generalize (execOp a.eval oj).run P w=r at *
   cases r with
   |ok x w'=>
    cases x<;>simp only[Oper.uponIn] at h ⊢
    case value u=>exact⟨keep u,by rw[← Act.put_comm a v u h2];exact h⟩
    case skip=>exact⟨keep _,by rw[← Act.put_comm a v undef h2];exact h⟩
    case defer d=>
        have hy':=hnd d w' rfl
        refine⟨hy'.of_same (execOp_put oi hsi _ oj.dst undef h3) (wanted_put oi _ oj.dst undef h3),?_⟩
        rw[← Act.put_comm _ v undef h2,← Act.put_defers]
        exact h
    case enter f args=>
        refine⟨h.1,CallsIn.mono h.2 fun e w'' he => ?_⟩
        cases e with
        |returned u=>exact⟨keep u,by rw[← Act.put_comm a v u h2];exact he⟩
        |panicked c=>exact absurd he (hQ _ _ _)
        |outgrown=>exact he
    case row row args=>exact⟨h.1,RowsIn.mono h.2 fun u w'' he=>⟨keep u,by rw[← Act.put_comm a v u h2];exact he⟩⟩
    case round l f tmps assign body=>
        refine⟨h.1,RoundIn.mono h.2 fun e w'' he => ?_⟩
        cases e with
        |returned u=>exact⟨keep u,by rw[← Act.put_comm a v u h2];exact he⟩
        |panicked c=>exact absurd he (hQ _ _ _)
        |outgrown=>exact he
   |halt x w'=>
    cases x<;>simp only[Oper.uponIn] at h ⊢
    case panic u=>exact absurd h (hQ _ _ _)
 . rename_i hw
   simp only[hw] at h
   exact⟨fun _ _=>trivial,keep _,by rw[← Act.put_comm a v undef h2];exact h.2⟩
theorem yields_in {i:Nat}{o:Oper}{v:Value}{a:Act}(hd:isDef o=false)(hi:aops[i]? = some o)(hy:Yields P aops o v a){K:Act→World→Prop}{w:World}(h:K (a.put o.dst v) w):wpOpIn (Fe ro) 0 P aops Q i K a w:=by
 unfold wpOpIn
 simp only[hi]
 rcases hy with⟨hw,hv⟩ | ⟨hw,rfl⟩
 . simp only[hw,if_true]
   unfold Oper.wpIn
   refine⟨fun _ _=>trivial,?_⟩
   rw[Oper.semAt_eq _ _ _ (notDef hd),hv w]
   exact h
 . simp only[hw,Bool.false_eq_true,if_false];exact⟨fun _ _=>trivial,h⟩
theorem first_in {i:Nat}{oi:Oper}{v:Value}(hi:aops[i]? = some oi)(hsel:Region.noSelect aops=true)(hnd:∀ (j:Nat) (o:Oper),aops[j]? = some o→isDef o=false)(hQ:∀ c a w,¬ Q (.panic c) a w):
  ∀ (fuel:Nat) (listed:Array Bool) (a:Act) (w:World),
    (∀ j oj,aops[j]? = some oj→j≠i→listed.getD j true=false→(∀ e∈oj.after,Region.binds .any e=true→e.on≠i)→oi.apart aops oj=true)→
    i∈Region.ready .any aops listed→Yields P aops oi v a→
    wpAnyIn (Fe ro) 0 P .any aops Q fuel (listed.setIfInBounds i true) (a.put oi.dst v) w→wpAnyIn (Fe ro) 0 P .any aops Q (fuel+1) listed a w:=by
 intro fuel
 induction fuel with
 |zero=>
  intro listed a w _ hr hy H
  refine⟨fun h=>(by rw[h] at hr;cases hr),fun j hj => ?_⟩
  by_cases hji:j=i
  . subst hji;exact yields_in (hnd _ _ hi) hi hy H
  . have:=ready_mono hj hji
    rw[H.1] at this
    cases this
 |succ fuel ih=>
  intro listed a w hfree hr hy H
  refine⟨fun h=>(by rw[h] at hr;cases hr),fun j hj => ?_⟩
  by_cases hji:j=i
  . subst hji;exact yields_in (hnd _ _ hi) hi hy H
  . have h1:=H.2 j (ready_mono hj hji)
    obtain⟨hjun,oj,hoj,hall⟩:=mem_ready.1 hj
    have hiun:=(mem_ready.1 hr).1
    have hnot:∀ e∈oj.after,Region.binds .any e=true→e.on≠i:=fun e he hb heq=>by
        have h1:=hall e he hb
        rw[heq,getD_both hiun] at h1
        cases h1
    have h2:=wpOpIn_put hoj (hfree j oj hoj hji hjun hnot) (fun cs b=>Region.noSelect_spec hsel i oi cs b hi) (fun cs b=>Region.noSelect_spec hsel j oj cs b hoj) (hnd _ _ hoj) hQ hy h1
    have hfree':∀ k ok,aops[k]? = some ok→k≠i→(listed.setIfInBounds j true).getD k true=false→
      (∀ e∈ok.after,Region.binds .any e=true→e.on≠i)→oi.apart aops ok=true:=fun k ok hk hki hun hno=>by
        refine hfree k ok hk hki ?_ hno
        by_cases hjk:j=k
        . subst hjk;exact hjun
        . rw[getD_set_ne true hjk] at hun;exact hun
    refine wpOpIn_mono (fun a' w' h3=>ih (listed.setIfInBounds j true) a' w' hfree' (ready_mono hr (Ne.symm hji)) h3.1 ?_) h2
    rw[Array.setIfInBounds_comm _ _ hji]
    exact h3.2
theorem seq_in:∀ (l:List Oper) (k:Nat) (listed:Array Bool) (a:Act) (w:World),(∀ j,l[j]? = aops[k+j]?)→
  Region.seqB .any aops l.length k listed=true→wpListIn (Fe ro) 0 P aops Q l a w→wpAnyIn (Fe ro) 0 P .any aops Q l.length listed a w
 |[],_,_,_,_,_,hB,h=>⟨by simpa [Region.seqB] using hB,h⟩
 |o::l,k,listed,a,w,hl,hB,h=>by
  have h0:aops[k]? = some o:=by simpa using (hl 0).symm
  simp only[List.length_cons,Region.seqB,Bool.and_eq_true,decide_eq_true_eq] at hB
  refine⟨fun h1=>(by rw[hB.1] at h1;cases h1),fun i hi => ?_⟩
  rw[hB.1] at hi
  obtain rfl:i=k:=by simpa using hi
  have hw:wpOpIn (Fe ro) 0 P aops Q i (wpListIn (Fe ro) 0 P aops Q l) a w:=by unfold wpOpIn;simp only[h0];exact h
  exact wpOpIn_mono (fun a' w' h'=>seq_in l (i+1) _ a' w' (fun j=>by have:=hl (j+1);simpa [Nat.add_assoc,Nat.add_comm 1 j] using this) hB.2 h') hw
end
theorem late_run {ev:Operand→SV}{o:Oper}(hl:lateS P ev o=true)(ρ:Val)(a:Act)(hev:∀ x∈o.op.operands,ev x ≠ .junk→a.eval x=(ev x).den ρ){w:World}{K:Act→World→Prop}(h:o.wp P a w K fun _ _ _=>False):
  ∃ v,(∀ w,(execOp a.eval o).run P w = .ok (.value v) w)∧K (a.put o.dst v) w:=by
 have key:(∃ v,∀ w,(execOp a.eval o).run P w = .ok (.value v) w)∨(∀ w,∃ e,(execOp a.eval o).run P w = .halt e w∧∀ u,e ≠ .panic u):=by
  unfold lateS at hl
  split at hl
  . rename_i x i hop
    have e:execOp a.eval o=(do let v ← Instr.extract (a.eval x) i;Pure.pure (.value v)):=by simp only[execOp,hop]
    rw[e]
    unfold Instr.extract
    split
    . split
      . rename_i vs v hv;exact .inl ⟨v,fun w=>by simp⟩
      . exact .inr fun w=>⟨_,rfl,fun u e=>by cases e⟩
    . exact .inr fun w=>⟨_,rfl,fun u e=>by cases e⟩
  . rename_i x hop
    exact .inl ⟨a.eval x,fun w=>by simp[execOp,hop]⟩
  . rename_i t x f hop
    split at hl
    . rename_i fd hf
      split at hl
      . rename_i k hs
        obtain⟨fs,hu,hg⟩:=fieldS_info hf
        obtain⟨it,hi,hsz⟩:=sizeS_info hs
        have e:execOp a.eval o=(do let v ← Instr.fieldAt t (a.eval x) f;Pure.pure (.value v)):=by simp only[execOp,hop]
        rw[e]
        cases hx:a.eval x with
        |pointer p=>
         cases p with
         |none=>exact .inr fun w=>⟨_,by simp[Instr.fieldAt,run_underlying hu,hg,Instr.sureAddr];rfl,fun u e=>by cases e⟩
         |some p=>exact .inl ⟨.pointer (some (p.add fd.offset)),fun w=>by simp[Instr.fieldAt,run_underlying hu,hg,Instr.sureAddr,fieldPlace,sizeOf,typeInfo,hi,hsz]⟩
        |_=>exact .inr fun w=>⟨_,by simp[Instr.fieldAt,run_underlying hu,hg,Instr.sureAddr];rfl,fun u e=>by cases e⟩
      . cases hl
    . cases hl
  . rename_i x hop
    have hin:x∈o.op.operands:=by simp[hop,Op.operands]
    split at hl
    . rename_i n off hx
      have h1:=hev x hin (by rw[hx];simp)
      rw[hx] at h1
      cases hn:ρ n with
      |none=>
       exfalso
       simp only[SV.den,hn] at h1
       have e:∃ u,(execOp a.eval o).run P w = .halt (.panic u) w:=by
        simp only[execOp,hop,h1,Option.map_none]
        exact⟨_,rfl⟩
       obtain⟨u,e⟩:=e
       unfold Oper.wp at h
       rw[e] at h
       exact h
      |some l=>
       simp only[SV.den,hn] at h1
       exact .inl ⟨_,fun w=>by simp[execOp,hop,h1];rfl⟩
    . rename_i n i' sz' j' hx
      have h1:=hev x hin (by rw[hx];simp)
      rw[hx] at h1
      cases hn:ρ n with
      |none=>
       exfalso
       simp only[SV.den,hn] at h1
       have e:∃ u,(execOp a.eval o).run P w = .halt (.panic u) w:=by
        simp only[execOp,hop,h1,Option.map_none]
        exact⟨_,rfl⟩
       obtain⟨u,e⟩:=e
       unfold Oper.wp at h
       rw[e] at h
       exact h
      |some l=>
       simp only[SV.den,hn] at h1
       exact .inl ⟨_,fun w=>by simp[execOp,hop,h1];rfl⟩
    . rename_i f c d hx
      have h1:=hev x hin (by rw[hx];simp)
      rw[hx] at h1
      simp only[SV.den] at h1
      exact .inl ⟨_,fun w=>by simp[execOp,hop,h1];rfl⟩
    . cases hl
  . rename_i c hop
    obtain⟨cal,ags,ts⟩:=c
    simp only at hl
    split at hl
    . split at hl
      . rename_i x y hags
        have ha:ags = #[x,y]:=by rw[← hags]
        subst ha
        have hin:x∈o.op.operands:=by simp[hop,Op.operands,Call.operands]
        have hin':y∈o.op.operands:=by simp[hop,Op.operands,Call.operands]
        split at hl
        . rename_i p q hx hy
          have h1:=hev x hin (by rw[hx];simp)
          have h2:=hev y hin' (by rw[hy];simp)
          rw[hx] at h1;rw[hy] at h2
          simp only[SV.den] at h1 h2
          exact .inl ⟨_,fun w=>by simp[execOp,hop,resolve,invoke,builtin,h1,h2,Builtin.min_,Builtin.min2];rfl⟩
        . rename_i k p k' q hx hy
          have h1:=hev x hin (by rw[hx];simp)
          have h2:=hev y hin' (by rw[hy];simp)
          rw[hx] at h1;rw[hy] at h2
          simp only[SV.den] at h1 h2
          exact .inl ⟨_,fun w=>by simp[execOp,hop,resolve,invoke,builtin,h1,h2,Builtin.min_,Builtin.min2];rfl⟩
        . cases hl
      . cases hl
    . split at hl
      . rename_i x y hags
        have ha:ags = #[x,y]:=by rw[← hags]
        subst ha
        have hin:x∈o.op.operands:=by simp[hop,Op.operands,Call.operands]
        have hin':y∈o.op.operands:=by simp[hop,Op.operands,Call.operands]
        split at hl
        . rename_i p q hx hy
          have h1:=hev x hin (by rw[hx];simp)
          have h2:=hev y hin' (by rw[hy];simp)
          rw[hx] at h1;rw[hy] at h2
          simp only[SV.den] at h1 h2
          exact .inl ⟨_,fun w=>by simp[execOp,hop,resolve,invoke,builtin,h1,h2,Builtin.max_,Builtin.max2];rfl⟩
        . rename_i k p k' q hx hy
          have h1:=hev x hin (by rw[hx];simp)
          have h2:=hev y hin' (by rw[hy];simp)
          rw[hx] at h1;rw[hy] at h2
          simp only[SV.den] at h1 h2
          exact .inl ⟨_,fun w=>by simp[execOp,hop,resolve,invoke,builtin,h1,h2,Builtin.max_,Builtin.max2];rfl⟩
        . cases hl
      . cases hl
    . split at hl
      . rename_i x t hags hts
        have ha:ags = #[x]:=by rw[← hags]
        have ht:ts = #[t]:=by rw[← hts]
        subst ha ht
        have hin:x∈o.op.operands:=by simp[hop,Op.operands,Call.operands]
        split at hl
        . rename_i e n sz off len hu hx
          have h1:=hev x hin (by rw[hx];simp)
          rw[hx] at h1
          exact .inl ⟨_,fun w=>by simp[execOp,hop,resolve,invoke,builtin,h1,SV.den,Builtin.len_,run_underlying hu,goInt];rfl⟩
        . rename_i e hu hx
          have h1:=hev x hin (by rw[hx];simp)
          rw[hx] at h1
          exact .inl ⟨_,fun w=>by simp[execOp,hop,resolve,invoke,builtin,h1,SV.den,Builtin.len_,run_underlying hu,goInt];rfl⟩
        . cases hl
      . cases hl
    . cases hl
  . cases hl
 rcases key with⟨v,hv⟩|hs
 . refine⟨v,hv,?_⟩
   unfold Oper.wp at h
   rw[hv w] at h
   exact h
 . obtain⟨e,he,hp⟩:=hs w
   unfold Oper.wp at h
   rw[he] at h
   cases e<;>simp only[Oper.upon] at h
section
variable {B:Bd}{w0:World}{L:LD}{h:Nat}{hs:List HS}{ρ0:Val}{ro:Option Nat}
theorem any_head {Q:Exit→Act→World→Prop}(hE:∀ p∈E,EqOk P p.1 p.2)(hd:DrawOk ops bs h)(hh:hs.length=h)(hnd:∀ (j:Nat) (o:Oper),ops[j]? = some o→isDef o=false)(hQ:∀ c a w,¬ Q (.panic c) a w)(hP:∀ i,i<h→PStep P G E ops bs F M hs i)(hF:scL (fun n=>decide (n<M.length)) F=true)(hM:scAll M.length M=true)(hG:∀ w,Kept B w0 w→G w){g:Nat}
  (fin:∀ (listed:Array Bool) (ρ:Val) (a:Act) (w:World),Inv B w0 L ops F M hs h ρ0 listed ρ a w→(∀ i,i<h→listed.getD i false=true)→wpAnyIn (Fe ro) 0 P .any ops.toArray Q g listed a w):
  ∀ (r:Nat) (listed:Array Bool) (ρ:Val) (a:Act) (w:World),cntU listed h=r→Inv B w0 L ops F M hs h ρ0 listed ρ a w→wpAnyIn (Fe ro) 0 P .any ops.toArray Q (r+g) listed a w:=by
 intro r
 induction r with
 |zero=>intro listed ρ a w hc hI;rw[Nat.zero_add];exact fin listed ρ a w hI (cntU_zero h hc)
 |succ r ih=>
  intro listed ρ a w hc hI
  obtain⟨i0,hi0,hu0,hall⟩:=cntU_pos (listed:=listed) h (by omega)
  have hlt0:i0<ops.length:=Nat.lt_of_lt_of_le hi0 hd.hle
  have hr0:i0∈Region.ready .any ops.toArray listed:=by
   rw[mem_ready]
   exact⟨getD_in (by rw[hI.size];exact hlt0) hu0,_,(by rw[List.getElem?_toArray];exact List.getElem?_eq_getElem hlt0),fun e he hb=>hall _ (hd.low i0 _ (List.getElem?_eq_getElem hlt0) e he hb)⟩
  rw[show r+1+g=(r+g)+1 by omega]
  have hmem:∀ i o,i<h→ops[i]? = some o→(∀ e∈o.after,Region.binds .any e=true→listed.getD e.on false=true)→MRel B ρ (maskM (seesIns ops bs i) (visB bs M.length (owN hs i) i) M.length 0 (MuN M hs i)) w:=by
   intro i o hih ho hready
   have plain:∀ n b,(maskM (seesIns ops bs i) (visB bs M.length (owN hs i) i) M.length 0 (MuN M hs i))[n]? = some b→b = .dead ∨ ∃ b0,(MsN M hs h)[n]? = some b0∧Pres M.length h hs listed n∧updB (insL hs (lst listed) h n) b0=b:=by
        intro n b hb
        rcases maskM_get _ _ _ _ _ _ _ hb with rfl | ⟨hb',hvis,hmap⟩
        . exact .inl rfl
        . have hp:=pres_of hd hI hih ho hready hvis
          rw[MuN_at hP (Nat.le_of_lt hih)] at hb'
          cases hms:(MsN M hs i)[n]? with
          |none=>rw[hms] at hb';cases hb'
          |some b0=>
           rw[hms] at hb'
           simp only[Option.map_some,Option.some.injEq] at hb'
           refine .inr ⟨b0,MsN_pre hs (Nat.le_of_lt hih) n _ hms,hp,?_⟩
           rcases Nat.lt_or_ge n M.length with hn|hn
           . rw[insL_low hP (Nat.le_of_lt hih) hn,updB_nil] at hb'
             rw[insL_low hP (Nat.le_refl h) hn,updB_nil];exact hb'
           . cases hq:seesIns ops bs i with
             |true=>
              rw[← hb']
              congr 1
              refine insL_all (Nat.le_of_lt hih) (fun j hj hs' => ?_) (fun j hij hj => ?_)
              . obtain⟨oj,hoj,hor⟩:=hP j (by omega)
                rcases hor with⟨_,_,_,e⟩ | ⟨_,_,_,_,e,_⟩ | ⟨_,_,_,t,x,k,v,n',hop,_⟩
                . rw[e] at hs';cases hs'
                . rw[e] at hs';cases hs'
                . exact hI.bits hd i (fun _=>hready) ho j (List.getElem?_eq_some_iff.1 hoj).1 (sees_at hq hoj hop).2
              . obtain⟨oj,hoj,hor⟩:=hP j hj
                rcases hor with⟨_,_,_,e⟩ | ⟨_,_,_,_,e,_⟩ | ⟨_,_,_,t,x,k,v,n',hop,_⟩
                . exact e
                . exact e
                . exact absurd (sees_at hq hoj hop).1 (by omega)
             |false=>
              have hnm:=hmap hq (by omega)
              cases b0 with
              |map es=>subst hb';exact absurd rfl (hnm _)
              |_=>subst hb';rfl
   refine⟨hI.msize,fun n b hb => ?_,fun n m b c l k hne h1 h2 o1 o2 e1 e2 => ?_,hI.zb,hI.zlo,hI.zhi,fun n b l hb ho' hl => ?_,hI.zc⟩
   . rcases plain n b hb with rfl | ⟨b0,h1,h2,h3⟩
     . trivial
     . have:=hI.ok n b0 h1 h2
       rw[h3] at this;exact this
   . rcases plain n b h1 with rfl | ⟨b0,g1,g2,g3⟩
     . cases o1
     . rcases plain m c h2 with rfl | ⟨c0,g1',g2',g3'⟩
       . cases o2
       . exact hI.apart n m b0 c0 l k hne g1 g1' g2 g2' (by rw[← g3,updB_own] at o1;exact o1) (by rw[← g3',updB_own] at o2;exact o2) e1 e2
   . rcases plain n b hb with rfl | ⟨b0,h1,h2,h3⟩
     . cases ho'
     . exact hI.zown n b0 l h1 h2 (by rw[← h3,updB_own] at ho';exact ho') hl
  have hcnt:∀ i,i<h→listed.getD i true=false→cntU (listed.setIfInBounds i true) h=r:=fun i hih hun=>by
   have hilt:i<ops.length:=Nat.lt_of_lt_of_le hih hd.hle
   have:=cntU_set (listed:=listed) (by rw[hI.size];exact hilt) (getD_both hun) h hih
   omega
  by_cases hlate:lateN ops bs h i0=true∧∀ j,j<h→listed.getD j false=false→lateN ops bs h j=true
  ·
   obtain⟨hun,o,ho,hready⟩:=ready_spec hr0
   have hl:isLate o=true:=by
        have:=hlate.1
        unfold lateN at this
        rw[ho] at this
        simp only[Bool.and_eq_true] at this
        exact this.1
   have hfree:∀ j oj,ops.toArray[j]? = some oj→j≠i0→listed.getD j true=false→(∀ e∈oj.after,Region.binds .any e=true→e.on≠i0)→o.apart ops.toArray oj=true:=by
        intro j oj hoj hne hju hno
        rw[List.getElem?_toArray] at hoj
        rcases hd.late i0 j o oj hi0 ho hlate.1 hoj (Ne.symm hne) with hb | ⟨e,he,hb,heq⟩|hap
        . have hjl:j<ops.length:=(List.getElem?_eq_some_iff.1 hoj).1
          have:=hI.bits hd i0 (fun _=>hready) ho j hjl hb
          rw[getD_both hju] at this;cases this
        . exact absurd heq (hno e he hb)
        . exact hap
   obtain⟨o',ho',hor⟩:=hP i0 hi0
   obtain rfl:o=o':=by rw[ho] at ho';exact Option.some.inj ho'
   have hnd':∀ (j:Nat) (o:Oper),ops.toArray[j]? = some o→isDef o=false:=fun j o hj=>hnd j o (by rw[List.getElem?_toArray] at hj;exact hj)
   rcases hor with⟨hw,hsv,hnb,hin⟩ | ⟨hw,hO,hs1,hs2,hin,hlt⟩ | ⟨_,_,_,t,x,k,v,n,hop,_⟩
   . refine first_in (v:=undef) (by rw[List.getElem?_toArray];exact ho) hd.nosel hnd' hQ (r+g) listed a w hfree hr0 (.inr ⟨hI.wants hd hi0 ho hun hready hw,rfl⟩) ?_
     exact ih _ ρ _ w (hcnt i0 hi0 hun) (hI.next hd hh hP hF hM hi0 ho hun hready hin (v:=undef) (fun _=>by rw[hsv];rfl) (Val.Ext.refl ..) (Below.refl _ _) (by rw[hnb];exact New.nil (fun k hk=>(hI.zhi k hk).1) (Nat.le_refl _)))
   . have hev:=hI.ev hd hi0 ho hun hready
     have hwp:=hO B ρ a w (fun a' w'=>∃ (ρ':Val) (v:Value),a'=a.put o.dst v∧(svN hs i0 ≠ .junk→v=(svN hs i0).den ρ')∧Val.Ext w.heap.size (fun n => ¬ ((MsN M hs i0).length≤n∧n < (MsN M hs i0).length+(nbN hs i0).length)) ρ ρ'∧Below w.heap.size w w'∧New B w.heap.size ρ' (MsN M hs i0).length (nbN hs i0) w') (fun _ _ _=>False) hev (hmem i0 o hi0 ho hready) (hG w hI.below) (fun ρ' w' v hv hρ hb hn=>by
      rw[maskM_length,MuN_length] at hρ hn
      exact⟨ρ',v,rfl,hv,hρ,hb,hn⟩)
     obtain⟨v0,hv0,ρ',v,hav,hv,hρ,hb,hn⟩:=late_run (hlt hl) ρ a hev hwp
     refine first_in (v:=v0) (by rw[List.getElem?_toArray];exact ho) hd.nosel hnd' hQ (r+g) listed a w hfree hr0 (.inl ⟨hI.wants hd hi0 ho hun hready hw,hv0⟩) ?_
     rw[hav]
     exact ih _ ρ' _ w (hcnt i0 hi0 hun) (hI.next hd hh hP hF hM hi0 ho hun hready hin hv hρ hb hn)
   . unfold isLate at hl
     rw[hop] at hl;cases hl
  ·
   obtain⟨j1,hj1,hju,hjl⟩:∃ j,j<h∧listed.getD j false=false∧lateN ops bs h j=false:=by
        refine Classical.byContradiction fun hno=>hlate ?_
        have hall':∀ j,j<h→listed.getD j false=false→lateN ops bs h j=true:=fun j hj hu=>by
         cases e:lateN ops bs h j with
         |true=>rfl
         |false=>exact absurd ⟨j,hj,hu,e⟩ hno
        exact⟨hall' i0 hi0 hu0,hall'⟩
   refine⟨fun hnil => ?_,fun i hir => ?_⟩
   . rw[hnil] at hr0;cases hr0
   . obtain⟨hun,o,ho,hready⟩:=ready_spec hir
     have hilt:i<ops.length:=(List.getElem?_eq_some_iff.1 ho).1
     have hih:i<h:=by
      rcases Nat.lt_or_ge i h with h1|h1
      . exact h1
      . exfalso
        rcases hd.tail i j1 h1 hilt (by omega) with hb | ⟨_,hb⟩
        . have:=hI.bits hd i (fun _=>hready) ho j1 (by omega) hb
          rw[hju] at this;cases this
        . rw[hjl] at hb;cases hb
     unfold wpOpIn
     rw[show ops.toArray[i]? = some o by simpa using ho]
     simp only
     obtain⟨o',ho',hor⟩:=hP i hih
     obtain rfl:o=o':=by rw[ho] at ho';exact Option.some.inj ho'
     rcases hor with⟨hw,hsv,hnb,hin⟩ | ⟨hw,hO,hs1,hs2,hin,hlt⟩ | ⟨hw,hsv,hnb,t,x,k,v,n,hop,hx,hin,hok⟩
     . rw[hI.wants hd hih ho hun hready hw,if_neg (by simp)]
       exact⟨fun _ _=>trivial,ih _ ρ _ w (hcnt i hih hun) (hI.next hd hh hP hF hM hih ho hun hready hin (v:=undef) (fun _=>by rw[hsv];rfl) (Val.Ext.refl ..) (Below.refl _ _) (by rw[hnb];exact New.nil (fun k hk=>(hI.zhi k hk).1) (Nat.le_refl _)))⟩
     . rw[hI.wants hd hih ho hun hready hw,if_pos rfl]
       refine wp_in (hnd i o ho) (hO B ρ a w _ Q (hI.ev hd hih ho hun hready) (hmem i o hih ho hready) (hG w hI.below) fun ρ' w' v hv hρ hb hn => ?_)
       rw[maskM_length,MuN_length] at hρ hn
       exact ih _ ρ' _ w' (hcnt i hih hun) (hI.next hd hh hP hF hM hih ho hun hready hin hv hρ hb hn)
     . rw[hI.wants hd hih ho hun hready hw,if_pos rfl]
       obtain⟨w',hr,hI'⟩:=hI.put hE hd hh hP hih ho hun hready hsv hnb hop hx hin hok
       exact wp_in (hnd i o ho) (wp_of_skip hr (ih _ ρ _ w' (hcnt i hih hun) hI'))
end
theorem draw_sound {Q:Exit→Act→World→Prop}{B:Bd}{w0:World}{L:LD}{ro:Option Nat}(hm:P.follows .mixedOrders=true)(hG:∀ w,Kept B w0 w→G w){Γ:Env}(hΓ:EnvOk P G Γ){Y:YH}(hY:YOk P G B ro Y){gs:List Nat}{h:Nat}(hd:drawOk ops bs h=true)(hnd:(ops.all fun o => !isDef o)=true)(hQp:∀ c a w,¬ Q (.panic c) a w)
  {K:KT} (hKP:∀ v F' M',¬ K (some v) F' M') {z:Nat} {ρ0:Val} (hz:z≤M.length) {ρ:Val} (hρz:∀ n,n<z→ρ n=ρ0 n) (hQ:∀ F' M' ρ' a' w',Rel B w0 L ρ' F' M' a' w'→z≤M'.length→(∀ n,n<z→ρ' n=ρ0 n)→K none F' M'→Q .normal a' w') {id:Nat} {a:Act} {w:World}
  (hr:runHead P Γ ops gs bs M.length (ops.take h) 0 F M [] (fun F' M'=>runOps P Γ Y ops gs (ops.drop h) h F' M' K)) (hR:Rel B w0 L ρ F M a w):(Code.region id ops.toArray true).wpIn (Fe ro) 0 P Q a w:=by
 have D:=drawOk_spec hd
 have hlt:(ops.take h).length=h:=by rw[List.length_take];have:=D.hle;omega
 obtain⟨hs,hh,hP,hrun⟩:=runHead_path (ops:=ops) (bs:=bs) (F:=F) (M:=M) hΓ (gs:=gs) (ops.take h) [] (fun j hj=>by rw[hlt] at hj;simp[List.getElem?_take,hj]) (fun i hi=>by simp at hi) hr
 have hh':hs.length=h:=by rw[hh,hlt];simp
 rw[hh'] at hP hrun
 refine wpIn_region_any hm ?_
 have hsz:ops.toArray.size=h+(ops.length-h):=by have:=D.hle;simp;omega
 rw[hsz]
 have hnd':∀ (j:Nat) (o:Oper),ops[j]? = some o→isDef o=false:=fun j o hj=>by
  have:=(List.all_eq_true.1 hnd) o (List.mem_of_getElem? hj)
  simpa using this
 have nol:∀ n,insL hs (lst (Array.replicate (h+(ops.length-h)) false)) h n=[]:=by
  intro n
  cases hq:insL hs (lst (Array.replicate (h+(ops.length-h)) false)) h n with
  |nil=>rfl
  |cons q qs=>
   exfalso
   obtain⟨j,_,hl,_⟩:=insL_mem (q:=q) (by rw[hq];exact List.mem_cons_self ..)
   have:(Array.replicate (h+(ops.length-h)) false).getD j false=true:=hl
   rw[getD_replicate_false] at this;cases this
 have hI0:Inv B w0 L ops F M hs h ρ (Array.replicate (h+(ops.length-h)) false) ρ a {w with drawn:=w.drawn+1}:=by
  have no:∀ i,(Array.replicate (h+(ops.length-h)) false).getD i false=false:=getD_replicate_false _
  refine⟨by have:=D.hle;simp;omega,fun t _=>no t,(fun j o hj=>by rw[no] at hj;cases hj),hR.marks,hR.len,hR.size,(fun i s _ hl=>by rw[no] at hl;cases hl),fun s x hs _ hx=>hR.slot s x hs hx,hR.mem.size,fun n b hb hp => ?_,fun n m b c l k hne h1 h2 p1 p2 => ?_,fun _ _=>rfl,hR.below.drew,hR.mem.zb,hR.mem.zlo,hR.mem.zhi,fun n b l hb hp => ?_,hR.mem.zc⟩
  . rw[nol,updB_nil]
    rcases hp with hlt | ⟨_,k,_,hl⟩
    . have hb0:M[n]? = some b:=by
       have:=MsN_pre (M:=M) hs (Nat.zero_le h) n (M[n]'hlt) (List.getElem?_eq_getElem hlt)
       rw[hb] at this;rw[List.getElem?_eq_getElem hlt];exact this.symm▸rfl
      exact b.ok_same (w:=w) (hR.mem.ok n b hb0) (fun _ _=>rfl) (fun _ _=>rfl) (fun _ _ _=>rfl)
    . rw[no] at hl;cases hl
  . have low:∀ n b,(MsN M hs h)[n]? = some b→Pres M.length h hs (Array.replicate (h+(ops.length-h)) false) n→M[n]? = some b:=by
        intro n b hb hp
        rcases hp with hlt | ⟨_,k,_,hl⟩
        . have:=MsN_pre (M:=M) hs (Nat.zero_le h) n (M[n]'hlt) (List.getElem?_eq_getElem hlt)
          rw[hb] at this;rw[List.getElem?_eq_getElem hlt];exact this.symm▸rfl
        . rw[no] at hl;cases hl
    exact hR.mem.apart n m b c l k hne (low n b h1 p1) (low m c h2 p2)
  . have low:M[n]? = some b:=by
        rcases hp with hlt | ⟨_,k,_,hl⟩
        . have:=MsN_pre (M:=M) hs (Nat.zero_le h) n (M[n]'hlt) (List.getElem?_eq_getElem hlt)
          rw[hb] at this;rw[List.getElem?_eq_getElem hlt];exact this.symm▸rfl
        . rw[no] at hl;cases hl
    exact hR.mem.zown n b l low
 refine any_head hΓ.eqs D hh' hnd' hQp hP hR.scF hR.scM hG (fun listed ρ' a' w' hI hall => ?_) h _ ρ a _ ?_ hI0
 ·
  have hl:listed=listedH ops.length h:=by
   apply Array.ext
   . simp[hI.size,listedH]
   . intro i h1 h2
     have h1':i<ops.length:=by rw[← hI.size];exact h1
     have e:(listedH ops.length h)[i]=decide (i<h):=by simp[listedH]
     rw[e]
     rcases Nat.lt_or_ge i h with hi|hi
     . have:=hall i hi;simp[h1] at this;simp[this,hi]
     . have:=hI.tail i hi;simp[h1] at this;simp[this];omega
  have hdl:(ops.drop h).length=ops.length-h:=by simp
  have:=seq_in (P:=P) (Q:=Q) (ro:=ro) (aops:=ops.toArray) (ops.drop h) h listed a' w' (fun j=>by simp) (by rw[hdl,hl];exact D.seq) ?_
  . rwa [hdl] at this
  . have own:∀ n,n < (MsN M hs h).length→M.length≤n→∃ k,(owN hs h)[n-M.length]? = some k:=fun n hn hge=>by
        rw[MsN_length] at hn
        have hp:n-M.length < (owN hs h).length:=by omega
        exact⟨_,List.getElem?_eq_getElem hp⟩
    have pall:∀ n b,(MsN M hs h)[n]? = some b→Pres M.length h hs listed n:=fun n b hb=>by
        have hn:=(List.getElem?_eq_some_iff.1 hb).1
        rcases Nat.lt_or_ge n M.length with h1|h1
        . exact .inl h1
        . obtain⟨k,hk⟩:=own n hn h1
          exact .inr ⟨h1,k,hk,hall k (owN_lt hs h _ _ hk)⟩
    have vis:∀ i,i<h→∀ i',i'≤h→∀ n,visB bs M.length (owN hs i') i n=true→(decide (n < (MsN M hs h).length))=true:=fun i hi i' hi' n hv=>by
        rw[decide_eq_true_eq,MsN_length]
        rcases visB_spec hv with h1 | ⟨h1,k,hk,_⟩
        . omega
        . have:=(List.getElem?_eq_some_iff.1 (owN_pre hs hi' _ _ hk)).1
          omega
    have hF':∀ (s:Nat) (x:SV),(FsN ops F hs h)[s]? = some x→x.sc (fun n=>decide (n < (MsN M hs h).length))=true:=fun s x hx=>by
        rcases FsN_get ops F hs h s x hx with⟨j,hj,_,rfl,_⟩ | ⟨_,hx'⟩
        . obtain⟨oj,_,hor⟩:=hP j hj
          rcases hor with⟨_,e,_⟩ | ⟨_,_,hs1,_⟩ | ⟨_,e,_⟩
          . rw[e];rfl
          . exact SV.sc_mono (vis j hj (j+1) hj) _ hs1
          . rw[e];rfl
        . refine SV.sc_mono (fun n hn => ?_) x (scL_get hR.scF hx')
          rw[decide_eq_true_eq] at hn ⊢
          rw[MsN_length];omega
    have hMs:∀ i,i≤h→∀ b∈MsN M hs i,b.sc (fun n=>decide (n < (MsN M hs h).length))=true:=by
        intro i
        induction i with
        |zero=>
         intro _ b hb
         refine Blk.sc_mono (fun n hn => ?_) b ((List.all_eq_true.1 hR.scM) b hb)
         rw[decide_eq_true_eq] at hn ⊢
         rw[MsN_length];omega
        |succ i ih=>
         intro hi b hb
         simp only[MsN,List.mem_append] at hb
         rcases hb with hb|hb
         . exact ih (by omega) b hb
         . obtain⟨oj,_,hor⟩:=hP i hi
           rcases hor with⟨_,_,e,_⟩ | ⟨_,_,_,hs2,_⟩ | ⟨_,_,e,_⟩
           . rw[e] at hb;cases hb
           . exact Blk.sc_mono (vis i hi (i+1) hi) b ((List.all_eq_true.1 hs2) b hb)
           . rw[e] at hb;cases hb
    have hall':∀ n,insL hs (lst listed) h n=insL hs (fun _=>true) h n:=fun n=>insL_congr fun j hj _=>hall j hj
    have hMu:∀ n b,(MuN M hs h)[n]? = some b→∃ b0,(MsN M hs h)[n]? = some b0∧b=updB (insL hs (lst listed) h n) b0:=by
        intro n b hb
        rw[MuN_at hP (Nat.le_refl h)] at hb
        cases hms:(MsN M hs h)[n]? with
        |none=>rw[hms] at hb;cases hb
        |some b0=>
         rw[hms] at hb
         exact⟨b0,rfl,by rw[hall'];exact(Option.some.inj hb).symm⟩
    have hscMu:scAll (MuN M hs h).length (MuN M hs h)=true:=by
        unfold scAll
        rw[List.all_eq_true]
        intro b hb
        obtain⟨n,hn⟩:=List.getElem?_of_mem hb
        obtain⟨b0,hb0,rfl⟩:=hMu n b hn
        rw[MuN_length]
        refine updB_sc (hMs h (Nat.le_refl _) b0 (List.mem_of_getElem? hb0)) fun q hq => ?_
        obtain⟨j,hj,_,hjn⟩:=insL_mem hq
        obtain⟨oj,_,hor⟩:=hP j hj
        rcases hor with⟨_,_,_,e⟩ | ⟨_,_,_,_,e,_⟩ | ⟨_,_,_,t,x,k,v,n',_,_,e,hok⟩
        . rw[hjn] at e;cases e
        . rw[hjn] at e;cases e
        . rw[hjn] at e
          simp only[Option.some.injEq,Prod.mk.injEq] at e
          obtain⟨_,_,_,_,_,_,_,_,_,_,_,hk,hv,_⟩:=insOk_spec hok
          rw[e.2.1,e.2.2]
          exact⟨SV.sc_mono (vis j hj j (Nat.le_of_lt hj)) _ hk,SV.sc_mono (vis j hj j (Nat.le_of_lt hj)) _ hv⟩
    have hMlen:M.length≤(MuN M hs h).length:=by rw[MuN_length,MsN_length];omega
    have hflen:∀ i,(FsN ops F hs i).length=F.length:=by
        intro i;induction i with
        |zero=>rfl
        |succ i ih=>simp only[FsN,setF_length,ih]
    have hndd:((ops.drop h).all fun o => !isDef o)=true:=List.all_eq_true.2 fun o ho=>(List.all_eq_true.1 hnd) o (List.mem_of_mem_drop ho)
    refine runOps_list hG hΓ hY (ops:=ops) (z:=z) (ρ0:=ρ0) hQ (fun v F' M' _ _ _ _ _ _ hK=>absurd hK (hKP v F' M')) (ops.drop h) h _ _ ρ' a' w' hndd (by omega) (fun n hn=>by rw[hI.base n (by omega),hρz n hn]) hrun ⟨hI.marks,?_,hI.tsize,fun s x hs' hx => ?_,scL_of fun s x hs' => ?_,hscMu,⟨hI.msize,fun n b hb => ?_,fun n m b c l k hne h1 h2 o1 o2 e1 e2 => ?_,hI.zb,hI.zlo,hI.zhi,fun n b l hb ho' hl => ?_,hI.zc⟩,hI.below⟩
    . rw[hflen,hI.flen]
    . rcases FsN_get ops F hs h s x hs' with⟨j,hj,hdt,rfl,hlt'⟩ | ⟨hno,hx'⟩
      . exact hI.slotL j s hj (hall j hj) hdt (by rw[← hI.flen];exact hlt') hx
      . exact hI.slotF s x hx' (fun i hi _=>hno i hi) hx
    . rw[MuN_length];exact hF' s x hs'
    . obtain⟨b0,hb0,rfl⟩:=hMu n b hb
      exact hI.ok n b0 hb0 (pall n b0 hb0)
    . obtain⟨b0,hb0,rfl⟩:=hMu n b h1
      obtain⟨c0,hc0,rfl⟩:=hMu m c h2
      rw[updB_own] at o1 o2
      exact hI.apart n m b0 c0 l k hne hb0 hc0 (pall n b0 hb0) (pall m c0 hc0) o1 o2 e1 e2
    . obtain⟨b0,hb0,rfl⟩:=hMu n b hb
      rw[updB_own] at ho'
      exact hI.zown n b0 l hb0 (pall n b0 hb0) ho' hl
 . have:∀ k,cntU (Array.replicate (h+(ops.length-h)) false) k=k:=by
    intro k;induction k with
    |zero=>rfl
    |succ k ih=>simp only[cntU,ih,getD_replicate_false];simp
   exact this h
end
end Go.Sx
