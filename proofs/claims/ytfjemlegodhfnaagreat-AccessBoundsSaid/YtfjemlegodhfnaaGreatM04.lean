import Derived.Test.YtfjemlegodhfnaaGreatM03
set_option linter.all false
namespace Go.Sx
open Go.RowKit Go.Proofs.YtfjemlegodhfnaaGreat
inductive CK where
 |int
 |bool
 |str
def cellEqV:CK→Value→Value→Option Bool
 | .int,.int k a,.int k' b=>if k=k' then some (a==b) else none
 | .bool,.bool a,.bool b=>some (a==b)
 | .str,.string a,.string b=>some (a==b)
 |_,_,_=>none
def cellsEqV:List CK→List Value→List Value→Option Bool
 |[],[],[]=>some true
 |k::ks,x::xs,y::ys=>match cellEqV k x y,cellsEqV ks xs ys with
  |some a,some b=>some (a&&b)
  |_,_=>none
 |_,_,_=>none
def eqTy (P:Program):Nat→TypeId→Option (List CK)
 |0,_=>none
 |d+1,t=>match P.underlying t with
  |some (.int _)=>some [.int]
  |some .bool=>some [.bool]
  |some .string=>some [.str]
  |some (.struct fs)=>if P.stoodInHeld t then none else
   fs.toList.foldr (fun f r=>match r with
    |some k=>match eqTy P d f.type,P.info? f.type with
     |some n,some i=>if f.name ≠ "_" ∧ i.size=n.length then some (n++k) else none
     |_,_=>none
    |none=>none) (some [])
  |some (.array n e)=>match eqTy P d e,P.info? e with
   |some k,some i=>if i.size=k.length then some (List.replicate n k).flatten else none
   |_,_=>none
  |_=>none
def inRow (P:Program):List Field→Nat→Bool
 |[],_=>true
 |f::fs,o=>decide (f.offset=o)&&match P.info? f.type with
  |some i=>inRow P fs (o+i.size)
  |none=>false
def rowsB (P:Program):Nat→TypeId→Bool
 |0,_=>true
 |d+1,t=>match P.underlying t with
  |some (.struct fs)=>inRow P fs.toList 0&&fs.toList.all fun f=>rowsB P d f.type
  |some (.array _ e)=>rowsB P d e
  |_=>true
def isRowD (d:TypeDesc):Prop:=(∃ fs,d = .struct fs) ∨ ∃ n e,d = .array n e
def EqOk (P:Program)(t:TypeId)(ks:List CK):Prop:=(∃ d,P.underlying t=some d∧isRowD d)∧∀ (xs ys:List Value) (b:Bool) (w:World),cellsEqV ks xs ys=some b→
 (∀ op x y,(eqGuard op t x y (.agg xs.toArray) (.agg ys.toArray)).run P w = .ok () w)∧(Op.equal t (.agg xs.toArray) (.agg ys.toArray)).run P w = .ok b w∧∀ e,(Instr.checkKey e 10000 t (.agg xs.toArray)).run P w = .ok () w
def eqB (P:Program)(t:TypeId)(ks:List CK):Bool:=(match P.underlying t with|some (.struct _)=>true|some (.array _ _)=>true|_=>false) && !P.eqGuardType P.depth t&&rowsB P 20 t&&(match eqTy P 20 t with
 |some l=>l.length==ks.length&&(l.zip ks).all fun p=>match p with
  |(.int,.int)=>true
  |(.bool,.bool)=>true
  |(.str,.str)=>true
  |_=>false
 |none=>false)
section
variable {P:Program}
def foldTy (P:Program)(d:Nat):List Field→Option (List CK):=List.foldr (fun f r=>match r with
     |some k=>match eqTy P d f.type,P.info? f.type with
      |some n,some i=>if f.name ≠ "_" ∧ i.size=n.length then some (n++k) else none
      |_,_=>none
     |none=>none) (some [])
theorem foldTy_cons {d:Nat}{f:Field}{fs:List Field}{m:List CK}(h:foldTy P d (f::fs)=some m):∃ n k i,eqTy P d f.type=some n∧P.info? f.type=some i∧i.size=n.length∧f.name ≠ "_" ∧ foldTy P d fs=some k∧m=n++k:=by
 have h':(match foldTy P d fs with
        |some k=>match eqTy P d f.type,P.info? f.type with
         |some n,some i=>if f.name ≠ "_" ∧ i.size=n.length then some (n++k) else none
         |_,_=>none
        |none=>none)=some m:=h
 split at h'
 . rename_i k hk
   split at h'
   . rename_i n i hn hi
     split at h'
     . rename_i hc
       exact⟨n,k,i,hn,hi,hc.2,hc.1,hk,(Option.some.inj h').symm⟩
     . cases h'
   . cases h'
 . cases h'
theorem cellsEqV_len:∀ {ks:List CK} {xs ys:List Value} {b:Bool},cellsEqV ks xs ys=some b→xs.length=ks.length∧ys.length=ks.length
 |[],[],[],_,_=>⟨rfl,rfl⟩
 |[],[],_::_,_,h=>by cases h
 |[],_::_,_,_,h=>by cases h
 |_::_,[],_,_,h=>by cases h
 |_::_,_::_,[],_,h=>by cases h
 |k::ks,x::xs,y::ys,b,h=>by
  simp only[cellsEqV] at h
  split at h
  . rename_i a c h1 h2
    have:=cellsEqV_len h2
    simp[this.1,this.2]
  . cases h
theorem cellsEqV_split:∀ {ks ls:List CK} {xs ys:List Value} {b:Bool},cellsEqV (ks++ls) xs ys=some b→
  ∃ b1 b2,cellsEqV ks (xs.take ks.length) (ys.take ks.length)=some b1∧cellsEqV ls (xs.drop ks.length) (ys.drop ks.length)=some b2∧b=(b1&&b2)
 |[],ls,xs,ys,b,h=>⟨true,b,by simp[cellsEqV],by simpa using h,by simp⟩
 |k::ks,ls,[],ys,b,h=>by simp[cellsEqV] at h
 |k::ks,ls,x::xs,[],b,h=>by simp[cellsEqV] at h
 |k::ks,ls,x::xs,y::ys,b,h=>by
  simp only[List.cons_append,cellsEqV] at h
  split at h
  . rename_i a c h1 h2
    obtain rfl:=Option.some.inj h
    obtain⟨b1,b2,e1,e2,e3⟩:=cellsEqV_split h2
    refine⟨a&&b1,b2,?_,by simpa using e2,by rw[e3,Bool.and_assoc]⟩
    simp only[List.length_cons,List.take_succ_cons,cellsEqV,h1,e1]
  . cases h
def ofCells (P:Program)(t:TypeId)(xs:List Value):Value:=match P.underlying t with
 |some (.struct _)=>.agg xs.toArray
 |some (.array _ _)=>.agg xs.toArray
 |_=>xs.headD undef
theorem run_part_of {t:TypeId}{i:TypeInfo}{d:Nat}{ks:List CK}(hi:P.info? t=some i)(hs:i.size=ks.length)(ht:eqTy P d t=some ks)(xs:List Value)(off:Nat)(hl:off+ks.length≤xs.length)(w:World):
  (part t xs.toArray off).run P w = .ok (ofCells P t ((xs.drop off).take ks.length)) w:=by
 cases d with
 |zero=>simp[eqTy] at ht
 |succ d=>
  simp only[eqTy] at ht
  have one:∀ {dd:TypeDesc},P.underlying t=some dd→ks.length=1→(∀ fs,dd ≠ .struct fs)→(∀ k e,dd ≠ .array k e)→(part t xs.toArray off).run P w = .ok (ofCells P t ((xs.drop off).take ks.length)) w:=by
   intro dd hu hn h1 h2
   rw[hn]
   have ha:(isAgg t).run P w = .ok false w:=by
        unfold isAgg
        rw[Sem.run_bind,run_underlying hu w]
        cases dd<;>first|rfl|exact absurd rfl (h1 _)|exact absurd rfl (h2 _ _)
   have ho:ofCells P t ((xs.drop off).take 1)=xs[off]'(by omega):=by
        unfold ofCells
        rw[hu]
        have:(xs.drop off).take 1=[xs[off]'(by omega)]:=by
         rw[List.drop_eq_getElem_cons (by omega)];rfl
        rw[this]
        cases dd<;>first|rfl|exact absurd rfl (h1 _)|exact absurd rfl (h2 _ _)
   simp only[part,Sem.run_bind,ha,Result.andThen_ok,Bool.false_eq_true,if_false,ho]
   have:xs.toArray[off]? = some (xs[off]'(by omega)):=by simp
   rw[this];rfl
  split at ht
  . rename_i hu;exact one hu (by rw[← Option.some.inj ht];rfl) (by simp) (by simp)
  . rename_i hu;exact one hu (by rw[← Option.some.inj ht];rfl) (by simp) (by simp)
  . rename_i hu;exact one hu (by rw[← Option.some.inj ht];rfl) (by simp) (by simp)
  . rename_i fs hu
    have ha:(isAgg t).run P w = .ok true w:=by unfold isAgg;rw[Sem.run_bind,run_underlying hu w];rfl
    simp only[part,Sem.run_bind,ha,Result.andThen_ok,if_true,sizeOf,typeInfo,ofCells,hu]
    simp[hi,hs,List.drop_take]
  . rename_i n e hu
    have ha:(isAgg t).run P w = .ok true w:=by unfold isAgg;rw[Sem.run_bind,run_underlying hu w];rfl
    simp only[part,Sem.run_bind,ha,Result.andThen_ok,if_true,sizeOf,typeInfo,ofCells,hu]
    simp[hi,hs,List.drop_take]
  . cases ht
theorem equal_fields {d dd:Nat}(ih:∀ (t:TypeId) (ks:List CK) (xs ys:List Value) (b:Bool) (w:World),eqTy P d t=some ks→rowsB P d t=true→cellsEqV ks xs ys=some b→(Op.equalIn dd t (ofCells P t xs) (ofCells P t ys)).run P w = .ok b w)(w:World):
  ∀ (fs:List Field) (ks:List CK) (o:Nat) (xs ys:List Value) (b:Bool),foldTy P d fs=some ks→inRow P fs o=true→(fs.all fun f=>rowsB P d f.type)=true→o+ks.length≤xs.length→o+ks.length≤ys.length→
    cellsEqV ks ((xs.drop o).take ks.length) ((ys.drop o).take ks.length)=some b→
    (forIn fs (none,PUnit.unit) (fun f (_:Option Bool×PUnit)=>(do
        if f.name ≠ "_" then
         if !(← Op.equalIn dd f.type (← part f.type xs.toArray f.offset) (← part f.type ys.toArray f.offset)) then Pure.pure (.done (some false,PUnit.unit)) else Pure.pure (.yield (none,PUnit.unit))
        else Pure.pure (.yield (none,PUnit.unit)):Sem (ForInStep (Option Bool×PUnit))))).run P w = .ok (if b then (none,PUnit.unit) else (some false,PUnit.unit)) w
 |[],ks,o,xs,ys,b,h,_,_,_,_,hb=>by
  obtain rfl:=Option.some.inj (show some []=some ks from h)
  simp only[List.length_nil,List.take_zero,cellsEqV,Option.some.injEq] at hb
  subst hb
  simp
 |f::fs,ks,o,xs,ys,b,h,hr,hall,hx,hy,hb=>by
  obtain⟨n,k,i,hn,hi,hs,hname,hk,rfl⟩:=foldTy_cons h
  simp only[inRow,hi,Bool.and_eq_true,decide_eq_true_eq] at hr
  simp only[List.all_cons,Bool.and_eq_true] at hall
  obtain⟨b1,b2,e1,e2,rfl⟩:=cellsEqV_split hb
  rw[List.length_append] at hx hy e1 e2
  have t1:∀ zs:List Value,(((zs.drop o).take (n.length+k.length)).take n.length)=(zs.drop o).take n.length:=fun zs=>by rw[List.take_take];congr 1;omega
  have t2:∀ zs:List Value,(((zs.drop o).take (n.length+k.length)).drop n.length)=(zs.drop (o+n.length)).take k.length:=fun zs=>by rw[List.drop_take,List.drop_drop];congr 1;omega
  rw[t1,t1] at e1
  rw[t2,t2] at e2
  have p1:=run_part_of hi hs hn xs o (by omega) w
  have p2:=run_part_of hi hs hn ys o (by omega) w
  have q:=ih f.type n _ _ b1 w hn hall.1 e1
  have rest:=equal_fields ih w fs k (o+n.length) xs ys b2 hk (by rw[← hs];exact hr.2) hall.2 (by omega) (by omega) e2
  rw[List.forIn_cons]
  simp only[hname,ne_eq,not_false_eq_true,if_true,hr.1,Sem.run_bind,p1,p2,q,Result.andThen_ok]
  cases b1
  . simp
  . simpa using rest
theorem equal_elems {d dd:Nat}{e:TypeId}{k:List CK}{i:TypeInfo}(hi:P.info? e=some i)(hs:i.size=k.length)(he:eqTy P d e=some k)
  (ih:∀ (xs ys:List Value) (b:Bool) (w:World),cellsEqV k xs ys=some b→(Op.equalIn dd e (ofCells P e xs) (ofCells P e ys)).run P w = .ok b w) (w:World):
  ∀ (n s:Nat) (xs ys:List Value) (b:Bool),(s+n)*k.length≤xs.length→(s+n)*k.length≤ys.length→
    cellsEqV (List.replicate n k).flatten ((xs.drop (s*k.length)).take (n*k.length)) ((ys.drop (s*k.length)).take (n*k.length))=some b→
    (forIn (List.range' s n 1) (none,PUnit.unit) (fun j (_:Option Bool×PUnit)=>(do
        if !(← Op.equalIn dd e (← part e xs.toArray (j*i.size)) (← part e ys.toArray (j*i.size))) then Pure.pure (.done (some false,PUnit.unit)) else Pure.pure (.yield (none,PUnit.unit)):Sem (ForInStep (Option Bool×PUnit))))).run P w = .ok (if b then (none,PUnit.unit) else (some false,PUnit.unit)) w
 |0,s,xs,ys,b,_,_,hb=>by
  simp only[List.replicate_zero,List.flatten_nil,Nat.zero_mul,List.take_zero,cellsEqV,Option.some.injEq] at hb
  subst hb
  simp
 |n+1,s,xs,ys,b,hx,hy,hb=>by
  rw[List.replicate_succ,List.flatten_cons] at hb
  obtain⟨b1,b2,e1,e2,rfl⟩:=cellsEqV_split hb
  have hsn:(s+(n+1))*k.length=s*k.length+k.length+n*k.length:=by rw[Nat.add_mul,Nat.succ_mul];omega
  have hs1:(s+1)*k.length=s*k.length+k.length:=Nat.succ_mul ..
  have hn1:(n+1)*k.length=n*k.length+k.length:=Nat.succ_mul ..
  have t1:∀ zs:List Value,(((zs.drop (s*k.length)).take ((n+1)*k.length)).take k.length)=(zs.drop (s*k.length)).take k.length:=fun zs=>by rw[List.take_take];congr 1;omega
  have t2:∀ zs:List Value,(((zs.drop (s*k.length)).take ((n+1)*k.length)).drop k.length)=(zs.drop ((s+1)*k.length)).take (n*k.length):=fun zs=>by rw[List.drop_take,List.drop_drop,hs1];congr 1;omega
  rw[t1,t1] at e1
  rw[t2,t2] at e2
  have p1:=run_part_of hi hs he xs (s*k.length) (by omega) w
  have p2:=run_part_of hi hs he ys (s*k.length) (by omega) w
  have q:=ih _ _ b1 w e1
  have rest:=equal_elems hi hs he ih w n (s+1) xs ys b2 (by rw[show s+1+n=s+(n+1) by omega];exact hx) (by rw[show s+1+n=s+(n+1) by omega];exact hy) e2
  rw[List.range'_succ,List.forIn_cons]
  simp only[hs,Sem.run_bind,p1,p2,q,Result.andThen_ok]
  cases b1
  . simp
  . simpa [hs] using rest
theorem equal_cells:∀ (d dd:Nat) (t:TypeId) (ks:List CK) (xs ys:List Value) (b:Bool) (w:World),d≤dd→eqTy P d t=some ks→rowsB P d t=true→cellsEqV ks xs ys=some b→
  (Op.equalIn dd t (ofCells P t xs) (ofCells P t ys)).run P w = .ok b w:=by
 intro d
 induction d with
 |zero=>intro dd t n xs ys b w _ h;simp[eqTy] at h
 |succ d ih=>
  intro dd t ks xs ys b w hd ht hr hb
  obtain⟨dd,rfl⟩:∃ e,dd=e+1:=⟨dd-1,by omega⟩
  simp only[eqTy] at ht
  have leaf:∀ {u:TypeDesc} {k:CK},P.underlying t=some u→ks=[k]→(∀ fs,u ≠ .struct fs)→(∀ n e,u ≠ .array n e)→∃ x y,ofCells P t xs=x∧ofCells P t ys=y∧cellEqV k x y=some b:=by
   intro u k hu hn h1 h2
   subst hn
   obtain⟨l1,l2⟩:=cellsEqV_len hb
   obtain⟨x,rfl⟩:=List.length_eq_one_iff.1 l1
   obtain⟨y,rfl⟩:=List.length_eq_one_iff.1 l2
   simp only[cellsEqV] at hb
   refine⟨x,y,?_,?_,?_⟩
   . unfold ofCells;rw[hu];cases u<;>first|rfl|exact absurd rfl (h1 _)|exact absurd rfl (h2 _ _)
   . unfold ofCells;rw[hu];cases u<;>first|rfl|exact absurd rfl (h1 _)|exact absurd rfl (h2 _ _)
   . cases h:cellEqV k x y with
     |none=>rw[h] at hb;cases hb
     |some c=>rw[h] at hb;simpa using hb
  split at ht
  . rename_i k hu
    obtain⟨x,y,e1,e2,e3⟩:=leaf hu (Option.some.inj ht).symm (by simp) (by simp)
    rw[e1,e2]
    cases x<;>cases y<;>simp only[cellEqV] at e3<;>try (cases e3;done)
    split at e3
    . rename_i hk;simp[Op.equalIn,run_underlying hu,hk,Option.some.inj e3]
    . cases e3
  . rename_i hu
    obtain⟨x,y,e1,e2,e3⟩:=leaf hu (Option.some.inj ht).symm (by simp) (by simp)
    rw[e1,e2]
    cases x<;>cases y<;>simp only[cellEqV] at e3<;>try (cases e3;done)
    simp[Op.equalIn,run_underlying hu,Option.some.inj e3]
  . rename_i hu
    obtain⟨x,y,e1,e2,e3⟩:=leaf hu (Option.some.inj ht).symm (by simp) (by simp)
    rw[e1,e2]
    cases x<;>cases y<;>simp only[cellEqV] at e3<;>try (cases e3;done)
    simp[Op.equalIn,run_underlying hu,Option.some.inj e3]
  . rename_i fs hu
    split at ht
    . cases ht
    . rename_i hst
      have e:∀ zs:List Value,ofCells P t zs = .agg zs.toArray:=fun zs=>by unfold ofCells;rw[hu]
      rw[e,e]
      simp only[rowsB,hu,Bool.and_eq_true] at hr
      obtain⟨l1,l2⟩:=cellsEqV_len hb
      have key:=equal_fields (P:=P) (d:=d) (dd:=dd) (fun t ks xs ys b w h1 h2 h3=>ih dd t ks xs ys b w (by omega) h1 h2 h3) w fs.toList ks 0 xs ys b ht hr.1 hr.2 (by omega) (by omega) (by rw[List.drop_zero,List.drop_zero,List.take_of_length_le (by omega),List.take_of_length_le (by omega)];exact hb)
      simp only[Op.equalIn,Sem.run_bind,run_underlying hu,Result.andThen_ok,program,Sem.run]
      rw[if_neg hst,Sem.run_bind,← Array.forIn_toList]
      have key':(Sem.run P (forIn fs.toList (none,()) fun f (__s:Option Bool×Unit)=>(do
       if f.name ≠ "_" then
           if !(← Op.equalIn dd f.type (← part f.type xs.toArray f.offset) (← part f.type ys.toArray f.offset)) then Pure.pure (.done (some false,())) else Pure.pure (.yield (none,()))
       else Pure.pure (.yield (none,())):Sem (ForInStep (Option Bool×Unit)))) w)=Result.ok (if b then (none,()) else (some false,())) w:=key
      rw[key']
      cases b<;>rfl
  . rename_i n el hu
    split at ht
    . rename_i k i hk hi
      split at ht
      . rename_i hs
        obtain rfl:=Option.some.inj ht
        have e:∀ zs:List Value,ofCells P t zs = .agg zs.toArray:=fun zs=>by unfold ofCells;rw[hu]
        rw[e,e]
        simp only[rowsB,hu] at hr
        obtain⟨l1,l2⟩:=cellsEqV_len hb
        have hl:(List.replicate n k).flatten.length=n*k.length:=by simp
        have key:=equal_elems (P:=P) (d:=d) (dd:=dd) hi hs hk (fun xs ys b w h=>ih dd el k xs ys b w (by omega) hk hr h) w n 0 xs ys b (by rw[Nat.zero_add,← hl];omega) (by rw[Nat.zero_add,← hl];omega) (by
         rw[Nat.zero_mul,List.drop_zero,List.drop_zero,← hl,List.take_of_length_le (by omega),List.take_of_length_le (by omega)];exact hb)
        have hsz:(sizeOf el).run P w = .ok i.size w:=by simp[sizeOf,typeInfo,hi]
        simp only[Op.equalIn,Sem.run_bind,run_underlying hu,Result.andThen_ok,hsz]
        rw[Std.Legacy.Range.forIn_eq_forIn_range']
        simp only[Std.Legacy.Range.size,Nat.sub_zero,Nat.add_sub_cancel,Nat.div_one]
        have key':(Sem.run P (forIn (List.range' 0 n 1) (none,()) fun j (__s:Option Bool×Unit)=>(do
         if !(← Op.equalIn dd el (← part el xs.toArray (j*i.size)) (← part el ys.toArray (j*i.size))) then Pure.pure (.done (some false,())) else Pure.pure (.yield (none,())):Sem (ForInStep (Option Bool×Unit)))) w)=Result.ok (if b then (none,()) else (some false,())) w:=key
        rw[key']
        cases b<;>rfl
      . cases ht
    . cases ht
  . cases ht
theorem kinds_eq:∀ (l ks:List CK),l.length=ks.length→((l.zip ks).all fun p=>match p with
  |(.int,.int)=>true
  |(.bool,.bool)=>true
  |(.str,.str)=>true
  |_=>false)=true→l=ks
 |[],[],_,_=>rfl
 |[],_::_,h,_=>by simp at h
 |_::_,[],h,_=>by simp at h
 |x::l,y::ks,h,ha=>by
  simp only[List.zip_cons_cons,List.all_cons,Bool.and_eq_true] at ha
  rw[kinds_eq l ks (by simpa using h) ha.2]
  cases x<;>cases y<;>first|rfl | (simp at ha)
theorem key_fields {d dd:Nat}{e:Bool}(ih:∀ (t:TypeId) (ks:List CK) (xs:List Value) (w:World),eqTy P d t=some ks→rowsB P d t=true→xs.length=ks.length→(Instr.checkKey e dd t (ofCells P t xs)).run P w = .ok () w)(w:World):
  ∀ (fs:List Field) (ks:List CK) (o:Nat) (xs:List Value),foldTy P d fs=some ks→inRow P fs o=true→(fs.all fun f=>rowsB P d f.type)=true→o+ks.length≤xs.length→
    (forIn fs PUnit.unit (fun f (_:PUnit)=>(do
        if f.name ≠ "_" then
         Instr.checkKey e dd f.type (← part f.type xs.toArray f.offset)
         Pure.pure (.yield PUnit.unit)
        else Pure.pure (.yield PUnit.unit):Sem (ForInStep PUnit)))).run P w = .ok PUnit.unit w
 |[],ks,o,xs,h,_,_,_=>by simp
 |f::fs,ks,o,xs,h,hr,hall,hx=>by
  obtain⟨n,k,i,hn,hi,hs,hname,hk,rfl⟩:=foldTy_cons h
  simp only[inRow,hi,Bool.and_eq_true,decide_eq_true_eq] at hr
  simp only[List.all_cons,Bool.and_eq_true] at hall
  rw[List.length_append] at hx
  have p1:=run_part_of hi hs hn xs o (by omega) w
  have q:=ih f.type n ((xs.drop o).take n.length) w hn hall.1 (by simp;omega)
  have rest:=key_fields ih w fs k (o+n.length) xs hk (by rw[← hs];exact hr.2) hall.2 (by omega)
  rw[List.forIn_cons]
  simp only[hname,ne_eq,not_false_eq_true,if_true,hr.1,Sem.run_bind,p1,q,Result.andThen_ok]
  exact rest
theorem key_elems {d dd:Nat}{em:Bool}{e:TypeId}{k:List CK}{i:TypeInfo}(hi:P.info? e=some i)(hs:i.size=k.length)(he:eqTy P d e=some k)
  (ih:∀ (xs:List Value) (w:World),xs.length=k.length→(Instr.checkKey em dd e (ofCells P e xs)).run P w = .ok () w) (w:World):
  ∀ (n s:Nat) (xs:List Value),(s+n)*k.length≤xs.length→
    (forIn (List.range' s n 1) PUnit.unit (fun j (_:PUnit)=>(do
        Instr.checkKey em dd e (← part e xs.toArray (j*(← sizeOf e)))
        Pure.pure (.yield PUnit.unit):Sem (ForInStep PUnit)))).run P w = .ok PUnit.unit w
 |0,s,xs,_=>by simp
 |n+1,s,xs,hx=>by
  have hsn:(s+(n+1))*k.length=s*k.length+k.length+n*k.length:=by rw[Nat.add_mul,Nat.succ_mul];omega
  have p1:=run_part_of hi hs he xs (s*k.length) (by omega) w
  have q:=ih ((xs.drop (s*k.length)).take k.length) w (by simp;omega)
  have hsz:(sizeOf e).run P w = .ok k.length w:=by simp[sizeOf,typeInfo,hi,hs]
  have rest:=key_elems hi hs he ih w n (s+1) xs (by rw[show s+1+n=s+(n+1) by omega];exact hx)
  rw[List.range'_succ,List.forIn_cons]
  simp only[Sem.run_bind,hsz,p1,q,Result.andThen_ok]
  exact rest
theorem key_cells (e:Bool):∀ (d dd:Nat) (t:TypeId) (ks:List CK) (xs:List Value) (w:World),d≤dd→eqTy P d t=some ks→rowsB P d t=true→xs.length=ks.length→
  (Instr.checkKey e dd t (ofCells P t xs)).run P w = .ok () w:=by
 intro d
 induction d with
 |zero=>intro dd t n xs w _ h;simp[eqTy] at h
 |succ d ih=>
  intro dd t ks xs w hd ht hr hl
  obtain⟨dd,rfl⟩:∃ e,dd=e+1:=⟨dd-1,by omega⟩
  simp only[eqTy] at ht
  split at ht
  . rename_i k hu;unfold Instr.checkKey;rw[Sem.run_bind,run_underlying hu w];rfl
  . rename_i hu;unfold Instr.checkKey;rw[Sem.run_bind,run_underlying hu w];rfl
  . rename_i hu;unfold Instr.checkKey;rw[Sem.run_bind,run_underlying hu w];rfl
  . rename_i fs hu
    split at ht
    . cases ht
    . have e':ofCells P t xs = .agg xs.toArray:=by unfold ofCells;rw[hu]
      rw[e']
      simp only[rowsB,hu,Bool.and_eq_true] at hr
      have key:=key_fields (P:=P) (d:=d) (dd:=dd) (e:=e) (fun t ks xs w h1 h2 h3=>ih dd t ks xs w (by omega) h1 h2 h3) w fs.toList ks 0 xs ht hr.1 hr.2 (by omega)
      unfold Instr.checkKey
      rw[Sem.run_bind,run_underlying hu w]
      simp only[Result.andThen_ok]
      rw[← Array.forIn_toList]
      refine Eq.trans (Sem.run_bind ..) ?_
      rw[show(Sem.run P (forIn fs.toList PUnit.unit fun f (_:PUnit)=>(do
       if f.name ≠ "_" then
         Instr.checkKey e dd f.type (← part f.type xs.toArray f.offset)
         Pure.pure (.yield PUnit.unit)
       else Pure.pure (.yield PUnit.unit):Sem (ForInStep PUnit))) w)=_ from key]
      rfl
  . rename_i n el hu
    split at ht
    . rename_i k i hk hi
      split at ht
      . rename_i hs
        obtain rfl:=Option.some.inj ht
        have e':ofCells P t xs = .agg xs.toArray:=by unfold ofCells;rw[hu]
        rw[e']
        simp only[rowsB,hu] at hr
        have hl2:(List.replicate n k).flatten.length=n*k.length:=by simp
        have key:=key_elems (P:=P) (d:=d) (dd:=dd) (em:=e) hi hs hk (fun xs w h=>ih dd el k xs w (by omega) hk hr h) w n 0 xs (by rw[Nat.zero_add,← hl2];omega)
        unfold Instr.checkKey
        rw[Sem.run_bind,run_underlying hu w]
        simp only[Result.andThen_ok]
        rw[Std.Legacy.Range.forIn_eq_forIn_range']
        simp only[Std.Legacy.Range.size,Nat.sub_zero,Nat.add_sub_cancel,Nat.div_one]
        refine Eq.trans (Sem.run_bind ..) ?_
        rw[show(Sem.run P (forIn (List.range' 0 n 1) PUnit.unit fun j (_:PUnit)=>(do
         Instr.checkKey e dd el (← part el xs.toArray (j*(← sizeOf el)))
         Pure.pure (.yield PUnit.unit):Sem (ForInStep PUnit))) w)=_ from key]
        rfl
      . cases ht
    . cases ht
  . cases ht
theorem eqB_ok {t:TypeId}{ks:List CK}(h:eqB P t ks=true):EqOk P t ks:=by
 simp only[eqB,Bool.and_eq_true,Bool.not_eq_true'] at h
 obtain⟨⟨⟨h1,h2⟩,h3⟩,h4⟩:=h
 split at h4
 . rename_i l hl
   simp only[Bool.and_eq_true,beq_iff_eq] at h4
   obtain rfl:=kinds_eq l ks h4.1 h4.2
   split at h1
   . rename_i fs hu
     have e:∀ zs:List Value,ofCells P t zs = .agg zs.toArray:=fun zs=>by unfold ofCells;rw[hu]
     refine⟨⟨_,hu,.inl ⟨_,rfl⟩⟩,fun xs ys b w hc=>⟨fun op x y => ?_,?_,fun em => ?_⟩⟩
     . cases op<;>simp[eqGuard,program,Sem.run,h2]
     . have:=equal_cells 20 10000 t l xs ys b w (by omega) hl h3 hc
       rw[e,e] at this
       exact this
     . have:=key_cells em 20 10000 t l xs w (by omega) hl h3 (cellsEqV_len hc).1
       rw[e] at this
       exact this
   . rename_i m el hu
     have e:∀ zs:List Value,ofCells P t zs = .agg zs.toArray:=fun zs=>by unfold ofCells;rw[hu]
     refine⟨⟨_,hu,.inr ⟨_,_,rfl⟩⟩,fun xs ys b w hc=>⟨fun op x y => ?_,?_,fun em => ?_⟩⟩
     . cases op<;>simp[eqGuard,program,Sem.run,h2]
     . have:=equal_cells 20 10000 t l xs ys b w (by omega) hl h3 hc
       rw[e,e] at this
       exact this
     . have:=key_cells em 20 10000 t l xs w (by omega) hl h3 (cellsEqV_len hc).1
       rw[e] at this
       exact this
   . cases h1
 . cases h4
def cellEqS:CK→SV→SV→Option Bool
 | .int,.u64 a,.u64 b=>some (a==b)
 | .int,.int k a,.int k' b=>match kEq k k' with
   |true=>some (a==b)
   |false=>none
 | .bool,x,y=>match boolS x,boolS y with
   |some a,some b=>some (a==b)
   |_,_=>none
 | .str,.val (.string a),.val (.string b)=>some (a==b)
 |_,_,_=>none
def cellsEqS:List CK→List SV→List SV→Option Bool
 |[],[],[]=>some true
 |k::ks,x::xs,y::ys=>match cellEqS k x y,cellsEqS ks xs ys with
  |some a,some b=>some (a&&b)
  |_,_=>none
 |_,_,_=>none
theorem cellEqS_den {k:CK}{x y:SV}{b:Bool}(h:cellEqS k x y=some b)(ρ:Val):cellEqV k (x.den ρ) (y.den ρ)=some b:=by
 unfold cellEqS at h
 split at h
 . rw[← Option.some.inj h];simp[SV.den,cellEqV,eq_uv]
 . split at h
   . rename_i hk
     simp only[kEq,decide_eq_true_eq] at hk
     subst hk
     rw[← Option.some.inj h];simp[SV.den,cellEqV]
   . cases h
 . split at h
   . rename_i x y a c h1 h2
     rw[(boolS_den (ρ:=ρ) h1).1,(boolS_den (ρ:=ρ) h2).1,← Option.some.inj h];simp[cellEqV]
   . cases h
 . rw[← Option.some.inj h];simp[SV.den,cellEqV]
 . cases h
theorem cellsEqS_den {ρ:Val}:∀ {ks:List CK} {xs ys:List SV} {b:Bool},cellsEqS ks xs ys=some b→cellsEqV ks (denL ρ xs) (denL ρ ys)=some b
 |[],[],[],b,h=>h
 |[],[],_::_,_,h=>by cases h
 |[],_::_,_,_,h=>by cases h
 |_::_,[],_,_,h=>by cases h
 |_::_,_::_,[],_,h=>by cases h
 |k::ks,x::xs,y::ys,b,h=>by
  simp only[cellsEqS] at h
  split at h
  . rename_i a c h1 h2
    simp only[denL,cellsEqV,cellEqS_den h1 ρ,cellsEqS_den h2]
    exact h
  . cases h
def findE:List (TypeId×List CK)→TypeId→Option (List CK)
 |[],_=>none
 |(u,ks)::l,t=>match Nat.beq u t with
  |true=>some ks
  |false=>findE l t
theorem findE_mem:∀ (l:List (TypeId×List CK)) (t:TypeId) (ks:List CK),findE l t=some ks→(t,ks)∈l
 |[],_,_,h=>by cases h
 |(u,d)::l,t,ks,h=>by
  simp only[findE] at h
  split at h
  . rename_i hb
    obtain rfl:=Option.some.inj h
    obtain rfl:u=t:=Nat.eq_of_beq_eq_true hb
    exact List.mem_cons_self ..
  . exact List.mem_cons_of_mem _ (findE_mem l t ks h)
def eqAggS (E:List (TypeId×List CK))(t:TypeId)(op:BinOp)(xs ys:List SV):Res:=match findE E t with
 |some ks=>match cellsEqS ks xs ys with
  |some b=>match op with
   | .eql=>.ok (.bool b) []
   | .neq=>.ok (.bool (!b)) []
   |_=>.fail
  |none=>.fail
 |none=>.fail
theorem eqAggS_good {E:List (TypeId×List CK)}(hE:∀ p∈E,EqOk P p.1 p.2)(op:BinOp)(t:TypeId)(x y:Operand)(xs ys:List SV):
  (eqAggS E t op xs ys).good (Pure P fun ρ=>do eqGuard op t x y ((SV.agg xs).den ρ) ((SV.agg ys).den ρ);binOp op t ((SV.agg xs).den ρ) ((SV.agg ys).den ρ)):=by
 unfold eqAggS
 split
 . rename_i ks hk
   have hok:=(hE (t,ks) (findE_mem E t ks hk)).2
   split
   . rename_i b hb
     split
     . refine⟨rfl,fun ρ w => ?_⟩
       obtain⟨h1,h2,_⟩:=hok (denL ρ xs) (denL ρ ys) b w (cellsEqS_den hb)
       simp only[SV.den]
       have e:binOp .eql t (.agg (denL ρ xs).toArray) (.agg (denL ρ ys).toArray)=(do pure (.bool (← Op.equal t (.agg (denL ρ xs).toArray) (.agg (denL ρ ys).toArray)))):=rfl
       rw[Sem.run_bind,h1,Result.andThen_ok,e,Sem.run_bind,h2];rfl
     . refine⟨rfl,fun ρ w => ?_⟩
       obtain⟨h1,h2,_⟩:=hok (denL ρ xs) (denL ρ ys) b w (cellsEqS_den hb)
       simp only[SV.den]
       have e:binOp .neq t (.agg (denL ρ xs).toArray) (.agg (denL ρ ys).toArray)=(do pure (.bool (!(← Op.equal t (.agg (denL ρ xs).toArray) (.agg (denL ρ ys).toArray))))):=rfl
       rw[Sem.run_bind,h1,Result.andThen_ok,e,Sem.run_bind,h2];rfl
     . trivial
   . trivial
 . trivial
end
end Go.Sx
