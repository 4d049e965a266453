import Derived.Test.YtfgkhenhlpoheaaGreatM01
set_option linter.all false
namespace Go.Sx
open Go.RowKit Go.Proofs.YtfgkhenhlpoheaaGreat
inductive CK where
 |int
 |bool
 |str
def cellEqV:CK→Value→Value→Option Bool
 | .int,.int k a,.int k' b=>if k=k' then some (a==b) else none
 | .bool,.bool a,.bool b=>some (a==b)
 | .str,.string a,.string b=>some (a==b)
 |_,_,_=>none
def cellsEqV:List CK→List Value→List Value→Option Bool
 |[],[],[]=>some true
 |k::ks,x::xs,y::ys=>match cellEqV k x y,cellsEqV ks xs ys with
  |some a,some b=>some (a&&b)
  |_,_=>none
 |_,_,_=>none
def eqTy (P:Program):Nat→TypeId→Option (List CK)
 |0,_=>none
 |d+1,t=>match P.underlying t with
  |some (.int _)=>some [.int]
  |some .bool=>some [.bool]
  |some .string=>some [.str]
  |some (.struct fs)=>if P.stoodInHeld t then none else
   fs.toList.foldr (fun f r=>match r with
    |some k=>match eqTy P d f.type,P.info? f.type with
     |some n,some i=>if f.name ≠ "_" ∧ i.size=n.length then some (n++k) else none
     |_,_=>none
    |none=>none) (some [])
  |some (.array n e)=>match eqTy P d e,P.info? e with
   |some k,some i=>if i.size=k.length then some (List.replicate n k).flatten else none
   |_,_=>none
  |_=>none
def inRow (P:Program):List Field→Nat→Bool
 |[],_=>true
 |f::fs,o=>decide (f.offset=o)&&match P.info? f.type with
  |some i=>inRow P fs (o+i.size)
  |none=>false
def rowsB (P:Program):Nat→TypeId→Bool
 |0,_=>true
 |d+1,t=>match P.underlying t with
  |some (.struct fs)=>inRow P fs.toList 0&&fs.toList.all fun f=>rowsB P d f.type
  |some (.array _ e)=>rowsB P d e
  |_=>true
def isRowD (d:TypeDesc):Prop:=(∃ fs,d = .struct fs) ∨ ∃ n e,d = .array n e
def EqOk (P:Program)(t:TypeId)(ks:List CK):Prop:=(∃ d,P.underlying t=some d∧isRowD d)∧∀ (xs ys:List Value) (b:Bool) (w:World),cellsEqV ks xs ys=some b→
 (∀ op x y,(eqGuard op t x y (.agg xs.toArray) (.agg ys.toArray)).run P w = .ok () w)∧(Op.equal t (.agg xs.toArray) (.agg ys.toArray)).run P w = .ok b w∧∀ e,(Instr.checkKey e 10000 t (.agg xs.toArray)).run P w = .ok () w
def eqB (P:Program)(t:TypeId)(ks:List CK):Bool:=(match P.underlying t with|some (.struct _)=>true|some (.array _ _)=>true|_=>false) && !P.eqGuardType P.depth t&&rowsB P 20 t&&(match eqTy P 20 t with
 |some l=>l.length==ks.length&&(l.zip ks).all fun p=>match p with
  |(.int,.int)=>true
  |(.bool,.bool)=>true
  |(.str,.str)=>true
  |_=>false
 |none=>false)
section
variable {P:Program}
def foldTy (P:Program)(d:Nat):List Field→Option (List CK):=List.foldr (fun f r=>match r with
     |some k=>match eqTy P d f.type,P.info? f.type with
      |some n,some i=>if f.name ≠ "_" ∧ i.size=n.length then some (n++k) else none
      |_,_=>none
     |none=>none) (some [])
theorem foldTy_cons {d:Nat}{f:Field}{fs:List Field}{m:List CK}(h:foldTy P d (f::fs)=some m):∃ n k i,eqTy P d f.type=some n∧P.info? f.type=some i∧i.size=n.length∧f.name ≠ "_" ∧ foldTy P d fs=some k∧m=n++k:=by
 have h':(match foldTy P d fs with
        |some k=>match eqTy P d f.type,P.info? f.type with
         |some n,some i=>if f.name ≠ "_" ∧ i.size=n.length then some (n++k) else none
         |_,_=>none
        |none=>none)=some m:=h
 split at h'
 . rename_i k hk
   split at h'
   . rename_i n i hn hi
     split at h'
     . rename_i hc
       exact⟨n,k,i,hn,hi,hc.2,hc.1,hk,(Option.some.inj h').symm⟩
     . cases h'
   . cases h'
 . cases h'
theorem cellsEqV_len:∀ {ks:List CK} {xs ys:List Value} {b:Bool},cellsEqV ks xs ys=some b→xs.length=ks.length∧ys.length=ks.length
 |[],[],[],_,_=>⟨rfl,rfl⟩
 |[],[],_::_,_,h=>by cases h
 |[],_::_,_,_,h=>by cases h
 |_::_,[],_,_,h=>by cases h
 |_::_,_::_,[],_,h=>by cases h
 |k::ks,x::xs,y::ys,b,h=>by
  simp only[cellsEqV] at h
  split at h
  . rename_i a c h1 h2
    have:=cellsEqV_len h2
    simp[this.1,this.2]
  . cases h
theorem cellsEqV_split:∀ {ks ls:List CK} {xs ys:List Value} {b:Bool},cellsEqV (ks++ls) xs ys=some b→
  ∃ b1 b2,cellsEqV ks (xs.take ks.length) (ys.take ks.length)=some b1∧cellsEqV ls (xs.drop ks.length) (ys.drop ks.length)=some b2∧b=(b1&&b2)
 |[],ls,xs,ys,b,h=>⟨true,b,by simp[cellsEqV],by simpa using h,by simp⟩
 |k::ks,ls,[],ys,b,h=>by simp[cellsEqV] at h
 |k::ks,ls,x::xs,[],b,h=>by simp[cellsEqV] at h
 |k::ks,ls,x::xs,y::ys,b,h=>by
  simp only[List.cons_append,cellsEqV] at h
  split at h
  . rename_i a c h1 h2
    obtain rfl:=Option.some.inj h
    obtain⟨b1,b2,e1,e2,e3⟩:=cellsEqV_split h2
    refine⟨a&&b1,b2,?_,by simpa using e2,by rw[e3,Bool.and_assoc]⟩
    simp only[List.length_cons,List.take_succ_cons,cellsEqV,h1,e1]
  . cases h
def ofCells (P:Program)(t:TypeId)(xs:List Value):Value:=match P.underlying t with
 |some (.struct _)=>.agg xs.toArray
 |some (.array _ _)=>.agg xs.toArray
 |_=>xs.headD undef
theorem run_part_of {t:TypeId}{i:TypeInfo}{d:Nat}{ks:List CK}(hi:P.info? t=some i)(hs:i.size=ks.length)(ht:eqTy P d t=some ks)(xs:List Value)(off:Nat)(hl:off+ks.length≤xs.length)(w:World):
  (part t xs.toArray off).run P w = .ok (ofCells P t ((xs.drop off).take ks.length)) w:=by
 cases d with
 |zero=>simp[eqTy] at ht
 |succ d=>
  simp only[eqTy] at ht
  have one:∀ {dd:TypeDesc},P.underlying t=some dd→ks.length=1→(∀ fs,dd ≠ .struct fs)→(∀ k e,dd ≠ .array k e)→(part t xs.toArray off).run P w = .ok (ofCells P t ((xs.drop off).take ks.length)) w:=by
   intro dd hu hn h1 h2
   rw[hn]
   have ha:(isAgg t).run P w = .ok false w:=by
        unfold isAgg
        rw[Sem.run_bind,run_underlying hu w]
        cases dd<;>first|rfl|exact absurd rfl (h1 _)|exact absurd rfl (h2 _ _)
   have ho:ofCells P t ((xs.drop off).take 1)=xs[off]'(by omega):=by
        unfold ofCells
        rw[hu]
        have:(xs.drop off).take 1=[xs[off]'(by omega)]:=by
         rw[List.drop_eq_getElem_cons (by omega)];rfl
        rw[this]
        cases dd<;>first|rfl|exact absurd rfl (h1 _)|exact absurd rfl (h2 _ _)
   simp only[part,Sem.run_bind,ha,Result.andThen_ok,Bool.false_eq_true,if_false,ho]
   have:xs.toArray[off]? = some (xs[off]'(by omega)):=by simp
   rw[this];rfl
  split at ht
  . rename_i hu;exact one hu (by rw[← Option.some.inj ht];rfl) (by simp) (by simp)
  . rename_i hu;exact one hu (by rw[← Option.some.inj ht];rfl) (by simp) (by simp)
  . rename_i hu;exact one hu (by rw[← Option.some.inj ht];rfl) (by simp) (by simp)
  . rename_i fs hu
    have ha:(isAgg t).run P w = .ok true w:=by unfold isAgg;rw[Sem.run_bind,run_underlying hu w];rfl
    simp only[part,Sem.run_bind,ha,Result.andThen_ok,if_true,sizeOf,typeInfo,ofCells,hu]
    simp[hi,hs,List.drop_take]
  . rename_i n e hu
    have ha:(isAgg t).run P w = .ok true w:=by unfold isAgg;rw[Sem.run_bind,run_underlying hu w];rfl
    simp only[part,Sem.run_bind,ha,Result.andThen_ok,if_true,sizeOf,typeInfo,ofCells,hu]
    simp[hi,hs,List.drop_take]
  . cases ht
theorem equal_fields {d dd:Nat}(ih:∀ (t:TypeId) (ks:List CK) (xs ys:List Value) (b:Bool) (w:World),eqTy P d t=some ks→rowsB P d t=true→cellsEqV ks xs ys=some b→(Op.equalIn dd t (ofCells P t xs) (ofCells P t ys)).run P w = .ok b w)(w:World):
  ∀ (fs:List Field) (ks:List CK) (o:Nat) (xs ys:List Value) (b:Bool),foldTy P d fs=some ks→inRow P fs o=true→(fs.all fun f=>rowsB P d f.type)=true→o+ks.length≤xs.length→o+ks.length≤ys.length→
    cellsEqV ks ((xs.drop o).take ks.length) ((ys.drop o).take ks.length)=some b→
    (forIn fs (none,PUnit.unit) (fun f (_:Option Bool×PUnit)=>(do
        if f.name ≠ "_" then
         if !(← Op.equalIn dd f.type (← part f.type xs.toArray f.offset) (← part f.type ys.toArray f.offset)) then Pure.pure (.done (some false,PUnit.unit)) else Pure.pure (.yield (none,PUnit.unit))
        else Pure.pure (.yield (none,PUnit.unit)):Sem (ForInStep (Option Bool×PUnit))))).run P w = .ok (if b then (none,PUnit.unit) else (some false,PUnit.unit)) w
 |[],ks,o,xs,ys,b,h,_,_,_,_,hb=>by
  obtain rfl:=Option.some.inj (show some []=some ks from h)
  simp only[List.length_nil,List.take_zero,cellsEqV,Option.some.injEq] at hb
  subst hb
  simp
 |f::fs,ks,o,xs,ys,b,h,hr,hall,hx,hy,hb=>by
  obtain⟨n,k,i,hn,hi,hs,hname,hk,rfl⟩:=foldTy_cons h
  simp only[inRow,hi,Bool.and_eq_true,decide_eq_true_eq] at hr
  simp only[List.all_cons,Bool.and_eq_true] at hall
  obtain⟨b1,b2,e1,e2,rfl⟩:=cellsEqV_split hb
  rw[List.length_append] at hx hy e1 e2
  have t1:∀ zs:List Value,(((zs.drop o).take (n.length+k.length)).take n.length)=(zs.drop o).take n.length:=fun zs=>by rw[List.take_take];congr 1;omega
  have t2:∀ zs:List Value,(((zs.drop o).take (n.length+k.length)).drop n.length)=(zs.drop (o+n.length)).take k.length:=fun zs=>by rw[List.drop_take,List.drop_drop];congr 1;omega
  rw[t1,t1] at e1
  rw[t2,t2] at e2
  have p1:=run_part_of hi hs hn xs o (by omega) w
  have p2:=run_part_of hi hs hn ys o (by omega) w
  have q:=ih f.type n _ _ b1 w hn hall.1 e1
  have rest:=equal_fields ih w fs k (o+n.length) xs ys b2 hk (by rw[← hs];exact hr.2) hall.2 (by omega) (by omega) e2
  rw[List.forIn_cons]
  simp only[hname,ne_eq,not_false_eq_true,if_true,hr.1,Sem.run_bind,p1,p2,q,Result.andThen_ok]
  cases b1
  . simp
  . simpa using rest
theorem equal_elems {d dd:Nat}{e:TypeId}{k:List CK}{i:TypeInfo}(hi:P.info? e=some i)(hs:i.size=k.length)(he:eqTy P d e=some k)
  (ih:∀ (xs ys:List Value) (b:Bool) (w:World),cellsEqV k xs ys=some b→(Op.equalIn dd e (ofCells P e xs) (ofCells P e ys)).run P w = .ok b w) (w:World):
  ∀ (n s:Nat) (xs ys:List Value) (b:Bool),(s+n)*k.length≤xs.length→(s+n)*k.length≤ys.length→
    cellsEqV (List.replicate n k).flatten ((xs.drop (s*k.length)).take (n*k.length)) ((ys.drop (s*k.length)).take (n*k.length))=some b→
    (forIn (List.range' s n 1) (none,PUnit.unit) (fun j (_:Option Bool×PUnit)=>(do
        if !(← Op.equalIn dd e (← part e xs.toArray (j*i.size)) (← part e ys.toArray (j*i.size))) then Pure.pure (.done (some false,PUnit.unit)) else Pure.pure (.yield (none,PUnit.unit)):Sem (ForInStep (Option Bool×PUnit))))).run P w = .ok (if b then (none,PUnit.unit) else (some false,PUnit.unit)) w
 |0,s,xs,ys,b,_,_,hb=>by
  simp only[List.replicate_zero,List.flatten_nil,Nat.zero_mul,List.take_zero,cellsEqV,Option.some.injEq] at hb
  subst hb
  simp
 |n+1,s,xs,ys,b,hx,hy,hb=>by
  rw[List.replicate_succ,List.flatten_cons] at hb
  obtain⟨b1,b2,e1,e2,rfl⟩:=cellsEqV_split hb
  have hsn:(s+(n+1))*k.length=s*k.length+k.length+n*k.length:=by rw[Nat.add_mul,Nat.succ_mul];omega
  have hs1:(s+1)*k.length=s*k.length+k.length:=Nat.succ_mul ..
  have hn1:(n+1)*k.length=n*k.length+k.length:=Nat.succ_mul ..
  have t1:∀ zs:List Value,(((zs.drop (s*k.length)).take ((n+1)*k.length)).take k.length)=(zs.drop (s*k.length)).take k.length:=fun zs=>by rw[List.take_take];congr 1;omega
  have t2:∀ zs:List Value,(((zs.drop (s*k.length)).take ((n+1)*k.length)).drop k.length)=(zs.drop ((s+1)*k.length)).take (n*k.length):=fun zs=>by rw[List.drop_take,List.drop_drop,hs1];congr 1;omega
  rw[t1,t1] at e1
  rw[t2,t2] at e2
  have p1:=run_part_of hi hs he xs (s*k.length) (by omega) w
  have p2:=run_part_of hi hs he ys (s*k.length) (by omega) w
  have q:=ih _ _ b1 w e1
  have rest:=equal_elems hi hs he ih w n (s+1) xs ys b2 (by rw[show s+1+n=s+(n+1) by omega];exact hx) (by rw[show s+1+n=s+(n+1) by omega];exact hy) e2
  rw[List.range'_succ,List.forIn_cons]
  simp only[hs,Sem.run_bind,p1,p2,q,Result.andThen_ok]
  cases b1
  . simp
  . simpa [hs] using rest
theorem equal_cells:∀ (d dd:Nat) (t:TypeId) (ks:List CK) (xs ys:List Value) (b:Bool) (w:World),d≤dd→eqTy P d t=some ks→rowsB P d t=true→cellsEqV ks xs ys=some b→
  (Op.equalIn dd t (ofCells P t xs) (ofCells P t ys)).run P w = .ok b w:=by
 intro d
 induction d with
 |zero=>intro dd t n xs ys b w _ h;simp[eqTy] at h
 |succ d ih=>
  intro dd t ks xs ys b w hd ht hr hb
  obtain⟨dd,rfl⟩:∃ e,dd=e+1:=⟨dd-1,by omega⟩
  simp only[eqTy] at ht
  have leaf:∀ {u:TypeDesc} {k:CK},P.underlying t=some u→ks=[k]→(∀ fs,u ≠ .struct fs)→(∀ n e,u ≠ .array n e)→∃ x y,ofCells P t xs=x∧ofCells P t ys=y∧cellEqV k x y=some b:=by
   intro u k hu hn h1 h2
   subst hn
   obtain⟨l1,l2⟩:=cellsEqV_len hb
   obtain⟨x,rfl⟩:=List.length_eq_one_iff.1 l1
   obtain⟨y,rfl⟩:=List.length_eq_one_iff.1 l2
   simp only[cellsEqV] at hb
   refine⟨x,y,?_,?_,?_⟩
   . unfold ofCells;rw[hu];cases u<;>first|rfl|exact absurd rfl (h1 _)|exact absurd rfl (h2 _ _)
   . unfold ofCells;rw[hu];cases u<;>first|rfl|exact absurd rfl (h1 _)|exact absurd rfl (h2 _ _)
   . cases h:cellEqV k x y with
     |none=>rw[h] at hb;cases hb
     |some c=>rw[h] at hb;simpa using hb
  split at ht
  . rename_i k hu
    obtain⟨x,y,e1,e2,e3⟩:=leaf hu (Option.some.inj ht).symm (by simp) (by simp)
    rw[e1,e2]
    cases x<;>cases y<;>simp only[cellEqV] at e3<;>try (cases e3;done)
    split at e3
    . rename_i hk;simp[Op.equalIn,run_underlying hu,hk,Option.some.inj e3]
    . cases e3
  . rename_i hu
    obtain⟨x,y,e1,e2,e3⟩:=leaf hu (Option.some.inj ht).symm (by simp) (by simp)
    rw[e1,e2]
    cases x<;>cases y<;>simp only[cellEqV] at e3<;>try (cases e3;done)
    simp[Op.equalIn,run_underlying hu,Option.some.inj e3]
  . rename_i hu
    obtain⟨x,y,e1,e2,e3⟩:=leaf hu (Option.some.inj ht).symm (by simp) (by simp)
    rw[e1,e2]
    cases x<;>cases y<;>simp only[cellEqV] at e3<;>try (cases e3;done)
    simp[Op.equalIn,run_underlying hu,Option.some.inj e3]
  . rename_i fs hu
    split at ht
    . cases ht
    . rename_i hst
      have e:∀ zs:List Value,ofCells P t zs = .agg zs.toArray:=fun zs=>by unfold ofCells;rw[hu]
      rw[e,e]
      simp only[rowsB,hu,Bool.and_eq_true] at hr
      obtain⟨l1,l2⟩:=cellsEqV_len hb
      have key:=equal_fields (P:=P) (d:=d) (dd:=dd) (fun t ks xs ys b w h1 h2 h3=>ih dd t ks xs ys b w (by omega) h1 h2 h3) w fs.toList ks 0 xs ys b ht hr.1 hr.2 (by omega) (by omega) (by rw[List.drop_zero,List.drop_zero,List.take_of_length_le (by omega),List.take_of_length_le (by omega)];exact hb)
      simp only[Op.equalIn,Sem.run_bind,run_underlying hu,Result.andThen_ok,program,Sem.run]
      rw[if_neg hst,Sem.run_bind,← Array.forIn_toList]
      have key':(Sem.run P (forIn fs.toList (none,()) fun f (__s:Option Bool×Unit)=>(do
       if f.name ≠ "_" then
           if !(← Op.equalIn dd f.type (← part f.type xs.toArray f.offset) (← part f.type ys.toArray f.offset)) then Pure.pure (.done (some false,())) else Pure.pure (.yield (none,()))
       else Pure.pure (.yield (none,())):Sem (ForInStep (Option Bool×Unit)))) w)=Result.ok (if b then (none,()) else (some false,())) w:=key
      rw[key']
      cases b<;>rfl
  . rename_i n el hu
    split at ht
    . rename_i k i hk hi
      split at ht
      . rename_i hs
        obtain rfl:=Option.some.inj ht
        have e:∀ zs:List Value,ofCells P t zs = .agg zs.toArray:=fun zs=>by unfold ofCells;rw[hu]
        rw[e,e]
        simp only[rowsB,hu] at hr
        obtain⟨l1,l2⟩:=cellsEqV_len hb
        have hl:(List.replicate n k).flatten.length=n*k.length:=by simp
        have key:=equal_elems (P:=P) (d:=d) (dd:=dd) hi hs hk (fun xs ys b w h=>ih dd el k xs ys b w (by omega) hk hr h) w n 0 xs ys b (by rw[Nat.zero_add,← hl];omega) (by rw[Nat.zero_add,← hl];omega) (by
         rw[Nat.zero_mul,List.drop_zero,List.drop_zero,← hl,List.take_of_length_le (by omega),List.take_of_length_le (by omega)];exact hb)
        have hsz:(sizeOf el).run P w = .ok i.size w:=by simp[sizeOf,typeInfo,hi]
        simp only[Op.equalIn,Sem.run_bind,run_underlying hu,Result.andThen_ok,hsz]
        rw[Std.Legacy.Range.forIn_eq_forIn_range']
        simp only[Std.Legacy.Range.size,Nat.sub_zero,Nat.add_sub_cancel,Nat.div_one]
        have key':(Sem.run P (forIn (List.range' 0 n 1) (none,()) fun j (__s:Option Bool×Unit)=>(do
         if !(← Op.equalIn dd el (← part el xs.toArray (j*i.size)) (← part el ys.toArray (j*i.size))) then Pure.pure (.done (some false,())) else Pure.pure (.yield (none,())):Sem (ForInStep (Option Bool×Unit)))) w)=Result.ok (if b then (none,()) else (some false,())) w:=key
        rw[key']
        cases b<;>rfl
      . cases ht
    . cases ht
  . cases ht
theorem kinds_eq:∀ (l ks:List CK),l.length=ks.length→((l.zip ks).all fun p=>match p with
  |(.int,.int)=>true
  |(.bool,.bool)=>true
  |(.str,.str)=>true
  |_=>false)=true→l=ks
 |[],[],_,_=>rfl
 |[],_::_,h,_=>by simp at h
 |_::_,[],h,_=>by simp at h
 |x::l,y::ks,h,ha=>by
  simp only[List.zip_cons_cons,List.all_cons,Bool.and_eq_true] at ha
  rw[kinds_eq l ks (by simpa using h) ha.2]
  cases x<;>cases y<;>first|rfl | (simp at ha)
theorem key_fields {d dd:Nat}{e:Bool}(ih:∀ (t:TypeId) (ks:List CK) (xs:List Value) (w:World),eqTy P d t=some ks→rowsB P d t=true→xs.length=ks.length→(Instr.checkKey e dd t (ofCells P t xs)).run P w = .ok () w)(w:World):
  ∀ (fs:List Field) (ks:List CK) (o:Nat) (xs:List Value),foldTy P d fs=some ks→inRow P fs o=true→(fs.all fun f=>rowsB P d f.type)=true→o+ks.length≤xs.length→
    (forIn fs PUnit.unit (fun f (_:PUnit)=>(do
        if f.name ≠ "_" then
         Instr.checkKey e dd f.type (← part f.type xs.toArray f.offset)
         Pure.pure (.yield PUnit.unit)
        else Pure.pure (.yield PUnit.unit):Sem (ForInStep PUnit)))).run P w = .ok PUnit.unit w
 |[],ks,o,xs,h,_,_,_=>by simp
 |f::fs,ks,o,xs,h,hr,hall,hx=>by
  obtain⟨n,k,i,hn,hi,hs,hname,hk,rfl⟩:=foldTy_cons h
  simp only[inRow,hi,Bool.and_eq_true,decide_eq_true_eq] at hr
  simp only[List.all_cons,Bool.and_eq_true] at hall
  rw[List.length_append] at hx
  have p1:=run_part_of hi hs hn xs o (by omega) w
  have q:=ih f.type n ((xs.drop o).take n.length) w hn hall.1 (by simp;omega)
  have rest:=key_fields ih w fs k (o+n.length) xs hk (by rw[← hs];exact hr.2) hall.2 (by omega)
  rw[List.forIn_cons]
  simp only[hname,ne_eq,not_false_eq_true,if_true,hr.1,Sem.run_bind,p1,q,Result.andThen_ok]
  exact rest
theorem key_elems {d dd:Nat}{em:Bool}{e:TypeId}{k:List CK}{i:TypeInfo}(hi:P.info? e=some i)(hs:i.size=k.length)(he:eqTy P d e=some k)
  (ih:∀ (xs:List Value) (w:World),xs.length=k.length→(Instr.checkKey em dd e (ofCells P e xs)).run P w = .ok () w) (w:World):
  ∀ (n s:Nat) (xs:List Value),(s+n)*k.length≤xs.length→
    (forIn (List.range' s n 1) PUnit.unit (fun j (_:PUnit)=>(do
        Instr.checkKey em dd e (← part e xs.toArray (j*(← sizeOf e)))
        Pure.pure (.yield PUnit.unit):Sem (ForInStep PUnit)))).run P w = .ok PUnit.unit w
 |0,s,xs,_=>by simp
 |n+1,s,xs,hx=>by
  have hsn:(s+(n+1))*k.length=s*k.length+k.length+n*k.length:=by rw[Nat.add_mul,Nat.succ_mul];omega
  have p1:=run_part_of hi hs he xs (s*k.length) (by omega) w
  have q:=ih ((xs.drop (s*k.length)).take k.length) w (by simp;omega)
  have hsz:(sizeOf e).run P w = .ok k.length w:=by simp[sizeOf,typeInfo,hi,hs]
  have rest:=key_elems hi hs he ih w n (s+1) xs (by rw[show s+1+n=s+(n+1) by omega];exact hx)
  rw[List.range'_succ,List.forIn_cons]
  simp only[Sem.run_bind,hsz,p1,q,Result.andThen_ok]
  exact rest
theorem key_cells (e:Bool):∀ (d dd:Nat) (t:TypeId) (ks:List CK) (xs:List Value) (w:World),d≤dd→eqTy P d t=some ks→rowsB P d t=true→xs.length=ks.length→
  (Instr.checkKey e dd t (ofCells P t xs)).run P w = .ok () w:=by
 intro d
 induction d with
 |zero=>intro dd t n xs w _ h;simp[eqTy] at h
 |succ d ih=>
  intro dd t ks xs w hd ht hr hl
  obtain⟨dd,rfl⟩:∃ e,dd=e+1:=⟨dd-1,by omega⟩
  simp only[eqTy] at ht
  split at ht
  . rename_i k hu;unfold Instr.checkKey;rw[Sem.run_bind,run_underlying hu w];rfl
  . rename_i hu;unfold Instr.checkKey;rw[Sem.run_bind,run_underlying hu w];rfl
  . rename_i hu;unfold Instr.checkKey;rw[Sem.run_bind,run_underlying hu w];rfl
  . rename_i fs hu
    split at ht
    . cases ht
    . have e':ofCells P t xs = .agg xs.toArray:=by unfold ofCells;rw[hu]
      rw[e']
      simp only[rowsB,hu,Bool.and_eq_true] at hr
      have key:=key_fields (P:=P) (d:=d) (dd:=dd) (e:=e) (fun t ks xs w h1 h2 h3=>ih dd t ks xs w (by omega) h1 h2 h3) w fs.toList ks 0 xs ht hr.1 hr.2 (by omega)
      unfold Instr.checkKey
      rw[Sem.run_bind,run_underlying hu w]
      simp only[Result.andThen_ok]
      rw[← Array.forIn_toList]
      refine Eq.trans (Sem.run_bind ..) ?_
      rw[show(Sem.run P (forIn fs.toList PUnit.unit fun f (_:PUnit)=>(do
       if f.name ≠ "_" then
         Instr.checkKey e dd f.type (← part f.type xs.toArray f.offset)
         Pure.pure (.yield PUnit.unit)
       else Pure.pure (.yield PUnit.unit):Sem (ForInStep PUnit))) w)=_ from key]
      rfl
  . rename_i n el hu
    split at ht
    . rename_i k i hk hi
      split at ht
      . rename_i hs
        obtain rfl:=Option.some.inj ht
        have e':ofCells P t xs = .agg xs.toArray:=by unfold ofCells;rw[hu]
        rw[e']
        simp only[rowsB,hu] at hr
        have hl2:(List.replicate n k).flatten.length=n*k.length:=by simp
        have key:=key_elems (P:=P) (d:=d) (dd:=dd) (em:=e) hi hs hk (fun xs w h=>ih dd el k xs w (by omega) hk hr h) w n 0 xs (by rw[Nat.zero_add,← hl2];omega)
        unfold Instr.checkKey
        rw[Sem.run_bind,run_underlying hu w]
        simp only[Result.andThen_ok]
        rw[Std.Legacy.Range.forIn_eq_forIn_range']
        simp only[Std.Legacy.Range.size,Nat.sub_zero,Nat.add_sub_cancel,Nat.div_one]
        refine Eq.trans (Sem.run_bind ..) ?_
        rw[show(Sem.run P (forIn (List.range' 0 n 1) PUnit.unit fun j (_:PUnit)=>(do
         Instr.checkKey e dd el (← part el xs.toArray (j*(← sizeOf el)))
         Pure.pure (.yield PUnit.unit):Sem (ForInStep PUnit))) w)=_ from key]
        rfl
      . cases ht
    . cases ht
  . cases ht
theorem eqB_ok {t:TypeId}{ks:List CK}(h:eqB P t ks=true):EqOk P t ks:=by
 simp only[eqB,Bool.and_eq_true,Bool.not_eq_true'] at h
 obtain⟨⟨⟨h1,h2⟩,h3⟩,h4⟩:=h
 split at h4
 . rename_i l hl
   simp only[Bool.and_eq_true,beq_iff_eq] at h4
   obtain rfl:=kinds_eq l ks h4.1 h4.2
   split at h1
   . rename_i fs hu
     have e:∀ zs:List Value,ofCells P t zs = .agg zs.toArray:=fun zs=>by unfold ofCells;rw[hu]
     refine⟨⟨_,hu,.inl ⟨_,rfl⟩⟩,fun xs ys b w hc=>⟨fun op x y => ?_,?_,fun em => ?_⟩⟩
     . cases op<;>simp[eqGuard,program,Sem.run,h2]
     . have:=equal_cells 20 10000 t l xs ys b w (by omega) hl h3 hc
       rw[e,e] at this
       exact this
     . have:=key_cells em 20 10000 t l xs w (by omega) hl h3 (cellsEqV_len hc).1
       rw[e] at this
       exact this
   . rename_i m el hu
     have e:∀ zs:List Value,ofCells P t zs = .agg zs.toArray:=fun zs=>by unfold ofCells;rw[hu]
     refine⟨⟨_,hu,.inr ⟨_,_,rfl⟩⟩,fun xs ys b w hc=>⟨fun op x y => ?_,?_,fun em => ?_⟩⟩
     . cases op<;>simp[eqGuard,program,Sem.run,h2]
     . have:=equal_cells 20 10000 t l xs ys b w (by omega) hl h3 hc
       rw[e,e] at this
       exact this
     . have:=key_cells em 20 10000 t l xs w (by omega) hl h3 (cellsEqV_len hc).1
       rw[e] at this
       exact this
   . cases h1
 . cases h4
def cellEqS:CK→SV→SV→Option Bool
 | .int,.u64 a,.u64 b=>some (a==b)
 | .int,.int k a,.int k' b=>match kEq k k' with
   |true=>some (a==b)
   |false=>none
 | .bool,x,y=>match boolS x,boolS y with
   |some a,some b=>some (a==b)
   |_,_=>none
 | .str,.val (.string a),.val (.string b)=>some (a==b)
 |_,_,_=>none
def cellsEqS:List CK→List SV→List SV→Option Bool
 |[],[],[]=>some true
 |k::ks,x::xs,y::ys=>match cellEqS k x y,cellsEqS ks xs ys with
  |some a,some b=>some (a&&b)
  |_,_=>none
 |_,_,_=>none
theorem cellEqS_den {k:CK}{x y:SV}{b:Bool}(h:cellEqS k x y=some b)(ρ:Val):cellEqV k (x.den ρ) (y.den ρ)=some b:=by
 unfold cellEqS at h
 split at h
 . rw[← Option.some.inj h];simp[SV.den,cellEqV,eq_uv]
 . split at h
   . rename_i hk
     simp only[kEq,decide_eq_true_eq] at hk
     subst hk
     rw[← Option.some.inj h];simp[SV.den,cellEqV]
   . cases h
 . split at h
   . rename_i x y a c h1 h2
     rw[(boolS_den (ρ:=ρ) h1).1,(boolS_den (ρ:=ρ) h2).1,← Option.some.inj h];simp[cellEqV]
   . cases h
 . rw[← Option.some.inj h];simp[SV.den,cellEqV]
 . cases h
theorem cellsEqS_den {ρ:Val}:∀ {ks:List CK} {xs ys:List SV} {b:Bool},cellsEqS ks xs ys=some b→cellsEqV ks (denL ρ xs) (denL ρ ys)=some b
 |[],[],[],b,h=>h
 |[],[],_::_,_,h=>by cases h
 |[],_::_,_,_,h=>by cases h
 |_::_,[],_,_,h=>by cases h
 |_::_,_::_,[],_,h=>by cases h
 |k::ks,x::xs,y::ys,b,h=>by
  simp only[cellsEqS] at h
  split at h
  . rename_i a c h1 h2
    simp only[denL,cellsEqV,cellEqS_den h1 ρ,cellsEqS_den h2]
    exact h
  . cases h
def findE:List (TypeId×List CK)→TypeId→Option (List CK)
 |[],_=>none
 |(u,ks)::l,t=>match Nat.beq u t with
  |true=>some ks
  |false=>findE l t
theorem findE_mem:∀ (l:List (TypeId×List CK)) (t:TypeId) (ks:List CK),findE l t=some ks→(t,ks)∈l
 |[],_,_,h=>by cases h
 |(u,d)::l,t,ks,h=>by
  simp only[findE] at h
  split at h
  . rename_i hb
    obtain rfl:=Option.some.inj h
    obtain rfl:u=t:=Nat.eq_of_beq_eq_true hb
    exact List.mem_cons_self ..
  . exact List.mem_cons_of_mem _ (findE_mem l t ks h)
def eqAggS (E:List (TypeId×List CK))(t:TypeId)(op:BinOp)(xs ys:List SV):Res:=match findE E t with
 |some ks=>match cellsEqS ks xs ys with
  |some b=>match op with
   | .eql=>.ok (.bool b) []
   | .neq=>.ok (.bool (!b)) []
   |_=>.fail
  |none=>.fail
 |none=>.fail
theorem eqAggS_good {E:List (TypeId×List CK)}(hE:∀ p∈E,EqOk P p.1 p.2)(op:BinOp)(t:TypeId)(x y:Operand)(xs ys:List SV):
  (eqAggS E t op xs ys).good (Pure P fun ρ=>do eqGuard op t x y ((SV.agg xs).den ρ) ((SV.agg ys).den ρ);binOp op t ((SV.agg xs).den ρ) ((SV.agg ys).den ρ)):=by
 unfold eqAggS
 split
 . rename_i ks hk
   have hok:=(hE (t,ks) (findE_mem E t ks hk)).2
   split
   . rename_i b hb
     split
     . refine⟨rfl,fun ρ w => ?_⟩
       obtain⟨h1,h2,_⟩:=hok (denL ρ xs) (denL ρ ys) b w (cellsEqS_den hb)
       simp only[SV.den]
       have e:binOp .eql t (.agg (denL ρ xs).toArray) (.agg (denL ρ ys).toArray)=(do pure (.bool (← Op.equal t (.agg (denL ρ xs).toArray) (.agg (denL ρ ys).toArray)))):=rfl
       rw[Sem.run_bind,h1,Result.andThen_ok,e,Sem.run_bind,h2];rfl
     . refine⟨rfl,fun ρ w => ?_⟩
       obtain⟨h1,h2,_⟩:=hok (denL ρ xs) (denL ρ ys) b w (cellsEqS_den hb)
       simp only[SV.den]
       have e:binOp .neq t (.agg (denL ρ xs).toArray) (.agg (denL ρ ys).toArray)=(do pure (.bool (!(← Op.equal t (.agg (denL ρ xs).toArray) (.agg (denL ρ ys).toArray))))):=rfl
       rw[Sem.run_bind,h1,Result.andThen_ok,e,Sem.run_bind,h2];rfl
     . trivial
   . trivial
 . trivial
end
end Go.Sx
namespace Go.Sx
open Go.RowKit Go.Proofs.YtfgkhenhlpoheaaGreat
def CtrOk (P:Program)(G:World→Prop)(g:FuncId)(c:List SV→List Blk→Res):Prop:=
 (∀ (args:Array Value) (w:World),(callFunc g args).run P w = .ok (.enter g args) w)∧
 ∀ args M,(c args M).good fun sv nb=>∀ B ρ w,G w→MRel B ρ M w→Calls P g (denL ρ args).toArray w fun e w'=>
   ∃ (ρ':Val) (v:Value),e = .returned v∧(sv ≠ .junk→v=sv.den ρ')∧Val.Ext w.heap.size (fun n => ¬ (M.length≤n∧n<M.length+nb.length)) ρ ρ'∧Below w.heap.size w w'∧New B w.heap.size ρ' M.length nb w'
abbrev Ctr:=FuncId×(List SV→List Blk→Res)
def findC:List Ctr→FuncId→Option (List SV→List Blk→Res)
 |[],_=>none
 |(g,c)::l,f=>match Nat.beq g f with
  |true=>some c
  |false=>findC l f
theorem findC_mem:∀ (l:List Ctr) (f:FuncId) (c:List SV→List Blk→Res),findC l f=some c→(f,c)∈l
 |[],_,_,h=>by cases h
 |(g,d)::l,f,c,h=>by
  simp only[findC] at h
  split at h
  . rename_i hb
    obtain rfl:=Option.some.inj h
    obtain rfl:g=f:=by simpa using hb
    exact List.mem_cons_self ..
  . exact List.mem_cons_of_mem _ (findC_mem l f c h)
inductive BRes where
 |fail
 |ok (sv:SV) (M:List Blk)
 |test (b:Bool) (r:BRes)
 |split (b:Bool) (r s:BRes)
def BRes.run (r:BRes):(SV→List Blk→Prop)→Prop:=
 BRes.rec (motive:=fun _=>(SV→List Blk→Prop)→Prop) (fun _=>False) (fun sv M K=>K sv M) (fun b _ ih K=>b=true∧ih K) (fun b _ _ ih jh K=>(b=true→ih K)∧(b=false→jh K)) r
def BRes.good (G:SV→List Blk→Prop):BRes→Prop
 | .fail=>True
 | .ok sv M=>G sv M
 | .test b r=>b=true→r.good G
 | .split b r s=>(b=true→r.good G)∧(b=false→s.good G)
theorem BRes.good_run {G K:SV→List Blk→Prop}:∀ (r:BRes),r.run K→r.good G→∃ sv M,K sv M∧G sv M
 | .fail,h,_=>h.elim
 | .ok sv M,h,g=>⟨sv,M,h,g⟩
 | .test _ r,h,g=>BRes.good_run r h.2 (g h.1)
 | .split true r _,h,g=>BRes.good_run r (h.1 rfl) (g.1 rfl)
 | .split false _ s,h,g=>BRes.good_run s (h.2 rfl) (g.2 rfl)
theorem BRes.good_mono {G H:SV→List Blk→Prop}(h:∀ sv M,G sv M→H sv M):∀ r:BRes,r.good G→r.good H
 | .fail,_=>trivial
 | .ok sv M,g=>h sv M g
 | .test _ r,g=>fun hb=>BRes.good_mono h r (g hb)
 | .split _ r s,g=>⟨fun hb=>BRes.good_mono h r (g.1 hb),fun hb=>BRes.good_mono h s (g.2 hb)⟩
def BCtrOk (P:Program)(G:World→Prop)(g:FuncId)(c:List SV→List Blk→BRes):Prop:=
 (∀ (args:Array Value) (w:World),(callFunc g args).run P w = .ok (.enter g args) w)∧
 ∀ args M,(c args M).good fun sv M'=>∀ B ρ w,(∀ w',Kept B w w'→G w')→M.all (Blk.sc fun n=>decide (n<M.length))=true→MRel B ρ M w→Calls P g (denL ρ args).toArray w fun e w'=>
   ∃ (ρ':Val) (v:Value),e = .returned v∧(sv ≠ .junk→v=sv.den ρ')∧(∀ n,n<M.length→ρ' n=ρ n)∧Kept B w w'∧MRel B ρ' M' w'
abbrev BCtr:=FuncId×(List SV→List Blk→BRes)
def findB:List BCtr→FuncId→Option (List SV→List Blk→BRes)
 |[],_=>none
 |(g,c)::l,f=>match Nat.beq g f with
  |true=>some c
  |false=>findB l f
theorem findB_mem:∀ (l:List BCtr) (f:FuncId) (c:List SV→List Blk→BRes),findB l f=some c→(f,c)∈l
 |[],_,_,h=>by cases h
 |(g,d)::l,f,c,h=>by
  simp only[findB] at h
  split at h
  . rename_i hb
    obtain rfl:=Option.some.inj h
    obtain rfl:g=f:=by simpa using hb
    exact List.mem_cons_self ..
  . exact List.mem_cons_of_mem _ (findB_mem l f c h)
def endS (p:Option Value)(sv:SV)(ρ:Val):Ending:=match p with
 |none=>.returned (sv.den ρ)
 |some v=>.panicked [{v,recovered:=false}]
abbrev YC:=List SV→List Blk→(Option Value→SV→List Blk→Prop)→Prop
def YCtrOk (P:Program)(G:World→Prop)(g:FuncId)(c:YC):Prop:=
 (∀ (args:Array Value) (w:World),(callFunc g args).run P w = .ok (.enter g args) w)∧
 ∀ (args:List SV) (M:List Blk) (K:Option Value→SV→List Blk→Prop),c args M K→scL (fun n=>decide (n<M.length)) args=true→M.all (Blk.sc fun n=>decide (n<M.length))=true→∀ (B:Bd) (ρ:Val) (w:World),(∀ w',Kept B w w'→G w')→MRel B ρ M w→
   Calls P g (denL ρ args).toArray w fun e w'=>∃ (p:Option Value) (sv:SV) (M':List Blk) (ρ':Val),e=endS p sv ρ'∧K p sv M'∧MRel B ρ' M' w'∧M'.all (Blk.sc fun n=>decide (n<M'.length))=true∧M.length≤M'.length∧(∀ k,k<M.length→ρ' k=ρ k)∧Kept B w w'
structure Env where
 ctrs:List Ctr
 eqs:List (TypeId×List CK)
 bctrs:List BCtr:=[]
 iters:List (FuncId×Func×Tbl):=[]
 prims:List (FuncId×(List SV→Option SV)):=[]
 mixs:List (TypeId×List SV):=[]
 meqs:List (TypeId×List (Nat×List CK)):=[]
 ys:List (FuncId×YC):=[]
def MixOk (P:Program)(t:TypeId)(xs:List SV):Prop:=(∃ it v,P.info? t=some it∧it.zero=some v∧∀ ρ:Val,v.cells=(mixL xs (denL ρ xs)).toArray)∧scL (fun _=>false) xs=true
def findX {α:Type}:List (TypeId×α)→TypeId→Option α
 |[],_=>none
 |(g,c)::l,f=>match Nat.beq g f with
  |true=>some c
  |false=>findX l f
theorem findX_mem {α:Type}:∀ (l:List (TypeId×α)) (f:TypeId) (c:α),findX l f=some c→(f,c)∈l
 |[],_,_,h=>by cases h
 |(g,d)::l,f,c,h=>by
  simp only[findX] at h
  split at h
  . rename_i hb
    obtain rfl:=Option.some.inj h
    obtain rfl:g=f:=by simpa using hb
    exact List.mem_cons_self ..
  . exact List.mem_cons_of_mem _ (findX_mem l f c h)
def runsF (l:List (Nat×List CK)):List CK:=l.flatMap fun p=>(List.replicate p.1 p.2).flatten
def bodyOf (fn:Func):Code:=match fn.body with
 |some c=>c
 |none=>.skip
def findI:List (FuncId×Func×Tbl)→FuncId→Option (Func×Tbl)
 |[],_=>none
 |(g,c)::l,f=>match Nat.beq g f with
  |true=>some c
  |false=>findI l f
theorem findI_mem:∀ (l:List (FuncId×Func×Tbl)) (f:FuncId) (c:Func×Tbl),findI l f=some c→(f,c)∈l
 |[],_,_,h=>by cases h
 |(g,d)::l,f,c,h=>by
  simp only[findI] at h
  split at h
  . rename_i hb
    obtain rfl:=Option.some.inj h
    obtain rfl:g=f:=by simpa using hb
    exact List.mem_cons_self ..
  . exact List.mem_cons_of_mem _ (findI_mem l f c h)
structure IterOk (P:Program)(f:FuncId)(fn:Func)(T:Tbl):Prop where
 func:P.funcs[f]? = some fn
 body:fn.body.isSome=true
 code:codeOk T (bodyOf fn)=true
 call:∀ (args:Array Value) (w:World),(callFunc f args).run P w = .ok (.enter f args) w
def PrimOk (P:Program)(g:FuncId)(c:List SV→Option SV):Prop:=∀ args sv,c args=some sv→∀ ρ w,(callFunc g (denL ρ args).toArray).run P w = .ok (.value (sv.den ρ)) w
def findP:List (FuncId×(List SV→Option SV))→FuncId→Option (List SV→Option SV)
 |[],_=>none
 |(g,c)::l,f=>match Nat.beq g f with
  |true=>some c
  |false=>findP l f
theorem findP_mem:∀ (l:List (FuncId×(List SV→Option SV))) (f:FuncId) (c:List SV→Option SV),findP l f=some c→(f,c)∈l
 |[],_,_,h=>by cases h
 |(g,d)::l,f,c,h=>by
  simp only[findP] at h
  split at h
  . rename_i hb
    obtain rfl:=Option.some.inj h
    obtain rfl:g=f:=by simpa using hb
    exact List.mem_cons_self ..
  . exact List.mem_cons_of_mem _ (findP_mem l f c h)
structure EnvOk (P:Program)(G:World→Prop)(Γ:Env):Prop where
 ctrs:∀ p∈Γ.ctrs,CtrOk P G p.1 p.2
 eqs:∀ p∈Γ.eqs,EqOk P p.1 p.2
 bctrs:∀ p∈Γ.bctrs,BCtrOk P G p.1 p.2
 iters:∀ p∈Γ.iters,IterOk P p.1 p.2.1 p.2.2
 prims:∀ p∈Γ.prims,PrimOk P p.1 p.2
 mixs:∀ p∈Γ.mixs,MixOk P p.1 p.2
 meqs:∀ p∈Γ.meqs,EqOk P p.1 (runsF p.2)
 ys:∀ p∈Γ.ys,YCtrOk P G p.1 p.2
def OpOk (P:Program)(G:World→Prop)(ev:Operand→SV)(M:List Blk)(o:Oper)(sv:SV)(nb:List Blk):Prop:=
 ∀ (B:Bd) (ρ:Val) (a:Act) (w:World) (next:Act→World→Prop) (Q:Exit→Act→World→Prop),
   (∀ x∈o.op.operands,ev x ≠ .junk→a.eval x=(ev x).den ρ)→MRel B ρ M w→G w→
   (∀ (ρ':Val) (w':World) (v:Value),(sv ≠ .junk→v=sv.den ρ')→Val.Ext w.heap.size (fun n => ¬ (M.length≤n∧n<M.length+nb.length)) ρ ρ'→Below w.heap.size w w'→New B w.heap.size ρ' M.length nb w'→next (a.put o.dst v) w')→
   o.wp P a w next Q
section
variable {P:Program}{G:World→Prop}{ev:Operand→SV}{M:List Blk}{o:Oper}
theorem wp_of_run {a:Act}{w w':World}{next:Act→World→Prop}{Q:Exit→Act→World→Prop}{v:Value}(h:(execOp a.eval o).run P w = .ok (.value v) w')(hn:next (a.put o.dst v) w'):o.wp P a w next Q:=by
 unfold Oper.wp;rw[h];exact hn
theorem OpOk.same {sv:SV}(h:∀ (B:Bd) (ρ:Val) (a:Act) (w:World),(∀ x∈o.op.operands,ev x ≠ .junk→a.eval x=(ev x).den ρ)→MRel B ρ M w→∃ v,(sv ≠ .junk→v=sv.den ρ)∧(execOp a.eval o).run P w = .ok (.value v) w):OpOk P G ev M o sv []:=by
 intro B ρ a w next Q hx hM hGw hn
 obtain⟨v,hv,hr⟩:=h B ρ a w hx hM
 exact wp_of_run hr (hn ρ w v hv (Val.Ext.refl ..) (Below.refl _ _) (New.nil (fun k hk=>(hM.zhi k hk).1) (Nat.le_refl _)))
theorem OpOk.pure {sv:SV}{s:Val→Sem Value}(hs:∀ ρ w,(s ρ).run P w = .ok (sv.den ρ) w)
  (he:∀ (a:Act) (ρ:Val),(∀ x∈o.op.operands,ev x ≠ .junk→a.eval x=(ev x).den ρ)→execOp a.eval o=(do let v ← s ρ;Pure.pure (.value v))):OpOk P G ev M o sv []:=
 OpOk.same fun B ρ a w hx _=>⟨sv.den ρ,fun _=>rfl,by rw[he a ρ hx,Sem.run_bind,hs ρ w];rfl⟩
theorem ok_move {x:Operand}(ho:o.op = .move x∨o.op = .assign x):OpOk P G ev M o (ev x) []:=
 OpOk.same fun B ρ a w hx _=>⟨a.eval x,hx x (by rcases ho with h|h<;>simp[h,Op.operands]),by rcases ho with h|h<;>simp[execOp,h]⟩
theorem good_pick {c x y:Operand}(ho:o.op = .pick c x y):
  (match ev c with | .tt=>Res.ok (ev x) [] | .ff=>.ok (ev y) [] | .bool t=>.split t (.ok (ev x) []) (.ok (ev y) [])|_=>.fail).good (OpOk P G ev M o):=by
 have key:∀ (b:Bool) (sv:SV),(∀ (a:Act) (ρ:Val),(∀ x∈o.op.operands,ev x ≠ .junk→a.eval x=(ev x).den ρ)→a.eval c = .bool b)→sv=(if b then ev x else ev y)→OpOk P G ev M o sv []:=by
  rintro b sv hc rfl
  refine OpOk.same fun B ρ a w hx _=>⟨if b then a.eval x else a.eval y,?_,?_⟩
  . cases b
    . exact hx y (by simp[ho,Op.operands])
    . exact hx x (by simp[ho,Op.operands])
  . have:=hc a ρ hx
    simp[execOp,ho,this,asBool]
 have hin:c∈o.op.operands:=by simp[ho,Op.operands]
 split
 . rename_i hc;exact key true _ (fun a ρ hx=>by rw[hx c hin (by rw[hc];simp),hc];rfl) rfl
 . rename_i hc;exact key false _ (fun a ρ hx=>by rw[hx c hin (by rw[hc];simp),hc];rfl) rfl
 . rename_i t hc
   exact⟨fun ht=>key true _ (fun a ρ hx=>by rw[hx c hin (by rw[hc];simp),hc,ht];rfl) rfl,fun ht=>key false _ (fun a ρ hx=>by rw[hx c hin (by rw[hc];simp),hc,ht];rfl) rfl⟩
 . trivial
theorem nb_of_pure {sv:SV}{nb:List Blk}{s:Val→Sem Value}(h:Pure P s sv nb)(he:∀ (a:Act) (ρ:Val),(∀ x∈o.op.operands,ev x ≠ .junk→a.eval x=(ev x).den ρ)→execOp a.eval o=(do let v ← s ρ;Pure.pure (.value v))):OpOk P G ev M o sv nb:=by
 obtain⟨rfl,h⟩:=h;exact OpOk.pure h he
def boolT (P:Program)(t:TypeId):Bool:=match P.underlying t with
 |some .bool=>true
 |_=>false
theorem boolT_eq {P:Program}{t:TypeId}(h:boolT P t=true):P.underlying t=some .bool:=by
 unfold boolT at h;split at h
 . assumption
 . cases h
def funcT (P:Program)(t:TypeId):Bool:=match P.underlying t with
 |some (.func ..)=>true
 |_=>false
theorem funcT_eq {P:Program}{t:TypeId}(h:funcT P t=true):∃ a b c,P.underlying t=some (.func a b c):=by
 unfold funcT at h;split at h
 . exact⟨_,_,_,by assumption⟩
 . cases h
def nilS:SV→Option Bool
 | .fn _ _ _=>some false
 | .yld _=>some false
 | .val .nilFunc=>some true
 |_=>none
def tfS (b:Bool):SV:=match b with
 |true=>.tt
 |false=>.ff
theorem tfS_den (ρ:Val)(b:Bool):(tfS b).den ρ = .bool b:=by cases b<;>rfl
def nilT (P:Program)(t:TypeId)(op:BinOp)(x y:SV):Res:=match nilS x,nilS y with
 |some u,some v=>match u||v,funcT P t with
  |true,true=>match op with
   | .eql=>.ok (tfS (u&&v)) []
   | .neq=>.ok (tfS (!(u&&v))) []
   |_=>.fail
  |_,_=>.fail
 |_,_=>.fail
theorem nilS_den {ρ:Val}{x:SV}{b:Bool}(h:nilS x=some b):(b=true→x.den ρ = .nilFunc)∧(b=false→∃ f a c,x.den ρ = .func f a c):=by
 cases x with
 |fn f a b'=>obtain rfl:=Option.some.inj h;exact⟨(fun e=>by cases e),fun _=>⟨_,_,_,rfl⟩⟩
 |yld n=>obtain rfl:=Option.some.inj h;exact⟨(fun e=>by cases e),fun _=>⟨_,_,_,rfl⟩⟩
 |val v=>
  cases v with
  |nilFunc=>obtain rfl:=Option.some.inj h;exact⟨fun _=>rfl,(fun e=>by cases e)⟩
  |_=>cases h
 |_=>cases h
theorem equal_func {P:Program}{t:TypeId}{a b c}(ht:P.underlying t=some (.func a b c)){X Y:Value}{u v:Bool}(hX:(u=true→X = .nilFunc)∧(u=false→∃ f a c,X = .func f a c))(hY:(v=true→Y = .nilFunc)∧(v=false→∃ f a c,Y = .func f a c))(huv:(u||v)=true)(w:World):
  (Op.equal t X Y).run P w = .ok (u&&v) w∧(∀ op:BinOp,op = .eql∨op = .neq→∀ x y,(eqGuard op t x y X Y).run P w = .ok () w):=by
 have h:∀ d,(Op.equalIn (d+1) t X Y).run P w = .ok (u&&v) w:=by
  intro d
  cases u<;>cases v
  . cases huv
  . obtain⟨f,a,c,rfl⟩:=hX.2 rfl;obtain rfl:=hY.1 rfl
    simp[Op.equalIn,run_underlying ht]
  . obtain⟨f,a,c,rfl⟩:=hY.2 rfl;obtain rfl:=hX.1 rfl
    simp[Op.equalIn,run_underlying ht]
  . obtain rfl:=hX.1 rfl;obtain rfl:=hY.1 rfl
    simp[Op.equalIn,run_underlying ht]
 refine⟨h 9999,fun op hop x y => ?_⟩
 have hx:(X = .nilFunc ∨ ∃ f a c,X = .func f a c):=by cases u<;>simp_all
 rcases hx with rfl | ⟨f,a,c,rfl⟩<;>rcases hop with rfl|rfl<;>rfl
theorem nilT_good {P:Program}(op:BinOp)(t:TypeId)(x y:Operand)(X Y:SV):(nilT P t op X Y).good (Pure P fun ρ=>do eqGuard op t x y (X.den ρ) (Y.den ρ);binOp op t (X.den ρ) (Y.den ρ)):=by
 unfold nilT
 split
 . rename_i u v hu hv
   split
   . rename_i huv hf
     obtain⟨a,b,c,ht⟩:=funcT_eq hf
     split
     . refine⟨rfl,fun ρ w => ?_⟩
       obtain⟨h1,h2⟩:=equal_func ht (nilS_den (ρ:=ρ) hu) (nilS_den (ρ:=ρ) hv) huv w
       have e:binOp .eql t (X.den ρ) (Y.den ρ)=(do pure (.bool (← Op.equal t (X.den ρ) (Y.den ρ)))):=by
        have hx:=nilS_den (ρ:=ρ) hu
        have hx2:(X.den ρ = .nilFunc ∨ ∃ f a c,X.den ρ = .func f a c):=by cases u<;>simp_all
        rcases hx2 with e | ⟨f,a,c,e⟩<;>rw[e]<;>rfl
       simp only[Sem.run_bind,h2 .eql (.inl rfl),Result.andThen_ok,e,h1,Sem.run_pure,tfS_den]
     . refine⟨rfl,fun ρ w => ?_⟩
       obtain⟨h1,h2⟩:=equal_func ht (nilS_den (ρ:=ρ) hu) (nilS_den (ρ:=ρ) hv) huv w
       have e:binOp .neq t (X.den ρ) (Y.den ρ)=(do pure (.bool (!(← Op.equal t (X.den ρ) (Y.den ρ))))):=by
        have hx:=nilS_den (ρ:=ρ) hu
        have hx2:(X.den ρ = .nilFunc ∨ ∃ f a c,X.den ρ = .func f a c):=by cases u<;>simp_all
        rcases hx2 with e | ⟨f,a,c,e⟩<;>rw[e]<;>rfl
       simp only[Sem.run_bind,h2 .neq (.inr rfl),Result.andThen_ok,e,h1,Sem.run_pure,tfS_den]
     . trivial
   . trivial
 . trivial
def binT (P:Program)(E:List (TypeId×List CK))(t:TypeId)(op:BinOp)(x y:SV):Res:=match x,y with
 | .u64 a,.u64 b=>binU op a b
 | .u64 a,.int _ n=>.test (decide (0≤n)) (shU op a n.toNat)
 | .int k a,.u64 b=>shI k op a b.toNat
 | .int k a,.int k' b=>match isSh op with
   |true=>.test (decide (0≤b)) (shI k op a b.toNat)
   |false=>match kEq k k' with
    |true=>binI k op a b
    |false=>.fail
 | .agg xs,.agg ys=>eqAggS E t op xs ys
 |x,y=>match boolS x,boolS y with
  |some a,some b=>match boolT P t with
   |true=>binB op a b
   |false=>.fail
  |_,_=>nilT P t op x y
theorem binT_good {E:List (TypeId×List CK)}(hE:∀ p∈E,EqOk P p.1 p.2)(op:BinOp)(t:TypeId)(x y:Operand)(X Y:SV):(binT P E t op X Y).good (Pure P fun ρ=>do eqGuard op t x y (X.den ρ) (Y.den ρ);binOp op t (X.den ρ) (Y.den ρ)):=by
 unfold binT
 split
 . exact binU_good P op t x y _ _
 . intro h;exact shU_good P op t x y _ _ _ (by simpa using h)
 . rename_i k a b
   have h:=shI_good P op t x y k a .u64 (uv b) (uv_nonneg b)
   rwa [uv_toNat] at h
 . rename_i k a k' b
   split
   . intro h;exact shI_good P op t x y _ _ _ _ (by simpa using h)
   . split
     . rename_i hk
       obtain rfl:k=k':=by simpa [kEq] using hk
       exact binI_good P op t x y k a b
     . trivial
 . exact eqAggS_good hE op t x y _ _
 . split
   . rename_i a b hx hy
     split
     . rename_i ht
       have:=binB_good (P:=P) op (boolT_eq ht) x y a b
       refine Res.good_mono (fun sv nb h=>⟨h.1,fun ρ w => ?_⟩) _ this
       have h2:=h.2 ρ w
       simp only[(boolS_den (ρ:=ρ) hx).1,(boolS_den (ρ:=ρ) hy).1];exact h2
     . trivial
   . exact nilT_good op t x y _ _
theorem binT_nj {E:List (TypeId×List CK)}{t:TypeId}{op:BinOp}{X Y:SV}(h:X = .junk∨Y = .junk):binT P E t op X Y = .fail:=by
 rcases h with rfl|rfl
 . unfold binT;cases Y<;>rfl
 . unfold binT
   cases X<;>simp[boolS,nilT,nilS]
theorem good_bin {E:List (TypeId×List CK)}(hE:∀ p∈E,EqOk P p.1 p.2){op:BinOp}{t yt:TypeId}{x y:Operand}(ho:o.op = .binOp op t x y yt):(binT P E t op (ev x) (ev y)).good (OpOk P G ev M o):=by
 by_cases hj:ev x = .junk∨ev y = .junk
 . rw[binT_nj hj];trivial
 . have hx:ev x ≠ .junk:=fun h=>hj (.inl h)
   have hy:ev y ≠ .junk:=fun h=>hj (.inr h)
   refine Res.good_mono (fun sv nb h=>nb_of_pure h ?_) _ (binT_good hE op t x y (ev x) (ev y))
   intro a ρ he
   have h1:=he x (by simp[ho,Op.operands]) hx
   have h2:=he y (by simp[ho,Op.operands]) hy
   simp only[execOp,ho,h1,h2]
theorem good_un {op:UnOp}{t:TypeId}{x:Operand}(ho:o.op = .unOp op t x):(unS op (ev x)).good (OpOk P G ev M o):=by
 by_cases hj:ev x = .junk
 . rw[hj];cases op<;>trivial
 . refine Res.good_mono (fun sv nb h=>nb_of_pure h ?_) _ (unS_good P op (ev x))
   intro a ρ he
   simp only[execOp,ho,he x (by simp[ho,Op.operands]) hj]
theorem good_conv {src dst:TypeId}{x:Operand}(ho:o.op = .convert src dst x):(convS P src dst (ev x)).good (OpOk P G ev M o):=by
 by_cases hj:ev x = .junk
 . rw[hj];unfold convS;split
   . trivial
   . split<;>trivial
 . refine Res.good_mono (fun sv nb h=>nb_of_pure h ?_) _ (convS_good P src dst (ev x))
   intro a ρ he
   simp only[execOp,ho,he x (by simp[ho,Op.operands]) hj]
def setρ (ρ:Val)(m:Nat)(l:Option Loc):Val:=⟨fun n=>if n=m then l else ρ n,ρ.z⟩
theorem setρ_self (ρ:Val)(m:Nat)(l:Option Loc):setρ ρ m l m=l:=by simp[setρ]
theorem setρ_other {ρ:Val}{m n:Nat}{l:Option Loc}(h:n≠m):setρ ρ m l n=ρ n:=by simp[setρ,h]
theorem setρ_lt {ρ:Val}{m:Nat}{l:Option Loc}:∀ n,(decide (n<m))=true→setρ ρ m l n=ρ n:=fun n h=>setρ_other (by simp at h;omega)
theorem setρ_ext {S:Nat}{ρ:Val}{m:Nat}{l:Option Loc}{p:Nat→Prop}(h:∀ n,p n→n≠m):Val.Ext S p ρ (setρ ρ m l):=⟨fun n hn=>setρ_other (h n hn),fun _ h=>h,fun _ h=>.inl h⟩
theorem new_one {B:Bd}{S:Nat}{ρ:Val}{m:Nat}{b:Blk}{w:World}(hok:b.ok B ρ m w)(hf:b.isOwn=true→∀ l,ρ m=some l→S≤l.blk)(hz:∀ k,ρ.z k→k<S)(hS:S≤w.heap.size):New B S ρ m [b] w:=by
 refine⟨fun k c h => ?_,fun k c l h ho hl => ?_,fun i j b c l k h1 h2 h3 => ?_,fun k c l h ho hl hzl => ?_,fun k hk=>Nat.lt_of_lt_of_le (hz k hk) hS,fun k hk hl=>by have:=hz k hk;omega⟩
 . cases k with
   |zero=>simp at h;subst h;exact hok
   |succ k=>simp at h
 . cases k with
   |zero=>simp at h;subst h;exact hf ho l hl
   |succ k=>simp at h
 . cases i with
   |zero=>cases j with
    |zero=>exact absurd rfl h1
    |succ j=>simp at h3
   |succ i=>simp at h2
 . cases k with
   |zero=>simp at h;subst h;have:=hf ho l hl;have:=hz _ hzl;omega
   |succ k=>simp at h
theorem run_newCells (w:World)(z:List SV)(ρ:Val)(e:TypeId){v:Value}(hv:v.cells=(denL ρ z).toArray):(newVar e v).run P w = .ok ⟨w.heap.size,0,none⟩ (w.alloc (.cells (denL ρ z).toArray e)):=by
 simp only[newVar,newRow,newObj,hv,Sem.run_bind]
 rfl
theorem ok_newcells {z:List SV}{e:TypeId}(hsc:scL (fun n=>decide (n<M.length)) z=true)
  (h:∀ (B:Bd) (ρ:Val) (a:Act) (w:World),(∀ x∈o.op.operands,ev x ≠ .junk→a.eval x=(ev x).den ρ)→MRel B ρ M w→(execOp a.eval o).run P w = .ok (.value (.pointer (some ⟨w.heap.size,0,none⟩))) (w.alloc (.cells (denL ρ z).toArray e))):OpOk P G ev M o (.ptr M.length 0) [.cells e z]:=by
 intro B ρ a w next Q hx hM hGw hn
 refine wp_of_run (h B ρ a w hx hM) (hn (setρ ρ M.length (some ⟨w.heap.size,0,0,none,.inr rfl⟩)) _ _ (fun _ => ?_) (setρ_ext fun n hn' => ?_) ((Below.refl _ _).alloc (Nat.le_refl _) _) (new_one ?_ ?_ (fun k hk=>(hM.zhi k hk).1) (by simp)))
 . simp[SV.den,setρ_self]
 . intro e;subst e;exact hn' ⟨Nat.le_refl _,by simp⟩
 . refine⟨⟨w.heap.size,0,0,none,.inr rfl⟩,setρ_self ..,rfl,Or.inr hM.size,?_⟩
   rw[heap_alloc,if_pos rfl,denL_congr (setρ_lt) z hsc]
 . intro _ l hl
   rw[setρ_self] at hl;obtain rfl:=Option.some.inj hl;exact Nat.le_refl _
def allocS (P:Program)(M:List Blk)(e:TypeId):Res:=match zeroS P e with
 |some z=>.ok (.ptr M.length 0) [.cells e z]
 |none=>.fail
theorem good_alloc {e:TypeId}(ho:o.op = .alloc e):(allocS P M e).good (OpOk P G ev M o):=by
 unfold allocS
 split
 . rename_i z hz
   refine ok_newcells (zeroS_sc _ hz) fun B ρ a w _ _ => ?_
   obtain⟨it,v,hi,hv,hc⟩:=zeroS_den hz
   have h0:(zeroValue e).run P w = .ok v w:=by simp[zeroValue,typeInfo,hi,hv]
   simp only[execOp,ho,Instr.alloc,Sem.run_bind,h0,Result.andThen_ok,run_newCells w z ρ e (hc ρ),Sem.run_pure]
 . trivial
def boxS (M:List Blk)(e:TypeId)(x:SV):Res:=match cellsS x with
 |some z=>match scL (fun n=>decide (n<M.length)) z with
  |true=>.ok (.ptr M.length 0) [.cells e z]
  |false=>.fail
 |none=>.fail
theorem good_box {e:TypeId}{x:Operand}(ho:o.op = .box e x):(boxS M e (ev x)).good (OpOk P G ev M o):=by
 unfold boxS
 split
 . rename_i z hz
   split
   . rename_i hsc
     refine ok_newcells hsc fun B ρ a w hx _ => ?_
     obtain⟨hc,hnj⟩:=cellsS_den (ρ:=ρ) hz
     have h1:=hx x (by simp[ho,Op.operands]) hnj
     simp only[execOp,ho,Instr.box,h1,Sem.run_bind,run_newCells w z ρ e hc,Result.andThen_ok,Sem.run_pure]
   . trivial
 . trivial
def evP (ev:Operand→SV):List (Nat×Operand)→List (Nat×SV)
 |[]=>[]
 |(i,x)::l=>(i,ev x)::evP ev l
def njP:List (Nat×SV)→Bool
 |[]=>true
 |(_,x)::l=>x.nj&&njP l
theorem evP_eval {a:Act}{ρ:Val}:∀ (l:List (Nat×Operand)),(∀ p∈l,ev p.2 ≠ .junk→a.eval p.2=(ev p.2).den ρ)→njP (evP ev l)=true→
  l.map (fun(i,x)=>(i,a.eval x))=(evP ev l).map fun p=>(p.1,p.2.den ρ)
 |[],_,_=>rfl
 |(i,x)::l,h,hn=>by
  simp only[evP,njP,Bool.and_eq_true] at hn
  simp only[List.map_cons,evP,h (i,x) (by simp) (SV.nj_ne hn.1),evP_eval l (fun p hp=>h p (List.mem_cons_of_mem _ hp)) hn.2]
def buildR (P:Program)(t:TypeId)(parts:List (Nat×SV)):Res:=match njP parts with
 |true=>match buildS P t parts with
  |some xs=>.ok (.agg xs) []
  |none=>.fail
 |false=>.fail
theorem good_build {t:TypeId}{parts:Array (Nat×Operand)}(ho:o.op = .build t parts):(buildR P t (evP ev parts.toList)).good (OpOk P G ev M o):=by
 unfold buildR
 split
 . rename_i hnj
   split
   . rename_i xs hb
     refine OpOk.same fun B ρ a w hx _=>⟨.agg (denL ρ xs).toArray,fun _=>rfl,?_⟩
     have he:=evP_eval (a:=a) (ρ:=ρ) parts.toList (fun p hp=>hx p.2 (by simp[ho,Op.operands];exact⟨p.1,by simpa using hp⟩)) hnj
     have hb':=buildS_built (ρ:=ρ) hb
     rw[← he] at hb'
     have hr:=run_build (P:=P) w t (parts.map fun(i,x)=>(i,a.eval x)) _ (by simpa using hb')
     simp only[execOp,ho,Sem.run_bind,hr,Result.andThen_ok,Sem.run_pure]
   . trivial
 . trivial
theorem aggS_true {t:TypeId}(h:aggS P t=some true):∃ d,P.underlying t=some d∧d.isRow=true:=by
 unfold aggS at h
 split at h<;>first | (rename_i hu;exact⟨_,hu,rfl⟩) | (cases h)
theorem aggS_run {t:TypeId}{b:Bool}(h:aggS P t=some b)(w:World):(isAgg t).run P w = .ok b w:=by
 unfold aggS at h
 split at h
 . rename_i hu;obtain rfl:=Option.some.inj h;simp[isAgg,run_underlying hu]
 . rename_i hu;obtain rfl:=Option.some.inj h;simp[isAgg,run_underlying hu]
 . rename_i d hs ha hu
   obtain rfl:=Option.some.inj h
   unfold isAgg
   rw[Sem.run_bind,run_underlying hu w]
   cases d<;>first|rfl | (exact absurd rfl (hs _)) | (exact absurd rfl (ha _ _))
 . cases h
theorem denL_drop_take (ρ:Val)(xs:List SV)(o n:Nat):denL ρ ((xs.drop o).take n)=((denL ρ xs).drop o).take n:=by simp[denL_eq,List.map_take,List.map_drop]
theorem run_load_part {t:TypeId}{xs:List SV}{off:Nat}{sv:SV}{ρ:Val}{w:World}{b o:Nat}(hp:partS P t xs off=some sv)
  (hc:∀ j v,(denL ρ xs)[j]? = some v→w.cell? ⟨b,o+j,none⟩=some v):(Instr.loadAt t (.pointer (some ⟨b,o+off,none⟩))).run P w = .ok (sv.den ρ) w∧sv ≠ .junk:=by
 unfold partS at hp
 split at hp
 . rename_i ha
   split at hp
   . rename_i n hn
     split at hp
     . rename_i hle
       have hle':off+n≤xs.length:=by simpa using hle
       obtain rfl:=Option.some.inj hp
       obtain⟨it,hi,hs⟩:=sizeS_info hn
       obtain⟨d,hu,hd⟩:=aggS_true ha
       refine⟨?_,by simp⟩
       simp only[SV.den,denL_drop_take]
       refine run_loadAt_mid w b (o+off) t _ d (fun j v hj => ?_) hu hd ?_
       . rw[List.getElem?_take,List.getElem?_drop] at hj
         split at hj
         . have:=hc _ _ hj;rwa [Nat.add_assoc]
         . cases hj
       . simp[hi,hs,denL_eq];omega
     . cases hp
   . cases hp
 . rename_i ha
   split at hp
   . rename_i x hx
     split at hp
     . rename_i hnj
       obtain rfl:=Option.some.inj hp
       rw[nth_eq] at hx
       have h1:=hc off (x.den ρ) (by simp[denL_eq,hx])
       refine⟨?_,SV.nj_ne hnj⟩
       simp only[Instr.loadAt,Instr.sureAddr,loadVar,Sem.run_bind,Sem.run_pure,Result.andThen_ok,aggS_run ha,Bool.false_eq_true,if_false]
       simp[h1]
     . cases hp
   . cases hp
 . cases hp
def partF (P:Program)(t:TypeId)(l:List FV)(off:Nat):Option (Bool×List FV):=match aggS P t with
 |some true=>match sizeS P t with
  |some n=>match Nat.ble (off+n) l.length with
   |true=>some (true,(l.drop off).take n)
   |false=>none
  |none=>none
 |some false=>match nth l off with
  |some x=>some (false,[x])
  |none=>none
 |none=>none
def namL:Nat→List FV→List SV×List Blk
 |_,[]=>([],[])
 |m,x::l=>match x with
  | .row sz n g=>match namL (m+1) l with
    |(xs,bs)=>(.sl m sz 0 n::xs,.fz sz n g::bs)
  |x=>match namL m l with
   |(xs,bs)=>(x.sv::xs,bs)
def loadF (P:Program)(m:Nat)(t:TypeId)(l:List FV)(off:Nat):Res:=match partF P t l off with
 |some (true,fs)=>match namL m fs with
  |(xs,bs)=>.ok (.agg xs) bs
 |some (false,fs)=>match namL m fs with
  |([x],bs)=>.ok x bs
  |_=>.fail
 |none=>.fail
def loadS (P:Program)(M:List Blk)(t:TypeId)(x:SV):Res:=match x with
 | .ptr n off=>match celB (nth M n) with
   |some xs=>match partS P t xs off with
    |some sv=>.ok sv []
    |none=>.fail
   |_=>.fail
 | .ep n i sz j=>match nth M n with
   |some (.ro sz' m g)=>match Nat.beq sz sz' with
    |true=>.test (decide (i<m)) (loadF P M.length t (g i) j)
    |false=>.fail
   |some (.fz sz' m g)=>match Nat.beq sz sz' with
    |true=>.test (decide (i<m)) (loadF P M.length t (g i) j)
    |false=>.fail
   |some (.own _ sz' m g)=>match Nat.beq sz sz' with
    |true=>.test (decide (i<m)) (loadF P M.length t (g i) j)
    |false=>.fail
   |_=>.fail
 |_=>.fail
theorem denL_fv (ρ:Val)(l:List FV):denL ρ (l.map FV.sv)=l.map FV.den:=by simp[denL_eq,Function.comp_def,FV.sv_den]
theorem flatG_length {n sz:Nat}{g:Nat→List FV}:∀ (m:Nat),m≤n→(∀ i,i<n→okG sz (g i))→(flatG m g).length=m*sz:=by
 intro m hm hg
 induction m with
 |zero=>simp[flatG]
 |succ m ih=>
  have:=ih (by omega)
  simp only[flatG,List.range_succ,List.flatMap_append,List.length_append,List.flatMap_cons,List.flatMap_nil,List.append_nil,List.length_map] at this ⊢
  rw[this,(hg m (by omega)).1,Nat.succ_mul]
theorem flatG_get {n sz:Nat}{g:Nat→List FV}(hg:∀ i,i<n→okG sz (g i)){i j:Nat}{x:FV}(hi:i<n)(hx:(g i)[j]? = some x):(flatG n g)[i*sz+j]? = some x.den:=by
 induction n with
 |zero=>omega
 |succ n ih=>
  have hj:j < (g i).length:=(List.getElem?_eq_some_iff.1 hx).1
  have hl:=flatG_length (g:=g) (sz:=sz) n (Nat.le_succ n) hg
  have e:flatG (n+1) g=flatG n g++(g n).map FV.den:=by simp[flatG,List.range_succ]
  rw[e]
  by_cases h:i<n
  . have h1:(i+1)*sz≤n*sz:=Nat.mul_le_mul_right _ h
    rw[Nat.add_mul] at h1
    rw[List.getElem?_append_left (by rw[hl];have:=(hg i hi).1;omega)]
    exact ih (fun i hi=>hg i (by omega)) h
  . obtain rfl:i=n:=by omega
    rw[List.getElem?_append_right (by omega),hl]
    simp[hx]
def EltAt (z:Nat→Prop)(w:World)(l:Loc)(i sz:Nat)(g:Nat→List FV):Prop:=∃ h:List FV,RepL z w (g i) h∧okG sz h∧∀ (j:Nat) (x:FV),h[j]? = some x→w.cell? ⟨l.blk,l.off+i*sz+j,none⟩=some x.den
theorem own_cell {B:Bd}{ρ:Val}{n:Nat}{w:World}{ty:TypeId}{sz m:Nat}{g:Nat→List FV}(h:(Blk.own ty sz m g).ok B ρ n w){i:Nat}(hi:i<m):
  ∃ l,ρ n=some l∧EltAt ρ.z w l i sz g:=by
 obtain⟨q,hr,hg,h⟩:=h
 rcases h with⟨_,rfl⟩ | ⟨l,cur,hl,h0,hB,hh,hm,hc,hs,ht⟩
 . omega
 . refine⟨l,hl,q i,hr i hi,hg i hi,fun j x hx => ?_⟩
   have h1:=flatG_get hg hi hx
   rw[← ht,List.getElem?_take] at h1
   split at h1
   . simp only[World.cell?,hh,h0,Nat.zero_add];simpa using h1
   . cases h1
theorem roOk_cell {Q:Nat→Prop}{z:Nat→Prop}{ρ:Val}{n:Nat}{w:World}{sz m:Nat}{g q:Nat→List FV}(hr:∀ i,i<m→RepL z w (g i) (q i))(h:roOk Q ρ n w sz m q){i:Nat}(hi:i<m):
  ∃ l,ρ n=some l∧EltAt z w l i sz g:=by
 cases hl:ρ n with
 |none=>have:=h.1 hl;omega
 |some l=>exact⟨l,rfl,q i,hr i hi,((h.2 l hl).2.2 i hi).1,((h.2 l hl).2.2 i hi).2⟩
theorem ro_cell {B:Bd}{ρ:Val}{n:Nat}{w:World}{sz m:Nat}{g:Nat→List FV}(h:(Blk.ro sz m g).ok B ρ n w){i:Nat}(hi:i<m):∃ l,ρ n=some l∧EltAt ρ.z w l i sz g:=by
 obtain⟨q,hr,h⟩:=h;exact roOk_cell hr h hi
theorem fz_cell {B:Bd}{ρ:Val}{n:Nat}{w:World}{sz m:Nat}{g:Nat→List FV}(h:(Blk.fz sz m g).ok B ρ n w){i:Nat}(hi:i<m):∃ l,ρ n=some l∧EltAt ρ.z w l i sz g:=by
 obtain⟨q,hr,h⟩:=h;exact roOk_cell hr h hi
theorem namL_ok {B:Bd}{w:World}:∀ (fs hs:List FV) (ρ:Val) (m:Nat),RepL ρ.z w fs hs→∃ ρ':Val,ρ'.z=ρ.z∧(∀ n,¬ (m≤n∧n<m+(namL m fs).2.length)→ρ' n=ρ n)∧denL ρ' (namL m fs).1=hs.map FV.den∧(∀ (k:Nat) (b:Blk),(namL m fs).2[k]? = some b→b.ok B ρ' (m+k) w∧b.isOwn=false)∧(∀ x∈(namL m fs).1,x ≠ .junk)
 |[],hs,ρ,m,h=>by
  obtain rfl:hs=[]:=List.eq_nil_of_length_eq_zero h.1.symm
  exact⟨ρ,rfl,fun _ _=>rfl,rfl,by simp[namL],by simp[namL]⟩
 |x::fs,hs,ρ,m,h=>by
  obtain⟨y,ys,rfl⟩:∃ y ys,hs=y::ys:=by
   cases hs with
   |nil=>have:=h.1;simp at this
   |cons y ys=>exact⟨y,ys,rfl⟩
  have hxy:Rep ρ.z w x y:=h.2 0 x y rfl rfl
  have htl:RepL ρ.z w fs ys:=⟨by simpa using h.1,fun j a b ha hb=>h.2 (j+1) a b (by simpa using ha) (by simpa using hb)⟩
  have flatc:x.flat=true→(namL m (x::fs))=(x.sv::(namL m fs).1,(namL m fs).2):=fun hf=>by cases x<;>first|rfl|cases hf
  have goflat:x.flat=true→∃ ρ':Val,ρ'.z=ρ.z∧(∀ n,¬ (m≤n∧n<m+(namL m (x::fs)).2.length)→ρ' n=ρ n)∧denL ρ' (namL m (x::fs)).1=(y::ys).map FV.den∧(∀ (k:Nat) (b:Blk),(namL m (x::fs)).2[k]? = some b→b.ok B ρ' (m+k) w∧b.isOwn=false)∧(∀ x'∈(namL m (x::fs)).1,x' ≠ .junk):=fun hf=>by
   obtain⟨ρ',h1,h2,h3,h4,h5⟩:=namL_ok (B:=B) fs ys ρ m htl
   rw[flatc hf]
   obtain rfl:y=x:=hxy.eq hf
   refine⟨ρ',h1,h2,by simp only[denL,List.map_cons,h3,FV.sv_den],h4,fun x' hx' => ?_⟩
   rcases List.mem_cons.1 hx' with rfl|hx'
   . exact FV.sv_nj hf
   . exact h5 x' hx'
  cases hxy with
  |flat hf=>exact goflat hf
  | @row sz n g l q h0 hc hz hg hcell hl hr=>
    obtain⟨ρ',h1,h2,h3,h4,h5⟩:=namL_ok (B:=B) fs ys (setρ ρ m l) (m+1) htl
    have hm:ρ' m=l:=by rw[h2 m (by omega),setρ_self]
    have hlen:(namL m (FV.row sz n g::fs)).2.length=(namL (m+1) fs).2.length+1:=rfl
    refine⟨ρ',h1,fun k hk => ?_,?_,fun k b hb => ?_,fun x' hx' => ?_⟩
    . rw[hlen] at hk
      rw[h2 k (by omega),setρ_other (by omega)]
    . show denL ρ' (.sl m sz 0 n::(namL (m+1) fs).1)=_
      simp only[denL,List.map_cons,h3,SV.den,hm,FV.den,rowV,Nat.zero_mul,Nat.add_zero,Nat.sub_zero]
    . cases k with
      |zero=>
       obtain rfl:Blk.fz sz n g=b:=by simpa [namL] using hb
       refine⟨⟨q,fun i hi=>⟨hl i hi,fun j x y hx hy=>by rw[h1];exact hr i j x y hi hx hy⟩,?_⟩,rfl⟩
       refine⟨fun hn=>h0 (by rw[← hm];exact hn),fun k hk => ?_⟩
       rw[Nat.add_zero,hm] at hk
       exact⟨hc k hk,fun hn=>by rw[h1];exact hz k hk hn,fun i hi=>⟨hg i hi,fun j x hx=>hcell k i j x hk hi hx⟩⟩
      |succ k=>
       have hb':(namL (m+1) fs).2[k]? = some b:=by simpa [namL] using hb
       have:=h4 k b hb'
       rwa [show m+1+k=m+(k+1) by omega] at this
    . rcases List.mem_cons.1 (show x'∈(.sl m sz 0 n::(namL (m+1) fs).1) from hx') with rfl|hx'
      . simp
      . exact h5 x' hx'
def aggV (ag:Bool)(qs:List FV):Value:=match ag,qs with
 |true,qs=>Value.agg (qs.map FV.den).toArray
 |false,[x]=>x.den
 |_,_=>undef
theorem run_load_vals {t:TypeId}{fs hs:List FV}{off:Nat}{w:World}{b o:Nat}{ag:Bool}{ps:List FV}(hp:partF P t fs off=some (ag,ps))(hlen:fs.length=hs.length)
  (hc:∀ (j:Nat) (x:FV),hs[j]? = some x→w.cell? ⟨b,o+j,none⟩=some x.den):∃ qs:List FV,(∃ k,qs=(hs.drop off).take k∧ps=(fs.drop off).take k)∧
    (Instr.loadAt t (.pointer (some ⟨b,o+off,none⟩))).run P w = .ok (aggV ag qs) w∧(ag=false→∃ x,qs=[x]):=by
 unfold partF at hp
 split at hp
 . rename_i ha
   split at hp
   . rename_i n hn
     split at hp
     . rename_i hle
       have hle':off+n≤fs.length:=by simpa using hle
       obtain⟨rfl,rfl⟩:=Prod.mk.inj (Option.some.inj hp)
       obtain⟨it,hi,hs'⟩:=sizeS_info hn
       obtain⟨d,hu,hd⟩:=aggS_true ha
       refine⟨(hs.drop off).take n,⟨n,rfl,rfl⟩,?_,by simp⟩
       refine run_loadAt_mid w b (o+off) t _ d (fun j v hj => ?_) hu hd ?_
       . rw[List.getElem?_map,Option.map_eq_some_iff] at hj
         obtain⟨x,hx,rfl⟩:=hj
         rw[List.getElem?_take,List.getElem?_drop] at hx
         split at hx
         . have:=hc _ _ hx;rwa [Nat.add_assoc]
         . cases hx
       . simp[hi,hs'];omega
     . cases hp
   . cases hp
 . rename_i ha
   split at hp
   . rename_i x hx
     obtain⟨rfl,rfl⟩:=Prod.mk.inj (Option.some.inj hp)
     rw[nth_eq] at hx
     have hlt:=(List.getElem?_eq_some_iff.1 hx).1
     have hy:hs[off]? = some hs[off]:=List.getElem?_eq_getElem (by omega)
     have h1:=hc off _ hy
     refine⟨[hs[off]],⟨1,?_,?_⟩,?_,fun _=>⟨_,rfl⟩⟩
     . rw[List.drop_eq_getElem_cons (by omega)];rfl
     . rw[List.drop_eq_getElem_cons hlt]
       rw[List.getElem?_eq_getElem hlt] at hx
       simp[Option.some.inj hx]
     . simp only[Instr.loadAt,Instr.sureAddr,loadVar,Sem.run_bind,Sem.run_pure,Result.andThen_ok,aggS_run ha,Bool.false_eq_true,if_false]
       simp[h1,aggV]
   . cases hp
 . cases hp
theorem RepL.part {z:Nat→Prop}{w:World}{a b:List FV}(h:RepL z w a b)(o k:Nat):RepL z w ((a.drop o).take k) ((b.drop o).take k):=
 ⟨by simp[h.1],fun j x y hx hy=>by
   rw[List.getElem?_take,List.getElem?_drop] at hx hy
   split at hx
   . rename_i hj;rw[if_pos hj] at hy;exact h.2 _ x y hx hy
   . cases hx⟩
theorem good_loadF {t:TypeId}{x:Operand}(ho:o.op = .load t x){n i sz j:Nat}{g:Nat→List FV}(hx:ev x = .ep n i sz j)(hc:∀ (B:Bd) (ρ:Val) (w:World),MRel B ρ M w→∃ l,ρ n=some l∧EltAt ρ.z w l i sz g):(loadF P M.length t (g i) j).good (OpOk P G ev M o):=by
 have hin:x∈o.op.operands:=by simp[ho,Op.operands]
 have exec:∀ (a:Act) (w:World) (v:Value),(Instr.loadAt t (a.eval x)).run P w = .ok v w→(execOp a.eval o).run P w = .ok (.value v) w:=fun a w v h=>by
  simp only[execOp,ho,Sem.run_bind,h,Result.andThen_ok,Sem.run_pure]
 have key:∀ (ag:Bool) (ps:List FV) (sv:SV),partF P t (g i) j=some (ag,ps)→(∀ (ρ':Val) (qs:List FV),denL ρ' (namL M.length ps).1=qs.map FV.den→(ag=false→∃ x,qs=[x])→aggV ag qs=sv.den ρ')→OpOk P G ev M o sv (namL M.length ps).2:=by
  intro ag ps sv hp hsv B ρ a w next Q he hM hGw hn
  obtain⟨l,hl,q,hrep,hok,hcell⟩:=hc B ρ w hM
  obtain⟨qs,⟨k,hqs,hps⟩,hr,hone⟩:=run_load_vals (P:=P) (b:=l.blk) (o:=l.off+i*sz) hp hrep.1 hcell
  have hrep':RepL ρ.z w ps qs:=by rw[hqs,hps];exact hrep.part j k
  obtain⟨ρ',h1,h2,h3,h4,h5⟩:=namL_ok (B:=B) ps qs ρ M.length hrep'
  have hev:=he x hin (by rw[hx];simp)
  rw[hx] at hev
  refine wp_of_run (exec a w _ ?_) (hn ρ' w (sv.den ρ') (fun _=>rfl) ⟨h2,by rw[h1];exact fun _ h=>h,by rw[h1];exact fun _ h=>.inl h⟩ (Below.refl _ _) ⟨fun k b hb=>(h4 k b hb).1,fun k b l hb ho => ?_,fun i j b c l k _ hb _ ho => ?_,fun k b l hb ho => ?_,fun k hk => ?_,fun k hk hl => ?_⟩)
  . rw[hev]
    simp only[SV.den,hl,Option.map_some]
    rw[hr,hsv ρ' qs h3 hone]
  . have:=(h4 k b hb).2;rw[this] at ho;cases ho
  . have:=(h4 i b hb).2;rw[this] at ho;cases ho
  . have:=(h4 k b hb).2;rw[this] at ho;cases ho
  . rw[h1] at hk;exact(hM.zhi k hk).1
  . rw[h1] at hk;have:=(hM.zhi k hk).1;omega
 unfold loadF
 split
 . rename_i fs hp
   exact key true fs _ hp fun ρ' qs hq _=>by simp only[aggV,SV.den,hq]
 . rename_i fs hp
   split
   . rename_i y bs hy
     have e1:(namL M.length fs).1=[y]:=by rw[hy]
     have e2:(namL M.length fs).2=bs:=by rw[hy]
     rw[← e2]
     exact key false fs y hp fun ρ' qs hq hone=>by
        obtain⟨q0,rfl⟩:=hone rfl
        rw[e1] at hq
        simp only[denL,List.map_cons,List.map_nil,List.cons.injEq,and_true] at hq
        exact hq.symm
   . trivial
 . trivial
theorem good_load {t:TypeId}{x:Operand}(ho:o.op = .load t x):(loadS P M t (ev x)).good (OpOk P G ev M o):=by
 have hin:x∈o.op.operands:=by simp[ho,Op.operands]
 have exec:∀ (a:Act) (w:World) (v:Value),(Instr.loadAt t (a.eval x)).run P w = .ok v w→(execOp a.eval o).run P w = .ok (.value v) w:=fun a w v h=>by
  simp only[execOp,ho,Sem.run_bind,h,Result.andThen_ok,Sem.run_pure]
 unfold loadS
 split
 . rename_i n off hx
   split
   . rename_i xs hn
     split
     . rename_i sv hp
       refine OpOk.same fun B ρ a w he hM => ?_
       obtain⟨l,ty,hl,h0,hh⟩:=celB_ok hM hn
       have hcell:∀ j v,(denL ρ xs)[j]? = some v→w.cell? ⟨l.blk,0+j,none⟩=some v:=fun j v hv=>by
        simp only[World.cell?,hh,Nat.zero_add];simpa using hv
       obtain⟨hr,hnj⟩:=run_load_part (ρ:=ρ) hp hcell
       refine⟨sv.den ρ,fun _=>rfl,exec a w _ ?_⟩
       rw[he x hin (by rw[hx];simp),hx]
       simp only[SV.den,hl,Option.map_some,h0]
       exact hr
     . trivial
   . trivial
 . rename_i n i sz j hx
   split
   . rename_i sz' m g hn
     split
     . rename_i hs
       obtain rfl:sz=sz':=by simpa using hs
       intro hi
       exact good_loadF ho hx fun B ρ w hM=>ro_cell (hM.ok n _ (by rw[← nth_eq];exact hn)) (by simpa using hi)
     . trivial
   . rename_i sz' m g hn
     split
     . rename_i hs
       obtain rfl:sz=sz':=by simpa using hs
       intro hi
       exact good_loadF ho hx fun B ρ w hM=>fz_cell (hM.ok n _ (by rw[← nth_eq];exact hn)) (by simpa using hi)
     . trivial
   . rename_i ty sz' m g hn
     split
     . rename_i hs
       obtain rfl:sz=sz':=by simpa using hs
       intro hi
       exact good_loadF ho hx fun B ρ w hM=>own_cell (hM.ok n _ (by rw[← nth_eq];exact hn)) (by simpa using hi)
     . trivial
   . trivial
 . trivial
end
end Go.Sx
