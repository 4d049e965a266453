import Derived.Test.YtfgkhenhlpoheaaGreatM03
import Derived.Lib.ConvBytes
set_option linter.all false
namespace Go.Sx
open Go.RowKit Go.Proofs.YtfgkhenhlpoheaaGreat
def itemN:SV→Nat
 | .arr n sz _=>n*sz
 |_=>1
def sumN:List SV→Nat
 |[]=>0
 |x::l=>itemN x+sumN l
theorem fixL_length:∀ (n:Nat) (l:List FV),(fixL n l).length=n
 |0,_=>rfl
 |n+1,[]=>by simp[fixL,fixL_length n]
 |n+1,x::l=>by simp[fixL,fixL_length n]
theorem arrL_succ (n sz:Nat)(g:Nat→List FV):arrL (n+1) sz g=arrL n sz g++fixL sz (g n):=by simp[arrL,List.range_succ]
theorem arrL_length (n sz:Nat)(g:Nat→List FV):(arrL n sz g).length=n*sz:=by
 induction n with
 |zero=>simp[arrL]
 |succ n ih=>rw[arrL_succ,List.length_append,ih,fixL_length,Nat.succ_mul]
theorem arrL_get {n sz:Nat}{g:Nat→List FV}{i j:Nat}(hi:i<n)(hj:j<sz):(arrL n sz g)[i*sz+j]? = (fixL sz (g i))[j]? := by
 induction n with
 |zero=>omega
 |succ n ih=>
  rw[arrL_succ]
  by_cases h:i<n
  . have h1:(i+1)*sz≤n*sz:=Nat.mul_le_mul_right _ h
    rw[Nat.succ_mul] at h1
    rw[List.getElem?_append_left (by rw[arrL_length];omega)]
    exact ih h
  . obtain rfl:i=n:=by omega
    rw[List.getElem?_append_right (by rw[arrL_length];omega),arrL_length]
    congr 1;omega
theorem fixL_get:∀ {n:Nat} {l:List FV} {j:Nat} {x:FV},j<n→l[j]? = some x→(fixL n l)[j]? = some x.cel
 |n+1,y::l,0,x,_,hx=>by
  simp at hx;subst hx;rfl
 |n+1,y::l,j+1,x,hj,hx=>by
  simp only[fixL,List.getElem?_cons_succ]
  exact fixL_get (by omega) (by simpa using hx)
 |n+1,[],j,x,_,hx=>by simp at hx
 |0,_,j,_,hj,_=>by omega
theorem itemL_length (x:SV)(v:Value):(itemL x v).length=itemN x:=by
 cases x<;>first|rfl|exact arrL_length ..
@[reducible] def mixD (ρ:Val) (xs:List SV):List Value:=mixL xs (denL ρ xs)
theorem mixD_cons (ρ:Val)(x:SV)(xs:List SV):mixD ρ (x::xs)=itemL x (x.den ρ)++mixD ρ xs:=rfl
theorem mixD_append (ρ:Val):∀ (a b:List SV),mixD ρ (a++b)=mixD ρ a++mixD ρ b
 |[],b=>rfl
 |x::a,b=>by rw[List.cons_append,mixD_cons,mixD_cons,mixD_append ρ a b,List.append_assoc]
theorem mixD_length (ρ:Val):∀ (xs:List SV),(mixD ρ xs).length=sumN xs
 |[]=>rfl
 |x::xs=>by rw[mixD_cons,List.length_append,itemL_length,mixD_length ρ xs];rfl
def splitM:List SV→Nat→Option (List SV×List SV)
 |[],off=>match off with
  |0=>some ([],[])
  |_=>none
 |x::xs,off=>match Nat.beq off 0 with
  |true=>some ([],x::xs)
  |false=>match Nat.ble (itemN x) off with
   |true=>match splitM xs (off-itemN x) with
    |some (a,b)=>some (x::a,b)
    |none=>none
   |false=>none
theorem splitM_ok:∀ {xs:List SV} {off:Nat} {a b:List SV},splitM xs off=some (a,b)→xs=a++b∧sumN a=off
 |[],off,a,b,h=>by
  simp only[splitM] at h
  split at h
  . obtain⟨rfl,rfl⟩:=Prod.mk.inj (Option.some.inj h);exact⟨rfl,rfl⟩
  . cases h
 |x::xs,off,a,b,h=>by
  simp only[splitM] at h
  split at h
  . rename_i h0
    obtain⟨rfl,rfl⟩:=Prod.mk.inj (Option.some.inj h)
    exact⟨rfl,(Nat.eq_of_beq_eq_true h0).symm⟩
  . split at h
    . rename_i hle
      have hle':=Nat.le_of_ble_eq_true hle
      split at h
      . rename_i a' b' hs
        obtain⟨rfl,rfl⟩:=Prod.mk.inj (Option.some.inj h)
        obtain⟨h1,h2⟩:=splitM_ok hs
        exact⟨by rw[h1];rfl,by simp only[sumN,h2];omega⟩
      . cases h
    . cases h
def plS:SV→Bool
 | .arr .. => false
 |_=>true
def plL:List SV→Bool
 |[]=>true
 |x::l=>plS x&&plL l
theorem plS_item {x:SV}(h:plS x=true)(v:Value):itemL x v=[v]:=by cases x<;>first|rfl|cases h
theorem plL_mix {ρ:Val}:∀ {xs:List SV},plL xs=true→mixD ρ xs=denL ρ xs
 |[],_=>rfl
 |x::xs,h=>by
  simp only[plL,Bool.and_eq_true] at h
  rw[mixD_cons,plS_item h.1,plL_mix h.2];rfl
def asM (P:Program)(t:TypeId)(m:List SV):Option SV:=match P.underlying t with
 |some (.array _ _)=>match m with
  |[.arr n sz g]=>some (.arr n sz g)
  |m=>match plL m with
   |true=>some (.agg m)
   |false=>none
 |some (.struct _)=>match plL m with
  |true=>some (.agg m)
  |false=>some (.mix m)
 |some _=>match m with
  |[x]=>match plS x&&x.nj with
   |true=>some x
   |false=>none
  |_=>none
 |none=>none
def partM (P:Program)(t:TypeId)(xs:List SV)(off:Nat):Option SV:=match sizeS P t with
 |some n=>match splitM xs off with
  |some (_,r)=>match splitM r n with
   |some (m,_)=>asM P t m
   |none=>none
  |none=>none
 |none=>none
section
variable {P:Program}{G:World→Prop}{ev:Operand→SV}{M:List Blk}{o:Oper}
theorem asM_ok {t:TypeId}{m:List SV}{sv:SV}(h:asM P t m=some sv):sv ≠ .junk∧((aggS P t=some true∧∀ ρ,sv.den ρ = .agg (mixD ρ m).toArray)∨(aggS P t=some false∧∀ ρ,mixD ρ m=[sv.den ρ])):=by
 unfold asM at h
 unfold aggS
 split at h
 . rename_i k e hu
   simp only[hu]
   split at h
   . obtain rfl:=Option.some.inj h
     exact⟨by simp,.inl ⟨by trivial,fun ρ=>by simp[SV.den,mixD,mixL,denL,itemL]⟩⟩
   . split at h
     . rename_i hp
       obtain rfl:=Option.some.inj h
       exact⟨by simp,.inl ⟨by trivial,fun ρ=>by rw[plL_mix hp];rfl⟩⟩
     . cases h
 . rename_i fs hu
   simp only[hu]
   split at h
   . rename_i hp
     obtain rfl:=Option.some.inj h
     exact⟨by simp,.inl ⟨by trivial,fun ρ=>by rw[plL_mix hp];rfl⟩⟩
   . obtain rfl:=Option.some.inj h
     exact⟨by simp,.inl ⟨by trivial,fun ρ=>rfl⟩⟩
 . rename_i d ha hs hu
   split at h
   . rename_i x
     split at h
     . rename_i hp
       obtain rfl:=Option.some.inj h
       simp only[Bool.and_eq_true] at hp
       refine⟨SV.nj_ne hp.2,.inr ⟨?_,fun ρ => ?_⟩⟩
       . simp only[hu]
       . rw[mixD_cons,plS_item hp.1];rfl
     . cases h
   . cases h
 . cases h
theorem partM_ok {t:TypeId}{xs:List SV}{off:Nat}{sv:SV}(h:partM P t xs off=some sv):∃ m n,sizeS P t=some n∧off+n≤sumN xs∧(∀ ρ,((mixD ρ xs).drop off).take n=mixD ρ m)∧sumN m=n∧asM P t m=some sv:=by
 unfold partM at h
 split at h
 . rename_i n hn
   split at h
   . rename_i a r h1
     split at h
     . rename_i m b h2
       obtain⟨rfl,ha⟩:=splitM_ok h1
       obtain⟨rfl,hm⟩:=splitM_ok h2
       refine⟨m,n,hn,?_,fun ρ => ?_,hm,h⟩
       . have:=mixD_length ⟨fun _=>none,fun _=>False⟩ (a++(m++b))
         rw[mixD_append,mixD_append,List.length_append,List.length_append,mixD_length,mixD_length,mixD_length] at this
         omega
       . rw[mixD_append,mixD_append,List.drop_append_of_le_length (by rw[mixD_length];omega),List.drop_eq_nil_of_le (by rw[mixD_length];omega),List.nil_append,List.take_append_of_le_length (by rw[mixD_length];omega),List.take_of_length_le (by rw[mixD_length];omega)]
     . cases h
   . cases h
 . cases h
theorem run_part_m {t:TypeId}{xs:List SV}{off:Nat}{sv:SV}{ρ:Val}{w:World}(hp:partM P t xs off=some sv):
  (part t (mixD ρ xs).toArray off).run P w = .ok (sv.den ρ) w∧sv ≠ .junk:=by
 obtain⟨m,n,hn,hle,hm,hs,ha⟩:=partM_ok hp
 obtain⟨hnj,⟨hag,hd⟩ | ⟨hag,hd⟩⟩:=asM_ok ha
 . refine⟨?_,hnj⟩
   obtain⟨it,hi,hsz⟩:=sizeS_info hn
   simp only[part,Sem.run_bind,aggS_run hag,Result.andThen_ok,if_true,sizeOf,typeInfo,hd]
   rw[← hm ρ]
   simp[hi,hsz,List.drop_take]
 . refine⟨?_,hnj⟩
   have h1:=hm ρ
   rw[hd ρ] at h1
   have hn1:n=1:=by
    have:=congrArg List.length (hd ρ)
    rw[mixD_length,hs] at this;simpa using this
   subst hn1
   have h2:(mixD ρ xs)[off]? = some (sv.den ρ):=by
    have:(((mixD ρ xs).drop off).take 1)[0]? = some (sv.den ρ):=by rw[h1];rfl
    rw[List.getElem?_take,List.getElem?_drop] at this
    simpa using this
   simp only[part,Sem.run_bind,aggS_run hag,Result.andThen_ok,Bool.false_eq_true,if_false]
   simp[h2]
theorem run_load_m {t:TypeId}{xs:List SV}{off:Nat}{sv:SV}{ρ:Val}{w:World}{b o:Nat}(hp:partM P t xs off=some sv)
  (hc:∀ j v,(mixD ρ xs)[j]? = some v→w.cell? ⟨b,o+j,none⟩=some v):(Instr.loadAt t (.pointer (some ⟨b,o+off,none⟩))).run P w = .ok (sv.den ρ) w∧sv ≠ .junk:=by
 obtain⟨m,n,hn,hle,hm,hs,ha⟩:=partM_ok hp
 obtain⟨hnj,⟨hag,hd⟩ | ⟨hag,hd⟩⟩:=asM_ok ha
 . obtain⟨it,hi,hsz⟩:=sizeS_info hn
   obtain⟨d,hu,hdr⟩:=aggS_true hag
   refine⟨?_,hnj⟩
   rw[hd,← hm ρ]
   refine run_loadAt_mid w b (o+off) t _ d (fun j v hj => ?_) hu hdr ?_
   . rw[List.getElem?_take,List.getElem?_drop] at hj
     split at hj
     . have:=hc _ _ hj;rwa [Nat.add_assoc]
     . cases hj
   . have:=mixD_length ρ xs
     simp[hi,hsz];omega
 . refine⟨?_,hnj⟩
   have h1:=hm ρ
   rw[hd ρ] at h1
   have hn1:n=1:=by
    have:=congrArg List.length (hd ρ)
    rw[mixD_length,hs] at this;simpa using this
   subst hn1
   have h2:(mixD ρ xs)[off]? = some (sv.den ρ):=by
    have:(((mixD ρ xs).drop off).take 1)[0]? = some (sv.den ρ):=by rw[h1];rfl
    rw[List.getElem?_take,List.getElem?_drop] at this
    simpa using this
   have h3:=hc off _ h2
   simp only[Instr.loadAt,Instr.sureAddr,loadVar,Sem.run_bind,Sem.run_pure,Result.andThen_ok,aggS_run hag,Bool.false_eq_true,if_false]
   simp[h3]
def seekA:List SV→Nat→Nat→Option (Nat×Nat×Nat×(Nat→List FV))
 |[],_,_=>none
 |x::xs,s,J=>match x with
  | .arr n sz g=>match Nat.ble s J&&Nat.blt J (s+sz) with
    |true=>some (s,n,sz,g)
    |false=>seekA xs (s+n*sz) J
  |_=>seekA xs (s+1) J
theorem seekA_cons {x:SV}{xs:List SV}{s J:Nat}{r:Nat×Nat×Nat×(Nat→List FV)}(h:seekA (x::xs) s J=some r):(∃ n sz g,x = .arr n sz g∧r=(s,n,sz,g)∧s≤J∧J<s+sz)∨seekA xs (s+itemN x) J=some r:=by
 simp only[seekA] at h
 split at h
 . rename_i n sz g
   split at h
   . rename_i hb
     simp only[Bool.and_eq_true,Nat.ble_eq,Nat.blt_eq] at hb
     exact .inl ⟨n,sz,g,rfl,(Option.some.inj h).symm,hb.1,hb.2⟩
   . exact .inr h
 . rename_i hne
   refine .inr ?_
   have:itemN x=1:=by cases x<;>first|rfl|exact absurd rfl (hne _ _ _)
   rw[this];exact h
theorem seekA_ok:∀ {xs:List SV} {s J st n sz:Nat} {g:Nat→List FV},seekA xs s J=some (st,n,sz,g)→s≤st∧st≤J∧J<st+sz∧∃ a b,xs=a ++ .arr n sz g::b∧s+sumN a=st
 |[],_,_,_,_,_,_,h=>by cases h
 |x::xs,s,J,st,n,sz,g,h=>by
  rcases seekA_cons h with⟨n',sz',g',rfl,hr,h1,h2⟩|h
  . obtain⟨rfl,rfl,rfl,rfl⟩:st=s∧n=n'∧sz=sz'∧g=g':=by
        simp only[Prod.mk.injEq] at hr;exact hr
    exact⟨Nat.le_refl _,h1,h2,[],xs,rfl,rfl⟩
  . obtain⟨h1,h2,h3,a,b,rfl,h4⟩:=seekA_ok h
    exact⟨by omega,h2,h3,x::a,b,rfl,by simp only[sumN];omega⟩
theorem mixD_part {ρ:Val}{a b:List SV}{n sz:Nat}{g:Nat→List FV}{i j:Nat}(hi:i<n)(hj:j<sz):(mixD ρ (a ++ .arr n sz g::b))[sumN a+i*sz+j]? = (fixL sz (g i))[j]? := by
 have h1:(i+1)*sz≤n*sz:=Nat.mul_le_mul_right _ hi
 rw[Nat.succ_mul] at h1
 rw[mixD_append,List.getElem?_append_right (by rw[mixD_length];omega),mixD_length,mixD_cons]
 show(arrL n sz g++mixD ρ b)[_]? = _
 rw[List.getElem?_append_left (by rw[arrL_length];omega),← arrL_get hi hj]
 congr 1;omega
def mixB:Option Blk→Option (List SV)
 |some (.mix _ xs)=>some xs
 |_=>none
def mixP (M:List Blk):SV→Option (List SV)
 | .ptr n _=>mixB (nth M n)
 | .ep n _ _ _=>mixB (nth M n)
 |_=>none
theorem mixB_ok {B:Bd}{ρ:Val}{w:World}{n:Nat}{xs:List SV}(hM:MRel B ρ M w)(h:mixB (nth M n)=some xs):∃ l ty,M[n]? = some (.mix ty xs)∧ρ n=some l∧l.off=0∧B.may l.blk∧w.heap[l.blk]? = some (.cells (mixD ρ xs).toArray ty (0,0)):=by
 unfold mixB at h
 split at h
 . rename_i ty ys hn
   obtain rfl:=Option.some.inj h
   rw[nth_eq] at hn
   obtain⟨l,hl,h0,hB,hh⟩:=hM.ok n _ hn
   exact⟨l,ty,hn,hl,h0,hB,hh⟩
 . cases h
theorem mixB_cell {w:World}{ρ:Val}{l:Loc}{ty:TypeId}{xs:List SV}(hh:w.heap[l.blk]? = some (.cells (mixD ρ xs).toArray ty (0,0))):∀ j v,(mixD ρ xs)[j]? = some v→w.cell? ⟨l.blk,0+j,none⟩=some v:=fun j v hv=>by
 simp only[World.cell?,hh,Nat.zero_add];simpa using hv
def FV.gd:FV→Bool
 | .val v=>v.oneCell'
 | .row .. => false
 |_=>true
theorem FV.gd_ok {x:FV}(h:x.gd=true):x.cel=x.den∧x.flat=true:=by
 cases x with
 |val v=>simp only[FV.gd] at h;simp[FV.cel,FV.den,h,FV.flat]
 |row=>cases h
 |_=>exact⟨rfl,rfl⟩
def loadA (P:Program)(t:TypeId)(sz:Nat)(l:List FV)(j:Nat):Res:=match partF P t l j with
 |some (true,fs)=>match fs.all FV.gd&&Nat.ble (j+fs.length) sz with
  |true=>.ok (.agg (fs.map FV.sv)) []
  |false=>.fail
 |some (false,[x])=>match x.gd&&Nat.blt j sz with
  |true=>.ok x.sv []
  |false=>.fail
 |_=>.fail
def loadM (P:Program)(t:TypeId)(xs:List SV)(x:SV):Res:=match x with
 | .ptr _ off=>match partM P t xs off with
   |some sv=>.ok sv []
   |none=>.fail
 | .ep _ i sz J=>match seekA xs 0 J with
   |some (st,m,sz',g)=>match Nat.beq sz sz' with
    |true=>.test (decide (i<m)) (loadA P t sz (g i) (J-st))
    |false=>.fail
   |none=>.fail
 |_=>.fail
theorem partF_len {t:TypeId}{l:List FV}{j:Nat}{ag:Bool}{fs:List FV}(h:partF P t l j=some (ag,fs)):fs=(l.drop j).take fs.length∧j+fs.length≤l.length∧aggS P t=some ag∧(ag=true→sizeS P t=some fs.length)∧(ag=false→fs.length=1):=by
 unfold partF at h
 split at h
 . rename_i ha
   split at h
   . rename_i n hn
     split at h
     . rename_i hle
       have hle':j+n≤l.length:=by simpa using hle
       obtain⟨rfl,rfl⟩:=Prod.mk.inj (Option.some.inj h)
       have hl:((l.drop j).take n).length=n:=by simp;omega
       rw[hl]
       exact⟨rfl,hle',ha,fun _=>hn,(fun e=>by cases e)⟩
     . cases h
   . cases h
 . rename_i ha
   split at h
   . rename_i x hx
     obtain⟨rfl,rfl⟩:=Prod.mk.inj (Option.some.inj h)
     rw[nth_eq] at hx
     have hlt:=(List.getElem?_eq_some_iff.1 hx)
     refine⟨?_,by simp;exact hlt.1,ha,(fun e=>by cases e),fun _=>rfl⟩
     rw[List.drop_eq_getElem_cons hlt.1];simp[hlt.2]
   . cases h
 . cases h
theorem fix_get {sz j:Nat}{l fs:List FV}(h:fs=(l.drop j).take fs.length)(hg:fs.all FV.gd=true)(hle:j+fs.length≤sz):∀ (k:Nat) (x:FV),fs[k]? = some x→(fixL sz l)[j+k]? = some x.den:=by
 intro k x hx
 have hk:=(List.getElem?_eq_some_iff.1 hx).1
 have hx':=hx
 have h2:((l.drop j).take fs.length)[k]? = some x:=by rw[← h];exact hx
 rw[List.getElem?_take,List.getElem?_drop,if_pos hk] at h2
 rw[fixL_get (by omega) h2,(FV.gd_ok (List.all_eq_true.1 hg x (List.mem_of_getElem? hx'))).1]
theorem good_loadM {t:TypeId}{x:Operand}(ho:o.op = .load t x){xs:List SV}(hx:mixP M (ev x)=some xs):(loadM P t xs (ev x)).good (OpOk P G ev M o):=by
 have hin:x∈o.op.operands:=by simp[ho,Op.operands]
 have exec:∀ (a:Act) (w:World) (v:Value),(Instr.loadAt t (a.eval x)).run P w = .ok v w→(execOp a.eval o).run P w = .ok (.value v) w:=fun a w v h=>by
  simp only[execOp,ho,Sem.run_bind,h,Result.andThen_ok,Sem.run_pure]
 unfold loadM
 split
 . rename_i n off hp
   rw[hp] at hx
   split
   . rename_i sv hpart
     refine OpOk.same fun B ρ a w he hM => ?_
     obtain⟨l,ty,hn,hl,h0,hB,hh⟩:=mixB_ok hM hx
     obtain⟨hr,hnj⟩:=run_load_m (ρ:=ρ) (w:=w) (b:=l.blk) (o:=0) hpart (mixB_cell hh)
     refine⟨sv.den ρ,fun _=>rfl,exec a w _ ?_⟩
     rw[he x hin (by rw[hp];simp),hp]
     simp only[SV.den,hl,Option.map_some,h0]
     exact hr
   . trivial
 . rename_i n i sz J hp
   rw[hp] at hx
   split
   . rename_i st m sz' g hs
     split
     . rename_i hsz
       obtain rfl:sz=sz':=Nat.eq_of_beq_eq_true hsz
       intro hi
       simp only[decide_eq_true_eq] at hi
       obtain⟨_,h1,h2,pa,pb,rfl,hst⟩:=seekA_ok hs
       rw[Nat.zero_add] at hst
       have cells:∀ (B:Bd) (ρ:Val) (w:World),MRel B ρ M w→∃ l,ρ n=some l∧l.off=0∧∀ (fs:List FV),fs=((g i).drop (J-st)).take fs.length→fs.all FV.gd=true→J-st+fs.length≤sz→∀ (k:Nat) (x:FV),fs[k]? = some x→w.cell? ⟨l.blk,i*sz+J+k,none⟩=some x.den:=by
        intro B ρ w hM
        obtain⟨l,ty,hn,hl,h0,hB,hh⟩:=mixB_ok hM hx
        refine⟨l,hl,h0,fun fs e1 e2 e3 k x hk => ?_⟩
        have hk':=(List.getElem?_eq_some_iff.1 hk).1
        have h3:=fix_get e1 e2 e3 k x hk
        rw[← mixD_part (ρ:=ρ) (a:=pa) (b:=pb) hi (by omega)] at h3
        have h4:=mixB_cell hh _ _ h3
        rw[← h4];congr 2;omega
       unfold loadA
       split
       . rename_i fs hpf
         split
         . rename_i hg
           simp only[Bool.and_eq_true,Nat.ble_eq] at hg
           obtain⟨e1,e2,e3,e4,_⟩:=partF_len hpf
           refine OpOk.same fun B ρ a w he hM => ?_
           obtain⟨l,hl,h0,hcell⟩:=cells B ρ w hM
           obtain⟨it,hit,hsz'⟩:=sizeS_info (e4 rfl)
           obtain⟨d,hu,hd⟩:=aggS_true e3
           refine⟨.agg (fs.map FV.den).toArray,fun _=>by simp only[SV.den,denL_fv],exec a w _ ?_⟩
           rw[he x hin (by rw[hp];simp),hp]
           simp only[SV.den,hl,Option.map_some,h0,Nat.zero_add]
           refine run_loadAt_mid w l.blk (i*sz+J) t _ d (fun j v hj => ?_) hu hd (by simp[hit,hsz'])
           rw[List.getElem?_map,Option.map_eq_some_iff] at hj
           obtain⟨y,hy,rfl⟩:=hj
           exact hcell fs e1 hg.1 hg.2 j y hy
         . trivial
       . rename_i y hpf
         split
         . rename_i hg
           simp only[Bool.and_eq_true,Nat.blt_eq] at hg
           obtain⟨e1,e2,e3,_,_⟩:=partF_len hpf
           refine OpOk.same fun B ρ a w he hM => ?_
           obtain⟨l,hl,h0,hcell⟩:=cells B ρ w hM
           refine⟨y.den,fun _=>(FV.sv_den ρ y).symm,exec a w _ ?_⟩
           rw[he x hin (by rw[hp];simp),hp]
           simp only[SV.den,hl,Option.map_some,h0,Nat.zero_add]
           have h3:=hcell [y] e1 (by simp[hg.1]) (by simp;omega) 0 y rfl
           simp only[Instr.loadAt,Instr.sureAddr,loadVar,Sem.run_bind,Sem.run_pure,Result.andThen_ok,aggS_run e3,Bool.false_eq_true,if_false]
           simp only[Nat.add_zero] at h3
           simp[h3]
         . trivial
       . trivial
     . trivial
   . trivial
 . trivial
def fieldAddrM (P:Program)(xs:List SV)(t:TypeId)(f:Nat)(x:SV):Res:=match fieldS P t f with
 |none=>.fail
 |some fd=>match sizeS P fd.type with
  |some (_+1)=>match x with
   | .ptr n off=>.ok (.ptr n (off+fd.offset)) []
   | .ep n i sz j=>.ok (.ep n i sz (j+fd.offset)) []
   |_=>.fail
  |_=>.fail
theorem good_fieldAddrM {t:TypeId}{x:Operand}{f:Nat}(ho:o.op = .fieldAddr t x f){xs:List SV}(hx:mixP M (ev x)=some xs):(fieldAddrM P xs t f (ev x)).good (OpOk P G ev M o):=by
 have hin:x∈o.op.operands:=by simp[ho,Op.operands]
 unfold fieldAddrM
 split
 . trivial
 . rename_i fd hf
   split
   . rename_i k hs
     split
     . rename_i n off hp
       rw[hp] at hx
       refine OpOk.same fun B ρ a w he hM => ?_
       obtain⟨l,ty,hn,hl,h0,hB,hh⟩:=mixB_ok hM hx
       refine⟨(SV.ptr n (off+fd.offset)).den ρ,fun _=>rfl,?_⟩
       simp only[execOp,ho,he x hin (by rw[hp];simp),hp,SV.den,hl,Option.map_some,Sem.run_bind,run_fieldAt_at hf hs,Result.andThen_ok,Sem.run_pure,Nat.add_assoc]
     . rename_i n i sz j hp
       rw[hp] at hx
       refine OpOk.same fun B ρ a w he hM => ?_
       obtain⟨l,ty,hn,hl,h0,hB,hh⟩:=mixB_ok hM hx
       refine⟨(SV.ep n i sz (j+fd.offset)).den ρ,fun _=>rfl,?_⟩
       simp only[execOp,ho,he x hin (by rw[hp];simp),hp,SV.den,hl,Option.map_some,Sem.run_bind,run_fieldAt_at hf hs,Result.andThen_ok,Sem.run_pure,Nat.add_assoc]
     . trivial
   . trivial
def indexAddrM (P:Program)(xs:List SV)(t:TypeId)(x ix:SV):Res:=match natS ix with
 |none=>.fail
 |some (nn,i)=>match x with
  | .ptr n off=>match P.underlying t with
    |some (.array k e)=>match sizeS P e with
     |some s=>.test (nn&&decide (i<k)) (.ok (.ep n i s off) [])
     |none=>.fail
    |_=>.fail
  |_=>.fail
theorem good_indexAddrM {t:TypeId}{x ix:Operand}(ho:o.op = .indexAddr t x ix){xs:List SV}(hx:mixP M (ev x)=some xs):(indexAddrM P xs t (ev x) (ev ix)).good (OpOk P G ev M o):=by
 have hin:x∈o.op.operands:=by simp[ho,Op.operands]
 have hin':ix∈o.op.operands:=by simp[ho,Op.operands]
 unfold indexAddrM
 split
 . trivial
 . rename_i nn i hi
   split
   . rename_i n off hp
     rw[hp] at hx
     split
     . rename_i k e hu
       split
       . rename_i s hs
         intro ht
         simp only[Bool.and_eq_true,decide_eq_true_eq] at ht
         obtain⟨hnj,kk,hk⟩:=natS_den hi ht.1
         obtain⟨ie,hie,hse⟩:=sizeS_info hs
         refine OpOk.same fun B ρ a w he hM => ?_
         obtain⟨l,ty,hn,hl,h0,hB,hh⟩:=mixB_ok hM hx
         refine⟨_,fun _=>rfl,?_⟩
         have h1:=he x hin (by rw[hp];simp)
         rw[hp] at h1
         have h2:=he ix hin' hnj
         rw[hk] at h2
         have hlt:(0:Int)≤(i:Int)∧(i:Int) < (k:Int):=by omega
         simp only[execOp,ho,h1,h2,SV.den,hl,Option.map_some,Instr.indexAt,asIntOf,Sem.run_bind,Sem.run_pure,Result.andThen_ok,run_underlying hu]
         simp only[hlt,and_self,if_true]
         simp[sizeOf,typeInfo,hie,hse,Addr.add_lit,Instr.sureAddr,Nat.add_mul,Nat.add_assoc,Nat.add_comm,Nat.add_left_comm,hlt]
       . trivial
     . trivial
   . trivial
theorem ok_nilCheckM {x:Operand}(ho:o.op = .nilCheck x){xs:List SV}(hx:mixP M (ev x)=some xs):OpOk P G ev M o (ev x) []:=by
 have hin:x∈o.op.operands:=by simp[ho,Op.operands]
 refine OpOk.same fun B ρ a w he hM=>⟨(ev x).den ρ,fun _=>rfl,?_⟩
 have key:∃ ad,(ev x).den ρ = .pointer (some ad)∧ev x ≠ .junk:=by
  unfold mixP at hx
  split at hx
  . rename_i n off hp
    obtain⟨l,ty,hn,hl,_⟩:=mixB_ok hM hx
    rw[hp];exact⟨⟨l.blk,l.off+off,none⟩,by simp only[SV.den,hl,Option.map_some],by simp⟩
  . rename_i n i sz j hp
    obtain⟨l,ty,hn,hl,_⟩:=mixB_ok hM hx
    rw[hp];exact⟨⟨l.blk,l.off+i*sz+j,none⟩,by simp only[SV.den,hl,Option.map_some],by simp⟩
  . cases hx
 obtain⟨ad,h1,h2⟩:=key
 simp only[execOp,ho,he x hin h2,h1]
 rfl
def fieldM (P:Program)(t:TypeId)(f:Nat)(xs:List SV):Res:=match fieldS P t f with
 |some fd=>match partM P fd.type xs fd.offset with
  |some sv=>.ok sv []
  |none=>.fail
 |none=>.fail
theorem good_fieldM {t:TypeId}{x:Operand}{f:Nat}(ho:o.op = .field t x f){xs:List SV}(hx:ev x = .mix xs):(fieldM P t f xs).good (OpOk P G ev M o):=by
 unfold fieldM
 split
 . rename_i fd hf
   split
   . rename_i sv hp
     refine OpOk.same fun B ρ a w he hM=>⟨sv.den ρ,fun _=>rfl,?_⟩
     obtain⟨fs,hu,hg⟩:=fieldS_info hf
     have h1:=he x (by simp[ho,Op.operands]) (by rw[hx];simp)
     rw[hx] at h1
     simp only[execOp,ho,h1,SV.den,Instr.field,Sem.run_bind,run_underlying hu,Result.andThen_ok,hg,asAgg,Sem.run_pure,(run_part_m (ρ:=ρ) (w:=w) hp).1]
   . trivial
 . trivial
def indexA (P:Program)(t:TypeId)(n sz:Nat)(g:Nat→List FV)(ix:SV):Res:=match natS ix with
 |some (nn,i)=>match P.underlying t with
  |some (.array k e)=>match sizeS P e with
   |some s=>match Nat.beq s sz&&Nat.beq k n with
    |true=>.test (nn&&decide (i<k)) (loadA P e sz (g i) 0)
    |false=>.fail
   |none=>.fail
  |_=>.fail
 |none=>.fail
theorem run_part_a {e:TypeId}{cs:List Value}{off sz:Nat}{fs l:List FV}{ag:Bool}(hpf:partF P e l 0=some (ag,fs))(hg:fs.all FV.gd=true)(hle:fs.length≤sz)(hs:sizeS P e=some sz)(hc:∀ j,j<sz→cs[off+j]? = (fixL sz l)[j]?)(hof:off+sz≤cs.length)(w:World):
  (part e cs.toArray off).run P w = .ok (aggV ag fs) w:=by
 obtain⟨e1,e2,e3,e4,e5⟩:=partF_len hpf
 obtain⟨it,hi,hsz⟩:=sizeS_info hs
 cases ag with
 |true=>
  have h4:=e4 rfl
  rw[hs] at h4
  obtain rfl:=Option.some.inj h4
  have hcs:(cs.drop off).take fs.length=fs.map FV.den:=by
   apply List.ext_getElem?
   intro j
   rw[List.getElem?_take,List.getElem?_drop,List.getElem?_map]
   split
   . rename_i hj
     rw[hc j hj]
     have:=fix_get (sz:=fs.length) (j:=0) e1 hg (by omega) j fs[j] (List.getElem?_eq_getElem hj)
     rw[Nat.zero_add] at this
     rw[this,List.getElem?_eq_getElem hj];rfl
   . rename_i hj
     rw[List.getElem?_eq_none (by omega)];rfl
  simp only[part,Sem.run_bind,aggS_run e3,Result.andThen_ok,if_true,sizeOf,typeInfo,aggV]
  rw[← hcs]
  simp[hi,hsz,List.drop_take]
 |false=>
  obtain⟨y,rfl⟩:=List.length_eq_one_iff.1 (e5 rfl)
  have h1:=fix_get (sz:=sz) (j:=0) e1 hg (by simpa using hle) 0 y rfl
  have hpos:0<sz:=by have:1≤sz:=by simpa using hle
                     omega
  have h2:=hc 0 hpos
  rw[Nat.add_zero] at h2
  rw[h1] at h2
  simp only[part,Sem.run_bind,aggS_run e3,Result.andThen_ok,Bool.false_eq_true,if_false,aggV]
  simp[h2]
theorem good_indexA {t:TypeId}{x ix:Operand}(ho:o.op = .index t x ix){n sz:Nat}{g:Nat→List FV}(hx:ev x = .arr n sz g):(indexA P t n sz g (ev ix)).good (OpOk P G ev M o):=by
 have hin:x∈o.op.operands:=by simp[ho,Op.operands]
 have hin':ix∈o.op.operands:=by simp[ho,Op.operands]
 unfold indexA
 split
 . rename_i nn i hi
   split
   . rename_i k e hu
     split
     . rename_i s hs
       split
       . rename_i hb
         simp only[Bool.and_eq_true] at hb
         obtain rfl:s=sz:=Nat.eq_of_beq_eq_true hb.1
         obtain rfl:k=n:=Nat.eq_of_beq_eq_true hb.2
         intro ht
         simp only[Bool.and_eq_true,decide_eq_true_eq] at ht
         obtain⟨hnj,kk,hk⟩:=natS_den hi ht.1
         obtain⟨ie,hie,hse⟩:=sizeS_info hs
         have hmul:(i+1)*s≤k*s:=Nat.mul_le_mul_right _ ht.2
         rw[Nat.succ_mul] at hmul
         have run:∀ (ρ:Val) (a:Act) (w:World) (fs:List FV) (ag:Bool),(∀ x∈o.op.operands,ev x ≠ .junk→a.eval x=(ev x).den ρ)→partF P e (g i) 0=some (ag,fs)→fs.all FV.gd=true→fs.length≤s→(execOp a.eval o).run P w = .ok (.value (aggV ag fs)) w:=by
          intro ρ a w fs ag he hpf hg hle
          have h1:=he x hin (by rw[hx];simp)
          rw[hx] at h1
          have h2:=he ix hin' hnj
          rw[hk] at h2
          have hlt:(0:Int)≤(i:Int)∧(i:Int) < (k:Int):=by omega
          have hp:=run_part_a (P:=P) (e:=e) (cs:=arrL k s g) (off:=i*s) hpf hg hle hs (fun j hj=>arrL_get ht.2 hj) (by rw[arrL_length];omega) w
          simp only[execOp,ho,h1,h2,SV.den,Instr.index,asIntOf,Sem.run_bind,Sem.run_pure,Result.andThen_ok,run_underlying hu]
          simp only[hlt,and_self,if_true]
          simp[sizeOf,typeInfo,hie,hse,asAgg,hp,hlt]
         unfold loadA
         split
         . rename_i fs hpf
           split
           . rename_i hg
             simp only[Bool.and_eq_true,Nat.ble_eq,Nat.zero_add] at hg
             exact OpOk.same fun B ρ a w he hM=>⟨_,fun _=>by simp only[SV.den,denL_fv];rfl,run ρ a w fs true he hpf hg.1 hg.2⟩
           . trivial
         . rename_i y hpf
           split
           . rename_i hg
             simp only[Bool.and_eq_true,Nat.blt_eq] at hg
             exact OpOk.same fun B ρ a w he hM=>⟨_,fun _=>(FV.sv_den ρ y).symm,run ρ a w [y] false he hpf (by simp[hg.1]) (by simp;omega)⟩
           . trivial
         . trivial
       . trivial
     . trivial
   . trivial
 . trivial
theorem ok_newmix {xs:List SV}{e:TypeId}(hsc:scL (fun n=>decide (n<M.length)) xs=true)
  (h:∀ (B:Bd) (ρ:Val) (a:Act) (w:World),(∀ x∈o.op.operands,ev x ≠ .junk→a.eval x=(ev x).den ρ)→MRel B ρ M w→(execOp a.eval o).run P w = .ok (.value (.pointer (some ⟨w.heap.size,0,none⟩))) (w.alloc (.cells (mixD ρ xs).toArray e))):OpOk P G ev M o (.ptr M.length 0) [.mix e xs]:=by
 intro B ρ a w next Q hx hM hGw hn
 refine wp_of_run (h B ρ a w hx hM) (hn (setρ ρ M.length (some ⟨w.heap.size,0,0,none,.inr rfl⟩)) _ _ (fun _ => ?_) (setρ_ext fun n hn' => ?_) ((Below.refl _ _).alloc (Nat.le_refl _) _) (new_one ?_ ?_ (fun k hk=>(hM.zhi k hk).1) (by simp)))
 . simp[SV.den,setρ_self]
 . intro e;subst e;exact hn' ⟨Nat.le_refl _,by simp⟩
 . refine⟨⟨w.heap.size,0,0,none,.inr rfl⟩,setρ_self ..,rfl,Or.inr hM.size,?_⟩
   rw[heap_alloc,if_pos rfl,denL_congr (setρ_lt) xs hsc]
 . intro _ l hl
   rw[setρ_self] at hl;obtain rfl:=Option.some.inj hl;exact Nat.le_refl _
theorem run_newMix (w:World)(cs:List Value)(e:TypeId){v:Value}(hv:v.cells=cs.toArray):(newVar e v).run P w = .ok ⟨w.heap.size,0,none⟩ (w.alloc (.cells cs.toArray e)):=by
 simp only[newVar,newRow,newObj,hv,Sem.run_bind]
 rfl
theorem ok_allocM {e:TypeId}(ho:o.op = .alloc e){xs:List SV}(h:MixOk P e xs):OpOk P G ev M o (.ptr M.length 0) [.mix e xs]:=by
 obtain⟨⟨it,v,hi,hv,hc⟩,hsc⟩:=h
 refine ok_newmix (scL_mono (fun n hn=>by cases hn) _ hsc) fun B ρ a w _ _ => ?_
 have h0:(zeroValue e).run P w = .ok v w:=by simp[zeroValue,typeInfo,hi,hv]
 simp only[execOp,ho,Instr.alloc,Sem.run_bind,h0,Result.andThen_ok,run_newMix w (mixD ρ xs) e (hc ρ),Sem.run_pure]
def boxM (M:List Blk)(e:TypeId)(xs:List SV):Res:=match scL (fun n=>decide (n<M.length)) xs with
 |true=>.ok (.ptr M.length 0) [.mix e xs]
 |false=>.fail
theorem good_boxM {e:TypeId}{x:Operand}(ho:o.op = .box e x){xs:List SV}(hx:ev x = .mix xs):(boxM M e xs).good (OpOk P G ev M o):=by
 unfold boxM
 split
 . rename_i hsc
   refine ok_newmix hsc fun B ρ a w he _ => ?_
   have h1:=he x (by simp[ho,Op.operands]) (by rw[hx];simp)
   rw[hx] at h1
   simp only[execOp,ho,Instr.box,h1,Sem.run_bind,run_newMix w (mixD ρ xs) e (v:=(SV.mix xs).den ρ) rfl,Result.andThen_ok,Sem.run_pure]
 . trivial
def itemsS:SV→Option (List SV)
 | .mix xs=>some xs
 | .arr n sz g=>some [.arr n sz g]
 |x=>match cellsS x with
  |some cs=>match plL cs with
   |true=>some cs
   |false=>none
  |none=>none
theorem itemsS_den {ρ:Val}{x:SV}{xs:List SV}(h:itemsS x=some xs):(x.den ρ).cells=(mixD ρ xs).toArray∧x ≠ .junk:=by
 unfold itemsS at h
 split at h
 . obtain rfl:=Option.some.inj h;exact⟨rfl,by simp⟩
 . rename_i n sz g;obtain rfl:=Option.some.inj h
   exact⟨by simp[SV.den,Value.cells,mixD,mixL,denL,itemL],by simp⟩
 . split at h
   . rename_i cs hcs
     split at h
     . rename_i hp
       obtain rfl:=Option.some.inj h
       obtain⟨h1,h2⟩:=cellsS_den (ρ:=ρ) hcs
       exact⟨by rw[plL_mix hp];exact h1,h2⟩
     . cases h
   . cases h
def fillM (place:Nat→Option (Nat×Nat))(xs:List SV):List (Nat×SV)→Option (List SV)
 |[]=>some xs
 |(i,v)::rest=>match place i,itemsS v with
  |some (off,n),some cs=>match splitM xs off with
   |some (a,r)=>match splitM r n,Nat.beq (sumN cs) n with
    |some (_,b),true=>fillM place (a++cs++b) rest
    |_,_=>none
   |none=>none
  |_,_=>none
theorem fillM_of {ρ:Val}{place:Nat→Option (Nat×Nat)}:∀ (parts:List (Nat×SV)) (xs out:List SV),fillM place xs parts=some out→
  Instr.fill place (mixD ρ xs).toArray (parts.map fun p=>(p.1,p.2.den ρ))=some (mixD ρ out).toArray
 |[],xs,out,h=>by obtain rfl:=Option.some.inj h;rfl
 |(i,v)::rest,xs,out,h=>by
  simp only[fillM] at h
  split at h
  . rename_i off n cs hp hc
    split at h
    . rename_i a r h1
      split at h
      . rename_i m b h2 h3
        obtain⟨rfl,ha⟩:=splitM_ok h1
        obtain⟨rfl,hm⟩:=splitM_ok h2
        have h3':sumN cs=n:=Nat.eq_of_beq_eq_true h3
        have ih:=fillM_of (ρ:=ρ) rest _ out h
        have e0:(mixD ρ (a++(m++b))).length=off+(n+sumN b):=by rw[mixD_append,mixD_append,List.length_append,List.length_append,mixD_length,mixD_length,mixD_length];omega
        simp only[List.map_cons,Instr.fill,hp,(itemsS_den (ρ:=ρ) hc).1]
        have e3:((mixD ρ cs).toArray).size=n:=by rw[List.size_toArray,mixD_length,h3']
        have e4:((mixD ρ (a++(m++b))).toArray).size=off+(n+sumN b):=by rw[List.size_toArray,e0]
        rw[if_neg (by rw[e3,e4];simp)]
        rw[← ih]
        congr 1
        apply Array.ext'
        have hz:((mixD ρ cs).toArray.zipIdx).toList=(mixD ρ cs).zipIdx 0:=by simp
        have e2:off+0+(mixD ρ cs).length≤((mixD ρ (a++(m++b))).toArray).size:=by rw[List.size_toArray,e0,mixD_length];omega
        rw[← Array.foldl_toList,hz,foldl_set off (mixD ρ cs) 0 _ e2]
        simp only[Nat.add_zero,mixD_length,h3']
        rw[mixD_append,mixD_append,mixD_append,mixD_append,List.take_append_of_le_length (by rw[mixD_length];omega),List.take_of_length_le (by rw[mixD_length];omega),← List.append_assoc (mixD ρ a),List.drop_append_of_le_length (by simp only[List.length_append,mixD_length];omega),List.drop_eq_nil_of_le (by simp only[List.length_append,mixD_length];omega),List.nil_append]
      . cases h
    . cases h
  . cases h
def buildM (P:Program)(t:TypeId)(z:List SV)(parts:List (Nat×SV)):Res:=match njP parts with
 |true=>match P.underlying t with
  |some (.struct fs)=>match placesS P fs.toList with
   |some l=>match fillM (nth l) z parts with
    |some out=>.ok (.mix out) []
    |none=>.fail
   |none=>.fail
  |some (.array _ e)=>match parts,sizeS P e with
   |[],some _=>.ok (.mix z) []
   |_,_=>.fail
  |_=>.fail
 |false=>.fail
theorem good_buildM {t:TypeId}{parts:Array (Nat×Operand)}(ho:o.op = .build t parts){z:List SV}(h:MixOk P t z):(buildM P t z (evP ev parts.toList)).good (OpOk P G ev M o):=by
 obtain⟨⟨it,v,hi,hv,hc⟩,hsc⟩:=h
 unfold buildM
 split
 . rename_i hnj
   split
   . rename_i fs hu
     split
     . rename_i l hl
       split
       . rename_i out hf
         refine OpOk.same fun B ρ a w hx _=>⟨.agg (mixD ρ out).toArray,fun _=>rfl,?_⟩
         have he:=evP_eval (a:=a) (ρ:=ρ) parts.toList (fun p hp=>hx p.2 (by simp[ho,Op.operands];exact⟨p.1,by simpa using hp⟩)) hnj
         have hb':P.built t ((evP ev parts.toList).map fun p=>(p.1,p.2.den ρ))=some (mixD ρ out).toArray:=by
          unfold Program.built
          simp only[hi,hu,hv,placesS_mapM fs.toList l hl,hc ρ]
          rw[← fillM_of _ z out hf]
          congr 1
          funext i;simp[nth_eq]
         rw[← he] at hb'
         have hr:=run_build (P:=P) w t (parts.map fun(i,x)=>(i,a.eval x)) _ (by simpa using hb')
         simp only[execOp,ho,Sem.run_bind,hr,Result.andThen_ok,Sem.run_pure]
       . trivial
     . trivial
   . rename_i k e hu
     split
     . rename_i s hps hs
       refine OpOk.same fun B ρ a w hx _=>⟨.agg (mixD ρ z).toArray,fun _=>rfl,?_⟩
       obtain⟨ie,hie,hse⟩:=sizeS_info hs
       have hp:parts = #[]:=by
        have:(evP ev parts.toList).length=parts.toList.length:=by
         generalize parts.toList=l
         induction l with
         |nil=>rfl
         |cons x l ih=>simp[evP,ih]
        rw[hps] at this
        apply Array.ext'
        exact List.length_eq_zero_iff.1 this.symm
       subst hp
       have hb':P.built t []=some (mixD ρ z).toArray:=by
        unfold Program.built
        simp[hi,hu,hv,hie,hc ρ,mixD,Instr.fill]
       have hr:=run_build (P:=P) w t #[] _ (by simpa using hb')
       simp only[execOp,ho,Sem.run_bind,hr,Result.andThen_ok,Sem.run_pure,Array.map_empty]
     . trivial
   . trivial
 . trivial
def eqF (ks:List CK)(l m:List FV):Option Bool:=cellsEqV ks (fixL ks.length l) (fixL ks.length m)
def eqDef (n:Nat)(ks:List CK)(g h:Nat→List FV):Bool:=decide (∀ i,i<n→(eqF ks (g i) (h i)).isSome=true)
def eqArr (n:Nat)(ks:List CK)(g h:Nat→List FV):Bool:=decide (∀ i,i<n→eqF ks (g i) (h i)=some true)
def eqItems:List (Nat×List CK)→List SV→List SV→Option (Bool×Bool)
 |[],[],[]=>some (true,true)
 |(n,ks)::rs,x::xs,y::ys=>match x,y with
  | .arr m sz g,.arr m' sz' h=>match Nat.beq m n&&Nat.beq m' n&&Nat.beq sz ks.length&&Nat.beq sz' ks.length,eqItems rs xs ys with
    |true,some (t,b)=>some (eqDef n ks g h&&t,eqArr n ks g h&&b)
    |_,_=>none
  |x,y=>match n,ks with
   |1,[k]=>match plS x&&plS y,cellEqS k x y,eqItems rs xs ys with
    |true,some a,some (t,b)=>some (t,a&&b)
    |_,_,_=>none
   |_,_=>none
 |_,_,_=>none
theorem cellsEqV_append:∀ {ks ls:List CK} {xs ys xs' ys':List Value} {a b:Bool},cellsEqV ks xs ys=some a→cellsEqV ls xs' ys'=some b→cellsEqV (ks++ls) (xs++xs') (ys++ys')=some (a&&b)
 |[],ls,[],[],xs',ys',a,b,h,h'=>by
  obtain rfl:=Option.some.inj h
  simpa using h'
 |k::ks,ls,x::xs,y::ys,xs',ys',a,b,h,h'=>by
  simp only[cellsEqV] at h
  split at h
  . rename_i a1 a2 h1 h2
    obtain rfl:=Option.some.inj h
    simp only[List.cons_append,cellsEqV,h1,cellsEqV_append h2 h',Bool.and_assoc]
  . cases h
 |[],_,_::_,_,_,_,_,_,h,_=>by simp[cellsEqV] at h
 |[],_,[],_::_,_,_,_,_,h,_=>by simp[cellsEqV] at h
 |_::_,_,[],_,_,_,_,_,h,_=>by simp[cellsEqV] at h
 |_::_,_,_::_,[],_,_,_,_,h,_=>by simp[cellsEqV] at h
theorem eqArr_ok {ks:List CK}{g h:Nat→List FV}:∀ (n:Nat),eqDef n ks g h=true→cellsEqV (List.replicate n ks).flatten (arrL n ks.length g) (arrL n ks.length h)=some (eqArr n ks g h):=by
 intro n
 induction n with
 |zero=>intro _;simp[arrL,cellsEqV,eqArr]
 |succ n ih=>
  intro hd
  simp only[eqDef,decide_eq_true_eq] at hd
  have h1:=ih (by simp only[eqDef,decide_eq_true_eq];exact fun i hi=>hd i (by omega))
  obtain⟨b,hb⟩:=Option.isSome_iff_exists.1 (hd n (Nat.lt_succ_self n))
  have e:(List.replicate (n+1) ks).flatten=(List.replicate n ks).flatten++ks:=by
   rw[List.replicate_succ',List.flatten_append];simp
  rw[e,arrL_succ,arrL_succ,cellsEqV_append h1 hb]
  congr 1
  rw[Bool.eq_iff_iff,Bool.and_eq_true]
  simp only[eqArr,decide_eq_true_eq]
  refine⟨fun⟨h2,h3⟩ i hi => ?_,fun h2=>⟨fun i hi=>h2 i (by omega),?_⟩⟩
  . rcases Nat.lt_or_ge i n with hlt|hge
    . exact h2 i hlt
    . obtain rfl:i=n:=by omega
      rw[hb,h3]
  . have:=h2 n (Nat.lt_succ_self n)
    rw[hb] at this;exact Option.some.inj this
theorem eqItems_ok {ρ:Val}:∀ {rs:List (Nat×List CK)} {xs ys:List SV} {t b:Bool},eqItems rs xs ys=some (t,b)→t=true→cellsEqV (runsF rs) (mixD ρ xs) (mixD ρ ys)=some b
 |[],[],[],t,b,h,_=>by
  simp only[eqItems,Option.some.injEq,Prod.mk.injEq] at h
  obtain⟨_,rfl⟩:=h
  rfl
 |(n,ks)::rs,x::xs,y::ys,t,b,h,ht=>by
  simp only[eqItems] at h
  have er:runsF ((n,ks)::rs)=(List.replicate n ks).flatten++runsF rs:=rfl
  rw[er,mixD_cons,mixD_cons]
  split at h
  . rename_i m sz g m' sz' h'
    split at h
    . rename_i t2 b2 hc hi
      simp only[Option.some.injEq,Prod.mk.injEq] at h
      obtain⟨rfl,rfl⟩:=h
      simp only[Bool.and_eq_true] at hc ht
      obtain rfl:m=n:=Nat.eq_of_beq_eq_true hc.1.1.1
      obtain rfl:m'=m:=Nat.eq_of_beq_eq_true hc.1.1.2
      obtain rfl:sz=ks.length:=Nat.eq_of_beq_eq_true hc.1.2
      obtain rfl:sz'=ks.length:=Nat.eq_of_beq_eq_true hc.2
      exact cellsEqV_append (eqArr_ok _ ht.1) (eqItems_ok hi ht.2)
    . cases h
  . split at h
    . rename_i k
      split at h
      . rename_i a t2 b2 hp hk hi
        simp only[Option.some.injEq,Prod.mk.injEq] at h
        obtain⟨rfl,rfl⟩:=h
        simp only[Bool.and_eq_true] at hp
        rw[plS_item hp.1,plS_item hp.2]
        have h1:cellsEqV (List.replicate 1 [k]).flatten [x.den ρ] [y.den ρ]=some a:=by
          simp[cellsEqV,cellEqS_den hk ρ]
        exact cellsEqV_append h1 (eqItems_ok hi ht)
      . cases h
    . cases h
 |[],[],_::_,_,_,h,_=>by simp[eqItems] at h
 |[],_::_,_,_,_,h,_=>by simp[eqItems] at h
 |_::_,[],_,_,_,h,_=>by simp[eqItems] at h
 |_::_,_::_,[],_,_,h,_=>by simp[eqItems] at h
def eqMixS (E:List (TypeId×List (Nat×List CK)))(t:TypeId)(op:BinOp)(xs ys:List SV):Res:=match findX E t with
 |some rs=>match eqItems rs xs ys with
  |some (tt,b)=>match op with
   | .eql=>.test tt (.ok (.bool b) [])
   | .neq=>.test tt (.ok (.bool (!b)) [])
   |_=>.fail
  |none=>.fail
 |none=>.fail
theorem good_eqMix {E:List (TypeId×List (Nat×List CK))}(hE:∀ p∈E,EqOk P p.1 (runsF p.2)){op:BinOp}{t yt:TypeId}{x y:Operand}(ho:o.op = .binOp op t x y yt){xs ys:List SV}(hx:ev x = .mix xs)(hy:ev y = .mix ys):(eqMixS E t op xs ys).good (OpOk P G ev M o):=by
 have hin:x∈o.op.operands:=by simp[ho,Op.operands]
 have hin':y∈o.op.operands:=by simp[ho,Op.operands]
 unfold eqMixS
 split
 . rename_i rs hf
   split
   . rename_i tt b hi
     have hq:=hE _ (findX_mem _ _ _ hf)
     have ex:∀ (op:BinOp) (r:Bool),(∀ (ρ:Val) (w:World),tt=true→(binOp op t (.agg (mixD ρ xs).toArray) (.agg (mixD ρ ys).toArray)).run P w = .ok (.bool r) w)→o.op = .binOp op t x y yt→tt=true→OpOk P G ev M o (.bool r) []:=fun op r hr ho ht=>by
        refine OpOk.same fun B ρ a w he hM=>⟨.bool r,fun _=>rfl,?_⟩
        have h1:=he x hin (by rw[hx];simp)
        have h2:=he y hin' (by rw[hy];simp)
        rw[hx] at h1;rw[hy] at h2
        have h3:=(hq.2 (mixD ρ xs) (mixD ρ ys) b w (eqItems_ok hi ht)).1 op x y
        simp only[execOp,ho,h1,h2,SV.den,Sem.run_bind,h3,Result.andThen_ok,hr ρ w ht,Sem.run_pure]
     split
     . intro ht
       exact ex .eql b (fun ρ w ht=>by
        have:=(hq.2 (mixD ρ xs) (mixD ρ ys) b w (eqItems_ok hi ht)).2.1
        show(do pure (.bool (← Op.equal t _ _)):Sem Value).run P w=_
        simp only[Sem.run_bind,this,Result.andThen_ok,Sem.run_pure]) ho ht
     . intro ht
       exact ex .neq (!b) (fun ρ w ht=>by
        have:=(hq.2 (mixD ρ xs) (mixD ρ ys) b w (eqItems_ok hi ht)).2.1
        show(do pure (.bool (!(← Op.equal t _ _))):Sem Value).run P w=_
        simp only[Sem.run_bind,this,Result.andThen_ok,Sem.run_pure]) ho ht
     . trivial
   . trivial
 . trivial
def lenB:Option Blk→Option Nat
 |some (.ro _ m _)=>some m
 |some (.fz _ m _)=>some m
 |some (.own _ _ m _)=>some m
 |_=>none
theorem len_cap {B:Bd}{ρ:Val}{n m:Nat}{w:World}{b:Blk}(hb:b.ok B ρ n w)(h:lenB (some b)=some m):(ρ n=none→m=0)∧∀ l,ρ n=some l→m≤l.cap:=by
 cases b with
 |ro sz m' g=>obtain rfl:=Option.some.inj h;obtain⟨_,_,hb⟩:=hb;exact⟨hb.1,fun l hl=>(hb.2 l hl).1⟩
 |fz sz m' g=>obtain rfl:=Option.some.inj h;obtain⟨_,_,hb⟩:=hb;exact⟨hb.1,fun l hl=>(hb.2 l hl).1⟩
 |own ty sz m' g=>
  obtain rfl:=Option.some.inj h
  obtain⟨_,_,hb⟩:=hb
  rcases hb.2 with⟨h1,h2⟩ | ⟨l,cur,hl,_,_,_,hm,_⟩
  . exact⟨(fun _=>h2),(fun l hl=>by rw[h1] at hl;cases hl)⟩
  . exact⟨(fun h=>by rw[h] at hl;cases hl),(fun l' hl'=>by rw[hl] at hl';obtain rfl:=Option.some.inj hl';exact hm)⟩
 |_=>cases h
def nilSl (P:Program)(M:List Blk)(t:TypeId)(op:BinOp)(x y:SV):Option Res:=match op,P.underlying t,x,y with
 | .eql,some (.slice _),.sl n _ off len,.val (.slice none 0 0)=>match lenB (nth M n) with
   |some m=>some (.test (decide (off+len≤m)) (.split (decide (0<len)) (.ok .ff []) (.ok (.nilb n) [])))
   |none=>match celB (nth M n) with
    |some _=>some (.ok .ff [])
    |none=>none
 | .eql,some (.slice _),.val (.slice none 0 0),.val (.slice none 0 0)=>some (.ok .tt [])
 |_,_,_,_=>none
theorem run_eq_nil {t e:TypeId}(hu:P.underlying t=some (.slice e))(x y:Operand)(a:Option Addr)(len cap:Nat)(w:World):
  (do eqGuard .eql t x y (.slice a len cap) (.slice none 0 0);binOp .eql t (.slice a len cap) (.slice none 0 0):Sem Value).run P w = .ok (.bool a.isNone) w:=by
 have h:∀ d,(Op.equalIn (d+1) t (.slice a len cap) (.slice none 0 0)).run P w = .ok a.isNone w:=fun d=>by
  cases a<;>simp[Op.equalIn,run_underlying hu]
 have e:binOp .eql t (.slice a len cap) (.slice none 0 0)=(do pure (.bool (← Op.equal t (.slice a len cap) (.slice none 0 0)))):=rfl
 have g:(eqGuard .eql t x y (.slice a len cap) (.slice none 0 0)).run P w = .ok () w:=rfl
 rw[Sem.run_bind,g,e]
 simp only[Result.andThen_ok,Sem.run_bind]
 rw[show Op.equal t (.slice a len cap) (.slice none 0 0)=Op.equalIn (9999+1) t (.slice a len cap) (.slice none 0 0) from rfl,h 9999]
 rfl
theorem good_nilSl {op:BinOp}{t yt:TypeId}{x y:Operand}(ho:o.op = .binOp op t x y yt){r:Res}(h:nilSl P M t op (ev x) (ev y)=some r):r.good (OpOk P G ev M o):=by
 have hin:x∈o.op.operands:=by simp[ho,Op.operands]
 have hin':y∈o.op.operands:=by simp[ho,Op.operands]
 unfold nilSl at h
 split at h
 . rename_i e n sz off len hu hx hy
   split at h
   . rename_i m hm
     obtain rfl:=Option.some.inj h
     intro h1
     simp only[decide_eq_true_eq] at h1
     obtain⟨b,hb⟩:∃ b,M[n]? = some b:=by
        cases hq:M[n]? with
        |none=>rw[nth_eq,hq] at hm;cases hm
        |some b=>exact⟨b,rfl⟩
     have hm':lenB (some b)=some m:=by rw[nth_eq,hb] at hm;exact hm
     have run:∀ (ρ:Val) (a:Act) (w:World),(∀ x∈o.op.operands,ev x ≠ .junk→a.eval x=(ev x).den ρ)→(execOp a.eval o).run P w = .ok (.value (.bool (ρ n).isNone)) w:=by
        intro ρ a w he
        have e1:=he x hin (by rw[hx];simp)
        have e2:=he y hin' (by rw[hy];simp)
        rw[hx] at e1;rw[hy] at e2
        have h2:=run_eq_nil hu x y ((ρ n).map fun l=>(⟨l.blk,l.off+off*sz,l.sp0 len⟩:Addr)) len (((ρ n).map fun l=>l.cap).getD 0-off) w
        rw[Sem.run_bind] at h2
        simp only[execOp,ho,e1,e2,SV.den,Sem.run_bind]
        cases hg:(eqGuard .eql t x y (Value.slice ((ρ n).map fun l=>(⟨l.blk,l.off+off*sz,l.sp0 len⟩:Addr)) len (((ρ n).map fun l=>l.cap).getD 0-off)) (.slice none 0 0)).run P w with
        |ok u w1=>
         rw[hg] at h2
         simp only[Result.andThen_ok] at h2 ⊢
         rw[h2]
         simp
        |_=>rw[hg] at h2;cases h2
     refine⟨fun hlen => ?_,fun hlen => ?_⟩
     . simp only[decide_eq_true_eq] at hlen
       refine OpOk.same fun B ρ a w he hM=>⟨.bool false,fun _=>rfl,?_⟩
       rw[run ρ a w he]
       have:=(len_cap (hM.ok n b hb) hm').1
       cases hl:ρ n with
       |none=>have:=this hl;omega
       |some l=>rfl
     . exact OpOk.same fun B ρ a w he hM=>⟨_,fun _=>rfl,run ρ a w he⟩
   . split at h
     . rename_i ys hc
       obtain rfl:=Option.some.inj h
       refine OpOk.same fun B ρ a w he hM=>⟨.bool false,fun _=>rfl,?_⟩
       obtain⟨l,ty,hl,_,_⟩:=celB_ok hM hc
       have e1:=he x hin (by rw[hx];simp)
       have e2:=he y hin' (by rw[hy];simp)
       rw[hx] at e1;rw[hy] at e2
       have h2:=run_eq_nil hu x y (some ⟨l.blk,l.off+off*sz,l.sp0 len⟩) len (l.cap-off) w
       rw[Sem.run_bind] at h2
       simp only[execOp,ho,e1,e2,SV.den,hl,Option.map_some,Option.getD_some,Sem.run_bind]
       cases hg:(eqGuard .eql t x y (Value.slice (some ⟨l.blk,l.off+off*sz,l.sp0 len⟩) len (l.cap-off)) (.slice none 0 0)).run P w with
       |ok u w1=>
        rw[hg] at h2
        simp only[Result.andThen_ok] at h2 ⊢
        rw[h2]
        rfl
       |_=>rw[hg] at h2;cases h2
     . cases h
 . rename_i e hu hx hy
   obtain rfl:=Option.some.inj h
   refine OpOk.same fun B ρ a w he hM=>⟨.bool true,fun _=>rfl,?_⟩
   have e1:=he x hin (by rw[hx];simp)
   have e2:=he y hin' (by rw[hy];simp)
   rw[hx] at e1;rw[hy] at e2
   have h2:=run_eq_nil hu x y none 0 0 w
   rw[Sem.run_bind] at h2
   simp only[execOp,ho,e1,e2,SV.den,Sem.run_bind]
   cases hg:(eqGuard .eql t x y (Value.slice none 0 0) (.slice none 0 0)).run P w with
   |ok u w1=>
    rw[hg] at h2
    simp only[Result.andThen_ok] at h2 ⊢
    rw[h2]
    rfl
   |_=>rw[hg] at h2;cases h2
 . cases h
def txtG (s:ByteArray):Nat→List FV:=fun i=>[.int .u8 ((s.data.toList.getD i 0).toNat:Int)]
def strB (P:Program)(M:List Blk)(src dst:TypeId)(x:SV):Option Res:=match P.underlying src,P.underlying dst,x with
 |some .string,some (.slice e),.val (.string s)=>match P.underlying e,sizeS P e with
  |some (.int .u8),some 1=>some (.ok (.sl M.length 1 0 s.size) [.fz 1 s.size (txtG s)])
  |_,_=>none
 |_,_,_=>none
theorem good_strB {src dst:TypeId}{x:Operand}(ho:o.op = .convert src dst x){r:Res}(h:strB P M src dst (ev x)=some r):r.good (OpOk P G ev M o):=by
 have hin:x∈o.op.operands:=by simp[ho,Op.operands]
 unfold strB at h
 split at h
 . rename_i e s hs hd hx
   split at h
   . rename_i he _
     obtain rfl:=Option.some.inj h
     intro B ρ a w next Q hev hM hGw hn
     have h1:=hev x hin (by rw[hx];simp)
     rw[hx] at h1
     have hr:=Lib.run_convert_string_bytes (P:=P) w src dst e s hs hd he
     have hcap:s.size≤grownCap w s.size 0 e:=grownCap_ge ..
     have hrun:(execOp a.eval o).run P w = .ok (.value (.slice (some ⟨w.heap.size,0,none⟩) s.size (grownCap w s.size 0 e))) (Lib.bytesWorld w e s):=by
        simp only[execOp,ho,h1,SV.den,Sem.run_bind,hr,Result.andThen_ok,Sem.run_pure]
     let ρ':Val:=⟨fun n=>if n=M.length then some ⟨w.heap.size,0,grownCap w s.size 0 e,none,.inr rfl⟩ else ρ n,fun k=>ρ.z k∨k=w.heap.size⟩
     have hm:ρ' M.length=some ⟨w.heap.size,0,grownCap w s.size 0 e,none,.inr rfl⟩:=by simp[ρ']
     have hbel:Below w.heap.size w (Lib.bytesWorld w e s):=⟨rfl,rfl,rfl,by rw[Lib.bytesWorld_size];omega,fun k hk=>Lib.bytesWorld_at_old w e s k hk⟩
     have hone:∀ (k:Nat) (b:Blk),([Blk.fz 1 s.size (txtG s)]:List Blk)[k]? = some b→k=0∧b = .fz 1 s.size (txtG s):=fun k b hb=>by
        cases k with
        |zero=>exact⟨rfl,by simpa using hb.symm⟩
        |succ k=>simp at hb
     refine wp_of_run hrun (hn ρ' _ _ (fun _ => ?_) ⟨fun n hn' => ?_,fun _ h=>.inl h,fun k hk=>hk.imp_right fun e=>by omega⟩ hbel ⟨fun k b hb => ?_,fun k b l hb ho' => ?_,fun i j b c l k _ hb _ ho' => ?_,fun k b l hb ho' => ?_,fun k hk => ?_,fun k hk hl => ?_⟩)
     . simp only[SV.den,hm,Option.map_some,Nat.zero_mul,Nat.add_zero,Option.getD_some,Nat.sub_zero,Loc.sp0_none]
     . show(if n=M.length then _ else ρ n)=ρ n
       rw[if_neg fun e=>hn' ⟨by omega,by simp[e]⟩]
     . obtain⟨rfl,rfl⟩:=hone k b hb
       refine⟨txtG s,fun i hi=>RepL.refl rfl,fun hn=>(by rw[Nat.add_zero,hm] at hn;cases hn),fun l hl => ?_⟩
       rw[Nat.add_zero,hm] at hl
       obtain rfl:=Option.some.inj hl
       refine⟨hcap,fun _=>.inr rfl,fun i hi=>⟨⟨rfl,fun y hy => ?_⟩,fun j y hy => ?_⟩⟩
       . simp only[txtG,List.mem_singleton] at hy;subst hy;rfl
       . cases j with
         |zero=>
          simp only[txtG,List.getElem?_cons_zero,Option.some.injEq] at hy
          subst hy
          have:=Lib.bytesWorld_cell w e s i hi
          simp only[FV.den,Nat.mul_one,Nat.add_zero,Nat.zero_add]
          exact this
         |succ j=>simp[txtG] at hy
     . obtain⟨rfl,rfl⟩:=hone k b hb;cases ho'
     . obtain⟨rfl,rfl⟩:=hone i b hb;cases ho'
     . obtain⟨rfl,rfl⟩:=hone k b hb;cases ho'
     . rw[Lib.bytesWorld_size]
       rcases hk with hk|rfl
       . have:=(hM.zhi k hk).1;omega
       . omega
     . rcases hk with hk|rfl
       . have:=(hM.zhi k hk).1;omega
       . exact⟨_,_,_,Lib.bytesWorld_at_new w e s⟩
   . cases h
 . cases h
end
end Go.Sx
namespace Go.Sx
open Go.RowKit Go.Proofs.YtfgkhenhlpoheaaGreat
section
variable {P:Program}{G:World→Prop}{ev:Operand→SV}{M:List Blk}{o:Oper}
def loS (ev:Operand→SV):Option Operand→Option (Bool×Nat)
 |none=>some (true,0)
 |some x=>natS (ev x)
def hiS (ev:Operand→SV)(len:Nat):Option Operand→Option (Bool×Nat)
 |none=>some (true,len)
 |some x=>natS (ev x)
def sliceS (P:Program)(M:List Blk)(t:TypeId)(ev:Operand→SV)(x:SV)(lo hi:Option Operand):Res:=match P.underlying t with
 |some (.slice e)=>match sizeS P e,x with
  |some s,.sl n sz off len=>match loS ev lo,hiS ev len hi,lenB (nth M n),Nat.beq sz s with
   |some (b1,l),some (b2,h),some m,true=>.test (b1&&(b2&&(decide (l≤h)&&decide (h≤len)))) (.test (decide (off+len≤m)) (.split (decide (l<len)) (.ok (.sl n sz (off+l) (h-l)) []) (.ok (.sl M.length sz 0 0) [.ro sz 0 (fun _=>[])])))
   |_,_,_,_=>.fail
  |_,_=>.fail
 |_=>.fail
theorem run_bound {v:Value}{k:IntKind}{i y:Nat}(c:BoundsCode)(w:World)(hv:v = .int k i)(h:i≤y):(Instr.sliceBound v y c).run P w = .ok i w:=by
 have hh:(0:Int)≤(i:Int)∧(i:Int)≤(y:Int):=by omega
 simp[Instr.sliceBound,hv,asIntOf,hh,h]
theorem run_bounds {a:Act}{ρ:Val}{lo hi:Option Operand}{l h len cap:Nat}{b1 b2:Bool}(he:∀ x∈lo.toList++hi.toList,ev x ≠ .junk→a.eval x=(ev x).den ρ)(hl:loS ev lo=some (b1,l))(hh:hiS ev len hi=some (b2,h))(h1:b1=true)(h2:b2=true)
  (hlh:l≤h) (hlen:h≤len) (hcap:len≤cap) (w:World):(Instr.sliceBounds true len cap (lo.map a.eval) (hi.map a.eval) none).run P w = .ok (l,h,cap) w:=by
 have low:∀ (c:BoundsCode),(match lo.map a.eval with|some v=>Instr.sliceBound v h c|none=>(Pure.pure 0:Sem Nat)).run P w = .ok l w:=by
  intro c
  cases lo with
  |none=>simp only[loS,Option.some.injEq,Prod.mk.injEq] at hl;rw[← hl.2];rfl
  |some x=>
   obtain⟨hj,k,hk⟩:=natS_den hl h1
   exact run_bound c w (by rw[he x (by simp) hj,hk]) hlh
 have high:∀ (c:BoundsCode),(match hi.map a.eval with|some v=>Instr.sliceBound v cap c|none=>(Pure.pure len:Sem Nat)).run P w = .ok h w:=by
  intro c
  cases hi with
  |none=>simp only[hiS,Option.some.injEq,Prod.mk.injEq] at hh;rw[← hh.2];rfl
  |some x=>
   obtain⟨hj,k,hk⟩:=natS_den hh h2
   exact run_bound c w (by rw[he x (by simp) hj,hk]) (by omega)
 unfold Instr.sliceBounds
 cases hi with
 |none=>
  have hi':=high .sliceAcap
  simp only[Option.map_none] at hi'
  have lo':=low .sliceB
  cases lo with
  |none=>
   simp only[Option.map_none] at lo' ⊢
   simp only[Sem.run_bind,Sem.run_pure,Result.andThen_ok] at hi' lo' ⊢
   simp_all
  |some x=>
   simp only[Option.map_none,Option.map_some] at lo' ⊢
   simp only[Sem.run_bind,Sem.run_pure,Result.andThen_ok] at hi' lo' ⊢
   simp_all
 |some y=>
  have hi':=high .sliceAcap
  simp only[Option.map_some] at hi'
  have lo':=low .sliceB
  cases lo with
  |none=>
   simp only[Option.map_none] at lo' ⊢
   simp only[Option.map_some,Sem.run_bind,Sem.run_pure,Result.andThen_ok,if_true,hi'] at lo' ⊢
   simp_all
  |some x=>
   simp only[Option.map_some] at lo' ⊢
   simp only[Sem.run_bind,Sem.run_pure,Result.andThen_ok,if_true,hi',Option.isSome_none,Bool.false_eq_true,if_false,lo']
theorem good_slice {t:TypeId}{x:Operand}{lo hi:Option Operand}(ho:o.op = .slice t x lo hi none):(sliceS P M t ev (ev x) lo hi).good (OpOk P G ev M o):=by
 have hin:∀ y,y=x∨y∈lo.toList++hi.toList→y∈o.op.operands:=by
  intro y hy
  rcases hy with rfl|hy
  . simp[ho,Op.operands]
  . simp only[List.mem_append,Option.mem_toList] at hy
    simp[ho,Op.operands,hy]
 unfold sliceS
 split
 . rename_i e hu
   split
   . rename_i s n sz off len hs hx
     split
     . rename_i b1 l b2 h m hl hh hm hb
       obtain rfl:sz=s:=by simpa using hb
       intro ht1 ht2
       simp only[Bool.and_eq_true,decide_eq_true_eq] at ht1 ht2
       obtain⟨t1,t2,t3,t4⟩:=ht1
       obtain⟨ie,hie,hse⟩:=sizeS_info hs
       have run:∀ (B:Bd) (ρ:Val) (a:Act) (w:World),(∀ x∈o.op.operands,ev x ≠ .junk→a.eval x=(ev x).den ρ)→MRel B ρ M w→
         len≤((ρ n).map fun l=>l.cap).getD 0-off∧(0<len→∃ l,ρ n=some l)∧(execOp a.eval o).run P w = .ok (.value (.slice (if ((ρ n).map fun l=>l.cap).getD 0-off=l then (ρ n).map fun l=>⟨l.blk,l.off+off*sz,l.sp0 len⟩ else ((ρ n).map fun l=>(⟨l.blk,l.off+off*sz,l.sp0 len⟩:Addr)).map (·.add (l*sz))) (h-l) (((ρ n).map fun l=>l.cap).getD 0-off-l))) w:=by
        intro B ρ a w he hM
        have hbk:∃ b,nth M n=some b:=by cases hq:nth M n with
         |none=>rw[hq] at hm;cases hm
         |some b=>exact⟨b,rfl⟩
        obtain⟨b,hbn⟩:=hbk
        rw[hbn] at hm
        obtain⟨c1,c2⟩:=len_cap (hM.ok n b (by rw[← nth_eq];exact hbn)) hm
        have hcap:len≤((ρ n).map fun l=>l.cap).getD 0-off:=by
         cases hρ:ρ n with
         |none=>have:=c1 hρ;simp;omega
         |some l=>have:=c2 l hρ;simp;omega
        refine⟨hcap,fun hpos => ?_,?_⟩
        . cases hρ:ρ n with
          |none=>have:=c1 hρ;omega
          |some l=>exact⟨l,rfl⟩
        have h1:=he x (hin x (.inl rfl)) (by rw[hx];simp)
        rw[hx] at h1
        have hb:=run_bounds (P:=P) (a:=a) (ρ:=ρ) (cap:=((ρ n).map fun l=>l.cap).getD 0-off) (fun y hy=>he y (hin y (.inr hy))) hl hh t1 t2 t3 t4 hcap w
        have hszv:(sizeOf e).run P w = .ok sz w:=by simp[sizeOf,typeInfo,hie,hse]
        simp only[execOp,ho,h1,SV.den,Option.map_none,Instr.sliceAt,Instr.slice,Sem.run_bind,run_underlying hu,Result.andThen_ok,hb,hszv,Sem.run_pure]
       refine⟨fun hlt => ?_,fun hge => ?_⟩
       . simp only[decide_eq_true_eq] at hlt
         refine OpOk.same fun B ρ a w he hM => ?_
         obtain⟨hcap,hsome,hr⟩:=run B ρ a w he hM
         obtain⟨lc,hlc⟩:=hsome (by omega)
         refine⟨_,fun _=>rfl,?_⟩
         rw[hr,if_neg (by omega)]
         have hpc:0<lc.cap:=by rw[hlc] at hcap;simp at hcap;omega
         simp only[SV.den,hlc,Option.map_some,Option.getD_some,Loc.sp0_cap lc _ hpc,Addr.add_lit,Nat.add_mul,Nat.sub_sub,Nat.add_assoc]
       . simp only[decide_eq_false_iff_not] at hge
         intro B ρ a w next Q he hM hGw hn
         obtain⟨hcap,_,hr⟩:=run B ρ a w he hM
         rw[show h-l=0 by omega] at hr
         have hlen:l=len:=by omega
         have addr:∃ (r:Option Loc),(r=none→ρ n=none)∧(SV.sl M.length sz 0 0).den (setρ ρ M.length r) = .slice (if ((ρ n).map fun l=>l.cap).getD 0-off=l then (ρ n).map fun l=>⟨l.blk,l.off+off*sz,l.sp0 len⟩ else ((ρ n).map fun l=>(⟨l.blk,l.off+off*sz,l.sp0 len⟩:Addr)).map (·.add (l*sz))) 0 (((ρ n).map fun l=>l.cap).getD 0-off-l):=by
          cases hρ:ρ n with
          |none=>exact⟨none,fun _=>rfl,by simp[SV.den,setρ_self]⟩
          |some lc=>
           by_cases hc:lc.cap-off=l
           . exact⟨some ⟨lc.blk,lc.off+off*sz,0,lc.sp0 len,.inl rfl⟩,(fun h=>by cases h),by simp[SV.den,setρ_self,hc,Loc.sp0]⟩
           . have hpc:0<lc.cap:=by rw[hρ] at hcap;simp at hcap;omega
             exact⟨some ⟨lc.blk,lc.off+off*sz+l*sz,lc.cap-off-l,none,.inr rfl⟩,(fun h=>by cases h),by simp[SV.den,setρ_self,hc,Loc.sp0_cap lc _ hpc,Addr.add_lit]⟩
         obtain⟨r,hr0,hden⟩:=addr
         refine wp_of_run hr (hn (setρ ρ M.length r) _ _ (fun _=>hden.symm) (setρ_ext fun n hn'=>(by intro e;subst e;exact hn' ⟨Nat.le_refl _,by simp⟩)) (Below.refl _ _) (new_one ⟨fun _=>[],fun i hi=>absurd hi (Nat.not_lt_zero i),fun _=>rfl,fun l hl=>⟨Nat.zero_le _,fun h=>by omega,fun i hi=>by omega⟩⟩ (fun h=>by cases h) (fun k hk=>(hM.zhi k hk).1) (Nat.le_refl _)))
     . trivial
   . trivial
 . trivial
def indexS (P:Program)(t:TypeId)(x ix:SV):Res:=match natS ix with
 |some (nn,i)=>match x,P.underlying t with
  | .val (.string s),some .string=>.test (nn&&decide (i<s.size)) (.ok (.int .u8 ((s.data.getD i 0).toNat:Int)) [])
  | .agg xs,some (.array k e)=>match sizeS P e with
    |some n=>.test (nn&&decide (i<k)) (match partS P e xs (i*n) with
     |some sv=>.ok sv []
     |none=>.fail)
    |none=>.fail
  |_,_=>.fail
 |none=>.fail
theorem good_index {t:TypeId}{x ix:Operand}(ho:o.op = .index t x ix):(indexS P t (ev x) (ev ix)).good (OpOk P G ev M o):=by
 have hin:x∈o.op.operands:=by simp[ho,Op.operands]
 have hin':ix∈o.op.operands:=by simp[ho,Op.operands]
 unfold indexS
 split
 . rename_i nn i hi
   split
   . rename_i s hx hu
     intro ht
     simp only[Bool.and_eq_true,decide_eq_true_eq] at ht
     obtain⟨hnj,k,hk⟩:=natS_den hi ht.1
     refine OpOk.same fun B ρ a w he hM=>⟨_,fun _=>rfl,?_⟩
     have h1:=he x hin (by rw[hx];simp)
     rw[hx] at h1
     have h2:=he ix hin' hnj
     rw[hk] at h2
     have hlt:i<s.data.size:=ht.2
     have hg:s[i]? = some (s.data.getD i 0):=by
        rw[Array.getD_eq_getD_getElem?,Array.getElem?_eq_getElem hlt]
        exact dif_pos ht.2
     simp only[execOp,ho,h1,h2,SV.den,Instr.index,asIntOf,Sem.run_bind,Sem.run_pure,Result.andThen_ok,run_underlying hu]
     have h0:(0:Int)≤(i:Int):=by omega
     simp[h0,hg]
   . rename_i xs k e hx hu
     split
     . rename_i n hn
       intro ht
       simp only[Bool.and_eq_true,decide_eq_true_eq] at ht
       obtain⟨hnj,kk,hk⟩:=natS_den hi ht.1
       split
       . rename_i sv hp
         refine OpOk.same fun B ρ a w he hM=>⟨sv.den ρ,fun _=>rfl,?_⟩
         have h1:=he x hin (by rw[hx];simp)
         rw[hx] at h1
         have h2:=he ix hin' hnj
         rw[hk] at h2
         obtain⟨ie,hie,hse⟩:=sizeS_info hn
         have hszv:(sizeOf e).run P w = .ok n w:=by simp[sizeOf,typeInfo,hie,hse]
         have h0:(0:Int)≤(i:Int)∧(i:Int) < (k:Int):=by omega
         simp only[execOp,ho,h1,h2,SV.den,Instr.index,asIntOf,Sem.run_bind,Sem.run_pure,Result.andThen_ok,run_underlying hu]
         rw[if_pos h0]
         simp only[Sem.run_bind,hszv,Result.andThen_ok,Int.toNat_natCast,(run_part (ρ:=ρ) (w:=w) hp).1,Sem.run_pure]
       . trivial
     . trivial
   . trivial
 . trivial
def ifNil (P:Program)(t:TypeId)(op:BinOp)(x:SV)(y:Operand):Option Res:=match y with
 | .const .nilIface=>match P.underlying t,op,x with
   |some (.interface _),.neq,.val (.iface _ _)=>some (.ok .tt [])
   |some (.interface _),.neq,.val .nilIface=>some (.ok .ff [])
   |_,_,_=>none
 |_=>none
def makeIfS (P:Program)(t:TypeId)(x:SV):Res:=match P.underlying t with
 |some (.interface _)=>.fail
 |some _=>match x with
  | .int k n=>.ok (.val (.iface t (.int k n))) []
  |_=>.fail
 |none=>.fail
def typeAsS (P:Program)(t:TypeId)(x:SV):Res:=match P.underlying t with
 |some (.interface _)=>.fail
 |some _=>match x with
  | .val (.iface u (.int k n))=>match Nat.beq u t with
    |true=>.ok (.tup [.int k n,.tt]) []
    |false=>.fail
  |_=>.fail
 |none=>.fail
theorem run_neq_nil {t:TypeId}{ms:Array (String×TypeId)}(hu:P.underlying t=some (.interface ms))(x y:Operand)(v:Value)(b:Bool)(w:World)(hg:(eqGuard .neq t x y v .nilIface).run P w = .ok () w)
  (hv:(b=true∧∃ u z,v = .iface u z)∨(b=false∧v = .nilIface)):
  (do eqGuard .neq t x y v .nilIface;binOp .neq t v .nilIface:Sem Value).run P w = .ok (.bool b) w:=by
 have h:∀ d,(Op.equalIn (d+1) t v .nilIface).run P w = .ok (!b) w:=fun d=>by
  rcases hv with⟨rfl,u,z,rfl⟩ | ⟨rfl,rfl⟩<;>simp[Op.equalIn,run_underlying hu]
 have e:binOp .neq t v .nilIface=(do pure (.bool (!(← Op.equal t v .nilIface)))):=by rcases hv with⟨_,u,z,rfl⟩ | ⟨_,rfl⟩<;>rfl
 rw[Sem.run_bind,hg,e]
 simp only[Result.andThen_ok,Sem.run_bind]
 rw[show Op.equal t v .nilIface=Op.equalIn (9999+1) t v .nilIface from rfl,h 9999]
 simp
theorem good_ifNil {op:BinOp}{t yt:TypeId}{x y:Operand}(ho:o.op = .binOp op t x y yt){r:Res}(h:ifNil P t op (ev x) y=some r):r.good (OpOk P G ev M o):=by
 have hin:x∈o.op.operands:=by simp[ho,Op.operands]
 unfold ifNil at h
 split at h
 . split at h
   . rename_i ms u z hu hx
     obtain rfl:=Option.some.inj h
     refine OpOk.same fun B ρ a w he hM=>⟨.bool true,fun _=>rfl,?_⟩
     have e1:=he x hin (by rw[hx];simp)
     rw[hx] at e1
     have e2:a.eval (.const .nilIface) = .nilIface:=rfl
     have h2:=run_neq_nil (P:=P) hu x (.const .nilIface) (.iface u z) true w (by simp[eqGuard]) (.inl ⟨rfl,u,z,rfl⟩)
     simp only[execOp,ho,e1,e2,SV.den]
     rw[Sem.run_bind,h2]
     rfl
   . rename_i ms hu hx
     obtain rfl:=Option.some.inj h
     refine OpOk.same fun B ρ a w he hM=>⟨.bool false,fun _=>rfl,?_⟩
     have e1:=he x hin (by rw[hx];simp)
     rw[hx] at e1
     have e2:a.eval (.const .nilIface) = .nilIface:=rfl
     have h2:=run_neq_nil (P:=P) hu x (.const .nilIface) .nilIface false w (by simp[eqGuard]) (.inr ⟨rfl,rfl⟩)
     simp only[execOp,ho,e1,e2,SV.den]
     rw[Sem.run_bind,h2]
     rfl
   . cases h
 . cases h
theorem good_makeIf {t:TypeId}{x:Operand}(ho:o.op = .makeInterface t x):(makeIfS P t (ev x)).good (OpOk P G ev M o):=by
 have hin:x∈o.op.operands:=by simp[ho,Op.operands]
 unfold makeIfS
 split
 . trivial
 . rename_i d hne hu
   split
   . rename_i k n hx
     refine OpOk.same fun B ρ a w he hM=>⟨.iface t (.int k n),fun _=>rfl,?_⟩
     have e1:=he x hin (by rw[hx];simp)
     rw[hx] at e1
     simp only[execOp,ho,e1,SV.den,Instr.makeInterface,Sem.run_bind,run_underlying hu,Result.andThen_ok]
     cases d<;>first|rfl|exact absurd rfl (hne _)
   . trivial
 . trivial
theorem good_typeAs {t xt:TypeId}{x:Operand}(ho:o.op = .typeAssert x xt t true):(typeAsS P t (ev x)).good (OpOk P G ev M o):=by
 have hin:x∈o.op.operands:=by simp[ho,Op.operands]
 unfold typeAsS
 split
 . trivial
 . rename_i d hne hu
   split
   . rename_i u k n hx
     split
     . rename_i hb
       obtain rfl:=Nat.eq_of_beq_eq_true hb
       refine OpOk.same fun B ρ a w he hM=>⟨.tuple #[.int k n,.bool true],fun _=>rfl,?_⟩
       have e1:=he x hin (by rw[hx];simp)
       rw[hx] at e1
       simp only[execOp,ho,e1,SV.den,Instr.typeAssert,Sem.run_bind,run_underlying hu,Result.andThen_ok]
       cases d<;>first | (simp;done)|exact absurd rfl (hne _)
     . trivial
   . trivial
 . trivial
def fvSM (M:List Blk)(x:SV):Option (Bool×FV):=match x with
 | .sl n sz off len=>match nth M n with
   |some (.fz sz' m g)=>match Nat.beq sz sz' with
    |true=>some (decide (off+len≤m),.row sz len fun i=>g (off+i))
    |false=>none
   |_=>none
 |x=>match fvS x with
  |some y=>some (true,y)
  |none=>none
def fvLM (M:List Blk):List SV→Option (Bool×List FV)
 |[]=>some (true,[])
 |x::l=>match fvSM M x,fvLM M l with
  |some (b,y),some (c,m)=>some (b&&c,y::m)
  |_,_=>none
theorem fvS_flat {x:SV}{y:FV}(h:fvS x=some y):y.flat=true:=by
 cases x<;>first | (obtain rfl:=Option.some.inj h;rfl) | (cases h)
theorem fvSM_ok {M:List Blk}{B:Bd}{ρ:Val}{w:World}(hM:MRel B ρ M w){x:SV}{b:Bool}{y:FV}(h:fvSM M x=some (b,y))(hb:b=true):∃ q:FV,Rep ρ.z w y q∧x.den ρ=q.den:=by
 unfold fvSM at h
 split at h
 . rename_i n sz off len
   split at h
   . rename_i sz' m g hn
     split at h
     . rename_i hs
       obtain rfl:sz=sz':=by simpa using hs
       obtain⟨rfl,rfl⟩:=Prod.mk.inj (Option.some.inj h)
       simp only[decide_eq_true_eq] at hb
       obtain⟨q,hr,h0,h1⟩:=hM.ok n _ (by rw[← nth_eq];exact hn)
       refine⟨.val (rowV ((ρ n).map fun l=>⟨l.blk,l.off+off*sz,l.cap-off,l.sp,l.ok.imp_left fun h=>by omega⟩) len),.row _ (fun i=>q (off+i)) (fun e => ?_) (fun k hk => ?_) (fun k hk hn => ?_) (fun i hi => ?_) (fun k i j x hk hi hx => ?_) (fun i hi=>(hr _ (by omega)).1) (fun i j x y hi hx hy=>(hr _ (by omega)).2 j x y hx hy),?_⟩
       . cases hl:ρ n with
         |none=>have:=h0 hl;omega
         |some l=>rw[hl] at e;cases e
       . cases hl:ρ n with
         |none=>rw[hl] at hk;cases hk
         |some l=>rw[hl] at hk;obtain rfl:=Option.some.inj hk;have:=(h1 l hl).1;show len≤l.cap-off;omega
       . cases hl:ρ n with
         |none=>rw[hl] at hk;cases hk
         |some l=>rw[hl] at hk;obtain rfl:=Option.some.inj hk;exact(h1 l hl).2.1 (by omega)
       . cases hl:ρ n with
         |none=>have:=h0 hl;omega
         |some l=>exact((h1 l hl).2.2 (off+i) (by omega)).1
       . cases hl:ρ n with
         |none=>rw[hl] at hk;cases hk
         |some l=>
          rw[hl] at hk;obtain rfl:=Option.some.inj hk
          have:=((h1 l hl).2.2 (off+i) (by omega)).2 j x hx
          rw[← this];show w.cell? ⟨l.blk,l.off+off*sz+i*sz+j,none⟩=w.cell? ⟨l.blk,l.off+(off+i)*sz+j,none⟩
          congr 2;rw[Nat.add_mul];omega
       . simp only[FV.den,SV.den,rowV]
         cases hl:ρ n with
         |none=>have:=h0 hl;simp
         |some l=>simp
     . cases h
   . cases h
 . split at h
   . rename_i y' hy
     obtain⟨rfl,rfl⟩:=Prod.mk.inj (Option.some.inj h)
     exact⟨y',.flat (fvS_flat hy),fvS_den hy ρ⟩
   . cases h
theorem fvLM_ok {M:List Blk}{B:Bd}{ρ:Val}{w:World}(hM:MRel B ρ M w):∀ {l:List SV} {b:Bool} {m:List FV},fvLM M l=some (b,m)→b=true→∃ q:List FV,RepL ρ.z w m q∧denL ρ l=q.map FV.den
 |[],b,m,h,_=>by
  obtain⟨rfl,rfl⟩:=Prod.mk.inj (Option.some.inj h)
  exact⟨[],⟨rfl,by simp⟩,rfl⟩
 |x::l,b,m,h,hb=>by
  simp only[fvLM] at h
  split at h
  . rename_i b1 y c m' h1 h2
    obtain⟨rfl,rfl⟩:=Prod.mk.inj (Option.some.inj h)
    simp only[Bool.and_eq_true] at hb
    obtain⟨q1,r1,e1⟩:=fvSM_ok hM h1 hb.1
    obtain⟨q2,r2,e2⟩:=fvLM_ok hM h2 hb.2
    refine⟨q1::q2,⟨by simp[r2.1],fun j x y hx hy => ?_⟩,by simp only[denL,List.map_cons,e1,e2]⟩
    cases j with
    |zero=>
     simp at hx hy;subst hx;subst hy;exact r1
    |succ j=>exact r2.2 j x y (by simpa using hx) (by simpa using hy)
  . cases h
theorem fvLM_length {M:List Blk}:∀ {l:List SV} {b:Bool} {m:List FV},fvLM M l=some (b,m)→m.length=l.length
 |[],b,m,h=>by obtain⟨rfl,rfl⟩:=Prod.mk.inj (Option.some.inj h);rfl
 |x::l,b,m,h=>by
  simp only[fvLM] at h
  split at h
  . rename_i b1 y c m' h1 h2
    obtain⟨rfl,rfl⟩:=Prod.mk.inj (Option.some.inj h)
    simp[fvLM_length h2]
  . cases h
def fvT (M:List Blk)(l:List SV):Option (Bool×List FV):=match fvL l with
 |some m=>some (true,m)
 |none=>fvLM M l
theorem fvT_ok {M:List Blk}{B:Bd}{ρ:Val}{w:World}(hM:MRel B ρ M w){l:List SV}{b:Bool}{m:List FV}(h:fvT M l=some (b,m))(hb:b=true):∃ q:List FV,RepL ρ.z w m q∧denL ρ l=q.map FV.den:=by
 unfold fvT at h
 split at h
 . rename_i m' hm
   obtain⟨rfl,rfl⟩:=Prod.mk.inj (Option.some.inj h)
   exact⟨m',RepL.refl (fvL_flat hm),fvL_den hm ρ⟩
 . exact fvLM_ok hM h hb
theorem fvT_length {M:List Blk}{l:List SV}{b:Bool}{m:List FV}(h:fvT M l=some (b,m)):m.length=l.length:=by
 unfold fvT at h
 split at h
 . rename_i m' hm
   obtain⟨rfl,rfl⟩:=Prod.mk.inj (Option.some.inj h)
   have:=congrArg List.length (fvL_den hm ⟨fun _=>none,fun _=>False⟩)
   simpa [denL_eq] using this.symm
 . exact fvLM_length h
def buildSliceZ (P:Program)(M:List Blk)(t:TypeId)(len:Nat)(parts:List (Nat×SV)):Res:=match P.underlying t with
 |some (.slice e)=>match sizeS P e,zeroS P e with
  |some sz,some z=>match njP parts,Nat.ble (len*sz) 16777216,Nat.ble 1 sz,Nat.beq z.length sz with
   |true,true,true,true=>match fillS (fun i=>some (i*sz,sz)) (repL z len) parts with
    |some xs=>match fvT M xs,Nat.beq xs.length (len*sz)&&oneL xs with
     |some (b,l),true=>.test b (.ok (.sl M.length sz 0 len) [.fz sz len (fun i=>(l.drop (i*sz)).take sz)])
     |_,_=>.fail
    |none=>.fail
   |_,_,_,_=>.fail
  |_,_=>.fail
 |_=>.fail
theorem good_buildSliceZ {t:TypeId}{len:Nat}{parts:Array (Nat×Operand)}(ho:o.op = .buildSlice t len parts):(buildSliceZ P M t len (evP ev parts.toList)).good (OpOk P G ev M o):=by
 unfold buildSliceZ
 split
 . rename_i e hu
   split
   . rename_i sz z hsz hz
     split
     . rename_i hnj hle h1 hzl
       split
       . rename_i xs hf
         have run:∀ (B:Bd) (ρ:Val) (a:Act) (w:World),(∀ x∈o.op.operands,ev x ≠ .junk→a.eval x=(ev x).den ρ)→(execOp a.eval o).run P w = .ok (.value (.slice (some ⟨w.heap.size,0,none⟩) len len)) (w.alloc (.cells (denL ρ xs).toArray e)):=by
          intro B ρ a w hx
          have hle':len*sz≤16777216:=Nat.le_of_ble_eq_true hle
          have h1':1≤sz:=Nat.le_of_ble_eq_true h1
          have hzl':z.length=sz:=Nat.eq_of_beq_eq_true hzl
          obtain⟨it,v,hi,hv,hc⟩:=zeroS_den hz
          obtain⟨it',hi',hs'⟩:=sizeS_info hsz
          obtain rfl:it=it':=by rw[hi] at hi';exact Option.some.inj hi'
          have he:=evP_eval (a:=a) (ρ:=ρ) parts.toList (fun p hp=>hx p.2 (by simp[ho,Op.operands];exact⟨p.1,by simpa using hp⟩)) hnj
          have hfill:=fill_of (ρ:=ρ) _ _ _ hf
          rw[repL_den ρ z v (hc ρ) (by omega) len,hzl',← he] at hfill
          have hvs:v.cells.size=sz:=by rw[hc ρ];simp[denL_eq,hzl']
          have hzv:(zeroValue e).run P w = .ok v w:=by simp[zeroValue,typeInfo,hi,hv]
          have hszv:(sizeOf e).run P w = .ok sz w:=by simp[sizeOf,typeInfo,hi,hs']
          have hne : ¬ len*sz > 2^24:=by omega
          by_cases hz0:len*sz=0
          . have hfill':Instr.fill (fun i=>some (i*sz,sz)) ((Array.range (len*sz)).map fun i=>(#[]:Array Value)[i % (#[]:Array Value).size]!) (parts.map fun(i,x)=>(i,a.eval x)).toList=some (denL ρ xs).toArray:=by
             rw[← hfill,hz0,Array.range_zero'];simp
            simp only[execOp,ho,Instr.buildSlice,Sem.run_bind,run_underlying hu,Result.andThen_ok,hszv]
            rw[if_neg hne,if_pos hz0]
            simp only[Sem.run_bind,Sem.run_pure,Result.andThen_ok,hfill',newRow,newObj]
            rfl
          . have hfill':Instr.fill (fun i=>some (i*sz,sz)) ((Array.range (len*sz)).map fun i=>v.cells[i % v.cells.size]!) (parts.map fun(i,x)=>(i,a.eval x)).toList=some (denL ρ xs).toArray:=by
             rw[← hfill];simp
            simp only[execOp,ho,Instr.buildSlice,Sem.run_bind,run_underlying hu,Result.andThen_ok,hszv]
            rw[if_neg hne,if_neg hz0]
            simp only[Sem.run_bind,Sem.run_pure,Result.andThen_ok,hzv,hfill',newRow,newObj]
            rfl
         split
         . rename_i bt l hl hlen
           intro hbt B ρ a w next Q hx hM hGw hn
           simp only[Bool.and_eq_true] at hlen
           have hlen':xs.length=len*sz:=Nat.eq_of_beq_eq_true hlen.1
           have hr:=run B ρ a w hx
           obtain⟨q,hq,hd⟩:=fvT_ok hM hl hbt
           have hql:q.length=len*sz:=by rw[← hq.1,fvT_length hl];exact hlen'
           have hmul:∀ i,i<len→i*sz+sz≤len*sz:=fun i hi=>by
            have:(i+1)*sz≤len*sz:=Nat.mul_le_mul_right _ hi
            rw[Nat.succ_mul] at this;omega
           have hbel:Below w.heap.size w (w.alloc (.cells (denL ρ xs).toArray e)):=(Below.refl _ _).alloc (Nat.le_refl _) _
           have hnew:(w.alloc (.cells (denL ρ xs).toArray e)).heap[w.heap.size]? = some (.cells (denL ρ xs).toArray e (0,0)):=by rw[heap_alloc,if_pos rfl]
           have hlt:w.heap.size < (w.alloc (.cells (denL ρ xs).toArray e)).heap.size:=(Array.getElem?_eq_some_iff.1 hnew).1
           let ρ':Val:=⟨fun n=>if n=M.length then some ⟨w.heap.size,0,len,none,.inr rfl⟩ else ρ n,fun k=>ρ.z k∨k=w.heap.size⟩
           have e0:ρ' M.length=some ⟨w.heap.size,0,len,none,.inr rfl⟩:=by show(if M.length=M.length then _ else _)=_;rw[if_pos rfl]
           have zsame:∀ k,ρ.z k→(w.alloc (.cells (denL ρ xs).toArray e)).heap[k]? = w.heap[k]? := fun k hk=>hbel.block k (hM.zhi k hk).1
           refine wp_of_run hr (hn ρ' _ _ (fun _ => ?_) ⟨fun n hn'=>if_neg (by rintro rfl;exact hn' ⟨Nat.le_refl _,by simp⟩),fun k hk=>.inl hk,fun k hk=>hk.imp_right fun h=>by omega⟩ hbel ⟨fun k c h => ?_,fun k c l' h ho' => ?_,fun i j b c l' k h1 h2 h3 o1 => ?_,fun k c l' h ho' => ?_,fun k hk => ?_,fun k hk hk2 => ?_⟩)
           . simp[SV.den,e0]
           . cases k with
             |succ k=>simp at h
             |zero=>
              simp at h;subst h
              refine⟨fun i=>(q.drop (i*sz)).take sz,fun i _=>(hq.part _ _).mono (fun k hk=>.inl hk) zsame,And.intro (fun hn=>by rw[Nat.add_zero,e0] at hn;cases hn) (fun l' hl' => ?_)⟩
              rw[Nat.add_zero,e0] at hl'
              obtain rfl:=Option.some.inj hl'
              refine⟨Nat.le_refl _,fun _=>.inr rfl,fun i hi=>⟨⟨?_,fun x hx => ?_⟩,fun j x hx => ?_⟩⟩
              . have:=hmul i hi
                simp only[List.length_take,List.length_drop,hql];omega
              . have hxl:x∈q:=List.mem_of_mem_drop (List.mem_of_mem_take hx)
                exact oneL_den (ρ:=ρ) hlen.2 _ (by rw[hd];exact List.mem_map_of_mem hxl)
              . rw[List.getElem?_take,List.getElem?_drop] at hx
                split at hx
                . have hq':(denL ρ xs)[i*sz+j]? = some x.den:=by rw[hd,List.getElem?_map,hx];rfl
                  simp only[World.cell?,hnew,Nat.zero_add]
                  simpa using hq'
                . cases hx
           . cases k with
             |zero=>simp at h;subst h;cases ho'
             |succ k=>simp at h
           . cases i with
             |zero=>simp at h2;subst h2;cases o1
             |succ k=>simp at h2
           . cases k with
             |zero=>simp at h;subst h;cases ho'
             |succ k=>simp at h
           . rcases hk with hk|rfl
             . exact Nat.lt_of_lt_of_le (hM.zhi k hk).1 hbel.size
             . exact hlt
           . rcases hk with hk|rfl
             . have:=(hM.zhi k hk).1;omega
             . exact⟨_,_,_,hnew⟩
         . trivial
       . trivial
     . trivial
   . trivial
 . trivial
def stepH (P:Program)(Γ:Env)(ev:Operand→SV)(M:List Blk)(o:Oper):Res:=match o.op with
 | .move x=>.ok (ev x) []
 | .assign x=>.ok (ev x) []
 | .pick c x y=>match ev c with
   | .tt=>.ok (ev x) []
   | .ff=>.ok (ev y) []
   | .bool t=>.split t (.ok (ev x) []) (.ok (ev y) [])
   |_=>.fail
 | .alloc e=>match findX Γ.mixs e with
   |some xs=>.ok (.ptr M.length 0) [.mix e xs]
   |none=>allocS P M e
 | .box e x=>match ev x with
   | .mix xs=>boxM M e xs
   |y=>boxS M e y
 | .build t parts=>match findX Γ.mixs t with
   |some z=>buildM P t z (evP ev parts.toList)
   |none=>buildR P t (evP ev parts.toList)
 | .buildSlice t len parts=>match findX Γ.mixs t with
   |some _=>buildSliceZ P M t len (evP ev parts.toList)
   |none=>buildSliceS P M t len (evP ev parts.toList)
 | .load t x=>match mixP M (ev x) with
   |some xs=>loadM P t xs (ev x)
   |none=>loadS P M t (ev x)
 | .nilCheck x=>match mixP M (ev x) with
   |some _=>.ok (ev x) []
   |none=>nilCheckS M (ev x)
 | .binOp op t x y _=>match ifNil P t op (ev x) y with
   |some r=>r
   |none=>match nilSl P M t op (ev x) (ev y) with
    |some r=>r
    |none=>match ev x,ev y with
     | .mix xs,.mix ys=>eqMixS Γ.meqs t op xs ys
     |_,_=>binT P Γ.eqs t op (ev x) (ev y)
 | .makeInterface t x=>makeIfS P t (ev x)
 | .typeAssert x _ t true=>typeAsS P t (ev x)
 | .unOp op _ x=>unS op (ev x)
 | .convert s d x=>match strB P M s d (ev x) with
   |some r=>r
   |none=>convS P s d (ev x)
 | .makeFunc fn fst cap=>makeFuncS fn (evL ev fst.toList) (evL ev cap.toList)
 | .makeMap _ none=>.ok (.mp M.length) [.map []]
 | .slice t x lo hi none=>sliceS P M t ev (ev x) lo hi
 | .fieldAddr t x f=>match mixP M (ev x) with
   |some xs=>fieldAddrM P xs t f (ev x)
   |none=>fieldAddrS P M t f (ev x)
 | .field t x f=>match ev x with
   | .mix xs=>fieldM P t f xs
   |y=>fieldVS P t f y
 | .indexAddr t x ix=>match mixP M (ev x) with
   |some xs=>indexAddrM P xs t (ev x) (ev ix)
   |none=>indexAddrS P M t (ev x) (ev ix)
 | .index t x ix=>match ev x with
   | .arr n sz g=>indexA P t n sz g (ev ix)
   |y=>indexS P t y (ev ix)
 | .lookup t x ix ok=>lookupS P Γ.eqs M t ok (ev x) (ev ix)
 | .extract x i=>extractS (ev x) i
 | .call c=>match c.callee with
   | .value f=>callS Γ M (ev f) (evL ev c.args.toList)
   | .builtin .len=>match c.args.toList,c.argTypes.toList with
     |[x],[t]=>lenS P t (ev x)
     |_,_=>.fail
   | .builtin .min=>match c.args.toList with
     |[x,y]=>minS (ev x) (ev y)
     |_=>.fail
   | .builtin .max=>match c.args.toList with
     |[x,y]=>maxS (ev x) (ev y)
     |_=>.fail
   |_=>.fail
 |_=>.fail
theorem stepH_good {Γ:Env}(hΓ:EnvOk P G Γ):(stepH P Γ ev M o).good (OpOk P G ev M o):=by
 unfold stepH
 split
 all_goals (rename_i ho)
 . exact ok_move (.inl ho)
 . exact ok_move (.inr ho)
 . exact good_pick ho
 . split
   . rename_i xs hf
     exact ok_allocM ho (hΓ.mixs _ (findX_mem _ _ _ hf))
   . exact good_alloc ho
 . split
   . rename_i xs hx
     exact good_boxM ho hx
   . exact good_box ho
 . split
   . rename_i z hf
     exact good_buildM ho (hΓ.mixs _ (findX_mem _ _ _ hf))
   . exact good_build ho
 . split
   . exact good_buildSliceZ ho
   . exact good_buildSlice ho
 . split
   . rename_i xs hx
     exact good_loadM ho hx
   . exact good_load ho
 . split
   . rename_i xs hx
     exact ok_nilCheckM ho hx
   . exact good_nilCheck ho
 . split
   . rename_i r hr
     exact good_ifNil ho hr
   . split
     . rename_i r hr
       exact good_nilSl ho hr
     . split
       . rename_i xs ys hx hy
         exact good_eqMix hΓ.meqs ho hx hy
       . exact good_bin hΓ.eqs ho
 . exact good_makeIf ho
 . exact good_typeAs ho
 . exact good_un ho
 . split
   . rename_i r hr
     exact good_strB ho hr
   . exact good_conv ho
 . exact good_makeFunc ho
 . exact ok_makeMap ho
 . exact good_slice ho
 . split
   . rename_i xs hx
     exact good_fieldAddrM ho hx
   . exact good_fieldAddr ho
 . split
   . rename_i xs hx
     exact good_fieldM ho hx
   . exact good_field ho
 . split
   . rename_i xs hx
     exact good_indexAddrM ho hx
   . exact good_indexAddr ho
 . split
   . rename_i n sz g hx
     exact good_indexA ho hx
   . exact good_index ho
 . exact good_lookup hΓ.eqs ho
 . exact good_extract ho
 . rename_i c
   obtain⟨callee,args,ts⟩:=c
   split
   . rename_i f hc
     simp only at hc;subst hc
     exact good_call hΓ ho
   . rename_i hc
     simp only at hc;subst hc
     split
     . rename_i x t h1 h2
       have e1:args = #[x]:=by apply Array.ext';exact h1
       have e2:ts = #[t]:=by apply Array.ext';exact h2
       subst e1 e2
       exact good_len ho
     . trivial
   . rename_i hc
     simp only at hc;subst hc
     split
     . rename_i x y h1
       have e1:args = #[x,y]:=by apply Array.ext';exact h1
       subst e1
       exact good_min ho
     . trivial
   . rename_i hc
     simp only at hc;subst hc
     split
     . rename_i x y h1
       have e1:args = #[x,y]:=by apply Array.ext';exact h1
       subst e1
       exact good_max ho
     . trivial
   . trivial
 . trivial
end
end Go.Sx
