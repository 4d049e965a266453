import Derived.Test.YtfgkhenhlpoheaaGreatM05
set_option linter.all false
namespace Go.Sx
open Go.RowKit Go.Proofs.YtfgkhenhlpoheaaGreat
def isBarG (Γ:Env)(ev:Operand→SV)(o:Oper):Bool:=match isBar o with
 |true=>true
 |false=>match o.op with
  | .call c=>match c.callee with
    | .value f=>match ev f with
      | .fn (.func g) _ _=>match findB Γ.bctrs g with
        |some _=>true
        |none=>false
      |_=>false
    |_=>false
  |_=>false
def barS (P:Program)(Γ:Env)(ev:Operand→SV)(M:List Blk)(o:Oper):BRes:=match o.op with
 | .store t x y=>match mixP M (ev x) with
   |some xs=>storeM P M t xs (ev x) (ev y)
   |none=>storeS P M t (ev x) (ev y)
 | .insert t x k v=>insertS P Γ.eqs M t (ev x) (ev k) (ev v)
 | .mapUpdate t x k v=>insertS P Γ.eqs M t (ev x) (ev k) (ev v)
 | .call c=>match c.callee with
   | .builtin .append=>match c.args.toList,c.argTypes.toList with
     |[x,y],[t,u]=>match Nat.beq t u with
      |true=>appendS P M t (ev x) (ev y)
      |false=>.fail
     |_,_=>.fail
   | .value f=>bcallS Γ M (ev f) (evL ev c.args.toList)
   |_=>.fail
 |_=>.fail
theorem barS_good {P:Program}{G:World→Prop}{Γ:Env}(hΓ:EnvOk P G Γ){ev:Operand→SV}{M:List Blk}{o:Oper}:(barS P Γ ev M o).good (BarOk P G ev M o):=by
 unfold barS
 split
 . rename_i ho
   split
   . rename_i xs hx
     exact good_storeM ho hx
   . exact good_store ho
 . rename_i ho;exact good_insert hΓ.eqs (.inl ho)
 . rename_i ho;exact good_insert hΓ.eqs (.inr ho)
 . rename_i c ho
   obtain⟨callee,args,ts⟩:=c
   split
   . rename_i hc
     simp only at hc;subst hc
     split
     . rename_i x y t u h1 h2
       split
       . rename_i hb
         obtain rfl:t=u:=Nat.eq_of_beq_eq_true hb
         have e1:args = #[x,y]:=by apply Array.ext';exact h1
         have e2:ts = #[t,t]:=by apply Array.ext';exact h2
         subst e1 e2
         exact good_append ho
       . trivial
     . trivial
   . rename_i f hc
     simp only at hc;subst hc
     exact good_bcall hΓ ho
   . trivial
 . trivial
def setNth:List SV→Nat→SV→List SV
 |[],_,_=>[]
 |_::l,0,v=>v::l
 |x::l,n+1,v=>x::setNth l n v
theorem setNth_eq:∀ (l:List SV) (n:Nat) (v:SV),setNth l n v=l.set n v
 |[],_,_=>by simp[setNth]
 |_::_,0,_=>by simp[setNth]
 |_::l,n+1,v=>by simp[setNth,setNth_eq l n v]
def setF (F:List SV)(d:Option Nat)(v:SV):List SV:=match d with
 |some d=>setNth F d v
 |none=>F
def forceN (n:Nat)(k:Nat→Prop):Prop:=match n with
 |0=>k 0
 |1=>k 1
 |2=>k 2
 |3=>k 3
 |4=>k 4
 |5=>k 5
 |6=>k 6
 |7=>k 7
 |8=>k 8
 |9=>k 9
 |10=>k 10
 |11=>k 11
 |12=>k 12
 |13=>k 13
 |14=>k 14
 |15=>k 15
 |16=>k 16
 |17=>k 17
 |18=>k 18
 |19=>k 19
 |20=>k 20
 |21=>k 21
 |22=>k 22
 |23=>k 23
 |24=>k 24
 |25=>k 25
 |26=>k 26
 |27=>k 27
 |28=>k 28
 |29=>k 29
 |30=>k 30
 |31=>k 31
 |32=>k 32
 |33=>k 33
 |34=>k 34
 |35=>k 35
 |36=>k 36
 |37=>k 37
 |38=>k 38
 |39=>k 39
 |40=>k 40
 |41=>k 41
 |42=>k 42
 |43=>k 43
 |44=>k 44
 |45=>k 45
 |46=>k 46
 |47=>k 47
 |n=>k n
theorem forceN_eq (n:Nat)(k:Nat→Prop):forceN n k=k n:=by unfold forceN;split<;>rfl
def force1 (x:SV)(k:SV→Prop):Prop:=match x with
 | .junk=>k .junk
 | .val v=>k (.val v)
 | .tt=>k .tt
 | .ff=>k .ff
 | .bool b=>k (.bool b)
 | .int t n=>k (.int t n)
 | .u64 x=>k (.u64 x)
 | .agg xs=>k (.agg xs)
 | .tup xs=>k (.tup xs)
 | .ptr n off=>forceN n fun n=>forceN off fun off=>k (.ptr n off)
 | .ep n i sz j=>forceN n fun n=>forceN sz fun sz=>forceN j fun j=>k (.ep n i sz j)
 | .sl n sz off len=>forceN n fun n=>forceN sz fun sz=>k (.sl n sz off len)
 | .mp n=>forceN n fun n=>k (.mp n)
 | .yld n=>forceN n fun n=>k (.yld n)
 | .nilb n=>forceN n fun n=>k (.nilb n)
 | .arr n sz g=>k (.arr n sz g)
 | .mix xs=>k (.mix xs)
 | .fn f a b=>match a,b with
   |[],[]=>k (.fn f [] [])
   |a,b=>k (.fn f a b)
theorem force1_eq (x:SV)(k:SV→Prop):force1 x k=k x:=by
 cases x with
 |fn f a b=>cases a<;>cases b<;>rfl
 |_=>simp[force1,forceN_eq]
def forceL1:List SV→(List SV→Prop)→Prop
 |[],k=>k []
 |x::l,k=>force1 x fun y=>forceL1 l fun l'=>k (y::l')
theorem forceL1_eq:∀ (l:List SV) (k:List SV→Prop),forceL1 l k=k l
 |[],k=>rfl
 |x::l,k=>by simp only[forceL1,force1_eq,forceL1_eq l]
def force2 (x:SV)(k:SV→Prop):Prop:=match x with
 | .agg xs=>forceL1 xs fun ys=>k (.agg ys)
 |x=>force1 x k
theorem force2_eq (x:SV)(k:SV→Prop):force2 x k=k x:=by cases x<;>simp[force2,force1_eq,forceL1_eq]
def forceL2:List SV→(List SV→Prop)→Prop
 |[],k=>k []
 |x::l,k=>force2 x fun y=>forceL2 l fun l'=>k (y::l')
theorem forceL2_eq:∀ (l:List SV) (k:List SV→Prop),forceL2 l k=k l
 |[],k=>rfl
 |x::l,k=>by simp only[forceL2,force2_eq,forceL2_eq l]
def force3 (x:SV)(k:SV→Prop):Prop:=match x with
 | .agg xs=>forceL1 xs fun ys=>k (.agg ys)
 | .tup xs=>forceL2 xs fun ys=>k (.tup ys)
 | .fn f a b=>forceL2 a fun a=>forceL2 b fun b=>k (.fn f a b)
 | .mix xs=>forceL1 xs fun ys=>k (.mix ys)
 |x=>force1 x k
theorem force3_eq (x:SV)(k:SV→Prop):force3 x k=k x:=by cases x<;>simp[force3,force1_eq,forceL1_eq,forceL2_eq]
def spine {α:Type}:List α→(List α→Prop)→Prop
 |[],k=>k []
 |x::l,k=>spine l fun l'=>k (x::l')
theorem spine_eq {α:Type}:∀ (l:List α) (k:List α→Prop),spine l k=k l
 |[],k=>rfl
 |x::l,k=>by simp only[spine,spine_eq l]
def forceE:List (SV×SV)→(List (SV×SV)→Prop)→Prop
 |[],k=>k []
 |(a,b)::l,k=>force1 a fun a=>force3 b fun b=>forceE l fun l=>k ((a,b)::l)
theorem forceE_eq:∀ (l:List (SV×SV)) (k:List (SV×SV)→Prop),forceE l k=k l
 |[],k=>rfl
 |(a,b)::l,k=>by simp only[forceE,force1_eq,force3_eq,forceE_eq l]
def forceB (b:Blk)(k:Blk→Prop):Prop:=match b with
 | .dead=>k .dead
 | .cells ty xs=>forceL2 xs fun ys=>k (.cells ty ys)
 | .rc ty xs=>forceL2 xs fun ys=>k (.rc ty ys)
 | .ro sz n g=>k (.ro sz n g)
 | .fz sz n g=>k (.fz sz n g)
 | .own ty sz n g=>k (.own ty sz n g)
 | .map es=>forceE es fun es=>k (.map es)
 | .mix ty xs=>forceL2 xs fun ys=>k (.mix ty ys)
 | .fm n h=>k (.fm n h)
 | .lp T fe ps a b st=>k (.lp T fe ps a b st)
theorem forceB_eq (b:Blk)(k:Blk→Prop):forceB b k=k b:=by cases b<;>simp[forceB,forceL2_eq,forceE_eq]
def forceM:List Blk→(List Blk→Prop)→Prop
 |[],k=>k []
 |x::l,k=>forceB x fun y=>forceM l fun l'=>k (y::l')
theorem forceM_eq:∀ (l:List Blk) (k:List Blk→Prop),forceM l k=k l
 |[],k=>rfl
 |x::l,k=>by simp only[forceM,forceB_eq,forceM_eq l]
def addM (M nb:List Blk)(k:List Blk→Prop):Prop:=match nb with
 |[]=>k M
 |b::nb=>forceM (b::nb) fun nb'=>spine (M++nb') k
theorem addM_eq (M nb:List Blk)(k:List Blk→Prop):addM M nb k=k (M++nb):=by cases nb<;>simp[addM,forceM_eq,spine_eq]
def setFF (F:List SV)(d:Option Nat)(v:SV)(k:List SV→Prop):Prop:=match d with
 |none=>k F
 |some d=>spine (setNth F d v) k
theorem setFF_eq (F:List SV)(d:Option Nat)(v:SV)(k:List SV→Prop):setFF F d v k=k (setF F d v):=by cases d<;>simp[setFF,setF,spine_eq]
def wants (ops:List Oper)(F:List SV)(g:Option (Nat×Bool)):Option Bool:=match g with
 |none=>some true
 |some (j,want)=>match nth ops j with
  |some o=>match o.dst with
   |some d=>match nth F d with
    |some .tt=>some want
    |some .ff=>some (!want)
    |some (.tup [])=>some false
    |_=>none
   |none=>none
  |none=>none
def memN (i:Nat):List Nat→Bool
 |[]=>false
 |j::l=>Nat.beq i j||memN i l
def guardsOf:List Oper→List Nat
 |[]=>[]
 |o::l=>match o.guard with
  |some (j,_)=>j::guardsOf l
  |none=>guardsOf l
def scAll (m:Nat)(M:List Blk):Bool:=M.all (Blk.sc fun n=>decide (n<m))
def okArgs (args:List SV)(M:List Blk):Bool:=scL (fun n=>decide (n<M.length)) args&&scAll M.length M&&njL args
def chk (M:List Blk)(sv:SV)(nb:List Blk):Bool:=sv.sc (fun n=>decide (n<M.length+nb.length))&&scAll (M.length+nb.length) nb
abbrev YH:=SV→List SV→List Blk→(Option Value→SV→List Blk→Prop)→Prop
abbrev KT:=Option Value→List SV→List Blk→Prop
def panOf (o:Oper):Option Operand:=match o.op with
 | .panic x=>some x
 |_=>none
def panV:SV→Option Value
 | .val v=>match v with
   | .iface t x=>some (.iface t x)
   |_=>none
 |_=>none
def callOf (Γ:Env)(F:List SV)(o:Oper):Option (SV×List SV):=match o.op with
 | .call c=>match c.callee with
   | .value f=>match evS F f with
     | .yld n=>some (.yld n,evL (evS F) c.args.toList)
     | .fn (.func g) fst cap=>match findX Γ.ys g with
       |some _=>some (.fn (.func g) fst cap,evL (evS F) c.args.toList)
       |none=>match findI Γ.iters g with
        |some _=>some (.fn (.func g) fst cap,evL (evS F) c.args.toList)
        |none=>none
     |_=>none
   |_=>none
 |_=>none
def stepOp (P:Program)(Γ:Env)(Y:YH)(ops:List Oper)(gs:List Nat)(o:Oper)(ih:Nat→List SV→List Blk→KT→Prop)(i:Nat)(F:List SV)(M:List Blk)(K:KT):Prop:=
 match wants ops F o.guard with
    |none=>False
    |some false=>setFF F o.dst (.tup []) fun F'=>ih (i+1) F' M K
    |some true=>match callOf Γ F o with
     |some (f,args)=>match njL args with
      |true=>Y f args M fun p sv M'=>match p with
       |some v=>K (some v) F M'
       |none=>force3 sv fun sv=>match sv.sc (fun n=>decide (n<M'.length)) with
        |true=>match memN i gs with
         |false=>setFF F o.dst sv fun F'=>ih (i+1) F' M' K
         |true=>match sv with
          | .tt=>setFF F o.dst .tt fun F'=>ih (i+1) F' M' K
          | .ff=>setFF F o.dst .ff fun F'=>ih (i+1) F' M' K
          | .bool b=>(b=true→setFF F o.dst .tt fun F'=>ih (i+1) F' M' K)∧(b=false→setFF F o.dst .ff fun F'=>ih (i+1) F' M' K)
          |_=>False
        |false=>False
      |false=>False
     |none=>match panOf o with
     |some x=>match panV (evS F x) with
      |some v=>K (some v) F M
      |none=>False
     |none=>match isBarG Γ (evS F) o with
     |true=>(barS P Γ (evS F) M o).run fun sv M'=>force3 sv fun sv=>forceM M' fun M'=>match sv.sc (fun n=>decide (n<M'.length))&&scAll M'.length M'&&Nat.ble M.length M'.length with
      |true=>setFF F o.dst sv fun F'=>ih (i+1) F' M' K
      |false=>False
     |false=>(stepH P Γ (evS F) M o).run fun sv nb=>force3 sv fun sv=>match chk M sv nb with
      |false=>False
      |true=>addM M nb fun M'=>match memN i gs with
       |false=>setFF F o.dst sv fun F'=>ih (i+1) F' M' K
       |true=>match sv with
        | .tt=>setFF F o.dst .tt fun F'=>ih (i+1) F' M' K
        | .ff=>setFF F o.dst .ff fun F'=>ih (i+1) F' M' K
        | .bool b=>(b=true→setFF F o.dst .tt fun F'=>ih (i+1) F' M' K)∧(b=false→setFF F o.dst .ff fun F'=>ih (i+1) F' M' K)
        |_=>False
def runOps (P:Program)(Γ:Env)(Y:YH)(ops:List Oper)(gs:List Nat)(os:List Oper):Nat→List SV→List Blk→KT→Prop:=
 List.rec (motive:=fun _=>Nat→List SV→List Blk→KT→Prop) (fun _ F M K=>K none F M) (fun o _ ih=>stepOp P Γ Y ops gs o ih) os
theorem runOps_cons (P:Program)(Γ:Env)(Y:YH)(ops:List Oper)(gs:List Nat)(o:Oper)(os:List Oper)(i:Nat)(F:List SV)(M:List Blk)(K:KT):
 runOps P Γ Y ops gs (o::os) i F M K=stepOp P Γ Y ops gs o (runOps P Γ Y ops gs os) i F M K:=rfl
def Marks (tl:List Deferred)(w0 w:World)(ds:List Deferred):Prop:=∃ rs:List Nat,ds=rs.map (fun r=>{target:=.collected r,args := #[]})++tl∧rs.Nodup∧∀ r∈rs,w0.heap.size≤r∧w.heap[r]? = some (Obj.deferred (some []))
theorem Marks.nil (tl:List Deferred)(w0 w:World):Marks tl w0 w tl:=⟨[],rfl,List.nodup_nil,by simp⟩
theorem Marks.keep {tl:List Deferred}{w0 w w':World}{ds:List Deferred}(h:Marks tl w0 w ds)(hk:∀ k:Nat,w.heap[k]? = some (Obj.deferred (some []))→w'.heap[k]? = some (Obj.deferred (some []))):Marks tl w0 w' ds:=by
 obtain⟨rs,h1,h2,h3⟩:=h
 exact⟨rs,h1,h2,fun r hr=>⟨(h3 r hr).1,hk r (h3 r hr).2⟩⟩
structure LD where
 n:Nat
 ds:List Deferred
structure Rel (B:Bd)(w0:World)(L:LD)(ρ:Val)(F:List SV)(M:List Blk)(a:Act)(w:World):Prop where
 marks:Marks L.ds w0 w a.defers
 len:F.length=L.n
 size:a.tmps.size=L.n
 slot:∀ (s:Nat) (sv:SV),F[s]? = some sv→sv ≠ .junk→a.tmps[s]? = some (sv.den ρ)
 scF:scL (fun n=>decide (n<M.length)) F=true
 scM:scAll M.length M=true
 mem:MRel B ρ M w
 below:Kept B w0 w
section
variable {P:Program}{G:World→Prop}{B:Bd}{w0:World}{L:LD}{ρ:Val}{F:List SV}{M:List Blk}{a:Act}{w:World}
theorem Rel.ev (h:Rel B w0 L ρ F M a w)(x:Operand)(hx:evS F x ≠ .junk):a.eval x=(evS F x).den ρ:=by
 cases x with
 |tmp t=>
  simp only[evS] at hx ⊢
  split at hx
  . rename_i sv hs
    rw[nth_eq] at hs
    have:=h.slot t sv hs hx
    simp only[nth_eq,hs,Act.eval,Array.getD_eq_getD_getElem?,this,Option.getD_some]
  . exact absurd rfl hx
 |const v=>simp only[evS,SV.ofV_den,Act.eval]
 |global g=>rfl
 |func f=>rfl
theorem scL_get {p:Nat→Bool}{l:List SV}(h:scL p l=true){s:Nat}{sv:SV}(hs:l[s]? = some sv):sv.sc p=true:=by
 rw[scL_eq,List.all_eq_true] at h
 exact h sv (List.mem_of_getElem? hs)
theorem scL_of {p:Nat→Bool}{l:List SV}(h:∀ (s:Nat) (sv:SV),l[s]? = some sv→sv.sc p=true):scL p l=true:=by
 rw[scL_eq,List.all_eq_true]
 intro x hx
 obtain⟨i,hi⟩:=List.getElem?_of_mem hx
 exact h i x hi
theorem evS_sc {p:Nat→Bool}{F:List SV}(h:scL p F=true)(x:Operand):(evS F x).sc p=true:=by
 cases x with
 |tmp t=>
  simp only[evS]
  split
  . rename_i sv hs
    rw[nth_eq] at hs
    exact scL_get h hs
  . rfl
 |const v=>exact SV.ofV_sc ..
 |global g=>rfl
 |func f=>rfl
theorem evL_sc {p:Nat→Bool}{F:List SV}(h:scL p F=true):∀ l:List Operand,scL p (evL (evS F) l)=true
 |[]=>rfl
 |x::l=>by simp only[evL,scL,Bool.and_eq_true];exact⟨evS_sc h x,evL_sc h l⟩
theorem setF_get {F:List SV}{d:Option Nat}{v:SV}{s:Nat}{sv:SV}(h:(setF F d v)[s]? = some sv):(d=some s∧sv=v)∨(d≠some s∧F[s]? = some sv):=by
 cases d with
 |none=>exact .inr ⟨by simp,h⟩
 |some d=>
  simp only[setF,setNth_eq,List.getElem?_set] at h
  split at h
  . rename_i e;subst e
    split at h
    . exact .inl ⟨rfl,(Option.some.inj h).symm⟩
    . cases h
  . rename_i hne;exact .inr ⟨by simpa using hne,h⟩
theorem setF_length (F:List SV)(d:Option Nat)(v:SV):(setF F d v).length=F.length:=by
 cases d<;>simp[setF,setNth_eq]
theorem put_tmps (a:Act)(d:Option Nat)(v:Value)(s:Nat):(a.put d v).tmps[s]? = if d=some s then (if s<a.tmps.size then some v else none) else a.tmps[s]? := by
 cases d with
 |none=>simp[Act.put]
 |some d=>
  simp only[Act.put,Array.getElem?_setIfInBounds,Option.some.injEq]
  split
  . rename_i e;subst e;rfl
  . rfl
theorem Rel.put {ρ':Val}{M':List Blk}{w':World}{sv:SV}{v:Value}{d:Option Nat}(h:Rel B w0 L ρ F M a w)(hlen:M.length≤M'.length)(hρ:∀ (s:Nat) (x:SV),F[s]? = some x→x ≠ .junk→x.den ρ'=x.den ρ)
  (hv:sv ≠ .junk→v=sv.den ρ') (hsc:sv.sc (fun n=>decide (n<M'.length))=true) (hM:MRel B ρ' M' w') (hscM:scAll M'.length M'=true) (hb:Kept B w w'):Rel B w0 L ρ' (setF F d sv) M' (a.put d v) w':=by
 refine⟨?_,?_,?_,fun s x hs hx => ?_,scL_of fun s x hs => ?_,hscM,hM,h.below.trans hb⟩
 . have:=h.marks.keep hb.dq
   cases d<;>exact this
 . rw[setF_length,h.len]
 . rw[← h.size];cases d<;>simp[Act.put]
 . rw[put_tmps]
   have hlt:s<F.length:=by rw[← setF_length F d sv];exact(List.getElem?_eq_some_iff.1 hs).1
   rcases setF_get hs with⟨rfl,rfl⟩ | ⟨hne,hs'⟩
   . rw[if_pos rfl,if_pos (by rw[h.size,← h.len];exact hlt),hv hx]
   . rw[if_neg hne,hρ s x hs' hx];exact h.slot s x hs' hx
 . rcases setF_get hs with⟨rfl,rfl⟩ | ⟨hne,hs'⟩
   . exact hsc
   . exact SV.sc_mono (fun n hn=>by simp only[decide_eq_true_eq] at hn ⊢;omega) x (scL_get h.scF hs')
theorem Rel.keepρ {ρ':Val}(h:Rel B w0 L ρ F M a w)(hρ:∀ n,n<M.length→ρ' n=ρ n):∀ (s:Nat) (x:SV),F[s]? = some x→x ≠ .junk→x.den ρ'=x.den ρ:=fun s x hs _=>
 SV.den_congr (p:=fun n=>decide (n<M.length)) (fun n hn=>hρ n (by simpa using hn)) x (scL_get h.scF hs)
theorem Rel.more {ρ':Val}{M':List Blk}{w':World}(h:Rel B w0 L ρ F M a w)(hlen:M.length≤M'.length)(hρ:∀ n,n<M.length→ρ' n=ρ n)(hM:MRel B ρ' M' w')(hscM:scAll M'.length M'=true)(hb:Kept B w w'):Rel B w0 L ρ' F M' a w':=
 h.put (d:=none) (sv:=.junk) (v:=undef) hlen (h.keepρ hρ) (fun e=>absurd rfl e) rfl hM hscM hb
theorem wants_spec {ops:List Oper}{o:Oper}{b:Bool}(h:Rel B w0 L ρ F M a w)(hw:wants ops F o.guard=some b):Region.wanted o (yielded ops.toArray a.tmps)=b:=by
 unfold wants at hw
 unfold Region.wanted
 split at hw
 . rename_i hg;rw[hg];exact Option.some.inj hw
 . rename_i j want hg
   rw[hg]
   simp only
   split at hw
   . rename_i oj hj
     split at hw
     . rename_i d hd
       have hy:∀ v,a.tmps[d]? = some v→yielded ops.toArray a.tmps j=(match v with | .bool b=>some b|_=>none):=by
        intro v hv
        rw[nth_eq] at hj
        have:(ops.toArray[j]?).bind (·.dst)=some d:=by simp[hj,hd]
        unfold yielded
        rw[this]
        simp only[Option.bind_some,hv]
        cases v<;>rfl
       split at hw
       . rename_i hs
         rw[nth_eq] at hs
         rw[hy _ (h.slot d _ hs (by simp)),← Option.some.inj hw]
         simp only[SV.den];cases want<;>rfl
       . rename_i hs
         rw[nth_eq] at hs
         rw[hy _ (h.slot d _ hs (by simp)),← Option.some.inj hw]
         simp only[SV.den];cases want<;>rfl
       . rename_i hs
         rw[nth_eq] at hs
         rw[hy _ (h.slot d _ hs (by simp)),← Option.some.inj hw]
         simp only[SV.den];cases want<;>rfl
       . cases hw
     . cases hw
   . cases hw
theorem chk_spec {M:List Blk}{sv:SV}{nb:List Blk}(h:chk M sv nb=true)(hM:scAll M.length M=true):sv.sc (fun n=>decide (n < (M++nb).length))=true∧scAll (M++nb).length (M++nb)=true:=by
 simp only[chk,Bool.and_eq_true] at h
 refine⟨by rw[List.length_append];exact h.1,?_⟩
 unfold scAll at *
 rw[List.all_append,Bool.and_eq_true,List.length_append]
 refine⟨?_,h.2⟩
 rw[List.all_eq_true] at hM ⊢
 intro b hb
 have:=hM b hb
 cases b with
 |cells ty xs=>exact scL_mono (fun n hn=>by simp only[decide_eq_true_eq] at hn ⊢;omega) xs this
 |rc ty xs=>exact scL_mono (fun n hn=>by simp only[decide_eq_true_eq] at hn ⊢;omega) xs this
 |mix ty xs=>exact scL_mono (fun n hn=>by simp only[decide_eq_true_eq] at hn ⊢;omega) xs this
 |map es=>
  simp only[Blk.sc,Bool.and_eq_true] at this ⊢
  exact⟨scL_mono (fun n hn=>by simp only[decide_eq_true_eq] at hn ⊢;omega) _ this.1,scL_mono (fun n hn=>by simp only[decide_eq_true_eq] at hn ⊢;omega) _ this.2⟩
 |lp T fe ps asg bd st=>exact scL_mono (fun n hn=>by simp only[decide_eq_true_eq] at hn ⊢;omega) fe this
 |_=>rfl
abbrev Fe (ro:Option Nat):Fence:={fn:=fun _=>True,depth:=none,alive:=false,round:=ro}
theorem notDef {o:Oper}(h:isDef o=false):∀ c,o.op ≠ .defer c:=fun c e=>by simp[isDef,e] at h
theorem wp_in {o:Oper}{ro:Option Nat}{n:Nat}{K:Act→World→Prop}{Q:Exit→Act→World→Prop}(hd:isDef o=false)(h:o.wp P a w K Q):o.wpIn (Fe ro) n P a w K Q:=by
 unfold Oper.wpIn
 refine⟨fun _ _=>trivial,?_⟩
 rw[Oper.semAt_eq _ _ _ (notDef hd)]
 unfold Oper.wp at h
 generalize (execOp a.eval o).run P w=r at *
 cases r with
 |ok x w'=>
  cases x<;>simp only[Oper.upon,Oper.uponIn] at h ⊢
  case value=>exact h
  case skip=>exact h
  case defer=>exact h
  case enter f args=>exact⟨fun h0=>by simp at h0,callsIn_wide.2 h⟩
  case row row args=>
   refine⟨fun h0=>by simp at h0,fun c cs _ => ?_⟩
   obtain⟨v,w',h1,h2⟩:=h c cs
   exact⟨v,w',h1,stepsIn_wide.2 h2⟩
 |halt x w'=>cases x<;>simp only[Oper.upon,Oper.uponIn] at h ⊢<;>exact h
def GoesIn (ro:Option Nat)(P:Program)(nx:Next)(w:World)(R:Ending→World→Prop):Prop:=match nx with
 | .enter g vs=>CallsIn (Fe ro) 0 P g vs w R
 | .round l f tmps asg bd=>RoundIn (Fe ro) 0 P l f tmps asg bd w R
 |_=>False
def YOk (P:Program)(G:World→Prop)(B:Bd)(ro:Option Nat)(Y:YH):Prop:=∀ (f:SV) (args:List SV) (M:List Blk) (K:Option Value→SV→List Blk→Prop) (ρ:Val) (w:World),Y f args M K→f.sc (fun n=>decide (n<M.length))=true→okArgs args M=true→MRel B ρ M w→(∀ w',Kept B w w'→G w')→
 ∃ nx,(do let d ← Deferred.ofValue (f.den ρ) (denL ρ args).toArray;invoke d.target d.args:Sem Next).run P w = .ok nx w∧
   GoesIn ro P nx w fun e w'=>∃ (p:Option Value) (sv:SV) (M':List Blk) (ρ':Val),e=endS p sv ρ'∧K p sv M'∧MRel B ρ' M' w'∧scAll M'.length M'=true∧M.length≤M'.length∧(∀ k,k<M.length→ρ' k=ρ k)∧Kept B w w'
theorem stepOp_sound (hG:∀ w,Kept B w0 w→G w){Γ:Env}(hΓ:EnvOk P G Γ){ro:Option Nat}{Y:YH}(hY:YOk P G B ro Y){ops:List Oper}{gs:List Nat}{K:KT}{Q:Exit→Act→World→Prop}{z:Nat}{ρ0:Val}{o:Oper}
  {ih:Nat→List SV→List Blk→KT→Prop} {W:Act→World→Prop}
  (hQP:∀ (v:Value) (F':List SV) (M':List Blk) (ρ':Val) (a':Act) (w':World),Rel B w0 L ρ' F' M' a' w'→z≤M'.length→(∀ n,n<z→ρ' n=ρ0 n)→K (some v) F' M'→Q (.panic [{v,recovered:=false}]) a' w')
  (hih:∀ (i:Nat) (F':List SV) (M':List Blk) (ρ':Val) (a':Act) (w':World),z≤M'.length→(∀ n,n<z→ρ' n=ρ0 n)→ih i F' M' K→Rel B w0 L ρ' F' M' a' w'→W a' w')
  (i:Nat) (F:List SV) (M:List Blk) (ρ:Val) (a:Act) (w:World) (hnd:isDef o=false) (hz:z≤M.length) (hρz:∀ n,n<z→ρ n=ρ0 n) (h:stepOp P Γ Y ops gs o ih i F M K) (hR:Rel B w0 L ρ F M a w):
  if Region.wanted o (yielded ops.toArray a.tmps)=true then o.wpIn (Fe ro) 0 P a w W Q else (∀ f,o.about P w a.eval=some f→(Fe ro).fn f)∧W (a.put o.dst undef) w:=by
 unfold stepOp at h
 simp only[force3_eq,forceM_eq,addM_eq,setFF_eq,spine_eq] at h
 split at h
 . exact h.elim
 . rename_i hw
   rw[wants_spec hR hw,if_neg (by simp)]
   exact⟨fun _ _=>trivial,hih _ _ _ ρ _ _ hz hρz h (hR.put (Nat.le_refl _) (fun _ _ _ _=>rfl) (fun _=>rfl) rfl hR.mem hR.scM (Kept.refl _ _))⟩
 . rename_i hw
   rw[wants_spec hR hw,if_pos rfl]
   have hev:∀ x∈o.op.operands,evS F x ≠ .junk→a.eval x=(evS F x).den ρ:=fun x _ hx=>hR.ev x hx
   split at h
   ·
    rename_i f args hy
    split at h
    . rename_i hnj
      have hcall:∃ (fo:Operand) (cargs:Array Operand) (ts:Array TypeId),o.op = .call ⟨.value fo,cargs,ts⟩∧evS F fo=f∧f ≠ .junk∧args=evL (evS F) cargs.toList:=by
       unfold callOf at hy
       split at hy
       . rename_i c hop
         obtain⟨callee,cargs,ts⟩:=c
         split at hy
         . rename_i fo hc
           simp only at hc;subst hc
           split at hy
           . rename_i n' hf
             simp only[Option.some.injEq,Prod.mk.injEq] at hy
             obtain⟨rfl,rfl⟩:=hy
             exact⟨fo,cargs,ts,hop,hf,by simp,rfl⟩
           . rename_i g fst cap hf
             split at hy
             . simp only[Option.some.injEq,Prod.mk.injEq] at hy
               obtain⟨rfl,rfl⟩:=hy
               exact⟨fo,cargs,ts,hop,hf,by simp,rfl⟩
             . split at hy
               . simp only[Option.some.injEq,Prod.mk.injEq] at hy
                 obtain⟨rfl,rfl⟩:=hy
                 exact⟨fo,cargs,ts,hop,hf,by simp,rfl⟩
               . cases hy
           . cases hy
         . cases hy
       . cases hy
      obtain⟨fo,cargs,ts,hop,hf,hfj,rfl⟩:=hcall
      have h1:=hR.ev fo (by rw[hf];exact hfj)
      rw[hf] at h1
      have h2:=evL_eval (a:=a) (ρ:=ρ) (ev:=evS F) cargs.toList (fun x _ hx=>hR.ev x hx) hnj
      have e2:cargs.map a.eval=(denL ρ (evL (evS F) cargs.toList)).toArray:=by rw[← h2];apply Array.ext';simp
      have hok:okArgs (evL (evS F) cargs.toList) M=true:=by
       simp only[okArgs,Bool.and_eq_true]
       exact⟨⟨evL_sc hR.scF cargs.toList,hR.scM⟩,hnj⟩
      obtain⟨nx,hrun,hgoes⟩:=hY f _ M _ ρ w h (by rw[← hf];exact evS_sc hR.scF fo) hok hR.mem (fun w' hw'=>hG w' (hR.below.trans hw'))
      have hr:(execOp a.eval o).run P w = .ok nx w:=by
       have e:execOp a.eval o=(do let d ← Deferred.ofValue (a.eval fo) (cargs.map a.eval);invoke d.target d.args):=by simp only[execOp,hop,resolve]
       rw[e,h1,e2];exact hrun
      have fin:∀ (v:Value) (w':World),(∃ (p:Option Value) (sv:SV) (M':List Blk) (ρ':Val),Ending.returned v=endS p sv ρ'∧(match p with
       |some v=>K (some v) F M'
       |none=>match sv.sc (fun n=>decide (n<M'.length)) with
        |true=>match memN i gs with
         |false=>ih (i+1) (setF F o.dst sv) M' K
         |true=>match sv with
          | .tt=>ih (i+1) (setF F o.dst .tt) M' K
          | .ff=>ih (i+1) (setF F o.dst .ff) M' K
          | .bool b=>(b=true→ih (i+1) (setF F o.dst .tt) M' K)∧(b=false→ih (i+1) (setF F o.dst .ff) M' K)
          |_=>False
        |false=>False)∧MRel B ρ' M' w'∧scAll M'.length M'=true∧M.length≤M'.length∧(∀ k,k<M.length→ρ' k=ρ k)∧Kept B w w')→W (a.put o.dst v) w':=by
       rintro v w' ⟨p,sv,M',ρ',hv,hK,hM',hsc',hlen,hρ,hb⟩
       cases p with
       |some v'=>cases hv
       |none=>
       simp only at hK
       obtain rfl:v=sv.den ρ':=by injection hv
       have hz':z≤M'.length:=by omega
       have hρz':∀ n,n<z→ρ' n=ρ0 n:=fun n hn=>by rw[hρ n (by omega),hρz n hn]
       split at hK
       . rename_i hs
         split at hK
         . exact hih _ _ _ ρ' _ w' hz' hρz' hK (hR.put hlen (hR.keepρ hρ) (fun _=>rfl) hs hM' hsc' hb)
         . split at hK
           . exact hih _ _ _ ρ' _ w' hz' hρz' hK (hR.put hlen (hR.keepρ hρ) (fun _=>rfl) rfl hM' hsc' hb)
           . exact hih _ _ _ ρ' _ w' hz' hρz' hK (hR.put hlen (hR.keepρ hρ) (fun _=>rfl) rfl hM' hsc' hb)
           . rename_i b
             cases b
             . exact hih _ _ _ ρ' _ w' hz' hρz' (hK.2 rfl) (hR.put (sv:=.ff) hlen (hR.keepρ hρ) (fun _=>rfl) rfl hM' hsc' hb)
             . exact hih _ _ _ ρ' _ w' hz' hρz' (hK.1 rfl) (hR.put (sv:=.tt) hlen (hR.keepρ hρ) (fun _=>rfl) rfl hM' hsc' hb)
           . exact hK.elim
       . exact hK.elim
      have pan:∀ (c:List PanicEntry) (w':World),(∃ (p:Option Value) (sv:SV) (M':List Blk) (ρ':Val),Ending.panicked c=endS p sv ρ'∧(match p with
       |some v=>K (some v) F M'
       |none=>match sv.sc (fun n=>decide (n<M'.length)) with
        |true=>match memN i gs with
         |false=>ih (i+1) (setF F o.dst sv) M' K
         |true=>match sv with
          | .tt=>ih (i+1) (setF F o.dst .tt) M' K
          | .ff=>ih (i+1) (setF F o.dst .ff) M' K
          | .bool b=>(b=true→ih (i+1) (setF F o.dst .tt) M' K)∧(b=false→ih (i+1) (setF F o.dst .ff) M' K)
          |_=>False
        |false=>False)∧MRel B ρ' M' w'∧scAll M'.length M'=true∧M.length≤M'.length∧(∀ k,k<M.length→ρ' k=ρ k)∧Kept B w w')→Q (.panic c) a w':=by
       rintro c w' ⟨p,sv,M',ρ',hv,hK,hM',hsc',hlen,hρ,hb⟩
       cases p with
       |none=>cases hv
       |some v'=>
        obtain rfl:c=[{v:=v',recovered:=false}]:=by injection hv
        exact hQP v' F M' ρ' a w' (hR.more hlen hρ hM' hsc' hb) (by omega) (fun n hn=>by rw[hρ n (by omega),hρz n hn]) hK
      unfold Oper.wpIn
      refine⟨fun _ _=>trivial,?_⟩
      rw[Oper.semAt_eq _ _ _ (fun c e=>by rw[hop] at e;cases e),hr]
      cases nx with
      |enter g vs=>
       refine⟨fun h0=>by simp at h0,CallsIn.mono hgoes fun e w' he => ?_⟩
       cases e with
       |returned v=>exact fin v w' he
       |panicked c=>exact pan c w' he
       |outgrown=>obtain⟨p,_,_,_,e,_⟩:=he;cases p<;>cases e
      |round l f tmps asg bd=>
       refine⟨fun h0=>by simp at h0,RoundIn.mono hgoes fun e w' he => ?_⟩
       cases e with
       |returned v=>exact fin v w' he
       |panicked c=>exact pan c w' he
       |outgrown=>obtain⟨p,_,_,_,e,_⟩:=he;cases p<;>cases e
      |_=>exact hgoes.elim
    . exact h.elim
   . split at h
     ·
        rename_i x hp
        have hop:o.op = .panic x:=by
         unfold panOf at hp
         split at hp
         . rename_i y hop;rw[hop];exact congrArg _ (Option.some.inj hp)
         . cases hp
        split at h
        . rename_i v hv
          have hval:∃ t u,evS F x = .val (.iface t u)∧v = .iface t u:=by
           unfold panV at hv
           split at hv
           . rename_i v0 e0
             split at hv
             . rename_i t u;exact⟨t,u,e0,(Option.some.inj hv).symm⟩
             . cases hv
           . cases hv
          obtain⟨t,u,e0,rfl⟩:=hval
          have h1:=hR.ev x (by rw[e0];simp)
          rw[e0] at h1
          refine wp_in (ro:=ro) hnd ?_
          have hr:(execOp a.eval o).run P w = .halt (.panic (.iface t u)) w:=by
           unfold execOp
           rw[hop]
           simp only[h1,SV.den]
           rfl
          unfold Oper.wp
          rw[hr]
          exact hQP _ F M ρ a w hR hz hρz h
        . exact h.elim
     refine wp_in (ro:=ro) hnd ?_
     split at h
     . obtain⟨sv,M',hK,hB⟩:=BRes.good_run _ h (barS_good hΓ)
       split at hK
       . rename_i hc
         simp only[Bool.and_eq_true] at hc
         have hlen:=Nat.le_of_ble_eq_true hc.2
         refine hB B ρ a w _ Q hev hR.scM hR.mem (fun w1 h1=>hG w1 (hR.below.trans h1)) fun ρ' w' v hv hρ hb hM' => ?_
         exact hih _ _ _ ρ' _ w' (by omega) (fun n hn=>by rw[hρ n (by omega),hρz n hn]) hK (hR.put hlen (hR.keepρ hρ) hv hc.1.1 hM' hc.1.2 hb)
       . exact hK.elim
     . obtain⟨sv,nb,hK,hO⟩:=Res.good_run _ h (stepH_good hΓ)
       split at hK
       . exact hK.elim
       . rename_i hc
         obtain⟨hc1,hc2⟩:=chk_spec hc hR.scM
         refine hO B ρ a w _ Q hev hR.mem (hG w hR.below) fun ρ' w' v hv hρ hb hn => ?_
         have hold':Val.Ext w.heap.size (fun n=>n<M.length) ρ ρ':=hρ.mono (fun n hn'=>by omega) (Nat.le_refl _)
         have hold:∀ n,n<M.length→ρ' n=ρ n:=hold'.eq
         have hz':z≤(M++nb).length:=by simp;omega
         have hρz':∀ n,n<z→ρ' n=ρ0 n:=fun n hn=>by rw[hold n (by omega),hρz n hn]
         have next:∀ sv',(sv' ≠ .junk→v=sv'.den ρ')→sv'.sc (fun n=>decide (n < (M++nb).length))=true→Rel B w0 L ρ' (setF F o.dst sv') (M++nb) (a.put o.dst v) w':=fun sv' hv' hs'=>
           hR.put (by simp) (hR.keepρ hold) hv' hs' (hR.mem.grown hR.scM hold' hb hn) hc2 (Kept.of_below hR.mem.size hb)
         split at hK
         . exact hih _ _ _ ρ' _ w' hz' hρz' hK (next sv hv hc1)
         . split at hK
           . exact hih _ _ _ ρ' _ w' hz' hρz' hK (next _ hv rfl)
           . exact hih _ _ _ ρ' _ w' hz' hρz' hK (next _ hv rfl)
           . rename_i b
             cases b
             . exact hih _ _ _ ρ' _ w' hz' hρz' (hK.2 rfl) (next _ (fun _=>hv (by simp)) rfl)
             . exact hih _ _ _ ρ' _ w' hz' hρz' (hK.1 rfl) (next _ (fun _=>hv (by simp)) rfl)
           . exact hK.elim
theorem runOps_list (hG:∀ w,Kept B w0 w→G w){Γ:Env}(hΓ:EnvOk P G Γ){ro:Option Nat}{Y:YH}(hY:YOk P G B ro Y){ops:List Oper}{gs:List Nat}{K:KT}{Q:Exit→Act→World→Prop}{z:Nat}{ρ0:Val}
  (hQ:∀ F' M' ρ' a' w',Rel B w0 L ρ' F' M' a' w'→z≤M'.length→(∀ n,n<z→ρ' n=ρ0 n)→K none F' M'→Q .normal a' w')
  (hQP:∀ (v:Value) (F':List SV) (M':List Blk) (ρ':Val) (a':Act) (w':World),Rel B w0 L ρ' F' M' a' w'→z≤M'.length→(∀ n,n<z→ρ' n=ρ0 n)→K (some v) F' M'→Q (.panic [{v,recovered:=false}]) a' w'):
  ∀ (os:List Oper) (i:Nat) (F:List SV) (M:List Blk) (ρ:Val) (a:Act) (w:World),(os.all fun o => !isDef o)=true→z≤M.length→(∀ n,n<z→ρ n=ρ0 n)→runOps P Γ Y ops gs os i F M K→Rel B w0 L ρ F M a w→wpListIn (Fe ro) 0 P ops.toArray Q os a w
 |[],i,F,M,ρ,a,w,_,hz,hρz,h,hR=>hQ F M ρ a w hR hz hρz h
 |o::os,i,F,M,ρ,a,w,hnd,hz,hρz,h,hR=>by
  simp only[List.all_cons,Bool.and_eq_true,Bool.not_eq_true'] at hnd
  rw[runOps_cons] at h
  unfold wpListIn
  exact stepOp_sound (W:=wpListIn (Fe ro) 0 P ops.toArray Q os) hG hΓ hY hQP (fun i' F' M' ρ' a' w' hz' hρz' hK hR'=>runOps_list hG hΓ hY (ops:=ops) (gs:=gs) hQ hQP os i' F' M' ρ' a' w' hnd.2 hz' hρz' hK hR') i F M ρ a w hnd.1 hz hρz h hR
end
end Go.Sx
