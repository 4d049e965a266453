import Derived.Test.YtfjemlegodhfnaaGreatM02
set_option linter.all false
namespace Go.Sx
open Go.RowKit Go.Proofs.YtfjemlegodhfnaaGreat
def celB:Option Blk→Option (List SV)
 |some (.cells _ xs)=>some xs
 |some (.rc _ xs)=>some xs
 |_=>none
theorem celB_ok {B:Bd}{ρ:Val}{M:List Blk}{w:World}{n:Nat}{xs:List SV}(hM:MRel B ρ M w)(h:celB (nth M n)=some xs):∃ l ty,ρ n=some l∧l.off=0∧w.heap[l.blk]? = some (.cells (denL ρ xs).toArray ty (0,0)):=by
 unfold celB at h
 split at h
 . rename_i ty ys hn
   obtain rfl:=Option.some.inj h
   obtain⟨l,hl,h0,_,hh⟩:=hM.ok n _ (by rw[← nth_eq];exact hn)
   exact⟨l,ty,hl,h0,hh⟩
 . rename_i ty ys hn
   obtain rfl:=Option.some.inj h
   obtain⟨l,hl,h0,_,hh⟩:=hM.ok n _ (by rw[← nth_eq];exact hn)
   exact⟨l,ty,hl,h0,hh⟩
 . cases h
inductive Res where
 |fail
 |ok (sv:SV) (nb:List Blk)
 |test (b:Bool) (r:Res)
 |split (b:Bool) (r s:Res)
def Res.run (r:Res):(SV→List Blk→Prop)→Prop:=
 Res.rec (motive:=fun _=>(SV→List Blk→Prop)→Prop) (fun _=>False) (fun sv nb K=>K sv nb) (fun b _ ih K=>b=true∧ih K) (fun b _ _ ih jh K=>(b=true→ih K)∧(b=false→jh K)) r
theorem Res.run_ok {G:SV→List Blk→Prop}{K:SV→List Blk→Prop}:∀ (r:Res),r.run K→(r.run fun sv nb=>G sv nb)→∃ sv nb,K sv nb∧G sv nb
 | .fail,h,_=>h.elim
 | .ok sv nb,h,g=>⟨sv,nb,h,g⟩
 | .test _ r,h,g=>Res.run_ok r h.2 g.2
 | .split true r _,h,g=>Res.run_ok r (h.1 rfl) (g.1 rfl)
 | .split false _ s,h,g=>Res.run_ok s (h.2 rfl) (g.2 rfl)
def SV.ofU (n:Int):SV:=match decide (0≤n),decide (n<18446744073709551616) with
    |true,true=>.u64 (BitVec.ofInt 64 n)
    |_,_=>.val (.int .u64 n)
def SV.ofW:Value→SV
 | .bool true=>.tt
 | .bool false=>.ff
 | .int .u64 n=>SV.ofU n
 | .int k n=>.int k n
 |v=>.val v
def SV.ofV:Value→SV
 | .agg vs=>.agg (vs.toList.map SV.ofW)
 |v=>SV.ofW v
theorem SV.ofU_den (ρ:Val)(n:Int):(SV.ofU n).den ρ = .int .u64 n:=by
 unfold SV.ofU
 split
 . rename_i h1 h2
   simp only[decide_eq_true_eq] at h1 h2
   simp only[SV.den];rw[uv_of 64 n h1 (by simpa using h2)]
 . rfl
theorem SV.ofW_den (ρ:Val)(v:Value):(SV.ofW v).den ρ=v:=by
 cases v with
 |bool b=>cases b<;>rfl
 |int k n=>cases k<;>first|rfl|exact SV.ofU_den ρ n
 |_=>rfl
theorem SV.ofV_den (ρ:Val)(v:Value):(SV.ofV v).den ρ=v:=by
 unfold SV.ofV
 split
 . rename_i vs
   simp only[SV.den,denL_eq,List.map_map]
   congr 1
   apply Array.ext'
   rw[show(SV.den ρ ∘ SV.ofW)=id from funext fun v=>SV.ofW_den ρ v]
   simp
 . exact SV.ofW_den ρ _
theorem SV.ofU_sc (p:Nat→Bool)(n:Int):(SV.ofU n).sc p=true:=by unfold SV.ofU;split<;>rfl
theorem SV.ofW_sc (p:Nat→Bool)(v:Value):(SV.ofW v).sc p=true:=by
 cases v with
 |bool b=>cases b<;>rfl
 |int k n=>cases k<;>first|rfl|exact SV.ofU_sc p n
 |_=>rfl
theorem SV.ofV_sc (p:Nat→Bool)(v:Value):(SV.ofV v).sc p=true:=by
 unfold SV.ofV
 split
 . rename_i vs
   simp only[SV.sc,scL_eq,List.all_eq_true,List.mem_map]
   rintro x ⟨y,_,rfl⟩
   exact SV.ofW_sc p y
 . exact SV.ofW_sc p _
def evS (F:List SV):Operand→SV
 | .tmp t=>match nth F t with
   |some x=>x
   |none=>.junk
 | .const v=>.ofV v
 | .global g=>.val (.pointer (some ⟨g,0,none⟩))
 | .func f=>.fn (.func f) [] []
def SV.nj:SV→Bool
 | .junk=>false
 |_=>true
theorem SV.nj_ne {x:SV}(h:x.nj=true):x ≠ .junk:=by rintro rfl;cases h
def cellsS:SV→Option (List SV)
 | .agg xs=>some xs
 | .junk=>none
 | .tup _=>none
 | .val (.agg _)=>none
 | .val (.tuple _)=>none
 | .arr .. => none
 | .mix _=>none
 |x=>some [x]
theorem cellsS_den {ρ:Val}{x:SV}{xs:List SV}(h:cellsS x=some xs):(x.den ρ).cells=(denL ρ xs).toArray∧x ≠ .junk:=by
 cases x with
 |junk=>cases h
 |tup=>cases h
 |arr=>cases h
 |mix=>cases h
 |agg ys=>obtain rfl:ys=xs:=Option.some.inj h;exact⟨rfl,by simp⟩
 |val v=>cases v<;>first | (obtain rfl:=Option.some.inj h;exact⟨rfl,by simp⟩) | (cases h)
 |_=>obtain rfl:=Option.some.inj h;exact⟨rfl,by simp⟩
def SV.one:SV→Bool
 | .agg _=>false
 | .junk=>false
 | .tup _=>false
 | .arr .. => false
 | .mix _=>false
 | .val (.agg _)=>false
 | .val (.tuple _)=>false
 |_=>true
theorem SV.one_den {ρ:Val}{x:SV}(h:x.one=true):(x.den ρ).oneCell'=true:=by
 cases x with
 |junk=>cases h
 |tup=>cases h
 |agg ys=>cases h
 |arr=>cases h
 |mix=>cases h
 |val v=>cases v<;>first|rfl | (cases h)
 |_=>rfl
section
variable (P:Program)
def sizeS (t:TypeId):Option Nat:=match P.info? t with
 |some i=>some i.size
 |none=>none
def zeroS (t:TypeId):Option (List SV):=match P.info? t with
 |some i=>match i.zero with
  |some z=>some (z.cells.toList.map SV.ofV)
  |none=>none
 |none=>none
def aggS (t:TypeId):Option Bool:=match P.underlying t with
 |some (.struct _)=>some true
 |some (.array _ _)=>some true
 |some _=>some false
 |none=>none
def partS (t:TypeId)(xs:List SV)(off:Nat):Option SV:=match aggS P t with
 |some true=>match sizeS P t with
  |some n=>match Nat.ble (off+n) xs.length with
   |true=>some (.agg ((xs.drop off).take n))
   |false=>none
  |none=>none
 |some false=>match nth xs off with
  |some x=>match x.nj with
   |true=>some x
   |false=>none
  |none=>none
 |none=>none
def fieldS (t:TypeId)(f:Nat):Option Field:=match P.underlying t with
 |some (.struct fs)=>nth fs.toList f
 |_=>none
def placesS:List Field→Option (List (Nat×Nat))
 |[]=>some []
 |f::fs=>match sizeS P f.type,placesS fs with
  |some n,some l=>some ((f.offset,n)::l)
  |_,_=>none
end
def fillS (place:Nat→Option (Nat×Nat))(cells:List SV):List (Nat×SV)→Option (List SV)
 |[]=>some cells
 |(i,v)::rest=>match place i,cellsS v with
  |some (off,n),some cs=>match Nat.beq cs.length n,Nat.ble (off+n) cells.length with
   |true,true=>fillS place (cells.take off++cs++cells.drop (off+n)) rest
   |_,_=>none
  |_,_=>none
theorem foldl_set (off:Nat):∀ (cs:List Value) (k:Nat) (cells:Array Value),off+k+cs.length≤cells.size→
  ((cs.zipIdx k).foldl (fun a (p:Value×Nat)=>a.setIfInBounds (off+p.2) p.1) cells).toList=cells.toList.take (off+k)++cs++cells.toList.drop (off+k+cs.length)
 |[],k,cells,h=>by simp
 |c::cs,k,cells,h=>by
  simp only[List.zipIdx_cons,List.foldl_cons]
  rw[foldl_set off cs (k+1) _ (by simp at h ⊢;omega)]
  apply List.ext_getElem?
  intro i
  simp only[List.length_cons] at h
  simp only[Array.toList_setIfInBounds,List.getElem?_append,List.length_take,List.length_set,Array.length_toList,List.getElem?_take,List.getElem?_drop,List.getElem?_set,List.length_append,List.length_cons]
  rcases Nat.lt_trichotomy i (off+k) with hi|hi|hi
  . simp[show i<off+(k+1) by omega,show i<min (off+(k+1)) cells.size+cs.length by omega,show i<min (off+(k+1)) cells.size by omega,hi,show i<min (off+k) cells.size+(cs.length+1) by omega,show i<min (off+k) cells.size by omega,show off+k≠i by omega]
  . subst hi
    simp[show off+k<off+(k+1) by omega,show off+k<min (off+(k+1)) cells.size by omega,show ¬ off+k<min (off+k) cells.size by omega,show off+k<min (off+(k+1)) cells.size+cs.length by omega,show off+k<min (off+k) cells.size+(cs.length+1) by omega,show off+k-min (off+k) cells.size=0 by omega,show off+k<cells.size by omega]
  . rw[show min (off+(k+1)) cells.size=off+k+1 by omega,show min (off+k) cells.size=off+k by omega]
    simp only[show ¬ i<off+k+1 by omega,show ¬ i<off+k by omega,if_false]
    rw[show i - (off+k)=(i - (off+k+1))+1 by omega,List.getElem?_cons_succ]
    by_cases h2:i<off+k+1+cs.length
    . simp[h2,show i<off+k+(cs.length+1) by omega]
    . simp only[h2,show ¬ i<off+k+(cs.length+1) by omega,if_false]
      rw[if_neg (by omega)]
      congr 1;omega
theorem fill_of {ρ:Val}{place:Nat→Option (Nat×Nat)}:∀ (parts:List (Nat×SV)) (cells out:List SV),fillS place cells parts=some out→
  Instr.fill place (denL ρ cells).toArray (parts.map fun p=>(p.1,p.2.den ρ))=some (denL ρ out).toArray
 |[],cells,out,h=>by obtain rfl:=Option.some.inj h;rfl
 |(i,v)::rest,cells,out,h=>by
  simp only[fillS] at h
  split at h
  . rename_i off n cs hp hc
    split at h
    . rename_i h1 h2
      have h1':cs.length=n:=by simpa using h1
      have h2':off+n≤cells.length:=by simpa using h2
      have ih:=fill_of (ρ:=ρ) rest _ out h
      simp only[List.map_cons,Instr.fill,hp,(cellsS_den (ρ:=ρ) hc).1]
      rw[if_neg (by simp[denL_eq];omega)]
      rw[← ih]
      congr 1
      apply Array.ext'
      have hz:((denL ρ cs).toArray.zipIdx).toList=(denL ρ cs).zipIdx 0:=by simp
      rw[← Array.foldl_toList,hz,foldl_set off (denL ρ cs) 0 _ (by simp[denL_eq];omega)]
      simp[denL_eq,List.map_take,List.map_drop,h1']
    . cases h
  . cases h
def buildS (P:Program)(t:TypeId)(parts:List (Nat×SV)):Option (List SV):=match zeroS P t with
 |none=>none
 |some z=>match P.underlying t with
  |some (.array _ e)=>match sizeS P e with
   |some n=>fillS (fun i=>some (i*n,n)) z parts
   |none=>none
  |some (.struct fs)=>match placesS P fs.toList with
   |some l=>fillS (nth l) z parts
   |none=>none
  |_=>none
theorem zeroS_den {P:Program}{t:TypeId}{z:List SV}(h:zeroS P t=some z):∃ it v,P.info? t=some it∧it.zero=some v∧∀ ρ,v.cells=(denL ρ z).toArray:=by
 unfold zeroS at h
 split at h
 . rename_i i hi
   split at h
   . rename_i v hv
     obtain rfl:=Option.some.inj h
     refine⟨i,v,hi,hv,fun ρ => ?_⟩
     apply Array.ext'
     simp[denL_eq,Function.comp_def,SV.ofV_den]
   . cases h
 . cases h
theorem zeroS_sc {P:Program}{t:TypeId}{z:List SV}(p:Nat→Bool)(h:zeroS P t=some z):scL p z=true:=by
 unfold zeroS at h
 split at h
 . split at h
   . obtain rfl:=Option.some.inj h
     simp[scL_eq,SV.ofV_sc]
   . cases h
 . cases h
theorem sizeS_info {P:Program}{t:TypeId}{n:Nat}(h:sizeS P t=some n):∃ it,P.info? t=some it∧it.size=n:=by
 unfold sizeS at h
 split at h
 . rename_i i hi;exact⟨i,hi,Option.some.inj h⟩
 . cases h
theorem placesS_mapM {P:Program}:∀ (fs:List Field) (l:List (Nat×Nat)),placesS P fs=some l→fs.mapM (fun f=>(P.info? f.type).map fun i=>(f.offset,i.size))=some l
 |[],l,h=>by obtain rfl:=Option.some.inj h;simp
 |f::fs,l,h=>by
  simp only[placesS] at h
  split at h
  . rename_i n l' h1 h2
    obtain⟨it,hi,hs⟩:=sizeS_info h1
    obtain rfl:=Option.some.inj h
    simp[List.mapM_cons,hi,hs,placesS_mapM fs l' h2]
  . cases h
theorem buildS_built {P:Program}{ρ:Val}{t:TypeId}{parts:List (Nat×SV)}{out:List SV}(h:buildS P t parts=some out):P.built t (parts.map fun p=>(p.1,p.2.den ρ))=some (denL ρ out).toArray:=by
 unfold buildS at h
 split at h
 . cases h
 . rename_i z hz
   obtain⟨it,v,hi,hv,hc⟩:=zeroS_den hz
   unfold Program.built
   split at h
   . rename_i k e hu
     split at h
     . rename_i n hn
       obtain⟨ie,hie,hs⟩:=sizeS_info hn
       simp only[hi,hu,hv,hie,hs,hc ρ]
       exact fill_of parts z out h
     . cases h
   . rename_i fs hu
     split at h
     . rename_i l hl
       simp only[hi,hu,hv,placesS_mapM fs.toList l hl,hc ρ]
       rw[← fill_of parts z out h]
       congr 1
       funext i;simp[nth_eq]
     . cases h
   . cases h
end Go.Sx
namespace Go.Sx
open Go.RowKit Go.Proofs.YtfjemlegodhfnaaGreat
def Res.good (G:SV→List Blk→Prop):Res→Prop
 | .fail=>True
 | .ok sv nb=>G sv nb
 | .test b r=>b=true→r.good G
 | .split b r s=>(b=true→r.good G)∧(b=false→s.good G)
theorem Res.good_run {G K:SV→List Blk→Prop}:∀ (r:Res),r.run K→r.good G→∃ sv nb,K sv nb∧G sv nb
 | .fail,h,_=>h.elim
 | .ok sv nb,h,g=>⟨sv,nb,h,g⟩
 | .test _ r,h,g=>Res.good_run r h.2 (g h.1)
 | .split true r _,h,g=>Res.good_run r (h.1 rfl) (g.1 rfl)
 | .split false _ s,h,g=>Res.good_run s (h.2 rfl) (g.2 rfl)
theorem Res.good_mono {G H:SV→List Blk→Prop}(h:∀ sv nb,G sv nb→H sv nb):∀ (r:Res),r.good G→r.good H
 | .fail,_=>trivial
 | .ok sv nb,g=>h sv nb g
 | .test _ r,g=>fun hb=>Res.good_mono h r (g hb)
 | .split _ r s,g=>⟨fun hb=>Res.good_mono h r (g.1 hb),fun hb=>Res.good_mono h s (g.2 hb)⟩
def kEq (k k':IntKind):Bool:=decide (k=k')
def binU:BinOp→BitVec 64→BitVec 64→Res
 | .add,a,b=>.ok (.u64 (a+b)) []
 | .sub,a,b=>.ok (.u64 (a-b)) []
 | .mul,a,b=>.ok (.u64 (a*b)) []
 | .and,a,b=>.ok (.u64 (a &&& b)) []
 | .or,a,b=>.ok (.u64 (a ||| b)) []
 | .xor,a,b=>.ok (.u64 (a ^^^ b)) []
 | .andNot,a,b=>.ok (.u64 (a &&& ~~~b)) []
 | .quo,a,b=>.test (b != 0#64) (.ok (.u64 (a / b)) [])
 | .rem,a,b=>.test (b != 0#64) (.ok (.u64 (a % b)) [])
 | .eql,a,b=>.ok (.bool (a==b)) []
 | .neq,a,b=>.ok (.bool (a != b)) []
 | .lss,a,b=>.ok (.bool (decide (a<b))) []
 | .leq,a,b=>.ok (.bool (decide (a≤b))) []
 | .gtr,a,b=>.ok (.bool (decide (b<a))) []
 | .geq,a,b=>.ok (.bool (decide (b≤a))) []
 | .shl,a,b=>.ok (.u64 (a <<< b.toNat)) []
 | .shr,a,b=>.ok (.u64 (a >>> b.toNat)) []
def binI (k:IntKind):BinOp→Int→Int→Res
 | .add,a,b=>.ok (.int k (k.wrap (a+b))) []
 | .sub,a,b=>.ok (.int k (k.wrap (a-b))) []
 | .mul,a,b=>.ok (.int k (k.wrap (a*b))) []
 | .and,a,b=>.ok (.int k (Go.bits .and k a b)) []
 | .or,a,b=>.ok (.int k (Go.bits .or k a b)) []
 | .xor,a,b=>.ok (.int k (Go.bits .xor k a b)) []
 | .andNot,a,b=>.ok (.int k (Go.bits .andNot k a b)) []
 | .quo,a,b=>.test (b != 0) (.ok (.int k (k.wrap (a.tdiv b))) [])
 | .rem,a,b=>.test (b != 0) (.ok (.int k (a.tmod b)) [])
 | .eql,a,b=>.ok (.bool (a==b)) []
 | .neq,a,b=>.ok (.bool (a != b)) []
 | .lss,a,b=>.ok (.bool (decide (a<b))) []
 | .leq,a,b=>.ok (.bool (decide (a≤b))) []
 | .gtr,a,b=>.ok (.bool (decide (b<a))) []
 | .geq,a,b=>.ok (.bool (decide (b≤a))) []
 |_,_,_=>.fail
def shU:BinOp→BitVec 64→Nat→Res
 | .shl,a,n=>.ok (.u64 (a <<< n)) []
 | .shr,a,n=>.ok (.u64 (a >>> n)) []
 |_,_,_=>.fail
def shI (k:IntKind):BinOp→Int→Nat→Res
 | .shl,a,n=>.ok (.int k (k.wrap (a*2^min n k.bits))) []
 | .shr,a,n=>.ok (.int k (a.fdiv (2^min n k.bits))) []
 |_,_,_=>.fail
def isSh:BinOp→Bool
 | .shl=>true
 | .shr=>true
 |_=>false
def binB:BinOp→Bool→Bool→Res
 | .eql,a,b=>.ok (.bool (a==b)) []
 | .neq,a,b=>.ok (.bool (a != b)) []
 |_,_,_=>.fail
def boolS:SV→Option Bool
 | .tt=>some true
 | .ff=>some false
 | .bool b=>some b
 |_=>none
theorem boolS_den {ρ:Val}{x:SV}{b:Bool}(h:boolS x=some b):x.den ρ = .bool b∧x ≠ .junk:=by
 cases x<;>first | (obtain rfl:=Option.some.inj h;exact⟨rfl,by simp⟩) | (cases h)
def binS (op:BinOp)(x y:SV):Res:=match x,y with
 | .u64 a,.u64 b=>binU op a b
 | .u64 a,.int _ n=>.test (decide (0≤n)) (shU op a n.toNat)
 | .int k a,.u64 b=>shI k op a b.toNat
 | .int k a,.int k' b=>match isSh op with
   |true=>.test (decide (0≤b)) (shI k op a b.toNat)
   |false=>match kEq k k' with
    |true=>binI k op a b
    |false=>.fail
 |x,y=>match boolS x,boolS y with
  |some a,some b=>binB op a b
  |_,_=>.fail
abbrev Pure (P:Program)(s:Val→Sem Value)(sv:SV)(nb:List Blk):Prop:=nb=[]∧∀ ρ w,(s ρ).run P w = .ok (sv.den ρ) w
theorem binU_good (P:Program)(op:BinOp)(t:TypeId)(x y:Operand)(a b:BitVec 64):
  (binU op a b).good (Pure P fun _=>do eqGuard op t x y (.int .u64 (uv a)) (.int .u64 (uv b));binOp op t (.int .u64 (uv a)) (.int .u64 (uv b))):=by
 cases op
 case quo=>
  intro hb;refine⟨rfl,fun ρ w => ?_⟩
  have hb':b≠0#64:=by simpa using hb
  have hne:uv b≠0:=by rw[← uv_zero 64];exact fun h=>hb' (uv_inj.1 h)
  simp only[eqGuard_at_int,binOp_quo,Op.intDiv,hne,if_false,SV.den,Sem.run_bind,Sem.run_pure,Result.andThen_ok]
  rw[show(uv a).tdiv (uv b)=uv (a / b) from rfl,u64_uv]
 case rem=>
  intro hb;refine⟨rfl,fun ρ w => ?_⟩
  have hb':b≠0#64:=by simpa using hb
  have hne:uv b≠0:=by rw[← uv_zero 64];exact fun h=>hb' (uv_inj.1 h)
  simp only[eqGuard_at_int,binOp_rem,Op.intDiv,hne,if_false,SV.den,Sem.run_bind,Sem.run_pure,Result.andThen_ok]
  congr 2
 case shl=>
  refine⟨rfl,fun ρ w => ?_⟩
  simp only[eqGuard_at_int,binOp_shl,SV.den,Sem.run_bind,Sem.run_pure,Result.andThen_ok]
  rw[shl_uv _ _ _ (uv_nonneg b)];simp[ofInt_uv,uv_toNat]
 case shr=>
  refine⟨rfl,fun ρ w => ?_⟩
  simp only[eqGuard_at_int,binOp_shr,SV.den,Sem.run_bind,Sem.run_pure,Result.andThen_ok]
  rw[shr_uv _ _ _ (uv_nonneg b) (uv_nonneg a) (uv_lt a)];simp[ofInt_uv,uv_toNat]
 all_goals
  refine⟨rfl,fun ρ w => ?_⟩
  simp[SV.den,eqGuard_at_int,binOp_add,binOp_sub,binOp_mul,binOp_and,binOp_or,binOp_xor,binOp_andNot,binOp_eql,binOp_neq,binOp_lss,binOp_leq,binOp_gtr,binOp_geq,Op.intArith,intBits_and,intBits_or,intBits_xor,intBits_andNot,bits_and_uv,bits_or_uv,bits_xor_uv,bits_andNot_uv,ofInt_uv,add_uv,sub_uv,mul_uv,eq_uv,ne_uv,lt_uv,le_uv]
theorem shU_good (P:Program)(op:BinOp)(t:TypeId)(x y:Operand)(a:BitVec 64)(k:IntKind)(n:Int)(h:0≤n):
  (shU op a n.toNat).good (Pure P fun _=>do eqGuard op t x y (.int .u64 (uv a)) (.int k n);binOp op t (.int .u64 (uv a)) (.int k n)):=by
 cases op<;>try trivial
 . refine⟨rfl,fun ρ w => ?_⟩
   simp only[eqGuard_at_int,binOp_shl,SV.den,Sem.run_bind,Sem.run_pure,Result.andThen_ok]
   rw[shl_uv _ _ _ h];simp[ofInt_uv]
 . refine⟨rfl,fun ρ w => ?_⟩
   simp only[eqGuard_at_int,binOp_shr,SV.den,Sem.run_bind,Sem.run_pure,Result.andThen_ok]
   rw[shr_uv _ _ _ h (uv_nonneg a) (uv_lt a)];simp[ofInt_uv]
theorem shI_good (P:Program)(op:BinOp)(t:TypeId)(x y:Operand)(k:IntKind)(a:Int)(k':IntKind)(n:Int)(h:0≤n):
  (shI k op a n.toNat).good (Pure P fun _=>do eqGuard op t x y (.int k a) (.int k' n);binOp op t (.int k a) (.int k' n)):=by
 cases op<;>try trivial
 . refine⟨rfl,fun ρ w => ?_⟩
   simp[eqGuard_at_int,binOp_shl,SV.den,Op.shift,show ¬ n<0 by omega]
 . refine⟨rfl,fun ρ w => ?_⟩
   simp[eqGuard_at_int,binOp_shr,SV.den,Op.shift,show ¬ n<0 by omega]
theorem binI_good (P:Program)(op:BinOp)(t:TypeId)(x y:Operand)(k:IntKind)(a b:Int):
  (binI k op a b).good (Pure P fun _=>do eqGuard op t x y (.int k a) (.int k b);binOp op t (.int k a) (.int k b)):=by
 cases op
 case quo=>
  intro hb;refine⟨rfl,fun ρ w => ?_⟩
  have hb':b≠0:=by simpa using hb
  simp[SV.den,eqGuard_at_int,binOp_quo,Op.intDiv,hb']
 case rem=>
  intro hb;refine⟨rfl,fun ρ w => ?_⟩
  have hb':b≠0:=by simpa using hb
  simp[SV.den,eqGuard_at_int,binOp_rem,Op.intDiv,hb']
 case shl=>trivial
 case shr=>trivial
 all_goals
  refine⟨rfl,fun ρ w => ?_⟩
  simp[SV.den,eqGuard_at_int,binOp_add,binOp_sub,binOp_mul,binOp_and,binOp_or,binOp_xor,binOp_andNot,binOp_eql,binOp_neq,binOp_lss,binOp_leq,binOp_gtr,binOp_geq,Op.intArith,intBits_and,intBits_or,intBits_xor,intBits_andNot]
theorem equal_bool {P:Program}{t:TypeId}(ht:P.underlying t=some .bool)(a b:Bool)(w:World):(Op.equal t (.bool a) (.bool b)).run P w = .ok (a==b) w:=by
 have h:∀ d,(Op.equalIn (d+1) t (.bool a) (.bool b)).run P w = .ok (a==b) w:=fun d=>by simp[Op.equalIn,run_underlying ht]
 exact h 9999
theorem binB_good {P:Program}(op:BinOp){t:TypeId}(ht:P.underlying t=some .bool)(x y:Operand)(a b:Bool):
  (binB op a b).good (Pure P fun _=>do eqGuard op t x y (.bool a) (.bool b);binOp op t (.bool a) (.bool b)):=by
 cases op<;>try trivial
 . refine⟨rfl,fun ρ w => ?_⟩
   have e:binOp .eql t (.bool a) (.bool b)=(do pure (.bool (← Op.equal t (.bool a) (.bool b)))):=rfl
   rw[e]
   simp only[eqGuard_at_bool,SV.den,Sem.run_bind,Sem.run_pure,Result.andThen_ok,equal_bool ht]
 . refine⟨rfl,fun ρ w => ?_⟩
   have e:binOp .neq t (.bool a) (.bool b)=(do pure (.bool (!(← Op.equal t (.bool a) (.bool b))))):=rfl
   rw[e]
   simp only[eqGuard_at_bool,SV.den,Sem.run_bind,Sem.run_pure,Result.andThen_ok,equal_bool ht]
   rfl
def unS (op:UnOp)(x:SV):Res:=match op,x with
 | .not,.tt=>.ok .ff []
 | .not,.ff=>.ok .tt []
 | .not,.bool b=>.ok (.bool (!b)) []
 | .neg,.u64 a=>.ok (.u64 (-a)) []
 | .neg,.int k n=>.ok (.int k (k.wrap (0-n))) []
 | .xor,.u64 a=>.ok (.u64 (~~~a)) []
 | .xor,.int k n=>.ok (.int k (Go.bits .xor k (if k.signed then -1 else k.max) n)) []
 |_,_=>.fail
theorem bits_not (x:BitVec 64):Go.bits .xor .u64 (if IntKind.u64.signed=true then -1 else IntKind.u64.max) (uv x)=uv (~~~x):=by
 rw[bits_xor_uv,ofInt_uv,show BitVec.ofInt 64 (if IntKind.u64.signed=true then -1 else IntKind.u64.max)=BitVec.allOnes 64 by decide,BitVec.allOnes_xor]
theorem unS_good (P:Program)(op:UnOp)(x:SV):(unS op x).good (Pure P fun ρ=>Op.unary op (x.den ρ)):=by
 cases op<;>cases x<;>try trivial
 all_goals refine⟨rfl,fun ρ w => ?_⟩
 case xor.u64=>
  simp only[SV.den,Op.unary,intBits_xor,Sem.run_pure]
  rw[bits_not]
 case neg.u64=>simp only[SV.den,Op.unary,Op.intArith,Int.zero_sub,Sem.run_pure];rw[neg_uv]
 all_goals simp[SV.den,Op.unary,Op.intArith,intBits_xor]
def convS (P:Program)(src dst:TypeId)(x:SV):Res:=match P.underlying src with
 |none=>.fail
 |some _=>match P.underlying dst with
  |some (.int .u64)=>match x with
   | .u64 a=>.ok (.u64 a) []
   | .int _ n=>.ok (.u64 (BitVec.ofInt 64 n)) []
   |_=>.fail
  |some (.int .i64)=>match x with
   | .u64 a=>.ok (.int .i64 (sv a)) []
   | .int _ n=>.ok (.int .i64 (IntKind.i64.wrap n)) []
   |_=>.fail
  |some (.int k)=>match x with
   | .u64 a=>.ok (.int k (k.wrap (uv a))) []
   | .int _ n=>.ok (.int k (k.wrap n)) []
   |_=>.fail
  |_=>.fail
theorem convert_int {P:Program}{src dst:TypeId}{d:TypeDesc}{k:IntKind}(hs:P.underlying src=some d)(hd:P.underlying dst=some (.int k))(k':IntKind)(n:Int)(w:World):
  (convert src dst (.int k' n)).run P w = .ok (.int k (k.wrap n)) w:=by
 simp[convert,run_underlying hs,run_underlying hd,Conv.intToInt]
theorem convS_good (P:Program)(src dst:TypeId)(x:SV):(convS P src dst x).good (Pure P fun ρ=>convert src dst (x.den ρ)):=by
 unfold convS
 split
 . trivial
 . rename_i d hs
   split
   . rename_i hd
     split<;>try trivial
     . refine⟨rfl,fun ρ w => ?_⟩;simp only[SV.den];rw[convert_int hs hd,u64_uv]
     . refine⟨rfl,fun ρ w => ?_⟩;simp only[SV.den];rw[convert_int hs hd,wrap_ofInt]
   . rename_i hd
     split<;>try trivial
     . refine⟨rfl,fun ρ w => ?_⟩;simp only[SV.den];rw[convert_int hs hd,i64_uv]
     . refine⟨rfl,fun ρ w => ?_⟩;simp only[SV.den];rw[convert_int hs hd]
   . rename_i k _ _ hd
     split<;>try trivial
     . refine⟨rfl,fun ρ w => ?_⟩;simp only[SV.den];rw[convert_int hs hd]
     . refine⟨rfl,fun ρ w => ?_⟩;simp only[SV.den];rw[convert_int hs hd]
   . trivial
end Go.Sx
