import Derived.Test.YtfjemlegodhfnaaGreatM01
set_option linter.all false
namespace Go.Sx
open Go.RowKit Go.Proofs.YtfjemlegodhfnaaGreat
structure Loc where
 blk:Nat
 off:Nat
 cap:Nat
 sp:Option Nat
 ok:cap=0∨sp=none
def Loc.sp0 (l:Loc)(n:Nat):Option Nat:=if n=0 then l.sp else none
theorem Loc.sp0_pos (l:Loc){n:Nat}(h:0<n):l.sp0 n=none:=if_neg (by omega)
theorem Loc.sp0_cap (l:Loc)(n:Nat)(h:0<l.cap):l.sp0 n=none:=by
 unfold Loc.sp0
 split
 . exact l.ok.resolve_left (by omega)
 . rfl
@[simp] theorem Loc.sp0_at (l:Loc) (b o c n:Nat) (h:c=0∨l.sp=none):(Loc.mk b o c l.sp h).sp0 n=l.sp0 n:=rfl
@[simp] theorem Loc.sp0_none (b o c n:Nat) (h:c=0∨(none:Option Nat)=none):(Loc.mk b o c none h).sp0 n=none:=by simp[Loc.sp0]
structure Val where
 loc:Nat→Option Loc
 z:Nat→Prop
instance:CoeFun Val (fun _=>Nat→Option Loc):=⟨Val.loc⟩
structure Val.Ext (S:Nat)(p:Nat→Prop)(ρ ρ':Val):Prop where
 eq:∀ n,p n→ρ' n=ρ n
 z:∀ k,ρ.z k→ρ'.z k
 fresh:∀ k,ρ'.z k→ρ.z k∨S≤k
theorem Val.Ext.refl (S:Nat)(p:Nat→Prop)(ρ:Val):Val.Ext S p ρ ρ:=⟨fun _ _=>rfl,fun _ h=>h,fun _ h=>.inl h⟩
theorem Val.Ext.trans {S S':Nat}{p q:Nat→Prop}{a b c:Val}(h:Val.Ext S p a b)(k:Val.Ext S' q b c)(hS:S≤S'):Val.Ext S (fun n=>p n∧q n) a c:=
 ⟨fun n hn=>(k.eq n hn.2).trans (h.eq n hn.1),fun i hi=>k.z i (h.z i hi),fun i hi=>(k.fresh i hi).elim (fun hi=>h.fresh i hi) (fun hi=>.inr (Nat.le_trans hS hi))⟩
theorem Val.Ext.mono {S S':Nat}{p q:Nat→Prop}{a b:Val}(h:Val.Ext S p a b)(hq:∀ n,q n→p n)(hS:S'≤S):Val.Ext S' q a b:=
 ⟨fun n hn=>h.eq n (hq n hn),h.z,fun k hk=>(h.fresh k hk).imp_right (Nat.le_trans hS)⟩
structure Bd where
 s:Nat
 x:List Nat
 z:Nat→Prop
def Bd.may (B:Bd)(k:Nat):Prop:=k∈B.x∨B.s≤k
theorem Bd.lt {B:Bd}{k:Nat}(h : ¬ B.may k):k<B.s:=Nat.lt_of_not_le fun e=>h (.inr e)
structure Kept (B:Bd)(w w':World):Prop where
 os:w'.os=w.os
 tape:w'.tape=w.tape
 output:w'.output=w.output
 size:w.heap.size≤w'.heap.size
 block:∀ k,¬ B.may k→w'.heap[k]? = w.heap[k]?
 dq:∀ k:Nat,w.heap[k]? = some (Obj.deferred (some []))→w'.heap[k]? = some (Obj.deferred (some []))
 lq:∀ (k:Nat) (r:Loop),w.heap[k]? = some (Obj.loop r)→∃ r',w'.heap[k]? = some (Obj.loop r')
theorem Kept.refl (B:Bd)(w:World):Kept B w w:=⟨rfl,rfl,rfl,Nat.le_refl _,fun _ _=>rfl,fun _ h=>h,fun _ r h=>⟨r,h⟩⟩
theorem Kept.trans {B:Bd}{a b c:World}(h:Kept B a b)(k:Kept B b c):Kept B a c:=
 ⟨k.os.trans h.os,k.tape.trans h.tape,k.output.trans h.output,Nat.le_trans h.size k.size,fun i hi=>(k.block i hi).trans (h.block i hi),fun i hi=>k.dq i (h.dq i hi),fun i r hi=>let ⟨r',h'⟩:=h.lq i r hi;k.lq i r' h'⟩
theorem dq_below {w w':World}(h:Below w.heap.size w w'):∀ k:Nat,w.heap[k]? = some (Obj.deferred (some []))→w'.heap[k]? = some (Obj.deferred (some [])):=
 fun k hk=>by rw[h.block k (Array.getElem?_eq_some_iff.1 hk).1];exact hk
theorem Kept.of_below {B:Bd}{w w':World}(hs:B.s≤w.heap.size)(h:Below w.heap.size w w'):Kept B w w':=
 ⟨h.os,h.tape,h.output,h.size,fun k hk=>h.block k (Nat.lt_of_lt_of_le (Bd.lt hk) hs),dq_below h,fun k r hk=>⟨r,by rw[h.block k (Array.getElem?_eq_some_iff.1 hk).1];exact hk⟩⟩
theorem Kept.below {B:Bd}{w w':World}(hx:B.x=[])(h:Kept B w w'):Below B.s w w':=
 ⟨h.os,h.tape,h.output,h.size,fun k hk=>h.block k fun e=>e.elim (fun e=>by rw[hx] at e;cases e) (fun e=>by omega)⟩
theorem Kept.drew {B:Bd}{a w:World}(h:Kept B a w):Kept B a {w with drawn:=w.drawn+1}:=⟨h.os,h.tape,h.output,h.size,h.block,h.dq,h.lq⟩
theorem Kept.trans_full {B:Bd}{w0 w w':World}(h:Kept B w0 w)(hB:B.s≤w.heap.size)(h':Below w.heap.size w w'):Kept B w0 w':=h.trans (Kept.of_below hB h')
inductive FV where
 |val (v:Value)
 |bool (b:Bool)
 |int (k:IntKind) (n:Int)
 |u64 (x:BitVec 64)
 |row (sz n:Nat) (g:Nat→List FV)
inductive SV where
 |junk
 |val (v:Value)
 |tt
 |ff
 |bool (b:Bool)
 |int (k:IntKind) (n:Int)
 |u64 (x:BitVec 64)
 |agg (xs:List SV)
 |tup (xs:List SV)
 |ptr (n off:Nat)
 |ep (n i sz j:Nat)
 |sl (n sz off len:Nat)
 |mp (n:Nat)
 |yld (n:Nat)
 |fn (f:Fn) (fst cap:List SV)
 |nilb (n:Nat)
 |arr (n sz:Nat) (g:Nat→List FV)
 |mix (xs:List SV)
def FV.den:FV→Value
 | .val v=>v
 | .bool b=>.bool b
 | .int k n=>.int k n
 | .u64 x=>.int .u64 (uv x)
 | .row .. => undef
def FV.sv:FV→SV
 | .val v=>.val v
 | .bool b=>.bool b
 | .int k n=>.int k n
 | .u64 x=>.u64 x
 | .row .. => .junk
def FV.cel:FV→Value
 | .val v=>if v.oneCell' then v else .bool false
 | .bool b=>.bool b
 | .int k n=>.int k n
 | .u64 x=>.int .u64 (uv x)
 | .row .. => .bool false
def fixL:Nat→List FV→List Value
 |0,_=>[]
 |n+1,[]=>.bool false::fixL n []
 |n+1,x::l=>x.cel::fixL n l
def arrL (n sz:Nat)(g:Nat→List FV):List Value:=(List.range n).flatMap fun i=>fixL sz (g i)
def itemL:SV→Value→List Value
 | .arr n sz g,_=>arrL n sz g
 |_,v=>[v]
def mixL:List SV→List Value→List Value
 |x::xs,v::vs=>itemL x v++mixL xs vs
 |_,_=>[]
def FV.flat:FV→Bool
 | .row .. => false
 |_=>true
mutual
def SV.den (ρ:Val):SV→Value
 | .junk=>undef
 | .val v=>v
 | .tt=>.bool true
 | .ff=>.bool false
 | .bool b=>.bool b
 | .int k n=>.int k n
 | .u64 x=>.int .u64 (uv x)
 | .agg xs=>.agg (denL ρ xs).toArray
 | .tup xs=>.tuple (denL ρ xs).toArray
 | .ptr n off=>.pointer ((ρ n).map fun l=>⟨l.blk,l.off+off,none⟩)
 | .ep n i sz j=>.pointer ((ρ n).map fun l=>⟨l.blk,l.off+i*sz+j,none⟩)
 | .sl n sz off len=>.slice ((ρ n).map fun l=>⟨l.blk,l.off+off*sz,l.sp0 len⟩) len (((ρ n).map fun l=>l.cap).getD 0-off)
 | .mp n=>.map ((ρ n).map fun l=>l.blk)
 | .yld n=>.func (.yield (((ρ n).map fun l=>l.blk).getD 0)) #[] #[]
 | .fn f a b=>.func f (denL ρ a).toArray (denL ρ b).toArray
 | .nilb n=>.bool (ρ n).isNone
 | .arr n sz g=>.agg (arrL n sz g).toArray
 | .mix xs=>.agg (mixL xs (denL ρ xs)).toArray
def denL (ρ:Val):List SV→List Value
 |[]=>[]
 |x::l=>x.den ρ::denL ρ l
end
mutual
def SV.sc (p:Nat→Bool):SV→Bool
 | .agg xs=>scL p xs
 | .tup xs=>scL p xs
 | .ptr n _=>p n
 | .ep n _ _ _=>p n
 | .sl n _ _ _=>p n
 | .mp n=>p n
 | .yld n=>p n
 | .fn _ a b=>scL p a&&scL p b
 | .nilb n=>p n
 | .mix xs=>scL p xs
 |_=>true
def scL (p:Nat→Bool):List SV→Bool
 |[]=>true
 |x::l=>x.sc p&&scL p l
end
theorem denL_eq (ρ:Val):∀ l,denL ρ l=l.map (SV.den ρ)
 |[]=>by simp[denL]
 |x::l=>by simp[denL,denL_eq ρ l]
theorem scL_eq (p:Nat→Bool):∀ l,scL p l=l.all (SV.sc p)
 |[]=>by simp[scL]
 |x::l=>by simp[scL,scL_eq p l]
mutual
theorem SV.den_congr {ρ ρ':Val}{p:Nat→Bool}(h:∀ n,p n=true→ρ' n=ρ n):∀ sv:SV,sv.sc p=true→sv.den ρ'=sv.den ρ
 | .junk,_=>rfl
 | .val _,_=>rfl
 | .tt,_=>rfl
 | .ff,_=>rfl
 | .bool _,_=>rfl
 | .int _ _,_=>rfl
 | .u64 _,_=>rfl
 | .agg xs,hs=>by simp only[SV.sc] at hs;simp only[SV.den,denL_congr h xs hs]
 | .tup xs,hs=>by simp only[SV.sc] at hs;simp only[SV.den,denL_congr h xs hs]
 | .ptr n _,hs=>by simp only[SV.sc] at hs;simp only[SV.den,h n hs]
 | .ep n _ _ _,hs=>by simp only[SV.sc] at hs;simp only[SV.den,h n hs]
 | .sl n _ _ _,hs=>by simp only[SV.sc] at hs;simp only[SV.den,h n hs]
 | .mp n,hs=>by simp only[SV.sc] at hs;simp only[SV.den,h n hs]
 | .yld n,hs=>by simp only[SV.sc] at hs;simp only[SV.den,h n hs]
 | .fn _ a b,hs=>by simp only[SV.sc,Bool.and_eq_true] at hs;simp only[SV.den,denL_congr h a hs.1,denL_congr h b hs.2]
 | .nilb n,hs=>by simp only[SV.sc] at hs;simp only[SV.den,h n hs]
 | .arr _ _ _,_=>rfl
 | .mix xs,hs=>by simp only[SV.sc] at hs;simp only[SV.den,denL_congr h xs hs]
theorem denL_congr {ρ ρ':Val}{p:Nat→Bool}(h:∀ n,p n=true→ρ' n=ρ n):∀ l:List SV,scL p l=true→denL ρ' l=denL ρ l
 |[],_=>rfl
 |x::l,hs=>by simp only[scL,Bool.and_eq_true] at hs;simp only[denL,SV.den_congr h x hs.1,denL_congr h l hs.2]
end
mutual
theorem SV.sc_mono {p q:Nat→Bool}(h:∀ n,p n=true→q n=true):∀ sv:SV,sv.sc p=true→sv.sc q=true
 | .junk,_=>rfl
 | .val _,_=>rfl
 | .tt,_=>rfl
 | .ff,_=>rfl
 | .bool _,_=>rfl
 | .int _ _,_=>rfl
 | .u64 _,_=>rfl
 | .agg xs,hs=>by simp only[SV.sc] at hs ⊢;exact scL_mono h xs hs
 | .tup xs,hs=>by simp only[SV.sc] at hs ⊢;exact scL_mono h xs hs
 | .ptr n _,hs=>by simp only[SV.sc] at hs ⊢;exact h n hs
 | .ep n _ _ _,hs=>by simp only[SV.sc] at hs ⊢;exact h n hs
 | .sl n _ _ _,hs=>by simp only[SV.sc] at hs ⊢;exact h n hs
 | .mp n,hs=>by simp only[SV.sc] at hs ⊢;exact h n hs
 | .yld n,hs=>by simp only[SV.sc] at hs ⊢;exact h n hs
 | .fn _ a b,hs=>by simp only[SV.sc,Bool.and_eq_true] at hs ⊢;exact⟨scL_mono h a hs.1,scL_mono h b hs.2⟩
 | .nilb n,hs=>by simp only[SV.sc] at hs ⊢;exact h n hs
 | .arr _ _ _,_=>rfl
 | .mix xs,hs=>by simp only[SV.sc] at hs ⊢;exact scL_mono h xs hs
theorem scL_mono {p q:Nat→Bool}(h:∀ n,p n=true→q n=true):∀ l:List SV,scL p l=true→scL q l=true
 |[],_=>rfl
 |x::l,hs=>by simp only[scL,Bool.and_eq_true] at hs ⊢;exact⟨SV.sc_mono h x hs.1,scL_mono h l hs.2⟩
end
mutual
theorem SV.sc_all:∀ sv:SV,sv.sc (fun _=>true)=true
 | .junk=>rfl
 | .val _=>rfl
 | .tt=>rfl
 | .ff=>rfl
 | .bool _=>rfl
 | .int _ _=>rfl
 | .u64 _=>rfl
 | .agg xs=>by simp only[SV.sc];exact scL_all xs
 | .tup xs=>by simp only[SV.sc];exact scL_all xs
 | .ptr _ _=>rfl
 | .ep _ _ _ _=>rfl
 | .sl _ _ _ _=>rfl
 | .mp _=>rfl
 | .yld _=>rfl
 | .fn _ a b=>by simp only[SV.sc,Bool.and_eq_true];exact⟨scL_all a,scL_all b⟩
 | .nilb _=>rfl
 | .arr _ _ _=>rfl
 | .mix xs=>by simp only[SV.sc];exact scL_all xs
theorem scL_all:∀ l:List SV,scL (fun _=>true) l=true
 |[]=>rfl
 |x::l=>by simp only[scL,Bool.and_eq_true];exact⟨SV.sc_all x,scL_all l⟩
end
mutual
theorem SV.sc_and {p q:Nat→Bool}:∀ sv:SV,sv.sc p=true→sv.sc q=true→sv.sc (fun n=>p n&&q n)=true
 | .junk,_,_=>rfl
 | .val _,_,_=>rfl
 | .tt,_,_=>rfl
 | .ff,_,_=>rfl
 | .bool _,_,_=>rfl
 | .int _ _,_,_=>rfl
 | .u64 _,_,_=>rfl
 | .agg xs,h,k=>by simp only[SV.sc] at h k ⊢;exact scL_and xs h k
 | .tup xs,h,k=>by simp only[SV.sc] at h k ⊢;exact scL_and xs h k
 | .ptr n _,h,k=>by simp only[SV.sc] at h k ⊢;simp[h,k]
 | .ep n _ _ _,h,k=>by simp only[SV.sc] at h k ⊢;simp[h,k]
 | .sl n _ _ _,h,k=>by simp only[SV.sc] at h k ⊢;simp[h,k]
 | .mp n,h,k=>by simp only[SV.sc] at h k ⊢;simp[h,k]
 | .yld n,h,k=>by simp only[SV.sc] at h k ⊢;simp[h,k]
 | .fn _ a b,h,k=>by
   simp only[SV.sc,Bool.and_eq_true] at h k ⊢;exact⟨scL_and a h.1 k.1,scL_and b h.2 k.2⟩
 | .nilb n,h,k=>by simp only[SV.sc] at h k ⊢;simp[h,k]
 | .arr _ _ _,_,_=>rfl
 | .mix xs,h,k=>by simp only[SV.sc] at h k ⊢;exact scL_and xs h k
theorem scL_and {p q:Nat→Bool}:∀ l:List SV,scL p l=true→scL q l=true→scL (fun n=>p n&&q n) l=true
 |[],_,_=>rfl
 |x::l,h,k=>by
  simp only[scL,Bool.and_eq_true] at h k ⊢;exact⟨SV.sc_and x h.1 k.1,scL_and l h.2 k.2⟩
end
theorem FV.sv_den (ρ:Val)(x:FV):x.sv.den ρ=x.den:=by cases x<;>simp[FV.sv,SV.den,FV.den]
theorem FV.sv_nj {x:FV}(h:x.flat=true):x.sv ≠ .junk:=by cases x<;>simp[FV.sv,FV.flat] at h ⊢
theorem FV.sv_sc (p:Nat→Bool)(x:FV):x.sv.sc p=true:=by cases x<;>simp[FV.sv,SV.sc]
inductive X where
 |normal
 |exit (id:Nat)
 |ret
 |panic (v:Value)
def X.to:X→Exit
 | .normal=>.normal
 | .exit id=>.exit id
 | .ret=>.ret
 | .panic v=>.panic [{v,recovered:=false}]
inductive LS where
 |ready
 |busy
 |done (x:X)
def X.code:X→Code
 | .normal=>.skip
 | .exit id=>.exit id
 | .ret=>.ret
 | .panic _=>.skip
def LS.state:LS→LoopState
 | .ready=>.ready
 | .busy=>.busy
 | .done _=>.done
def LS.pending:LS→Option Code
 | .ready=>none
 | .busy=>none
 | .done x=>some x.code
inductive Blk where
 |dead
 |cells (ty:TypeId) (xs:List SV)
 |rc (ty:TypeId) (xs:List SV)
 |ro (sz n:Nat) (g:Nat→List FV)
 |fz (sz n:Nat) (g:Nat→List FV)
 |own (ty:TypeId) (sz n:Nat) (g:Nat→List FV)
 |map (es:List (SV×SV))
 |mix (ty:TypeId) (xs:List SV)
 |fm (n:Nat) (h:List Int→Option Int)
 |lp (T:Tbl) (fe:List SV) (ps:Array Tmp) (assign body:Code) (st:LS)
def okG (sz:Nat)(l:List FV):Prop:=l.length=sz∧∀ x∈l,x.den.oneCell'=true
def flatG (n:Nat)(g:Nat→List FV):List Value:=(List.range n).flatMap fun i=>(g i).map FV.den
def Blk.isOwn:Blk→Bool
 | .cells .. | .own .. | .map .. | .mix .. | .fm .. | .lp .. => true
 |_=>false
def esD (ρ:Val)(es:List (SV×SV)):List (Value×Value):=es.map fun p=>(p.1.den ρ,p.2.den ρ)
structure MapIs (ρ:Val)(es:List (SV×SV))(arr:Array MapEntry):Prop where
 perm:(arr.toList.map fun e=>(e.key,e.val)).Perm (esD ρ es)
 nodup:((esD ρ es).map (·.1)).Nodup
def keyV (k:List Int):Value:=.agg (k.map fun x=>Value.int .i64 x).toArray
structure FmIs (n:Nat)(h:List Int→Option Int)(arr:Array MapEntry):Prop where
 each:∀ e∈arr.toList,∃ k v,k.length=n∧e.key=keyV k∧e.val = .int .i64 v∧h k=some v
 all:∀ k v,k.length=n→h k=some v→∃ e∈arr.toList,e.key=keyV k
 nodup:(arr.toList.map (·.key)).Nodup
@[irreducible] def fnOk (f:FuncId):Prop:=(Go.Proofs.Tryz.prog.funcs[f]?).isSome=true
structure Okay (P:Program):Prop where
 mixed:P.follows .mixedOrders=true
 known:∀ f,(P.funcs[f]?).isSome=true↔fnOk f
structure LoopIs (ρ:Val)(T:Tbl)(fe:List SV)(ps:Array Tmp)(assign body:Code)(st:LS)(r:Loop):Prop where
 okA:codeOk T assign=true
 okB:codeOk T body=true
 params:r.params=ps
 assign:r.assign=assign
 body:r.body=body
 size:r.tmps.size=fe.length
 slot:∀ (s:Nat) (x:SV),fe[s]? = some x→x ≠ .junk→r.tmps[s]? = some (x.den ρ)
 state:r.state=st.state
 pending:r.pending=st.pending
 known:fnOk r.fn
def rowV (l:Option Loc)(n:Nat):Value:=.slice (l.map fun k=>⟨k.blk,k.off,k.sp0 n⟩) n ((l.map fun k=>k.cap).getD 0)
inductive Rep (z:Nat→Prop)(w:World):FV→FV→Prop
 |flat {x:FV} (h:x.flat=true):Rep z w x x
 |row {sz n:Nat} {g:Nat→List FV} (l:Option Loc) (h:Nat→List FV) (h0:l=none→n=0) (hc:∀ k,l=some k→n≤k.cap) (hz:∀ k,l=some k→0<n→z k.blk)
   (hg:∀ i,i<n→okG sz (h i)) (hcell:∀ (k:Loc) (i j:Nat) (x:FV),l=some k→i<n→(h i)[j]? = some x→w.cell? ⟨k.blk,k.off+i*sz+j,none⟩=some x.den)
   (hl:∀ i,i<n→(g i).length=(h i).length) (hr:∀ (i j:Nat) (x y:FV),i<n→(g i)[j]? = some x→(h i)[j]? = some y→Rep z w x y):Rep z w (.row sz n g) (.val (rowV l n))
def RepL (z:Nat→Prop)(w:World)(a b:List FV):Prop:=a.length=b.length∧∀ (j:Nat) (x y:FV),a[j]? = some x→b[j]? = some y→Rep z w x y
theorem Rep.mono {z z':Nat→Prop}{w w':World}(hz:∀ k,z k→z' k)(hw:∀ k,z k→w'.heap[k]? = w.heap[k]?){x y:FV}(h:Rep z w x y):Rep z' w' x y:=by
 induction h with
 |flat h=>exact .flat h
 |row l h h0 hc hz' hg hcell hl hr ih=>
  refine .row l h h0 hc (fun k hk hn=>hz _ (hz' k hk hn)) hg (fun k i j x hk hi hx => ?_) hl (fun i j x y hi hx hy=>ih i j x y hi hx hy)
  rw[World.cell?_of_block (w:=w) (hw k.blk (hz' k hk (by omega)))]
  exact hcell k i j x hk hi hx
theorem RepL.mono {z z':Nat→Prop}{w w':World}(hz:∀ k,z k→z' k)(hw:∀ k,z k→w'.heap[k]? = w.heap[k]?){a b:List FV}(h:RepL z w a b):RepL z' w' a b:=⟨h.1,fun j x y hx hy=>(h.2 j x y hx hy).mono hz hw⟩
theorem Rep.flat_is {z:Nat→Prop}{w:World}{x y:FV}(h:Rep z w x y):y.flat=true:=by cases h<;>first|assumption|rfl
theorem Rep.eq {z:Nat→Prop}{w:World}{x y:FV}(h:Rep z w x y)(hx:x.flat=true):y=x:=by cases h<;>first|rfl|cases hx
theorem RepL.refl {z:Nat→Prop}{w:World}{a:List FV}(h:a.all FV.flat=true):RepL z w a a:=⟨rfl,fun j x y hx hy=>by
 obtain rfl:x=y:=by rw[hx] at hy;exact Option.some.inj hy
 exact .flat (List.all_eq_true.1 h x (List.mem_of_getElem? hx))⟩
inductive FVEq:FV→FV→Prop
 |nil {sz:Nat} {g:Nat→List FV}:FVEq (.val (.slice none 0 0)) (.row sz 0 g)
 |flat {x:FV} (h:x.flat=true):FVEq x x
 |row {sz sz' n:Nat} {g g':Nat→List FV} (hs:0<n→sz=sz') (hl:∀ i,i<n→(g i).length=(g' i).length) (hr:∀ (i j:Nat) (x y:FV),i<n→(g i)[j]? = some x→(g' i)[j]? = some y→FVEq x y):FVEq (.row sz n g) (.row sz' n g')
def FVEqL (a b:List FV):Prop:=a.length=b.length∧∀ (j:Nat) (x y:FV),a[j]? = some x→b[j]? = some y→FVEq x y
theorem Rep.eqv {z:Nat→Prop}{w:World}{x y:FV}(h:Rep z w x y):∀ {x':FV},FVEq x x'→Rep z w x' y:=by
 induction h with
 |flat h=>intro x' he;cases he with
  |nil=>exact .row none (fun _=>[]) (fun _=>rfl) (fun _ h=>by cases h) (fun _ h=>by cases h) (fun i hi=>absurd hi (Nat.not_lt_zero i)) (fun _ i _ _ h=>by cases h) (fun i hi=>absurd hi (Nat.not_lt_zero i)) (fun i _ _ _ hi=>absurd hi (Nat.not_lt_zero i))
  |flat _=>exact .flat h
  |row=>cases h
 | @row sz n g l h h0 hc hz' hg hcell hl hr ih=>
   intro x' he
   cases he with
   |flat hf=>cases hf
   | @row _ sz' _ _ g' hs hl' hr'=>
     refine .row l h h0 hc hz' (fun i hi => ?_) (fun k i j x hk hi hx => ?_) (fun i hi=>(hl' i hi).symm.trans (hl i hi)) (fun i j x y hi hx hy => ?_)
     . rw[← hs (by omega)];exact hg i hi
     . rw[← hs (by omega)];exact hcell k i j x hk hi hx
     . have hj:j < (g i).length:=by rw[hl' i hi];exact(List.getElem?_eq_some_iff.1 hx).1
       exact ih i j _ y hi (List.getElem?_eq_getElem hj) hy (hr' i j _ x hi (List.getElem?_eq_getElem hj) hx)
mutual
theorem FVEq.refl:∀ x:FV,FVEq x x
 | .val _=>.flat rfl
 | .bool _=>.flat rfl
 | .int _ _=>.flat rfl
 | .u64 _=>.flat rfl
 | .row sz n g=>.row (fun _=>rfl) (fun _ _=>rfl) fun i j x y hi hx hy=>by
   have e:x=y:=by rw[hx] at hy;exact Option.some.inj hy
   rw[← e];exact FVEq.refl_at (g i) j x hx
theorem FVEq.refl_at:∀ (l:List FV) (j:Nat) (x:FV),l[j]? = some x→FVEq x x
 |[],j,x,h=>by simp at h
 |a::l,0,x,h=>by
  have e:a=x:=by simpa using h
  rw[← e];exact FVEq.refl a
 |a::l,j+1,x,h=>FVEq.refl_at l j x (by simpa using h)
end
theorem FVEqL.refl (l:List FV):FVEqL l l:=⟨rfl,fun j x y hx hy=>by
 obtain rfl:x=y:=by rw[hx] at hy;exact Option.some.inj hy
 exact FVEq.refl x⟩
theorem RepL.eqv {z:Nat→Prop}{w:World}{a b c:List FV}(h:RepL z w a c)(he:FVEqL a b):RepL z w b c:=⟨he.1.symm.trans h.1,fun j x y hx hy=>by
 have hj:j<a.length:=by rw[he.1];exact(List.getElem?_eq_some_iff.1 hx).1
 exact(h.2 j _ y (List.getElem?_eq_getElem hj) hy).eqv (he.2 j _ x (List.getElem?_eq_getElem hj) hx)⟩
def roOk (P:Nat→Prop)(ρ:Val)(n:Nat)(w:World)(sz m:Nat)(g:Nat→List FV):Prop:=(ρ n=none→m=0)∧(∀ l,ρ n=some l→m≤l.cap∧(0<m→P l.blk)∧∀ i,i<m→okG sz (g i)∧∀ j x,(g i)[j]? = some x→w.cell? ⟨l.blk,l.off+i*sz+j,none⟩=some x.den)
def ownOk (B:Bd)(ρ:Val)(n:Nat)(w:World)(ty:TypeId)(sz m:Nat)(g:Nat→List FV):Prop:=(∀ i,i<m→okG sz (g i))∧((ρ n=none∧m=0) ∨ ∃ l cur,ρ n=some l∧l.off=0∧B.may l.blk∧w.heap[l.blk]? = some (.cells cur ty (0,0))∧m≤l.cap∧(l.cap≤maxLen∧l.sp=none)∧cur.size=l.cap*sz∧cur.toList.take (m*sz)=flatG m g)
def Blk.ok (B:Bd)(ρ:Val)(n:Nat)(w:World):Blk→Prop
 | .dead=>True
 | .cells ty xs=>∃ l,ρ n=some l∧l.off=0∧B.may l.blk∧w.heap[l.blk]? = some (.cells (denL ρ xs).toArray ty (0,0))
 | .rc ty xs=>∃ l,ρ n=some l∧l.off=0 ∧ ¬ B.may l.blk∧w.heap[l.blk]? = some (.cells (denL ρ xs).toArray ty (0,0))
 | .ro sz m g=>∃ h,(∀ i,i<m→RepL ρ.z w (g i) (h i))∧roOk (fun k => ¬ B.may k) ρ n w sz m h
 | .fz sz m g=>∃ h,(∀ i,i<m→RepL ρ.z w (g i) (h i))∧roOk ρ.z ρ n w sz m h
 | .own ty sz m g=>∃ h,(∀ i,i<m→RepL ρ.z w (g i) (h i))∧ownOk B ρ n w ty sz m h
 | .map es=>∃ l arr cnt,ρ n=some l∧B.may l.blk∧w.heap[l.blk]? = some (.map arr cnt)∧MapIs ρ es arr
 | .mix ty xs=>∃ l,ρ n=some l∧l.off=0∧B.may l.blk∧w.heap[l.blk]? = some (.cells (mixL xs (denL ρ xs)).toArray ty (0,0))
 | .fm m h=>∃ l arr cnt,ρ n=some l∧B.may l.blk∧w.heap[l.blk]? = some (.map arr cnt)∧FmIs m h arr
 | .lp T fe ps asg bd st=>∃ l r,ρ n=some l∧B.may l.blk∧w.heap[l.blk]? = some (.loop r)∧LoopIs ρ T fe ps asg bd st r
def Blk.sc (p:Nat→Bool):Blk→Bool
 | .cells _ xs=>scL p xs
 | .rc _ xs=>scL p xs
 | .map es=>scL p (es.map (·.1))&&scL p (es.map (·.2))
 | .mix _ xs=>scL p xs
 | .lp _ fe .. => scL p fe
 |_=>true
theorem Blk.sc_mono {p q:Nat→Bool}(h:∀ n,p n=true→q n=true)(b:Blk)(hs:b.sc p=true):b.sc q=true:=by
 cases b with
 |cells ty xs=>exact scL_mono h xs hs
 |rc ty xs=>exact scL_mono h xs hs
 |map es=>
  simp only[Blk.sc,Bool.and_eq_true] at hs ⊢
  exact⟨scL_mono h _ hs.1,scL_mono h _ hs.2⟩
 |mix ty xs=>exact scL_mono h xs hs
 |lp _ fe=>exact scL_mono h fe hs
 |_=>rfl
theorem esD_congr {ρ ρ':Val}{p:Nat→Bool}(h:∀ n,p n=true→ρ' n=ρ n):∀ (es:List (SV×SV)),scL p (es.map (·.1))=true→scL p (es.map (·.2))=true→esD ρ' es=esD ρ es
 |[],_,_=>rfl
 |(k,v)::l,h1,h2=>by
  simp only[List.map_cons,scL,Bool.and_eq_true] at h1 h2
  have ih:=esD_congr h l h1.2 h2.2
  simp only[esD,List.map_cons,SV.den_congr h k h1.1,SV.den_congr h v h2.1] at ih ⊢
  rw[ih]
theorem LoopIs.congr {ρ ρ':Val}{p:Nat→Bool}(h:∀ n,p n=true→ρ' n=ρ n){T:Tbl}{fe:List SV}{ps:Array Tmp}{asg bd:Code}{st:LS}{r:Loop}(hs:scL p fe=true)(hl:LoopIs ρ T fe ps asg bd st r):LoopIs ρ' T fe ps asg bd st r:=
 ⟨hl.okA,hl.okB,hl.params,hl.assign,hl.body,hl.size,fun s x hx hj=>by
   rw[scL_eq,List.all_eq_true] at hs
   rw[SV.den_congr h x (hs x (List.mem_of_getElem? hx))]
   exact hl.slot s x hx hj,hl.state,hl.pending,hl.known⟩
theorem roOk.congr {P Q:Nat→Prop}{ρ ρ':Val}{n n':Nat}{w:World}{sz m:Nat}{g:Nat→List FV}(e:ρ' n'=ρ n)(hP:∀ k,P k→Q k)(h:roOk P ρ n w sz m g):roOk Q ρ' n' w sz m g:=by
 unfold roOk at *
 rw[e];exact⟨h.1,fun l hl=>⟨(h.2 l hl).1,fun hm=>hP _ ((h.2 l hl).2.1 hm),(h.2 l hl).2.2⟩⟩
theorem ownOk.congr {B:Bd}{ρ ρ':Val}{n n':Nat}{w:World}{ty sz m:Nat}{g:Nat→List FV}(e:ρ' n'=ρ n)(h:ownOk B ρ n w ty sz m g):ownOk B ρ' n' w ty sz m g:=by
 unfold ownOk at *;rw[e];exact h
theorem Blk.ok_congr {B:Bd}{ρ ρ':Val}{p:Nat→Bool}{n:Nat}{w:World}(h:∀ n,p n=true→ρ' n=ρ n)(hz:∀ k,ρ.z k→ρ'.z k)(hn:p n=true)(b:Blk)(hs:b.sc p=true)(hb:b.ok B ρ n w):b.ok B ρ' n w:=by
 have e:=h n hn
 cases b with
 |dead=>trivial
 |cells ty xs=>simp only[Blk.sc] at hs;simp only[Blk.ok,e,denL_congr h xs hs] at hb ⊢;exact hb
 |rc ty xs=>simp only[Blk.sc] at hs;simp only[Blk.ok,e,denL_congr h xs hs] at hb ⊢;exact hb
 |ro sz m g=>
  obtain⟨q,hr,ho⟩:=hb
  exact⟨q,fun i hi=>(hr i hi).mono hz (fun _ _=>rfl),ho.congr e fun _ h=>h⟩
 |fz sz m g=>
  obtain⟨q,hr,ho⟩:=hb
  exact⟨q,fun i hi=>(hr i hi).mono hz (fun _ _=>rfl),ho.congr e hz⟩
 |own ty sz m g=>
  obtain⟨q,hr,ho⟩:=hb
  exact⟨q,fun i hi=>(hr i hi).mono hz (fun _ _=>rfl),ho.congr e⟩
 |map es=>
  simp only[Blk.sc,Bool.and_eq_true] at hs
  obtain⟨l,arr,cnt,h1,h2,h3,h4⟩:=hb
  exact⟨l,arr,cnt,by rw[e];exact h1,h2,h3,by rw[esD_congr h es hs.1 hs.2];exact h4.perm,by rw[esD_congr h es hs.1 hs.2];exact h4.nodup⟩
 |mix ty xs=>simp only[Blk.sc] at hs;simp only[Blk.ok,e,denL_congr h xs hs] at hb ⊢;exact hb
 |fm m q=>
  obtain⟨l,arr,cnt,h1,h2,h3,h4⟩:=hb
  exact⟨l,arr,cnt,by rw[e];exact h1,h2,h3,h4⟩
 |lp T fe ps asg bd st=>
  obtain⟨l,r,h1,h2,h3,h4⟩:=hb
  exact⟨l,r,by rw[e];exact h1,h2,h3,h4.congr h hs⟩
theorem Blk.ok.elim_congr {B:Bd}{ρ ρ':Val}{m n:Nat}{w:World}{b:Blk}(hb:b.ok B ρ n w)(h:∀ n,n<m→ρ' n=ρ n)(hz:∀ k,ρ.z k→ρ'.z k)(hn:n<m)(hs:b.sc (fun n=>n<m)=true):b.ok B ρ' n w:=
 Blk.ok_congr (p:=fun n=>n<m) (fun n hn=>h n (by simpa using hn)) hz (by simpa using hn) b hs hb
theorem Blk.ok_lt {B:Bd}{ρ:Val}{n:Nat}{w:World}{b:Blk}(hb:b.ok B ρ n w)(hown:b.isOwn=true){l:Loc}(hl:ρ n=some l):B.may l.blk∧l.blk<w.heap.size:=by
 cases b with
 |cells ty xs=>
  obtain⟨l',e,_,h1,h2⟩:=hb
  obtain rfl:l'=l:=by rw[hl] at e;exact(Option.some.inj e).symm
  exact⟨h1,(Array.getElem?_eq_some_iff.1 h2).1⟩
 |own ty sz m g=>
  obtain⟨_,_,hb⟩:=hb
  rcases hb.2 with⟨e,_⟩ | ⟨l',cur,e,_,h1,h2,_⟩
  . rw[hl] at e;cases e
  . obtain rfl:l'=l:=by rw[hl] at e;exact(Option.some.inj e).symm
    exact⟨h1,(Array.getElem?_eq_some_iff.1 h2).1⟩
 |map es=>
  obtain⟨l',arr,cnt,e,h1,h2,_⟩:=hb
  obtain rfl:l'=l:=by rw[hl] at e;exact(Option.some.inj e).symm
  exact⟨h1,(Array.getElem?_eq_some_iff.1 h2).1⟩
 |mix ty xs=>
  obtain⟨l',e,_,h1,h2⟩:=hb
  obtain rfl:l'=l:=by rw[hl] at e;exact(Option.some.inj e).symm
  exact⟨h1,(Array.getElem?_eq_some_iff.1 h2).1⟩
 |fm m q=>
  obtain⟨l',arr,cnt,e,h1,h2,_⟩:=hb
  obtain rfl:l'=l:=by rw[hl] at e;exact(Option.some.inj e).symm
  exact⟨h1,(Array.getElem?_eq_some_iff.1 h2).1⟩
 |lp T fe ps asg bd st=>
  obtain⟨l',r,e,h1,h2,_⟩:=hb
  obtain rfl:l'=l:=by rw[hl] at e;exact(Option.some.inj e).symm
  exact⟨h1,(Array.getElem?_eq_some_iff.1 h2).1⟩
 |dead=>cases hown
 |rc=>cases hown
 |ro=>cases hown
 |fz=>cases hown
theorem roOk.same {P:Nat→Prop}{ρ:Val}{n:Nat}{w w':World}{sz m:Nat}{g:Nat→List FV}(hP:∀ k,P k→w'.heap[k]? = w.heap[k]?)(h:roOk P ρ n w sz m g):roOk P ρ n w' sz m g:=by
 refine⟨h.1,fun l hl => ?_⟩
 obtain⟨hc,hlt,hcells⟩:=h.2 l hl
 refine⟨hc,hlt,fun i hi=>⟨(hcells i hi).1,fun j x hx => ?_⟩⟩
 rw[World.cell?_of_block (w:=w) (hP l.blk (hlt (by omega)))]
 exact(hcells i hi).2 j x hx
theorem ownOk.same {B:Bd}{ρ:Val}{n:Nat}{w w':World}{ty sz m:Nat}{g:Nat→List FV}(h:∀ l,ρ n=some l→w'.heap[l.blk]? = w.heap[l.blk]?)(hb:ownOk B ρ n w ty sz m g):ownOk B ρ n w' ty sz m g:=by
 refine⟨hb.1,?_⟩
 rcases hb.2 with he | ⟨l,cur,e,h0,h1,h2,h3⟩
 . exact .inl he
 . exact .inr ⟨l,cur,e,h0,h1,by rw[h l e];exact h2,h3⟩
theorem Blk.ok_same {B:Bd}{ρ:Val}{n:Nat}{w w':World}(b:Blk)(hb:b.ok B ρ n w)(hB:∀ k,¬ B.may k→w'.heap[k]? = w.heap[k]?)(hz:∀ k,ρ.z k→w'.heap[k]? = w.heap[k]?)
  (h:b.isOwn=true→∀ l,ρ n=some l→w'.heap[l.blk]? = w.heap[l.blk]?):b.ok B ρ n w':=by
 cases b with
 |dead=>trivial
 |cells ty xs=>
  obtain⟨l,e,h0,h1,h2⟩:=hb
  exact⟨l,e,h0,h1,by rw[h rfl l e];exact h2⟩
 |rc ty xs=>
  obtain⟨l,e,h0,h1,h2⟩:=hb
  exact⟨l,e,h0,h1,by rw[hB _ h1];exact h2⟩
 |ro sz m g=>
  obtain⟨q,hr,ho⟩:=hb
  exact⟨q,fun i hi=>(hr i hi).mono (fun _ h=>h) hz,ho.same hB⟩
 |fz sz m g=>
  obtain⟨q,hr,ho⟩:=hb
  exact⟨q,fun i hi=>(hr i hi).mono (fun _ h=>h) hz,ho.same hz⟩
 |own ty sz m g=>
  obtain⟨q,hr,ho⟩:=hb
  exact⟨q,fun i hi=>(hr i hi).mono (fun _ h=>h) hz,ho.same (h rfl)⟩
 |map es=>
  obtain⟨l,arr,cnt,e,h1,h2,h3⟩:=hb
  exact⟨l,arr,cnt,e,h1,by rw[h rfl l e];exact h2,h3⟩
 |mix ty xs=>
  obtain⟨l,e,h0,h1,h2⟩:=hb
  exact⟨l,e,h0,h1,by rw[h rfl l e];exact h2⟩
 |fm m q=>
  obtain⟨l,arr,cnt,e,h1,h2,h3⟩:=hb
  exact⟨l,arr,cnt,e,h1,by rw[h rfl l e];exact h2,h3⟩
 |lp T fe ps asg bd st=>
  obtain⟨l,r,e,h1,h2,h3⟩:=hb
  exact⟨l,r,e,h1,by rw[h rfl l e];exact h2,h3⟩
def isC (w:World)(k:Nat):Prop:=∃ cur ty f,w.heap[k]? = some (Obj.cells cur ty f)
theorem isC.same {w w':World}{k:Nat}(h:isC w k)(e:w'.heap[k]? = w.heap[k]?):isC w' k:=by
 obtain⟨c,ty,f,h⟩:=h;exact⟨c,ty,f,e.trans h⟩
structure MRel (B:Bd)(ρ:Val)(M:List Blk)(w:World):Prop where
 size:B.s≤w.heap.size
 ok:∀ (n:Nat) (b:Blk),M[n]? = some b→b.ok B ρ n w
 apart:∀ (n m:Nat) (b c:Blk) (l k:Loc),n≠m→M[n]? = some b→M[m]? = some c→b.isOwn=true→c.isOwn=true→ρ n=some l→ρ m=some k→l.blk≠k.blk
 zb:∀ k,B.z k → ¬ B.may k
 zlo:∀ k,B.z k→ρ.z k
 zhi:∀ k,ρ.z k→k<w.heap.size∧(B.z k∨B.may k)
 zown:∀ (n:Nat) (b:Blk) (l:Loc),M[n]? = some b→b.isOwn=true→ρ n=some l → ¬ ρ.z l.blk
 zc:∀ k,ρ.z k→B.z k∨isC w k
structure New (B:Bd)(S:Nat)(ρ:Val)(m:Nat)(nb:List Blk)(w:World):Prop where
 ok:∀ (k:Nat) (b:Blk),nb[k]? = some b→b.ok B ρ (m+k) w
 fresh:∀ (k:Nat) (b:Blk) (l:Loc),nb[k]? = some b→b.isOwn=true→ρ (m+k)=some l→S≤l.blk
 apart:∀ (i j:Nat) (b c:Blk) (l k:Loc),i≠j→nb[i]? = some b→nb[j]? = some c→b.isOwn=true→c.isOwn=true→ρ (m+i)=some l→ρ (m+j)=some k→l.blk≠k.blk
 zown:∀ (k:Nat) (b:Blk) (l:Loc),nb[k]? = some b→b.isOwn=true→ρ (m+k)=some l → ¬ ρ.z l.blk
 zsz:∀ k,ρ.z k→k<w.heap.size
 zc:∀ k,ρ.z k→S≤k→isC w k
theorem New.nil {B:Bd}{S:Nat}{ρ:Val}{m:Nat}{w:World}(h:∀ k,ρ.z k→k<S)(hS:S≤w.heap.size):New B S ρ m [] w:=⟨by simp,by simp,by simp,by simp,fun k hk=>Nat.lt_of_lt_of_le (h k hk) hS,fun k hk hl=>by have:=h k hk;omega⟩
theorem MRel.nil {B:Bd}{ρ:Val}{w:World}(h:B.s≤w.heap.size)(hb:∀ k,B.z k → ¬ B.may k)(hz:ρ.z=B.z):MRel B ρ [] w:=⟨h,by simp,by simp,hb,by rw[hz];exact fun _ h=>h,fun k hk=>by
 rw[hz] at hk;exact⟨Nat.lt_of_lt_of_le (Bd.lt (hb k hk)) h,.inl hk⟩,by simp,fun k hk=>by rw[hz] at hk;exact .inl hk⟩
theorem MRel.zsame {B:Bd}{ρ:Val}{M:List Blk}{w w':World}(h:MRel B ρ M w){n:Nat}{b:Blk}{l:Loc}(hn:M[n]? = some b)(ho:b.isOwn=true)(hl:ρ n=some l)(hw:∀ k,k≠l.blk→w'.heap[k]? = w.heap[k]?):∀ k,ρ.z k→w'.heap[k]? = w.heap[k]? :=
 fun k hk=>hw k fun e=>h.zown n b l hn ho hl (e▸hk)
theorem MRel.grown {B:Bd}{ρ ρ':Val}{M nb:List Blk}{w w':World}(h:MRel B ρ M w)(hsc:M.all (Blk.sc fun n=>n<M.length)=true)
  (hρ:Val.Ext w.heap.size (fun n=>n<M.length) ρ ρ') (hb:Below w.heap.size w w') (hn:New B w.heap.size ρ' M.length nb w'):MRel B ρ' (M++nb) w':=by
 have zsame:∀ k,ρ.z k→w'.heap[k]? = w.heap[k]? := fun k hk=>hb.block k (h.zhi k hk).1
 have old:∀ (n:Nat) (b:Blk),M[n]? = some b→b.ok B ρ' n w':=fun n b hn=>by
  have hlt:n<M.length:=(List.getElem?_eq_some_iff.1 hn).1
  have hm:b∈M:=List.mem_of_getElem? hn
  have h0:=h.ok n b hn
  have h1:b.ok B ρ n w':=b.ok_same h0 (fun k hk=>hb.block k (Nat.lt_of_lt_of_le (Bd.lt hk) h.size)) zsame fun ho l hl=>hb.block _ (Blk.ok_lt h0 ho hl).2
  exact h1.elim_congr hρ.eq hρ.z hlt (List.all_eq_true.1 hsc b hm)
 have oldlt:∀ (n:Nat) (b:Blk) (l:Loc),n<M.length→M[n]? = some b→b.isOwn=true→ρ' n=some l→l.blk<w.heap.size:=fun n b l hlt hnb ho e=>
  (Blk.ok_lt ((h.ok n b hnb)) ho (by rw[← hρ.eq n hlt];exact e)).2
 refine⟨Nat.le_trans h.size hb.size,fun n b hnb => ?_,fun n m b c l k hne h1 h2 o1 o2 e1 e2 => ?_,h.zb,fun k hk=>hρ.z k (h.zlo k hk),fun k hk=>⟨hn.zsz k hk,?_⟩,fun n b l hnb ho hl hz => ?_,fun k hk=>(hρ.fresh k hk).elim (fun hk'=>(h.zc k hk').imp_right fun hc=>hc.same (zsame k hk')) fun hk'=>.inr (hn.zc k hk hk')⟩
 . rcases Nat.lt_or_ge n M.length with hlt|hge
   . rw[List.getElem?_append_left hlt] at hnb;exact old n b hnb
   . rw[List.getElem?_append_right hge] at hnb
     have:=hn.ok _ _ hnb
     rwa [show M.length+(n-M.length)=n by omega] at this
 . rcases Nat.lt_or_ge n M.length with hlt|hge<;>rcases Nat.lt_or_ge m M.length with hlt'|hge'
   . rw[List.getElem?_append_left hlt] at h1;rw[List.getElem?_append_left hlt'] at h2
     exact h.apart n m b c l k hne h1 h2 o1 o2 (by rw[← hρ.eq n hlt];exact e1) (by rw[← hρ.eq m hlt'];exact e2)
   . rw[List.getElem?_append_left hlt] at h1;rw[List.getElem?_append_right hge'] at h2
     have a:=oldlt n b l hlt h1 o1 e1
     have b':=hn.fresh _ _ k h2 o2 (by rwa [show M.length+(m-M.length)=m by omega])
     omega
   . rw[List.getElem?_append_right hge] at h1;rw[List.getElem?_append_left hlt'] at h2
     have a:=oldlt m c k hlt' h2 o2 e2
     have b':=hn.fresh _ _ l h1 o1 (by rwa [show M.length+(n-M.length)=n by omega])
     omega
   . rw[List.getElem?_append_right hge] at h1;rw[List.getElem?_append_right hge'] at h2
     exact hn.apart _ _ b c l k (by omega) h1 h2 o1 o2 (by rwa [show M.length+(n-M.length)=n by omega]) (by rwa [show M.length+(m-M.length)=m by omega])
 . rcases hρ.fresh k hk with hk'|hk'
   . exact(h.zhi k hk').2
   . exact .inr (.inr (Nat.le_trans h.size hk'))
 . rcases Nat.lt_or_ge n M.length with hlt|hge
   . rw[List.getElem?_append_left hlt] at hnb
     have a:=oldlt n b l hlt hnb ho hl
     rcases hρ.fresh _ hz with hz'|hz'
     . exact h.zown n b l hnb ho (by rw[← hρ.eq n hlt];exact hl) hz'
     . omega
   . rw[List.getElem?_append_right hge] at hnb
     exact hn.zown _ _ l hnb ho (by rwa [show M.length+(n-M.length)=n by omega]) hz
end Go.Sx
