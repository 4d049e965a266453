import Derived.Test.YtfjemlegodhfnaaGreatM19
set_option linter.all false
namespace Go.Sx
open Go.RowKit Go.Proofs.YtfjemlegodhfnaaGreat
inductive Tr where
 |mk (k n:Int) (bs:List Int) (kids:List Tr)
namespace Tr
def k:Tr→Int
 |mk k _ _ _=>k
def n:Tr→Int
 |mk _ n _ _=>n
def bs:Tr→List Int
 |mk _ _ b _=>b
def kids:Tr→List Tr
 |mk _ _ _ l=>l
def no:Tr:=mk 0 0 [] []
mutual
def sz:Tr→Nat
 |mk _ _ _ l=>1+szL l
def szL:List Tr→Nat
 |[]=>0
 |t::l=>sz t+szL l
end
theorem eta (t:Tr):t=mk t.k t.n t.bs t.kids:=by cases t;rfl
theorem sz_eq (t:Tr):t.sz=1+szL t.kids:=by cases t;rfl
theorem szL_get:∀ (l:List Tr) (i:Nat),i<l.length→(l.getD i no).sz≤szL l
 |t::l,0,_=>by simp[szL]
 |t::l,i+1,h=>by
  have:=szL_get l i (by simpa using h)
  simp only[List.getD_cons_succ,szL];omega
theorem kid_lt {t:Tr}{i:Nat}(h:i<t.kids.length):(t.kids.getD i no).sz<t.sz:=by
 have:=szL_get t.kids i h
 rw[sz_eq t];omega
theorem sz_pos (t:Tr):1≤t.sz:=by rw[sz_eq];omega
theorem szL_len:∀ l:List Tr,l.length≤szL l
 |[]=>by simp[szL]
 |t::l=>by have:=szL_len l;have:=sz_pos t;simp only[List.length_cons,szL];omega
theorem kids_lt (t:Tr):t.kids.length<t.sz:=by have:=szL_len t.kids;rw[sz_eq];omega
theorem ind {p:Tr→Prop}(h:∀ t,(∀ i,i<t.kids.length→p (t.kids.getD i no))→p t)(t:Tr):p t:=by
 have:∀ N (t:Tr),t.sz<N→p t:=by
  intro N
  induction N with
  |zero=>intro t h;omega
  |succ N ih=>intro t ht;exact h t fun i hi=>ih _ (by have:=kid_lt hi;omega)
 exact this _ t (Nat.lt_succ_self _)
end Tr
def eB:Enc Int:=⟨fun b=>[.int .u8 b],fun l=>match l with | [.int .u8 b]=>b|_=>0,fun l=>match l with | [.int .u8 _]=>true|_=>false,0,
 fun l h=>by revert h;split<;>simp_all,fun _=>rfl,fun _=>rfl⟩
mutual
def encT:Tr→List FV
 | .mk k n bs l=>[.int .u8 k,.int .i64 n,.row 1 bs.length (gOf eB bs),.row 4 l.length (encK l)]
def encK:List Tr→Nat→List FV
 |[],_=>[]
 |t::_,0=>encT t
 |_::l,i+1=>encK l i
end
@[reducible] def celT (t:Tr):List FV:=[.int .u8 t.k,.int .i64 t.n,.row 1 t.bs.length (gOf eB t.bs),.row 4 t.kids.length (encK t.kids)]
theorem encT_eq (t:Tr):encT t=celT t:=by cases t;simp[encT,celT,Tr.k,Tr.n,Tr.bs,Tr.kids]
theorem encK_get:∀ (l:List Tr) (i:Nat),i<l.length→encK l i=celT (l.getD i .no)
 |t::l,0,_=>by simp only[encK,List.getD_cons_zero,encT_eq]
 |t::l,i+1,h=>by
  simp only[encK,List.getD_cons_succ]
  exact encK_get l i (by simpa using h)
@[reducible] def gK (l:List Tr):Nat→List FV:=fun i=>celT (l.getD i .no)
theorem gK_len (l:List Tr)(i:Nat):(gK l i).length=4:=rfl
theorem FVEq.inv_row {x y:FV}(h:FVEq x y):∀ {sz n:Nat} {g:Nat→List FV},y = .row sz n g→(x = .val (.slice none 0 0)∧n=0) ∨ ∃ sz' g',x = .row sz' n g'∧(0<n→sz'=sz)∧∀ i,i<n→FVEqL (g' i) (g i):=by
 cases h with
 |nil=>intro sz n g e;injection e with e1 e2;exact .inl ⟨rfl,e2.symm⟩
 |flat hf=>intro sz n g e;subst e;cases hf
 | @row sz0 sz1 n0 g0 g1 hs hl hr=>
   intro sz n g e
   injection e with e1 e2 e3
   subst e1 e2 e3
   exact .inr ⟨sz0,g0,rfl,hs,fun i hi=>⟨hl i hi,fun j a b ha hb=>hr i j a b hi ha hb⟩⟩
theorem FVEq.inv_int {x:FV}{k:IntKind}{n:Int}(h:FVEq x (.int k n)):x = .int k n:=by
 generalize hy:FV.int k n=y at h
 cases h with
 |nil=>cases hy
 |flat _=>rfl
 |row=>cases hy
@[reducible] def IsT (l:List FV) (t:Tr):Prop:=FVEqL l (celT t)
theorem isT_inv {l:List FV}{t:Tr}(h:IsT l t):∃ c d,l=[.int .u8 t.k,.int .i64 t.n,c,d]∧FVEq c (.row 1 t.bs.length (gOf eB t.bs))∧FVEq d (.row 4 t.kids.length (encK t.kids)):=by
 obtain⟨hl,hr⟩:=h
 match l,hl with
 |[a,b,c,d],_=>
  have h0:=FVEq.inv_int (hr 0 a _ rfl rfl)
  have h1:=FVEq.inv_int (hr 1 b _ rfl rfl)
  exact⟨c,d,by rw[h0,h1],hr 2 c _ rfl rfl,hr 3 d _ rfl rfl⟩
theorem isT_mk {t:Tr}{c d:FV}(hc:FVEq c (.row 1 t.bs.length (gOf eB t.bs)))(hd:FVEq d (.row 4 t.kids.length (encK t.kids))):IsT [.int .u8 t.k,.int .i64 t.n,c,d] t:=by
 refine⟨rfl,fun j x y hx hy => ?_⟩
 match j with
 |0=>simp at hx hy;subst hx hy;exact .flat rfl
 |1=>simp at hx hy;subst hx hy;exact .flat rfl
 |2=>simp at hx hy;subst hx hy;exact hc
 |3=>simp at hx hy;subst hx hy;exact hd
 |j+4=>simp at hx
theorem bytes_uniq {c:FV}{a b:List Int}(h1:FVEq c (.row 1 a.length (gOf eB a)))(h2:FVEq c (.row 1 b.length (gOf eB b))):a=b:=by
 rcases h1.inv_row rfl with⟨e1,l1⟩ | ⟨s1,g1,e1,_,r1⟩
 . rcases h2.inv_row rfl with⟨_,l2⟩ | ⟨s2,g2,e2,_,r2⟩
   . rw[List.eq_nil_of_length_eq_zero l1,List.eq_nil_of_length_eq_zero l2]
   . rw[e1] at e2;cases e2
 . rcases h2.inv_row rfl with⟨e2,_⟩ | ⟨s2,g2,e2,_,r2⟩
   . rw[e1] at e2;cases e2
   . rw[e1] at e2
     injection e2 with x1 x2 x3
     subst x1 x3
     apply List.ext_getElem x2
     intro i hi hi'
     have q1:=r1 i hi
     have q2:=r2 i hi'
     have hl:=q1.1
     match hg:g1 i,hl with
     |[x],_=>
      rw[hg] at q1 q2
      have a1:=FVEq.inv_int (q1.2 0 x (.int .u8 (a.getD i 0)) rfl rfl)
      have a2:=FVEq.inv_int (q2.2 0 x (.int .u8 (b.getD i 0)) rfl rfl)
      rw[a1] at a2
      injection a2 with _ a3
      simpa [List.getD_eq_getElem?_getD,hi,hi'] using a3
theorem isT_uniq:∀ (t:Tr) {l:List FV} {u:Tr},IsT l t→IsT l u→t=u:=by
 refine Tr.ind fun t ih => ?_
 intro l u h1 h2
 obtain⟨c,d,e1,c1,d1⟩:=isT_inv h1
 obtain⟨c',d',e2,c2,d2⟩:=isT_inv h2
 rw[e1] at e2
 injection e2 with x1 x2
 injection x2 with x2 x3
 injection x3 with x3 x4
 injection x4 with x4 _
 injection x1 with _ x1
 injection x2 with _ x2
 subst x3 x4
 have hb:=bytes_uniq c1 c2
 have hk:t.kids=u.kids:=by
  rcases d1.inv_row rfl with⟨q1,l1⟩ | ⟨s1,g1,q1,_,r1⟩
  . rcases d2.inv_row rfl with⟨_,l2⟩ | ⟨s2,g2,q2,_,r2⟩
    . rw[List.eq_nil_of_length_eq_zero l1,List.eq_nil_of_length_eq_zero l2]
    . rw[q1] at q2;cases q2
  . rcases d2.inv_row rfl with⟨q2,_⟩ | ⟨s2,g2,q2,_,r2⟩
    . rw[q1] at q2;cases q2
    . rw[q1] at q2
      injection q2 with y1 y2 y3
      subst y1 y3
      apply List.ext_getElem y2
      intro i hi hi'
      have w1:=r1 i hi
      have w2:=r2 i hi'
      rw[encK_get _ _ hi] at w1
      rw[encK_get _ _ hi'] at w2
      have:=ih i hi w1 w2
      simpa [List.getD_eq_getElem?_getD,hi,hi'] using this
 rw[t.eta,u.eta,x1,x2,hb,hk]
theorem FVEq.of_rows {sz n:Nat}{g h:Nat→List FV}(e:∀ i,i<n→g i=h i):FVEq (.row sz n g) (.row sz n h):=
 .row (fun _=>rfl) (fun i hi=>by rw[e i hi]) fun i j x y hi hx hy=>by
   rw[e i hi,hy] at hx
   obtain rfl:=Option.some.inj hx
   exact FVEq.refl _
noncomputable def decT (l:List FV):Tr:=by
 classical
 exact if h:∃ t,IsT l t then h.choose else .no
noncomputable def isT (l:List FV):Bool:=by
 classical
 exact decide (∃ t,IsT l t)
theorem isT_of {l:List FV}{t:Tr}(h:IsT l t):isT l=true:=by
 classical
 unfold isT
 simp only[decide_eq_true_eq];exact⟨t,h⟩
theorem decT_of {l:List FV}{t:Tr}(h:IsT l t):decT l=t:=by
 classical
 have hx:∃ t,IsT l t:=⟨t,h⟩
 unfold decT
 rw[dif_pos hx]
 exact isT_uniq _ hx.choose_spec h
theorem isT_dec {l:List FV}(h:isT l=true):IsT l (decT l):=by
 classical
 unfold isT at h
 simp only[decide_eq_true_eq] at h
 obtain⟨t,ht⟩:=h
 rw[decT_of ht];exact ht
theorem isT_cel (t:Tr):IsT (celT t) t:=FVEqL.refl _
@[simp] theorem decT_cel (t:Tr):decT [.int .u8 t.k,.int .i64 t.n,.row 1 t.bs.length (gOf eB t.bs),.row 4 t.kids.length (encK t.kids)]=t:=decT_of (isT_cel t)
@[simp] theorem isT_cel' (t:Tr):isT [.int .u8 t.k,.int .i64 t.n,.row 1 t.bs.length (gOf eB t.bs),.row 4 t.kids.length (encK t.kids)]=true:=isT_of (isT_cel t)
theorem isT_gK (t:Tr):IsT [.int .u8 t.k,.int .i64 t.n,.row 1 t.bs.length (gOf eB t.bs),.row 4 t.kids.length (gK t.kids)] t:=
 isT_mk (.refl _) (.of_rows fun i hi=>(encK_get _ i hi).symm)
@[simp] theorem decT_gK (t:Tr):decT [.int .u8 t.k,.int .i64 t.n,.row 1 t.bs.length (gOf eB t.bs),.row 4 t.kids.length (gK t.kids)]=t:=decT_of (isT_gK t)
@[simp] theorem isT_gK' (t:Tr):isT [.int .u8 t.k,.int .i64 t.n,.row 1 t.bs.length (gOf eB t.bs),.row 4 t.kids.length (gK t.kids)]=true:=isT_of (isT_gK t)
theorem open_T {l:List FV}(h:isT l=true):AVEqL [.agg l] [.agg [.int .u8 (decT l).k,.int .i64 (decT l).n,.row 1 (decT l).bs.length (gOf eB (decT l).bs),.row 4 (decT l).kids.length (gK (decT l).kids)]]:=by
 refine⟨?_,trivial⟩
 have h1:=isT_dec h
 obtain⟨c,d,e,hc,hd⟩:=isT_inv h1
 have key:FVEqL l [.int .u8 (decT l).k,.int .i64 (decT l).n,.row 1 (decT l).bs.length (gOf eB (decT l).bs),.row 4 (decT l).kids.length (gK (decT l).kids)]:=by
  refine⟨by rw[e];rfl,fun j x y hx hy => ?_⟩
  rw[e] at hx
  match j with
  |0=>simp at hx hy;subst hx hy;exact .flat rfl
  |1=>simp at hx hy;subst hx hy;exact .flat rfl
  |2=>simp at hx hy;subst hx hy;exact hc
  |3=>
   simp at hx hy;subst hx hy
   rcases hd.inv_row rfl with⟨q1,l1⟩ | ⟨s1,g1,q1,s2,r1⟩
   . rw[q1,l1];exact .nil
   . rw[q1]
     exact .row s2 (fun i hi=>by rw[(r1 i hi).1,encK_get _ i hi]) fun i j x y hi hx hy=>(r1 i hi).2 j x y hx (by rw[encK_get _ i hi];exact hy)
  |j+4=>simp at hx
 exact key
theorem tells_own {k n n':Nat}{ty:TypeId}{sz:Nat}{g g':Nat→List FV}{M1:List Blk}(hk:nth M1 k=some (.own ty sz n g))(hn:n'=n)(hg:∀ i,i<n'→g' i=g i):Tells (.sl 0 sz 0 n') [.own ty sz n' g'] (.sl k sz 0 n) M1:=by
 refine⟨[k],rfl,?_,.sl 0 sz 0 n,by simp[renS,idxN],fun ρ=>by rw[hn]⟩
 simp only[renMs,hk,renB]
 exact mle_cons (ble_own hn hg) mle_nil
theorem elts_eq {α:Type}(e:Enc α){L:List α}{m:Nat}(h:m=L.length):elts e 0 m (gOf e L)=L:=by subst h;exact elts_all e L
theorem gOf_app {α:Type}(e:Enc α){L M:List α}{n:Nat}{h:Nat→List FV}(hn:n=L.length)(hh:∀ i,i<M.length→h i=gOf e M i):∀ i,i<n+M.length→gOf e (L++M) i=gApp n (gOf e L) h i:=by
 intro i hi
 subst hn
 rw[gOf_append e L M i hi]
 unfold gApp
 split
 . rfl
 . rename_i hlt
   have : ¬ i<L.length:=by simpa using hlt
   exact(hh _ (by omega)).symm
namespace Tr
mutual
def right:Tr→Bool
 |mk k n bs l=>(k==1||(k==3||k==2))&&((k==1||n==0)&&((k==2||bs.length==0)&&((k==3||l.length==0)&&rightL l)))
def rightL:List Tr→Bool
 |[]=>true
 |t::l=>right t&&rightL l
end
mutual
def within:Tr→Int→Bool
 |mk k _ _ l,d=>k != 3||(decide (0<d)&&withinL l (IntKind.i64.wrap (d-1)))
def withinL:List Tr→Int→Bool
 |[],_=>true
 |t::l,d=>within t d&&withinL l d
end
theorem right_eq (t:Tr):t.right=((t.k==1||(t.k==3||t.k==2))&&((t.k==1||t.n==0)&&((t.k==2||t.bs.length==0)&&((t.k==3||t.kids.length==0)&&rightL t.kids)))):=by cases t;rw[right];rfl
theorem within_eq (t:Tr)(d:Int):t.within d=(t.k != 3||(decide (0<d)&&withinL t.kids (IntKind.i64.wrap (d-1)))):=by cases t;rw[within];rfl
theorem rightL_all:∀ (l:List Tr),rightL l=l.all right
 |[]=>by simp[rightL]
 |t::l=>by simp[rightL,rightL_all l]
theorem rightL_take {l:List Tr}{j:Nat}(h:j<l.length):rightL (l.take (j+1))=(rightL (l.take j)&&(l.getD j .no).right):=by
 rw[List.take_succ_eq_append_getElem h,rightL_all,rightL_all,List.all_append]
 simp[List.getD_eq_getElem?_getD,h]
theorem rightL_not {l:List Tr}{j:Nat}(h:j<l.length)(hr:(l.getD j .no).right=false):rightL l=false:=by
 rw[rightL_all,List.all_eq_false]
 exact⟨l[j],List.getElem_mem h,by simpa [List.getD_eq_getElem?_getD,h] using hr⟩
theorem withinL_all:∀ (l:List Tr) (d:Int),withinL l d=l.all fun t=>t.within d
 |[],d=>by simp[withinL]
 |t::l,d=>by simp[withinL,withinL_all l]
theorem withinL_take {l:List Tr}{j:Nat}{d:Int}(h:j<l.length):withinL (l.take (j+1)) d=(withinL (l.take j) d&&(l.getD j .no).within d):=by
 rw[List.take_succ_eq_append_getElem h,withinL_all,withinL_all,List.all_append]
 simp[List.getD_eq_getElem?_getD,h]
theorem withinL_not {l:List Tr}{j:Nat}{d:Int}(h:j<l.length)(hr:(l.getD j .no).within d=false):withinL l d=false:=by
 rw[withinL_all,List.all_eq_false]
 exact⟨l[j],List.getElem_mem h,by simpa [List.getD_eq_getElem?_getD,h] using hr⟩
def low (v:BitVec 64):Nat→List Int
 |0=>[]
 |m+1=>IntKind.u8.wrap (uv (v >>> (8*m)))::low v m
theorem low_length (v:BitVec 64):∀ m,(low v m).length=m
 |0=>rfl
 |m+1=>by simp[low,low_length v m]
def many (v:BitVec 64):Nat:=(bl v+7) / 8
def top (k:Int)(b:Int):Int:=Go.bits .or .u8 (IntKind.u8.wrap (IntKind.u8.wrap (k-1)*2^min (BitVec.ofInt 64 6).toNat IntKind.u8.bits)) (IntKind.u8.wrap b)
def head (k:Int)(v:BitVec 64):List Int:=if decide (v<BitVec.ofInt 64 56) then [top k (uv v)] else top k (55+(many v:Int))::low v (many v)
def zig (n:Int):BitVec 64:=(BitVec.ofInt 64 n <<< (BitVec.ofInt 64 1).toNat) ^^^ BitVec.ofInt 64 (n.fdiv (2^min (BitVec.ofInt 64 63).toNat IntKind.i64.bits))
mutual
def put:Tr→List Int
 |mk k n bs l=>if k==1 then head 1 (zig n) else if k==2 then head 2 (BitVec.ofInt 64 bs.length)++bs else head 3 (BitVec.ofInt 64 l.length)++putL l
def putL:List Tr→List Int
 |[]=>[]
 |t::l=>put t++putL l
end
theorem put_eq (t:Tr):t.put=if t.k==1 then head 1 (zig t.n) else if t.k==2 then head 2 (BitVec.ofInt 64 t.bs.length)++t.bs else head 3 (BitVec.ofInt 64 t.kids.length)++putL t.kids:=by cases t;rw[put];rfl
theorem putL_append:∀ (a b:List Tr),putL (a++b)=putL a++putL b
 |[],b=>by simp[putL]
 |t::a,b=>by simp[putL,putL_append a b]
theorem head_pos (k:Int)(v:BitVec 64):1≤(head k v).length:=by unfold head;split<;>simp
theorem put_pos (t:Tr):1≤t.put.length:=by
 rw[put_eq]
 split
 . exact head_pos _ _
 . split
   . have:=head_pos 2 (BitVec.ofInt 64 t.bs.length);rw[List.length_append];omega
   . have:=head_pos 3 (BitVec.ofInt 64 t.kids.length);rw[List.length_append];omega
theorem putL_len:∀ (l:List Tr),l.length≤(putL l).length
 |[]=>by simp[putL]
 |t::l=>by have:=putL_len l;have:=put_pos t;simp[putL];omega
theorem putL_take (l:List Tr)(j:Nat)(h:j<l.length):putL (l.take (j+1))=putL (l.take j)++(l.getD j .no).put:=by
 rw[List.take_succ_eq_append_getElem h,putL_append]
 simp[putL,List.getD_eq_getElem?_getD,h]
theorem putL_part (l:List Tr)(j:Nat):(putL (l.take j)).length≤(putL l).length:=by
 have:=congrArg List.length (putL_append (l.take j) (l.drop j))
 rw[List.take_append_drop,List.length_append] at this;omega
mutual
def same:Tr→Tr→Bool
 |mk k n bs l,u=>k==u.k&&(n==u.n&&(l.length==u.kids.length&&(bs==u.bs&&sameL l u.kids)))
def sameL:List Tr→List Tr→Bool
 |[],_=>true
 |_::_,[]=>true
 |t::l,u::m=>same t u&&sameL l m
end
mutual
def weight:Tr→Int→Int→Int
 |mk _ _ bs l,lim,d=>if d==0&&decide (0 < (l.length:Int)) then IntKind.i64.wrap (lim+1) else weightL l lim d (IntKind.i64.wrap (1+bs.length))
def weightL:List Tr→Int→Int→Int→Int
 |[],_,_,n=>n
 |t::l,lim,d,n=>if decide (n≤lim) then weightL l lim d (IntKind.i64.wrap (n+weight t (IntKind.i64.wrap (lim-n)) (IntKind.i64.wrap (d-1)))) else n
end
def puts (t:Tr):List Int×Int:=if t.right then (if t.within 16 then (t.put,0) else ([],3)) else ([],2)
theorem many_le (v:BitVec 64):many v≤8:=by
 have:=bl_le v
 unfold many;omega
end Tr
end Go.Sx
namespace Go.Sx
open Go.RowKit Go.Proofs.YtfjemlegodhfnaaGreat
structure Cel (α:Type) where
 cel:α→List FV
 dft:α
 uniq:∀ {l:List FV} {a b:α},FVEqL l (cel a)→FVEqL l (cel b)→a=b
namespace Cel
section
variable {α:Type}(c:Cel α)
noncomputable def dec (l:List FV):α:=by
 classical
 exact if h:∃ a,FVEqL l (c.cel a) then h.choose else c.dft
noncomputable def is (l:List FV):Bool:=by
 classical
 exact decide (∃ a,FVEqL l (c.cel a))
variable {c}
theorem is_of {l:List FV}{a:α}(h:FVEqL l (c.cel a)):c.is l=true:=by
 classical
 unfold is
 simp only[decide_eq_true_eq];exact⟨a,h⟩
theorem dec_of {l:List FV}{a:α}(h:FVEqL l (c.cel a)):c.dec l=a:=by
 classical
 have hx:∃ a,FVEqL l (c.cel a):=⟨a,h⟩
 unfold dec
 rw[dif_pos hx]
 exact c.uniq hx.choose_spec h
theorem is_dec {l:List FV}(h:c.is l=true):FVEqL l (c.cel (c.dec l)):=by
 classical
 unfold is at h
 simp only[decide_eq_true_eq] at h
 obtain⟨a,ha⟩:=h
 rw[dec_of ha];exact ha
@[reducible] def g (c:Cel α) (L:List α):Nat→List FV:=fun i=>c.cel (L.getD i c.dft)
theorem rows_uniq {x:FV}{sz sz':Nat}{a b:List α}(h1:FVEq x (.row sz a.length (c.g a)))(h2:FVEq x (.row sz' b.length (c.g b))):a=b:=by
 rcases h1.inv_row rfl with⟨e1,l1⟩ | ⟨s1,g1,e1,_,r1⟩
 . rcases h2.inv_row rfl with⟨_,l2⟩ | ⟨s2,g2,e2,_,r2⟩
   . rw[List.eq_nil_of_length_eq_zero l1,List.eq_nil_of_length_eq_zero l2]
   . rw[e1] at e2;cases e2
 . rcases h2.inv_row rfl with⟨e2,_⟩ | ⟨s2,g2,e2,_,r2⟩
   . rw[e1] at e2;cases e2
   . rw[e1] at e2
     injection e2 with x1 x2 x3
     subst x1 x3
     apply List.ext_getElem x2
     intro i hi hi'
     have:=c.uniq (r1 i hi) (r2 i hi')
     simpa [List.getD_eq_getElem?_getD,hi,hi'] using this
variable (c)
noncomputable def isR (sz:Nat) (x:FV):Bool:=by
 classical
 exact decide (∃ L:List α,FVEq x (.row sz L.length (c.g L)))
noncomputable def decR (sz:Nat) (x:FV):List α:=by
 classical
 exact if h:∃ L:List α,FVEq x (.row sz L.length (c.g L)) then h.choose else []
variable {c}
theorem isR_of {sz:Nat}{x:FV}{L:List α}(h:FVEq x (.row sz L.length (c.g L))):c.isR sz x=true:=by
 classical
 unfold isR
 simp only[decide_eq_true_eq];exact⟨L,h⟩
theorem decR_of {sz:Nat}{x:FV}{L:List α}(h:FVEq x (.row sz L.length (c.g L))):c.decR sz x=L:=by
 classical
 have hx:∃ L:List α,FVEq x (.row sz L.length (c.g L)):=⟨L,h⟩
 unfold decR
 rw[dif_pos hx]
 exact rows_uniq hx.choose_spec h
theorem isR_dec {sz:Nat}{x:FV}(h:c.isR sz x=true):FVEq x (.row sz (c.decR sz x).length (c.g (c.decR sz x))):=by
 classical
 unfold isR at h
 simp only[decide_eq_true_eq] at h
 obtain⟨L,hL⟩:=h
 rw[decR_of hL];exact hL
theorem eqv_cel (a:α):FVEqL (c.cel a) (c.cel a):=FVEqL.refl _
theorem row_refl (sz:Nat)(L:List α):FVEq (.row sz L.length (c.g L)) (.row sz L.length (c.g L)):=FVEq.refl _
theorem row_nil (sz:Nat):FVEq (.val (.slice none 0 0)) (.row sz ([]:List α).length (c.g [])):=.nil
theorem row_snoc {sz:Nat}{n:Nat}{g h:Nat→List FV}{L:List α}{a:α}(hn:n=L.length)(hg:∀ i,i<n→FVEqL (g i) (c.g L i))(ha:FVEqL (h 0) (c.cel a)):∀ i,i<n+1→FVEqL (gApp n g h i) (c.g (L++[a]) i):=by
 intro i hi
 subst hn
 unfold gApp
 by_cases hlt:i<L.length
 . have:=hg i hlt
   simpa [Cel.g,hlt,List.getD_eq_getElem?_getD,List.getElem?_append_left hlt] using this
 . obtain rfl:i=L.length:=by omega
   simpa [Cel.g,List.getD_eq_getElem?_getD] using ha
theorem row_part {sz:Nat}{g h:Nat→List FV}{off n:Nat}{L:List α}(hL:off+n≤L.length)(hg:∀ i,i<L.length→FVEqL (g i) (c.g L i))(hh:∀ i,i<n→h i=g (off+i)):FVEq (.row sz n h) (.row sz ((L.drop off).take n).length (c.g ((L.drop off).take n))):=by
 have hl:((L.drop off).take n).length=n:=by simp;omega
 rw[hl]
 have key:∀ i,i<n→FVEqL (h i) (c.g ((L.drop off).take n) i):=fun i hi=>by
  rw[hh i hi]
  have:=hg (off+i) (by omega)
  have e:((L.drop off).take n).getD i c.dft=L.getD (off+i) c.dft:=by
   simp[List.getD_eq_getElem?_getD,List.getElem?_take,hi]
  show FVEqL _ (c.cel _)
  rw[e];exact this
 exact .row (fun _=>rfl) (fun i hi=>(key i hi).1) fun i j x y hi hx hy=>(key i hi).2 j x y hx hy
theorem row_of {sz n:Nat}{g:Nat→List FV}{L:List α}(hn:n=L.length)(hg:∀ i,i<n→FVEqL (g i) (c.g L i)):FVEq (.row sz n g) (.row sz L.length (c.g L)):=by
 subst hn
 exact .row (fun _=>rfl) (fun i hi=>(hg i hi).1) fun i j x y hi hx hy=>(hg i hi).2 j x y hx hy
end
end Cel
theorem FVEq.inv_flat {x y:FV}(h:FVEq x y)(hy:y.flat=true):x=y:=by
 cases h with
 |nil=>cases hy
 |flat _=>rfl
 |row=>cases hy
theorem FVEqL.inv_cons {l:List FV}{y:FV}{m:List FV}(h:FVEqL l (y::m)):∃ x l',l=x::l'∧FVEq x y∧FVEqL l' m:=by
 obtain⟨hl,hr⟩:=h
 match l,hl with
 |x::l',hl=>exact⟨x,l',rfl,hr 0 x y rfl rfl,by simpa using hl,fun j a b ha hb=>hr (j+1) a b (by simpa using ha) (by simpa using hb)⟩
theorem FVEqL.inv_nil {l:List FV}(h:FVEqL l []):l=[]:=List.eq_nil_of_length_eq_zero h.1
def Enc.toCel {α:Type}(e:Enc α)(hf:∀ a,(e.enc a).all FV.flat=true):Cel α:=⟨e.enc,e.dft,fun{l a b} h1 h2=>by
 have key:∀ {l m:List FV},m.all FV.flat=true→FVEqL l m→l=m:=by
    intro l m
    induction m generalizing l with
    |nil=>intro _ h;exact h.inv_nil
    |cons y m ih=>
     intro hm h
     obtain⟨x,l',rfl,hx,hl⟩:=h.inv_cons
     simp only[List.all_cons,Bool.and_eq_true] at hm
     rw[hx.inv_flat hm.1,ih hm.2 hl]
 have:=(key (hf a) h1).symm.trans (key (hf b) h2)
 have:=congrArg e.dec this
 rwa [e.dec_enc,e.dec_enc] at this⟩
def cB:Cel Int:=eB.toCel fun _=>rfl
theorem cB_cel (b:Int):cB.cel b=[.int .u8 b]:=rfl
theorem cB_g (L:List Int):cB.g L=gOf eB L:=rfl
end Go.Sx
