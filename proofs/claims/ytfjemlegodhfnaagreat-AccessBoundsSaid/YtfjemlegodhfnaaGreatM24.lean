import Derived.Test.YtfjemlegodhfnaaGreatM01
set_option linter.all false
namespace Go.Proofs.YtfjemlegodhfnaaGreat
open Go.RowKit
structure Tn where
 v:BitVec 64
 m:BitVec 64
 deriving DecidableEq
@[reducible,go_sem] def tnv (t:Tn):Value:=.agg #[.int .u64 (uv t.v),.int .u64 (uv t.m)]
@[reducible,go_sem] def tnb (t:Tn×Bool):Value:=.tuple #[.agg #[.int .u64 (uv t.1.v),.int .u64 (uv t.1.m)],.bool t.2]
namespace T
def right (t:Tn):Bool:=t.v &&& t.m==0#64
def has (t:Tn)(n:BitVec 64):Bool:=right t&&(n &&& ~~~t.m==t.v)
def leq (a b:Tn):Bool:=right a&&right b&&(a.m &&& ~~~b.m==0#64)&&(a.v &&& ~~~b.m==b.v)
def meet (a b:Tn):Tn×Bool:=if !right a || !right b||((a.v ^^^ b.v) &&& ~~~a.m &&& ~~~b.m != 0#64) then (⟨0,0⟩,false) else (⟨a.v ||| b.v,a.m &&& b.m⟩,true)
def join2 (a b:Tn):Tn:=⟨a.v &&& ~~~(a.m ||| b.m ||| (a.v ^^^ b.v)),a.m ||| b.m ||| (a.v ^^^ b.v)⟩
def range (lo hi:BitVec 64):Tn:=
 if hi<lo then ⟨0,BitVec.allOnes 64⟩ else
 let m:=if lo=hi then 0 else BitVec.allOnes 64 >>> (64-bl (lo ^^^ hi))
 ⟨lo &&& ~~~m,m⟩
def sum (a b:Tn):Tn:=let m:=(a.v+b.v+(a.m+b.m) ^^^ (a.v+b.v)) ||| a.m ||| b.m;⟨(a.v+b.v) &&& ~~~m,m⟩
def difference (a b:Tn):Tn:=let m:=((a.v-b.v+a.m) ^^^ (a.v-b.v-b.m)) ||| a.m ||| b.m;⟨(a.v-b.v) &&& ~~~m,m⟩
def and (a b:Tn):Tn:=⟨a.v &&& b.v,(a.v ||| a.m) &&& (b.v ||| b.m) &&& ~~~(a.v &&& b.v)⟩
def or (a b:Tn):Tn:=⟨a.v ||| b.v,(a.m ||| b.m) &&& ~~~(a.v ||| b.v)⟩
def xor (a b:Tn):Tn:=⟨(a.v ^^^ b.v) &&& ~~~(a.m ||| b.m),a.m ||| b.m⟩
def product (a b:Tn):Tn:=let m:=BitVec.allOnes 64 <<< min (tz a.m) (tz b.m);⟨a.v*b.v &&& ~~~m,m⟩
def knows (op:BitVec 8):Bool:=op==0#8||op==16#8||op==80#8||op==64#8||op==160#8||op==32#8
def opOf (op:BitVec 8)(a b:Tn):Tn:=
 if op=0#8 then T.sum a b else if op=16#8 then T.difference a b else if op=80#8 then T.and a b else if op=64#8 then T.or a b else if op=160#8 then T.xor a b else if op=32#8 then T.product a b else ⟨0,0⟩
def does (op:BitVec 8)(a b:Tn):Tn×Bool:=if knows op&&right a&&right b then (opOf op a b,true) else (⟨0,0⟩,false)
def join (L:List Tn):Tn:=match L.filter T.right with
 |[]=>⟨0,BitVec.allOnes 64⟩
 |t::r=>r.foldl T.join2 t
end T
end Go.Proofs.YtfjemlegodhfnaaGreat
namespace Go.Proofs.YtfjemlegodhfnaaGreat
open Go.RowKit
namespace T
theorem bv_eq {x y:BitVec 64}:x=y ↔ ∀ i,i<64→x.getLsbD i=y.getLsbD i:=⟨fun h i _=>by rw[h],fun h=>BitVec.eq_of_getLsbD_eq h⟩
theorem right_iff {t:Tn}:right t=true ↔ ∀ i,i<64→(t.v.getLsbD i&&t.m.getLsbD i)=false:=by
 unfold right;rw[beq_iff_eq,bv_eq]
 exact⟨fun h i hi=>by simpa using h i hi,fun h i hi=>by simpa using h i hi⟩
theorem has_iff {t:Tn}{n:BitVec 64}:has t n=true ↔ ∀ i,i<64→((t.v.getLsbD i&&t.m.getLsbD i)=false∧(n.getLsbD i && !t.m.getLsbD i)=t.v.getLsbD i):=by
 unfold has;rw[Bool.and_eq_true,right_iff,beq_iff_eq,bv_eq]
 constructor
 . rintro⟨h1,h2⟩ i hi;have:=h2 i hi;simp[hi] at this;exact⟨h1 i hi,this⟩
 . intro h;exact⟨fun i hi=>(h i hi).1,fun i hi=>by have:=(h i hi).2;simpa [hi] using this⟩
theorem leq_iff {a b:Tn}:leq a b=true ↔ ∀ i,i<64→((a.v.getLsbD i&&a.m.getLsbD i)=false∧(b.v.getLsbD i&&b.m.getLsbD i)=false∧(a.m.getLsbD i && !b.m.getLsbD i)=false∧(a.v.getLsbD i && !b.m.getLsbD i)=b.v.getLsbD i):=by
 unfold leq;rw[Bool.and_eq_true,Bool.and_eq_true,Bool.and_eq_true,right_iff,right_iff,beq_iff_eq,beq_iff_eq,bv_eq,bv_eq]
 constructor
 . rintro⟨⟨⟨h1,h2⟩,h3⟩,h4⟩ i hi
   have h3':=h3 i hi;have h4':=h4 i hi
   exact⟨h1 i hi,h2 i hi,by simpa [hi] using h3',by simpa [hi] using h4'⟩
 . intro h
   refine⟨⟨⟨fun i hi=>(h i hi).1,fun i hi=>(h i hi).2.1⟩,fun i hi => ?_⟩,fun i hi => ?_⟩
   . have:=(h i hi).2.2.1;simpa [hi] using this
   . have:=(h i hi).2.2.2;simpa [hi] using this
theorem ext {a b:Tn}(hv:∀ i,i<64→a.v.getLsbD i=b.v.getLsbD i)(hm:∀ i,i<64→a.m.getLsbD i=b.m.getLsbD i):a=b:=by
 cases a;cases b;congr 1
 . exact bv_eq.2 hv
 . exact bv_eq.2 hm
theorem right_of (v m:BitVec 64):right ⟨v &&& ~~~m,m⟩=true:=right_iff.2 fun i hi=>by simp[hi]
theorem leq_refl {a:Tn}(h:right a=true):leq a a=true:=leq_iff.2 fun i hi=>by
 have:=right_iff.1 h i hi
 revert this;cases a.v.getLsbD i<;>cases a.m.getLsbD i<;>simp
theorem leq_antisymm {a b:Tn}(h1:leq a b=true)(h2:leq b a=true):a=b:=by
 apply ext
 all_goals
  intro i hi
  have p:=leq_iff.1 h1 i hi;have q:=leq_iff.1 h2 i hi
  revert p q;cases a.v.getLsbD i<;>cases a.m.getLsbD i<;>cases b.v.getLsbD i<;>cases b.m.getLsbD i<;>simp
theorem leq_trans {a b c:Tn}(h1:leq a b=true)(h2:leq b c=true):leq a c=true:=leq_iff.2 fun i hi=>by
 have p:=leq_iff.1 h1 i hi;have q:=leq_iff.1 h2 i hi
 revert p q;cases a.v.getLsbD i<;>cases a.m.getLsbD i<;>cases b.v.getLsbD i<;>cases b.m.getLsbD i<;>cases c.v.getLsbD i<;>cases c.m.getLsbD i<;>simp
theorem join2_left {a b:Tn}(ha:right a=true)(hb:right b=true):leq a (join2 a b)=true:=leq_iff.2 fun i hi=>by
 have p:=right_iff.1 ha i hi;have q:=right_iff.1 hb i hi
 simp only[join2,BitVec.getLsbD_and,BitVec.getLsbD_or,BitVec.getLsbD_xor,BitVec.getLsbD_not,hi,decide_true,Bool.true_and]
 revert p q;cases a.v.getLsbD i<;>cases a.m.getLsbD i<;>cases b.v.getLsbD i<;>cases b.m.getLsbD i<;>simp
theorem join2_comm (a b:Tn):join2 a b=join2 b a:=by
 apply ext
 all_goals
  intro i hi
  simp only[join2,BitVec.getLsbD_and,BitVec.getLsbD_or,BitVec.getLsbD_xor,BitVec.getLsbD_not,hi,decide_true,Bool.true_and]
  cases ha:a.v.getLsbD i<;>cases a.m.getLsbD i<;>cases b.v.getLsbD i<;>cases b.m.getLsbD i<;>simp
theorem join2_right {a b:Tn}(ha:right a=true)(hb:right b=true):leq b (join2 a b)=true:=by rw[join2_comm];exact join2_left hb ha
theorem join2_least {a b c:Tn}(h1:leq a c=true)(h2:leq b c=true):leq (join2 a b) c=true:=leq_iff.2 fun i hi=>by
 have p:=leq_iff.1 h1 i hi;have q:=leq_iff.1 h2 i hi
 simp only[join2,BitVec.getLsbD_and,BitVec.getLsbD_or,BitVec.getLsbD_xor,BitVec.getLsbD_not,hi,decide_true,Bool.true_and]
 revert p q;cases a.v.getLsbD i<;>cases a.m.getLsbD i<;>cases b.v.getLsbD i<;>cases b.m.getLsbD i<;>cases c.v.getLsbD i<;>cases c.m.getLsbD i<;>simp
theorem join_two {a b:Tn}(ha:right a=true)(hb:right b=true):join [a,b]=join2 a b:=by simp[join,ha,hb]
theorem join2_of_leq {a b:Tn}(h:leq a b=true):join2 a b=b:=by
 apply ext
 all_goals
  intro i hi
  have p:=leq_iff.1 h i hi
  simp only[join2,BitVec.getLsbD_and,BitVec.getLsbD_or,BitVec.getLsbD_xor,BitVec.getLsbD_not,hi,decide_true,Bool.true_and]
  revert p;cases a.v.getLsbD i<;>cases a.m.getLsbD i<;>cases b.v.getLsbD i<;>cases b.m.getLsbD i<;>simp
theorem leq_has {a b:Tn}{n:BitVec 64}(h:leq a b=true)(hn:has a n=true):has b n=true:=has_iff.2 fun i hi=>by
 have p:=leq_iff.1 h i hi;have q:=has_iff.1 hn i hi
 revert p q;cases a.v.getLsbD i<;>cases a.m.getLsbD i<;>cases b.v.getLsbD i<;>cases b.m.getLsbD i<;>cases n.getLsbD i<;>simp
theorem meet_bits {a b:Tn}(ha:right a=true)(hb:right b=true)(h:(meet a b).2=true):
  meet a b=(⟨a.v ||| b.v,a.m &&& b.m⟩,true)∧∀ i,i<64→((a.v.getLsbD i ^^ b.v.getLsbD i) && !a.m.getLsbD i && !b.m.getLsbD i)=false:=by
 unfold meet at h ⊢
 split at h
 . cases h
 . rename_i hc
   rw[if_neg hc]
   refine⟨rfl,fun i hi => ?_⟩
   simp only[ha,hb,Bool.not_true,Bool.false_or,bne_iff_ne,ne_eq,Decidable.not_not] at hc
   have:=bv_eq.1 hc i hi
   simpa [hi] using this
theorem meet_no {a b:Tn}(ha:right a=true)(hb:right b=true)(h:(meet a b).2=false):∃ i,i<64∧((a.v.getLsbD i ^^ b.v.getLsbD i) && !a.m.getLsbD i && !b.m.getLsbD i)=true:=by
 unfold meet at h
 split at h
 . rename_i hc
   simp only[ha,hb,Bool.not_true,Bool.false_or,bne_iff_ne,ne_eq] at hc
   apply Classical.byContradiction
   intro hn
   apply hc
   rw[bv_eq]
   intro i hi
   have : ¬ (((a.v.getLsbD i ^^ b.v.getLsbD i) && !a.m.getLsbD i && !b.m.getLsbD i)=true):=fun e=>hn ⟨i,hi,e⟩
   simpa [hi] using this
 . cases h
theorem meet_has {a b:Tn}(ha:right a=true)(hb:right b=true)(n:BitVec 64):(has a n&&has b n)=((meet a b).2&&has (meet a b).1 n):=by
 cases hm:(meet a b).2 with
 |true=>
  obtain⟨e,hbits⟩:=meet_bits ha hb hm
  rw[e,Bool.true_and,Bool.eq_iff_iff,Bool.and_eq_true,has_iff,has_iff,has_iff]
  constructor
  . rintro⟨h1,h2⟩ i hi
    have p:=h1 i hi;have q:=h2 i hi;have r:=hbits i hi
    simp only[BitVec.getLsbD_and,BitVec.getLsbD_or]
    revert p q r;cases a.v.getLsbD i<;>cases a.m.getLsbD i<;>cases b.v.getLsbD i<;>cases b.m.getLsbD i<;>cases n.getLsbD i<;>simp
  . intro h
    refine⟨fun i hi => ?_,fun i hi => ?_⟩
    all_goals
        have p:=h i hi;have q:=right_iff.1 ha i hi;have q':=right_iff.1 hb i hi;have r:=hbits i hi
        simp only[BitVec.getLsbD_and,BitVec.getLsbD_or] at p
        revert p q q' r;cases a.v.getLsbD i<;>cases a.m.getLsbD i<;>cases b.v.getLsbD i<;>cases b.m.getLsbD i<;>cases n.getLsbD i<;>simp
 |false=>
  rw[Bool.false_and]
  obtain⟨i,hi,hx⟩:=meet_no ha hb hm
  apply Bool.eq_false_iff.2
  intro h
  rw[Bool.and_eq_true,has_iff,has_iff] at h
  have p:=h.1 i hi;have q:=h.2 i hi
  revert p q hx;cases a.v.getLsbD i<;>cases a.m.getLsbD i<;>cases b.v.getLsbD i<;>cases b.m.getLsbD i<;>cases n.getLsbD i<;>simp
theorem meet_leq {a b:Tn}(ha:right a=true)(hb:right b=true)(h:(meet a b).2=true):leq (meet a b).1 a=true∧leq (meet a b).1 b=true:=by
 obtain⟨e,hbits⟩:=meet_bits ha hb h
 rw[e]
 constructor
 all_goals
  rw[leq_iff]
  intro i hi
  have q:=right_iff.1 ha i hi;have q':=right_iff.1 hb i hi;have r:=hbits i hi
  simp only[BitVec.getLsbD_and,BitVec.getLsbD_or]
  revert q q' r;cases a.v.getLsbD i<;>cases a.m.getLsbD i<;>cases b.v.getLsbD i<;>cases b.m.getLsbD i<;>simp
end T
end Go.Proofs.YtfjemlegodhfnaaGreat
namespace Go.Proofs.YtfjemlegodhfnaaGreat
open Go.RowKit
namespace T
def mk (f:Nat→Bool):Nat→BitVec 64
 |0=>0
 |j+1=>if f j then mk f j ||| (1#64 <<< j) else mk f j
theorem one_bit {i j:Nat}(hi:i<64):(1#64 <<< j).getLsbD i=decide (i=j):=by
 simp only[BitVec.getLsbD_shiftLeft,hi,decide_true,Bool.true_and,BitVec.getLsbD_one]
 by_cases h:i=j
 . subst h;simp
 . simp[h];omega
theorem mk_bit (f:Nat→Bool):∀ (j i:Nat),i<64→(mk f j).getLsbD i=(decide (i<j)&&f i)
 |0,i,hi=>by simp[mk]
 |j+1,i,hi=>by
  have ih:=mk_bit f j i hi
  unfold mk
  split
  . rename_i h
    rw[BitVec.getLsbD_or,ih,one_bit hi]
    by_cases e:i=j
    . subst e;simp[h]
    . simp only[e,decide_false,Bool.or_false]
      congr 1;exact decide_eq_decide.2 (by omega)
  . rename_i h
    rw[ih]
    by_cases e:i=j
    . subst e;simp[h]
    . congr 1;exact decide_eq_decide.2 (by omega)
theorem mk_yes {f:Nat→Bool}{j:Nat}(h:f j=true):mk f (j+1)=mk f j ||| (1#64 <<< j):=by simp[mk,h]
theorem mk_no {f:Nat→Bool}{j:Nat}(h:f j=false):mk f (j+1)=mk f j:=by simp[mk,h]
def may (t:Tn)(i:Nat)(b:Bool):Bool:=t.m.getLsbD i||(t.v.getLsbD i==b)
def cb (less p q c:Bool):Bool:=if less then (!p&&(q||c))||(q&&c) else (p&&q)||(p&&c)||(q&&c)
structure St where
 x:BitVec 64
 y:BitVec 64
 c0:Bool
 c1:Bool
def rnd (less:Bool)(a b:Tn)(i:Nat)(c0 c1:Bool)(s:St)(n:Nat):St:=
 if (if n.testBit 2 then c1 else c0)&&may a i (n.testBit 0)&&may b i (n.testBit 1) then
    let z:St:=if (n.testBit 0 ^^ n.testBit 1) ^^ n.testBit 2 then ⟨s.x ||| 1#64 <<< i,s.y,s.c0,s.c1⟩ else ⟨s.x,s.y ||| 1#64 <<< i,s.c0,s.c1⟩
    if cb less (n.testBit 0) (n.testBit 1) (n.testBit 2) then ⟨z.x,z.y,z.c0,true⟩ else ⟨z.x,z.y,true,z.c1⟩
 else s
def rnds (less:Bool)(a b:Tn)(i:Nat)(c0 c1:Bool)(s:St):Nat→St
 |0=>s
 |k+1=>rnd less a b i c0 c1 (rnds less a b i c0 c1 s k) k
def fx (p1 p0 q1 q0 c0 c1:Bool):Bool:=(c0&&((p1&&q0)||(p0&&q1)))||(c1&&((p0&&q0)||(p1&&q1)))
def fy (p1 p0 q1 q0 c0 c1:Bool):Bool:=(c0&&((p0&&q0)||(p1&&q1)))||(c1&&((p1&&q0)||(p0&&q1)))
def n1 (less p1 p0 q1 q0 c0 c1:Bool):Bool:=
 (c0&&((p0&&q0&&cb less false false false)||(p1&&q0&&cb less true false false)||(p0&&q1&&cb less false true false)||(p1&&q1&&cb less true true false))) ||
 (c1&&((p0&&q0&&cb less false false true)||(p1&&q0&&cb less true false true)||(p0&&q1&&cb less false true true)||(p1&&q1&&cb less true true true)))
def n0 (less p1 p0 q1 q0 c0 c1:Bool):Bool:=
 (c0&&((p0&&q0 && !cb less false false false)||(p1&&q0 && !cb less true false false)||(p0&&q1 && !cb less false true false)||(p1&&q1 && !cb less true true false))) ||
 (c1&&((p0&&q0 && !cb less false false true)||(p1&&q0 && !cb less true false true)||(p0&&q1 && !cb less false true true)||(p1&&q1 && !cb less true true true)))
theorem or_twice (x b:BitVec 64):x ||| b ||| b=x ||| b:=by rw[BitVec.or_assoc,BitVec.or_self]
theorem ite_b {α:Type}{u v:Bool}{a b:α}(h:u=v):(if u=true then a else b)=(if v=true then a else b):=by rw[h]
def cnd (a b:Tn)(i:Nat)(c0 c1:Bool)(n:Nat):Bool:=(if n.testBit 2 then c1 else c0)&&may a i (n.testBit 0)&&may b i (n.testBit 1)
def odd (n:Nat):Bool:=(n.testBit 0 ^^ n.testBit 1) ^^ n.testBit 2
def cbn (less:Bool)(n:Nat):Bool:=cb less (n.testBit 0) (n.testBit 1) (n.testBit 2)
theorem rnd_form (less:Bool)(a b:Tn)(i:Nat)(c0 c1:Bool)(x y:BitVec 64)(u v d0 d1:Bool)(n:Nat):
  rnd less a b i c0 c1 ⟨if u=true then x ||| 1#64 <<< i else x,if v=true then y ||| 1#64 <<< i else y,d0,d1⟩ n =
   ⟨if (u||(cnd a b i c0 c1 n&&odd n))=true then x ||| 1#64 <<< i else x,if (v||(cnd a b i c0 c1 n && !odd n))=true then y ||| 1#64 <<< i else y,d0||(cnd a b i c0 c1 n && !cbn less n),d1||(cnd a b i c0 c1 n&&cbn less n)⟩:=by
 unfold rnd
 rw[show((if n.testBit 2 then c1 else c0)&&may a i (n.testBit 0)&&may b i (n.testBit 1))=cnd a b i c0 c1 n from rfl,show((n.testBit 0 ^^ n.testBit 1) ^^ n.testBit 2)=odd n from rfl,show cb less (n.testBit 0) (n.testBit 1) (n.testBit 2)=cbn less n from rfl]
 cases cnd a b i c0 c1 n<;>cases odd n<;>cases cbn less n<;>cases u<;>cases v<;>simp[or_twice]
theorem rnds8 (less:Bool)(a b:Tn)(i:Nat)(c0 c1:Bool)(x y:BitVec 64):
  rnds less a b i c0 c1 ⟨x,y,false,false⟩ 8 =
   ⟨if fx (may a i true) (may a i false) (may b i true) (may b i false) c0 c1=true then x ||| 1#64 <<< i else x,if fy (may a i true) (may a i false) (may b i true) (may b i false) c0 c1=true then y ||| 1#64 <<< i else y,n0 less (may a i true) (may a i false) (may b i true) (may b i false) c0 c1,n1 less (may a i true) (may a i false) (may b i true) (may b i false) c0 c1⟩:=by
 have h:rnds less a b i c0 c1 ⟨x,y,false,false⟩ 0=⟨if false=true then x ||| 1#64 <<< i else x,if false=true then y ||| 1#64 <<< i else y,false,false⟩:=rfl
 simp only[rnds] at h ⊢
 rw[h,rnd_form,rnd_form,rnd_form,rnd_form,rnd_form,rnd_form,rnd_form,rnd_form]
 have k:∀ n,cnd a b i c0 c1 n=((if n.testBit 2 then c1 else c0)&&may a i (n.testBit 0)&&may b i (n.testBit 1)):=fun _=>rfl
 simp only[k,odd,cbn,show Nat.testBit 0 0=false from rfl,show Nat.testBit 0 1=false from rfl,show Nat.testBit 0 2=false from rfl,
  show Nat.testBit 1 0=true from rfl,show Nat.testBit 1 1=false from rfl,show Nat.testBit 1 2=false from rfl,
  show Nat.testBit 2 0=false from rfl,show Nat.testBit 2 1=true from rfl,show Nat.testBit 2 2=false from rfl,
  show Nat.testBit 3 0=true from rfl,show Nat.testBit 3 1=true from rfl,show Nat.testBit 3 2=false from rfl,
  show Nat.testBit 4 0=false from rfl,show Nat.testBit 4 1=false from rfl,show Nat.testBit 4 2=true from rfl,
  show Nat.testBit 5 0=true from rfl,show Nat.testBit 5 1=false from rfl,show Nat.testBit 5 2=true from rfl,
  show Nat.testBit 6 0=false from rfl,show Nat.testBit 6 1=true from rfl,show Nat.testBit 6 2=true from rfl,
  show Nat.testBit 7 0=true from rfl,show Nat.testBit 7 1=true from rfl,show Nat.testBit 7 2=true from rfl]
 generalize may a i true=p1
 generalize may a i false=p0
 generalize may b i true=q1
 generalize may b i false=q0
 rw[St.mk.injEq]
 refine⟨ite_b ?_,ite_b ?_,?_,?_⟩
 . clear h k;revert c0 c1 p1 p0 q1 q0;decide
 . clear h k;revert c0 c1 p1 p0 q1 q0;decide
 . clear h k;revert less c0 c1 p1 p0 q1 q0;decide
 . clear h k;revert less c0 c1 p1 p0 q1 q0;decide
def cs (less:Bool)(a b:Tn):Nat→Bool×Bool
 |0=>(true,false)
 |i+1=>(n0 less (may a i true) (may a i false) (may b i true) (may b i false) (cs less a b i).1 (cs less a b i).2,n1 less (may a i true) (may a i false) (may b i true) (may b i false) (cs less a b i).1 (cs less a b i).2)
def sx (less:Bool)(a b:Tn)(i:Nat):Bool:=fx (may a i true) (may a i false) (may b i true) (may b i false) (cs less a b i).1 (cs less a b i).2
def sy (less:Bool)(a b:Tn)(i:Nat):Bool:=fy (may a i true) (may a i false) (may b i true) (may b i false) (cs less a b i).1 (cs less a b i).2
theorem rnds_sums (less:Bool)(a b:Tn)(i:Nat):rnds less a b i (cs less a b i).1 (cs less a b i).2 ⟨mk (sx less a b) i,mk (sy less a b) i,false,false⟩ 8=⟨mk (sx less a b) (i+1),mk (sy less a b) (i+1),(cs less a b (i+1)).1,(cs less a b (i+1)).2⟩:=by
 rw[rnds8];simp only[mk,sx,sy,cs];rfl
theorem ext64 {x y:BitVec 64}(h:∀ i,i<64→x.getLsbD i=y.getLsbD i):x=y:=BitVec.eq_of_getLsbD_eq h
theorem right_bit {t:Tn}(h:right t=true)(i:Nat):(t.v.getLsbD i&&t.m.getLsbD i)=false:=by
 by_cases hi:i<64
 . exact right_iff.1 h i hi
 . rw[BitVec.getLsbD_of_ge t.v i (by omega)];rfl
theorem vm_bit {t:Tn}(h:right t=true)(i:Nat):(t.v+t.m).getLsbD i=(t.v.getLsbD i||t.m.getLsbD i):=by
 have h':t.v &&& t.m=0#64:=by simpa [right] using h
 rw[BitVec.add_eq_or_of_and_eq_zero _ _ h',BitVec.getLsbD_or]
theorem cs_sum {a b:Tn}(ha:right a=true)(hb:right b=true):∀ i,(cs false a b i).1 = !BitVec.carry i a.v b.v false∧(cs false a b i).2=BitVec.carry i (a.v+a.m) (b.v+b.m) false∧(BitVec.carry i a.v b.v false=true→BitVec.carry i (a.v+a.m) (b.v+b.m) false=true)
 |0=>by simp[cs]
 |i+1=>by
  obtain⟨h0,h1,h2⟩:=cs_sum ha hb i
  simp only[cs,h0,h1,BitVec.carry_succ,vm_bit ha,vm_bit hb,may]
  have p:=right_bit ha i;have q:=right_bit hb i
  revert p q h2
  generalize BitVec.carry i a.v b.v false=c
  generalize BitVec.carry i (a.v+a.m) (b.v+b.m) false=d
  generalize a.v.getLsbD i=av
  generalize a.m.getLsbD i=am
  generalize b.v.getLsbD i=bv
  generalize b.m.getLsbD i=bm
  cases c<;>cases d<;>cases av<;>cases am<;>cases bv<;>cases bm<;>simp[n0,n1,cb,Bool.atLeastTwo]
theorem sum_bits {a b:Tn}(ha:right a=true)(hb:right b=true){i:Nat}(hi:i<64):
  sx false a b i=((sum a b).v.getLsbD i||(sum a b).m.getLsbD i)∧sy false a b i = !(sum a b).v.getLsbD i∧((sum a b).v.getLsbD i&&(sum a b).m.getLsbD i)=false:=by
 obtain⟨h0,h1,h2⟩:=cs_sum ha hb i
 have e:a.v+b.v+(a.m+b.m)=(a.v+a.m)+(b.v+b.m):=by
  rw[BitVec.add_assoc,BitVec.add_assoc,← BitVec.add_assoc b.v,BitVec.add_comm b.v a.m,BitVec.add_assoc a.m]
 have p:=right_bit ha i;have q:=right_bit hb i
 simp only[sx,sy,h0,h1,sum,may,e,BitVec.getLsbD_and,BitVec.getLsbD_or,BitVec.getLsbD_xor,BitVec.getLsbD_not,hi,decide_true,Bool.true_and,BitVec.getLsbD_add hi a.v b.v,BitVec.getLsbD_add hi (a.v+a.m) (b.v+b.m),vm_bit ha,vm_bit hb]
 revert p q h2
 generalize BitVec.carry i a.v b.v false=c
 generalize BitVec.carry i (a.v+a.m) (b.v+b.m) false=d
 generalize a.v.getLsbD i=av
 generalize a.m.getLsbD i=am
 generalize b.v.getLsbD i=bv
 generalize b.m.getLsbD i=bm
 cases c<;>cases d<;>cases av<;>cases am<;>cases bv<;>cases bm<;>simp[fx,fy]
theorem sub_bit {x y:BitVec 64}{i:Nat}(hi:i<64):(x-y).getLsbD i=(x.getLsbD i ^^ (!y.getLsbD i ^^ BitVec.carry i x (~~~y) true)):=by
 have e:x-y=x + ~~~y+BitVec.setWidth 64 (BitVec.ofBool true):=by
  rw[BitVec.sub_eq_add_neg,BitVec.neg_eq_not_add,← BitVec.add_assoc];rfl
 rw[e,BitVec.getLsbD_add_add_bool hi,BitVec.getLsbD_not]
 simp[hi]
theorem not_bit {y:BitVec 64}{i:Nat}(hi:i<64):(~~~y).getLsbD i = !y.getLsbD i:=by simp[hi]
theorem cs_dif {a b:Tn}(ha:right a=true)(hb:right b=true):∀ i,i≤64→(cs true a b i).1=BitVec.carry i (a.v+a.m) (~~~b.v) true∧(cs true a b i).2 = !BitVec.carry i a.v (~~~(b.v+b.m)) true∧
  (BitVec.carry i a.v (~~~(b.v+b.m)) true=true→BitVec.carry i a.v (~~~b.v) true=true)∧(BitVec.carry i a.v (~~~b.v) true=true→BitVec.carry i (a.v+a.m) (~~~b.v) true=true)
 |0,_=>by simp[cs]
 |i+1,hi=>by
  obtain⟨h0,h1,h2,h3⟩:=cs_dif ha hb i (by omega)
  simp only[cs,h0,h1,BitVec.carry_succ,not_bit (show i<64 by omega),vm_bit ha,vm_bit hb,may]
  have p:=right_bit ha i;have q:=right_bit hb i
  revert p q h2 h3
  generalize BitVec.carry i (a.v+a.m) (~~~b.v) true=c
  generalize BitVec.carry i a.v (~~~(b.v+b.m)) true=d
  generalize BitVec.carry i a.v (~~~b.v) true=e
  generalize a.v.getLsbD i=av
  generalize a.m.getLsbD i=am
  generalize b.v.getLsbD i=bv
  generalize b.m.getLsbD i=bm
  cases c<;>cases d<;>cases e<;>cases av<;>cases am<;>cases bv<;>cases bm<;>simp[n0,n1,cb,Bool.atLeastTwo]
theorem dif_bits {a b:Tn}(ha:right a=true)(hb:right b=true){i:Nat}(hi:i<64):
  sx true a b i=((difference a b).v.getLsbD i||(difference a b).m.getLsbD i)∧sy true a b i = !(difference a b).v.getLsbD i∧((difference a b).v.getLsbD i&&(difference a b).m.getLsbD i)=false:=by
 obtain⟨h0,h1,h2,h3⟩:=cs_dif ha hb i (by omega)
 have e1:a.v-b.v+a.m=(a.v+a.m)-b.v:=by
  rw[BitVec.sub_eq_add_neg,BitVec.sub_eq_add_neg,BitVec.add_assoc,BitVec.add_assoc,BitVec.add_comm (-b.v)]
 have e2:a.v-b.v-b.m=a.v - (b.v+b.m):=by rw[BitVec.sub_sub]
 have p:=right_bit ha i;have q:=right_bit hb i
 simp only[sx,sy,h0,h1,difference,may,e1,e2,BitVec.getLsbD_and,BitVec.getLsbD_or,BitVec.getLsbD_xor,BitVec.getLsbD_not,hi,decide_true,Bool.true_and,sub_bit hi,vm_bit ha,vm_bit hb]
 revert p q h2 h3
 generalize BitVec.carry i (a.v+a.m) (~~~b.v) true=c
 generalize BitVec.carry i a.v (~~~(b.v+b.m)) true=d
 generalize BitVec.carry i a.v (~~~b.v) true=e
 generalize a.v.getLsbD i=av
 generalize a.m.getLsbD i=am
 generalize b.v.getLsbD i=bv
 generalize b.m.getLsbD i=bm
 cases c<;>cases d<;>cases e<;>cases av<;>cases am<;>cases bv<;>cases bm<;>simp[fx,fy]
end T
end Go.Proofs.YtfjemlegodhfnaaGreat
