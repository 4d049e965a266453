import Derived.Test.YtfjemlegodhfnaaGreatM24
import Derived.Lib.BitFns
import Derived.Lib.TrailingZeros
import Derived.Test.YtfjemlegodhfnaaGreatM23
set_option linter.all false
namespace Go.Proofs.YtfjemlegodhfnaaGreat
open Go.RowKit
set_option maxHeartbeats 1000000
namespace T
def okl (a b:Tn)(i:Nat):Bool:=(may a i true && !may b i true)||(may a i false && !may b i false)
theorem leq_ok {a b:Tn}(ha:right a=true)(hb:right b=true):leq a b=true ↔ ∀ i,i<64→okl a b i=false:=by
 rw[leq_iff]
 constructor
 . intro h i hi
   have p:=h i hi
   unfold okl may
   revert p;cases a.v.getLsbD i<;>cases a.m.getLsbD i<;>cases b.v.getLsbD i<;>cases b.m.getLsbD i<;>simp
 . intro h i hi
   have p:=h i hi;have q:=right_bit ha i;have r:=right_bit hb i
   unfold okl may at p
   revert p q r;cases a.v.getLsbD i<;>cases a.m.getLsbD i<;>cases b.v.getLsbD i<;>cases b.m.getLsbD i<;>simp
theorem leq_no {a b:Tn}{i:Nat}(hi:i<64)(h:okl a b i=true):leq a b=false:=by
 rw[Bool.eq_false_iff];intro hl
 have hr:right a=true∧right b=true:=by unfold leq at hl;simp only[Bool.and_eq_true] at hl;exact⟨hl.1.1.1,hl.1.1.2⟩
 have:=(leq_ok hr.1 hr.2).1 hl i hi
 rw[h] at this;cases this
theorem low_mask:∀ i:Fin 64,BitVec.allOnes 64 >>> (64 - (i.val+1))=(1#64 <<< i.val <<< 1)-1#64:=by decide
theorem bl_of {x:BitVec 64}{i:Nat}(hi:i<64)(h1:x.getLsbD i=true)(h2:∀ k,i<k→k<64→x.getLsbD k=false):bl x=i+1:=by
 have ge:2^i≤x.toNat:=Nat.ge_two_pow_of_testBit h1
 have lt:x.toNat<2 ^ (i+1):=by
  apply Nat.lt_pow_two_of_testBit
  intro k hk
  by_cases hk2:k<64
  . exact h2 k (by omega) hk2
  . exact Nat.testBit_lt_two_pow (Nat.lt_of_lt_of_le x.isLt (Nat.pow_le_pow_right (by omega) (by omega)))
 have e:x.toNat / 2^i=1:=by
  apply Nat.div_eq_of_lt_le
  . simpa using ge
  . rw[Nat.pow_succ] at lt;omega
 unfold bl
 rw[Lib.bitLen_shift i x.toNat ge x.isLt,e]
 rfl
theorem range_at {lo hi:BitVec 64}{i:Nat}(hi2:i<64)(hle : ¬ hi<lo)(h1:(lo.getLsbD i != hi.getLsbD i)=true)(h2:∀ k,i<k→k<64→lo.getLsbD k=hi.getLsbD k):
  range lo hi=⟨lo &&& ~~~((1#64 <<< i <<< 1)-1#64),(1#64 <<< i <<< 1)-1#64⟩:=by
 have hne:lo≠hi:=by rintro rfl;simp at h1
 have hb:bl (lo ^^^ hi)=i+1:=bl_of hi2 (by simpa using h1) fun k hk hk2=>by simp[h2 k hk hk2]
 unfold range
 rw[if_neg hle]
 simp only[hne,if_false,hb]
 have e:=low_mask ⟨i,hi2⟩
 simp only at e
 rw[e]
theorem range_same {lo hi:BitVec 64}(h2:∀ k,k<64→lo.getLsbD k=hi.getLsbD k):range lo hi=⟨lo,0⟩:=by
 have e:lo=hi:=ext64 h2
 subst e
 have h0 : ¬ lo<lo:=by simp[BitVec.lt_def]
 unfold range
 rw[if_neg h0]
 simp only[if_true]
 congr 1
 apply ext64;intro i hi
 rw[BitVec.getLsbD_and,BitVec.getLsbD_not];simp[hi]
theorem tz_of {m:BitVec 64}{n:Nat}(hn:n≤64)(h:∀ k,k<n→m.getLsbD k=false)(h2:n=64∨m.getLsbD n=true):tz m=n:=by
 by_cases h0:m=0
 . subst h0
   have:n=64:=by rcases h2 with h|h;exact h;simp at h
   subst this;rfl
 . have hne:m.toNat≠0:=fun e=>h0 (BitVec.eq_of_toNat_eq (by simpa using e))
   obtain⟨q,hq,hlt⟩:=Lib.ctzFrom_spec 64 m.toNat (by omega) m.isLt
   have ht:tz m=Lib.ctzFrom 64 m.toNat:=by unfold tz Lib.ctz;rw[if_neg hne]
   rw[ht]
   generalize Lib.ctzFrom 64 m.toNat=c at hq hlt
   have bc:m.getLsbD c=true:=by
    show m.toNat.testBit c=true
    rw[hq,Nat.testBit_two_pow_mul];simp
   have bl:∀ k,k<c→m.getLsbD k=false:=fun k hk=>by
    show m.toNat.testBit k=false
    rw[hq,Nat.testBit_two_pow_mul];simp;omega
   rcases Nat.lt_trichotomy c n with hc|hc|hc
   . rw[h c hc] at bc;cases bc
   . exact hc
   . rcases h2 with h2|h2
     . omega
     . rw[bl n hc] at h2;cases h2
theorem tz_low {m:BitVec 64}{k:Nat}(h:k<tz m):m.getLsbD k=false:=by
 by_cases h0:m=0
 . subst h0;simp
 . have hne:m.toNat≠0:=fun e=>h0 (BitVec.eq_of_toNat_eq (by simpa using e))
   obtain⟨q,hq,hlt⟩:=Lib.ctzFrom_spec 64 m.toNat (by omega) m.isLt
   have ht:tz m=Lib.ctzFrom 64 m.toNat:=by unfold tz Lib.ctz;rw[if_neg hne]
   rw[ht] at h
   show m.toNat.testBit k=false
   rw[hq,Nat.testBit_two_pow_mul];simp;omega
theorem not_low (n:Nat)(hn:n≤64) : ~~~(BitVec.allOnes 64 <<< n)=(1#64 <<< n)-1#64:=by
 have:∀ n:Fin 65,~~~(BitVec.allOnes 64 <<< n.val)=(1#64 <<< n.val)-1#64:=by decide
 exact this ⟨n,by omega⟩
theorem has_bit {t:Tn}{n:BitVec 64}(h:has t n=true)(i:Nat):(t.v.getLsbD i&&t.m.getLsbD i)=false∧(n.getLsbD i && !t.m.getLsbD i)=t.v.getLsbD i:=by
 by_cases hi:i<64
 . exact has_iff.1 h i hi
 . rw[BitVec.getLsbD_of_ge t.v i (by omega),BitVec.getLsbD_of_ge n i (by omega)];exact⟨rfl,rfl⟩
theorem has_right {t:Tn}{n:BitVec 64}(h:has t n=true):right t=true:=by unfold has at h;simp only[Bool.and_eq_true] at h;exact h.1
theorem carry_sum {a b:Tn}{p q:BitVec 64}(ha:has a p=true)(hb:has b q=true):∀ i,(BitVec.carry i a.v b.v false=true→BitVec.carry i p q false=true)∧(BitVec.carry i p q false=true→BitVec.carry i (a.v+a.m) (b.v+b.m) false=true)
 |0=>by simp
 |i+1=>by
  obtain⟨h1,h2⟩:=carry_sum ha hb i
  simp only[BitVec.carry_succ,vm_bit (has_right ha),vm_bit (has_right hb)]
  have x:=has_bit ha i;have y:=has_bit hb i
  revert x y h1 h2
  generalize BitVec.carry i a.v b.v false=c
  generalize BitVec.carry i p q false=e
  generalize BitVec.carry i (a.v+a.m) (b.v+b.m) false=d
  generalize a.v.getLsbD i=av
  generalize a.m.getLsbD i=am
  generalize b.v.getLsbD i=bv
  generalize b.m.getLsbD i=bm
  generalize p.getLsbD i=p
  generalize q.getLsbD i=q
  revert c e d av am bv bm p q
  decide
theorem sum_sound {a b:Tn}{p q:BitVec 64}(ha:has a p=true)(hb:has b q=true):has (sum a b) (p+q)=true:=has_iff.2 fun i hi=>by
 obtain⟨h1,h2⟩:=carry_sum ha hb i
 have e:a.v+b.v+(a.m+b.m)=(a.v+a.m)+(b.v+b.m):=by
  rw[BitVec.add_assoc,BitVec.add_assoc,← BitVec.add_assoc b.v,BitVec.add_comm b.v a.m,BitVec.add_assoc a.m]
 have x:=has_bit ha i;have y:=has_bit hb i
 simp only[sum,e,BitVec.getLsbD_and,BitVec.getLsbD_or,BitVec.getLsbD_xor,BitVec.getLsbD_not,hi,decide_true,Bool.true_and,BitVec.getLsbD_add hi a.v b.v,BitVec.getLsbD_add hi p q,BitVec.getLsbD_add hi (a.v+a.m) (b.v+b.m),vm_bit (has_right ha),vm_bit (has_right hb)]
 revert x y h1 h2
 generalize BitVec.carry i a.v b.v false=c
 generalize BitVec.carry i p q false=e
 generalize BitVec.carry i (a.v+a.m) (b.v+b.m) false=d
 generalize a.v.getLsbD i=av
 generalize a.m.getLsbD i=am
 generalize b.v.getLsbD i=bv
 generalize b.m.getLsbD i=bm
 generalize p.getLsbD i=p
 generalize q.getLsbD i=q
 clear hi
 revert c e d av am bv bm p q
 decide
theorem carry_dif {a b:Tn}{p q:BitVec 64}(ha:has a p=true)(hb:has b q=true):∀ i,i≤64→(BitVec.carry i a.v (~~~(b.v+b.m)) true=true→BitVec.carry i p (~~~q) true=true)∧(BitVec.carry i p (~~~q) true=true→BitVec.carry i (a.v+a.m) (~~~b.v) true=true)∧
  (BitVec.carry i a.v (~~~(b.v+b.m)) true=true→BitVec.carry i a.v (~~~b.v) true=true)∧(BitVec.carry i a.v (~~~b.v) true=true→BitVec.carry i (a.v+a.m) (~~~b.v) true=true)
 |0,_=>by simp
 |i+1,hi=>by
  obtain⟨h1,h2,h3,h4⟩:=carry_dif ha hb i (by omega)
  simp only[BitVec.carry_succ,not_bit (show i<64 by omega),vm_bit (has_right ha),vm_bit (has_right hb)]
  have x:=has_bit ha i;have y:=has_bit hb i
  refine⟨?_,?_,?_,?_⟩
  all_goals
   clear hi
   revert x y h1 h2 h3 h4
   generalize BitVec.carry i a.v (~~~b.v) true=f
   generalize BitVec.carry i a.v (~~~(b.v+b.m)) true=c
   generalize BitVec.carry i p (~~~q) true=e
   generalize BitVec.carry i (a.v+a.m) (~~~b.v) true=d
   generalize a.v.getLsbD i=av
   generalize a.m.getLsbD i=am
   generalize b.v.getLsbD i=bv
   generalize b.m.getLsbD i=bm
   generalize p.getLsbD i=p
   generalize q.getLsbD i=q
   revert f c e d av am bv bm p q
   decide
theorem dif_sound {a b:Tn}{p q:BitVec 64}(ha:has a p=true)(hb:has b q=true):has (difference a b) (p-q)=true:=has_iff.2 fun i hi=>by
 obtain⟨h1,h2,h3,h4⟩:=carry_dif ha hb i (by omega)
 have e1:a.v-b.v+a.m=(a.v+a.m)-b.v:=by
  rw[BitVec.sub_eq_add_neg,BitVec.sub_eq_add_neg,BitVec.add_assoc,BitVec.add_assoc,BitVec.add_comm (-b.v)]
 have e2:a.v-b.v-b.m=a.v - (b.v+b.m):=by rw[BitVec.sub_sub]
 have x:=has_bit ha i;have y:=has_bit hb i
 simp only[difference,e1,e2,BitVec.getLsbD_and,BitVec.getLsbD_or,BitVec.getLsbD_xor,BitVec.getLsbD_not,hi,decide_true,Bool.true_and,sub_bit hi,vm_bit (has_right ha),vm_bit (has_right hb)]
 revert x y h1 h2 h3 h4
 generalize BitVec.carry i a.v (~~~b.v) true=f
 generalize BitVec.carry i a.v (~~~(b.v+b.m)) true=c
 generalize BitVec.carry i p (~~~q) true=e
 generalize BitVec.carry i (a.v+a.m) (~~~b.v) true=d
 generalize a.v.getLsbD i=av
 generalize a.m.getLsbD i=am
 generalize b.v.getLsbD i=bv
 generalize b.m.getLsbD i=bm
 generalize p.getLsbD i=p
 generalize q.getLsbD i=q
 clear hi
 revert f c e d av am bv bm p q
 decide
theorem and_sound {a b:Tn}{p q:BitVec 64}(ha:has a p=true)(hb:has b q=true):has (and a b) (p &&& q)=true:=has_iff.2 fun i hi=>by
 have x:=has_bit ha i;have y:=has_bit hb i
 simp only[T.and,BitVec.getLsbD_and,BitVec.getLsbD_or,BitVec.getLsbD_not,hi,decide_true,Bool.true_and]
 revert x y
 cases a.v.getLsbD i<;>cases a.m.getLsbD i<;>cases b.v.getLsbD i<;>cases b.m.getLsbD i<;>cases p.getLsbD i<;>cases q.getLsbD i<;>simp
theorem or_sound {a b:Tn}{p q:BitVec 64}(ha:has a p=true)(hb:has b q=true):has (or a b) (p ||| q)=true:=has_iff.2 fun i hi=>by
 have x:=has_bit ha i;have y:=has_bit hb i
 simp only[T.or,BitVec.getLsbD_and,BitVec.getLsbD_or,BitVec.getLsbD_not,hi,decide_true,Bool.true_and]
 revert x y
 cases a.v.getLsbD i<;>cases a.m.getLsbD i<;>cases b.v.getLsbD i<;>cases b.m.getLsbD i<;>cases p.getLsbD i<;>cases q.getLsbD i<;>simp
theorem xor_sound {a b:Tn}{p q:BitVec 64}(ha:has a p=true)(hb:has b q=true):has (xor a b) (p ^^^ q)=true:=has_iff.2 fun i hi=>by
 have x:=has_bit ha i;have y:=has_bit hb i
 simp only[T.xor,BitVec.getLsbD_and,BitVec.getLsbD_or,BitVec.getLsbD_xor,BitVec.getLsbD_not,hi,decide_true,Bool.true_and]
 revert x y
 cases a.v.getLsbD i<;>cases a.m.getLsbD i<;>cases b.v.getLsbD i<;>cases b.m.getLsbD i<;>cases p.getLsbD i<;>cases q.getLsbD i<;>simp
theorem mod_of_bits {x y:BitVec 64}{n:Nat}(h:∀ i,i<n→x.getLsbD i=y.getLsbD i):x.toNat % 2^n=y.toNat % 2^n:=by
 apply Nat.eq_of_testBit_eq
 intro i
 rw[Nat.testBit_mod_two_pow,Nat.testBit_mod_two_pow]
 by_cases hi:i<n
 . simp only[hi,decide_true,Bool.true_and];exact h i hi
 . simp[hi]
theorem bits_of_mod {x y:BitVec 64}{n:Nat}(h:x.toNat % 2^n=y.toNat % 2^n){i:Nat}(hi:i<n):x.getLsbD i=y.getLsbD i:=by
 have:=congrArg (fun z=>Nat.testBit z i) h
 simp only[Nat.testBit_mod_two_pow,hi,decide_true,Bool.true_and] at this
 exact this
theorem mul_low {p q v w:BitVec 64}{n:Nat}(hn:n≤64)(h1:∀ i,i<n→p.getLsbD i=v.getLsbD i)(h2:∀ i,i<n→q.getLsbD i=w.getLsbD i){i:Nat}(hi:i<n):(p*q).getLsbD i=(v*w).getLsbD i:=by
 apply bits_of_mod _ hi
 have d:2^n ∣ 2^64:=Nat.pow_dvd_pow 2 hn
 rw[BitVec.toNat_mul,BitVec.toNat_mul,Nat.mod_mod_of_dvd _ d,Nat.mod_mod_of_dvd _ d,Nat.mul_mod,mod_of_bits h1,mod_of_bits h2,← Nat.mul_mod]
theorem product_sound {a b:Tn}{p q:BitVec 64}(ha:has a p=true)(hb:has b q=true):has (product a b) (p*q)=true:=by
 have hn:min (tz a.m) (tz b.m)≤64:=by have:=tz_le a.m;omega
 have h1:∀ i,i<min (tz a.m) (tz b.m)→p.getLsbD i=a.v.getLsbD i:=fun i hi=>by
  have:=(has_bit ha i).2;rw[tz_low (show i<tz a.m by omega)] at this;simpa using this
 have h2:∀ i,i<min (tz a.m) (tz b.m)→q.getLsbD i=b.v.getLsbD i:=fun i hi=>by
  have:=(has_bit hb i).2;rw[tz_low (show i<tz b.m by omega)] at this;simpa using this
 unfold product
 generalize hN:min (tz a.m) (tz b.m)=n at *
 refine has_iff.2 fun i hi => ?_
 by_cases hlt:i<n
 . have:=mul_low hn h1 h2 hlt
   simp only[BitVec.getLsbD_and,BitVec.getLsbD_not,BitVec.getLsbD_shiftLeft,hi,hlt,this,decide_true,Bool.true_and,Bool.not_true,Bool.false_and,Bool.not_false,Bool.and_true,Bool.and_false]
   simp
 . simp only[BitVec.getLsbD_and,BitVec.getLsbD_not,BitVec.getLsbD_shiftLeft,BitVec.getLsbD_allOnes,hi,hlt,decide_true,decide_false,Bool.true_and,Bool.not_false,Bool.not_true,Bool.and_true,Bool.and_false,show i-n<64 by omega]
   simp
theorem has_some (v m x:BitVec 64):has ⟨v &&& ~~~m,m⟩ (x &&& m ||| (v &&& ~~~m))=true:=has_iff.2 fun i hi=>by
 simp only[BitVec.getLsbD_and,BitVec.getLsbD_or,BitVec.getLsbD_not,hi,decide_true,Bool.true_and]
 cases v.getLsbD i<;>cases m.getLsbD i<;>cases x.getLsbD i<;>simp
end T
end Go.Proofs.YtfjemlegodhfnaaGreat
namespace Go.Proofs.YtfjemlegodhfnaaGreat
open Go.RowKit
set_option maxHeartbeats 1000000
structure Sc where
 t:Tn
 s:Sp
 deriving DecidableEq
@[reducible] def scv (x:Sc):Go.Sx.SV:=.agg [.u64 x.t.v,.u64 x.t.m,.u64 x.s.lo,.u64 x.s.hi,.int .i64 x.s.sl,.int .i64 x.s.sh]
namespace C
open R S
def r1 (x:Sc):Sc:=⟨x.t,⟨maxB x.s.lo x.t.v,minB x.s.hi (x.t.v ||| x.t.m),x.s.sl,x.s.sh⟩⟩
def ok1 (x:Sc):Bool:=decide ((r1 x).s.lo≤(r1 x).s.hi)
def r2 (x:Sc):Sc:=⟨(T.meet x.t (T.range x.s.lo x.s.hi)).1,x.s⟩
def ok2 (x:Sc):Bool:=(T.meet x.t (T.range x.s.lo x.s.hi)).2
def top (x:Sc):Bool:=x.s.lo >>> 63==x.s.hi >>> 63
def r3 (x:Sc):Sc:=if top x then ⟨x.t,⟨x.s.lo,x.s.hi,maxI x.s.sl (sv x.s.lo),minI x.s.sh (sv x.s.hi)⟩⟩ else x
def ok3 (x:Sc):Bool:=decide ((r3 x).s.sl≤(r3 x).s.sh)
def sgn (x:Sc):Bool:=decide (x.s.sl<0)==decide (x.s.sh<0)
def r4 (x:Sc):Sc:=if sgn x then ⟨x.t,⟨maxB x.s.lo (BitVec.ofInt 64 x.s.sl),minB x.s.hi (BitVec.ofInt 64 x.s.sh),x.s.sl,x.s.sh⟩⟩ else x
def ok4 (x:Sc):Bool:=decide ((r4 x).s.lo≤(r4 x).s.hi)
def step (x:Sc):Option Sc:=
 if ok1 x then if ok2 (r1 x) then if ok3 (r2 (r1 x)) then if ok4 (r3 (r2 (r1 x))) then some (r4 (r3 (r2 (r1 x)))) else none else none else none else none
def mu (x:Sc):Nat:=(x.s.hi.toNat-x.s.lo.toNat)+(x.s.sh-x.s.sl).toNat+x.t.m.toNat
def togF:Nat→Sc→Option Sc
 |0,_=>none
 |k+1,x=>match step x with
  |none=>none
  |some y=>if y=x then some x else togF k y
def tog (x:Sc):Option Sc:=togF (mu x+1) x
structure Good (x:Sc):Prop where
 t:T.right x.t=true
 p:x.s.lo.toNat≤x.s.hi.toNat
 g:x.s.sl≤x.s.sh
 i:R.inS x.s=true
structure Sub (y x:Sc):Prop where
 lo:x.s.lo.toNat≤y.s.lo.toNat
 hi:y.s.hi.toNat≤x.s.hi.toNat
 sl:x.s.sl≤y.s.sl
 sh:y.s.sh≤x.s.sh
 t:T.leq y.t x.t=true
theorem Sub.trans {a b c:Sc}(h:Sub a b)(k:Sub b c):Sub a c:=⟨Nat.le_trans k.lo h.lo,Nat.le_trans h.hi k.hi,Int.le_trans k.sl h.sl,Int.le_trans h.sh k.sh,T.leq_trans h.t k.t⟩
theorem Sub.refl {a:Sc}(h:T.right a.t=true):Sub a a:=⟨Nat.le_refl _,Nat.le_refl _,Int.le_refl _,Int.le_refl _,T.leq_refl h⟩
theorem leq_right {a b:Tn}(h:T.leq a b=true):T.right a=true∧T.right b=true:=by
 unfold T.leq at h;simp only[Bool.and_eq_true] at h;exact⟨h.1.1.1,h.1.1.2⟩
theorem leq_m {a b:Tn}(h:T.leq a b=true):a.m.toNat≤b.m.toNat∧(a.m=b.m→a=b):=by
 have hb:=T.leq_iff.1 h
 constructor
 . have:a.m=a.m &&& b.m:=T.ext64 fun i hi=>by
    have:=hb i hi
    simp only[BitVec.getLsbD_and]
    revert this;cases a.m.getLsbD i<;>cases b.m.getLsbD i<;>simp
   rw[this,BitVec.toNat_and];exact Nat.and_le_right
 . intro e
   apply T.ext
   . intro i hi
     have:=hb i hi
     rw[e] at this
     revert this;cases a.v.getLsbD i<;>cases b.v.getLsbD i<;>cases b.m.getLsbD i<;>simp
   . intro i hi;rw[e]
theorem sc_ext {x y:Sc}(h1:x.t=y.t)(h2:x.s.lo.toNat=y.s.lo.toNat)(h3:x.s.hi.toNat=y.s.hi.toNat)(h4:x.s.sl=y.s.sl)(h5:x.s.sh=y.s.sh):x=y:=by
 obtain⟨t,a,b,c,d⟩:=x;obtain⟨u,e,f,g,h⟩:=y
 simp only at h1 h2 h3 h4 h5
 subst h1;subst h4;subst h5
 rw[eq_toNat.2 h2,eq_toNat.2 h3]
theorem mu_lt {x y:Sc}(h:Sub y x)(gy:Good y)(hne:y≠x):mu y<mu x:=by
 have h1:=h.lo;have h2:=h.hi;have h3:=h.sl;have h4:=h.sh
 have g1:=gy.p;have g2:=gy.g
 obtain⟨h5,h6⟩:=leq_m h.t
 unfold mu
 by_cases e:x.s.lo.toNat=y.s.lo.toNat∧x.s.hi.toNat=y.s.hi.toNat∧x.s.sl=y.s.sl∧x.s.sh=y.s.sh
 . have hm:y.t.m.toNat≠x.t.m.toNat:=fun hm=>hne (sc_ext (h6 (eq_toNat.2 hm)) e.1.symm e.2.1.symm e.2.2.1.symm e.2.2.2.symm)
   omega
 . omega
theorem tog_eq {x:Sc}(hs:∀ z,Good z→∀ y,step z=some y→Sub y z∧Good y):∀ (k:Nat) (z:Sc),Good z→mu z<k→togF k z=tog z:=by
 have key:∀ n,∀ (k l:Nat) (z:Sc),mu z≤n→Good z→mu z<k→mu z<l→togF k z=togF l z:=by
  intro n
  induction n with
  |zero=>
   intro k l z hn gz hk hl
   obtain⟨k',rfl⟩:∃ k',k=k'+1:=⟨k-1,by omega⟩
   obtain⟨l',rfl⟩:∃ l',l=l'+1:=⟨l-1,by omega⟩
   simp only[togF]
   cases hst:step z with
   |none=>rfl
   |some y=>
    simp only
    by_cases e:y=z
    . rw[if_pos e,if_pos e]
    . have:=mu_lt (hs z gz y hst).1 (hs z gz y hst).2 e
      omega
  |succ n ih=>
   intro k l z hn gz hk hl
   obtain⟨k',rfl⟩:∃ k',k=k'+1:=⟨k-1,by omega⟩
   obtain⟨l',rfl⟩:∃ l',l=l'+1:=⟨l-1,by omega⟩
   simp only[togF]
   cases hst:step z with
   |none=>rfl
   |some y=>
    simp only
    by_cases e:y=z
    . rw[if_pos e,if_pos e]
    . rw[if_neg e,if_neg e]
      have:=mu_lt (hs z gz y hst).1 (hs z gz y hst).2 e
      exact ih k' l' y (by omega) (hs z gz y hst).2 (by omega) (by omega)
 intro k z gz hk
 exact key (mu z) k (mu z+1) z (Nat.le_refl _) gz hk (by omega)
theorem in_maxI {a b:Int}(ha : -9223372036854775808≤a∧a≤9223372036854775807)(hb : -9223372036854775808≤b∧b≤9223372036854775807) : -9223372036854775808≤maxI a b∧maxI a b≤9223372036854775807:=by rw[maxI_eq];omega
theorem step_ok {z:Sc}(gz:Good z){y:Sc}(h:step z=some y):Sub y z∧Good y:=by
 unfold step at h
 split at h
 . rename_i k1
   split at h
   . rename_i k2
     split at h
     . rename_i k3
       split at h
       . rename_i k4
         obtain rfl:=Option.some.inj h
         have gi:=inS_iff.1 gz.i
         have s1:Sub (r1 z) z∧Good (r1 z):=by
          have h1:(r1 z).s.lo.toNat≤(r1 z).s.hi.toNat:=of_decide_eq_true k1
          refine⟨⟨?_,?_,Int.le_refl _,Int.le_refl _,T.leq_refl gz.t⟩,⟨gz.t,h1,gz.g,gz.i⟩⟩
          . simp only[r1,maxB_nat];omega
          . simp only[r1,minB_nat];omega
         have s2:Sub (r2 (r1 z)) (r1 z)∧Good (r2 (r1 z)):=by
          have hr:T.right (T.range (r1 z).s.lo (r1 z).s.hi)=true:=by
           unfold ok2 T.meet at k2
           split at k2
           . cases k2
           . rename_i hc;simp at hc;exact hc.1.2
          have hl:=(T.meet_leq s1.2.t hr k2).1
          exact⟨⟨Nat.le_refl _,Nat.le_refl _,Int.le_refl _,Int.le_refl _,hl⟩,⟨(leq_right hl).1,s1.2.p,s1.2.g,s1.2.i⟩⟩
         have s3:Sub (r3 (r2 (r1 z))) (r2 (r1 z))∧Good (r3 (r2 (r1 z))):=by
          generalize r2 (r1 z)=w at s2 k3 ⊢
          have gw:=s2.2
          have gi:=inS_iff.1 gw.i
          have h3:(r3 w).s.sl≤(r3 w).s.sh:=of_decide_eq_true k3
          have v1:=sv_in w.s.lo;have v2:=sv_in w.s.hi
          unfold r3 at h3 ⊢
          split
          . rename_i hc
            rw[if_pos hc] at h3
            simp only[maxI_eq,minI_eq] at h3
            refine⟨⟨Nat.le_refl _,Nat.le_refl _,?_,?_,T.leq_refl gw.t⟩,⟨gw.t,gw.p,?_,inS_iff.2 ?_⟩⟩
            . simp only[maxI_eq];omega
            . simp only[minI_eq];omega
            . simp only[maxI_eq,minI_eq];omega
            . simp only[maxI_eq,minI_eq];omega
          . exact⟨Sub.refl gw.t,gw⟩
         have s4:Sub (r4 (r3 (r2 (r1 z)))) (r3 (r2 (r1 z)))∧Good (r4 (r3 (r2 (r1 z)))):=by
          generalize r3 (r2 (r1 z))=w at s3 k4 ⊢
          have gw:=s3.2
          have h4:(r4 w).s.lo.toNat≤(r4 w).s.hi.toNat:=of_decide_eq_true k4
          unfold r4 at h4 ⊢
          split
          . rename_i hc
            rw[if_pos hc] at h4
            simp only[maxB_nat,minB_nat] at h4
            refine⟨⟨?_,?_,Int.le_refl _,Int.le_refl _,T.leq_refl gw.t⟩,⟨gw.t,?_,gw.g,gw.i⟩⟩
            . simp only[maxB_nat];omega
            . simp only[minB_nat];omega
            . simp only[maxB_nat,minB_nat];omega
          . exact⟨Sub.refl gw.t,gw⟩
         exact⟨((s4.1.trans s3.1).trans s2.1).trans s1.1,s4.2⟩
       . cases h
     . cases h
   . cases h
 . cases h
theorem tog_step {x:Sc}(gx:Good x):tog x=match step x with|none=>none|some y=>if y=x then some x else tog y:=by
 show togF (mu x+1) x=_
 simp only[togF]
 cases hst:step x with
 |none=>rfl
 |some y=>
  simp only
  by_cases e:y=x
  . rw[if_pos e,if_pos e]
  . rw[if_neg e,if_neg e]
    have h:=step_ok gx hst
    exact tog_eq (x:=x) (fun z gz y h=>step_ok gz h) _ y h.2 (mu_lt h.1 h.2 e)
theorem tog_some:∀ (n:Nat) (x y:Sc),mu x≤n→Good x→tog x=some y→step y=some y∧Sub y x∧Good y:=by
 intro n
 induction n with
 |zero=>
  intro x y hn gx h
  rw[tog_step gx] at h
  cases hst:step x with
  |none=>rw[hst] at h;cases h
  |some z=>
   rw[hst] at h
   simp only at h
   by_cases e:z=x
   . rw[if_pos e] at h;obtain rfl:=Option.some.inj h;subst e;exact⟨hst,Sub.refl gx.t,gx⟩
   . have:=mu_lt (step_ok gx hst).1 (step_ok gx hst).2 e;omega
 |succ n ih=>
  intro x y hn gx h
  rw[tog_step gx] at h
  cases hst:step x with
  |none=>rw[hst] at h;cases h
  |some z=>
   rw[hst] at h
   simp only at h
   by_cases e:z=x
   . rw[if_pos e] at h;obtain rfl:=Option.some.inj h;subst e;exact⟨hst,Sub.refl gx.t,gx⟩
   . rw[if_neg e] at h
     have hm:=mu_lt (step_ok gx hst).1 (step_ok gx hst).2 e
     obtain⟨h1,h2,h3⟩:=ih z y (by omega) (step_ok gx hst).2 h
     exact⟨h1,h2.trans (step_ok gx hst).1,h3⟩
theorem tog_fix {x:Sc}(gx:Good x)(h:step x=some x):tog x=some x:=by
 rw[tog_step gx,h];simp
end C
end Go.Proofs.YtfjemlegodhfnaaGreat
