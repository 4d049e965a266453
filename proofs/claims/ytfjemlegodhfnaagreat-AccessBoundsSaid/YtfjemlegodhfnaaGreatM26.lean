import Derived.Test.YtfjemlegodhfnaaGreatM25
import Derived.Lib.ItoaNum
set_option linter.all false
namespace Go.Proofs.YtfjemlegodhfnaaGreat
open Go.RowKit
namespace T
theorem aux_lt:∀ (f x:Nat),x<2^f→x<2^Lib.bitLenAux f x
 |0,x,h=>by simpa [Lib.bitLenAux] using h
 |f+1,x,h=>by
  unfold Lib.bitLenAux
  by_cases h0:x=0
  . rw[if_pos h0,h0];decide
  . rw[if_neg h0]
    have:=aux_lt f (x / 2) (by rw[Nat.pow_succ] at h;omega)
    rw[Nat.add_comm 1,Nat.pow_succ];omega
theorem bl_lt (x:BitVec 64):x.toNat<2^bl x:=aux_lt 64 _ x.isLt
theorem bl_least {x:BitVec 64}{p:Nat}(h:x.toNat<2^p):bl x≤p:=Lib.bitLenAux_le 64 _ p h
theorem bl_bits {x:BitVec 64}{p:Nat}(h:∀ j,j<64→p≤j→x.getLsbD j=false):bl x≤p:=by
 have hx:x.toNat<2^p:=Nat.lt_pow_two_of_testBit _ fun j hj=>by
  by_cases h64:j<64
  . exact h j h64 hj
  . exact Nat.testBit_lt_two_pow (Nat.lt_of_lt_of_le x.isLt (Nat.pow_le_pow_right (by omega) (by omega)))
 exact bl_least hx
theorem above_bl {x:BitVec 64}{j:Nat}(h:bl x≤j):x.getLsbD j=false:=Nat.testBit_lt_two_pow (Nat.lt_of_lt_of_le (bl_lt _) (Nat.pow_le_pow_right (by omega) h))
theorem ones_eq:(18446744073709551615#64:BitVec 64)=BitVec.allOnes 64:=by decide
theorem ones_bit (i:Nat):(18446744073709551615#64:BitVec 64).getLsbD i=decide (i<64):=by rw[ones_eq,BitVec.getLsbD_allOnes]
theorem range_same0 (lo:BitVec 64):range lo lo=⟨lo,0#64⟩:=by
 unfold range
 rw[if_neg (by rw[BitVec.lt_def];omega),if_pos rfl]
 show(⟨lo &&& ~~~0#64,0#64⟩:Tn)=_
 rw[BitVec.not_zero,BitVec.and_allOnes]
theorem range_bits {lo hi:BitVec 64}(h : ¬ hi<lo):∀ j,j<64→(range lo hi).m.getLsbD j=decide (j<bl (lo ^^^ hi))∧(range lo hi).v.getLsbD j=(lo.getLsbD j && !decide (j<bl (lo ^^^ hi))):=by
 intro j hj
 by_cases e:lo=hi
 . subst e
   have:bl (lo ^^^ lo)=0:=by rw[BitVec.xor_self];rfl
   rw[this,range_same0]
   simp[hj]
 . unfold range
   rw[if_neg h]
   have hb:=bl_le (lo ^^^ hi)
   have:(64-bl (lo ^^^ hi)+j<64)↔j<bl (lo ^^^ hi):=by omega
   simp[e,hj,ones_bit,this]
theorem range_right {lo hi:BitVec 64}(h : ¬ hi<lo):right (range lo hi)=true:=right_iff.2 fun j hj=>by
 rw[(range_bits h j hj).1,(range_bits h j hj).2];cases lo.getLsbD j<;>simp
theorem range_has {lo hi n:BitVec 64}(h : ¬ hi<lo)(h1 : ¬ n<lo)(h2 : ¬ hi<n):has (range lo hi) n=true:=has_iff.2 fun j hj=>by
 refine⟨right_iff.1 (range_right h) j hj,?_⟩
 rw[(range_bits h j hj).1,(range_bits h j hj).2]
 by_cases hk:j<bl (lo ^^^ hi)
 . simp[hk]
 . simp only[hk,decide_false,Bool.not_false,Bool.and_true]
   rw[BitVec.lt_def] at h h1 h2
   generalize hke:bl (lo ^^^ hi)=k at hk
   have hx:(lo ^^^ hi).toNat<2^k:=by rw[← hke];exact bl_lt _
   have hs:lo.toNat / 2^k=hi.toNat / 2^k:=by
    apply Nat.eq_of_testBit_eq;intro i
    rw[Nat.testBit_div_two_pow,Nat.testBit_div_two_pow]
    have:=Nat.testBit_lt_two_pow (Nat.lt_of_lt_of_le hx (Nat.pow_le_pow_right (n:=2) (by omega) (show k≤i+k by omega)))
    rw[BitVec.toNat_xor,Nat.testBit_xor] at this
    simpa using this
   have hn:n.toNat / 2^k=lo.toNat / 2^k:=by
    have a1:lo.toNat / 2^k≤n.toNat / 2^k:=Nat.div_le_div_right (by omega)
    have a2:n.toNat / 2^k≤hi.toNat / 2^k:=Nat.div_le_div_right (by omega)
    omega
   have:=congrArg (fun z=>z.testBit (j-k)) hn
   simp only[Nat.testBit_div_two_pow] at this
   rw[show j-k+k=j by omega] at this
   exact this
theorem range_mono {a b c d:BitVec 64}(h1:c.toNat≤a.toNat)(h2:a.toNat≤b.toNat)(h3:b.toNat≤d.toNat):leq (range a b) (range c d)=true:=by
 have hab : ¬ b<a:=by rw[BitVec.lt_def];omega
 have hcd : ¬ d<c:=by rw[BitVec.lt_def];omega
 have ha:=range_has (n:=a) hcd (by rw[BitVec.lt_def];omega) (by rw[BitVec.lt_def];omega)
 have hb:=range_has (n:=b) hcd (by rw[BitVec.lt_def];omega) (by rw[BitVec.lt_def];omega)
 have rab:=range_bits hab;have rcd:=range_bits hcd
 have agree:∀ j,j<64→bl (c ^^^ d)≤j→a.getLsbD j=b.getLsbD j:=fun j hj hk=>by
  have p:=(has_bit ha j).2;have q:=(has_bit hb j).2
  rw[(rcd j hj).1] at p q
  have:decide (j<bl (c ^^^ d))=false:=decide_eq_false (by omega)
  rw[this] at p q
  simp only[Bool.not_false,Bool.and_true] at p q
  rw[p,q]
 have hbl:bl (a ^^^ b)≤bl (c ^^^ d):=bl_bits fun j hj hk=>by simp[agree j hj hk]
 rw[leq_iff]
 intro j hj
 obtain⟨m1,v1⟩:=rab j hj;obtain⟨m2,v2⟩:=rcd j hj
 have p:=has_bit ha j
 refine⟨right_bit (range_right hab) j,right_bit (range_right hcd) j,?_,?_⟩
 . rw[m1,m2]
   by_cases e:j<bl (a ^^^ b)
   . simp[show j<bl (c ^^^ d) by omega]
   . simp[e]
 . rw[← p.2,v1,m2]
   by_cases e:j<bl (c ^^^ d)
   . simp[e]
   . simp[e,show ¬ j<bl (a ^^^ b) by omega]
end T
end Go.Proofs.YtfjemlegodhfnaaGreat
namespace Go.Proofs.YtfjemlegodhfnaaGreat
open Go.RowKit
set_option maxHeartbeats 1000000
namespace C
open R S
structure In (x:Sc)(n:BitVec 64):Prop where
 t:T.has x.t n=true
 lo:x.s.lo.toNat≤n.toNat
 hi:n.toNat≤x.s.hi.toNat
 sl:x.s.sl≤sv n
 sh:sv n≤x.s.sh
def has (x:Sc)(n:BitVec 64):Bool:=T.has x.t n&&S.has x.s n
theorem has_in {x:Sc}{n:BitVec 64}:has x n=true↔In x n:=by
 unfold has
 rw[Bool.and_eq_true,S.has_iff]
 constructor
 . rintro⟨h1,h2⟩;exact⟨h1,h2.lo,h2.hi,h2.sl,h2.sh⟩
 . intro h;exact⟨h.t,h.lo,Nat.le_refl _,h.hi,h.sl,Int.le_refl _,h.sh⟩
theorem Sub.has {y x:Sc}(h:Sub y x){n:BitVec 64}(k:In y n):In x n:=
 ⟨T.leq_has h.t k.t,Nat.le_trans h.lo k.lo,Nat.le_trans k.hi h.hi,Int.le_trans h.sl k.sl,Int.le_trans k.sh h.sh⟩
theorem sub_bits {x y:BitVec 64}(h:∀ i,i<64→x.getLsbD i=true→y.getLsbD i=true):x.toNat≤y.toNat:=by
 have:x=x &&& y:=T.ext64 fun i hi=>by
  have:=h i hi
  simp only[BitVec.getLsbD_and]
  revert this;cases x.getLsbD i<;>simp
 rw[this,BitVec.toNat_and];exact Nat.and_le_right
theorem has_bounds {t:Tn}{n:BitVec 64}(h:T.has t n=true):t.v.toNat≤n.toNat∧n.toNat≤(t.v ||| t.m).toNat:=by
 constructor
 . refine sub_bits fun i hi => ?_
   have:=T.has_bit h i
   revert this;cases t.v.getLsbD i<;>cases t.m.getLsbD i<;>cases n.getLsbD i<;>simp
 . refine sub_bits fun i hi => ?_
   have:=T.has_bit h i
   rw[BitVec.getLsbD_or]
   revert this;cases t.v.getLsbD i<;>cases t.m.getLsbD i<;>cases n.getLsbD i<;>simp
theorem in1 {z:Sc}{n:BitVec 64}(h:In z n):ok1 z=true∧In (r1 z) n:=by
 obtain⟨h1,h2⟩:=has_bounds h.t
 have a:=h.lo;have b:=h.hi
 have e1:(r1 z).s.lo.toNat≤n.toNat:=by simp only[r1,maxB_nat];omega
 have e2:n.toNat≤(r1 z).s.hi.toNat:=by simp only[r1,minB_nat];omega
 exact⟨decide_eq_true (by rw[BitVec.le_def];omega),⟨h.t,e1,e2,h.sl,h.sh⟩⟩
theorem in2 {z:Sc}{n:BitVec 64}(h:In z n):ok2 z=true∧In (r2 z) n:=by
 have a:=h.lo;have b:=h.hi
 have hle : ¬ z.s.hi<z.s.lo:=by rw[BitVec.lt_def];omega
 have hr:=T.range_has (n:=n) hle (by rw[BitVec.lt_def];omega) (by rw[BitVec.lt_def];omega)
 have m:=T.meet_has (T.has_right h.t) (T.range_right hle) n
 rw[h.t,hr] at m
 have m:=m.symm
 rw[Bool.and_self,Bool.and_eq_true] at m
 exact⟨m.1,⟨m.2,a,b,h.sl,h.sh⟩⟩
theorem top_nat {x y:BitVec 64}(h:(x >>> 63==y >>> 63)=true):(x.toNat<9223372036854775808∧y.toNat<9223372036854775808)∨(9223372036854775808≤x.toNat∧9223372036854775808≤y.toNat):=by
 have h:=congrArg BitVec.toNat (beq_iff_eq.1 h)
 rw[BitVec.toNat_ushiftRight,BitVec.toNat_ushiftRight,Nat.shiftRight_eq_div_pow,Nat.shiftRight_eq_div_pow] at h
 have:=x.isLt;have:=y.isLt
 omega
theorem sv_mono {x y:BitVec 64}(h:x.toNat≤y.toNat)(k:(x.toNat<9223372036854775808∧y.toNat<9223372036854775808)∨(9223372036854775808≤x.toNat∧9223372036854775808≤y.toNat)):sv x≤sv y:=by
 rcases k with⟨k1,k2⟩ | ⟨k1,k2⟩
 . rw[sv_small k1,sv_small k2];omega
 . rw[sv_big (by omega),sv_big (by omega)];omega
theorem in3 {z:Sc}{n:BitVec 64}(h:In z n):ok3 z=true∧In (r3 z) n:=by
 have a:=h.lo;have b:=h.hi;have c:=h.sl;have d:=h.sh
 have key:In (r3 z) n:=by
  unfold r3
  split
  . rename_i ht
    have k:=top_nat ht
    have s1:=sv_mono a (by omega)
    have s2:=sv_mono b (by omega)
    exact⟨h.t,a,b,by simp only[maxI_eq];omega,by simp only[minI_eq];omega⟩
  . exact h
 exact⟨decide_eq_true (Int.le_trans key.sl key.sh),key⟩
theorem ofInt_mono {a b:Int}(ha : -9223372036854775808≤a)(hb:b≤9223372036854775807)(h:a≤b)(k:(a<0∧b<0)∨(0≤a∧0≤b)):(BitVec.ofInt 64 a).toNat≤(BitVec.ofInt 64 b).toNat:=by
 have h1:=ofInt_nat a;have h2:=ofInt_nat b
 omega
theorem sgn_iff {z:Sc}(h:sgn z=true):(z.s.sl<0∧z.s.sh<0)∨(0≤z.s.sl∧0≤z.s.sh):=by
 unfold sgn at h
 rw[beq_iff_eq] at h
 by_cases e:z.s.sl<0
 . have e2:z.s.sh<0:=by simpa [e] using h.symm
   exact .inl ⟨e,e2⟩
 . have e2 : ¬ z.s.sh<0:=by simpa [e] using h.symm
   exact .inr ⟨by omega,by omega⟩
theorem in4 {z:Sc}{n:BitVec 64}(h:In z n)(g:R.inS z.s=true):ok4 z=true∧In (r4 z) n:=by
 have a:=h.lo;have b:=h.hi;have c:=h.sl;have d:=h.sh
 have gi:=inS_iff.1 g
 have key:In (r4 z) n:=by
  unfold r4
  split
  . rename_i hs
    have k:=sgn_iff hs
    have e:=ofInt_sv n
    have s1:=ofInt_mono gi.1.1 (sv_in n).2 c (by omega)
    have s2:=ofInt_mono (sv_in n).1 gi.2.2 d (by omega)
    rw[e] at s1 s2
    exact⟨h.t,by simp only[maxB_nat];omega,by simp only[minB_nat];omega,c,d⟩
  . exact h
 exact⟨decide_eq_true (by rw[BitVec.le_def];exact Nat.le_trans key.lo key.hi),key⟩
theorem r3_in {z:Sc}(g:R.inS z.s=true):R.inS (r3 z).s=true:=by
 have gi:=inS_iff.1 g
 have v1:=sv_in z.s.lo;have v2:=sv_in z.s.hi
 unfold r3;split
 . exact inS_iff.2 (by simp only[maxI_eq,minI_eq];omega)
 . exact g
theorem step_in {z:Sc}{n:BitVec 64}(h:In z n)(g:R.inS z.s=true):∃ y,step z=some y∧In y n:=by
 obtain⟨k1,h1⟩:=in1 h
 obtain⟨k2,h2⟩:=in2 h1
 obtain⟨k3,h3⟩:=in3 h2
 obtain⟨k4,h4⟩:=in4 h3 (r3_in g)
 exact⟨_,by unfold step;rw[if_pos k1,if_pos k2,if_pos k3,if_pos k4],h4⟩
theorem tog_in:∀ (k:Nat) (x:Sc) (n:BitVec 64),mu x≤k→Good x→In x n→∃ y,tog x=some y∧In y n:=by
 intro k
 induction k with
 |zero=>
  intro x n hk gx h
  obtain⟨z,hz,hn⟩:=step_in h gx.i
  rw[tog_step gx,hz]
  simp only
  by_cases e:z=x
  . rw[if_pos e];exact⟨x,rfl,h⟩
  . have:=mu_lt (step_ok gx hz).1 (step_ok gx hz).2 e;omega
 |succ k ih=>
  intro x n hk gx h
  obtain⟨z,hz,hn⟩:=step_in h gx.i
  rw[tog_step gx,hz]
  simp only
  by_cases e:z=x
  . rw[if_pos e];exact⟨x,rfl,h⟩
  . rw[if_neg e]
    have:=mu_lt (step_ok gx hz).1 (step_ok gx hz).2 e
    exact ih z n (by omega) (step_ok gx hz).2 hn
theorem Sub.antisymm {a b:Sc}(h:Sub a b)(k:Sub b a):a=b:=
 sc_ext (T.leq_antisymm h.t k.t) (Nat.le_antisymm k.lo h.lo) (Nat.le_antisymm h.hi k.hi) (Int.le_antisymm k.sl h.sl) (Int.le_antisymm h.sh k.sh)
theorem fix_parts {z:Sc}(gz:Good z)(h:step z=some z):(ok1 z=true∧r1 z=z)∧(ok2 z=true∧r2 z=z)∧(ok3 z=true∧r3 z=z)∧(ok4 z=true∧r4 z=z):=by
 have h0:=h
 unfold step at h
 split at h
 . rename_i k1
   split at h
   . rename_i k2
     split at h
     . rename_i k3
       split at h
       . rename_i k4
         have e:=Option.some.inj h
         have h1:(r1 z).s.lo.toNat≤(r1 z).s.hi.toNat:=of_decide_eq_true k1
         have s1:Sub (r1 z) z:=⟨by simp only[r1,maxB_nat];omega,by simp only[r1,minB_nat];omega,Int.le_refl _,Int.le_refl _,T.leq_refl gz.t⟩
         have hr:T.right (T.range (r1 z).s.lo (r1 z).s.hi)=true:=T.range_right (by rw[BitVec.lt_def];omega)
         have s2:Sub (r2 (r1 z)) (r1 z):=⟨Nat.le_refl _,Nat.le_refl _,Int.le_refl _,Int.le_refl _,(T.meet_leq gz.t hr k2).1⟩
         have t2:T.right (r2 (r1 z)).t=true:=(leq_right s2.t).1
         have s3:Sub (r3 (r2 (r1 z))) (r2 (r1 z)):=by
          unfold r3;split
          . exact⟨Nat.le_refl _,Nat.le_refl _,by simp only[maxI_eq];omega,by simp only[minI_eq];omega,T.leq_refl t2⟩
          . exact Sub.refl t2
         have t3:T.right (r3 (r2 (r1 z))).t=true:=(leq_right s3.t).1
         have s4:Sub (r4 (r3 (r2 (r1 z)))) (r3 (r2 (r1 z))):=by
          generalize r3 (r2 (r1 z))=w at t3 ⊢
          unfold r4;split
          . exact⟨by simp only[maxB_nat];omega,by simp only[minB_nat];omega,Int.le_refl _,Int.le_refl _,T.leq_refl t3⟩
          . exact Sub.refl t3
         have e3:r3 (r2 (r1 z))=z:=(s3.trans (s2.trans s1)).antisymm (by rw[e] at s4;exact s4)
         have e2:r2 (r1 z)=z:=(s2.trans s1).antisymm (by rw[e3] at s3;exact s3)
         have e1:r1 z=z:=s1.antisymm (by rw[e2] at s2;exact s2)
         rw[e1] at e2 k2 e3 k3 k4 e
         rw[e2] at k3 e3 k4 e
         rw[e3] at k4 e
         exact⟨⟨k1,e1⟩,⟨k2,e2⟩,⟨k3,e3⟩,⟨k4,e⟩⟩
       . cases h
     . cases h
   . cases h
 . cases h
theorem meet_glb {a b c:Tn}(h:T.leq c a=true)(k:T.leq c b=true):(T.meet a b).2=true∧T.leq c (T.meet a b).1=true:=by
 have ha:=(leq_right h).2;have hb:=(leq_right k).2
 have hm:(T.meet a b).2=true:=by
  cases e:(T.meet a b).2 with
  |true=>rfl
  |false=>
   obtain⟨i,hi,hx⟩:=T.meet_no ha hb e
   have p:=T.leq_iff.1 h i hi;have q:=T.leq_iff.1 k i hi
   exfalso
   revert p q hx;cases a.v.getLsbD i<;>cases a.m.getLsbD i<;>cases b.v.getLsbD i<;>cases b.m.getLsbD i<;>cases c.v.getLsbD i<;>cases c.m.getLsbD i<;>simp
 obtain⟨e,hbits⟩:=T.meet_bits ha hb hm
 refine⟨hm,?_⟩
 rw[e,T.leq_iff]
 intro i hi
 have p:=T.leq_iff.1 h i hi;have q:=T.leq_iff.1 k i hi;have r:=hbits i hi
 simp only[BitVec.getLsbD_and,BitVec.getLsbD_or]
 revert p q r;cases a.v.getLsbD i<;>cases a.m.getLsbD i<;>cases b.v.getLsbD i<;>cases b.m.getLsbD i<;>cases c.v.getLsbD i<;>cases c.m.getLsbD i<;>simp
theorem leq_bounds {a b:Tn}(h:T.leq a b=true):b.v.toNat≤a.v.toNat∧(a.v ||| a.m).toNat≤(b.v ||| b.m).toNat:=by
 constructor
 . refine sub_bits fun i hi => ?_
   have:=T.leq_iff.1 h i hi
   revert this;cases a.v.getLsbD i<;>cases a.m.getLsbD i<;>cases b.v.getLsbD i<;>cases b.m.getLsbD i<;>simp
 . refine sub_bits fun i hi => ?_
   have:=T.leq_iff.1 h i hi
   simp only[BitVec.getLsbD_or]
   revert this;cases a.v.getLsbD i<;>cases a.m.getLsbD i<;>cases b.v.getLsbD i<;>cases b.m.getLsbD i<;>simp
theorem step_mono {x y:Sc}(gx:Good x)(hx:step x=some x)(gy:Good y)(h:Sub x y):∃ y',step y=some y'∧Sub x y':=by
 obtain⟨⟨k1,e1⟩,⟨k2,e2⟩,⟨k3,e3⟩,⟨k4,e4⟩⟩:=fix_parts gx hx
 have xp:=gx.p;have xg:=gx.g
 have xi:=inS_iff.1 gx.i
 have m1:ok1 y=true∧Sub x (r1 y):=by
  obtain⟨b1,b2⟩:=leq_bounds h.t
  have f1:=congrArg (fun z=>z.s.lo.toNat) e1;have f2:=congrArg (fun z=>z.s.hi.toNat) e1
  simp only[r1,maxB_nat,minB_nat] at f1 f2
  have h1:=h.lo;have h2:=h.hi
  have s:Sub x (r1 y):=⟨by simp only[r1,maxB_nat];omega,by simp only[r1,minB_nat];omega,h.sl,h.sh,h.t⟩
  exact⟨decide_eq_true (by rw[BitVec.le_def];have:=s.lo;have:=s.hi;omega),s⟩
 have m2:ok2 (r1 y)=true∧Sub x (r2 (r1 y)):=by
  have hrx:T.right (T.range x.s.lo x.s.hi)=true:=T.range_right (by rw[BitVec.lt_def];omega)
  have l1:T.leq x.t (T.range x.s.lo x.s.hi)=true:=by
   have:=(T.meet_leq gx.t hrx k2).2
   rwa [show(T.meet x.t (T.range x.s.lo x.s.hi)).1=x.t from congrArg Sc.t e2] at this
  have l2:=T.leq_trans l1 (T.range_mono m1.2.lo xp m1.2.hi)
  obtain⟨g1,g2⟩:=meet_glb m1.2.t l2
  exact⟨g1,m1.2.lo,m1.2.hi,m1.2.sl,m1.2.sh,g2⟩
 have i1:R.inS (r2 (r1 y)).s=true:=gy.i
 generalize hw:r2 (r1 y)=w at m2 i1
 have wi:=inS_iff.1 i1
 have m3:ok3 w=true∧Sub x (r3 w):=by
  have h1:=m2.2.lo;have h2:=m2.2.hi;have h3:=m2.2.sl;have h4:=m2.2.sh
  have s:Sub x (r3 w):=by
   unfold r3
   split
   . rename_i ht
     have k:=top_nat ht
     have tx:top x=true:=by
        unfold top
        rw[beq_iff_eq]
        apply BitVec.eq_of_toNat_eq
        rw[BitVec.toNat_ushiftRight,BitVec.toNat_ushiftRight,Nat.shiftRight_eq_div_pow,Nat.shiftRight_eq_div_pow]
        have:=x.s.lo.isLt;have:=x.s.hi.isLt;have:=w.s.lo.isLt;have:=w.s.hi.isLt
        omega
     have f1:=congrArg (fun z=>z.s.sl) e3;have f2:=congrArg (fun z=>z.s.sh) e3
     unfold r3 at f1 f2
     rw[if_pos tx] at f1 f2
     simp only[maxI_eq,minI_eq] at f1 f2
     have v1:=sv_mono h1 (by omega)
     have v2:=sv_mono h2 (by omega)
     exact⟨h1,h2,by simp only[maxI_eq];omega,by simp only[minI_eq];omega,m2.2.t⟩
   . exact m2.2
  exact⟨decide_eq_true (by have:=s.sl;have:=s.sh;omega),s⟩
 have i2:R.inS (r3 w).s=true:=r3_in i1
 generalize hu:r3 w=u at m3 i2
 have ui:=inS_iff.1 i2
 have m4:ok4 u=true∧Sub x (r4 u):=by
  have h1:=m3.2.lo;have h2:=m3.2.hi;have h3:=m3.2.sl;have h4:=m3.2.sh
  have s:Sub x (r4 u):=by
   unfold r4
   split
   . rename_i ht
     have k:=sgn_iff ht
     have tx:sgn x=true:=by
        unfold sgn
        rw[beq_iff_eq]
        rcases k with⟨k1,k2⟩ | ⟨k1,k2⟩
        . rw[decide_eq_true (show x.s.sl<0 by omega),decide_eq_true (show x.s.sh<0 by omega)]
        . rw[decide_eq_false (show ¬ x.s.sl<0 by omega),decide_eq_false (show ¬ x.s.sh<0 by omega)]
     have f1:=congrArg (fun z=>z.s.lo.toNat) e4;have f2:=congrArg (fun z=>z.s.hi.toNat) e4
     unfold r4 at f1 f2
     rw[if_pos tx] at f1 f2
     simp only[maxB_nat,minB_nat] at f1 f2
     have v1:=ofInt_mono ui.1.1 xi.1.2 h3 (by omega)
     have v2:=ofInt_mono xi.2.1 ui.2.2 h4 (by omega)
     exact⟨by simp only[maxB_nat];omega,by simp only[minB_nat];omega,h3,h4,m3.2.t⟩
   . exact m3.2
  exact⟨decide_eq_true (by rw[BitVec.le_def];have:=s.lo;have:=s.hi;omega),s⟩
 refine⟨r4 u,?_,m4.2⟩
 unfold step
 rw[if_pos m1.1,hw,if_pos m2.1,if_pos m3.1,hu,if_pos m4.1]
theorem tog_mono:∀ (k:Nat) (x y:Sc),mu y≤k→Good x→step x=some x→Good y→Sub x y→∃ y',tog y=some y'∧Sub x y':=by
 intro k
 induction k with
 |zero=>
  intro x y hk gx hx gy h
  obtain⟨z,hz,hs⟩:=step_mono gx hx gy h
  rw[tog_step gy,hz]
  simp only
  by_cases e:z=y
  . rw[if_pos e];exact⟨y,rfl,h⟩
  . have:=mu_lt (step_ok gy hz).1 (step_ok gy hz).2 e;omega
 |succ k ih=>
  intro x y hk gx hx gy h
  obtain⟨z,hz,hs⟩:=step_mono gx hx gy h
  rw[tog_step gy,hz]
  simp only
  by_cases e:z=y
  . rw[if_pos e];exact⟨y,rfl,h⟩
  . rw[if_neg e]
    have:=mu_lt (step_ok gy hz).1 (step_ok gy hz).2 e
    exact ih x z (by omega) gx hx (step_ok gy hz).2 hs
end C
end Go.Proofs.YtfjemlegodhfnaaGreat
