import Derived.Test.YtfjemlegodhfnaaGreatM22
set_option linter.all false
namespace Go.Proofs.YtfjemlegodhfnaaGreat
open Go.RowKit
set_option maxHeartbeats 2000000
namespace S
open R
structure Le (a b:Sp):Prop where
 lo:b.lo.toNat≤a.lo.toNat
 mid:a.lo.toNat≤a.hi.toNat
 hi:a.hi.toNat≤b.hi.toNat
 sl:b.sl≤a.sl
 smid:a.sl≤a.sh
 sh:a.sh≤b.sh
theorem good_iff {a:Sp}:good a=true↔a.lo.toNat≤a.hi.toNat∧a.sl≤a.sh:=by
 unfold good;simp[BitVec.le_def]
theorem leq_iff {a b:Sp}:leq a b=true↔Le a b:=by
 unfold leq
 simp only[Bool.and_eq_true,good_iff,decide_eq_true_eq,BitVec.le_def]
 constructor
 . rintro⟨⟨h1,h2⟩,⟨h3,h4⟩,⟨h5,h6⟩,h7,h8⟩;exact⟨h5,h1,h6,h7,h2,h8⟩
 . rintro⟨h1,h2,h3,h4,h5,h6⟩;exact⟨⟨h2,h5⟩,⟨by omega,by omega⟩,⟨h1,h3⟩,h4,h6⟩
theorem Le.good1 {a b:Sp}(h:Le a b):good a=true:=good_iff.2 ⟨h.mid,h.smid⟩
theorem Le.good2 {a b:Sp}(h:Le a b):good b=true:=by
 have:=h.lo;have:=h.mid;have:=h.hi;have:=h.sl;have:=h.smid;have:=h.sh
 exact good_iff.2 ⟨by omega,by omega⟩
theorem Le.refl {a:Sp}(h:good a=true):Le a a:=by
 obtain⟨h1,h2⟩:=good_iff.1 h
 exact⟨Nat.le_refl _,h1,Nat.le_refl _,Int.le_refl _,h2,Int.le_refl _⟩
theorem inS_iff {a:Sp}:inS a=true↔(-9223372036854775808≤a.sl∧a.sl≤9223372036854775807)∧(-9223372036854775808≤a.sh∧a.sh≤9223372036854775807):=by
 unfold inS;rw[Bool.and_eq_true,inI_iff',inI_iff']
theorem z_nat:(BitVec.ofInt 64 0).toNat=0:=by decide
theorem top_nat:(BitVec.ofInt 64 18446744073709551615).toNat=18446744073709551615:=by decide
structure PLe (a b:Pl):Prop where
 lo:b.lo.toNat≤a.lo.toNat
 mid:a.lo.toNat≤a.hi.toNat
 hi:a.hi.toNat≤b.hi.toNat
structure SLe (a b:Sg):Prop where
 sl:b.sl≤a.sl
 smid:a.sl≤a.sh
 sh:a.sh≤b.sh
theorem Le.of {p q:Pl}{s t:Sg}(h:PLe p q)(k:SLe s t):Le ⟨p.lo,p.hi,s.sl,s.sh⟩ ⟨q.lo,q.hi,t.sl,t.sh⟩:=⟨h.lo,h.mid,h.hi,k.sl,k.smid,k.sh⟩
def fullP:Pl:=⟨BitVec.ofInt 64 0,BitVec.ofInt 64 18446744073709551615⟩
def fullS:Sg:=⟨-9223372036854775808,9223372036854775807⟩
theorem PLe.full {p:Pl}(h:p.lo.toNat≤p.hi.toNat):PLe p fullP:=⟨by show(BitVec.ofInt 64 0).toNat≤_;rw[z_nat];omega,h,by show _≤(BitVec.ofInt 64 18446744073709551615).toNat;rw[top_nat];have:=p.hi.isLt;omega⟩
theorem SLe.full {s:Sg}(h:s.sl≤s.sh)(h1 : -9223372036854775808≤s.sl)(h2:s.sh≤9223372036854775807):SLe s fullS:=⟨h1,h,h2⟩
theorem fullP_good:fullP.lo.toNat≤fullP.hi.toNat:=by decide
theorem fullS_good:fullS.sl≤fullS.sh:=by decide
theorem PLe.ite {c d:Bool}{p q:Pl}(hcd:d=true→c=true)(h:d=true→PLe p q)(hp:c=true→p.lo.toNat≤p.hi.toNat):PLe (if c=true then p else fullP) (if d=true then q else fullP):=by
 cases d
 . cases c
   . exact PLe.full fullP_good
   . exact PLe.full (hp rfl)
 . rw[hcd rfl];exact h rfl
theorem SLe.ite {c d:Bool}{p q:Sg}(hcd:d=true→c=true)(h:d=true→SLe p q)(hp:c=true→p.sl≤p.sh ∧ -9223372036854775808≤p.sl∧p.sh≤9223372036854775807):SLe (if c=true then p else fullS) (if d=true then q else fullS):=by
 cases d
 . cases c
   . exact(SLe.full (s:=fullS) fullS_good (by decide) (by decide):SLe fullS fullS)
   . have:=hp rfl;exact SLe.full this.1 this.2.1 this.2.2
 . rw[hcd rfl];exact h rfl
theorem carry_zero (x y:BitVec 64):(carry x y==BitVec.ofInt 64 0)=decide (x.toNat+y.toNat<18446744073709551616):=by
 rw[Bool.eq_iff_iff,beq_iff_eq,decide_eq_true_eq]
 have hx:=x.isLt;have hy:=y.isLt
 unfold carry
 constructor
 . intro h
   have:=congrArg BitVec.toNat h
   rw[BitVec.toNat_ofNat,z_nat] at this
   omega
 . intro h
   rw[Nat.div_eq_of_lt h];decide
theorem sum_mono {a b c d:Pl}(h:PLe a b)(k:PLe c d):PLe (sum a c) (sum b d):=by
 unfold sum
 have h1:=h.lo;have h2:=h.mid;have h3:=h.hi;have k1:=k.lo;have k2:=k.mid;have k3:=k.hi
 have:=a.lo.isLt;have:=a.hi.isLt;have:=b.lo.isLt;have:=b.hi.isLt;have:=c.lo.isLt;have:=c.hi.isLt;have:=d.lo.isLt;have:=d.hi.isLt
 simp only[carry_zero]
 refine PLe.ite (fun e => ?_) (fun e => ?_) (fun e => ?_)
 . simp only[decide_eq_true_eq] at e ⊢;omega
 . simp only[decide_eq_true_eq] at e
   exact⟨by simp only[BitVec.toNat_add];omega,by simp only[BitVec.toNat_add];omega,by simp only[BitVec.toNat_add];omega⟩
 . simp only[decide_eq_true_eq] at e
   simp only[BitVec.toNat_add];omega
theorem ite_not {α:Type}{c:Bool}{a b:α}:(if (!c)=true then a else b)=if c=true then b else a:=by cases c<;>rfl
theorem sums_form {a b:Sg}(ha:inI a.sl=true∧inI a.sh=true)(hb:inI b.sl=true∧inI b.sh=true):sums a b=if (inI (a.sl+b.sl)&&inI (a.sh+b.sh))=true then ⟨a.sl+b.sl,a.sh+b.sh⟩ else fullS:=by
 unfold sums
 rw[over_eq ha.1 hb.1,over_eq ha.2 hb.2]
 cases h1:inI (a.sl+b.sl)<;>cases h2:inI (a.sh+b.sh)<;>simp[fullS,wrap_in,h1,h2]
theorem sums_mono {a b c d:Sg}(h:SLe a b)(k:SLe c d)(hb:inI b.sl=true∧inI b.sh=true)(hd:inI d.sl=true∧inI d.sh=true):SLe (sums a c) (sums b d):=by
 have h1:=h.sl;have h2:=h.smid;have h3:=h.sh;have k1:=k.sl;have k2:=k.smid;have k3:=k.sh
 have b1:=inI_iff'.1 hb.1;have b2:=inI_iff'.1 hb.2;have d1:=inI_iff'.1 hd.1;have d2:=inI_iff'.1 hd.2
 rw[sums_form ⟨inI_iff'.2 (by omega),inI_iff'.2 (by omega)⟩ ⟨inI_iff'.2 (by omega),inI_iff'.2 (by omega)⟩,sums_form hb hd]
 refine SLe.ite (fun e => ?_) (fun e => ?_) (fun e => ?_)
 . simp only[Bool.and_eq_true,inI_iff'] at e ⊢;omega
 . exact⟨by show b.sl+d.sl≤a.sl+c.sl;omega,by show a.sl+c.sl≤a.sh+c.sh;omega,by show a.sh+c.sh≤b.sh+d.sh;omega⟩
 . simp only[Bool.and_eq_true,inI_iff'] at e
   exact⟨by show a.sl+c.sl≤a.sh+c.sh;omega,e.1.1,e.2.2⟩
theorem Le.p {a b:Sp}(h:Le a b):PLe ⟨a.lo,a.hi⟩ ⟨b.lo,b.hi⟩:=⟨h.lo,h.mid,h.hi⟩
theorem Le.s {a b:Sp}(h:Le a b):SLe ⟨a.sl,a.sh⟩ ⟨b.sl,b.sh⟩:=⟨h.sl,h.smid,h.sh⟩
theorem inS_and {a:Sp}(h:inS a=true):inI a.sl=true∧inI a.sh=true:=by unfold inS at h;rwa [Bool.and_eq_true] at h
theorem add_mono {a b c d:Sp}(h:Le a b)(k:Le c d)(hb:inS b=true)(hd:inS d=true):Le (add a c) (add b d):=
 Le.of (sum_mono h.p k.p) (sums_mono h.s k.s (inS_and hb) (inS_and hd))
theorem less_form {a b:Sp}(ha:inS a=true)(hb:inS b=true):less a b =
  (let p:Pl:=if decide (b.hi≤a.lo)=true then ⟨a.lo-b.hi,a.hi-b.lo⟩ else fullP
   let s:Sg:=if (inI (a.sl-b.sh)&&inI (a.sh-b.sl))=true then ⟨a.sl-b.sh,a.sh-b.sl⟩ else fullS
   ⟨p.lo,p.hi,s.sl,s.sh⟩):=by
 unfold less
 rw[under_eq (inS_and ha).1 (inS_and hb).2,under_eq (inS_and ha).2 (inS_and hb).1]
 cases h1:inI (a.sl-b.sh)<;>cases h2:inI (a.sh-b.sl)<;>simp[fullS,fullP,wrap_in,h1,h2]
theorem less_mono {a b c d:Sp}(h:Le a b)(k:Le c d)(hb:inS b=true)(hd:inS d=true):Le (less a c) (less b d):=by
 have h1:=h.lo;have h2:=h.mid;have h3:=h.hi;have k1:=k.lo;have k2:=k.mid;have k3:=k.hi
 have g1:=h.sl;have g2:=h.smid;have g3:=h.sh;have l1:=k.sl;have l2:=k.smid;have l3:=k.sh
 have b1:=inS_iff.1 hb;have d1:=inS_iff.1 hd
 have:=a.lo.isLt;have:=a.hi.isLt;have:=b.lo.isLt;have:=b.hi.isLt;have:=c.lo.isLt;have:=c.hi.isLt;have:=d.lo.isLt;have:=d.hi.isLt
 rw[less_form (inS_iff.2 (by omega)) (inS_iff.2 (by omega)),less_form hb hd]
 refine Le.of (PLe.ite (fun e => ?_) (fun e => ?_) (fun e => ?_)) (SLe.ite (fun e => ?_) (fun e => ?_) (fun e => ?_))
 . simp only[decide_eq_true_eq,BitVec.le_def] at e ⊢;omega
 . simp only[decide_eq_true_eq,BitVec.le_def] at e
   exact⟨by simp only[BitVec.toNat_sub];omega,by simp only[BitVec.toNat_sub];omega,by simp only[BitVec.toNat_sub];omega⟩
 . simp only[decide_eq_true_eq,BitVec.le_def] at e
   simp only[BitVec.toNat_sub];omega
 . simp only[Bool.and_eq_true,inI_iff'] at e ⊢;omega
 . exact⟨by show b.sl-d.sh≤a.sl-c.sh;omega,by show a.sl-c.sh≤a.sh-c.sl;omega,by show a.sh-c.sl≤b.sh-d.sl;omega⟩
 . simp only[Bool.and_eq_true,inI_iff'] at e
   exact⟨by show a.sl-c.sh≤a.sh-c.sl;omega,e.1.1,e.2.2⟩
theorem ofInt_pos {n:Int}(h0:0≤n)(h:n≤9223372036854775807):(BitVec.ofInt 64 n).toNat=n.toNat:=by
 have:=ofInt_nat n;omega
theorem imul_toNat {m n:Int}(hm:0≤m)(hn:0≤n):((m.toNat*n.toNat:Nat):Int)=m*n:=by
 rw[Int.natCast_mul,Int.toNat_of_nonneg hm,Int.toNat_of_nonneg hn]
theorem times_form {a b:Sp}(ha:inS a=true)(hb:inS b=true)(ga:good a=true)(gb:good b=true):times a b =
  (let p:Pl:=if decide (a.hi.toNat*b.hi.toNat<18446744073709551616)=true then ⟨a.lo*b.lo,a.hi*b.hi⟩ else fullP
   let s:Sg:=if (decide (0≤a.sl)&&decide (0≤b.sl)&&decide (a.sh*b.sh≤9223372036854775807))=true then ⟨a.sl*b.sl,a.sh*b.sh⟩ else fullS
   ⟨p.lo,p.hi,s.sl,s.sh⟩):=by
 have a1:=inS_iff.1 ha;have b1:=inS_iff.1 hb
 have ga:=good_iff.1 ga;have gb:=good_iff.1 gb
 unfold times
 rw[high_zero,high_zero]
 by_cases hs:0≤a.sl∧0≤b.sl
 . have e1:=ofInt_pos (n:=a.sh) (by omega) (by omega)
   have e2:=ofInt_pos (n:=b.sh) (by omega) (by omega)
   have e3:=imul_toNat (m:=a.sh) (n:=b.sh) (by omega) (by omega)
   have hm:a.sl*b.sl≤a.sh*b.sh:=Int.mul_le_mul (by omega) (by omega) hs.2 (by omega)
   have h0:0≤a.sl*b.sl:=Int.mul_nonneg hs.1 hs.2
   rw[e1,e2,← BitVec.ofInt_mul,sv_of]
   by_cases hf:a.sh*b.sh≤9223372036854775807
   . have e4:=ofInt_pos (n:=a.sh*b.sh) (by omega) hf
     have c1:a.sh.toNat*b.sh.toNat<18446744073709551616:=by omega
     have c2:BitVec.ofInt 64 (a.sh*b.sh)≤BitVec.ofInt 64 9223372036854775807:=by rw[BitVec.le_def,e4,most_nat];omega
     have c2':BitVec.ofInt 64 (a.sh*b.sh)≤9223372036854775807#64:=c2
     simp[hs.1,hs.2,c1,c2',hf,fullP,wrap_in (inI_iff'.2 ⟨by omega,hf⟩),wrap_in (n:=a.sl*b.sl) (inI_iff'.2 ⟨by omega,by omega⟩)]
   . have c : ¬ (a.sh.toNat*b.sh.toNat<18446744073709551616∧BitVec.ofInt 64 (a.sh*b.sh)≤BitVec.ofInt 64 9223372036854775807):=by
        rintro⟨c1,c2⟩
        rw[BitVec.le_def,most_nat] at c2
        have:=ofInt_nat (a.sh*b.sh)
        omega
     by_cases c1:a.sh.toNat*b.sh.toNat<18446744073709551616
     . have c2 : ¬ BitVec.ofInt 64 (a.sh*b.sh)≤BitVec.ofInt 64 9223372036854775807:=fun e=>c ⟨c1,e⟩
       have c2' : ¬ BitVec.ofInt 64 (a.sh*b.sh)≤9223372036854775807#64:=c2
       simp[hs.1,hs.2,c1,c2',hf,fullP,fullS]
     . simp[hs.1,hs.2,c1,hf,fullP,fullS]
 . by_cases h1:0≤a.sl
   . have h2 : ¬ 0≤b.sl:=fun e=>hs ⟨h1,e⟩
     simp[h1,h2,fullP,fullS]
   . simp[h1,fullP,fullS]
theorem times_mono {a b c d:Sp}(h:Le a b)(k:Le c d)(hb:inS b=true)(hd:inS d=true):Le (times a c) (times b d):=by
 have h1:=h.lo;have h2:=h.mid;have h3:=h.hi;have k1:=k.lo;have k2:=k.mid;have k3:=k.hi
 have g1:=h.sl;have g2:=h.smid;have g3:=h.sh;have l1:=k.sl;have l2:=k.smid;have l3:=k.sh
 have b1:=inS_iff.1 hb;have d1:=inS_iff.1 hd
 rw[times_form (inS_iff.2 (by omega)) (inS_iff.2 (by omega)) h.good1 k.good1,times_form hb hd h.good2 k.good2]
 have m1:a.hi.toNat*c.hi.toNat≤b.hi.toNat*d.hi.toNat:=Nat.mul_le_mul h3 k3
 have m2:b.lo.toNat*d.lo.toNat≤a.lo.toNat*c.lo.toNat:=Nat.mul_le_mul h1 k1
 have m3:a.lo.toNat*c.lo.toNat≤a.hi.toNat*c.hi.toNat:=Nat.mul_le_mul h2 k2
 refine Le.of (PLe.ite (fun e => ?_) (fun e => ?_) (fun e => ?_)) (SLe.ite (fun e => ?_) (fun e => ?_) (fun e => ?_))
 . simp only[decide_eq_true_eq] at e ⊢;omega
 . simp only[decide_eq_true_eq] at e
   exact⟨by simp only[BitVec.toNat_mul];rw[Nat.mod_eq_of_lt (by omega),Nat.mod_eq_of_lt (by omega)];exact m2,by simp only[BitVec.toNat_mul];rw[Nat.mod_eq_of_lt (by omega),Nat.mod_eq_of_lt (by omega)];exact m3,by simp only[BitVec.toNat_mul];rw[Nat.mod_eq_of_lt (by omega),Nat.mod_eq_of_lt (by omega)];exact m1⟩
 . simp only[decide_eq_true_eq] at e
   simp only[BitVec.toNat_mul];rw[Nat.mod_eq_of_lt (by omega),Nat.mod_eq_of_lt (by omega)];exact m3
 . simp only[Bool.and_eq_true,decide_eq_true_eq] at e ⊢
   have:a.sh*c.sh≤b.sh*d.sh:=Int.mul_le_mul g3 l3 (by omega) (by omega)
   exact⟨⟨by omega,by omega⟩,by omega⟩
 . simp only[Bool.and_eq_true,decide_eq_true_eq] at e
   exact⟨Int.mul_le_mul g1 l1 (by omega) (by omega),Int.mul_le_mul g2 l2 (by omega) (by omega),Int.mul_le_mul g3 l3 (by omega) (by omega)⟩
 . simp only[Bool.and_eq_true,decide_eq_true_eq] at e
   have n1:a.sl*c.sl≤a.sh*c.sh:=Int.mul_le_mul g2 l2 (by omega) (by omega)
   have n2:0≤a.sl*c.sl:=Int.mul_nonneg e.1.1 e.1.2
   exact⟨n1,by show(-9223372036854775808:Int)≤a.sl*c.sl;omega,e.2⟩
def fS:Sg:=⟨-9223372036854775808,9223372036854775807⟩
theorem Le.plain {p q:Pl}(h:PLe p q):Le ⟨p.lo,p.hi, -9223372036854775808,9223372036854775807⟩ ⟨q.lo,q.hi, -9223372036854775808,9223372036854775807⟩:=⟨h.lo,h.mid,h.hi,Int.le_refl _,(by show(-9223372036854775808:Int)≤9223372036854775807;decide),Int.le_refl _⟩
theorem eq_toNat {x y:BitVec 64}:x=y↔x.toNat=y.toNat:=⟨fun h=>by rw[h],BitVec.eq_of_toNat_eq⟩
def quoP (a b:Sp):Pl:=if b.lo != b.hi then ⟨BitVec.ofInt 64 0,a.hi⟩ else if b.lo==BitVec.ofInt 64 0 then ⟨BitVec.ofInt 64 0,BitVec.ofInt 64 0⟩ else ⟨a.lo / b.lo,a.hi / b.lo⟩
theorem quo_top {a b:Sp}(ga:good a=true):(quoP a b).lo.toNat≤(quoP a b).hi.toNat∧(quoP a b).hi.toNat≤a.hi.toNat:=by
 have ga:=(good_iff.1 ga).1
 unfold quoP
 by_cases h:b.lo=b.hi
 . by_cases h0:b.lo=BitVec.ofInt 64 0
   . rw[if_neg (by simp[h]),if_pos (by rw[h0];decide)];simp only[z_nat];omega
   . rw[if_neg (by simp[h]),if_neg (by rw[beq_eq_false_iff_ne.2 h0];decide)]
     simp only[BitVec.toNat_udiv]
     exact⟨Nat.div_le_div_right ga,Nat.div_le_self ..⟩
 . rw[if_pos (by simpa using h)];simp only[z_nat];omega
theorem quo_mono {a b c d:Sp}(h:Le a b)(k:Le c d):Le (quotient a c) (quotient b d):=by
 refine Le.plain (p:=quoP a c) (q:=quoP b d) ?_
 have h1:=h.lo;have h2:=h.mid;have h3:=h.hi;have k1:=k.lo;have k2:=k.mid;have k3:=k.hi
 have t:=quo_top (b:=c) h.good1
 by_cases e:d.lo=d.hi
 . have e1:c.lo=d.lo:=eq_toNat.2 (by have:=eq_toNat.1 e;omega)
   have e2:c.hi=d.lo:=eq_toNat.2 (by have:=eq_toNat.1 e;omega)
   by_cases h0:d.lo=BitVec.ofInt 64 0
   . have q:quoP b d=⟨BitVec.ofInt 64 0,BitVec.ofInt 64 0⟩:=by
        unfold quoP;rw[if_neg (by simp[e]),if_pos (by rw[h0];decide)]
     have p:quoP a c=⟨BitVec.ofInt 64 0,BitVec.ofInt 64 0⟩:=by
        unfold quoP;rw[e1,e2,if_neg (by simp),if_pos (by rw[h0];decide)]
     rw[p,q];exact⟨Nat.le_refl _,Nat.le_refl _,Nat.le_refl _⟩
   . have q:quoP b d=⟨b.lo / d.lo,b.hi / d.lo⟩:=by
        unfold quoP;rw[if_neg (by simp[e]),if_neg (by rw[beq_eq_false_iff_ne.2 h0];decide)]
     have p:quoP a c=⟨a.lo / d.lo,a.hi / d.lo⟩:=by
        unfold quoP;rw[e1,e2,if_neg (by simp),if_neg (by rw[beq_eq_false_iff_ne.2 h0];decide)]
     rw[p,q]
     exact⟨by simp only[BitVec.toNat_udiv];exact Nat.div_le_div_right h1,by simp only[BitVec.toNat_udiv];exact Nat.div_le_div_right h2,by simp only[BitVec.toNat_udiv];exact Nat.div_le_div_right h3⟩
 . have q:quoP b d=⟨BitVec.ofInt 64 0,b.hi⟩:=by unfold quoP;rw[if_pos (by simpa using e)]
   rw[q]
   exact⟨by show(BitVec.ofInt 64 0).toNat≤_;rw[z_nat];omega,t.1,by show _≤b.hi.toNat;omega⟩
def resP (a b:Sp):Pl:=if b.lo != b.hi then ⟨BitVec.ofInt 64 0,a.hi⟩ else if b.lo==BitVec.ofInt 64 0||decide (a.hi<b.lo) then ⟨a.lo,a.hi⟩ else ⟨BitVec.ofInt 64 0,b.lo-BitVec.ofInt 64 1⟩
theorem one_nat:(BitVec.ofInt 64 1).toNat=1:=by decide
theorem res_top {a b:Sp}(ga:good a=true):(resP a b).lo.toNat≤(resP a b).hi.toNat∧(resP a b).hi.toNat≤a.hi.toNat:=by
 have ga:=(good_iff.1 ga).1
 have:=b.lo.isLt
 unfold resP
 by_cases h:b.lo=b.hi
 . by_cases h0:b.lo=BitVec.ofInt 64 0
   . rw[if_neg (by simp[h]),if_pos (by rw[h0];rfl)];exact⟨ga,Nat.le_refl _⟩
   . by_cases h1:a.hi<b.lo
     . rw[if_neg (by simp[h]),if_pos (by simp[h1])];exact⟨ga,Nat.le_refl _⟩
     . rw[if_neg (by simp[h]),if_neg (by rw[beq_eq_false_iff_ne.2 h0,decide_eq_false h1];decide)]
       rw[BitVec.lt_def] at h1
       have h0':b.lo.toNat≠0:=fun e=>h0 (eq_toNat.2 (by rw[e,z_nat]))
       simp only[z_nat,BitVec.toNat_sub,one_nat];omega
 . rw[if_pos (by simpa using h)];simp only[z_nat];omega
theorem res_mono {a b c d:Sp}(h:Le a b)(k:Le c d):Le (rest a c) (rest b d):=by
 refine Le.plain (p:=resP a c) (q:=resP b d) ?_
 have h1:=h.lo;have h2:=h.mid;have h3:=h.hi;have k1:=k.lo;have k2:=k.mid;have k3:=k.hi
 have t:=res_top (b:=c) h.good1
 have:=d.lo.isLt
 by_cases e:d.lo=d.hi
 . have e1:c.lo=d.lo:=eq_toNat.2 (by have:=eq_toNat.1 e;omega)
   have e2:c.hi=d.lo:=eq_toNat.2 (by have:=eq_toNat.1 e;omega)
   by_cases h0:d.lo=BitVec.ofInt 64 0
   . have q:resP b d=⟨b.lo,b.hi⟩:=by
        unfold resP;rw[if_neg (by simp[e]),if_pos (by rw[h0];rfl)]
     have p:resP a c=⟨a.lo,a.hi⟩:=by
        unfold resP;rw[e1,e2,if_neg (by simp),if_pos (by rw[h0];rfl)]
     rw[p,q];exact h.p
   . have h0':d.lo.toNat≠0:=fun e=>h0 (eq_toNat.2 (by rw[e,z_nat]))
     by_cases hb:b.hi<d.lo
     . have ha:a.hi<d.lo:=by rw[BitVec.lt_def] at hb ⊢;omega
       have q:resP b d=⟨b.lo,b.hi⟩:=by
        unfold resP;rw[if_neg (by simp[e]),if_pos (by simp[hb])]
       have p:resP a c=⟨a.lo,a.hi⟩:=by
        unfold resP;rw[e1,e2,if_neg (by simp),if_pos (by simp[ha])]
       rw[p,q];exact h.p
     . have q:resP b d=⟨BitVec.ofInt 64 0,d.lo-BitVec.ofInt 64 1⟩:=by
        unfold resP;rw[if_neg (by simp[e]),if_neg (by rw[beq_eq_false_iff_ne.2 h0,decide_eq_false hb];decide)]
       by_cases ha:a.hi<d.lo
       . have p:resP a c=⟨a.lo,a.hi⟩:=by
          unfold resP;rw[e1,e2,if_neg (by simp),if_pos (by simp[ha])]
         rw[p,q]
         rw[BitVec.lt_def] at ha
         exact⟨by show(BitVec.ofInt 64 0).toNat≤_;rw[z_nat];omega,h2,by show a.hi.toNat≤(d.lo-BitVec.ofInt 64 1).toNat;rw[BitVec.toNat_sub,one_nat];omega⟩
       . have p:resP a c=⟨BitVec.ofInt 64 0,d.lo-BitVec.ofInt 64 1⟩:=by
          unfold resP;rw[e1,e2,if_neg (by simp),if_neg (by rw[beq_eq_false_iff_ne.2 h0,decide_eq_false ha];decide)]
         rw[p,q]
         exact⟨Nat.le_refl _,by show(BitVec.ofInt 64 0).toNat≤_;rw[z_nat];omega,Nat.le_refl _⟩
 . have q:resP b d=⟨BitVec.ofInt 64 0,b.hi⟩:=by unfold resP;rw[if_pos (by simpa using e)]
   rw[q]
   exact⟨by show(BitVec.ofInt 64 0).toNat≤_;rw[z_nat];omega,t.1,by show _≤b.hi.toNat;omega⟩
theorem minB_nat (a b:BitVec 64):(minB a b).toNat=min a.toNat b.toNat:=by
 unfold minB;split
 . rename_i h;rw[BitVec.lt_def] at h;omega
 . rename_i h;rw[BitVec.lt_def] at h;omega
theorem maxB_nat (a b:BitVec 64):(maxB a b).toNat=max a.toNat b.toNat:=by
 unfold maxB;split
 . rename_i h;rw[BitVec.lt_def] at h;omega
 . rename_i h;rw[BitVec.lt_def] at h;omega
theorem minI_eq (a b:Int):minI a b=min a b:=by unfold minI;split<;>omega
theorem maxI_eq (a b:Int):maxI a b=max a b:=by unfold maxI;split<;>omega
def andS (a b:Sp):Sg:=
 let s0:Sg:=⟨-9223372036854775808,9223372036854775807⟩
 let s1:Sg:=if decide (0≤a.sl) then ⟨0,minI s0.sh a.sh⟩ else s0
 if decide (0≤b.sl) then ⟨0,minI s1.sh b.sh⟩ else s1
theorem and_form (a b:Sp):and a b=⟨BitVec.ofInt 64 0,minB a.hi b.hi,(andS a b).sl,(andS a b).sh⟩:=rfl
theorem and_mono {a b c d:Sp}(h:Le a b)(k:Le c d)(hb:inS b=true)(hd:inS d=true):Le (and a c) (and b d):=by
 have h1:=h.lo;have h2:=h.mid;have h3:=h.hi;have k1:=k.lo;have k2:=k.mid;have k3:=k.hi
 have g1:=h.sl;have g2:=h.smid;have g3:=h.sh;have l1:=k.sl;have l2:=k.smid;have l3:=k.sh
 have b1:=inS_iff.1 hb;have d1:=inS_iff.1 hd
 rw[and_form,and_form]
 refine Le.of (p:=⟨_,_⟩) (q:=⟨_,_⟩) ⟨Nat.le_refl _,by show(BitVec.ofInt 64 0).toNat≤_;rw[z_nat];omega,by show(minB a.hi c.hi).toNat≤(minB b.hi d.hi).toNat;rw[minB_nat,minB_nat];omega⟩ ?_
 unfold andS
 simp only[minI_eq]
 by_cases e1:0≤b.sl
 . have f1:0≤a.sl:=by omega
   by_cases e2:0≤d.sl
   . have f2:0≤c.sl:=by omega
     simp only[e1,f1,e2,f2,decide_true,if_true]
     exact⟨Int.le_refl _,by simp only;omega,by simp only;omega⟩
   . by_cases f2:0≤c.sl
     . simp only[e1,f1,e2,f2,decide_true,decide_false,if_true,Bool.false_eq_true,if_false]
       exact⟨Int.le_refl _,by simp only;omega,by simp only;omega⟩
     . simp only[e1,f1,e2,f2,decide_true,decide_false,if_true,Bool.false_eq_true,if_false]
       exact⟨Int.le_refl _,by simp only;omega,by simp only;omega⟩
 . by_cases e2:0≤d.sl
   . have f2:0≤c.sl:=by omega
     by_cases f1:0≤a.sl
     . simp only[e1,f1,e2,f2,decide_true,decide_false,if_true,Bool.false_eq_true,if_false]
       exact⟨Int.le_refl _,by simp only;omega,by simp only;omega⟩
     . simp only[e1,f1,e2,f2,decide_true,decide_false,if_true,Bool.false_eq_true,if_false]
       exact⟨Int.le_refl _,by simp only;omega,by simp only;omega⟩
   . by_cases f1:0≤a.sl<;>by_cases f2:0≤c.sl<;>simp only[e1,f1,e2,f2,decide_true,decide_false,if_true,Bool.false_eq_true,if_false]<;>exact⟨by simp only;omega,by simp only;omega,by simp only;omega⟩
theorem bl_iff {n:BitVec 64}{j:Nat}(hj:j≤64):n.toNat<2^j↔bl n≤j:=by
 constructor
 . intro h;exact Lib.bitLen_le n.toNat j hj h
 . intro h
   apply Classical.byContradiction
   intro hn
   have hge:2^j≤n.toNat:=by omega
   have e:=Lib.bitLen_shift j n.toNat hge n.isLt
   have hp:0<2^j:=Nat.pow_pos (by omega)
   have hq:n.toNat / 2^j≠0:=by
    have:=Nat.div_le_div_right (c:=2^j) hge
    rw[Nat.div_self hp] at this;omega
   have hq2:n.toNat / 2^j<2^64:=Nat.lt_of_le_of_lt (Nat.div_le_self ..) n.isLt
   have:=Lib.bitLen_half _ hq hq2
   unfold bl at h;omega
theorem ones_nat (n:BitVec 64):(ones n).toNat=2^bl n-1:=by
 have:∀ j:Fin 65,(BitVec.ofInt 64 1 <<< j.val-BitVec.ofInt 64 1).toNat=2^j.val-1:=by decide
 exact this ⟨bl n,by have:=bl_le n;omega⟩
theorem le_ones (n:BitVec 64):n.toNat≤(ones n).toNat:=by
 have:=(bl_iff (bl_le n)).2 (Nat.le_refl _)
 rw[ones_nat];omega
theorem ones_or_mono {x y x' y':BitVec 64}(hx:x.toNat≤x'.toNat)(hy:y.toNat≤y'.toNat):(ones (x ||| y)).toNat≤(ones (x' ||| y')).toNat:=by
 have hb:bl (x ||| y)≤bl (x' ||| y'):=by
  have h64:=bl_le (x' ||| y')
  rw[← bl_iff h64,BitVec.toNat_or]
  have h:=(bl_iff h64).2 (Nat.le_refl _)
  rw[BitVec.toNat_or] at h
  have h1:x'.toNat≤x'.toNat ||| y'.toNat:=Nat.left_le_or
  have h2:y'.toNat≤x'.toNat ||| y'.toNat:=Nat.right_le_or
  exact Nat.or_lt_two_pow (by omega) (by omega)
 rw[ones_nat,ones_nat]
 have:=Nat.pow_le_pow_right (n:=2) (by omega) hb
 omega
theorem or_ge (x y:BitVec 64):x.toNat≤(ones (x ||| y)).toNat∧y.toNat≤(ones (x ||| y)).toNat:=by
 have h:=le_ones (x ||| y)
 rw[BitVec.toNat_or] at h
 have h1:x.toNat≤x.toNat ||| y.toNat:=Nat.left_le_or
 have h2:y.toNat≤x.toNat ||| y.toNat:=Nat.right_le_or
 omega
theorem ones_small {x:BitVec 64}(h:x.toNat<9223372036854775808):(ones x).toNat<9223372036854775808:=by
 have h1:=(bl_iff (n:=x) (j:=63) (by omega)).1 h
 have:=Nat.pow_le_pow_right (n:=2) (by omega) h1
 have hp:0<2^bl x:=Nat.pow_pos (by omega)
 rw[ones_nat];omega
theorem sv_small {x:BitVec 64}(h:x.toNat<9223372036854775808):sv x=(x.toNat:Int):=by
 unfold sv;rw[BitVec.toInt_eq_toNat_bmod,Int.bmod_def];split<;>omega
theorem sv_big {x:BitVec 64}(h : ¬ x.toNat<9223372036854775808):sv x=(x.toNat:Int)-18446744073709551616:=by
 have:=x.isLt
 unfold sv;rw[BitVec.toInt_eq_toNat_bmod,Int.bmod_def];split<;>omega
theorem ofInt_wrap (n:Int):BitVec.ofInt 64 (IntKind.i64.wrap n)=BitVec.ofInt 64 n:=by
 apply BitVec.eq_of_toNat_eq
 have h1:=ofInt_nat (IntKind.i64.wrap n);have h2:=ofInt_nat n
 rw[R.wrap64] at h1;rw[R.wrap64] at *;omega
theorem ofInt_bits (x y:Int):BitVec.ofInt 64 (Go.bits .or .i64 x y)=BitVec.ofInt 64 x ||| BitVec.ofInt 64 y:=by
 show BitVec.ofInt 64 (IntKind.i64.wrap (((BitVec.ofInt 64 x ||| BitVec.ofInt 64 y).toNat:Nat):Int))=_
 rw[ofInt_wrap,BitVec.ofInt_natCast,BitVec.ofNat_toNat,BitVec.setWidth_eq]
theorem or_small {x y:BitVec 64}(hx:x.toNat<9223372036854775808)(hy:y.toNat<9223372036854775808):(x ||| y).toNat<9223372036854775808:=by
 rw[BitVec.toNat_or];exact Nat.or_lt_two_pow (n:=63) hx hy
def orS (a b:Sp)(f:Int):Sg:=if decide (0≤a.sl)&&decide (0≤b.sl) then ⟨f,sv (ones (BitVec.ofInt 64 (Go.bits .or .i64 a.sh b.sh)))⟩ else fullS
theorem or_form (a b f:Sp):or a b f=⟨f.lo,ones (a.hi ||| b.hi),(orS a b f.sl).sl,(orS a b f.sl).sh⟩:=rfl
theorem or_top {a c:Sp}(ha:inS a=true)(hc:inS c=true)(g1:0≤a.sl)(g2:0≤c.sl)(ga:good a=true)(gc:good c=true):sv (ones (BitVec.ofInt 64 (Go.bits .or .i64 a.sh c.sh)))=((ones (BitVec.ofInt 64 a.sh ||| BitVec.ofInt 64 c.sh)).toNat:Int)∧a.sh≤sv (ones (BitVec.ofInt 64 (Go.bits .or .i64 a.sh c.sh)))∧c.sh≤sv (ones (BitVec.ofInt 64 (Go.bits .or .i64 a.sh c.sh)))∧sv (ones (BitVec.ofInt 64 (Go.bits .or .i64 a.sh c.sh)))≤9223372036854775807:=by
 have a1:=inS_iff.1 ha;have c1:=inS_iff.1 hc
 have ga:=good_iff.1 ga;have gc:=good_iff.1 gc
 have e1:=ofInt_pos (n:=a.sh) (by omega) (by omega)
 have e2:=ofInt_pos (n:=c.sh) (by omega) (by omega)
 have s:=ones_small (or_small (x:=BitVec.ofInt 64 a.sh) (y:=BitVec.ofInt 64 c.sh) (by omega) (by omega))
 have o:=or_ge (BitVec.ofInt 64 a.sh) (BitVec.ofInt 64 c.sh)
 rw[ofInt_bits,sv_small s]
 omega
theorem or_mono_of {a b c d:Sp}{f g:Sp}(h:Le a b)(k:Le c d)(hb:inS b=true)(hd:inS d=true)(f1:g.lo.toNat≤f.lo.toNat)(f2:f.lo.toNat≤(ones (a.hi ||| c.hi)).toNat)(f3:g.sl≤f.sl)(f4:0≤a.sl→0≤c.sl→f.sl≤a.sh∨f.sl≤c.sh)(f5:0≤a.sl→0≤c.sl→0≤f.sl):Le (or a c f) (or b d g):=by
 have h1:=h.lo;have h2:=h.mid;have h3:=h.hi;have k1:=k.lo;have k2:=k.mid;have k3:=k.hi
 have g1:=h.sl;have g2:=h.smid;have g3:=h.sh;have l1:=k.sl;have l2:=k.smid;have l3:=k.sh
 have b1:=inS_iff.1 hb;have d1:=inS_iff.1 hd
 have ha:inS a=true:=inS_iff.2 (by omega)
 have hc:inS c=true:=inS_iff.2 (by omega)
 rw[or_form,or_form]
 refine Le.of (p:=⟨_,_⟩) (q:=⟨_,_⟩) ⟨f1,f2,ones_or_mono h3 k3⟩ ?_
 unfold orS
 by_cases e1:0≤b.sl∧0≤d.sl
 . have n1:0≤a.sl:=by omega
   have n2:0≤c.sl:=by omega
   obtain⟨t1,t2,t3,t4⟩:=or_top ha hc n1 n2 h.good1 k.good1
   obtain⟨u1,u2,u3,u4⟩:=or_top hb hd e1.1 e1.2 h.good2 k.good2
   have ea:=ofInt_pos (n:=a.sh) (by omega) (by omega)
   have ec:=ofInt_pos (n:=c.sh) (by omega) (by omega)
   have eb:=ofInt_pos (n:=b.sh) (by omega) (by omega)
   have ed:=ofInt_pos (n:=d.sh) (by omega) (by omega)
   have m:=ones_or_mono (x:=BitVec.ofInt 64 a.sh) (y:=BitVec.ofInt 64 c.sh) (x':=BitVec.ofInt 64 b.sh) (y':=BitVec.ofInt 64 d.sh) (by omega) (by omega)
   simp only[e1.1,e1.2,n1,n2,decide_true,Bool.and_self,if_true]
   have f4:=f4 n1 n2
   exact⟨f3,by simp only;omega,by simp only;omega⟩
 . have e2:(decide (0≤b.sl)&&decide (0≤d.sl))=false:=by
    rw[Bool.eq_false_iff];simp only[ne_eq,Bool.and_eq_true,decide_eq_true_eq];exact e1
   rw[e2]
   simp only[Bool.false_eq_true,if_false]
   by_cases e3:0≤a.sl∧0≤c.sl
   . obtain⟨t1,t2,t3,t4⟩:=or_top ha hc e3.1 e3.2 h.good1 k.good1
     simp only[e3.1,e3.2,decide_true,Bool.and_self,if_true]
     have f4:=f4 e3.1 e3.2;have f5:=f5 e3.1 e3.2
     exact SLe.full (by simp only;omega) (by simp only;omega) t4
   . have e4:(decide (0≤a.sl)&&decide (0≤c.sl))=false:=by
        rw[Bool.eq_false_iff];simp only[ne_eq,Bool.and_eq_true,decide_eq_true_eq];exact e3
     rw[e4]
     simp only[Bool.false_eq_true,if_false]
     exact(SLe.full (s:=fullS) fullS_good (by decide) (by decide):SLe fullS fullS)
theorem or2_mono {a b c d:Sp}(h:Le a b)(k:Le c d)(hb:inS b=true)(hd:inS d=true):Le (or2 a c) (or2 b d):=by
 have h1:=h.lo;have h2:=h.mid;have k1:=k.lo;have k2:=k.mid
 have g1:=h.sl;have g2:=h.smid;have l1:=k.sl;have l2:=k.smid
 have o:=or_ge a.hi c.hi
 refine or_mono_of h k hb hd ?_ ?_ ?_ ?_ ?_
 . simp only[maxB_nat];omega
 . simp only[maxB_nat];omega
 . simp only[maxI_eq];omega
 . intro _ _;simp only[maxI_eq];omega
 . intro _ _;simp only[maxI_eq];omega
theorem xor_mono {a b c d:Sp}(h:Le a b)(k:Le c d)(hb:inS b=true)(hd:inS d=true):Le (xor a c) (xor b d):=by
 have g1:=h.sl;have g2:=h.smid;have l1:=k.sl;have l2:=k.smid
 refine or_mono_of h k hb hd (Nat.le_refl _) ?_ (Int.le_refl _) ?_ ?_
 . show(0:BitVec 64).toNat≤_;simp
 . intro _ _;simp only;omega
 . intro _ _;simp only;omega
theorem way_mono {op:Int}{f:Sp→Sp→Sp}(hf:way op=some f){a b c d:Sp}(h:Le a b)(k:Le c d)(hb:inS b=true)(hd:inS d=true):Le (f a c) (f b d):=by
 unfold way at hf
 repeat' split at hf
 all_goals first
  |(obtain rfl:=Option.some.inj hf;first|exact add_mono h k hb hd|exact less_mono h k hb hd|exact times_mono h k hb hd|exact quo_mono h k|exact res_mono h k|exact and_mono h k hb hd|exact or2_mono h k hb hd|exact xor_mono h k hb hd)
  |cases hf
theorem does_good {op:Int}{a b:Sp}(ha:good a=true)(hb:good b=true):does op a b=match way op with|some f=>(f a b,true)|none=>(⟨0,0,0,0⟩,false):=by
 unfold does
 cases way op<;>simp[ha,hb]
theorem does_mono (op:Int){a b c d:Sp}(h:Le a b)(k:Le c d)(hb:inS b=true)(hd:inS d=true):(does op a c).2=(does op b d).2∧((does op b d).2=true→Le (does op a c).1 (does op b d).1):=by
 rw[does_good h.good1 k.good1,does_good h.good2 k.good2]
 cases hw:way op with
 |none=>exact⟨rfl,fun e=>by cases e⟩
 |some f=>exact⟨rfl,fun _=>way_mono hw h k hb hd⟩
theorem fitU_nat (x:BitVec 64){k:Nat}(h:k<64):fitU x k=decide (x.toNat*2^k<18446744073709551616):=by rw[fitU_eq x h,high_zero,pow_nat h]
theorem shl_nat {x:BitVec 64}{k:Nat}(h:x.toNat*2^k<18446744073709551616):(x <<< k).toNat=x.toNat*2^k:=by
 rw[BitVec.toNat_shiftLeft,Nat.shiftLeft_eq,Nat.mod_eq_of_lt h]
theorem shift_guard {op:Int}{a b:Sp}{k:Int}(h:good a=true)(h':good b=true):(shift op a k).2=(shift op b k).2:=by
 unfold shift
 rw[h,h']
 simp only[Bool.not_true,Bool.false_or]
 split
 . rfl
 . split
   . rfl
   . split
     . rfl
     . split<;>rfl
theorem shift_mono (op:Int){a b:Sp}(k:Int)(h:Le a b)(hb:inS b=true)(hok:(shift op b k).2=true):Le (shift op a k).1 (shift op b k).1:=by
 have h1:=h.lo;have h2:=h.mid;have h3:=h.hi
 have g1:=h.sl;have g2:=h.smid;have g3:=h.sh
 have b1:=inS_iff.1 hb
 have ha:inS a=true:=inS_iff.2 (by omega)
 unfold shift at hok ⊢
 rw[h.good1];rw[h.good2] at hok ⊢
 simp only[Bool.not_true,Bool.false_or] at hok ⊢
 split at hok
 . cases hok
 rename_i hc
 rw[if_neg hc,if_neg hc]
 simp only[Bool.or_eq_true,decide_eq_true_eq,not_or] at hc
 obtain⟨hk0,hk1,_⟩:=hc
 by_cases h0:k=0
 . subst h0;simpa using h
 simp only[beq_eq_false_iff_ne.2 h0,Bool.false_eq_true,if_false]
 obtain⟨K,rfl⟩:∃ K:Nat,k=K:=⟨k.toNat,by omega⟩
 have hK:K<64:=by omega
 have hp:0<2^K:=Nat.pow_pos (by omega)
 have hpI:(0:Int)<2^K:=Int.pow_pos (by decide)
 simp only[Int.toNat_natCast,show min K 64=K by omega]
 by_cases o1:op=112
 . subst o1
   simp only[show((112:Int)==112)=true from rfl,if_true]
   refine⟨?_,?_,?_,Int.le_refl _,?_,Int.le_refl _⟩
   . simp only[BitVec.toNat_ushiftRight,Nat.shiftRight_eq_div_pow];exact Nat.div_le_div_right h1
   . simp only[BitVec.toNat_ushiftRight,Nat.shiftRight_eq_div_pow];exact Nat.div_le_div_right h2
   . simp only[BitVec.toNat_ushiftRight,Nat.shiftRight_eq_div_pow];exact Nat.div_le_div_right h3
   . simp only
     rw[Int.fdiv_eq_ediv_of_nonneg _ (Int.le_of_lt (Int.pow_pos (by decide)))]
     exact Int.ediv_nonneg (by decide) (Int.le_of_lt (Int.pow_pos (by decide)))
 simp only[beq_eq_false_iff_ne.2 o1,Bool.false_eq_true,if_false]
 by_cases o2:op=192
 . subst o2
   simp only[show((192:Int)==192)=true from rfl,if_true]
   refine⟨Nat.le_refl _,(by show full.lo.toNat≤full.hi.toNat;decide),Nat.le_refl _,?_,?_,?_⟩
   all_goals
    simp only
    rw[Int.fdiv_eq_ediv_of_nonneg _ (Int.le_of_lt hpI),Int.fdiv_eq_ediv_of_nonneg _ (Int.le_of_lt hpI)]
    exact Int.ediv_le_ediv hpI (by omega)
 simp only[beq_eq_false_iff_ne.2 o2,Bool.false_eq_true,if_false]
 simp only[fitU_nat _ hK,fitI_eq hK]
 have m1:a.hi.toNat*2^K≤b.hi.toNat*2^K:=Nat.mul_le_mul_right _ h3
 have m2:a.lo.toNat*2^K≤a.hi.toNat*2^K:=Nat.mul_le_mul_right _ h2
 have m3:b.lo.toNat*2^K≤a.lo.toNat*2^K:=Nat.mul_le_mul_right _ h1
 have n1:b.sl*2^K≤a.sl*2^K:=Int.mul_le_mul_of_nonneg_right g1 (Int.le_of_lt hpI)
 have n2:a.sl*2^K≤a.sh*2^K:=Int.mul_le_mul_of_nonneg_right g2 (Int.le_of_lt hpI)
 have n3:a.sh*2^K≤b.sh*2^K:=Int.mul_le_mul_of_nonneg_right g3 (Int.le_of_lt hpI)
 refine Le.of (PLe.ite (fun e => ?_) (fun e => ?_) (fun e => ?_)) (SLe.ite (fun e => ?_) (fun e => ?_) (fun e => ?_))
 . simp only[decide_eq_true_eq] at e ⊢;omega
 . simp only[decide_eq_true_eq] at e
   exact⟨by simp only;rw[shl_nat (by omega),shl_nat (by omega)];exact m3,by simp only;rw[shl_nat (by omega),shl_nat (by omega)];exact m2,by simp only;rw[shl_nat (by omega),shl_nat (by omega)];exact m1⟩
 . simp only[decide_eq_true_eq] at e
   simp only;rw[shl_nat (by omega),shl_nat (by omega)];exact m2
 . simp only[Bool.and_eq_true,inI_iff'] at e ⊢;omega
 . have e':=e
   simp only[Bool.and_eq_true,inI_iff'] at e'
   rw[Bool.and_eq_true] at e
   exact⟨by simp only;rw[wrap_in e.1,wrap_in (inI_iff'.2 (by omega))];exact n1,by simp only;rw[wrap_in (inI_iff'.2 (by omega)),wrap_in (inI_iff'.2 (by omega))];exact n2,by simp only;rw[wrap_in e.2,wrap_in (inI_iff'.2 (by omega))];exact n3⟩
 . rw[Bool.and_eq_true] at e
   have e1:=inI_iff'.1 e.1;have e2:=inI_iff'.1 e.2
   simp only;rw[wrap_in e.1,wrap_in e.2];omega
theorem sv_in (x:BitVec 64) : -9223372036854775808≤sv x∧sv x≤9223372036854775807:=by
 have:=x.isLt
 by_cases h:x.toNat<9223372036854775808
 . rw[sv_small h];omega
 . rw[sv_big h];omega
theorem one_in (x:BitVec 64):inS (one x)=true:=inS_iff.2 ⟨sv_in x,sv_in x⟩
theorem one_good (x:BitVec 64):good (one x)=true:=good_iff.2 ⟨Nat.le_refl _,Int.le_refl _⟩
theorem has_iff {a:Sp}{x:BitVec 64}:has a x=true↔Le (one x) a:=by unfold has;exact leq_iff
theorem ofInt_sv (x:BitVec 64):BitVec.ofInt 64 (sv x)=x:=by unfold sv;exact BitVec.ofInt_toInt
theorem sv_ofInt {n:Int}(h:inI n=true):sv (BitVec.ofInt 64 n)=n:=by rw[sv_of,wrap_in h]
theorem PLe.one {c:Bool}{n:BitVec 64}{p:Pl}(h:c=true→p.lo.toNat≤n.toNat∧n.toNat≤p.hi.toNat):PLe ⟨n,n⟩ (if c=true then p else fullP):=by
 cases c
 . exact PLe.full (Nat.le_refl _)
 . exact⟨(h rfl).1,Nat.le_refl _,(h rfl).2⟩
theorem SLe.one {c:Bool}{n:BitVec 64}{s:Sg}(h:c=true→s.sl≤sv n∧sv n≤s.sh):SLe ⟨sv n,sv n⟩ (if c=true then s else fullS):=by
 cases c
 . exact SLe.full (Int.le_refl _) (sv_in n).1 (sv_in n).2
 . exact⟨(h rfl).1,Int.le_refl _,(h rfl).2⟩
theorem add_one (x y:BitVec 64):Le (one (x+y)) (add (one x) (one y)):=by
 have e:inS (one x)=true:=one_in x
 refine Le.of (p:=⟨x+y,x+y⟩) (s:=⟨sv (x+y),sv (x+y)⟩) ?_ ?_
 . unfold sum
   simp only[carry_zero]
   refine PLe.one fun _=>⟨Nat.le_refl _,Nat.le_refl _⟩
 . rw[sums_form (inS_and (one_in x)) (inS_and (one_in y))]
   refine SLe.one fun e => ?_
   rw[Bool.and_eq_true] at e
   have:sv (x+y)=sv x+sv y:=by
    rw[← sv_ofInt (n:=sv x+sv y) e.1,BitVec.ofInt_add,ofInt_sv,ofInt_sv]
   simp only[one];omega
theorem less_one (x y:BitVec 64):Le (one (x-y)) (less (one x) (one y)):=by
 rw[less_form (one_in x) (one_in y)]
 refine Le.of (p:=⟨x-y,x-y⟩) (s:=⟨sv (x-y),sv (x-y)⟩) (PLe.one fun _=>⟨Nat.le_refl _,Nat.le_refl _⟩) (SLe.one fun e => ?_)
 rw[Bool.and_eq_true] at e
 have:sv (x-y)=sv x-sv y:=by
  rw[← sv_ofInt (n:=sv x-sv y) e.1,← ofInt_sub,ofInt_sv,ofInt_sv]
 simp only[one];omega
theorem times_one (x y:BitVec 64):Le (one (x*y)) (times (one x) (one y)):=by
 rw[times_form (one_in x) (one_in y) (one_good x) (one_good y)]
 refine Le.of (p:=⟨x*y,x*y⟩) (s:=⟨sv (x*y),sv (x*y)⟩) (PLe.one fun _=>⟨Nat.le_refl _,Nat.le_refl _⟩) (SLe.one fun e => ?_)
 have e:(decide (0≤sv x)&&decide (0≤sv y)&&decide (sv x*sv y≤9223372036854775807))=true:=e
 simp only[Bool.and_eq_true,decide_eq_true_eq] at e
 have h0:0≤sv x*sv y:=Int.mul_nonneg e.1.1 e.1.2
 have:sv (x*y)=sv x*sv y:=by
  rw[← sv_ofInt (n:=sv x*sv y) (inI_iff'.2 ⟨by omega,e.2⟩),BitVec.ofInt_mul,ofInt_sv,ofInt_sv]
 simp only[one];omega
theorem Le.plain1 {n:BitVec 64}{q:Pl}(h:q.lo.toNat≤n.toNat)(k:n.toNat≤q.hi.toNat):Le (one n) ⟨q.lo,q.hi, -9223372036854775808,9223372036854775807⟩:=⟨h,Nat.le_refl _,k,(sv_in n).1,Int.le_refl _,(sv_in n).2⟩
theorem quo_o0 {x:BitVec 64}:quoP (one x) (one (BitVec.ofInt 64 0))=⟨BitVec.ofInt 64 0,BitVec.ofInt 64 0⟩:=rfl
theorem quo_o {x y:BitVec 64}(h : ¬ y=BitVec.ofInt 64 0):quoP (one x) (one y)=⟨x / y,x / y⟩:=by
 show(if (y != y)=true then (⟨BitVec.ofInt 64 0,x⟩:Pl) else if (y==BitVec.ofInt 64 0)=true then ⟨BitVec.ofInt 64 0,BitVec.ofInt 64 0⟩ else ⟨x / y,x / y⟩)=_
 rw[bne_self_eq_false,beq_eq_false_iff_ne.2 h];rfl
theorem quo_one (x y:BitVec 64):Le (one (if y==0#64 then 0 else x / y)) (quotient (one x) (one y)):=by
 by_cases h:y=BitVec.ofInt 64 0
 . subst h
   refine Le.plain1 (q:=quoP (one x) (one (BitVec.ofInt 64 0))) ?_ ?_
   . rw[quo_o0,if_pos (by decide)];decide
   . rw[quo_o0,if_pos (by decide)];decide
 . have h' : ¬ y=0#64:=h
   rw[if_neg (by rw[beq_eq_false_iff_ne.2 h'];decide)]
   refine Le.plain1 (q:=quoP (one x) (one y)) ?_ ?_
   . rw[quo_o h];exact Nat.le_refl _
   . rw[quo_o h];exact Nat.le_refl _
theorem res_o0 {x y:BitVec 64}(h:y=BitVec.ofInt 64 0∨x<y):resP (one x) (one y)=⟨x,x⟩:=by
 show(if (y != y)=true then (⟨BitVec.ofInt 64 0,x⟩:Pl) else if (y==BitVec.ofInt 64 0||decide (x<y))=true then ⟨x,x⟩ else ⟨BitVec.ofInt 64 0,y-BitVec.ofInt 64 1⟩)=_
 rw[bne_self_eq_false,show(y==BitVec.ofInt 64 0||decide (x<y))=true by rcases h with h|h;(rw[h];rfl);(rw[decide_eq_true h];simp)];rfl
theorem res_o {x y:BitVec 64}(h : ¬ y=BitVec.ofInt 64 0)(h2 : ¬ x<y):resP (one x) (one y)=⟨BitVec.ofInt 64 0,y-BitVec.ofInt 64 1⟩:=by
 show(if (y != y)=true then (⟨BitVec.ofInt 64 0,x⟩:Pl) else if (y==BitVec.ofInt 64 0||decide (x<y))=true then ⟨x,x⟩ else ⟨BitVec.ofInt 64 0,y-BitVec.ofInt 64 1⟩)=_
 rw[bne_self_eq_false,beq_eq_false_iff_ne.2 h,decide_eq_false h2];rfl
theorem res_one (x y:BitVec 64):Le (one (if y==0#64 then x else x % y)) (rest (one x) (one y)):=by
 by_cases h:y=BitVec.ofInt 64 0
 . refine Le.plain1 (q:=resP (one x) (one y)) ?_ ?_
   all_goals
    rw[res_o0 (.inl h),if_pos (by rw[h];decide)];exact Nat.le_refl _
 . have h' : ¬ y=0#64:=h
   rw[if_neg (by rw[beq_eq_false_iff_ne.2 h'];decide)]
   have hpos:0<y.toNat:=by
    rcases Nat.eq_zero_or_pos y.toNat with e|e
    . exact absurd (eq_toNat.2 (by rw[e,z_nat])) h
    . exact e
   by_cases h2:x<y
   . have e:x % y=x:=eq_toNat.2 (by rw[BitVec.toNat_umod,Nat.mod_eq_of_lt (BitVec.lt_def.1 h2)])
     refine Le.plain1 (q:=resP (one x) (one y)) ?_ ?_
     all_goals
        rw[res_o0 (.inr h2),e];exact Nat.le_refl _
   . have hm:=Nat.mod_lt x.toNat hpos
     have hy:=y.isLt
     refine Le.plain1 (q:=resP (one x) (one y)) ?_ ?_
     . rw[res_o h h2];simp only[z_nat];omega
     . rw[res_o h h2];simp only[BitVec.toNat_sub,one_nat,BitVec.toNat_umod];omega
theorem top_pos {x:BitVec 64}:0≤sv x↔x.toNat<9223372036854775808:=by
 have:=x.isLt
 by_cases h:x.toNat<9223372036854775808
 . rw[sv_small h];omega
 . rw[sv_big h];omega
theorem and_nat (x y:BitVec 64):(x &&& y).toNat≤x.toNat∧(x &&& y).toNat≤y.toNat:=by
 rw[BitVec.toNat_and];exact⟨Nat.and_le_left,Nat.and_le_right⟩
theorem and_one (x y:BitVec 64):Le (one (x &&& y)) (and (one x) (one y)):=by
 obtain⟨h1,h2⟩:=and_nat x y
 rw[and_form]
 refine Le.of (p:=⟨x &&& y,x &&& y⟩) (q:=⟨_,_⟩) (s:=⟨sv (x &&& y),sv (x &&& y)⟩) ⟨by show(BitVec.ofInt 64 0).toNat≤_;rw[z_nat];omega,Nat.le_refl _,by show(x &&& y).toNat≤(minB x y).toNat;rw[minB_nat];omega⟩ ?_
 have hin:=sv_in (x &&& y)
 unfold andS
 simp only[minI_eq,one]
 by_cases e1:0≤sv x
 . have f1:=top_pos.1 e1
   have e:=sv_small (x:=x &&& y) (by omega)
   have ex:=sv_small (x:=x) f1
   by_cases e2:0≤sv y
   . have f2:=top_pos.1 e2
     have ey:=sv_small (x:=y) f2
     simp only[e1,e2,decide_true,if_true]
     exact⟨by simp only;omega,Int.le_refl _,by simp only;omega⟩
   . simp only[e1,e2,decide_true,decide_false,if_true,Bool.false_eq_true,if_false]
     exact⟨by simp only;omega,Int.le_refl _,by simp only;omega⟩
 . by_cases e2:0≤sv y
   . have f2:=top_pos.1 e2
     have e:=sv_small (x:=x &&& y) (by omega)
     have ey:=sv_small (x:=y) f2
     simp only[e1,e2,decide_true,decide_false,if_true,Bool.false_eq_true,if_false]
     exact⟨by simp only;omega,Int.le_refl _,by simp only;omega⟩
   . simp only[e1,e2,decide_false,Bool.false_eq_true,if_false]
     exact⟨hin.1,Int.le_refl _,hin.2⟩
theorem or_one_of {x y n:BitVec 64}{f:Sp}(h1:f.lo.toNat≤n.toNat)(h2:n.toNat≤(x ||| y).toNat)(h3:0≤sv x→0≤sv y→f.sl≤(n.toNat:Int)):Le (one n) (or (one x) (one y) f):=by
 have o:=le_ones (x ||| y)
 rw[or_form]
 refine Le.of (p:=⟨n,n⟩) (q:=⟨_,_⟩) (s:=⟨sv n,sv n⟩) ⟨h1,Nat.le_refl _,by show n.toNat≤(ones (x ||| y)).toNat;omega⟩ ?_
 unfold orS
 refine SLe.one fun e => ?_
 have e:(decide (0≤sv x)&&decide (0≤sv y))=true:=e
 simp only[Bool.and_eq_true,decide_eq_true_eq] at e
 have f1:=top_pos.1 e.1;have f2:=top_pos.1 e.2
 have s0:=or_small f1 f2
 have s:=ones_small s0
 have hn:=sv_small (x:=n) (by omega)
 have h3:=h3 e.1 e.2
 show f.sl≤sv n∧sv n≤sv (ones (BitVec.ofInt 64 (Go.bits .or .i64 (sv x) (sv y))))
 rw[ofInt_bits,ofInt_sv,ofInt_sv,sv_small s]
 omega
theorem or2_one (x y:BitVec 64):Le (one (x ||| y)) (or2 (one x) (one y)):=by
 have h1:x.toNat≤(x ||| y).toNat:=by rw[BitVec.toNat_or];exact Nat.left_le_or
 have h2:y.toNat≤(x ||| y).toNat:=by rw[BitVec.toNat_or];exact Nat.right_le_or
 refine or_one_of ?_ (Nat.le_refl _) ?_
 . simp only[one,maxB_nat];omega
 . intro e1 e2
   have f1:=sv_small (top_pos.1 e1);have f2:=sv_small (top_pos.1 e2)
   simp only[one,maxI_eq];omega
theorem xor_le_or (x y:BitVec 64):(x ^^^ y).toNat≤(x ||| y).toNat:=by
 have:x ^^^ y=(x ||| y) &&& ~~~(x &&& y):=by
  apply BitVec.eq_of_getLsbD_eq;intro i hi
  simp only[BitVec.getLsbD_xor,BitVec.getLsbD_and,BitVec.getLsbD_or,BitVec.getLsbD_not,hi,decide_true,Bool.true_and]
  cases x.getLsbD i<;>cases y.getLsbD i<;>rfl
 rw[this,BitVec.toNat_and];exact Nat.and_le_left
theorem xor_one (x y:BitVec 64):Le (one (x ^^^ y)) (xor (one x) (one y)):=by
 refine or_one_of ?_ (xor_le_or x y) ?_
 . show(0:BitVec 64).toNat≤_;simp
 . intro _ _;simp only;omega
theorem Le.trans {a b c:Sp}(h:Le a b)(k:Le b c):Le a c:=⟨Nat.le_trans k.lo h.lo,h.mid,Nat.le_trans h.hi k.hi,Int.le_trans k.sl h.sl,h.smid,Int.le_trans h.sh k.sh⟩
theorem does_sound {op:Int}{f:Sp→Sp→Sp}(hw:way op=some f){n x y:BitVec 64}(h1:Le (one n) (f (one x) (one y))){a b:Sp}(ha:has a x=true)(hb:has b y=true)(ia:inS a=true)(ib:inS b=true):(does op a b).2=true∧has (does op a b).1 n=true:=by
 have ha:=has_iff.1 ha;have hb:=has_iff.1 hb
 rw[does_good ha.good2 hb.good2,hw]
 exact⟨rfl,has_iff.2 (h1.trans (way_mono hw ha hb ia ib))⟩
theorem shl_one {x:BitVec 64}{K:Nat}(hK:K<64):Le (one (x <<< K)) (shift 96 (one x) K).1:=by
 unfold shift
 rw[one_good,if_neg (by simp;omega)]
 by_cases h0:K=0
 . subst h0
   simp only[Int.cast_ofNat_Int,beq_self_eq_true,if_true,BitVec.shiftLeft_zero]
   exact Le.refl (one_good x)
 rw[if_neg (by simp;omega),if_neg (by decide),if_neg (by decide)]
 simp only[Int.toNat_natCast,show min K 64=K by omega,fitU_nat _ hK,fitI_eq hK]
 refine Le.of (p:=⟨x <<< K,x <<< K⟩) (s:=⟨sv (x <<< K),sv (x <<< K)⟩) (PLe.one fun _=>⟨Nat.le_refl _,Nat.le_refl _⟩) (SLe.one fun e => ?_)
 rw[Bool.and_eq_true] at e
 have:sv (x <<< K)=IntKind.i64.wrap (sv x*2^K):=by
  rw[← sv_of,BitVec.ofInt_mul,ofInt_sv,← shl_eq x hK]
  congr 2
  apply BitVec.eq_of_toNat_eq
  rw[pow_nat hK]
  have h64:(2:Nat)^K<2^64:=Nat.pow_lt_pow_right (by omega) hK
  have e4:((2^K:Nat):Int)=(2:Int)^K:=by rw[Int.natCast_pow];rfl
  rw[← e4,BitVec.ofInt_natCast,BitVec.toNat_ofNat,Nat.mod_eq_of_lt h64]
 simp only[one,this];exact⟨Int.le_refl _,Int.le_refl _⟩
theorem shr_sv:∀ K:Fin 64,0<K.val→Int.fdiv 9223372036854775807 (2^min (K.val-1) 64)=((2 ^ (64-K.val)-1:Nat):Int):=by decide
theorem shr_one {x:BitVec 64}{K:Nat}(hK:K<64):Le (one (x >>> K)) (shift 112 (one x) K).1:=by
 unfold shift
 rw[one_good,if_neg (by simp;omega)]
 by_cases h0:K=0
 . subst h0
   simp only[Int.cast_ofNat_Int,beq_self_eq_true,if_true,BitVec.ushiftRight_zero]
   exact Le.refl (one_good x)
 rw[if_neg (by simp;omega),if_pos (by decide)]
 have e:=shr_sv ⟨K,hK⟩ (by show 0<K;omega)
 simp only at e
 have hw:(IntKind.i64.wrap ((K:Int)-1)).toNat=K-1:=by rw[wrap_in (inI_iff'.2 (by omega))];omega
 have hx:=x.isLt
 have hlt:(x >>> K).toNat<2 ^ (64-K):=by
  rw[BitVec.toNat_ushiftRight,Nat.shiftRight_eq_div_pow]
  apply Nat.div_lt_of_lt_mul
  rw[← Nat.pow_add,show K+(64-K)=64 by omega];exact hx
 have hs:(2:Nat) ^ (64-K)≤2^63:=Nat.pow_le_pow_right (by omega) (by omega)
 have sv1:=sv_small (x:=x >>> K) (by omega)
 simp only[Int.toNat_natCast,hw,e]
 exact⟨Nat.le_refl _,Nat.le_refl _,Nat.le_refl _,by simp only[one,sv1];omega,Int.le_refl _,by simp only[one,sv1];omega⟩
theorem sar_one {x:BitVec 64}{K:Nat}(hK:K<64):Le (one (x.sshiftRight (min K 64))) (shift 192 (one x) K).1:=by
 unfold shift
 rw[one_good,if_neg (by simp;omega),show min K 64=K by omega]
 have key:sv (x.sshiftRight K)=(sv x).fdiv (2^K):=by
  unfold sv
  rw[BitVec.toInt_sshiftRight,Int.shiftRight_eq_div_pow,Int.fdiv_eq_ediv_of_nonneg _ (Int.le_of_lt (Int.pow_pos (by decide)))]
  rw[show((2^K:Nat):Int)=(2:Int)^K by rw[Int.natCast_pow];rfl]
 by_cases h0:K=0
 . subst h0
   simp only[Int.cast_ofNat_Int,beq_self_eq_true,if_true,BitVec.sshiftRight_zero]
   exact Le.refl (one_good x)
 rw[if_neg (by simp;omega),if_neg (by decide),if_pos (by decide)]
 simp only[Int.toNat_natCast,show min K 64=K by omega]
 have hl:=(x.sshiftRight K).isLt
 refine⟨by show(BitVec.ofInt 64 0).toNat≤_;rw[z_nat];omega,Nat.le_refl _,by show _≤(BitVec.ofInt 64 18446744073709551615).toNat;rw[top_nat];show(x.sshiftRight K).toNat≤_;omega,?_,Int.le_refl _,?_⟩
 . show(sv x).fdiv _≤sv (x.sshiftRight K);rw[key];exact Int.le_refl _
 . show sv (x.sshiftRight K)≤(sv x).fdiv _;rw[key];exact Int.le_refl _
theorem shift_ok {op:Int}(hop:op=96∨op=112∨op=192){a:Sp}(ha:good a=true){K:Nat}(hK:K<64):(shift op a K).2=true:=by
 unfold shift
 rw[ha,if_neg (by rcases hop with rfl|rfl|rfl<;>simp<;>omega)]
 split
 . rfl
 . split
   . rfl
   . split<;>rfl
theorem shift_sound {op:Int}(hop:op=96∨op=112∨op=192){n x:BitVec 64}{K:Nat}(hK:K<64)(h1:Le (one n) (shift op (one x) K).1){a:Sp}(ha:has a x=true)(ia:inS a=true):(shift op a K).2=true∧has (shift op a K).1 n=true:=by
 have ha:=has_iff.1 ha
 have hk:=shift_ok hop ha.good2 hK
 exact⟨hk,has_iff.2 (h1.trans (shift_mono op K ha ia hk))⟩
end S
end Go.Proofs.YtfjemlegodhfnaaGreat
