import Derived.Test.YtfjemlegodhfnaaGreatM26
set_option linter.all false
namespace Go.Proofs.YtfjemlegodhfnaaGreat
open Go.RowKit
set_option maxHeartbeats 1000000
namespace S
def cap (a b:Sp):Sp:=⟨maxB a.lo b.lo,minB a.hi b.hi,maxI a.sl b.sl,minI a.sh b.sh⟩
def cup (a b:Sp):Sp:=⟨minB a.lo b.lo,maxB a.hi b.hi,minI a.sl b.sl,maxI a.sh b.sh⟩
def meet (a b:Sp):Sp×Bool:=if good a&&(good b&&good (cap a b)) then (cap a b,true) else (⟨BitVec.ofInt 64 0,BitVec.ofInt 64 0,0,0⟩,false)
end S
namespace C
theorem bl {a b:BitVec 64}(h:decide (b<a)=false):decide (a≤b)=true:=decide_eq_true (by have:=of_decide_eq_false h;rw[BitVec.lt_def] at this;rw[BitVec.le_def];omega)
theorem bn {a b:BitVec 64}(h:decide (b<a)=true):decide (a≤b)=false:=decide_eq_false (by have:=of_decide_eq_true h;rw[BitVec.lt_def] at this;rw[BitVec.le_def];omega)
theorem il {a b:Int}(h:decide (b<a)=false):decide (a≤b)=true:=decide_eq_true (by have:=of_decide_eq_false h;omega)
theorem inn {a b:Int}(h:decide (b<a)=true):decide (a≤b)=false:=decide_eq_false (by have:=of_decide_eq_true h;omega)
theorem nt {b:Bool}(h:(!b)=true):b=false:=by revert h;cases b<;>simp
theorem nf {b:Bool}(h:(!b)=false):b=true:=by revert h;cases b<;>simp
theorem r3_t {w:Sc}(h:top w=true):r3 w=⟨w.t,⟨w.s.lo,w.s.hi,S.maxI w.s.sl (sv w.s.lo),S.minI w.s.sh (sv w.s.hi)⟩⟩:=by unfold r3;rw[if_pos h]
theorem r3_f {w:Sc}(h:top w=false):r3 w=w:=by unfold r3;rw[if_neg (by rw[h];decide)]
theorem r4_t {w:Sc}(h:sgn w=true):r4 w=⟨w.t,⟨S.maxB w.s.lo (BitVec.ofInt 64 w.s.sl),S.minB w.s.hi (BitVec.ofInt 64 w.s.sh),w.s.sl,w.s.sh⟩⟩:=by unfold r4;rw[if_pos h]
theorem r4_f {w:Sc}(h:sgn w=false):r4 w=w:=by unfold r4;rw[if_neg (by rw[h];decide)]
theorem st1 {x:Sc}(h:ok1 x=false):step x=none:=by unfold step;rw[if_neg (by rw[h];decide)]
theorem st2 {x:Sc}(h1:ok1 x=true)(h:ok2 (r1 x)=false):step x=none:=by unfold step;rw[if_pos h1,if_neg (by rw[h];decide)]
theorem st3 {x:Sc}(h1:ok1 x=true)(h2:ok2 (r1 x)=true)(h:ok3 (r2 (r1 x))=false):step x=none:=by unfold step;rw[if_pos h1,if_pos h2,if_neg (by rw[h];decide)]
theorem st4 {x:Sc}(h1:ok1 x=true)(h2:ok2 (r1 x)=true)(h3:ok3 (r2 (r1 x))=true)(h:ok4 (r3 (r2 (r1 x)))=false):step x=none:=by unfold step;rw[if_pos h1,if_pos h2,if_pos h3,if_neg (by rw[h];decide)]
theorem st5 {x:Sc}(h1:ok1 x=true)(h2:ok2 (r1 x)=true)(h3:ok3 (r2 (r1 x))=true)(h4:ok4 (r3 (r2 (r1 x)))=true):step x=some (r4 (r3 (r2 (r1 x)))):=by unfold step;rw[if_pos h1,if_pos h2,if_pos h3,if_pos h4]
theorem tog_none {x:Sc}(g:Good x)(h:step x=none):tog x=none:=by rw[tog_step g,h]
def eqc (a b:Sc):Bool:=a.t.v==b.t.v&&(a.t.m==b.t.m&&(a.s.lo==b.s.lo&&(a.s.hi==b.s.hi&&(a.s.sl==b.s.sl&&(a.s.sh==b.s.sh&&true)))))
theorem eqc_iff {a b:Sc}:eqc a b=true↔a=b:=by
 obtain⟨⟨a1,a2⟩,⟨a3,a4,a5,a6⟩⟩:=a;obtain⟨⟨b1,b2⟩,⟨b3,b4,b5,b6⟩⟩:=b
 simp[eqc,and_assoc]
theorem tog_eqc {x y:Sc}(g:Good x)(h:step x=some y)(e:eqc y x=true):tog x=some y:=by
 have e:=eqc_iff.1 e
 rw[tog_step g,h];simp[e]
theorem tog_next {x y:Sc}(g:Good x)(h:step x=some y)(e:eqc y x=false):tog x=tog y∧mu y<mu x∧Good y:=by
 have e:y≠x:=fun h=>by rw[eqc_iff.2 h] at e;cases e
 have k:=step_ok g h
 exact⟨by rw[tog_step g,h];simp[e],mu_lt k.1 k.2 e,k.2⟩
def of (t:Tn)(s:Sp):Sc×Bool:=if T.right t&&S.good s then (match tog ⟨t,s⟩ with|some y=>(y,true)|none=>(⟨⟨BitVec.ofInt 64 0,BitVec.ofInt 64 0⟩,⟨BitVec.ofInt 64 0,BitVec.ofInt 64 0,0,0⟩⟩,false)) else (⟨⟨BitVec.ofInt 64 0,BitVec.ofInt 64 0⟩,⟨BitVec.ofInt 64 0,BitVec.ofInt 64 0,0,0⟩⟩,false)
theorem of_some {t:Tn}{s:Sp}{y:Sc}(h1:T.right t=true)(h2:S.good s=true)(h:tog ⟨t,s⟩=some y):of t s=(y,true):=by unfold of;rw[h1,h2,h];rfl
theorem of_none {t:Tn}{s:Sp}(h1:T.right t=true)(h2:S.good s=true)(h:tog ⟨t,s⟩=none):of t s=(⟨⟨BitVec.ofInt 64 0,BitVec.ofInt 64 0⟩,⟨BitVec.ofInt 64 0,BitVec.ofInt 64 0,0,0⟩⟩,false):=by unfold of;rw[h1,h2,h];rfl
theorem of_no1 {t:Tn}{s:Sp}(h:T.right t=false):of t s=(⟨⟨BitVec.ofInt 64 0,BitVec.ofInt 64 0⟩,⟨BitVec.ofInt 64 0,BitVec.ofInt 64 0,0,0⟩⟩,false):=by unfold of;rw[h];rfl
theorem of_no2 {t:Tn}{s:Sp}(h:S.good s=false):of t s=(⟨⟨BitVec.ofInt 64 0,BitVec.ofInt 64 0⟩,⟨BitVec.ofInt 64 0,BitVec.ofInt 64 0,0,0⟩⟩,false):=by unfold of;rw[h,Bool.and_false];rfl
end C
namespace C
theorem of_in {t:Tn}{s:Sp}(h:R.inS s=true):R.inS (of t s).1.s=true:=by
 unfold of
 split
 . rename_i hc
   rw[Bool.and_eq_true] at hc
   cases ht:tog ⟨t,s⟩ with
   |none=>rfl
   |some y=>exact(tog_some _ ⟨t,s⟩ y (Nat.le_refl _) ⟨hc.1,(S.good_iff.1 hc.2).1,(S.good_iff.1 hc.2).2,h⟩ ht).2.2.i
 . rfl
theorem meet_in {a b:Sp}(ha:R.inS a=true)(hb:R.inS b=true):R.inS (S.meet a b).1=true:=by
 have h1:=S.inS_iff.1 ha;have h2:=S.inS_iff.1 hb
 unfold S.meet
 split
 . refine S.inS_iff.2 ?_
   simp only[S.cap,S.maxI_eq,S.minI_eq]
   omega
 . rfl
def right (x:Sc):Bool:=(of x.t x.s).2&&eqc (of x.t x.s).1 x
def hasb (x:Sc)(n:BitVec 64):Bool:=right x&&(T.has x.t n&&S.has x.s n)
def one (x:Sc):BitVec 64×Bool:=if right x&&x.s.lo==x.s.hi then (x.s.lo,true) else (BitVec.ofInt 64 0,false)
def leq (a b:Sc):Bool:=right a&&(right b&&(T.leq a.t b.t&&S.leq a.s b.s))
def meet (a b:Sc):Sc×Bool:=if right a&&(right b&&((T.meet a.t b.t).2&&(S.meet a.s b.s).2)) then of (T.meet a.t b.t).1 (S.meet a.s b.s).1 else ((⟨⟨BitVec.ofInt 64 0,BitVec.ofInt 64 0⟩,⟨BitVec.ofInt 64 0,BitVec.ofInt 64 0,0,0⟩⟩:Sc),false)
def const (n:BitVec 64):Sc:=⟨⟨n,BitVec.ofInt 64 0⟩,S.one n⟩
def unknown:Sc:=⟨⟨BitVec.ofInt 64 0,BitVec.ofInt 64 18446744073709551615⟩,S.full⟩
end C
namespace C
open S
theorem of_ok {t:Tn}{s:Sp}(hi:R.inS s=true)(h:(of t s).2=true):step (of t s).1=some (of t s).1∧Sub (of t s).1 ⟨t,s⟩∧Good (of t s).1∧Good ⟨t,s⟩:=by
 unfold of at h ⊢
 split at h
 . rename_i hc
   rw[if_pos hc]
   rw[Bool.and_eq_true] at hc
   have g:Good ⟨t,s⟩:=⟨hc.1,(S.good_iff.1 hc.2).1,(S.good_iff.1 hc.2).2,hi⟩
   cases ht:tog ⟨t,s⟩ with
   |none=>rw[ht] at h;cases h
   |some y=>
    obtain⟨h1,h2,h3⟩:=tog_some _ ⟨t,s⟩ y (Nat.le_refl _) g ht
    exact⟨h1,h2,h3,g⟩
 . cases h
theorem right_iff {x:Sc}(hi:R.inS x.s=true):right x=true↔Good x∧step x=some x:=by
 unfold right
 rw[Bool.and_eq_true]
 constructor
 . rintro⟨h1,h2⟩
   obtain⟨k1,k2,k3,k4⟩:=of_ok hi h1
   rw[eqc_iff.1 h2] at k1 k3
   exact⟨k3,k1⟩
 . rintro⟨g,h⟩
   have hg:S.good x.s=true:=S.good_iff.2 ⟨g.p,g.g⟩
   have:=of_some g.t hg (tog_fix g h)
   rw[this]
   exact⟨rfl,eqc_iff.2 rfl⟩
theorem of_right {t:Tn}{s:Sp}(hi:R.inS s=true)(h:(of t s).2=true):right (of t s).1=true:=by
 obtain⟨h1,_,h3,_⟩:=of_ok hi h
 exact(right_iff h3.i).2 ⟨h3,h1⟩
theorem hasb_iff {x:Sc}{n:BitVec 64}:hasb x n=true↔right x=true∧In x n:=by
 unfold hasb
 rw[Bool.and_eq_true]
 exact and_congr Iff.rfl has_in
theorem of_has {t:Tn}{s:Sp}(hi:R.inS s=true)(n:BitVec 64):(T.has t n&&S.has s n)=((of t s).2&&hasb (of t s).1 n):=by
 rw[Bool.eq_iff_iff]
 constructor
 . intro h
   have hin:In ⟨t,s⟩ n:=has_in.1 h
   have g:Good ⟨t,s⟩:=⟨T.has_right hin.t,Nat.le_trans hin.lo hin.hi,Int.le_trans hin.sl hin.sh,hi⟩
   obtain⟨y,hy,iny⟩:=tog_in _ ⟨t,s⟩ n (Nat.le_refl _) g hin
   have e:=of_some g.t (S.good_iff.2 ⟨g.p,g.g⟩) hy
   have r:=of_right (t:=t) (s:=s) hi (by rw[e])
   rw[e] at r ⊢
   exact Bool.and_eq_true _ _▸⟨rfl,hasb_iff.2 ⟨r,iny⟩⟩
 . intro h
   rw[Bool.and_eq_true] at h
   exact has_in.2 ((of_ok hi h.1).2.1.has (hasb_iff.1 h.2).2)
theorem of_below {t:Tn}{s:Sp}(hi:R.inS s=true)(h:(of t s).2=true):T.leq (of t s).1.t t=true∧S.leq (of t s).1.s s=true:=by
 obtain⟨_,h2,h3,_⟩:=of_ok hi h
 exact⟨h2.t,S.leq_iff.2 ⟨h2.lo,h3.p,h2.hi,h2.sl,h3.g,h2.sh⟩⟩
theorem cap_has {a b:Sp}{n:BitVec 64}:(S.has a n&&S.has b n)=((S.meet a b).2&&S.has (S.meet a b).1 n):=by
 rw[Bool.eq_iff_iff,Bool.and_eq_true,Bool.and_eq_true,S.has_iff,S.has_iff,S.has_iff]
 constructor
 . rintro⟨h,k⟩
   have h1:=h.lo;have h2:=h.hi;have h3:=h.sl;have h4:=h.sh
   have k1:=k.lo;have k2:=k.hi;have k3:=k.sl;have k4:=k.sh
   have o1:(S.one n).lo=n:=rfl
   have o2:(S.one n).hi=n:=rfl
   have o3:(S.one n).sl=sv n:=rfl
   have o4:(S.one n).sh=sv n:=rfl
   rw[o1] at h1 k1;rw[o2] at h2 k2;rw[o3] at h3 k3;rw[o4] at h4 k4
   have g1:S.good a=true:=S.good_iff.2 ⟨by omega,by omega⟩
   have g2:S.good b=true:=S.good_iff.2 ⟨by omega,by omega⟩
   have g3:S.good (S.cap a b)=true:=S.good_iff.2 ⟨by simp only[S.cap,S.maxB_nat,S.minB_nat];omega,by simp only[S.cap,S.maxI_eq,S.minI_eq];omega⟩
   unfold S.meet
   rw[g1,g2,g3]
   refine⟨rfl,?_⟩
   refine⟨?_,Nat.le_refl _,?_,?_,Int.le_refl _,?_⟩
   . show(S.maxB a.lo b.lo).toNat≤n.toNat;rw[S.maxB_nat];omega
   . show n.toNat≤(S.minB a.hi b.hi).toNat;rw[S.minB_nat];omega
   . show S.maxI a.sl b.sl≤sv n;rw[S.maxI_eq];omega
   . show sv n≤S.minI a.sh b.sh;rw[S.minI_eq];omega
 . rintro⟨h,k⟩
   unfold S.meet at h k
   split at h
   . rename_i hc
     rw[if_pos hc] at k
     have k1:(S.maxB a.lo b.lo).toNat≤n.toNat:=k.lo
     have k2:n.toNat≤(S.minB a.hi b.hi).toNat:=k.hi
     have k3:S.maxI a.sl b.sl≤sv n:=k.sl
     have k4:sv n≤S.minI a.sh b.sh:=k.sh
     rw[S.maxB_nat] at k1;rw[S.minB_nat] at k2;rw[S.maxI_eq] at k3;rw[S.minI_eq] at k4
     exact⟨⟨by show a.lo.toNat≤n.toNat;omega,Nat.le_refl _,by show n.toNat≤a.hi.toNat;omega,by show a.sl≤sv n;omega,Int.le_refl _,by show sv n≤a.sh;omega⟩,⟨by show b.lo.toNat≤n.toNat;omega,Nat.le_refl _,by show n.toNat≤b.hi.toNat;omega,by show b.sl≤sv n;omega,Int.le_refl _,by show sv n≤b.sh;omega⟩⟩
   . cases h
theorem meet_has {a b:Sc}(ha:R.inS a.s=true)(hb:R.inS b.s=true)(n:BitVec 64):(hasb a n&&hasb b n)=((meet a b).2&&hasb (meet a b).1 n):=by
 unfold meet
 cases ra:right a with
 |false=>simp[hasb,ra]
 |true=>
  cases rb:right b with
  |false=>simp[hasb,rb]
  |true=>
   have ga:=((right_iff ha).1 ra).1;have gb:=((right_iff hb).1 rb).1
   have e1:=T.meet_has ga.t gb.t n
   have e2:=cap_has (a:=a.s) (b:=b.s) (n:=n)
   have e:(hasb a n&&hasb b n)=(((T.meet a.t b.t).2&&T.has (T.meet a.t b.t).1 n)&&((S.meet a.s b.s).2&&S.has (S.meet a.s b.s).1 n)):=by
        rw[← e1,← e2];unfold hasb;rw[ra,rb]
        cases T.has a.t n<;>cases T.has b.t n<;>cases S.has a.s n<;>cases S.has b.s n<;>rfl
   rw[e]
   cases c1:(T.meet a.t b.t).2 with
   |false=>simp
   |true=>
    cases c2:(S.meet a.s b.s).2 with
    |false=>simp
    |true=>
     have:=of_has (t:=(T.meet a.t b.t).1) (s:=(S.meet a.s b.s).1) (meet_in ha hb) n
     simpa using this
theorem range_one (n:BitVec 64):T.range n n=⟨n,0⟩:=by
 unfold T.range
 rw[if_neg (by rw[BitVec.lt_def];omega)]
 simp only[if_true]
 rw[show(~~~(0:BitVec 64))=BitVec.allOnes 64 from rfl,BitVec.and_allOnes]
theorem has_one (n:BitVec 64):T.has ⟨n,0⟩ n=true:=by rw[← range_one];exact T.range_has (by rw[BitVec.lt_def];omega) (by rw[BitVec.lt_def];omega) (by rw[BitVec.lt_def];omega)
theorem leq_one {a:Tn}{n:BitVec 64}(h:T.leq a ⟨n,0⟩=true):a=⟨n,0⟩:=by
 obtain⟨h1,h2⟩:=leq_m h
 exact h2 (eq_toNat.2 (by have:(⟨n,0⟩:Tn).m.toNat=0:=rfl;omega))
theorem const_in (n:BitVec 64):In (const n) n:=⟨has_one n,Nat.le_refl _,Nat.le_refl _,Int.le_refl _,Int.le_refl _⟩
theorem only {x:Sc}{n:BitVec 64}(h1:x.s.lo.toNat=n.toNat)(h2:x.s.hi.toNat=n.toNat)(h3:x.s.sl=sv n)(h4:x.s.sh=sv n)(h5:x.t=⟨n,0⟩):x=const n:=sc_ext h5 h1 h2 h3 h4
theorem const_right (n:BitVec 64):right (const n)=true:=by
 have hi:R.inS (S.one n)=true:=S.one_in n
 have h:=of_has (t:=⟨n,0⟩) (s:=S.one n) hi n
 rw[show(T.has ⟨n,0⟩ n&&S.has (S.one n) n)=true from has_in.2 (const_in n)] at h
 have h:=h.symm
 rw[Bool.and_eq_true] at h
 obtain⟨h1,h2⟩:=h
 obtain⟨k1,k2,k3,_⟩:=of_ok hi h1
 have hin:=(hasb_iff.1 h2).2
 have e:(of ⟨n,0⟩ (S.one n)).1=const n:=by
  have a1:=k2.lo;have a2:=k2.hi;have a3:=k2.sl;have a4:=k2.sh
  have b1:=hin.lo;have b2:=hin.hi;have b3:=hin.sl;have b4:=hin.sh
  have a1:n.toNat≤(of ⟨n,0⟩ (S.one n)).1.s.lo.toNat:=a1
  have a2:(of ⟨n,0⟩ (S.one n)).1.s.hi.toNat≤n.toNat:=a2
  have a3:sv n≤(of ⟨n,0⟩ (S.one n)).1.s.sl:=a3
  have a4:(of ⟨n,0⟩ (S.one n)).1.s.sh≤sv n:=a4
  exact only (by omega) (by omega) (by omega) (by omega) (leq_one k2.t)
 rw[← e]
 exact of_right hi h1
theorem one_law {a:Sc}(ha:R.inS a.s=true)(h:(one a).2=true):a=const (one a).1:=by
 unfold one at h ⊢
 split at h
 . rename_i hc
   rw[if_pos hc]
   rw[Bool.and_eq_true] at hc
   obtain⟨g,hf⟩:=(right_iff ha).1 hc.1
   have e:a.s.lo=a.s.hi:=beq_iff_eq.1 hc.2
   obtain⟨_,⟨k2,e2⟩,⟨_,e3⟩,_⟩:=fix_parts g hf
   have ht:a.t=⟨a.s.lo,0⟩:=by
    have hr:T.right (T.range a.s.lo a.s.hi)=true:=T.range_right (by rw[BitVec.lt_def,e];omega)
    have:=(T.meet_leq g.t hr k2).2
    rw[← e,range_one] at this
    have e4:(T.meet a.t (T.range a.s.lo a.s.hi)).1=a.t:=congrArg Sc.t e2
    rw[← e,range_one] at e4
    rw[← e4]
    exact leq_one this
   have htop:top a=true:=by unfold top;rw[e];exact beq_self_eq_true _
   rw[r3_t htop] at e3
   have e5:S.maxI a.s.sl (sv a.s.lo)=a.s.sl:=congrArg (fun x:Sc=>x.s.sl) e3
   have e6:S.minI a.s.sh (sv a.s.hi)=a.s.sh:=congrArg (fun x:Sc=>x.s.sh) e3
   rw[maxI_eq] at e5;rw[minI_eq,← e] at e6
   have:=g.g
   show a=const a.s.lo
   exact only rfl (by rw[← e]) (by omega) (by omega) ht
 . cases h
theorem one_has {a:Sc}(ha:R.inS a.s=true)(h:(one a).2=true):hasb a (one a).1=true∧∀ n,hasb a n=true→n=(one a).1:=by
 have e:=one_law ha h
 have hr:right a=true:=by
  unfold one at h;split at h
  . rename_i hc;rw[Bool.and_eq_true] at hc;exact hc.1
  . cases h
 refine⟨hasb_iff.2 ⟨hr,by have:=const_in (one a).1;rw[← e] at this;exact this⟩,fun n hn => ?_⟩
 have hin:=(hasb_iff.1 hn).2
 have h1:=hin.lo;have h2:=hin.hi
 rw[e] at h1 h2
 have h1:(one a).1.toNat≤n.toNat:=h1
 have h2:n.toNat≤(one a).1.toNat:=h2
 exact eq_toNat.2 (by omega)
theorem leq_right2 {a b:Sc}(h:leq a b=true):right a=true∧right b=true:=by
 unfold leq at h;simp only[Bool.and_eq_true] at h;exact⟨h.1,h.2.1⟩
theorem leq_sub {a b:Sc}(h:leq a b=true):Sub a b:=by
 unfold leq at h
 simp only[Bool.and_eq_true] at h
 have k:=S.leq_iff.1 h.2.2.2
 exact⟨k.lo,k.hi,k.sl,k.sh,h.2.2.1⟩
theorem sub_leq {a b:Sc}(ha:R.inS a.s=true)(hb:R.inS b.s=true)(ra:right a=true)(rb:right b=true)(h:Sub a b):leq a b=true:=by
 have g:=((right_iff ha).1 ra).1
 unfold leq
 simp only[Bool.and_eq_true]
 exact⟨ra,rb,h.t,S.leq_iff.2 ⟨h.lo,g.p,h.hi,h.sl,g.g,h.sh⟩⟩
theorem leq_refl2 {a:Sc}(ha:R.inS a.s=true)(ra:right a=true):leq a a=true:=sub_leq ha ha ra ra (Sub.refl ((right_iff ha).1 ra).1.t)
theorem leq_antisymm2 {a b:Sc}(h:leq a b=true)(k:leq b a=true):a=b:=(leq_sub h).antisymm (leq_sub k)
theorem leq_trans2 {a b c:Sc}(ha:R.inS a.s=true)(hc:R.inS c.s=true)(h:leq a b=true)(k:leq b c=true):leq a c=true:=
 sub_leq ha hc (leq_right2 h).1 (leq_right2 k).2 ((leq_sub h).trans (leq_sub k))
theorem leq_hasb {a b:Sc}{n:BitVec 64}(h:leq a b=true)(k:hasb a n=true):hasb b n=true:=
 hasb_iff.2 ⟨(leq_right2 h).2,(leq_sub h).has (hasb_iff.1 k).2⟩
theorem meet_right {a b:Sc}(ha:R.inS a.s=true)(hb:R.inS b.s=true)(h:(meet a b).2=true):right (meet a b).1=true:=by
 unfold meet at h ⊢
 split at h
 . rename_i hc;rw[if_pos hc];exact of_right (meet_in ha hb) h
 . cases h
theorem cap_le {a b:Sp}(h:(S.meet a b).2=true):S.Le (S.meet a b).1 a∧S.Le (S.meet a b).1 b:=by
 unfold S.meet at h ⊢
 split at h
 . rename_i hc
   rw[if_pos hc]
   simp only[Bool.and_eq_true] at hc
   have g:=S.good_iff.1 hc.2.2
   have g1:=g.1;have g2:=g.2
   constructor
   . refine⟨?_,g1,?_,?_,g2,?_⟩
     . show a.lo.toNat≤(S.maxB a.lo b.lo).toNat;rw[S.maxB_nat];omega
     . show(S.minB a.hi b.hi).toNat≤a.hi.toNat;rw[S.minB_nat];omega
     . show a.sl≤S.maxI a.sl b.sl;rw[S.maxI_eq];omega
     . show S.minI a.sh b.sh≤a.sh;rw[S.minI_eq];omega
   . refine⟨?_,g1,?_,?_,g2,?_⟩
     . show b.lo.toNat≤(S.maxB a.lo b.lo).toNat;rw[S.maxB_nat];omega
     . show(S.minB a.hi b.hi).toNat≤b.hi.toNat;rw[S.minB_nat];omega
     . show b.sl≤S.maxI a.sl b.sl;rw[S.maxI_eq];omega
     . show S.minI a.sh b.sh≤b.sh;rw[S.minI_eq];omega
 . cases h
theorem meet_below {a b:Sc}(ha:R.inS a.s=true)(hb:R.inS b.s=true)(h:(meet a b).2=true):leq (meet a b).1 a=true∧leq (meet a b).1 b=true:=by
 have hr:=meet_right ha hb h
 unfold meet at h hr ⊢
 split at h
 . rename_i hc
   rw[if_pos hc] at hr ⊢
   simp only[Bool.and_eq_true] at hc
   have hi:=meet_in ha hb
   obtain⟨_,k2,k3,_⟩:=of_ok hi h
   have m:=T.meet_leq ((right_iff ha).1 hc.1).1.t ((right_iff hb).1 hc.2.1).1.t hc.2.2.1
   have c:=cap_le hc.2.2.2
   exact⟨sub_leq k3.i ha hr hc.1 (k2.trans ⟨c.1.lo,c.1.hi,c.1.sl,c.1.sh,m.1⟩),sub_leq k3.i hb hr hc.2.1 (k2.trans ⟨c.2.lo,c.2.hi,c.2.sl,c.2.sh,m.2⟩)⟩
 . cases h
theorem unknown_right:right unknown=true:=by kernel_rfl
theorem leq_unknown {a:Sc}(ha:R.inS a.s=true)(ra:right a=true):leq a unknown=true:=by
 have gi:=S.inS_iff.1 ha
 have l1:=a.s.hi.isLt
 refine sub_leq ha (by rfl) ra unknown_right ⟨Nat.zero_le _,?_,gi.1.1,gi.2.2,?_⟩
 . show a.s.hi.toNat≤(BitVec.ofInt 64 18446744073709551615).toNat
   rw[show(BitVec.ofInt 64 18446744073709551615).toNat=18446744073709551615 from rfl];omega
 . have g:=((right_iff ha).1 ra).1.t
   unfold T.leq
   rw[g]
   simp only[Bool.true_and,Bool.and_eq_true]
   refine⟨⟨rfl,?_⟩,?_⟩
   . show(a.t.m &&& ~~~(BitVec.ofInt 64 18446744073709551615)==0#64)=true
     rw[show(~~~(BitVec.ofInt 64 18446744073709551615:BitVec 64))=0#64 from rfl];simp
   . show(a.t.v &&& ~~~(BitVec.ofInt 64 18446744073709551615)==BitVec.ofInt 64 0)=true
     rw[show(~~~(BitVec.ofInt 64 18446744073709551615:BitVec 64))=0#64 from rfl];simp
theorem up {a:Sc}{t:Tn}{s:Sp}(ha:R.inS a.s=true)(hs:R.inS s=true)(ra:right a=true)(g:Good ⟨t,s⟩)(h:Sub a ⟨t,s⟩):(of t s).2=true∧leq a (of t s).1=true:=by
 obtain⟨ga,fa⟩:=(right_iff ha).1 ra
 obtain⟨y,hy,sy⟩:=tog_mono _ a ⟨t,s⟩ (Nat.le_refl _) ga fa g h
 have e:=of_some g.t (S.good_iff.2 ⟨g.p,g.g⟩) hy
 have h2:(of t s).2=true:=by rw[e]
 refine⟨h2,sub_leq ha (of_in hs) ra (of_right hs h2) (by rw[e];exact sy)⟩
theorem cup_good {a b:Sp}(ga:S.good a=true):S.good (S.cup a b)=true:=by
 have g:=S.good_iff.1 ga
 refine S.good_iff.2 ⟨?_,?_⟩
 . show(S.minB a.lo b.lo).toNat≤(S.maxB a.hi b.hi).toNat;rw[S.minB_nat,S.maxB_nat];omega
 . show S.minI a.sl b.sl≤S.maxI a.sh b.sh;rw[S.minI_eq,S.maxI_eq];omega
theorem cup_in {a b:Sp}(ha:R.inS a=true)(hb:R.inS b=true):R.inS (S.cup a b)=true:=by
 have h1:=S.inS_iff.1 ha;have h2:=S.inS_iff.1 hb
 refine S.inS_iff.2 ?_
 simp only[S.cup,S.maxI_eq,S.minI_eq];omega
theorem cup_self (a:Sp):S.cup a a=a:=by
 obtain⟨l,h,sl,sh⟩:=a
 simp[S.cup,S.minB,S.maxB,S.minI,S.maxI]
theorem cup_comm (a b:Sp):S.cup a b=S.cup b a:=by
 have e1:S.minB a.lo b.lo=S.minB b.lo a.lo:=eq_toNat.2 (by rw[S.minB_nat,S.minB_nat];omega)
 have e2:S.maxB a.hi b.hi=S.maxB b.hi a.hi:=eq_toNat.2 (by rw[S.maxB_nat,S.maxB_nat];omega)
 have e3:S.minI a.sl b.sl=S.minI b.sl a.sl:=by rw[S.minI_eq,S.minI_eq];omega
 have e4:S.maxI a.sh b.sh=S.maxI b.sh a.sh:=by rw[S.maxI_eq,S.maxI_eq];omega
 unfold S.cup;rw[e1,e2,e3,e4]
theorem join_up {a b:Sc}(ha:R.inS a.s=true)(hb:R.inS b.s=true)(ra:right a=true)(rb:right b=true):
  (of (T.join2 a.t b.t) (S.cup a.s b.s)).2=true∧leq a (of (T.join2 a.t b.t) (S.cup a.s b.s)).1=true∧leq b (of (T.join2 a.t b.t) (S.cup a.s b.s)).1=true:=by
 have ga:=((right_iff ha).1 ra).1;have gb:=((right_iff hb).1 rb).1
 have l1:=T.join2_left ga.t gb.t;have l2:=T.join2_right ga.t gb.t
 have gc:=S.good_iff.1 (cup_good (b:=b.s) (S.good_iff.2 ⟨ga.p,ga.g⟩))
 have g:Good ⟨T.join2 a.t b.t,S.cup a.s b.s⟩:=⟨(leq_right l1).2,gc.1,gc.2,cup_in ha hb⟩
 have s1:Sub a ⟨T.join2 a.t b.t,S.cup a.s b.s⟩:=⟨by show(S.minB a.s.lo b.s.lo).toNat≤_;rw[S.minB_nat];omega,by show _≤(S.maxB a.s.hi b.s.hi).toNat;rw[S.maxB_nat];omega,by show S.minI a.s.sl b.s.sl≤_;rw[S.minI_eq];omega,by show _≤S.maxI a.s.sh b.s.sh;rw[S.maxI_eq];omega,l1⟩
 have s2:Sub b ⟨T.join2 a.t b.t,S.cup a.s b.s⟩:=⟨by show(S.minB a.s.lo b.s.lo).toNat≤_;rw[S.minB_nat];omega,by show _≤(S.maxB a.s.hi b.s.hi).toNat;rw[S.maxB_nat];omega,by show S.minI a.s.sl b.s.sl≤_;rw[S.minI_eq];omega,by show _≤S.maxI a.s.sh b.s.sh;rw[S.maxI_eq];omega,l2⟩
 have u1:=up ha (cup_in ha hb) ra g s1
 have u2:=up hb (cup_in ha hb) rb g s2
 exact⟨u1.1,u1.2,u2.2⟩
end C
def S.joinL (L:List Sp):Sp:=if L.all S.good then (match L with
 |[]=>⟨BitVec.ofInt 64 0,BitVec.ofInt 64 0,0,0⟩
 |a::r=>(a::r).foldl S.cup a) else ⟨BitVec.ofInt 64 0,BitVec.ofInt 64 0,0,0⟩
namespace C
open S
def join (L:List Sc):Sc:=if (L.filter right).isEmpty then unknown else (of (T.join ((L.filter right).map (·.t))) (S.joinL ((L.filter right).map (·.s)))).1
theorem fix_of {a:Sc}(ra:right a=true):of a.t a.s=(a,true):=by
 unfold right at ra
 rw[Bool.and_eq_true] at ra
 have e:=eqc_iff.1 ra.2
 exact Prod.ext e ra.1
theorem join_ff {a b:Sc}(ra:right a=false)(rb:right b=false):join [a,b]=unknown:=by simp[join,List.filter,ra,rb]
theorem joinL_one {a:Sp}(g:S.good a=true):S.joinL [a]=a:=by simp[S.joinL,g,cup_self]
theorem join_one {a:Sc}(ha:R.inS a.s=true)(ra:right a=true):(of (T.join [a.t]) (S.joinL [a.s])).1=a:=by
 have g:=((right_iff ha).1 ra).1
 rw[joinL_one (S.good_iff.2 ⟨g.p,g.g⟩),show T.join [a.t]=a.t by simp[T.join,g.t],fix_of ra]
theorem join_tf {a b:Sc}(ha:R.inS a.s=true)(ra:right a=true)(rb:right b=false):join [a,b]=a:=by
 have e:=join_one ha ra
 simp only[join,List.filter,ra,rb,List.isEmpty,List.map]
 exact e
theorem join_ft {a b:Sc}(hb:R.inS b.s=true)(ra:right a=false)(rb:right b=true):join [a,b]=b:=by
 have e:=join_one hb rb
 simp only[join,List.filter,ra,rb,List.isEmpty,List.map]
 exact e
theorem join_tt {a b:Sc}(ha:R.inS a.s=true)(hb:R.inS b.s=true)(ra:right a=true)(rb:right b=true):join [a,b]=(of (T.join2 a.t b.t) (S.cup a.s b.s)).1:=by
 have ga:=((right_iff ha).1 ra).1;have gb:=((right_iff hb).1 rb).1
 simp only[join,List.filter,ra,rb,List.isEmpty,List.map]
 rw[T.join_two ga.t gb.t]
 have e:S.joinL [a.s,b.s]=S.cup a.s b.s:=by
  simp[S.joinL,S.good_iff.2 ⟨ga.p,ga.g⟩,S.good_iff.2 ⟨gb.p,gb.g⟩,cup_self]
 rw[e];rfl
theorem join_in {a b:Sc}(ha:R.inS a.s=true)(hb:R.inS b.s=true):R.inS (join [a,b]).s=true:=by
 cases ra:right a<;>cases rb:right b
 . rw[join_ff ra rb];rfl
 . rw[join_ft hb ra rb];exact hb
 . rw[join_tf ha ra rb];exact ha
 . rw[join_tt ha hb ra rb];exact of_in (cup_in ha hb)
theorem join_right {a b:Sc}(ha:R.inS a.s=true)(hb:R.inS b.s=true):right (join [a,b])=true:=by
 cases ra:right a<;>cases rb:right b
 . rw[join_ff ra rb];exact unknown_right
 . rw[join_ft hb ra rb];exact rb
 . rw[join_tf ha ra rb];exact ra
 . rw[join_tt ha hb ra rb];exact of_right (cup_in ha hb) (join_up ha hb ra rb).1
theorem join_has {a b:Sc}(ha:R.inS a.s=true)(hb:R.inS b.s=true){n:BitVec 64}(h:(hasb a n||hasb b n)=true):hasb (join [a,b]) n=true:=by
 rw[Bool.or_eq_true] at h
 cases ra:right a<;>cases rb:right b
 . rcases h with h|h<;>have:=(hasb_iff.1 h).1
   . rw[ra] at this;cases this
   . rw[rb] at this;cases this
 . rw[join_ft hb ra rb]
   rcases h with h|h
   . have:=(hasb_iff.1 h).1;rw[ra] at this;cases this
   . exact h
 . rw[join_tf ha ra rb]
   rcases h with h|h
   . exact h
   . have:=(hasb_iff.1 h).1;rw[rb] at this;cases this
 . rw[join_tt ha hb ra rb]
   obtain⟨_,u1,u2⟩:=join_up ha hb ra rb
   rcases h with h|h
   . exact leq_hasb u1 h
   . exact leq_hasb u2 h
theorem join_comm {a b:Sc}(ha:R.inS a.s=true)(hb:R.inS b.s=true)(ra:right a=true)(rb:right b=true):join [a,b]=join [b,a]:=by
 rw[join_tt ha hb ra rb,join_tt hb ha rb ra,T.join2_comm,cup_comm]
theorem join_above {a b:Sc}(ha:R.inS a.s=true)(hb:R.inS b.s=true)(ra:right a=true)(rb:right b=true):leq a (join [a,b])=true∧leq b (join [a,b])=true:=by
 rw[join_tt ha hb ra rb];exact(join_up ha hb ra rb).2
end C
end Go.Proofs.YtfjemlegodhfnaaGreat
