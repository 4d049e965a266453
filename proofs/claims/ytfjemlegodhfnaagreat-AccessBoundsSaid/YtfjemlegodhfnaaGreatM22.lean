import Derived.Test.YtfjemlegodhfnaaGreatM21
set_option linter.all false
namespace Go.Proofs.YtfjemlegodhfnaaGreat
open Go.RowKit
structure Sp where
 lo:BitVec 64
 hi:BitVec 64
 sl:Int
 sh:Int
 deriving DecidableEq
@[reducible] def spv (s:Sp):Go.Sx.SV:=.agg [.u64 s.lo,.u64 s.hi,.int .i64 s.sl,.int .i64 s.sh]
structure Pl where
 lo:BitVec 64
 hi:BitVec 64
 deriving DecidableEq
structure Sg where
 sl:Int
 sh:Int
 deriving DecidableEq
@[reducible] def plv (s:Pl):Go.Sx.SV:=.agg [.u64 s.lo,.u64 s.hi]
@[reducible] def sgv (s:Sg):Go.Sx.SV:=.agg [.int .i64 s.sl,.int .i64 s.sh]
namespace S
def full:Sp:=⟨BitVec.ofInt 64 0,BitVec.ofInt 64 18446744073709551615, -9223372036854775808,9223372036854775807⟩
def one (n:BitVec 64):Sp:=⟨n,n,sv n,sv n⟩
def good (a:Sp):Bool:=decide (a.lo≤a.hi)&&decide (a.sl≤a.sh)
def leq (a b:Sp):Bool:=good a&&(good b&&((decide (b.lo≤a.lo)&&decide (a.hi≤b.hi))&&(decide (b.sl≤a.sl)&&decide (a.sh≤b.sh))))
def has (a:Sp)(n:BitVec 64):Bool:=leq (one n) a
def carry (x y:BitVec 64):BitVec 64:=BitVec.ofNat 64 ((x.toNat+y.toNat) / 18446744073709551616)
def sum (a b:Pl):Pl:=if carry a.hi b.hi==BitVec.ofInt 64 0 then ⟨a.lo+b.lo,a.hi+b.hi⟩ else ⟨BitVec.ofInt 64 0,BitVec.ofInt 64 18446744073709551615⟩
def over (a b:Int):Bool:=(decide (0<a)&&decide (IntKind.i64.wrap (9223372036854775807-a)<b))||(decide (a<0)&&decide (b<IntKind.i64.wrap (-9223372036854775808-a)))
def under (a b:Int):Bool:=(decide (0<b)&&decide (a<IntKind.i64.wrap (-9223372036854775808+b)))||(decide (b<0)&&decide (IntKind.i64.wrap (9223372036854775807+b)<a))
def sums (a b:Sg):Sg:=if over a.sl b.sl||over a.sh b.sh then ⟨-9223372036854775808,9223372036854775807⟩ else ⟨IntKind.i64.wrap (a.sl+b.sl),IntKind.i64.wrap (a.sh+b.sh)⟩
def less (a b:Sp):Sp:=
 let p:Pl:=if decide (b.hi≤a.lo) then ⟨a.lo-b.hi,a.hi-b.lo⟩ else ⟨BitVec.ofInt 64 0,BitVec.ofInt 64 18446744073709551615⟩
 let s:Sg:=if !under a.sl b.sh && !under a.sh b.sl then ⟨IntKind.i64.wrap (a.sl-b.sh),IntKind.i64.wrap (a.sh-b.sl)⟩ else ⟨-9223372036854775808,9223372036854775807⟩
 ⟨p.lo,p.hi,s.sl,s.sh⟩
def high (x y:BitVec 64):BitVec 64:=BitVec.ofNat 64 (x.toNat*y.toNat / 18446744073709551616)
def times (a b:Sp):Sp:=
 let p:Pl:=if high a.hi b.hi==BitVec.ofInt 64 0 then ⟨a.lo*b.lo,a.hi*b.hi⟩ else ⟨BitVec.ofInt 64 0,BitVec.ofInt 64 18446744073709551615⟩
 let s:Sg:=if decide (0≤a.sl)&&decide (0≤b.sl)&&(high (BitVec.ofInt 64 a.sh) (BitVec.ofInt 64 b.sh)==BitVec.ofInt 64 0)&&decide (BitVec.ofInt 64 a.sh*BitVec.ofInt 64 b.sh≤BitVec.ofInt 64 9223372036854775807) then ⟨IntKind.i64.wrap (a.sl*b.sl),sv (BitVec.ofInt 64 a.sh*BitVec.ofInt 64 b.sh)⟩ else ⟨-9223372036854775808,9223372036854775807⟩
 ⟨p.lo,p.hi,s.sl,s.sh⟩
def quotient (a b:Sp):Sp:=
 let p:Pl:=if b.lo != b.hi then ⟨BitVec.ofInt 64 0,a.hi⟩ else if b.lo==BitVec.ofInt 64 0 then ⟨BitVec.ofInt 64 0,BitVec.ofInt 64 0⟩ else ⟨a.lo / b.lo,a.hi / b.lo⟩
 ⟨p.lo,p.hi, -9223372036854775808,9223372036854775807⟩
def rest (a b:Sp):Sp:=
 let p:Pl:=if b.lo != b.hi then ⟨BitVec.ofInt 64 0,a.hi⟩ else if b.lo==BitVec.ofInt 64 0||decide (a.hi<b.lo) then ⟨a.lo,a.hi⟩ else ⟨BitVec.ofInt 64 0,b.lo-BitVec.ofInt 64 1⟩
 ⟨p.lo,p.hi, -9223372036854775808,9223372036854775807⟩
def ones (n:BitVec 64):BitVec 64:=BitVec.ofInt 64 1 <<< bl n-BitVec.ofInt 64 1
def minI (a b:Int):Int:=if b<a then b else a
def maxI (a b:Int):Int:=if a<b then b else a
def minB (a b:BitVec 64):BitVec 64:=if b<a then b else a
def maxB (a b:BitVec 64):BitVec 64:=if a<b then b else a
def and (a b:Sp):Sp:=
 let s0:Sg:=⟨-9223372036854775808,9223372036854775807⟩
 let s1:Sg:=if decide (0≤a.sl) then ⟨0,minI s0.sh a.sh⟩ else s0
 let s2:Sg:=if decide (0≤b.sl) then ⟨0,minI s1.sh b.sh⟩ else s1
 ⟨BitVec.ofInt 64 0,minB a.hi b.hi,s2.sl,s2.sh⟩
def or (a b f:Sp):Sp:=
 let s:Sg:=if decide (0≤a.sl)&&decide (0≤b.sl) then ⟨f.sl,sv (ones (BitVec.ofInt 64 (Go.bits .or .i64 a.sh b.sh)))⟩ else ⟨-9223372036854775808,9223372036854775807⟩
 ⟨f.lo,ones (a.hi ||| b.hi),s.sl,s.sh⟩
def add (a b:Sp):Sp:=
 let p:=sum ⟨a.lo,a.hi⟩ ⟨b.lo,b.hi⟩
 let s:=sums ⟨a.sl,a.sh⟩ ⟨b.sl,b.sh⟩
 ⟨p.lo,p.hi,s.sl,s.sh⟩
def or2 (a b:Sp):Sp:=or a b ⟨maxB a.lo b.lo,0,maxI a.sl b.sl,0⟩
def xor (a b:Sp):Sp:=or a b ⟨0,0,0,0⟩
def way (op:Int):Option (Sp→Sp→Sp):=if op==0 then some add else if op==16 then some less else if op==32 then some times else if op==48 then some quotient else if op==144 then some rest else if op==80 then some and else if op==64 then some or2 else if op==160 then some xor else none
def does (op:Int)(a b:Sp):Sp×Bool:=match way op with
 |some f=>if good a&&good b then (f a b,true) else (⟨0,0,0,0⟩,false)
 |none=>(⟨0,0,0,0⟩,false)
def fitU (n:BitVec 64)(k:Nat):Bool:=n <<< k >>> k==n
def fitI (n:Int)(k:Nat):Bool:=(IntKind.i64.wrap (n*2^min k 64)).fdiv (2^min k 64)==n
def shift (op:Int)(a:Sp)(k:Int):Sp×Bool:=
 if !good a||(decide (k<0)||(decide (63<k)||(op != 96&&(op != 112&&op != 192)))) then (⟨BitVec.ofInt 64 0,BitVec.ofInt 64 0,0,0⟩,false)
 else if k==0 then (a,true)
 else if op==112 then (⟨a.lo >>> k.toNat,a.hi >>> k.toNat,0,Int.fdiv 9223372036854775807 (2^min (IntKind.i64.wrap (k-1)).toNat 64)⟩,true)
 else if op==192 then (⟨full.lo,full.hi,a.sl.fdiv (2^min k.toNat 64),a.sh.fdiv (2^min k.toNat 64)⟩,true)
 else
    let p:Pl:=if fitU a.hi k.toNat then ⟨a.lo <<< k.toNat,a.hi <<< k.toNat⟩ else ⟨full.lo,full.hi⟩
    let s:Sg:=if fitI a.sl k.toNat&&fitI a.sh k.toNat then ⟨IntKind.i64.wrap (a.sl*2^min k.toNat 64),IntKind.i64.wrap (a.sh*2^min k.toNat 64)⟩ else ⟨full.sl,full.sh⟩
    (⟨p.lo,p.hi,s.sl,s.sh⟩,true)
end S
end Go.Proofs.YtfjemlegodhfnaaGreat
namespace Go.Proofs.YtfjemlegodhfnaaGreat
open Go.RowKit
structure Wd where
 hi:Int
 lo:BitVec 64
 deriving DecidableEq
@[reducible] def wdv (s:Wd):Go.Sx.SV:=.agg [.int .i64 s.hi,.u64 s.lo]
namespace R
def signed (n:Int):Wd:=if decide (n<0) then ⟨-1,BitVec.ofInt 64 n⟩ else ⟨0,BitVec.ofInt 64 n⟩
def add (a b:Wd):Wd:=if decide (a.lo+b.lo<a.lo) then ⟨IntKind.i64.wrap (IntKind.i64.wrap (a.hi+b.hi)+1),a.lo+b.lo⟩ else ⟨IntKind.i64.wrap (a.hi+b.hi),a.lo+b.lo⟩
def sub (a b:Wd):Wd:=if decide (a.lo<b.lo) then ⟨IntKind.i64.wrap (IntKind.i64.wrap (a.hi-b.hi)-1),a.lo-b.lo⟩ else ⟨IntKind.i64.wrap (a.hi-b.hi),a.lo-b.lo⟩
def fits (a:Wd):Bool:=a.hi==0
def signs (a:Wd):Bool:=(a.hi==0&&decide (a.lo≤BitVec.ofInt 64 9223372036854775807))||(a.hi == -1&&decide (BitVec.ofInt 64 9223372036854775807<a.lo))
def times (a b:BitVec 64):BitVec 64×Bool:=if a==BitVec.ofInt 64 0||b==BitVec.ofInt 64 0 then (BitVec.ofInt 64 0,true) else (a*b,decide (a≤BitVec.ofInt 64 18446744073709551615 / b))
def two (lo hi:BitVec 64)(is:Bool)(sl sh:Int)(sis:Bool):Sp:=⟨if is then lo else BitVec.ofInt 64 0,if is then hi else BitVec.ofInt 64 18446744073709551615,if sis then sl else -9223372036854775808,if sis then sh else 9223372036854775807⟩
def products (a b:Sp):Sp:=if decide (0≤a.sl)&&decide (0≤b.sl) then
    two (times a.lo b.lo).1 (times a.hi b.hi).1 (times a.hi b.hi).2 (sv (times (BitVec.ofInt 64 a.sl) (BitVec.ofInt 64 b.sl)).1) (sv (times (BitVec.ofInt 64 a.sh) (BitVec.ofInt 64 b.sh)).1) ((times (BitVec.ofInt 64 a.sh) (BitVec.ofInt 64 b.sh)).2&&decide ((times (BitVec.ofInt 64 a.sh) (BitVec.ofInt 64 b.sh)).1≤BitVec.ofInt 64 9223372036854775807))
 else two (times a.lo b.lo).1 (times a.hi b.hi).1 (times a.hi b.hi).2 0 0 false
def rests (op:Int)(a b:Sp):Sp:=
 if op==48&&((b.lo==b.hi)&&(b.lo != BitVec.ofInt 64 0)) then two (a.lo / b.lo) (a.hi / b.lo) true 0 0 false
 else if op==48&&(b.lo==b.hi) then two (BitVec.ofInt 64 0) (BitVec.ofInt 64 0) true 0 0 false
 else if op==144&&((b.lo==b.hi)&&(b.lo==BitVec.ofInt 64 0||decide (a.hi<b.lo))) then two a.lo a.hi true 0 0 false
 else if op==144&&(b.lo==b.hi) then two (BitVec.ofInt 64 0) (b.lo-BitVec.ofInt 64 1) true 0 0 false
 else two (BitVec.ofInt 64 0) a.hi true 0 0 false
def bits (op:Int)(a b:Sp):Sp:=
 let both:=decide (0≤a.sl)&&decide (0≤b.sl)
 let all:=S.ones (a.hi ||| b.hi)
 let sall:=if both then S.ones (BitVec.ofInt 64 (Go.bits .or .i64 a.sh b.sh)) else BitVec.ofInt 64 0
 if op==64 then two (S.maxB a.lo b.lo) all true (S.maxI a.sl b.sl) (sv sall) both
 else if op==160 then two (BitVec.ofInt 64 0) all true 0 (sv sall) both
 else
    let s1:=if decide (0≤a.sl) then S.minI 9223372036854775807 a.sh else 9223372036854775807
    let s2:=if decide (0≤b.sl) then S.minI s1 b.sh else s1
    two (BitVec.ofInt 64 0) (S.minB a.hi b.hi) true 0 s2 (decide (0≤a.sl)||decide (0≤b.sl))
def sum (a b:Sp):Sp:=
 let hi:=add ⟨0,a.hi⟩ ⟨0,b.hi⟩
 let slo:=add (signed a.sl) (signed b.sl)
 let shi:=add (signed a.sh) (signed b.sh)
 two (a.lo+b.lo) hi.lo (fits hi) (sv slo.lo) (sv shi.lo) (signs slo&&signs shi)
def dif (a b:Sp):Sp:=
 let lo:=sub ⟨0,a.lo⟩ ⟨0,b.hi⟩
 let hi:=sub ⟨0,a.hi⟩ ⟨0,b.lo⟩
 let slo:=sub (signed a.sl) (signed b.sh)
 let shi:=sub (signed a.sh) (signed b.sl)
 two lo.lo hi.lo (fits lo) (sv slo.lo) (sv shi.lo) (signs slo&&signs shi)
def does (op:Int)(a b:Sp):Sp×Bool:=
 if S.good a&&S.good b then
    if op==0 then (sum a b,true) else if op==16 then (dif a b,true) else if op==32 then (products a b,true) else if op==48||op==144 then (rests op a b,true) else if op==80||(op==64||op==160) then (bits op a b,true) else (⟨BitVec.ofInt 64 0,BitVec.ofInt 64 0,0,0⟩,false)
 else (⟨BitVec.ofInt 64 0,BitVec.ofInt 64 0,0,0⟩,false)
def inI (n:Int):Bool:=decide (-9223372036854775808≤n)&&decide (n≤9223372036854775807)
def half (n:Int)(k:Nat):Int:=n.fdiv (2^k)
def doubled (n:Int)(k:Nat):Int×Bool:=if inI (n*2^k) then (n*2^k,true) else (0,false)
def shift (op:Int)(a:Sp)(k:Int):Sp×Bool:=
 if !S.good a||(decide (k<0)||(decide (63<k)||(op != 96&&(op != 112&&op != 192)))) then (⟨BitVec.ofInt 64 0,BitVec.ofInt 64 0,0,0⟩,false)
 else if k==0 then (a,true)
 else
    let p:=BitVec.ofInt 64 1 <<< k.toNat
    if op==112 then (⟨a.lo / p,a.hi / p,0,sv (BitVec.ofInt 64 18446744073709551615 / p)⟩,true)
    else if op==192 then (two (BitVec.ofInt 64 0) (BitVec.ofInt 64 0) false (half a.sl k.toNat) (half a.sh k.toNat) true,true)
    else (two (times a.lo p).1 (times a.hi p).1 (times a.hi p).2 (doubled a.sl k.toNat).1 (doubled a.sh k.toNat).1 ((doubled a.sl k.toNat).2&&(doubled a.sh k.toNat).2),true)
end R
end Go.Proofs.YtfjemlegodhfnaaGreat
namespace Go.Proofs.YtfjemlegodhfnaaGreat
open Go.RowKit
set_option maxHeartbeats 1000000
namespace R
theorem inI_iff' {n:Int}:inI n=true ↔ -9223372036854775808≤n∧n≤9223372036854775807:=by unfold inI;simp
theorem wrap64 (n:Int):IntKind.i64.wrap n=(n+9223372036854775808) % 18446744073709551616-9223372036854775808:=by
 rw[show IntKind.i64.wrap n=(if (IntKind.i64.signed&&decide (n % (2^64:Int) ≥ (2^63:Int)))=true then n % (2^64:Int)-2^64 else n % (2^64:Int)) from rfl]
 simp only[show IntKind.i64.signed=true from rfl,Bool.true_and,decide_eq_true_eq]
 split<;>omega
theorem wrap_in {n:Int}(h:inI n=true):IntKind.i64.wrap n=n:=by rw[wrap64];have:=inI_iff'.1 h;omega
theorem ofInt_nat (n:Int):((BitVec.ofInt 64 n).toNat:Int)=n % 18446744073709551616:=by
 rw[BitVec.toNat_ofInt];omega
theorem sv_of (n:Int):sv (BitVec.ofInt 64 n)=IntKind.i64.wrap n:=by
 rw[wrap64];unfold sv;rw[BitVec.toInt_eq_toNat_bmod]
 have:=ofInt_nat n
 rw[Int.bmod_def];split<;>omega
theorem signed_lo (n:Int):(signed n).lo=BitVec.ofInt 64 n:=by unfold signed;split<;>rfl
theorem signed_hi (n:Int):(signed n).hi=if n<0 then -1 else 0:=by unfold signed;by_cases h:n<0<;>simp[h]
theorem add_lo (a b:Wd):(add a b).lo=a.lo+b.lo:=by unfold add;split<;>rfl
theorem sub_lo (a b:Wd):(sub a b).lo=a.lo-b.lo:=by unfold sub;split<;>rfl
theorem sv_add (a b:Int):sv (add (signed a) (signed b)).lo=IntKind.i64.wrap (a+b):=by
 rw[add_lo,signed_lo,signed_lo,← BitVec.ofInt_add,sv_of]
theorem ofInt_sub (a b:Int):BitVec.ofInt 64 a-BitVec.ofInt 64 b=BitVec.ofInt 64 (a-b):=by
 apply BitVec.eq_of_toNat_eq
 rw[BitVec.toNat_sub]
 have h1:=ofInt_nat a;have h2:=ofInt_nat b;have h3:=ofInt_nat (a-b)
 omega
theorem sv_sub (a b:Int):sv (sub (signed a) (signed b)).lo=IntKind.i64.wrap (a-b):=by
 rw[sub_lo,signed_lo,signed_lo,ofInt_sub,sv_of]
theorem most_nat:(BitVec.ofInt 64 9223372036854775807).toNat=9223372036854775807:=by decide
theorem signs_add {a b:Int}(ha:inI a=true)(hb:inI b=true):signs (add (signed a) (signed b))=inI (a+b):=by
 have ha:=inI_iff'.1 ha;have hb:=inI_iff'.1 hb
 have h1:=ofInt_nat a;have h2:=ofInt_nat b
 rw[Bool.eq_iff_iff,inI_iff']
 unfold signs
 simp only[Bool.or_eq_true,Bool.and_eq_true,beq_iff_eq,decide_eq_true_eq]
 unfold add
 simp only[signed_lo,signed_hi,wrap64]
 by_cases hc:BitVec.ofInt 64 a+BitVec.ofInt 64 b<BitVec.ofInt 64 a
 . simp only[hc,decide_true,if_true]
   rw[BitVec.lt_def,BitVec.toNat_add] at hc
   simp only[BitVec.lt_def,BitVec.le_def,BitVec.toNat_add,most_nat]
   split<;>split<;>omega
 . simp only[hc,decide_false,Bool.false_eq_true,if_false]
   rw[BitVec.lt_def,BitVec.toNat_add] at hc
   simp only[BitVec.lt_def,BitVec.le_def,BitVec.toNat_add,most_nat]
   split<;>split<;>omega
theorem signs_sub {a b:Int}(ha:inI a=true)(hb:inI b=true):signs (sub (signed a) (signed b))=inI (a-b):=by
 have ha:=inI_iff'.1 ha;have hb:=inI_iff'.1 hb
 have h1:=ofInt_nat a;have h2:=ofInt_nat b
 rw[Bool.eq_iff_iff,inI_iff']
 unfold signs
 simp only[Bool.or_eq_true,Bool.and_eq_true,beq_iff_eq,decide_eq_true_eq]
 unfold sub
 simp only[signed_lo,signed_hi,wrap64]
 by_cases hc:BitVec.ofInt 64 a<BitVec.ofInt 64 b
 . simp only[hc,decide_true,if_true]
   rw[BitVec.lt_def] at hc
   simp only[BitVec.lt_def,BitVec.le_def,BitVec.toNat_sub,most_nat]
   split<;>split<;>omega
 . simp only[hc,decide_false,Bool.false_eq_true,if_false]
   rw[BitVec.lt_def] at hc
   simp only[BitVec.lt_def,BitVec.le_def,BitVec.toNat_sub,most_nat]
   split<;>split<;>omega
theorem over_eq {a b:Int}(ha:inI a=true)(hb:inI b=true):S.over a b = !inI (a+b):=by
 have ha:=inI_iff'.1 ha;have hb:=inI_iff'.1 hb
 rw[Bool.eq_iff_iff,Bool.not_eq_true',Bool.eq_false_iff,ne_eq,inI_iff']
 unfold S.over
 simp only[Bool.or_eq_true,Bool.and_eq_true,decide_eq_true_eq,wrap64]
 omega
theorem under_eq {a b:Int}(ha:inI a=true)(hb:inI b=true):S.under a b = !inI (a-b):=by
 have ha:=inI_iff'.1 ha;have hb:=inI_iff'.1 hb
 rw[Bool.eq_iff_iff,Bool.not_eq_true',Bool.eq_false_iff,ne_eq,inI_iff']
 unfold S.under
 simp only[Bool.or_eq_true,Bool.and_eq_true,decide_eq_true_eq,wrap64]
 omega
theorem carry_eq (x y:BitVec 64):(S.carry x y==BitVec.ofInt 64 0)=fits (add ⟨0,x⟩ ⟨0,y⟩):=by
 rw[Bool.eq_iff_iff,beq_iff_eq]
 unfold fits add S.carry
 have hx:=x.isLt;have hy:=y.isLt
 have e:BitVec.ofNat 64 ((x.toNat+y.toNat) / 18446744073709551616)=BitVec.ofInt 64 0↔x.toNat+y.toNat<18446744073709551616:=by
  constructor
  . intro h
    have:=congrArg BitVec.toNat h
    rw[BitVec.toNat_ofNat,show(BitVec.ofInt 64 0).toNat=0 by decide] at this
    omega
  . intro h
    rw[Nat.div_eq_of_lt h];decide
 rw[e]
 by_cases hc:x+y<x
 . simp only[hc,decide_true,if_true,beq_iff_eq,wrap64]
   rw[BitVec.lt_def,BitVec.toNat_add] at hc
   omega
 . simp only[hc,decide_false,Bool.false_eq_true,if_false,beq_iff_eq,wrap64]
   rw[BitVec.lt_def,BitVec.toNat_add] at hc
   omega
theorem fits_sub (x y:BitVec 64):fits (sub ⟨0,x⟩ ⟨0,y⟩)=decide (y≤x):=by
 rw[Bool.eq_iff_iff,decide_eq_true_eq]
 unfold fits sub
 by_cases hc:x<y
 . simp only[hc,decide_true,if_true,beq_iff_eq,wrap64]
   rw[BitVec.lt_def] at hc;rw[BitVec.le_def]
   omega
 . simp only[hc,decide_false,Bool.false_eq_true,if_false,beq_iff_eq,wrap64]
   rw[BitVec.lt_def] at hc;rw[BitVec.le_def]
   omega
def inS (a:Sp):Bool:=inI a.sl&&inI a.sh
theorem sum_eq {a b:Sp}(ha:inS a=true)(hb:inS b=true):sum a b=S.add a b:=by
 unfold inS at ha hb
 rw[Bool.and_eq_true] at ha hb
 unfold sum S.add S.sum S.sums two
 simp only[sv_add,signs_add ha.1 hb.1,signs_add ha.2 hb.2,over_eq ha.1 hb.1,over_eq ha.2 hb.2,carry_eq,add_lo]
 cases fits (add ⟨0,a.hi⟩ ⟨0,b.hi⟩)<;>cases inI (a.sl+b.sl)<;>cases inI (a.sh+b.sh)<;>simp[signed_lo,← BitVec.ofInt_add,sv_of]
theorem dif_eq {a b:Sp}(ha:inS a=true)(hb:inS b=true):dif a b=S.less a b:=by
 unfold inS at ha hb
 rw[Bool.and_eq_true] at ha hb
 unfold dif S.less two
 simp only[sv_sub,signs_sub ha.1 hb.2,signs_sub ha.2 hb.1,under_eq ha.1 hb.2,under_eq ha.2 hb.1,fits_sub,sub_lo]
 cases decide (b.hi≤a.lo)<;>cases inI (a.sl-b.sh)<;>cases inI (a.sh-b.sl)<;>simp[signed_lo,ofInt_sub,sv_of]
theorem zero_nat:(BitVec.ofInt 64 0).toNat=0:=by decide
theorem high_zero (a b:BitVec 64):(S.high a b==BitVec.ofInt 64 0)=decide (a.toNat*b.toNat<18446744073709551616):=by
 rw[Bool.eq_iff_iff,beq_iff_eq,decide_eq_true_eq]
 have hlt:a.toNat*b.toNat / 18446744073709551616<18446744073709551616:=by
  apply Nat.div_lt_of_lt_mul;exact Nat.mul_lt_mul'' a.isLt b.isLt
 unfold S.high
 constructor
 . intro h
   have:=congrArg BitVec.toNat h
   rw[BitVec.toNat_ofNat,Nat.mod_eq_of_lt hlt,zero_nat] at this
   exact Nat.lt_of_div_eq_zero (by omega) this
 . intro h
   rw[Nat.div_eq_of_lt h];decide
theorem times_eq (a b:BitVec 64):times a b=(a*b,S.high a b==BitVec.ofInt 64 0):=by
 rw[high_zero]
 unfold times
 by_cases ha:a=BitVec.ofInt 64 0
 . subst ha
   simp[zero_nat]
 by_cases hb:b=BitVec.ofInt 64 0
 . subst hb
   simp[zero_nat]
 rw[if_neg (by rw[beq_eq_false_iff_ne.2 ha,beq_eq_false_iff_ne.2 hb];decide)]
 congr 1
 apply decide_eq_decide.2
 have hpos:0<b.toNat:=by
  rcases Nat.eq_zero_or_pos b.toNat with h|h
  . exact absurd (BitVec.eq_of_toNat_eq (by rw[h,zero_nat])) hb
  . exact h
 rw[BitVec.le_def,BitVec.toNat_udiv,show(BitVec.ofInt 64 18446744073709551615).toNat=18446744073709551615 by decide,Nat.le_div_iff_mul_le hpos]
 omega
theorem products_eq {a b:Sp}(ha:inS a=true)(hb:inS b=true):products a b=S.times a b:=by
 unfold products S.times two
 simp only[times_eq,← BitVec.ofInt_mul,sv_of]
 cases (S.high a.hi b.hi==BitVec.ofInt 64 0)<;>cases decide (0≤a.sl)<;>cases decide (0≤b.sl)<;>cases (S.high (BitVec.ofInt 64 a.sh) (BitVec.ofInt 64 b.sh)==BitVec.ofInt 64 0)<;>cases decide (BitVec.ofInt 64 (a.sh*b.sh)≤BitVec.ofInt 64 9223372036854775807)<;>simp
theorem rests_div (a b:Sp):rests 48 a b=S.quotient a b:=by
 unfold rests S.quotient two
 by_cases h:b.lo=b.hi
 . by_cases h0:b.lo=BitVec.ofInt 64 0
   . simp[← h,h0]
   . have h0' : ¬ b.lo=0#64:=h0
     simp[← h,h0']
 . simp[h]
theorem rests_mod (a b:Sp):rests 144 a b=S.rest a b:=by
 unfold rests S.rest two
 by_cases h:b.lo=b.hi
 . by_cases h0:b.lo=BitVec.ofInt 64 0
   . simp[← h,h0]
   . have h0' : ¬ b.lo=0#64:=h0
     by_cases h1:a.hi<b.lo
     . simp[← h,h0',h1]
     . simp[← h,h0',h1]
 . simp[h]
theorem bits_and (a b:Sp):bits 80 a b=S.and a b:=by
 unfold bits S.and two
 cases decide (0≤a.sl)<;>cases decide (0≤b.sl)<;>simp
theorem bits_or (a b:Sp):bits 64 a b=S.or2 a b:=by
 unfold bits S.or2 S.or two
 cases decide (0≤a.sl)<;>cases decide (0≤b.sl)<;>simp
theorem bits_xor (a b:Sp):bits 160 a b=S.xor a b:=by
 unfold bits S.xor S.or two
 cases decide (0≤a.sl)<;>cases decide (0≤b.sl)<;>simp
theorem does_eq (op:Int){a b:Sp}(ha:inS a=true)(hb:inS b=true):does op a b=S.does op a b:=by
 unfold does S.does S.way
 by_cases h0:op=0
 . subst h0;simp[sum_eq ha hb]
 by_cases h1:op=16
 . subst h1;simp[dif_eq ha hb]
 by_cases h2:op=32
 . subst h2;simp[products_eq ha hb]
 by_cases h3:op=48
 . subst h3;simp[rests_div]
 by_cases h4:op=144
 . subst h4;simp[rests_mod]
 by_cases h5:op=80
 . subst h5;simp[bits_and]
 by_cases h6:op=64
 . subst h6;simp[bits_or]
 by_cases h7:op=160
 . subst h7;simp[bits_xor]
 simp[h0,h1,h2,h3,h4,h5,h6,h7]
theorem pow_nat {k:Nat}(h:k<64):(BitVec.ofInt 64 1 <<< k).toNat=2^k:=by
 have:∀ j:Fin 64,(BitVec.ofInt 64 1 <<< j.val).toNat=2^j.val:=by decide
 exact this ⟨k,h⟩
theorem shr_eq (x:BitVec 64){k:Nat}(h:k<64):x / (BitVec.ofInt 64 1 <<< k)=x >>> k:=by
 apply BitVec.eq_of_toNat_eq
 rw[BitVec.toNat_udiv,pow_nat h,BitVec.toNat_ushiftRight,Nat.shiftRight_eq_div_pow]
theorem shl_eq (x:BitVec 64){k:Nat}(h:k<64):x*(BitVec.ofInt 64 1 <<< k)=x <<< k:=by
 apply BitVec.eq_of_toNat_eq
 rw[BitVec.toNat_mul,pow_nat h,BitVec.toNat_shiftLeft,Nat.shiftLeft_eq]
theorem fitU_eq (x:BitVec 64){k:Nat}(h:k<64):S.fitU x k=(S.high x (BitVec.ofInt 64 1 <<< k)==BitVec.ofInt 64 0):=by
 rw[high_zero,pow_nat h]
 unfold S.fitU
 rw[Bool.eq_iff_iff,beq_iff_eq,decide_eq_true_eq]
 have hp:0<2^k:=Nat.pow_pos (by omega)
 constructor
 . intro e
   have e2:=congrArg BitVec.toNat e
   rw[BitVec.toNat_ushiftRight,BitVec.toNat_shiftLeft,Nat.shiftLeft_eq,Nat.shiftRight_eq_div_pow] at e2
   have h1:x.toNat*2^k % 2^64 / 2^k*2^k≤x.toNat*2^k % 2^64:=Nat.div_mul_le_self ..
   rw[e2] at h1
   have h2:x.toNat*2^k % 2^64<2^64:=Nat.mod_lt _ (by decide)
   omega
 . intro e
   apply BitVec.eq_of_toNat_eq
   rw[BitVec.toNat_ushiftRight,BitVec.toNat_shiftLeft,Nat.shiftLeft_eq,Nat.shiftRight_eq_div_pow,Nat.mod_eq_of_lt (by omega),Nat.mul_div_cancel _ hp]
theorem fitI_eq {n:Int}{k:Nat}(h:k<64):S.fitI n k=inI (n*2^k):=by
 unfold S.fitI
 rw[show min k 64=k by omega]
 have hp:(0:Int)<2^k:=Int.pow_pos (by decide)
 have h64:(2:Int)^k*2 ^ (64-k)=18446744073709551616:=by rw[← Int.pow_add,show k+(64-k)=64 by omega];rfl
 rw[Int.fdiv_eq_ediv_of_nonneg _ (Int.le_of_lt hp),Bool.eq_iff_iff,beq_iff_eq]
 constructor
 . intro e
   rw[inI_iff']
   have h1:IntKind.i64.wrap (n*2^k) / 2^k*2^k≤IntKind.i64.wrap (n*2^k):=Int.ediv_mul_le _ (by omega)
   have h2:IntKind.i64.wrap (n*2^k) < (IntKind.i64.wrap (n*2^k) / 2^k+1)*2^k:=Int.lt_ediv_add_one_mul_self _ hp
   rw[e] at h1 h2
   rw[Int.add_mul,Int.one_mul] at h2
   rw[wrap64] at h1 h2
   have h3:(2:Int)^k≤9223372036854775808:=by
    have:(2:Nat)^k≤2^63:=Nat.pow_le_pow_right (by omega) (by omega)
    have h4:((2^k:Nat):Int)≤((2^63:Nat):Int):=Int.ofNat_le.2 this
    rw[Int.natCast_pow] at h4
    simpa using h4
   omega
 . intro e
   rw[wrap_in e,Int.mul_ediv_cancel _ (Int.ne_of_gt hp)]
theorem shr_most:∀ k:Fin 64,0<k.val→sv (BitVec.ofInt 64 18446744073709551615 / (BitVec.ofInt 64 1 <<< k.val))=Int.fdiv 9223372036854775807 (2^min (k.val-1) 64):=by decide
theorem shift_eq (op:Int){a:Sp}(k:Int)(ha:inS a=true):shift op a k=S.shift op a k:=by
 unfold inS at ha
 rw[Bool.and_eq_true] at ha
 unfold shift S.shift
 by_cases hc:(!S.good a||(decide (k<0)||(decide (63<k)||(op != 96&&(op != 112&&op != 192)))))=true
 . rw[if_pos hc,if_pos hc]
 rw[if_neg hc,if_neg hc]
 simp only[Bool.or_eq_true,decide_eq_true_eq,not_or,Bool.and_eq_true,bne_iff_ne,ne_eq,Decidable.not_and_iff_not_or_not,Decidable.not_not] at hc
 obtain⟨_,hk0,hk1,hop⟩:=hc
 by_cases h0:k=0
 . subst h0;simp
 simp only[beq_eq_false_iff_ne.2 h0,Bool.false_eq_true,if_false]
 obtain⟨K,rfl⟩:∃ K:Nat,k=K:=⟨k.toNat,by omega⟩
 have hK:K<64:=by omega
 have hK0:0<K:=by omega
 simp only[Int.toNat_natCast]
 by_cases h1:op=112
 . subst h1
   have e:=shr_most ⟨K,hK⟩ hK0
   simp only at e
   simp only[show((112:Int)==112)=true from rfl,if_true]
   rw[shr_eq _ hK,shr_eq _ hK,e,wrap_in (inI_iff'.2 (by omega)),show((K:Int)-1).toNat=K-1 by omega]
 simp only[beq_eq_false_iff_ne.2 h1,Bool.false_eq_true,if_false]
 by_cases h2:op=192
 . subst h2
   simp only[show((192:Int)==192)=true from rfl,if_true]
   unfold two half
   rw[show min K 64=K by omega];rfl
 simp only[beq_eq_false_iff_ne.2 h2,Bool.false_eq_true,if_false]
 unfold two
 simp only[times_eq,shl_eq _ hK,fitU_eq _ hK,fitI_eq hK,show min K 64=K by omega]
 unfold doubled S.full
 cases S.high a.hi (BitVec.ofInt 64 1 <<< K)==BitVec.ofInt 64 0
 all_goals
  cases h5:inI (a.sl*2^K)
  all_goals
   cases h6:inI (a.sh*2^K)
   all_goals simp[h5,h6,wrap_in]
end R
end Go.Proofs.YtfjemlegodhfnaaGreat
