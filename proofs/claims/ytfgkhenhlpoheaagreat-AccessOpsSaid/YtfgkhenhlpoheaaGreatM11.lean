import Derived.Test.YtfgkhenhlpoheaaGreatM10
import Derived.Test.YtfgkhenhlpoheaaGreatM01
import Derived.Lib.BitFns
import Derived.Lib.TrailingZeros
import Derived.Lib.ItoaNum
set_option linter.all false
namespace Go.Proofs.YtfgkhenhlpoheaaGreat
open Go.RowKit
structure Sp where
 lo:BitVec 64
 hi:BitVec 64
 sl:Int
 sh:Int
 deriving DecidableEq
@[reducible] def spv (s:Sp):Go.Sx.SV:=.agg [.u64 s.lo,.u64 s.hi,.int .i64 s.sl,.int .i64 s.sh]
structure Pl where
 lo:BitVec 64
 hi:BitVec 64
 deriving DecidableEq
structure Sg where
 sl:Int
 sh:Int
 deriving DecidableEq
namespace S
def full:Sp:=⟨BitVec.ofInt 64 0,BitVec.ofInt 64 18446744073709551615, -9223372036854775808,9223372036854775807⟩
def one (n:BitVec 64):Sp:=⟨n,n,sv n,sv n⟩
def good (a:Sp):Bool:=decide (a.lo≤a.hi)&&decide (a.sl≤a.sh)
def leq (a b:Sp):Bool:=good a&&(good b&&((decide (b.lo≤a.lo)&&decide (a.hi≤b.hi))&&(decide (b.sl≤a.sl)&&decide (a.sh≤b.sh))))
def has (a:Sp)(n:BitVec 64):Bool:=leq (one n) a
def carry (x y:BitVec 64):BitVec 64:=BitVec.ofNat 64 ((x.toNat+y.toNat) / 18446744073709551616)
def sum (a b:Pl):Pl:=if carry a.hi b.hi==BitVec.ofInt 64 0 then ⟨a.lo+b.lo,a.hi+b.hi⟩ else ⟨BitVec.ofInt 64 0,BitVec.ofInt 64 18446744073709551615⟩
def over (a b:Int):Bool:=(decide (0<a)&&decide (IntKind.i64.wrap (9223372036854775807-a)<b))||(decide (a<0)&&decide (b<IntKind.i64.wrap (-9223372036854775808-a)))
def under (a b:Int):Bool:=(decide (0<b)&&decide (a<IntKind.i64.wrap (-9223372036854775808+b)))||(decide (b<0)&&decide (IntKind.i64.wrap (9223372036854775807+b)<a))
def sums (a b:Sg):Sg:=if over a.sl b.sl||over a.sh b.sh then ⟨-9223372036854775808,9223372036854775807⟩ else ⟨IntKind.i64.wrap (a.sl+b.sl),IntKind.i64.wrap (a.sh+b.sh)⟩
def less (a b:Sp):Sp:=
 let p:Pl:=if decide (b.hi≤a.lo) then ⟨a.lo-b.hi,a.hi-b.lo⟩ else ⟨BitVec.ofInt 64 0,BitVec.ofInt 64 18446744073709551615⟩
 let s:Sg:=if !under a.sl b.sh && !under a.sh b.sl then ⟨IntKind.i64.wrap (a.sl-b.sh),IntKind.i64.wrap (a.sh-b.sl)⟩ else ⟨-9223372036854775808,9223372036854775807⟩
 ⟨p.lo,p.hi,s.sl,s.sh⟩
def high (x y:BitVec 64):BitVec 64:=BitVec.ofNat 64 (x.toNat*y.toNat / 18446744073709551616)
def times (a b:Sp):Sp:=
 let p:Pl:=if high a.hi b.hi==BitVec.ofInt 64 0 then ⟨a.lo*b.lo,a.hi*b.hi⟩ else ⟨BitVec.ofInt 64 0,BitVec.ofInt 64 18446744073709551615⟩
 let s:Sg:=if decide (0≤a.sl)&&decide (0≤b.sl)&&(high (BitVec.ofInt 64 a.sh) (BitVec.ofInt 64 b.sh)==BitVec.ofInt 64 0)&&decide (BitVec.ofInt 64 a.sh*BitVec.ofInt 64 b.sh≤BitVec.ofInt 64 9223372036854775807) then ⟨IntKind.i64.wrap (a.sl*b.sl),sv (BitVec.ofInt 64 a.sh*BitVec.ofInt 64 b.sh)⟩ else ⟨-9223372036854775808,9223372036854775807⟩
 ⟨p.lo,p.hi,s.sl,s.sh⟩
def quotient (a b:Sp):Sp:=
 let p:Pl:=if b.lo != b.hi then ⟨BitVec.ofInt 64 0,a.hi⟩ else if b.lo==BitVec.ofInt 64 0 then ⟨BitVec.ofInt 64 0,BitVec.ofInt 64 0⟩ else ⟨a.lo / b.lo,a.hi / b.lo⟩
 ⟨p.lo,p.hi, -9223372036854775808,9223372036854775807⟩
def rest (a b:Sp):Sp:=
 let p:Pl:=if b.lo != b.hi then ⟨BitVec.ofInt 64 0,a.hi⟩ else if b.lo==BitVec.ofInt 64 0||decide (a.hi<b.lo) then ⟨a.lo,a.hi⟩ else ⟨BitVec.ofInt 64 0,b.lo-BitVec.ofInt 64 1⟩
 ⟨p.lo,p.hi, -9223372036854775808,9223372036854775807⟩
def ones (n:BitVec 64):BitVec 64:=BitVec.ofInt 64 1 <<< bl n-BitVec.ofInt 64 1
def minI (a b:Int):Int:=if b<a then b else a
def maxI (a b:Int):Int:=if a<b then b else a
def minB (a b:BitVec 64):BitVec 64:=if b<a then b else a
def maxB (a b:BitVec 64):BitVec 64:=if a<b then b else a
def and (a b:Sp):Sp:=
 let s0:Sg:=⟨-9223372036854775808,9223372036854775807⟩
 let s1:Sg:=if decide (0≤a.sl) then ⟨0,minI s0.sh a.sh⟩ else s0
 let s2:Sg:=if decide (0≤b.sl) then ⟨0,minI s1.sh b.sh⟩ else s1
 ⟨BitVec.ofInt 64 0,minB a.hi b.hi,s2.sl,s2.sh⟩
def or (a b f:Sp):Sp:=
 let s:Sg:=if decide (0≤a.sl)&&decide (0≤b.sl) then ⟨f.sl,sv (ones (BitVec.ofInt 64 (Go.bits .or .i64 a.sh b.sh)))⟩ else ⟨-9223372036854775808,9223372036854775807⟩
 ⟨f.lo,ones (a.hi ||| b.hi),s.sl,s.sh⟩
def add (a b:Sp):Sp:=
 let p:=sum ⟨a.lo,a.hi⟩ ⟨b.lo,b.hi⟩
 let s:=sums ⟨a.sl,a.sh⟩ ⟨b.sl,b.sh⟩
 ⟨p.lo,p.hi,s.sl,s.sh⟩
def or2 (a b:Sp):Sp:=or a b ⟨maxB a.lo b.lo,0,maxI a.sl b.sl,0⟩
def xor (a b:Sp):Sp:=or a b ⟨0,0,0,0⟩
def way (op:Int):Option (Sp→Sp→Sp):=if op==0 then some add else if op==16 then some less else if op==32 then some times else if op==48 then some quotient else if op==144 then some rest else if op==80 then some and else if op==64 then some or2 else if op==160 then some xor else none
def does (op:Int)(a b:Sp):Sp×Bool:=match way op with
 |some f=>if good a&&good b then (f a b,true) else (⟨0,0,0,0⟩,false)
 |none=>(⟨0,0,0,0⟩,false)
def fitU (n:BitVec 64)(k:Nat):Bool:=n <<< k >>> k==n
def fitI (n:Int)(k:Nat):Bool:=(IntKind.i64.wrap (n*2^min k 64)).fdiv (2^min k 64)==n
def shift (op:Int)(a:Sp)(k:Int):Sp×Bool:=
 if !good a||(decide (k<0)||(decide (63<k)||(op != 96&&(op != 112&&op != 192)))) then (⟨BitVec.ofInt 64 0,BitVec.ofInt 64 0,0,0⟩,false)
 else if k==0 then (a,true)
 else if op==112 then (⟨a.lo >>> k.toNat,a.hi >>> k.toNat,0,Int.fdiv 9223372036854775807 (2^min (IntKind.i64.wrap (k-1)).toNat 64)⟩,true)
 else if op==192 then (⟨full.lo,full.hi,a.sl.fdiv (2^min k.toNat 64),a.sh.fdiv (2^min k.toNat 64)⟩,true)
 else
    let p:Pl:=if fitU a.hi k.toNat then ⟨a.lo <<< k.toNat,a.hi <<< k.toNat⟩ else ⟨full.lo,full.hi⟩
    let s:Sg:=if fitI a.sl k.toNat&&fitI a.sh k.toNat then ⟨IntKind.i64.wrap (a.sl*2^min k.toNat 64),IntKind.i64.wrap (a.sh*2^min k.toNat 64)⟩ else ⟨full.sl,full.sh⟩
    (⟨p.lo,p.hi,s.sl,s.sh⟩,true)
end S
end Go.Proofs.YtfgkhenhlpoheaaGreat
namespace Go.Proofs.YtfgkhenhlpoheaaGreat
open Go.RowKit
structure Wd where
 hi:Int
 lo:BitVec 64
 deriving DecidableEq
namespace R
def signed (n:Int):Wd:=if decide (n<0) then ⟨-1,BitVec.ofInt 64 n⟩ else ⟨0,BitVec.ofInt 64 n⟩
def add (a b:Wd):Wd:=if decide (a.lo+b.lo<a.lo) then ⟨IntKind.i64.wrap (IntKind.i64.wrap (a.hi+b.hi)+1),a.lo+b.lo⟩ else ⟨IntKind.i64.wrap (a.hi+b.hi),a.lo+b.lo⟩
def sub (a b:Wd):Wd:=if decide (a.lo<b.lo) then ⟨IntKind.i64.wrap (IntKind.i64.wrap (a.hi-b.hi)-1),a.lo-b.lo⟩ else ⟨IntKind.i64.wrap (a.hi-b.hi),a.lo-b.lo⟩
def fits (a:Wd):Bool:=a.hi==0
def signs (a:Wd):Bool:=(a.hi==0&&decide (a.lo≤BitVec.ofInt 64 9223372036854775807))||(a.hi == -1&&decide (BitVec.ofInt 64 9223372036854775807<a.lo))
def times (a b:BitVec 64):BitVec 64×Bool:=if a==BitVec.ofInt 64 0||b==BitVec.ofInt 64 0 then (BitVec.ofInt 64 0,true) else (a*b,decide (a≤BitVec.ofInt 64 18446744073709551615 / b))
def two (lo hi:BitVec 64)(is:Bool)(sl sh:Int)(sis:Bool):Sp:=⟨if is then lo else BitVec.ofInt 64 0,if is then hi else BitVec.ofInt 64 18446744073709551615,if sis then sl else -9223372036854775808,if sis then sh else 9223372036854775807⟩
def products (a b:Sp):Sp:=if decide (0≤a.sl)&&decide (0≤b.sl) then
    two (times a.lo b.lo).1 (times a.hi b.hi).1 (times a.hi b.hi).2 (sv (times (BitVec.ofInt 64 a.sl) (BitVec.ofInt 64 b.sl)).1) (sv (times (BitVec.ofInt 64 a.sh) (BitVec.ofInt 64 b.sh)).1) ((times (BitVec.ofInt 64 a.sh) (BitVec.ofInt 64 b.sh)).2&&decide ((times (BitVec.ofInt 64 a.sh) (BitVec.ofInt 64 b.sh)).1≤BitVec.ofInt 64 9223372036854775807))
 else two (times a.lo b.lo).1 (times a.hi b.hi).1 (times a.hi b.hi).2 0 0 false
def rests (op:Int)(a b:Sp):Sp:=
 if op==48&&((b.lo==b.hi)&&(b.lo != BitVec.ofInt 64 0)) then two (a.lo / b.lo) (a.hi / b.lo) true 0 0 false
 else if op==48&&(b.lo==b.hi) then two (BitVec.ofInt 64 0) (BitVec.ofInt 64 0) true 0 0 false
 else if op==144&&((b.lo==b.hi)&&(b.lo==BitVec.ofInt 64 0||decide (a.hi<b.lo))) then two a.lo a.hi true 0 0 false
 else if op==144&&(b.lo==b.hi) then two (BitVec.ofInt 64 0) (b.lo-BitVec.ofInt 64 1) true 0 0 false
 else two (BitVec.ofInt 64 0) a.hi true 0 0 false
def bits (op:Int)(a b:Sp):Sp:=
 let both:=decide (0≤a.sl)&&decide (0≤b.sl)
 let all:=S.ones (a.hi ||| b.hi)
 let sall:=if both then S.ones (BitVec.ofInt 64 (Go.bits .or .i64 a.sh b.sh)) else BitVec.ofInt 64 0
 if op==64 then two (S.maxB a.lo b.lo) all true (S.maxI a.sl b.sl) (sv sall) both
 else if op==160 then two (BitVec.ofInt 64 0) all true 0 (sv sall) both
 else
    let s1:=if decide (0≤a.sl) then S.minI 9223372036854775807 a.sh else 9223372036854775807
    let s2:=if decide (0≤b.sl) then S.minI s1 b.sh else s1
    two (BitVec.ofInt 64 0) (S.minB a.hi b.hi) true 0 s2 (decide (0≤a.sl)||decide (0≤b.sl))
def sum (a b:Sp):Sp:=
 let hi:=add ⟨0,a.hi⟩ ⟨0,b.hi⟩
 let slo:=add (signed a.sl) (signed b.sl)
 let shi:=add (signed a.sh) (signed b.sh)
 two (a.lo+b.lo) hi.lo (fits hi) (sv slo.lo) (sv shi.lo) (signs slo&&signs shi)
def dif (a b:Sp):Sp:=
 let lo:=sub ⟨0,a.lo⟩ ⟨0,b.hi⟩
 let hi:=sub ⟨0,a.hi⟩ ⟨0,b.lo⟩
 let slo:=sub (signed a.sl) (signed b.sh)
 let shi:=sub (signed a.sh) (signed b.sl)
 two lo.lo hi.lo (fits lo) (sv slo.lo) (sv shi.lo) (signs slo&&signs shi)
def does (op:Int)(a b:Sp):Sp×Bool:=
 if S.good a&&S.good b then
    if op==0 then (sum a b,true) else if op==16 then (dif a b,true) else if op==32 then (products a b,true) else if op==48||op==144 then (rests op a b,true) else if op==80||(op==64||op==160) then (bits op a b,true) else (⟨BitVec.ofInt 64 0,BitVec.ofInt 64 0,0,0⟩,false)
 else (⟨BitVec.ofInt 64 0,BitVec.ofInt 64 0,0,0⟩,false)
def inI (n:Int):Bool:=decide (-9223372036854775808≤n)&&decide (n≤9223372036854775807)
def half (n:Int)(k:Nat):Int:=n.fdiv (2^k)
def doubled (n:Int)(k:Nat):Int×Bool:=if inI (n*2^k) then (n*2^k,true) else (0,false)
def shift (op:Int)(a:Sp)(k:Int):Sp×Bool:=
 if !S.good a||(decide (k<0)||(decide (63<k)||(op != 96&&(op != 112&&op != 192)))) then (⟨BitVec.ofInt 64 0,BitVec.ofInt 64 0,0,0⟩,false)
 else if k==0 then (a,true)
 else
    let p:=BitVec.ofInt 64 1 <<< k.toNat
    if op==112 then (⟨a.lo / p,a.hi / p,0,sv (BitVec.ofInt 64 18446744073709551615 / p)⟩,true)
    else if op==192 then (two (BitVec.ofInt 64 0) (BitVec.ofInt 64 0) false (half a.sl k.toNat) (half a.sh k.toNat) true,true)
    else (two (times a.lo p).1 (times a.hi p).1 (times a.hi p).2 (doubled a.sl k.toNat).1 (doubled a.sh k.toNat).1 ((doubled a.sl k.toNat).2&&(doubled a.sh k.toNat).2),true)
end R
end Go.Proofs.YtfgkhenhlpoheaaGreat
namespace Go.Proofs.YtfgkhenhlpoheaaGreat
open Go.RowKit
set_option maxHeartbeats 1000000
namespace R
theorem inI_iff' {n:Int}:inI n=true ↔ -9223372036854775808≤n∧n≤9223372036854775807:=by unfold inI;simp
theorem wrap64 (n:Int):IntKind.i64.wrap n=(n+9223372036854775808) % 18446744073709551616-9223372036854775808:=by
 rw[show IntKind.i64.wrap n=(if (IntKind.i64.signed&&decide (n % (2^64:Int) ≥ (2^63:Int)))=true then n % (2^64:Int)-2^64 else n % (2^64:Int)) from rfl]
 simp only[show IntKind.i64.signed=true from rfl,Bool.true_and,decide_eq_true_eq]
 split<;>omega
theorem wrap_in {n:Int}(h:inI n=true):IntKind.i64.wrap n=n:=by rw[wrap64];have:=inI_iff'.1 h;omega
theorem ofInt_nat (n:Int):((BitVec.ofInt 64 n).toNat:Int)=n % 18446744073709551616:=by
 rw[BitVec.toNat_ofInt];omega
def inS (a:Sp):Bool:=inI a.sl&&inI a.sh
end R
end Go.Proofs.YtfgkhenhlpoheaaGreat
namespace Go.Proofs.YtfgkhenhlpoheaaGreat
open Go.RowKit
set_option maxHeartbeats 2000000
namespace S
open R
structure Le (a b:Sp):Prop where
 lo:b.lo.toNat≤a.lo.toNat
 mid:a.lo.toNat≤a.hi.toNat
 hi:a.hi.toNat≤b.hi.toNat
 sl:b.sl≤a.sl
 smid:a.sl≤a.sh
 sh:a.sh≤b.sh
theorem good_iff {a:Sp}:good a=true↔a.lo.toNat≤a.hi.toNat∧a.sl≤a.sh:=by
 unfold good;simp[BitVec.le_def]
theorem leq_iff {a b:Sp}:leq a b=true↔Le a b:=by
 unfold leq
 simp only[Bool.and_eq_true,good_iff,decide_eq_true_eq,BitVec.le_def]
 constructor
 . rintro⟨⟨h1,h2⟩,⟨h3,h4⟩,⟨h5,h6⟩,h7,h8⟩;exact⟨h5,h1,h6,h7,h2,h8⟩
 . rintro⟨h1,h2,h3,h4,h5,h6⟩;exact⟨⟨h2,h5⟩,⟨by omega,by omega⟩,⟨h1,h3⟩,h4,h6⟩
theorem Le.refl {a:Sp}(h:good a=true):Le a a:=by
 obtain⟨h1,h2⟩:=good_iff.1 h
 exact⟨Nat.le_refl _,h1,Nat.le_refl _,Int.le_refl _,h2,Int.le_refl _⟩
theorem inS_iff {a:Sp}:inS a=true↔(-9223372036854775808≤a.sl∧a.sl≤9223372036854775807)∧(-9223372036854775808≤a.sh∧a.sh≤9223372036854775807):=by
 unfold inS;rw[Bool.and_eq_true,inI_iff',inI_iff']
theorem z_nat:(BitVec.ofInt 64 0).toNat=0:=by decide
theorem top_nat:(BitVec.ofInt 64 18446744073709551615).toNat=18446744073709551615:=by decide
structure PLe (a b:Pl):Prop where
 lo:b.lo.toNat≤a.lo.toNat
 mid:a.lo.toNat≤a.hi.toNat
 hi:a.hi.toNat≤b.hi.toNat
structure SLe (a b:Sg):Prop where
 sl:b.sl≤a.sl
 smid:a.sl≤a.sh
 sh:a.sh≤b.sh
theorem Le.of {p q:Pl}{s t:Sg}(h:PLe p q)(k:SLe s t):Le ⟨p.lo,p.hi,s.sl,s.sh⟩ ⟨q.lo,q.hi,t.sl,t.sh⟩:=⟨h.lo,h.mid,h.hi,k.sl,k.smid,k.sh⟩
def fullP:Pl:=⟨BitVec.ofInt 64 0,BitVec.ofInt 64 18446744073709551615⟩
def fullS:Sg:=⟨-9223372036854775808,9223372036854775807⟩
theorem PLe.full {p:Pl}(h:p.lo.toNat≤p.hi.toNat):PLe p fullP:=⟨by show(BitVec.ofInt 64 0).toNat≤_;rw[z_nat];omega,h,by show _≤(BitVec.ofInt 64 18446744073709551615).toNat;rw[top_nat];have:=p.hi.isLt;omega⟩
theorem SLe.full {s:Sg}(h:s.sl≤s.sh)(h1 : -9223372036854775808≤s.sl)(h2:s.sh≤9223372036854775807):SLe s fullS:=⟨h1,h,h2⟩
theorem Le.p {a b:Sp}(h:Le a b):PLe ⟨a.lo,a.hi⟩ ⟨b.lo,b.hi⟩:=⟨h.lo,h.mid,h.hi⟩
theorem Le.s {a b:Sp}(h:Le a b):SLe ⟨a.sl,a.sh⟩ ⟨b.sl,b.sh⟩:=⟨h.sl,h.smid,h.sh⟩
theorem Le.plain {p q:Pl}(h:PLe p q):Le ⟨p.lo,p.hi, -9223372036854775808,9223372036854775807⟩ ⟨q.lo,q.hi, -9223372036854775808,9223372036854775807⟩:=⟨h.lo,h.mid,h.hi,Int.le_refl _,(by show(-9223372036854775808:Int)≤9223372036854775807;decide),Int.le_refl _⟩
theorem eq_toNat {x y:BitVec 64}:x=y↔x.toNat=y.toNat:=⟨fun h=>by rw[h],BitVec.eq_of_toNat_eq⟩
theorem minB_nat (a b:BitVec 64):(minB a b).toNat=min a.toNat b.toNat:=by
 unfold minB;split
 . rename_i h;rw[BitVec.lt_def] at h;omega
 . rename_i h;rw[BitVec.lt_def] at h;omega
theorem maxB_nat (a b:BitVec 64):(maxB a b).toNat=max a.toNat b.toNat:=by
 unfold maxB;split
 . rename_i h;rw[BitVec.lt_def] at h;omega
 . rename_i h;rw[BitVec.lt_def] at h;omega
theorem minI_eq (a b:Int):minI a b=min a b:=by unfold minI;split<;>omega
theorem maxI_eq (a b:Int):maxI a b=max a b:=by unfold maxI;split<;>omega
theorem sv_small {x:BitVec 64}(h:x.toNat<9223372036854775808):sv x=(x.toNat:Int):=by
 unfold sv;rw[BitVec.toInt_eq_toNat_bmod,Int.bmod_def];split<;>omega
theorem sv_big {x:BitVec 64}(h : ¬ x.toNat<9223372036854775808):sv x=(x.toNat:Int)-18446744073709551616:=by
 have:=x.isLt
 unfold sv;rw[BitVec.toInt_eq_toNat_bmod,Int.bmod_def];split<;>omega
theorem sv_in (x:BitVec 64) : -9223372036854775808≤sv x∧sv x≤9223372036854775807:=by
 have:=x.isLt
 by_cases h:x.toNat<9223372036854775808
 . rw[sv_small h];omega
 . rw[sv_big h];omega
theorem one_in (x:BitVec 64):inS (one x)=true:=inS_iff.2 ⟨sv_in x,sv_in x⟩
theorem has_iff {a:Sp}{x:BitVec 64}:has a x=true↔Le (one x) a:=by unfold has;exact leq_iff
theorem ofInt_sv (x:BitVec 64):BitVec.ofInt 64 (sv x)=x:=by unfold sv;exact BitVec.ofInt_toInt
theorem PLe.one {c:Bool}{n:BitVec 64}{p:Pl}(h:c=true→p.lo.toNat≤n.toNat∧n.toNat≤p.hi.toNat):PLe ⟨n,n⟩ (if c=true then p else fullP):=by
 cases c
 . exact PLe.full (Nat.le_refl _)
 . exact⟨(h rfl).1,Nat.le_refl _,(h rfl).2⟩
theorem SLe.one {c:Bool}{n:BitVec 64}{s:Sg}(h:c=true→s.sl≤sv n∧sv n≤s.sh):SLe ⟨sv n,sv n⟩ (if c=true then s else fullS):=by
 cases c
 . exact SLe.full (Int.le_refl _) (sv_in n).1 (sv_in n).2
 . exact⟨(h rfl).1,Int.le_refl _,(h rfl).2⟩
theorem Le.trans {a b c:Sp}(h:Le a b)(k:Le b c):Le a c:=⟨Nat.le_trans k.lo h.lo,h.mid,Nat.le_trans h.hi k.hi,Int.le_trans k.sl h.sl,h.smid,Int.le_trans h.sh k.sh⟩
end S
end Go.Proofs.YtfgkhenhlpoheaaGreat
namespace Go.Proofs.YtfgkhenhlpoheaaGreat
open Go.RowKit
structure Tn where
 v:BitVec 64
 m:BitVec 64
 deriving DecidableEq
namespace T
def right (t:Tn):Bool:=t.v &&& t.m==0#64
def has (t:Tn)(n:BitVec 64):Bool:=right t&&(n &&& ~~~t.m==t.v)
def leq (a b:Tn):Bool:=right a&&right b&&(a.m &&& ~~~b.m==0#64)&&(a.v &&& ~~~b.m==b.v)
def meet (a b:Tn):Tn×Bool:=if !right a || !right b||((a.v ^^^ b.v) &&& ~~~a.m &&& ~~~b.m != 0#64) then (⟨0,0⟩,false) else (⟨a.v ||| b.v,a.m &&& b.m⟩,true)
def join2 (a b:Tn):Tn:=⟨a.v &&& ~~~(a.m ||| b.m ||| (a.v ^^^ b.v)),a.m ||| b.m ||| (a.v ^^^ b.v)⟩
def range (lo hi:BitVec 64):Tn:=
 if hi<lo then ⟨0,BitVec.allOnes 64⟩ else
 let m:=if lo=hi then 0 else BitVec.allOnes 64 >>> (64-bl (lo ^^^ hi))
 ⟨lo &&& ~~~m,m⟩
def sum (a b:Tn):Tn:=let m:=(a.v+b.v+(a.m+b.m) ^^^ (a.v+b.v)) ||| a.m ||| b.m;⟨(a.v+b.v) &&& ~~~m,m⟩
def difference (a b:Tn):Tn:=let m:=((a.v-b.v+a.m) ^^^ (a.v-b.v-b.m)) ||| a.m ||| b.m;⟨(a.v-b.v) &&& ~~~m,m⟩
def and (a b:Tn):Tn:=⟨a.v &&& b.v,(a.v ||| a.m) &&& (b.v ||| b.m) &&& ~~~(a.v &&& b.v)⟩
def or (a b:Tn):Tn:=⟨a.v ||| b.v,(a.m ||| b.m) &&& ~~~(a.v ||| b.v)⟩
def xor (a b:Tn):Tn:=⟨(a.v ^^^ b.v) &&& ~~~(a.m ||| b.m),a.m ||| b.m⟩
def product (a b:Tn):Tn:=let m:=BitVec.allOnes 64 <<< min (tz a.m) (tz b.m);⟨a.v*b.v &&& ~~~m,m⟩
def knows (op:BitVec 8):Bool:=op==0#8||op==16#8||op==80#8||op==64#8||op==160#8||op==32#8
def opOf (op:BitVec 8)(a b:Tn):Tn:=
 if op=0#8 then T.sum a b else if op=16#8 then T.difference a b else if op=80#8 then T.and a b else if op=64#8 then T.or a b else if op=160#8 then T.xor a b else if op=32#8 then T.product a b else ⟨0,0⟩
def does (op:BitVec 8)(a b:Tn):Tn×Bool:=if knows op&&right a&&right b then (opOf op a b,true) else (⟨0,0⟩,false)
def join (L:List Tn):Tn:=match L.filter T.right with
 |[]=>⟨0,BitVec.allOnes 64⟩
 |t::r=>r.foldl T.join2 t
end T
end Go.Proofs.YtfgkhenhlpoheaaGreat
namespace Go.Proofs.YtfgkhenhlpoheaaGreat
open Go.RowKit
namespace T
theorem bv_eq {x y:BitVec 64}:x=y ↔ ∀ i,i<64→x.getLsbD i=y.getLsbD i:=⟨fun h i _=>by rw[h],fun h=>BitVec.eq_of_getLsbD_eq h⟩
theorem right_iff {t:Tn}:right t=true ↔ ∀ i,i<64→(t.v.getLsbD i&&t.m.getLsbD i)=false:=by
 unfold right;rw[beq_iff_eq,bv_eq]
 exact⟨fun h i hi=>by simpa using h i hi,fun h i hi=>by simpa using h i hi⟩
theorem has_iff {t:Tn}{n:BitVec 64}:has t n=true ↔ ∀ i,i<64→((t.v.getLsbD i&&t.m.getLsbD i)=false∧(n.getLsbD i && !t.m.getLsbD i)=t.v.getLsbD i):=by
 unfold has;rw[Bool.and_eq_true,right_iff,beq_iff_eq,bv_eq]
 constructor
 . rintro⟨h1,h2⟩ i hi;have:=h2 i hi;simp[hi] at this;exact⟨h1 i hi,this⟩
 . intro h;exact⟨fun i hi=>(h i hi).1,fun i hi=>by have:=(h i hi).2;simpa [hi] using this⟩
theorem leq_iff {a b:Tn}:leq a b=true ↔ ∀ i,i<64→((a.v.getLsbD i&&a.m.getLsbD i)=false∧(b.v.getLsbD i&&b.m.getLsbD i)=false∧(a.m.getLsbD i && !b.m.getLsbD i)=false∧(a.v.getLsbD i && !b.m.getLsbD i)=b.v.getLsbD i):=by
 unfold leq;rw[Bool.and_eq_true,Bool.and_eq_true,Bool.and_eq_true,right_iff,right_iff,beq_iff_eq,beq_iff_eq,bv_eq,bv_eq]
 constructor
 . rintro⟨⟨⟨h1,h2⟩,h3⟩,h4⟩ i hi
   have h3':=h3 i hi;have h4':=h4 i hi
   exact⟨h1 i hi,h2 i hi,by simpa [hi] using h3',by simpa [hi] using h4'⟩
 . intro h
   refine⟨⟨⟨fun i hi=>(h i hi).1,fun i hi=>(h i hi).2.1⟩,fun i hi => ?_⟩,fun i hi => ?_⟩
   . have:=(h i hi).2.2.1;simpa [hi] using this
   . have:=(h i hi).2.2.2;simpa [hi] using this
theorem ext {a b:Tn}(hv:∀ i,i<64→a.v.getLsbD i=b.v.getLsbD i)(hm:∀ i,i<64→a.m.getLsbD i=b.m.getLsbD i):a=b:=by
 cases a;cases b;congr 1
 . exact bv_eq.2 hv
 . exact bv_eq.2 hm
theorem leq_refl {a:Tn}(h:right a=true):leq a a=true:=leq_iff.2 fun i hi=>by
 have:=right_iff.1 h i hi
 revert this;cases a.v.getLsbD i<;>cases a.m.getLsbD i<;>simp
theorem leq_antisymm {a b:Tn}(h1:leq a b=true)(h2:leq b a=true):a=b:=by
 apply ext
 all_goals
  intro i hi
  have p:=leq_iff.1 h1 i hi;have q:=leq_iff.1 h2 i hi
  revert p q;cases a.v.getLsbD i<;>cases a.m.getLsbD i<;>cases b.v.getLsbD i<;>cases b.m.getLsbD i<;>simp
theorem leq_trans {a b c:Tn}(h1:leq a b=true)(h2:leq b c=true):leq a c=true:=leq_iff.2 fun i hi=>by
 have p:=leq_iff.1 h1 i hi;have q:=leq_iff.1 h2 i hi
 revert p q;cases a.v.getLsbD i<;>cases a.m.getLsbD i<;>cases b.v.getLsbD i<;>cases b.m.getLsbD i<;>cases c.v.getLsbD i<;>cases c.m.getLsbD i<;>simp
theorem leq_has {a b:Tn}{n:BitVec 64}(h:leq a b=true)(hn:has a n=true):has b n=true:=has_iff.2 fun i hi=>by
 have p:=leq_iff.1 h i hi;have q:=has_iff.1 hn i hi
 revert p q;cases a.v.getLsbD i<;>cases a.m.getLsbD i<;>cases b.v.getLsbD i<;>cases b.m.getLsbD i<;>cases n.getLsbD i<;>simp
theorem meet_bits {a b:Tn}(ha:right a=true)(hb:right b=true)(h:(meet a b).2=true):
  meet a b=(⟨a.v ||| b.v,a.m &&& b.m⟩,true)∧∀ i,i<64→((a.v.getLsbD i ^^ b.v.getLsbD i) && !a.m.getLsbD i && !b.m.getLsbD i)=false:=by
 unfold meet at h ⊢
 split at h
 . cases h
 . rename_i hc
   rw[if_neg hc]
   refine⟨rfl,fun i hi => ?_⟩
   simp only[ha,hb,Bool.not_true,Bool.false_or,bne_iff_ne,ne_eq,Decidable.not_not] at hc
   have:=bv_eq.1 hc i hi
   simpa [hi] using this
theorem meet_no {a b:Tn}(ha:right a=true)(hb:right b=true)(h:(meet a b).2=false):∃ i,i<64∧((a.v.getLsbD i ^^ b.v.getLsbD i) && !a.m.getLsbD i && !b.m.getLsbD i)=true:=by
 unfold meet at h
 split at h
 . rename_i hc
   simp only[ha,hb,Bool.not_true,Bool.false_or,bne_iff_ne,ne_eq] at hc
   apply Classical.byContradiction
   intro hn
   apply hc
   rw[bv_eq]
   intro i hi
   have : ¬ (((a.v.getLsbD i ^^ b.v.getLsbD i) && !a.m.getLsbD i && !b.m.getLsbD i)=true):=fun e=>hn ⟨i,hi,e⟩
   simpa [hi] using this
 . cases h
theorem meet_has {a b:Tn}(ha:right a=true)(hb:right b=true)(n:BitVec 64):(has a n&&has b n)=((meet a b).2&&has (meet a b).1 n):=by
 cases hm:(meet a b).2 with
 |true=>
  obtain⟨e,hbits⟩:=meet_bits ha hb hm
  rw[e,Bool.true_and,Bool.eq_iff_iff,Bool.and_eq_true,has_iff,has_iff,has_iff]
  constructor
  . rintro⟨h1,h2⟩ i hi
    have p:=h1 i hi;have q:=h2 i hi;have r:=hbits i hi
    simp only[BitVec.getLsbD_and,BitVec.getLsbD_or]
    revert p q r;cases a.v.getLsbD i<;>cases a.m.getLsbD i<;>cases b.v.getLsbD i<;>cases b.m.getLsbD i<;>cases n.getLsbD i<;>simp
  . intro h
    refine⟨fun i hi => ?_,fun i hi => ?_⟩
    all_goals
        have p:=h i hi;have q:=right_iff.1 ha i hi;have q':=right_iff.1 hb i hi;have r:=hbits i hi
        simp only[BitVec.getLsbD_and,BitVec.getLsbD_or] at p
        revert p q q' r;cases a.v.getLsbD i<;>cases a.m.getLsbD i<;>cases b.v.getLsbD i<;>cases b.m.getLsbD i<;>cases n.getLsbD i<;>simp
 |false=>
  rw[Bool.false_and]
  obtain⟨i,hi,hx⟩:=meet_no ha hb hm
  apply Bool.eq_false_iff.2
  intro h
  rw[Bool.and_eq_true,has_iff,has_iff] at h
  have p:=h.1 i hi;have q:=h.2 i hi
  revert p q hx;cases a.v.getLsbD i<;>cases a.m.getLsbD i<;>cases b.v.getLsbD i<;>cases b.m.getLsbD i<;>cases n.getLsbD i<;>simp
theorem meet_leq {a b:Tn}(ha:right a=true)(hb:right b=true)(h:(meet a b).2=true):leq (meet a b).1 a=true∧leq (meet a b).1 b=true:=by
 obtain⟨e,hbits⟩:=meet_bits ha hb h
 rw[e]
 constructor
 all_goals
  rw[leq_iff]
  intro i hi
  have q:=right_iff.1 ha i hi;have q':=right_iff.1 hb i hi;have r:=hbits i hi
  simp only[BitVec.getLsbD_and,BitVec.getLsbD_or]
  revert q q' r;cases a.v.getLsbD i<;>cases a.m.getLsbD i<;>cases b.v.getLsbD i<;>cases b.m.getLsbD i<;>simp
end T
end Go.Proofs.YtfgkhenhlpoheaaGreat
namespace Go.Proofs.YtfgkhenhlpoheaaGreat
open Go.RowKit
namespace T
def mk (f:Nat→Bool):Nat→BitVec 64
 |0=>0
 |j+1=>if f j then mk f j ||| (1#64 <<< j) else mk f j
theorem one_bit {i j:Nat}(hi:i<64):(1#64 <<< j).getLsbD i=decide (i=j):=by
 simp only[BitVec.getLsbD_shiftLeft,hi,decide_true,Bool.true_and,BitVec.getLsbD_one]
 by_cases h:i=j
 . subst h;simp
 . simp[h];omega
theorem mk_bit (f:Nat→Bool):∀ (j i:Nat),i<64→(mk f j).getLsbD i=(decide (i<j)&&f i)
 |0,i,hi=>by simp[mk]
 |j+1,i,hi=>by
  have ih:=mk_bit f j i hi
  unfold mk
  split
  . rename_i h
    rw[BitVec.getLsbD_or,ih,one_bit hi]
    by_cases e:i=j
    . subst e;simp[h]
    . simp only[e,decide_false,Bool.or_false]
      congr 1;exact decide_eq_decide.2 (by omega)
  . rename_i h
    rw[ih]
    by_cases e:i=j
    . subst e;simp[h]
    . congr 1;exact decide_eq_decide.2 (by omega)
def may (t:Tn)(i:Nat)(b:Bool):Bool:=t.m.getLsbD i||(t.v.getLsbD i==b)
def cb (less p q c:Bool):Bool:=if less then (!p&&(q||c))||(q&&c) else (p&&q)||(p&&c)||(q&&c)
structure St where
 x:BitVec 64
 y:BitVec 64
 c0:Bool
 c1:Bool
def fy (p1 p0 q1 q0 c0 c1:Bool):Bool:=(c0&&((p0&&q0)||(p1&&q1)))||(c1&&((p1&&q0)||(p0&&q1)))
def n1 (less p1 p0 q1 q0 c0 c1:Bool):Bool:=
 (c0&&((p0&&q0&&cb less false false false)||(p1&&q0&&cb less true false false)||(p0&&q1&&cb less false true false)||(p1&&q1&&cb less true true false))) ||
 (c1&&((p0&&q0&&cb less false false true)||(p1&&q0&&cb less true false true)||(p0&&q1&&cb less false true true)||(p1&&q1&&cb less true true true)))
def n0 (less p1 p0 q1 q0 c0 c1:Bool):Bool:=
 (c0&&((p0&&q0 && !cb less false false false)||(p1&&q0 && !cb less true false false)||(p0&&q1 && !cb less false true false)||(p1&&q1 && !cb less true true false))) ||
 (c1&&((p0&&q0 && !cb less false false true)||(p1&&q0 && !cb less true false true)||(p0&&q1 && !cb less false true true)||(p1&&q1 && !cb less true true true)))
def cs (less:Bool)(a b:Tn):Nat→Bool×Bool
 |0=>(true,false)
 |i+1=>(n0 less (may a i true) (may a i false) (may b i true) (may b i false) (cs less a b i).1 (cs less a b i).2,n1 less (may a i true) (may a i false) (may b i true) (may b i false) (cs less a b i).1 (cs less a b i).2)
def sy (less:Bool)(a b:Tn)(i:Nat):Bool:=fy (may a i true) (may a i false) (may b i true) (may b i false) (cs less a b i).1 (cs less a b i).2
theorem ext64 {x y:BitVec 64}(h:∀ i,i<64→x.getLsbD i=y.getLsbD i):x=y:=BitVec.eq_of_getLsbD_eq h
theorem right_bit {t:Tn}(h:right t=true)(i:Nat):(t.v.getLsbD i&&t.m.getLsbD i)=false:=by
 by_cases hi:i<64
 . exact right_iff.1 h i hi
 . rw[BitVec.getLsbD_of_ge t.v i (by omega)];rfl
end T
end Go.Proofs.YtfgkhenhlpoheaaGreat
namespace Go.Proofs.YtfgkhenhlpoheaaGreat
open Go.RowKit
set_option maxHeartbeats 1000000
namespace T
theorem low_mask:∀ i:Fin 64,BitVec.allOnes 64 >>> (64 - (i.val+1))=(1#64 <<< i.val <<< 1)-1#64:=by decide
theorem bl_of {x:BitVec 64}{i:Nat}(hi:i<64)(h1:x.getLsbD i=true)(h2:∀ k,i<k→k<64→x.getLsbD k=false):bl x=i+1:=by
 have ge:2^i≤x.toNat:=Nat.ge_two_pow_of_testBit h1
 have lt:x.toNat<2 ^ (i+1):=by
  apply Nat.lt_pow_two_of_testBit
  intro k hk
  by_cases hk2:k<64
  . exact h2 k (by omega) hk2
  . exact Nat.testBit_lt_two_pow (Nat.lt_of_lt_of_le x.isLt (Nat.pow_le_pow_right (by omega) (by omega)))
 have e:x.toNat / 2^i=1:=by
  apply Nat.div_eq_of_lt_le
  . simpa using ge
  . rw[Nat.pow_succ] at lt;omega
 unfold bl
 rw[Lib.bitLen_shift i x.toNat ge x.isLt,e]
 rfl
theorem range_at {lo hi:BitVec 64}{i:Nat}(hi2:i<64)(hle : ¬ hi<lo)(h1:(lo.getLsbD i != hi.getLsbD i)=true)(h2:∀ k,i<k→k<64→lo.getLsbD k=hi.getLsbD k):
  range lo hi=⟨lo &&& ~~~((1#64 <<< i <<< 1)-1#64),(1#64 <<< i <<< 1)-1#64⟩:=by
 have hne:lo≠hi:=by rintro rfl;simp at h1
 have hb:bl (lo ^^^ hi)=i+1:=bl_of hi2 (by simpa using h1) fun k hk hk2=>by simp[h2 k hk hk2]
 unfold range
 rw[if_neg hle]
 simp only[hne,if_false,hb]
 have e:=low_mask ⟨i,hi2⟩
 simp only at e
 rw[e]
theorem range_same {lo hi:BitVec 64}(h2:∀ k,k<64→lo.getLsbD k=hi.getLsbD k):range lo hi=⟨lo,0⟩:=by
 have e:lo=hi:=ext64 h2
 subst e
 have h0 : ¬ lo<lo:=by simp[BitVec.lt_def]
 unfold range
 rw[if_neg h0]
 simp only[if_true]
 congr 1
 apply ext64;intro i hi
 rw[BitVec.getLsbD_and,BitVec.getLsbD_not];simp[hi]
theorem has_bit {t:Tn}{n:BitVec 64}(h:has t n=true)(i:Nat):(t.v.getLsbD i&&t.m.getLsbD i)=false∧(n.getLsbD i && !t.m.getLsbD i)=t.v.getLsbD i:=by
 by_cases hi:i<64
 . exact has_iff.1 h i hi
 . rw[BitVec.getLsbD_of_ge t.v i (by omega),BitVec.getLsbD_of_ge n i (by omega)];exact⟨rfl,rfl⟩
theorem has_right {t:Tn}{n:BitVec 64}(h:has t n=true):right t=true:=by unfold has at h;simp only[Bool.and_eq_true] at h;exact h.1
end T
end Go.Proofs.YtfgkhenhlpoheaaGreat
namespace Go.Proofs.YtfgkhenhlpoheaaGreat
open Go.RowKit
set_option maxHeartbeats 1000000
structure Sc where
 t:Tn
 s:Sp
 deriving DecidableEq
@[reducible] def scv (x:Sc):Go.Sx.SV:=.agg [.u64 x.t.v,.u64 x.t.m,.u64 x.s.lo,.u64 x.s.hi,.int .i64 x.s.sl,.int .i64 x.s.sh]
namespace C
open R S
def r1 (x:Sc):Sc:=⟨x.t,⟨maxB x.s.lo x.t.v,minB x.s.hi (x.t.v ||| x.t.m),x.s.sl,x.s.sh⟩⟩
def ok1 (x:Sc):Bool:=decide ((r1 x).s.lo≤(r1 x).s.hi)
def r2 (x:Sc):Sc:=⟨(T.meet x.t (T.range x.s.lo x.s.hi)).1,x.s⟩
def ok2 (x:Sc):Bool:=(T.meet x.t (T.range x.s.lo x.s.hi)).2
def top (x:Sc):Bool:=x.s.lo >>> 63==x.s.hi >>> 63
def r3 (x:Sc):Sc:=if top x then ⟨x.t,⟨x.s.lo,x.s.hi,maxI x.s.sl (sv x.s.lo),minI x.s.sh (sv x.s.hi)⟩⟩ else x
def ok3 (x:Sc):Bool:=decide ((r3 x).s.sl≤(r3 x).s.sh)
def sgn (x:Sc):Bool:=decide (x.s.sl<0)==decide (x.s.sh<0)
def r4 (x:Sc):Sc:=if sgn x then ⟨x.t,⟨maxB x.s.lo (BitVec.ofInt 64 x.s.sl),minB x.s.hi (BitVec.ofInt 64 x.s.sh),x.s.sl,x.s.sh⟩⟩ else x
def ok4 (x:Sc):Bool:=decide ((r4 x).s.lo≤(r4 x).s.hi)
def step (x:Sc):Option Sc:=
 if ok1 x then if ok2 (r1 x) then if ok3 (r2 (r1 x)) then if ok4 (r3 (r2 (r1 x))) then some (r4 (r3 (r2 (r1 x)))) else none else none else none else none
def mu (x:Sc):Nat:=(x.s.hi.toNat-x.s.lo.toNat)+(x.s.sh-x.s.sl).toNat+x.t.m.toNat
def togF:Nat→Sc→Option Sc
 |0,_=>none
 |k+1,x=>match step x with
  |none=>none
  |some y=>if y=x then some x else togF k y
def tog (x:Sc):Option Sc:=togF (mu x+1) x
structure Good (x:Sc):Prop where
 t:T.right x.t=true
 p:x.s.lo.toNat≤x.s.hi.toNat
 g:x.s.sl≤x.s.sh
 i:R.inS x.s=true
structure Sub (y x:Sc):Prop where
 lo:x.s.lo.toNat≤y.s.lo.toNat
 hi:y.s.hi.toNat≤x.s.hi.toNat
 sl:x.s.sl≤y.s.sl
 sh:y.s.sh≤x.s.sh
 t:T.leq y.t x.t=true
theorem Sub.trans {a b c:Sc}(h:Sub a b)(k:Sub b c):Sub a c:=⟨Nat.le_trans k.lo h.lo,Nat.le_trans h.hi k.hi,Int.le_trans k.sl h.sl,Int.le_trans h.sh k.sh,T.leq_trans h.t k.t⟩
theorem Sub.refl {a:Sc}(h:T.right a.t=true):Sub a a:=⟨Nat.le_refl _,Nat.le_refl _,Int.le_refl _,Int.le_refl _,T.leq_refl h⟩
theorem leq_right {a b:Tn}(h:T.leq a b=true):T.right a=true∧T.right b=true:=by
 unfold T.leq at h;simp only[Bool.and_eq_true] at h;exact⟨h.1.1.1,h.1.1.2⟩
theorem leq_m {a b:Tn}(h:T.leq a b=true):a.m.toNat≤b.m.toNat∧(a.m=b.m→a=b):=by
 have hb:=T.leq_iff.1 h
 constructor
 . have:a.m=a.m &&& b.m:=T.ext64 fun i hi=>by
    have:=hb i hi
    simp only[BitVec.getLsbD_and]
    revert this;cases a.m.getLsbD i<;>cases b.m.getLsbD i<;>simp
   rw[this,BitVec.toNat_and];exact Nat.and_le_right
 . intro e
   apply T.ext
   . intro i hi
     have:=hb i hi
     rw[e] at this
     revert this;cases a.v.getLsbD i<;>cases b.v.getLsbD i<;>cases b.m.getLsbD i<;>simp
   . intro i hi;rw[e]
theorem sc_ext {x y:Sc}(h1:x.t=y.t)(h2:x.s.lo.toNat=y.s.lo.toNat)(h3:x.s.hi.toNat=y.s.hi.toNat)(h4:x.s.sl=y.s.sl)(h5:x.s.sh=y.s.sh):x=y:=by
 obtain⟨t,a,b,c,d⟩:=x;obtain⟨u,e,f,g,h⟩:=y
 simp only at h1 h2 h3 h4 h5
 subst h1;subst h4;subst h5
 rw[eq_toNat.2 h2,eq_toNat.2 h3]
theorem mu_lt {x y:Sc}(h:Sub y x)(gy:Good y)(hne:y≠x):mu y<mu x:=by
 have h1:=h.lo;have h2:=h.hi;have h3:=h.sl;have h4:=h.sh
 have g1:=gy.p;have g2:=gy.g
 obtain⟨h5,h6⟩:=leq_m h.t
 unfold mu
 by_cases e:x.s.lo.toNat=y.s.lo.toNat∧x.s.hi.toNat=y.s.hi.toNat∧x.s.sl=y.s.sl∧x.s.sh=y.s.sh
 . have hm:y.t.m.toNat≠x.t.m.toNat:=fun hm=>hne (sc_ext (h6 (eq_toNat.2 hm)) e.1.symm e.2.1.symm e.2.2.1.symm e.2.2.2.symm)
   omega
 . omega
theorem tog_eq {x:Sc}(hs:∀ z,Good z→∀ y,step z=some y→Sub y z∧Good y):∀ (k:Nat) (z:Sc),Good z→mu z<k→togF k z=tog z:=by
 have key:∀ n,∀ (k l:Nat) (z:Sc),mu z≤n→Good z→mu z<k→mu z<l→togF k z=togF l z:=by
  intro n
  induction n with
  |zero=>
   intro k l z hn gz hk hl
   obtain⟨k',rfl⟩:∃ k',k=k'+1:=⟨k-1,by omega⟩
   obtain⟨l',rfl⟩:∃ l',l=l'+1:=⟨l-1,by omega⟩
   simp only[togF]
   cases hst:step z with
   |none=>rfl
   |some y=>
    simp only
    by_cases e:y=z
    . rw[if_pos e,if_pos e]
    . have:=mu_lt (hs z gz y hst).1 (hs z gz y hst).2 e
      omega
  |succ n ih=>
   intro k l z hn gz hk hl
   obtain⟨k',rfl⟩:∃ k',k=k'+1:=⟨k-1,by omega⟩
   obtain⟨l',rfl⟩:∃ l',l=l'+1:=⟨l-1,by omega⟩
   simp only[togF]
   cases hst:step z with
   |none=>rfl
   |some y=>
    simp only
    by_cases e:y=z
    . rw[if_pos e,if_pos e]
    . rw[if_neg e,if_neg e]
      have:=mu_lt (hs z gz y hst).1 (hs z gz y hst).2 e
      exact ih k' l' y (by omega) (hs z gz y hst).2 (by omega) (by omega)
 intro k z gz hk
 exact key (mu z) k (mu z+1) z (Nat.le_refl _) gz hk (by omega)
theorem step_ok {z:Sc}(gz:Good z){y:Sc}(h:step z=some y):Sub y z∧Good y:=by
 unfold step at h
 split at h
 . rename_i k1
   split at h
   . rename_i k2
     split at h
     . rename_i k3
       split at h
       . rename_i k4
         obtain rfl:=Option.some.inj h
         have gi:=inS_iff.1 gz.i
         have s1:Sub (r1 z) z∧Good (r1 z):=by
          have h1:(r1 z).s.lo.toNat≤(r1 z).s.hi.toNat:=of_decide_eq_true k1
          refine⟨⟨?_,?_,Int.le_refl _,Int.le_refl _,T.leq_refl gz.t⟩,⟨gz.t,h1,gz.g,gz.i⟩⟩
          . simp only[r1,maxB_nat];omega
          . simp only[r1,minB_nat];omega
         have s2:Sub (r2 (r1 z)) (r1 z)∧Good (r2 (r1 z)):=by
          have hr:T.right (T.range (r1 z).s.lo (r1 z).s.hi)=true:=by
           unfold ok2 T.meet at k2
           split at k2
           . cases k2
           . rename_i hc;simp at hc;exact hc.1.2
          have hl:=(T.meet_leq s1.2.t hr k2).1
          exact⟨⟨Nat.le_refl _,Nat.le_refl _,Int.le_refl _,Int.le_refl _,hl⟩,⟨(leq_right hl).1,s1.2.p,s1.2.g,s1.2.i⟩⟩
         have s3:Sub (r3 (r2 (r1 z))) (r2 (r1 z))∧Good (r3 (r2 (r1 z))):=by
          generalize r2 (r1 z)=w at s2 k3 ⊢
          have gw:=s2.2
          have gi:=inS_iff.1 gw.i
          have h3:(r3 w).s.sl≤(r3 w).s.sh:=of_decide_eq_true k3
          have v1:=sv_in w.s.lo;have v2:=sv_in w.s.hi
          unfold r3 at h3 ⊢
          split
          . rename_i hc
            rw[if_pos hc] at h3
            simp only[maxI_eq,minI_eq] at h3
            refine⟨⟨Nat.le_refl _,Nat.le_refl _,?_,?_,T.leq_refl gw.t⟩,⟨gw.t,gw.p,?_,inS_iff.2 ?_⟩⟩
            . simp only[maxI_eq];omega
            . simp only[minI_eq];omega
            . simp only[maxI_eq,minI_eq];omega
            . simp only[maxI_eq,minI_eq];omega
          . exact⟨Sub.refl gw.t,gw⟩
         have s4:Sub (r4 (r3 (r2 (r1 z)))) (r3 (r2 (r1 z)))∧Good (r4 (r3 (r2 (r1 z)))):=by
          generalize r3 (r2 (r1 z))=w at s3 k4 ⊢
          have gw:=s3.2
          have h4:(r4 w).s.lo.toNat≤(r4 w).s.hi.toNat:=of_decide_eq_true k4
          unfold r4 at h4 ⊢
          split
          . rename_i hc
            rw[if_pos hc] at h4
            simp only[maxB_nat,minB_nat] at h4
            refine⟨⟨?_,?_,Int.le_refl _,Int.le_refl _,T.leq_refl gw.t⟩,⟨gw.t,?_,gw.g,gw.i⟩⟩
            . simp only[maxB_nat];omega
            . simp only[minB_nat];omega
            . simp only[maxB_nat,minB_nat];omega
          . exact⟨Sub.refl gw.t,gw⟩
         exact⟨((s4.1.trans s3.1).trans s2.1).trans s1.1,s4.2⟩
       . cases h
     . cases h
   . cases h
 . cases h
theorem tog_step {x:Sc}(gx:Good x):tog x=match step x with|none=>none|some y=>if y=x then some x else tog y:=by
 show togF (mu x+1) x=_
 simp only[togF]
 cases hst:step x with
 |none=>rfl
 |some y=>
  simp only
  by_cases e:y=x
  . rw[if_pos e,if_pos e]
  . rw[if_neg e,if_neg e]
    have h:=step_ok gx hst
    exact tog_eq (x:=x) (fun z gz y h=>step_ok gz h) _ y h.2 (mu_lt h.1 h.2 e)
theorem tog_some:∀ (n:Nat) (x y:Sc),mu x≤n→Good x→tog x=some y→step y=some y∧Sub y x∧Good y:=by
 intro n
 induction n with
 |zero=>
  intro x y hn gx h
  rw[tog_step gx] at h
  cases hst:step x with
  |none=>rw[hst] at h;cases h
  |some z=>
   rw[hst] at h
   simp only at h
   by_cases e:z=x
   . rw[if_pos e] at h;obtain rfl:=Option.some.inj h;subst e;exact⟨hst,Sub.refl gx.t,gx⟩
   . have:=mu_lt (step_ok gx hst).1 (step_ok gx hst).2 e;omega
 |succ n ih=>
  intro x y hn gx h
  rw[tog_step gx] at h
  cases hst:step x with
  |none=>rw[hst] at h;cases h
  |some z=>
   rw[hst] at h
   simp only at h
   by_cases e:z=x
   . rw[if_pos e] at h;obtain rfl:=Option.some.inj h;subst e;exact⟨hst,Sub.refl gx.t,gx⟩
   . rw[if_neg e] at h
     have hm:=mu_lt (step_ok gx hst).1 (step_ok gx hst).2 e
     obtain⟨h1,h2,h3⟩:=ih z y (by omega) (step_ok gx hst).2 h
     exact⟨h1,h2.trans (step_ok gx hst).1,h3⟩
theorem tog_fix {x:Sc}(gx:Good x)(h:step x=some x):tog x=some x:=by
 rw[tog_step gx,h];simp
end C
end Go.Proofs.YtfgkhenhlpoheaaGreat
namespace Go.Proofs.YtfgkhenhlpoheaaGreat
open Go.RowKit
namespace T
theorem aux_lt:∀ (f x:Nat),x<2^f→x<2^Lib.bitLenAux f x
 |0,x,h=>by simpa [Lib.bitLenAux] using h
 |f+1,x,h=>by
  unfold Lib.bitLenAux
  by_cases h0:x=0
  . rw[if_pos h0,h0];decide
  . rw[if_neg h0]
    have:=aux_lt f (x / 2) (by rw[Nat.pow_succ] at h;omega)
    rw[Nat.add_comm 1,Nat.pow_succ];omega
theorem bl_lt (x:BitVec 64):x.toNat<2^bl x:=aux_lt 64 _ x.isLt
theorem bl_least {x:BitVec 64}{p:Nat}(h:x.toNat<2^p):bl x≤p:=Lib.bitLenAux_le 64 _ p h
theorem bl_bits {x:BitVec 64}{p:Nat}(h:∀ j,j<64→p≤j→x.getLsbD j=false):bl x≤p:=by
 have hx:x.toNat<2^p:=Nat.lt_pow_two_of_testBit _ fun j hj=>by
  by_cases h64:j<64
  . exact h j h64 hj
  . exact Nat.testBit_lt_two_pow (Nat.lt_of_lt_of_le x.isLt (Nat.pow_le_pow_right (by omega) (by omega)))
 exact bl_least hx
theorem ones_eq:(18446744073709551615#64:BitVec 64)=BitVec.allOnes 64:=by decide
theorem ones_bit (i:Nat):(18446744073709551615#64:BitVec 64).getLsbD i=decide (i<64):=by rw[ones_eq,BitVec.getLsbD_allOnes]
theorem range_same0 (lo:BitVec 64):range lo lo=⟨lo,0#64⟩:=by
 unfold range
 rw[if_neg (by rw[BitVec.lt_def];omega),if_pos rfl]
 show(⟨lo &&& ~~~0#64,0#64⟩:Tn)=_
 rw[BitVec.not_zero,BitVec.and_allOnes]
theorem range_bits {lo hi:BitVec 64}(h : ¬ hi<lo):∀ j,j<64→(range lo hi).m.getLsbD j=decide (j<bl (lo ^^^ hi))∧(range lo hi).v.getLsbD j=(lo.getLsbD j && !decide (j<bl (lo ^^^ hi))):=by
 intro j hj
 by_cases e:lo=hi
 . subst e
   have:bl (lo ^^^ lo)=0:=by rw[BitVec.xor_self];rfl
   rw[this,range_same0]
   simp[hj]
 . unfold range
   rw[if_neg h]
   have hb:=bl_le (lo ^^^ hi)
   have:(64-bl (lo ^^^ hi)+j<64)↔j<bl (lo ^^^ hi):=by omega
   simp[e,hj,ones_bit,this]
theorem range_right {lo hi:BitVec 64}(h : ¬ hi<lo):right (range lo hi)=true:=right_iff.2 fun j hj=>by
 rw[(range_bits h j hj).1,(range_bits h j hj).2];cases lo.getLsbD j<;>simp
theorem range_has {lo hi n:BitVec 64}(h : ¬ hi<lo)(h1 : ¬ n<lo)(h2 : ¬ hi<n):has (range lo hi) n=true:=has_iff.2 fun j hj=>by
 refine⟨right_iff.1 (range_right h) j hj,?_⟩
 rw[(range_bits h j hj).1,(range_bits h j hj).2]
 by_cases hk:j<bl (lo ^^^ hi)
 . simp[hk]
 . simp only[hk,decide_false,Bool.not_false,Bool.and_true]
   rw[BitVec.lt_def] at h h1 h2
   generalize hke:bl (lo ^^^ hi)=k at hk
   have hx:(lo ^^^ hi).toNat<2^k:=by rw[← hke];exact bl_lt _
   have hs:lo.toNat / 2^k=hi.toNat / 2^k:=by
    apply Nat.eq_of_testBit_eq;intro i
    rw[Nat.testBit_div_two_pow,Nat.testBit_div_two_pow]
    have:=Nat.testBit_lt_two_pow (Nat.lt_of_lt_of_le hx (Nat.pow_le_pow_right (n:=2) (by omega) (show k≤i+k by omega)))
    rw[BitVec.toNat_xor,Nat.testBit_xor] at this
    simpa using this
   have hn:n.toNat / 2^k=lo.toNat / 2^k:=by
    have a1:lo.toNat / 2^k≤n.toNat / 2^k:=Nat.div_le_div_right (by omega)
    have a2:n.toNat / 2^k≤hi.toNat / 2^k:=Nat.div_le_div_right (by omega)
    omega
   have:=congrArg (fun z=>z.testBit (j-k)) hn
   simp only[Nat.testBit_div_two_pow] at this
   rw[show j-k+k=j by omega] at this
   exact this
theorem range_mono {a b c d:BitVec 64}(h1:c.toNat≤a.toNat)(h2:a.toNat≤b.toNat)(h3:b.toNat≤d.toNat):leq (range a b) (range c d)=true:=by
 have hab : ¬ b<a:=by rw[BitVec.lt_def];omega
 have hcd : ¬ d<c:=by rw[BitVec.lt_def];omega
 have ha:=range_has (n:=a) hcd (by rw[BitVec.lt_def];omega) (by rw[BitVec.lt_def];omega)
 have hb:=range_has (n:=b) hcd (by rw[BitVec.lt_def];omega) (by rw[BitVec.lt_def];omega)
 have rab:=range_bits hab;have rcd:=range_bits hcd
 have agree:∀ j,j<64→bl (c ^^^ d)≤j→a.getLsbD j=b.getLsbD j:=fun j hj hk=>by
  have p:=(has_bit ha j).2;have q:=(has_bit hb j).2
  rw[(rcd j hj).1] at p q
  have:decide (j<bl (c ^^^ d))=false:=decide_eq_false (by omega)
  rw[this] at p q
  simp only[Bool.not_false,Bool.and_true] at p q
  rw[p,q]
 have hbl:bl (a ^^^ b)≤bl (c ^^^ d):=bl_bits fun j hj hk=>by simp[agree j hj hk]
 rw[leq_iff]
 intro j hj
 obtain⟨m1,v1⟩:=rab j hj;obtain⟨m2,v2⟩:=rcd j hj
 have p:=has_bit ha j
 refine⟨right_bit (range_right hab) j,right_bit (range_right hcd) j,?_,?_⟩
 . rw[m1,m2]
   by_cases e:j<bl (a ^^^ b)
   . simp[show j<bl (c ^^^ d) by omega]
   . simp[e]
 . rw[← p.2,v1,m2]
   by_cases e:j<bl (c ^^^ d)
   . simp[e]
   . simp[e,show ¬ j<bl (a ^^^ b) by omega]
end T
end Go.Proofs.YtfgkhenhlpoheaaGreat
namespace Go.Proofs.YtfgkhenhlpoheaaGreat
open Go.RowKit
set_option maxHeartbeats 1000000
namespace C
open R S
structure In (x:Sc)(n:BitVec 64):Prop where
 t:T.has x.t n=true
 lo:x.s.lo.toNat≤n.toNat
 hi:n.toNat≤x.s.hi.toNat
 sl:x.s.sl≤sv n
 sh:sv n≤x.s.sh
def has (x:Sc)(n:BitVec 64):Bool:=T.has x.t n&&S.has x.s n
theorem has_in {x:Sc}{n:BitVec 64}:has x n=true↔In x n:=by
 unfold has
 rw[Bool.and_eq_true,S.has_iff]
 constructor
 . rintro⟨h1,h2⟩;exact⟨h1,h2.lo,h2.hi,h2.sl,h2.sh⟩
 . intro h;exact⟨h.t,h.lo,Nat.le_refl _,h.hi,h.sl,Int.le_refl _,h.sh⟩
theorem Sub.has {y x:Sc}(h:Sub y x){n:BitVec 64}(k:In y n):In x n:=
 ⟨T.leq_has h.t k.t,Nat.le_trans h.lo k.lo,Nat.le_trans k.hi h.hi,Int.le_trans h.sl k.sl,Int.le_trans k.sh h.sh⟩
theorem sub_bits {x y:BitVec 64}(h:∀ i,i<64→x.getLsbD i=true→y.getLsbD i=true):x.toNat≤y.toNat:=by
 have:x=x &&& y:=T.ext64 fun i hi=>by
  have:=h i hi
  simp only[BitVec.getLsbD_and]
  revert this;cases x.getLsbD i<;>simp
 rw[this,BitVec.toNat_and];exact Nat.and_le_right
theorem has_bounds {t:Tn}{n:BitVec 64}(h:T.has t n=true):t.v.toNat≤n.toNat∧n.toNat≤(t.v ||| t.m).toNat:=by
 constructor
 . refine sub_bits fun i hi => ?_
   have:=T.has_bit h i
   revert this;cases t.v.getLsbD i<;>cases t.m.getLsbD i<;>cases n.getLsbD i<;>simp
 . refine sub_bits fun i hi => ?_
   have:=T.has_bit h i
   rw[BitVec.getLsbD_or]
   revert this;cases t.v.getLsbD i<;>cases t.m.getLsbD i<;>cases n.getLsbD i<;>simp
theorem in1 {z:Sc}{n:BitVec 64}(h:In z n):ok1 z=true∧In (r1 z) n:=by
 obtain⟨h1,h2⟩:=has_bounds h.t
 have a:=h.lo;have b:=h.hi
 have e1:(r1 z).s.lo.toNat≤n.toNat:=by simp only[r1,maxB_nat];omega
 have e2:n.toNat≤(r1 z).s.hi.toNat:=by simp only[r1,minB_nat];omega
 exact⟨decide_eq_true (by rw[BitVec.le_def];omega),⟨h.t,e1,e2,h.sl,h.sh⟩⟩
theorem in2 {z:Sc}{n:BitVec 64}(h:In z n):ok2 z=true∧In (r2 z) n:=by
 have a:=h.lo;have b:=h.hi
 have hle : ¬ z.s.hi<z.s.lo:=by rw[BitVec.lt_def];omega
 have hr:=T.range_has (n:=n) hle (by rw[BitVec.lt_def];omega) (by rw[BitVec.lt_def];omega)
 have m:=T.meet_has (T.has_right h.t) (T.range_right hle) n
 rw[h.t,hr] at m
 have m:=m.symm
 rw[Bool.and_self,Bool.and_eq_true] at m
 exact⟨m.1,⟨m.2,a,b,h.sl,h.sh⟩⟩
theorem top_nat {x y:BitVec 64}(h:(x >>> 63==y >>> 63)=true):(x.toNat<9223372036854775808∧y.toNat<9223372036854775808)∨(9223372036854775808≤x.toNat∧9223372036854775808≤y.toNat):=by
 have h:=congrArg BitVec.toNat (beq_iff_eq.1 h)
 rw[BitVec.toNat_ushiftRight,BitVec.toNat_ushiftRight,Nat.shiftRight_eq_div_pow,Nat.shiftRight_eq_div_pow] at h
 have:=x.isLt;have:=y.isLt
 omega
theorem sv_mono {x y:BitVec 64}(h:x.toNat≤y.toNat)(k:(x.toNat<9223372036854775808∧y.toNat<9223372036854775808)∨(9223372036854775808≤x.toNat∧9223372036854775808≤y.toNat)):sv x≤sv y:=by
 rcases k with⟨k1,k2⟩ | ⟨k1,k2⟩
 . rw[sv_small k1,sv_small k2];omega
 . rw[sv_big (by omega),sv_big (by omega)];omega
theorem in3 {z:Sc}{n:BitVec 64}(h:In z n):ok3 z=true∧In (r3 z) n:=by
 have a:=h.lo;have b:=h.hi;have c:=h.sl;have d:=h.sh
 have key:In (r3 z) n:=by
  unfold r3
  split
  . rename_i ht
    have k:=top_nat ht
    have s1:=sv_mono a (by omega)
    have s2:=sv_mono b (by omega)
    exact⟨h.t,a,b,by simp only[maxI_eq];omega,by simp only[minI_eq];omega⟩
  . exact h
 exact⟨decide_eq_true (Int.le_trans key.sl key.sh),key⟩
theorem ofInt_mono {a b:Int}(ha : -9223372036854775808≤a)(hb:b≤9223372036854775807)(h:a≤b)(k:(a<0∧b<0)∨(0≤a∧0≤b)):(BitVec.ofInt 64 a).toNat≤(BitVec.ofInt 64 b).toNat:=by
 have h1:=ofInt_nat a;have h2:=ofInt_nat b
 omega
theorem sgn_iff {z:Sc}(h:sgn z=true):(z.s.sl<0∧z.s.sh<0)∨(0≤z.s.sl∧0≤z.s.sh):=by
 unfold sgn at h
 rw[beq_iff_eq] at h
 by_cases e:z.s.sl<0
 . have e2:z.s.sh<0:=by simpa [e] using h.symm
   exact .inl ⟨e,e2⟩
 . have e2 : ¬ z.s.sh<0:=by simpa [e] using h.symm
   exact .inr ⟨by omega,by omega⟩
theorem in4 {z:Sc}{n:BitVec 64}(h:In z n)(g:R.inS z.s=true):ok4 z=true∧In (r4 z) n:=by
 have a:=h.lo;have b:=h.hi;have c:=h.sl;have d:=h.sh
 have gi:=inS_iff.1 g
 have key:In (r4 z) n:=by
  unfold r4
  split
  . rename_i hs
    have k:=sgn_iff hs
    have e:=ofInt_sv n
    have s1:=ofInt_mono gi.1.1 (sv_in n).2 c (by omega)
    have s2:=ofInt_mono (sv_in n).1 gi.2.2 d (by omega)
    rw[e] at s1 s2
    exact⟨h.t,by simp only[maxB_nat];omega,by simp only[minB_nat];omega,c,d⟩
  . exact h
 exact⟨decide_eq_true (by rw[BitVec.le_def];exact Nat.le_trans key.lo key.hi),key⟩
theorem r3_in {z:Sc}(g:R.inS z.s=true):R.inS (r3 z).s=true:=by
 have gi:=inS_iff.1 g
 have v1:=sv_in z.s.lo;have v2:=sv_in z.s.hi
 unfold r3;split
 . exact inS_iff.2 (by simp only[maxI_eq,minI_eq];omega)
 . exact g
theorem step_in {z:Sc}{n:BitVec 64}(h:In z n)(g:R.inS z.s=true):∃ y,step z=some y∧In y n:=by
 obtain⟨k1,h1⟩:=in1 h
 obtain⟨k2,h2⟩:=in2 h1
 obtain⟨k3,h3⟩:=in3 h2
 obtain⟨k4,h4⟩:=in4 h3 (r3_in g)
 exact⟨_,by unfold step;rw[if_pos k1,if_pos k2,if_pos k3,if_pos k4],h4⟩
theorem tog_in:∀ (k:Nat) (x:Sc) (n:BitVec 64),mu x≤k→Good x→In x n→∃ y,tog x=some y∧In y n:=by
 intro k
 induction k with
 |zero=>
  intro x n hk gx h
  obtain⟨z,hz,hn⟩:=step_in h gx.i
  rw[tog_step gx,hz]
  simp only
  by_cases e:z=x
  . rw[if_pos e];exact⟨x,rfl,h⟩
  . have:=mu_lt (step_ok gx hz).1 (step_ok gx hz).2 e;omega
 |succ k ih=>
  intro x n hk gx h
  obtain⟨z,hz,hn⟩:=step_in h gx.i
  rw[tog_step gx,hz]
  simp only
  by_cases e:z=x
  . rw[if_pos e];exact⟨x,rfl,h⟩
  . rw[if_neg e]
    have:=mu_lt (step_ok gx hz).1 (step_ok gx hz).2 e
    exact ih z n (by omega) (step_ok gx hz).2 hn
theorem Sub.antisymm {a b:Sc}(h:Sub a b)(k:Sub b a):a=b:=
 sc_ext (T.leq_antisymm h.t k.t) (Nat.le_antisymm k.lo h.lo) (Nat.le_antisymm h.hi k.hi) (Int.le_antisymm k.sl h.sl) (Int.le_antisymm h.sh k.sh)
theorem fix_parts {z:Sc}(gz:Good z)(h:step z=some z):(ok1 z=true∧r1 z=z)∧(ok2 z=true∧r2 z=z)∧(ok3 z=true∧r3 z=z)∧(ok4 z=true∧r4 z=z):=by
 have h0:=h
 unfold step at h
 split at h
 . rename_i k1
   split at h
   . rename_i k2
     split at h
     . rename_i k3
       split at h
       . rename_i k4
         have e:=Option.some.inj h
         have h1:(r1 z).s.lo.toNat≤(r1 z).s.hi.toNat:=of_decide_eq_true k1
         have s1:Sub (r1 z) z:=⟨by simp only[r1,maxB_nat];omega,by simp only[r1,minB_nat];omega,Int.le_refl _,Int.le_refl _,T.leq_refl gz.t⟩
         have hr:T.right (T.range (r1 z).s.lo (r1 z).s.hi)=true:=T.range_right (by rw[BitVec.lt_def];omega)
         have s2:Sub (r2 (r1 z)) (r1 z):=⟨Nat.le_refl _,Nat.le_refl _,Int.le_refl _,Int.le_refl _,(T.meet_leq gz.t hr k2).1⟩
         have t2:T.right (r2 (r1 z)).t=true:=(leq_right s2.t).1
         have s3:Sub (r3 (r2 (r1 z))) (r2 (r1 z)):=by
          unfold r3;split
          . exact⟨Nat.le_refl _,Nat.le_refl _,by simp only[maxI_eq];omega,by simp only[minI_eq];omega,T.leq_refl t2⟩
          . exact Sub.refl t2
         have t3:T.right (r3 (r2 (r1 z))).t=true:=(leq_right s3.t).1
         have s4:Sub (r4 (r3 (r2 (r1 z)))) (r3 (r2 (r1 z))):=by
          generalize r3 (r2 (r1 z))=w at t3 ⊢
          unfold r4;split
          . exact⟨by simp only[maxB_nat];omega,by simp only[minB_nat];omega,Int.le_refl _,Int.le_refl _,T.leq_refl t3⟩
          . exact Sub.refl t3
         have e3:r3 (r2 (r1 z))=z:=(s3.trans (s2.trans s1)).antisymm (by rw[e] at s4;exact s4)
         have e2:r2 (r1 z)=z:=(s2.trans s1).antisymm (by rw[e3] at s3;exact s3)
         have e1:r1 z=z:=s1.antisymm (by rw[e2] at s2;exact s2)
         rw[e1] at e2 k2 e3 k3 k4 e
         rw[e2] at k3 e3 k4 e
         rw[e3] at k4 e
         exact⟨⟨k1,e1⟩,⟨k2,e2⟩,⟨k3,e3⟩,⟨k4,e⟩⟩
       . cases h
     . cases h
   . cases h
 . cases h
theorem meet_glb {a b c:Tn}(h:T.leq c a=true)(k:T.leq c b=true):(T.meet a b).2=true∧T.leq c (T.meet a b).1=true:=by
 have ha:=(leq_right h).2;have hb:=(leq_right k).2
 have hm:(T.meet a b).2=true:=by
  cases e:(T.meet a b).2 with
  |true=>rfl
  |false=>
   obtain⟨i,hi,hx⟩:=T.meet_no ha hb e
   have p:=T.leq_iff.1 h i hi;have q:=T.leq_iff.1 k i hi
   exfalso
   revert p q hx;cases a.v.getLsbD i<;>cases a.m.getLsbD i<;>cases b.v.getLsbD i<;>cases b.m.getLsbD i<;>cases c.v.getLsbD i<;>cases c.m.getLsbD i<;>simp
 obtain⟨e,hbits⟩:=T.meet_bits ha hb hm
 refine⟨hm,?_⟩
 rw[e,T.leq_iff]
 intro i hi
 have p:=T.leq_iff.1 h i hi;have q:=T.leq_iff.1 k i hi;have r:=hbits i hi
 simp only[BitVec.getLsbD_and,BitVec.getLsbD_or]
 revert p q r;cases a.v.getLsbD i<;>cases a.m.getLsbD i<;>cases b.v.getLsbD i<;>cases b.m.getLsbD i<;>cases c.v.getLsbD i<;>cases c.m.getLsbD i<;>simp
theorem leq_bounds {a b:Tn}(h:T.leq a b=true):b.v.toNat≤a.v.toNat∧(a.v ||| a.m).toNat≤(b.v ||| b.m).toNat:=by
 constructor
 . refine sub_bits fun i hi => ?_
   have:=T.leq_iff.1 h i hi
   revert this;cases a.v.getLsbD i<;>cases a.m.getLsbD i<;>cases b.v.getLsbD i<;>cases b.m.getLsbD i<;>simp
 . refine sub_bits fun i hi => ?_
   have:=T.leq_iff.1 h i hi
   simp only[BitVec.getLsbD_or]
   revert this;cases a.v.getLsbD i<;>cases a.m.getLsbD i<;>cases b.v.getLsbD i<;>cases b.m.getLsbD i<;>simp
theorem step_mono {x y:Sc}(gx:Good x)(hx:step x=some x)(gy:Good y)(h:Sub x y):∃ y',step y=some y'∧Sub x y':=by
 obtain⟨⟨k1,e1⟩,⟨k2,e2⟩,⟨k3,e3⟩,⟨k4,e4⟩⟩:=fix_parts gx hx
 have xp:=gx.p;have xg:=gx.g
 have xi:=inS_iff.1 gx.i
 have m1:ok1 y=true∧Sub x (r1 y):=by
  obtain⟨b1,b2⟩:=leq_bounds h.t
  have f1:=congrArg (fun z=>z.s.lo.toNat) e1;have f2:=congrArg (fun z=>z.s.hi.toNat) e1
  simp only[r1,maxB_nat,minB_nat] at f1 f2
  have h1:=h.lo;have h2:=h.hi
  have s:Sub x (r1 y):=⟨by simp only[r1,maxB_nat];omega,by simp only[r1,minB_nat];omega,h.sl,h.sh,h.t⟩
  exact⟨decide_eq_true (by rw[BitVec.le_def];have:=s.lo;have:=s.hi;omega),s⟩
 have m2:ok2 (r1 y)=true∧Sub x (r2 (r1 y)):=by
  have hrx:T.right (T.range x.s.lo x.s.hi)=true:=T.range_right (by rw[BitVec.lt_def];omega)
  have l1:T.leq x.t (T.range x.s.lo x.s.hi)=true:=by
   have:=(T.meet_leq gx.t hrx k2).2
   rwa [show(T.meet x.t (T.range x.s.lo x.s.hi)).1=x.t from congrArg Sc.t e2] at this
  have l2:=T.leq_trans l1 (T.range_mono m1.2.lo xp m1.2.hi)
  obtain⟨g1,g2⟩:=meet_glb m1.2.t l2
  exact⟨g1,m1.2.lo,m1.2.hi,m1.2.sl,m1.2.sh,g2⟩
 have i1:R.inS (r2 (r1 y)).s=true:=gy.i
 generalize hw:r2 (r1 y)=w at m2 i1
 have wi:=inS_iff.1 i1
 have m3:ok3 w=true∧Sub x (r3 w):=by
  have h1:=m2.2.lo;have h2:=m2.2.hi;have h3:=m2.2.sl;have h4:=m2.2.sh
  have s:Sub x (r3 w):=by
   unfold r3
   split
   . rename_i ht
     have k:=top_nat ht
     have tx:top x=true:=by
        unfold top
        rw[beq_iff_eq]
        apply BitVec.eq_of_toNat_eq
        rw[BitVec.toNat_ushiftRight,BitVec.toNat_ushiftRight,Nat.shiftRight_eq_div_pow,Nat.shiftRight_eq_div_pow]
        have:=x.s.lo.isLt;have:=x.s.hi.isLt;have:=w.s.lo.isLt;have:=w.s.hi.isLt
        omega
     have f1:=congrArg (fun z=>z.s.sl) e3;have f2:=congrArg (fun z=>z.s.sh) e3
     unfold r3 at f1 f2
     rw[if_pos tx] at f1 f2
     simp only[maxI_eq,minI_eq] at f1 f2
     have v1:=sv_mono h1 (by omega)
     have v2:=sv_mono h2 (by omega)
     exact⟨h1,h2,by simp only[maxI_eq];omega,by simp only[minI_eq];omega,m2.2.t⟩
   . exact m2.2
  exact⟨decide_eq_true (by have:=s.sl;have:=s.sh;omega),s⟩
 have i2:R.inS (r3 w).s=true:=r3_in i1
 generalize hu:r3 w=u at m3 i2
 have ui:=inS_iff.1 i2
 have m4:ok4 u=true∧Sub x (r4 u):=by
  have h1:=m3.2.lo;have h2:=m3.2.hi;have h3:=m3.2.sl;have h4:=m3.2.sh
  have s:Sub x (r4 u):=by
   unfold r4
   split
   . rename_i ht
     have k:=sgn_iff ht
     have tx:sgn x=true:=by
        unfold sgn
        rw[beq_iff_eq]
        rcases k with⟨k1,k2⟩ | ⟨k1,k2⟩
        . rw[decide_eq_true (show x.s.sl<0 by omega),decide_eq_true (show x.s.sh<0 by omega)]
        . rw[decide_eq_false (show ¬ x.s.sl<0 by omega),decide_eq_false (show ¬ x.s.sh<0 by omega)]
     have f1:=congrArg (fun z=>z.s.lo.toNat) e4;have f2:=congrArg (fun z=>z.s.hi.toNat) e4
     unfold r4 at f1 f2
     rw[if_pos tx] at f1 f2
     simp only[maxB_nat,minB_nat] at f1 f2
     have v1:=ofInt_mono ui.1.1 xi.1.2 h3 (by omega)
     have v2:=ofInt_mono xi.2.1 ui.2.2 h4 (by omega)
     exact⟨by simp only[maxB_nat];omega,by simp only[minB_nat];omega,h3,h4,m3.2.t⟩
   . exact m3.2
  exact⟨decide_eq_true (by rw[BitVec.le_def];have:=s.lo;have:=s.hi;omega),s⟩
 refine⟨r4 u,?_,m4.2⟩
 unfold step
 rw[if_pos m1.1,hw,if_pos m2.1,if_pos m3.1,hu,if_pos m4.1]
theorem tog_mono:∀ (k:Nat) (x y:Sc),mu y≤k→Good x→step x=some x→Good y→Sub x y→∃ y',tog y=some y'∧Sub x y':=by
 intro k
 induction k with
 |zero=>
  intro x y hk gx hx gy h
  obtain⟨z,hz,hs⟩:=step_mono gx hx gy h
  rw[tog_step gy,hz]
  simp only
  by_cases e:z=y
  . rw[if_pos e];exact⟨y,rfl,h⟩
  . have:=mu_lt (step_ok gy hz).1 (step_ok gy hz).2 e;omega
 |succ k ih=>
  intro x y hk gx hx gy h
  obtain⟨z,hz,hs⟩:=step_mono gx hx gy h
  rw[tog_step gy,hz]
  simp only
  by_cases e:z=y
  . rw[if_pos e];exact⟨y,rfl,h⟩
  . rw[if_neg e]
    have:=mu_lt (step_ok gy hz).1 (step_ok gy hz).2 e
    exact ih x z (by omega) gx hx (step_ok gy hz).2 hs
end C
end Go.Proofs.YtfgkhenhlpoheaaGreat
namespace Go.Proofs.YtfgkhenhlpoheaaGreat
open Go.RowKit
set_option maxHeartbeats 1000000
namespace S
def cap (a b:Sp):Sp:=⟨maxB a.lo b.lo,minB a.hi b.hi,maxI a.sl b.sl,minI a.sh b.sh⟩
def cup (a b:Sp):Sp:=⟨minB a.lo b.lo,maxB a.hi b.hi,minI a.sl b.sl,maxI a.sh b.sh⟩
def meet (a b:Sp):Sp×Bool:=if good a&&(good b&&good (cap a b)) then (cap a b,true) else (⟨BitVec.ofInt 64 0,BitVec.ofInt 64 0,0,0⟩,false)
end S
namespace C
theorem bl {a b:BitVec 64}(h:decide (b<a)=false):decide (a≤b)=true:=decide_eq_true (by have:=of_decide_eq_false h;rw[BitVec.lt_def] at this;rw[BitVec.le_def];omega)
theorem bn {a b:BitVec 64}(h:decide (b<a)=true):decide (a≤b)=false:=decide_eq_false (by have:=of_decide_eq_true h;rw[BitVec.lt_def] at this;rw[BitVec.le_def];omega)
theorem il {a b:Int}(h:decide (b<a)=false):decide (a≤b)=true:=decide_eq_true (by have:=of_decide_eq_false h;omega)
theorem inn {a b:Int}(h:decide (b<a)=true):decide (a≤b)=false:=decide_eq_false (by have:=of_decide_eq_true h;omega)
theorem nt {b:Bool}(h:(!b)=true):b=false:=by revert h;cases b<;>simp
theorem nf {b:Bool}(h:(!b)=false):b=true:=by revert h;cases b<;>simp
theorem r3_t {w:Sc}(h:top w=true):r3 w=⟨w.t,⟨w.s.lo,w.s.hi,S.maxI w.s.sl (sv w.s.lo),S.minI w.s.sh (sv w.s.hi)⟩⟩:=by unfold r3;rw[if_pos h]
theorem r3_f {w:Sc}(h:top w=false):r3 w=w:=by unfold r3;rw[if_neg (by rw[h];decide)]
theorem r4_t {w:Sc}(h:sgn w=true):r4 w=⟨w.t,⟨S.maxB w.s.lo (BitVec.ofInt 64 w.s.sl),S.minB w.s.hi (BitVec.ofInt 64 w.s.sh),w.s.sl,w.s.sh⟩⟩:=by unfold r4;rw[if_pos h]
theorem r4_f {w:Sc}(h:sgn w=false):r4 w=w:=by unfold r4;rw[if_neg (by rw[h];decide)]
theorem st1 {x:Sc}(h:ok1 x=false):step x=none:=by unfold step;rw[if_neg (by rw[h];decide)]
theorem st2 {x:Sc}(h1:ok1 x=true)(h:ok2 (r1 x)=false):step x=none:=by unfold step;rw[if_pos h1,if_neg (by rw[h];decide)]
theorem st3 {x:Sc}(h1:ok1 x=true)(h2:ok2 (r1 x)=true)(h:ok3 (r2 (r1 x))=false):step x=none:=by unfold step;rw[if_pos h1,if_pos h2,if_neg (by rw[h];decide)]
theorem st4 {x:Sc}(h1:ok1 x=true)(h2:ok2 (r1 x)=true)(h3:ok3 (r2 (r1 x))=true)(h:ok4 (r3 (r2 (r1 x)))=false):step x=none:=by unfold step;rw[if_pos h1,if_pos h2,if_pos h3,if_neg (by rw[h];decide)]
theorem st5 {x:Sc}(h1:ok1 x=true)(h2:ok2 (r1 x)=true)(h3:ok3 (r2 (r1 x))=true)(h4:ok4 (r3 (r2 (r1 x)))=true):step x=some (r4 (r3 (r2 (r1 x)))):=by unfold step;rw[if_pos h1,if_pos h2,if_pos h3,if_pos h4]
theorem tog_none {x:Sc}(g:Good x)(h:step x=none):tog x=none:=by rw[tog_step g,h]
def eqc (a b:Sc):Bool:=a.t.v==b.t.v&&(a.t.m==b.t.m&&(a.s.lo==b.s.lo&&(a.s.hi==b.s.hi&&(a.s.sl==b.s.sl&&(a.s.sh==b.s.sh&&true)))))
theorem eqc_iff {a b:Sc}:eqc a b=true↔a=b:=by
 obtain⟨⟨a1,a2⟩,⟨a3,a4,a5,a6⟩⟩:=a;obtain⟨⟨b1,b2⟩,⟨b3,b4,b5,b6⟩⟩:=b
 simp[eqc,and_assoc]
theorem tog_eqc {x y:Sc}(g:Good x)(h:step x=some y)(e:eqc y x=true):tog x=some y:=by
 have e:=eqc_iff.1 e
 rw[tog_step g,h];simp[e]
theorem tog_next {x y:Sc}(g:Good x)(h:step x=some y)(e:eqc y x=false):tog x=tog y∧mu y<mu x∧Good y:=by
 have e:y≠x:=fun h=>by rw[eqc_iff.2 h] at e;cases e
 have k:=step_ok g h
 exact⟨by rw[tog_step g,h];simp[e],mu_lt k.1 k.2 e,k.2⟩
def of (t:Tn)(s:Sp):Sc×Bool:=if T.right t&&S.good s then (match tog ⟨t,s⟩ with|some y=>(y,true)|none=>(⟨⟨BitVec.ofInt 64 0,BitVec.ofInt 64 0⟩,⟨BitVec.ofInt 64 0,BitVec.ofInt 64 0,0,0⟩⟩,false)) else (⟨⟨BitVec.ofInt 64 0,BitVec.ofInt 64 0⟩,⟨BitVec.ofInt 64 0,BitVec.ofInt 64 0,0,0⟩⟩,false)
theorem of_some {t:Tn}{s:Sp}{y:Sc}(h1:T.right t=true)(h2:S.good s=true)(h:tog ⟨t,s⟩=some y):of t s=(y,true):=by unfold of;rw[h1,h2,h];rfl
theorem of_none {t:Tn}{s:Sp}(h1:T.right t=true)(h2:S.good s=true)(h:tog ⟨t,s⟩=none):of t s=(⟨⟨BitVec.ofInt 64 0,BitVec.ofInt 64 0⟩,⟨BitVec.ofInt 64 0,BitVec.ofInt 64 0,0,0⟩⟩,false):=by unfold of;rw[h1,h2,h];rfl
theorem of_no1 {t:Tn}{s:Sp}(h:T.right t=false):of t s=(⟨⟨BitVec.ofInt 64 0,BitVec.ofInt 64 0⟩,⟨BitVec.ofInt 64 0,BitVec.ofInt 64 0,0,0⟩⟩,false):=by unfold of;rw[h];rfl
theorem of_no2 {t:Tn}{s:Sp}(h:S.good s=false):of t s=(⟨⟨BitVec.ofInt 64 0,BitVec.ofInt 64 0⟩,⟨BitVec.ofInt 64 0,BitVec.ofInt 64 0,0,0⟩⟩,false):=by unfold of;rw[h,Bool.and_false];rfl
end C
namespace C
theorem of_in {t:Tn}{s:Sp}(h:R.inS s=true):R.inS (of t s).1.s=true:=by
 unfold of
 split
 . rename_i hc
   rw[Bool.and_eq_true] at hc
   cases ht:tog ⟨t,s⟩ with
   |none=>rfl
   |some y=>exact(tog_some _ ⟨t,s⟩ y (Nat.le_refl _) ⟨hc.1,(S.good_iff.1 hc.2).1,(S.good_iff.1 hc.2).2,h⟩ ht).2.2.i
 . rfl
theorem meet_in {a b:Sp}(ha:R.inS a=true)(hb:R.inS b=true):R.inS (S.meet a b).1=true:=by
 have h1:=S.inS_iff.1 ha;have h2:=S.inS_iff.1 hb
 unfold S.meet
 split
 . refine S.inS_iff.2 ?_
   simp only[S.cap,S.maxI_eq,S.minI_eq]
   omega
 . rfl
def right (x:Sc):Bool:=(of x.t x.s).2&&eqc (of x.t x.s).1 x
def hasb (x:Sc)(n:BitVec 64):Bool:=right x&&(T.has x.t n&&S.has x.s n)
def one (x:Sc):BitVec 64×Bool:=if right x&&x.s.lo==x.s.hi then (x.s.lo,true) else (BitVec.ofInt 64 0,false)
def leq (a b:Sc):Bool:=right a&&(right b&&(T.leq a.t b.t&&S.leq a.s b.s))
def meet (a b:Sc):Sc×Bool:=if right a&&(right b&&((T.meet a.t b.t).2&&(S.meet a.s b.s).2)) then of (T.meet a.t b.t).1 (S.meet a.s b.s).1 else ((⟨⟨BitVec.ofInt 64 0,BitVec.ofInt 64 0⟩,⟨BitVec.ofInt 64 0,BitVec.ofInt 64 0,0,0⟩⟩:Sc),false)
def const (n:BitVec 64):Sc:=⟨⟨n,BitVec.ofInt 64 0⟩,S.one n⟩
def unknown:Sc:=⟨⟨BitVec.ofInt 64 0,BitVec.ofInt 64 18446744073709551615⟩,S.full⟩
end C
namespace C
open S
theorem of_ok {t:Tn}{s:Sp}(hi:R.inS s=true)(h:(of t s).2=true):step (of t s).1=some (of t s).1∧Sub (of t s).1 ⟨t,s⟩∧Good (of t s).1∧Good ⟨t,s⟩:=by
 unfold of at h ⊢
 split at h
 . rename_i hc
   rw[if_pos hc]
   rw[Bool.and_eq_true] at hc
   have g:Good ⟨t,s⟩:=⟨hc.1,(S.good_iff.1 hc.2).1,(S.good_iff.1 hc.2).2,hi⟩
   cases ht:tog ⟨t,s⟩ with
   |none=>rw[ht] at h;cases h
   |some y=>
    obtain⟨h1,h2,h3⟩:=tog_some _ ⟨t,s⟩ y (Nat.le_refl _) g ht
    exact⟨h1,h2,h3,g⟩
 . cases h
theorem right_iff {x:Sc}(hi:R.inS x.s=true):right x=true↔Good x∧step x=some x:=by
 unfold right
 rw[Bool.and_eq_true]
 constructor
 . rintro⟨h1,h2⟩
   obtain⟨k1,k2,k3,k4⟩:=of_ok hi h1
   rw[eqc_iff.1 h2] at k1 k3
   exact⟨k3,k1⟩
 . rintro⟨g,h⟩
   have hg:S.good x.s=true:=S.good_iff.2 ⟨g.p,g.g⟩
   have:=of_some g.t hg (tog_fix g h)
   rw[this]
   exact⟨rfl,eqc_iff.2 rfl⟩
theorem of_right {t:Tn}{s:Sp}(hi:R.inS s=true)(h:(of t s).2=true):right (of t s).1=true:=by
 obtain⟨h1,_,h3,_⟩:=of_ok hi h
 exact(right_iff h3.i).2 ⟨h3,h1⟩
theorem hasb_iff {x:Sc}{n:BitVec 64}:hasb x n=true↔right x=true∧In x n:=by
 unfold hasb
 rw[Bool.and_eq_true]
 exact and_congr Iff.rfl has_in
theorem of_has {t:Tn}{s:Sp}(hi:R.inS s=true)(n:BitVec 64):(T.has t n&&S.has s n)=((of t s).2&&hasb (of t s).1 n):=by
 rw[Bool.eq_iff_iff]
 constructor
 . intro h
   have hin:In ⟨t,s⟩ n:=has_in.1 h
   have g:Good ⟨t,s⟩:=⟨T.has_right hin.t,Nat.le_trans hin.lo hin.hi,Int.le_trans hin.sl hin.sh,hi⟩
   obtain⟨y,hy,iny⟩:=tog_in _ ⟨t,s⟩ n (Nat.le_refl _) g hin
   have e:=of_some g.t (S.good_iff.2 ⟨g.p,g.g⟩) hy
   have r:=of_right (t:=t) (s:=s) hi (by rw[e])
   rw[e] at r ⊢
   exact Bool.and_eq_true _ _▸⟨rfl,hasb_iff.2 ⟨r,iny⟩⟩
 . intro h
   rw[Bool.and_eq_true] at h
   exact has_in.2 ((of_ok hi h.1).2.1.has (hasb_iff.1 h.2).2)
theorem of_below {t:Tn}{s:Sp}(hi:R.inS s=true)(h:(of t s).2=true):T.leq (of t s).1.t t=true∧S.leq (of t s).1.s s=true:=by
 obtain⟨_,h2,h3,_⟩:=of_ok hi h
 exact⟨h2.t,S.leq_iff.2 ⟨h2.lo,h3.p,h2.hi,h2.sl,h3.g,h2.sh⟩⟩
theorem cap_has {a b:Sp}{n:BitVec 64}:(S.has a n&&S.has b n)=((S.meet a b).2&&S.has (S.meet a b).1 n):=by
 rw[Bool.eq_iff_iff,Bool.and_eq_true,Bool.and_eq_true,S.has_iff,S.has_iff,S.has_iff]
 constructor
 . rintro⟨h,k⟩
   have h1:=h.lo;have h2:=h.hi;have h3:=h.sl;have h4:=h.sh
   have k1:=k.lo;have k2:=k.hi;have k3:=k.sl;have k4:=k.sh
   have o1:(S.one n).lo=n:=rfl
   have o2:(S.one n).hi=n:=rfl
   have o3:(S.one n).sl=sv n:=rfl
   have o4:(S.one n).sh=sv n:=rfl
   rw[o1] at h1 k1;rw[o2] at h2 k2;rw[o3] at h3 k3;rw[o4] at h4 k4
   have g1:S.good a=true:=S.good_iff.2 ⟨by omega,by omega⟩
   have g2:S.good b=true:=S.good_iff.2 ⟨by omega,by omega⟩
   have g3:S.good (S.cap a b)=true:=S.good_iff.2 ⟨by simp only[S.cap,S.maxB_nat,S.minB_nat];omega,by simp only[S.cap,S.maxI_eq,S.minI_eq];omega⟩
   unfold S.meet
   rw[g1,g2,g3]
   refine⟨rfl,?_⟩
   refine⟨?_,Nat.le_refl _,?_,?_,Int.le_refl _,?_⟩
   . show(S.maxB a.lo b.lo).toNat≤n.toNat;rw[S.maxB_nat];omega
   . show n.toNat≤(S.minB a.hi b.hi).toNat;rw[S.minB_nat];omega
   . show S.maxI a.sl b.sl≤sv n;rw[S.maxI_eq];omega
   . show sv n≤S.minI a.sh b.sh;rw[S.minI_eq];omega
 . rintro⟨h,k⟩
   unfold S.meet at h k
   split at h
   . rename_i hc
     rw[if_pos hc] at k
     have k1:(S.maxB a.lo b.lo).toNat≤n.toNat:=k.lo
     have k2:n.toNat≤(S.minB a.hi b.hi).toNat:=k.hi
     have k3:S.maxI a.sl b.sl≤sv n:=k.sl
     have k4:sv n≤S.minI a.sh b.sh:=k.sh
     rw[S.maxB_nat] at k1;rw[S.minB_nat] at k2;rw[S.maxI_eq] at k3;rw[S.minI_eq] at k4
     exact⟨⟨by show a.lo.toNat≤n.toNat;omega,Nat.le_refl _,by show n.toNat≤a.hi.toNat;omega,by show a.sl≤sv n;omega,Int.le_refl _,by show sv n≤a.sh;omega⟩,⟨by show b.lo.toNat≤n.toNat;omega,Nat.le_refl _,by show n.toNat≤b.hi.toNat;omega,by show b.sl≤sv n;omega,Int.le_refl _,by show sv n≤b.sh;omega⟩⟩
   . cases h
theorem meet_has {a b:Sc}(ha:R.inS a.s=true)(hb:R.inS b.s=true)(n:BitVec 64):(hasb a n&&hasb b n)=((meet a b).2&&hasb (meet a b).1 n):=by
 unfold meet
 cases ra:right a with
 |false=>simp[hasb,ra]
 |true=>
  cases rb:right b with
  |false=>simp[hasb,rb]
  |true=>
   have ga:=((right_iff ha).1 ra).1;have gb:=((right_iff hb).1 rb).1
   have e1:=T.meet_has ga.t gb.t n
   have e2:=cap_has (a:=a.s) (b:=b.s) (n:=n)
   have e:(hasb a n&&hasb b n)=(((T.meet a.t b.t).2&&T.has (T.meet a.t b.t).1 n)&&((S.meet a.s b.s).2&&S.has (S.meet a.s b.s).1 n)):=by
        rw[← e1,← e2];unfold hasb;rw[ra,rb]
        cases T.has a.t n<;>cases T.has b.t n<;>cases S.has a.s n<;>cases S.has b.s n<;>rfl
   rw[e]
   cases c1:(T.meet a.t b.t).2 with
   |false=>simp
   |true=>
    cases c2:(S.meet a.s b.s).2 with
    |false=>simp
    |true=>
     have:=of_has (t:=(T.meet a.t b.t).1) (s:=(S.meet a.s b.s).1) (meet_in ha hb) n
     simpa using this
theorem range_one (n:BitVec 64):T.range n n=⟨n,0⟩:=by
 unfold T.range
 rw[if_neg (by rw[BitVec.lt_def];omega)]
 simp only[if_true]
 rw[show(~~~(0:BitVec 64))=BitVec.allOnes 64 from rfl,BitVec.and_allOnes]
theorem has_one (n:BitVec 64):T.has ⟨n,0⟩ n=true:=by rw[← range_one];exact T.range_has (by rw[BitVec.lt_def];omega) (by rw[BitVec.lt_def];omega) (by rw[BitVec.lt_def];omega)
theorem leq_one {a:Tn}{n:BitVec 64}(h:T.leq a ⟨n,0⟩=true):a=⟨n,0⟩:=by
 obtain⟨h1,h2⟩:=leq_m h
 exact h2 (eq_toNat.2 (by have:(⟨n,0⟩:Tn).m.toNat=0:=rfl;omega))
theorem const_in (n:BitVec 64):In (const n) n:=⟨has_one n,Nat.le_refl _,Nat.le_refl _,Int.le_refl _,Int.le_refl _⟩
theorem only {x:Sc}{n:BitVec 64}(h1:x.s.lo.toNat=n.toNat)(h2:x.s.hi.toNat=n.toNat)(h3:x.s.sl=sv n)(h4:x.s.sh=sv n)(h5:x.t=⟨n,0⟩):x=const n:=sc_ext h5 h1 h2 h3 h4
theorem const_right (n:BitVec 64):right (const n)=true:=by
 have hi:R.inS (S.one n)=true:=S.one_in n
 have h:=of_has (t:=⟨n,0⟩) (s:=S.one n) hi n
 rw[show(T.has ⟨n,0⟩ n&&S.has (S.one n) n)=true from has_in.2 (const_in n)] at h
 have h:=h.symm
 rw[Bool.and_eq_true] at h
 obtain⟨h1,h2⟩:=h
 obtain⟨k1,k2,k3,_⟩:=of_ok hi h1
 have hin:=(hasb_iff.1 h2).2
 have e:(of ⟨n,0⟩ (S.one n)).1=const n:=by
  have a1:=k2.lo;have a2:=k2.hi;have a3:=k2.sl;have a4:=k2.sh
  have b1:=hin.lo;have b2:=hin.hi;have b3:=hin.sl;have b4:=hin.sh
  have a1:n.toNat≤(of ⟨n,0⟩ (S.one n)).1.s.lo.toNat:=a1
  have a2:(of ⟨n,0⟩ (S.one n)).1.s.hi.toNat≤n.toNat:=a2
  have a3:sv n≤(of ⟨n,0⟩ (S.one n)).1.s.sl:=a3
  have a4:(of ⟨n,0⟩ (S.one n)).1.s.sh≤sv n:=a4
  exact only (by omega) (by omega) (by omega) (by omega) (leq_one k2.t)
 rw[← e]
 exact of_right hi h1
theorem sub_leq {a b:Sc}(ha:R.inS a.s=true)(hb:R.inS b.s=true)(ra:right a=true)(rb:right b=true)(h:Sub a b):leq a b=true:=by
 have g:=((right_iff ha).1 ra).1
 unfold leq
 simp only[Bool.and_eq_true]
 exact⟨ra,rb,h.t,S.leq_iff.2 ⟨h.lo,g.p,h.hi,h.sl,g.g,h.sh⟩⟩
theorem unknown_right:right unknown=true:=by kernel_rfl
theorem up {a:Sc}{t:Tn}{s:Sp}(ha:R.inS a.s=true)(hs:R.inS s=true)(ra:right a=true)(g:Good ⟨t,s⟩)(h:Sub a ⟨t,s⟩):(of t s).2=true∧leq a (of t s).1=true:=by
 obtain⟨ga,fa⟩:=(right_iff ha).1 ra
 obtain⟨y,hy,sy⟩:=tog_mono _ a ⟨t,s⟩ (Nat.le_refl _) ga fa g h
 have e:=of_some g.t (S.good_iff.2 ⟨g.p,g.g⟩) hy
 have h2:(of t s).2=true:=by rw[e]
 refine⟨h2,sub_leq ha (of_in hs) ra (of_right hs h2) (by rw[e];exact sy)⟩
end C
def S.joinL (L:List Sp):Sp:=if L.all S.good then (match L with
 |[]=>⟨BitVec.ofInt 64 0,BitVec.ofInt 64 0,0,0⟩
 |a::r=>(a::r).foldl S.cup a) else ⟨BitVec.ofInt 64 0,BitVec.ofInt 64 0,0,0⟩
namespace C
open S
def join (L:List Sc):Sc:=if (L.filter right).isEmpty then unknown else (of (T.join ((L.filter right).map (·.t))) (S.joinL ((L.filter right).map (·.s)))).1
end C
end Go.Proofs.YtfgkhenhlpoheaaGreat
