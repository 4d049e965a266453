import Derived.Test.YtgfemfgimefmeaaGreatSxF
namespace Go.Proofs.YtgfemfgimefmeaaGreat
open Go.RowKit
set_option linter.unusedSimpArgs false
set_option linter.unusedVariables false
/-- A span. -/
structure Sp where
  lo : BitVec 64
  hi : BitVec 64
  sl : Int
  sh : Int
  deriving DecidableEq
@[reducible] def spv (s : Sp) : Go.Sx.SV := .agg [.u64 s.lo, .u64 s.hi, .int .i64 s.sl, .int .i64 s.sh]
/-- Bounds of words; of numbers with a sign. -/
structure Pl where
  lo : BitVec 64
  hi : BitVec 64
  deriving DecidableEq
structure Sg where
  sl : Int
  sh : Int
  deriving DecidableEq
@[reducible] def plv (s : Pl) : Go.Sx.SV := .agg [.u64 s.lo, .u64 s.hi]
@[reducible] def sgv (s : Sg) : Go.Sx.SV := .agg [.int .i64 s.sl, .int .i64 s.sh]
namespace S
def full : Sp := ⟨BitVec.ofInt 64 0, BitVec.ofInt 64 18446744073709551615, -9223372036854775808, 9223372036854775807⟩
def one (n : BitVec 64) : Sp := ⟨n, n, sv n, sv n⟩
def good (a : Sp) : Bool := decide (a.lo ≤ a.hi) && decide (a.sl ≤ a.sh)
def leq (a b : Sp) : Bool := good a && (good b && ((decide (b.lo ≤ a.lo) && decide (a.hi ≤ b.hi)) && (decide (b.sl ≤ a.sl) && decide (a.sh ≤ b.sh))))
def has (a : Sp) (n : BitVec 64) : Bool := leq (one n) a
/-- The carry of a sum of words. -/
def carry (x y : BitVec 64) : BitVec 64 := BitVec.ofNat 64 ((x.toNat + y.toNat) / 18446744073709551616)
def sum (a b : Pl) : Pl := if carry a.hi b.hi == BitVec.ofInt 64 0 then ⟨a.lo + b.lo, a.hi + b.hi⟩ else ⟨BitVec.ofInt 64 0, BitVec.ofInt 64 18446744073709551615⟩
def over (a b : Int) : Bool := (decide (0 < a) && decide (IntKind.i64.wrap (9223372036854775807 - a) < b)) || (decide (a < 0) && decide (b < IntKind.i64.wrap (-9223372036854775808 - a)))
def under (a b : Int) : Bool := (decide (0 < b) && decide (a < IntKind.i64.wrap (-9223372036854775808 + b))) || (decide (b < 0) && decide (IntKind.i64.wrap (9223372036854775807 + b) < a))
def sums (a b : Sg) : Sg := if over a.sl b.sl || over a.sh b.sh then ⟨-9223372036854775808, 9223372036854775807⟩ else ⟨IntKind.i64.wrap (a.sl + b.sl), IntKind.i64.wrap (a.sh + b.sh)⟩
def less (a b : Sp) : Sp :=
  let p : Pl := if decide (b.hi ≤ a.lo) then ⟨a.lo - b.hi, a.hi - b.lo⟩ else ⟨BitVec.ofInt 64 0, BitVec.ofInt 64 18446744073709551615⟩
  let s : Sg := if !under a.sl b.sh && !under a.sh b.sl then ⟨IntKind.i64.wrap (a.sl - b.sh), IntKind.i64.wrap (a.sh - b.sl)⟩ else ⟨-9223372036854775808, 9223372036854775807⟩
  ⟨p.lo, p.hi, s.sl, s.sh⟩
/-- The high half of a product of words. -/
def high (x y : BitVec 64) : BitVec 64 := BitVec.ofNat 64 (x.toNat * y.toNat / 18446744073709551616)
def times (a b : Sp) : Sp :=
  let p : Pl := if high a.hi b.hi == BitVec.ofInt 64 0 then ⟨a.lo * b.lo, a.hi * b.hi⟩ else ⟨BitVec.ofInt 64 0, BitVec.ofInt 64 18446744073709551615⟩
  let s : Sg := if decide (0 ≤ a.sl) && decide (0 ≤ b.sl) && (high (BitVec.ofInt 64 a.sh) (BitVec.ofInt 64 b.sh) == BitVec.ofInt 64 0) && decide (BitVec.ofInt 64 a.sh * BitVec.ofInt 64 b.sh ≤ BitVec.ofInt 64 9223372036854775807) then ⟨IntKind.i64.wrap (a.sl * b.sl), sv (BitVec.ofInt 64 a.sh * BitVec.ofInt 64 b.sh)⟩ else ⟨-9223372036854775808, 9223372036854775807⟩
  ⟨p.lo, p.hi, s.sl, s.sh⟩
def quotient (a b : Sp) : Sp :=
  let p : Pl := if b.lo != b.hi then ⟨BitVec.ofInt 64 0, a.hi⟩ else if b.lo == BitVec.ofInt 64 0 then ⟨BitVec.ofInt 64 0, BitVec.ofInt 64 0⟩ else ⟨a.lo / b.lo, a.hi / b.lo⟩
  ⟨p.lo, p.hi, -9223372036854775808, 9223372036854775807⟩
def rest (a b : Sp) : Sp :=
  let p : Pl := if b.lo != b.hi then ⟨BitVec.ofInt 64 0, a.hi⟩ else if b.lo == BitVec.ofInt 64 0 || decide (a.hi < b.lo) then ⟨a.lo, a.hi⟩ else ⟨BitVec.ofInt 64 0, b.lo - BitVec.ofInt 64 1⟩
  ⟨p.lo, p.hi, -9223372036854775808, 9223372036854775807⟩
/-- All bits up to the highest one. -/
def ones (n : BitVec 64) : BitVec 64 := BitVec.ofInt 64 1 <<< bl n - BitVec.ofInt 64 1
def minI (a b : Int) : Int := if b < a then b else a
def maxI (a b : Int) : Int := if a < b then b else a
def minB (a b : BitVec 64) : BitVec 64 := if b < a then b else a
def maxB (a b : BitVec 64) : BitVec 64 := if a < b then b else a
def and (a b : Sp) : Sp :=
  let s0 : Sg := ⟨-9223372036854775808, 9223372036854775807⟩
  let s1 : Sg := if decide (0 ≤ a.sl) then ⟨0, minI s0.sh a.sh⟩ else s0
  let s2 : Sg := if decide (0 ≤ b.sl) then ⟨0, minI s1.sh b.sh⟩ else s1
  ⟨BitVec.ofInt 64 0, minB a.hi b.hi, s2.sl, s2.sh⟩
def or (a b f : Sp) : Sp :=
  let s : Sg := if decide (0 ≤ a.sl) && decide (0 ≤ b.sl) then ⟨f.sl, sv (ones (BitVec.ofInt 64 (Go.bits .or .i64 a.sh b.sh)))⟩ else ⟨-9223372036854775808, 9223372036854775807⟩
  ⟨f.lo, ones (a.hi ||| b.hi), s.sl, s.sh⟩
def add (a b : Sp) : Sp :=
  let p := sum ⟨a.lo, a.hi⟩ ⟨b.lo, b.hi⟩
  let s := sums ⟨a.sl, a.sh⟩ ⟨b.sl, b.sh⟩
  ⟨p.lo, p.hi, s.sl, s.sh⟩
def or2 (a b : Sp) : Sp := or a b ⟨maxB a.lo b.lo, 0, maxI a.sl b.sl, 0⟩
def xor (a b : Sp) : Sp := or a b ⟨0, 0, 0, 0⟩
def way (op : Int) : Option (Sp → Sp → Sp) := if op == 0 then some add else if op == 16 then some less else if op == 32 then some times else if op == 48 then some quotient else if op == 144 then some rest else if op == 80 then some and else if op == 64 then some or2 else if op == 160 then some xor else none
def does (op : Int) (a b : Sp) : Sp × Bool := match way op with
  | some f => if good a && good b then (f a b, true) else (⟨0, 0, 0, 0⟩, false)
  | none => (⟨0, 0, 0, 0⟩, false)
def fitU (n : BitVec 64) (k : Nat) : Bool := n <<< k >>> k == n
def fitI (n : Int) (k : Nat) : Bool := (IntKind.i64.wrap (n * 2 ^ min k 64)).fdiv (2 ^ min k 64) == n
/-- Shifted. -/
def shift (op : Int) (a : Sp) (k : Int) : Sp × Bool :=
  if !good a || (decide (k < 0) || (decide (63 < k) || (op != 96 && (op != 112 && op != 192)))) then (⟨BitVec.ofInt 64 0, BitVec.ofInt 64 0, 0, 0⟩, false)
  else if k == 0 then (a, true)
  else if op == 112 then (⟨a.lo >>> k.toNat, a.hi >>> k.toNat, 0, Int.fdiv 9223372036854775807 (2 ^ min (IntKind.i64.wrap (k - 1)).toNat 64)⟩, true)
  else if op == 192 then (⟨full.lo, full.hi, a.sl.fdiv (2 ^ min k.toNat 64), a.sh.fdiv (2 ^ min k.toNat 64)⟩, true)
  else
    let p : Pl := if fitU a.hi k.toNat then ⟨a.lo <<< k.toNat, a.hi <<< k.toNat⟩ else ⟨full.lo, full.hi⟩
    let s : Sg := if fitI a.sl k.toNat && fitI a.sh k.toNat then ⟨IntKind.i64.wrap (a.sl * 2 ^ min k.toNat 64), IntKind.i64.wrap (a.sh * 2 ^ min k.toNat 64)⟩ else ⟨full.sl, full.sh⟩
    (⟨p.lo, p.hi, s.sl, s.sh⟩, true)
end S
end Go.Proofs.YtgfemfgimefmeaaGreat
