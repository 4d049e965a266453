import Derived.Test.YtgfemfgimefmeaaGreatSpanS
namespace Go.Proofs.YtgfemfgimefmeaaGreat
open Go.RowKit
set_option linter.unusedSimpArgs false
set_option linter.unusedVariables false
/-- A number of 128 bits. -/
structure Wd where
  hi : Int
  lo : BitVec 64
  deriving DecidableEq
@[reducible] def wdv (s : Wd) : Go.Sx.SV := .agg [.int .i64 s.hi, .u64 s.lo]
/-! What the document's functions make. -/
namespace R
def signed (n : Int) : Wd := if decide (n < 0) then ⟨-1, BitVec.ofInt 64 n⟩ else ⟨0, BitVec.ofInt 64 n⟩
def add (a b : Wd) : Wd := if decide (a.lo + b.lo < a.lo) then ⟨IntKind.i64.wrap (IntKind.i64.wrap (a.hi + b.hi) + 1), a.lo + b.lo⟩ else ⟨IntKind.i64.wrap (a.hi + b.hi), a.lo + b.lo⟩
def sub (a b : Wd) : Wd := if decide (a.lo < b.lo) then ⟨IntKind.i64.wrap (IntKind.i64.wrap (a.hi - b.hi) - 1), a.lo - b.lo⟩ else ⟨IntKind.i64.wrap (a.hi - b.hi), a.lo - b.lo⟩
def fits (a : Wd) : Bool := a.hi == 0
def signs (a : Wd) : Bool := (a.hi == 0 && decide (a.lo ≤ BitVec.ofInt 64 9223372036854775807)) || (a.hi == -1 && decide (BitVec.ofInt 64 9223372036854775807 < a.lo))
def times (a b : BitVec 64) : BitVec 64 × Bool := if a == BitVec.ofInt 64 0 || b == BitVec.ofInt 64 0 then (BitVec.ofInt 64 0, true) else (a * b, decide (a ≤ BitVec.ofInt 64 18446744073709551615 / b))
def two (lo hi : BitVec 64) (is : Bool) (sl sh : Int) (sis : Bool) : Sp := ⟨if is then lo else BitVec.ofInt 64 0, if is then hi else BitVec.ofInt 64 18446744073709551615, if sis then sl else -9223372036854775808, if sis then sh else 9223372036854775807⟩
def products (a b : Sp) : Sp := if decide (0 ≤ a.sl) && decide (0 ≤ b.sl) then
    two (times a.lo b.lo).1 (times a.hi b.hi).1 (times a.hi b.hi).2 (sv (times (BitVec.ofInt 64 a.sl) (BitVec.ofInt 64 b.sl)).1) (sv (times (BitVec.ofInt 64 a.sh) (BitVec.ofInt 64 b.sh)).1) ((times (BitVec.ofInt 64 a.sh) (BitVec.ofInt 64 b.sh)).2 && decide ((times (BitVec.ofInt 64 a.sh) (BitVec.ofInt 64 b.sh)).1 ≤ BitVec.ofInt 64 9223372036854775807))
  else two (times a.lo b.lo).1 (times a.hi b.hi).1 (times a.hi b.hi).2 0 0 false
def rests (op : Int) (a b : Sp) : Sp :=
  if op == 48 && ((b.lo == b.hi) && (b.lo != BitVec.ofInt 64 0)) then two (a.lo / b.lo) (a.hi / b.lo) true 0 0 false
  else if op == 48 && (b.lo == b.hi) then two (BitVec.ofInt 64 0) (BitVec.ofInt 64 0) true 0 0 false
  else if op == 144 && ((b.lo == b.hi) && (b.lo == BitVec.ofInt 64 0 || decide (a.hi < b.lo))) then two a.lo a.hi true 0 0 false
  else if op == 144 && (b.lo == b.hi) then two (BitVec.ofInt 64 0) (b.lo - BitVec.ofInt 64 1) true 0 0 false
  else two (BitVec.ofInt 64 0) a.hi true 0 0 false
def bits (op : Int) (a b : Sp) : Sp :=
  let both := decide (0 ≤ a.sl) && decide (0 ≤ b.sl)
  let all := S.ones (a.hi ||| b.hi)
  let sall := if both then S.ones (BitVec.ofInt 64 (Go.bits .or .i64 a.sh b.sh)) else BitVec.ofInt 64 0
  if op == 64 then two (S.maxB a.lo b.lo) all true (S.maxI a.sl b.sl) (sv sall) both
  else if op == 160 then two (BitVec.ofInt 64 0) all true 0 (sv sall) both
  else
    let s1 := if decide (0 ≤ a.sl) then S.minI 9223372036854775807 a.sh else 9223372036854775807
    let s2 := if decide (0 ≤ b.sl) then S.minI s1 b.sh else s1
    two (BitVec.ofInt 64 0) (S.minB a.hi b.hi) true 0 s2 (decide (0 ≤ a.sl) || decide (0 ≤ b.sl))
def sum (a b : Sp) : Sp :=
  let hi := add ⟨0, a.hi⟩ ⟨0, b.hi⟩
  let slo := add (signed a.sl) (signed b.sl)
  let shi := add (signed a.sh) (signed b.sh)
  two (a.lo + b.lo) hi.lo (fits hi) (sv slo.lo) (sv shi.lo) (signs slo && signs shi)
def dif (a b : Sp) : Sp :=
  let lo := sub ⟨0, a.lo⟩ ⟨0, b.hi⟩
  let hi := sub ⟨0, a.hi⟩ ⟨0, b.lo⟩
  let slo := sub (signed a.sl) (signed b.sh)
  let shi := sub (signed a.sh) (signed b.sl)
  two lo.lo hi.lo (fits lo) (sv slo.lo) (sv shi.lo) (signs slo && signs shi)
def does (op : Int) (a b : Sp) : Sp × Bool :=
  if S.good a && S.good b then
    if op == 0 then (sum a b, true) else if op == 16 then (dif a b, true) else if op == 32 then (products a b, true) else if op == 48 || op == 144 then (rests op a b, true) else if op == 80 || (op == 64 || op == 160) then (bits op a b, true) else (⟨BitVec.ofInt 64 0, BitVec.ofInt 64 0, 0, 0⟩, false)
  else (⟨BitVec.ofInt 64 0, BitVec.ofInt 64 0, 0, 0⟩, false)
/-- A number with a sign, of 64 bits. -/
def inI (n : Int) : Bool := decide (-9223372036854775808 ≤ n) && decide (n ≤ 9223372036854775807)
def half (n : Int) (k : Nat) : Int := n.fdiv (2 ^ k)
def doubled (n : Int) (k : Nat) : Int × Bool := if inI (n * 2 ^ k) then (n * 2 ^ k, true) else (0, false)
def shift (op : Int) (a : Sp) (k : Int) : Sp × Bool :=
  if !S.good a || (decide (k < 0) || (decide (63 < k) || (op != 96 && (op != 112 && op != 192)))) then (⟨BitVec.ofInt 64 0, BitVec.ofInt 64 0, 0, 0⟩, false)
  else if k == 0 then (a, true)
  else
    let p := BitVec.ofInt 64 1 <<< k.toNat
    if op == 112 then (⟨a.lo / p, a.hi / p, 0, sv (BitVec.ofInt 64 18446744073709551615 / p)⟩, true)
    else if op == 192 then (two (BitVec.ofInt 64 0) (BitVec.ofInt 64 0) false (half a.sl k.toNat) (half a.sh k.toNat) true, true)
    else (two (times a.lo p).1 (times a.hi p).1 (times a.hi p).2 (doubled a.sl k.toNat).1 (doubled a.sh k.toNat).1 ((doubled a.sl k.toNat).2 && (doubled a.sh k.toNat).2), true)
end R
end Go.Proofs.YtgfemfgimefmeaaGreat
