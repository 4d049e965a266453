import Derived.Test.YtgfemfgimefmeaaGreatBase
namespace Go.Proofs.YtgfemfgimefmeaaGreat
open Go.RowKit
set_option linter.unusedSimpArgs false
set_option linter.unusedVariables false

/-- A tnum. -/
structure Tn where
  v : BitVec 64
  m : BitVec 64
  deriving DecidableEq
@[reducible, go_sem] def tnv (t : Tn) : Value := .agg #[.int .u64 (uv t.v), .int .u64 (uv t.m)]
@[reducible, go_sem] def tnb (t : Tn × Bool) : Value := .tuple #[.agg #[.int .u64 (uv t.1.v), .int .u64 (uv t.1.m)], .bool t.2]
namespace T
def right (t : Tn) : Bool := t.v &&& t.m == 0#64
def has (t : Tn) (n : BitVec 64) : Bool := right t && (n &&& ~~~t.m == t.v)
def leq (a b : Tn) : Bool := right a && right b && (a.m &&& ~~~b.m == 0#64) && (a.v &&& ~~~b.m == b.v)
def meet (a b : Tn) : Tn × Bool := if !right a || !right b || ((a.v ^^^ b.v) &&& ~~~a.m &&& ~~~b.m != 0#64) then (⟨0, 0⟩, false) else (⟨a.v ||| b.v, a.m &&& b.m⟩, true)
def join2 (a b : Tn) : Tn := ⟨a.v &&& ~~~(a.m ||| b.m ||| (a.v ^^^ b.v)), a.m ||| b.m ||| (a.v ^^^ b.v)⟩
def range (lo hi : BitVec 64) : Tn :=
  if hi < lo then ⟨0, BitVec.allOnes 64⟩ else
  let m := if lo = hi then 0 else BitVec.allOnes 64 >>> (64 - bl (lo ^^^ hi))
  ⟨lo &&& ~~~m, m⟩
def sum (a b : Tn) : Tn := let m := (a.v + b.v + (a.m + b.m) ^^^ (a.v + b.v)) ||| a.m ||| b.m; ⟨(a.v + b.v) &&& ~~~m, m⟩
def difference (a b : Tn) : Tn := let m := ((a.v - b.v + a.m) ^^^ (a.v - b.v - b.m)) ||| a.m ||| b.m; ⟨(a.v - b.v) &&& ~~~m, m⟩
def and (a b : Tn) : Tn := ⟨a.v &&& b.v, (a.v ||| a.m) &&& (b.v ||| b.m) &&& ~~~(a.v &&& b.v)⟩
def or (a b : Tn) : Tn := ⟨a.v ||| b.v, (a.m ||| b.m) &&& ~~~(a.v ||| b.v)⟩
def xor (a b : Tn) : Tn := ⟨(a.v ^^^ b.v) &&& ~~~(a.m ||| b.m), a.m ||| b.m⟩
def product (a b : Tn) : Tn := let m := BitVec.allOnes 64 <<< min (tz a.m) (tz b.m); ⟨a.v * b.v &&& ~~~m, m⟩
/-- Whether op is one of the six. -/
def knows (op : BitVec 8) : Bool := op == 0#8 || op == 16#8 || op == 80#8 || op == 64#8 || op == 160#8 || op == 32#8
def opOf (op : BitVec 8) (a b : Tn) : Tn :=
  if op = 0#8 then T.sum a b else if op = 16#8 then T.difference a b else if op = 80#8 then T.and a b else if op = 64#8 then T.or a b else if op = 160#8 then T.xor a b else if op = 32#8 then T.product a b else ⟨0, 0⟩
def does (op : BitVec 8) (a b : Tn) : Tn × Bool := if knows op && right a && right b then (opOf op a b, true) else (⟨0, 0⟩, false)
/-- What the right ones of a row have together. -/
def join (L : List Tn) : Tn := match L.filter T.right with
  | [] => ⟨0, BitVec.allOnes 64⟩
  | t :: r => r.foldl T.join2 t
end T

end Go.Proofs.YtgfemfgimefmeaaGreat
