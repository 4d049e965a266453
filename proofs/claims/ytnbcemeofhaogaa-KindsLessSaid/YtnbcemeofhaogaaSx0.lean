/- The symbolic executor: what is read off the program's text: which operations wait for which, what a region whose order is open must be. -/
import Derived.Test.YtnbcemeofhaogaaBase
import Derived.Deep.MidRow
import Derived.Laws.AppendOwn
import Derived.Laws.Tables
import Derived.RangeFuncLeaves
import Derived.RangeFuncRecord
import Derived.OrdersIn
import Derived.StillTail
namespace Go.Sx
open Go.RowKit Go.Proofs.Ytnbcemeofhaogaa
set_option linter.unusedSimpArgs false
set_option linter.unusedVariables false

/-- The n-th. -/
def nth {α : Type} : List α → Nat → Option α
  | [], _ => none
  | x :: _, 0 => some x
  | _ :: l, n + 1 => nth l n
theorem nth_eq {α : Type} : ∀ (l : List α) (n : Nat), nth l n = l[n]?
  | [], _ => by simp [nth]
  | _ :: _, 0 => by simp [nth]
  | _ :: l, n + 1 => by simp [nth, nth_eq l n]

/-- Operations that change memory. -/
def isBar (o : Oper) : Bool := match o.op with
  | .store _ _ _ => true
  | .insert _ _ _ _ => true
  | .mapUpdate _ _ _ _ => true
  | .call c => match c.callee with
    | .builtin .append => true
    | _ => false
  | _ => false
/-- An entry of a map literal. -/
def isIns (o : Oper) : Bool := match o.op with
  | .insert _ _ _ _ => true
  | _ => false
/-- Operations that only read slots, and may come late. -/
def isLate (o : Oper) : Bool := match o.op with
  | .extract _ _ => true
  | .move _ => true
  | .fieldAddr _ _ _ => true
  | .nilCheck _ => true
  | .call c => match c.callee with
    | .builtin .min => true
    | .builtin .max => true
    | .builtin .len => true
    | _ => false
  | _ => false
def isDef (o : Oper) : Bool := match o.op with
  | .defer _ => true
  | _ => false
def bitB (bs : List Nat) (i j : Nat) : Bool := match nth bs i with
  | some b => Nat.testBit b j
  | none => false
def closB (ops : List Oper) (bs : List Nat) : Bool := (List.range ops.length).all fun i => match ops[i]? with
  | some o => o.after.toList.all (fun e => !Region.binds .any e || decide (e.on < i)) && (List.range ops.length).all (fun j => !bitB bs i j || o.after.toList.any fun e => Region.binds .any e && (decide (e.on = j) || bitB bs e.on j))
  | none => false
def dstN (ops : List Oper) (i : Nat) : Option Nat := (ops[i]?).bind (·.dst)
def listedH (n h : Nat) : Array Bool := ((List.range n).map fun i => decide (i < h)).toArray
def insT (o : Oper) : Option TypeId := match o.op with
  | .insert t _ _ _ => some t
  | _ => none
/-- May the i-th come late? It only reads slots, and one of those after the first h does not wait for it. -/
def lateN (ops : List Oper) (bs : List Nat) (h i : Nat) : Bool := match ops[i]? with
  | some o => isLate o && !((List.range ops.length).all fun j => decide (j < h) || bitB bs j i)
  | none => false
/-- A region whose order is open: its first h operations only read, make memory, or put an entry into a map that was made here, in whatever order; each of the others waits for all before it, but for those that only read slots. -/
def drawOk (ops : List Oper) (bs : List Nat) (h : Nat) : Bool :=
  closB ops bs && decide (h ≤ ops.length) && Region.seqB .any ops.toArray (ops.length - h) h (listedH ops.length h) && Region.noSelect ops.toArray &&
  ((List.range h).all fun i => match ops[i]? with
    | some o => (!isBar o || isIns o) && (match o.guard with | some (g, _) => bitB bs i g && decide (g < i) | none => true) &&
      ((List.range h).all fun j => match dstN ops j with
        | some t => decide (i = j) || (decide (o.dst ≠ some t) && (!(o.looksAt ops.toArray).contains t || (if j < i then bitB bs i j else bitB bs j i)))
        | none => true) &&
      (!lateN ops bs h i || ((List.range ops.length).all fun j => decide (i = j) || bitB bs i j || (match ops[j]? with
        | some oj => (oj.after.toList.any fun e => Region.binds .any e && decide (e.on = i)) || o.apart ops.toArray oj
        | none => true)))
    | none => false) &&
  ((List.range ops.length).all fun i => decide (i < h) || (List.range i).all fun j => bitB bs i j || (decide (j < h) && lateN ops bs h j)) &&
  ((List.range h).all fun i => (List.range h).all fun j => match (ops[i]?).bind insT, (ops[j]?).bind insT with
    | some a, some b => decide (a = b)
    | _, _ => true)

/-- Of each region whose order is open: how many come first, what waits for what. -/
abbrev Tbl := List (Nat × Nat × List Nat)
def findT : Tbl → Nat → Option (Nat × List Nat)
  | [], _ => none
  | (i, h, bs) :: l, id => match Nat.beq i id with
    | true => some (h, bs)
    | false => findT l id
def codeOk (T : Tbl) : Code → Bool
  | .seq a b => codeOk T a && codeOk T b
  | .cond _ a b => codeOk T a && codeOk T b
  | .block _ c => codeOk T c
  | .loop c => codeOk T c
  | .rangeFunc _ _ a b => codeOk T a && codeOk T b
  | .region id ops draw => ops.toList.all (fun o => !isDef o) && match draw with
    | true => match findT T id with
      | some (h, bs) => match Nat.beq h 1000 with
        | true => Region.noSelect ops.toList.toArray
        | false => drawOk ops.toList bs h
      | none => Region.noSelect ops.toList.toArray
    | false => true
  | _ => true
end Go.Sx
