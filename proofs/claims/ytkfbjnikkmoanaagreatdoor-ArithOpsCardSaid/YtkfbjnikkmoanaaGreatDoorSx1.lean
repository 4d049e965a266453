/- A symbolic executor for the program's code, proved sound against the kit's 'wp': its values, its memory. No idea of any one program stands here. -/
import Derived.Test.YtkfbjnikkmoanaaGreatDoorSx0
namespace Go.Sx
open Go.RowKit Go.Proofs.YtkfbjnikkmoanaaGreatDoor
set_option linter.unusedSimpArgs false
set_option linter.unusedVariables false

/-- Where a named block lies: its block, the cell it begins at, how many elements there is room for. -/
structure Loc where
  blk : Nat
  off : Nat
  cap : Nat
/-- Where the named blocks lie; none: a nil slice. -/
abbrev Val := Nat → Option Loc

/-- What may be changed: what is new (from s on), and blocks that are named. -/
structure Bd where
  s : Nat
  x : List Nat
def Bd.may (B : Bd) (k : Nat) : Prop := k ∈ B.x ∨ B.s ≤ k
theorem Bd.lt {B : Bd} {k : Nat} (h : ¬ B.may k) : k < B.s := Nat.lt_of_not_le fun e => h (.inr e)
/-- All else is as it was. -/
structure Kept (B : Bd) (w w' : World) : Prop where
  os : w'.os = w.os
  tape : w'.tape = w.tape
  output : w'.output = w.output
  size : w.heap.size ≤ w'.heap.size
  block : ∀ k, ¬ B.may k → w'.heap[k]? = w.heap[k]?
  dq : ∀ k : Nat, w.heap[k]? = some (Obj.deferred (some [])) → w'.heap[k]? = some (Obj.deferred (some []))
  lq : ∀ (k : Nat) (r : Loop), w.heap[k]? = some (Obj.loop r) → ∃ r', w'.heap[k]? = some (Obj.loop r')
theorem Kept.refl (B : Bd) (w : World) : Kept B w w := ⟨rfl, rfl, rfl, Nat.le_refl _, fun _ _ => rfl, fun _ h => h, fun _ r h => ⟨r, h⟩⟩
theorem Kept.trans {B : Bd} {a b c : World} (h : Kept B a b) (k : Kept B b c) : Kept B a c :=
  ⟨k.os.trans h.os, k.tape.trans h.tape, k.output.trans h.output, Nat.le_trans h.size k.size, fun i hi => (k.block i hi).trans (h.block i hi), fun i hi => k.dq i (h.dq i hi), fun i r hi => let ⟨r', h'⟩ := h.lq i r hi; k.lq i r' h'⟩
/-- What was there stays: a block for deferred calls, too. -/
theorem dq_below {w w' : World} (h : Below w.heap.size w w') : ∀ k : Nat, w.heap[k]? = some (Obj.deferred (some [])) → w'.heap[k]? = some (Obj.deferred (some [])) :=
  fun k hk => by rw [h.block k (Array.getElem?_eq_some_iff.1 hk).1]; exact hk
theorem Kept.of_below {B : Bd} {w w' : World} (hs : B.s ≤ w.heap.size) (h : Below w.heap.size w w') : Kept B w w' :=
  ⟨h.os, h.tape, h.output, h.size, fun k hk => h.block k (Nat.lt_of_lt_of_le (Bd.lt hk) hs), dq_below h, fun k r hk => ⟨r, by rw [h.block k (Array.getElem?_eq_some_iff.1 hk).1]; exact hk⟩⟩
theorem Kept.below {B : Bd} {w w' : World} (hx : B.x = []) (h : Kept B w w') : Below B.s w w' :=
  ⟨h.os, h.tape, h.output, h.size, fun k hk => h.block k fun e => e.elim (fun e => by rw [hx] at e; cases e) (fun e => by omega)⟩
theorem Kept.drew {B : Bd} {a w : World} (h : Kept B a w) : Kept B a { w with drawn := w.drawn + 1 } := ⟨h.os, h.tape, h.output, h.size, h.block, h.dq, h.lq⟩
theorem Kept.trans_full {B : Bd} {w0 w w' : World} (h : Kept B w0 w) (hB : B.s ≤ w.heap.size) (h' : Below w.heap.size w w') : Kept B w0 w' := h.trans (Kept.of_below hB h')

/-- A value as far as it is known. -/
inductive SV where
  | junk
  | val (v : Value)
  | tt
  | ff
  | bool (b : Bool)
  | int (k : IntKind) (n : Int)
  | u64 (x : BitVec 64)
  | agg (xs : List SV)
  | tup (xs : List SV)
  | ptr (n off : Nat)
  | ep (n i sz j : Nat)
  | sl (n sz off len : Nat)
  | mp (n : Nat)
  | yld (n : Nat)
  | fn (f : Fn) (fst cap : List SV)

/-- A cell that names no block. -/
inductive FV where
  | val (v : Value)
  | bool (b : Bool)
  | int (k : IntKind) (n : Int)
  | u64 (x : BitVec 64)

def FV.den : FV → Value
  | .val v => v
  | .bool b => .bool b
  | .int k n => .int k n
  | .u64 x => .int .u64 (uv x)
def FV.sv : FV → SV
  | .val v => .val v
  | .bool b => .bool b
  | .int k n => .int k n
  | .u64 x => .u64 x

mutual
def SV.den (ρ : Val) : SV → Value
  | .junk => undef
  | .val v => v
  | .tt => .bool true
  | .ff => .bool false
  | .bool b => .bool b
  | .int k n => .int k n
  | .u64 x => .int .u64 (uv x)
  | .agg xs => .agg (denL ρ xs).toArray
  | .tup xs => .tuple (denL ρ xs).toArray
  | .ptr n off => .pointer ((ρ n).map fun l => ⟨l.blk, l.off + off, none⟩)
  | .ep n i sz j => .pointer ((ρ n).map fun l => ⟨l.blk, l.off + i * sz + j, none⟩)
  | .sl n sz off len => .slice ((ρ n).map fun l => ⟨l.blk, l.off + off * sz, none⟩) len (((ρ n).map fun l => l.cap).getD 0 - off)
  | .mp n => .map ((ρ n).map fun l => l.blk)
  | .yld n => .func (.yield (((ρ n).map fun l => l.blk).getD 0)) #[] #[]
  | .fn f a b => .func f (denL ρ a).toArray (denL ρ b).toArray
def denL (ρ : Val) : List SV → List Value
  | [] => []
  | x :: l => x.den ρ :: denL ρ l
end

mutual
/-- All names in it are of a sort. -/
def SV.sc (p : Nat → Bool) : SV → Bool
  | .agg xs => scL p xs
  | .tup xs => scL p xs
  | .ptr n _ => p n
  | .ep n _ _ _ => p n
  | .sl n _ _ _ => p n
  | .mp n => p n
  | .yld n => p n
  | .fn _ a b => scL p a && scL p b
  | _ => true
def scL (p : Nat → Bool) : List SV → Bool
  | [] => true
  | x :: l => x.sc p && scL p l
end

theorem denL_eq (ρ : Val) : ∀ l, denL ρ l = l.map (SV.den ρ)
  | [] => by simp [denL]
  | x :: l => by simp [denL, denL_eq ρ l]
theorem scL_eq (p : Nat → Bool) : ∀ l, scL p l = l.all (SV.sc p)
  | [] => by simp [scL]
  | x :: l => by simp [scL, scL_eq p l]

mutual
theorem SV.den_congr {ρ ρ' : Val} {p : Nat → Bool} (h : ∀ n, p n = true → ρ' n = ρ n) : ∀ sv : SV, sv.sc p = true → sv.den ρ' = sv.den ρ
  | .junk, _ => rfl
  | .val _, _ => rfl
  | .tt, _ => rfl
  | .ff, _ => rfl
  | .bool _, _ => rfl
  | .int _ _, _ => rfl
  | .u64 _, _ => rfl
  | .agg xs, hs => by simp only [SV.sc] at hs; simp only [SV.den, denL_congr h xs hs]
  | .tup xs, hs => by simp only [SV.sc] at hs; simp only [SV.den, denL_congr h xs hs]
  | .ptr n _, hs => by simp only [SV.sc] at hs; simp only [SV.den, h n hs]
  | .ep n _ _ _, hs => by simp only [SV.sc] at hs; simp only [SV.den, h n hs]
  | .sl n _ _ _, hs => by simp only [SV.sc] at hs; simp only [SV.den, h n hs]
  | .mp n, hs => by simp only [SV.sc] at hs; simp only [SV.den, h n hs]
  | .yld n, hs => by simp only [SV.sc] at hs; simp only [SV.den, h n hs]
  | .fn _ a b, hs => by simp only [SV.sc, Bool.and_eq_true] at hs; simp only [SV.den, denL_congr h a hs.1, denL_congr h b hs.2]
theorem denL_congr {ρ ρ' : Val} {p : Nat → Bool} (h : ∀ n, p n = true → ρ' n = ρ n) : ∀ l : List SV, scL p l = true → denL ρ' l = denL ρ l
  | [], _ => rfl
  | x :: l, hs => by simp only [scL, Bool.and_eq_true] at hs; simp only [denL, SV.den_congr h x hs.1, denL_congr h l hs.2]
end
mutual
theorem SV.sc_mono {p q : Nat → Bool} (h : ∀ n, p n = true → q n = true) : ∀ sv : SV, sv.sc p = true → sv.sc q = true
  | .junk, _ => rfl
  | .val _, _ => rfl
  | .tt, _ => rfl
  | .ff, _ => rfl
  | .bool _, _ => rfl
  | .int _ _, _ => rfl
  | .u64 _, _ => rfl
  | .agg xs, hs => by simp only [SV.sc] at hs ⊢; exact scL_mono h xs hs
  | .tup xs, hs => by simp only [SV.sc] at hs ⊢; exact scL_mono h xs hs
  | .ptr n _, hs => by simp only [SV.sc] at hs ⊢; exact h n hs
  | .ep n _ _ _, hs => by simp only [SV.sc] at hs ⊢; exact h n hs
  | .sl n _ _ _, hs => by simp only [SV.sc] at hs ⊢; exact h n hs
  | .mp n, hs => by simp only [SV.sc] at hs ⊢; exact h n hs
  | .yld n, hs => by simp only [SV.sc] at hs ⊢; exact h n hs
  | .fn _ a b, hs => by simp only [SV.sc, Bool.and_eq_true] at hs ⊢; exact ⟨scL_mono h a hs.1, scL_mono h b hs.2⟩
theorem scL_mono {p q : Nat → Bool} (h : ∀ n, p n = true → q n = true) : ∀ l : List SV, scL p l = true → scL q l = true
  | [], _ => rfl
  | x :: l, hs => by simp only [scL, Bool.and_eq_true] at hs ⊢; exact ⟨SV.sc_mono h x hs.1, scL_mono h l hs.2⟩
end

mutual
theorem SV.sc_all : ∀ sv : SV, sv.sc (fun _ => true) = true
  | .junk => rfl
  | .val _ => rfl
  | .tt => rfl
  | .ff => rfl
  | .bool _ => rfl
  | .int _ _ => rfl
  | .u64 _ => rfl
  | .agg xs => by simp only [SV.sc]; exact scL_all xs
  | .tup xs => by simp only [SV.sc]; exact scL_all xs
  | .ptr _ _ => rfl
  | .ep _ _ _ _ => rfl
  | .sl _ _ _ _ => rfl
  | .mp _ => rfl
  | .yld _ => rfl
  | .fn _ a b => by simp only [SV.sc, Bool.and_eq_true]; exact ⟨scL_all a, scL_all b⟩
theorem scL_all : ∀ l : List SV, scL (fun _ => true) l = true
  | [] => rfl
  | x :: l => by simp only [scL, Bool.and_eq_true]; exact ⟨SV.sc_all x, scL_all l⟩
end
mutual
theorem SV.sc_and {p q : Nat → Bool} : ∀ sv : SV, sv.sc p = true → sv.sc q = true → sv.sc (fun n => p n && q n) = true
  | .junk, _, _ => rfl
  | .val _, _, _ => rfl
  | .tt, _, _ => rfl
  | .ff, _, _ => rfl
  | .bool _, _, _ => rfl
  | .int _ _, _, _ => rfl
  | .u64 _, _, _ => rfl
  | .agg xs, h, k => by simp only [SV.sc] at h k ⊢; exact scL_and xs h k
  | .tup xs, h, k => by simp only [SV.sc] at h k ⊢; exact scL_and xs h k
  | .ptr n _, h, k => by simp only [SV.sc] at h k ⊢; simp [h, k]
  | .ep n _ _ _, h, k => by simp only [SV.sc] at h k ⊢; simp [h, k]
  | .sl n _ _ _, h, k => by simp only [SV.sc] at h k ⊢; simp [h, k]
  | .mp n, h, k => by simp only [SV.sc] at h k ⊢; simp [h, k]
  | .yld n, h, k => by simp only [SV.sc] at h k ⊢; simp [h, k]
  | .fn _ a b, h, k => by
    simp only [SV.sc, Bool.and_eq_true] at h k ⊢; exact ⟨scL_and a h.1 k.1, scL_and b h.2 k.2⟩
theorem scL_and {p q : Nat → Bool} : ∀ l : List SV, scL p l = true → scL q l = true → scL (fun n => p n && q n) l = true
  | [], _, _ => rfl
  | x :: l, h, k => by
    simp only [scL, Bool.and_eq_true] at h k ⊢; exact ⟨SV.sc_and x h.1 k.1, scL_and l h.2 k.2⟩
end
theorem FV.sv_den (ρ : Val) (x : FV) : x.sv.den ρ = x.den := by cases x <;> simp [FV.sv, SV.den, FV.den]
theorem FV.sv_sc (p : Nat → Bool) (x : FV) : x.sv.sc p = true := by cases x <;> simp [FV.sv, SV.sc]

/-- How a statement is left. -/
inductive X where
  | normal
  | exit (id : Nat)
  | ret
def X.to : X → Exit
  | .normal => .normal
  | .exit id => .exit id
  | .ret => .ret
/-- How far a range over a function is: between two rounds; in a round; left, and how. -/
inductive LS where
  | ready
  | busy
  | done (x : X)
def X.code : X → Code
  | .normal => .skip
  | .exit id => .exit id
  | .ret => .ret
def LS.state : LS → LoopState
  | .ready => .ready
  | .busy => .busy
  | .done _ => .done
def LS.pending : LS → Option Code
  | .ready => none
  | .busy => none
  | .done x => some x.code

/-- What is known of a named block. -/
inductive Blk where
  | dead
  | cells (ty : TypeId) (xs : List SV)
  | rc (ty : TypeId) (xs : List SV)
  | ro (sz n : Nat) (g : Nat → List FV)
  | own (ty : TypeId) (sz n : Nat) (g : Nat → List FV)
  | map (es : List (SV × SV))
  | lp (T : Tbl) (fe : List SV) (ps : Array Tmp) (assign body : Code) (st : LS)

/-- An element's cells. -/
def okG (sz : Nat) (l : List FV) : Prop := l.length = sz ∧ ∀ x ∈ l, x.den.oneCell' = true

/-- The cells of n elements. -/
def flatG (n : Nat) (g : Nat → List FV) : List Value := (List.range n).flatMap fun i => (g i).map FV.den

def Blk.isOwn : Blk → Bool
  | .cells .. | .own .. | .map .. | .lp .. => true
  | _ => false

/-- A map's entries, in whatever order. -/
def esD (ρ : Val) (es : List (SV × SV)) : List (Value × Value) := es.map fun p => (p.1.den ρ, p.2.den ρ)
structure MapIs (ρ : Val) (es : List (SV × SV)) (arr : Array MapEntry) : Prop where
  perm : (arr.toList.map fun e => (e.key, e.val)).Perm (esD ρ es)
  nodup : ((esD ρ es).map (·.1)).Nodup
/-- The record of a range over a function. -/
structure LoopIs (ρ : Val) (T : Tbl) (fe : List SV) (ps : Array Tmp) (assign body : Code) (st : LS) (r : Loop) : Prop where
  okA : codeOk T assign = true
  okB : codeOk T body = true
  params : r.params = ps
  assign : r.assign = assign
  body : r.body = body
  size : r.tmps.size = fe.length
  slot : ∀ (s : Nat) (x : SV), fe[s]? = some x → x ≠ .junk → r.tmps[s]? = some (x.den ρ)
  state : r.state = st.state
  pending : r.pending = st.pending

/-- A block is as it is known. B: what lies below was there when the function was called. -/
def Blk.ok (B : Bd) (ρ : Val) (n : Nat) (w : World) : Blk → Prop
  | .dead => True
  | .cells ty xs => ∃ l, ρ n = some l ∧ l.off = 0 ∧ B.may l.blk ∧ w.heap[l.blk]? = some (.cells (denL ρ xs).toArray ty (0, 0))
  | .rc ty xs => ∃ l, ρ n = some l ∧ l.off = 0 ∧ ¬ B.may l.blk ∧ w.heap[l.blk]? = some (.cells (denL ρ xs).toArray ty (0, 0))
  | .ro sz m g => (ρ n = none → m = 0) ∧ (∀ l, ρ n = some l → m ≤ l.cap ∧ (0 < m → ¬ B.may l.blk) ∧ ∀ i, i < m → okG sz (g i) ∧ ∀ j x, (g i)[j]? = some x → w.cell? ⟨l.blk, l.off + i * sz + j, none⟩ = some x.den)
  | .own ty sz m g => (∀ i, i < m → okG sz (g i)) ∧ ((ρ n = none ∧ m = 0) ∨ ∃ l cur, ρ n = some l ∧ l.off = 0 ∧ B.may l.blk ∧ w.heap[l.blk]? = some (.cells cur ty (0, 0)) ∧ m ≤ l.cap ∧ l.cap ≤ maxLen ∧ cur.size = l.cap * sz ∧ cur.toList.take (m * sz) = flatG m g)
  | .map es => ∃ l arr cnt, ρ n = some l ∧ B.may l.blk ∧ w.heap[l.blk]? = some (.map arr cnt) ∧ MapIs ρ es arr
  | .lp T fe ps asg bd st => ∃ l r, ρ n = some l ∧ B.may l.blk ∧ w.heap[l.blk]? = some (.loop r) ∧ LoopIs ρ T fe ps asg bd st r

/-- Names in a block's cells. -/
def Blk.sc (p : Nat → Bool) : Blk → Bool
  | .cells _ xs => scL p xs
  | .rc _ xs => scL p xs
  | .map es => scL p (es.map (·.1)) && scL p (es.map (·.2))
  | .lp _ fe .. => scL p fe
  | _ => true

theorem Blk.sc_mono {p q : Nat → Bool} (h : ∀ n, p n = true → q n = true) (b : Blk) (hs : b.sc p = true) : b.sc q = true := by
  cases b with
  | cells ty xs => exact scL_mono h xs hs
  | rc ty xs => exact scL_mono h xs hs
  | map es =>
    simp only [Blk.sc, Bool.and_eq_true] at hs ⊢
    exact ⟨scL_mono h _ hs.1, scL_mono h _ hs.2⟩
  | lp _ fe => exact scL_mono h fe hs
  | _ => rfl
theorem esD_congr {ρ ρ' : Val} {p : Nat → Bool} (h : ∀ n, p n = true → ρ' n = ρ n) : ∀ (es : List (SV × SV)), scL p (es.map (·.1)) = true → scL p (es.map (·.2)) = true → esD ρ' es = esD ρ es
  | [], _, _ => rfl
  | (k, v) :: l, h1, h2 => by
    simp only [List.map_cons, scL, Bool.and_eq_true] at h1 h2
    have ih := esD_congr h l h1.2 h2.2
    simp only [esD, List.map_cons, SV.den_congr h k h1.1, SV.den_congr h v h2.1] at ih ⊢
    rw [ih]
theorem LoopIs.congr {ρ ρ' : Val} {p : Nat → Bool} (h : ∀ n, p n = true → ρ' n = ρ n) {T : Tbl} {fe : List SV} {ps : Array Tmp} {asg bd : Code} {st : LS} {r : Loop} (hs : scL p fe = true) (hl : LoopIs ρ T fe ps asg bd st r) : LoopIs ρ' T fe ps asg bd st r :=
  ⟨hl.okA, hl.okB, hl.params, hl.assign, hl.body, hl.size, fun s x hx hj => by
    rw [scL_eq, List.all_eq_true] at hs
    rw [SV.den_congr h x (hs x (List.mem_of_getElem? hx))]
    exact hl.slot s x hx hj, hl.state, hl.pending⟩

theorem Blk.ok_congr {B : Bd} {ρ ρ' : Val} {p : Nat → Bool} {n : Nat} {w : World} (h : ∀ n, p n = true → ρ' n = ρ n) (hn : p n = true) (b : Blk) (hs : b.sc p = true) (hb : b.ok B ρ n w) : b.ok B ρ' n w := by
  have e := h n hn
  cases b with
  | dead => trivial
  | cells ty xs => simp only [Blk.sc] at hs; simp only [Blk.ok, e, denL_congr h xs hs] at hb ⊢; exact hb
  | rc ty xs => simp only [Blk.sc] at hs; simp only [Blk.ok, e, denL_congr h xs hs] at hb ⊢; exact hb
  | ro sz m g => simp only [Blk.ok, e] at hb ⊢; exact hb
  | own ty sz m g => simp only [Blk.ok, e] at hb ⊢; exact hb
  | map es =>
    simp only [Blk.sc, Bool.and_eq_true] at hs
    obtain ⟨l, arr, cnt, h1, h2, h3, h4⟩ := hb
    exact ⟨l, arr, cnt, by rw [e]; exact h1, h2, h3, by rw [esD_congr h es hs.1 hs.2]; exact h4.perm, by rw [esD_congr h es hs.1 hs.2]; exact h4.nodup⟩
  | lp T fe ps asg bd st =>
    obtain ⟨l, r, h1, h2, h3, h4⟩ := hb
    exact ⟨l, r, by rw [e]; exact h1, h2, h3, h4.congr h hs⟩

theorem Blk.ok.elim_congr {B : Bd} {ρ ρ' : Val} {m n : Nat} {w : World} {b : Blk} (hb : b.ok B ρ n w) (h : ∀ n, n < m → ρ' n = ρ n) (hn : n < m) (hs : b.sc (fun n => n < m) = true) : b.ok B ρ' n w :=
  Blk.ok_congr (p := fun n => n < m) (fun n hn => h n (by simpa using hn)) (by simpa using hn) b hs hb

/-- The block lies in the heap. -/
theorem Blk.ok_lt {B : Bd} {ρ : Val} {n : Nat} {w : World} {b : Blk} (hb : b.ok B ρ n w) (hown : b.isOwn = true) {l : Loc} (hl : ρ n = some l) : B.may l.blk ∧ l.blk < w.heap.size := by
  cases b with
  | cells ty xs =>
    obtain ⟨l', e, _, h1, h2⟩ := hb
    obtain rfl : l' = l := by rw [hl] at e; exact (Option.some.inj e).symm
    exact ⟨h1, (Array.getElem?_eq_some_iff.1 h2).1⟩
  | own ty sz m g =>
    rcases hb.2 with ⟨e, _⟩ | ⟨l', cur, e, _, h1, h2, _⟩
    · rw [hl] at e; cases e
    · obtain rfl : l' = l := by rw [hl] at e; exact (Option.some.inj e).symm
      exact ⟨h1, (Array.getElem?_eq_some_iff.1 h2).1⟩
  | map es =>
    obtain ⟨l', arr, cnt, e, h1, h2, _⟩ := hb
    obtain rfl : l' = l := by rw [hl] at e; exact (Option.some.inj e).symm
    exact ⟨h1, (Array.getElem?_eq_some_iff.1 h2).1⟩
  | lp T fe ps asg bd st =>
    obtain ⟨l', r, e, h1, h2, _⟩ := hb
    obtain rfl : l' = l := by rw [hl] at e; exact (Option.some.inj e).symm
    exact ⟨h1, (Array.getElem?_eq_some_iff.1 h2).1⟩
  | dead => cases hown
  | rc => cases hown
  | ro => cases hown

/-- A block stays known where its heap's block is as it was. -/
theorem Blk.ok_same {B : Bd} {ρ : Val} {n : Nat} {w w' : World} (b : Blk) (hb : b.ok B ρ n w) (hB : ∀ k, ¬ B.may k → w'.heap[k]? = w.heap[k]?)
    (h : b.isOwn = true → ∀ l, ρ n = some l → w'.heap[l.blk]? = w.heap[l.blk]?) : b.ok B ρ n w' := by
  cases b with
  | dead => trivial
  | cells ty xs =>
    obtain ⟨l, e, h0, h1, h2⟩ := hb
    exact ⟨l, e, h0, h1, by rw [h rfl l e]; exact h2⟩
  | rc ty xs =>
    obtain ⟨l, e, h0, h1, h2⟩ := hb
    exact ⟨l, e, h0, h1, by rw [hB _ h1]; exact h2⟩
  | ro sz m g =>
    refine ⟨hb.1, fun l hl => ?_⟩
    obtain ⟨hc, hlt, hcells⟩ := hb.2 l hl
    refine ⟨hc, hlt, fun i hi => ⟨(hcells i hi).1, fun j x hx => ?_⟩⟩
    rw [World.cell?_of_block (w := w) (hB l.blk (hlt (by omega)))]
    exact (hcells i hi).2 j x hx
  | own ty sz m g =>
    refine ⟨hb.1, ?_⟩
    rcases hb.2 with he | ⟨l, cur, e, h0, h1, h2, h3⟩
    · exact .inl he
    · exact .inr ⟨l, cur, e, h0, h1, by rw [h rfl l e]; exact h2, h3⟩
  | map es =>
    obtain ⟨l, arr, cnt, e, h1, h2, h3⟩ := hb
    exact ⟨l, arr, cnt, e, h1, by rw [h rfl l e]; exact h2, h3⟩
  | lp T fe ps asg bd st =>
    obtain ⟨l, r, e, h1, h2, h3⟩ := hb
    exact ⟨l, r, e, h1, by rw [h rfl l e]; exact h2, h3⟩

/-- The memory is as it is known. -/
structure MRel (B : Bd) (ρ : Val) (M : List Blk) (w : World) : Prop where
  size : B.s ≤ w.heap.size
  ok : ∀ (n : Nat) (b : Blk), M[n]? = some b → b.ok B ρ n w
  apart : ∀ (n m : Nat) (b c : Blk) (l k : Loc), n ≠ m → M[n]? = some b → M[m]? = some c → b.isOwn = true → c.isOwn = true → ρ n = some l → ρ m = some k → l.blk ≠ k.blk

/-- New blocks: from S on; their names begin at m. -/
structure New (B : Bd) (S : Nat) (ρ : Val) (m : Nat) (nb : List Blk) (w : World) : Prop where
  ok : ∀ (k : Nat) (b : Blk), nb[k]? = some b → b.ok B ρ (m + k) w
  fresh : ∀ (k : Nat) (b : Blk) (l : Loc), nb[k]? = some b → b.isOwn = true → ρ (m + k) = some l → S ≤ l.blk
  apart : ∀ (i j : Nat) (b c : Blk) (l k : Loc), i ≠ j → nb[i]? = some b → nb[j]? = some c → b.isOwn = true → c.isOwn = true → ρ (m + i) = some l → ρ (m + j) = some k → l.blk ≠ k.blk

theorem New.nil (B : Bd) (S : Nat) (ρ : Val) (m : Nat) (w : World) : New B S ρ m [] w := ⟨by simp, by simp, by simp⟩
theorem MRel.nil {B : Bd} (ρ : Val) {w : World} (h : B.s ≤ w.heap.size) : MRel B ρ [] w := ⟨h, by simp, by simp⟩

/-- New blocks are all that a world has more: what was known stays known. -/
theorem MRel.grown {B : Bd} {ρ ρ' : Val} {M nb : List Blk} {w w' : World} (h : MRel B ρ M w) (hsc : M.all (Blk.sc fun n => n < M.length) = true)
    (hρ : ∀ n, n < M.length → ρ' n = ρ n) (hb : Below w.heap.size w w') (hn : New B w.heap.size ρ' M.length nb w') : MRel B ρ' (M ++ nb) w' := by
  have old : ∀ (n : Nat) (b : Blk), M[n]? = some b → b.ok B ρ' n w' := fun n b hn => by
    have hlt : n < M.length := (List.getElem?_eq_some_iff.1 hn).1
    have hm : b ∈ M := List.mem_of_getElem? hn
    have h1 : b.ok B ρ' n w := (h.ok n b hn).elim_congr hρ hlt (List.all_eq_true.1 hsc b hm)
    refine b.ok_same h1 (fun k hk => hb.block k (Nat.lt_of_lt_of_le (Bd.lt hk) h.size)) fun ho l hl => hb.block _ (Blk.ok_lt h1 ho hl).2
  refine ⟨Nat.le_trans h.size hb.size, fun n b hnb => ?_, fun n m b c l k hne h1 h2 o1 o2 e1 e2 => ?_⟩
  · rcases Nat.lt_or_ge n M.length with hlt | hge
    · rw [List.getElem?_append_left hlt] at hnb; exact old n b hnb
    · rw [List.getElem?_append_right hge] at hnb
      have := hn.ok _ _ hnb
      rwa [show M.length + (n - M.length) = n by omega] at this
  · have oldlt : ∀ (n : Nat) (b : Blk) (l : Loc), n < M.length → M[n]? = some b → b.isOwn = true → ρ' n = some l → l.blk < w.heap.size := fun n b l hlt hnb ho e =>
      (Blk.ok_lt ((h.ok n b hnb)) ho (by rw [← hρ n hlt]; exact e)).2
    rcases Nat.lt_or_ge n M.length with hlt | hge <;> rcases Nat.lt_or_ge m M.length with hlt' | hge'
    · rw [List.getElem?_append_left hlt] at h1; rw [List.getElem?_append_left hlt'] at h2
      exact h.apart n m b c l k hne h1 h2 o1 o2 (by rw [← hρ n hlt]; exact e1) (by rw [← hρ m hlt']; exact e2)
    · rw [List.getElem?_append_left hlt] at h1; rw [List.getElem?_append_right hge'] at h2
      have a := oldlt n b l hlt h1 o1 e1
      have b' := hn.fresh _ _ k h2 o2 (by rwa [show M.length + (m - M.length) = m by omega])
      omega
    · rw [List.getElem?_append_right hge] at h1; rw [List.getElem?_append_left hlt'] at h2
      have a := oldlt m c k hlt' h2 o2 e2
      have b' := hn.fresh _ _ l h1 o1 (by rwa [show M.length + (n - M.length) = n by omega])
      omega
    · rw [List.getElem?_append_right hge] at h1; rw [List.getElem?_append_right hge'] at h2
      exact hn.apart _ _ b c l k (by omega) h1 h2 o1 o2 (by rwa [show M.length + (n - M.length) = n by omega]) (by rwa [show M.length + (m - M.length) = m by omega])
end Go.Sx
