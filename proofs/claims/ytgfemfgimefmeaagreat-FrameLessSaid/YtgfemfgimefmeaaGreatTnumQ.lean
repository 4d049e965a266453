import Derived.Test.YtgfemfgimefmeaaGreatTnumP
namespace Go.Proofs.YtgfemfgimefmeaaGreat
open Go.RowKit
set_option linter.unusedSimpArgs false
set_option linter.unusedVariables false

/-! Plain laws of tnums: sums and differences by all carries. No program in sight. -/
namespace T
/-- A word whose bits below j are f's. -/
def mk (f : Nat → Bool) : Nat → BitVec 64
  | 0 => 0
  | j + 1 => if f j then mk f j ||| (1#64 <<< j) else mk f j
theorem one_bit {i j : Nat} (hi : i < 64) : (1#64 <<< j).getLsbD i = decide (i = j) := by
  simp only [BitVec.getLsbD_shiftLeft, hi, decide_true, Bool.true_and, BitVec.getLsbD_one]
  by_cases h : i = j
  · subst h; simp
  · simp [h]; omega
theorem mk_bit (f : Nat → Bool) : ∀ (j i : Nat), i < 64 → (mk f j).getLsbD i = (decide (i < j) && f i)
  | 0, i, hi => by simp [mk]
  | j + 1, i, hi => by
    have ih := mk_bit f j i hi
    unfold mk
    split
    · rename_i h
      rw [BitVec.getLsbD_or, ih, one_bit hi]
      by_cases e : i = j
      · subst e; simp [h]
      · simp only [e, decide_false, Bool.or_false]
        congr 1; exact decide_eq_decide.2 (by omega)
    · rename_i h
      rw [ih]
      by_cases e : i = j
      · subst e; simp [h]
      · congr 1; exact decide_eq_decide.2 (by omega)
theorem mk_yes {f : Nat → Bool} {j : Nat} (h : f j = true) : mk f (j + 1) = mk f j ||| (1#64 <<< j) := by simp [mk, h]
theorem mk_no {f : Nat → Bool} {j : Nat} (h : f j = false) : mk f (j + 1) = mk f j := by simp [mk, h]

/-- May a bit be so? -/
def may (t : Tn) (i : Nat) (b : Bool) : Bool := t.m.getLsbD i || (t.v.getLsbD i == b)
/-- What is carried on. -/
def cb (less p q c : Bool) : Bool := if less then (!p && (q || c)) || (q && c) else (p && q) || (p && c) || (q && c)
structure St where
  x : BitVec 64
  y : BitVec 64
  c0 : Bool
  c1 : Bool
/-- One of the eight rounds at a bit. -/
def rnd (less : Bool) (a b : Tn) (i : Nat) (c0 c1 : Bool) (s : St) (n : Nat) : St :=
  if (if n.testBit 2 then c1 else c0) && may a i (n.testBit 0) && may b i (n.testBit 1) then
    let z : St := if (n.testBit 0 ^^ n.testBit 1) ^^ n.testBit 2 then ⟨s.x ||| 1#64 <<< i, s.y, s.c0, s.c1⟩ else ⟨s.x, s.y ||| 1#64 <<< i, s.c0, s.c1⟩
    if cb less (n.testBit 0) (n.testBit 1) (n.testBit 2) then ⟨z.x, z.y, z.c0, true⟩ else ⟨z.x, z.y, true, z.c1⟩
  else s
def rnds (less : Bool) (a b : Tn) (i : Nat) (c0 c1 : Bool) (s : St) : Nat → St
  | 0 => s
  | k + 1 => rnd less a b i c0 c1 (rnds less a b i c0 c1 s k) k
/-- What eight rounds come to. -/
def fx (p1 p0 q1 q0 c0 c1 : Bool) : Bool := (c0 && ((p1 && q0) || (p0 && q1))) || (c1 && ((p0 && q0) || (p1 && q1)))
def fy (p1 p0 q1 q0 c0 c1 : Bool) : Bool := (c0 && ((p0 && q0) || (p1 && q1))) || (c1 && ((p1 && q0) || (p0 && q1)))
def n1 (less p1 p0 q1 q0 c0 c1 : Bool) : Bool :=
  (c0 && ((p0 && q0 && cb less false false false) || (p1 && q0 && cb less true false false) || (p0 && q1 && cb less false true false) || (p1 && q1 && cb less true true false))) ||
  (c1 && ((p0 && q0 && cb less false false true) || (p1 && q0 && cb less true false true) || (p0 && q1 && cb less false true true) || (p1 && q1 && cb less true true true)))
def n0 (less p1 p0 q1 q0 c0 c1 : Bool) : Bool :=
  (c0 && ((p0 && q0 && !cb less false false false) || (p1 && q0 && !cb less true false false) || (p0 && q1 && !cb less false true false) || (p1 && q1 && !cb less true true false))) ||
  (c1 && ((p0 && q0 && !cb less false false true) || (p1 && q0 && !cb less true false true) || (p0 && q1 && !cb less false true true) || (p1 && q1 && !cb less true true true)))
theorem or_twice (x b : BitVec 64) : x ||| b ||| b = x ||| b := by rw [BitVec.or_assoc, BitVec.or_self]
theorem ite_b {α : Type} {u v : Bool} {a b : α} (h : u = v) : (if u = true then a else b) = (if v = true then a else b) := by rw [h]
def cnd (a b : Tn) (i : Nat) (c0 c1 : Bool) (n : Nat) : Bool := (if n.testBit 2 then c1 else c0) && may a i (n.testBit 0) && may b i (n.testBit 1)
def odd (n : Nat) : Bool := (n.testBit 0 ^^ n.testBit 1) ^^ n.testBit 2
def cbn (less : Bool) (n : Nat) : Bool := cb less (n.testBit 0) (n.testBit 1) (n.testBit 2)
theorem rnd_form (less : Bool) (a b : Tn) (i : Nat) (c0 c1 : Bool) (x y : BitVec 64) (u v d0 d1 : Bool) (n : Nat) :
    rnd less a b i c0 c1 ⟨if u = true then x ||| 1#64 <<< i else x, if v = true then y ||| 1#64 <<< i else y, d0, d1⟩ n =
      ⟨if (u || (cnd a b i c0 c1 n && odd n)) = true then x ||| 1#64 <<< i else x, if (v || (cnd a b i c0 c1 n && !odd n)) = true then y ||| 1#64 <<< i else y, d0 || (cnd a b i c0 c1 n && !cbn less n), d1 || (cnd a b i c0 c1 n && cbn less n)⟩ := by
  unfold rnd
  rw [show ((if n.testBit 2 then c1 else c0) && may a i (n.testBit 0) && may b i (n.testBit 1)) = cnd a b i c0 c1 n from rfl, show ((n.testBit 0 ^^ n.testBit 1) ^^ n.testBit 2) = odd n from rfl, show cb less (n.testBit 0) (n.testBit 1) (n.testBit 2) = cbn less n from rfl]
  cases cnd a b i c0 c1 n <;> cases odd n <;> cases cbn less n <;> cases u <;> cases v <;> simp [or_twice]
theorem rnds8 (less : Bool) (a b : Tn) (i : Nat) (c0 c1 : Bool) (x y : BitVec 64) :
    rnds less a b i c0 c1 ⟨x, y, false, false⟩ 8 =
      ⟨if fx (may a i true) (may a i false) (may b i true) (may b i false) c0 c1 = true then x ||| 1#64 <<< i else x, if fy (may a i true) (may a i false) (may b i true) (may b i false) c0 c1 = true then y ||| 1#64 <<< i else y, n0 less (may a i true) (may a i false) (may b i true) (may b i false) c0 c1, n1 less (may a i true) (may a i false) (may b i true) (may b i false) c0 c1⟩ := by
  have h : rnds less a b i c0 c1 ⟨x, y, false, false⟩ 0 = ⟨if false = true then x ||| 1#64 <<< i else x, if false = true then y ||| 1#64 <<< i else y, false, false⟩ := rfl
  simp only [rnds] at h ⊢
  rw [h, rnd_form, rnd_form, rnd_form, rnd_form, rnd_form, rnd_form, rnd_form, rnd_form]
  have k : ∀ n, cnd a b i c0 c1 n = ((if n.testBit 2 then c1 else c0) && may a i (n.testBit 0) && may b i (n.testBit 1)) := fun _ => rfl
  simp only [k, odd, cbn, show Nat.testBit 0 0 = false from rfl, show Nat.testBit 0 1 = false from rfl, show Nat.testBit 0 2 = false from rfl,
    show Nat.testBit 1 0 = true from rfl, show Nat.testBit 1 1 = false from rfl, show Nat.testBit 1 2 = false from rfl,
    show Nat.testBit 2 0 = false from rfl, show Nat.testBit 2 1 = true from rfl, show Nat.testBit 2 2 = false from rfl,
    show Nat.testBit 3 0 = true from rfl, show Nat.testBit 3 1 = true from rfl, show Nat.testBit 3 2 = false from rfl,
    show Nat.testBit 4 0 = false from rfl, show Nat.testBit 4 1 = false from rfl, show Nat.testBit 4 2 = true from rfl,
    show Nat.testBit 5 0 = true from rfl, show Nat.testBit 5 1 = false from rfl, show Nat.testBit 5 2 = true from rfl,
    show Nat.testBit 6 0 = false from rfl, show Nat.testBit 6 1 = true from rfl, show Nat.testBit 6 2 = true from rfl,
    show Nat.testBit 7 0 = true from rfl, show Nat.testBit 7 1 = true from rfl, show Nat.testBit 7 2 = true from rfl]
  generalize may a i true = p1
  generalize may a i false = p0
  generalize may b i true = q1
  generalize may b i false = q0
  rw [St.mk.injEq]
  refine ⟨ite_b ?_, ite_b ?_, ?_, ?_⟩
  · clear h k; revert c0 c1 p1 p0 q1 q0; decide
  · clear h k; revert c0 c1 p1 p0 q1 q0; decide
  · clear h k; revert less c0 c1 p1 p0 q1 q0; decide
  · clear h k; revert less c0 c1 p1 p0 q1 q0; decide
/-- The carries that may come. -/
def cs (less : Bool) (a b : Tn) : Nat → Bool × Bool
  | 0 => (true, false)
  | i + 1 => (n0 less (may a i true) (may a i false) (may b i true) (may b i false) (cs less a b i).1 (cs less a b i).2, n1 less (may a i true) (may a i false) (may b i true) (may b i false) (cs less a b i).1 (cs less a b i).2)
def sx (less : Bool) (a b : Tn) (i : Nat) : Bool := fx (may a i true) (may a i false) (may b i true) (may b i false) (cs less a b i).1 (cs less a b i).2
def sy (less : Bool) (a b : Tn) (i : Nat) : Bool := fy (may a i true) (may a i false) (may b i true) (may b i false) (cs less a b i).1 (cs less a b i).2
theorem rnds_sums (less : Bool) (a b : Tn) (i : Nat) : rnds less a b i (cs less a b i).1 (cs less a b i).2 ⟨mk (sx less a b) i, mk (sy less a b) i, false, false⟩ 8 = ⟨mk (sx less a b) (i + 1), mk (sy less a b) (i + 1), (cs less a b (i + 1)).1, (cs less a b (i + 1)).2⟩ := by
  rw [rnds8]; simp only [mk, sx, sy, cs]; rfl
theorem ext64 {x y : BitVec 64} (h : ∀ i, i < 64 → x.getLsbD i = y.getLsbD i) : x = y := BitVec.eq_of_getLsbD_eq h

theorem right_bit {t : Tn} (h : right t = true) (i : Nat) : (t.v.getLsbD i && t.m.getLsbD i) = false := by
  by_cases hi : i < 64
  · exact right_iff.1 h i hi
  · rw [BitVec.getLsbD_of_ge t.v i (by omega)]; rfl
theorem vm_bit {t : Tn} (h : right t = true) (i : Nat) : (t.v + t.m).getLsbD i = (t.v.getLsbD i || t.m.getLsbD i) := by
  have h' : t.v &&& t.m = 0#64 := by simpa [right] using h
  rw [BitVec.add_eq_or_of_and_eq_zero _ _ h', BitVec.getLsbD_or]
/-- Of sums: the least carry, the greatest. -/
theorem cs_sum {a b : Tn} (ha : right a = true) (hb : right b = true) : ∀ i, (cs false a b i).1 = !BitVec.carry i a.v b.v false ∧ (cs false a b i).2 = BitVec.carry i (a.v + a.m) (b.v + b.m) false ∧ (BitVec.carry i a.v b.v false = true → BitVec.carry i (a.v + a.m) (b.v + b.m) false = true)
  | 0 => by simp [cs]
  | i + 1 => by
    obtain ⟨h0, h1, h2⟩ := cs_sum ha hb i
    simp only [cs, h0, h1, BitVec.carry_succ, vm_bit ha, vm_bit hb, may]
    have p := right_bit ha i; have q := right_bit hb i
    revert p q h2
    generalize BitVec.carry i a.v b.v false = c
    generalize BitVec.carry i (a.v + a.m) (b.v + b.m) false = d
    generalize a.v.getLsbD i = av
    generalize a.m.getLsbD i = am
    generalize b.v.getLsbD i = bv
    generalize b.m.getLsbD i = bm
    cases c <;> cases d <;> cases av <;> cases am <;> cases bv <;> cases bm <;> simp [n0, n1, cb, Bool.atLeastTwo]
theorem sum_bits {a b : Tn} (ha : right a = true) (hb : right b = true) {i : Nat} (hi : i < 64) :
    sx false a b i = ((sum a b).v.getLsbD i || (sum a b).m.getLsbD i) ∧ sy false a b i = !(sum a b).v.getLsbD i ∧ ((sum a b).v.getLsbD i && (sum a b).m.getLsbD i) = false := by
  obtain ⟨h0, h1, h2⟩ := cs_sum ha hb i
  have e : a.v + b.v + (a.m + b.m) = (a.v + a.m) + (b.v + b.m) := by
    rw [BitVec.add_assoc, BitVec.add_assoc, ← BitVec.add_assoc b.v, BitVec.add_comm b.v a.m, BitVec.add_assoc a.m]
  have p := right_bit ha i; have q := right_bit hb i
  simp only [sx, sy, h0, h1, sum, may, e, BitVec.getLsbD_and, BitVec.getLsbD_or, BitVec.getLsbD_xor, BitVec.getLsbD_not, hi, decide_true, Bool.true_and, BitVec.getLsbD_add hi a.v b.v, BitVec.getLsbD_add hi (a.v + a.m) (b.v + b.m), vm_bit ha, vm_bit hb]
  revert p q h2
  generalize BitVec.carry i a.v b.v false = c
  generalize BitVec.carry i (a.v + a.m) (b.v + b.m) false = d
  generalize a.v.getLsbD i = av
  generalize a.m.getLsbD i = am
  generalize b.v.getLsbD i = bv
  generalize b.m.getLsbD i = bm
  cases c <;> cases d <;> cases av <;> cases am <;> cases bv <;> cases bm <;> simp [fx, fy]
/-- Differences. -/
theorem sub_bit {x y : BitVec 64} {i : Nat} (hi : i < 64) : (x - y).getLsbD i = (x.getLsbD i ^^ (!y.getLsbD i ^^ BitVec.carry i x (~~~y) true)) := by
  have e : x - y = x + ~~~y + BitVec.setWidth 64 (BitVec.ofBool true) := by
    rw [BitVec.sub_eq_add_neg, BitVec.neg_eq_not_add, ← BitVec.add_assoc]; rfl
  rw [e, BitVec.getLsbD_add_add_bool hi, BitVec.getLsbD_not]
  simp [hi]
theorem not_bit {y : BitVec 64} {i : Nat} (hi : i < 64) : (~~~y).getLsbD i = !y.getLsbD i := by simp [hi]
theorem cs_dif {a b : Tn} (ha : right a = true) (hb : right b = true) : ∀ i, i ≤ 64 → (cs true a b i).1 = BitVec.carry i (a.v + a.m) (~~~b.v) true ∧ (cs true a b i).2 = !BitVec.carry i a.v (~~~(b.v + b.m)) true ∧
    (BitVec.carry i a.v (~~~(b.v + b.m)) true = true → BitVec.carry i a.v (~~~b.v) true = true) ∧ (BitVec.carry i a.v (~~~b.v) true = true → BitVec.carry i (a.v + a.m) (~~~b.v) true = true)
  | 0, _ => by simp [cs]
  | i + 1, hi => by
    obtain ⟨h0, h1, h2, h3⟩ := cs_dif ha hb i (by omega)
    simp only [cs, h0, h1, BitVec.carry_succ, not_bit (show i < 64 by omega), vm_bit ha, vm_bit hb, may]
    have p := right_bit ha i; have q := right_bit hb i
    revert p q h2 h3
    generalize BitVec.carry i (a.v + a.m) (~~~b.v) true = c
    generalize BitVec.carry i a.v (~~~(b.v + b.m)) true = d
    generalize BitVec.carry i a.v (~~~b.v) true = e
    generalize a.v.getLsbD i = av
    generalize a.m.getLsbD i = am
    generalize b.v.getLsbD i = bv
    generalize b.m.getLsbD i = bm
    cases c <;> cases d <;> cases e <;> cases av <;> cases am <;> cases bv <;> cases bm <;> simp [n0, n1, cb, Bool.atLeastTwo]
theorem dif_bits {a b : Tn} (ha : right a = true) (hb : right b = true) {i : Nat} (hi : i < 64) :
    sx true a b i = ((difference a b).v.getLsbD i || (difference a b).m.getLsbD i) ∧ sy true a b i = !(difference a b).v.getLsbD i ∧ ((difference a b).v.getLsbD i && (difference a b).m.getLsbD i) = false := by
  obtain ⟨h0, h1, h2, h3⟩ := cs_dif ha hb i (by omega)
  have e1 : a.v - b.v + a.m = (a.v + a.m) - b.v := by
    rw [BitVec.sub_eq_add_neg, BitVec.sub_eq_add_neg, BitVec.add_assoc, BitVec.add_assoc, BitVec.add_comm (-b.v)]
  have e2 : a.v - b.v - b.m = a.v - (b.v + b.m) := by rw [BitVec.sub_sub]
  have p := right_bit ha i; have q := right_bit hb i
  simp only [sx, sy, h0, h1, difference, may, e1, e2, BitVec.getLsbD_and, BitVec.getLsbD_or, BitVec.getLsbD_xor, BitVec.getLsbD_not, hi, decide_true, Bool.true_and, sub_bit hi, vm_bit ha, vm_bit hb]
  revert p q h2 h3
  generalize BitVec.carry i (a.v + a.m) (~~~b.v) true = c
  generalize BitVec.carry i a.v (~~~(b.v + b.m)) true = d
  generalize BitVec.carry i a.v (~~~b.v) true = e
  generalize a.v.getLsbD i = av
  generalize a.m.getLsbD i = am
  generalize b.v.getLsbD i = bv
  generalize b.m.getLsbD i = bm
  cases c <;> cases d <;> cases e <;> cases av <;> cases am <;> cases bv <;> cases bm <;> simp [fx, fy]
end T
end Go.Proofs.YtgfemfgimefmeaaGreat
