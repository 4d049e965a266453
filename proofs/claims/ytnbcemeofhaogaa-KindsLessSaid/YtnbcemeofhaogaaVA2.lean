import Derived.Test.YtnbcemeofhaogaaXG
import Derived.Test.YtnbcemeofhaogaaZM
import Derived.Test.YtnbcemeofhaogaaZN
import Derived.Test.YtnbcemeofhaogaaZS
import Derived.Lib.Bytealg
namespace Go.Proofs.Ytnbcemeofhaogaa
open Go.RowKit Go.Sx
set_option linter.unusedSimpArgs false
set_option linter.unusedVariables false
set_option linter.unnecessarySimpa false
set_option maxRecDepth 100000
set_option maxHeartbeats 4000000
set_option maxHeartbeats 400000
/-- A type of programs; a table. -/
structure Ty where
  nm : ByteArray
  cx : Int
  fs : List Fd
  ns : List Nd
  lo : Int
  hi : Int
structure Tb where
  pr : ByteArray
  ts : List Ty
  hs : List Hp
def Ty.no : Ty := ⟨⟨#[]⟩, 0, [], [], 0, 0⟩
def Tb.no : Tb := ⟨⟨#[]⟩, [], []⟩
def cF : Cel Fd := eF.toCel fun _ => rfl
def cN : Cel Nd := eN.toCel fun _ => rfl
@[reducible] def celY (t : Ty) : List FV := [.val (.string t.nm), .int .i64 t.cx, .row 4 t.fs.length (gOf eF t.fs), .row 3 t.ns.length (gOf eN t.ns), .int .i64 t.lo, .int .i64 t.hi]
theorem str_eq {x : FV} {a b : ByteArray} (h1 : FVEq x (.val (.string a))) (h2 : FVEq x (.val (.string b))) : a = b := by
  have := (h1.inv_flat rfl).symm.trans (h2.inv_flat rfl)
  injection this with this
  injection this
theorem celY_uniq {l : List FV} {a b : Ty} (h1 : FVEqL l (celY a)) (h2 : FVEqL l (celY b)) : a = b := by
  obtain ⟨x0, l0, rfl, p0, h1⟩ := h1.inv_cons
  obtain ⟨x1, l1, rfl, p1, h1⟩ := h1.inv_cons
  obtain ⟨x2, l2, rfl, p2, h1⟩ := h1.inv_cons
  obtain ⟨x3, l3, rfl, p3, h1⟩ := h1.inv_cons
  obtain ⟨x4, l4, rfl, p4, h1⟩ := h1.inv_cons
  obtain ⟨x5, l5, rfl, p5, h1⟩ := h1.inv_cons
  obtain ⟨q0, h2⟩ := inv_cons2 h2
  obtain ⟨q1, h2⟩ := inv_cons2 h2
  obtain ⟨q2, h2⟩ := inv_cons2 h2
  obtain ⟨q3, h2⟩ := inv_cons2 h2
  obtain ⟨q4, h2⟩ := inv_cons2 h2
  obtain ⟨q5, h2⟩ := inv_cons2 h2
  have e0 := str_eq p0 q0
  have e1 := int_eq p1 q1
  have e2 := Cel.rows_uniq (c := cF) p2 q2
  have e3 := Cel.rows_uniq (c := cN) p3 q3
  have e4 := int_eq p4 q4
  have e5 := int_eq p5 q5
  cases a; cases b
  simp only at e0 e1 e2 e3 e4 e5
  subst e0 e1 e2 e3 e4 e5; rfl
def cY : Cel Ty := ⟨celY, Ty.no, celY_uniq⟩
@[reducible] def celB (t : Tb) : List FV := [.val (.string t.pr), .row 6 t.ts.length (cY.g t.ts), .row 9 t.hs.length (cH.g t.hs)]
theorem celB_uniq {l : List FV} {a b : Tb} (h1 : FVEqL l (celB a)) (h2 : FVEqL l (celB b)) : a = b := by
  obtain ⟨x0, l0, rfl, p0, h1⟩ := h1.inv_cons
  obtain ⟨x1, l1, rfl, p1, h1⟩ := h1.inv_cons
  obtain ⟨x2, l2, rfl, p2, h1⟩ := h1.inv_cons
  obtain ⟨q0, h2⟩ := inv_cons2 h2
  obtain ⟨q1, h2⟩ := inv_cons2 h2
  obtain ⟨q2, h2⟩ := inv_cons2 h2
  have e0 := str_eq p0 q0
  have e1 := Cel.rows_uniq (c := cY) p1 q1
  have e2 := Cel.rows_uniq (c := cH) p2 q2
  cases a; cases b
  simp only at e0 e1 e2
  subst e0 e1 e2; rfl
def cT : Cel Tb := ⟨celB, Tb.no, celB_uniq⟩
def Ty.atMost (n : Nat) (t : Ty) : Bool := decide (t.nm.size ≤ n) && (decide (t.fs.length ≤ n) && decide (t.ns.length ≤ n))
def Tb.atMost (n : Nat) (t : Tb) : Bool := decide (t.pr.size ≤ n) && ((decide (t.ts.length ≤ n) && t.ts.all (Ty.atMost n)) && (decide (t.hs.length ≤ n) && t.hs.all (Hp.atMost n)))
theorem Ty.atMost_nm {n : Nat} {t : Ty} (h : t.atMost n = true) : t.nm.size ≤ n := by
  simp only [Ty.atMost, Bool.and_eq_true, decide_eq_true_eq] at h; exact h.1
theorem Ty.atMost_fs {n : Nat} {t : Ty} (h : t.atMost n = true) : t.fs.length ≤ n := by
  simp only [Ty.atMost, Bool.and_eq_true, decide_eq_true_eq] at h; exact h.2.1
theorem Ty.atMost_ns {n : Nat} {t : Ty} (h : t.atMost n = true) : t.ns.length ≤ n := by
  simp only [Ty.atMost, Bool.and_eq_true, decide_eq_true_eq] at h; exact h.2.2
theorem isY_at (t : Ty) : cY.is [.val (.string t.nm), .int .i64 t.cx, .row 4 t.fs.length (shiftG 0 (gOf eF t.fs)), .row 3 t.ns.length (shiftG 0 (gOf eN t.ns)), .int .i64 t.lo, .int .i64 t.hi] = true := Cel.is_of (a := t) (FVEqL.refl _)
theorem decY_at (t : Ty) : cY.dec [.val (.string t.nm), .int .i64 t.cx, .row 4 t.fs.length (shiftG 0 (gOf eF t.fs)), .row 3 t.ns.length (shiftG 0 (gOf eN t.ns)), .int .i64 t.lo, .int .i64 t.hi] = t := Cel.dec_of (c := cY) (a := t) (FVEqL.refl _)
theorem isLY (L : List Ty) : cY.isR 6 (.row 6 L.length (shiftG 0 (cY.g L))) = true := Cel.isR_of (Cel.row_refl 6 L)
theorem decLY (L : List Ty) : cY.decR 6 (.row 6 L.length (shiftG 0 (cY.g L))) = L := Cel.decR_of (Cel.row_refl 6 L)
theorem isLH (L : List Hp) : cH.isR 9 (.row 9 L.length (shiftG 0 (cH.g L))) = true := Cel.isR_of (Cel.row_refl 9 L)
theorem decLH (L : List Hp) : cH.decR 9 (.row 9 L.length (shiftG 0 (cH.g L))) = L := Cel.decR_of (Cel.row_refl 9 L)
theorem cY_dft : cY.dft = Ty.no := rfl
theorem cH_dft : cH.dft = Hp.no := rfl
namespace K
/-- Where the part ahead ends. -/
def endAt (L : List Fd) (i : Nat) : Int := if i = 0 then 0 else (L.getD (i - 1) eF.dft).o + (L.getD (i - 1) eF.dft).z
/-- Is a size one? -/
def size4 (z : Int) : Bool := z == 1 || z == 2 || z == 4 || z == 8
/-- Is the part at a place as it must be? -/
def fieldAt (cx : Int) (L : List Fd) (i : Nat) : Bool :=
  size4 (L.getD i eF.dft).z && (decide (endAt L i ≤ (L.getD i eF.dft).o) && (decide ((L.getD i eF.dft).o + (L.getD i eF.dft).z ≤ cx) && (((L.getD i eF.dft).o.tmod (L.getD i eF.dft).z == 0) && ((decide (1 ≤ (L.getD i eF.dft).k) && decide ((L.getD i eF.dft).k ≤ 3)) && !(((L.getD i eF.dft).k == 2 || (L.getD i eF.dft).k == 3) && ((L.getD i eF.dft).z != 8 || (L.getD i eF.dft).w))))))
def cnt (k : Int) (L : List Fd) : Int := ((L.filter fun f => f.k == k).length : Int)
def fields (cx : Int) (L : List Fd) : Bool := upto (fieldAt cx L) L.length && (decide (cnt 2 L = cnt 3 L) && decide (cnt 3 L ≤ 1))
def riseAt (L : List Nd) (i : Nat) : Bool := !(decide (0 < i)) || decide ((L.getD (i - 1) eN.dft).a < (L.getD i eN.dft).a)
def riseN (L : List Nd) : Bool := upto (riseAt L) L.length
def needOk (n : Nd) : Bool := numbered n.a && versioned n.b n.c
def needs (L : List Nd) : Bool := riseN L && upto (fun i => needOk (L.getD i eN.dft)) L.length
/-- A type's error, or none. -/
def type (t : Ty) : Int :=
  if name t.nm = false then 2
  else if within t.cx 8 256 = false ∨ 32 < t.fs.length ∨ 64 < t.ns.length then 3
  else if fields t.cx t.fs = false then 22
  else if needs t.ns = false then 34
  else if t.hi < t.lo then 36 else 0
/-- The error of a thing among others, each of which must be above the one ahead. -/
def allAt {α : Type} (f : α → Int) (c : α → α → Int) (d : α) (L : List α) (i : Nat) : Int := if f (L.getD i d) = 0 then (if 0 < i ∧ 0 ≤ c (L.getD (i - 1) d) (L.getD i d) then 7 else 0) else f (L.getD i d)
def all {α : Type} (f : α → Int) (c : α → α → Int) (d : α) (L : List α) : Int := firstE (allAt f c d L) L.length 0
def cmpS (a b : ByteArray) : Int := Lib.compareBytes a.data.toList b.data.toList
def cmpT (a b : Ty) : Int := cmpS a.nm b.nm
def or3 (a b c : Int) : Int := if a = 0 then (if b = 0 then c else b) else a
def cmpH (a b : Hp) : Int := or3 (cmp a.id b.id) (cmp a.mj b.mj) (cmp a.mn b.mn)
/-- A table's error, or none. -/
noncomputable def table (t : Tb) : Int :=
  if name t.pr = false then 2
  else if 16 < t.ts.length ∨ 64 < t.hs.length then 3
  else if all type cmpT Ty.no t.ts = 0 then all helper cmpH Hp.no t.hs
  else all type cmpT Ty.no t.ts
/-- The part at a place, if there is one. -/
def field (L : List Fd) (o z : Int) : Option Fd := L.find? fun f => f.o == o && f.z == z
end K
namespace K
theorem getD_take {α : Type} {L : List α} {j : Nat} (h : j < L.length) (d : α) : L.take (j + 1) = L.take j ++ [L.getD j d] := by
  rw [List.take_succ_eq_append_getElem h]; simp [List.getD_eq_getElem?_getD, h]
theorem cnt_next {k : Int} {L : List Fd} {j : Nat} (h : j < L.length) : cnt k (L.take (j + 1)) = cnt k (L.take j) + (if (L.getD j eF.dft).k = k then 1 else 0) := by
  rw [getD_take h eF.dft]
  unfold cnt
  rw [List.filter_append, List.length_append]
  by_cases e : (L.getD j eF.dft).k = k
  · rw [if_pos e, List.filter_cons_of_pos (by simpa using e)]; simp
  · rw [if_neg e, List.filter_cons_of_neg (by simpa using e)]; simp
theorem cnt_le (k : Int) (L : List Fd) (j : Nat) : 0 ≤ cnt k (L.take j) ∧ cnt k (L.take j) ≤ j := by
  unfold cnt
  have h1 := List.length_filter_le (fun f : Fd => f.k == k) (L.take j)
  rw [List.length_take] at h1
  omega
/-- What is counted. -/
def cnts (L : List Fd) (j : Nat) (c : Nat → Int) : Prop := ∀ i : Nat, i = 1 ∨ i = 2 ∨ i = 3 → c i = cnt (i : Int) (L.take j)
theorem cnts_0 (L : List Fd) : cnts L 0 (fun _ => 0) := fun i _ => by simp [cnt]
theorem cnts_next {L : List Fd} {j : Nat} {c : Nat → Int} (hj : j < L.length) (hl : j ≤ 1099511627776) (h : cnts L j c) (hk : 1 ≤ (L.getD j eF.dft).k ∧ (L.getD j eF.dft).k ≤ 3) : cnts L (j + 1) (fun i => if i = (L.getD j eF.dft).k.toNat then IntKind.i64.wrap (c (L.getD j eF.dft).k.toNat + 1) else c i) := by
  intro i hi
  rw [cnt_next hj]
  by_cases e : i = (L.getD j eF.dft).k.toNat
  · have hc := h _ (e ▸ hi)
    have hb := cnt_le ((L.getD j eF.dft).k.toNat : Int) L j
    have e2 : (L.getD j eF.dft).k = (i : Int) := by omega
    show (if i = _ then _ else _) = _
    rw [if_pos e, hc, if_pos e2, i64_of (by omega) (by omega), ← e]
  · have e2 : ¬ (L.getD j eF.dft).k = (i : Int) := by omega
    show (if i = _ then _ else _) = _
    rw [if_neg e, if_neg e2, h i hi, Int.add_zero]
theorem fields_is {cx : Int} {L : List Fd} {c : Nat → Int} (h : upto (fieldAt cx L) L.length = true) (hc : cnts L L.length c) : fields cx L = (decide (c 2 = c 3) && decide (c 3 ≤ 1)) := by
  have h2 := hc 2 (by simp)
  have h3 := hc 3 (by simp)
  rw [List.take_length] at h2 h3
  unfold fields
  rw [h, h2, h3, Bool.true_and]
  rfl
theorem fields_no {cx : Int} {L : List Fd} {j : Nat} (hj : j < L.length) (h : fieldAt cx L j = false) : fields cx L = false := by
  unfold fields
  rw [upto_no hj h, Bool.false_and]
end K
namespace K
theorem size4_is {z : Int} : size4 z = true ↔ z = 1 ∨ z = 2 ∨ z = 4 ∨ z = 8 := by
  unfold size4
  simp only [Bool.or_eq_true, beq_iff_eq]; omega
theorem fieldAt_t {cx : Int} {L : List Fd} {i : Nat} (h : fieldAt cx L i = true) : ((L.getD i eF.dft).z = 1 ∨ (L.getD i eF.dft).z = 2 ∨ (L.getD i eF.dft).z = 4 ∨ (L.getD i eF.dft).z = 8) ∧ endAt L i ≤ (L.getD i eF.dft).o ∧ (L.getD i eF.dft).o + (L.getD i eF.dft).z ≤ cx ∧ (L.getD i eF.dft).o.tmod (L.getD i eF.dft).z = 0 ∧ 1 ≤ (L.getD i eF.dft).k ∧ (L.getD i eF.dft).k ≤ 3 ∧ ((L.getD i eF.dft).k = 2 ∨ (L.getD i eF.dft).k = 3 → (L.getD i eF.dft).z = 8) ∧ ((L.getD i eF.dft).k = 2 ∨ (L.getD i eF.dft).k = 3 → (L.getD i eF.dft).w = false) := by
  unfold fieldAt at h
  simp only [Bool.and_eq_true, decide_eq_true_eq, Bool.not_eq_true', Bool.and_eq_false_iff, Bool.or_eq_false_iff, beq_iff_eq, beq_eq_false_iff_ne, bne_eq_false_iff_eq, ne_eq, size4_is] at h
  obtain ⟨h1, h2, h3, h4, ⟨h5, h6⟩, h7⟩ := h
  refine ⟨h1, h2, h3, h4, h5, h6, fun h => ?_, fun h => ?_⟩
  · rcases h7 with h7 | h7
    · omega
    · exact h7.1
  · rcases h7 with h7 | h7
    · omega
    · exact h7.2
theorem fieldAt_of {cx : Int} {L : List Fd} {i : Nat} (h1 : (L.getD i eF.dft).z = 1 ∨ (L.getD i eF.dft).z = 2 ∨ (L.getD i eF.dft).z = 4 ∨ (L.getD i eF.dft).z = 8) (h2 : endAt L i ≤ (L.getD i eF.dft).o) (h3 : (L.getD i eF.dft).o + (L.getD i eF.dft).z ≤ cx) (h4 : (L.getD i eF.dft).o.tmod (L.getD i eF.dft).z = 0) (h5 : 1 ≤ (L.getD i eF.dft).k) (h6 : (L.getD i eF.dft).k ≤ 3) (h7 : (¬ (L.getD i eF.dft).k = 2 ∧ ¬ (L.getD i eF.dft).k = 3) ∨ ((L.getD i eF.dft).z = 8 ∧ (L.getD i eF.dft).w = false)) : fieldAt cx L i = true := by
  unfold fieldAt
  simp only [Bool.and_eq_true, decide_eq_true_eq, Bool.not_eq_true', Bool.and_eq_false_iff, Bool.or_eq_false_iff, beq_iff_eq, beq_eq_false_iff_ne, bne_eq_false_iff_eq, ne_eq, size4_is]
  exact ⟨h1, h2, h3, h4, ⟨h5, h6⟩, h7⟩
theorem endAt_0 {L : List Fd} {j : Nat} (h : j = 0) : endAt L j = 0 := by
  subst h; rfl
/-- What is right lies within. -/
theorem field_pos {cx : Int} {L : List Fd} {j : Nat} (h : upto (fieldAt cx L) j = true) : ∀ i, i < j → 0 ≤ (L.getD i eF.dft).o ∧ 0 < (L.getD i eF.dft).z ∧ (L.getD i eF.dft).o + (L.getD i eF.dft).z ≤ cx
  | 0, hi => by
    obtain ⟨h1, h2, h3, _⟩ := fieldAt_t (upto_at h hi)
    rw [endAt_0 rfl] at h2
    exact ⟨h2, by omega, h3⟩
  | i + 1, hi => by
    obtain ⟨h1, h2, h3, _⟩ := fieldAt_t (upto_at h hi)
    obtain ⟨k1, k2, _⟩ := field_pos h i (by omega)
    unfold endAt at h2
    rw [if_neg (by omega), show i + 1 - 1 = i from rfl] at h2
    exact ⟨by omega, by omega, h3⟩
theorem endAt_is {cx : Int} {L : List Fd} {j : Nat} (h : upto (fieldAt cx L) j = true) (hc : cx ≤ 1099511627776) (hj : 0 < j) : IntKind.i64.wrap ((L.getD (j - 1) eF.dft).o + (L.getD (j - 1) eF.dft).z) = endAt L j := by
  obtain ⟨k1, k2, k3⟩ := field_pos h (j - 1) (by omega)
  rw [i64_of (by omega) (by omega)]
  unfold endAt
  rw [if_neg (by omega)]
end K
namespace K
theorem type_2 {t : Ty} (h1 : name t.nm = false) : 2 = type t := by
  unfold type; rw [if_pos h1]
theorem type_3w {t : Ty} (h1 : name t.nm = true) (h2 : within t.cx 8 256 = false) : 3 = type t := by
  unfold type; rw [if_neg (by simp [h1]), if_pos (.inl h2)]
theorem type_3l {t : Ty} (h1 : name t.nm = true) (h2 : 32 < t.fs.length ∨ 64 < t.ns.length) : 3 = type t := by
  unfold type; rw [if_neg (by simp [h1]), if_pos (.inr h2)]
theorem type_go {t : Ty} (h1 : name t.nm = true) (h2 : within t.cx 8 256 = true) (h3 : ¬ 32 < t.fs.length) (h4 : ¬ 64 < t.ns.length) : type t = if fields t.cx t.fs = false then 22 else if needs t.ns = false then 34 else if t.hi < t.lo then 36 else 0 := by
  unfold type; rw [if_neg (by simp [h1]), if_neg (by simp only [h2]; simp; omega)]
theorem type_22 {t : Ty} (h1 : name t.nm = true) (h2 : within t.cx 8 256 = true) (h3 : ¬ 32 < t.fs.length) (h4 : ¬ 64 < t.ns.length) (h5 : fields t.cx t.fs = false) : 22 = type t := by
  rw [type_go h1 h2 h3 h4, if_pos h5]
theorem type_34 {t : Ty} (h1 : name t.nm = true) (h2 : within t.cx 8 256 = true) (h3 : ¬ 32 < t.fs.length) (h4 : ¬ 64 < t.ns.length) (h5 : fields t.cx t.fs = true) (h6 : needs t.ns = false) : 34 = type t := by
  rw [type_go h1 h2 h3 h4, if_neg (by simp [h5]), if_pos h6]
theorem type_36 {t : Ty} (h1 : name t.nm = true) (h2 : within t.cx 8 256 = true) (h3 : ¬ 32 < t.fs.length) (h4 : ¬ 64 < t.ns.length) (h5 : fields t.cx t.fs = true) (h6 : needs t.ns = true) (h7 : t.hi < t.lo) : 36 = type t := by
  rw [type_go h1 h2 h3 h4, if_neg (by simp [h5]), if_neg (by simp [h6]), if_pos h7]
theorem type_0 {t : Ty} (h1 : name t.nm = true) (h2 : within t.cx 8 256 = true) (h3 : ¬ 32 < t.fs.length) (h4 : ¬ 64 < t.ns.length) (h5 : fields t.cx t.fs = true) (h6 : needs t.ns = true) (h7 : ¬ t.hi < t.lo) : 0 = type t := by
  rw [type_go h1 h2 h3 h4, if_neg (by simp [h5]), if_neg (by simp [h6]), if_neg h7]
theorem riseN_no {L : List Nd} {j : Nat} (hj : j < L.length) (hp : 0 < j) (h : 0 ≤ cmp (L.getD (j - 1) eN.dft).a (L.getD j eN.dft).a) : needs L = false := by
  unfold needs riseN
  rw [upto_no hj (p := riseAt L) (by
    unfold riseAt
    rw [decide_eq_true hp, decide_eq_false (cmp_nn (decide_eq_true h))]; rfl), Bool.false_and]
theorem riseN_next {L : List Nd} {j : Nat} (he : upto (riseAt L) j = true) (h : j = 0 ∨ ¬ 0 ≤ cmp (L.getD (j - 1) eN.dft).a (L.getD j eN.dft).a) : upto (riseAt L) (j + 1) = true := by
  refine upto_next he ?_
  unfold riseAt
  rcases h with h | h
  · subst h; rfl
  · rw [decide_eq_true (cmp_neg (decide_eq_false h)), Bool.or_true]
theorem needs_no {L : List Nd} {j : Nat} (hj : j < L.length) (h : numbered (L.getD j eN.dft).a = false ∨ versioned (L.getD j eN.dft).b (L.getD j eN.dft).c = false) : needs L = false := by
  unfold needs
  rw [upto_no hj (p := fun i => needOk (L.getD i eN.dft)) (by
    show needOk (L.getD j eN.dft) = false
    unfold needOk
    rcases h with h | h
    · rw [h, Bool.false_and]
    · rw [h, Bool.and_false]), Bool.and_false]
theorem needs_next {L : List Nd} {j : Nat} (he : upto (fun i => needOk (L.getD i eN.dft)) j = true) (h1 : numbered (L.getD j eN.dft).a = true) (h2 : versioned (L.getD j eN.dft).b (L.getD j eN.dft).c = true) : upto (fun i => needOk (L.getD i eN.dft)) (j + 1) = true := by
  refine upto_next he ?_
  show needOk (L.getD j eN.dft) = true
  unfold needOk
  rw [h1, h2]; rfl
theorem needs_yes {L : List Nd} (h1 : upto (riseAt L) L.length = true) (h2 : upto (fun i => needOk (L.getD i eN.dft)) L.length = true) : needs L = true := by
  unfold needs riseN
  rw [h1, h2]; rfl
end K
namespace K
theorem within_is {n lo hi : Int} (h : within n lo hi = true) : lo ≤ n ∧ n ≤ hi := by
  unfold within at h
  simpa only [Bool.and_eq_true, decide_eq_true_eq] using h
end K
namespace K
theorem field_is {L : List Fd} {o z : Int} {j : Nat} (hj : j < L.length) (he : upto (fun i => !((L.getD i eF.dft).o == o && (L.getD i eF.dft).z == z)) j = true) (h1 : ((L.getD j eF.dft).o == o) = true) (h2 : ((L.getD j eF.dft).z == z) = true) : field L o z = some (L.getD j eF.dft) := by
  unfold field
  rw [List.find?_eq_some_iff_getElem]
  refine ⟨by rw [h1, h2]; rfl, j, hj, by simp [List.getD_eq_getElem?_getD, hj], fun i hi => ?_⟩
  have := upto_at he hi
  simpa [List.getD_eq_getElem?_getD, show i < L.length by omega] using this
theorem field_no {L : List Fd} {o z : Int} (he : upto (fun i => !((L.getD i eF.dft).o == o && (L.getD i eF.dft).z == z)) L.length = true) : field L o z = none := by
  unfold field
  rw [List.find?_eq_none]
  intro x hx
  obtain ⟨i, hi, rfl⟩ := List.getElem_of_mem hx
  have := upto_at he hi
  have hx : L.getD i eF.dft = L[i] := by simp [List.getD_eq_getElem?_getD, hi]
  rw [hx] at this
  intro h
  rw [h] at this
  cases this
end K
namespace K
section
variable {α : Type} {f : α → Int} {c : α → α → Int} {d : α} {L : List α} {j : Nat}
theorem all_e (hj : j < L.length) (he : firstE (allAt f c d L) (L.length - j) j = all f c d L) (h : ¬ f (L.getD j d) = 0) : f (L.getD j d) = all f c d L := by
  have ha : allAt f c d L j = f (L.getD j d) := by unfold allAt; rw [if_neg h]
  rw [← he, firstE_at hj (by rw [ha]; exact h), ha]
theorem all_7 (hj : j < L.length) (he : firstE (allAt f c d L) (L.length - j) j = all f c d L) (h : f (L.getD j d) = 0) (hp : 0 < j) (hc : 0 ≤ c (L.getD (j - 1) d) (L.getD j d)) : 7 = all f c d L := by
  have ha : allAt f c d L j = 7 := by unfold allAt; rw [if_pos h, if_pos ⟨hp, hc⟩]
  rw [← he, firstE_at hj (by rw [ha]; decide), ha]
theorem all_go (hj : j < L.length) (he : firstE (allAt f c d L) (L.length - j) j = all f c d L) (h : f (L.getD j d) = 0) (hc : j = 0 ∨ ¬ 0 ≤ c (L.getD (j - 1) d) (L.getD j d)) : firstE (allAt f c d L) (L.length - (j + 1)) (j + 1) = all f c d L := by
  have ha : allAt f c d L j = 0 := by
    unfold allAt
    rw [if_pos h, if_neg]
    rintro ⟨h1, h2⟩
    rcases hc with hc | hc
    · omega
    · exact hc h2
  rw [firstE_go hj ha]; exact he
theorem all_end (he : firstE (allAt f c d L) (L.length - L.length) L.length = all f c d L) : 0 = all f c d L := by
  rw [← he, firstE_end]
end
end K
end Go.Proofs.Ytnbcemeofhaogaa
namespace Go.Proofs.Ytnbcemeofhaogaa
open Go.RowKit Go.Sx
set_option linter.unusedSimpArgs false
set_option linter.unusedVariables false
set_option linter.unnecessarySimpa false
set_option maxRecDepth 100000
set_option maxHeartbeats 4000000
set_option maxHeartbeats 400000
namespace K
theorem firstE_zero {f : Nat → Int} : ∀ {n i : Nat}, firstE f n i = 0 ↔ ∀ k, k < n → f (i + k) = 0
  | 0, i => by simp [firstE]
  | n + 1, i => by
    rw [firstE]
    by_cases h : f i = 0
    · rw [if_pos h, firstE_zero]
      constructor
      · intro H k hk
        match k with
        | 0 => exact h
        | k + 1 =>
          have := H k (by omega)
          rwa [show i + 1 + k = i + (k + 1) by omega] at this
      · intro H k hk
        have := H (k + 1) (by omega)
        rwa [show i + (k + 1) = i + 1 + k by omega] at this
    · rw [if_neg h]
      constructor
      · intro H; exact absurd H h
      · intro H; exact absurd (by simpa using H 0 (by omega)) h
theorem all_zero {α : Type} {f : α → Int} {c : α → α → Int} {d : α} {L : List α} : all f c d L = 0 ↔ (∀ i, i < L.length → f (L.getD i d) = 0) ∧ (∀ i, i + 1 < L.length → c (L.getD i d) (L.getD (i + 1) d) < 0) := by
  unfold all
  rw [firstE_zero]
  simp only [Nat.zero_add]
  constructor
  · intro h
    refine ⟨fun i hi => ?_, fun i hi => ?_⟩
    · have := h i hi
      unfold allAt at this
      split at this
      · assumption
      · assumption
    · have := h (i + 1) hi
      unfold allAt at this
      split at this
      · split at this
        · cases this
        · rename_i h1 h2
          rw [show i + 1 - 1 = i from rfl] at h2
          omega
      · exact absurd this (by assumption)
  · rintro ⟨h1, h2⟩ i hi
    unfold allAt
    rw [if_pos (h1 i hi), if_neg]
    rintro ⟨h3, h4⟩
    obtain ⟨m, rfl⟩ : ∃ m, i = m + 1 := ⟨i - 1, by omega⟩
    have := h2 m hi
    rw [show m + 1 - 1 = m from rfl] at h4
    omega
theorem chain_lt {α : Type} {c : α → α → Int} {d : α} {L : List α} (tr : ∀ x y z, c x y < 0 → c y z < 0 → c x z < 0) (h : ∀ i, i + 1 < L.length → c (L.getD i d) (L.getD (i + 1) d) < 0) : ∀ j i, i < j → j < L.length → c (L.getD i d) (L.getD j d) < 0
  | 0, i, hij, _ => by omega
  | j + 1, i, hij, hj => by
    rcases Nat.lt_or_ge i j with h1 | h1
    · exact tr _ _ _ (chain_lt tr h j i h1 (by omega)) (h j hj)
    · obtain rfl : i = j := by omega
      exact h i hj
/-- Those of the first so many that are kept. -/
def kept {α : Type} (p : Nat → Bool) (d : α) (L : List α) : Nat → List α
  | 0 => []
  | j + 1 => if p j then kept p d L j ++ [L.getD j d] else kept p d L j
theorem kept_mem {α : Type} {p : Nat → Bool} {d : α} {L : List α} {x : α} : ∀ {j : Nat}, x ∈ kept p d L j → ∃ i, i < j ∧ x = L.getD i d
  | 0, h => by cases h
  | j + 1, h => by
    rw [kept] at h
    split at h
    · rcases List.mem_append.1 h with h | h
      · obtain ⟨i, hi, e⟩ := kept_mem h
        exact ⟨i, by omega, e⟩
      · exact ⟨j, by omega, List.mem_singleton.1 h⟩
    · obtain ⟨i, hi, e⟩ := kept_mem h
      exact ⟨i, by omega, e⟩
theorem kept_len {α : Type} {p : Nat → Bool} {d : α} {L : List α} : ∀ j : Nat, (kept p d L j).length ≤ j
  | 0 => Nat.le_refl _
  | j + 1 => by
    have := kept_len (p := p) (d := d) (L := L) j
    rw [kept]
    split
    · rw [List.length_append]; simp; omega
    · omega
theorem kept_pw {α : Type} {p : Nat → Bool} {c : α → α → Int} {d : α} {L : List α} (h : ∀ j i, i < j → j < L.length → c (L.getD i d) (L.getD j d) < 0) : ∀ j : Nat, j ≤ L.length → (kept p d L j).Pairwise fun a b => c a b < 0
  | 0, _ => List.Pairwise.nil
  | j + 1, hj => by
    have ih := kept_pw (p := p) h j (by omega)
    rw [kept]
    split
    · rw [List.pairwise_append]
      refine ⟨ih, List.pairwise_singleton _ _, fun a ha b hb => ?_⟩
      obtain ⟨i, hi, rfl⟩ := kept_mem ha
      rw [List.mem_singleton.1 hb]
      exact h j i hi (by omega)
    · exact ih
theorem kept_all {α : Type} {p : Nat → Bool} {f : α → Int} {c : α → α → Int} {d : α} {L : List α} (tr : ∀ x y z, c x y < 0 → c y z < 0 → c x z < 0) (h : all f c d L = 0) : all f c d (kept p d L L.length) = 0 := by
  obtain ⟨h1, h2⟩ := all_zero.1 h
  have hp := kept_pw (p := p) (chain_lt tr h2) L.length (Nat.le_refl _)
  refine all_zero.2 ⟨fun i hi => ?_, fun i hi => ?_⟩
  · have hm : (kept p d L L.length).getD i d ∈ kept p d L L.length := by
      rw [List.getD_eq_getElem?_getD, List.getElem?_eq_getElem hi]
      exact List.getElem_mem hi
    obtain ⟨k, hk, e⟩ := kept_mem hm
    rw [e]; exact h1 k hk
  · have := List.pairwise_iff_getElem.1 hp i (i + 1) (by omega) hi (by omega)
    simpa [List.getD_eq_getElem?_getD, hi, show i < (kept p d L L.length).length by omega] using this
theorem cb_trans : ∀ (a b c : List UInt8), Lib.compareBytes a b < 0 → Lib.compareBytes b c < 0 → Lib.compareBytes a c < 0
  | [], [], _ => fun h => by simp [Lib.compareBytes] at h
  | [], _ :: _, [] => fun _ h => by simp [Lib.compareBytes] at h
  | [], _ :: _, _ :: _ => fun _ _ => by simp [Lib.compareBytes]
  | _ :: _, [], _ => fun h => by simp [Lib.compareBytes] at h
  | _ :: _, _ :: _, [] => fun _ h => by simp [Lib.compareBytes] at h
  | a :: l, b :: m, c :: n => fun h k => by
    rw [Lib.compareBytes] at h k ⊢
    have ih := cb_trans l m n
    simp only [UInt8.lt_iff_toNat_lt] at h k ⊢
    split at h
    · split at k
      · rw [if_pos (by omega)]; decide
      · split at k
        · omega
        · rw [if_pos (by omega)]; decide
    · split at h
      · omega
      · split at k
        · rw [if_pos (by omega)]; decide
        · split at k
          · omega
          · rw [if_neg (by omega), if_neg (by omega)]
            exact ih h k
theorem cmpT_trans (x y z : Ty) : cmpT x y < 0 → cmpT y z < 0 → cmpT x z < 0 := cb_trans _ _ _
theorem cmp_cases (a b : Int) : (a < b ∧ cmp a b = -1) ∨ (a = b ∧ cmp a b = 0) ∨ (b < a ∧ cmp a b = 1) := by
  unfold cmp
  split
  · exact .inl ⟨by assumption, rfl⟩
  · split
    · exact .inr (.inr ⟨by assumption, rfl⟩)
    · exact .inr (.inl ⟨by omega, rfl⟩)
theorem cmpH_lt (x y : Hp) : cmpH x y < 0 ↔ x.id < y.id ∨ (x.id = y.id ∧ (x.mj < y.mj ∨ (x.mj = y.mj ∧ x.mn < y.mn))) := by
  unfold cmpH or3
  rcases cmp_cases x.id y.id with ⟨h, e⟩ | ⟨h, e⟩ | ⟨h, e⟩ <;> rw [e]
  · simp; omega
  · rcases cmp_cases x.mj y.mj with ⟨k, f⟩ | ⟨k, f⟩ | ⟨k, f⟩ <;> rw [f]
    · simp; omega
    · rcases cmp_cases x.mn y.mn with ⟨l, g⟩ | ⟨l, g⟩ | ⟨l, g⟩ <;> rw [g] <;> simp <;> omega
    · simp; omega
  · simp; omega
theorem cmpH_trans (x y z : Hp) : cmpH x y < 0 → cmpH y z < 0 → cmpH x z < 0 := by
  rw [cmpH_lt, cmpH_lt, cmpH_lt]; omega
theorem table_zero {t : Tb} : table t = 0 ↔ name t.pr = true ∧ (t.ts.length ≤ 16 ∧ t.hs.length ≤ 64) ∧ all type cmpT Ty.no t.ts = 0 ∧ all helper cmpH Hp.no t.hs = 0 := by
  unfold table
  by_cases h1 : name t.pr = false
  · rw [if_pos h1, h1]; simp
  · rw [if_neg h1]
    have h1' : name t.pr = true := by simpa using h1
    by_cases h2 : 16 < t.ts.length ∨ 64 < t.hs.length
    · rw [if_pos h2]
      constructor
      · intro h; cases h
      · rintro ⟨_, h, _⟩; omega
    · rw [if_neg h2]
      by_cases h3 : all type cmpT Ty.no t.ts = 0
      · rw [if_pos h3]
        exact ⟨fun h => ⟨h1', by omega, h3, h⟩, fun h => h.2.2.2⟩
      · rw [if_neg h3]
        exact ⟨fun h => absurd h h3, fun h => absurd h.2.2.1 h3⟩
/-- A right table, some left out, is right. -/
theorem table_less {t : Tb} (h : table t = 0) (p q : Nat → Bool) : table ⟨t.pr, kept p Ty.no t.ts t.ts.length, kept q Hp.no t.hs t.hs.length⟩ = 0 := by
  obtain ⟨h1, ⟨h2, h3⟩, h4, h5⟩ := table_zero.1 h
  have k1 := kept_len (p := p) (d := Ty.no) (L := t.ts) t.ts.length
  have k2 := kept_len (p := q) (d := Hp.no) (L := t.hs) t.hs.length
  exact table_zero.2 ⟨h1, ⟨by show (kept p Ty.no t.ts t.ts.length).length ≤ 16; omega, by show (kept q Hp.no t.hs t.hs.length).length ≤ 64; omega⟩, kept_all cmpT_trans h4, kept_all cmpH_trans h5⟩
theorem table_types {t : Tb} (h : table t = 0) {i : Nat} (hi : i < t.ts.length) : type (t.ts.getD i Ty.no) = 0 := (all_zero.1 (table_zero.1 h).2.2.1).1 i hi
theorem table_helpers {t : Tb} (h : table t = 0) {i : Nat} (hi : i < t.hs.length) : helper (t.hs.getD i Hp.no) = 0 := (all_zero.1 (table_zero.1 h).2.2.2).1 i hi
theorem type_fields {t : Ty} (h : type t = 0) : fields t.cx t.fs = true := by
  unfold type at h
  split at h
  · cases h
  · split at h
    · cases h
    · split at h
      · cases h
      · simp_all
theorem size4_pos {z : Int} (h : size4 z = true) : 0 < z := by
  unfold size4 at h
  simp only [Bool.or_eq_true, beq_iff_eq] at h
  omega
theorem fields_rise {cx : Int} {L : List Fd} (h : fields cx L = true) : ∀ j i, i < j → j < L.length → (L.getD i eF.dft).o < (L.getD j eF.dft).o := by
  have hu : upto (fieldAt cx L) L.length = true := by
    unfold fields at h
    rw [Bool.and_eq_true] at h
    exact h.1
  have key := chain_lt (c := fun a b : Fd => a.o - b.o) (d := eF.dft) (L := L) (fun x y z h1 h2 => by omega) (fun i hi => by
    have h1 := upto_at hu (show i < L.length by omega)
    have h2 := upto_at hu hi
    unfold fieldAt at h1 h2
    rw [Bool.and_eq_true] at h1 h2
    have hz := size4_pos h1.1
    have he := (Bool.and_eq_true _ _ ▸ h2.2).1
    have he := of_decide_eq_true he
    unfold endAt at he
    rw [if_neg (by omega), show i + 1 - 1 = i from rfl] at he
    show (L.getD i eF.dft).o - (L.getD (i + 1) eF.dft).o < 0
    omega)
  intro j i hij hj
  have := key j i hij hj
  omega
/-- Each of a right type's parts is found. -/
theorem field_at {cx : Int} {L : List Fd} (h : fields cx L = true) {k : Nat} (hk : k < L.length) : field L (L.getD k eF.dft).o (L.getD k eF.dft).z = some (L.getD k eF.dft) := by
  unfold field
  rw [List.find?_eq_some_iff_getElem]
  refine ⟨by simp, k, hk, by simp [List.getD_eq_getElem?_getD, hk], fun j hj => ?_⟩
  have := fields_rise h k j hj hk
  have hx : L[j] = L.getD j eF.dft := by simp [List.getD_eq_getElem?_getD, show j < L.length by omega]
  simp only [Bool.not_eq_true', hx, Bool.and_eq_false_iff, beq_eq_false_iff_ne, ne_eq]
  exact .inl (by omega)
end K
end Go.Proofs.Ytnbcemeofhaogaa
namespace Go.Proofs.Ytnbcemeofhaogaa
open Go.RowKit Go.Sx
set_option linter.unusedSimpArgs false
set_option linter.unusedVariables false
set_option linter.unnecessarySimpa false
set_option maxRecDepth 100000
set_option maxHeartbeats 4000000
namespace K
theorem all_0 {α : Type} {f : α → Int} {c : α → α → Int} {d : α} {L : List α} : firstE (allAt f c d L) (L.length - 0) 0 = all f c d L := rfl
end K
namespace K
theorem table_2 {t : Tb} (h1 : name t.pr = false) : 2 = table t := by
  unfold table; rw [if_pos h1]
theorem table_3 {t : Tb} (h1 : name t.pr = true) (h2 : 16 < t.ts.length ∨ 64 < t.hs.length) : 3 = table t := by
  unfold table; rw [if_neg (by simp [h1]), if_pos h2]
theorem table_e {t : Tb} (h1 : name t.pr = true) (h2 : ¬ 16 < t.ts.length) (h3 : ¬ 64 < t.hs.length) (h4 : ¬ all type cmpT cY.dft t.ts = 0) : all type cmpT cY.dft t.ts = table t := by
  unfold table; rw [if_neg (by simp [h1]), if_neg (by omega)]
  exact (if_neg h4).symm
theorem table_h {t : Tb} (h1 : name t.pr = true) (h2 : ¬ 16 < t.ts.length) (h3 : ¬ 64 < t.hs.length) (h4 : all type cmpT cY.dft t.ts = 0) : all helper cmpH cH.dft t.hs = table t := by
  unfold table; rw [if_neg (by simp [h1]), if_neg (by omega)]
  exact (if_pos h4).symm
end K
theorem Tb.atMost_pr {n : Nat} {t : Tb} (h : t.atMost n = true) : t.pr.size ≤ n := by
  simp only [Tb.atMost, Bool.and_eq_true, decide_eq_true_eq] at h; exact h.1
theorem Tb.atMost_ts {n : Nat} {t : Tb} (h : t.atMost n = true) : t.ts.length ≤ n ∧ t.ts.all (Ty.atMost n) = true := by
  simp only [Tb.atMost, Bool.and_eq_true, decide_eq_true_eq] at h; exact h.2.1
theorem Tb.atMost_hs {n : Nat} {t : Tb} (h : t.atMost n = true) : t.hs.length ≤ n ∧ t.hs.all (Hp.atMost n) = true := by
  simp only [Tb.atMost, Bool.and_eq_true, decide_eq_true_eq] at h; exact h.2.2
theorem isT_at (t : Tb) : cT.is [.val (.string t.pr), .row 6 t.ts.length (shiftG 0 (cY.g t.ts)), .row 9 t.hs.length (shiftG 0 (cH.g t.hs))] = true := Cel.is_of (a := t) (FVEqL.refl _)
theorem decT_at (t : Tb) : cT.dec [.val (.string t.pr), .row 6 t.ts.length (shiftG 0 (cY.g t.ts)), .row 9 t.hs.length (shiftG 0 (cH.g t.hs))] = t := Cel.dec_of (c := cT) (a := t) (FVEqL.refl _)
/-- A row of flags. -/
def eL : Enc Bool := ⟨fun b => [.bool b], fun l => match l with | [.bool b] => b | _ => false, fun l => match l with | [.bool _] => true | _ => false, false,
  fun l h => by revert h; split <;> simp_all, fun _ => rfl, fun _ => rfl⟩
namespace K
def keepT (l : List Bool) (i : Nat) : Bool := decide (i < l.length) && l.getD i eL.dft
def keepH (l : List Bool) (i : Nat) : Bool := decide (i < l.length) && !(l.getD i eL.dft)
end K
theorem Ag.atMost_up {m n : Nat} {a : Ag} (h : m ≤ n) (k : a.atMost m = true) : a.atMost n = true := by
  simp only [Ag.atMost, decide_eq_true_eq] at *; omega
theorem all_mono2 {α : Type} {p q : α → Bool} (h : ∀ a, p a = true → q a = true) {L : List α} (k : L.all p = true) : L.all q = true := by
  rw [List.all_eq_true] at *; exact fun a ha => h a (k a ha)
theorem Hp.atMost_up {m n : Nat} {a : Hp} (h : m ≤ n) (k : a.atMost m = true) : a.atMost n = true := by
  simp only [Hp.atMost, Bool.and_eq_true, decide_eq_true_eq] at *
  exact ⟨by omega, all_mono2 (fun a => Ag.atMost_up h) k.2⟩
theorem Ty.atMost_up {m n : Nat} {a : Ty} (h : m ≤ n) (k : a.atMost m = true) : a.atMost n = true := by
  simp only [Ty.atMost, Bool.and_eq_true, decide_eq_true_eq] at *
  omega
theorem Tb.atMost_up {m n : Nat} {a : Tb} (h : m ≤ n) (k : a.atMost m = true) : a.atMost n = true := by
  simp only [Tb.atMost, Bool.and_eq_true, decide_eq_true_eq] at *
  exact ⟨by omega, ⟨by omega, all_mono2 (fun a => Ty.atMost_up h) k.2.1.2⟩, by omega, all_mono2 (fun a => Hp.atMost_up h) k.2.2.2⟩
theorem keptY_row (L : List Ty) (a : Ty) {sz : Nat} (hs : sz = 6) : ∀ i, i < (L ++ [a]).length → FVEqL (gApp L.length (cY.g L) (fun k => List.take sz (List.drop (k * sz) [FV.val (.string a.nm), .int .i64 a.cx, .row 4 a.fs.length (fun i => gOf eF a.fs i), .row 3 a.ns.length (fun i => gOf eN a.ns i), .int .i64 a.lo, .int .i64 a.hi])) i) (cY.g (L ++ [a]) i) := by
  subst hs
  intro i hi
  rw [List.length_append] at hi
  exact Cel.row_snoc (c := cY) (sz := 6) (a := a) (h := fun k => List.take 6 (List.drop (k * 6) [FV.val (.string a.nm), .int .i64 a.cx, .row 4 a.fs.length (fun i => gOf eF a.fs i), .row 3 a.ns.length (fun i => gOf eN a.ns i), .int .i64 a.lo, .int .i64 a.hi])) rfl (fun i _ => FVEqL.refl _) (FVEqL.refl _) i hi
theorem keptY_one (a : Ty) {sz : Nat} (hs : sz = 6) : ∀ i, i < (([] : List Ty) ++ [a]).length → FVEqL (List.take sz (List.drop (i * sz) [FV.val (.string a.nm), .int .i64 a.cx, .row 4 a.fs.length (fun i => gOf eF a.fs i), .row 3 a.ns.length (fun i => gOf eN a.ns i), .int .i64 a.lo, .int .i64 a.hi])) (cY.g ([] ++ [a]) i) := by
  subst hs
  intro i hi
  obtain rfl : i = 0 := by
    have : (([] : List Ty) ++ [a]).length = 1 := rfl
    omega
  exact FVEqL.refl _
theorem keptH_row (L : List Hp) (a : Hp) {sz : Nat} (hs : sz = 9) : ∀ i, i < (L ++ [a]).length → FVEqL (gApp L.length (cH.g L) (fun k => List.take sz (List.drop (k * sz) [FV.int .i64 a.id, .int .i64 a.mj, .int .i64 a.mn, .int .u8 a.core, .row 4 a.args.length (fun i => cA.g a.args i), .int .u8 a.rk, .int .i64 a.rlo, .int .i64 a.rhi, .int .i64 a.rsz])) i) (cH.g (L ++ [a]) i) := by
  subst hs
  intro i hi
  rw [List.length_append] at hi
  exact Cel.row_snoc (c := cH) (sz := 9) (a := a) (h := fun k => List.take 9 (List.drop (k * 9) [FV.int .i64 a.id, .int .i64 a.mj, .int .i64 a.mn, .int .u8 a.core, .row 4 a.args.length (fun i => cA.g a.args i), .int .u8 a.rk, .int .i64 a.rlo, .int .i64 a.rhi, .int .i64 a.rsz])) rfl (fun i _ => FVEqL.refl _) (FVEqL.refl _) i hi
theorem keptH_one (a : Hp) {sz : Nat} (hs : sz = 9) : ∀ i, i < (([] : List Hp) ++ [a]).length → FVEqL (List.take sz (List.drop (i * sz) [FV.int .i64 a.id, .int .i64 a.mj, .int .i64 a.mn, .int .u8 a.core, .row 4 a.args.length (fun i => cA.g a.args i), .int .u8 a.rk, .int .i64 a.rlo, .int .i64 a.rhi, .int .i64 a.rsz])) (cH.g ([] ++ [a]) i) := by
  subst hs
  intro i hi
  obtain rfl : i = 0 := by
    have : (([] : List Hp) ++ [a]).length = 1 := rfl
    omega
  exact FVEqL.refl _
theorem tb_1 (pr : ByteArray) (L : List Ty) (H : List Hp) : FVEqL [.val (.string pr), .row 6 L.length (shiftG 0 (cY.g L)), .row 9 H.length (shiftG 0 (cH.g H))] (celB ⟨pr, L, H⟩) := FVEqL.refl _
theorem tb_2 (pr : ByteArray) (H : List Hp) : FVEqL [.val (.string pr), .val (.slice none 0 0), .row 9 H.length (shiftG 0 (cH.g H))] (celB ⟨pr, [], H⟩) := fvl_cons (FVEq.refl _) (fvl_cons .nil (FVEqL.refl _))
theorem tb_3 (pr : ByteArray) (L : List Ty) : FVEqL [.val (.string pr), .row 6 L.length (shiftG 0 (cY.g L)), .val (.slice none 0 0)] (celB ⟨pr, L, []⟩) := fvl_cons (FVEq.refl _) (fvl_cons (FVEq.refl _) (fvl_cons .nil (FVEqL.refl _)))
theorem tb_4 (pr : ByteArray) : FVEqL [.val (.string pr), .val (.slice none 0 0), .val (.slice none 0 0)] (celB ⟨pr, [], []⟩) := fvl_cons (FVEq.refl _) (fvl_cons .nil (fvl_cons .nil (FVEqL.refl _)))
theorem isT_1 (pr : ByteArray) (L : List Ty) (H : List Hp) : cT.is [.val (.string pr), .row 6 L.length (shiftG 0 (cY.g L)), .row 9 H.length (shiftG 0 (cH.g H))] = true := Cel.is_of (c := cT) (tb_1 pr L H)
theorem decT_1 (pr : ByteArray) (L : List Ty) (H : List Hp) : cT.dec [.val (.string pr), .row 6 L.length (shiftG 0 (cY.g L)), .row 9 H.length (shiftG 0 (cH.g H))] = ⟨pr, L, H⟩ := Cel.dec_of (c := cT) (tb_1 pr L H)
theorem isT_2 (pr : ByteArray) (H : List Hp) : cT.is [.val (.string pr), .val (.slice none 0 0), .row 9 H.length (shiftG 0 (cH.g H))] = true := Cel.is_of (c := cT) (tb_2 pr H)
theorem decT_2 (pr : ByteArray) (H : List Hp) : cT.dec [.val (.string pr), .val (.slice none 0 0), .row 9 H.length (shiftG 0 (cH.g H))] = ⟨pr, [], H⟩ := Cel.dec_of (c := cT) (tb_2 pr H)
theorem isT_3 (pr : ByteArray) (L : List Ty) : cT.is [.val (.string pr), .row 6 L.length (shiftG 0 (cY.g L)), .val (.slice none 0 0)] = true := Cel.is_of (c := cT) (tb_3 pr L)
theorem decT_3 (pr : ByteArray) (L : List Ty) : cT.dec [.val (.string pr), .row 6 L.length (shiftG 0 (cY.g L)), .val (.slice none 0 0)] = ⟨pr, L, []⟩ := Cel.dec_of (c := cT) (tb_3 pr L)
theorem isT_4 (pr : ByteArray) : cT.is [.val (.string pr), .val (.slice none 0 0), .val (.slice none 0 0)] = true := Cel.is_of (c := cT) (tb_4 pr)
theorem decT_4 (pr : ByteArray) : cT.dec [.val (.string pr), .val (.slice none 0 0), .val (.slice none 0 0)] = ⟨pr, [], []⟩ := Cel.dec_of (c := cT) (tb_4 pr)
namespace K
theorem keepT_t {l : List Bool} {i : Nat} (h : i < l.length) (k : l.getD i eL.dft = true) : keepT l i = true := by unfold keepT; rw [decide_eq_true h, k]; rfl
theorem keepT_f {l : List Bool} {i : Nat} (h : ¬ i < l.length ∨ l.getD i eL.dft = false) : keepT l i = false := by
  unfold keepT
  rcases h with h | h
  · rw [decide_eq_false h, Bool.false_and]
  · rw [h, Bool.and_false]
theorem keepH_t {l : List Bool} {i : Nat} (h : i < l.length) (k : l.getD i eL.dft = false) : keepH l i = true := by unfold keepH; rw [decide_eq_true h, k]; rfl
theorem keepH_f {l : List Bool} {i : Nat} (h : ¬ i < l.length ∨ l.getD i eL.dft = true) : keepH l i = false := by
  unfold keepH
  rcases h with h | h
  · rw [decide_eq_false h, Bool.false_and]
  · rw [h]; exact Bool.and_false _
theorem kept_t {α : Type} {p : Nat → Bool} {d : α} {L : List α} {j : Nat} (h : p j = true) : kept p d L (j + 1) = kept p d L j ++ [L.getD j d] := by rw [kept, if_pos h]
theorem kept_f {α : Type} {p : Nat → Bool} {d : α} {L : List α} {j : Nat} (h : p j = false) : kept p d L (j + 1) = kept p d L j := by rw [kept, if_neg (by simp [h])]
theorem kept_every {α : Type} {p : Nat → Bool} {d : α} {L : List α} {P : α → Bool} (h : L.all P = true) {j : Nat} (hj : j ≤ L.length) : (kept p d L j).all P = true := by
  rw [List.all_eq_true]
  intro x hx
  obtain ⟨i, hi, rfl⟩ := kept_mem hx
  exact all_getD h (by omega) _
end K
end Go.Proofs.Ytnbcemeofhaogaa
