import Derived.Test.YtgfemfgimefmeaaGreatX79
import Derived.Test.YtgfemfgimefmeaaGreatXF4
namespace Go.Proofs.YtgfemfgimefmeaaGreat
open Go.RowKit Go.Sx
set_option linter.unusedSimpArgs false
set_option linter.unusedVariables false
set_option linter.unnecessarySimpa false
set_option maxRecDepth 100000
set_option maxHeartbeats 4000000
/-! ### What is known of an Id; what is below -/
namespace F
/-- Is a value none? -/
def isNone (a : Ab) : Bool := eqa a V.zero
/-- More is known of a packet. -/
def roomA (id room : Int) (a : Ab) : Ab := if (a.k == 4 && a.id == id) = true then ⟨a.k, a.n, a.of, a.mp, a.id, if a.rm < room then room else a.rm, a.nu⟩ else a
/-- It is known whether a value is 0. -/
def nullA (id : Int) (is : Bool) (a : Ab) : Ab := if (a.nu && a.id == id) = true then (if is = true then V.number (C.const (BitVec.ofInt 64 0)) else ⟨a.k, a.n, a.of, a.mp, 0, a.rm, false⟩) else a
def onS (w : Ab → Ab) (s : Sl) : Sl := ⟨s.w, s.st, w s.a⟩
def each (w : Ab → Ab) (f : Fr) : Fr := ⟨f.R.map w, f.S.map (onS w), f.ids⟩
def room (f : Fr) (id r : Int) : Fr := if right f = false then f else if decide (id < 0) = true then f else if decide (r < 1) = true then f else if decide (4096 < r) = true then f else each (roomA id r) f
def null (f : Fr) (id : Int) (is : Bool) : Fr := if right f = false then f else if decide (id < 1) = true then f else each (nullA id is) f
theorem roomA_none {id r : Int} {a : Ab} (h : isNone a = true) : roomA id r a = a := by
  rw [eqa_eq h]; rfl
theorem nullA_none {id : Int} {is : Bool} {a : Ab} (h : isNone a = true) : nullA id is a = a := by
  rw [eqa_eq h]; rfl
/-- The first so many, turned. -/
def upto {α : Type} (w : α → α) (L : List α) (i : Nat) : List α := (L.take i).map w ++ L.drop i
section
variable {α : Type} {w : α → α} {L : List α} {i : Nat}
theorem upto_len : (upto w L i).length = L.length := by simp [upto]; omega
theorem upto_0 : upto w L 0 = L := by simp [upto]
theorem upto_all {n : Nat} (h : L.length = n) : upto w L n = L.map w := by subst h; simp [upto]
theorem upto_at (d : α) (h : i < L.length) : (upto w L i).getD i d = L.getD i d := by
  have hl : ((L.take i).map w).length = i := by simp; omega
  unfold upto
  rw [List.getD_eq_getElem?_getD, List.getElem?_append_right (by omega), hl, Nat.sub_self, List.getElem?_drop, Nat.add_zero, ← List.getD_eq_getElem?_getD]
theorem upto_succ (d : α) (h : i < L.length) : upto w L (i + 1) = (upto w L i).set i (w (L.getD i d)) := by
  have hl : ((L.take i).map w).length = i := by simp; omega
  unfold upto
  have hd : List.drop i L = L[i] :: List.drop (i + 1) L := List.drop_eq_getElem_cons h
  rw [List.take_succ_eq_append_getElem h, List.map_append, List.append_assoc, List.set_append_right _ _ (by omega), hl, Nat.sub_self, hd, getD_at d h]
  rfl
end
theorem upto_same {α : Type} {w : α → α} {L : List α} {i : Nat} (d : α) (h : i < L.length) (hw : w (L.getD i d) = L.getD i d) : upto w L (i + 1) = upto w L i := by
  rw [upto_succ d h, hw, ← upto_at (w := w) d h]
  have hl : i < (upto w L i).length := by rw [upto_len]; exact h
  rw [getD_at d hl, List.set_getElem_self]
/-- A part of an item is put down. -/
theorem gSet_part {α : Type} (e : Enc α) {L : List α} {i j : Nat} {a : α} {fs : List FV} {g : Nat → List FV} (hg : ∀ k, k < L.length → g k = gOf e L k) (hi : i < L.length) (h : (e.enc (L.getD i e.dft)).take j ++ fs ++ (e.enc (L.getD i e.dft)).drop (j + fs.length) = e.enc a) : ∀ k, k < L.length → gSet g i j fs k = gOf e (L.set i a) k := by
  intro k hk
  unfold gSet
  by_cases hki : k = i
  · subst hki
    simp only [decide_true]
    rw [hg k hk]
    show (e.enc (L.getD k e.dft)).take j ++ fs ++ (e.enc (L.getD k e.dft)).drop (j + fs.length) = e.enc ((L.set k a).getD k e.dft)
    rw [h, getD_set, if_pos ⟨rfl, hk⟩]
  · simp only [decide_eq_false hki]
    rw [hg k hk]
    show e.enc _ = e.enc _
    rw [getD_set, if_neg (fun e => hki e.1.symm)]
/-- .. of the item that comes next. -/
theorem part_upto {α : Type} (e : Enc α) {w : α → α} {L : List α} {n i j : Nat} {fs : List FV} (hn : L.length = n) (hi : i < n) (h : (e.enc (L.getD i e.dft)).take j ++ fs ++ (e.enc (L.getD i e.dft)).drop (j + fs.length) = e.enc (w (L.getD i e.dft))) : ∀ k, k < n → gSet (gOf e (upto w L i)) i j fs k = gOf e (upto w L (i + 1)) k := by
  subst hn
  rw [upto_succ e.dft hi]
  intro k hk
  refine gSet_part e (fun _ _ => rfl) (by rw [upto_len]; exact hi) ?_ k (by rw [upto_len]; exact hk)
  rw [upto_at e.dft hi]; exact h
/-- Two parts. -/
theorem part_upto2 {α : Type} (e : Enc α) {w : α → α} {L : List α} {n i j j' : Nat} {a : α} {fs fs' : List FV} (hn : L.length = n) (hi : i < n) (h : (e.enc (L.getD i e.dft)).take j ++ fs ++ (e.enc (L.getD i e.dft)).drop (j + fs.length) = e.enc a) (h' : (e.enc a).take j' ++ fs' ++ (e.enc a).drop (j' + fs'.length) = e.enc (w (L.getD i e.dft))) : ∀ k, k < n → gSet (gSet (gOf e (upto w L i)) i j fs) i j' fs' k = gOf e (upto w L (i + 1)) k := by
  subst hn
  rw [upto_succ e.dft hi]
  have hl : i < (upto w L i).length := by rw [upto_len]; exact hi
  have h1 := gSet_part e (g := gOf e (upto w L i)) (L := upto w L i) (a := a) (fun _ _ => rfl) hl (by rw [upto_at e.dft hi]; exact h)
  intro k hk
  have h2 := gSet_part e (L := (upto w L i).set i a) (i := i) (j := j') (a := w (L.getD i e.dft)) (fs := fs') (g := gSet (gOf e (upto w L i)) i j fs) (fun q hq => h1 q (by simpa using hq)) (by simpa using hl) (by rw [getD_set, if_pos ⟨rfl, hl⟩]; exact h') k (by simpa [upto_len] using hk)
  rw [h2, List.set_set]
theorem same_upto {α : Type} (e : Enc α) {w : α → α} {L : List α} {n i : Nat} (hn : L.length = n) (hi : i < n) (h : w (L.getD i e.dft) = L.getD i e.dft) : ∀ k, k < n → gOf e (upto w L i) k = gOf e (upto w L (i + 1)) k := by
  subst hn
  rw [upto_same e.dft hi h]; exact fun _ _ => rfl
theorem roomA_k {id r : Int} {a : Ab} (h : (a.k == 4) = false) : roomA id r a = a := by unfold roomA; rw [h]; rfl
theorem roomA_i {id r : Int} {a : Ab} (h : (a.id == id) = false) : roomA id r a = a := by unfold roomA; rw [h, Bool.and_false]; rfl
theorem roomA_h {id r : Int} {a : Ab} (h : (a.k == 4) = true) (h2 : (a.id == id) = true) : roomA id r a = ⟨a.k, a.n, a.of, a.mp, a.id, if a.rm < r then r else a.rm, a.nu⟩ := by unfold roomA; rw [h, h2]; rfl
theorem nullA_u {id : Int} {is : Bool} {a : Ab} (h : a.nu = false) : nullA id is a = a := by unfold nullA; rw [h]; rfl
theorem nullA_i {id : Int} {is : Bool} {a : Ab} (h : (a.id == id) = false) : nullA id is a = a := by unfold nullA; rw [h, Bool.and_false]; rfl
theorem nullA_t {id : Int} {is : Bool} {a : Ab} (h : a.nu = true) (h2 : (a.id == id) = true) (hi : is = true) : nullA id is a = V.number (C.const (BitVec.ofInt 64 0)) := by unfold nullA; rw [h, h2, hi]; rfl
theorem nullA_f {id : Int} {is : Bool} {a : Ab} (h : a.nu = true) (h2 : (a.id == id) = true) (hi : is = false) : nullA id is a = ⟨a.k, a.n, a.of, a.mp, 0, a.rm, false⟩ := by unfold nullA; rw [h, h2, hi]; rfl
theorem onS_same {w : Ab → Ab} {s : Sl} (h : w s.a = s.a) : onS w s = s := by unfold onS; rw [h]
/-- By what a value ties, and its Id. -/
def tie (a : Ab) : Int × Int := if a.nu = true then (2, a.id) else if (a.k == 4) = true then (if decide (0 < a.id) = true then (1, a.id) else (0, 0)) else (0, 0)
/-- All values. -/
def vals (f : Fr) : List Ab := f.R ++ f.S.map (·.a)
/-- What was seen behind the first so many. -/
def tst (A B : List Ab) : Nat → List Int → Option Int
  | 0 => fun _ => Option.none
  | n + 1 => if ((tie (B.getD n eA.dft)).1 == 0) = true then tst A B n else fmPut (tst A B n) [(tie (B.getD n eA.dft)).1, (tie (B.getD n eA.dft)).2, 0] (tie (A.getD n eA.dft)).2
/-- Is the n-th as what was seen ahead? -/
def tat (A B : List Ab) (n : Nat) : Bool := (tie (B.getD n eA.dft)).1 == 0 || !((tst A B n [(tie (B.getD n eA.dft)).1, (tie (B.getD n eA.dft)).2, 0]).isSome && ((tst A B n [(tie (B.getD n eA.dft)).1, (tie (B.getD n eA.dft)).2, 0]).getD 0 != (tie (A.getD n eA.dft)).2))
def tok (A B : List Ab) : Nat → Bool
  | 0 => true
  | n + 1 => tok A B n && tat A B n
/-- Does what ties in a frame tie in a lesser one? -/
def tied (a b : Fr) : Bool := tok (vals a) (vals b) 75
def under (s t : Sl) : Bool := if t.w = false then Go.bits .andNot .u8 t.st (set s) == 0 else if s.w = true then V.leq s.a t.a else (s.st == 255 && eqa t.a (V.number C.unknown))
theorem under_3 {s t : Sl} (h1 : t.w = true) (h2 : s.w = false) (h3 : (s.st == 255) = true) : under s t = eqa t.a (V.number C.unknown) := by
  unfold under
  rw [h1, h2, h3]; rfl
def leR (A B : List Ab) : Nat → Bool
  | 0 => true
  | i + 1 => leR A B i && V.leq (A.getD i eA.dft) (B.getD i eA.dft)
def leS (A B : List Sl) : Nat → Bool
  | 0 => true
  | i + 1 => leS A B i && under (A.getD i eS.dft) (B.getD i eS.dft)
/-- Is a frame below another one? -/
def leq (a b : Fr) : Bool := if right a = false then false else if right b = false then false else if leR a.R b.R 11 = false then false else if leS a.S b.S 64 = false then false else tied a b
theorem vals_len {f : Fr} (h : f.wf) : (vals f).length = 75 := by simp [vals, h.r, h.s]
theorem vals_R {f : Fr} (h : f.wf) {i : Nat} (hi : i < 11) : (vals f).getD i eA.dft = f.R.getD i eA.dft := by
  rw [List.getD_eq_getElem?_getD, List.getD_eq_getElem?_getD, vals, List.getElem?_append_left (by rw [h.r]; exact hi)]
theorem vals_S {f : Fr} (h : f.wf) {i : Nat} (hi : i < 64) : (vals f).getD (11 + i) eA.dft = (f.S.getD i eS.dft).a := by
  have hl : i < f.S.length := by rw [h.s]; exact hi
  rw [List.getD_eq_getElem?_getD, List.getD_eq_getElem?_getD, vals, List.getElem?_append_right (by rw [h.r]; omega), h.r, show 11 + i - 11 = i by omega, List.getElem?_map]
  simp [hl]
theorem vals_none {f : Fr} (h : f.wf) {n : Nat} (hn : 75 ≤ n) : (vals f).getD n eA.dft = eA.dft := by
  rw [List.getD_eq_getElem?_getD, List.getElem?_eq_none (by rw [vals_len h]; exact hn)]; rfl
theorem tok_le {A B : List Ab} {n : Nat} (h : tok A B n = false) : ∀ m, n ≤ m → tok A B m = false
  | 0, hm => by rw [Nat.le_zero.1 hm] at h; exact h
  | m + 1, hm => by
    rcases Nat.lt_or_ge n (m + 1) with h1 | h1
    · rw [tok, tok_le h m (by omega)]; rfl
    · rw [← Nat.le_antisymm hm h1]; exact h
theorem leR_le {A B : List Ab} {n : Nat} (h : leR A B n = false) : ∀ m, n ≤ m → leR A B m = false
  | 0, hm => by rw [Nat.le_zero.1 hm] at h; exact h
  | m + 1, hm => by
    rcases Nat.lt_or_ge n (m + 1) with h1 | h1
    · rw [leR, leR_le h m (by omega)]; rfl
    · rw [← Nat.le_antisymm hm h1]; exact h
theorem leS_le {A B : List Sl} {n : Nat} (h : leS A B n = false) : ∀ m, n ≤ m → leS A B m = false
  | 0, hm => by rw [Nat.le_zero.1 hm] at h; exact h
  | m + 1, hm => by
    rcases Nat.lt_or_ge n (m + 1) with h1 | h1
    · rw [leS, leS_le h m (by omega)]; rfl
    · rw [← Nat.le_antisymm hm h1]; exact h
theorem leR_at {A B : List Ab} : ∀ {n : Nat}, leR A B n = true → ∀ i, i < n → V.leq (A.getD i eA.dft) (B.getD i eA.dft) = true
  | 0, _, i, hi => by omega
  | n + 1, h, i, hi => by
    rw [leR, Bool.and_eq_true] at h
    rcases Nat.lt_or_ge i n with h1 | h1
    · exact leR_at h.1 i h1
    · rw [show i = n by omega]; exact h.2
theorem leS_at {A B : List Sl} : ∀ {n : Nat}, leS A B n = true → ∀ i, i < n → under (A.getD i eS.dft) (B.getD i eS.dft) = true
  | 0, _, i, hi => by omega
  | n + 1, h, i, hi => by
    rw [leS, Bool.and_eq_true] at h
    rcases Nat.lt_or_ge i n with h1 | h1
    · exact leS_at h.1 i h1
    · rw [show i = n by omega]; exact h.2
theorem leR_of {A B : List Ab} : ∀ {n : Nat}, (∀ i, i < n → V.leq (A.getD i eA.dft) (B.getD i eA.dft) = true) → leR A B n = true
  | 0, _ => rfl
  | n + 1, h => by rw [leR, leR_of (fun i hi => h i (by omega)), h n (by omega)]; rfl
theorem leS_of {A B : List Sl} : ∀ {n : Nat}, (∀ i, i < n → under (A.getD i eS.dft) (B.getD i eS.dft) = true) → leS A B n = true
  | 0, _ => rfl
  | n + 1, h => by rw [leS, leS_of (fun i hi => h i (by omega)), h n (by omega)]; rfl
theorem leq_parts {a b : Fr} (h : leq a b = true) : right a = true ∧ right b = true ∧ leR a.R b.R 11 = true ∧ leS a.S b.S 64 = true ∧ tied a b = true := by
  unfold leq at h
  cases h1 : right a <;> rw [h1] at h
  · cases h
  cases h2 : right b <;> rw [h2] at h
  · cases h
  cases h3 : leR a.R b.R 11 <;> rw [h3] at h
  · cases h
  cases h4 : leS a.S b.S 64 <;> rw [h4] at h
  · cases h
  exact ⟨rfl, rfl, rfl, rfl, h⟩
theorem leq_of {a b : Fr} (h1 : right a = true) (h2 : right b = true) (h3 : leR a.R b.R 11 = true) (h4 : leS a.S b.S 64 = true) (h5 : tied a b = true) : leq a b = true := by
  unfold leq
  rw [h1, h2, h3, h4]; exact h5
/-- What was seen stands somewhere ahead. -/
theorem tst_seen {A B : List Ab} : ∀ {n : Nat} {x y : Int} {k : Int}, tst A B n [x, y, 0] = some k → ∃ m, m < n ∧ tie (B.getD m eA.dft) = (x, y) ∧ (tie (A.getD m eA.dft)).2 = k
  | 0, _, _, _, h => by cases h
  | n + 1, x, y, k, h => by
    rw [tst] at h
    split at h
    · obtain ⟨m, h1, h2⟩ := tst_seen h
      exact ⟨m, by omega, h2⟩
    · by_cases e : [x, y, 0] = [(tie (B.getD n eA.dft)).1, (tie (B.getD n eA.dft)).2, 0]
      · rw [e, fmPut_at] at h
        simp only [List.cons.injEq, and_true] at e
        exact ⟨n, by omega, by rw [← Prod.eta (tie (B.getD n eA.dft)), ← e.1, ← e.2], Option.some.inj h⟩
      · rw [fmPut_ne _ _ e] at h
        obtain ⟨m, h1, h2⟩ := tst_seen h
        exact ⟨m, by omega, h2⟩
theorem tok_of {A B : List Ab} (h : ∀ n m, (tie (B.getD n eA.dft)).1 ≠ 0 → tie (B.getD n eA.dft) = tie (B.getD m eA.dft) → (tie (A.getD n eA.dft)).2 = (tie (A.getD m eA.dft)).2) : ∀ n, tok A B n = true
  | 0 => rfl
  | n + 1 => by
    rw [tok, tok_of h n, Bool.true_and]
    unfold tat
    by_cases h0 : (tie (B.getD n eA.dft)).1 = 0
    · rw [h0]; rfl
    · rw [beq_false_of_ne h0, Bool.false_or]
      cases hs : tst A B n [(tie (B.getD n eA.dft)).1, (tie (B.getD n eA.dft)).2, 0] with
      | none => rfl
      | some k =>
        obtain ⟨m, _, h2, h3⟩ := tst_seen hs
        have h4 := h n m h0 h2.symm
        simp only [Option.isSome_some, Option.getD_some, Bool.true_and, Bool.not_eq_true', bne_eq_false_iff_eq]
        omega
/-! What the walk of Leq asks. -/
theorem leq_no1 {a b : Fr} (h : right a = false) : leq a b = false := by unfold leq; rw [if_pos h]
theorem leq_no2 {a b : Fr} (h : right b = false) : leq a b = false := by
  unfold leq
  split
  · rfl
  · first | rfl | rw [if_pos h]
theorem leq_no3 {a b : Fr} (h : leR a.R b.R 11 = false) : leq a b = false := by
  unfold leq
  split
  · rfl
  split
  · rfl
  first | rfl | rw [if_pos h]
theorem leq_no4 {a b : Fr} (h : leS a.S b.S 64 = false) : leq a b = false := by
  unfold leq
  split
  · rfl
  split
  · rfl
  split
  · rfl
  first | rfl | rw [if_pos h]
theorem leq_no5 {a b : Fr} (h : tied a b = false) : leq a b = false := by
  unfold leq
  split
  · rfl
  split
  · rfl
  split
  · rfl
  split
  · rfl
  exact h
theorem leq_no6 {a b : Fr} (h : tok (vals a) (vals b) 75 = false) : leq a b = false := leq_no5 h
theorem leq_yes {a b : Fr} (h1 : right a = true) (h2 : right b = true) (h3 : leR a.R b.R 11 = true) (h4 : leS a.S b.S 64 = true) (h5 : tok (vals a) (vals b) (11 + 64) = true) : leq a b = true := leq_of h1 h2 h3 h4 h5
theorem leR_0 {A B : List Ab} : leR A B 0 = true := rfl
theorem leS_0 {A B : List Sl} : leS A B 0 = true := rfl
theorem tok_0 {A B : List Ab} : tok A B 0 = true := rfl
theorem tst_0 {A B : List Ab} (k : List Int) : tst A B 0 k = Option.none := rfl
theorem leq_R {a b : Fr} {i : Nat} (hi : i < 11) (h : V.leq (a.R.getD i eA.dft) (b.R.getD i eA.dft) = false) : leq a b = false :=
  leq_no3 (leR_le (n := i + 1) (by rw [leR, h, Bool.and_false]) 11 hi)
theorem leq_S {a b : Fr} {i : Nat} (hi : i < 64) (h : under (a.S.getD i eS.dft) (b.S.getD i eS.dft) = false) : leq a b = false :=
  leq_no4 (leS_le (n := i + 1) (by rw [leS, h, Bool.and_false]) 64 hi)
theorem leR_go {A B : List Ab} {i : Nat} (h : leR A B i = true) (k : V.leq (A.getD i eA.dft) (B.getD i eA.dft) = true) : leR A B (i + 1) = true := by rw [leR, h, k]; rfl
theorem leS_go {A B : List Sl} {i : Nat} (h : leS A B i = true) (k : under (A.getD i eS.dft) (B.getD i eS.dft) = true) : leS A B (i + 1) = true := by rw [leS, h, k]; rfl
section
variable {A B : List Ab} {i : Nat} {x y : Ab} (hx : A.getD i eA.dft = x) (hy : B.getD i eA.dft = y)
include hy
theorem tst_skip (h : ((tie y).1 == 0) = true) : tst A B (i + 1) = tst A B i := by rw [tst, hy, if_pos h]
theorem tok_skip (h : ((tie y).1 == 0) = true) (ho : tok A B i = true) : tok A B (i + 1) = true := by
  rw [tok, ho, Bool.true_and]
  unfold tat
  rw [hy, h]; rfl
include hx
theorem tst_put (h : ((tie y).1 == 0) = false) : tst A B (i + 1) = fmPut (tst A B i) [(tie y).1, (tie y).2, 0] (tie x).2 := by rw [tst, hy, hx, if_neg (by rw [h]; decide)]
theorem tok_new (hs : (tst A B i [(tie y).1, (tie y).2, 0]).isSome = false) (ho : tok A B i = true) : tok A B (i + 1) = true := by
  rw [tok, ho, Bool.true_and]
  unfold tat
  rw [hy, hx, hs]; simp
theorem tok_old (hs : ((tst A B i [(tie y).1, (tie y).2, 0]).getD 0 == (tie x).2) = true) (ho : tok A B i = true) : tok A B (i + 1) = true := by
  rw [tok, ho, Bool.true_and]
  unfold tat
  rw [hy, hx, bne, hs]; simp
theorem tok_no {n : Nat} (hn : i < n) (h : ((tie y).1 == 0) = false) (hs : (tst A B i [(tie y).1, (tie y).2, 0]).isSome = true) (hk : ((tst A B i [(tie y).1, (tie y).2, 0]).getD 0 == (tie x).2) = false) : tok A B n = false :=
  tok_le (n := i + 1) (by
    rw [tok]
    unfold tat
    rw [hy, hx, h, hs, bne, hk]; simp) n hn
end
end F
end Go.Proofs.YtgfemfgimefmeaaGreat
namespace Go.Proofs.YtgfemfgimefmeaaGreat
open Go.RowKit Go.Sx
set_option linter.unusedSimpArgs false
set_option linter.unusedVariables false
set_option linter.unnecessarySimpa false
set_option maxRecDepth 100000
set_option maxHeartbeats 4000000
/-! ### What a lesser frame loads -/
namespace V
theorem leq_inv {x y : Ab} (h : leq x y = true) : right x = true ∧ right y = true ∧ (y.k = 0 ∨ (alike x y = true ∧ (counts x = true → C.leq x.n y.n = true) ∧ (x.nu = true → y.nu = true) ∧ (x.k = 4 → y.rm ≤ x.rm ∧ (0 < y.id ∨ x.id = 0)))) := by
  unfold leq at h
  split at h
  · rename_i hr
    rw [Bool.and_eq_true] at hr
    refine ⟨hr.1, hr.2, ?_⟩
    split at h
    · rename_i h0; exact .inl (beq_iff_eq.1 h0)
    · split at h
      · rename_i hc
        simp only [Bool.and_eq_true, Bool.or_eq_true, Bool.not_eq_true'] at hc
        refine .inr ⟨hc.1, fun e => hc.2.1.resolve_left (by rw [e]; simp), fun e => hc.2.2.resolve_left (by rw [e]; simp), fun e => ?_⟩
        simp only [e, bne_self_eq_false, Bool.false_or, Bool.and_eq_true, Bool.or_eq_true, decide_eq_true_eq, beq_iff_eq] at h
        exact h
      · cases h
  · cases h
theorem leq_mk {x y : Ab} (h1 : right x = true) (h2 : right y = true) (h3 : alike x y = true) (h4 : counts x = true → C.leq x.n y.n = true) (h5 : x.nu = true → y.nu = true) (h6 : x.k = 4 → y.rm ≤ x.rm ∧ (0 < y.id ∨ x.id = 0)) : leq x y = true := by
  unfold leq
  rw [if_pos (by rw [h1, h2]; rfl)]
  split
  · rfl
  · have hn : (!counts x || C.leq x.n y.n) = true := by
      cases hc : counts x with
      | false => rfl
      | true => rw [h4 hc]; rfl
    have hu : (!x.nu || y.nu) = true := by
      cases hc : x.nu with
      | false => rfl
      | true => rw [h5 hc]; rfl
    rw [if_pos (by rw [h3, hn, hu]; rfl)]
    by_cases e : x.k = 4
    · obtain ⟨a1, a2⟩ := h6 e
      rw [decide_eq_true a1, Bool.true_and]
      rcases a2 with a2 | a2
      · rw [decide_eq_true a2]; simp
      · rw [a2]; simp
    · have : (x.k != 4) = true := by simpa using e
      rw [this]; rfl
theorem alike_k {x y : Ab} (h : alike x y = true) : x.k = y.k := by
  unfold alike at h
  simp only [Bool.and_eq_true, beq_iff_eq] at h
  exact h.1
theorem leq_k {x y : Ab} (h : leq x y = true) (h0 : y.k ≠ 0) : x.k = y.k := alike_k ((leq_inv h).2.2.resolve_left h0).1
theorem counts_right {x : Ab} (h : right x = true) (hc : counts x = true) : C.right x.n = true := by
  unfold counts at hc
  simp only [Bool.or_eq_true, beq_iff_eq] at hc
  unfold right at h
  rcases hc with e | e | e | e <;> (simp only [e] at h; simp [numbered, added] at h; first | exact h.1 | exact h.2.1.1 | exact h.2.1.1.1)
theorem leq_self {x : Ab} (hi : R.inS x.n.s = true) (h : right x = true) : leq x x = true := by
  refine leq_mk h h (by simp [alike]) (fun e => C.leq_refl2 hi (counts_right h e)) (fun e => e) (fun e => ⟨Int.le_refl _, ?_⟩)
  unfold right at h
  simp only [e] at h
  simp [named] at h
  omega
theorem right_num {x : Sc} (h : C.right x = true) : right ⟨1, x, 0, 0, 0, 0, false⟩ = true := by
  unfold right
  simp [numbered, h]
theorem number_is {x : Sc} (h : C.right x = true) : number x = ⟨1, x, 0, 0, 0, 0, false⟩ := by unfold number; rw [if_pos h]
theorem leq_num {x y : Sc} (h : C.leq x y = true) : leq (number x) (number y) = true := by
  obtain ⟨h1, h2⟩ := C.leq_right2 h
  rw [number_is h1, number_is h2]
  exact leq_mk (right_num h1) (right_num h2) (by rfl) (fun _ => h) (fun e => e) (fun e => by cases e)
theorem nu_kind {x : Ab} (h : right x = true) (hn : x.nu = true) : x.k = 7 ∨ x.k = 8 := by
  unfold right at h
  rw [hn] at h
  by_cases h7 : x.k = 7
  · exact .inl h7
  by_cases h8 : x.k = 8
  · exact .inr h8
  exfalso
  revert h
  repeat' split
  all_goals simp_all
end V
namespace C
theorem leq_const {x : Sc} {c : BitVec 64} (h : leq x (const c) = true) : x = const c := by
  have s := leq_sub h
  obtain ⟨h1, _⟩ := leq_right2 h
  have l1 : c.toNat ≤ x.s.lo.toNat := s.lo
  have l2 : x.s.hi.toNat ≤ c.toNat := s.hi
  have l3 : sv c ≤ x.s.sl := s.sl
  have l4 : x.s.sh ≤ sv c := s.sh
  have g : S.good x.s = true := by
    unfold right of at h1
    split at h1
    · rename_i hc; rw [Bool.and_eq_true] at hc; exact hc.2
    · cases h1
  obtain ⟨g1, g2⟩ := S.good_iff.1 g
  exact only (by omega) (by omega) (by omega) (by omega) (leq_one s.t)
end C
namespace F
theorem b8_255 (i : Nat) (hi : i < 8) : (b8 255).getLsbD i = true := by
  have : b8 255 = 255#8 := rfl
  rw [this]
  have : ∀ j : Fin 8, (255#8 : BitVec 8).getLsbD j.1 = true := by decide
  exact this ⟨i, hi⟩
theorem b8_0 (i : Nat) : (b8 0).getLsbD i = false := by
  have : b8 0 = 0#8 := rfl
  rw [this]; simp
/-- Set bytes of what is greater are set in what is less. -/
theorem set_sub {s t : Sl} (hu : under s t = true) {i : Nat} (hi : i < 8) (h : (b8 (set t)).getLsbD i = true) : (b8 (set s)).getLsbD i = true := by
  unfold under at hu
  split at hu
  · rename_i ht
    have e : set t = t.st := by unfold set; rw [if_neg (by rw [ht]; decide)]
    rw [e] at h
    rw [andNot8, ub_zero, beq_iff_eq] at hu
    have h3 : (b8 t.st &&& ~~~b8 (set s)).getLsbD i = false := by rw [hu]; simp
    rw [BitVec.getLsbD_and, h, BitVec.getLsbD_not, decide_eq_true hi] at h3
    simpa using h3
  · rename_i ht
    have ht : t.w = true := by simpa using ht
    have e : set t = if (t.a.k == 1) = true then 255 else 0 := by unfold set; rw [if_pos ht]
    split at hu
    · rename_i hs
      by_cases h1 : t.a.k = 1
      · have hk := V.leq_k hu (by omega)
        have e2 : set s = 255 := by unfold set; rw [if_pos hs, if_pos (by rw [hk, h1]; rfl)]
        rw [e2]; exact b8_255 i hi
      · rw [e, if_neg (by simpa using h1), b8_0] at h; cases h
    · rename_i hs
      rw [Bool.and_eq_true, beq_iff_eq] at hu
      have e2 : set s = s.st := by unfold set; rw [if_neg hs]
      rw [e2, hu.1]; exact b8_255 i hi
theorem under_at {a b : Fr} (h : leq a b = true) {q : Nat} (hq : q < 64) : under (a.S.getD q noSl) (b.S.getD q noSl) = true := leS_at (leq_parts h).2.2.2.1 q hq
theorem ready_less {a b : Fr} (h : leq a b = true) {p n : Int} (h0 : 0 ≤ p) (hp : p + n ≤ 512) (hr : ready b p n = true) : ready a p n = true := by
  unfold ready at *
  rw [rdy_iff] at *
  intro q h1 h2 i hi h3 h4
  exact set_sub (under_at h (by unfold cnt at h2; omega)) hi (hr q h1 h2 i hi h3 h4)
theorem load_form {f : Fr} (hr : right f = true) {off n : Int} (hw : word n = true) (hi : (within off n).2 = true) (sg : Bool) :
    load f off n sg = if n = 8 ∧ (within off n).1.tmod 8 = 0 ∧ (f.S.getD ((within off n).1.toNat / 8) noSl).w = true then ((f.S.getD ((within off n).1.toNat / 8) noSl).a, 0) else if ready f (within off n).1 n = true then (part (f.S.getD ((within off n).1.toNat / 8) noSl) ((within off n).1.tmod 8) n sg, 0) else (V.zero, 30) := by
  unfold load
  rw [hr, hw, hi, if_neg (by decide), if_neg (by decide), if_neg (by decide)]
  cases hrd : ready f (within off n).1 n <;> cases hwh : (f.S.getD ((within off n).1.toNat / 8) noSl).w <;> by_cases h8 : n = 8 <;> by_cases hm : (within off n).1.tmod 8 = 0 <;> simp [*]
theorem one_const (c : BitVec 64) : C.one (C.const c) = (c, true) := by
  unfold C.one; rw [C.const_right]; simp [C.const, S.one]
theorem one_unknown : (C.one C.unknown).2 = false := by kernel_rfl
/-- What bytes of a slot are is below, in what is less. -/
theorem part_less {s t : Sl} (hs : inA s.a = true) (ht : inA t.a = true) (hu : under s t = true) (hk : t.w = true → t.a.k = 1) {r n : Int} (hw : word n = true) (sg : Bool) : V.leq (part s r n sg) (part t r n sg) = true := by
  have hn := word_or hw
  have he := word_ext (sg := sg) hw
  have lowr : ∀ x : Sc, R.inS x.s = true → C.right x = true → C.right (C.low x n sg).1 = true := fun x h1 h2 => C.low_right h1 h2 he
  -- the scalar that a part is taken of
  have from_ok : ∀ u : Sl, R.inS (if u.w = true then (if (C.one u.a.n).2 = true then (if decide (IntKind.i64.wrap (r + n) ≤ 8) = true then C.const ((C.one u.a.n).1 >>> (IntKind.i64.wrap (8 * r)).toNat) else C.unknown) else C.unknown) else C.unknown : Sc).s = true ∧ C.right (if u.w = true then (if (C.one u.a.n).2 = true then (if decide (IntKind.i64.wrap (r + n) ≤ 8) = true then C.const ((C.one u.a.n).1 >>> (IntKind.i64.wrap (8 * r)).toNat) else C.unknown) else C.unknown) else C.unknown : Sc) = true := fun u => by
    repeat' split
    all_goals first | exact ⟨C.const_S _, C.const_right _⟩ | exact ⟨rfl, C.unknown_right⟩
  have unk : t.w = false ∨ (C.one t.a.n).2 = false ∨ decide (IntKind.i64.wrap (r + n) ≤ 8) = false → V.leq (part s r n sg) (part t r n sg) = true := fun h => by
    have e : part t r n sg = V.number (C.low C.unknown n sg).1 := by
      unfold part
      congr 2
      rcases h with h | h | h <;> rw [h] <;> simp
    rw [e]
    unfold part
    exact V.leq_num (C.low_leq (from_ok s).1 (from_ok s).2 hn sg)
  cases htw : t.w with
  | false => exact unk (.inl htw)
  | true =>
    cases ho : (C.one t.a.n).2 with
    | false => exact unk (.inr (.inl ho))
    | true =>
      cases hd : decide (IntKind.i64.wrap (r + n) ≤ 8) with
      | false => exact unk (.inr (.inr hd))
      | true =>
        have hk1 := hk htw
        have hc : t.a.n = C.const (C.one t.a.n).1 := C.one_law ht ho
        unfold under at hu
        rw [if_neg (by rw [htw]; decide)] at hu
        have key : s.w = true ∧ s.a.n = t.a.n := by
          split at hu
          · rename_i hsw
            refine ⟨hsw, ?_⟩
            have hlk := V.leq_k hu (by omega)
            obtain ⟨_, _, h3⟩ := V.leq_inv hu
            have h3 := (h3.resolve_left (by omega)).2.1 (by unfold V.counts; rw [hlk, hk1]; rfl)
            rw [hc] at h3
            rw [C.leq_const h3, ← hc]
          · rw [Bool.and_eq_true] at hu
            have e := eqa_eq hu.2
            rw [e, V.number_is C.unknown_right] at ho
            rw [show (⟨1, C.unknown, 0, 0, 0, 0, false⟩ : Ab).n = C.unknown from rfl, one_unknown] at ho
            cases ho
        have e : part s r n sg = part t r n sg := by unfold part; rw [key.1, key.2, htw]
        rw [e]
        have hcr := (from_ok t)
        unfold part
        exact V.leq_num (C.leq_refl2 (C.low_in hcr.1 n sg) (lowr _ hcr.1 hcr.2))
/-- Ready bytes of a whole slot are a number's. -/
theorem ready_k {f : Fr} {p n : Int} (h0 : 0 ≤ p) (hn : 1 ≤ n) (hr : ready f p n = true) (hw : (f.S.getD (p.toNat / 8) noSl).w = true) : (f.S.getD (p.toNat / 8) noSl).a.k = 1 := by
  unfold ready at hr
  rw [rdy_iff] at hr
  have := hr (p.toNat / 8) (Nat.le_refl _) (by unfold cnt; omega) (p.toNat % 8) (by omega) (by omega) (by omega)
  unfold set at this
  rw [if_pos hw] at this
  by_cases h : (f.S.getD (p.toNat / 8) noSl).a.k = 1
  · exact h
  · rw [if_neg (by simpa using h), b8_0] at this; cases this
theorem getD_inA {f : Fr} (hf : f.wf) (q : Nat) : inA (f.S.getD q noSl).a = true := by
  by_cases h : q < f.S.length
  · exact inS_at hf.si h
  · rw [List.getD_eq_getElem?_getD, List.getElem?_eq_none (by omega)]; rfl
/-- What a greater frame loads a lesser one does, as something below. -/
theorem load_less {a b : Fr} (ha : a.wf) (hb : b.wf) (h : leq a b = true) {off n : Int} {sg : Bool} (hl : ((load b off n sg).2 == 0) = true) : ((load a off n sg).2 == 0) = true ∧ V.leq (load a off n sg).1 (load b off n sg).1 = true := by
  obtain ⟨hra, hrb, _⟩ := leq_parts h
  obtain ⟨hw, hi⟩ := load_good (f := b) (off := off) (n := n) (sg := sg) (by rw [beq_iff_eq.1 hl]; decide) (by rw [beq_iff_eq.1 hl]; decide)
  have hn := word_in hw
  obtain ⟨q1, q2, q3⟩ := within_in hi hn.1
  have hq : (within off n).1.toNat / 8 < 64 := by rw [q1]; omega
  have hu := under_at h hq
  rw [load_form hrb hw hi] at hl ⊢
  rw [load_form hra hw hi]
  by_cases hc : n = 8 ∧ (within off n).1.tmod 8 = 0 ∧ (b.S.getD ((within off n).1.toNat / 8) noSl).w = true
  · rw [if_pos hc]
    unfold under at hu
    rw [if_neg (by rw [hc.2.2]; decide)] at hu
    cases hsw : (a.S.getD ((within off n).1.toNat / 8) noSl).w with
    | true =>
      rw [hsw, if_pos rfl] at hu
      rw [if_pos ⟨hc.1, hc.2.1, rfl⟩]
      exact ⟨rfl, hu⟩
    | false =>
      rw [hsw, if_neg (by decide), Bool.and_eq_true, beq_iff_eq] at hu
      have hrd : ready a (within off n).1 n = true := by
        unfold ready
        rw [rdy_iff]
        intro q h1 h2 i hi8 h3 h4
        have eq : q = (within off n).1.toNat / 8 := by
          have hm := hc.2.1
          rw [Int.tmod_eq_emod_of_nonneg (by omega)] at hm
          have h8 := hc.1
          unfold cnt at h2; omega
        rw [eq]
        unfold set
        rw [hsw, if_neg (by decide), hu.1]; exact b8_255 i hi8
      rw [if_neg (by rintro ⟨_, _, e⟩; cases e), if_pos hrd]
      refine ⟨rfl, ?_⟩
      have e : part (a.S.getD ((within off n).1.toNat / 8) noSl) ((within off n).1.tmod 8) n sg = V.number C.unknown := by
        unfold part
        rw [hsw, if_neg (by decide), hc.1, C.low_8 (by cases sg <;> rfl) C.unknown_right rfl]
      show V.leq (part _ _ _ _) (b.S.getD _ noSl).a = true
      rw [e, eqa_eq hu.2]
      exact V.leq_num (C.leq_refl2 rfl C.unknown_right)
  · rw [if_neg hc] at hl ⊢
    cases hrb' : ready b (within off n).1 n with
    | false => rw [hrb', if_neg (by decide)] at hl; cases hl
    | true =>
      rw [if_pos rfl]
      have hra' := ready_less h (by omega) (by omega) hrb'
      have hkb := ready_k (by omega) hn.1 hrb'
      have hka := ready_k (by omega) hn.1 hra'
      by_cases hca : n = 8 ∧ (within off n).1.tmod 8 = 0 ∧ (a.S.getD ((within off n).1.toNat / 8) noSl).w = true
      · rw [if_pos hca]
        refine ⟨rfl, ?_⟩
        have hbw : (b.S.getD ((within off n).1.toNat / 8) noSl).w = false := by
          cases hx : (b.S.getD ((within off n).1.toNat / 8) noSl).w with
          | false => rfl
          | true => exact absurd ⟨hca.1, hca.2.1, hx⟩ hc
        have e : part (b.S.getD ((within off n).1.toNat / 8) noSl) ((within off n).1.tmod 8) n sg = V.number C.unknown := by
          unfold part
          rw [hbw, if_neg (by decide), hca.1, C.low_8 (by cases sg <;> rfl) C.unknown_right rfl]
        show V.leq (a.S.getD _ noSl).a (part _ _ _ _) = true
        rw [e]
        have hk := hka hca.2.2
        have hva : V.right (a.S.getD ((within off n).1.toNat / 8) noSl).a = true := by
          have := (right_all hra).2.2.1
          rw [List.all_eq_true] at this
          have hl : (within off n).1.toNat / 8 < a.S.length := by rw [ha.s]; exact hq
          have := this _ (List.getElem_mem hl)
          rw [getD_at noSl hl]
          unfold okA at this
          rw [Bool.and_eq_true] at this
          exact this.1
        have hca' : V.counts (a.S.getD ((within off n).1.toNat / 8) noSl).a = true := by unfold V.counts; rw [hk]; rfl
        have hcr := V.counts_right hva hca'
        have e2 : V.number (a.S.getD ((within off n).1.toNat / 8) noSl).a.n = (a.S.getD ((within off n).1.toNat / 8) noSl).a := by
          rw [V.number_is hcr]
          generalize (a.S.getD ((within off n).1.toNat / 8) noSl).a = x at hk hva
          unfold V.right at hva
          rw [hk] at hva
          simp at hva
          obtain ⟨k, num, of, mp, id, rm, nu⟩ := x
          simp only at hk hva
          obtain ⟨_, rfl, rfl, rfl, rfl, rfl⟩ := hva
          subst hk; rfl
        rw [← e2]
        exact V.leq_num (C.leq_unknown (getD_inA ha _) hcr)
      · rw [if_neg hca, if_pos hra']
        exact ⟨rfl, part_less (getD_inA ha _) (getD_inA hb _) hu hkb hw sg⟩
theorem asks_less {a b : Fr} (h : leq a b = true) {off n : Int} (hb : (asks b off n == 0) = true) : (asks a off n == 0) = true := by
  obtain ⟨hra, hrb, _⟩ := leq_parts h
  have e : may a off n = may b off n := by unfold may; rw [hra, hrb]
  unfold asks at *
  rw [e]
  split at hb
  · rename_i h0
    rw [if_pos h0]
    obtain ⟨m1, m2, m3, m4, m5⟩ := may_in h0
    cases hr : ready b (may b off n).1 n with
    | false => rw [hr, if_pos rfl] at hb; cases hb
    | true =>
      rw [ready_less h (by omega) (by omega) hr, if_neg (by decide)]; exact h0
  · rename_i h0
    rw [beq_iff_eq] at hb
    exact absurd (beq_iff_eq.2 hb) h0
/-! What is known of an Id. -/
theorem each_right {w : Ab → Ab} {f : Fr} (hk : ∀ a, okA f.ids a = true → ((w a).k == 0) = (a.k == 0)) (ho : ∀ a, okA f.ids a = true → okA f.ids (w a) = true) (h : right f = true) : right (each w f) = true := by
  obtain ⟨h1, h2, h3, h4⟩ := right_all h
  unfold right
  simp only [Bool.and_eq_true, decide_eq_true_eq]
  rw [List.all_eq_true] at h1 h2 h3
  refine ⟨?_, ?_, ?_, h4⟩
  · show (f.S.map (onS w)).all okS = true
    rw [List.all_map, List.all_eq_true]
    intro s hs
    have e := hk s.a (h3 s hs)
    have := h1 s hs
    show okS (onS w s) = true
    unfold okS onS at *
    simp only [e]; exact this
  · show (f.R.map w).all (okA f.ids) = true
    rw [List.all_map, List.all_eq_true]
    exact fun a ha => ho a (h2 a ha)
  · show (f.S.map (onS w)).all (fun s => okA f.ids s.a) = true
    rw [List.all_map, List.all_eq_true]
    exact fun s hs => ho s.a (h3 s hs)
theorem roomA_right {id r : Int} (h1 : 1 ≤ r) (h2 : r ≤ 4096) {a : Ab} (h : V.right a = true) : V.right (roomA id r a) = true := by
  unfold roomA
  split
  · rename_i hc
    rw [Bool.and_eq_true, beq_iff_eq] at hc
    unfold V.right at h ⊢
    simp only [hc.1] at h ⊢
    simp [V.placed, V.added, V.numbered, V.named, V.nought, V.roomy] at h ⊢
    refine ⟨h.1, h.2.1, h.2.2.1, ?_, h.2.2.2.2⟩
    split <;> omega
  · exact h
theorem nullA_right {id : Int} {is : Bool} {a : Ab} (h : V.right a = true) : V.right (nullA id is a) = true := by
  unfold nullA
  split
  · rename_i hc
    rw [Bool.and_eq_true] at hc
    split
    · rw [V.number_is (C.const_right _)]; exact V.right_num (C.const_right _)
    · rcases V.nu_kind h hc.1 with e | e <;>
      · unfold V.right at h ⊢
        simp only [e] at h ⊢
        simp [V.placed, V.added, V.numbered, V.mapped, V.sized, V.nulled] at h ⊢
        first
        | (simp_all; done)
        | (simp_all; rfl)
  · exact h
theorem okA_parts {ids : Int} {a : Ab} : okA ids a = true ↔ V.right a = true ∧ a.id ≤ ids := by
  unfold okA; rw [Bool.and_eq_true, decide_eq_true_eq]
theorem room_right {f : Fr} (id r : Int) (h : right f = true) : right (room f id r) = true := by
  unfold room
  rw [h, if_neg (by decide)]
  split
  · exact h
  split
  · exact h
  split
  · exact h
  rename_i h1 h2
  have h1 : 1 ≤ r := by have : ¬ r < 1 := fun e => h1 (decide_eq_true e); omega
  have h2 : r ≤ 4096 := by have : ¬ 4096 < r := fun e => h2 (decide_eq_true e); omega
  refine each_right (fun a _ => ?_) (fun a ha => ?_) h
  · unfold roomA; split <;> rfl
  · obtain ⟨a1, a2⟩ := okA_parts.1 ha
    refine okA_parts.2 ⟨roomA_right h1 h2 a1, ?_⟩
    unfold roomA; split <;> exact a2
theorem null_right {f : Fr} (id : Int) (is : Bool) (h : right f = true) : right (null f id is) = true := by
  unfold null
  rw [h, if_neg (by decide)]
  split
  · exact h
  have h4 := (right_all h).2.2.2
  refine each_right (fun a ha => ?_) (fun a ha => ?_) h
  · obtain ⟨a1, _⟩ := okA_parts.1 ha
    unfold nullA
    split
    · rename_i hc
      rw [Bool.and_eq_true] at hc
      split
      · rw [V.number_is (C.const_right _)]
        rcases V.nu_kind a1 hc.1 with e | e <;> rw [e] <;> rfl
      · rfl
    · rfl
  · obtain ⟨a1, a2⟩ := okA_parts.1 ha
    refine okA_parts.2 ⟨nullA_right a1, ?_⟩
    unfold nullA
    split
    · split
      · rw [V.number_is (C.const_right _)]; exact h4
      · exact h4
    · exact a2
theorem roomA_leq {id r : Int} (h1 : 1 ≤ r) (h2 : r ≤ 4096) {a : Ab} (hi : R.inS a.n.s = true) (h : V.right a = true) : V.leq (roomA id r a) a = true := by
  by_cases hc : (a.k == 4 && a.id == id) = true
  · have e : roomA id r a = ⟨a.k, a.n, a.of, a.mp, a.id, if a.rm < r then r else a.rm, a.nu⟩ := by unfold roomA; rw [if_pos hc]
    have hr := roomA_right (id := id) h1 h2 h
    rw [Bool.and_eq_true, beq_iff_eq] at hc
    rw [e] at hr ⊢
    refine V.leq_mk hr h ?_ (fun hx => C.leq_refl2 hi (V.counts_right (x := a) h hx)) (fun hx => hx) (fun _ => ⟨?_, ?_⟩)
    · unfold V.alike
      simp [hc.1]
    · show a.rm ≤ (if a.rm < r then r else a.rm); split <;> omega
    · unfold V.right at h
      simp only [hc.1] at h
      simp [V.named] at h
      show 0 < a.id ∨ a.id = 0
      omega
  · have e : roomA id r a = a := by unfold roomA; rw [if_neg hc]
    rw [e]; exact V.leq_self hi h
theorem under_self {s : Sl} (hi : inA s.a = true) (h : V.right s.a = true) : under s s = true := by
  unfold under
  split
  · rename_i hw
    have e : set s = s.st := by unfold set; rw [if_neg (by rw [hw]; decide)]
    rw [e, andNot8, ub_zero]
    simp
  · rename_i hw
    rw [if_pos (by simpa using hw)]
    exact V.leq_self hi h
theorem under_room {id r : Int} (h1 : 1 ≤ r) (h2 : r ≤ 4096) {s : Sl} (hi : inA s.a = true) (h : V.right s.a = true) : under (onS (roomA id r) s) s = true := by
  unfold under
  split
  · rename_i hw
    have e : set (onS (roomA id r) s) = s.st := by unfold set onS; rw [if_neg (by rw [hw]; decide)]
    rw [e, andNot8, ub_zero]
    simp
  · rename_i hw
    show (if s.w = true then V.leq (roomA id r s.a) s.a else _) = true
    rw [if_pos (show s.w = true by simpa using hw)]
    exact roomA_leq h1 h2 hi h
theorem map_getD {w : Ab → Ab} (h0 : w eA.dft = eA.dft) (L : List Ab) (n : Nat) : (L.map w).getD n eA.dft = w (L.getD n eA.dft) := by
  rw [List.getD_eq_getElem?_getD, List.getD_eq_getElem?_getD, List.getElem?_map]
  cases L[n]? with
  | none => exact h0.symm
  | some x => rfl
theorem vals_each (w : Ab → Ab) (f : Fr) : vals (each w f) = (vals f).map w := by
  unfold vals each
  simp only [List.map_append, List.map_map]
  rfl
theorem tie_room (id r : Int) (a : Ab) : tie (roomA id r a) = tie a := by
  unfold roomA; split <;> rfl
theorem okA_R {f : Fr} (h : right f = true) {i : Nat} (hi : i < f.R.length) : V.right (f.R.getD i eA.dft) = true := by
  have := (right_all h).2.1
  rw [List.all_eq_true] at this
  rw [getD_at eA.dft hi]
  exact (okA_parts.1 (this _ (List.getElem_mem hi))).1
theorem okA_S {f : Fr} (h : right f = true) {i : Nat} (hi : i < f.S.length) : V.right (f.S.getD i eS.dft).a = true := by
  have := (right_all h).2.2.1
  rw [List.all_eq_true] at this
  rw [getD_at eS.dft hi]
  exact (okA_parts.1 (this _ (List.getElem_mem hi))).1
theorem leq_refl {f : Fr} (hf : f.wf) (h : right f = true) : leq f f = true :=
  leq_of h h (leR_of fun i hi => V.leq_self (inA_at hf.ri (by rw [hf.r]; exact hi)) (okA_R h (by rw [hf.r]; exact hi))) (leS_of fun i hi => under_self (inS_at hf.si (by rw [hf.s]; exact hi)) (okA_S h (by rw [hf.s]; exact hi))) (tok_of (fun n m _ e => by rw [e]) 75)
/-- A frame of which more room is known is below what it was. -/
theorem room_leq {f : Fr} (hf : f.wf) (id r : Int) (h : right f = true) : leq (room f id r) f = true := by
  have hr := room_right id r h
  unfold room at hr ⊢
  rw [h] at hr ⊢
  simp only [Bool.true_eq_false, ↓reduceIte] at hr ⊢
  split
  · exact leq_refl hf h
  rename_i h0
  split
  · exact leq_refl hf h
  rename_i h1
  split
  · exact leq_refl hf h
  rename_i h2
  rw [if_neg h0, if_neg h1, if_neg h2] at hr
  have h1 : 1 ≤ r := by have : ¬ r < 1 := fun e => h1 (decide_eq_true e); omega
  have h2 : r ≤ 4096 := by have : ¬ 4096 < r := fun e => h2 (decide_eq_true e); omega
  refine leq_of hr h (leR_of fun i hi => ?_) (leS_of fun i hi => ?_) (tok_of (fun n m _ e => ?_) 75)
  · have hl : i < f.R.length := by rw [hf.r]; exact hi
    show V.leq ((f.R.map (roomA id r)).getD i eA.dft) _ = true
    rw [map_getD (by rfl)]
    exact roomA_leq h1 h2 (inA_at hf.ri hl) (okA_R h hl)
  · have hl : i < f.S.length := by rw [hf.s]; exact hi
    show under ((f.S.map (onS (roomA id r))).getD i eS.dft) _ = true
    rw [List.getD_eq_getElem?_getD, List.getElem?_map, List.getElem?_eq_getElem hl, getD_at eS.dft hl]
    have := under_room (id := id) h1 h2 (inS_at hf.si hl) (okA_S h hl)
    rw [getD_at eS.dft hl] at this
    exact this
  · rw [vals_each, map_getD (by rfl), map_getD (by rfl), tie_room, tie_room, e]
theorem each_wf {w : Ab → Ab} (hw : ∀ a, inA a = true → inA (w a) = true) {f : Fr} (hf : f.wf) : (each w f).wf := by
  refine ⟨by show (f.R.map w).length = 11; rw [List.length_map]; exact hf.r, by show (f.S.map (onS w)).length = 64; rw [List.length_map]; exact hf.s, ?_, ?_⟩
  · show (f.R.map w).all inA = true
    rw [List.all_map, List.all_eq_true]
    exact fun a ha => hw a (List.all_eq_true.1 hf.ri a ha)
  · show (f.S.map (onS w)).all (fun s => inA s.a) = true
    rw [List.all_map, List.all_eq_true]
    exact fun s hs => hw s.a (List.all_eq_true.1 hf.si s hs)
theorem room_wf {f : Fr} (hf : f.wf) (id r : Int) : (room f id r).wf := by
  unfold room
  repeat' split
  all_goals first
    | exact hf
    | (refine each_wf (fun a ha => ?_) hf
       unfold roomA
       split <;> exact ha)
theorem null_wf {f : Fr} (hf : f.wf) (id : Int) (is : Bool) : (null f id is).wf := by
  unfold null
  repeat' split
  all_goals first
    | exact hf
    | (refine each_wf (fun a ha => ?_) hf
       unfold nullA
       split
       · split
         · exact number_in (C.const_S _)
         · exact ha
       · exact ha)
end F
end Go.Proofs.YtgfemfgimefmeaaGreat
namespace Go.Proofs.YtgfemfgimefmeaaGreat
open Go.RowKit Go.Sx
set_option linter.unusedSimpArgs false
set_option linter.unusedVariables false
set_option linter.unnecessarySimpa false
set_option maxRecDepth 100000
set_option maxHeartbeats 4000000
attribute [local irreducible] F.set V.leq V.number C.unknown
def k_fnone : List SV → List Blk → Res := fun args _ => match args with
  | [.agg [.int .u8 ak, .u64 av, .u64 am, .u64 alo, .u64 ahi, .int .i64 asl, .int .i64 ash, .int .i64 aof, .int .i64 amp, .int .i64 aid, .int .i64 arm, .bool anu]] => .ok (.bool (F.isNone (⟨ak, (⟨⟨av, am⟩, ⟨alo, ahi, asl, ash⟩⟩ : Sc), aof, amp, aid, arm, anu⟩ : Ab))) []
  | _ => .fail
theorem k_fnone_ok : CtrOk Tryz.prog Gw 102 k_fnone := by
  refine ⟨fun _ _ => by kernel_rfl, fun args M => ?_⟩
  unfold k_fnone
  split
  · rename_i ak av am alo ahi asl ash aof amp aid arm anu
    refine ctr_flat (Γ := ⟨[], eqs, [], [], [], mixs, meqs⟩) (sv := .bool (F.isNone (⟨ak, (⟨⟨av, am⟩, ⟨alo, ahi, asl, ash⟩⟩ : Sc), aof, amp, aid, arm, anu⟩ : Ab))) st_Gw ⟨okNil, eqs_ok, okNilB, okNilI, okNilP, mixs_ok, meqs_ok⟩ Tryz.func102 rfl mixed [] (by kernel_rfl) 10000 (by rfl) ?_
    (conv => whnf)
    (repeat' (first | (refine step_t (by first | rfl | assumption) ?_; (conv => whnf)) | (refine step_f (by first | rfl | assumption) ?_; (conv => whnf)) | (refine step_nt (by assumption) ?_; (conv => whnf)) | (refine step_nf (by assumption) ?_; (conv => whnf)) | (refine step_n (fun hb => ?_) (fun hb => ?_) <;> (first | contradiction | (conv => whnf))) | (refine And.intro (fun hb => ?_) (fun hb => ?_) <;> (first | contradiction | (conv => whnf))) | (refine And.intro (a := (_ : Bool) = true) ?_ ?_; rotate_left 1; (conv => whnf))))
    all_goals (first | rfl | trivial | exact ⟨rfl, trivial⟩ | (simp [eqv, eqv1, F.isNone]; done))
  · trivial
def k_ftie : List SV → List Blk → Res := fun args _ => match args with
  | [.agg [.int .u8 ak, .u64 av, .u64 am, .u64 alo, .u64 ahi, .int .i64 asl, .int .i64 ash, .int .i64 aof, .int .i64 amp, .int .i64 aid, .int .i64 arm, .bool anu]] => .ok (.tup [.int .i64 (F.tie (⟨ak, (⟨⟨av, am⟩, ⟨alo, ahi, asl, ash⟩⟩ : Sc), aof, amp, aid, arm, anu⟩ : Ab)).1, .int .i64 (F.tie (⟨ak, (⟨⟨av, am⟩, ⟨alo, ahi, asl, ash⟩⟩ : Sc), aof, amp, aid, arm, anu⟩ : Ab)).2]) []
  | _ => .fail
theorem k_ftie_ok : CtrOk Tryz.prog Gw 61 k_ftie := by
  refine ⟨fun _ _ => by kernel_rfl, fun args M => ?_⟩
  unfold k_ftie
  split
  · rename_i ak av am alo ahi asl ash aof amp aid arm anu
    refine ctr_flat (Γ := ⟨[], eqs, [], [], [], mixs, meqs⟩) (sv := .tup [.int .i64 (F.tie (⟨ak, (⟨⟨av, am⟩, ⟨alo, ahi, asl, ash⟩⟩ : Sc), aof, amp, aid, arm, anu⟩ : Ab)).1, .int .i64 (F.tie (⟨ak, (⟨⟨av, am⟩, ⟨alo, ahi, asl, ash⟩⟩ : Sc), aof, amp, aid, arm, anu⟩ : Ab)).2]) st_Gw ⟨okNil, eqs_ok, okNilB, okNilI, okNilP, mixs_ok, meqs_ok⟩ Tryz.func61 rfl mixed [(2, 3, [0, 1, 0, 7]), (4, 3, [0, 1, 0, 7])] (by kernel_rfl) 10000 (by rfl) ?_
    (conv => whnf)
    (repeat' (first | (refine step_t (by first | rfl | assumption) ?_; (conv => whnf)) | (refine step_f (by first | rfl | assumption) ?_; (conv => whnf)) | (refine step_nt (by assumption) ?_; (conv => whnf)) | (refine step_nf (by assumption) ?_; (conv => whnf)) | (refine step_n (fun hb => ?_) (fun hb => ?_) <;> (first | contradiction | (conv => whnf))) | (refine And.intro (fun hb => ?_) (fun hb => ?_) <;> (first | contradiction | (conv => whnf))) | (refine And.intro (a := (_ : Bool) = true) ?_ ?_; rotate_left 1; (conv => whnf))))
    all_goals (first | rfl | trivial | (simp only [F.tie, *, ↓reduceIte, Bool.false_eq_true, eqv, eqv1, eqvL1, eqv2, eqvL2]; simp; done) | (simp_all [F.tie, eqv, eqv1, eqvL1]; done))
  · trivial
def k_funder : List SV → List Blk → Res := fun args _ => match args with
  | [.agg [.bool aw, .int .u8 ast, .int .u8 ak, .u64 av, .u64 am, .u64 alo, .u64 ahi, .int .i64 asl, .int .i64 ash, .int .i64 aof, .int .i64 amp, .int .i64 aid, .int .i64 arm, .bool anu], .agg [.bool bw, .int .u8 bst, .int .u8 bk, .u64 bv, .u64 bm, .u64 blo, .u64 bhi, .int .i64 bsl, .int .i64 bsh, .int .i64 bof, .int .i64 bmp, .int .i64 bid, .int .i64 brm, .bool bnu]] => .test (R.inS ⟨alo, ahi, asl, ash⟩ && R.inS ⟨blo, bhi, bsl, bsh⟩) (.ok (.bool (F.under (⟨aw, ast, (⟨ak, (⟨⟨av, am⟩, ⟨alo, ahi, asl, ash⟩⟩ : Sc), aof, amp, aid, arm, anu⟩ : Ab)⟩ : Sl) (⟨bw, bst, (⟨bk, (⟨⟨bv, bm⟩, ⟨blo, bhi, bsl, bsh⟩⟩ : Sc), bof, bmp, bid, brm, bnu⟩ : Ab)⟩ : Sl))) [])
  | _ => .fail
theorem k_funder_ok : CtrOk Tryz.prog Gw 54 k_funder := by
  refine ⟨fun _ _ => by kernel_rfl, fun args M => ?_⟩
  unfold k_funder
  split
  · rename_i aw ast ak av am alo ahi asl ash aof amp aid arm anu bw bst bk bv bm blo bhi bsl bsh bof bmp bid brm bnu
    intro ht
    have hq := S.and_true2 ht
    have hq1 := hq.1
    have hq2 := hq.2
    refine ctr_flat (Γ := ⟨[(18, k_vLeq), (89, k_fset), (90, k_cUnknown), (53, k_vNumber)], eqs, [], [], [], mixs, meqs⟩) (sv := .bool (F.under (⟨aw, ast, (⟨ak, (⟨⟨av, am⟩, ⟨alo, ahi, asl, ash⟩⟩ : Sc), aof, amp, aid, arm, anu⟩ : Ab)⟩ : Sl) (⟨bw, bst, (⟨bk, (⟨⟨bv, bm⟩, ⟨blo, bhi, bsl, bsh⟩⟩ : Sc), bof, bmp, bid, brm, bnu⟩ : Ab)⟩ : Sl))) st_Gw ⟨(okCons k_vLeq_ok (okCons k_fset_ok (okCons k_cUnknown_ok (okCons k_vNumber_ok okNil)))), eqs_ok, okNilB, okNilI, okNilP, mixs_ok, meqs_ok⟩ Tryz.func54 rfl mixed [(2, 4, [0, 1, 0, 4, 15, 31, 63]), (5, 8, [0, 1, 3, 7, 15, 31, 15, 79, 255, 511, 1023])] (by kernel_rfl) 10000 (by rfl) ?_
    (conv => whnf)
    (repeat' (first | (refine step_t (by first | rfl | assumption) ?_; (conv => whnf)) | (refine step_f (by first | rfl | assumption) ?_; (conv => whnf)) | (refine step_nt (by assumption) ?_; (conv => whnf)) | (refine step_nf (by assumption) ?_; (conv => whnf)) | (refine step_n (fun hb => ?_) (fun hb => ?_) <;> (first | contradiction | (conv => whnf))) | (refine And.intro (fun hb => ?_) (fun hb => ?_) <;> (first | contradiction | (conv => whnf))) | (refine And.intro (a := (_ : Bool) = true) ?_ ?_; rotate_left 1; (conv => whnf))))
    all_goals (first | rfl | trivial | assumption | exact C.unknown_S | exact (F.under_3 (s := (⟨aw, ast, (⟨ak, (⟨⟨av, am⟩, ⟨alo, ahi, asl, ash⟩⟩ : Sc), aof, amp, aid, arm, anu⟩ : Ab)⟩ : Sl)) (t := (⟨bw, bst, (⟨bk, (⟨⟨bv, bm⟩, ⟨blo, bhi, bsl, bsh⟩⟩ : Sc), bof, bmp, bid, brm, bnu⟩ : Ab)⟩ : Sl)) (by assumption) (by assumption) (by assumption)).symm | (rw [Bool.and_eq_true]; exact ⟨by assumption, by assumption⟩) | (simp only [F.under, *, ↓reduceIte, Bool.false_eq_true, Bool.true_eq_false, Bool.and_true, Bool.and_false, Bool.false_and, Bool.true_and]; done) | (simp only [F.under, *, ↓reduceIte, Bool.false_eq_true, Bool.true_eq_false, Bool.and_true, Bool.and_false, Bool.false_and, Bool.true_and] <;> rfl))
  · trivial
end Go.Proofs.YtgfemfgimefmeaaGreat
