import Derived.Test.YtaickooakoikaaaDoorX7
import Derived.Test.YtaickooakoikaaaDoorX10
namespace Go.Proofs.YtaickooakoikaaaDoor
open Go.RowKit Go.Sx
set_option linter.unusedSimpArgs false
set_option linter.unusedVariables false
set_option linter.unnecessarySimpa false
set_option maxRecDepth 100000
set_option maxHeartbeats 4000000
/-! The plain law of TnumLeast: a count over all tnums of four bits, in numbers. -/
/-- The right tnums of four bits, by number, and their words. -/
def rights : List (Nat × List Nat) := [(0, [0]), (1, [1]), (2, [2]), (3, [3]), (4, [4]), (5, [5]), (6, [6]), (7, [7]), (8, [8]), (9, [9]), (10, [10]), (11, [11]), (12, [12]), (13, [13]), (14, [14]), (15, [15]), (16, [0, 1]), (18, [2, 3]), (20, [4, 5]), (22, [6, 7]), (24, [8, 9]), (26, [10, 11]), (28, [12, 13]), (30, [14, 15]), (32, [0, 2]), (33, [1, 3]), (36, [4, 6]), (37, [5, 7]), (40, [8, 10]), (41, [9, 11]), (44, [12, 14]), (45, [13, 15]), (48, [0, 1, 2, 3]), (52, [4, 5, 6, 7]), (56, [8, 9, 10, 11]), (60, [12, 13, 14, 15]), (64, [0, 4]), (65, [1, 5]), (66, [2, 6]), (67, [3, 7]), (72, [8, 12]), (73, [9, 13]), (74, [10, 14]), (75, [11, 15]), (80, [0, 1, 4, 5]), (82, [2, 3, 6, 7]), (88, [8, 9, 12, 13]), (90, [10, 11, 14, 15]), (96, [0, 2, 4, 6]), (97, [1, 3, 5, 7]), (104, [8, 10, 12, 14]), (105, [9, 11, 13, 15]), (112, [0, 1, 2, 3, 4, 5, 6, 7]), (120, [8, 9, 10, 11, 12, 13, 14, 15]), (128, [0, 8]), (129, [1, 9]), (130, [2, 10]), (131, [3, 11]), (132, [4, 12]), (133, [5, 13]), (134, [6, 14]), (135, [7, 15]), (144, [0, 1, 8, 9]), (146, [2, 3, 10, 11]), (148, [4, 5, 12, 13]), (150, [6, 7, 14, 15]), (160, [0, 2, 8, 10]), (161, [1, 3, 9, 11]), (164, [4, 6, 12, 14]), (165, [5, 7, 13, 15]), (176, [0, 1, 2, 3, 8, 9, 10, 11]), (180, [4, 5, 6, 7, 12, 13, 14, 15]), (192, [0, 4, 8, 12]), (193, [1, 5, 9, 13]), (194, [2, 6, 10, 14]), (195, [3, 7, 11, 15]), (208, [0, 1, 4, 5, 8, 9, 12, 13]), (210, [2, 3, 6, 7, 10, 11, 14, 15]), (224, [0, 2, 4, 6, 8, 10, 12, 14]), (225, [1, 3, 5, 7, 9, 11, 13, 15]), (240, [0, 1, 2, 3, 4, 5, 6, 7, 8, 9, 10, 11, 12, 13, 14, 15])]
def addN (x y : Nat) : Nat := (x + y) % 18446744073709551616
def subN (x y : Nat) : Nat := (18446744073709551616 - y + x) % 18446744073709551616
def orF (f : Nat → Nat → Nat) (l k : List Nat) : Nat := l.foldl (fun a x => k.foldl (fun a y => Nat.lor a (f x y)) a) 0
def andF (f : Nat → Nat → Nat) (l k : List Nat) : Nat := l.foldl (fun a x => k.foldl (fun a y => Nat.land a (f x y)) a) 18446744073709551615
def chk (f : Nat → Nat → Nat) (op : Int) (p q : Nat × List Nat) : Bool :=
  !p.2.isEmpty && !q.2.isEmpty && (p.2.all fun x => decide (x < 16)) && (q.2.all fun x => decide (x < 16)) && (T.doesI op (tA p.1) (tA q.1)).2 && tnEq (T.doesI op (tA p.1) (tA q.1)).1 (T.of (BitVec.ofNat 64 (orF f p.2 q.2)) (~~~ BitVec.ofNat 64 (andF f p.2 q.2))).1
def chks (f : Nat → Nat → Nat) (op : Int) (R : List (Nat × List Nat)) : Bool := R.all fun p => rights.all fun q => chk f op p q
theorem chk_add : chks addN 0 rights = true := by kernel_rfl
theorem chk_sub : chks subN 16 rights = true := by kernel_rfl
theorem chk_and : chks Nat.land 80 rights = true := by kernel_rfl
theorem chk_or : chks Nat.lor 64 rights = true := by kernel_rfl
theorem chk_xor : chks Nat.xor 160 rights = true := by kernel_rfl
theorem rights_all : ((List.range 256).all fun n => !T.right (tA n) || rights.any fun p => Nat.beq p.1 n && decide (allL (tA n) 16 = p.2.map (BitVec.ofNat 64))) = true := by kernel_rfl
theorem rights_of {n : Nat} (hn : n < 256) (hr : T.right (tA n) = true) : ∃ p ∈ rights, p.1 = n ∧ allL (tA n) 16 = p.2.map (BitVec.ofNat 64) := by
  have h := List.all_eq_true.1 rights_all n (by simpa using hn)
  rw [hr, Bool.not_true, Bool.false_or, List.any_eq_true] at h
  obtain ⟨p, hp, h⟩ := h
  simp only [Bool.and_eq_true, decide_eq_true_eq] at h
  exact ⟨p, hp, Nat.eq_of_beq_eq_true h.1, h.2⟩
/-- f counts as the operation does. -/
def Fits (f : Nat → Nat → Nat) (op : Int) : Prop := ∀ x y, x < 16 → y < 16 → opW op (BitVec.ofNat 64 x) (BitVec.ofNat 64 y) = BitVec.ofNat 64 (f x y)
theorem fits_of {f : Nat → Nat → Nat} {op : Int} (h : ((List.range 16).all fun x => (List.range 16).all fun y => decide (opW op (BitVec.ofNat 64 x) (BitVec.ofNat 64 y) = BitVec.ofNat 64 (f x y))) = true) : Fits f op := by
  intro x y hx hy
  have h1 := List.all_eq_true.1 h x (by simpa using hx)
  have h2 := List.all_eq_true.1 h1 y (by simpa using hy)
  exact of_decide_eq_true h2
theorem fits_add : Fits addN 0 := fits_of (by kernel_rfl)
theorem fits_sub : Fits subN 16 := fits_of (by kernel_rfl)
theorem fits_and : Fits Nat.land 80 := fits_of (by kernel_rfl)
theorem fits_or : Fits Nat.lor 64 := fits_of (by kernel_rfl)
theorem fits_xor : Fits Nat.xor 160 := fits_of (by kernel_rfl)
theorem or_in {f : Nat → Nat → Nat} {op : Int} (hf : Fits f op) {x : Nat} (hx : x < 16) : ∀ (k : List Nat) (a : Nat), (∀ y ∈ k, y < 16) →
    (k.map fun y => (⟨opW op (BitVec.ofNat 64 x) (BitVec.ofNat 64 y), 0⟩ : Tn)).foldl (fun a t => a ||| (t.v ||| t.m)) (BitVec.ofNat 64 a) = BitVec.ofNat 64 (k.foldl (fun a y => Nat.lor a (f x y)) a)
  | [], a, _ => rfl
  | y :: k, a, h => by
    simp only [List.map_cons, List.foldl_cons]
    rw [hf x y hx (h y (by simp)), show ∀ z : BitVec 64, z ||| 0 = z from fun z => by simp, ← BitVec.ofNat_or]
    exact or_in hf hx k _ (fun z hz => h z (by simp [hz]))
theorem and_in {f : Nat → Nat → Nat} {op : Int} (hf : Fits f op) {x : Nat} (hx : x < 16) : ∀ (k : List Nat) (a : Nat), (∀ y ∈ k, y < 16) →
    (k.map fun y => (⟨opW op (BitVec.ofNat 64 x) (BitVec.ofNat 64 y), 0⟩ : Tn)).foldl (fun a t => a ||| ~~~t.v) (~~~ BitVec.ofNat 64 a) = ~~~ BitVec.ofNat 64 (k.foldl (fun a y => Nat.land a (f x y)) a)
  | [], a, _ => rfl
  | y :: k, a, h => by
    simp only [List.map_cons, List.foldl_cons]
    rw [hf x y hx (h y (by simp)), ← BitVec.not_and, ← BitVec.ofNat_and]
    exact and_in hf hx k _ (fun z hz => h z (by simp [hz]))
theorem or_out {f : Nat → Nat → Nat} {op : Int} (hf : Fits f op) {k : List Nat} (hk : ∀ y ∈ k, y < 16) : ∀ (l : List Nat) (a : Nat), (∀ x ∈ l, x < 16) →
    (l.flatMap fun x => k.map fun y => (⟨opW op (BitVec.ofNat 64 x) (BitVec.ofNat 64 y), 0⟩ : Tn)).foldl (fun a t => a ||| (t.v ||| t.m)) (BitVec.ofNat 64 a) = BitVec.ofNat 64 (l.foldl (fun a x => k.foldl (fun a y => Nat.lor a (f x y)) a) a)
  | [], a, _ => rfl
  | x :: l, a, h => by
    simp only [List.flatMap_cons, List.foldl_append, List.foldl_cons]
    rw [or_in hf (h x (by simp)) k a hk]
    exact or_out hf hk l _ (fun z hz => h z (by simp [hz]))
theorem and_out {f : Nat → Nat → Nat} {op : Int} (hf : Fits f op) {k : List Nat} (hk : ∀ y ∈ k, y < 16) : ∀ (l : List Nat) (a : Nat), (∀ x ∈ l, x < 16) →
    (l.flatMap fun x => k.map fun y => (⟨opW op (BitVec.ofNat 64 x) (BitVec.ofNat 64 y), 0⟩ : Tn)).foldl (fun a t => a ||| ~~~t.v) (~~~ BitVec.ofNat 64 a) = ~~~ BitVec.ofNat 64 (l.foldl (fun a x => k.foldl (fun a y => Nat.land a (f x y)) a) a)
  | [], a, _ => rfl
  | x :: l, a, h => by
    simp only [List.flatMap_cons, List.foldl_append, List.foldl_cons]
    rw [and_in hf (h x (by simp)) k a hk]
    exact and_out hf hk l _ (fun z hz => h z (by simp [hz]))
theorem law_of {f : Nat → Nat → Nat} {op : Int} (hc : chks f op rights = true) (hf : Fits f op) {n m : Nat} (hn : n < 256) (hm : m < 256) (h1 : T.right (tA n) = true) (h2 : T.right (tA m) = true) :
    (T.doesI op (tA n) (tA m)).2 = true ∧ (T.doesI op (tA n) (tA m)).1 = T.join (resI op (allL (tA n) 16) (allL (tA m) 16) (allL (tA n) 16).length) := by
  obtain ⟨⟨n', l⟩, hp, rfl, hl⟩ := rights_of hn h1
  obtain ⟨⟨m', k⟩, hq, rfl, hk⟩ := rights_of hm h2
  have h := List.all_eq_true.1 (List.all_eq_true.1 hc _ hp) _ hq
  simp only [chk, Bool.and_eq_true, List.all_eq_true, decide_eq_true_eq, Bool.not_eq_true'] at h
  obtain ⟨⟨⟨⟨⟨e1, e2⟩, b1⟩, b2⟩, d⟩, t⟩ := h
  refine ⟨d, ?_⟩
  have hres : resI op (allL (tA n') 16) (allL (tA m') 16) (allL (tA n') 16).length = l.flatMap fun x => k.map fun y => (⟨opW op (BitVec.ofNat 64 x) (BitVec.ofNat 64 y), 0⟩ : Tn) := by
    rw [hl, hk]; unfold resI
    rw [List.take_length, List.flatMap_map]
    simp [Function.comp_def]
  have hfil : ∀ L : List Tn, (∀ t ∈ L, T.right t = true) → L.filter T.right = L := fun L h => List.filter_eq_self.2 h
  have hright : ∀ t ∈ (l.flatMap fun x => k.map fun y => (⟨opW op (BitVec.ofNat 64 x) (BitVec.ofNat 64 y), 0⟩ : Tn)), T.right t = true := by
    intro t ht
    simp only [List.mem_flatMap, List.mem_map] at ht
    obtain ⟨x, _, y, _, rfl⟩ := ht
    simp [T.right]
  rw [hres, ← rjoin_eq]
  unfold T.rjoin T.jx T.jy
  rw [hfil _ hright]
  have hne : (l.flatMap fun x => k.map fun y => (⟨opW op (BitVec.ofNat 64 x) (BitVec.ofNat 64 y), 0⟩ : Tn)).isEmpty = false := by
    cases l with
    | nil => cases e1
    | cons x l => cases k with
      | nil => cases e2
      | cons y k => rfl
  rw [hne, if_neg (by simp)]
  refine (tnEq_of t).trans ?_
  unfold orF andF
  rw [← or_out hf b2 l 0 b1, ← and_out hf b2 l _ b1, show (~~~ BitVec.ofNat 64 18446744073709551615) = 0 by decide]
  rfl
theorem law : ∀ n m op, n < 256 → m < 256 → op ∈ opsL → T.right (tA n) = true → T.right (tA m) = true → (T.doesI op (tA n) (tA m)).2 = true ∧ (T.doesI op (tA n) (tA m)).1 = T.join (resI op (allL (tA n) 16) (allL (tA m) 16) (allL (tA n) 16).length) := by
  intro n m op hn hm hop h1 h2
  simp only [opsL, List.mem_cons, List.not_mem_nil, or_false] at hop
  rcases hop with rfl | rfl | rfl | rfl | rfl
  · exact law_of chk_add fits_add hn hm h1 h2
  · exact law_of chk_sub fits_sub hn hm h1 h2
  · exact law_of chk_and fits_and hn hm h1 h2
  · exact law_of chk_or fits_or hn hm h1 h2
  · exact law_of chk_xor fits_xor hn hm h1 h2
theorem w_TnumLeast (w : World) (hT : Tab w) : Calls Tryd.prog 4 #[] w (Ret w (.bool true)) := by
  refine (calls_run (Γ := ⟨[(9, k_awake), (12, k_Right), (14, k_Const), (15, k_Do), (10, k_Join), (13, k_all)], eqs, [], []⟩) st_Gw ⟨(okCons k_awake_ok (okCons k_Right_ok (okCons k_Const_ok (okCons k_Do_ok (okCons k_Join_ok (okCons k_all_ok okNil)))))), eqs_ok, okNilB, okNilI⟩ Tryd.func4 rfl mixed [(14, 3, [0, 1, 0, 7, 15, 31]), (25, 8, [0, 0, 3, 7, 0, 0, 48, 112, 255, 511]), (28, 8, [0, 0, 3, 7, 0, 0, 48, 112, 255, 511]), (30, 8, [0, 0, 3, 7, 0, 0, 48, 112, 255, 511]), (32, 8, [0, 0, 3, 7, 0, 0, 48, 112, 255, 511]), (34, 8, [0, 0, 3, 7, 0, 0, 48, 112, 255, 511]), (36, 11, [0, 0, 3, 7, 0, 0, 63, 127, 255, 255, 0, 1535, 4095]), (37, 6, [0, 1, 3, 7, 7, 23, 63, 127])] (by kernel_rfl) 10000 (M0 := []) (ρ0 := fun _ => none) (args := []) hT (by rfl) (MRel.nil _ (Nat.le_refl _)) (least_run law)).mono ?_
  rintro e w' ⟨ρ', x, M', rfl, hx, hM', hbel⟩
  exact ⟨congrArg Ending.returned (eqv_den hx ρ' (fun _ => none)), grow_mk hbel⟩
end Go.Proofs.YtaickooakoikaaaDoor
