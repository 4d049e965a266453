import Derived.Test.YtmdkihggeodjfaaXP
import Derived.Test.YtmdkihggeodjfaaXI
namespace Go.Proofs.Ytmdkihggeodjfaa
open Go.RowKit Go.Sx
set_option linter.unusedSimpArgs false
set_option linter.unusedVariables false
set_option linter.unnecessarySimpa false
set_option maxRecDepth 100000
set_option maxHeartbeats 4000000
end Go.Proofs.Ytmdkihggeodjfaa
set_option linter.unusedSimpArgs false
set_option linter.unusedVariables false
set_option linter.unnecessarySimpa false
namespace Go.Proofs.Ytmdkihggeodjfaa
end Go.Proofs.Ytmdkihggeodjfaa
namespace Go.Sx.Tr
open Go.RowKit Go.Proofs.Ytmdkihggeodjfaa
theorem sz_mass : ∀ t : Tr, t.sz ≤ t.mass := by
  refine Tr.ind fun t ih => ?_
  rw [sz_eq, mass_eq]
  have : szL t.kids ≤ massL t.kids := by
    have : ∀ l : List Tr, (∀ i, i < l.length → (l.getD i .no).sz ≤ (l.getD i .no).mass) → szL l ≤ massL l := by
      intro l
      induction l with
      | nil => intro _; exact Nat.le_refl _
      | cons a l ih =>
        intro h
        have h0 := h 0 (by simp)
        have h1 := ih fun i hi => by simpa using h (i + 1) (by simpa using hi)
        simp only [List.getD_cons_zero] at h0
        simp only [szL, massL]; omega
    exact this _ ih
  omega
theorem head_le (k : Int) (v : BitVec 64) : (head k v).length ≤ 9 := by
  have := many_le v
  unfold head; split
  · simp
  · rw [List.length_cons, low_length]; omega
theorem putL_mass_of : ∀ l : List Tr, (∀ i, i < l.length → (l.getD i .no).put.length ≤ 10 * (l.getD i .no).mass) → (putL l).length ≤ 10 * massL l
  | [], _ => Nat.le_refl _
  | a :: l, h => by
    have h0 := h 0 (by simp)
    have h1 := putL_mass_of l fun i hi => by simpa using h (i + 1) (by simpa using hi)
    simp only [List.getD_cons_zero] at h0
    simp only [putL, massL, List.length_append]; omega
theorem put_mass : ∀ t : Tr, t.put.length ≤ 10 * t.mass := by
  refine Tr.ind fun t ih => ?_
  have h := putL_mass_of t.kids ih
  rw [put_eq, mass_eq]
  split
  · have := head_le 1 (zig t.n); omega
  · split
    · have := head_le 2 (BitVec.ofInt 64 t.bs.length); rw [List.length_append]; omega
    · have := head_le 3 (BitVec.ofInt 64 t.kids.length); rw [List.length_append]; omega
theorem putL_mass (l : List Tr) : (putL l).length ≤ 10 * massL l := putL_mass_of l fun _ _ => put_mass _
theorem massL_app : ∀ a b : List Tr, massL (a ++ b) = massL a + massL b
  | [], b => by simp [massL]
  | t :: a, b => by simp [massL, massL_app a b]; omega
theorem same_iff : ∀ (t u : Tr), t.same u = true ↔ t = u := by
  refine Tr.ind fun t ih => ?_
  intro u
  have key : ∀ l m : List Tr, l.length = m.length → (∀ i, i < l.length → ∀ u, (l.getD i .no).same u = true ↔ l.getD i .no = u) → (sameL l m = true ↔ l = m) := by
    intro l
    induction l with
    | nil => intro m hm _; rw [show m = [] from List.eq_nil_of_length_eq_zero hm.symm]; simp [sameL]
    | cons a l ih2 =>
      intro m hm h
      match m, hm with
      | b :: m, hm =>
        have h0 := h 0 (by simp) b
        have h1 := ih2 m (by simpa using hm) fun i hi u => by simpa using h (i + 1) (by simpa using hi) u
        simp only [List.getD_cons_zero] at h0
        rw [sameL, Bool.and_eq_true, h0, h1, List.cons.injEq]
  rw [same_eq]
  simp only [Bool.and_eq_true, beq_iff_eq]
  constructor
  · rintro ⟨h1, h2, h3, h4, h5⟩
    rw [t.eta, u.eta, h1, h2, h4, (key _ _ h3 ih).1 h5]
  · rintro rfl
    exact ⟨rfl, rfl, rfl, rfl, (key _ _ rfl ih).2 rfl⟩
/-- A list of trees. -/
@[reducible] def row (L : List Tr) : Tr := mk 3 0 [] L
theorem row_right (L : List Tr) : (row L).right = rightL L := by rw [right_eq]; simp [k, n, bs, kids]
theorem row_within (L : List Tr) : (row L).within 16 = withinL L 15 := by
  rw [within_eq]; show (false || (true && withinL L (IntKind.i64.wrap 15))) = _
  simp; rfl
theorem row_put (L : List Tr) : (row L).put = head 3 (BitVec.ofInt 64 L.length) ++ putL L := by rw [put_eq]; rfl
theorem puts_ok {t : Tr} (h : (t.puts.2 == 0) = true) : (t.right && t.within 16) = true ∧ t.puts = (t.put, 0) := by
  unfold puts at h ⊢
  by_cases h1 : t.right = true
  · by_cases h2 : t.within 16 = true
    · simp [h1, h2]
    · simp [h1, h2] at h
  · simp [h1] at h
theorem puts_len (t : Tr) : t.puts.1.length ≤ t.put.length := by
  unfold puts
  split
  · split
    · exact Nat.le_refl _
    · exact Nat.zero_le _
  · exact Nat.zero_le _
theorem all_take {p : Tr → Bool} {l : List Tr} {j : Nat} (h : j < l.length) : (l.take (j + 1)).all p = ((l.take j).all p && p (l.getD j .no)) := by
  rw [List.take_succ_eq_append_getElem h, List.all_append]
  simp [List.getD_eq_getElem?_getD, h]
theorem map_dec {K : List Tr} {n : Nat} {g : Nat → List FV} (hn : n = K.length) (h : ∀ i, i < K.length → IsT (g i) (K.getD i .no)) : (List.range n).map (fun i => decT (g i)) = K := by
  subst hn
  apply List.ext_getElem (by simp)
  intro i h1 h2
  have := decT_of (h i h2)
  simp only [List.getElem_map, List.getElem_range, this, List.getD_eq_getElem?_getD, List.getElem?_eq_getElem h2, Option.getD_some]
theorem all_is {K : List Tr} {n : Nat} {g : Nat → List FV} (hn : n = K.length) (h : ∀ i, i < K.length → IsT (g i) (K.getD i .no)) : ((List.range n).all fun i => isT (g i)) = true := by
  subst hn
  simp only [List.all_eq_true, List.mem_range]
  exact fun i hi => isT_of (h i hi)
theorem map_gK (L : List Tr) : (List.range L.length).map (fun i => decT (shiftG 0 (gK L) i)) = L := map_dec rfl fun i _ => FVEqL.refl _
theorem all_gK (L : List Tr) : ((List.range L.length).all fun i => isT (shiftG 0 (gK L) i)) = true := all_is rfl fun i _ => FVEqL.refl _
theorem row_sz (L : List Tr) : (row L).sz ≤ 1 + massL L := by have := sz_mass (row L); rw [mass_eq] at this; exact Nat.le_trans this (by show 1 + 0 + massL L ≤ _; omega)
theorem row_len (L : List Tr) : (row L).put.length ≤ 9 + 10 * massL L := by
  have := putL_mass L
  have := head_le 3 (BitVec.ofInt 64 L.length)
  rw [row_put, List.length_append]; omega
theorem row_puts {L : List Tr} (h : (L.all fun t => t.right && t.within 16) = true) : (row L).puts = if withinL L 15 then ((row L).put, 0) else ([], 3) := by
  have hr : rightL L = true := by
    rw [rightL_all]; rw [List.all_eq_true] at h ⊢
    intro t ht; have := h t ht; simp only [Bool.and_eq_true] at this; exact this.1
  unfold puts
  rw [row_right, hr, if_pos rfl, row_within]
theorem gApp_is {a b : List Tr} {n : Nat} {g h : Nat → List FV} (hn : n = a.length) (hg : ∀ i, i < a.length → IsT (g i) (a.getD i .no)) (hh : ∀ i, i < b.length → IsT (h i) (b.getD i .no)) : ∀ i, i < (a ++ b).length → IsT (gApp n g h i) ((a ++ b).getD i .no) := by
  intro i hi
  subst hn
  rw [List.length_append] at hi
  unfold gApp
  by_cases hlt : i < a.length
  · rw [decide_eq_true hlt]
    have : (a ++ b).getD i .no = a.getD i .no := by simp [List.getD_eq_getElem?_getD, List.getElem?_append_left hlt]
    rw [this]; exact hg i hlt
  · rw [decide_eq_false hlt]
    have : (a ++ b).getD i .no = b.getD (i - a.length) .no := by simp [List.getD_eq_getElem?_getD, List.getElem?_append_right (Nat.le_of_not_lt hlt)]
    rw [this]; exact hh _ (by omega)
theorem part_is (L : List Tr) (c : Nat) {g : Nat → List FV} (hg : ∀ i, g i = gK L (c + i)) : ∀ i, i < (L.drop c).length → IsT (g i) ((L.drop c).getD i .no) := by
  intro i hi
  have : (L.drop c).getD i .no = L.getD (c + i) .no := by simp [List.getD_eq_getElem?_getD]
  rw [this, hg i]; exact FVEqL.refl _
theorem head_is (L : List Tr) (c : Nat) (hc : c ≤ L.length) {g : Nat → List FV} (hg : ∀ i, g i = gK L i) : ∀ i, i < (L.take c).length → IsT (g i) ((L.take c).getD i .no) := by
  intro i hi
  rw [List.length_take] at hi
  have : (L.take c).getD i .no = L.getD i .no := by simp [List.getD_eq_getElem?_getD, List.getElem?_take, show i < c by omega]
  rw [this, hg i]; exact FVEqL.refl _
theorem getD_rep (n i : Nat) (t : Tr) (h : i < n) : (List.replicate n t).getD i .no = t := by simp [List.getD_eq_getElem?_getD, h]
theorem map_N {t : Tr} {c : List FV} (h : IsT c t) (n : Nat) : (List.range n).map (fun i => decT (shiftG 0 (fun _ => c) i)) = List.replicate n t :=
  map_dec (by simp) fun i hi => by rw [getD_rep _ _ _ (by simpa using hi)]; exact h
theorem all_N {t : Tr} {c : List FV} (h : IsT c t) (n : Nat) : ((List.range n).all fun i => isT (shiftG 0 (fun _ => c) i)) = true :=
  all_is (K := List.replicate n t) (by simp) fun i hi => by rw [getD_rep _ _ _ (by simpa using hi)]; exact h
theorem putL_rep (t : Tr) (b : List Int) (h : t.put = b) : ∀ n, putL (List.replicate n t) = (List.replicate n b).flatten
  | 0 => rfl
  | n + 1 => by rw [List.replicate_succ, putL, putL_rep t b h n, h, List.replicate_succ, List.flatten_cons]
theorem nought_puts (n : Nat) : (mk 3 0 [] (List.replicate n (tA 0))).puts = (head 3 (BitVec.ofInt 64 n) ++ List.replicate n 0, 0) := by
  have hr : ((List.replicate n (tA 0)).all fun t => t.right && t.within 16) = true := by
    rw [List.all_eq_true]; intro t ht; rw [List.eq_of_mem_replicate ht]; rfl
  have hw : withinL (List.replicate n (tA 0)) 15 = true := by
    rw [withinL_all, List.all_eq_true]; intro t ht; rw [List.eq_of_mem_replicate ht]; rfl
  have := row_puts hr
  rw [hw, if_pos rfl, row_put, List.length_replicate, putL_rep (tA 0) [0] rfl] at this
  rw [this]
  congr 2
  induction n with
  | zero => rfl
  | succ n ih => rw [List.replicate_succ, List.replicate_succ, List.flatten_cons]; simp
theorem massL_rep (n : Nat) : massL (List.replicate n (tA 0)) = n := by
  induction n with
  | zero => rfl
  | succ n ih => rw [List.replicate_succ, massL, ih]; show 1 + 0 + 0 + n = n + 1; omega
theorem bs_row (L : List Tr) : (row L).bs = [] := rfl
theorem kids_row (L : List Tr) : (row L).kids = L := rfl
end Go.Sx.Tr
namespace Go.Proofs.Ytmdkihggeodjfaa
end Go.Proofs.Ytmdkihggeodjfaa
namespace Go.Sx.Tr
open Go.RowKit Go.Proofs.Ytmdkihggeodjfaa
set_option linter.unusedSimpArgs false
set_option linter.unusedVariables false
theorem weight_eq' (t : Tr) (lim d : Int) : t.weight lim d = if d == 0 && decide (0 < (t.kids.length : Int)) then IntKind.i64.wrap (lim + 1) else weightL t.kids lim d (IntKind.i64.wrap (1 + t.bs.length)) := by cases t; rw [weight]; rfl
/-- The most that a weight may be. -/
def cap (d : Nat) : Int := 140737488355330 + 1000001 * ((d : Int) + 1)
def WOk (t : Tr) : Prop := ∀ (lim : Int) (d : Nat), 0 ≤ lim → lim ≤ 1000000 → d ≤ 100 → 1 ≤ t.weight lim d ∧ t.weight lim d ≤ cap d ∧ (t.weight lim d ≤ lim → t.weight lim d = t.mass)
theorem wrap_id {n : Int} (h0 : -9223372036854775808 ≤ n) (h1 : n < 9223372036854775808) : IntKind.i64.wrap n = n := IntWalk.i64_in _ (by omega)
theorem weightL_ok (lim : Int) (d : Nat) (h0 : 0 ≤ lim) (h1 : lim ≤ 1000000) (hd : d + 1 ≤ 100) : ∀ (l : List Tr), (∀ t ∈ l, WOk t) → ∀ n : Int, 1 ≤ n → n ≤ cap (d + 1) →
    n ≤ weightL l lim ((d + 1 : Nat) : Int) n ∧ weightL l lim ((d + 1 : Nat) : Int) n ≤ cap (d + 1) ∧ (weightL l lim ((d + 1 : Nat) : Int) n ≤ lim → weightL l lim ((d + 1 : Nat) : Int) n = n + massL l)
  | [], _, n, n1, n2 => by rw [weightL]; exact ⟨Int.le_refl _, n2, fun _ => by simp [massL]⟩
  | t :: l, h, n, n1, n2 => by
    rw [weightL]
    by_cases hn : n ≤ lim
    · rw [if_pos (decide_eq_true hn)]
      have e1 : IntKind.i64.wrap (lim - n) = lim - n := wrap_id (by omega) (by omega)
      have e2 : IntKind.i64.wrap (((d + 1 : Nat) : Int) - 1) = (d : Int) := by rw [wrap_id (by omega) (by omega)]; omega
      rw [e1, e2]
      obtain ⟨a, b, c⟩ := h t (List.mem_cons_self ..) (lim - n) d (by omega) (by omega) (by omega)
      simp only [cap] at b n2
      have e3 : IntKind.i64.wrap (n + t.weight (lim - n) d) = n + t.weight (lim - n) d := wrap_id (by omega) (by omega)
      rw [e3]
      obtain ⟨p, q, r⟩ := weightL_ok lim d h0 h1 hd l (fun t ht => h t (List.mem_cons_of_mem _ ht)) (n + t.weight (lim - n) d) (by omega) (by simp only [cap]; omega)
      refine ⟨by omega, q, fun hle => ?_⟩
      rw [r hle, c (by omega), massL]
      omega
    · rw [if_neg (fun h => hn (of_decide_eq_true h))]
      exact ⟨Int.le_refl _, n2, fun h => absurd h hn⟩
theorem weight_ok : ∀ t : Tr, t.wide = true → WOk t := by
  refine Tr.ind fun t ih => ?_
  intro hw lim d h0 h1 hd
  rw [weight_eq']
  have hm := mass_eq t
  rw [wide_eq] at hw
  simp only [Bool.and_eq_true, decide_eq_true_eq] at hw
  have e0 : IntKind.i64.wrap (1 + (t.bs.length : Int)) = 1 + (t.bs.length : Int) := wrap_id (by omega) (by omega)
  have e1 : IntKind.i64.wrap (lim + 1) = lim + 1 := wrap_id (by omega) (by omega)
  rw [e0, e1]
  cases d with
  | zero =>
    split
    · exact ⟨by omega, by simp only [cap]; omega, fun h => by omega⟩
    · rename_i hk
      have hk0 : t.kids = [] := by
        apply List.eq_nil_of_length_eq_zero
        rw [Bool.and_eq_true] at hk
        by_cases h : 0 < (t.kids.length : Int)
        · exact absurd ⟨rfl, decide_eq_true h⟩ hk
        · omega
      rw [hk0] at hm ⊢
      rw [weightL]
      refine ⟨by omega, by simp only [cap]; omega, fun _ => ?_⟩
      rw [hm]; simp [massL]
  | succ d =>
    rw [if_neg (by
      rw [Bool.and_eq_true]
      rintro ⟨h, _⟩
      have : ((d + 1 : Nat) : Int) = 0 := by simpa using h
      omega)]
    obtain ⟨p, q, r⟩ := weightL_ok lim d h0 h1 hd t.kids (fun u hu => by
      obtain ⟨i, hi, e⟩ := List.getElem_of_mem hu
      have := ih i hi (wideL_get _ _ hi hw.2.2)
      rw [List.getD_eq_getElem?_getD, List.getElem?_eq_getElem hi, Option.getD_some, e] at this
      exact this) (1 + (t.bs.length : Int)) (by omega) (by simp only [cap]; omega)
    refine ⟨by omega, q, fun h => ?_⟩
    rw [r h, hm]; omega
/-- The weights of some, together. -/
def wsum : List Tr → Int
  | [] => 0
  | t :: l => t.weight 4000 15 + wsum l
theorem wsum_app : ∀ a b : List Tr, wsum (a ++ b) = wsum a + wsum b
  | [], b => by simp [wsum]
  | t :: a, b => by simp [wsum, wsum_app a b]; omega
theorem wsum_take {l : List Tr} {j : Nat} (h : j < l.length) : wsum (l.take (j + 1)) = wsum (l.take j) + (l.getD j .no).weight 4000 15 := by
  rw [List.take_succ_eq_append_getElem h, wsum_app]
  simp [wsum, List.getD_eq_getElem?_getD, h]
theorem wsum_mass : ∀ l : List Tr, wideL l = true → 0 ≤ wsum l ∧ (wsum l ≤ 4000 → (massL l : Int) = wsum l)
  | [], _ => ⟨Int.le_refl _, fun _ => rfl⟩
  | t :: l, h => by
    rw [wideL, Bool.and_eq_true] at h
    obtain ⟨a, b, c⟩ := weight_ok t h.1 4000 15 (by omega) (by omega) (by omega)
    obtain ⟨p, q⟩ := wsum_mass l h.2
    rw [wsum, massL]
    have e : t.weight 4000 ((15 : Nat) : Int) = t.weight 4000 15 := rfl
    rw [e] at a b c
    refine ⟨by omega, fun hle => ?_⟩
    have := c (by omega)
    have := q (by omega)
    omega
theorem weight_one {l : List Tr} (h : wideL l = true) {j : Nat} (hj : j < l.length) : 1 ≤ (l.getD j .no).weight 4000 15 ∧ (l.getD j .no).weight 4000 15 ≤ 150000000000000 := by
  obtain ⟨a, b, c⟩ := weight_ok _ (wideL_get l j hj h) 4000 15 (by omega) (by omega) (by omega)
  have e : (l.getD j .no).weight 4000 ((15 : Nat) : Int) = (l.getD j .no).weight 4000 15 := rfl
  rw [e] at a b
  simp only [cap] at b
  exact ⟨a, by omega⟩
end Go.Sx.Tr
namespace Go.Proofs.Ytmdkihggeodjfaa
open Go.RowKit Go.Sx
end Go.Proofs.Ytmdkihggeodjfaa
namespace Go.Sx.Tr
open Go.RowKit Go.Proofs.Ytmdkihggeodjfaa
set_option linter.unusedSimpArgs false
set_option linter.unusedVariables false
theorem put_inj {A B : List Tr} (ra : rightL A = true) (rb : rightL B = true) (fa : fitL A = true) (fb : fitL B = true) (ma : massL A ≤ 1048576) (mb : massL B ≤ 1048576) (h : (row A).put = (row B).put) : A = B := by
  have la := row_len A
  have lb := row_len B
  have e1 : (row A).fit = true := by rw [fit_eq]; show (_ && fitL A) = true; rw [fa]; rfl
  have e2 : (row B).fit = true := by rw [fit_eq]; show (_ && fitL B) = true; rw [fb]; rfl
  have := (told (row A) (row B) [] [] (by rw [row_right, ra]) (by rw [row_right, rb]) e1 e2 (by omega) (by omega) (by rw [h])).1
  injection this
theorem rot_get (L : List Tr) {c i : Nat} (hc : c ≤ L.length) (hi : i < L.length) : (L.drop c ++ L.take c).getD i .no = L.getD ((i + c) % L.length) .no := by
  by_cases h : i < L.length - c
  · rw [Nat.mod_eq_of_lt (by omega)]
    simp only [List.getD_eq_getElem?_getD]
    rw [List.getElem?_append_left (by rw [List.length_drop]; exact h), List.getElem?_drop, Nat.add_comm]
  · have e : (i + c) % L.length = i + c - L.length := by
      rw [Nat.mod_eq_sub_mod (by omega), Nat.mod_eq_of_lt (by omega)]
    rw [e]
    simp only [List.getD_eq_getElem?_getD]
    rw [List.getElem?_append_right (by rw [List.length_drop]; omega), List.length_drop, List.getElem?_take, if_pos (by omega)]
    congr 2; omega
theorem list_ext {A B : List Tr} (h : A.length = B.length) (k : ∀ i, i < A.length → A.getD i .no = B.getD i .no) : A = B := by
  apply List.ext_getElem h
  intro i h1 h2
  have := k i h1
  simpa [List.getD_eq_getElem?_getD, h1, h2] using this
/-- Is one of the first so many another one than the one so much further on? -/
def mv (L : List Tr) (c : Nat) : Nat → Bool
  | 0 => false
  | j + 1 => mv L c j || !(L.getD j .no).same (L.getD ((j + c) % L.length) .no)
theorem mv_false {L : List Tr} {c : Nat} : ∀ {j : Nat}, mv L c j = false ↔ ∀ i, i < j → L.getD i .no = L.getD ((i + c) % L.length) .no
  | 0 => ⟨fun _ i hi => absurd hi (Nat.not_lt_zero i), fun _ => rfl⟩
  | j + 1 => by
    rw [mv, Bool.or_eq_false_iff, mv_false (j := j)]
    constructor
    · rintro ⟨h1, h2⟩ i hi
      rcases Nat.lt_or_ge i j with h | h
      · exact h1 i h
      · obtain rfl : i = j := by omega
        exact (same_iff _ _).1 (by simpa using h2)
    · intro h
      exact ⟨fun i hi => h i (by omega), by rw [(same_iff _ _).2 (h j (by omega))]; rfl⟩
theorem rightL_of {L : List Tr} (h : (L.all fun t => t.right && t.within 16) = true) : rightL L = true := by
  rw [rightL_all, List.all_eq_true]
  intro t ht
  have := List.all_eq_true.1 h t ht
  simp only [Bool.and_eq_true] at this; exact this.1
theorem massL_rot (L : List Tr) (c : Nat) : massL (L.drop c ++ L.take c) = massL L := by
  have : massL L = massL (L.take c ++ L.drop c) := by rw [List.take_append_drop]
  rw [this, massL_app, massL_app, Nat.add_comm]
theorem massL_take (L : List Tr) (c : Nat) : massL (L.take c) ≤ massL L := by
  have : massL L = massL (L.take c ++ L.drop c) := by rw [List.take_append_drop]
  rw [this, massL_app]; omega
theorem all_rot {p : Tr → Bool} {L : List Tr} {c : Nat} (h : L.all p = true) : (L.drop c ++ L.take c).all p = true := by
  rw [List.all_eq_true] at h ⊢
  intro t ht
  rcases List.mem_append.1 ht with ht | ht
  · exact h t (List.mem_of_mem_drop ht)
  · exact h t (List.mem_of_mem_take ht)
theorem all_tk {p : Tr → Bool} {L : List Tr} {c : Nat} (h : L.all p = true) : (L.take c).all p = true := by
  rw [List.all_eq_true] at h ⊢
  exact fun t ht => h t (List.mem_of_mem_take ht)
theorem withinL_rot {L : List Tr} {c : Nat} {d : Int} (h : withinL L d = true) : withinL (L.drop c ++ L.take c) d = true := by rw [withinL_all] at h ⊢; exact all_rot h
theorem withinL_tk {L : List Tr} {c : Nat} {d : Int} (h : withinL L d = true) : withinL (L.take c) d = true := by rw [withinL_all] at h ⊢; exact all_tk h
theorem rot_puts {L : List Tr} {c : Nat} (h : (L.all fun t => t.right && t.within 16) = true) (q : withinL L 15 = true) : (row (L.drop c ++ L.take c)).puts = ((row (L.drop c ++ L.take c)).put, 0) := by
  rw [row_puts (all_rot h), withinL_rot q, if_pos rfl]
theorem tk_puts {L : List Tr} {c : Nat} (h : (L.all fun t => t.right && t.within 16) = true) (q : withinL L 15 = true) : (row (L.take c)).puts = ((row (L.take c)).put, 0) := by
  rw [row_puts (all_tk h), withinL_tk q, if_pos rfl]
theorem rot_len (L : List Tr) {c : Nat} (hc : c ≤ L.length) : (L.drop c ++ L.take c).length = L.length := by rw [List.length_append, List.length_drop, List.length_take]; omega
/-- The list turned is another one just if it moved. -/
theorem rot_law {L : List Tr} {c : Nat} (hc : c ≤ L.length) (h : (L.all fun t => t.right && t.within 16) = true) (hf : fitL L = true) (hm : massL L ≤ 1048576) : ((row (L.drop c ++ L.take c)).put == (row L).put) = !mv L c L.length := by
  have ff : fitL (L.drop c ++ L.take c) = true := by rw [fitL_all] at hf ⊢; exact all_rot hf
  rw [Bool.eq_iff_iff, beq_iff_eq, Bool.not_eq_true', mv_false]
  constructor
  · intro e i hi
    have e2 := put_inj (rightL_of (all_rot h)) (rightL_of h) ff hf (by rw [massL_rot]; exact hm) hm e
    rw [← rot_get L hc hi, e2]
  · intro k
    have : L.drop c ++ L.take c = L := list_ext (rot_len L hc) fun i hi => by
      rw [rot_len L hc] at hi
      rw [rot_get L hc hi, k i hi]
    rw [this]
/-- Its beginning is the whole just if it has as many. -/
theorem tk_law {L : List Tr} {c : Nat} (hc : c ≤ L.length) (h : (L.all fun t => t.right && t.within 16) = true) (hf : fitL L = true) (hm : massL L ≤ 1048576) : ((row (L.take c)).put == (row L).put) = (c == L.length) := by
  have ff : fitL (L.take c) = true := by rw [fitL_all] at hf ⊢; exact all_tk hf
  rw [Bool.eq_iff_iff, beq_iff_eq, beq_iff_eq]
  constructor
  · intro e
    have e2 := put_inj (rightL_of (all_tk h)) (rightL_of h) ff hf (Nat.le_trans (massL_take L c) hm) hm e
    have := congrArg List.length e2
    rw [List.length_take] at this; omega
  · intro e
    rw [e, List.take_length]
end Go.Sx.Tr
namespace Go.Proofs.Ytmdkihggeodjfaa
open Go.RowKit Go.Sx
end Go.Proofs.Ytmdkihggeodjfaa
