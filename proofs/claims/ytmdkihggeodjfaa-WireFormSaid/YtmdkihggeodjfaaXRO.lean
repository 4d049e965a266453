import Derived.Test.YtmdkihggeodjfaaXQ
import Derived.Test.YtmdkihggeodjfaaSxF
import Derived.Test.YtmdkihggeodjfaaSxW
import Derived.Test.YtmdkihggeodjfaaXR
namespace Go.Proofs.Ytmdkihggeodjfaa
open Go.RowKit Go.Sx
set_option linter.unusedSimpArgs false
set_option linter.unusedVariables false
set_option linter.unnecessarySimpa false
set_option maxRecDepth 100000
set_option maxHeartbeats 4000000
end Go.Proofs.Ytmdkihggeodjfaa
namespace Go.Sx.Tr
open Go.RowKit Go.Proofs.Ytmdkihggeodjfaa
mutual
/-- Are its numbers of 64 bits, its bytes bytes? -/
def fit2 : Tr → Bool
  | mk _ n bs l => ((decide (-9223372036854775808 ≤ n) && decide (n ≤ 9223372036854775807)) && btsB bs) && fit2L l
def fit2L : List Tr → Bool
  | [] => true
  | t :: l => fit2 t && fit2L l
end
theorem fit2L_all : ∀ (l : List Tr), fit2L l = l.all fit2
  | [] => by simp [fit2L]
  | t :: l => by simp [fit2L, fit2L_all l]
theorem fit2_eq (t : Tr) : t.fit2 = (((decide (-9223372036854775808 ≤ t.n) && decide (t.n ≤ 9223372036854775807)) && btsB t.bs) && fit2L t.kids) := by cases t; rw [fit2]; rfl
mutual
theorem fit_of2 : ∀ t : Tr, t.fit2 = true → t.fit = true
  | mk _ n bs l, h => by
    rw [fit2] at h
    simp only [Bool.and_eq_true] at h
    rw [fit, fitL_of2 l h.2, Bool.and_true, Bool.and_eq_true]
    exact h.1.1
theorem fitL_of2 : ∀ l : List Tr, fit2L l = true → fitL l = true
  | [], _ => rfl
  | t :: l, h => by
    rw [fit2L, Bool.and_eq_true] at h
    rw [fitL, fit_of2 t h.1, fitL_of2 l h.2]; rfl
end
theorem bts_app {a b : List Int} (ha : Bts a) (hb : Bts b) : Bts (a ++ b) := fun x hx => (List.mem_append.1 hx).elim (ha x) (hb x)
theorem wrap8_bts (x : Int) : 0 ≤ IntKind.u8.wrap x ∧ IntKind.u8.wrap x < 256 := by rw [wrap8_mod]; omega
theorem head_bts (k : Nat) (hk : k < 3) (v : BitVec 64) : Bts (head ((k : Int) + 1) v) := by
  intro x hx
  rcases head_form k hk v with ⟨h, e⟩ | ⟨h1, h8, e⟩
  · rw [e] at hx
    simp only [List.mem_singleton] at hx
    omega
  · rw [e] at hx
    rcases List.mem_cons.1 hx with rfl | hx
    · omega
    · exact low_bts v _ x hx
mutual
/-- What is put is bytes. -/
theorem put_bts : ∀ t : Tr, t.fit2 = true → Bts t.put
  | mk k n bs l, h => by
    rw [fit2] at h
    simp only [Bool.and_eq_true] at h
    rw [put]
    split
    · exact head_bts 0 (by omega) _
    · split
      · exact bts_app (head_bts 1 (by omega) _) (btsB_iff.1 h.1.2)
      · exact bts_app (head_bts 2 (by omega) _) (putL_bts l h.2)
theorem putL_bts : ∀ l : List Tr, fit2L l = true → Bts (putL l)
  | [], _ => fun x hx => by simp [putL] at hx
  | t :: l, h => by
    rw [fit2L, Bool.and_eq_true] at h
    rw [putL]; exact bts_app (put_bts t h.1) (putL_bts l h.2)
end
end Go.Sx.Tr
namespace Go.Proofs.Ytmdkihggeodjfaa
open Go.RowKit Go.Sx
set_option linter.unusedSimpArgs false
set_option linter.unusedVariables false
set_option maxRecDepth 100000
set_option maxHeartbeats 4000000
open Go.ChangeShapes Go.WideShapes Go.Deep
/-- What the program's type of trees is. -/
structure TreeTy (P : Program) (tT tS tB tb : TypeId) : Prop where
  strct : ∃ f0 f1 f2 f3 : Field, P.underlying tT = some (.struct #[f0, f1, f2, f3]) ∧ (f0.offset = 0 ∧ f1.offset = 1 ∧ f2.offset = 2 ∧ f3.offset = 3) ∧
    (P.cellsOf f0.type = 1 ∧ P.cellsOf f1.type = 1 ∧ P.cellsOf f2.type = 1 ∧ P.cellsOf f3.type = 1) ∧ P.underlying f0.type = some (.int .u8) ∧ P.underlying f1.type = some (.int .i64) ∧ f2.type = tB ∧ f3.type = tS
  uB : P.underlying tB = some (.slice tb)
  uS : P.underlying tS = some (.slice tT)
  ub : P.underlying tb = some (.int .u8)
  cT : P.cellsOf tT = 4
  cb : P.cellsOf tb = 1
  bT : 1 ≤ P.bytesOf tT
  bb : 1 ≤ P.bytesOf tb
section
variable {H : Type} {enc : TypeId × Value → H} {P : Program} {W : World} {tT tS tB tb : TypeId}
theorem spot_of_cell {a : Addr} {v : Value} (h : W.cell? a = some v) : a.spot = none ∧ a.block < W.heap.size := by
  refine ⟨?_, World.block_lt_of_cell? W _ h⟩
  unfold World.cell? at h
  split at h
  · split at h
    · cases h
    · rename_i hs; simpa using hs
  · cases h
theorem cells_cell {a : Addr} {n : Nat} {cs : List Value} (h : W.cells? 0 a n = some cs) : cs.length = n ∧ ∀ j, j < n → W.cell? (a.add j) = cs[j]? := by
  obtain ⟨_, h1, h2⟩ := World.cells?_some h
  exact ⟨h1, fun j hj => h2 j (by omega)⟩
/-- Where a slice lies. -/
def locA (a : Addr) (cap : Nat) (h : cap = 0 ∨ a.spot = none) : Sx.Loc := ⟨a.block, a.off, cap, a.spot, h⟩
theorem add_at {a : Addr} (h : a.spot = none) (k : Nat) : a.add k = ⟨a.block, a.off + k, none⟩ := by
  obtain ⟨b, o, s⟩ := a
  subst h
  rw [add_plain]
/-- All that a slice of bytes is. -/
theorem bytes_of (T : TreeTy P tT tS tB tb) {n : Nat} {c : Value} {x : DataW H × List MemPlace} (h : DataW.trod enc P W 0 (fun _ => true) true n tB [c] = some x) :
    ∃ bs : List Int, Rep (fun k => k < W.heap.size) W (.row 1 bs.length (gOf eB bs)) (.val c) ∧ ((∀ q ∈ x.1.weights P tB, q ≤ reachBytes) → bs.length ≤ 140737488355328) ∧ btsB bs = true := by
  rcases DataW.trod_slice T.uB h with ⟨hc, hx⟩ | ⟨a, len, cap, elems, rest, n', _, hc, hx, _, hl, hm, hlen, hel, hsp, _⟩
  · simp only [List.cons.injEq, and_true] at hc
    subst hc
    exact ⟨[], .row (sz := 1) (n := 0) none (fun _ => []) (fun _ => rfl) (fun _ h => by cases h) (fun _ h => by cases h) (fun i hi => absurd hi (Nat.not_lt_zero i)) (fun _ i _ _ h => by cases h) (fun i hi => absurd hi (Nat.not_lt_zero i)) (fun i _ _ _ hi => absurd hi (Nat.not_lt_zero i)), fun _ => Nat.zero_le _, rfl⟩
  · simp only [List.cons.injEq, and_true] at hc
    subst hc
    obtain ⟨hr1, hr2⟩ := hsp rfl
    -- each place up to the capacity
    have each : ∀ i, i < len → ∃ b : Int, W.cell? (a.add (i * 1)) = some (.int .u8 b) ∧ (0 ≤ b ∧ b < 256) := by
      intro i hi
      have := hel i hi
      rw [T.cb, List.getElem?_eq_getElem (by omega)] at this
      obtain ⟨cs, h1, h2⟩ := Option.bind_eq_some_iff.1 this
      obtain ⟨b, rfl, _, wb⟩ := DataW.trod_int T.ub h2
      obtain ⟨_, h4⟩ := cells_cell h1
      have := h4 0 (by omega)
      have wb' : (decide ((0 : Int) ≤ b) && decide (b ≤ 255)) = true := wb
      simp only [Bool.and_eq_true, decide_eq_true_eq] at wb'
      exact ⟨b, by simpa [add_add] using this, wb'.1, by omega⟩
    have spot : cap = 0 ∨ a.spot = none := by
      rcases Nat.eq_zero_or_pos cap with h0 | h0
      · exact .inl h0
      · right
        by_cases hl0 : 0 < len
        · obtain ⟨b, hb, _⟩ := each 0 hl0
          simp at hb
          have e : a.add 0 = a := by simp [Addr.add]
          rw [e] at hb
          exact (spot_of_cell hb).1
        · have := hr2 0 (by omega)
          rw [T.cb, List.getElem?_eq_getElem (by omega)] at this
          obtain ⟨cs, h1, h2⟩ := Option.bind_eq_some_iff.1 this
          obtain ⟨_, h4⟩ := cells_cell h1
          have h5 := h4 0 (by omega)
          obtain ⟨b, rfl, _⟩ := DataW.trod_int T.ub h2
          have e : len = 0 := by omega
          subst e
          have e : (a.add ((0 + 0) * 1)).add 0 = a := by simp [Addr.add]
          rw [e] at h5
          exact (spot_of_cell h5).1
    obtain ⟨f, hf⟩ := choose_lt each
    refine ⟨(List.range len).map f, ?_, fun hw => ?_, ?_⟩
    · have hbl : ((List.range len).map f).length = len := by simp
      have hget : ∀ i, i < len → gOf eB ((List.range len).map f) i = [.int .u8 (f i)] := fun i hi => by
        show [FV.int .u8 _] = _
        simp [List.getD_eq_getElem?_getD, hi]
      have hv : (.val (.slice (some a) len cap) : FV) = .val (rowV (some (locA a cap spot)) len) := by
        unfold rowV locA
        simp only [Option.map_some, Option.getD_some, Loc.sp0]
        by_cases hl0 : len = 0
        · rw [if_pos hl0]
        · rw [if_neg hl0]
          have : a.spot = none := spot.resolve_left (by omega)
          rw [← this]
      rw [hv, hbl]
      refine .row _ (gOf eB ((List.range len).map f)) (fun h => by cases h) (fun k hk => by obtain rfl := Option.some.inj hk; exact hl) (fun k hk hp => ?_) (fun i hi => ?_) (fun k i j x hk hi hx => ?_) (fun _ _ => rfl) (fun i j x y hi hx hy => ?_)
      · obtain rfl := Option.some.inj hk
        have := (spot_of_cell (hf 0 hp).1).2
        simpa [locA, Addr.add] using this
      · rw [hget i hi]; exact ⟨rfl, fun x hx => by simp at hx; subst hx; rfl⟩
      · obtain rfl := Option.some.inj hk
        rw [hget i hi] at hx
        have hs : a.spot = none := spot.resolve_left (by omega)
        match j with
        | 0 =>
          simp at hx; subst hx
          have := (hf i hi).1
          rw [add_at hs, Nat.mul_one] at this
          show W.cell? ⟨a.block, a.off + i * 1 + 0, none⟩ = some (.int .u8 (f i))
          rw [Nat.mul_one]; exact this
        | j + 1 => simp at hx
      · rw [hget i hi] at hx hy
        match j with
        | 0 => simp at hx hy; subst hx hy; exact .flat rfl
        | j + 1 => simp at hx
    · rw [hx] at hw
      simp only [DataW.weights, T.uB] at hw
      have := hw _ (List.mem_cons_self ..)
      simp only [List.length_map, hlen] at this
      have h2 : (len + rest.length) * 1 ≤ (len + rest.length) * P.bytesOf tb := Nat.mul_le_mul_left _ T.bb
      unfold reachBytes at this
      simp only [List.length_map, List.length_range]
      omega
    · rw [btsB_iff]
      intro x hx
      obtain ⟨i, hi, rfl⟩ := List.mem_map.1 hx
      exact (hf i (List.mem_range.1 hi)).2
/-- A tree's cells are a tree's. -/
def IsTree (P : Program) (W : World) (tT : TypeId) (d : DataW H) (cs : List Value) : Prop := ∃ (u : Tr) (hs : List FV), cs = hs.map FV.den ∧ okG 4 hs ∧ RepL (fun k => k < W.heap.size) W (celT u) hs ∧ u.fit2 = true ∧ ((∀ q ∈ d.weights P tT, q ≤ reachBytes) → u.wide = true)
theorem weightsAll_mem {P : Program} {e : TypeId} : ∀ {l : List (DataW H)} {d : DataW H}, d ∈ l → ∀ q ∈ d.weights P e, q ∈ DataW.weightsAll P e l
  | x :: l, d, h, q, hq => by
    rw [DataW.weightsAll]
    rcases List.mem_cons.1 h with rfl | h
    · exact List.mem_append_left _ hq
    · exact List.mem_append_right _ (weightsAll_mem h q hq)
/-- All that a slice of trees is, if its elements are trees. -/
theorem trees_of (T : TreeTy P tT tS tB tb) {n : Nat} {c : Value} {x : DataW H × List MemPlace} (h : DataW.trod enc P W 0 (fun _ => true) true n tS [c] = some x)
    (ih : ∀ m, m < n → ∀ (cs : List Value) (y : DataW H × List MemPlace), DataW.trod enc P W 0 (fun _ => true) true m tT cs = some y → IsTree P W tT y.1 cs) :
    ∃ L : List Tr, ∃ (l : Option Sx.Loc) (hq : Nat → List FV), (.val c : FV) = .val (rowV l L.length) ∧ (l = none → L.length = 0) ∧ (∀ k, l = some k → L.length ≤ k.cap ∧ (0 < L.length → k.blk < W.heap.size)) ∧
      (∀ i, i < L.length → okG 4 (hq i) ∧ RepL (fun k => k < W.heap.size) W (celT (L.getD i .no)) (hq i)) ∧ (∀ (k : Sx.Loc) (i j : Nat) (x : FV), l = some k → i < L.length → (hq i)[j]? = some x → W.cell? ⟨k.blk, k.off + i * 4 + j, none⟩ = some x.den) ∧
      Tr.fit2L L = true ∧ ((∀ q ∈ x.1.weights P tS, q ≤ reachBytes) → L.length ≤ 140737488355328 ∧ Tr.wideL L = true) := by
  rcases DataW.trod_slice T.uS h with ⟨hc, hx⟩ | ⟨a, len, cap, elems, rest, n', hn', hc, hx, _, hl, hm, hlen, hel, hsp, _⟩
  · simp only [List.cons.injEq, and_true] at hc
    subst hc
    exact ⟨[], none, fun _ => [], rfl, fun _ => rfl, (fun _ h => by cases h), fun i hi => absurd hi (Nat.not_lt_zero i), (fun _ i _ _ h => by cases h), rfl, fun _ => ⟨Nat.zero_le _, rfl⟩⟩
  · simp only [List.cons.injEq, and_true] at hc
    subst hc
    obtain ⟨hr1, hr2⟩ := hsp rfl
    have each : ∀ i, i < len → ∃ q : List FV × Tr, (∀ j, j < 4 → W.cell? ((a.add (i * 4)).add j) = (q.1.map FV.den)[j]?) ∧ okG 4 q.1 ∧ RepL (fun k => k < W.heap.size) W (celT q.2) q.1 ∧ q.2.fit2 = true ∧ ∃ d : DataW H, d ∈ elems.map (·.1) ∧ ((∀ q ∈ d.weights P tT, q ≤ reachBytes) → q.2.wide = true) := by
      intro i hi
      have := hel i hi
      have hlt : i < elems.length := by omega
      rw [T.cT, List.getElem?_eq_getElem hlt] at this
      obtain ⟨cs, h1, h2⟩ := Option.bind_eq_some_iff.1 this
      obtain ⟨_, h4⟩ := cells_cell h1
      obtain ⟨u, hs, rfl, e2, e3, e4, e5⟩ := ih n' (by omega) cs _ h2
      exact ⟨(hs, u), h4, e2, e3, e4, _, List.mem_map_of_mem (List.getElem_mem hlt), e5⟩
    have first : 0 < cap → ∃ v, W.cell? a = some v := by
      intro h0
      by_cases hl0 : 0 < len
      · obtain ⟨q, h1, h2, _⟩ := each 0 hl0
        have h3 := h1 0 (by omega)
        have e : (a.add (0 * 4)).add 0 = a := by simp [Addr.add]
        rw [e, List.getElem?_eq_getElem (by rw [List.length_map, h2.1]; omega)] at h3
        exact ⟨_, h3⟩
      · have := hr2 0 (by omega)
        rw [T.cT, List.getElem?_eq_getElem (by omega)] at this
        obtain ⟨cs, h1, h2⟩ := Option.bind_eq_some_iff.1 this
        obtain ⟨h3, h4⟩ := cells_cell h1
        have h5 := h4 0 (by omega)
        have e : len = 0 := by omega
        subst e
        have e : (a.add ((0 + 0) * 4)).add 0 = a := by simp [Addr.add]
        rw [e, List.getElem?_eq_getElem (by omega)] at h5
        exact ⟨_, h5⟩
    have spot : cap = 0 ∨ a.spot = none := by
      rcases Nat.eq_zero_or_pos cap with h0 | h0
      · exact .inl h0
      · obtain ⟨v, hv⟩ := first h0
        exact .inr (spot_of_cell hv).1
    have : Inhabited Tr := ⟨.no⟩
    obtain ⟨f, hf⟩ := choose_lt each
    have hbl : ((List.range len).map fun i => (f i).2).length = len := by simp
    have hget : ∀ i, i < len → ((List.range len).map fun i => (f i).2).getD i .no = (f i).2 := fun i hi => by simp [List.getD_eq_getElem?_getD, hi]
    refine ⟨(List.range len).map fun i => (f i).2, some (locA a cap spot), fun i => (f i).1, ?_, (fun h => by cases h), fun k hk => ?_, fun i hi => ?_, fun k i j x hk hi hx => ?_, ?_, fun hw => ?_⟩
    · rw [hbl]
      unfold rowV locA
      simp only [Option.map_some, Option.getD_some, Loc.sp0]
      by_cases hl0 : len = 0
      · rw [if_pos hl0]
      · rw [if_neg hl0]
        have : a.spot = none := spot.resolve_left (by omega)
        rw [← this]
    · obtain rfl := Option.some.inj hk
      rw [hbl]
      refine ⟨hl, fun hp => ?_⟩
      obtain ⟨v, hv⟩ := first (by omega)
      exact (spot_of_cell hv).2
    · rw [hbl] at hi
      rw [hget i hi]
      exact ⟨(hf i hi).2.1, (hf i hi).2.2.1⟩
    · obtain rfl := Option.some.inj hk
      rw [hbl] at hi
      obtain ⟨h1, h2, _⟩ := hf i hi
      have hs : a.spot = none := spot.resolve_left (by omega)
      have hj : j < 4 := by rw [← h2.1]; exact (List.getElem?_eq_some_iff.1 hx).1
      have := h1 j hj
      rw [add_add, add_at hs, List.getElem?_map, hx] at this
      show W.cell? ⟨a.block, a.off + i * 4 + j, none⟩ = some x.den
      rw [Nat.add_assoc]; exact this
    · rw [Tr.fit2L_all, List.all_eq_true]
      intro t ht
      obtain ⟨i, hi, rfl⟩ := List.mem_map.1 ht
      exact (hf i (List.mem_range.1 hi)).2.2.2.1
    · rw [hx] at hw
      simp only [DataW.weights, T.uS] at hw
      have hw0 := hw _ (List.mem_cons_self ..)
      refine ⟨?_, ?_⟩
      · simp only [List.length_map, hlen] at hw0
        have h2 : (len + rest.length) * 1 ≤ (len + rest.length) * P.bytesOf tT := Nat.mul_le_mul_left _ T.bT
        unfold reachBytes at hw0
        rw [hbl]
        omega
      · have wall : ∀ l : List Tr, (∀ t ∈ l, t.wide = true) → Tr.wideL l = true := by
          intro l
          induction l with
          | nil => intro _; rfl
          | cons t l ih => intro h; rw [Tr.wideL, h t (List.mem_cons_self ..), ih fun u hu => h u (List.mem_cons_of_mem _ hu)]; rfl
        refine wall _ fun t ht => ?_
        obtain ⟨i, hi, rfl⟩ := List.mem_map.1 ht
        obtain ⟨_, _, _, _, d, hd, hw'⟩ := hf i (List.mem_range.1 hi)
        exact hw' fun q hq => hw q (List.mem_cons_of_mem _ (List.mem_append_left _ (weightsAll_mem hd q hq)))
theorem tree_of (T : TreeTy P tT tS tB tb) : ∀ (n : Nat) (cs : List Value) (x : DataW H × List MemPlace), DataW.trod enc P W 0 (fun _ => true) true n tT cs = some x → IsTree P W tT x.1 cs := by
  intro n
  induction n using Nat.strongRecOn with
  | ind n ih =>
  intro cs x h
  obtain ⟨f0, f1, f2, f3, hu, ⟨o0, o1, o2, o3⟩, ⟨c0, c1, c2, c3⟩, u0, u1, t2, t3⟩ := T.strct
  obtain ⟨xs, n', rfl, rfl, hl, hxl, hf⟩ := DataW.trod_struct hu h
  rw [T.cT] at hl
  match cs, hl with
  | [v0, v1, v2, v3], _ =>
  have hxl' : xs.length = 4 := hxl
  match xs, hxl' with
  | [y0, y1, y2, y3], _ =>
  have g0 := hf 0 f0 rfl
  have g1 := hf 1 f1 rfl
  have g2 := hf 2 f2 rfl
  have g3 := hf 3 f3 rfl
  rw [o0, c0] at g0; rw [o1, c1] at g1; rw [o2, c2, t2] at g2; rw [o3, c3, t3] at g3
  obtain ⟨k0, e0, _, w0⟩ := DataW.trod_int u0 g0
  obtain ⟨k1, e1, _, w1⟩ := DataW.trod_int u1 g1
  simp only [List.drop_zero, List.take_succ_cons, List.take_zero, List.drop_succ_cons, List.cons.injEq, and_true] at e0 e1
  subst e0 e1
  obtain ⟨bs, hb, hbw, hbB⟩ := bytes_of T g2
  obtain ⟨L, l, hq, hv, h0, h1, h2, h3, h4, h5⟩ := trees_of T g3 fun m hm cs y hy => ih m (by omega) cs y hy
  have w1' : (decide ((-9223372036854775808 : Int) ≤ k1) && decide (k1 ≤ 9223372036854775807)) = true := w1
  refine ⟨.mk k0 k1 bs L, [.int .u8 k0, .int .i64 k1, .val v2, .val v3], rfl, ⟨rfl, fun x hx => ?_⟩, ⟨rfl, fun j a b ha hb' => ?_⟩, ?_, fun hw => ?_⟩
  · have sl : ∀ v : Value, (∃ l n, (.val v : FV) = .val (rowV l n)) → v.oneCell' = true := fun v ⟨l, n, e⟩ => by
      injection e with e; rw [e]; rfl
    simp only [List.mem_cons, List.not_mem_nil, or_false] at hx
    rcases hx with rfl | rfl | rfl | rfl
    · rfl
    · rfl
    · refine sl v2 ?_
      cases hb with
      | row l => exact ⟨l, _, rfl⟩
    · exact sl v3 ⟨l, _, hv⟩
  · match j with
    | 0 => simp at ha hb'; subst ha hb'; exact .flat rfl
    | 1 => simp at ha hb'; subst ha hb'; exact .flat rfl
    | 2 => simp at ha hb'; subst ha hb'; exact hb
    | 3 =>
      simp at ha hb'; subst ha hb'
      rw [hv]
      exact .row l hq h0 (fun k hk => (h1 k hk).1) (fun k hk hp => (h1 k hk).2 hp) (fun i hi => (h2 i hi).1) h3 (fun i hi => by show (encK L i).length = _; rw [encK_get L i hi]; exact (h2 i hi).2.1) fun i j x y hi hx hy => (h2 i hi).2.2 j x y (by rw [← encK_get L i hi]; exact hx) hy
    | j + 4 => simp at ha
  · rw [Tr.fit2_eq]
    show ((_ && btsB bs) && Tr.fit2L L) = true
    rw [h4, Bool.and_true, hbB, Bool.and_true]; exact w1'
  · simp only [List.map_cons, List.map_nil, DataW.weights, hu, DataW.weightsEach, t2, t3] at hw
    rw [Tr.wide_eq]
    have hB := hbw fun q hq => hw q (by simp [hq])
    have hK := h5 fun q hq => hw q (by simp [hq])
    show (decide (bs.length ≤ _) && (decide (L.length ≤ _) && Tr.wideL L)) = true
    rw [decide_eq_true hB, decide_eq_true hK.1, hK.2]; rfl
/-- An argument that is a row of trees. -/
theorem open_trees (T : TreeTy P tT tS tB tb) {v : Value} {d : DataW H} {ps : List MemPlace} (hv1 : v.cells = #[v]) (h : DataW.Trod enc P W 0 (fun _ => true) true tS v d ps) :
    ∃ (ρ : Val) (L : List Tr), v = (SV.sl 0 4 0 L.length).den ρ ∧ Tr.fit2L L = true ∧ ((∀ q ∈ d.weights P tS, q ≤ reachBytes) → L.length ≤ 140737488355328 ∧ Tr.wideL L = true) ∧ MRel ⟨W.heap.size, [], ρ.z⟩ ρ [.ro 4 L.length (gK L)] W := by
  obtain ⟨n, h⟩ := h
  have e : v.cells.toList = [v] := by rw [hv1]
  rw [e] at h
  obtain ⟨L, l, hq, hv, h0, h1, h2, h3, h4, h5⟩ := trees_of T h fun m _ cs y hy => tree_of T m cs y hy
  injection hv with hv
  have hok : (Blk.ro 4 L.length (gK L)).ok ⟨W.heap.size, [], fun k => k < W.heap.size⟩ ⟨fun i => if i = 0 then l else none, fun k => k < W.heap.size⟩ 0 W :=
    ⟨hq, fun i hi => (h2 i hi).2, h0, fun k hk => ⟨(h1 k hk).1, fun hp hm => hm.elim (fun h => by cases h) fun h => by
      have h : W.heap.size ≤ k.blk := h
      have := (h1 k hk).2 hp
      omega, fun i hi => ⟨(h2 i hi).1, fun j x hx => h3 k i j x hk hi hx⟩⟩⟩
  refine ⟨⟨fun i => if i = 0 then l else none, fun k => k < W.heap.size⟩, L, ?_, h4, h5, ⟨Nat.le_refl _, fun i b hb => ?_, fun i j b c l k hne hb hc => ?_, fun k hk hm => ?_, fun k hk => hk, fun k hk => ⟨hk, .inl hk⟩, fun i b l hb ho => ?_, fun k hk => .inl hk⟩⟩
  · rw [hv]; simp [SV.den, rowV]
  · cases i with
    | zero => simp at hb; subst hb; exact hok
    | succ i => simp at hb
  · cases i with
    | zero =>
      cases j with
      | zero => exact absurd rfl hne
      | succ j => simp at hc
    | succ i => simp at hb
  · rcases hm with hm | hm
    · cases hm
    · have : W.heap.size ≤ k := hm
      omega
  · cases i with
    | zero => simp at hb; subst hb; cases ho
    | succ i => simp at hb
end
theorem slice_cells {P : Program} {W : World} {base : Nat} {t e : TypeId} {v : Value} (hu : P.underlying t = some (.slice e)) (h : Value.okWide P W .any base t v) : v.cells = #[v] := by
  unfold Value.okWide at h
  rw [hu] at h
  unfold Cell.okWide at h
  rw [hu] at h
  cases v with
  | slice a l c => rfl
  | _ => exfalso; simp [Cell.ok, hu] at h
/-- The statement's form, with the arguments' sizes handed on. -/
theorem returns_sized {H : Type} {enc : TypeId × Value → H} {a : Assume} {C : Checked} {os : Os} {f : FuncId} {fn : Func} {s : ChangeSpec} {conds : List PathCond} {apart fresh handsOn again : Bool}
    (own : ownKnob C.prog.godebug = none) (started : os.Started) (noInit : C.prog.inits.idxOf? f = none) (hfn : C.prog.funcs[f]? = some fn)
    (witness : ∃ (w : World) (tape : Tape) (i : Input), w.os = os ∧ (w.forCall tape i).Shaped C.prog ∧ i.vars = [] ∧ Input.okWide C.prog (w.forCall tape i) .any w.heap.size f i ∧
      s.pre6 enc C.prog fn conds apart (w.forCall tape i).memory i.args ∧ a.holds C.prog (lone (Frame.enter C.prog f i.args .normal) [] (w.forCall tape i)))
    (contract : ∀ (W : World) (base : Nat) (args : Array Value) (ds gs : List (DataW H)) (before : List MemPlace),
      (∀ (j : Nat) t v, fn.params[j]? = some t → args[j]? = some v → Value.okWide C.prog W .any base t v) →
      DataW.Whole enc C.prog fn.params.toList s.vars apart W args.toList ds gs before →
      (∀ q ∈ DataW.weightsEach C.prog (fn.params.toList ++ s.plain.varTypes C.prog) (ds ++ gs), q ≤ reachBytes) →
      Calls C.prog f args W fun e W' => ∃ v, e = .returned v ∧ s.post enc C.prog fn apart fresh handsOn again W args v W') :
    ReturnsInHanded a C os f .any (s.pre6 enc C.prog fn conds apart) (s.post enc C.prog fn apart fresh handsOn again) := by
  refine returnsInHanded_of_calls own started noInit witness fun w tape i _ _ _ hok hpre _ => ?_
  obtain ⟨_, _, _, fn', hfn', _, _, _, _, hval⟩ := hok
  obtain rfl : fn' = fn := Option.some.inj (hfn'.symm.trans hfn)
  obtain ⟨⟨ds, gs, before, hw, _⟩, hz⟩ := hpre
  have hq := hz.weights hw
  refine (contract (w.forCall tape i) w.heap.size i.args ds gs before hval (DataW.Whole.of_heap (w' := w.forCall tape i) (by rfl) hw) fun q hq' => ?_).mono fun e W' ⟨v, he, hp⟩ => ?_
  · have := List.all_eq_true.1 hq q hq'
    simpa using this
  · subst he
    exact ChangeSpec.post_blind hp
end Go.Proofs.Ytmdkihggeodjfaa
