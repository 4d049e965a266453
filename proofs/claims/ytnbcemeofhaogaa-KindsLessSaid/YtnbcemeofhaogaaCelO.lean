/- Arguments of a statement opened: rows of things, rows among their cells. -/
import Derived.Test.YtnbcemeofhaogaaCelS
import Derived.Test.YtnbcemeofhaogaaSxW
namespace Go.Sx
open Go.ChangeShapes Go.WideShapes Go.Deep Go.RowKit Go.Proofs.Ytnbcemeofhaogaa
set_option linter.unusedSimpArgs false
set_option linter.unusedVariables false
section
variable {H : Type} {enc : TypeId × Value → H} {P : Program} {W : World}
theorem spot_of_cell' {a : Addr} {v : Value} (h : W.cell? a = some v) : a.spot = none ∧ a.block < W.heap.size := by
  refine ⟨?_, World.block_lt_of_cell? W _ h⟩
  unfold World.cell? at h
  split at h
  · split at h
    · cases h
    · rename_i hs; simpa using hs
  · cases h
theorem cells_cell' {a : Addr} {n : Nat} {cs : List Value} (h : W.cells? 0 a n = some cs) : cs.length = n ∧ ∀ j, j < n → W.cell? (a.add j) = cs[j]? := by
  obtain ⟨_, h1, h2⟩ := World.cells?_some h
  exact ⟨h1, fun j hj => h2 j (by omega)⟩
/-- Where a slice lies. -/
def locA' (a : Addr) (cap : Nat) (h : cap = 0 ∨ a.spot = none) : Sx.Loc := ⟨a.block, a.off, cap, a.spot, h⟩
theorem add_at' {a : Addr} (h : a.spot = none) (k : Nat) : a.add k = ⟨a.block, a.off + k, none⟩ := by
  obtain ⟨b, o, s⟩ := a
  subst h
  rw [add_plain]
/-- What lies below the heap's end. -/
@[reducible] def Low (W : World) : Nat → Prop := fun k => k < W.heap.size
/-- A type's cells are such things. -/
structure Reads {α : Type} (enc : TypeId × Value → H) (P : Program) (W : World) (ty : TypeId) (sz : Nat) (C : Cel α) (good : α → Bool) : Prop where
  cells : P.cellsOf ty = sz
  pos : 1 ≤ sz
  bytes : 1 ≤ P.bytesOf ty
  read : ∀ (n : Nat) (cs : List Value) (x : DataW H × List MemPlace), DataW.trod enc P W 0 (fun _ => true) true n ty cs = some x → ∃ (u : α) (hs : List FV), cs = hs.map FV.den ∧ okG sz hs ∧ RepL (Low W) W (C.cel u) hs ∧ ((∀ q ∈ x.1.weights P ty, q ≤ reachBytes) → good u = true)
theorem weightsAll_mem' {e : TypeId} : ∀ {l : List (DataW H)} {d : DataW H}, d ∈ l → ∀ q ∈ d.weights P e, q ∈ DataW.weightsAll P e l
  | x :: l, d, h, q, hq => by
    rw [DataW.weightsAll]
    rcases List.mem_cons.1 h with rfl | h
    · exact List.mem_append_left _ hq
    · exact List.mem_append_right _ (weightsAll_mem' h q hq)
/-- All that a slice of such things is. -/
theorem rows_of {α : Type} {C : Cel α} {good : α → Bool} {tS e : TypeId} {sz : Nat} (hu : P.underlying tS = some (.slice e)) (R : Reads enc P W e sz C good) {n : Nat} {c : Value} {x : DataW H × List MemPlace} (h : DataW.trod enc P W 0 (fun _ => true) true n tS [c] = some x) :
    ∃ L : List α, Rep (Low W) W (.row sz L.length (C.g L)) (.val c) ∧ ((∀ q ∈ x.1.weights P tS, q ≤ reachBytes) → L.length ≤ 140737488355328 ∧ L.all good = true) := by
  have hpos := R.pos
  rcases DataW.trod_slice hu h with ⟨hc, hx⟩ | ⟨a, len, cap, elems, rest, n', hn', hc, hx, _, hl, hm, hlen, hel, hsp, _⟩
  · simp only [List.cons.injEq, and_true] at hc
    subst hc
    exact ⟨[], .row (n := 0) none (fun _ => []) (fun _ => rfl) (fun _ h => by cases h) (fun _ h => by cases h) (fun i hi => absurd hi (Nat.not_lt_zero i)) (fun _ i _ _ h => by cases h) (fun i hi => absurd hi (Nat.not_lt_zero i)) (fun i _ _ _ hi => absurd hi (Nat.not_lt_zero i)), fun _ => ⟨Nat.zero_le _, rfl⟩⟩
  · simp only [List.cons.injEq, and_true] at hc
    subst hc
    obtain ⟨hr1, hr2⟩ := hsp rfl
    have each : ∀ i, i < len → ∃ q : List FV × α, (∀ j, j < sz → W.cell? ((a.add (i * sz)).add j) = (q.1.map FV.den)[j]?) ∧ okG sz q.1 ∧ RepL (Low W) W (C.cel q.2) q.1 ∧ ∃ d : DataW H, d ∈ elems.map (·.1) ∧ ((∀ q ∈ d.weights P e, q ≤ reachBytes) → good q.2 = true) := by
      intro i hi
      have := hel i hi
      have hlt : i < elems.length := by omega
      rw [R.cells, List.getElem?_eq_getElem hlt] at this
      obtain ⟨cs, h1, h2⟩ := Option.bind_eq_some_iff.1 this
      obtain ⟨_, h4⟩ := cells_cell' h1
      obtain ⟨u, hs, rfl, e2, e3, e5⟩ := R.read n' cs _ h2
      exact ⟨(hs, u), h4, e2, e3, _, List.mem_map_of_mem (List.getElem_mem hlt), e5⟩
    have first : 0 < cap → ∃ v, W.cell? a = some v := by
      intro h0
      by_cases hl0 : 0 < len
      · obtain ⟨q, h1, h2, _⟩ := each 0 hl0
        have h3 := h1 0 (by omega)
        have e : (a.add (0 * sz)).add 0 = a := by simp [Addr.add]
        rw [e, List.getElem?_eq_getElem (by rw [List.length_map, h2.1]; omega)] at h3
        exact ⟨_, h3⟩
      · have := hr2 0 (by omega)
        rw [R.cells, List.getElem?_eq_getElem (by omega)] at this
        obtain ⟨cs, h1, h2⟩ := Option.bind_eq_some_iff.1 this
        obtain ⟨h3, h4⟩ := cells_cell' h1
        have h5 := h4 0 (by omega)
        have e : len = 0 := by omega
        subst e
        have e : (a.add ((0 + 0) * sz)).add 0 = a := by simp [Addr.add]
        rw [e, List.getElem?_eq_getElem (by omega)] at h5
        exact ⟨_, h5⟩
    have spot : cap = 0 ∨ a.spot = none := by
      rcases Nat.eq_zero_or_pos cap with h0 | h0
      · exact .inl h0
      · obtain ⟨v, hv⟩ := first h0
        exact .inr (spot_of_cell' hv).1
    have : Inhabited α := ⟨C.dft⟩
    obtain ⟨f, hf⟩ := choose_lt each
    have hbl : ((List.range len).map fun i => (f i).2).length = len := by simp
    have hget : ∀ i, i < len → ((List.range len).map fun i => (f i).2).getD i C.dft = (f i).2 := fun i hi => by simp [List.getD_eq_getElem?_getD, hi]
    refine ⟨(List.range len).map fun i => (f i).2, ?_, fun hw => ?_⟩
    · have hv : (.val (.slice (some a) len cap) : FV) = .val (rowV (some (locA' a cap spot)) len) := by
        unfold rowV locA'
        simp only [Option.map_some, Option.getD_some, Loc.sp0]
        by_cases hl0 : len = 0
        · rw [if_pos hl0]
        · rw [if_neg hl0]
          have : a.spot = none := spot.resolve_left (by omega)
          rw [← this]
      rw [hv, hbl]
      refine .row _ (fun i => (f i).1) (fun h => by cases h) (fun k hk => by obtain rfl := Option.some.inj hk; exact hl) (fun k hk hp => ?_) (fun i hi => (hf i hi).2.1) (fun k i j x hk hi hx => ?_) (fun i hi => ?_) (fun i j x y hi hx hy => ?_)
      · obtain rfl := Option.some.inj hk
        obtain ⟨v, hv⟩ := first (by omega)
        exact (spot_of_cell' hv).2
      · obtain rfl := Option.some.inj hk
        obtain ⟨h1, h2, _⟩ := hf i hi
        have hs : a.spot = none := spot.resolve_left (by omega)
        have hj : j < sz := by rw [← h2.1]; exact (List.getElem?_eq_some_iff.1 hx).1
        have := h1 j hj
        rw [add_add, add_at' hs, List.getElem?_map, hx] at this
        show W.cell? ⟨a.block, a.off + i * sz + j, none⟩ = some x.den
        rw [Nat.add_assoc]; exact this
      · have := (hf i hi).2.2.1.1
        show (C.cel (((List.range len).map fun i => (f i).2).getD i C.dft)).length = _
        rw [hget i hi]; exact this
      · have hx' : (C.cel (f i).2)[j]? = some x := by
          rw [← hget i hi]; exact hx
        exact (hf i hi).2.2.1.2 j x y hx' hy
    · rw [hx] at hw
      simp only [DataW.weights, hu] at hw
      have hw0 := hw _ (List.mem_cons_self ..)
      refine ⟨?_, ?_⟩
      · simp only [List.length_map, hlen] at hw0
        have h2 : (len + rest.length) * 1 ≤ (len + rest.length) * P.bytesOf e := Nat.mul_le_mul_left _ R.bytes
        unfold reachBytes at hw0
        rw [hbl]
        omega
      · rw [List.all_eq_true]
        intro t ht
        obtain ⟨i, hi, rfl⟩ := List.mem_map.1 ht
        obtain ⟨_, _, _, d, hd, hw'⟩ := hf i (List.mem_range.1 hi)
        exact hw' fun q hq => hw q (List.mem_cons_of_mem _ (List.mem_append_left _ (weightsAll_mem' hd q hq)))
/-- A row that stays, by a name. -/
theorem fz_of_rep {z : Nat → Prop} {sz n : Nat} {g : Nat → List FV} {y : FV} (h : Rep z W (.row sz n g) y) : ∃ l : Option Loc, y = .val (rowV l n) ∧ ∀ (B : Bd) (ρ : Val) (i : Nat), ρ i = l → ρ.z = z → (Blk.fz sz n g).ok B ρ i W := by
  cases h with
  | flat hf => cases hf
  | row l h h0 hc hz hg hcell hl hr =>
    refine ⟨l, rfl, fun B ρ i hi hz' => ⟨h, fun k hk => ⟨hl k hk, fun j x y hx hy => by rw [hz']; exact hr k j x y hk hx hy⟩, fun hn => h0 (by rw [← hi]; exact hn), fun k hk => ?_⟩⟩
    rw [hi] at hk
    exact ⟨hc k hk, fun hp => by rw [hz']; exact hz k hk hp, fun j hj => ⟨hg j hj, fun t x hx => hcell k j t x hk hj hx⟩⟩
/-- Things without rows. -/
theorem reads_flat {α : Type} {C : Cel α} {ty : TypeId} {ks : List FK} (m : Nat) (hk : flatT P m ty = some ks) (hc : P.cellsOf ty = ks.length) (hp : 1 ≤ ks.length) (hb : 1 ≤ P.bytesOf ty) (hC : ∀ l, fits ks l → ∃ u, C.cel u = l) : Reads enc P W ty ks.length C (fun _ => true) := by
  refine ⟨hc, hp, hb, fun n cs x h => ?_⟩
  obtain ⟨l, rfl, hf⟩ := flatT_ok m n ty ks cs x hk h
  obtain ⟨u, hu⟩ := hC l hf
  exact ⟨u, l, rfl, ⟨fits_len hf, fun x hx => fits_plain hf x hx⟩, by rw [hu]; exact RepL.refl (fits_flat hf), fun _ => rfl⟩
/-- A struct's value. -/
theorem agg_of {base : Nat} {t : TypeId} {v : Value} {fs : Array Field} (hu : P.underlying t = some (.struct fs)) (h : Value.okWide P W .any base t v) : ∃ cs, v = .agg cs ∧ v.cells = cs := by
  unfold Value.okWide at h
  rw [hu] at h
  obtain ⟨cs, rfl, _⟩ := h
  exact ⟨cs, rfl, rfl⟩
theorem slice_cells' {base : Nat} {t e : TypeId} {v : Value} (hu : P.underlying t = some (.slice e)) (h : Value.okWide P W .any base t v) : v.cells = #[v] := by
  unfold Value.okWide at h
  rw [hu] at h
  unfold Cell.okWide at h
  rw [hu] at h
  cases v with
  | slice a l c => rfl
  | _ => exfalso; simp [Cell.ok, hu] at h
theorem rowV_one (l : Option Loc) (n : Nat) : (rowV l n).oneCell' = true := rfl
theorem rep_one {z : Nat → Prop} {sz n : Nat} {g : Nat → List FV} {c : Value} (h : Rep z W (.row sz n g) (.val c)) : c.oneCell' = true := by
  cases h with
  | row l => rfl
theorem repL_cons {z : Nat → Prop} {x y : FV} {l m : List FV} (h : Rep z W x y) (t : RepL z W l m) : RepL z W (x :: l) (y :: m) := ⟨by simp [t.1], fun j a b ha hb => by
  cases j with
  | zero =>
    simp only [List.getElem?_cons_zero, Option.some.injEq] at ha hb
    subst ha hb; exact h
  | succ j => exact t.2 j a b (by simpa using ha) (by simpa using hb)⟩
theorem repL_nil {z : Nat → Prop} : RepL z W [] [] := ⟨rfl, fun j a b ha hb => by simp at ha⟩
end
end Go.Sx
