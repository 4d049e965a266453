import Derived.Test.YtnbcemeofhaogaaSxF
/-! Arguments of a statement that are rows of structs of numbers, however nested. -/
namespace Go.Sx
open Go.ChangeShapes Go.WideShapes Go.Deep Go.RowKit Go.Proofs.Ytnbcemeofhaogaa
set_option linter.unusedSimpArgs false
set_option linter.unusedVariables false
def flatF (P : Program) (r : TypeId → Option (List FK)) : List Field → Nat → Option (List FK)
  | [], _ => some []
  | f :: fs, o => match r f.type with
    | some ks => if f.offset = o ∧ P.cellsOf f.type = ks.length then (match flatF P r fs (o + ks.length) with | some k2 => some (ks ++ k2) | none => none) else none
    | none => none
/-- The kinds of the cells of a type that names no memory. -/
def flatT (P : Program) : Nat → TypeId → Option (List FK)
  | 0, _ => none
  | n + 1, t => match P.underlying t with
    | some (.int .u64) => some [.u64]
    | some (.int k) => some [.int k]
    | some .bool => some [.bool]
    | some (.struct fs) => (match flatF P (flatT P n) fs.toList 0 with | some ks => if P.cellsOf t = ks.length then some ks else none | none => none)
    | _ => none
theorem fits_append : ∀ {ks k2 : List FK} {l m : List FV}, fits ks l → fits k2 m → fits (ks ++ k2) (l ++ m)
  | [], k2, l, m, h, h2 => by obtain rfl : l = [] := h; exact h2
  | .u64 :: ks, k2, l, m, h, h2 => by obtain ⟨x, r, rfl, h⟩ := h; exact ⟨x, r ++ m, rfl, fits_append h h2⟩
  | .int k :: ks, k2, l, m, h, h2 => by obtain ⟨x, r, rfl, hb, h⟩ := h; exact ⟨x, r ++ m, rfl, hb, fits_append h h2⟩
  | .bool :: ks, k2, l, m, h, h2 => by obtain ⟨x, r, rfl, h⟩ := h; exact ⟨x, r ++ m, rfl, fits_append h h2⟩
theorem fits_len : ∀ {ks : List FK} {l : List FV}, fits ks l → l.length = ks.length
  | [], l, h => by obtain rfl : l = [] := h; rfl
  | .u64 :: ks, l, h => by obtain ⟨x, r, rfl, h⟩ := h; simp [fits_len h]
  | .int k :: ks, l, h => by obtain ⟨x, r, rfl, hb, h⟩ := h; simp [fits_len h]
  | .bool :: ks, l, h => by obtain ⟨x, r, rfl, h⟩ := h; simp [fits_len h]
section
variable {H : Type} {enc : TypeId × Value → H} {P : Program} {W : World} {base : Nat} {spare : Nat → Bool} {held : Bool}
theorem flatF_ok {r : TypeId → Option (List FK)} {n : Nat} (ih : ∀ t ks cs x, r t = some ks → DataW.trod enc P W base spare held n t cs = some x → ∃ l : List FV, cs = l.map FV.den ∧ fits ks l) {cs : List Value} :
    ∀ (fs : List Field) (o : Nat) (ks : List FK), flatF P r fs o = some ks → (∀ (i : Nat) (f : Field), fs[i]? = some f → ∃ x, DataW.trod enc P W base spare held n f.type ((cs.drop f.offset).take (P.cellsOf f.type)) = some x) →
      o + ks.length = cs.length → ∃ l : List FV, cs.drop o = l.map FV.den ∧ fits ks l
  | [], o, ks, h, _, hl => by
    simp only [flatF, Option.some.injEq] at h
    subst h
    refine ⟨[], ?_, rfl⟩
    rw [List.drop_eq_nil_of_le (by simp at hl; omega)]; rfl
  | f :: fs, o, ks, h, hx, hl => by
    unfold flatF at h
    split at h
    · rename_i k1 hk1
      split at h
      · rename_i hc
        split at h
        · rename_i k2 hk2
          simp only [Option.some.injEq] at h
          subst h
          rw [List.length_append] at hl
          obtain ⟨x, hx0⟩ := hx 0 f rfl
          rw [hc.1, hc.2] at hx0
          obtain ⟨l1, e1, f1⟩ := ih _ _ _ _ hk1 hx0
          obtain ⟨l2, e2, f2⟩ := flatF_ok ih fs (o + k1.length) k2 hk2 (fun i g hg => hx (i + 1) g (by simpa using hg)) (by omega)
          refine ⟨l1 ++ l2, ?_, fits_append f1 f2⟩
          rw [List.map_append, ← e1, ← e2, ← List.drop_drop, List.take_append_drop]
        · cases h
      · cases h
    · cases h
theorem flatT_ok : ∀ (m n : Nat) (t : TypeId) (ks : List FK) (cs : List Value) (x : DataW H × List MemPlace), flatT P m t = some ks → DataW.trod enc P W base spare held n t cs = some x → ∃ l : List FV, cs = l.map FV.den ∧ fits ks l
  | 0, _, _, _, _, _, h, _ => by cases h
  | m + 1, n, t, ks, cs, x, h, hx => by
    unfold flatT at h
    split at h
    · rename_i hu
      simp only [Option.some.injEq] at h; subst h
      obtain ⟨N, rfl, _, h3⟩ := DataW.trod_int hu hx
      have h3' : (decide ((0 : Int) ≤ N) && decide (N ≤ 18446744073709551615)) = true := h3
      simp at h3'
      exact ⟨[.u64 (BitVec.ofInt 64 N)], by simp only [List.map, FV.den]; rw [uv_of 64 N (by omega) (by omega)], _, [], rfl, rfl⟩
    · rename_i k hk hu
      simp only [Option.some.injEq] at h; subst h
      obtain ⟨N, rfl, _, h3⟩ := DataW.trod_int hu hx
      have h3' : (decide (k.min ≤ N) && decide (N ≤ k.max)) = true := h3
      simp only [Bool.and_eq_true, decide_eq_true_eq] at h3'
      exact ⟨[.int k N], rfl, N, [], rfl, h3', rfl⟩
    · rename_i hu
      simp only [Option.some.injEq] at h; subst h
      obtain ⟨b, rfl, _⟩ := DataW.trod_bool hu hx
      exact ⟨[.bool b], rfl, b, [], rfl, rfl⟩
    · rename_i fs hu
      obtain ⟨xs, n', rfl, _, hl, hxl, hf⟩ := DataW.trod_struct hu hx
      split at h
      · rename_i k1 h1
        split at h
        · rename_i hlen
          simp only [Option.some.injEq] at h; subst h
          have := flatF_ok (cs := cs) (fun t ks cs x => flatT_ok m n' t ks cs x) fs.toList 0 k1 h1 (fun i f hfi => by
            have hfi' : fs[i]? = some f := by simpa using hfi
            have hlt : i < xs.length := by rw [hxl]; exact (Array.getElem?_eq_some_iff.1 hfi').1
            exact ⟨_, (hf i f hfi').trans (List.getElem?_eq_getElem hlt)⟩) (by rw [Nat.zero_add, hl, hlen])
          simpa using this
        · cases h
      · cases h
    · cases h
end
theorem fits_plain : ∀ {ks : List FK} {l : List FV}, fits ks l → ∀ x ∈ l, x.den.oneCell' = true
  | [], l, h, x, hx => by obtain rfl : l = [] := h; cases hx
  | .u64 :: ks, l, h, x, hx => by
    obtain ⟨y, r, rfl, h⟩ := h
    cases hx with
    | head => rfl
    | tail _ hx => exact fits_plain h x hx
  | .int k :: ks, l, h, x, hx => by
    obtain ⟨y, r, rfl, _, h⟩ := h
    cases hx with
    | head => rfl
    | tail _ hx => exact fits_plain h x hx
  | .bool :: ks, l, h, x, hx => by
    obtain ⟨y, r, rfl, h⟩ := h
    cases hx with
    | head => rfl
    | tail _ hx => exact fits_plain h x hx
theorem fits_flat : ∀ {ks : List FK} {l : List FV}, fits ks l → l.all FV.flat = true
  | [], l, h => by obtain rfl : l = [] := h; rfl
  | .u64 :: ks, l, h => by obtain ⟨y, r, rfl, h⟩ := h; simp [FV.flat, fits_flat h]
  | .int k :: ks, l, h => by obtain ⟨y, r, rfl, _, h⟩ := h; simp [FV.flat, fits_flat h]
  | .bool :: ks, l, h => by obtain ⟨y, r, rfl, h⟩ := h; simp [FV.flat, fits_flat h]
theorem open_rows {H : Type} {enc : TypeId × Value → H} {P : Program} {W : World} {t e : TypeId} {base : Nat} {v : Value} {d : DataW H} {ps : List MemPlace} (m : Nat) (ks : List FK)
    (ht : P.underlying t = some (.slice e)) (hk : flatT P m e = some ks) (ce : P.cellsOf e = ks.length) (h0 : ks.length ≠ 0)
    (hok : Value.okWide P W .any base t v) (h : DataW.Trod enc P W 0 (fun _ => true) true t v d ps) :
    ∃ (l : Option Loc) (len : Nat) (F : Nat → List FV), len < 9223372036854775808 ∧ (∀ i, fits ks (F i) ∨ len ≤ i) ∧ v = SV.den (at0 l) (.sl 0 ks.length 0 len) ∧ ∀ g : Nat → List FV, (∀ i, i < len → g i = F i) → MRel ⟨W.heap.size, [], fun _ => False⟩ (at0 l) [.ro ks.length len g] W := by
  obtain ⟨fuel, h⟩ := h
  have hv : ∃ a len cap, v = .slice a len cap ∧ ∀ a', a = some a' → a'.spot = none := by
    unfold Value.okWide at hok
    rw [ht] at hok
    unfold Cell.okWide at hok
    rw [ht] at hok
    cases v with
    | slice a len cap =>
      refine ⟨a, len, cap, rfl, fun a' ha => ?_⟩
      subst ha
      have hok' : Cell.ok P W .any base t (.slice (some a') len cap) := hok
      unfold Cell.ok at hok'
      rw [ht] at hok'
      exact hok'.2.2.2.1
    | _ =>
      exfalso
      simp [Cell.ok, ht] at hok
  obtain ⟨a, len, cap, rfl, hspot⟩ := hv
  rcases open_slice ht h with ⟨hc, hx⟩ | ⟨a', len', cap', q, n, D, Pl, hc, _, hl, hm, hmm, hx, hall⟩
  · have hc' : Value.slice a len cap = .slice none 0 0 := by
      have := hc; simp [Value.cells] at this; simp [this]
    rw [hc']
    exact ⟨none, 0, fun _ => [], by omega, fun _ => .inr (Nat.zero_le _), rfl, fun g _ => single _ _ rfl (ro_flat (fun i hi => absurd hi (Nat.not_lt_zero i)) ⟨fun _ => rfl, fun l hl => by cases hl⟩)⟩
  · have hc' : Value.slice a len cap = .slice (some a') len' cap' := by
      have := hc; simp [Value.cells] at this; simp [this]
    obtain ⟨rfl, rfl, rfl⟩ := Value.slice.inj hc'
    obtain ⟨b, o, spot⟩ := a'
    obtain rfl : spot = none := hspot _ rfl
    simp only [if_true] at hmm
    subst hmm
    have hmax : maxLen < 9223372036854775808 := by decide
    have each : ∀ i, i < q → ∃ l : List FV, fits ks l ∧ ∀ j x, l[j]? = some x → W.cell? ⟨b, o + i * ks.length + j, none⟩ = some x.den := by
      intro i hi
      obtain ⟨cs, h1, h2⟩ := hall i hi
      obtain ⟨l, rfl, hf⟩ := flatT_ok m n e ks cs _ hk h2
      rw [ce] at h1
      obtain ⟨_, hlen, hcell⟩ := World.cells?_some h1
      refine ⟨l, hf, fun j x hx => ?_⟩
      have hj : j < l.length := (List.getElem?_eq_some_iff.1 hx).1
      have := hcell j (by rw [← fits_len hf]; exact hj)
      rw [add_plain, add_plain] at this
      rw [this, List.getElem?_map, hx]; rfl
    obtain ⟨F, hF⟩ := choose_lt each
    refine ⟨some ⟨b, o, q, none, .inr rfl⟩, len, F, by omega, fun i => ?_, by simp [SV.den, at0], fun g hg => single _ _ rfl (ro_flat (fun i hi => ?_) ⟨(by intro hn; cases hn), ?_⟩)⟩
    · by_cases hi : i < len
      · exact .inl (hF i (by omega)).1
      · exact .inr (by omega)
    · rw [hg i hi]; exact fits_flat (hF i (by omega)).1
    intro l hl2
    obtain rfl : (⟨b, o, q, none, .inr rfl⟩ : Loc) = l := Option.some.inj hl2
    refine ⟨hl, fun hpos hmay => ?_, fun i hi => ?_⟩
    · rcases hmay with hx | hx
      · cases hx
      · have h3 : W.heap.size ≤ b := hx
        obtain ⟨hf, hc0⟩ := hF 0 (by omega)
        have h4 := fits_len hf
        have := hc0 0 _ (List.getElem?_eq_getElem (by omega))
        have := World.block_lt_of_cell? W _ this
        have h2 : b < W.heap.size := this
        omega
    · obtain ⟨hf, hc0⟩ := hF i (by omega)
      rw [hg i hi]
      exact ⟨⟨fits_len hf, fun x hx => fits_plain hf x hx⟩, hc0⟩
end Go.Sx
