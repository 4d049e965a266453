import Derived.Test.YtnbcemeofhaogaaSxR
/-! Arguments of a statement that name no memory: numbers, Bools, structs of these. -/
namespace Go.Sx
open Go.RowKit Go.Proofs.Ytnbcemeofhaogaa
set_option linter.unusedSimpArgs false
set_option linter.unusedVariables false
/-- Kinds of cells. -/
inductive FK where
  | u64
  | int (k : IntKind)
  | bool
def FK.is (P : Program) (k : FK) (t : TypeId) : Bool := match k, P.underlying t with
  | .u64, some (.int .u64) => true
  | .int k, some (.int k') => decide (k = k')
  | .bool, some .bool => true
  | _, _ => false
def FK.desc : FK → TypeDesc
  | .u64 => .int .u64
  | .int k => .int k
  | .bool => .bool
theorem FK.und {P : Program} {k : FK} {t : TypeId} (h : k.is P t = true) : P.underlying t = some k.desc := by
  unfold FK.is at h
  split at h
  · assumption
  · rename_i k k' hu
    obtain rfl : k = k' := by simpa using h
    exact hu
  · assumption
  · cases h
def fits : List FK → List FV → Prop
  | [], l => l = []
  | .u64 :: ks, l => ∃ x r, l = .u64 x :: r ∧ fits ks r
  | .int k :: ks, l => ∃ n r, l = .int k n :: r ∧ (k.min ≤ n ∧ n ≤ k.max) ∧ fits ks r
  | .bool :: ks, l => ∃ b r, l = .bool b :: r ∧ fits ks r
theorem cell_fk {P : Program} {W : World} {base : Nat} {t : TypeId} {v : Value} {k : FK} (hk : k.is P t = true) (h : Cell.okWide P W .any base t v) : ∃ x : FV, v = x.den ∧ fits [k] [x] := by
  unfold FK.is at hk
  split at hk
  · rename_i hu
    unfold Cell.okWide at h
    rw [hu] at h
    cases v with
    | int k n =>
      have h' : Cell.ok P W .any base t (.int k n) := h
      unfold Cell.ok at h'
      rw [hu] at h'
      obtain ⟨rfl, h1, h2⟩ := h'
      have e1 : (0 : Int) ≤ n := h1
      have e2 : n ≤ 18446744073709551615 := h2
      exact ⟨.u64 (BitVec.ofInt 64 n), by simp only [FV.den]; rw [uv_of 64 n e1 (by omega)], _, [], rfl, rfl⟩
    | _ => exfalso; simp [Cell.ok, hu] at h
  · rename_i k k' hu
    obtain rfl : k = k' := by simpa using hk
    unfold Cell.okWide at h
    rw [hu] at h
    cases v with
    | int k' n =>
      have h' : Cell.ok P W .any base t (.int k' n) := h
      unfold Cell.ok at h'
      rw [hu] at h'
      obtain ⟨rfl, h1, h2⟩ := h'
      exact ⟨.int k' n, rfl, n, [], rfl, ⟨h1, h2⟩, rfl⟩
    | _ => exfalso; simp [Cell.ok, hu] at h
  · rename_i hu
    unfold Cell.okWide at h
    rw [hu] at h
    cases v with
    | bool b => exact ⟨.bool b, rfl, b, [], rfl, rfl⟩
    | _ => exfalso; simp [Cell.ok, hu] at h
  · cases hk
/-- One number or Bool. -/
theorem open_fk {P : Program} {W : World} {base : Nat} {t : TypeId} {v : Value} (k : FK) (hk : k.is P t = true) (h : Value.okWide P W .any base t v) : ∃ x : FV, v = x.den ∧ fits [k] [x] := by
  apply cell_fk (W := W) (base := base) hk
  have hu := FK.und hk
  unfold Value.okWide at h
  rw [hu] at h
  cases k <;> exact h
def fksB (P : Program) : List FK → List TypeId → Bool
  | [], [] => true
  | k :: ks, t :: ts => k.is P t && fksB P ks ts
  | _, _ => false
def flatB (P : Program) (t : TypeId) (ks : List FK) : Bool := (match P.underlying t with | some (.struct _) => true | some (.array _ _) => true | _ => false) && decide (P.cellsOf t = ks.length) &&
  match P.cellTypes P.depth t with
  | some ts => fksB P ks ts
  | none => false
theorem fits_cons {k : FK} {ks : List FK} {x : FV} {l : List FV} (h : fits [k] [x]) (t : fits ks l) : fits (k :: ks) (x :: l) := by
  cases k with
  | u64 => obtain ⟨y, r, e, h⟩ := h; simp only [List.cons.injEq] at e; exact ⟨y, l, by rw [e.1], t⟩
  | int k => obtain ⟨y, r, e, h1, h⟩ := h; simp only [List.cons.injEq] at e; exact ⟨y, l, by rw [e.1], h1, t⟩
  | bool => obtain ⟨y, r, e, h⟩ := h; simp only [List.cons.injEq] at e; exact ⟨y, l, by rw [e.1], t⟩
theorem cells_fks {P : Program} {W : World} {base : Nat} : ∀ (ks : List FK) (ts : List TypeId) (cs : List Value), fksB P ks ts = true → cs.length = ts.length → (∀ (i : Nat) (v : Value), cs[i]? = some v → ∃ u, ts[i]? = some u ∧ Cell.okWide P W .any base u v) → ∃ l : List FV, cs = l.map FV.den ∧ fits ks l
  | [], [], cs, _, hl, _ => ⟨[], by cases cs with | nil => rfl | cons a r => simp at hl, rfl⟩
  | k :: ks, t :: ts, cs, hb, hl, hc => by
    simp only [fksB, Bool.and_eq_true] at hb
    cases cs with
    | nil => simp at hl
    | cons c cs =>
      obtain ⟨u, hu, hok⟩ := hc 0 c rfl
      obtain rfl : t = u := by simpa using hu
      obtain ⟨x, hx, hf⟩ := cell_fk hb.1 hok
      obtain ⟨l, hl2, hf2⟩ := cells_fks ks ts cs hb.2 (by simpa using hl) fun i v hv => by simpa using hc (i + 1) v (by simpa using hv)
      exact ⟨x :: l, by rw [hx, hl2]; rfl, fits_cons hf hf2⟩
  | [], _ :: _, _, hb, _, _ => by cases hb
  | _ :: _, [], _, hb, _, _ => by cases hb
theorem fksB_len {P : Program} : ∀ {ks : List FK} {ts : List TypeId}, fksB P ks ts = true → ks.length = ts.length
  | [], [], _ => rfl
  | _ :: _, _ :: _, h => by simp only [fksB, Bool.and_eq_true] at h; simp [fksB_len h.2]
  | [], _ :: _, h => by cases h
  | _ :: _, [], h => by cases h
/-- A struct of such. -/
theorem open_flat {P : Program} {W : World} {base : Nat} {t : TypeId} {v : Value} (ks : List FK) (hk : flatB P t ks = true) (h : Value.okWide P W .any base t v) : ∃ l : List FV, v = .agg (l.map FV.den).toArray ∧ fits ks l := by
  unfold flatB at hk
  simp only [Bool.and_eq_true, decide_eq_true_eq] at hk
  obtain ⟨⟨h1, h2⟩, h3⟩ := hk
  have hcs : ∃ cs, v = .agg cs ∧ cs.size = P.cellsOf t ∧ Row.okWide P W .any base t cs := by
    unfold Value.okWide at h
    split at h1
    · rename_i hu; rw [hu] at h; exact h
    · rename_i hu; rw [hu] at h; exact h
    · cases h1
  obtain ⟨cs, rfl, hsz, ts, hts, _, hcell⟩ := hcs
  rw [hts] at h3
  simp only at h3
  have hl := fksB_len h3
  obtain ⟨l, hl2, hf⟩ := cells_fks (P := P) (W := W) (base := base) ks ts cs.toList h3 (by rw [Array.length_toList]; omega) fun i v hv => by
    have hi : i < cs.size := by rw [← Array.length_toList]; exact (List.getElem?_eq_some_iff.1 hv).1
    obtain ⟨u, hu, hok⟩ := hcell i v (by simpa using hv)
    rw [Nat.mod_eq_of_lt (by omega)] at hu
    exact ⟨u, hu, hok⟩
  exact ⟨l, by rw [← hl2], hf⟩
/-- The law of a statement whose arguments name no memory. -/
theorem w_flat {P : Program} {G : World → Prop} {f : FuncId} {k : List SV → List Blk → Res} (hk : CtrOk P G f k) {args : List SV} (hr : k args [] = .ok (.bool true) []) {w : World} (hG : G w) :
    Calls P f (denL noρ args).toArray w (Ret w (.bool true)) := by
  have h := hk.2 args []
  rw [hr] at h
  refine (h ⟨w.heap.size, [], fun _ => False⟩ noρ w hG mrel_no).mono ?_
  rintro e w' ⟨ρ', v, rfl, hv, _, hbel, _⟩
  exact ⟨by rw [hv (by simp)]; rfl, grow_mk hbel⟩
/-- The same, of a contract that asks something. -/
theorem w_flat_t {P : Program} {G : World → Prop} {f : FuncId} {k : List SV → List Blk → Res} (hk : CtrOk P G f k) {args : List SV} {b : Bool} (hr : k args [] = .test b (.ok (.bool true) [])) (hb : b = true) {w : World} (hG : G w) :
    Calls P f (denL noρ args).toArray w (Ret w (.bool true)) := by
  have h := hk.2 args []
  rw [hr] at h
  refine (h hb ⟨w.heap.size, [], fun _ => False⟩ noρ w hG mrel_no).mono ?_
  rintro e w' ⟨ρ', v, rfl, hv, _, hbel, _⟩
  exact ⟨by rw [hv (by simp)]; rfl, grow_mk hbel⟩
theorem i64_has {n : Int} (h : IntKind.i64.min ≤ n ∧ n ≤ IntKind.i64.max) : (decide (-9223372036854775808 ≤ n) && decide (n ≤ 9223372036854775807)) = true := by
  have h1 : (-9223372036854775808 : Int) ≤ n := h.1
  have h2 : n ≤ 9223372036854775807 := h.2
  simp [h1, h2]
end Go.Sx
