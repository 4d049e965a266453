/- The symbolic executor: contracts of functions that read memory of their caller's. -/
import Derived.Test.YtnbcemeofhaogaaSxL
namespace Go.Sx
open Go.RowKit Go.Proofs.Ytnbcemeofhaogaa
set_option linter.unusedSimpArgs false
set_option linter.unusedVariables false

/-- What a callee sees of a block of its caller's. -/
def ViewB (σ : List Nat) (b : Blk) : Blk → Prop
  | .dead => True
  | .rc ty ys => ∃ xs, (b = .cells ty xs ∨ b = .rc ty xs) ∧ ∀ ρ, denL (renρ σ ρ) ys = denL ρ xs
  | .ro sz m g => ∃ m' g', eltB (some b) = some (sz, m', g') ∧ m ≤ m' ∧ ∀ i, i < m → g i = g' i
  | .fz sz m g => ∃ m' g', b = .fz sz m' g' ∧ m ≤ m' ∧ ∀ i, i < m → g i = g' i
  | _ => False
/-- What it sees of the memory: the blocks of these names. -/
def View (M : List Blk) (τ : List Nat) : List Nat → List Blk → Prop
  | n :: σ, c :: M0 => (∃ b, M[n]? = some b ∧ ViewB τ b c) ∧ View M τ σ M0
  | _, [] => True
  | [], _ :: _ => False
theorem View.get {M : List Blk} {τ : List Nat} : ∀ {σ : List Nat} {M0 : List Blk}, View M τ σ M0 → ∀ (i : Nat) (c : Blk), M0[i]? = some c → ∃ n b, σ[i]? = some n ∧ M[n]? = some b ∧ ViewB τ b c
  | _, [], _, i, c, h => by simp at h
  | [], _ :: _, hv, _, _, _ => hv.elim
  | n :: σ, d :: M0, hv, 0, c, h => by
    simp only [List.getElem?_cons_zero, Option.some.injEq] at h
    subst h
    obtain ⟨b, h1, h2⟩ := hv.1
    exact ⟨n, b, rfl, h1, h2⟩
  | n :: σ, d :: M0, hv, i + 1, c, h => by
    simp only [List.getElem?_cons_succ] at h ⊢
    exact View.get hv.2 i c h
theorem view_one {B : Bd} {ρ ρ0 : Val} {M : List Blk} {w : World} {σ : List Nat} {x : List Nat} {zz : Nat → Prop} (h : MRel B ρ M w) {i n : Nat} {b c : Blk} (hn : M[n]? = some b) (hb : ViewB σ b c) (e : ρ0 i = ρ n) (hz : ∀ k, ρ.z k → ρ0.z k) (hden : ∀ xs ys : List SV, denL (renρ σ ρ) ys = denL ρ xs → denL ρ0 ys = denL ρ xs)
    (hx : ∀ l, ρ n = some l → (∀ sz m g, eltB (some b) = some (sz, m, g) → 0 < m) → l.blk ∉ x) (hx2 : ∀ l ty xs, b = .cells ty xs ∨ b = .rc ty xs → ρ n = some l → l.blk ∉ x) : c.ok ⟨w.heap.size, x, zz⟩ ρ0 i w := by
  have hok := h.ok n b hn
  cases c with
  | dead => trivial
  | rc ty ys =>
    obtain ⟨xs, hbe, hd⟩ := hb
    have key : ∀ l : Loc, ρ n = some l → l.off = 0 → w.heap[l.blk]? = some (.cells (denL ρ xs).toArray ty (0, 0)) → (Blk.rc ty ys).ok ⟨w.heap.size, x, zz⟩ ρ0 i w := fun l hl h0 hh => by
      refine ⟨l, by rw [e]; exact hl, h0, fun hm => ?_, by rw [hden xs ys (hd ρ)]; exact hh⟩
      have hlt := (Array.getElem?_eq_some_iff.1 hh).1
      rcases hm with hx' | hx'
      · exact hx2 l ty xs hbe hl hx'
      · exact absurd hlt (Nat.not_lt_of_le hx')
    rcases hbe with rfl | rfl
    · obtain ⟨l, hl, h0, _, hh⟩ := hok
      exact key l hl h0 hh
    · obtain ⟨l, hl, h0, _, hh⟩ := hok
      exact key l hl h0 hh
  | ro sz m g =>
    obtain ⟨m', g', hk, hm, hg⟩ := hb
    by_cases h0 : 0 < m
    · exact ro_part (off := 0) h.size hok hk (by omega) (fun i hi => by rw [hg i hi, Nat.zero_add]) hz (by rw [e]; cases ρ n <;> simp) (fun l hl _ => hx l hl fun sz' m'' g'' hk' => by rw [hk] at hk'; simp only [Option.some.injEq, Prod.mk.injEq] at hk'; omega) (fun k hk => (h.zhi k hk).1)
    · obtain rfl : m = 0 := by omega
      exact ⟨fun _ => [], fun i hi => by omega, fun _ => rfl, fun l hl => ⟨Nat.zero_le _, fun h => by omega, fun i hi => by omega⟩⟩
  | fz sz m g =>
    obtain ⟨m', g', rfl, hm, hg⟩ := hb
    obtain ⟨q, hr, ho⟩ := hok
    refine ⟨q, fun i hi => by rw [hg i hi]; exact (hr i (by omega)).mono hz (fun _ _ => rfl), fun hn => ?_, fun l hl => ?_⟩
    · rw [e] at hn; have := ho.1 hn; omega
    · rw [e] at hl
      obtain ⟨q1, q2, q3⟩ := ho.2 l hl
      exact ⟨by omega, fun h => hz _ (q2 (by omega)), fun i hi => q3 i (by omega)⟩
  | cells => exact hb.elim
  | own => exact hb.elim
  | map => exact hb.elim
  | mix => exact hb.elim
  | fm => exact hb.elim
  | lp => exact hb.elim
theorem View.rel {B : Bd} {ρ : Val} {M M0 : List Blk} {w : World} {σ : List Nat} (h : MRel B ρ M w) (hv : View M σ σ M0) : MRel ⟨w.heap.size, [], ρ.z⟩ (renρ σ ρ) M0 w := by
  have own : ∀ (i : Nat) (c : Blk), M0[i]? = some c → c.isOwn = false := fun i c hc => by
    obtain ⟨n, b, _, _, hb⟩ := hv.get i c hc
    cases c <;> first | rfl | exact hb.elim
  refine ⟨Nat.le_refl _, fun i c hc => ?_, fun i j c d l k _ h1 _ o1 => (by rw [own i c h1] at o1; cases o1), zlt_sub h, fun _ h => h, fun k hk => ⟨(h.zhi k hk).1, .inl hk⟩, fun i c l hc ho => (by rw [own i c hc] at ho; cases ho), fun k hk => .inl hk⟩
  obtain ⟨n, b, hσ, hn, hb⟩ := hv.get i c hc
  exact view_one h hn hb (by simp [renρ, hσ]) (fun _ h => h) (fun _ _ h => h) (fun _ _ _ h => by cases h) (fun _ _ _ _ _ h => by cases h)

/-- The contract's inner part, of a function that reads some blocks of its caller's, and whose result names no block. σ: those blocks' names; args0, M0: the arguments and the memory as it knows them. -/
theorem ctr_sel {P : Program} {G : World → Prop} (hG : Stable G) {Γ : Env} (hΓ : EnvOk P G Γ) {f : FuncId} {fn : Func} (hf : P.funcs[f]? = some fn) (hb : fn.body.isSome = true) (hm : Okay P) (T : Tbl) (hT : codeOk T (bodyOf fn) = true) (n : Nat) (σ : List Nat) (args0 : List SV) (M0 : List Blk)
    {args : List SV} {M : List Blk} {sv : SV} (hargs : ∀ ρ, denL (renρ σ ρ) args0 = denL ρ args) (hsc : okSt args0 M0 = true) (hv : View M σ σ M0)
    (h : run P Γ n T 0 (bodyOf fn) (initF fn args0) M0 (retK P fn fun x _ => eqv x sv)) :
    ∀ (B : Bd) (ρ : Val) (w : World), G w → MRel B ρ M w → Calls P f (denL ρ args).toArray w fun e w' =>
      ∃ (ρ' : Val) (v : Value), e = .returned v ∧ (sv ≠ .junk → v = sv.den ρ') ∧ Val.Ext w.heap.size (fun n => ¬ (M.length ≤ n ∧ n < M.length + ([] : List Blk).length)) ρ ρ' ∧ Below w.heap.size w w' ∧ New B w.heap.size ρ' M.length [] w' := by
  intro B ρ w hGw hM
  have hrun := calls_run hG hΓ hf hb hm T hT n (M0 := M0) (ρ0 := renρ σ ρ) (args := args0) hGw hsc (View.rel hM hv) h
  rw [hargs] at hrun
  refine hrun.mono ?_
  rintro e w' ⟨ρ', x, M', rfl, hx, _, hw⟩
  exact ⟨ρ, _, rfl, fun _ => eqv_den hx ρ' ρ, Val.Ext.refl .., hw, new_none hM hw⟩
theorem okConsI {P : Program} {f : FuncId} {fn : Func} {T : Tbl} {l : List (FuncId × Func × Tbl)} (h1 : P.funcs[f]? = some fn) (h2 : fn.body.isSome = true) (h3 : codeOk T (bodyOf fn) = true) (h4 : ∀ (args : Array Value) (w : World), (callFunc f args).run P w = .ok (.enter f args) w) (t : ∀ p ∈ l, IterOk P p.1 p.2.1 p.2.2) : ∀ p ∈ (f, fn, T) :: l, IterOk P p.1 p.2.1 p.2.2 := by
  intro p hp
  cases hp with
  | head => exact ⟨h1, h2, h3, h4⟩
  | tail _ hp => exact t p hp
theorem okNilY {P : Program} {G : World → Prop} : ∀ p ∈ ([] : List (FuncId × YC)), YCtrOk P G p.1 p.2 := fun _ h => by cases h
theorem okConsY {P : Program} {G : World → Prop} {g : FuncId} {c : YC} {l : List (FuncId × YC)} (h : YCtrOk P G g c) (t : ∀ p ∈ l, YCtrOk P G p.1 p.2) : ∀ p ∈ (g, c) :: l, YCtrOk P G p.1 p.2
  | _, .head _ => h
  | _, .tail _ m => t _ m
theorem okNilI {P : Program} : ∀ p ∈ ([] : List (FuncId × Func × Tbl)), IterOk P p.1 p.2.1 p.2.2 := fun _ h => by cases h
theorem okNilP {P : Program} : ∀ p ∈ ([] : List (FuncId × (List SV → Option SV))), PrimOk P p.1 p.2 := fun _ h => by cases h
theorem okConsP {P : Program} {g : FuncId} {c : List SV → Option SV} {l : List (FuncId × (List SV → Option SV))} (h : PrimOk P g c) (t : ∀ p ∈ l, PrimOk P p.1 p.2) : ∀ p ∈ (g, c) :: l, PrimOk P p.1 p.2 := by
  intro p hp
  rcases List.mem_cons.1 hp with rfl | hp
  · exact h
  · exact t p hp
end Go.Sx
