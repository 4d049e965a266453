import Derived.Test.YtaickooakoikaaaDoorSxL
/-! Contracts that return a new row. -/
namespace Go.Sx
open Go.RowKit
set_option linter.unusedSimpArgs false
set_option linter.unusedVariables false
/-- What a function tells that returns a new row: its run's own name of it counts for nothing. -/
def newRow (ty sz m : Nat) (g : Nat → List FV) (x : SV) (M : List Blk) : Prop := ∃ k g', x = .sl k sz 0 m ∧ M[k]? = some (.own ty sz m g') ∧ ∀ i, i < m → g i = g' i
theorem Blk.ok_own_congr {B : Bd} {ρ ρ' : Val} {n n' : Nat} {w : World} {ty sz m : Nat} {g g' : Nat → List FV} (h : (Blk.own ty sz m g').ok B ρ n w) (hρ : ρ' n' = ρ n) (hg : ∀ i, i < m → g i = g' i) {B' : Bd} (hB : ∀ k, B.may k → B'.may k) : (Blk.own ty sz m g).ok B' ρ' n' w := by
  obtain ⟨h1, h2⟩ := h
  have hf : flatG m g = flatG m g' := by
    unfold flatG
    rw [List.flatMap_def, List.flatMap_def]
    congr 1
    apply List.map_congr_left
    intro i hi
    rw [hg i (by simpa using hi)]
  refine ⟨fun i hi => by rw [hg i hi]; exact h1 i hi, ?_⟩
  rw [hρ, hf]
  rcases h2 with h2 | ⟨l, cur, a1, a2, a3, a4⟩
  · exact .inl h2
  · exact .inr ⟨l, cur, a1, a2, hB _ a3, a4⟩
theorem ctr_new {P : Program} {G : World → Prop} (hG : Stable G) {Γ : Env} (hΓ : EnvOk P G Γ) {f : FuncId} {fn : Func} (hf : P.funcs[f]? = some fn) (hb : fn.body.isSome = true) (hm : P.follows .mixedOrders = true) (T : Tbl) (hT : codeOk T (bodyOf fn) = true) (n : Nat)
    {args : List SV} {M : List Blk} {ty sz m : Nat} {g : Nat → List FV} (hsc : scL (fun _ => false) args = true)
    (h : run P Γ n T 0 (bodyOf fn) (initF fn args) [] (retK P fn (newRow ty sz m g))) :
    ∀ (B : Bd) (ρ : Val) (w : World), G w → MRel B ρ M w → Calls P f (denL ρ args).toArray w fun e w' =>
      ∃ (ρ' : Val) (v : Value), e = .returned v ∧ (SV.sl M.length sz 0 m ≠ .junk → v = (SV.sl M.length sz 0 m).den ρ') ∧ (∀ n, ¬ (M.length ≤ n ∧ n < M.length + [Blk.own ty sz m g].length) → ρ' n = ρ n) ∧ Below w.heap.size w w' ∧ New B w.heap.size ρ' M.length [.own ty sz m g] w' := by
  intro B ρ w hGw hM
  have hden : denL (fun _ => none) args = denL ρ args := denL_congr (p := fun _ => false) (fun n hn => by cases hn) args hsc
  have hrun := calls_run hG hΓ hf hb hm T hT n (M0 := []) (ρ0 := fun _ => none) (args := args) hGw (by simp [okSt, scAll]; exact scL_mono (fun n hn => by cases hn) _ hsc) (MRel.nil _ (Nat.le_refl _)) h
  rw [hden] at hrun
  refine hrun.mono ?_
  rintro e w' ⟨ρ1, x, M', rfl, ⟨k, g', rfl, hk, hg⟩, hM', hw⟩
  have hok := hM'.ok k _ hk
  refine ⟨fun i => if i = M.length then ρ1 k else ρ i, _, rfl, fun _ => ?_, fun i hi => ?_, hw, ?_⟩
  · simp [SV.den]
  · have : i ≠ M.length := fun e => hi ⟨by omega, by simp; omega⟩
    simp [this]
  · refine ⟨fun j b hj => ?_, fun j b l hj ho hl => ?_, fun i j b c l k hne h1 h2 => ?_⟩
    · cases j with
      | zero =>
        simp at hj; subst hj
        refine Blk.ok_own_congr hok (by simp) hg fun q hq => ?_
        rcases hq with hq | hq
        · cases hq
        · exact .inr (Nat.le_trans hM.size hq)
      | succ j => simp at hj
    · cases j with
      | zero =>
        simp at hj; subst hj
        simp at hl
        obtain ⟨_, h2⟩ := hok
        rcases h2 with ⟨h3, _⟩ | ⟨l', cur, a1, a2, a3, a4⟩
        · rw [h3] at hl; cases hl
        · rw [a1] at hl
          obtain rfl := Option.some.inj hl
          rcases a3 with hq | hq
          · cases hq
          · exact hq
      | succ j => simp at hj
    · cases i with
      | zero => cases j with
        | zero => exact absurd rfl hne
        | succ j => simp at h2
      | succ i => simp at h1
end Go.Sx
