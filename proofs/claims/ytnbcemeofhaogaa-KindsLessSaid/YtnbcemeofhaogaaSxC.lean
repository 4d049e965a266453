/- The symbolic executor: a chain of code, cut: what is behind the cut may be known as less. -/
import Derived.Test.YtnbcemeofhaogaaSxX
namespace Go.Sx
open Go.RowKit Go.Proofs.Ytnbcemeofhaogaa
set_option linter.unusedSimpArgs false
set_option linter.unusedVariables false
section
variable {P : Program} {G : World → Prop}
/-- What follows a cut: it forgets. -/
def forgetK (keep : List Nat) (Q : List SV → List Blk → Prop) (K : X → List SV → List Blk → Prop) : X → List SV → List Blk → Prop := fun e F' M' => match e with
  | .normal => ∃ (σ : List Nat) (M1 : List Blk), nodN σ = true ∧ MLe (renMs M' σ σ) M1 ∧ okSt (renFL σ (pickF F' keep)) M1 = true ∧ Q (spreadF (junkF F'.length) keep (renFL σ (pickF F' keep))) M1
  | e => K e F' M'
theorem codeOk_drop {T : Tbl} : ∀ (k : Nat) (c : Code), chainB k c = true → codeOk T c = true → codeOk T (dropC k c) = true
  | 0, _, _, h => h
  | k + 1, c, hc, h => by
    cases c with
    | seq a b =>
      simp only [codeOk, Bool.and_eq_true] at h
      exact codeOk_drop k b hc h.2
    | _ => cases hc
theorem cut_sound (hm : Okay P) {Γ : Env} (hΓ : EnvOk P G Γ) {T : Tbl} {K : X → List SV → List Blk → Prop} {Q : List SV → List Blk → Prop} {keep : List Nat} {B : Bd} {w0 : World} {L : LD} {ro : Option Nat}
    (hG : ∀ w', Kept B w0 w' → G w') (hBs : B.s ≤ w0.heap.size) (hro : ∀ l, ro = some l → ∃ r, w0.heap[l]? = some (Obj.loop r)) :
    ∀ (k n : Nat) (c : Code) (F : List SV) (M : List Blk) (ρ : Val) (a : Act) (w : World), codeOk T c = true → chainB k c = true → run P Γ (n + k + 1) T 0 (takeC k c) F M (forgetK keep Q K) → Rel B w0 L ρ F M a w →
      (∀ F1 M1 ρ1 a1 w1, Q F1 M1 → Rel B w0 L ρ1 F1 M1 a1 w1 → wpV ro P (dropC k c) (Post B w0 L ρ1 0 K) a1 w1) → wpV ro P c (Post B w0 L ρ 0 K) a w
  | 0, n, c, F, M, ρ, a, w, hT, hc, h, hR, hQ => by
    have h' : forgetK keep Q K .normal F M := h
    obtain ⟨σ, M1, h1, h2, h3, h4⟩ := h'
    obtain ⟨zz, hcut⟩ := hR.recut (nodN_iff h1) h2 h3
    have hl : F.length = L.n := hR.len
    rw [hl] at h4
    refine V_mono (hQ _ _ _ _ _ h4 hcut) ?_
    rintro e a' w' ⟨x', F', M', ρ', rfl, hR', hz', _, hK⟩
    exact ⟨x', F', M', ρ', rfl, hR', hz', fun n hn => absurd hn (Nat.not_lt_zero n), hK⟩
  | k + 1, n, c, F, M, ρ, a, w, hT, hc, h, hR, hQ => by
    cases c with
    | seq x y =>
      simp only [codeOk, Bool.and_eq_true] at hT
      have h' : run P Γ (n + k + 1) T 0 x F M (fun e F' M' => match e with
        | .normal => run P Γ (n + k + 1) T 0 (takeC k y) F' M' (forgetK keep Q K)
        | e => forgetK keep Q K e F' M') := by
        have h2 : run P Γ (n + k + 1 + 1) T 0 (.seq x (takeC k y)) F M (forgetK keep Q K) := h
        rw [run_succ] at h2
        exact h2
      refine V_seq (V_mono (run_sound hm hΓ (n + k + 1) T 0 x F M _ ρ a w B w0 L ro hG hBs hro hT.1 (Nat.zero_le _) h' hR) ?_)
      rintro e a' w' ⟨x', F', M', ρ', rfl, hR', hz', hρ', hK⟩
      cases x' with
      | normal =>
        refine V_mono (cut_sound hm hΓ hG hBs hro k n y F' M' ρ' a' w' hT.2 hc hK hR' hQ) ?_
        rintro e a'' w'' ⟨x'', F'', M'', ρ'', rfl, hR'', hz'', _, hK'⟩
        exact ⟨x'', F'', M'', ρ'', rfl, hR'', hz'', fun n hn => absurd hn (Nat.not_lt_zero n), hK'⟩
      | exit id => exact ⟨.exit id, F', M', ρ', rfl, hR', hz', fun n hn => absurd hn (Nat.not_lt_zero n), hK⟩
      | panic v => exact ⟨.panic v, F', M', ρ', rfl, hR', hz', fun n hn => absurd hn (Nat.not_lt_zero n), hK⟩
      | ret => exact ⟨.ret, F', M', ρ', rfl, hR', hz', fun n hn => absurd hn (Nat.not_lt_zero n), hK⟩
    | _ => cases hc
/-- A walk in pieces: after so many links, with so much fuel, these slots are kept. -/
def runs (P : Program) (Γ : Env) : List (Nat × Nat × List Nat) → RunT
  | [] => fun T z c F M K => z = 0 ∧ run P Γ 10000 T 0 c F M K
  | (k, n, keep) :: l => fun T z c F M K => z = 0 ∧ chainB k c = true ∧ run P Γ (n + k + 1) T 0 (takeC k c) F M (forgetK keep (fun F1 M1 => runs P Γ l T 0 (dropC k c) F1 M1 K) K)
theorem runs_sound (hm : Okay P) {Γ : Env} (hΓ : EnvOk P G Γ) : ∀ l, SoundAt P G (runs P Γ l)
  | [] => by
    intro T z c F M K ρ a w B w0 L ro hG hBs hro hT hz h hR
    obtain ⟨rfl, h⟩ := h
    exact run_sound hm hΓ 10000 T 0 c F M K ρ a w B w0 L ro hG hBs hro hT hz h hR
  | (k, n, keep) :: l => by
    intro T z c F M K ρ a w B w0 L ro hG hBs hro hT hz h hR
    obtain ⟨rfl, hc, h⟩ := h
    exact cut_sound hm hΓ hG hBs hro k n c F M ρ a w hT hc h hR fun F1 M1 ρ1 a1 w1 hq hR1 =>
      runs_sound hm hΓ l T 0 (dropC k c) F1 M1 K ρ1 a1 w1 B w0 L ro hG hBs hro (codeOk_drop k c hc hT) (Nat.zero_le _) hq hR1
/-- A function that is walked in pieces. -/
theorem calls_runs {Γ : Env} (hG : Stable G) (hΓ : EnvOk P G Γ) {f : FuncId} {fn : Func} (hf : P.funcs[f]? = some fn) (hb : fn.body.isSome = true) (hm : Okay P) (T : Tbl) (hT : codeOk T (bodyOf fn) = true) (l : List (Nat × Nat × List Nat)) {args : List SV} {M0 : List Blk} {ρ0 : Val} {w : World} {Φ : SV → List Blk → Prop}
    {z : Nat → Prop} (hGw : G w) (hsc : okSt args M0 = true) (hM : MRel ⟨w.heap.size, [], z⟩ ρ0 M0 w) (h : runs P Γ l T 0 (bodyOf fn) (initF fn args) M0 (retK P fn Φ)) :
    Calls P f (denL ρ0 args).toArray w fun e w' => ∃ (ρ' : Val) (sv : SV) (M : List Blk), e = .returned (sv.den ρ') ∧ Φ sv M ∧ MRel ⟨w.heap.size, [], z⟩ ρ' M w' ∧ Below w.heap.size w w' := by
  have := body_sound (runs_sound hm hΓ l) hf hb hT (fun w1 h1 => hG w w1 hGw (h1.below rfl)) hsc hM (Nat.zero_le _) h (fun x F M hK => ⟨(retK_is hK).1, let ⟨sv, h1, _⟩ := (retK_is hK).2; ⟨sv, h1⟩⟩)
  refine (callsIn_wide (n := 0).1 this).mono ?_
  rintro e w' ⟨ρ', sv, x, F', M', rfl, hsv, hK, hM', hsc', hk, hz', hρ'⟩
  obtain ⟨_, sv', h1, h2⟩ := retK_is hK
  obtain rfl : sv = sv' := by rw [hsv] at h1; exact Option.some.inj h1
  exact ⟨ρ', sv, M', rfl, h2, hM', hk.below rfl⟩
/-- The slots behind a cut, when only some are known. -/
theorem use_forget {keep : List Nat} {Q : List SV → List Blk → Prop} {K : X → List SV → List Blk → Prop} {F : List SV} {M M1 : List Blk} (σ : List Nat) (h1 : nodN σ = true) (h2 : MLe (renMs M σ σ) M1) (h3 : okSt (renFL σ (pickF F keep)) M1 = true) {vals : List SV} (hv : renFL σ (pickF F keep) = vals) {n : Nat} (hn : F.length = n) (h4 : Q (spreadF (junkF n) keep vals) M1) : forgetK keep Q K .normal F M :=
  ⟨σ, M1, h1, h2, h3, by rw [hn, hv]; exact h4⟩
end
end Go.Sx
