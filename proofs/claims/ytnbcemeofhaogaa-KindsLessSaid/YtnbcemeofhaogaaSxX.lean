/- The symbolic executor: a chain of code, cut: first its head, then what follows, whatever that is. -/
import Derived.Test.YtnbcemeofhaogaaSx11
namespace Go.Sx
open Go.RowKit Go.Proofs.Ytnbcemeofhaogaa
set_option linter.unusedSimpArgs false
set_option linter.unusedVariables false
def takeC : Nat → Code → Code
  | 0, _ => .skip
  | k + 1, c => match c with
    | .seq a b => .seq a (takeC k b)
    | c => c
def dropC : Nat → Code → Code
  | 0, c => c
  | k + 1, c => match c with
    | .seq _ b => dropC k b
    | _ => .skip
def chainB : Nat → Code → Bool
  | 0, _ => true
  | k + 1, c => match c with
    | .seq _ b => chainB k b
    | _ => false
section
variable {P : Program} {Γ : Env} {T : Tbl} {z : Nat}
/-- What follows the head of a chain. -/
def thenK (P : Program) (Γ : Env) (n : Nat) (T : Tbl) (z : Nat) (c : Code) (K : X → List SV → List Blk → Prop) : X → List SV → List Blk → Prop := fun e F' M' => match e with
  | .normal => run P Γ n T z c F' M' K
  | e => K e F' M'
theorem run_take : ∀ (k n : Nat) (c : Code) (F : List SV) (M : List Blk) (K : X → List SV → List Blk → Prop), chainB k c = true → run P Γ (n + k + 1) T z (takeC k c) F M (thenK P Γ (n + 1) T z (dropC k c) K) = run P Γ (n + k + 1) T z c F M K
  | 0, n, c, F, M, K, _ => rfl
  | k + 1, n, c, F, M, K, h => by
    cases c with
    | seq a b =>
      have ih := fun F' M' => run_take k n b F' M' K h
      show run P Γ (n + k + 1 + 1) T z (.seq a (takeC k b)) F M (thenK P Γ (n + 1) T z (dropC k b) K) = run P Γ (n + k + 1 + 1) T z (.seq a b) F M K
      rw [run_succ, run_succ]
      simp only [stepC]
      congr 1
      funext e F' M'
      cases e with
      | normal => exact ih F' M'
      | exit id => rfl
      | panic v => rfl
      | ret => rfl
    | _ => cases h
/-- A chain is gone through in two. -/
theorem run_cut (k n : Nat) {N : Nat} {c : Code} {F : List SV} {M : List Blk} {K : X → List SV → List Blk → Prop} (hN : N = n + k + 1) (hc : chainB k c = true) (h : run P Γ N T z (takeC k c) F M (thenK P Γ (n + 1) T z (dropC k c) K)) : run P Γ N T z c F M K := by
  subst hN
  rw [← run_take k n c F M K hc]; exact h
end
end Go.Sx
namespace Go.Sx
/-- A state of which only some slots are known. -/
def assocS : List (Nat × SV) → Nat → SV → SV
  | [], _, d => d
  | (j, v) :: l, i, d => match Nat.beq j i with
    | true => v
    | false => assocS l i d
def mkFrom (live : List (Nat × SV)) (d : Nat → SV) : Nat → Nat → List SV
  | 0, _ => []
  | n + 1, i => assocS live i (d i) :: mkFrom live d n (i + 1)
/-- Are they so? -/
def LiveOk (F : List SV) : List (Nat × SV) → Prop
  | [] => True
  | (j, v) :: l => nth F j = some v ∧ LiveOk F l
theorem assocS_ok {F : List SV} : ∀ (live : List (Nat × SV)), LiveOk F live → ∀ i x, nth F i = some x → assocS live i x = x
  | [], _, i, x, _ => rfl
  | (j, v) :: l, h, i, x, hx => by
    unfold assocS
    split
    · rename_i hb
      obtain rfl := Nat.eq_of_beq_eq_true hb
      have := h.1
      rw [hx] at this
      exact (Option.some.inj this).symm
    · exact assocS_ok l h.2 i x hx
theorem mkFrom_ok {F : List SV} {live : List (Nat × SV)} (h : LiveOk F live) : ∀ (n i : Nat), i + n = F.length → mkFrom live (fun i => (nth F i).getD .junk) n i = F.drop i
  | 0, i, hi => by rw [List.drop_eq_nil_of_le (by omega)]; rfl
  | n + 1, i, hi => by
    have hlt : i < F.length := by omega
    have e : nth F i = some F[i] := by rw [nth_eq]; exact List.getElem?_eq_getElem hlt
    rw [List.drop_eq_getElem_cons hlt]
    show assocS live i ((nth F i).getD .junk) :: mkFrom live _ n (i + 1) = _
    rw [mkFrom_ok h n (i + 1) (by omega), e]
    congr 1
    exact assocS_ok live h i _ e
theorem use_live {K : X → List SV → List Blk → Prop} {n : Nat} {live : List (Nat × SV)} {M : List Blk} (hK : ∀ d : Nat → SV, K .normal (mkFrom live d n 0) M) {F : List SV} (hn : n = F.length) (h : LiveOk F live) : K .normal F M := by
  have := hK fun i => (nth F i).getD .junk
  rw [mkFrom_ok h n 0 (by omega)] at this
  exact this
section
variable {P : Program} {Γ : Env} {T : Tbl} {z : Nat}
theorem then_cut (k n : Nat) {N : Nat} {c : Code} {F : List SV} {M : List Blk} {K : X → List SV → List Blk → Prop} (hN : N = n + k + 1) (hc : chainB k c = true) (h : run P Γ N T z (takeC k c) F M (thenK P Γ (n + 1) T z (dropC k c) K)) : thenK P Γ N T z c K .normal F M := run_cut k n hN hc h
end
end Go.Sx
