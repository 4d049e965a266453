import Derived.Test.YtgfemfgimefmeaaGreatSpanM
import Derived.Test.YtgfemfgimefmeaaGreatTnumV
namespace Go.Proofs.YtgfemfgimefmeaaGreat
open Go.RowKit
set_option linter.unusedSimpArgs false
set_option linter.unusedVariables false
set_option maxHeartbeats 1000000
/-- A scalar: what is known of bits, of bounds. -/
structure Sc where
  t : Tn
  s : Sp
  deriving DecidableEq
@[reducible] def scv (x : Sc) : Go.Sx.SV := .agg [.u64 x.t.v, .u64 x.t.m, .u64 x.s.lo, .u64 x.s.hi, .int .i64 x.s.sl, .int .i64 x.s.sh]
namespace C
open R S
/-- The four rules, one behind the other: each makes narrower, or fails. -/
def r1 (x : Sc) : Sc := ⟨x.t, ⟨maxB x.s.lo x.t.v, minB x.s.hi (x.t.v ||| x.t.m), x.s.sl, x.s.sh⟩⟩
def ok1 (x : Sc) : Bool := decide ((r1 x).s.lo ≤ (r1 x).s.hi)
def r2 (x : Sc) : Sc := ⟨(T.meet x.t (T.range x.s.lo x.s.hi)).1, x.s⟩
def ok2 (x : Sc) : Bool := (T.meet x.t (T.range x.s.lo x.s.hi)).2
def top (x : Sc) : Bool := x.s.lo >>> 63 == x.s.hi >>> 63
def r3 (x : Sc) : Sc := if top x then ⟨x.t, ⟨x.s.lo, x.s.hi, maxI x.s.sl (sv x.s.lo), minI x.s.sh (sv x.s.hi)⟩⟩ else x
def ok3 (x : Sc) : Bool := decide ((r3 x).s.sl ≤ (r3 x).s.sh)
def sgn (x : Sc) : Bool := decide (x.s.sl < 0) == decide (x.s.sh < 0)
def r4 (x : Sc) : Sc := if sgn x then ⟨x.t, ⟨maxB x.s.lo (BitVec.ofInt 64 x.s.sl), minB x.s.hi (BitVec.ofInt 64 x.s.sh), x.s.sl, x.s.sh⟩⟩ else x
def ok4 (x : Sc) : Bool := decide ((r4 x).s.lo ≤ (r4 x).s.hi)
/-- All four. -/
def step (x : Sc) : Option Sc :=
  if ok1 x then if ok2 (r1 x) then if ok3 (r2 (r1 x)) then if ok4 (r3 (r2 (r1 x))) then some (r4 (r3 (r2 (r1 x)))) else none else none else none else none
/-- How much may be taken away still. -/
def mu (x : Sc) : Nat := (x.s.hi.toNat - x.s.lo.toNat) + (x.s.sh - x.s.sl).toNat + x.t.m.toNat
def togF : Nat → Sc → Option Sc
  | 0, _ => none
  | k + 1, x => match step x with
    | none => none
    | some y => if y = x then some x else togF k y
/-- Brought together. -/
def tog (x : Sc) : Option Sc := togF (mu x + 1) x
structure Good (x : Sc) : Prop where
  t : T.right x.t = true
  p : x.s.lo.toNat ≤ x.s.hi.toNat
  g : x.s.sl ≤ x.s.sh
  i : R.inS x.s = true
/-- What a rule leaves lies within. -/
structure Sub (y x : Sc) : Prop where
  lo : x.s.lo.toNat ≤ y.s.lo.toNat
  hi : y.s.hi.toNat ≤ x.s.hi.toNat
  sl : x.s.sl ≤ y.s.sl
  sh : y.s.sh ≤ x.s.sh
  t : T.leq y.t x.t = true
theorem Sub.trans {a b c : Sc} (h : Sub a b) (k : Sub b c) : Sub a c := ⟨Nat.le_trans k.lo h.lo, Nat.le_trans h.hi k.hi, Int.le_trans k.sl h.sl, Int.le_trans h.sh k.sh, T.leq_trans h.t k.t⟩
theorem Sub.refl {a : Sc} (h : T.right a.t = true) : Sub a a := ⟨Nat.le_refl _, Nat.le_refl _, Int.le_refl _, Int.le_refl _, T.leq_refl h⟩
theorem leq_right {a b : Tn} (h : T.leq a b = true) : T.right a = true ∧ T.right b = true := by
  unfold T.leq at h; simp only [Bool.and_eq_true] at h; exact ⟨h.1.1.1, h.1.1.2⟩
theorem leq_m {a b : Tn} (h : T.leq a b = true) : a.m.toNat ≤ b.m.toNat ∧ (a.m = b.m → a = b) := by
  have hb := T.leq_iff.1 h
  constructor
  · have : a.m = a.m &&& b.m := T.ext64 fun i hi => by
      have := hb i hi
      simp only [BitVec.getLsbD_and]
      revert this; cases a.m.getLsbD i <;> cases b.m.getLsbD i <;> simp
    rw [this, BitVec.toNat_and]; exact Nat.and_le_right
  · intro e
    apply T.ext
    · intro i hi
      have := hb i hi
      rw [e] at this
      revert this; cases a.v.getLsbD i <;> cases b.v.getLsbD i <;> cases b.m.getLsbD i <;> simp
    · intro i hi; rw [e]
theorem sc_ext {x y : Sc} (h1 : x.t = y.t) (h2 : x.s.lo.toNat = y.s.lo.toNat) (h3 : x.s.hi.toNat = y.s.hi.toNat) (h4 : x.s.sl = y.s.sl) (h5 : x.s.sh = y.s.sh) : x = y := by
  obtain ⟨t, a, b, c, d⟩ := x; obtain ⟨u, e, f, g, h⟩ := y
  simp only at h1 h2 h3 h4 h5
  subst h1; subst h4; subst h5
  rw [eq_toNat.2 h2, eq_toNat.2 h3]
/-- What is less has less to take away. -/
theorem mu_lt {x y : Sc} (h : Sub y x) (gy : Good y) (hne : y ≠ x) : mu y < mu x := by
  have h1 := h.lo; have h2 := h.hi; have h3 := h.sl; have h4 := h.sh
  have g1 := gy.p; have g2 := gy.g
  obtain ⟨h5, h6⟩ := leq_m h.t
  unfold mu
  by_cases e : x.s.lo.toNat = y.s.lo.toNat ∧ x.s.hi.toNat = y.s.hi.toNat ∧ x.s.sl = y.s.sl ∧ x.s.sh = y.s.sh
  · have hm : y.t.m.toNat ≠ x.t.m.toNat := fun hm => hne (sc_ext (h6 (eq_toNat.2 hm)) e.1.symm e.2.1.symm e.2.2.1.symm e.2.2.2.symm)
    omega
  · omega
theorem tog_eq {x : Sc} (hs : ∀ z, Good z → ∀ y, step z = some y → Sub y z ∧ Good y) : ∀ (k : Nat) (z : Sc), Good z → mu z < k → togF k z = tog z := by
  have key : ∀ n, ∀ (k l : Nat) (z : Sc), mu z ≤ n → Good z → mu z < k → mu z < l → togF k z = togF l z := by
    intro n
    induction n with
    | zero =>
      intro k l z hn gz hk hl
      obtain ⟨k', rfl⟩ : ∃ k', k = k' + 1 := ⟨k - 1, by omega⟩
      obtain ⟨l', rfl⟩ : ∃ l', l = l' + 1 := ⟨l - 1, by omega⟩
      simp only [togF]
      cases hst : step z with
      | none => rfl
      | some y =>
        simp only
        by_cases e : y = z
        · rw [if_pos e, if_pos e]
        · have := mu_lt (hs z gz y hst).1 (hs z gz y hst).2 e
          omega
    | succ n ih =>
      intro k l z hn gz hk hl
      obtain ⟨k', rfl⟩ : ∃ k', k = k' + 1 := ⟨k - 1, by omega⟩
      obtain ⟨l', rfl⟩ : ∃ l', l = l' + 1 := ⟨l - 1, by omega⟩
      simp only [togF]
      cases hst : step z with
      | none => rfl
      | some y =>
        simp only
        by_cases e : y = z
        · rw [if_pos e, if_pos e]
        · rw [if_neg e, if_neg e]
          have := mu_lt (hs z gz y hst).1 (hs z gz y hst).2 e
          exact ih k' l' y (by omega) (hs z gz y hst).2 (by omega) (by omega)
  intro k z gz hk
  exact key (mu z) k (mu z + 1) z (Nat.le_refl _) gz hk (by omega)
/-! The rules' laws. -/
theorem in_maxI {a b : Int} (ha : -9223372036854775808 ≤ a ∧ a ≤ 9223372036854775807) (hb : -9223372036854775808 ≤ b ∧ b ≤ 9223372036854775807) : -9223372036854775808 ≤ maxI a b ∧ maxI a b ≤ 9223372036854775807 := by rw [maxI_eq]; omega
theorem step_ok {z : Sc} (gz : Good z) {y : Sc} (h : step z = some y) : Sub y z ∧ Good y := by
  unfold step at h
  split at h
  · rename_i k1
    split at h
    · rename_i k2
      split at h
      · rename_i k3
        split at h
        · rename_i k4
          obtain rfl := Option.some.inj h
          have gi := inS_iff.1 gz.i
          have s1 : Sub (r1 z) z ∧ Good (r1 z) := by
            have h1 : (r1 z).s.lo.toNat ≤ (r1 z).s.hi.toNat := of_decide_eq_true k1
            refine ⟨⟨?_, ?_, Int.le_refl _, Int.le_refl _, T.leq_refl gz.t⟩, ⟨gz.t, h1, gz.g, gz.i⟩⟩
            · simp only [r1, maxB_nat]; omega
            · simp only [r1, minB_nat]; omega
          have s2 : Sub (r2 (r1 z)) (r1 z) ∧ Good (r2 (r1 z)) := by
            have hr : T.right (T.range (r1 z).s.lo (r1 z).s.hi) = true := by
              unfold ok2 T.meet at k2
              split at k2
              · cases k2
              · rename_i hc; simp at hc; exact hc.1.2
            have hl := (T.meet_leq s1.2.t hr k2).1
            exact ⟨⟨Nat.le_refl _, Nat.le_refl _, Int.le_refl _, Int.le_refl _, hl⟩, ⟨(leq_right hl).1, s1.2.p, s1.2.g, s1.2.i⟩⟩
          have s3 : Sub (r3 (r2 (r1 z))) (r2 (r1 z)) ∧ Good (r3 (r2 (r1 z))) := by
            generalize r2 (r1 z) = w at s2 k3 ⊢
            have gw := s2.2
            have gi := inS_iff.1 gw.i
            have h3 : (r3 w).s.sl ≤ (r3 w).s.sh := of_decide_eq_true k3
            have v1 := sv_in w.s.lo; have v2 := sv_in w.s.hi
            unfold r3 at h3 ⊢
            split
            · rename_i hc
              rw [if_pos hc] at h3
              simp only [maxI_eq, minI_eq] at h3
              refine ⟨⟨Nat.le_refl _, Nat.le_refl _, ?_, ?_, T.leq_refl gw.t⟩, ⟨gw.t, gw.p, ?_, inS_iff.2 ?_⟩⟩
              · simp only [maxI_eq]; omega
              · simp only [minI_eq]; omega
              · simp only [maxI_eq, minI_eq]; omega
              · simp only [maxI_eq, minI_eq]; omega
            · exact ⟨Sub.refl gw.t, gw⟩
          have s4 : Sub (r4 (r3 (r2 (r1 z)))) (r3 (r2 (r1 z))) ∧ Good (r4 (r3 (r2 (r1 z)))) := by
            generalize r3 (r2 (r1 z)) = w at s3 k4 ⊢
            have gw := s3.2
            have h4 : (r4 w).s.lo.toNat ≤ (r4 w).s.hi.toNat := of_decide_eq_true k4
            unfold r4 at h4 ⊢
            split
            · rename_i hc
              rw [if_pos hc] at h4
              simp only [maxB_nat, minB_nat] at h4
              refine ⟨⟨?_, ?_, Int.le_refl _, Int.le_refl _, T.leq_refl gw.t⟩, ⟨gw.t, ?_, gw.g, gw.i⟩⟩
              · simp only [maxB_nat]; omega
              · simp only [minB_nat]; omega
              · simp only [maxB_nat, minB_nat]; omega
            · exact ⟨Sub.refl gw.t, gw⟩
          exact ⟨((s4.1.trans s3.1).trans s2.1).trans s1.1, s4.2⟩
        · cases h
      · cases h
    · cases h
  · cases h
theorem tog_step {x : Sc} (gx : Good x) : tog x = match step x with | none => none | some y => if y = x then some x else tog y := by
  show togF (mu x + 1) x = _
  simp only [togF]
  cases hst : step x with
  | none => rfl
  | some y =>
    simp only
    by_cases e : y = x
    · rw [if_pos e, if_pos e]
    · rw [if_neg e, if_neg e]
      have h := step_ok gx hst
      exact tog_eq (x := x) (fun z gz y h => step_ok gz h) _ y h.2 (mu_lt h.1 h.2 e)
/-- What comes out is left as it is, lies within, and is good. -/
theorem tog_some : ∀ (n : Nat) (x y : Sc), mu x ≤ n → Good x → tog x = some y → step y = some y ∧ Sub y x ∧ Good y := by
  intro n
  induction n with
  | zero =>
    intro x y hn gx h
    rw [tog_step gx] at h
    cases hst : step x with
    | none => rw [hst] at h; cases h
    | some z =>
      rw [hst] at h
      simp only at h
      by_cases e : z = x
      · rw [if_pos e] at h; obtain rfl := Option.some.inj h; subst e; exact ⟨hst, Sub.refl gx.t, gx⟩
      · have := mu_lt (step_ok gx hst).1 (step_ok gx hst).2 e; omega
  | succ n ih =>
    intro x y hn gx h
    rw [tog_step gx] at h
    cases hst : step x with
    | none => rw [hst] at h; cases h
    | some z =>
      rw [hst] at h
      simp only at h
      by_cases e : z = x
      · rw [if_pos e] at h; obtain rfl := Option.some.inj h; subst e; exact ⟨hst, Sub.refl gx.t, gx⟩
      · rw [if_neg e] at h
        have hm := mu_lt (step_ok gx hst).1 (step_ok gx hst).2 e
        obtain ⟨h1, h2, h3⟩ := ih z y (by omega) (step_ok gx hst).2 h
        exact ⟨h1, h2.trans (step_ok gx hst).1, h3⟩
theorem tog_fix {x : Sc} (gx : Good x) (h : step x = some x) : tog x = some x := by
  rw [tog_step gx, h]; simp
end C
end Go.Proofs.YtgfemfgimefmeaaGreat
