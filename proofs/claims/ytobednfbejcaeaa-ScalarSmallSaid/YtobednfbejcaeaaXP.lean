import Derived.Test.YtobednfbejcaeaaSxX
import Derived.Test.YtobednfbejcaeaaX9
namespace Go.Proofs.Ytobednfbejcaeaa
open Go.RowKit Go.Sx
set_option linter.unusedSimpArgs false
set_option linter.unusedVariables false
set_option linter.unnecessarySimpa false
set_option maxRecDepth 100000
set_option maxHeartbeats 4000000
def fl : Nat → Bool → SV
  | 0, _ => .ff
  | 1, _ => .tt
  | _, b => .bool b
def flv : Nat → Bool → Bool
  | 0, _ => false
  | 1, _ => true
  | _, b => b
def cL (c : Code) : Code := match c with
  | .seq a _ => a
  | c => c
def cR (c : Code) : Code := match c with
  | .seq _ b => b
  | c => c
def cB (c : Code) : Code := match c with
  | .block _ b => b
  | c => c
def cP (c : Code) : Code := match c with
  | .loop b => b
  | c => c
attribute [local irreducible] C.hasb C.right C.of R.inS
theorem body8_0 {N : Nat} {K : X → List SV → List Blk → Prop} (j a b c : Int) (w : Nat) (tv tm sa sb : BitVec 64) (sc sd : Int) (X : Sc × Bool) (f : Bool) (iX : R.inS X.1.s = true) (hs : decide ((w : Int) < 8) = true → ((Go.bits .andNot .i64 (w : Int) (sv tm) == sv tv) && (decide (a ≤ (w : Int)) && (decide ((w : Int) ≤ b) && decide (c ≤ (w : Int))))) = (X.2 && C.hasb X.1 (BitVec.ofInt 64 (w : Int)))) (hf : flv 0 f = true → X.2 = true)
    (hN : ∀ (F : List SV) (q : Nat) (g : Bool), (flv q g = true → X.2 = true) → LiveOk F [(1, .int .i64 j), (2, .ptr 0 0), (3, .int .i64 a), (4, .int .i64 b), (5, .int .i64 c), (6, .ptr 1 0), (7, .ptr 2 0), (8, .bool X.2), (9, fl q g), (10, .int .i64 (IntKind.i64.wrap ((w : Int) + 1)))] → 126 = F.length → decide ((w : Int) < 8) = true → K .normal F [.cells 25 [.u64 tv, .u64 tm], .cells 27 [.u64 sa, .u64 sb, .int .i64 sc, .int .i64 sd], .cells 29 [.u64 X.1.t.v, .u64 X.1.t.m, .u64 X.1.s.lo, .u64 X.1.s.hi, .int .i64 X.1.s.sl, .int .i64 X.1.s.sh]])
    (hE : ∀ F : List SV, LiveOk F [(1, .int .i64 j), (2, .ptr 0 0), (3, .int .i64 a), (4, .int .i64 b), (5, .int .i64 c), (6, .ptr 1 0), (7, .ptr 2 0), (8, .bool X.2), (9, fl 0 f), (10, .int .i64 (w : Int))] → 126 = F.length → decide ((w : Int) < 8) = false → K (.exit 8) F [.cells 25 [.u64 tv, .u64 tm], .cells 27 [.u64 sa, .u64 sb, .int .i64 sc, .int .i64 sd], .cells 29 [.u64 X.1.t.v, .u64 X.1.t.m, .u64 X.1.s.lo, .u64 X.1.s.hi, .int .i64 X.1.s.sl, .int .i64 X.1.s.sh]])  {c0 : Code} {F0 : List SV} {M0 : List Blk} {N0 : Nat} (ec : c0 = cP (cB (cR (cL (cR (cR (cR (cB (cL (cR (cP (cB (cR (cB (cL (cR (cP (cB (cR (cB (cL (cR (cP (cB (cR (cR (cR (cB (cL (cR (cP (cB (cR (cL (cR (cR (bodyOf Try.f3))))))))))))))))))))))))))))))))))))) (eF : F0 = spreadF (junkF 126) [1, 2, 3, 4, 5, 6, 7, 8, 9, 10] [.int .i64 j, .ptr 0 0, .int .i64 a, .int .i64 b, .int .i64 c, .ptr 1 0, .ptr 2 0, .bool X.2, .ff, .int .i64 (w : Int)]) (eM : M0 = [.cells 25 [.u64 tv, .u64 tm], .cells 27 [.u64 sa, .u64 sb, .int .i64 sc, .int .i64 sd], .cells 29 [.u64 X.1.t.v, .u64 X.1.t.m, .u64 X.1.s.lo, .u64 X.1.s.hi, .int .i64 X.1.s.sl, .int .i64 X.1.s.sh]]) (eN : N0 = N + 60) : run Try.prog ⟨[(8, k_awake), (9, k_Of), (10, k_cHas), (11, k_cRight)], eqs, [], [], []⟩ N0 [] 0 c0 F0 M0 K := by
  subst ec eF eM eN
  simp only [flv] at hf
  (conv => whnf)
  (repeat' (first | (refine And.intro (fun hb => ?_) (fun hb => ?_) <;> (first | contradiction | (conv => whnf))) | (refine And.intro (a := (_ : Bool) = true) ?_ ?_; rotate_left 1; (conv => whnf))))
  all_goals try (first | rfl | trivial | assumption)
  all_goals try (replace hs := hs (by assumption))
  all_goals first
    | exact hE _ ⟨rfl, rfl, rfl, rfl, rfl, rfl, rfl, rfl, rfl, rfl, trivial⟩ rfl (by assumption)
    | exact hN _ 0 false (fun h => by cases h) ⟨rfl, rfl, rfl, rfl, rfl, rfl, rfl, rfl, rfl, rfl, trivial⟩ rfl (by assumption)
    | exact hN _ 1 false (fun _ => by first | exact hf trivial | exact hf rfl | exact hf (by assumption)) ⟨rfl, rfl, rfl, rfl, rfl, rfl, rfl, rfl, rfl, rfl, trivial⟩ rfl (by assumption)
    | exact hN _ 2 _ (fun h => by simp only [flv] at h; simp_all) ⟨rfl, rfl, rfl, rfl, rfl, rfl, rfl, rfl, rfl, rfl, trivial⟩ rfl (by assumption)
    | (exfalso; simp_all <;> omega)
theorem body8_1 {N : Nat} {K : X → List SV → List Blk → Prop} (j a b c : Int) (w : Nat) (tv tm sa sb : BitVec 64) (sc sd : Int) (X : Sc × Bool) (f : Bool) (iX : R.inS X.1.s = true) (hs : decide ((w : Int) < 8) = true → ((Go.bits .andNot .i64 (w : Int) (sv tm) == sv tv) && (decide (a ≤ (w : Int)) && (decide ((w : Int) ≤ b) && decide (c ≤ (w : Int))))) = (X.2 && C.hasb X.1 (BitVec.ofInt 64 (w : Int)))) (hf : flv 1 f = true → X.2 = true)
    (hN : ∀ (F : List SV) (q : Nat) (g : Bool), (flv q g = true → X.2 = true) → LiveOk F [(1, .int .i64 j), (2, .ptr 0 0), (3, .int .i64 a), (4, .int .i64 b), (5, .int .i64 c), (6, .ptr 1 0), (7, .ptr 2 0), (8, .bool X.2), (9, fl q g), (10, .int .i64 (IntKind.i64.wrap ((w : Int) + 1)))] → 126 = F.length → decide ((w : Int) < 8) = true → K .normal F [.cells 25 [.u64 tv, .u64 tm], .cells 27 [.u64 sa, .u64 sb, .int .i64 sc, .int .i64 sd], .cells 29 [.u64 X.1.t.v, .u64 X.1.t.m, .u64 X.1.s.lo, .u64 X.1.s.hi, .int .i64 X.1.s.sl, .int .i64 X.1.s.sh]])
    (hE : ∀ F : List SV, LiveOk F [(1, .int .i64 j), (2, .ptr 0 0), (3, .int .i64 a), (4, .int .i64 b), (5, .int .i64 c), (6, .ptr 1 0), (7, .ptr 2 0), (8, .bool X.2), (9, fl 1 f), (10, .int .i64 (w : Int))] → 126 = F.length → decide ((w : Int) < 8) = false → K (.exit 8) F [.cells 25 [.u64 tv, .u64 tm], .cells 27 [.u64 sa, .u64 sb, .int .i64 sc, .int .i64 sd], .cells 29 [.u64 X.1.t.v, .u64 X.1.t.m, .u64 X.1.s.lo, .u64 X.1.s.hi, .int .i64 X.1.s.sl, .int .i64 X.1.s.sh]])  {c0 : Code} {F0 : List SV} {M0 : List Blk} {N0 : Nat} (ec : c0 = cP (cB (cR (cL (cR (cR (cR (cB (cL (cR (cP (cB (cR (cB (cL (cR (cP (cB (cR (cB (cL (cR (cP (cB (cR (cR (cR (cB (cL (cR (cP (cB (cR (cL (cR (cR (bodyOf Try.f3))))))))))))))))))))))))))))))))))))) (eF : F0 = spreadF (junkF 126) [1, 2, 3, 4, 5, 6, 7, 8, 9, 10] [.int .i64 j, .ptr 0 0, .int .i64 a, .int .i64 b, .int .i64 c, .ptr 1 0, .ptr 2 0, .bool X.2, .tt, .int .i64 (w : Int)]) (eM : M0 = [.cells 25 [.u64 tv, .u64 tm], .cells 27 [.u64 sa, .u64 sb, .int .i64 sc, .int .i64 sd], .cells 29 [.u64 X.1.t.v, .u64 X.1.t.m, .u64 X.1.s.lo, .u64 X.1.s.hi, .int .i64 X.1.s.sl, .int .i64 X.1.s.sh]]) (eN : N0 = N + 60) : run Try.prog ⟨[(8, k_awake), (9, k_Of), (10, k_cHas), (11, k_cRight)], eqs, [], [], []⟩ N0 [] 0 c0 F0 M0 K := by
  subst ec eF eM eN
  simp only [flv] at hf
  (conv => whnf)
  (repeat' (first | (refine And.intro (fun hb => ?_) (fun hb => ?_) <;> (first | contradiction | (conv => whnf))) | (refine And.intro (a := (_ : Bool) = true) ?_ ?_; rotate_left 1; (conv => whnf))))
  all_goals try (first | rfl | trivial | assumption)
  all_goals try (replace hs := hs (by assumption))
  all_goals first
    | exact hE _ ⟨rfl, rfl, rfl, rfl, rfl, rfl, rfl, rfl, rfl, rfl, trivial⟩ rfl (by assumption)
    | exact hN _ 0 false (fun h => by cases h) ⟨rfl, rfl, rfl, rfl, rfl, rfl, rfl, rfl, rfl, rfl, trivial⟩ rfl (by assumption)
    | exact hN _ 1 false (fun _ => by first | exact hf trivial | exact hf rfl | exact hf (by assumption)) ⟨rfl, rfl, rfl, rfl, rfl, rfl, rfl, rfl, rfl, rfl, trivial⟩ rfl (by assumption)
    | exact hN _ 2 _ (fun h => by simp only [flv] at h; simp_all) ⟨rfl, rfl, rfl, rfl, rfl, rfl, rfl, rfl, rfl, rfl, trivial⟩ rfl (by assumption)
    | (exfalso; simp_all <;> omega)
theorem body8_2 {N : Nat} {K : X → List SV → List Blk → Prop} (j a b c : Int) (w : Nat) (tv tm sa sb : BitVec 64) (sc sd : Int) (X : Sc × Bool) (f : Bool) (iX : R.inS X.1.s = true) (hs : decide ((w : Int) < 8) = true → ((Go.bits .andNot .i64 (w : Int) (sv tm) == sv tv) && (decide (a ≤ (w : Int)) && (decide ((w : Int) ≤ b) && decide (c ≤ (w : Int))))) = (X.2 && C.hasb X.1 (BitVec.ofInt 64 (w : Int)))) (hf : flv 2 f = true → X.2 = true)
    (hN : ∀ (F : List SV) (q : Nat) (g : Bool), (flv q g = true → X.2 = true) → LiveOk F [(1, .int .i64 j), (2, .ptr 0 0), (3, .int .i64 a), (4, .int .i64 b), (5, .int .i64 c), (6, .ptr 1 0), (7, .ptr 2 0), (8, .bool X.2), (9, fl q g), (10, .int .i64 (IntKind.i64.wrap ((w : Int) + 1)))] → 126 = F.length → decide ((w : Int) < 8) = true → K .normal F [.cells 25 [.u64 tv, .u64 tm], .cells 27 [.u64 sa, .u64 sb, .int .i64 sc, .int .i64 sd], .cells 29 [.u64 X.1.t.v, .u64 X.1.t.m, .u64 X.1.s.lo, .u64 X.1.s.hi, .int .i64 X.1.s.sl, .int .i64 X.1.s.sh]])
    (hE : ∀ F : List SV, LiveOk F [(1, .int .i64 j), (2, .ptr 0 0), (3, .int .i64 a), (4, .int .i64 b), (5, .int .i64 c), (6, .ptr 1 0), (7, .ptr 2 0), (8, .bool X.2), (9, fl 2 f), (10, .int .i64 (w : Int))] → 126 = F.length → decide ((w : Int) < 8) = false → K (.exit 8) F [.cells 25 [.u64 tv, .u64 tm], .cells 27 [.u64 sa, .u64 sb, .int .i64 sc, .int .i64 sd], .cells 29 [.u64 X.1.t.v, .u64 X.1.t.m, .u64 X.1.s.lo, .u64 X.1.s.hi, .int .i64 X.1.s.sl, .int .i64 X.1.s.sh]])  {c0 : Code} {F0 : List SV} {M0 : List Blk} {N0 : Nat} (ec : c0 = cP (cB (cR (cL (cR (cR (cR (cB (cL (cR (cP (cB (cR (cB (cL (cR (cP (cB (cR (cB (cL (cR (cP (cB (cR (cR (cR (cB (cL (cR (cP (cB (cR (cL (cR (cR (bodyOf Try.f3))))))))))))))))))))))))))))))))))))) (eF : F0 = spreadF (junkF 126) [1, 2, 3, 4, 5, 6, 7, 8, 9, 10] [.int .i64 j, .ptr 0 0, .int .i64 a, .int .i64 b, .int .i64 c, .ptr 1 0, .ptr 2 0, .bool X.2, .bool f, .int .i64 (w : Int)]) (eM : M0 = [.cells 25 [.u64 tv, .u64 tm], .cells 27 [.u64 sa, .u64 sb, .int .i64 sc, .int .i64 sd], .cells 29 [.u64 X.1.t.v, .u64 X.1.t.m, .u64 X.1.s.lo, .u64 X.1.s.hi, .int .i64 X.1.s.sl, .int .i64 X.1.s.sh]]) (eN : N0 = N + 60) : run Try.prog ⟨[(8, k_awake), (9, k_Of), (10, k_cHas), (11, k_cRight)], eqs, [], [], []⟩ N0 [] 0 c0 F0 M0 K := by
  subst ec eF eM eN
  simp only [flv] at hf
  (conv => whnf)
  (repeat' (first | (refine And.intro (fun hb => ?_) (fun hb => ?_) <;> (first | contradiction | (conv => whnf))) | (refine And.intro (a := (_ : Bool) = true) ?_ ?_; rotate_left 1; (conv => whnf))))
  all_goals try (first | rfl | trivial | assumption)
  all_goals try (replace hs := hs (by assumption))
  all_goals first
    | exact hE _ ⟨rfl, rfl, rfl, rfl, rfl, rfl, rfl, rfl, rfl, rfl, trivial⟩ rfl (by assumption)
    | exact hN _ 0 false (fun h => by cases h) ⟨rfl, rfl, rfl, rfl, rfl, rfl, rfl, rfl, rfl, rfl, trivial⟩ rfl (by assumption)
    | exact hN _ 1 false (fun _ => by first | exact hf trivial | exact hf rfl | exact hf (by assumption)) ⟨rfl, rfl, rfl, rfl, rfl, rfl, rfl, rfl, rfl, rfl, trivial⟩ rfl (by assumption)
    | exact hN _ 2 _ (fun h => by simp only [flv] at h; simp_all) ⟨rfl, rfl, rfl, rfl, rfl, rfl, rfl, rfl, rfl, rfl, trivial⟩ rfl (by assumption)
    | (exfalso; simp_all <;> omega)
theorem run_raw (P : Program) (Γ : Env) (n : Nat) : @Nat.rec (fun _ => RunT) (fun _ _ _ _ _ _ => False) (fun _ ih => stepC P Γ ih) n = run P Γ n := rfl
theorem live_mk {F : List SV} {live : List (Nat × SV)} {n : Nat} (h : LiveOk F live) (hn : n = F.length) : ∃ d : Nat → SV, F = mkFrom live d n 0 := ⟨_, (mkFrom_ok h n 0 (by omega)).symm⟩
theorem C.sm_in {a b : BitVec 64} {c : Nat} (h : c ≤ 10) : R.inS ⟨a, b, (c : Int) - 2, 7⟩ = true := S.inS_iff.2 ⟨⟨by show (-9223372036854775808 : Int) ≤ (c : Int) - 2; omega, by show (c : Int) - 2 ≤ 9223372036854775807; omega⟩, by simp⟩
theorem wrap_1 {w : Nat} (h : w < 1000) : IntKind.i64.wrap ((w : Int) + 1) = ((w + 1 : Nat) : Int) := by rw [IntWalk.i64_in _ (by omega)]; omega
theorem wrap_2 {c : Nat} (h : c < 1000) : IntKind.i64.wrap ((c : Int) - 2 + 1) = ((c + 1 : Nat) : Int) - 2 := by rw [IntWalk.i64_in _ (by omega)]; omega
theorem body6 {N : Nat} {K : X → List SV → List Blk → Prop} (j a b c : Nat) (tv tm : BitVec 64) (hc : c ≤ 10) (hs : ∀ w : Nat, w < 8 → c < 10 → ((Go.bits .andNot .i64 (w : Int) (sv tm) == sv tv) && (decide ((a : Int) ≤ (w : Int)) && (decide ((w : Int) ≤ (b : Int)) && decide ((c : Int) - 2 ≤ (w : Int))))) = ((C.of ⟨tv, tm⟩ ⟨BitVec.ofInt 64 (a : Int), BitVec.ofInt 64 (b : Int), (c : Int) - 2, 7⟩).2 && C.hasb (C.of ⟨tv, tm⟩ ⟨BitVec.ofInt 64 (a : Int), BitVec.ofInt 64 (b : Int), (c : Int) - 2, 7⟩).1 (BitVec.ofInt 64 (w : Int))))
    (hN : ∀ F : List SV, LiveOk F [(1, .int .i64 (j : Int)), (2, .ptr 0 0), (3, .int .i64 (a : Int)), (4, .int .i64 (b : Int)), (5, .int .i64 (IntKind.i64.wrap ((c : Int) - 2 + 1)))] → 126 = F.length → decide ((c : Int) - 2 < 8) = true → K .normal F [.cells 25 [.u64 tv, .u64 tm], .cells 27 [.u64 (BitVec.ofInt 64 (a : Int)), .u64 (BitVec.ofInt 64 (b : Int)), .int .i64 ((c : Int) - 2), .int .i64 7], .cells 29 [.u64 (C.of ⟨tv, tm⟩ ⟨BitVec.ofInt 64 (a : Int), BitVec.ofInt 64 (b : Int), (c : Int) - 2, 7⟩).1.t.v, .u64 (C.of ⟨tv, tm⟩ ⟨BitVec.ofInt 64 (a : Int), BitVec.ofInt 64 (b : Int), (c : Int) - 2, 7⟩).1.t.m, .u64 (C.of ⟨tv, tm⟩ ⟨BitVec.ofInt 64 (a : Int), BitVec.ofInt 64 (b : Int), (c : Int) - 2, 7⟩).1.s.lo, .u64 (C.of ⟨tv, tm⟩ ⟨BitVec.ofInt 64 (a : Int), BitVec.ofInt 64 (b : Int), (c : Int) - 2, 7⟩).1.s.hi, .int .i64 (C.of ⟨tv, tm⟩ ⟨BitVec.ofInt 64 (a : Int), BitVec.ofInt 64 (b : Int), (c : Int) - 2, 7⟩).1.s.sl, .int .i64 (C.of ⟨tv, tm⟩ ⟨BitVec.ofInt 64 (a : Int), BitVec.ofInt 64 (b : Int), (c : Int) - 2, 7⟩).1.s.sh]])
    (hE : ∀ F : List SV, LiveOk F [(1, .int .i64 (j : Int)), (2, .ptr 0 0), (3, .int .i64 (a : Int)), (4, .int .i64 (b : Int)), (5, .int .i64 ((c : Int) - 2))] → 126 = F.length → decide ((c : Int) - 2 < 8) = false → K (.exit 6) F [.cells 25 [.u64 tv, .u64 tm]]) {c0 : Code} {F0 : List SV} {M0 : List Blk} {N0 : Nat} (ec : c0 = cP (cB (cR (cB (cL (cR (cP (cB (cR (cB (cL (cR (cP (cB (cR (cR (cR (cB (cL (cR (cP (cB (cR (cL (cR (cR (bodyOf Try.f3))))))))))))))))))))))))))) (eF : F0 = spreadF (junkF 126) [1, 2, 3, 4, 5] [.int .i64 (j : Int), .ptr 0 0, .int .i64 (a : Int), .int .i64 (b : Int), .int .i64 ((c : Int) - 2)]) (eM : M0 = [.cells 25 [.u64 tv, .u64 tm]]) (eN : N0 = N + 120) : run Try.prog ⟨[(8, k_awake), (9, k_Of), (10, k_cHas), (11, k_cRight)], eqs, [], [], []⟩ N0 [] 0 c0 F0 M0 K := by
  subst ec eF eM eN
  have is_ : R.inS (⟨BitVec.ofInt 64 (a : Int), BitVec.ofInt 64 (b : Int), (c : Int) - 2, 7⟩ : Sp) = true := C.sm_in hc
  have iX : R.inS (C.of ⟨tv, tm⟩ ⟨BitVec.ofInt 64 (a : Int), BitVec.ofInt 64 (b : Int), (c : Int) - 2, 7⟩).1.s = true := C.of_in is_
  have fr : (C.of ⟨tv, tm⟩ ⟨BitVec.ofInt 64 (a : Int), BitVec.ofInt 64 (b : Int), (c : Int) - 2, 7⟩).2 = true → C.right (C.of ⟨tv, tm⟩ ⟨BitVec.ofInt 64 (a : Int), BitVec.ofInt 64 (b : Int), (c : Int) - 2, 7⟩).1 = true := fun h => C.of_right is_ h
  (conv => whnf)
  (repeat' (first | (refine And.intro (fun hb => ?_) (fun hb => ?_) <;> (first | contradiction | (conv => whnf))) | (refine And.intro (a := (_ : Bool) = true) ?_ ?_; rotate_left 1; (conv => whnf))))
  all_goals try (first | exact hE _ ⟨rfl, rfl, rfl, rfl, rfl, trivial⟩ rfl (by assumption) | rfl | assumption)
  have hc8 : c < 10 := by (have h := of_decide_eq_true ‹decide ((c : Int) - 2 < 8) = true›; omega)
  generalize (C.of ⟨tv, tm⟩ ⟨BitVec.ofInt 64 (a : Int), BitVec.ofInt 64 (b : Int), (c : Int) - 2, 7⟩) = X at *
  refine .inr ⟨[], [1, 2, 3, 4, 5, 6, 7, 8, 9, 10], fun k vals M => ∃ (w q : Nat) (f : Bool), w ≤ 8 ∧ k = 8 - w ∧ (flv q f = true → X.2 = true) ∧ vals = [.int .i64 (j : Int), .ptr 0 0, .int .i64 (a : Int), .int .i64 (b : Int), .int .i64 ((c : Int) - 2), .ptr 1 0, .ptr 2 0, .bool X.2, fl q f, .int .i64 (w : Int)] ∧ M = [.cells 25 [.u64 tv, .u64 tm], .cells 27 [.u64 (BitVec.ofInt 64 (a : Int)), .u64 (BitVec.ofInt 64 (b : Int)), .int .i64 ((c : Int) - 2), .int .i64 7], .cells 29 [.u64 X.1.t.v, .u64 X.1.t.m, .u64 X.1.s.lo, .u64 X.1.s.hi, .int .i64 X.1.s.sl, .int .i64 X.1.s.sh]], ?_⟩
  conv => whnf
  refine And.intro ⟨_, _, (mle_cons ble_refl (mle_cons ble_refl (mle_cons ble_refl mle_nil))), rfl, rfl, 0, 0, false, by omega, rfl, (fun h => by cases h), rfl, rfl⟩ ?_
  rintro k vals M1 ⟨w, q, f, hw, rfl, hf, rfl, rfl⟩
  have key : ∀ (F : List SV) (q : Nat) (f : Bool), True := fun _ _ _ => trivial
  rcases q with _ | _ | q
  · rw [run_raw Try.prog ⟨[(8, k_awake), (9, k_Of), (10, k_cHas), (11, k_cRight)], eqs, [], [], []⟩ (N + 110)]
    refine body8_0 (j : Int) (a : Int) (b : Int) ((c : Int) - 2) w tv tm _ _ _ _ X f iX (fun h8 => hs w (by have h := of_decide_eq_true h8; omega) hc8) hf ?_ ?_ rfl rfl rfl (N := N + 50) rfl
    · intro F q2 g hg hl hn hlt
      obtain ⟨d, rfl⟩ := live_mk hl hn
      have hlt := of_decide_eq_true hlt
      rcases q2 with _ | _ | q2
      · exact ⟨8 - (w + 1), _, [0, 1, 2], by omega, rfl, (mle_cons ble_refl (mle_cons ble_refl (mle_cons ble_refl mle_nil))), rfl, rfl, w + 1, 0, g, by omega, rfl, hg, (by rw [← wrap_1 (by omega)]; rfl), rfl⟩
      · exact ⟨8 - (w + 1), _, [0, 1, 2], by omega, rfl, (mle_cons ble_refl (mle_cons ble_refl (mle_cons ble_refl mle_nil))), rfl, rfl, w + 1, 1, g, by omega, rfl, hg, (by rw [← wrap_1 (by omega)]; rfl), rfl⟩
      · exact ⟨8 - (w + 1), _, [0, 1, 2], by omega, rfl, (mle_cons ble_refl (mle_cons ble_refl (mle_cons ble_refl mle_nil))), rfl, rfl, w + 1, q2 + 2, g, by omega, rfl, hg, (by rw [← wrap_1 (by omega)]; rfl), rfl⟩
    · intro F hl hn hge
      obtain ⟨d, rfl⟩ := live_mk hl hn
      (conv => whnf)
      (repeat' (first | (refine And.intro (fun hb => ?_) (fun hb => ?_) <;> (first | contradiction | (conv => whnf))) | (refine And.intro (a := (_ : Bool) = true) ?_ ?_; rotate_left 1; (conv => whnf))))
      all_goals first
        | exact hN _ ⟨rfl, rfl, rfl, rfl, rfl, trivial⟩ rfl (by assumption)
        | assumption
        | (exfalso; first | exact Bool.noConfusion ((fr (by assumption)).symm.trans (C.nt (by assumption))) | exact Bool.noConfusion ((hf rfl).symm.trans (C.nt (by assumption))) | exact Bool.noConfusion ((hf (by assumption)).symm.trans (C.nt (by assumption))))
  · rw [run_raw Try.prog ⟨[(8, k_awake), (9, k_Of), (10, k_cHas), (11, k_cRight)], eqs, [], [], []⟩ (N + 110)]
    refine body8_1 (j : Int) (a : Int) (b : Int) ((c : Int) - 2) w tv tm _ _ _ _ X f iX (fun h8 => hs w (by have h := of_decide_eq_true h8; omega) hc8) hf ?_ ?_ rfl rfl rfl (N := N + 50) rfl
    · intro F q2 g hg hl hn hlt
      obtain ⟨d, rfl⟩ := live_mk hl hn
      have hlt := of_decide_eq_true hlt
      rcases q2 with _ | _ | q2
      · exact ⟨8 - (w + 1), _, [0, 1, 2], by omega, rfl, (mle_cons ble_refl (mle_cons ble_refl (mle_cons ble_refl mle_nil))), rfl, rfl, w + 1, 0, g, by omega, rfl, hg, (by rw [← wrap_1 (by omega)]; rfl), rfl⟩
      · exact ⟨8 - (w + 1), _, [0, 1, 2], by omega, rfl, (mle_cons ble_refl (mle_cons ble_refl (mle_cons ble_refl mle_nil))), rfl, rfl, w + 1, 1, g, by omega, rfl, hg, (by rw [← wrap_1 (by omega)]; rfl), rfl⟩
      · exact ⟨8 - (w + 1), _, [0, 1, 2], by omega, rfl, (mle_cons ble_refl (mle_cons ble_refl (mle_cons ble_refl mle_nil))), rfl, rfl, w + 1, q2 + 2, g, by omega, rfl, hg, (by rw [← wrap_1 (by omega)]; rfl), rfl⟩
    · intro F hl hn hge
      obtain ⟨d, rfl⟩ := live_mk hl hn
      (conv => whnf)
      (repeat' (first | (refine And.intro (fun hb => ?_) (fun hb => ?_) <;> (first | contradiction | (conv => whnf))) | (refine And.intro (a := (_ : Bool) = true) ?_ ?_; rotate_left 1; (conv => whnf))))
      all_goals first
        | exact hN _ ⟨rfl, rfl, rfl, rfl, rfl, trivial⟩ rfl (by assumption)
        | assumption
        | (exfalso; first | exact Bool.noConfusion ((fr (by assumption)).symm.trans (C.nt (by assumption))) | exact Bool.noConfusion ((hf rfl).symm.trans (C.nt (by assumption))) | exact Bool.noConfusion ((hf (by assumption)).symm.trans (C.nt (by assumption))))
  · rw [run_raw Try.prog ⟨[(8, k_awake), (9, k_Of), (10, k_cHas), (11, k_cRight)], eqs, [], [], []⟩ (N + 110)]
    refine body8_2 (j : Int) (a : Int) (b : Int) ((c : Int) - 2) w tv tm _ _ _ _ X f iX (fun h8 => hs w (by have h := of_decide_eq_true h8; omega) hc8) hf ?_ ?_ rfl rfl rfl (N := N + 50) rfl
    · intro F q2 g hg hl hn hlt
      obtain ⟨d, rfl⟩ := live_mk hl hn
      have hlt := of_decide_eq_true hlt
      rcases q2 with _ | _ | q2
      · exact ⟨8 - (w + 1), _, [0, 1, 2], by omega, rfl, (mle_cons ble_refl (mle_cons ble_refl (mle_cons ble_refl mle_nil))), rfl, rfl, w + 1, 0, g, by omega, rfl, hg, (by rw [← wrap_1 (by omega)]; rfl), rfl⟩
      · exact ⟨8 - (w + 1), _, [0, 1, 2], by omega, rfl, (mle_cons ble_refl (mle_cons ble_refl (mle_cons ble_refl mle_nil))), rfl, rfl, w + 1, 1, g, by omega, rfl, hg, (by rw [← wrap_1 (by omega)]; rfl), rfl⟩
      · exact ⟨8 - (w + 1), _, [0, 1, 2], by omega, rfl, (mle_cons ble_refl (mle_cons ble_refl (mle_cons ble_refl mle_nil))), rfl, rfl, w + 1, q2 + 2, g, by omega, rfl, hg, (by rw [← wrap_1 (by omega)]; rfl), rfl⟩
    · intro F hl hn hge
      obtain ⟨d, rfl⟩ := live_mk hl hn
      (conv => whnf)
      (repeat' (first | (refine And.intro (fun hb => ?_) (fun hb => ?_) <;> (first | contradiction | (conv => whnf))) | (refine And.intro (a := (_ : Bool) = true) ?_ ?_; rotate_left 1; (conv => whnf))))
      all_goals first
        | exact hN _ ⟨rfl, rfl, rfl, rfl, rfl, trivial⟩ rfl (by assumption)
        | assumption
        | (exfalso; first | exact Bool.noConfusion ((fr (by assumption)).symm.trans (C.nt (by assumption))) | exact Bool.noConfusion ((hf rfl).symm.trans (C.nt (by assumption))) | exact Bool.noConfusion ((hf (by assumption)).symm.trans (C.nt (by assumption))))
theorem sm_t : ((List.range 64).all fun j => (List.range 8).all fun w => ((BitVec.ofInt 64 ((j : Int).tmod 8)) &&& (BitVec.ofInt 64 (IntKind.i64.wrap ((j : Int).tdiv 8))) != BitVec.ofInt 64 0) || ((Go.bits .andNot .i64 (w : Int) (sv (BitVec.ofInt 64 (IntKind.i64.wrap ((j : Int).tdiv 8)))) == sv (BitVec.ofInt 64 ((j : Int).tmod 8))) == T.has ⟨(BitVec.ofInt 64 ((j : Int).tmod 8)), (BitVec.ofInt 64 (IntKind.i64.wrap ((j : Int).tdiv 8)))⟩ (BitVec.ofInt 64 (w : Int)))) = true := by kernel_rfl
theorem sm_s : ((List.range 8).all fun a => (List.range 8).all fun b => (List.range 10).all fun c => (List.range 8).all fun w => !decide (a ≤ b) || ((decide ((a : Int) ≤ (w : Int)) && (decide ((w : Int) ≤ (b : Int)) && decide ((c : Int) - 2 ≤ (w : Int)))) == S.has ⟨BitVec.ofInt 64 (a : Int), BitVec.ofInt 64 (b : Int), (c : Int) - 2, 7⟩ (BitVec.ofInt 64 (w : Int)))) = true := by kernel_rfl
theorem sm_fact (j a b c w : Nat) (hj : j < 64) (ht : ((BitVec.ofInt 64 ((j : Int).tmod 8)) &&& (BitVec.ofInt 64 (IntKind.i64.wrap ((j : Int).tdiv 8))) != BitVec.ofInt 64 0) = false) (hab : a ≤ b) (hb : b < 8) (hc : c < 10) (hw : w < 8) : ((Go.bits .andNot .i64 (w : Int) (sv (BitVec.ofInt 64 (IntKind.i64.wrap ((j : Int).tdiv 8)))) == sv (BitVec.ofInt 64 ((j : Int).tmod 8))) && (decide ((a : Int) ≤ (w : Int)) && (decide ((w : Int) ≤ (b : Int)) && decide ((c : Int) - 2 ≤ (w : Int))))) = ((C.of ⟨(BitVec.ofInt 64 ((j : Int).tmod 8)), (BitVec.ofInt 64 (IntKind.i64.wrap ((j : Int).tdiv 8)))⟩ ⟨BitVec.ofInt 64 (a : Int), BitVec.ofInt 64 (b : Int), (c : Int) - 2, 7⟩).2 && C.hasb (C.of ⟨(BitVec.ofInt 64 ((j : Int).tmod 8)), (BitVec.ofInt 64 (IntKind.i64.wrap ((j : Int).tdiv 8)))⟩ ⟨BitVec.ofInt 64 (a : Int), BitVec.ofInt 64 (b : Int), (c : Int) - 2, 7⟩).1 (BitVec.ofInt 64 (w : Int))) := by
  have h1 := List.all_eq_true.1 (List.all_eq_true.1 sm_t j (List.mem_range.2 hj)) w (List.mem_range.2 hw)
  rw [ht, Bool.false_or] at h1
  have h1 := eq_of_beq h1
  have h2 := List.all_eq_true.1 (List.all_eq_true.1 (List.all_eq_true.1 (List.all_eq_true.1 sm_s a (List.mem_range.2 (by omega))) b (List.mem_range.2 hb)) c (List.mem_range.2 hc)) w (List.mem_range.2 hw)
  rw [decide_eq_true hab, Bool.not_true, Bool.false_or] at h2
  have h2 := eq_of_beq h2
  rw [h1, h2]
  exact C.of_has (C.sm_in (by omega)) _
theorem body4 {N : Nat} {K : X → List SV → List Blk → Prop} (j a b : Nat) (tv tm : BitVec 64) (h0 : b ≤ 8) (hs : ∀ c w : Nat, b < 8 → w < 8 → c < 10 → ((Go.bits .andNot .i64 (w : Int) (sv tm) == sv tv) && (decide ((a : Int) ≤ (w : Int)) && (decide ((w : Int) ≤ (b : Int)) && decide ((c : Int) - 2 ≤ (w : Int))))) = ((C.of ⟨tv, tm⟩ ⟨BitVec.ofInt 64 (a : Int), BitVec.ofInt 64 (b : Int), (c : Int) - 2, 7⟩).2 && C.hasb (C.of ⟨tv, tm⟩ ⟨BitVec.ofInt 64 (a : Int), BitVec.ofInt 64 (b : Int), (c : Int) - 2, 7⟩).1 (BitVec.ofInt 64 (w : Int))))
    (hN : ∀ F : List SV, LiveOk F [(1, .int .i64 (j : Int)), (2, .ptr 0 0), (3, .int .i64 (a : Int)), (4, .int .i64 (IntKind.i64.wrap ((b : Int) + 1)))] → 126 = F.length → decide ((b : Int) < 8) = true → K .normal F [.cells 25 [.u64 tv, .u64 tm]])
    (hE : ∀ F : List SV, LiveOk F [(1, .int .i64 (j : Int)), (2, .ptr 0 0), (3, .int .i64 (a : Int)), (4, .int .i64 (b : Int))] → 126 = F.length → decide ((b : Int) < 8) = false → K (.exit 4) F [.cells 25 [.u64 tv, .u64 tm]]) {c0 : Code} {F0 : List SV} {M0 : List Blk} {N0 : Nat} (ec : c0 = cP (cB (cR (cB (cL (cR (cP (cB (cR (cR (cR (cB (cL (cR (cP (cB (cR (cL (cR (cR (bodyOf Try.f3))))))))))))))))))))) (eF : F0 = spreadF (junkF 126) [1, 2, 3, 4] [.int .i64 (j : Int), .ptr 0 0, .int .i64 (a : Int), .int .i64 (b : Int)]) (eM : M0 = [.cells 25 [.u64 tv, .u64 tm]]) (eN : N0 = N + 180) : run Try.prog ⟨[(8, k_awake), (9, k_Of), (10, k_cHas), (11, k_cRight)], eqs, [], [], []⟩ N0 [] 0 c0 F0 M0 K := by
  subst ec eF eM eN
  (conv => whnf)
  (repeat' (first | (refine And.intro (fun hb => ?_) (fun hb => ?_) <;> (first | contradiction | (conv => whnf))) | (refine And.intro (a := (_ : Bool) = true) ?_ ?_; rotate_left 1; (conv => whnf))))
  all_goals try (exact hE _ ⟨rfl, rfl, rfl, rfl, trivial⟩ rfl (by assumption))
  have hlt : b < 8 := by (have h := of_decide_eq_true ‹decide ((b : Int) < 8) = true›; omega)
  refine .inr ⟨[], [1, 2, 3, 4, 5], fun k vals M => ∃ c : Nat, 0 ≤ c ∧ c ≤ 10 ∧ k = 10 - c ∧ vals = [.int .i64 (j : Int), .ptr 0 0, .int .i64 (a : Int), .int .i64 (b : Int), .int .i64 ((c : Int) - 2)] ∧ M = [.cells 25 [.u64 tv, .u64 tm]], ?_⟩
  conv => whnf
  refine And.intro ⟨_, _, (mle_cons ble_refl mle_nil), rfl, rfl, 0, by omega, by omega, rfl, rfl, rfl⟩ ?_
  rintro k vals M1 ⟨c, hl, hi, rfl, rfl, rfl⟩
  rw [run_raw Try.prog ⟨[(8, k_awake), (9, k_Of), (10, k_cHas), (11, k_cRight)], eqs, [], [], []⟩ (N + 174)]
  refine body6 (N := _) j a b c tv tm hi (fun w h8 h10 => hs c w hlt h8 h10) ?_ ?_ rfl rfl rfl rfl
  · intro F hlv hn hc
    obtain ⟨d, rfl⟩ := live_mk hlv hn
    have hc := of_decide_eq_true hc
    exact ⟨10 - (c + 1), [.cells 25 [.u64 tv, .u64 tm]], [0], by omega, rfl, (mle_cons ble_refl mle_nil), rfl, rfl, c + 1, by omega, by omega, rfl, (by rw [← wrap_2 (by omega)]; rfl), rfl⟩
  · intro F hlv hn hc
    obtain ⟨d, rfl⟩ := live_mk hlv hn
    (conv => whnf)
    (repeat' (first | (refine And.intro (fun hb => ?_) (fun hb => ?_) <;> (first | contradiction | (conv => whnf))) | (refine And.intro (a := (_ : Bool) = true) ?_ ?_; rotate_left 1; (conv => whnf))))
    all_goals exact hN _ ⟨rfl, rfl, rfl, rfl, trivial⟩ rfl (by assumption)
theorem body2 {N : Nat} {K : X → List SV → List Blk → Prop} (j a : Nat) (tv tm : BitVec 64) (h0 : a ≤ 8) (hs : ∀ b c w : Nat, a ≤ b → b < 8 → w < 8 → c < 10 → ((Go.bits .andNot .i64 (w : Int) (sv tm) == sv tv) && (decide ((a : Int) ≤ (w : Int)) && (decide ((w : Int) ≤ (b : Int)) && decide ((c : Int) - 2 ≤ (w : Int))))) = ((C.of ⟨tv, tm⟩ ⟨BitVec.ofInt 64 (a : Int), BitVec.ofInt 64 (b : Int), (c : Int) - 2, 7⟩).2 && C.hasb (C.of ⟨tv, tm⟩ ⟨BitVec.ofInt 64 (a : Int), BitVec.ofInt 64 (b : Int), (c : Int) - 2, 7⟩).1 (BitVec.ofInt 64 (w : Int))))
    (hN : ∀ F : List SV, LiveOk F [(1, .int .i64 (j : Int)), (2, .ptr 0 0), (3, .int .i64 (IntKind.i64.wrap ((a : Int) + 1)))] → 126 = F.length → decide ((a : Int) < 8) = true → K .normal F [.cells 25 [.u64 tv, .u64 tm]])
    (hE : ∀ F : List SV, LiveOk F [(1, .int .i64 (j : Int)), (2, .ptr 0 0), (3, .int .i64 (a : Int))] → 126 = F.length → decide ((a : Int) < 8) = false → K (.exit 2) F [.cells 25 [.u64 tv, .u64 tm]]) {c0 : Code} {F0 : List SV} {M0 : List Blk} {N0 : Nat} (ec : c0 = cP (cB (cR (cR (cR (cB (cL (cR (cP (cB (cR (cL (cR (cR (bodyOf Try.f3))))))))))))))) (eF : F0 = spreadF (junkF 126) [1, 2, 3] [.int .i64 (j : Int), .ptr 0 0, .int .i64 (a : Int)]) (eM : M0 = [.cells 25 [.u64 tv, .u64 tm]]) (eN : N0 = N + 240) : run Try.prog ⟨[(8, k_awake), (9, k_Of), (10, k_cHas), (11, k_cRight)], eqs, [], [], []⟩ N0 [] 0 c0 F0 M0 K := by
  subst ec eF eM eN
  (conv => whnf)
  (repeat' (first | (refine And.intro (fun hb => ?_) (fun hb => ?_) <;> (first | contradiction | (conv => whnf))) | (refine And.intro (a := (_ : Bool) = true) ?_ ?_; rotate_left 1; (conv => whnf))))
  all_goals try (exact hE _ ⟨rfl, rfl, rfl, trivial⟩ rfl (by assumption))
  have hlt : a < 8 := by (have h := of_decide_eq_true ‹decide ((a : Int) < 8) = true›; omega)
  refine .inr ⟨[], [1, 2, 3, 4], fun k vals M => ∃ b : Nat, a ≤ b ∧ b ≤ 8 ∧ k = 8 - b ∧ vals = [.int .i64 (j : Int), .ptr 0 0, .int .i64 (a : Int), .int .i64 (b : Int)] ∧ M = [.cells 25 [.u64 tv, .u64 tm]], ?_⟩
  conv => whnf
  refine And.intro ⟨_, _, (mle_cons ble_refl mle_nil), rfl, rfl, a, by omega, by omega, rfl, rfl, rfl⟩ ?_
  rintro k vals M1 ⟨b, hl, hi, rfl, rfl, rfl⟩
  rw [run_raw Try.prog ⟨[(8, k_awake), (9, k_Of), (10, k_cHas), (11, k_cRight)], eqs, [], [], []⟩ (N + 234)]
  refine body4 (N := _) j a b tv tm hi (fun c w h8 hw hc => hs b c w hl h8 hw hc) ?_ ?_ rfl rfl rfl rfl
  · intro F hlv hn hc
    obtain ⟨d, rfl⟩ := live_mk hlv hn
    have hc := of_decide_eq_true hc
    exact ⟨8 - (b + 1), [.cells 25 [.u64 tv, .u64 tm]], [0], by omega, rfl, (mle_cons ble_refl mle_nil), rfl, rfl, b + 1, by omega, by omega, rfl, (by rw [← wrap_1 (by omega)]; rfl), rfl⟩
  · intro F hlv hn hc
    obtain ⟨d, rfl⟩ := live_mk hlv hn
    (conv => whnf)
    (repeat' (first | (refine And.intro (fun hb => ?_) (fun hb => ?_) <;> (first | contradiction | (conv => whnf))) | (refine And.intro (a := (_ : Bool) = true) ?_ ?_; rotate_left 1; (conv => whnf))))
    all_goals exact hN _ ⟨rfl, rfl, rfl, trivial⟩ rfl (by assumption)
theorem body0 {N : Nat} {K : X → List SV → List Blk → Prop} (j : Nat) (h0 : j ≤ 64)
    (hN : ∀ F : List SV, ∀ M : List Blk, LiveOk F [(1, .int .i64 (IntKind.i64.wrap ((j : Int) + 1)))] → 126 = F.length → decide ((j : Int) < 64) = true → (scAll M.length M = true) → K .normal F M)
    (hE : ∀ F : List SV, LiveOk F [(1, .int .i64 (j : Int))] → 126 = F.length → decide ((j : Int) < 64) = false → K (.exit 0) F []) {c0 : Code} {F0 : List SV} {M0 : List Blk} {N0 : Nat} (ec : c0 = cP (cB (cR (cL (cR (cR (bodyOf Try.f3))))))) (eF : F0 = spreadF (junkF 126) [1] [.int .i64 (j : Int)]) (eM : M0 = []) (eN : N0 = N + 300) : run Try.prog ⟨[(8, k_awake), (9, k_Of), (10, k_cHas), (11, k_cRight)], eqs, [], [], []⟩ N0 [] 0 c0 F0 M0 K := by
  subst ec eF eM eN
  (conv => whnf)
  (repeat' (first | (refine And.intro (fun hb => ?_) (fun hb => ?_) <;> (first | contradiction | (conv => whnf))) | (refine And.intro (a := (_ : Bool) = true) ?_ ?_; rotate_left 1; (conv => whnf))))
  all_goals try (exact hE _ ⟨rfl, trivial⟩ rfl (by assumption))
  all_goals try (exact hN _ _ ⟨rfl, trivial⟩ rfl (by assumption) rfl)
  all_goals try (exact (by decide : ((8 : Int) != 0) = true))
  have hlt : j < 64 := by (have h := of_decide_eq_true ‹decide ((j : Int) < 64) = true›; omega)
  refine .inr ⟨[], [1, 2, 3], fun k vals M => ∃ a : Nat, 0 ≤ a ∧ a ≤ 8 ∧ k = 8 - a ∧ vals = [.int .i64 (j : Int), .ptr 0 0, .int .i64 (a : Int)] ∧ M = [.cells 25 [.u64 (BitVec.ofInt 64 ((j : Int).tmod 8)), .u64 (BitVec.ofInt 64 (IntKind.i64.wrap ((j : Int).tdiv 8)))]], ?_⟩
  conv => whnf
  refine And.intro ⟨_, _, (mle_cons ble_refl mle_nil), rfl, rfl, 0, by omega, by omega, rfl, rfl, rfl⟩ ?_
  rintro k vals M1 ⟨a, hl, hi, rfl, rfl, rfl⟩
  rw [run_raw Try.prog ⟨[(8, k_awake), (9, k_Of), (10, k_cHas), (11, k_cRight)], eqs, [], [], []⟩ (N + 292)]
  refine body2 (N := N + 52) j a (BitVec.ofInt 64 ((j : Int).tmod 8)) (BitVec.ofInt 64 (IntKind.i64.wrap ((j : Int).tdiv 8))) hi (fun b c w hab hb8 hw hc => sm_fact j a b c w hlt (by assumption) hab hb8 hc hw) ?_ ?_ rfl rfl rfl rfl
  · intro F hlv hn hc
    obtain ⟨d, rfl⟩ := live_mk hlv hn
    have hc := of_decide_eq_true hc
    exact ⟨8 - (a + 1), [.cells 25 [.u64 (BitVec.ofInt 64 ((j : Int).tmod 8)), .u64 (BitVec.ofInt 64 (IntKind.i64.wrap ((j : Int).tdiv 8)))]], [0], by omega, rfl, (mle_cons ble_refl mle_nil), rfl, rfl, a + 1, by omega, by omega, rfl, (by rw [← wrap_1 (by omega)]; rfl), rfl⟩
  · intro F hlv hn hc
    obtain ⟨d, rfl⟩ := live_mk hlv hn
    (conv => whnf)
    (repeat' (first | (refine And.intro (fun hb => ?_) (fun hb => ?_) <;> (first | contradiction | (conv => whnf))) | (refine And.intro (a := (_ : Bool) = true) ?_ ?_; rotate_left 1; (conv => whnf))))
    all_goals exact hN _ _ ⟨rfl, trivial⟩ rfl (by assumption) rfl
theorem small_gen (N : Nat) : run Try.prog ⟨[(8, k_awake), (9, k_Of), (10, k_cHas), (11, k_cRight)], eqs, [], [], []⟩ (N + 320) [] 0 (bodyOf Try.f3) (initF Try.f3 []) [] (retK Try.prog Try.f3 fun x _ => eqv x (.bool true)) := by
  (conv => whnf)
  (repeat' (first | (refine And.intro (fun hb => ?_) (fun hb => ?_) <;> (first | contradiction | (conv => whnf))) | (refine And.intro (a := (_ : Bool) = true) ?_ ?_; rotate_left 1; (conv => whnf))))
  all_goals try (first | rfl | trivial | (simp; done) | (simp; omega) | (simp at hb ⊢; omega) | (simp only [decide_eq_true_eq, Bool.and_eq_true, Int.toNat_natCast] at *; omega))
  refine .inr ⟨[], [1], fun k vals M => ∃ j : Nat, 0 ≤ j ∧ j ≤ 64 ∧ k = 64 - j ∧ vals = [.int .i64 (j : Int)] ∧ M = [], ?_⟩
  conv => whnf
  refine And.intro ⟨_, _, mle_nil, rfl, rfl, 0, by omega, by omega, rfl, rfl, rfl⟩ ?_
  rintro k vals M1 ⟨j, hl, hi, rfl, rfl, rfl⟩
  rw [run_raw Try.prog ⟨[(8, k_awake), (9, k_Of), (10, k_cHas), (11, k_cRight)], eqs, [], [], []⟩ (N + 314)]
  refine body0 (N := N + 14) j hi ?_ ?_ rfl rfl rfl rfl
  · intro F M hlv hn hc hsc
    obtain ⟨d, rfl⟩ := live_mk hlv hn
    have hc := of_decide_eq_true hc
    exact ⟨64 - (j + 1), [], [], by omega, rfl, (by cases M <;> exact mle_nil), rfl, rfl, j + 1, by omega, by omega, rfl, (by rw [← wrap_1 (by omega)]; rfl), rfl⟩
  · intro F hlv hn hc
    obtain ⟨d, rfl⟩ := live_mk hlv hn
    (conv => whnf)
    (repeat' (first | (refine And.intro (fun hb => ?_) (fun hb => ?_) <;> (first | contradiction | (conv => whnf))) | (refine And.intro (a := (_ : Bool) = true) ?_ ?_; rotate_left 1; (conv => whnf))))
    all_goals first | rfl | trivial
theorem small_run : run Try.prog ⟨[(8, k_awake), (9, k_Of), (10, k_cHas), (11, k_cRight)], eqs, [], [], []⟩ 10000 [] 0 (bodyOf Try.f3) (initF Try.f3 []) [] (retK Try.prog Try.f3 fun x _ => eqv x (.bool true)) := small_gen 9680
def k_ScalarSmall : List SV → List Blk → Res := fun args _ => match args with
  | [] => .ok (.bool true) []
  | _ => .fail
theorem k_ScalarSmall_ok : CtrOk Try.prog Gw 3 k_ScalarSmall := by
  refine ⟨fun _ _ => by kernel_rfl, fun args M => ?_⟩
  unfold k_ScalarSmall
  split
  · exact ctr_flat (Γ := ⟨[(8, k_awake), (9, k_Of), (10, k_cHas), (11, k_cRight)], eqs, [], [], []⟩) (sv := .bool true) st_Gw ⟨(okCons k_awake_ok (okCons k_Of_ok (okCons k_cHas_ok (okCons k_cRight_ok okNil)))), eqs_ok, okNilB, okNilI, okNilP⟩ Try.func3 rfl mixed [] (by kernel_rfl) 10000 (by rfl) (small_run)
  · trivial
end Go.Proofs.Ytobednfbejcaeaa
