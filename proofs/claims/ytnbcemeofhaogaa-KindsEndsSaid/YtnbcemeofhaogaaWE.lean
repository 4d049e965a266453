import Derived.Test.YtnbcemeofhaogaaRE
import Derived.Test.YtnbcemeofhaogaaWB
import Derived.Test.YtnbcemeofhaogaaSxC
namespace Go.Proofs.Ytnbcemeofhaogaa
open Go.RowKit Go.Sx
set_option linter.unusedSimpArgs false
set_option linter.unusedVariables false
set_option linter.unnecessarySimpa false
set_option maxRecDepth 100000
set_option maxHeartbeats 4000000
structure Rt where
  a : Int
  b : Int
  c : Int
  d : Int
def eR : Enc Rt := ⟨fun t => [.int .u8 t.a, .int .i64 t.b, .int .i64 t.c, .int .i64 t.d], fun l => match l with | [.int .u8 a, .int .i64 b, .int .i64 c, .int .i64 d] => ⟨a, b, c, d⟩ | _ => ⟨0, 0, 0, 0⟩, fun l => match l with | [.int .u8 _, .int .i64 _, .int .i64 _, .int .i64 _] => true | _ => false, ⟨0, 0, 0, 0⟩,
  fun l h => by revert h; split <;> simp_all, fun _ => rfl, fun _ => rfl⟩

def NUMS : List Int := [-1, 0, 1, 3, 4, 5, 8, 9, 15, 16, 36, 37, 64, 65, 1024, 1025, 16384, 16385, 9223372036854775807, -9223372036854775808]
def MAPSL : List (List Int) := [[], [1], [1, 2, 4], [5, 6], [7], [8], [1, 8], [2, 1], [0], [9], [1, 1]]
def RETSL : List Rt := [⟨0, 0, 0, 0⟩, ⟨1, 0, 0, 0⟩, ⟨1, 1, 0, 0⟩, ⟨1, 0, 0, 1⟩, ⟨2, 0, 0, 0⟩, ⟨2, 0, 1, 0⟩, ⟨3, 0, 0, 0⟩, ⟨3, 0, 0, 1⟩, ⟨3, 0, 0, 1024⟩, ⟨3, 0, 0, 1025⟩, ⟨4, 0, 0, 0⟩]
/-- Rows of rows of kinds. -/
def cM : Cel (List Int) := ⟨fun L => [.row 1 L.length (gOf eB L)], [], fun {l a b} h1 h2 => by
  obtain ⟨x0, l0, rfl, p0, h1⟩ := h1.inv_cons
  obtain ⟨q0, h2⟩ := inv_cons2 h2
  exact Cel.rows_uniq (c := cB) p0 q0⟩
theorem ble_own_lit {ty sz sz' n : Nat} {g g' : Nat → List FV} (h : (Nat.beq sz' sz && (List.range n).all fun i => fvLB 3 (g' i) (g i)) = true) : BLe (.own ty sz' n g') (.own ty sz n g) := by
  simp only [Bool.and_eq_true, List.all_eq_true, List.mem_range, Nat.beq_eq] at h
  exact ⟨rfl, h.1.symm, rfl, fun i hi => fvLB_ok (h.2 i hi)⟩
theorem argRow (k lo hi : Int) (Q : List Int) : FVEqL [.int .u8 k, .int .i64 lo, .int .i64 hi, .row 1 Q.length (gOf eB Q)] (celA ⟨k, lo, hi, Q⟩) := FVEqL.refl _
theorem argNil (k lo hi : Int) : FVEqL [.int .u8 k, .int .i64 lo, .int .i64 hi, .val (.slice none 0 0)] (celA ⟨k, lo, hi, []⟩) := fvl_cons (FVEq.refl _) (fvl_cons (FVEq.refl _) (fvl_cons (FVEq.refl _) (fvl_cons .nil (FVEqL.refl []))))
theorem argRowZ (k lo hi : Int) (Q : List Int) : FVEqL [.int .u8 k, .int .i64 lo, .int .i64 hi, .row 1 Q.length (fun i => gOf eB Q (0 + i))] (celA ⟨k, lo, hi, Q⟩) := fvl_cons (FVEq.refl _) (fvl_cons (FVEq.refl _) (fvl_cons (FVEq.refl _) (fvl_cons (FVEq.of_rows fun i hi => by rw [Nat.zero_add]) (FVEqL.refl []))))
theorem mapsl_short (i : Nat) : (MAPSL.getD i cM.dft).length ≤ 1099511627776 := by
  rcases Nat.lt_or_ge i 11 with h | h
  · have key : ∀ j, j < 11 → (MAPSL.getD j []).length ≤ 3 := by decide
    have := key i h
    have e : (cM.dft : List Int) = [] := rfl
    rw [e]; omega
  · have e : MAPSL.getD i cM.dft = [] := by
      rw [List.getD_eq_getElem?_getD, List.getElem?_eq_none (by show 11 ≤ i; exact h)]; rfl
    rw [e]; exact Nat.zero_le _
theorem atMost_pair {A B : Ag} {rk rlo rhi rsz : Int} (hA : A.maps.length ≤ 1099511627776) (hB : B.maps.length ≤ 1099511627776) : Hp.atMost 1099511627776 ⟨1, 0, 0, 0, [A, B], rk, rlo, rhi, rsz⟩ = true := by
  simp only [Hp.atMost, Ag.atMost, List.all_cons, List.all_nil, decide_eq_true hA, decide_eq_true hB, Bool.and_true, decide_eq_true_eq]
  show (2 : Nat) ≤ _
  decide
theorem pair8 {x0 x1 x2 x3 x4 x5 x6 x7 : FV} {sz : Nat} (hs : sz = 4) {A B : Ag} (hA : FVEqL [x0, x1, x2, x3] (celA A)) (hB : FVEqL [x4, x5, x6, x7] (celA B)) : FVEq (.row 4 2 (shiftG 0 fun i => List.take sz (List.drop (i * sz) [x0, x1, x2, x3, x4, x5, x6, x7]))) (.row 4 ([A, B] : List Ag).length (cA.g [A, B])) := by
  subst hs
  refine Cel.row_of rfl fun i hi => ?_
  match i, hi with
  | 0, _ => exact hA
  | 1, _ => exact hB
theorem help8 {x0 x1 x2 x3 x4 x5 x6 x7 : FV} {sz : Nat} (hs : sz = 4) {A B : Ag} (hA : FVEqL [x0, x1, x2, x3] (celA A)) (hB : FVEqL [x4, x5, x6, x7] (celA B)) (rk rlo rhi rsz : Int) : FVEqL [.int .i64 1, .int .i64 0, .int .i64 0, .int .u8 0, .row 4 2 (shiftG 0 fun i => List.take sz (List.drop (i * sz) [x0, x1, x2, x3, x4, x5, x6, x7])), .int .u8 rk, .int .i64 rlo, .int .i64 rhi, .int .i64 rsz] (celH ⟨1, 0, 0, 0, [A, B], rk, rlo, rhi, rsz⟩) :=
  fvl_cons (FVEq.refl _) (fvl_cons (FVEq.refl _) (fvl_cons (FVEq.refl _) (fvl_cons (FVEq.refl _) (fvl_cons (pair8 hs hA hB) (FVEqL.refl _)))))
theorem ends_0 (Q : List SV → List Blk → Prop) (K : X → List SV → List Blk → Prop) (hQ : Q (junkF 159) []) : run Try.prog ⟨[(7, k_awake), (4, k_words), (11, k_helper), (18, k_rhelper)], eqs, [], [], [], mixz, meqs, []⟩ 10000 [(13, 40, [0, 1, 0, 0, 12, 28, 0, 0, 192, 448, 1023, 0, 2048, 8191, 16383, 32767, 65535, 131071, 65535, 65535, 851967, 1900543, 65535, 65535, 12648447, 29425663, 67108863, 65535, 134283263, 402718719, 1073741823, 2147483647, 4294967295, 8589934591, 17179869183, 34359738367, 17179869183, 17179869183, 223338299391, 498216206335, 1099511627775, 2199023255551, 4398046511103, 8796093022207]), (35, 9, [0, 0, 3, 0, 0, 24, 56, 127, 0, 511]), (36, 3, [0, 1, 0, 7, 15])] 0 (takeC 4 (bodyOf Try.f5)) (initF Try.f5 []) [] (forgetK [] Q K) := by
  (conv => whnf)
  (repeat' (first | (refine step_t (by first | rfl | (simp only [beq_self_eq_true, bne_self_eq_false, Bool.and_self, Bool.not_true, Bool.not_false, Bool.and_true]; done) | assumption) ?_; (conv => whnf)) | (refine step_f (by first | rfl | (simp only [beq_self_eq_true, bne_self_eq_false, Bool.and_self, Bool.not_true, Bool.not_false, Bool.and_true]; done) | assumption) ?_; (conv => whnf)) | (refine step_nt (by assumption) ?_; (conv => whnf)) | (refine step_nf (by assumption) ?_; (conv => whnf)) | (refine step_n (fun hb => ?_) (fun hb => ?_) <;> (first | contradiction | (conv => whnf))) | (refine And.intro (fun hb => ?_) (fun hb => ?_) <;> (first | contradiction | (conv => whnf))) | (refine And.intro (a := (_ : Bool) = true) ?_ ?_; rotate_left 1; (conv => whnf))))
  refine .inr ⟨[], [1, 2], fun k vals M => ∃ a : Nat, a ≤ 10 ∧ k = 10 - a ∧ vals = [.sl 0 1 0 20, .int .i64 (a : Int)] ∧ M = [.own 3 1 20 (gOf eI NUMS)], ?_⟩
  conv => whnf
  refine And.intro ⟨10, [.own 3 1 20 (gOf eI NUMS)], (mle_cons (ble_own_lit (by kernel_rfl)) mle_nil), rfl, rfl, 0, by omega, by omega, rfl, rfl⟩ ?_
  rintro k vals M1 ⟨a, ha, rfl, rfl, rfl⟩
  (conv => whnf)
  (repeat' (first | (refine step_t (by first | rfl | (simp only [beq_self_eq_true, bne_self_eq_false, Bool.and_self, Bool.not_true, Bool.not_false, Bool.and_true]; done) | assumption) ?_; (conv => whnf)) | (refine step_f (by first | rfl | (simp only [beq_self_eq_true, bne_self_eq_false, Bool.and_self, Bool.not_true, Bool.not_false, Bool.and_true]; done) | assumption) ?_; (conv => whnf)) | (refine step_nt (by assumption) ?_; (conv => whnf)) | (refine step_nf (by assumption) ?_; (conv => whnf)) | (refine step_n (fun hb => ?_) (fun hb => ?_) <;> (first | contradiction | (conv => whnf))) | (refine And.intro (fun hb => ?_) (fun hb => ?_) <;> (first | contradiction | (conv => whnf))) | (refine And.intro (a := (_ : Bool) = true) ?_ ?_; rotate_left 1; (conv => whnf))))
  all_goals try (
    refine .inr ⟨[], [1, 2, 3], fun k vals M => ∃ i : Nat, i ≤ 20 ∧ k = 20 - i ∧ vals = [.sl 0 1 0 20, .int .i64 (a : Int), .int .i64 (i : Int)] ∧ M = [.own 3 1 20 (gOf eI NUMS)], ?_⟩
    conv => whnf
    refine And.intro ⟨20, [.own 3 1 20 (gOf eI NUMS)], (mle_cons ble_refl mle_nil), rfl, rfl, 0, by omega, by omega, rfl, rfl⟩ ?_
    rintro k vals M1 ⟨i, hi, rfl, rfl, rfl⟩
    (conv => whnf)
    (repeat' (first | (refine step_t (by first | rfl | (simp only [beq_self_eq_true, bne_self_eq_false, Bool.and_self, Bool.not_true, Bool.not_false, Bool.and_true]; done) | assumption) ?_; (conv => whnf)) | (refine step_f (by first | rfl | (simp only [beq_self_eq_true, bne_self_eq_false, Bool.and_self, Bool.not_true, Bool.not_false, Bool.and_true]; done) | assumption) ?_; (conv => whnf)) | (refine step_nt (by assumption) ?_; (conv => whnf)) | (refine step_nf (by assumption) ?_; (conv => whnf)) | (refine step_n (fun hb => ?_) (fun hb => ?_) <;> (first | contradiction | (conv => whnf))) | (refine And.intro (fun hb => ?_) (fun hb => ?_) <;> (first | contradiction | (conv => whnf))) | (refine And.intro (a := (_ : Bool) = true) ?_ ?_; rotate_left 1; (conv => whnf))))
    all_goals try (
      refine .inr ⟨[], [1, 2, 3, 4], fun k vals M => ∃ z : Nat, z ≤ 20 ∧ k = 20 - z ∧ vals = [.sl 0 1 0 20, .int .i64 (a : Int), .int .i64 (i : Int), .int .i64 (z : Int)] ∧ M = [.own 3 1 20 (gOf eI NUMS)], ?_⟩
      conv => whnf
      refine And.intro ⟨20, [.own 3 1 20 (gOf eI NUMS)], (mle_cons ble_refl mle_nil), rfl, rfl, 0, by omega, by omega, rfl, rfl⟩ ?_
      rintro k vals M1 ⟨z, hz, rfl, rfl, rfl⟩
      (conv => whnf)
      (repeat' (first | (refine step_t (by first | rfl | (simp only [beq_self_eq_true, bne_self_eq_false, Bool.and_self, Bool.not_true, Bool.not_false, Bool.and_true]; done) | assumption) ?_; (conv => whnf)) | (refine step_f (by first | rfl | (simp only [beq_self_eq_true, bne_self_eq_false, Bool.and_self, Bool.not_true, Bool.not_false, Bool.and_true]; done) | assumption) ?_; (conv => whnf)) | (refine step_nt (by assumption) ?_; (conv => whnf)) | (refine step_nf (by assumption) ?_; (conv => whnf)) | (refine step_n (fun hb => ?_) (fun hb => ?_) <;> (first | contradiction | (conv => whnf))) | (refine And.intro (fun hb => ?_) (fun hb => ?_) <;> (first | contradiction | (conv => whnf))) | (refine And.intro (a := (_ : Bool) = true) ?_ ?_; rotate_left 1; (conv => whnf))))))
  all_goals try (simp only [Int.toNat_natCast, Nat.zero_add] at *)
  all_goals first
  | rfl
  | (simp; done)
  | (exact decide_eq_true (by simp only [decide_eq_true_eq, decide_eq_false_iff_not] at *; omega))
  | (rw [Bool.and_eq_true]; exact ⟨decide_eq_true (by omega), decide_eq_true (by simp only [decide_eq_true_eq, decide_eq_false_iff_not] at *; omega)⟩)
  | exact use_forget (K := K) (n := 159) (vals := []) (M1 := []) [] rfl mle_nil rfl rfl rfl hQ
  | (simp only [decide_eq_true_eq, decide_eq_false_iff_not] at *
     refine ⟨20 - (z + 1), [.own 3 1 20 (gOf eI NUMS)], [0], by omega, rfl, (mle_cons ble_refl mle_nil), rfl, rfl, z + 1, by omega, rfl, ?_, rfl⟩
     show ([.sl 0 1 0 20, .int .i64 (a : Int), .int .i64 (i : Int), .int .i64 (IntKind.i64.wrap ((z : Int) + 1))] : List SV) = _
     rw [i64_of (n := (z : Int) + 1) (by omega) (by omega)]; rfl)
  | (simp only [decide_eq_true_eq, decide_eq_false_iff_not] at *
     refine ⟨20 - (i + 1), [.own 3 1 20 (gOf eI NUMS)], [0], by omega, rfl, (mle_cons ble_refl mle_nil), rfl, rfl, i + 1, by omega, rfl, ?_, rfl⟩
     show ([.sl 0 1 0 20, .int .i64 (a : Int), .int .i64 (IntKind.i64.wrap ((i : Int) + 1))] : List SV) = _
     rw [i64_of (n := (i : Int) + 1) (by omega) (by omega)]; rfl)
  | (simp only [decide_eq_true_eq, decide_eq_false_iff_not] at *
     refine ⟨10 - (a + 1), [.own 3 1 20 (gOf eI NUMS)], [0], by omega, rfl, (mle_cons ble_refl mle_nil), rfl, rfl, a + 1, by omega, rfl, ?_, rfl⟩
     show ([.sl 0 1 0 20, .int .i64 (IntKind.i64.wrap ((a : Int) + 1))] : List SV) = _
     rw [i64_of (n := (a : Int) + 1) (by omega) (by omega)]; rfl)
theorem ends_4 : run Try.prog ⟨[(7, k_awake), (4, k_words), (11, k_helper), (18, k_rhelper)], eqs, [], [], [], mixz, meqs, []⟩ 10000 [(13, 40, [0, 1, 0, 0, 12, 28, 0, 0, 192, 448, 1023, 0, 2048, 8191, 16383, 32767, 65535, 131071, 65535, 65535, 851967, 1900543, 65535, 65535, 12648447, 29425663, 67108863, 65535, 134283263, 402718719, 1073741823, 2147483647, 4294967295, 8589934591, 17179869183, 34359738367, 17179869183, 17179869183, 223338299391, 498216206335, 1099511627775, 2199023255551, 4398046511103, 8796093022207]), (35, 9, [0, 0, 3, 0, 0, 24, 56, 127, 0, 511]), (36, 3, [0, 1, 0, 7, 15])] 0 (dropC 4 (bodyOf Try.f5)) (junkF 159) [] (retK Try.prog Try.f5 fun x _ => eqv x (.bool true)) := by
  have hsz : Try.prog.types[40].size = 4 := by kernel_rfl
  (conv => whnf)
  (repeat' (first | (refine step_t (by first | rfl | (simp only [beq_self_eq_true, bne_self_eq_false, Bool.and_self, Bool.not_true, Bool.not_false, Bool.and_true]; done) | assumption) ?_; (conv => whnf)) | (refine step_f (by first | rfl | (simp only [beq_self_eq_true, bne_self_eq_false, Bool.and_self, Bool.not_true, Bool.not_false, Bool.and_true]; done) | assumption) ?_; (conv => whnf)) | (refine step_nt (by assumption) ?_; (conv => whnf)) | (refine step_nf (by assumption) ?_; (conv => whnf)) | (refine step_n (fun hb => ?_) (fun hb => ?_) <;> (first | contradiction | (conv => whnf))) | (refine And.intro (fun hb => ?_) (fun hb => ?_) <;> (first | contradiction | (conv => whnf))) | (refine And.intro (a := (_ : Bool) = true) ?_ ?_; rotate_left 1; (conv => whnf))))
  refine .inr ⟨[], [5, 6, 7], fun k vals M => ∃ b : Nat, b ≤ 11 ∧ k = 11 - b ∧ vals = [.sl 10 1 0 11, .sl 11 4 0 11, .int .i64 (b : Int)] ∧ M = [.dead, .dead, .dead, .dead, .dead, .dead, .dead, .dead, .dead, .dead, .fz 1 11 (cM.g MAPSL), .own 27 4 11 (gOf eR RETSL)], ?_⟩
  conv => whnf
  refine And.intro ⟨11, [.dead, .dead, .dead, .dead, .dead, .dead, .dead, .dead, .dead, .dead, .fz 1 11 (cM.g MAPSL), .own 27 4 11 (gOf eR RETSL)], (mle_cons ble_dead (mle_cons ble_dead (mle_cons ble_dead (mle_cons ble_dead (mle_cons ble_dead (mle_cons ble_dead (mle_cons ble_dead (mle_cons ble_dead (mle_cons ble_dead (mle_cons ble_dead (mle_cons (ble_lit (by kernel_rfl)) (mle_cons (ble_own_lit (by kernel_rfl)) mle_nil)))))))))))), rfl, rfl, 0, by omega, by omega, rfl, rfl⟩ ?_
  rintro k vals M1 ⟨b, hb, rfl, rfl, rfl⟩
  (conv => whnf)
  (repeat' (first | (refine step_t (by first | rfl | (simp only [beq_self_eq_true, bne_self_eq_false, Bool.and_self, Bool.not_true, Bool.not_false, Bool.and_true]; done) | assumption) ?_; (conv => whnf)) | (refine step_f (by first | rfl | (simp only [beq_self_eq_true, bne_self_eq_false, Bool.and_self, Bool.not_true, Bool.not_false, Bool.and_true]; done) | assumption) ?_; (conv => whnf)) | (refine step_nt (by assumption) ?_; (conv => whnf)) | (refine step_nf (by assumption) ?_; (conv => whnf)) | (refine step_n (fun hb => ?_) (fun hb => ?_) <;> (first | contradiction | (conv => whnf))) | (refine And.intro (fun hb => ?_) (fun hb => ?_) <;> (first | contradiction | (conv => whnf))) | (refine And.intro (a := (_ : Bool) = true) ?_ ?_; rotate_left 1; (conv => whnf))))
  all_goals try (
    refine .inr ⟨[], [5, 6, 7, 8], fun k vals M => ∃ c : Nat, c ≤ 11 ∧ k = 11 - c ∧ vals = [.sl 10 1 0 11, .sl 11 4 0 11, .int .i64 (b : Int), .int .i64 (c : Int)] ∧ M = [.dead, .dead, .dead, .dead, .dead, .dead, .dead, .dead, .dead, .dead, .fz 1 11 (cM.g MAPSL), .own 27 4 11 (gOf eR RETSL)], ?_⟩
    conv => whnf
    refine And.intro ⟨11, [.dead, .dead, .dead, .dead, .dead, .dead, .dead, .dead, .dead, .dead, .fz 1 11 (cM.g MAPSL), .own 27 4 11 (gOf eR RETSL)], (mle_cons ble_dead (mle_cons ble_dead (mle_cons ble_dead (mle_cons ble_dead (mle_cons ble_dead (mle_cons ble_dead (mle_cons ble_dead (mle_cons ble_dead (mle_cons ble_dead (mle_cons ble_dead (mle_cons ble_refl (mle_cons ble_refl mle_nil)))))))))))), rfl, rfl, 0, by omega, by omega, rfl, rfl⟩ ?_
    rintro k vals M1 ⟨c, hc, rfl, rfl, rfl⟩
    (conv => whnf)
    (repeat' (first | (refine step_t (by first | rfl | (simp only [beq_self_eq_true, bne_self_eq_false, Bool.and_self, Bool.not_true, Bool.not_false, Bool.and_true]; done) | assumption) ?_; (conv => whnf)) | (refine step_f (by first | rfl | (simp only [beq_self_eq_true, bne_self_eq_false, Bool.and_self, Bool.not_true, Bool.not_false, Bool.and_true]; done) | assumption) ?_; (conv => whnf)) | (refine step_nt (by assumption) ?_; (conv => whnf)) | (refine step_nf (by assumption) ?_; (conv => whnf)) | (refine step_n (fun hb => ?_) (fun hb => ?_) <;> (first | contradiction | (conv => whnf))) | (refine And.intro (fun hb => ?_) (fun hb => ?_) <;> (first | contradiction | (conv => whnf))) | (refine And.intro (a := (_ : Bool) = true) ?_ ?_; rotate_left 1; (conv => whnf))))
    all_goals try (
      refine .inr ⟨[], [5, 6, 7, 8, 9], fun k vals M => ∃ m : Nat, m ≤ 11 ∧ k = 11 - m ∧ vals = [.sl 10 1 0 11, .sl 11 4 0 11, .int .i64 (b : Int), .int .i64 (c : Int), .int .i64 (m : Int)] ∧ M = [.dead, .dead, .dead, .dead, .dead, .dead, .dead, .dead, .dead, .dead, .fz 1 11 (cM.g MAPSL), .own 27 4 11 (gOf eR RETSL)], ?_⟩
      conv => whnf
      refine And.intro ⟨11, [.dead, .dead, .dead, .dead, .dead, .dead, .dead, .dead, .dead, .dead, .fz 1 11 (cM.g MAPSL), .own 27 4 11 (gOf eR RETSL)], (mle_cons ble_dead (mle_cons ble_dead (mle_cons ble_dead (mle_cons ble_dead (mle_cons ble_dead (mle_cons ble_dead (mle_cons ble_dead (mle_cons ble_dead (mle_cons ble_dead (mle_cons ble_dead (mle_cons ble_refl (mle_cons ble_refl mle_nil)))))))))))), rfl, rfl, 0, by omega, by omega, rfl, rfl⟩ ?_
      rintro k vals M1 ⟨m, hm, rfl, rfl, rfl⟩
      (conv => whnf)
      (repeat' (first | (refine step_t (by first | rfl | (simp only [beq_self_eq_true, bne_self_eq_false, Bool.and_self, Bool.not_true, Bool.not_false, Bool.and_true]; done) | assumption) ?_; (conv => whnf)) | (refine step_f (by first | rfl | (simp only [beq_self_eq_true, bne_self_eq_false, Bool.and_self, Bool.not_true, Bool.not_false, Bool.and_true]; done) | assumption) ?_; (conv => whnf)) | (refine step_nt (by assumption) ?_; (conv => whnf)) | (refine step_nf (by assumption) ?_; (conv => whnf)) | (refine step_n (fun hb => ?_) (fun hb => ?_) <;> (first | contradiction | (conv => whnf))) | (refine And.intro (fun hb => ?_) (fun hb => ?_) <;> (first | contradiction | (conv => whnf))) | (refine And.intro (a := (_ : Bool) = true) ?_ ?_; rotate_left 1; (conv => whnf))))
      all_goals try (
        refine .inr ⟨[], [5, 6, 7, 8, 9, 10], fun k vals M => ∃ r : Nat, r ≤ 12 ∧ k = 12 - r ∧ vals = [.sl 10 1 0 11, .sl 11 4 0 11, .int .i64 (b : Int), .int .i64 (c : Int), .int .i64 (m : Int), .int .i64 (r : Int)] ∧ M = [.dead, .dead, .dead, .dead, .dead, .dead, .dead, .dead, .dead, .dead, .fz 1 11 (cM.g MAPSL), .own 27 4 11 (gOf eR RETSL)], ?_⟩
        conv => whnf
        refine And.intro ⟨12, [.dead, .dead, .dead, .dead, .dead, .dead, .dead, .dead, .dead, .dead, .fz 1 11 (cM.g MAPSL), .own 27 4 11 (gOf eR RETSL)], (mle_cons ble_dead (mle_cons ble_dead (mle_cons ble_dead (mle_cons ble_dead (mle_cons ble_dead (mle_cons ble_dead (mle_cons ble_dead (mle_cons ble_dead (mle_cons ble_dead (mle_cons ble_dead (mle_cons ble_refl (mle_cons ble_refl mle_nil)))))))))))), rfl, rfl, 0, by omega, by omega, rfl, rfl⟩ ?_
        rintro k vals M1 ⟨r, hr, rfl, rfl, rfl⟩
        (conv => whnf)
        (repeat' (first | (refine step_t (by first | rfl | (simp only [beq_self_eq_true, bne_self_eq_false, Bool.and_self, Bool.not_true, Bool.not_false, Bool.and_true]; done) | assumption) ?_; (conv => whnf)) | (refine step_f (by first | rfl | (simp only [beq_self_eq_true, bne_self_eq_false, Bool.and_self, Bool.not_true, Bool.not_false, Bool.and_true]; done) | assumption) ?_; (conv => whnf)) | (refine step_nt (by assumption) ?_; (conv => whnf)) | (refine step_nf (by assumption) ?_; (conv => whnf)) | (refine step_n (fun hb => ?_) (fun hb => ?_) <;> (first | contradiction | (conv => whnf))) | (refine And.intro (fun hb => ?_) (fun hb => ?_) <;> (first | contradiction | (conv => whnf))) | (refine And.intro (a := (_ : Bool) = true) ?_ ?_; rotate_left 1; (conv => whnf)))))))
  all_goals try (first
    | (have h1 : m < 11 := (by
         first
         | (have h8 := of_decide_eq_true (by assumption : decide ((m : Int) < 11) = true); omega)
         | (have h8 := of_decide_eq_true (by assumption : decide ((m : Int) < ((11 : Nat) : Int)) = true); omega))
       refine ⟨11 - (m + 1), [.dead, .dead, .dead, .dead, .dead, .dead, .dead, .dead, .dead, .dead, .fz 1 11 (cM.g MAPSL), .own 27 4 11 (gOf eR RETSL)], [0, 1, 2, 3, 4, 5, 6, 7, 8, 9, 10, 11], by omega, rfl, (mle_cons ble_dead (mle_cons ble_dead (mle_cons ble_dead (mle_cons ble_dead (mle_cons ble_dead (mle_cons ble_dead (mle_cons ble_dead (mle_cons ble_dead (mle_cons ble_dead (mle_cons ble_dead (mle_cons ble_refl (mle_cons ble_refl mle_nil)))))))))))), rfl, rfl, m + 1, by omega, rfl, ?_, rfl⟩
       show ([.sl 10 1 0 11, .sl 11 4 0 11, .int .i64 (b : Int), .int .i64 (c : Int), .int .i64 (IntKind.i64.wrap ((m : Int) + 1))] : List SV) = _
       rw [i64_of (n := (m : Int) + 1) (by omega) (by omega)]; rfl)
    | (have h1 : c < 11 := (by
         first
         | (have h8 := of_decide_eq_true (by assumption : decide ((c : Int) < 11) = true); omega)
         | (have h8 := of_decide_eq_true (by assumption : decide ((c : Int) < ((11 : Nat) : Int)) = true); omega))
       refine ⟨11 - (c + 1), [.dead, .dead, .dead, .dead, .dead, .dead, .dead, .dead, .dead, .dead, .fz 1 11 (cM.g MAPSL), .own 27 4 11 (gOf eR RETSL)], [0, 1, 2, 3, 4, 5, 6, 7, 8, 9, 10, 11], by omega, rfl, (mle_cons ble_dead (mle_cons ble_dead (mle_cons ble_dead (mle_cons ble_dead (mle_cons ble_dead (mle_cons ble_dead (mle_cons ble_dead (mle_cons ble_dead (mle_cons ble_dead (mle_cons ble_dead (mle_cons ble_refl (mle_cons ble_refl mle_nil)))))))))))), rfl, rfl, c + 1, by omega, rfl, ?_, rfl⟩
       show ([.sl 10 1 0 11, .sl 11 4 0 11, .int .i64 (b : Int), .int .i64 (IntKind.i64.wrap ((c : Int) + 1))] : List SV) = _
       rw [i64_of (n := (c : Int) + 1) (by omega) (by omega)]; rfl)
    | (have h1 : b < 11 := (by
         first
         | (have h8 := of_decide_eq_true (by assumption : decide ((b : Int) < 11) = true); omega)
         | (have h8 := of_decide_eq_true (by assumption : decide ((b : Int) < ((11 : Nat) : Int)) = true); omega))
       refine ⟨11 - (b + 1), [.dead, .dead, .dead, .dead, .dead, .dead, .dead, .dead, .dead, .dead, .fz 1 11 (cM.g MAPSL), .own 27 4 11 (gOf eR RETSL)], [0, 1, 2, 3, 4, 5, 6, 7, 8, 9, 10, 11], by omega, rfl, (mle_cons ble_dead (mle_cons ble_dead (mle_cons ble_dead (mle_cons ble_dead (mle_cons ble_dead (mle_cons ble_dead (mle_cons ble_dead (mle_cons ble_dead (mle_cons ble_dead (mle_cons ble_dead (mle_cons ble_refl (mle_cons ble_refl mle_nil)))))))))))), rfl, rfl, b + 1, by omega, rfl, ?_, rfl⟩
       show ([.sl 10 1 0 11, .sl 11 4 0 11, .int .i64 (IntKind.i64.wrap ((b : Int) + 1))] : List SV) = _
       rw [i64_of (n := (b : Int) + 1) (by omega) (by omega)]; rfl)
    | (have h1 : r < 11 := (by
         first
         | (have h8 := of_decide_eq_true (by assumption : decide ((r : Int) < 11) = true); omega)
         | (have h8 := of_decide_eq_true (by assumption : decide ((r : Int) < ((11 : Nat) : Int)) = true); omega))
       refine ⟨12 - (r + 1 + m % 2), [.dead, .dead, .dead, .dead, .dead, .dead, .dead, .dead, .dead, .dead, .fz 1 11 (cM.g MAPSL), .own 27 4 11 (gOf eR RETSL)], [0, 1, 2, 3, 4, 5, 6, 7, 8, 9, 10, 11], by omega, rfl, (mle_cons ble_dead (mle_cons ble_dead (mle_cons ble_dead (mle_cons ble_dead (mle_cons ble_dead (mle_cons ble_dead (mle_cons ble_dead (mle_cons ble_dead (mle_cons ble_dead (mle_cons ble_dead (mle_cons ble_refl (mle_cons ble_refl mle_nil)))))))))))), rfl, rfl, r + 1 + m % 2, by omega, rfl, ?_, rfl⟩
       show ([.sl 10 1 0 11, .sl 11 4 0 11, .int .i64 (b : Int), .int .i64 (c : Int), .int .i64 (m : Int), .int .i64 (IntKind.i64.wrap (IntKind.i64.wrap ((r : Int) + 1) + Int.tmod (m : Int) 2))] : List SV) = _
       rw [i64_of (n := (r : Int) + 1) (by omega) (by omega), Int.tmod_eq_emod_of_nonneg (by omega), i64_of (n := (r : Int) + 1 + (m : Int) % 2) (by omega) (by omega), show (r : Int) + 1 + (m : Int) % 2 = ((r + 1 + m % 2 : Nat) : Int) by omega]))
  all_goals first
  | rfl
  | (have h1 : m < 11 := (by
         first
         | (have h8 := of_decide_eq_true (by assumption : decide ((m : Int) < 11) = true); omega)
         | (have h8 := of_decide_eq_true (by assumption : decide ((m : Int) < ((11 : Nat) : Int)) = true); omega))
     first
     | (show m < 11; exact h1)
     | exact decide_eq_true (by omega)
     | (rw [Bool.and_eq_true]; exact ⟨decide_eq_true (by omega), decide_eq_true (by omega)⟩)
     | (have h2 : r < 11 := (by
         first
         | (have h8 := of_decide_eq_true (by assumption : decide ((r : Int) < 11) = true); omega)
         | (have h8 := of_decide_eq_true (by assumption : decide ((r : Int) < ((11 : Nat) : Int)) = true); omega))
        first
        | (show r < 11; exact h2)
        | exact decide_eq_true (by omega)
        | (rw [Bool.and_eq_true]; exact ⟨decide_eq_true (by omega), decide_eq_true (by omega)⟩)))
  | exact Cel.is_of (c := cH) (help8 hsz (argRowZ _ _ _ _) (argNil _ _ _) _ _ _ _)
  | (rw [Cel.dec_of (c := cH) (help8 hsz (argRowZ _ _ _ _) (argNil _ _ _) _ _ _ _)]
     exact atMost_pair (mapsl_short _) (Nat.zero_le _))
  | exact Cel.is_of (c := cH) (help8 hsz (argRow _ _ _ _) (argNil _ _ _) _ _ _ _)
  | (rw [Cel.dec_of (c := cH) (help8 hsz (argRow _ _ _ _) (argNil _ _ _) _ _ _ _)]
     exact atMost_pair (mapsl_short _) (Nat.zero_le _))
  | exact Cel.is_of (c := cH) (help8 hsz (argNil _ _ _) (argRowZ _ _ _ _) _ _ _ _)
  | (rw [Cel.dec_of (c := cH) (help8 hsz (argNil _ _ _) (argRowZ _ _ _ _) _ _ _ _)]
     exact atMost_pair (Nat.zero_le _) (mapsl_short _))
  | exact Cel.is_of (c := cH) (help8 hsz (argNil _ _ _) (argRow _ _ _ _) _ _ _ _)
  | (rw [Cel.dec_of (c := cH) (help8 hsz (argNil _ _ _) (argRow _ _ _ _) _ _ _ _)]
     exact atMost_pair (Nat.zero_le _) (mapsl_short _))
  | (simp; done)
theorem ends_calls {w : World} : Calls Try.prog 5 #[] w (Ret w (.bool true)) := by
  have h := calls_runs (G := Gw) (w := w) (ρ0 := noρ) (z := fun _ => False) (Γ := ⟨[(7, k_awake), (4, k_words), (11, k_helper), (18, k_rhelper)], eqs, [], [], [], mixz, meqs, []⟩) (args := []) (M0 := []) st_Gw ⟨(okCons k_awake_ok (okCons k_words_ok (okCons k_helper_ok (okCons k_rhelper_ok okNil)))), eqs_ok, okNilB, okNilI, okNilP, mixz_ok, meqs_ok, okNilY⟩ Try.func5 rfl mixed [(13, 40, [0, 1, 0, 0, 12, 28, 0, 0, 192, 448, 1023, 0, 2048, 8191, 16383, 32767, 65535, 131071, 65535, 65535, 851967, 1900543, 65535, 65535, 12648447, 29425663, 67108863, 65535, 134283263, 402718719, 1073741823, 2147483647, 4294967295, 8589934591, 17179869183, 34359738367, 17179869183, 17179869183, 223338299391, 498216206335, 1099511627775, 2199023255551, 4398046511103, 8796093022207]), (35, 9, [0, 0, 3, 0, 0, 24, 56, 127, 0, 511]), (36, 3, [0, 1, 0, 7, 15])] (by kernel_rfl) [(4, 9995, [])] trivial rfl mrel_no ⟨rfl, rfl, ends_0 _ _ ⟨rfl, ends_4⟩⟩
  refine Calls.mono h ?_
  rintro e w' ⟨ρ', sv, M, rfl, hx, _, hbel⟩
  exact ⟨by rw [eqv_den hx ρ' noρ]; rfl, grow_mk hbel⟩
end Go.Proofs.Ytnbcemeofhaogaa
