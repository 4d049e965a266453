import Derived.Test.YtddcaklgflfkeaaGreatDoorScalL
namespace Go.Proofs.YtddcaklgflfkeaaGreatDoor
open Go.RowKit
set_option linter.unusedSimpArgs false
set_option linter.unusedVariables false
set_option maxHeartbeats 1000000
/-! The lowest bytes of a scalar, with a sign: its law. -/
namespace C
open S
def wideG (p : BitVec 64) : Sc × Bool := of ⟨0, BitVec.allOnes 64⟩ ⟨BitVec.ofInt 64 0, BitVec.ofInt 64 18446744073709551615, IntKind.i64.wrap (0 - sv (p / BitVec.ofInt 64 2)), IntKind.i64.wrap (sv (p / BitVec.ofInt 64 2) - 1)⟩
theorem has_all (n : BitVec 64) : T.has ⟨0, BitVec.allOnes 64⟩ n = true := T.has_iff.2 fun i hi => by
  refine ⟨?_, ?_⟩
  · show ((0#64).getLsbD i && _) = false; simp
  · show (n.getLsbD i && !(BitVec.allOnes 64).getLsbD i) = (0#64).getLsbD i; rw [BitVec.getLsbD_allOnes, decide_eq_true hi]; simp
theorem wide_has {p : BitVec 64} (n : BitVec 64) {k q : Nat} (hk : k ≤ 32) (h0 : 0 < k) (hq : q = 2 ^ (k - 1)) (e1 : IntKind.i64.wrap (0 - sv (p / BitVec.ofInt 64 2)) = -(q : Int)) (e2 : IntKind.i64.wrap (sv (p / BitVec.ofInt 64 2) - 1) = (q : Int) - 1) : (wideG p).2 = true ∧ hasb (wideG p).1 (W.xt n k true) = true := by
  have hq2 : 2 ^ k = 2 * q := by
    obtain ⟨j, rfl⟩ : ∃ j, k = j + 1 := ⟨k - 1, by omega⟩
    rw [hq, Nat.add_sub_cancel, Nat.pow_succ]; omega
  have hqs : q ≤ 2147483648 := by
    rw [hq]
    have : 2 ^ (k - 1) ≤ 2 ^ 31 := Nat.pow_le_pow_right (by decide) (by omega)
    omega
  have hqp : 0 < q := by rw [hq]; exact Nat.two_pow_pos _
  have hi : R.inS ⟨BitVec.ofInt 64 0, BitVec.ofInt 64 18446744073709551615, IntKind.i64.wrap (0 - sv (p / BitVec.ofInt 64 2)), IntKind.i64.wrap (sv (p / BitVec.ofInt 64 2) - 1)⟩ = true := by
    rw [e1, e2]; exact S.inS_iff.2 ⟨⟨by show (-9223372036854775808 : Int) ≤ -(q : Int); omega, by show -(q : Int) ≤ 9223372036854775807; omega⟩, ⟨by show (-9223372036854775808 : Int) ≤ (q : Int) - 1; omega, by show (q : Int) - 1 ≤ 9223372036854775807; omega⟩⟩
  have h := of_has (t := ⟨0, BitVec.allOnes 64⟩) hi (W.xt n k true)
  have hm : n.toNat % 2 ^ k < 2 ^ k := Nat.mod_lt _ (Nat.two_pow_pos k)
  have ef := xt_f n k hk
  have l1 := (W.xt n k true).isLt
  have hs : S.has ⟨BitVec.ofInt 64 0, BitVec.ofInt 64 18446744073709551615, IntKind.i64.wrap (0 - sv (p / BitVec.ofInt 64 2)), IntKind.i64.wrap (sv (p / BitVec.ofInt 64 2) - 1)⟩ (W.xt n k true) = true := by
    rw [e1, e2, S.has_iff]
    have hb : -(q : Int) ≤ sv (W.xt n k true) ∧ sv (W.xt n k true) ≤ (q : Int) - 1 := by
      rcases xt_t n h0 hk with ⟨c, e⟩ | ⟨c, e⟩
      · rw [← hq] at c
        rw [e, sv_small (by omega)]; omega
      · rw [← hq] at c
        rw [hq2] at e
        rw [sv_big (by omega), e]; omega
    refine ⟨Nat.zero_le _, Nat.le_refl _, ?_, hb.1, Int.le_refl _, hb.2⟩
    show (W.xt n k true).toNat ≤ (BitVec.ofInt 64 18446744073709551615).toNat
    rw [show (BitVec.ofInt 64 18446744073709551615).toNat = 18446744073709551615 from rfl]; omega
  rw [has_all, hs] at h
  have h := h.symm
  rw [Bool.and_self, Bool.and_eq_true] at h
  exact h
def tailG (x : Sc) (l : Tn) (k : Nat) (sg : Bool) (p : BitVec 64) : Sc × Bool :=
  if sg then (if decide ((cutG x l p).s.hi < p / BitVec.ofInt 64 2) then (cutG x l p, true) else if (one (cutG x l p)).2 then (const (W.xt (one (cutG x l p)).1 k true), true) else wideG p) else (cutG x l p, true)
theorem tail_law {x : Sc} (hx : R.inS x.s = true) (hr : right x = true) {l : Tn} {p : BitVec 64} {k q : Nat} (sg : Bool) (hk : k ≤ 32) (h0 : 0 < k) (hp : p.toNat = 2 ^ k) (hq : q = 2 ^ (k - 1)) (e1 : IntKind.i64.wrap (0 - sv (p / BitVec.ofInt 64 2)) = -(q : Int)) (e2 : IntKind.i64.wrap (sv (p / BitVec.ofInt 64 2) - 1) = (q : Int) - 1) (e3 : (p / BitVec.ofInt 64 2).toNat = q) :
    (tailG x l k sg p).2 = true ∧ right (tailG x l k sg p).1 = true ∧ ∀ n, hasb x n = true → T.has l (W.xt n k false) = true → hasb (tailG x l k sg p).1 (W.xt n k sg) = true := by
  have hu := cutG_in (l := l) (p := p) hx
  have ru := cutG_right (l := l) (p := p) hr
  unfold tailG
  cases sg with
  | false => exact ⟨rfl, ru, fun n hn hl => cutG_has hk hp hn hl⟩
  | true =>
    rw [if_pos rfl]
    split
    · rename_i hc
      refine ⟨rfl, ru, fun n hn hl => ?_⟩
      have h := cutG_has hk hp hn hl
      have hc := of_decide_eq_true hc
      rw [BitVec.lt_def, e3, hq] at hc
      have h1 := (hasb_iff.1 h).2.hi
      rcases xt_t n h0 hk with ⟨c, e⟩ | ⟨c, e⟩
      · rw [e]; exact h
      · omega
    · split
      · rename_i ho
        refine ⟨rfl, const_right _, fun n hn hl => ?_⟩
        have h := cutG_has hk hp hn hl
        have e := (one_has hu ho).2 _ h
        rw [← e, xt_idem n hk]
        exact hasb_iff.2 ⟨const_right _, const_in _⟩
      · have w := wide_has (p := p) (BitVec.ofInt 64 0) hk h0 hq e1 e2
        exact ⟨w.1, (hasb_iff.1 w.2).1, fun n _ _ => (wide_has (p := p) n hk h0 hq e1 e2).2⟩
end C
end Go.Proofs.YtddcaklgflfkeaaGreatDoor
