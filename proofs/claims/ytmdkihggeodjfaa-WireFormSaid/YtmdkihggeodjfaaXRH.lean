import Derived.Test.YtmdkihggeodjfaaXR
import Derived.Test.YtmdkihggeodjfaaXF
namespace Go.Proofs.Ytmdkihggeodjfaa
open Go.RowKit Go.Sx
set_option linter.unusedSimpArgs false
set_option linter.unusedVariables false
set_option linter.unnecessarySimpa false
set_option maxRecDepth 100000
set_option maxHeartbeats 4000000
theorem lhead_nil (d : Int) (Φ : Option Value → SV → List Blk → Prop) (hN : ∀ M1, Φ (some errV) .junk M1) :
    run Try.prog ⟨[], eqs, [], [(71, Try.f71, []), (39, Try.f39, [])], [], mixs, meqs, []⟩ 10000 [] 2 (bodyOf Try.f69) (initF Try.f69 [.ptr 0 0]) [.cells 93 [.sl 1 1 0 0, .int .i64 d], .ro 1 0 (gOf eB [])] (retKP Try.prog Try.f69 Φ) := by
  have h0 : decide (BitVec.ofInt 64 1 ≤ BitVec.ofInt 64 ((0 : Nat) : Int)) = false := by decide
  (conv => whnf)
  (repeat' (first | (refine step_t (by first | rfl | assumption) ?_; (conv => whnf)) | (refine step_f (by first | rfl | assumption) ?_; (conv => whnf)) | (refine step_nt (by assumption) ?_; (conv => whnf)) | (refine step_nf (by assumption) ?_; (conv => whnf)) | (refine step_n (fun hb => ?_) (fun hb => ?_) <;> (first | contradiction | (conv => whnf))) | (refine And.intro (fun hb => ?_) (fun hb => ?_) <;> (first | contradiction | (conv => whnf))) | (refine And.intro ?_ ?_; rotate_left 1; (conv => whnf))))
  all_goals first
  | exact hN _
  | (exfalso; exact Bool.noConfusion (h0.symm.trans (by assumption)))
theorem lhead_cons (c : Int) (R : List Int) (hB : btsB (c :: R) = true) (hl : (c :: R).length ≤ 1099511627776) (d : Int) (Φ : Option Value → SV → List Blk → Prop)
    (hN : Tr.headP (c :: R) = none → ∀ M1, Φ (some errV) .junk M1) (hS : ∀ kd v r, Tr.headP (c :: R) = some (kd, v, r) → ∀ x M1, RdEnd 93 (c :: R) r d true [.one (.int .u8 kd), .one (.u64 v)] x M1 → Φ none x M1) :
    run Try.prog ⟨[], eqs, [], [(71, Try.f71, []), (39, Try.f39, [])], [], mixs, meqs, []⟩ 10000 [] 2 (bodyOf Try.f69) (initF Try.f69 [.ptr 0 0]) [.cells 93 [.sl 1 1 0 (c :: R).length, .int .i64 d], .ro 1 (c :: R).length (gOf eB (c :: R))] (retKP Try.prog Try.f69 Φ) := by
  obtain ⟨c0, c1, hBR⟩ := bts_cons hB
  obtain ⟨f1, f2⟩ := byte_facts c0 c1
  have e1 : (BitVec.ofInt 64 1).toNat = 1 := by decide
  have eg : ((c :: R).getD (0 + 0 + Int.toNat 0) eB.dft) = c := rfl
  have eu : (BitVec.ofInt 64 (c % 64)).toNat = (c % 64).toNat := u_small (by omega) (by omega)
  have hl' : R.length < 1099511627776 := by simp only [List.length_cons] at hl; omega
  have a1 : decide (BitVec.ofInt 64 1 ≤ BitVec.ofInt 64 (((c :: R).length : Nat) : Int)) = true := by rw [le_u64 _ (by omega)]; exact decide_eq_true (by rw [e1]; simp)
  have a4 : decide (BitVec.ofInt 64 (Go.bits .and .u8 ((c :: R).getD (0 + 0 + Int.toNat 0) eB.dft) 63) < BitVec.ofInt 64 56) = decide (c % 64 < 56) := by rw [eg, f1, lt56, eu]; exact decide_eq_decide.2 (by omega)
  by_cases h56 : c % 64 < 56
  · rw [decide_eq_true h56] at a4
    have hs : Tr.headP (c :: R) = some (c / 64 + 1, BitVec.ofInt 64 (c % 64), R) := by rw [Tr.headP, if_pos h56]
    rcases Nat.eq_zero_or_pos R.length with hR | hR
    · obtain rfl : R = [] := List.eq_nil_of_length_eq_zero hR
      have a3 : decide ((BitVec.ofInt 64 1).toNat < [c].length) = false := decide_eq_false (by rw [e1]; simp)
      (conv => whnf)
      (repeat' (first | (refine step_t (by first | rfl | assumption) ?_; (conv => whnf)) | (refine step_f (by first | rfl | assumption) ?_; (conv => whnf)) | (refine step_nt (by assumption) ?_; (conv => whnf)) | (refine step_nf (by assumption) ?_; (conv => whnf)) | (refine step_n (fun hb => ?_) (fun hb => ?_) <;> (first | contradiction | (conv => whnf))) | (refine And.intro (fun hb => ?_) (fun hb => ?_) <;> (first | contradiction | (conv => whnf))) | (refine And.intro ?_ ?_; rotate_left 1; (conv => whnf))))
      all_goals try (first | rfl | (simp only [e1, List.length_cons, List.length_nil, Int.toNat_zero, Int.toNat_natCast, Bool.true_and, Bool.and_true, Bool.and_eq_true, decide_eq_true_eq]; omega))
      refine hS _ _ _ hs _ _ ⟨2, 0, by rfl, .inr rfl, [_, _], _, _, rfl, .inl (by trivial), rfl, rfl, ?_⟩
      rw [eg, f1, f2]; exact AVEqL.refl _
    · have a3 : decide ((BitVec.ofInt 64 1).toNat < (c :: R).length) = true := decide_eq_true (by rw [e1, List.length_cons]; omega)
      (conv => whnf)
      (repeat' (first | (refine step_t (by first | rfl | assumption) ?_; (conv => whnf)) | (refine step_f (by first | rfl | assumption) ?_; (conv => whnf)) | (refine step_nt (by assumption) ?_; (conv => whnf)) | (refine step_nf (by assumption) ?_; (conv => whnf)) | (refine step_n (fun hb => ?_) (fun hb => ?_) <;> (first | contradiction | (conv => whnf))) | (refine And.intro (fun hb => ?_) (fun hb => ?_) <;> (first | contradiction | (conv => whnf))) | (refine And.intro ?_ ?_; rotate_left 1; (conv => whnf))))
      all_goals try (first | rfl | (simp only [e1, List.length_cons, List.length_nil, Int.toNat_zero, Int.toNat_natCast, Bool.true_and, Bool.and_true, Bool.and_eq_true, decide_eq_true_eq]; omega))
      refine hS _ _ _ hs _ _ ⟨1, 1, by rfl, .inl ⟨rfl, by rw [List.length_cons]; omega⟩, [_, _], _, _, rfl, .inl (by trivial), rfl, rfl, ?_⟩
      rw [eg, f1, f2]; exact AVEqL.refl _
  · rw [decide_eq_false h56] at a4
    have qv : (BitVec.ofInt 64 (Go.bits .and .u8 ((c :: R).getD (0 + 0 + Int.toNat 0) eB.dft) 63) - BitVec.ofInt 64 56 + BitVec.ofInt 64 1).toNat = (c % 64 - 55).toNat := by rw [eg, f1]; exact many_of (by omega) (by omega)
    rcases Nat.eq_zero_or_pos R.length with hR | hR
    · obtain rfl : R = [] := List.eq_nil_of_length_eq_zero hR
      have a3 : decide ((BitVec.ofInt 64 1).toNat < [c].length) = false := decide_eq_false (by rw [e1]; simp)
      have a5 : decide ((BitVec.ofInt 64 (Go.bits .and .u8 ([c].getD (0 + 0 + Int.toNat 0) eB.dft) 63) - BitVec.ofInt 64 56 + BitVec.ofInt 64 1) ≤ BitVec.ofInt 64 ((0 : Nat) : Int)) = false := by rw [le_u64 _ (by omega), qv]; exact decide_eq_false (by omega)
      (conv => whnf)
      (repeat' (first | (refine step_t (by first | rfl | assumption) ?_; (conv => whnf)) | (refine step_f (by first | rfl | assumption) ?_; (conv => whnf)) | (refine step_nt (by assumption) ?_; (conv => whnf)) | (refine step_nf (by assumption) ?_; (conv => whnf)) | (refine step_n (fun hb => ?_) (fun hb => ?_) <;> (first | contradiction | (conv => whnf))) | (refine And.intro (fun hb => ?_) (fun hb => ?_) <;> (first | contradiction | (conv => whnf))) | (refine And.intro ?_ ?_; rotate_left 1; (conv => whnf))))
      all_goals try (first | rfl | (simp only [e1, List.length_cons, List.length_nil, Int.toNat_zero, Int.toNat_natCast, Bool.true_and, Bool.and_true, Bool.and_eq_true, decide_eq_true_eq]; omega))
      refine hN ?_ _
      rw [Tr.headP, if_neg h56, if_neg (fun h => by have := h.1; simp at this; omega)]
    · have a3 : decide ((BitVec.ofInt 64 1).toNat < (c :: R).length) = true := decide_eq_true (by rw [e1, List.length_cons]; omega)
      have a50 : decide ((BitVec.ofInt 64 (Go.bits .and .u8 ((c :: R).getD (0 + 0 + Int.toNat 0) eB.dft) 63) - BitVec.ofInt 64 56 + BitVec.ofInt 64 1) ≤ BitVec.ofInt 64 (((c :: R).length - (BitVec.ofInt 64 1).toNat : Nat) : Int)) = decide ((c % 64 - 55).toNat ≤ R.length) := by rw [e1, le_u64 _ (by rw [List.length_cons]; omega), qv]; simp
      rcases Nat.lt_or_ge R.length (c % 64 - 55).toNat with hq | hq
      · have a5 := a50.trans (decide_eq_false (by omega))
        (conv => whnf)
        (repeat' (first | (refine step_t (by first | rfl | assumption) ?_; (conv => whnf)) | (refine step_f (by first | rfl | assumption) ?_; (conv => whnf)) | (refine step_nt (by assumption) ?_; (conv => whnf)) | (refine step_nf (by assumption) ?_; (conv => whnf)) | (refine step_n (fun hb => ?_) (fun hb => ?_) <;> (first | contradiction | (conv => whnf))) | (refine And.intro (fun hb => ?_) (fun hb => ?_) <;> (first | contradiction | (conv => whnf))) | (refine And.intro ?_ ?_; rotate_left 1; (conv => whnf))))
        all_goals try (first | rfl | (simp only [e1, List.length_cons, List.length_nil, Int.toNat_zero, Int.toNat_natCast, Bool.true_and, Bool.and_true, Bool.and_eq_true, decide_eq_true_eq]; omega))
        refine hN ?_ _
        rw [Tr.headP, if_neg h56, if_neg (fun h => by have := h.1; omega)]
      · have a5 := a50.trans (decide_eq_true hq)
        have a6 : decide (0 < (c :: R).length - (BitVec.ofInt 64 1).toNat) = true := decide_eq_true (by rw [e1, List.length_cons]; omega)
        have hp : Tr.headP (c :: R) = if 56 ≤ Tr.val (R.take (BitVec.ofInt 64 (Go.bits .and .u8 ((c :: R).getD (0 + 0 + Int.toNat 0) eB.dft) 63) - BitVec.ofInt 64 56 + BitVec.ofInt 64 1).toNat) ∧ R.headD 0 ≠ 0 then some (c / 64 + 1, BitVec.ofNat 64 (Tr.val (R.take (BitVec.ofInt 64 (Go.bits .and .u8 ((c :: R).getD (0 + 0 + Int.toNat 0) eB.dft) 63) - BitVec.ofInt 64 56 + BitVec.ofInt 64 1).toNat)), R.drop (BitVec.ofInt 64 (Go.bits .and .u8 ((c :: R).getD (0 + 0 + Int.toNat 0) eB.dft) 63) - BitVec.ofInt 64 56 + BitVec.ofInt 64 1).toNat) else none := by
          rw [Tr.headP, if_neg h56, qv]
          by_cases hx : 56 ≤ Tr.val (R.take (c % 64 - 55).toNat) ∧ R.headD 0 ≠ 0
          · rw [if_pos hx, if_pos ⟨hq, hx⟩]
          · rw [if_neg hx, if_neg (fun h => hx h.2)]
        have hQ1 : 1 ≤ (BitVec.ofInt 64 (Go.bits .and .u8 ((c :: R).getD (0 + 0 + Int.toNat 0) eB.dft) 63) - BitVec.ofInt 64 56 + BitVec.ofInt 64 1).toNat := by rw [qv]; omega
        have hQ8 : (BitVec.ofInt 64 (Go.bits .and .u8 ((c :: R).getD (0 + 0 + Int.toNat 0) eB.dft) 63) - BitVec.ofInt 64 56 + BitVec.ofInt 64 1).toNat ≤ 8 := by rw [qv]; omega
        have hQR : (BitVec.ofInt 64 (Go.bits .and .u8 ((c :: R).getD (0 + 0 + Int.toNat 0) eB.dft) 63) - BitVec.ofInt 64 56 + BitVec.ofInt 64 1).toNat ≤ R.length := by rw [qv]; omega
        clear qv a50
        have hts : ∀ x, x = BitVec.ofNat 64 (Tr.val (R.take (BitVec.ofInt 64 (Go.bits .and .u8 ((c :: R).getD (0 + 0 + Int.toNat 0) eB.dft) 63) - BitVec.ofInt 64 56 + BitVec.ofInt 64 1).toNat)) → x.toNat = Tr.val (R.take (BitVec.ofInt 64 (Go.bits .and .u8 ((c :: R).getD (0 + 0 + Int.toNat 0) eB.dft) 63) - BitVec.ofInt 64 56 + BitVec.ofInt 64 1).toNat) := fun x hx => by
          rw [hx, BitVec.toNat_ofNat]
          refine Nat.mod_eq_of_lt (Nat.lt_of_lt_of_le (Tr.val_lt _ fun y hy => (btsB_iff.1 hBR) y (List.mem_of_mem_take hy)) ?_)
          rw [List.length_take, Nat.min_eq_left hQR, show (256 : Nat) = 2 ^ 8 from rfl, ← Nat.pow_mul]
          exact Nat.pow_le_pow_right (by omega) (by omega)
        rcases Nat.lt_or_ge (BitVec.ofInt 64 (Go.bits .and .u8 ((c :: R).getD (0 + 0 + Int.toNat 0) eB.dft) 63) - BitVec.ofInt 64 56 + BitVec.ofInt 64 1).toNat R.length with hq2 | hq2
        · have a7 : decide ((BitVec.ofInt 64 (Go.bits .and .u8 ((c :: R).getD (0 + 0 + Int.toNat 0) eB.dft) 63) - BitVec.ofInt 64 56 + BitVec.ofInt 64 1).toNat < (c :: R).length - (BitVec.ofInt 64 1).toNat) = true := decide_eq_true (by rw [e1, List.length_cons]; omega)
          (conv => whnf)
          (repeat' (first | (refine step_t (by first | rfl | assumption) ?_; (conv => whnf)) | (refine step_f (by first | rfl | assumption) ?_; (conv => whnf)) | (refine step_nt (by assumption) ?_; (conv => whnf)) | (refine step_nf (by assumption) ?_; (conv => whnf)) | (refine step_n (fun hb => ?_) (fun hb => ?_) <;> (first | contradiction | (conv => whnf))) | (refine And.intro (fun hb => ?_) (fun hb => ?_) <;> (first | contradiction | (conv => whnf))) | (refine And.intro ?_ ?_; rotate_left 1; (conv => whnf))))
          all_goals try (first | rfl | (simp only [e1, List.length_cons, List.length_nil, Int.toNat_zero, Int.toNat_natCast, Bool.true_and, Bool.and_true, Bool.and_eq_true, decide_eq_true_eq]; omega))
          refine Or.inr ?_
          refine ⟨[], [5, 6, 7, 29, 30, 31], fun k vals M => ∃ j : Nat, j ≤ (BitVec.ofInt 64 (Go.bits .and .u8 ((c :: R).getD (0 + 0 + Int.toNat 0) eB.dft) 63) - BitVec.ofInt 64 56 + BitVec.ofInt 64 1).toNat ∧ k = (BitVec.ofInt 64 (Go.bits .and .u8 ((c :: R).getD (0 + 0 + Int.toNat 0) eB.dft) 63) - BitVec.ofInt 64 56 + BitVec.ofInt 64 1).toNat - j ∧ vals = [.int .u8 (IntKind.u8.wrap (((c :: R).getD (0 + 0 + Int.toNat 0) eB.dft).fdiv (2 ^ min (BitVec.ofInt 64 6).toNat IntKind.u8.bits) + 1)), .u64 (BitVec.ofNat 64 (Tr.val (R.take j))), .sl 1 1 (0 + (BitVec.ofInt 64 1).toNat + 0) ((BitVec.ofInt 64 (Go.bits .and .u8 ((c :: R).getD (0 + 0 + Int.toNat 0) eB.dft) 63) - BitVec.ofInt 64 56 + BitVec.ofInt 64 1).toNat - 0), .sl 1 1 (0 + (BitVec.ofInt 64 1).toNat + 0) ((BitVec.ofInt 64 (Go.bits .and .u8 ((c :: R).getD (0 + 0 + Int.toNat 0) eB.dft) 63) - BitVec.ofInt 64 56 + BitVec.ofInt 64 1).toNat - 0), .int .i64 (((BitVec.ofInt 64 (Go.bits .and .u8 ((c :: R).getD (0 + 0 + Int.toNat 0) eB.dft) 63) - BitVec.ofInt 64 56 + BitVec.ofInt 64 1).toNat - 0 : Nat) : Int), .int .i64 (j : Int)] ∧ M = [.cells 93 [.sl 1 1 (0 + (BitVec.ofInt 64 1).toNat + (BitVec.ofInt 64 (Go.bits .and .u8 ((c :: R).getD (0 + 0 + Int.toNat 0) eB.dft) 63) - BitVec.ofInt 64 56 + BitVec.ofInt 64 1).toNat) ((c :: R).length - (BitVec.ofInt 64 1).toNat - (BitVec.ofInt 64 (Go.bits .and .u8 ((c :: R).getD (0 + 0 + Int.toNat 0) eB.dft) 63) - BitVec.ofInt 64 56 + BitVec.ofInt 64 1).toNat), .int .i64 d], .ro 1 (c :: R).length (gOf eB (c :: R))], ?_⟩
          conv => whnf
          refine And.intro ⟨(BitVec.ofInt 64 (Go.bits .and .u8 ((c :: R).getD (0 + 0 + Int.toNat 0) eB.dft) 63) - BitVec.ofInt 64 56 + BitVec.ofInt 64 1).toNat, [.cells 93 [.sl 1 1 (0 + (BitVec.ofInt 64 1).toNat + (BitVec.ofInt 64 (Go.bits .and .u8 ((c :: R).getD (0 + 0 + Int.toNat 0) eB.dft) 63) - BitVec.ofInt 64 56 + BitVec.ofInt 64 1).toNat) ((c :: R).length - (BitVec.ofInt 64 1).toNat - (BitVec.ofInt 64 (Go.bits .and .u8 ((c :: R).getD (0 + 0 + Int.toNat 0) eB.dft) 63) - BitVec.ofInt 64 56 + BitVec.ofInt 64 1).toNat), .int .i64 d], .ro 1 (c :: R).length (gOf eB (c :: R))], (mle_cons ble_refl (mle_cons ble_refl mle_nil)), rfl, rfl, 0, by omega, by omega, ?_, rfl⟩ ?_
          · rfl
          rintro k vals M1 ⟨j, hj, rfl, rfl, rfl⟩
          have hfirst : (c :: R).getD (0 + (BitVec.ofInt 64 1).toNat + 0 + Int.toNat 0) eB.dft = R.headD 0 := by
            rw [e1]; cases R <;> rfl
          (conv => whnf)
          (repeat' (first | (refine step_t (by first | rfl | assumption) ?_; (conv => whnf)) | (refine step_f (by first | rfl | assumption) ?_; (conv => whnf)) | (refine step_nt (by assumption) ?_; (conv => whnf)) | (refine step_nf (by assumption) ?_; (conv => whnf)) | (refine step_n (fun hb => ?_) (fun hb => ?_) <;> (first | contradiction | (conv => whnf))) | (refine And.intro (fun hb => ?_) (fun hb => ?_) <;> (first | contradiction | (conv => whnf))) | (refine And.intro ?_ ?_; rotate_left 1; (conv => whnf))))
          all_goals try (first | rfl | (simp only [e1, List.length_cons, List.length_nil, Bool.true_and, Bool.and_true, Bool.and_eq_true, decide_eq_true_eq]; omega))
          all_goals first
          | (have hlt : j < (BitVec.ofInt 64 (Go.bits .and .u8 ((c :: R).getD (0 + 0 + Int.toNat 0) eB.dft) 63) - BitVec.ofInt 64 56 + BitVec.ofInt 64 1).toNat := (by
               have h9 : decide ((j : Int) < (((BitVec.ofInt 64 (Go.bits .and .u8 ((c :: R).getD (0 + 0 + Int.toNat 0) eB.dft) 63) - BitVec.ofInt 64 56 + BitVec.ofInt 64 1).toNat - 0 : Nat) : Int)) = true := (by assumption)
               have := of_decide_eq_true h9
               omega)
             first
             | (simp only [e1, List.length_cons, Int.toNat_natCast, Bool.and_eq_true, decide_eq_true_eq]; omega)
             | (have hjR : j < R.length := (by omega)
                have hidx : (c :: R).getD (0 + (BitVec.ofInt 64 1).toNat + 0 + ((j : Int)).toNat) eB.dft = R.getD j eB.dft := (by
                  rw [e1, show 0 + 1 + 0 + ((j : Int)).toNat = j + 1 by omega, List.getD_cons_succ])
                have hstep : BitVec.ofNat 64 (Tr.val (R.take j)) <<< (BitVec.ofInt 64 8).toNat ||| BitVec.ofInt 64 ((c :: R).getD (0 + (BitVec.ofInt 64 1).toNat + 0 + ((j : Int)).toNat) eB.dft) = BitVec.ofNat 64 (Tr.val (R.take (j + 1))) := (by
                  have hb := bts_get hBR hjR (d := eB.dft)
                  rw [hidx, shl_or _ hb.1 hb.2, val_next hjR (d := eB.dft)])
                refine ⟨(BitVec.ofInt 64 (Go.bits .and .u8 ((c :: R).getD (0 + 0 + Int.toNat 0) eB.dft) 63) - BitVec.ofInt 64 56 + BitVec.ofInt 64 1).toNat - (j + 1), [.cells 93 [.sl 1 1 (0 + (BitVec.ofInt 64 1).toNat + (BitVec.ofInt 64 (Go.bits .and .u8 ((c :: R).getD (0 + 0 + Int.toNat 0) eB.dft) 63) - BitVec.ofInt 64 56 + BitVec.ofInt 64 1).toNat) ((c :: R).length - (BitVec.ofInt 64 1).toNat - (BitVec.ofInt 64 (Go.bits .and .u8 ((c :: R).getD (0 + 0 + Int.toNat 0) eB.dft) 63) - BitVec.ofInt 64 56 + BitVec.ofInt 64 1).toNat), .int .i64 d], .ro 1 (c :: R).length (gOf eB (c :: R))], [0, 1], by omega, rfl, (mle_cons ble_refl (mle_cons ble_refl mle_nil)), rfl, rfl, j + 1, by omega, rfl, ?_, rfl⟩
                show [SV.int .u8 (IntKind.u8.wrap (((c :: R).getD (0 + 0 + Int.toNat 0) eB.dft).fdiv (2 ^ min (BitVec.ofInt 64 6).toNat IntKind.u8.bits) + 1)), .u64 (BitVec.ofNat 64 (Tr.val (R.take j)) <<< (BitVec.ofInt 64 8).toNat ||| BitVec.ofInt 64 ((c :: R).getD (0 + (BitVec.ofInt 64 1).toNat + 0 + ((j : Int)).toNat) eB.dft)), .sl 1 1 (0 + (BitVec.ofInt 64 1).toNat + 0) ((BitVec.ofInt 64 (Go.bits .and .u8 ((c :: R).getD (0 + 0 + Int.toNat 0) eB.dft) 63) - BitVec.ofInt 64 56 + BitVec.ofInt 64 1).toNat - 0), .sl 1 1 (0 + (BitVec.ofInt 64 1).toNat + 0) ((BitVec.ofInt 64 (Go.bits .and .u8 ((c :: R).getD (0 + 0 + Int.toNat 0) eB.dft) 63) - BitVec.ofInt 64 56 + BitVec.ofInt 64 1).toNat - 0), .int .i64 (((BitVec.ofInt 64 (Go.bits .and .u8 ((c :: R).getD (0 + 0 + Int.toNat 0) eB.dft) 63) - BitVec.ofInt 64 56 + BitVec.ofInt 64 1).toNat - 0 : Nat) : Int), .int .i64 (IntKind.i64.wrap ((j : Int) + 1))] = _
                rw [hstep, i64_of (n := (j : Int) + 1) (by omega) (by omega)]; rfl))
          | (have hje : j = (BitVec.ofInt 64 (Go.bits .and .u8 ((c :: R).getD (0 + 0 + Int.toNat 0) eB.dft) 63) - BitVec.ofInt 64 56 + BitVec.ofInt 64 1).toNat := (by
               have h9 : decide ((j : Int) < (((BitVec.ofInt 64 (Go.bits .and .u8 ((c :: R).getD (0 + 0 + Int.toNat 0) eB.dft) 63) - BitVec.ofInt 64 56 + BitVec.ofInt 64 1).toNat - 0 : Nat) : Int)) = false := (by assumption)
               have := of_decide_eq_false h9
               omega)
             clear hj
             subst hje
             first
             | (have h9 : decide (BitVec.ofInt 64 56 ≤ BitVec.ofNat 64 (Tr.val (R.take (BitVec.ofInt 64 (Go.bits .and .u8 ((c :: R).getD (0 + 0 + Int.toNat 0) eB.dft) 63) - BitVec.ofInt 64 56 + BitVec.ofInt 64 1).toNat))) = false := (by assumption)
                rw [ge56, hts _ rfl] at h9
                have h9 := of_decide_eq_false h9
                refine hN ?_ _
                rw [hp, if_neg (fun h => h9 h.1)])
             | (have h8 : decide (BitVec.ofInt 64 56 ≤ BitVec.ofNat 64 (Tr.val (R.take (BitVec.ofInt 64 (Go.bits .and .u8 ((c :: R).getD (0 + 0 + Int.toNat 0) eB.dft) 63) - BitVec.ofInt 64 56 + BitVec.ofInt 64 1).toNat))) = true := (by assumption)
                rw [ge56, hts _ rfl] at h8
                have h8 := of_decide_eq_true h8
                first
                | (have h9 : ((c :: R).getD (0 + (BitVec.ofInt 64 1).toNat + 0 + Int.toNat 0) eB.dft != 0) = false := (by assumption)
                   rw [hfirst] at h9
                   refine hN ?_ _
                   rw [hp, if_neg (fun h => absurd h9 (by simpa using h.2))])
                | (have h9 : ((c :: R).getD (0 + (BitVec.ofInt 64 1).toNat + 0 + Int.toNat 0) eB.dft != 0) = true := (by assumption)
                   rw [hfirst] at h9
                   have hs := hp.trans (if_pos ⟨h8, by simpa using h9⟩)
                   have er : (c :: R).length - (BitVec.ofInt 64 1).toNat - (BitVec.ofInt 64 (Go.bits .and .u8 ((c :: R).getD (0 + 0 + Int.toNat 0) eB.dft) 63) - BitVec.ofInt 64 56 + BitVec.ofInt 64 1).toNat = (R.drop (BitVec.ofInt 64 (Go.bits .and .u8 ((c :: R).getD (0 + 0 + Int.toNat 0) eB.dft) 63) - BitVec.ofInt 64 56 + BitVec.ofInt 64 1).toNat).length := (by rw [e1, List.length_cons, List.length_drop]; omega)
                   rw [er]
                   refine hS _ _ _ hs _ _ ⟨1, _, by rfl, .inl ⟨rfl, by rw [e1, List.length_drop, List.length_cons]; omega⟩, [_, _], _, _, rfl, .inl (by trivial), rfl, rfl, ?_⟩
                   rw [eg, f2]; exact AVEqL.refl _)))
          

        · have a7 : decide ((BitVec.ofInt 64 (Go.bits .and .u8 ((c :: R).getD (0 + 0 + Int.toNat 0) eB.dft) 63) - BitVec.ofInt 64 56 + BitVec.ofInt 64 1).toNat < (c :: R).length - (BitVec.ofInt 64 1).toNat) = false := decide_eq_false (by rw [e1, List.length_cons]; omega)
          (conv => whnf)
          (repeat' (first | (refine step_t (by first | rfl | assumption) ?_; (conv => whnf)) | (refine step_f (by first | rfl | assumption) ?_; (conv => whnf)) | (refine step_nt (by assumption) ?_; (conv => whnf)) | (refine step_nf (by assumption) ?_; (conv => whnf)) | (refine step_n (fun hb => ?_) (fun hb => ?_) <;> (first | contradiction | (conv => whnf))) | (refine And.intro (fun hb => ?_) (fun hb => ?_) <;> (first | contradiction | (conv => whnf))) | (refine And.intro ?_ ?_; rotate_left 1; (conv => whnf))))
          all_goals try (first | rfl | (simp only [e1, List.length_cons, List.length_nil, Int.toNat_zero, Int.toNat_natCast, Bool.true_and, Bool.and_true, Bool.and_eq_true, decide_eq_true_eq]; omega))
          refine Or.inr ?_
          refine ⟨[], [5, 6, 7, 29, 30, 31], fun k vals M => ∃ j : Nat, j ≤ (BitVec.ofInt 64 (Go.bits .and .u8 ((c :: R).getD (0 + 0 + Int.toNat 0) eB.dft) 63) - BitVec.ofInt 64 56 + BitVec.ofInt 64 1).toNat ∧ k = (BitVec.ofInt 64 (Go.bits .and .u8 ((c :: R).getD (0 + 0 + Int.toNat 0) eB.dft) 63) - BitVec.ofInt 64 56 + BitVec.ofInt 64 1).toNat - j ∧ vals = [.int .u8 (IntKind.u8.wrap (((c :: R).getD (0 + 0 + Int.toNat 0) eB.dft).fdiv (2 ^ min (BitVec.ofInt 64 6).toNat IntKind.u8.bits) + 1)), .u64 (BitVec.ofNat 64 (Tr.val (R.take j))), .sl 1 1 (0 + (BitVec.ofInt 64 1).toNat + 0) ((BitVec.ofInt 64 (Go.bits .and .u8 ((c :: R).getD (0 + 0 + Int.toNat 0) eB.dft) 63) - BitVec.ofInt 64 56 + BitVec.ofInt 64 1).toNat - 0), .sl 1 1 (0 + (BitVec.ofInt 64 1).toNat + 0) ((BitVec.ofInt 64 (Go.bits .and .u8 ((c :: R).getD (0 + 0 + Int.toNat 0) eB.dft) 63) - BitVec.ofInt 64 56 + BitVec.ofInt 64 1).toNat - 0), .int .i64 (((BitVec.ofInt 64 (Go.bits .and .u8 ((c :: R).getD (0 + 0 + Int.toNat 0) eB.dft) 63) - BitVec.ofInt 64 56 + BitVec.ofInt 64 1).toNat - 0 : Nat) : Int), .int .i64 (j : Int)] ∧ M = [.cells 93 [.sl 2 1 0 0, .int .i64 d], .ro 1 (c :: R).length (gOf eB (c :: R)), .ro 1 0 (fun _ => [])], ?_⟩
          conv => whnf
          refine And.intro ⟨(BitVec.ofInt 64 (Go.bits .and .u8 ((c :: R).getD (0 + 0 + Int.toNat 0) eB.dft) 63) - BitVec.ofInt 64 56 + BitVec.ofInt 64 1).toNat, [.cells 93 [.sl 2 1 0 0, .int .i64 d], .ro 1 (c :: R).length (gOf eB (c :: R)), .ro 1 0 (fun _ => [])], (mle_cons ble_refl (mle_cons ble_refl (mle_cons ble_refl mle_nil))), rfl, rfl, 0, by omega, by omega, ?_, rfl⟩ ?_
          · rfl
          rintro k vals M1 ⟨j, hj, rfl, rfl, rfl⟩
          have hfirst : (c :: R).getD (0 + (BitVec.ofInt 64 1).toNat + 0 + Int.toNat 0) eB.dft = R.headD 0 := by
            rw [e1]; cases R <;> rfl
          (conv => whnf)
          (repeat' (first | (refine step_t (by first | rfl | assumption) ?_; (conv => whnf)) | (refine step_f (by first | rfl | assumption) ?_; (conv => whnf)) | (refine step_nt (by assumption) ?_; (conv => whnf)) | (refine step_nf (by assumption) ?_; (conv => whnf)) | (refine step_n (fun hb => ?_) (fun hb => ?_) <;> (first | contradiction | (conv => whnf))) | (refine And.intro (fun hb => ?_) (fun hb => ?_) <;> (first | contradiction | (conv => whnf))) | (refine And.intro ?_ ?_; rotate_left 1; (conv => whnf))))
          all_goals try (first | rfl | (simp only [e1, List.length_cons, List.length_nil, Bool.true_and, Bool.and_true, Bool.and_eq_true, decide_eq_true_eq]; omega))
          all_goals first
          | (have hlt : j < (BitVec.ofInt 64 (Go.bits .and .u8 ((c :: R).getD (0 + 0 + Int.toNat 0) eB.dft) 63) - BitVec.ofInt 64 56 + BitVec.ofInt 64 1).toNat := (by
               have h9 : decide ((j : Int) < (((BitVec.ofInt 64 (Go.bits .and .u8 ((c :: R).getD (0 + 0 + Int.toNat 0) eB.dft) 63) - BitVec.ofInt 64 56 + BitVec.ofInt 64 1).toNat - 0 : Nat) : Int)) = true := (by assumption)
               have := of_decide_eq_true h9
               omega)
             first
             | (simp only [e1, List.length_cons, Int.toNat_natCast, Bool.and_eq_true, decide_eq_true_eq]; omega)
             | (have hjR : j < R.length := (by omega)
                have hidx : (c :: R).getD (0 + (BitVec.ofInt 64 1).toNat + 0 + ((j : Int)).toNat) eB.dft = R.getD j eB.dft := (by
                  rw [e1, show 0 + 1 + 0 + ((j : Int)).toNat = j + 1 by omega, List.getD_cons_succ])
                have hstep : BitVec.ofNat 64 (Tr.val (R.take j)) <<< (BitVec.ofInt 64 8).toNat ||| BitVec.ofInt 64 ((c :: R).getD (0 + (BitVec.ofInt 64 1).toNat + 0 + ((j : Int)).toNat) eB.dft) = BitVec.ofNat 64 (Tr.val (R.take (j + 1))) := (by
                  have hb := bts_get hBR hjR (d := eB.dft)
                  rw [hidx, shl_or _ hb.1 hb.2, val_next hjR (d := eB.dft)])
                refine ⟨(BitVec.ofInt 64 (Go.bits .and .u8 ((c :: R).getD (0 + 0 + Int.toNat 0) eB.dft) 63) - BitVec.ofInt 64 56 + BitVec.ofInt 64 1).toNat - (j + 1), [.cells 93 [.sl 2 1 0 0, .int .i64 d], .ro 1 (c :: R).length (gOf eB (c :: R)), .ro 1 0 (fun _ => [])], [0, 1, 2], by omega, rfl, (mle_cons ble_refl (mle_cons ble_refl (mle_cons ble_refl mle_nil))), rfl, rfl, j + 1, by omega, rfl, ?_, rfl⟩
                show [SV.int .u8 (IntKind.u8.wrap (((c :: R).getD (0 + 0 + Int.toNat 0) eB.dft).fdiv (2 ^ min (BitVec.ofInt 64 6).toNat IntKind.u8.bits) + 1)), .u64 (BitVec.ofNat 64 (Tr.val (R.take j)) <<< (BitVec.ofInt 64 8).toNat ||| BitVec.ofInt 64 ((c :: R).getD (0 + (BitVec.ofInt 64 1).toNat + 0 + ((j : Int)).toNat) eB.dft)), .sl 1 1 (0 + (BitVec.ofInt 64 1).toNat + 0) ((BitVec.ofInt 64 (Go.bits .and .u8 ((c :: R).getD (0 + 0 + Int.toNat 0) eB.dft) 63) - BitVec.ofInt 64 56 + BitVec.ofInt 64 1).toNat - 0), .sl 1 1 (0 + (BitVec.ofInt 64 1).toNat + 0) ((BitVec.ofInt 64 (Go.bits .and .u8 ((c :: R).getD (0 + 0 + Int.toNat 0) eB.dft) 63) - BitVec.ofInt 64 56 + BitVec.ofInt 64 1).toNat - 0), .int .i64 (((BitVec.ofInt 64 (Go.bits .and .u8 ((c :: R).getD (0 + 0 + Int.toNat 0) eB.dft) 63) - BitVec.ofInt 64 56 + BitVec.ofInt 64 1).toNat - 0 : Nat) : Int), .int .i64 (IntKind.i64.wrap ((j : Int) + 1))] = _
                rw [hstep, i64_of (n := (j : Int) + 1) (by omega) (by omega)]; rfl))
          | (have hje : j = (BitVec.ofInt 64 (Go.bits .and .u8 ((c :: R).getD (0 + 0 + Int.toNat 0) eB.dft) 63) - BitVec.ofInt 64 56 + BitVec.ofInt 64 1).toNat := (by
               have h9 : decide ((j : Int) < (((BitVec.ofInt 64 (Go.bits .and .u8 ((c :: R).getD (0 + 0 + Int.toNat 0) eB.dft) 63) - BitVec.ofInt 64 56 + BitVec.ofInt 64 1).toNat - 0 : Nat) : Int)) = false := (by assumption)
               have := of_decide_eq_false h9
               omega)
             clear hj
             subst hje
             first
             | (have h9 : decide (BitVec.ofInt 64 56 ≤ BitVec.ofNat 64 (Tr.val (R.take (BitVec.ofInt 64 (Go.bits .and .u8 ((c :: R).getD (0 + 0 + Int.toNat 0) eB.dft) 63) - BitVec.ofInt 64 56 + BitVec.ofInt 64 1).toNat))) = false := (by assumption)
                rw [ge56, hts _ rfl] at h9
                have h9 := of_decide_eq_false h9
                refine hN ?_ _
                rw [hp, if_neg (fun h => h9 h.1)])
             | (have h8 : decide (BitVec.ofInt 64 56 ≤ BitVec.ofNat 64 (Tr.val (R.take (BitVec.ofInt 64 (Go.bits .and .u8 ((c :: R).getD (0 + 0 + Int.toNat 0) eB.dft) 63) - BitVec.ofInt 64 56 + BitVec.ofInt 64 1).toNat))) = true := (by assumption)
                rw [ge56, hts _ rfl] at h8
                have h8 := of_decide_eq_true h8
                first
                | (have h9 : ((c :: R).getD (0 + (BitVec.ofInt 64 1).toNat + 0 + Int.toNat 0) eB.dft != 0) = false := (by assumption)
                   rw [hfirst] at h9
                   refine hN ?_ _
                   rw [hp, if_neg (fun h => absurd h9 (by simpa using h.2))])
                | (have h9 : ((c :: R).getD (0 + (BitVec.ofInt 64 1).toNat + 0 + Int.toNat 0) eB.dft != 0) = true := (by assumption)
                   rw [hfirst] at h9
                   have hs := hp.trans (if_pos ⟨h8, by simpa using h9⟩)
                   rw [List.drop_eq_nil_of_le hq2] at hs
                   refine hS _ _ _ hs _ _ ⟨2, 0, by rfl, .inr rfl, [_, _], _, _, rfl, .inl (by trivial), rfl, rfl, ?_⟩
                   rw [eg, f2]; exact AVEqL.refl _)))
          

theorem lhead_run (L : List Int) (hB : btsB L = true) (hl : L.length ≤ 1099511627776) (d : Int) (Φ : Option Value → SV → List Blk → Prop)
    (hN : Tr.headP L = none → ∀ M1, Φ (some errV) .junk M1) (hS : ∀ kd v r, Tr.headP L = some (kd, v, r) → ∀ x M1, RdEnd 93 L r d true [.one (.int .u8 kd), .one (.u64 v)] x M1 → Φ none x M1) :
    run Try.prog ⟨[], eqs, [], [(71, Try.f71, []), (39, Try.f39, [])], [], mixs, meqs, []⟩ 10000 [] 2 (bodyOf Try.f69) (initF Try.f69 [.ptr 0 0]) [.cells 93 [.sl 1 1 0 L.length, .int .i64 d], .ro 1 L.length (gOf eB L)] (retKP Try.prog Try.f69 Φ) := by
  cases L with
  | nil => exact lhead_nil d Φ (hN rfl)
  | cons c R => exact lhead_cons c R hB hl d Φ hN hS
noncomputable def k_lhead : YC := fun args M K => match args with
  | [.ptr k 0] => match nth M k with
    | some (.cells ty [.sl n 1 off len, .int .i64 d]) => match nth M n with
      | some (.ro 1 m g) => (Nat.beq ty 93) = true ∧ (decide (off + len ≤ m)) = true ∧ (allIs eB off len g && (btsB (elts eB off len g) && decide (len ≤ 1099511627776))) = true ∧
          RH (Tr.headP (elts eB off len g)) (fun kd v r => (decide (0 < r.length) = true → forceM (M.set k (.cells 93 [.sl n 1 (off + (len - r.length)) r.length, .int .i64 d]) ++ [.ro 1 0 (fun _ => [])]) fun M' => K none (.tup [.int .u8 kd, .u64 v]) M') ∧ (decide (0 < r.length) = false → forceM (M.set k (.cells 93 [.sl M.length 1 0 0, .int .i64 d]) ++ [.ro 1 0 (fun _ => [])]) fun M' => K none (.tup [.int .u8 kd, .u64 v]) M')) (K (some errV) .junk (M.set k .dead))
      | _ => False
    | _ => False
  | _ => False
theorem k_lhead_ok : YCtrOk Try.prog Gw 69 k_lhead := by
  refine ⟨fun _ _ => by kernel_rfl, fun args M K h hsc hwf => ?_⟩
  unfold k_lhead at h
  split at h
  · rename_i k
    split at h
    · rename_i ty n off len d hk
      split at h
      · rename_i m g hn
        obtain ⟨hty, hle, hc, h⟩ := h
        obtain rfl := Nat.eq_of_beq_eq_true hty
        simp only [Bool.and_eq_true, decide_eq_true_eq] at hle hc
        obtain ⟨h1, h2⟩ := RH_is h
        rw [nth_eq] at hk hn
        have e := elts_length eB off len g
        have hr := lhead_run (elts eB off len g) hc.2.1 (by omega) d (EndYR M k n 1 off len 93 K) (fun h0 _ => h2 h0) (fun kd v r h0 x M1 hE => by
          obtain ⟨e1, o2, a1, a2, a3⟩ := hE
          rw [e] at a2
          obtain ⟨c1, c2⟩ := h1 kd v r h0
          rw [forceM_eq] at c1 c2
          refine ⟨e1, o2, r.length, _, true, _, a1, rfl, a3, ?_⟩
          rcases Nat.eq_zero_or_pos r.length with hz | hz
          · exact .inr ⟨hz, c2 (decide_eq_false (by omega))⟩
          · obtain ⟨rfl, hl⟩ := a2.resolve_right (by omega)
            have := c1 (decide_eq_true hz)
            rw [show len - r.length = o2 by omega] at this
            exact .inl ⟨rfl, by omega, this⟩)
        rw [e] at hr
        exact yread_top (Γ := ⟨[], eqs, [], [(71, Try.f71, []), (39, Try.f39, [])], [], mixs, meqs, []⟩) ⟨okNil, eqs_ok, okNilB, (okConsI Try.func71 rfl (by kernel_rfl) (fun _ _ => by kernel_rfl) (okConsI Try.func39 rfl (by kernel_rfl) (fun _ _ => by kernel_rfl) okNilI)), okNilP, mixs_ok, meqs_ok, okNilY⟩ Try.func69 rfl mixed [] (by kernel_rfl) 10000 (gOf eB (elts eB off len g)) hk hwf hn hle (fun i hi => gOf_elts eB hc.1 i hi) rfl hr
      · exact h.elim
    · exact h.elim
  · exact h.elim
end Go.Proofs.Ytmdkihggeodjfaa
namespace Go.Proofs.Ytmdkihggeodjfaa
open Go.RowKit Go.Sx
set_option linter.unusedSimpArgs false
set_option linter.unusedVariables false
set_option linter.unnecessarySimpa false
set_option maxRecDepth 100000
set_option maxHeartbeats 4000000
theorem tree_run0 (L : List Int) (hB : btsB L = true) (hl : L.length ≤ 1099511627776) (Φ : Option Value → SV → List Blk → Prop)
    (hN : Tr.parse (0) L = none → ∀ M1, Φ (some errV) .junk M1) (hS : ∀ t r, Tr.parse (0) L = some (t, r) → ∀ x M1, RdEnd 93 L r ((0 : Nat) : Int) false [.agg (celG t)] x M1 → Φ none x M1) :
    run Try.prog ⟨[(11, k_Of)], eqs, [], [(71, Try.f71, []), (39, Try.f39, []), (70, Try.f70, [])], [], mixs, meqs, [(69, k_lhead)]⟩ 10000 [] 2 (bodyOf Try.f38) (initF Try.f38 [.ptr 0 0]) [.cells 93 [.sl 1 1 0 L.length, .int .i64 ((0 : Nat) : Int)], .ro 1 L.length (gOf eB L)] (retKP Try.prog Try.f38 Φ) := by
  have w0 : allIs eB 0 L.length (gOf eB L) = true := allIs_gOf ..
  have w1 : elts eB 0 L.length (gOf eB L) = L := elts_all eB L
  have by1 : Try.prog.types[5].bytes = 1 := by kernel_rfl
  have hz28 : Try.prog.types[28].bytes = 64 := by kernel_rfl
  have hs28 : Try.prog.types[28].size = 4 := by kernel_rfl
  (conv => whnf)
  (repeat' (first | (refine RH_in (fun kd v r hr => ?_) (fun hr => ?_) <;> (conv => whnf)) | (refine RTr_in (fun t r ht => ?_) (fun ht => ?_) <;> (conv => whnf)) | (first | (refine step_t (by first | rfl | assumption) ?_; (conv => whnf)) | (refine step_f (by first | rfl | assumption) ?_; (conv => whnf)) | (refine step_nt (by assumption) ?_; (conv => whnf)) | (refine step_nf (by assumption) ?_; (conv => whnf)) | (refine step_n (fun hb => ?_) (fun hb => ?_) <;> (first | contradiction | (conv => whnf))) | (refine And.intro (fun hb => ?_) (fun hb => ?_) <;> (first | contradiction | (conv => whnf))) | (refine And.intro ?_ ?_; rotate_left 1; (conv => whnf)))))
  all_goals try (simp only [w0, w1] at *)
  all_goals first
  | rfl
  | (refine hN (parse0_5 (by assumption)) _)
  | (simp only [Bool.true_and, Bool.and_eq_true, decide_eq_true_eq]; (first | omega | exact ⟨hB, hl⟩); done)
  | (have h1 : (kd == 1) = true := (by assumption)
     have hd := headP_drop hr
     refine hS _ _ (parse0_1 hr h1) _ _ ?_
     rw [sv_xor]
     (first | (have q3 : decide (0 < r.length) = true := (by assumption); have q3 := of_decide_eq_true q3) | (have q3 : decide (0 < r.length) = false := (by assumption); have q3 := of_decide_eq_false q3) | skip)
     first
     | exact rd_end (by rfl) rfl rfl (.inl ⟨rfl, by omega⟩) (tells_T rfl rfl (fvl_cons (FVEq.refl _) (fvl_cons (FVEq.refl _) (fvl_cons FVEq.nil (fvl_cons FVEq.nil (FVEqL.refl _))))))
     | exact rd_end (by rfl) (by omega) rfl (.inr rfl) (tells_T rfl rfl (fvl_cons (FVEq.refl _) (fvl_cons (FVEq.refl _) (fvl_cons FVEq.nil (fvl_cons FVEq.nil (FVEqL.refl _)))))))
  | (refine hN (parse0_4 hr (by assumption) (by assumption)) _)
  | (exfalso
     have h0 : decide ((0 : Int) < ((0 : Nat) : Int)) = true := (by assumption)
     have := of_decide_eq_true h0
     omega)
  | (have h2 : (kd == 2) = true := (by assumption)
     have hd := headP_drop hr
     have u1 := le_u64 v (n := r.length) (by omega)
     have u0 := le_u64 v (n := 0) (by omega)
     (first | (have q3 : decide (0 < r.length) = true := (by assumption); have q3 := of_decide_eq_true q3) | (have q3 : decide (0 < r.length) = false := (by assumption); have q3 := of_decide_eq_false q3) | skip)
     (first | (have q1 : decide (v.toNat < r.length) = true := (by assumption); have q1 := of_decide_eq_true q1) | (have q1 : decide (v.toNat < r.length) = false := (by assumption); have q1 := of_decide_eq_false q1) | skip)
     (first | (have q2 : decide (0 < v.toNat - 0) = true := (by assumption); have q2 := of_decide_eq_true q2) | (have q2 : decide (0 < v.toNat - 0) = false := (by assumption); have q2 := of_decide_eq_false q2) | skip)
     first
     | (have hv : decide (v ≤ BitVec.ofInt 64 ((r.length : Nat) : Int)) = false := (by assumption)
        have hv := of_decide_eq_false (u1.symm.trans hv)
        refine hN ?_ _
        rw [parse0_2 hr h2, if_neg hv])
     | (have hv : decide (v ≤ BitVec.ofInt 64 ((0 : Nat) : Int)) = false := (by assumption)
        have hv := of_decide_eq_false (u0.symm.trans hv)
        refine hN ?_ _
        rw [parse0_2 hr h2, if_neg (by omega)])
     | (have hv : v.toNat ≤ r.length := (by
          first
          | (have hv : decide (v ≤ BitVec.ofInt 64 ((r.length : Nat) : Int)) = true := (by assumption)
             exact of_decide_eq_true (u1.symm.trans hv))
          | (have hv : decide (v ≤ BitVec.ofInt 64 ((0 : Nat) : Int)) = true := (by assumption)
             have hv := of_decide_eq_true (u0.symm.trans hv)
             omega))
        first
        | (simp only [by1, Bool.true_and, Bool.and_eq_true, decide_eq_true_eq]; omega)
        | (have v0 : v.toNat ≤ 0 := (by
             have hv : decide (v ≤ BitVec.ofInt 64 ((0 : Nat) : Int)) = true := (by assumption)
             exact of_decide_eq_true (u0.symm.trans hv))
           simp only [by1, Bool.true_and, Bool.and_eq_true, decide_eq_true_eq]; omega)
        | (refine hS (.mk 2 0 (r.take v.toNat) []) (r.drop v.toNat) (by rw [parse0_2 hr h2, if_pos hv]) _ _ (rd_end (by rfl) ?_ rfl ?_ (tells_T rfl ?_ (tell_2 ?_)))
           · first | (rw [List.length_drop]; done) | (rw [List.length_drop]; omega)
           · first | exact .inr rfl | (refine Or.inl (And.intro rfl ?_); omega)
           · first | rfl | (simp; done)
           · first
             | exact nil_bytes (List.eq_nil_of_length_eq_zero (by rw [List.length_take]; omega))
             | exact row_app rfl (by rw [List.length_take]; omega) (fun i hi => bytes_at hd.1 (by omega))
             | exact row_bytes rfl (by rw [List.length_take]; omega) (fun i hi => by omega))))
  | skip

end Go.Proofs.Ytmdkihggeodjfaa
