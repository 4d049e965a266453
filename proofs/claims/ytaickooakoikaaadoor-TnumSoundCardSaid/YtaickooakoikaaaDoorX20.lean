import Derived.Test.YtaickooakoikaaaDoorX19
namespace Go.Proofs.YtaickooakoikaaaDoor
open Go.RowKit Go.Sx
set_option linter.unusedSimpArgs false
set_option linter.unusedVariables false
set_option linter.unnecessarySimpa false
set_option maxRecDepth 100000
set_option maxHeartbeats 4000000
/-- A Bool as an element. -/
def eB : Enc Bool := ⟨fun b => [.bool b], fun l => match l with | [.bool b] => b | _ => false, fun l => match l with | [.bool _] => true | _ => false, false,
  fun l h => by revert h; split <;> simp_all, fun _ => rfl, fun _ => rfl⟩
theorem gB (L : List Bool) (i : Nat) (b : Bool) (hi : i < L.length) : ∀ k, k < L.length → gOf eB (L.set i b) k = gSet (gOf eB L) i 0 [.bool b] k := gSet_gOf eB hi rfl (by simp [eB])
namespace T
theorem rnd_skip0 {less : Bool} {a b : Tn} {i n : Nat} {c0 c1 : Bool} {s : St} (h : (if n.testBit 2 then c1 else c0) = false) : rnd less a b i c0 c1 s n = s := by unfold rnd; rw [h]; rfl
theorem rnd_skip1 {less : Bool} {a b : Tn} {i n : Nat} {c0 c1 : Bool} {s : St} (h0 : (if n.testBit 2 then c1 else c0) = true) (h : may a i (n.testBit 0) = false) : rnd less a b i c0 c1 s n = s := by unfold rnd; rw [h0, h]; rfl
theorem rnd_skip2 {less : Bool} {a b : Tn} {i n : Nat} {c0 c1 : Bool} {s : St} (h0 : (if n.testBit 2 then c1 else c0) = true) (h1 : may a i (n.testBit 0) = true) (h : may b i (n.testBit 1) = false) : rnd less a b i c0 c1 s n = s := by unfold rnd; rw [h0, h1, h]; rfl
theorem rnd_go {less : Bool} {a b : Tn} {i n : Nat} {c0 c1 : Bool} {s : St} (h0 : (if n.testBit 2 then c1 else c0) = true) (h1 : may a i (n.testBit 0) = true) (h : may b i (n.testBit 1) = true) : rnd less a b i c0 c1 s n =
    (let z : St := if odd n then ⟨s.x ||| 1#64 <<< i, s.y, s.c0, s.c1⟩ else ⟨s.x, s.y ||| 1#64 <<< i, s.c0, s.c1⟩
     if cbn less n then ⟨z.x, z.y, z.c0, true⟩ else ⟨z.x, z.y, true, z.c1⟩) := by unfold rnd; rw [h0, h1, h]; rfl
end T
theorem rsum_run (av am bv bm : BitVec 64) (ha : T.right ⟨av, am⟩ = true) (hb0 : T.right ⟨bv, bm⟩ = true) : run Tryd.prog ⟨[(27, k_rRight), (57, k_rMay), (59, k_rBit), (33, k_rUnknown), (41, k_of)], eqs, [], [], []⟩ 10000 [] 0 (bodyOf Tryd.f50) (initF Tryd.f50 [.agg [.u64 av, .u64 am], .agg [.u64 bv, .u64 bm], .ff]) [] (retK Tryd.prog Tryd.f50 fun x _ => eqv x (tsv (T.sum ⟨av, am⟩ ⟨bv, bm⟩))) := by
  (conv => whnf)
  (repeat' (first | (refine And.intro (fun hb => ?_) (fun hb => ?_) <;> (first | contradiction | (conv => whnf))) | (refine And.intro ?_ ?_; rotate_left 1; (conv => whnf))))
  refine .inr ⟨[], [2, 3, 4, 6, 7, 8, 9, 10], fun k vals M => ∃ j : Nat, j ≤ 64 ∧ k = 64 - j ∧ (True) ∧ vals = [.ff, .ptr 0 0, .ptr 1 0, .ptr 2 0, .u64 (T.mk (T.sx false ⟨av, am⟩ ⟨bv, bm⟩) j), .u64 (T.mk (T.sy false ⟨av, am⟩ ⟨bv, bm⟩) j), .sl 3 1 0 2, .int .i64 (j : Int)] ∧ M = [.cells 26 [.u64 av, .u64 am], .cells 26 [.u64 bv, .u64 bm], .cells 26 [.u64 (BitVec.ofInt 64 0), .u64 (BitVec.ofInt 64 0)], .own 4 1 2 (gOf eB [(T.cs false ⟨av, am⟩ ⟨bv, bm⟩ j).1, (T.cs false ⟨av, am⟩ ⟨bv, bm⟩ j).2])], ?_⟩
  conv => whnf
  refine And.intro ⟨64, [.cells 26 [.u64 av, .u64 am], .cells 26 [.u64 bv, .u64 bm], .cells 26 [.u64 (BitVec.ofInt 64 0), .u64 (BitVec.ofInt 64 0)], .own 4 1 2 (gOf eB [(T.cs false ⟨av, am⟩ ⟨bv, bm⟩ 0).1, (T.cs false ⟨av, am⟩ ⟨bv, bm⟩ 0).2])], (mle_cons ble_refl (mle_cons ble_refl (mle_cons ble_refl (mle_cons (ble_own rfl fun i hi => by match i, hi with | 0, _ => rfl | 1, _ => rfl) mle_nil)))), rfl, rfl, 0, by omega, by omega, trivial, rfl, rfl⟩ ?_
  rintro k vals M1 ⟨j, hj, rfl, hx, rfl, rfl⟩
  (conv => whnf)
  (repeat' (first | (refine And.intro (fun hb => ?_) (fun hb => ?_) <;> (first | contradiction | (conv => whnf))) | (refine And.intro ?_ ?_; rotate_left 1; (conv => whnf))))
  all_goals try (first | rfl | trivial | (simp; done) | (simp; omega) | (simp at hb ⊢; omega) | (simp only [decide_eq_true_eq, Bool.and_eq_true, Int.toNat_natCast] at *; omega))
  · have hlt : j < 64 := by (simp at hb; omega)
    refine .inr ⟨[], [2, 3, 4, 6, 7, 8, 9, 10, 11, 12], fun k vals M => ∃ n : Nat, n ≤ 8 ∧ k = 8 - n ∧ (True) ∧ vals = [.ff, .ptr 0 0, .ptr 1 0, .ptr 2 0, .u64 (T.rnds false ⟨av, am⟩ ⟨bv, bm⟩ j (T.cs false ⟨av, am⟩ ⟨bv, bm⟩ j).1 (T.cs false ⟨av, am⟩ ⟨bv, bm⟩ j).2 ⟨T.mk (T.sx false ⟨av, am⟩ ⟨bv, bm⟩) j, T.mk (T.sy false ⟨av, am⟩ ⟨bv, bm⟩) j, false, false⟩ n).x, .u64 (T.rnds false ⟨av, am⟩ ⟨bv, bm⟩ j (T.cs false ⟨av, am⟩ ⟨bv, bm⟩ j).1 (T.cs false ⟨av, am⟩ ⟨bv, bm⟩ j).2 ⟨T.mk (T.sx false ⟨av, am⟩ ⟨bv, bm⟩) j, T.mk (T.sy false ⟨av, am⟩ ⟨bv, bm⟩) j, false, false⟩ n).y, .sl 3 1 0 2, .int .i64 (j : Int), .sl 4 1 0 2, .int .i64 (n : Int)] ∧ M = [.cells 26 [.u64 av, .u64 am], .cells 26 [.u64 bv, .u64 bm], .cells 26 [.u64 (BitVec.ofInt 64 0), .u64 (BitVec.ofInt 64 0)], .own 4 1 2 (gOf eB [(T.cs false ⟨av, am⟩ ⟨bv, bm⟩ j).1, (T.cs false ⟨av, am⟩ ⟨bv, bm⟩ j).2]), .own 4 1 2 (gOf eB [(T.rnds false ⟨av, am⟩ ⟨bv, bm⟩ j (T.cs false ⟨av, am⟩ ⟨bv, bm⟩ j).1 (T.cs false ⟨av, am⟩ ⟨bv, bm⟩ j).2 ⟨T.mk (T.sx false ⟨av, am⟩ ⟨bv, bm⟩) j, T.mk (T.sy false ⟨av, am⟩ ⟨bv, bm⟩) j, false, false⟩ n).c0, (T.rnds false ⟨av, am⟩ ⟨bv, bm⟩ j (T.cs false ⟨av, am⟩ ⟨bv, bm⟩ j).1 (T.cs false ⟨av, am⟩ ⟨bv, bm⟩ j).2 ⟨T.mk (T.sx false ⟨av, am⟩ ⟨bv, bm⟩) j, T.mk (T.sy false ⟨av, am⟩ ⟨bv, bm⟩) j, false, false⟩ n).c1])], ?_⟩
    conv => whnf
    refine And.intro ⟨8, [.cells 26 [.u64 av, .u64 am], .cells 26 [.u64 bv, .u64 bm], .cells 26 [.u64 (BitVec.ofInt 64 0), .u64 (BitVec.ofInt 64 0)], .own 4 1 2 (gOf eB [(T.cs false ⟨av, am⟩ ⟨bv, bm⟩ j).1, (T.cs false ⟨av, am⟩ ⟨bv, bm⟩ j).2]), .own 4 1 2 (gOf eB [(T.rnds false ⟨av, am⟩ ⟨bv, bm⟩ j (T.cs false ⟨av, am⟩ ⟨bv, bm⟩ j).1 (T.cs false ⟨av, am⟩ ⟨bv, bm⟩ j).2 ⟨T.mk (T.sx false ⟨av, am⟩ ⟨bv, bm⟩) j, T.mk (T.sy false ⟨av, am⟩ ⟨bv, bm⟩) j, false, false⟩ 0).c0, (T.rnds false ⟨av, am⟩ ⟨bv, bm⟩ j (T.cs false ⟨av, am⟩ ⟨bv, bm⟩ j).1 (T.cs false ⟨av, am⟩ ⟨bv, bm⟩ j).2 ⟨T.mk (T.sx false ⟨av, am⟩ ⟨bv, bm⟩) j, T.mk (T.sy false ⟨av, am⟩ ⟨bv, bm⟩) j, false, false⟩ 0).c1])], (mle_cons ble_refl (mle_cons ble_refl (mle_cons ble_refl (mle_cons ble_refl (mle_cons (ble_own rfl fun i hi => by match i, hi with | 0, _ => rfl | 1, _ => rfl) mle_nil))))), rfl, rfl, 0, by omega, by omega, trivial, rfl, rfl⟩ ?_
    rintro k vals M1 ⟨n, hn, rfl, hx, rfl, rfl⟩

    have h5 : n = 0 ∨ n = 1 ∨ n = 2 ∨ n = 3 ∨ n = 4 ∨ n = 5 ∨ n = 6 ∨ n = 7 ∨ n = 8 := by omega
    rcases h5 with rfl | rfl | rfl | rfl | rfl | rfl | rfl | rfl | rfl
    · (conv => whnf)
      (repeat' (first | (refine step_t (by first | rfl | assumption) ?_; (conv => whnf)) | (refine step_f (by first | rfl | assumption) ?_; (conv => whnf)) | (refine step_nt (by assumption) ?_; (conv => whnf)) | (refine step_nf (by assumption) ?_; (conv => whnf)) | (refine step_n (fun hb => ?_) (fun hb => ?_) <;> (first | contradiction | (conv => whnf))) | (refine And.intro (fun hb => ?_) (fun hb => ?_) <;> (first | contradiction | (conv => whnf))) | (refine And.intro ?_ ?_; rotate_left 1; (conv => whnf))))
      all_goals try (first | rfl | trivial | (simp; done) | (simp; omega) | (simp at hb ⊢; omega) | (simp only [decide_eq_true_eq, Bool.and_eq_true, Int.toNat_natCast] at *; omega))
      all_goals
        refine ⟨8 - (0 + 1), [.cells 26 [.u64 av, .u64 am], .cells 26 [.u64 bv, .u64 bm], .cells 26 [.u64 (BitVec.ofInt 64 0), .u64 (BitVec.ofInt 64 0)], .own 4 1 2 (gOf eB [(T.cs false ⟨av, am⟩ ⟨bv, bm⟩ j).1, (T.cs false ⟨av, am⟩ ⟨bv, bm⟩ j).2]), .own 4 1 2 (gOf eB [(T.rnds false ⟨av, am⟩ ⟨bv, bm⟩ j (T.cs false ⟨av, am⟩ ⟨bv, bm⟩ j).1 (T.cs false ⟨av, am⟩ ⟨bv, bm⟩ j).2 ⟨T.mk (T.sx false ⟨av, am⟩ ⟨bv, bm⟩) j, T.mk (T.sy false ⟨av, am⟩ ⟨bv, bm⟩) j, false, false⟩ (0 + 1)).c0, (T.rnds false ⟨av, am⟩ ⟨bv, bm⟩ j (T.cs false ⟨av, am⟩ ⟨bv, bm⟩ j).1 (T.cs false ⟨av, am⟩ ⟨bv, bm⟩ j).2 ⟨T.mk (T.sx false ⟨av, am⟩ ⟨bv, bm⟩) j, T.mk (T.sy false ⟨av, am⟩ ⟨bv, bm⟩) j, false, false⟩ (0 + 1)).c1])], [0, 1, 2, 3, 4], by omega, rfl, (mle_cons ble_refl (mle_cons ble_refl (mle_cons ble_refl (mle_cons ble_refl (mle_cons (ble_own rfl fun i hi => ?_) mle_nil))))), rfl, rfl, 0 + 1, by omega, rfl, trivial, ?_, rfl⟩
        · rw [show (T.rnds false ⟨av, am⟩ ⟨bv, bm⟩ j (T.cs false ⟨av, am⟩ ⟨bv, bm⟩ j).1 (T.cs false ⟨av, am⟩ ⟨bv, bm⟩ j).2 ⟨T.mk (T.sx false ⟨av, am⟩ ⟨bv, bm⟩) j, T.mk (T.sy false ⟨av, am⟩ ⟨bv, bm⟩) j, false, false⟩ (0 + 1)) = T.rnd false ⟨av, am⟩ ⟨bv, bm⟩ j (T.cs false ⟨av, am⟩ ⟨bv, bm⟩ j).1 (T.cs false ⟨av, am⟩ ⟨bv, bm⟩ j).2 (T.rnds false ⟨av, am⟩ ⟨bv, bm⟩ j (T.cs false ⟨av, am⟩ ⟨bv, bm⟩ j).1 (T.cs false ⟨av, am⟩ ⟨bv, bm⟩ j).2 ⟨T.mk (T.sx false ⟨av, am⟩ ⟨bv, bm⟩) j, T.mk (T.sy false ⟨av, am⟩ ⟨bv, bm⟩) j, false, false⟩ 0) 0 from rfl]
          first
            | (rw [T.rnd_skip0 (by assumption)]; done)
            | (rw [T.rnd_skip1 (by assumption) (by assumption)]; done)
            | (rw [T.rnd_skip2 (by assumption) (by assumption) (by assumption)]; done)
            | (rw [T.rnd_go (by assumption) (by assumption) (by assumption)]; exact gB [_, _] 1 true (by simp) i hi)
            | (rw [T.rnd_go (by assumption) (by assumption) (by assumption)]; exact gB [_, _] 0 true (by simp) i hi)
        · rw [show (T.rnds false ⟨av, am⟩ ⟨bv, bm⟩ j (T.cs false ⟨av, am⟩ ⟨bv, bm⟩ j).1 (T.cs false ⟨av, am⟩ ⟨bv, bm⟩ j).2 ⟨T.mk (T.sx false ⟨av, am⟩ ⟨bv, bm⟩) j, T.mk (T.sy false ⟨av, am⟩ ⟨bv, bm⟩) j, false, false⟩ (0 + 1)) = T.rnd false ⟨av, am⟩ ⟨bv, bm⟩ j (T.cs false ⟨av, am⟩ ⟨bv, bm⟩ j).1 (T.cs false ⟨av, am⟩ ⟨bv, bm⟩ j).2 (T.rnds false ⟨av, am⟩ ⟨bv, bm⟩ j (T.cs false ⟨av, am⟩ ⟨bv, bm⟩ j).1 (T.cs false ⟨av, am⟩ ⟨bv, bm⟩ j).2 ⟨T.mk (T.sx false ⟨av, am⟩ ⟨bv, bm⟩) j, T.mk (T.sy false ⟨av, am⟩ ⟨bv, bm⟩) j, false, false⟩ 0) 0 from rfl]
          first
            | (rw [T.rnd_skip0 (by assumption)]; rfl)
            | (rw [T.rnd_skip1 (by assumption) (by assumption)]; rfl)
            | (rw [T.rnd_skip2 (by assumption) (by assumption) (by assumption)]; rfl)
            | (rw [T.rnd_go (by assumption) (by assumption) (by assumption), ← one_is hlt]; rfl)
    · (conv => whnf)
      (repeat' (first | (refine step_t (by first | rfl | assumption) ?_; (conv => whnf)) | (refine step_f (by first | rfl | assumption) ?_; (conv => whnf)) | (refine step_nt (by assumption) ?_; (conv => whnf)) | (refine step_nf (by assumption) ?_; (conv => whnf)) | (refine step_n (fun hb => ?_) (fun hb => ?_) <;> (first | contradiction | (conv => whnf))) | (refine And.intro (fun hb => ?_) (fun hb => ?_) <;> (first | contradiction | (conv => whnf))) | (refine And.intro ?_ ?_; rotate_left 1; (conv => whnf))))
      all_goals try (first | rfl | trivial | (simp; done) | (simp; omega) | (simp at hb ⊢; omega) | (simp only [decide_eq_true_eq, Bool.and_eq_true, Int.toNat_natCast] at *; omega))
      all_goals
        refine ⟨8 - (1 + 1), [.cells 26 [.u64 av, .u64 am], .cells 26 [.u64 bv, .u64 bm], .cells 26 [.u64 (BitVec.ofInt 64 0), .u64 (BitVec.ofInt 64 0)], .own 4 1 2 (gOf eB [(T.cs false ⟨av, am⟩ ⟨bv, bm⟩ j).1, (T.cs false ⟨av, am⟩ ⟨bv, bm⟩ j).2]), .own 4 1 2 (gOf eB [(T.rnds false ⟨av, am⟩ ⟨bv, bm⟩ j (T.cs false ⟨av, am⟩ ⟨bv, bm⟩ j).1 (T.cs false ⟨av, am⟩ ⟨bv, bm⟩ j).2 ⟨T.mk (T.sx false ⟨av, am⟩ ⟨bv, bm⟩) j, T.mk (T.sy false ⟨av, am⟩ ⟨bv, bm⟩) j, false, false⟩ (1 + 1)).c0, (T.rnds false ⟨av, am⟩ ⟨bv, bm⟩ j (T.cs false ⟨av, am⟩ ⟨bv, bm⟩ j).1 (T.cs false ⟨av, am⟩ ⟨bv, bm⟩ j).2 ⟨T.mk (T.sx false ⟨av, am⟩ ⟨bv, bm⟩) j, T.mk (T.sy false ⟨av, am⟩ ⟨bv, bm⟩) j, false, false⟩ (1 + 1)).c1])], [0, 1, 2, 3, 4], by omega, rfl, (mle_cons ble_refl (mle_cons ble_refl (mle_cons ble_refl (mle_cons ble_refl (mle_cons (ble_own rfl fun i hi => ?_) mle_nil))))), rfl, rfl, 1 + 1, by omega, rfl, trivial, ?_, rfl⟩
        · rw [show (T.rnds false ⟨av, am⟩ ⟨bv, bm⟩ j (T.cs false ⟨av, am⟩ ⟨bv, bm⟩ j).1 (T.cs false ⟨av, am⟩ ⟨bv, bm⟩ j).2 ⟨T.mk (T.sx false ⟨av, am⟩ ⟨bv, bm⟩) j, T.mk (T.sy false ⟨av, am⟩ ⟨bv, bm⟩) j, false, false⟩ (1 + 1)) = T.rnd false ⟨av, am⟩ ⟨bv, bm⟩ j (T.cs false ⟨av, am⟩ ⟨bv, bm⟩ j).1 (T.cs false ⟨av, am⟩ ⟨bv, bm⟩ j).2 (T.rnds false ⟨av, am⟩ ⟨bv, bm⟩ j (T.cs false ⟨av, am⟩ ⟨bv, bm⟩ j).1 (T.cs false ⟨av, am⟩ ⟨bv, bm⟩ j).2 ⟨T.mk (T.sx false ⟨av, am⟩ ⟨bv, bm⟩) j, T.mk (T.sy false ⟨av, am⟩ ⟨bv, bm⟩) j, false, false⟩ 1) 1 from rfl]
          first
            | (rw [T.rnd_skip0 (by assumption)]; done)
            | (rw [T.rnd_skip1 (by assumption) (by assumption)]; done)
            | (rw [T.rnd_skip2 (by assumption) (by assumption) (by assumption)]; done)
            | (rw [T.rnd_go (by assumption) (by assumption) (by assumption)]; exact gB [_, _] 1 true (by simp) i hi)
            | (rw [T.rnd_go (by assumption) (by assumption) (by assumption)]; exact gB [_, _] 0 true (by simp) i hi)
        · rw [show (T.rnds false ⟨av, am⟩ ⟨bv, bm⟩ j (T.cs false ⟨av, am⟩ ⟨bv, bm⟩ j).1 (T.cs false ⟨av, am⟩ ⟨bv, bm⟩ j).2 ⟨T.mk (T.sx false ⟨av, am⟩ ⟨bv, bm⟩) j, T.mk (T.sy false ⟨av, am⟩ ⟨bv, bm⟩) j, false, false⟩ (1 + 1)) = T.rnd false ⟨av, am⟩ ⟨bv, bm⟩ j (T.cs false ⟨av, am⟩ ⟨bv, bm⟩ j).1 (T.cs false ⟨av, am⟩ ⟨bv, bm⟩ j).2 (T.rnds false ⟨av, am⟩ ⟨bv, bm⟩ j (T.cs false ⟨av, am⟩ ⟨bv, bm⟩ j).1 (T.cs false ⟨av, am⟩ ⟨bv, bm⟩ j).2 ⟨T.mk (T.sx false ⟨av, am⟩ ⟨bv, bm⟩) j, T.mk (T.sy false ⟨av, am⟩ ⟨bv, bm⟩) j, false, false⟩ 1) 1 from rfl]
          first
            | (rw [T.rnd_skip0 (by assumption)]; rfl)
            | (rw [T.rnd_skip1 (by assumption) (by assumption)]; rfl)
            | (rw [T.rnd_skip2 (by assumption) (by assumption) (by assumption)]; rfl)
            | (rw [T.rnd_go (by assumption) (by assumption) (by assumption), ← one_is hlt]; rfl)
    · (conv => whnf)
      (repeat' (first | (refine step_t (by first | rfl | assumption) ?_; (conv => whnf)) | (refine step_f (by first | rfl | assumption) ?_; (conv => whnf)) | (refine step_nt (by assumption) ?_; (conv => whnf)) | (refine step_nf (by assumption) ?_; (conv => whnf)) | (refine step_n (fun hb => ?_) (fun hb => ?_) <;> (first | contradiction | (conv => whnf))) | (refine And.intro (fun hb => ?_) (fun hb => ?_) <;> (first | contradiction | (conv => whnf))) | (refine And.intro ?_ ?_; rotate_left 1; (conv => whnf))))
      all_goals try (first | rfl | trivial | (simp; done) | (simp; omega) | (simp at hb ⊢; omega) | (simp only [decide_eq_true_eq, Bool.and_eq_true, Int.toNat_natCast] at *; omega))
      all_goals
        refine ⟨8 - (2 + 1), [.cells 26 [.u64 av, .u64 am], .cells 26 [.u64 bv, .u64 bm], .cells 26 [.u64 (BitVec.ofInt 64 0), .u64 (BitVec.ofInt 64 0)], .own 4 1 2 (gOf eB [(T.cs false ⟨av, am⟩ ⟨bv, bm⟩ j).1, (T.cs false ⟨av, am⟩ ⟨bv, bm⟩ j).2]), .own 4 1 2 (gOf eB [(T.rnds false ⟨av, am⟩ ⟨bv, bm⟩ j (T.cs false ⟨av, am⟩ ⟨bv, bm⟩ j).1 (T.cs false ⟨av, am⟩ ⟨bv, bm⟩ j).2 ⟨T.mk (T.sx false ⟨av, am⟩ ⟨bv, bm⟩) j, T.mk (T.sy false ⟨av, am⟩ ⟨bv, bm⟩) j, false, false⟩ (2 + 1)).c0, (T.rnds false ⟨av, am⟩ ⟨bv, bm⟩ j (T.cs false ⟨av, am⟩ ⟨bv, bm⟩ j).1 (T.cs false ⟨av, am⟩ ⟨bv, bm⟩ j).2 ⟨T.mk (T.sx false ⟨av, am⟩ ⟨bv, bm⟩) j, T.mk (T.sy false ⟨av, am⟩ ⟨bv, bm⟩) j, false, false⟩ (2 + 1)).c1])], [0, 1, 2, 3, 4], by omega, rfl, (mle_cons ble_refl (mle_cons ble_refl (mle_cons ble_refl (mle_cons ble_refl (mle_cons (ble_own rfl fun i hi => ?_) mle_nil))))), rfl, rfl, 2 + 1, by omega, rfl, trivial, ?_, rfl⟩
        · rw [show (T.rnds false ⟨av, am⟩ ⟨bv, bm⟩ j (T.cs false ⟨av, am⟩ ⟨bv, bm⟩ j).1 (T.cs false ⟨av, am⟩ ⟨bv, bm⟩ j).2 ⟨T.mk (T.sx false ⟨av, am⟩ ⟨bv, bm⟩) j, T.mk (T.sy false ⟨av, am⟩ ⟨bv, bm⟩) j, false, false⟩ (2 + 1)) = T.rnd false ⟨av, am⟩ ⟨bv, bm⟩ j (T.cs false ⟨av, am⟩ ⟨bv, bm⟩ j).1 (T.cs false ⟨av, am⟩ ⟨bv, bm⟩ j).2 (T.rnds false ⟨av, am⟩ ⟨bv, bm⟩ j (T.cs false ⟨av, am⟩ ⟨bv, bm⟩ j).1 (T.cs false ⟨av, am⟩ ⟨bv, bm⟩ j).2 ⟨T.mk (T.sx false ⟨av, am⟩ ⟨bv, bm⟩) j, T.mk (T.sy false ⟨av, am⟩ ⟨bv, bm⟩) j, false, false⟩ 2) 2 from rfl]
          first
            | (rw [T.rnd_skip0 (by assumption)]; done)
            | (rw [T.rnd_skip1 (by assumption) (by assumption)]; done)
            | (rw [T.rnd_skip2 (by assumption) (by assumption) (by assumption)]; done)
            | (rw [T.rnd_go (by assumption) (by assumption) (by assumption)]; exact gB [_, _] 1 true (by simp) i hi)
            | (rw [T.rnd_go (by assumption) (by assumption) (by assumption)]; exact gB [_, _] 0 true (by simp) i hi)
        · rw [show (T.rnds false ⟨av, am⟩ ⟨bv, bm⟩ j (T.cs false ⟨av, am⟩ ⟨bv, bm⟩ j).1 (T.cs false ⟨av, am⟩ ⟨bv, bm⟩ j).2 ⟨T.mk (T.sx false ⟨av, am⟩ ⟨bv, bm⟩) j, T.mk (T.sy false ⟨av, am⟩ ⟨bv, bm⟩) j, false, false⟩ (2 + 1)) = T.rnd false ⟨av, am⟩ ⟨bv, bm⟩ j (T.cs false ⟨av, am⟩ ⟨bv, bm⟩ j).1 (T.cs false ⟨av, am⟩ ⟨bv, bm⟩ j).2 (T.rnds false ⟨av, am⟩ ⟨bv, bm⟩ j (T.cs false ⟨av, am⟩ ⟨bv, bm⟩ j).1 (T.cs false ⟨av, am⟩ ⟨bv, bm⟩ j).2 ⟨T.mk (T.sx false ⟨av, am⟩ ⟨bv, bm⟩) j, T.mk (T.sy false ⟨av, am⟩ ⟨bv, bm⟩) j, false, false⟩ 2) 2 from rfl]
          first
            | (rw [T.rnd_skip0 (by assumption)]; rfl)
            | (rw [T.rnd_skip1 (by assumption) (by assumption)]; rfl)
            | (rw [T.rnd_skip2 (by assumption) (by assumption) (by assumption)]; rfl)
            | (rw [T.rnd_go (by assumption) (by assumption) (by assumption), ← one_is hlt]; rfl)
    · (conv => whnf)
      (repeat' (first | (refine step_t (by first | rfl | assumption) ?_; (conv => whnf)) | (refine step_f (by first | rfl | assumption) ?_; (conv => whnf)) | (refine step_nt (by assumption) ?_; (conv => whnf)) | (refine step_nf (by assumption) ?_; (conv => whnf)) | (refine step_n (fun hb => ?_) (fun hb => ?_) <;> (first | contradiction | (conv => whnf))) | (refine And.intro (fun hb => ?_) (fun hb => ?_) <;> (first | contradiction | (conv => whnf))) | (refine And.intro ?_ ?_; rotate_left 1; (conv => whnf))))
      all_goals try (first | rfl | trivial | (simp; done) | (simp; omega) | (simp at hb ⊢; omega) | (simp only [decide_eq_true_eq, Bool.and_eq_true, Int.toNat_natCast] at *; omega))
      all_goals
        refine ⟨8 - (3 + 1), [.cells 26 [.u64 av, .u64 am], .cells 26 [.u64 bv, .u64 bm], .cells 26 [.u64 (BitVec.ofInt 64 0), .u64 (BitVec.ofInt 64 0)], .own 4 1 2 (gOf eB [(T.cs false ⟨av, am⟩ ⟨bv, bm⟩ j).1, (T.cs false ⟨av, am⟩ ⟨bv, bm⟩ j).2]), .own 4 1 2 (gOf eB [(T.rnds false ⟨av, am⟩ ⟨bv, bm⟩ j (T.cs false ⟨av, am⟩ ⟨bv, bm⟩ j).1 (T.cs false ⟨av, am⟩ ⟨bv, bm⟩ j).2 ⟨T.mk (T.sx false ⟨av, am⟩ ⟨bv, bm⟩) j, T.mk (T.sy false ⟨av, am⟩ ⟨bv, bm⟩) j, false, false⟩ (3 + 1)).c0, (T.rnds false ⟨av, am⟩ ⟨bv, bm⟩ j (T.cs false ⟨av, am⟩ ⟨bv, bm⟩ j).1 (T.cs false ⟨av, am⟩ ⟨bv, bm⟩ j).2 ⟨T.mk (T.sx false ⟨av, am⟩ ⟨bv, bm⟩) j, T.mk (T.sy false ⟨av, am⟩ ⟨bv, bm⟩) j, false, false⟩ (3 + 1)).c1])], [0, 1, 2, 3, 4], by omega, rfl, (mle_cons ble_refl (mle_cons ble_refl (mle_cons ble_refl (mle_cons ble_refl (mle_cons (ble_own rfl fun i hi => ?_) mle_nil))))), rfl, rfl, 3 + 1, by omega, rfl, trivial, ?_, rfl⟩
        · rw [show (T.rnds false ⟨av, am⟩ ⟨bv, bm⟩ j (T.cs false ⟨av, am⟩ ⟨bv, bm⟩ j).1 (T.cs false ⟨av, am⟩ ⟨bv, bm⟩ j).2 ⟨T.mk (T.sx false ⟨av, am⟩ ⟨bv, bm⟩) j, T.mk (T.sy false ⟨av, am⟩ ⟨bv, bm⟩) j, false, false⟩ (3 + 1)) = T.rnd false ⟨av, am⟩ ⟨bv, bm⟩ j (T.cs false ⟨av, am⟩ ⟨bv, bm⟩ j).1 (T.cs false ⟨av, am⟩ ⟨bv, bm⟩ j).2 (T.rnds false ⟨av, am⟩ ⟨bv, bm⟩ j (T.cs false ⟨av, am⟩ ⟨bv, bm⟩ j).1 (T.cs false ⟨av, am⟩ ⟨bv, bm⟩ j).2 ⟨T.mk (T.sx false ⟨av, am⟩ ⟨bv, bm⟩) j, T.mk (T.sy false ⟨av, am⟩ ⟨bv, bm⟩) j, false, false⟩ 3) 3 from rfl]
          first
            | (rw [T.rnd_skip0 (by assumption)]; done)
            | (rw [T.rnd_skip1 (by assumption) (by assumption)]; done)
            | (rw [T.rnd_skip2 (by assumption) (by assumption) (by assumption)]; done)
            | (rw [T.rnd_go (by assumption) (by assumption) (by assumption)]; exact gB [_, _] 1 true (by simp) i hi)
            | (rw [T.rnd_go (by assumption) (by assumption) (by assumption)]; exact gB [_, _] 0 true (by simp) i hi)
        · rw [show (T.rnds false ⟨av, am⟩ ⟨bv, bm⟩ j (T.cs false ⟨av, am⟩ ⟨bv, bm⟩ j).1 (T.cs false ⟨av, am⟩ ⟨bv, bm⟩ j).2 ⟨T.mk (T.sx false ⟨av, am⟩ ⟨bv, bm⟩) j, T.mk (T.sy false ⟨av, am⟩ ⟨bv, bm⟩) j, false, false⟩ (3 + 1)) = T.rnd false ⟨av, am⟩ ⟨bv, bm⟩ j (T.cs false ⟨av, am⟩ ⟨bv, bm⟩ j).1 (T.cs false ⟨av, am⟩ ⟨bv, bm⟩ j).2 (T.rnds false ⟨av, am⟩ ⟨bv, bm⟩ j (T.cs false ⟨av, am⟩ ⟨bv, bm⟩ j).1 (T.cs false ⟨av, am⟩ ⟨bv, bm⟩ j).2 ⟨T.mk (T.sx false ⟨av, am⟩ ⟨bv, bm⟩) j, T.mk (T.sy false ⟨av, am⟩ ⟨bv, bm⟩) j, false, false⟩ 3) 3 from rfl]
          first
            | (rw [T.rnd_skip0 (by assumption)]; rfl)
            | (rw [T.rnd_skip1 (by assumption) (by assumption)]; rfl)
            | (rw [T.rnd_skip2 (by assumption) (by assumption) (by assumption)]; rfl)
            | (rw [T.rnd_go (by assumption) (by assumption) (by assumption), ← one_is hlt]; rfl)
    · (conv => whnf)
      (repeat' (first | (refine step_t (by first | rfl | assumption) ?_; (conv => whnf)) | (refine step_f (by first | rfl | assumption) ?_; (conv => whnf)) | (refine step_nt (by assumption) ?_; (conv => whnf)) | (refine step_nf (by assumption) ?_; (conv => whnf)) | (refine step_n (fun hb => ?_) (fun hb => ?_) <;> (first | contradiction | (conv => whnf))) | (refine And.intro (fun hb => ?_) (fun hb => ?_) <;> (first | contradiction | (conv => whnf))) | (refine And.intro ?_ ?_; rotate_left 1; (conv => whnf))))
      all_goals try (first | rfl | trivial | (simp; done) | (simp; omega) | (simp at hb ⊢; omega) | (simp only [decide_eq_true_eq, Bool.and_eq_true, Int.toNat_natCast] at *; omega))
      all_goals
        refine ⟨8 - (4 + 1), [.cells 26 [.u64 av, .u64 am], .cells 26 [.u64 bv, .u64 bm], .cells 26 [.u64 (BitVec.ofInt 64 0), .u64 (BitVec.ofInt 64 0)], .own 4 1 2 (gOf eB [(T.cs false ⟨av, am⟩ ⟨bv, bm⟩ j).1, (T.cs false ⟨av, am⟩ ⟨bv, bm⟩ j).2]), .own 4 1 2 (gOf eB [(T.rnds false ⟨av, am⟩ ⟨bv, bm⟩ j (T.cs false ⟨av, am⟩ ⟨bv, bm⟩ j).1 (T.cs false ⟨av, am⟩ ⟨bv, bm⟩ j).2 ⟨T.mk (T.sx false ⟨av, am⟩ ⟨bv, bm⟩) j, T.mk (T.sy false ⟨av, am⟩ ⟨bv, bm⟩) j, false, false⟩ (4 + 1)).c0, (T.rnds false ⟨av, am⟩ ⟨bv, bm⟩ j (T.cs false ⟨av, am⟩ ⟨bv, bm⟩ j).1 (T.cs false ⟨av, am⟩ ⟨bv, bm⟩ j).2 ⟨T.mk (T.sx false ⟨av, am⟩ ⟨bv, bm⟩) j, T.mk (T.sy false ⟨av, am⟩ ⟨bv, bm⟩) j, false, false⟩ (4 + 1)).c1])], [0, 1, 2, 3, 4], by omega, rfl, (mle_cons ble_refl (mle_cons ble_refl (mle_cons ble_refl (mle_cons ble_refl (mle_cons (ble_own rfl fun i hi => ?_) mle_nil))))), rfl, rfl, 4 + 1, by omega, rfl, trivial, ?_, rfl⟩
        · rw [show (T.rnds false ⟨av, am⟩ ⟨bv, bm⟩ j (T.cs false ⟨av, am⟩ ⟨bv, bm⟩ j).1 (T.cs false ⟨av, am⟩ ⟨bv, bm⟩ j).2 ⟨T.mk (T.sx false ⟨av, am⟩ ⟨bv, bm⟩) j, T.mk (T.sy false ⟨av, am⟩ ⟨bv, bm⟩) j, false, false⟩ (4 + 1)) = T.rnd false ⟨av, am⟩ ⟨bv, bm⟩ j (T.cs false ⟨av, am⟩ ⟨bv, bm⟩ j).1 (T.cs false ⟨av, am⟩ ⟨bv, bm⟩ j).2 (T.rnds false ⟨av, am⟩ ⟨bv, bm⟩ j (T.cs false ⟨av, am⟩ ⟨bv, bm⟩ j).1 (T.cs false ⟨av, am⟩ ⟨bv, bm⟩ j).2 ⟨T.mk (T.sx false ⟨av, am⟩ ⟨bv, bm⟩) j, T.mk (T.sy false ⟨av, am⟩ ⟨bv, bm⟩) j, false, false⟩ 4) 4 from rfl]
          first
            | (rw [T.rnd_skip0 (by assumption)]; done)
            | (rw [T.rnd_skip1 (by assumption) (by assumption)]; done)
            | (rw [T.rnd_skip2 (by assumption) (by assumption) (by assumption)]; done)
            | (rw [T.rnd_go (by assumption) (by assumption) (by assumption)]; exact gB [_, _] 1 true (by simp) i hi)
            | (rw [T.rnd_go (by assumption) (by assumption) (by assumption)]; exact gB [_, _] 0 true (by simp) i hi)
        · rw [show (T.rnds false ⟨av, am⟩ ⟨bv, bm⟩ j (T.cs false ⟨av, am⟩ ⟨bv, bm⟩ j).1 (T.cs false ⟨av, am⟩ ⟨bv, bm⟩ j).2 ⟨T.mk (T.sx false ⟨av, am⟩ ⟨bv, bm⟩) j, T.mk (T.sy false ⟨av, am⟩ ⟨bv, bm⟩) j, false, false⟩ (4 + 1)) = T.rnd false ⟨av, am⟩ ⟨bv, bm⟩ j (T.cs false ⟨av, am⟩ ⟨bv, bm⟩ j).1 (T.cs false ⟨av, am⟩ ⟨bv, bm⟩ j).2 (T.rnds false ⟨av, am⟩ ⟨bv, bm⟩ j (T.cs false ⟨av, am⟩ ⟨bv, bm⟩ j).1 (T.cs false ⟨av, am⟩ ⟨bv, bm⟩ j).2 ⟨T.mk (T.sx false ⟨av, am⟩ ⟨bv, bm⟩) j, T.mk (T.sy false ⟨av, am⟩ ⟨bv, bm⟩) j, false, false⟩ 4) 4 from rfl]
          first
            | (rw [T.rnd_skip0 (by assumption)]; rfl)
            | (rw [T.rnd_skip1 (by assumption) (by assumption)]; rfl)
            | (rw [T.rnd_skip2 (by assumption) (by assumption) (by assumption)]; rfl)
            | (rw [T.rnd_go (by assumption) (by assumption) (by assumption), ← one_is hlt]; rfl)
    · (conv => whnf)
      (repeat' (first | (refine step_t (by first | rfl | assumption) ?_; (conv => whnf)) | (refine step_f (by first | rfl | assumption) ?_; (conv => whnf)) | (refine step_nt (by assumption) ?_; (conv => whnf)) | (refine step_nf (by assumption) ?_; (conv => whnf)) | (refine step_n (fun hb => ?_) (fun hb => ?_) <;> (first | contradiction | (conv => whnf))) | (refine And.intro (fun hb => ?_) (fun hb => ?_) <;> (first | contradiction | (conv => whnf))) | (refine And.intro ?_ ?_; rotate_left 1; (conv => whnf))))
      all_goals try (first | rfl | trivial | (simp; done) | (simp; omega) | (simp at hb ⊢; omega) | (simp only [decide_eq_true_eq, Bool.and_eq_true, Int.toNat_natCast] at *; omega))
      all_goals
        refine ⟨8 - (5 + 1), [.cells 26 [.u64 av, .u64 am], .cells 26 [.u64 bv, .u64 bm], .cells 26 [.u64 (BitVec.ofInt 64 0), .u64 (BitVec.ofInt 64 0)], .own 4 1 2 (gOf eB [(T.cs false ⟨av, am⟩ ⟨bv, bm⟩ j).1, (T.cs false ⟨av, am⟩ ⟨bv, bm⟩ j).2]), .own 4 1 2 (gOf eB [(T.rnds false ⟨av, am⟩ ⟨bv, bm⟩ j (T.cs false ⟨av, am⟩ ⟨bv, bm⟩ j).1 (T.cs false ⟨av, am⟩ ⟨bv, bm⟩ j).2 ⟨T.mk (T.sx false ⟨av, am⟩ ⟨bv, bm⟩) j, T.mk (T.sy false ⟨av, am⟩ ⟨bv, bm⟩) j, false, false⟩ (5 + 1)).c0, (T.rnds false ⟨av, am⟩ ⟨bv, bm⟩ j (T.cs false ⟨av, am⟩ ⟨bv, bm⟩ j).1 (T.cs false ⟨av, am⟩ ⟨bv, bm⟩ j).2 ⟨T.mk (T.sx false ⟨av, am⟩ ⟨bv, bm⟩) j, T.mk (T.sy false ⟨av, am⟩ ⟨bv, bm⟩) j, false, false⟩ (5 + 1)).c1])], [0, 1, 2, 3, 4], by omega, rfl, (mle_cons ble_refl (mle_cons ble_refl (mle_cons ble_refl (mle_cons ble_refl (mle_cons (ble_own rfl fun i hi => ?_) mle_nil))))), rfl, rfl, 5 + 1, by omega, rfl, trivial, ?_, rfl⟩
        · rw [show (T.rnds false ⟨av, am⟩ ⟨bv, bm⟩ j (T.cs false ⟨av, am⟩ ⟨bv, bm⟩ j).1 (T.cs false ⟨av, am⟩ ⟨bv, bm⟩ j).2 ⟨T.mk (T.sx false ⟨av, am⟩ ⟨bv, bm⟩) j, T.mk (T.sy false ⟨av, am⟩ ⟨bv, bm⟩) j, false, false⟩ (5 + 1)) = T.rnd false ⟨av, am⟩ ⟨bv, bm⟩ j (T.cs false ⟨av, am⟩ ⟨bv, bm⟩ j).1 (T.cs false ⟨av, am⟩ ⟨bv, bm⟩ j).2 (T.rnds false ⟨av, am⟩ ⟨bv, bm⟩ j (T.cs false ⟨av, am⟩ ⟨bv, bm⟩ j).1 (T.cs false ⟨av, am⟩ ⟨bv, bm⟩ j).2 ⟨T.mk (T.sx false ⟨av, am⟩ ⟨bv, bm⟩) j, T.mk (T.sy false ⟨av, am⟩ ⟨bv, bm⟩) j, false, false⟩ 5) 5 from rfl]
          first
            | (rw [T.rnd_skip0 (by assumption)]; done)
            | (rw [T.rnd_skip1 (by assumption) (by assumption)]; done)
            | (rw [T.rnd_skip2 (by assumption) (by assumption) (by assumption)]; done)
            | (rw [T.rnd_go (by assumption) (by assumption) (by assumption)]; exact gB [_, _] 1 true (by simp) i hi)
            | (rw [T.rnd_go (by assumption) (by assumption) (by assumption)]; exact gB [_, _] 0 true (by simp) i hi)
        · rw [show (T.rnds false ⟨av, am⟩ ⟨bv, bm⟩ j (T.cs false ⟨av, am⟩ ⟨bv, bm⟩ j).1 (T.cs false ⟨av, am⟩ ⟨bv, bm⟩ j).2 ⟨T.mk (T.sx false ⟨av, am⟩ ⟨bv, bm⟩) j, T.mk (T.sy false ⟨av, am⟩ ⟨bv, bm⟩) j, false, false⟩ (5 + 1)) = T.rnd false ⟨av, am⟩ ⟨bv, bm⟩ j (T.cs false ⟨av, am⟩ ⟨bv, bm⟩ j).1 (T.cs false ⟨av, am⟩ ⟨bv, bm⟩ j).2 (T.rnds false ⟨av, am⟩ ⟨bv, bm⟩ j (T.cs false ⟨av, am⟩ ⟨bv, bm⟩ j).1 (T.cs false ⟨av, am⟩ ⟨bv, bm⟩ j).2 ⟨T.mk (T.sx false ⟨av, am⟩ ⟨bv, bm⟩) j, T.mk (T.sy false ⟨av, am⟩ ⟨bv, bm⟩) j, false, false⟩ 5) 5 from rfl]
          first
            | (rw [T.rnd_skip0 (by assumption)]; rfl)
            | (rw [T.rnd_skip1 (by assumption) (by assumption)]; rfl)
            | (rw [T.rnd_skip2 (by assumption) (by assumption) (by assumption)]; rfl)
            | (rw [T.rnd_go (by assumption) (by assumption) (by assumption), ← one_is hlt]; rfl)
    · (conv => whnf)
      (repeat' (first | (refine step_t (by first | rfl | assumption) ?_; (conv => whnf)) | (refine step_f (by first | rfl | assumption) ?_; (conv => whnf)) | (refine step_nt (by assumption) ?_; (conv => whnf)) | (refine step_nf (by assumption) ?_; (conv => whnf)) | (refine step_n (fun hb => ?_) (fun hb => ?_) <;> (first | contradiction | (conv => whnf))) | (refine And.intro (fun hb => ?_) (fun hb => ?_) <;> (first | contradiction | (conv => whnf))) | (refine And.intro ?_ ?_; rotate_left 1; (conv => whnf))))
      all_goals try (first | rfl | trivial | (simp; done) | (simp; omega) | (simp at hb ⊢; omega) | (simp only [decide_eq_true_eq, Bool.and_eq_true, Int.toNat_natCast] at *; omega))
      all_goals
        refine ⟨8 - (6 + 1), [.cells 26 [.u64 av, .u64 am], .cells 26 [.u64 bv, .u64 bm], .cells 26 [.u64 (BitVec.ofInt 64 0), .u64 (BitVec.ofInt 64 0)], .own 4 1 2 (gOf eB [(T.cs false ⟨av, am⟩ ⟨bv, bm⟩ j).1, (T.cs false ⟨av, am⟩ ⟨bv, bm⟩ j).2]), .own 4 1 2 (gOf eB [(T.rnds false ⟨av, am⟩ ⟨bv, bm⟩ j (T.cs false ⟨av, am⟩ ⟨bv, bm⟩ j).1 (T.cs false ⟨av, am⟩ ⟨bv, bm⟩ j).2 ⟨T.mk (T.sx false ⟨av, am⟩ ⟨bv, bm⟩) j, T.mk (T.sy false ⟨av, am⟩ ⟨bv, bm⟩) j, false, false⟩ (6 + 1)).c0, (T.rnds false ⟨av, am⟩ ⟨bv, bm⟩ j (T.cs false ⟨av, am⟩ ⟨bv, bm⟩ j).1 (T.cs false ⟨av, am⟩ ⟨bv, bm⟩ j).2 ⟨T.mk (T.sx false ⟨av, am⟩ ⟨bv, bm⟩) j, T.mk (T.sy false ⟨av, am⟩ ⟨bv, bm⟩) j, false, false⟩ (6 + 1)).c1])], [0, 1, 2, 3, 4], by omega, rfl, (mle_cons ble_refl (mle_cons ble_refl (mle_cons ble_refl (mle_cons ble_refl (mle_cons (ble_own rfl fun i hi => ?_) mle_nil))))), rfl, rfl, 6 + 1, by omega, rfl, trivial, ?_, rfl⟩
        · rw [show (T.rnds false ⟨av, am⟩ ⟨bv, bm⟩ j (T.cs false ⟨av, am⟩ ⟨bv, bm⟩ j).1 (T.cs false ⟨av, am⟩ ⟨bv, bm⟩ j).2 ⟨T.mk (T.sx false ⟨av, am⟩ ⟨bv, bm⟩) j, T.mk (T.sy false ⟨av, am⟩ ⟨bv, bm⟩) j, false, false⟩ (6 + 1)) = T.rnd false ⟨av, am⟩ ⟨bv, bm⟩ j (T.cs false ⟨av, am⟩ ⟨bv, bm⟩ j).1 (T.cs false ⟨av, am⟩ ⟨bv, bm⟩ j).2 (T.rnds false ⟨av, am⟩ ⟨bv, bm⟩ j (T.cs false ⟨av, am⟩ ⟨bv, bm⟩ j).1 (T.cs false ⟨av, am⟩ ⟨bv, bm⟩ j).2 ⟨T.mk (T.sx false ⟨av, am⟩ ⟨bv, bm⟩) j, T.mk (T.sy false ⟨av, am⟩ ⟨bv, bm⟩) j, false, false⟩ 6) 6 from rfl]
          first
            | (rw [T.rnd_skip0 (by assumption)]; done)
            | (rw [T.rnd_skip1 (by assumption) (by assumption)]; done)
            | (rw [T.rnd_skip2 (by assumption) (by assumption) (by assumption)]; done)
            | (rw [T.rnd_go (by assumption) (by assumption) (by assumption)]; exact gB [_, _] 1 true (by simp) i hi)
            | (rw [T.rnd_go (by assumption) (by assumption) (by assumption)]; exact gB [_, _] 0 true (by simp) i hi)
        · rw [show (T.rnds false ⟨av, am⟩ ⟨bv, bm⟩ j (T.cs false ⟨av, am⟩ ⟨bv, bm⟩ j).1 (T.cs false ⟨av, am⟩ ⟨bv, bm⟩ j).2 ⟨T.mk (T.sx false ⟨av, am⟩ ⟨bv, bm⟩) j, T.mk (T.sy false ⟨av, am⟩ ⟨bv, bm⟩) j, false, false⟩ (6 + 1)) = T.rnd false ⟨av, am⟩ ⟨bv, bm⟩ j (T.cs false ⟨av, am⟩ ⟨bv, bm⟩ j).1 (T.cs false ⟨av, am⟩ ⟨bv, bm⟩ j).2 (T.rnds false ⟨av, am⟩ ⟨bv, bm⟩ j (T.cs false ⟨av, am⟩ ⟨bv, bm⟩ j).1 (T.cs false ⟨av, am⟩ ⟨bv, bm⟩ j).2 ⟨T.mk (T.sx false ⟨av, am⟩ ⟨bv, bm⟩) j, T.mk (T.sy false ⟨av, am⟩ ⟨bv, bm⟩) j, false, false⟩ 6) 6 from rfl]
          first
            | (rw [T.rnd_skip0 (by assumption)]; rfl)
            | (rw [T.rnd_skip1 (by assumption) (by assumption)]; rfl)
            | (rw [T.rnd_skip2 (by assumption) (by assumption) (by assumption)]; rfl)
            | (rw [T.rnd_go (by assumption) (by assumption) (by assumption), ← one_is hlt]; rfl)
    · (conv => whnf)
      (repeat' (first | (refine step_t (by first | rfl | assumption) ?_; (conv => whnf)) | (refine step_f (by first | rfl | assumption) ?_; (conv => whnf)) | (refine step_nt (by assumption) ?_; (conv => whnf)) | (refine step_nf (by assumption) ?_; (conv => whnf)) | (refine step_n (fun hb => ?_) (fun hb => ?_) <;> (first | contradiction | (conv => whnf))) | (refine And.intro (fun hb => ?_) (fun hb => ?_) <;> (first | contradiction | (conv => whnf))) | (refine And.intro ?_ ?_; rotate_left 1; (conv => whnf))))
      all_goals try (first | rfl | trivial | (simp; done) | (simp; omega) | (simp at hb ⊢; omega) | (simp only [decide_eq_true_eq, Bool.and_eq_true, Int.toNat_natCast] at *; omega))
      all_goals
        refine ⟨8 - (7 + 1), [.cells 26 [.u64 av, .u64 am], .cells 26 [.u64 bv, .u64 bm], .cells 26 [.u64 (BitVec.ofInt 64 0), .u64 (BitVec.ofInt 64 0)], .own 4 1 2 (gOf eB [(T.cs false ⟨av, am⟩ ⟨bv, bm⟩ j).1, (T.cs false ⟨av, am⟩ ⟨bv, bm⟩ j).2]), .own 4 1 2 (gOf eB [(T.rnds false ⟨av, am⟩ ⟨bv, bm⟩ j (T.cs false ⟨av, am⟩ ⟨bv, bm⟩ j).1 (T.cs false ⟨av, am⟩ ⟨bv, bm⟩ j).2 ⟨T.mk (T.sx false ⟨av, am⟩ ⟨bv, bm⟩) j, T.mk (T.sy false ⟨av, am⟩ ⟨bv, bm⟩) j, false, false⟩ (7 + 1)).c0, (T.rnds false ⟨av, am⟩ ⟨bv, bm⟩ j (T.cs false ⟨av, am⟩ ⟨bv, bm⟩ j).1 (T.cs false ⟨av, am⟩ ⟨bv, bm⟩ j).2 ⟨T.mk (T.sx false ⟨av, am⟩ ⟨bv, bm⟩) j, T.mk (T.sy false ⟨av, am⟩ ⟨bv, bm⟩) j, false, false⟩ (7 + 1)).c1])], [0, 1, 2, 3, 4], by omega, rfl, (mle_cons ble_refl (mle_cons ble_refl (mle_cons ble_refl (mle_cons ble_refl (mle_cons (ble_own rfl fun i hi => ?_) mle_nil))))), rfl, rfl, 7 + 1, by omega, rfl, trivial, ?_, rfl⟩
        · rw [show (T.rnds false ⟨av, am⟩ ⟨bv, bm⟩ j (T.cs false ⟨av, am⟩ ⟨bv, bm⟩ j).1 (T.cs false ⟨av, am⟩ ⟨bv, bm⟩ j).2 ⟨T.mk (T.sx false ⟨av, am⟩ ⟨bv, bm⟩) j, T.mk (T.sy false ⟨av, am⟩ ⟨bv, bm⟩) j, false, false⟩ (7 + 1)) = T.rnd false ⟨av, am⟩ ⟨bv, bm⟩ j (T.cs false ⟨av, am⟩ ⟨bv, bm⟩ j).1 (T.cs false ⟨av, am⟩ ⟨bv, bm⟩ j).2 (T.rnds false ⟨av, am⟩ ⟨bv, bm⟩ j (T.cs false ⟨av, am⟩ ⟨bv, bm⟩ j).1 (T.cs false ⟨av, am⟩ ⟨bv, bm⟩ j).2 ⟨T.mk (T.sx false ⟨av, am⟩ ⟨bv, bm⟩) j, T.mk (T.sy false ⟨av, am⟩ ⟨bv, bm⟩) j, false, false⟩ 7) 7 from rfl]
          first
            | (rw [T.rnd_skip0 (by assumption)]; done)
            | (rw [T.rnd_skip1 (by assumption) (by assumption)]; done)
            | (rw [T.rnd_skip2 (by assumption) (by assumption) (by assumption)]; done)
            | (rw [T.rnd_go (by assumption) (by assumption) (by assumption)]; exact gB [_, _] 1 true (by simp) i hi)
            | (rw [T.rnd_go (by assumption) (by assumption) (by assumption)]; exact gB [_, _] 0 true (by simp) i hi)
        · rw [show (T.rnds false ⟨av, am⟩ ⟨bv, bm⟩ j (T.cs false ⟨av, am⟩ ⟨bv, bm⟩ j).1 (T.cs false ⟨av, am⟩ ⟨bv, bm⟩ j).2 ⟨T.mk (T.sx false ⟨av, am⟩ ⟨bv, bm⟩) j, T.mk (T.sy false ⟨av, am⟩ ⟨bv, bm⟩) j, false, false⟩ (7 + 1)) = T.rnd false ⟨av, am⟩ ⟨bv, bm⟩ j (T.cs false ⟨av, am⟩ ⟨bv, bm⟩ j).1 (T.cs false ⟨av, am⟩ ⟨bv, bm⟩ j).2 (T.rnds false ⟨av, am⟩ ⟨bv, bm⟩ j (T.cs false ⟨av, am⟩ ⟨bv, bm⟩ j).1 (T.cs false ⟨av, am⟩ ⟨bv, bm⟩ j).2 ⟨T.mk (T.sx false ⟨av, am⟩ ⟨bv, bm⟩) j, T.mk (T.sy false ⟨av, am⟩ ⟨bv, bm⟩) j, false, false⟩ 7) 7 from rfl]
          first
            | (rw [T.rnd_skip0 (by assumption)]; rfl)
            | (rw [T.rnd_skip1 (by assumption) (by assumption)]; rfl)
            | (rw [T.rnd_skip2 (by assumption) (by assumption) (by assumption)]; rfl)
            | (rw [T.rnd_go (by assumption) (by assumption) (by assumption), ← one_is hlt]; rfl)
    · (conv => whnf)
      (repeat' (first | (refine step_t (by first | rfl | assumption) ?_; (conv => whnf)) | (refine step_f (by first | rfl | assumption) ?_; (conv => whnf)) | (refine step_nt (by assumption) ?_; (conv => whnf)) | (refine step_nf (by assumption) ?_; (conv => whnf)) | (refine step_n (fun hb => ?_) (fun hb => ?_) <;> (first | contradiction | (conv => whnf))) | (refine And.intro (fun hb => ?_) (fun hb => ?_) <;> (first | contradiction | (conv => whnf))) | (refine And.intro ?_ ?_; rotate_left 1; (conv => whnf))))
      all_goals try (first | rfl | trivial | (simp; done) | (simp; omega) | (simp at hb ⊢; omega) | (simp only [decide_eq_true_eq, Bool.and_eq_true, Int.toNat_natCast] at *; omega))
      all_goals
        refine ⟨64 - (j + 1), [.cells 26 [.u64 av, .u64 am], .cells 26 [.u64 bv, .u64 bm], .cells 26 [.u64 (BitVec.ofInt 64 0), .u64 (BitVec.ofInt 64 0)], .own 4 1 2 (gOf eB [(T.cs false ⟨av, am⟩ ⟨bv, bm⟩ (j + 1)).1, (T.cs false ⟨av, am⟩ ⟨bv, bm⟩ (j + 1)).2])], [0, 1, 2, 4], by omega, rfl, (mle_cons ble_refl (mle_cons ble_refl (mle_cons ble_refl (mle_cons (ble_own rfl fun i hi => ?_) mle_nil)))), rfl, rfl, j + 1, by omega, rfl, trivial, ?_, rfl⟩
        · rw [T.rnds_sums]
        · simp only [T.rnds_sums]; rw [← wrap_succ (j := j) (by omega)]; rfl
  all_goals
    have hj2 : j = 64 := by simp at hb; omega
    subst hj2
    rw [T.of_sums false ha hb0]; try rfl
theorem rdifference_run (av am bv bm : BitVec 64) (ha : T.right ⟨av, am⟩ = true) (hb0 : T.right ⟨bv, bm⟩ = true) : run Tryd.prog ⟨[(27, k_rRight), (57, k_rMay), (59, k_rBit), (33, k_rUnknown), (41, k_of)], eqs, [], [], []⟩ 10000 [] 0 (bodyOf Tryd.f50) (initF Tryd.f50 [.agg [.u64 av, .u64 am], .agg [.u64 bv, .u64 bm], .tt]) [] (retK Tryd.prog Tryd.f50 fun x _ => eqv x (tsv (T.difference ⟨av, am⟩ ⟨bv, bm⟩))) := by
  (conv => whnf)
  (repeat' (first | (refine And.intro (fun hb => ?_) (fun hb => ?_) <;> (first | contradiction | (conv => whnf))) | (refine And.intro ?_ ?_; rotate_left 1; (conv => whnf))))
  refine .inr ⟨[], [2, 3, 4, 6, 7, 8, 9, 10], fun k vals M => ∃ j : Nat, j ≤ 64 ∧ k = 64 - j ∧ (True) ∧ vals = [.tt, .ptr 0 0, .ptr 1 0, .ptr 2 0, .u64 (T.mk (T.sx true ⟨av, am⟩ ⟨bv, bm⟩) j), .u64 (T.mk (T.sy true ⟨av, am⟩ ⟨bv, bm⟩) j), .sl 3 1 0 2, .int .i64 (j : Int)] ∧ M = [.cells 26 [.u64 av, .u64 am], .cells 26 [.u64 bv, .u64 bm], .cells 26 [.u64 (BitVec.ofInt 64 0), .u64 (BitVec.ofInt 64 0)], .own 4 1 2 (gOf eB [(T.cs true ⟨av, am⟩ ⟨bv, bm⟩ j).1, (T.cs true ⟨av, am⟩ ⟨bv, bm⟩ j).2])], ?_⟩
  conv => whnf
  refine And.intro ⟨64, [.cells 26 [.u64 av, .u64 am], .cells 26 [.u64 bv, .u64 bm], .cells 26 [.u64 (BitVec.ofInt 64 0), .u64 (BitVec.ofInt 64 0)], .own 4 1 2 (gOf eB [(T.cs true ⟨av, am⟩ ⟨bv, bm⟩ 0).1, (T.cs true ⟨av, am⟩ ⟨bv, bm⟩ 0).2])], (mle_cons ble_refl (mle_cons ble_refl (mle_cons ble_refl (mle_cons (ble_own rfl fun i hi => by match i, hi with | 0, _ => rfl | 1, _ => rfl) mle_nil)))), rfl, rfl, 0, by omega, by omega, trivial, rfl, rfl⟩ ?_
  rintro k vals M1 ⟨j, hj, rfl, hx, rfl, rfl⟩
  (conv => whnf)
  (repeat' (first | (refine And.intro (fun hb => ?_) (fun hb => ?_) <;> (first | contradiction | (conv => whnf))) | (refine And.intro ?_ ?_; rotate_left 1; (conv => whnf))))
  all_goals try (first | rfl | trivial | (simp; done) | (simp; omega) | (simp at hb ⊢; omega) | (simp only [decide_eq_true_eq, Bool.and_eq_true, Int.toNat_natCast] at *; omega))
  · have hlt : j < 64 := by (simp at hb; omega)
    refine .inr ⟨[], [2, 3, 4, 6, 7, 8, 9, 10, 11, 12], fun k vals M => ∃ n : Nat, n ≤ 8 ∧ k = 8 - n ∧ (True) ∧ vals = [.tt, .ptr 0 0, .ptr 1 0, .ptr 2 0, .u64 (T.rnds true ⟨av, am⟩ ⟨bv, bm⟩ j (T.cs true ⟨av, am⟩ ⟨bv, bm⟩ j).1 (T.cs true ⟨av, am⟩ ⟨bv, bm⟩ j).2 ⟨T.mk (T.sx true ⟨av, am⟩ ⟨bv, bm⟩) j, T.mk (T.sy true ⟨av, am⟩ ⟨bv, bm⟩) j, false, false⟩ n).x, .u64 (T.rnds true ⟨av, am⟩ ⟨bv, bm⟩ j (T.cs true ⟨av, am⟩ ⟨bv, bm⟩ j).1 (T.cs true ⟨av, am⟩ ⟨bv, bm⟩ j).2 ⟨T.mk (T.sx true ⟨av, am⟩ ⟨bv, bm⟩) j, T.mk (T.sy true ⟨av, am⟩ ⟨bv, bm⟩) j, false, false⟩ n).y, .sl 3 1 0 2, .int .i64 (j : Int), .sl 4 1 0 2, .int .i64 (n : Int)] ∧ M = [.cells 26 [.u64 av, .u64 am], .cells 26 [.u64 bv, .u64 bm], .cells 26 [.u64 (BitVec.ofInt 64 0), .u64 (BitVec.ofInt 64 0)], .own 4 1 2 (gOf eB [(T.cs true ⟨av, am⟩ ⟨bv, bm⟩ j).1, (T.cs true ⟨av, am⟩ ⟨bv, bm⟩ j).2]), .own 4 1 2 (gOf eB [(T.rnds true ⟨av, am⟩ ⟨bv, bm⟩ j (T.cs true ⟨av, am⟩ ⟨bv, bm⟩ j).1 (T.cs true ⟨av, am⟩ ⟨bv, bm⟩ j).2 ⟨T.mk (T.sx true ⟨av, am⟩ ⟨bv, bm⟩) j, T.mk (T.sy true ⟨av, am⟩ ⟨bv, bm⟩) j, false, false⟩ n).c0, (T.rnds true ⟨av, am⟩ ⟨bv, bm⟩ j (T.cs true ⟨av, am⟩ ⟨bv, bm⟩ j).1 (T.cs true ⟨av, am⟩ ⟨bv, bm⟩ j).2 ⟨T.mk (T.sx true ⟨av, am⟩ ⟨bv, bm⟩) j, T.mk (T.sy true ⟨av, am⟩ ⟨bv, bm⟩) j, false, false⟩ n).c1])], ?_⟩
    conv => whnf
    refine And.intro ⟨8, [.cells 26 [.u64 av, .u64 am], .cells 26 [.u64 bv, .u64 bm], .cells 26 [.u64 (BitVec.ofInt 64 0), .u64 (BitVec.ofInt 64 0)], .own 4 1 2 (gOf eB [(T.cs true ⟨av, am⟩ ⟨bv, bm⟩ j).1, (T.cs true ⟨av, am⟩ ⟨bv, bm⟩ j).2]), .own 4 1 2 (gOf eB [(T.rnds true ⟨av, am⟩ ⟨bv, bm⟩ j (T.cs true ⟨av, am⟩ ⟨bv, bm⟩ j).1 (T.cs true ⟨av, am⟩ ⟨bv, bm⟩ j).2 ⟨T.mk (T.sx true ⟨av, am⟩ ⟨bv, bm⟩) j, T.mk (T.sy true ⟨av, am⟩ ⟨bv, bm⟩) j, false, false⟩ 0).c0, (T.rnds true ⟨av, am⟩ ⟨bv, bm⟩ j (T.cs true ⟨av, am⟩ ⟨bv, bm⟩ j).1 (T.cs true ⟨av, am⟩ ⟨bv, bm⟩ j).2 ⟨T.mk (T.sx true ⟨av, am⟩ ⟨bv, bm⟩) j, T.mk (T.sy true ⟨av, am⟩ ⟨bv, bm⟩) j, false, false⟩ 0).c1])], (mle_cons ble_refl (mle_cons ble_refl (mle_cons ble_refl (mle_cons ble_refl (mle_cons (ble_own rfl fun i hi => by match i, hi with | 0, _ => rfl | 1, _ => rfl) mle_nil))))), rfl, rfl, 0, by omega, by omega, trivial, rfl, rfl⟩ ?_
    rintro k vals M1 ⟨n, hn, rfl, hx, rfl, rfl⟩

    have h5 : n = 0 ∨ n = 1 ∨ n = 2 ∨ n = 3 ∨ n = 4 ∨ n = 5 ∨ n = 6 ∨ n = 7 ∨ n = 8 := by omega
    rcases h5 with rfl | rfl | rfl | rfl | rfl | rfl | rfl | rfl | rfl
    · (conv => whnf)
      (repeat' (first | (refine step_t (by first | rfl | assumption) ?_; (conv => whnf)) | (refine step_f (by first | rfl | assumption) ?_; (conv => whnf)) | (refine step_nt (by assumption) ?_; (conv => whnf)) | (refine step_nf (by assumption) ?_; (conv => whnf)) | (refine step_n (fun hb => ?_) (fun hb => ?_) <;> (first | contradiction | (conv => whnf))) | (refine And.intro (fun hb => ?_) (fun hb => ?_) <;> (first | contradiction | (conv => whnf))) | (refine And.intro ?_ ?_; rotate_left 1; (conv => whnf))))
      all_goals try (first | rfl | trivial | (simp; done) | (simp; omega) | (simp at hb ⊢; omega) | (simp only [decide_eq_true_eq, Bool.and_eq_true, Int.toNat_natCast] at *; omega))
      all_goals
        refine ⟨8 - (0 + 1), [.cells 26 [.u64 av, .u64 am], .cells 26 [.u64 bv, .u64 bm], .cells 26 [.u64 (BitVec.ofInt 64 0), .u64 (BitVec.ofInt 64 0)], .own 4 1 2 (gOf eB [(T.cs true ⟨av, am⟩ ⟨bv, bm⟩ j).1, (T.cs true ⟨av, am⟩ ⟨bv, bm⟩ j).2]), .own 4 1 2 (gOf eB [(T.rnds true ⟨av, am⟩ ⟨bv, bm⟩ j (T.cs true ⟨av, am⟩ ⟨bv, bm⟩ j).1 (T.cs true ⟨av, am⟩ ⟨bv, bm⟩ j).2 ⟨T.mk (T.sx true ⟨av, am⟩ ⟨bv, bm⟩) j, T.mk (T.sy true ⟨av, am⟩ ⟨bv, bm⟩) j, false, false⟩ (0 + 1)).c0, (T.rnds true ⟨av, am⟩ ⟨bv, bm⟩ j (T.cs true ⟨av, am⟩ ⟨bv, bm⟩ j).1 (T.cs true ⟨av, am⟩ ⟨bv, bm⟩ j).2 ⟨T.mk (T.sx true ⟨av, am⟩ ⟨bv, bm⟩) j, T.mk (T.sy true ⟨av, am⟩ ⟨bv, bm⟩) j, false, false⟩ (0 + 1)).c1])], [0, 1, 2, 3, 4], by omega, rfl, (mle_cons ble_refl (mle_cons ble_refl (mle_cons ble_refl (mle_cons ble_refl (mle_cons (ble_own rfl fun i hi => ?_) mle_nil))))), rfl, rfl, 0 + 1, by omega, rfl, trivial, ?_, rfl⟩
        · rw [show (T.rnds true ⟨av, am⟩ ⟨bv, bm⟩ j (T.cs true ⟨av, am⟩ ⟨bv, bm⟩ j).1 (T.cs true ⟨av, am⟩ ⟨bv, bm⟩ j).2 ⟨T.mk (T.sx true ⟨av, am⟩ ⟨bv, bm⟩) j, T.mk (T.sy true ⟨av, am⟩ ⟨bv, bm⟩) j, false, false⟩ (0 + 1)) = T.rnd true ⟨av, am⟩ ⟨bv, bm⟩ j (T.cs true ⟨av, am⟩ ⟨bv, bm⟩ j).1 (T.cs true ⟨av, am⟩ ⟨bv, bm⟩ j).2 (T.rnds true ⟨av, am⟩ ⟨bv, bm⟩ j (T.cs true ⟨av, am⟩ ⟨bv, bm⟩ j).1 (T.cs true ⟨av, am⟩ ⟨bv, bm⟩ j).2 ⟨T.mk (T.sx true ⟨av, am⟩ ⟨bv, bm⟩) j, T.mk (T.sy true ⟨av, am⟩ ⟨bv, bm⟩) j, false, false⟩ 0) 0 from rfl]
          first
            | (rw [T.rnd_skip0 (by assumption)]; done)
            | (rw [T.rnd_skip1 (by assumption) (by assumption)]; done)
            | (rw [T.rnd_skip2 (by assumption) (by assumption) (by assumption)]; done)
            | (rw [T.rnd_go (by assumption) (by assumption) (by assumption)]; exact gB [_, _] 1 true (by simp) i hi)
            | (rw [T.rnd_go (by assumption) (by assumption) (by assumption)]; exact gB [_, _] 0 true (by simp) i hi)
        · rw [show (T.rnds true ⟨av, am⟩ ⟨bv, bm⟩ j (T.cs true ⟨av, am⟩ ⟨bv, bm⟩ j).1 (T.cs true ⟨av, am⟩ ⟨bv, bm⟩ j).2 ⟨T.mk (T.sx true ⟨av, am⟩ ⟨bv, bm⟩) j, T.mk (T.sy true ⟨av, am⟩ ⟨bv, bm⟩) j, false, false⟩ (0 + 1)) = T.rnd true ⟨av, am⟩ ⟨bv, bm⟩ j (T.cs true ⟨av, am⟩ ⟨bv, bm⟩ j).1 (T.cs true ⟨av, am⟩ ⟨bv, bm⟩ j).2 (T.rnds true ⟨av, am⟩ ⟨bv, bm⟩ j (T.cs true ⟨av, am⟩ ⟨bv, bm⟩ j).1 (T.cs true ⟨av, am⟩ ⟨bv, bm⟩ j).2 ⟨T.mk (T.sx true ⟨av, am⟩ ⟨bv, bm⟩) j, T.mk (T.sy true ⟨av, am⟩ ⟨bv, bm⟩) j, false, false⟩ 0) 0 from rfl]
          first
            | (rw [T.rnd_skip0 (by assumption)]; rfl)
            | (rw [T.rnd_skip1 (by assumption) (by assumption)]; rfl)
            | (rw [T.rnd_skip2 (by assumption) (by assumption) (by assumption)]; rfl)
            | (rw [T.rnd_go (by assumption) (by assumption) (by assumption), ← one_is hlt]; rfl)
    · (conv => whnf)
      (repeat' (first | (refine step_t (by first | rfl | assumption) ?_; (conv => whnf)) | (refine step_f (by first | rfl | assumption) ?_; (conv => whnf)) | (refine step_nt (by assumption) ?_; (conv => whnf)) | (refine step_nf (by assumption) ?_; (conv => whnf)) | (refine step_n (fun hb => ?_) (fun hb => ?_) <;> (first | contradiction | (conv => whnf))) | (refine And.intro (fun hb => ?_) (fun hb => ?_) <;> (first | contradiction | (conv => whnf))) | (refine And.intro ?_ ?_; rotate_left 1; (conv => whnf))))
      all_goals try (first | rfl | trivial | (simp; done) | (simp; omega) | (simp at hb ⊢; omega) | (simp only [decide_eq_true_eq, Bool.and_eq_true, Int.toNat_natCast] at *; omega))
      all_goals
        refine ⟨8 - (1 + 1), [.cells 26 [.u64 av, .u64 am], .cells 26 [.u64 bv, .u64 bm], .cells 26 [.u64 (BitVec.ofInt 64 0), .u64 (BitVec.ofInt 64 0)], .own 4 1 2 (gOf eB [(T.cs true ⟨av, am⟩ ⟨bv, bm⟩ j).1, (T.cs true ⟨av, am⟩ ⟨bv, bm⟩ j).2]), .own 4 1 2 (gOf eB [(T.rnds true ⟨av, am⟩ ⟨bv, bm⟩ j (T.cs true ⟨av, am⟩ ⟨bv, bm⟩ j).1 (T.cs true ⟨av, am⟩ ⟨bv, bm⟩ j).2 ⟨T.mk (T.sx true ⟨av, am⟩ ⟨bv, bm⟩) j, T.mk (T.sy true ⟨av, am⟩ ⟨bv, bm⟩) j, false, false⟩ (1 + 1)).c0, (T.rnds true ⟨av, am⟩ ⟨bv, bm⟩ j (T.cs true ⟨av, am⟩ ⟨bv, bm⟩ j).1 (T.cs true ⟨av, am⟩ ⟨bv, bm⟩ j).2 ⟨T.mk (T.sx true ⟨av, am⟩ ⟨bv, bm⟩) j, T.mk (T.sy true ⟨av, am⟩ ⟨bv, bm⟩) j, false, false⟩ (1 + 1)).c1])], [0, 1, 2, 3, 4], by omega, rfl, (mle_cons ble_refl (mle_cons ble_refl (mle_cons ble_refl (mle_cons ble_refl (mle_cons (ble_own rfl fun i hi => ?_) mle_nil))))), rfl, rfl, 1 + 1, by omega, rfl, trivial, ?_, rfl⟩
        · rw [show (T.rnds true ⟨av, am⟩ ⟨bv, bm⟩ j (T.cs true ⟨av, am⟩ ⟨bv, bm⟩ j).1 (T.cs true ⟨av, am⟩ ⟨bv, bm⟩ j).2 ⟨T.mk (T.sx true ⟨av, am⟩ ⟨bv, bm⟩) j, T.mk (T.sy true ⟨av, am⟩ ⟨bv, bm⟩) j, false, false⟩ (1 + 1)) = T.rnd true ⟨av, am⟩ ⟨bv, bm⟩ j (T.cs true ⟨av, am⟩ ⟨bv, bm⟩ j).1 (T.cs true ⟨av, am⟩ ⟨bv, bm⟩ j).2 (T.rnds true ⟨av, am⟩ ⟨bv, bm⟩ j (T.cs true ⟨av, am⟩ ⟨bv, bm⟩ j).1 (T.cs true ⟨av, am⟩ ⟨bv, bm⟩ j).2 ⟨T.mk (T.sx true ⟨av, am⟩ ⟨bv, bm⟩) j, T.mk (T.sy true ⟨av, am⟩ ⟨bv, bm⟩) j, false, false⟩ 1) 1 from rfl]
          first
            | (rw [T.rnd_skip0 (by assumption)]; done)
            | (rw [T.rnd_skip1 (by assumption) (by assumption)]; done)
            | (rw [T.rnd_skip2 (by assumption) (by assumption) (by assumption)]; done)
            | (rw [T.rnd_go (by assumption) (by assumption) (by assumption)]; exact gB [_, _] 1 true (by simp) i hi)
            | (rw [T.rnd_go (by assumption) (by assumption) (by assumption)]; exact gB [_, _] 0 true (by simp) i hi)
        · rw [show (T.rnds true ⟨av, am⟩ ⟨bv, bm⟩ j (T.cs true ⟨av, am⟩ ⟨bv, bm⟩ j).1 (T.cs true ⟨av, am⟩ ⟨bv, bm⟩ j).2 ⟨T.mk (T.sx true ⟨av, am⟩ ⟨bv, bm⟩) j, T.mk (T.sy true ⟨av, am⟩ ⟨bv, bm⟩) j, false, false⟩ (1 + 1)) = T.rnd true ⟨av, am⟩ ⟨bv, bm⟩ j (T.cs true ⟨av, am⟩ ⟨bv, bm⟩ j).1 (T.cs true ⟨av, am⟩ ⟨bv, bm⟩ j).2 (T.rnds true ⟨av, am⟩ ⟨bv, bm⟩ j (T.cs true ⟨av, am⟩ ⟨bv, bm⟩ j).1 (T.cs true ⟨av, am⟩ ⟨bv, bm⟩ j).2 ⟨T.mk (T.sx true ⟨av, am⟩ ⟨bv, bm⟩) j, T.mk (T.sy true ⟨av, am⟩ ⟨bv, bm⟩) j, false, false⟩ 1) 1 from rfl]
          first
            | (rw [T.rnd_skip0 (by assumption)]; rfl)
            | (rw [T.rnd_skip1 (by assumption) (by assumption)]; rfl)
            | (rw [T.rnd_skip2 (by assumption) (by assumption) (by assumption)]; rfl)
            | (rw [T.rnd_go (by assumption) (by assumption) (by assumption), ← one_is hlt]; rfl)
    · (conv => whnf)
      (repeat' (first | (refine step_t (by first | rfl | assumption) ?_; (conv => whnf)) | (refine step_f (by first | rfl | assumption) ?_; (conv => whnf)) | (refine step_nt (by assumption) ?_; (conv => whnf)) | (refine step_nf (by assumption) ?_; (conv => whnf)) | (refine step_n (fun hb => ?_) (fun hb => ?_) <;> (first | contradiction | (conv => whnf))) | (refine And.intro (fun hb => ?_) (fun hb => ?_) <;> (first | contradiction | (conv => whnf))) | (refine And.intro ?_ ?_; rotate_left 1; (conv => whnf))))
      all_goals try (first | rfl | trivial | (simp; done) | (simp; omega) | (simp at hb ⊢; omega) | (simp only [decide_eq_true_eq, Bool.and_eq_true, Int.toNat_natCast] at *; omega))
      all_goals
        refine ⟨8 - (2 + 1), [.cells 26 [.u64 av, .u64 am], .cells 26 [.u64 bv, .u64 bm], .cells 26 [.u64 (BitVec.ofInt 64 0), .u64 (BitVec.ofInt 64 0)], .own 4 1 2 (gOf eB [(T.cs true ⟨av, am⟩ ⟨bv, bm⟩ j).1, (T.cs true ⟨av, am⟩ ⟨bv, bm⟩ j).2]), .own 4 1 2 (gOf eB [(T.rnds true ⟨av, am⟩ ⟨bv, bm⟩ j (T.cs true ⟨av, am⟩ ⟨bv, bm⟩ j).1 (T.cs true ⟨av, am⟩ ⟨bv, bm⟩ j).2 ⟨T.mk (T.sx true ⟨av, am⟩ ⟨bv, bm⟩) j, T.mk (T.sy true ⟨av, am⟩ ⟨bv, bm⟩) j, false, false⟩ (2 + 1)).c0, (T.rnds true ⟨av, am⟩ ⟨bv, bm⟩ j (T.cs true ⟨av, am⟩ ⟨bv, bm⟩ j).1 (T.cs true ⟨av, am⟩ ⟨bv, bm⟩ j).2 ⟨T.mk (T.sx true ⟨av, am⟩ ⟨bv, bm⟩) j, T.mk (T.sy true ⟨av, am⟩ ⟨bv, bm⟩) j, false, false⟩ (2 + 1)).c1])], [0, 1, 2, 3, 4], by omega, rfl, (mle_cons ble_refl (mle_cons ble_refl (mle_cons ble_refl (mle_cons ble_refl (mle_cons (ble_own rfl fun i hi => ?_) mle_nil))))), rfl, rfl, 2 + 1, by omega, rfl, trivial, ?_, rfl⟩
        · rw [show (T.rnds true ⟨av, am⟩ ⟨bv, bm⟩ j (T.cs true ⟨av, am⟩ ⟨bv, bm⟩ j).1 (T.cs true ⟨av, am⟩ ⟨bv, bm⟩ j).2 ⟨T.mk (T.sx true ⟨av, am⟩ ⟨bv, bm⟩) j, T.mk (T.sy true ⟨av, am⟩ ⟨bv, bm⟩) j, false, false⟩ (2 + 1)) = T.rnd true ⟨av, am⟩ ⟨bv, bm⟩ j (T.cs true ⟨av, am⟩ ⟨bv, bm⟩ j).1 (T.cs true ⟨av, am⟩ ⟨bv, bm⟩ j).2 (T.rnds true ⟨av, am⟩ ⟨bv, bm⟩ j (T.cs true ⟨av, am⟩ ⟨bv, bm⟩ j).1 (T.cs true ⟨av, am⟩ ⟨bv, bm⟩ j).2 ⟨T.mk (T.sx true ⟨av, am⟩ ⟨bv, bm⟩) j, T.mk (T.sy true ⟨av, am⟩ ⟨bv, bm⟩) j, false, false⟩ 2) 2 from rfl]
          first
            | (rw [T.rnd_skip0 (by assumption)]; done)
            | (rw [T.rnd_skip1 (by assumption) (by assumption)]; done)
            | (rw [T.rnd_skip2 (by assumption) (by assumption) (by assumption)]; done)
            | (rw [T.rnd_go (by assumption) (by assumption) (by assumption)]; exact gB [_, _] 1 true (by simp) i hi)
            | (rw [T.rnd_go (by assumption) (by assumption) (by assumption)]; exact gB [_, _] 0 true (by simp) i hi)
        · rw [show (T.rnds true ⟨av, am⟩ ⟨bv, bm⟩ j (T.cs true ⟨av, am⟩ ⟨bv, bm⟩ j).1 (T.cs true ⟨av, am⟩ ⟨bv, bm⟩ j).2 ⟨T.mk (T.sx true ⟨av, am⟩ ⟨bv, bm⟩) j, T.mk (T.sy true ⟨av, am⟩ ⟨bv, bm⟩) j, false, false⟩ (2 + 1)) = T.rnd true ⟨av, am⟩ ⟨bv, bm⟩ j (T.cs true ⟨av, am⟩ ⟨bv, bm⟩ j).1 (T.cs true ⟨av, am⟩ ⟨bv, bm⟩ j).2 (T.rnds true ⟨av, am⟩ ⟨bv, bm⟩ j (T.cs true ⟨av, am⟩ ⟨bv, bm⟩ j).1 (T.cs true ⟨av, am⟩ ⟨bv, bm⟩ j).2 ⟨T.mk (T.sx true ⟨av, am⟩ ⟨bv, bm⟩) j, T.mk (T.sy true ⟨av, am⟩ ⟨bv, bm⟩) j, false, false⟩ 2) 2 from rfl]
          first
            | (rw [T.rnd_skip0 (by assumption)]; rfl)
            | (rw [T.rnd_skip1 (by assumption) (by assumption)]; rfl)
            | (rw [T.rnd_skip2 (by assumption) (by assumption) (by assumption)]; rfl)
            | (rw [T.rnd_go (by assumption) (by assumption) (by assumption), ← one_is hlt]; rfl)
    · (conv => whnf)
      (repeat' (first | (refine step_t (by first | rfl | assumption) ?_; (conv => whnf)) | (refine step_f (by first | rfl | assumption) ?_; (conv => whnf)) | (refine step_nt (by assumption) ?_; (conv => whnf)) | (refine step_nf (by assumption) ?_; (conv => whnf)) | (refine step_n (fun hb => ?_) (fun hb => ?_) <;> (first | contradiction | (conv => whnf))) | (refine And.intro (fun hb => ?_) (fun hb => ?_) <;> (first | contradiction | (conv => whnf))) | (refine And.intro ?_ ?_; rotate_left 1; (conv => whnf))))
      all_goals try (first | rfl | trivial | (simp; done) | (simp; omega) | (simp at hb ⊢; omega) | (simp only [decide_eq_true_eq, Bool.and_eq_true, Int.toNat_natCast] at *; omega))
      all_goals
        refine ⟨8 - (3 + 1), [.cells 26 [.u64 av, .u64 am], .cells 26 [.u64 bv, .u64 bm], .cells 26 [.u64 (BitVec.ofInt 64 0), .u64 (BitVec.ofInt 64 0)], .own 4 1 2 (gOf eB [(T.cs true ⟨av, am⟩ ⟨bv, bm⟩ j).1, (T.cs true ⟨av, am⟩ ⟨bv, bm⟩ j).2]), .own 4 1 2 (gOf eB [(T.rnds true ⟨av, am⟩ ⟨bv, bm⟩ j (T.cs true ⟨av, am⟩ ⟨bv, bm⟩ j).1 (T.cs true ⟨av, am⟩ ⟨bv, bm⟩ j).2 ⟨T.mk (T.sx true ⟨av, am⟩ ⟨bv, bm⟩) j, T.mk (T.sy true ⟨av, am⟩ ⟨bv, bm⟩) j, false, false⟩ (3 + 1)).c0, (T.rnds true ⟨av, am⟩ ⟨bv, bm⟩ j (T.cs true ⟨av, am⟩ ⟨bv, bm⟩ j).1 (T.cs true ⟨av, am⟩ ⟨bv, bm⟩ j).2 ⟨T.mk (T.sx true ⟨av, am⟩ ⟨bv, bm⟩) j, T.mk (T.sy true ⟨av, am⟩ ⟨bv, bm⟩) j, false, false⟩ (3 + 1)).c1])], [0, 1, 2, 3, 4], by omega, rfl, (mle_cons ble_refl (mle_cons ble_refl (mle_cons ble_refl (mle_cons ble_refl (mle_cons (ble_own rfl fun i hi => ?_) mle_nil))))), rfl, rfl, 3 + 1, by omega, rfl, trivial, ?_, rfl⟩
        · rw [show (T.rnds true ⟨av, am⟩ ⟨bv, bm⟩ j (T.cs true ⟨av, am⟩ ⟨bv, bm⟩ j).1 (T.cs true ⟨av, am⟩ ⟨bv, bm⟩ j).2 ⟨T.mk (T.sx true ⟨av, am⟩ ⟨bv, bm⟩) j, T.mk (T.sy true ⟨av, am⟩ ⟨bv, bm⟩) j, false, false⟩ (3 + 1)) = T.rnd true ⟨av, am⟩ ⟨bv, bm⟩ j (T.cs true ⟨av, am⟩ ⟨bv, bm⟩ j).1 (T.cs true ⟨av, am⟩ ⟨bv, bm⟩ j).2 (T.rnds true ⟨av, am⟩ ⟨bv, bm⟩ j (T.cs true ⟨av, am⟩ ⟨bv, bm⟩ j).1 (T.cs true ⟨av, am⟩ ⟨bv, bm⟩ j).2 ⟨T.mk (T.sx true ⟨av, am⟩ ⟨bv, bm⟩) j, T.mk (T.sy true ⟨av, am⟩ ⟨bv, bm⟩) j, false, false⟩ 3) 3 from rfl]
          first
            | (rw [T.rnd_skip0 (by assumption)]; done)
            | (rw [T.rnd_skip1 (by assumption) (by assumption)]; done)
            | (rw [T.rnd_skip2 (by assumption) (by assumption) (by assumption)]; done)
            | (rw [T.rnd_go (by assumption) (by assumption) (by assumption)]; exact gB [_, _] 1 true (by simp) i hi)
            | (rw [T.rnd_go (by assumption) (by assumption) (by assumption)]; exact gB [_, _] 0 true (by simp) i hi)
        · rw [show (T.rnds true ⟨av, am⟩ ⟨bv, bm⟩ j (T.cs true ⟨av, am⟩ ⟨bv, bm⟩ j).1 (T.cs true ⟨av, am⟩ ⟨bv, bm⟩ j).2 ⟨T.mk (T.sx true ⟨av, am⟩ ⟨bv, bm⟩) j, T.mk (T.sy true ⟨av, am⟩ ⟨bv, bm⟩) j, false, false⟩ (3 + 1)) = T.rnd true ⟨av, am⟩ ⟨bv, bm⟩ j (T.cs true ⟨av, am⟩ ⟨bv, bm⟩ j).1 (T.cs true ⟨av, am⟩ ⟨bv, bm⟩ j).2 (T.rnds true ⟨av, am⟩ ⟨bv, bm⟩ j (T.cs true ⟨av, am⟩ ⟨bv, bm⟩ j).1 (T.cs true ⟨av, am⟩ ⟨bv, bm⟩ j).2 ⟨T.mk (T.sx true ⟨av, am⟩ ⟨bv, bm⟩) j, T.mk (T.sy true ⟨av, am⟩ ⟨bv, bm⟩) j, false, false⟩ 3) 3 from rfl]
          first
            | (rw [T.rnd_skip0 (by assumption)]; rfl)
            | (rw [T.rnd_skip1 (by assumption) (by assumption)]; rfl)
            | (rw [T.rnd_skip2 (by assumption) (by assumption) (by assumption)]; rfl)
            | (rw [T.rnd_go (by assumption) (by assumption) (by assumption), ← one_is hlt]; rfl)
    · (conv => whnf)
      (repeat' (first | (refine step_t (by first | rfl | assumption) ?_; (conv => whnf)) | (refine step_f (by first | rfl | assumption) ?_; (conv => whnf)) | (refine step_nt (by assumption) ?_; (conv => whnf)) | (refine step_nf (by assumption) ?_; (conv => whnf)) | (refine step_n (fun hb => ?_) (fun hb => ?_) <;> (first | contradiction | (conv => whnf))) | (refine And.intro (fun hb => ?_) (fun hb => ?_) <;> (first | contradiction | (conv => whnf))) | (refine And.intro ?_ ?_; rotate_left 1; (conv => whnf))))
      all_goals try (first | rfl | trivial | (simp; done) | (simp; omega) | (simp at hb ⊢; omega) | (simp only [decide_eq_true_eq, Bool.and_eq_true, Int.toNat_natCast] at *; omega))
      all_goals
        refine ⟨8 - (4 + 1), [.cells 26 [.u64 av, .u64 am], .cells 26 [.u64 bv, .u64 bm], .cells 26 [.u64 (BitVec.ofInt 64 0), .u64 (BitVec.ofInt 64 0)], .own 4 1 2 (gOf eB [(T.cs true ⟨av, am⟩ ⟨bv, bm⟩ j).1, (T.cs true ⟨av, am⟩ ⟨bv, bm⟩ j).2]), .own 4 1 2 (gOf eB [(T.rnds true ⟨av, am⟩ ⟨bv, bm⟩ j (T.cs true ⟨av, am⟩ ⟨bv, bm⟩ j).1 (T.cs true ⟨av, am⟩ ⟨bv, bm⟩ j).2 ⟨T.mk (T.sx true ⟨av, am⟩ ⟨bv, bm⟩) j, T.mk (T.sy true ⟨av, am⟩ ⟨bv, bm⟩) j, false, false⟩ (4 + 1)).c0, (T.rnds true ⟨av, am⟩ ⟨bv, bm⟩ j (T.cs true ⟨av, am⟩ ⟨bv, bm⟩ j).1 (T.cs true ⟨av, am⟩ ⟨bv, bm⟩ j).2 ⟨T.mk (T.sx true ⟨av, am⟩ ⟨bv, bm⟩) j, T.mk (T.sy true ⟨av, am⟩ ⟨bv, bm⟩) j, false, false⟩ (4 + 1)).c1])], [0, 1, 2, 3, 4], by omega, rfl, (mle_cons ble_refl (mle_cons ble_refl (mle_cons ble_refl (mle_cons ble_refl (mle_cons (ble_own rfl fun i hi => ?_) mle_nil))))), rfl, rfl, 4 + 1, by omega, rfl, trivial, ?_, rfl⟩
        · rw [show (T.rnds true ⟨av, am⟩ ⟨bv, bm⟩ j (T.cs true ⟨av, am⟩ ⟨bv, bm⟩ j).1 (T.cs true ⟨av, am⟩ ⟨bv, bm⟩ j).2 ⟨T.mk (T.sx true ⟨av, am⟩ ⟨bv, bm⟩) j, T.mk (T.sy true ⟨av, am⟩ ⟨bv, bm⟩) j, false, false⟩ (4 + 1)) = T.rnd true ⟨av, am⟩ ⟨bv, bm⟩ j (T.cs true ⟨av, am⟩ ⟨bv, bm⟩ j).1 (T.cs true ⟨av, am⟩ ⟨bv, bm⟩ j).2 (T.rnds true ⟨av, am⟩ ⟨bv, bm⟩ j (T.cs true ⟨av, am⟩ ⟨bv, bm⟩ j).1 (T.cs true ⟨av, am⟩ ⟨bv, bm⟩ j).2 ⟨T.mk (T.sx true ⟨av, am⟩ ⟨bv, bm⟩) j, T.mk (T.sy true ⟨av, am⟩ ⟨bv, bm⟩) j, false, false⟩ 4) 4 from rfl]
          first
            | (rw [T.rnd_skip0 (by assumption)]; done)
            | (rw [T.rnd_skip1 (by assumption) (by assumption)]; done)
            | (rw [T.rnd_skip2 (by assumption) (by assumption) (by assumption)]; done)
            | (rw [T.rnd_go (by assumption) (by assumption) (by assumption)]; exact gB [_, _] 1 true (by simp) i hi)
            | (rw [T.rnd_go (by assumption) (by assumption) (by assumption)]; exact gB [_, _] 0 true (by simp) i hi)
        · rw [show (T.rnds true ⟨av, am⟩ ⟨bv, bm⟩ j (T.cs true ⟨av, am⟩ ⟨bv, bm⟩ j).1 (T.cs true ⟨av, am⟩ ⟨bv, bm⟩ j).2 ⟨T.mk (T.sx true ⟨av, am⟩ ⟨bv, bm⟩) j, T.mk (T.sy true ⟨av, am⟩ ⟨bv, bm⟩) j, false, false⟩ (4 + 1)) = T.rnd true ⟨av, am⟩ ⟨bv, bm⟩ j (T.cs true ⟨av, am⟩ ⟨bv, bm⟩ j).1 (T.cs true ⟨av, am⟩ ⟨bv, bm⟩ j).2 (T.rnds true ⟨av, am⟩ ⟨bv, bm⟩ j (T.cs true ⟨av, am⟩ ⟨bv, bm⟩ j).1 (T.cs true ⟨av, am⟩ ⟨bv, bm⟩ j).2 ⟨T.mk (T.sx true ⟨av, am⟩ ⟨bv, bm⟩) j, T.mk (T.sy true ⟨av, am⟩ ⟨bv, bm⟩) j, false, false⟩ 4) 4 from rfl]
          first
            | (rw [T.rnd_skip0 (by assumption)]; rfl)
            | (rw [T.rnd_skip1 (by assumption) (by assumption)]; rfl)
            | (rw [T.rnd_skip2 (by assumption) (by assumption) (by assumption)]; rfl)
            | (rw [T.rnd_go (by assumption) (by assumption) (by assumption), ← one_is hlt]; rfl)
    · (conv => whnf)
      (repeat' (first | (refine step_t (by first | rfl | assumption) ?_; (conv => whnf)) | (refine step_f (by first | rfl | assumption) ?_; (conv => whnf)) | (refine step_nt (by assumption) ?_; (conv => whnf)) | (refine step_nf (by assumption) ?_; (conv => whnf)) | (refine step_n (fun hb => ?_) (fun hb => ?_) <;> (first | contradiction | (conv => whnf))) | (refine And.intro (fun hb => ?_) (fun hb => ?_) <;> (first | contradiction | (conv => whnf))) | (refine And.intro ?_ ?_; rotate_left 1; (conv => whnf))))
      all_goals try (first | rfl | trivial | (simp; done) | (simp; omega) | (simp at hb ⊢; omega) | (simp only [decide_eq_true_eq, Bool.and_eq_true, Int.toNat_natCast] at *; omega))
      all_goals
        refine ⟨8 - (5 + 1), [.cells 26 [.u64 av, .u64 am], .cells 26 [.u64 bv, .u64 bm], .cells 26 [.u64 (BitVec.ofInt 64 0), .u64 (BitVec.ofInt 64 0)], .own 4 1 2 (gOf eB [(T.cs true ⟨av, am⟩ ⟨bv, bm⟩ j).1, (T.cs true ⟨av, am⟩ ⟨bv, bm⟩ j).2]), .own 4 1 2 (gOf eB [(T.rnds true ⟨av, am⟩ ⟨bv, bm⟩ j (T.cs true ⟨av, am⟩ ⟨bv, bm⟩ j).1 (T.cs true ⟨av, am⟩ ⟨bv, bm⟩ j).2 ⟨T.mk (T.sx true ⟨av, am⟩ ⟨bv, bm⟩) j, T.mk (T.sy true ⟨av, am⟩ ⟨bv, bm⟩) j, false, false⟩ (5 + 1)).c0, (T.rnds true ⟨av, am⟩ ⟨bv, bm⟩ j (T.cs true ⟨av, am⟩ ⟨bv, bm⟩ j).1 (T.cs true ⟨av, am⟩ ⟨bv, bm⟩ j).2 ⟨T.mk (T.sx true ⟨av, am⟩ ⟨bv, bm⟩) j, T.mk (T.sy true ⟨av, am⟩ ⟨bv, bm⟩) j, false, false⟩ (5 + 1)).c1])], [0, 1, 2, 3, 4], by omega, rfl, (mle_cons ble_refl (mle_cons ble_refl (mle_cons ble_refl (mle_cons ble_refl (mle_cons (ble_own rfl fun i hi => ?_) mle_nil))))), rfl, rfl, 5 + 1, by omega, rfl, trivial, ?_, rfl⟩
        · rw [show (T.rnds true ⟨av, am⟩ ⟨bv, bm⟩ j (T.cs true ⟨av, am⟩ ⟨bv, bm⟩ j).1 (T.cs true ⟨av, am⟩ ⟨bv, bm⟩ j).2 ⟨T.mk (T.sx true ⟨av, am⟩ ⟨bv, bm⟩) j, T.mk (T.sy true ⟨av, am⟩ ⟨bv, bm⟩) j, false, false⟩ (5 + 1)) = T.rnd true ⟨av, am⟩ ⟨bv, bm⟩ j (T.cs true ⟨av, am⟩ ⟨bv, bm⟩ j).1 (T.cs true ⟨av, am⟩ ⟨bv, bm⟩ j).2 (T.rnds true ⟨av, am⟩ ⟨bv, bm⟩ j (T.cs true ⟨av, am⟩ ⟨bv, bm⟩ j).1 (T.cs true ⟨av, am⟩ ⟨bv, bm⟩ j).2 ⟨T.mk (T.sx true ⟨av, am⟩ ⟨bv, bm⟩) j, T.mk (T.sy true ⟨av, am⟩ ⟨bv, bm⟩) j, false, false⟩ 5) 5 from rfl]
          first
            | (rw [T.rnd_skip0 (by assumption)]; done)
            | (rw [T.rnd_skip1 (by assumption) (by assumption)]; done)
            | (rw [T.rnd_skip2 (by assumption) (by assumption) (by assumption)]; done)
            | (rw [T.rnd_go (by assumption) (by assumption) (by assumption)]; exact gB [_, _] 1 true (by simp) i hi)
            | (rw [T.rnd_go (by assumption) (by assumption) (by assumption)]; exact gB [_, _] 0 true (by simp) i hi)
        · rw [show (T.rnds true ⟨av, am⟩ ⟨bv, bm⟩ j (T.cs true ⟨av, am⟩ ⟨bv, bm⟩ j).1 (T.cs true ⟨av, am⟩ ⟨bv, bm⟩ j).2 ⟨T.mk (T.sx true ⟨av, am⟩ ⟨bv, bm⟩) j, T.mk (T.sy true ⟨av, am⟩ ⟨bv, bm⟩) j, false, false⟩ (5 + 1)) = T.rnd true ⟨av, am⟩ ⟨bv, bm⟩ j (T.cs true ⟨av, am⟩ ⟨bv, bm⟩ j).1 (T.cs true ⟨av, am⟩ ⟨bv, bm⟩ j).2 (T.rnds true ⟨av, am⟩ ⟨bv, bm⟩ j (T.cs true ⟨av, am⟩ ⟨bv, bm⟩ j).1 (T.cs true ⟨av, am⟩ ⟨bv, bm⟩ j).2 ⟨T.mk (T.sx true ⟨av, am⟩ ⟨bv, bm⟩) j, T.mk (T.sy true ⟨av, am⟩ ⟨bv, bm⟩) j, false, false⟩ 5) 5 from rfl]
          first
            | (rw [T.rnd_skip0 (by assumption)]; rfl)
            | (rw [T.rnd_skip1 (by assumption) (by assumption)]; rfl)
            | (rw [T.rnd_skip2 (by assumption) (by assumption) (by assumption)]; rfl)
            | (rw [T.rnd_go (by assumption) (by assumption) (by assumption), ← one_is hlt]; rfl)
    · (conv => whnf)
      (repeat' (first | (refine step_t (by first | rfl | assumption) ?_; (conv => whnf)) | (refine step_f (by first | rfl | assumption) ?_; (conv => whnf)) | (refine step_nt (by assumption) ?_; (conv => whnf)) | (refine step_nf (by assumption) ?_; (conv => whnf)) | (refine step_n (fun hb => ?_) (fun hb => ?_) <;> (first | contradiction | (conv => whnf))) | (refine And.intro (fun hb => ?_) (fun hb => ?_) <;> (first | contradiction | (conv => whnf))) | (refine And.intro ?_ ?_; rotate_left 1; (conv => whnf))))
      all_goals try (first | rfl | trivial | (simp; done) | (simp; omega) | (simp at hb ⊢; omega) | (simp only [decide_eq_true_eq, Bool.and_eq_true, Int.toNat_natCast] at *; omega))
      all_goals
        refine ⟨8 - (6 + 1), [.cells 26 [.u64 av, .u64 am], .cells 26 [.u64 bv, .u64 bm], .cells 26 [.u64 (BitVec.ofInt 64 0), .u64 (BitVec.ofInt 64 0)], .own 4 1 2 (gOf eB [(T.cs true ⟨av, am⟩ ⟨bv, bm⟩ j).1, (T.cs true ⟨av, am⟩ ⟨bv, bm⟩ j).2]), .own 4 1 2 (gOf eB [(T.rnds true ⟨av, am⟩ ⟨bv, bm⟩ j (T.cs true ⟨av, am⟩ ⟨bv, bm⟩ j).1 (T.cs true ⟨av, am⟩ ⟨bv, bm⟩ j).2 ⟨T.mk (T.sx true ⟨av, am⟩ ⟨bv, bm⟩) j, T.mk (T.sy true ⟨av, am⟩ ⟨bv, bm⟩) j, false, false⟩ (6 + 1)).c0, (T.rnds true ⟨av, am⟩ ⟨bv, bm⟩ j (T.cs true ⟨av, am⟩ ⟨bv, bm⟩ j).1 (T.cs true ⟨av, am⟩ ⟨bv, bm⟩ j).2 ⟨T.mk (T.sx true ⟨av, am⟩ ⟨bv, bm⟩) j, T.mk (T.sy true ⟨av, am⟩ ⟨bv, bm⟩) j, false, false⟩ (6 + 1)).c1])], [0, 1, 2, 3, 4], by omega, rfl, (mle_cons ble_refl (mle_cons ble_refl (mle_cons ble_refl (mle_cons ble_refl (mle_cons (ble_own rfl fun i hi => ?_) mle_nil))))), rfl, rfl, 6 + 1, by omega, rfl, trivial, ?_, rfl⟩
        · rw [show (T.rnds true ⟨av, am⟩ ⟨bv, bm⟩ j (T.cs true ⟨av, am⟩ ⟨bv, bm⟩ j).1 (T.cs true ⟨av, am⟩ ⟨bv, bm⟩ j).2 ⟨T.mk (T.sx true ⟨av, am⟩ ⟨bv, bm⟩) j, T.mk (T.sy true ⟨av, am⟩ ⟨bv, bm⟩) j, false, false⟩ (6 + 1)) = T.rnd true ⟨av, am⟩ ⟨bv, bm⟩ j (T.cs true ⟨av, am⟩ ⟨bv, bm⟩ j).1 (T.cs true ⟨av, am⟩ ⟨bv, bm⟩ j).2 (T.rnds true ⟨av, am⟩ ⟨bv, bm⟩ j (T.cs true ⟨av, am⟩ ⟨bv, bm⟩ j).1 (T.cs true ⟨av, am⟩ ⟨bv, bm⟩ j).2 ⟨T.mk (T.sx true ⟨av, am⟩ ⟨bv, bm⟩) j, T.mk (T.sy true ⟨av, am⟩ ⟨bv, bm⟩) j, false, false⟩ 6) 6 from rfl]
          first
            | (rw [T.rnd_skip0 (by assumption)]; done)
            | (rw [T.rnd_skip1 (by assumption) (by assumption)]; done)
            | (rw [T.rnd_skip2 (by assumption) (by assumption) (by assumption)]; done)
            | (rw [T.rnd_go (by assumption) (by assumption) (by assumption)]; exact gB [_, _] 1 true (by simp) i hi)
            | (rw [T.rnd_go (by assumption) (by assumption) (by assumption)]; exact gB [_, _] 0 true (by simp) i hi)
        · rw [show (T.rnds true ⟨av, am⟩ ⟨bv, bm⟩ j (T.cs true ⟨av, am⟩ ⟨bv, bm⟩ j).1 (T.cs true ⟨av, am⟩ ⟨bv, bm⟩ j).2 ⟨T.mk (T.sx true ⟨av, am⟩ ⟨bv, bm⟩) j, T.mk (T.sy true ⟨av, am⟩ ⟨bv, bm⟩) j, false, false⟩ (6 + 1)) = T.rnd true ⟨av, am⟩ ⟨bv, bm⟩ j (T.cs true ⟨av, am⟩ ⟨bv, bm⟩ j).1 (T.cs true ⟨av, am⟩ ⟨bv, bm⟩ j).2 (T.rnds true ⟨av, am⟩ ⟨bv, bm⟩ j (T.cs true ⟨av, am⟩ ⟨bv, bm⟩ j).1 (T.cs true ⟨av, am⟩ ⟨bv, bm⟩ j).2 ⟨T.mk (T.sx true ⟨av, am⟩ ⟨bv, bm⟩) j, T.mk (T.sy true ⟨av, am⟩ ⟨bv, bm⟩) j, false, false⟩ 6) 6 from rfl]
          first
            | (rw [T.rnd_skip0 (by assumption)]; rfl)
            | (rw [T.rnd_skip1 (by assumption) (by assumption)]; rfl)
            | (rw [T.rnd_skip2 (by assumption) (by assumption) (by assumption)]; rfl)
            | (rw [T.rnd_go (by assumption) (by assumption) (by assumption), ← one_is hlt]; rfl)
    · (conv => whnf)
      (repeat' (first | (refine step_t (by first | rfl | assumption) ?_; (conv => whnf)) | (refine step_f (by first | rfl | assumption) ?_; (conv => whnf)) | (refine step_nt (by assumption) ?_; (conv => whnf)) | (refine step_nf (by assumption) ?_; (conv => whnf)) | (refine step_n (fun hb => ?_) (fun hb => ?_) <;> (first | contradiction | (conv => whnf))) | (refine And.intro (fun hb => ?_) (fun hb => ?_) <;> (first | contradiction | (conv => whnf))) | (refine And.intro ?_ ?_; rotate_left 1; (conv => whnf))))
      all_goals try (first | rfl | trivial | (simp; done) | (simp; omega) | (simp at hb ⊢; omega) | (simp only [decide_eq_true_eq, Bool.and_eq_true, Int.toNat_natCast] at *; omega))
      all_goals
        refine ⟨8 - (7 + 1), [.cells 26 [.u64 av, .u64 am], .cells 26 [.u64 bv, .u64 bm], .cells 26 [.u64 (BitVec.ofInt 64 0), .u64 (BitVec.ofInt 64 0)], .own 4 1 2 (gOf eB [(T.cs true ⟨av, am⟩ ⟨bv, bm⟩ j).1, (T.cs true ⟨av, am⟩ ⟨bv, bm⟩ j).2]), .own 4 1 2 (gOf eB [(T.rnds true ⟨av, am⟩ ⟨bv, bm⟩ j (T.cs true ⟨av, am⟩ ⟨bv, bm⟩ j).1 (T.cs true ⟨av, am⟩ ⟨bv, bm⟩ j).2 ⟨T.mk (T.sx true ⟨av, am⟩ ⟨bv, bm⟩) j, T.mk (T.sy true ⟨av, am⟩ ⟨bv, bm⟩) j, false, false⟩ (7 + 1)).c0, (T.rnds true ⟨av, am⟩ ⟨bv, bm⟩ j (T.cs true ⟨av, am⟩ ⟨bv, bm⟩ j).1 (T.cs true ⟨av, am⟩ ⟨bv, bm⟩ j).2 ⟨T.mk (T.sx true ⟨av, am⟩ ⟨bv, bm⟩) j, T.mk (T.sy true ⟨av, am⟩ ⟨bv, bm⟩) j, false, false⟩ (7 + 1)).c1])], [0, 1, 2, 3, 4], by omega, rfl, (mle_cons ble_refl (mle_cons ble_refl (mle_cons ble_refl (mle_cons ble_refl (mle_cons (ble_own rfl fun i hi => ?_) mle_nil))))), rfl, rfl, 7 + 1, by omega, rfl, trivial, ?_, rfl⟩
        · rw [show (T.rnds true ⟨av, am⟩ ⟨bv, bm⟩ j (T.cs true ⟨av, am⟩ ⟨bv, bm⟩ j).1 (T.cs true ⟨av, am⟩ ⟨bv, bm⟩ j).2 ⟨T.mk (T.sx true ⟨av, am⟩ ⟨bv, bm⟩) j, T.mk (T.sy true ⟨av, am⟩ ⟨bv, bm⟩) j, false, false⟩ (7 + 1)) = T.rnd true ⟨av, am⟩ ⟨bv, bm⟩ j (T.cs true ⟨av, am⟩ ⟨bv, bm⟩ j).1 (T.cs true ⟨av, am⟩ ⟨bv, bm⟩ j).2 (T.rnds true ⟨av, am⟩ ⟨bv, bm⟩ j (T.cs true ⟨av, am⟩ ⟨bv, bm⟩ j).1 (T.cs true ⟨av, am⟩ ⟨bv, bm⟩ j).2 ⟨T.mk (T.sx true ⟨av, am⟩ ⟨bv, bm⟩) j, T.mk (T.sy true ⟨av, am⟩ ⟨bv, bm⟩) j, false, false⟩ 7) 7 from rfl]
          first
            | (rw [T.rnd_skip0 (by assumption)]; done)
            | (rw [T.rnd_skip1 (by assumption) (by assumption)]; done)
            | (rw [T.rnd_skip2 (by assumption) (by assumption) (by assumption)]; done)
            | (rw [T.rnd_go (by assumption) (by assumption) (by assumption)]; exact gB [_, _] 1 true (by simp) i hi)
            | (rw [T.rnd_go (by assumption) (by assumption) (by assumption)]; exact gB [_, _] 0 true (by simp) i hi)
        · rw [show (T.rnds true ⟨av, am⟩ ⟨bv, bm⟩ j (T.cs true ⟨av, am⟩ ⟨bv, bm⟩ j).1 (T.cs true ⟨av, am⟩ ⟨bv, bm⟩ j).2 ⟨T.mk (T.sx true ⟨av, am⟩ ⟨bv, bm⟩) j, T.mk (T.sy true ⟨av, am⟩ ⟨bv, bm⟩) j, false, false⟩ (7 + 1)) = T.rnd true ⟨av, am⟩ ⟨bv, bm⟩ j (T.cs true ⟨av, am⟩ ⟨bv, bm⟩ j).1 (T.cs true ⟨av, am⟩ ⟨bv, bm⟩ j).2 (T.rnds true ⟨av, am⟩ ⟨bv, bm⟩ j (T.cs true ⟨av, am⟩ ⟨bv, bm⟩ j).1 (T.cs true ⟨av, am⟩ ⟨bv, bm⟩ j).2 ⟨T.mk (T.sx true ⟨av, am⟩ ⟨bv, bm⟩) j, T.mk (T.sy true ⟨av, am⟩ ⟨bv, bm⟩) j, false, false⟩ 7) 7 from rfl]
          first
            | (rw [T.rnd_skip0 (by assumption)]; rfl)
            | (rw [T.rnd_skip1 (by assumption) (by assumption)]; rfl)
            | (rw [T.rnd_skip2 (by assumption) (by assumption) (by assumption)]; rfl)
            | (rw [T.rnd_go (by assumption) (by assumption) (by assumption), ← one_is hlt]; rfl)
    · (conv => whnf)
      (repeat' (first | (refine step_t (by first | rfl | assumption) ?_; (conv => whnf)) | (refine step_f (by first | rfl | assumption) ?_; (conv => whnf)) | (refine step_nt (by assumption) ?_; (conv => whnf)) | (refine step_nf (by assumption) ?_; (conv => whnf)) | (refine step_n (fun hb => ?_) (fun hb => ?_) <;> (first | contradiction | (conv => whnf))) | (refine And.intro (fun hb => ?_) (fun hb => ?_) <;> (first | contradiction | (conv => whnf))) | (refine And.intro ?_ ?_; rotate_left 1; (conv => whnf))))
      all_goals try (first | rfl | trivial | (simp; done) | (simp; omega) | (simp at hb ⊢; omega) | (simp only [decide_eq_true_eq, Bool.and_eq_true, Int.toNat_natCast] at *; omega))
      all_goals
        refine ⟨64 - (j + 1), [.cells 26 [.u64 av, .u64 am], .cells 26 [.u64 bv, .u64 bm], .cells 26 [.u64 (BitVec.ofInt 64 0), .u64 (BitVec.ofInt 64 0)], .own 4 1 2 (gOf eB [(T.cs true ⟨av, am⟩ ⟨bv, bm⟩ (j + 1)).1, (T.cs true ⟨av, am⟩ ⟨bv, bm⟩ (j + 1)).2])], [0, 1, 2, 4], by omega, rfl, (mle_cons ble_refl (mle_cons ble_refl (mle_cons ble_refl (mle_cons (ble_own rfl fun i hi => ?_) mle_nil)))), rfl, rfl, j + 1, by omega, rfl, trivial, ?_, rfl⟩
        · rw [T.rnds_sums]
        · simp only [T.rnds_sums]; rw [← wrap_succ (j := j) (by omega)]; rfl
  all_goals
    have hj2 : j = 64 := by simp at hb; omega
    subst hj2
    rw [T.of_sums true ha hb0]; try rfl
end Go.Proofs.YtaickooakoikaaaDoor
