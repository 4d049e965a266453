import Derived.Test.YtkfbjnikkmoanaaGreatDoorPXB
import Derived.Test.YtkfbjnikkmoanaaGreatDoorXW
import Derived.Test.YtkfbjnikkmoanaaGreatDoorXA
import Derived.Test.YtkfbjnikkmoanaaGreatDoorPXA
import Derived.Test.YtkfbjnikkmoanaaGreatDoorTXB
namespace Go.Proofs.YtkfbjnikkmoanaaGreatDoor
open Go.RowKit Go.Sx
set_option linter.unusedSimpArgs false
set_option linter.unusedVariables false
set_option linter.unnecessarySimpa false
set_option maxRecDepth 100000
set_option maxHeartbeats 4000000
theorem rtog_run (av am alo ahi : BitVec 64) (asl ash : Int) (hi : R.inS ⟨alo, ahi, asl, ash⟩ = true) : run Tryz.prog ⟨[(141, k_rRight), (142, k_srRight), (143, k_rMeet), (144, k_rRange)], eqs, [], [], []⟩ 10000 [(8, 11, [0, 0, 2, 0, 8, 30, 63, 127, 255, 255, 0, 1535, 4095])] 0 (bodyOf Tryz.f113) (initF Tryz.f113 [.agg [.u64 av, .u64 am], .agg [.u64 alo, .u64 ahi, .int .i64 asl, .int .i64 ash]]) [] (retK Tryz.prog Tryz.f113 fun x _ => eqv x (.tup [scv (C.of ⟨av, am⟩ ⟨alo, ahi, asl, ash⟩).1, .bool (C.of ⟨av, am⟩ ⟨alo, ahi, asl, ash⟩).2])) := by
  (conv => whnf)
  (repeat' (first | (refine And.intro (fun hb => ?_) (fun hb => ?_) <;> (first | contradiction | (conv => whnf))) | (refine And.intro (a := (_ : Bool) = true) ?_ ?_; rotate_left 1; (conv => whnf))))
  all_goals try (rw [C.of_no1 (C.nt (by assumption))]; exact eqv_ff ⟨⟨_, _⟩, ⟨_, _, _, _⟩⟩)
  all_goals try (rw [C.of_no2 (C.nt (by assumption))]; exact eqv_ff ⟨⟨_, _⟩, ⟨_, _, _, _⟩⟩)
  have h1 : T.right ⟨av, am⟩ = true := C.nf (by assumption)
  have h2 : S.good ⟨alo, ahi, asl, ash⟩ = true := C.nf (by assumption)
  have g0 : C.Good ⟨⟨av, am⟩, ⟨alo, ahi, asl, ash⟩⟩ := ⟨h1, (S.good_iff.1 h2).1, (S.good_iff.1 h2).2, hi⟩
  refine .inr ⟨[], [2, 3, 4], fun k vals M => ∃ x : Sc, C.Good x ∧ C.tog x = C.tog ⟨⟨av, am⟩, ⟨alo, ahi, asl, ash⟩⟩ ∧ k = C.mu x ∧ vals = [.ptr 0 0, .ptr 1 0, .ptr 2 0] ∧ M = [.cells 25 [.u64 x.t.v, .u64 x.t.m], .cells 27 [.u64 x.s.lo, .u64 x.s.hi, .int .i64 x.s.sl, .int .i64 x.s.sh], .cells 29 [.u64 (BitVec.ofInt 64 0), .u64 (BitVec.ofInt 64 0), .u64 (BitVec.ofInt 64 0), .u64 (BitVec.ofInt 64 0), .int .i64 0, .int .i64 0]], ?_⟩
  conv => whnf
  refine And.intro ⟨C.mu ⟨⟨av, am⟩, ⟨alo, ahi, asl, ash⟩⟩, _, (mle_cons ble_refl (mle_cons ble_refl (mle_cons ble_refl mle_nil))), rfl, rfl, ⟨⟨av, am⟩, ⟨alo, ahi, asl, ash⟩⟩, g0, rfl, rfl, rfl, rfl⟩ ?_
  rintro k vals M1 ⟨x, gx, ht, rfl, rfl, rfl⟩
  (conv => whnf)
  (repeat' (first | (refine And.intro (fun hb => ?_) (fun hb => ?_) <;> (first | contradiction | (conv => whnf))) | (refine And.intro (a := (_ : Bool) = true) ?_ ?_; rotate_left 1; (conv => whnf))))
  all_goals try (first | rfl | trivial | (simp; done) | (simp; omega) | (simp at hb ⊢; omega) | (simp only [decide_eq_true_eq, Bool.and_eq_true, Int.toNat_natCast] at *; omega))
  all_goals first
    | (have k1 : C.ok1 x = false := C.bn (by assumption)
       rw [C.of_none h1 h2 (ht.symm.trans (C.tog_none gx (C.st1 k1)))]; exact eqv_ff ⟨⟨_, _⟩, ⟨_, _, _, _⟩⟩)
    | (have k1 : C.ok1 x = true := C.bl (by assumption)
       have k2 : C.ok2 (C.r1 x) = false := C.nt (by assumption)
       rw [C.of_none h1 h2 (ht.symm.trans (C.tog_none gx (C.st2 k1 k2)))]; exact eqv_ff ⟨⟨_, _⟩, ⟨_, _, _, _⟩⟩)
    | (have k1 : C.ok1 x = true := C.bl (by assumption)
       have k2 : C.ok2 (C.r1 x) = true := C.nf (by assumption)
       have kt : C.top (C.r2 (C.r1 x)) = true := by assumption
       have k3 : C.ok3 (C.r2 (C.r1 x)) = false := by (unfold C.ok3; rw [C.r3_t kt]; exact C.inn (by assumption))
       rw [C.of_none h1 h2 (ht.symm.trans (C.tog_none gx (C.st3 k1 k2 k3)))]; exact eqv_ff ⟨⟨_, _⟩, ⟨_, _, _, _⟩⟩)
    | (have k1 : C.ok1 x = true := C.bl (by assumption)
       have k2 : C.ok2 (C.r1 x) = true := C.nf (by assumption)
       have kt : C.top (C.r2 (C.r1 x)) = true := by assumption
       have k3 : C.ok3 (C.r2 (C.r1 x)) = true := by (unfold C.ok3; rw [C.r3_t kt]; exact C.il (by assumption))
       have ks : C.sgn (C.r3 (C.r2 (C.r1 x))) = true := by (rw [C.r3_t kt]; assumption)
       have ey := (show C.r4 (C.r3 (C.r2 (C.r1 x))) = _ from by rw [C.r4_t ks, C.r3_t kt])
       have k4 : C.ok4 (C.r3 (C.r2 (C.r1 x))) = false := by (unfold C.ok4; rw [ey]; exact C.bn (by assumption))
       rw [C.of_none h1 h2 (ht.symm.trans (C.tog_none gx (C.st4 k1 k2 k3 k4)))]; exact eqv_ff ⟨⟨_, _⟩, ⟨_, _, _, _⟩⟩)
    | (have k1 : C.ok1 x = true := C.bl (by assumption)
       have k2 : C.ok2 (C.r1 x) = true := C.nf (by assumption)
       have kt : C.top (C.r2 (C.r1 x)) = true := by assumption
       have k3 : C.ok3 (C.r2 (C.r1 x)) = true := by (unfold C.ok3; rw [C.r3_t kt]; exact C.il (by assumption))
       have ks : C.sgn (C.r3 (C.r2 (C.r1 x))) = true := by (rw [C.r3_t kt]; assumption)
       have ey := (show C.r4 (C.r3 (C.r2 (C.r1 x))) = _ from by rw [C.r4_t ks, C.r3_t kt])
       have k4 : C.ok4 (C.r3 (C.r2 (C.r1 x))) = true := by (unfold C.ok4; rw [ey]; exact C.bl (by assumption))
       have e : C.eqc (C.r4 (C.r3 (C.r2 (C.r1 x)))) x = true := by (rw [ey]; assumption)
       rw [C.of_some h1 h2 (ht.symm.trans (C.tog_eqc gx (C.st5 k1 k2 k3 k4) e)), ey]; exact eqv_tt ⟨⟨_, _⟩, ⟨_, _, _, _⟩⟩)
    | (have k1 : C.ok1 x = true := C.bl (by assumption)
       have k2 : C.ok2 (C.r1 x) = true := C.nf (by assumption)
       have kt : C.top (C.r2 (C.r1 x)) = true := by assumption
       have k3 : C.ok3 (C.r2 (C.r1 x)) = true := by (unfold C.ok3; rw [C.r3_t kt]; exact C.il (by assumption))
       have ks : C.sgn (C.r3 (C.r2 (C.r1 x))) = true := by (rw [C.r3_t kt]; assumption)
       have ey := (show C.r4 (C.r3 (C.r2 (C.r1 x))) = _ from by rw [C.r4_t ks, C.r3_t kt])
       have k4 : C.ok4 (C.r3 (C.r2 (C.r1 x))) = true := by (unfold C.ok4; rw [ey]; exact C.bl (by assumption))
       have e : C.eqc (C.r4 (C.r3 (C.r2 (C.r1 x)))) x = false := by (rw [ey]; assumption)
       obtain ⟨n1, n2, n3⟩ := C.tog_next gx (C.st5 k1 k2 k3 k4) e
       refine ⟨C.mu (C.r4 (C.r3 (C.r2 (C.r1 x)))), [.cells 25 [.u64 (C.r4 (C.r3 (C.r2 (C.r1 x)))).t.v, .u64 (C.r4 (C.r3 (C.r2 (C.r1 x)))).t.m], .cells 27 [.u64 (C.r4 (C.r3 (C.r2 (C.r1 x)))).s.lo, .u64 (C.r4 (C.r3 (C.r2 (C.r1 x)))).s.hi, .int .i64 (C.r4 (C.r3 (C.r2 (C.r1 x)))).s.sl, .int .i64 (C.r4 (C.r3 (C.r2 (C.r1 x)))).s.sh], .cells 29 [.u64 (BitVec.ofInt 64 0), .u64 (BitVec.ofInt 64 0), .u64 (BitVec.ofInt 64 0), .u64 (BitVec.ofInt 64 0), .int .i64 0, .int .i64 0]], [0, 1, 2], n2, rfl, (mle_cons (ble_cells (by rw [ey]; rfl)) (mle_cons (ble_cells (by rw [ey]; rfl)) (mle_cons ble_refl mle_nil))), rfl, rfl, C.r4 (C.r3 (C.r2 (C.r1 x))), n3, n1.symm.trans ht, rfl, rfl, rfl⟩)
    | (have k1 : C.ok1 x = true := C.bl (by assumption)
       have k2 : C.ok2 (C.r1 x) = true := C.nf (by assumption)
       have kt : C.top (C.r2 (C.r1 x)) = true := by assumption
       have k3 : C.ok3 (C.r2 (C.r1 x)) = true := by (unfold C.ok3; rw [C.r3_t kt]; exact C.il (by assumption))
       have ks : C.sgn (C.r3 (C.r2 (C.r1 x))) = false := by (rw [C.r3_t kt]; assumption)
       have ey := (show C.r4 (C.r3 (C.r2 (C.r1 x))) = _ from by rw [C.r4_f ks, C.r3_t kt])
       have k4 : C.ok4 (C.r3 (C.r2 (C.r1 x))) = false := by (unfold C.ok4; rw [ey]; exact C.bn (by assumption))
       rw [C.of_none h1 h2 (ht.symm.trans (C.tog_none gx (C.st4 k1 k2 k3 k4)))]; exact eqv_ff ⟨⟨_, _⟩, ⟨_, _, _, _⟩⟩)
    | (have k1 : C.ok1 x = true := C.bl (by assumption)
       have k2 : C.ok2 (C.r1 x) = true := C.nf (by assumption)
       have kt : C.top (C.r2 (C.r1 x)) = true := by assumption
       have k3 : C.ok3 (C.r2 (C.r1 x)) = true := by (unfold C.ok3; rw [C.r3_t kt]; exact C.il (by assumption))
       have ks : C.sgn (C.r3 (C.r2 (C.r1 x))) = false := by (rw [C.r3_t kt]; assumption)
       have ey := (show C.r4 (C.r3 (C.r2 (C.r1 x))) = _ from by rw [C.r4_f ks, C.r3_t kt])
       have k4 : C.ok4 (C.r3 (C.r2 (C.r1 x))) = true := by (unfold C.ok4; rw [ey]; exact C.bl (by assumption))
       have e : C.eqc (C.r4 (C.r3 (C.r2 (C.r1 x)))) x = true := by (rw [ey]; assumption)
       rw [C.of_some h1 h2 (ht.symm.trans (C.tog_eqc gx (C.st5 k1 k2 k3 k4) e)), ey]; exact eqv_tt ⟨⟨_, _⟩, ⟨_, _, _, _⟩⟩)
    | (have k1 : C.ok1 x = true := C.bl (by assumption)
       have k2 : C.ok2 (C.r1 x) = true := C.nf (by assumption)
       have kt : C.top (C.r2 (C.r1 x)) = true := by assumption
       have k3 : C.ok3 (C.r2 (C.r1 x)) = true := by (unfold C.ok3; rw [C.r3_t kt]; exact C.il (by assumption))
       have ks : C.sgn (C.r3 (C.r2 (C.r1 x))) = false := by (rw [C.r3_t kt]; assumption)
       have ey := (show C.r4 (C.r3 (C.r2 (C.r1 x))) = _ from by rw [C.r4_f ks, C.r3_t kt])
       have k4 : C.ok4 (C.r3 (C.r2 (C.r1 x))) = true := by (unfold C.ok4; rw [ey]; exact C.bl (by assumption))
       have e : C.eqc (C.r4 (C.r3 (C.r2 (C.r1 x)))) x = false := by (rw [ey]; assumption)
       obtain ⟨n1, n2, n3⟩ := C.tog_next gx (C.st5 k1 k2 k3 k4) e
       refine ⟨C.mu (C.r4 (C.r3 (C.r2 (C.r1 x)))), [.cells 25 [.u64 (C.r4 (C.r3 (C.r2 (C.r1 x)))).t.v, .u64 (C.r4 (C.r3 (C.r2 (C.r1 x)))).t.m], .cells 27 [.u64 (C.r4 (C.r3 (C.r2 (C.r1 x)))).s.lo, .u64 (C.r4 (C.r3 (C.r2 (C.r1 x)))).s.hi, .int .i64 (C.r4 (C.r3 (C.r2 (C.r1 x)))).s.sl, .int .i64 (C.r4 (C.r3 (C.r2 (C.r1 x)))).s.sh], .cells 29 [.u64 (BitVec.ofInt 64 0), .u64 (BitVec.ofInt 64 0), .u64 (BitVec.ofInt 64 0), .u64 (BitVec.ofInt 64 0), .int .i64 0, .int .i64 0]], [0, 1, 2], n2, rfl, (mle_cons (ble_cells (by rw [ey]; rfl)) (mle_cons (ble_cells (by rw [ey]; rfl)) (mle_cons ble_refl mle_nil))), rfl, rfl, C.r4 (C.r3 (C.r2 (C.r1 x))), n3, n1.symm.trans ht, rfl, rfl, rfl⟩)
    | (have k1 : C.ok1 x = true := C.bl (by assumption)
       have k2 : C.ok2 (C.r1 x) = true := C.nf (by assumption)
       have kt : C.top (C.r2 (C.r1 x)) = false := by assumption
       have k3 : C.ok3 (C.r2 (C.r1 x)) = false := by (unfold C.ok3; rw [C.r3_f kt]; exact C.inn (by assumption))
       rw [C.of_none h1 h2 (ht.symm.trans (C.tog_none gx (C.st3 k1 k2 k3)))]; exact eqv_ff ⟨⟨_, _⟩, ⟨_, _, _, _⟩⟩)
    | (have k1 : C.ok1 x = true := C.bl (by assumption)
       have k2 : C.ok2 (C.r1 x) = true := C.nf (by assumption)
       have kt : C.top (C.r2 (C.r1 x)) = false := by assumption
       have k3 : C.ok3 (C.r2 (C.r1 x)) = true := by (unfold C.ok3; rw [C.r3_f kt]; exact C.il (by assumption))
       have ks : C.sgn (C.r3 (C.r2 (C.r1 x))) = true := by (rw [C.r3_f kt]; assumption)
       have ey := (show C.r4 (C.r3 (C.r2 (C.r1 x))) = _ from by rw [C.r4_t ks, C.r3_f kt])
       have k4 : C.ok4 (C.r3 (C.r2 (C.r1 x))) = false := by (unfold C.ok4; rw [ey]; exact C.bn (by assumption))
       rw [C.of_none h1 h2 (ht.symm.trans (C.tog_none gx (C.st4 k1 k2 k3 k4)))]; exact eqv_ff ⟨⟨_, _⟩, ⟨_, _, _, _⟩⟩)
    | (have k1 : C.ok1 x = true := C.bl (by assumption)
       have k2 : C.ok2 (C.r1 x) = true := C.nf (by assumption)
       have kt : C.top (C.r2 (C.r1 x)) = false := by assumption
       have k3 : C.ok3 (C.r2 (C.r1 x)) = true := by (unfold C.ok3; rw [C.r3_f kt]; exact C.il (by assumption))
       have ks : C.sgn (C.r3 (C.r2 (C.r1 x))) = true := by (rw [C.r3_f kt]; assumption)
       have ey := (show C.r4 (C.r3 (C.r2 (C.r1 x))) = _ from by rw [C.r4_t ks, C.r3_f kt])
       have k4 : C.ok4 (C.r3 (C.r2 (C.r1 x))) = true := by (unfold C.ok4; rw [ey]; exact C.bl (by assumption))
       have e : C.eqc (C.r4 (C.r3 (C.r2 (C.r1 x)))) x = true := by (rw [ey]; assumption)
       rw [C.of_some h1 h2 (ht.symm.trans (C.tog_eqc gx (C.st5 k1 k2 k3 k4) e)), ey]; exact eqv_tt ⟨⟨_, _⟩, ⟨_, _, _, _⟩⟩)
    | (have k1 : C.ok1 x = true := C.bl (by assumption)
       have k2 : C.ok2 (C.r1 x) = true := C.nf (by assumption)
       have kt : C.top (C.r2 (C.r1 x)) = false := by assumption
       have k3 : C.ok3 (C.r2 (C.r1 x)) = true := by (unfold C.ok3; rw [C.r3_f kt]; exact C.il (by assumption))
       have ks : C.sgn (C.r3 (C.r2 (C.r1 x))) = true := by (rw [C.r3_f kt]; assumption)
       have ey := (show C.r4 (C.r3 (C.r2 (C.r1 x))) = _ from by rw [C.r4_t ks, C.r3_f kt])
       have k4 : C.ok4 (C.r3 (C.r2 (C.r1 x))) = true := by (unfold C.ok4; rw [ey]; exact C.bl (by assumption))
       have e : C.eqc (C.r4 (C.r3 (C.r2 (C.r1 x)))) x = false := by (rw [ey]; assumption)
       obtain ⟨n1, n2, n3⟩ := C.tog_next gx (C.st5 k1 k2 k3 k4) e
       refine ⟨C.mu (C.r4 (C.r3 (C.r2 (C.r1 x)))), [.cells 25 [.u64 (C.r4 (C.r3 (C.r2 (C.r1 x)))).t.v, .u64 (C.r4 (C.r3 (C.r2 (C.r1 x)))).t.m], .cells 27 [.u64 (C.r4 (C.r3 (C.r2 (C.r1 x)))).s.lo, .u64 (C.r4 (C.r3 (C.r2 (C.r1 x)))).s.hi, .int .i64 (C.r4 (C.r3 (C.r2 (C.r1 x)))).s.sl, .int .i64 (C.r4 (C.r3 (C.r2 (C.r1 x)))).s.sh], .cells 29 [.u64 (BitVec.ofInt 64 0), .u64 (BitVec.ofInt 64 0), .u64 (BitVec.ofInt 64 0), .u64 (BitVec.ofInt 64 0), .int .i64 0, .int .i64 0]], [0, 1, 2], n2, rfl, (mle_cons (ble_cells (by rw [ey]; rfl)) (mle_cons (ble_cells (by rw [ey]; rfl)) (mle_cons ble_refl mle_nil))), rfl, rfl, C.r4 (C.r3 (C.r2 (C.r1 x))), n3, n1.symm.trans ht, rfl, rfl, rfl⟩)
    | (have k1 : C.ok1 x = true := C.bl (by assumption)
       have k2 : C.ok2 (C.r1 x) = true := C.nf (by assumption)
       have kt : C.top (C.r2 (C.r1 x)) = false := by assumption
       have k3 : C.ok3 (C.r2 (C.r1 x)) = true := by (unfold C.ok3; rw [C.r3_f kt]; exact C.il (by assumption))
       have ks : C.sgn (C.r3 (C.r2 (C.r1 x))) = false := by (rw [C.r3_f kt]; assumption)
       have ey := (show C.r4 (C.r3 (C.r2 (C.r1 x))) = _ from by rw [C.r4_f ks, C.r3_f kt])
       have k4 : C.ok4 (C.r3 (C.r2 (C.r1 x))) = false := by (unfold C.ok4; rw [ey]; exact C.bn (by assumption))
       rw [C.of_none h1 h2 (ht.symm.trans (C.tog_none gx (C.st4 k1 k2 k3 k4)))]; exact eqv_ff ⟨⟨_, _⟩, ⟨_, _, _, _⟩⟩)
    | (have k1 : C.ok1 x = true := C.bl (by assumption)
       have k2 : C.ok2 (C.r1 x) = true := C.nf (by assumption)
       have kt : C.top (C.r2 (C.r1 x)) = false := by assumption
       have k3 : C.ok3 (C.r2 (C.r1 x)) = true := by (unfold C.ok3; rw [C.r3_f kt]; exact C.il (by assumption))
       have ks : C.sgn (C.r3 (C.r2 (C.r1 x))) = false := by (rw [C.r3_f kt]; assumption)
       have ey := (show C.r4 (C.r3 (C.r2 (C.r1 x))) = _ from by rw [C.r4_f ks, C.r3_f kt])
       have k4 : C.ok4 (C.r3 (C.r2 (C.r1 x))) = true := by (unfold C.ok4; rw [ey]; exact C.bl (by assumption))
       have e : C.eqc (C.r4 (C.r3 (C.r2 (C.r1 x)))) x = true := by (rw [ey]; assumption)
       rw [C.of_some h1 h2 (ht.symm.trans (C.tog_eqc gx (C.st5 k1 k2 k3 k4) e)), ey]; exact eqv_tt ⟨⟨_, _⟩, ⟨_, _, _, _⟩⟩)
    | (have k1 : C.ok1 x = true := C.bl (by assumption)
       have k2 : C.ok2 (C.r1 x) = true := C.nf (by assumption)
       have kt : C.top (C.r2 (C.r1 x)) = false := by assumption
       have k3 : C.ok3 (C.r2 (C.r1 x)) = true := by (unfold C.ok3; rw [C.r3_f kt]; exact C.il (by assumption))
       have ks : C.sgn (C.r3 (C.r2 (C.r1 x))) = false := by (rw [C.r3_f kt]; assumption)
       have ey := (show C.r4 (C.r3 (C.r2 (C.r1 x))) = _ from by rw [C.r4_f ks, C.r3_f kt])
       have k4 : C.ok4 (C.r3 (C.r2 (C.r1 x))) = true := by (unfold C.ok4; rw [ey]; exact C.bl (by assumption))
       have e : C.eqc (C.r4 (C.r3 (C.r2 (C.r1 x)))) x = false := by (rw [ey]; assumption)
       obtain ⟨n1, n2, n3⟩ := C.tog_next gx (C.st5 k1 k2 k3 k4) e
       refine ⟨C.mu (C.r4 (C.r3 (C.r2 (C.r1 x)))), [.cells 25 [.u64 (C.r4 (C.r3 (C.r2 (C.r1 x)))).t.v, .u64 (C.r4 (C.r3 (C.r2 (C.r1 x)))).t.m], .cells 27 [.u64 (C.r4 (C.r3 (C.r2 (C.r1 x)))).s.lo, .u64 (C.r4 (C.r3 (C.r2 (C.r1 x)))).s.hi, .int .i64 (C.r4 (C.r3 (C.r2 (C.r1 x)))).s.sl, .int .i64 (C.r4 (C.r3 (C.r2 (C.r1 x)))).s.sh], .cells 29 [.u64 (BitVec.ofInt 64 0), .u64 (BitVec.ofInt 64 0), .u64 (BitVec.ofInt 64 0), .u64 (BitVec.ofInt 64 0), .int .i64 0, .int .i64 0]], [0, 1, 2], n2, rfl, (mle_cons (ble_cells (by rw [ey]; rfl)) (mle_cons (ble_cells (by rw [ey]; rfl)) (mle_cons ble_refl mle_nil))), rfl, rfl, C.r4 (C.r3 (C.r2 (C.r1 x))), n3, n1.symm.trans ht, rfl, rfl, rfl⟩)
def k_rTog : List SV → List Blk → Res := fun args _ => match args with
  | [.agg [.u64 av, .u64 am], .agg [.u64 alo, .u64 ahi, .int .i64 asl, .int .i64 ash]] => .test (R.inS ⟨alo, ahi, asl, ash⟩) (.ok (.tup [scv (C.of ⟨av, am⟩ ⟨alo, ahi, asl, ash⟩).1, .bool (C.of ⟨av, am⟩ ⟨alo, ahi, asl, ash⟩).2]) [])
  | _ => .fail
theorem k_rTog_ok : CtrOk Tryz.prog Gw 113 k_rTog := by
  refine ⟨fun _ _ => by kernel_rfl, fun args M => ?_⟩
  unfold k_rTog
  split
  · rename_i av am alo ahi asl ash
    intro ht
    exact ctr_flat (Γ := ⟨[(141, k_rRight), (142, k_srRight), (143, k_rMeet), (144, k_rRange)], eqs, [], [], []⟩) (sv := .tup [scv (C.of ⟨av, am⟩ ⟨alo, ahi, asl, ash⟩).1, .bool (C.of ⟨av, am⟩ ⟨alo, ahi, asl, ash⟩).2]) st_Gw ⟨(okCons k_rRight_ok (okCons k_srRight_ok (okCons k_rMeet_ok (okCons k_rRange_ok okNil)))), eqs_ok, okNilB, okNilI, okNilP⟩ Tryz.func113 rfl mixed [(8, 11, [0, 0, 2, 0, 8, 30, 63, 127, 255, 255, 0, 1535, 4095])] (by kernel_rfl) 10000 (by rfl) (rtog_run av am alo ahi asl ash ht)
  · trivial
end Go.Proofs.YtkfbjnikkmoanaaGreatDoor
namespace Go.Proofs.YtkfbjnikkmoanaaGreatDoor
open Go.RowKit Go.Sx
set_option linter.unusedSimpArgs false
set_option linter.unusedVariables false
set_option linter.unnecessarySimpa false
set_option maxRecDepth 100000
set_option maxHeartbeats 4000000
def k_qOf : List SV → List Blk → Res := fun args _ => match args with
  | [.agg [.u64 av, .u64 am], .agg [.u64 alo, .u64 ahi, .int .i64 asl, .int .i64 ash]] => .test (R.inS ⟨alo, ahi, asl, ash⟩) (.ok (.tup [scv (C.of ⟨av, am⟩ ⟨alo, ahi, asl, ash⟩).1, .bool (C.of ⟨av, am⟩ ⟨alo, ahi, asl, ash⟩).2]) [])
  | _ => .fail
theorem k_qOf_ok : CtrOk Tryz.prog Gw 158 k_qOf := by
  refine ⟨fun _ _ => by kernel_rfl, fun args M => ?_⟩
  unfold k_qOf
  split
  · rename_i av am alo ahi asl ash
    intro ht
    refine ctr_flat (Γ := ⟨[(113, k_rTog)], eqs, [], [], []⟩) (sv := .tup [scv (C.of ⟨av, am⟩ ⟨alo, ahi, asl, ash⟩).1, .bool (C.of ⟨av, am⟩ ⟨alo, ahi, asl, ash⟩).2]) st_Gw ⟨(okCons k_rTog_ok okNil), eqs_ok, okNilB, okNilI, okNilP⟩ Tryz.func158 rfl mixed [] (by kernel_rfl) 10000 (by rfl) ?_
    (conv => whnf)
    (repeat' (first | (refine And.intro (fun hb => ?_) (fun hb => ?_) <;> (first | contradiction | (conv => whnf))) | (refine And.intro ?_ ?_; rotate_left 1; (conv => whnf))))
    all_goals (first | assumption | first | rfl | trivial | ((try dsimp only at *); (try simp only [Bool.not_eq_true', Bool.not_eq_false', bne, ite_uv] at *); (simp only [eqv, eqv1, eqv2, eqvL1, eqvL2, *, bne, Bool.and_true, Bool.true_and, Bool.and_false, Bool.false_and, Bool.or_true, Bool.true_or, Bool.or_false, Bool.false_or, Bool.not_true, Bool.not_false, if_true, if_false, Bool.false_eq_true, beq_self_eq_true]; done)) | ((try dsimp only at *); (try simp only [Bool.not_eq_true', Bool.not_eq_false', bne] at *); simp only [eqv, eqv1, eqv2, eqvL1, eqvL2, *, bne, Bool.and_true, Bool.true_and, Bool.and_false, Bool.false_and, Bool.or_true, Bool.true_or, Bool.or_false, Bool.false_or, Bool.not_true, Bool.not_false, if_true, if_false, Bool.false_eq_true, beq_self_eq_true]; rfl) | (simp_all [eqv, eqv1, eqv2, eqvL1, eqvL2]; done))
  · trivial
def k_qConst : List SV → List Blk → Res := fun args _ => match args with
  | [.u64 n] => .ok (scv (C.const n)) []
  | _ => .fail
theorem k_qConst_ok : CtrOk Tryz.prog Gw 41 k_qConst := by
  refine ⟨fun _ _ => by kernel_rfl, fun args M => ?_⟩
  unfold k_qConst
  split
  · rename_i n
    refine ctr_flat (Γ := ⟨[(122, k_rConst)], eqs, [], [], []⟩) (sv := scv (C.const n)) st_Gw ⟨(okCons k_rConst_ok okNil), eqs_ok, okNilB, okNilI, okNilP⟩ Tryz.func41 rfl mixed [] (by kernel_rfl) 10000 (by rfl) ?_
    (conv => whnf)
    (repeat' (first | (refine And.intro (fun hb => ?_) (fun hb => ?_) <;> (first | contradiction | (conv => whnf))) | (refine And.intro ?_ ?_; rotate_left 1; (conv => whnf))))
    all_goals (first | rfl | trivial | ((try dsimp only at *); (try simp only [Bool.not_eq_true', Bool.not_eq_false', bne, ite_uv] at *); (simp only [eqv, eqv1, eqv2, eqvL1, eqvL2, *, C.const, bne, Bool.and_true, Bool.true_and, Bool.and_false, Bool.false_and, Bool.or_true, Bool.true_or, Bool.or_false, Bool.false_or, Bool.not_true, Bool.not_false, if_true, if_false, Bool.false_eq_true, beq_self_eq_true]; done)) | ((try dsimp only at *); (try simp only [Bool.not_eq_true', Bool.not_eq_false', bne] at *); simp only [eqv, eqv1, eqv2, eqvL1, eqvL2, *, C.const, bne, Bool.and_true, Bool.true_and, Bool.and_false, Bool.false_and, Bool.or_true, Bool.true_or, Bool.or_false, Bool.false_or, Bool.not_true, Bool.not_false, if_true, if_false, Bool.false_eq_true, beq_self_eq_true]; rfl) | (simp_all [eqv, eqv1, eqv2, eqvL1, eqvL2, C.const]; done))
  · trivial
def k_qUnknown : List SV → List Blk → Res := fun args _ => match args with
  | [] => .ok (scv C.unknown) []
  | _ => .fail
theorem k_qUnknown_ok : CtrOk Tryz.prog Gw 42 k_qUnknown := by
  refine ⟨fun _ _ => by kernel_rfl, fun args M => ?_⟩
  unfold k_qUnknown
  split
  · refine ctr_flat (Γ := ⟨[(118, k_rUnknown)], eqs, [], [], []⟩) (sv := scv C.unknown) st_Gw ⟨(okCons k_rUnknown_ok okNil), eqs_ok, okNilB, okNilI, okNilP⟩ Tryz.func42 rfl mixed [] (by kernel_rfl) 10000 (by rfl) ?_
    (conv => whnf)
    (repeat' (first | (refine And.intro (fun hb => ?_) (fun hb => ?_) <;> (first | contradiction | (conv => whnf))) | (refine And.intro ?_ ?_; rotate_left 1; (conv => whnf))))
    all_goals (first | rfl | trivial | ((try dsimp only at *); (try simp only [Bool.not_eq_true', Bool.not_eq_false', bne, ite_uv] at *); (simp only [eqv, eqv1, eqv2, eqvL1, eqvL2, *, C.unknown, bne, Bool.and_true, Bool.true_and, Bool.and_false, Bool.false_and, Bool.or_true, Bool.true_or, Bool.or_false, Bool.false_or, Bool.not_true, Bool.not_false, if_true, if_false, Bool.false_eq_true, beq_self_eq_true]; done)) | ((try dsimp only at *); (try simp only [Bool.not_eq_true', Bool.not_eq_false', bne] at *); simp only [eqv, eqv1, eqv2, eqvL1, eqvL2, *, C.unknown, bne, Bool.and_true, Bool.true_and, Bool.and_false, Bool.false_and, Bool.or_true, Bool.true_or, Bool.or_false, Bool.false_or, Bool.not_true, Bool.not_false, if_true, if_false, Bool.false_eq_true, beq_self_eq_true]; rfl) | (simp_all [eqv, eqv1, eqv2, eqvL1, eqvL2, C.unknown]; done))
  · trivial
def k_qRight : List SV → List Blk → Res := fun args _ => match args with
  | [.agg [.u64 av, .u64 am, .u64 alo, .u64 ahi, .int .i64 asl, .int .i64 ash]] => .test (R.inS ⟨alo, ahi, asl, ash⟩) (.ok (.bool (C.right (⟨⟨av, am⟩, ⟨alo, ahi, asl, ash⟩⟩ : Sc))) [])
  | _ => .fail
theorem k_qRight_ok : CtrOk Tryz.prog Gw 34 k_qRight := by
  refine ⟨fun _ _ => by kernel_rfl, fun args M => ?_⟩
  unfold k_qRight
  split
  · rename_i av am alo ahi asl ash
    intro ht
    refine ctr_flat (Γ := ⟨[(113, k_rTog)], eqs, [], [], []⟩) (sv := .bool (C.right (⟨⟨av, am⟩, ⟨alo, ahi, asl, ash⟩⟩ : Sc))) st_Gw ⟨(okCons k_rTog_ok okNil), eqs_ok, okNilB, okNilI, okNilP⟩ Tryz.func34 rfl mixed [] (by kernel_rfl) 10000 (by rfl) ?_
    (conv => whnf)
    (repeat' (first | (refine And.intro (fun hb => ?_) (fun hb => ?_) <;> (first | contradiction | (conv => whnf))) | (refine And.intro ?_ ?_; rotate_left 1; (conv => whnf))))
    all_goals (first | assumption | first | rfl | trivial | ((try dsimp only at *); (try simp only [Bool.not_eq_true', Bool.not_eq_false', bne, ite_uv] at *); (simp only [eqv, eqv1, eqv2, eqvL1, eqvL2, *, C.right, C.eqc, bne, Bool.and_true, Bool.true_and, Bool.and_false, Bool.false_and, Bool.or_true, Bool.true_or, Bool.or_false, Bool.false_or, Bool.not_true, Bool.not_false, if_true, if_false, Bool.false_eq_true, beq_self_eq_true]; done)) | ((try dsimp only at *); (try simp only [Bool.not_eq_true', Bool.not_eq_false', bne] at *); simp only [eqv, eqv1, eqv2, eqvL1, eqvL2, *, C.right, C.eqc, bne, Bool.and_true, Bool.true_and, Bool.and_false, Bool.false_and, Bool.or_true, Bool.true_or, Bool.or_false, Bool.false_or, Bool.not_true, Bool.not_false, if_true, if_false, Bool.false_eq_true, beq_self_eq_true]; rfl) | (simp_all [eqv, eqv1, eqv2, eqvL1, eqvL2, C.right, C.eqc]; done))
  · trivial
def k_qOne : List SV → List Blk → Res := fun args _ => match args with
  | [.agg [.u64 av, .u64 am, .u64 alo, .u64 ahi, .int .i64 asl, .int .i64 ash]] => .test (R.inS ⟨alo, ahi, asl, ash⟩) (.ok (.tup [.u64 (C.one (⟨⟨av, am⟩, ⟨alo, ahi, asl, ash⟩⟩ : Sc)).1, .bool (C.one (⟨⟨av, am⟩, ⟨alo, ahi, asl, ash⟩⟩ : Sc)).2]) [])
  | _ => .fail
theorem k_qOne_ok : CtrOk Tryz.prog Gw 40 k_qOne := by
  refine ⟨fun _ _ => by kernel_rfl, fun args M => ?_⟩
  unfold k_qOne
  split
  · rename_i av am alo ahi asl ash
    intro ht
    refine ctr_flat (Γ := ⟨[(34, k_qRight)], eqs, [], [], []⟩) (sv := .tup [.u64 (C.one (⟨⟨av, am⟩, ⟨alo, ahi, asl, ash⟩⟩ : Sc)).1, .bool (C.one (⟨⟨av, am⟩, ⟨alo, ahi, asl, ash⟩⟩ : Sc)).2]) st_Gw ⟨(okCons k_qRight_ok okNil), eqs_ok, okNilB, okNilI, okNilP⟩ Tryz.func40 rfl mixed [] (by kernel_rfl) 10000 (by rfl) ?_
    (conv => whnf)
    (repeat' (first | (refine And.intro (fun hb => ?_) (fun hb => ?_) <;> (first | contradiction | (conv => whnf))) | (refine And.intro ?_ ?_; rotate_left 1; (conv => whnf))))
    all_goals (first | assumption | first | rfl | trivial | ((try dsimp only at *); (try simp only [Bool.not_eq_true', Bool.not_eq_false', bne, ite_uv] at *); (simp only [eqv, eqv1, eqv2, eqvL1, eqvL2, *, C.one, bne, Bool.and_true, Bool.true_and, Bool.and_false, Bool.false_and, Bool.or_true, Bool.true_or, Bool.or_false, Bool.false_or, Bool.not_true, Bool.not_false, if_true, if_false, Bool.false_eq_true, beq_self_eq_true]; done)) | ((try dsimp only at *); (try simp only [Bool.not_eq_true', Bool.not_eq_false', bne] at *); simp only [eqv, eqv1, eqv2, eqvL1, eqvL2, *, C.one, bne, Bool.and_true, Bool.true_and, Bool.and_false, Bool.false_and, Bool.or_true, Bool.true_or, Bool.or_false, Bool.false_or, Bool.not_true, Bool.not_false, if_true, if_false, Bool.false_eq_true, beq_self_eq_true]; rfl) | (simp_all [eqv, eqv1, eqv2, eqvL1, eqvL2, C.one]; done))
  · trivial
namespace C
theorem rtop_eq {n : Int} (h : n = 1 ∨ n = 2 ∨ n = 4 ∨ n = 8) (h8 : (n == 8) = false) : BitVec.ofInt 64 1 <<< (BitVec.ofInt 64 (IntKind.i64.wrap (8 * n))).toNat = tops n := by
  rcases h with rfl | rfl | rfl | rfl
  · decide
  · decide
  · decide
  · cases h8
theorem cut_hi {x : Sc} {n : Int} {p : BitVec 64} (h : decide (p ≤ x.s.hi) = true) : cut x n p = (of (T.low x.t n).1 ⟨BitVec.ofInt 64 0, p - BitVec.ofInt 64 1, 0, sv (p - BitVec.ofInt 64 1)⟩).1 := by
  unfold cut
  rw [if_neg]
  have h := of_decide_eq_true h
  intro k
  have k := of_decide_eq_true k
  rw [BitVec.le_def] at h; rw [BitVec.lt_def] at k; omega
theorem cut_lo {x : Sc} {n : Int} {p : BitVec 64} (h : decide (p ≤ x.s.hi) = false) : cut x n p = x := by
  unfold cut
  rw [if_pos]
  have h := of_decide_eq_false h
  refine decide_eq_true ?_
  rw [BitVec.le_def] at h; rw [BitVec.lt_def]; omega
theorem wide_ok {n : Int} (h : n = 1 ∨ n = 2 ∨ n = 4 ∨ n = 8) (h8 : (n == 8) = false) : (wide (tops n)).2 = true := by
  rcases h with rfl | rfl | rfl | rfl
  · kernel_rfl
  · kernel_rfl
  · kernel_rfl
  · cases h8
theorem pair_eta (p : Sc × Bool) : p = (p.1, p.2) := rfl
end C
def k_qLow : List SV → List Blk → Res := fun args _ => match args with
  | [.agg [.u64 av, .u64 am, .u64 alo, .u64 ahi, .int .i64 asl, .int .i64 ash], .int .i64 n, .bool sg] => .test (R.inS ⟨alo, ahi, asl, ash⟩) (.ok (.tup [scv (C.low (⟨⟨av, am⟩, ⟨alo, ahi, asl, ash⟩⟩ : Sc) n sg).1, .bool (C.low (⟨⟨av, am⟩, ⟨alo, ahi, asl, ash⟩⟩ : Sc) n sg).2]) [])
  | _ => .fail
theorem k_qLow_ok : CtrOk Tryz.prog Gw 43 k_qLow := by
  refine ⟨fun _ _ => by kernel_rfl, fun args M => ?_⟩
  unfold k_qLow
  split
  · rename_i av am alo ahi asl ash n sg
    intro ht
    refine ctr_flat (Γ := ⟨[(124, k_xExt), (34, k_qRight), (123, k_rLow), (113, k_rTog), (40, k_qOne), (41, k_qConst), (118, k_rUnknown)], eqs, [], [], []⟩) (sv := .tup [scv (C.low (⟨⟨av, am⟩, ⟨alo, ahi, asl, ash⟩⟩ : Sc) n sg).1, .bool (C.low (⟨⟨av, am⟩, ⟨alo, ahi, asl, ash⟩⟩ : Sc) n sg).2]) st_Gw ⟨(okCons k_xExt_ok (okCons k_qRight_ok (okCons k_rLow_ok (okCons k_rTog_ok (okCons k_qOne_ok (okCons k_qConst_ok (okCons k_rUnknown_ok okNil))))))), eqs_ok, okNilB, okNilI, okNilP⟩ Tryz.func43 rfl mixed [] (by kernel_rfl) 10000 (by rfl) ?_
    (conv => whnf)
    (repeat' (first | (refine step_t (by first | rfl | assumption) ?_; (conv => whnf)) | (refine step_f (by first | rfl | assumption) ?_; (conv => whnf)) | (refine step_nt (by assumption) ?_; (conv => whnf)) | (refine step_nf (by assumption) ?_; (conv => whnf)) | (refine step_n (fun hb => ?_) (fun hb => ?_) <;> (first | contradiction | (conv => whnf))) | (refine And.intro (fun hb => ?_) (fun hb => ?_) <;> (first | contradiction | (conv => whnf))) | (refine And.intro (a := (_ : Bool) = true) ?_ ?_; rotate_left 1; (conv => whnf))))
    all_goals (first | rfl | assumption | exact C.top_in _ _ _ | exact C.of_in (C.top_in _ _ _) | exact C.wraps_in _ _ _ _ | (rw [C.low_no2 (by assumption)]; exact eqv_ff ⟨⟨_, _⟩, ⟨_, _, _, _⟩⟩) | (rw [C.low_no1 (Bool.eq_false_iff.2 fun h => by have h := C.ext_n h; (simp only [bne_iff_ne, bne_eq_false_iff_eq, beq_iff_eq, beq_eq_false_iff_ne, ne_eq] at * <;> omega))]; exact eqv_ff ⟨⟨_, _⟩, ⟨_, _, _, _⟩⟩) | (have hz : n = 1 ∨ n = 2 ∨ n = 4 ∨ n = 8 := (by (simp only [bne_iff_ne, bne_eq_false_iff_eq, beq_iff_eq, beq_eq_false_iff_ne, ne_eq] at * <;> omega)); rw [C.low_8 (C.n_ext hz) (by assumption) (by assumption)]; exact eqv_tt ⟨⟨_, _⟩, ⟨_, _, _, _⟩⟩) | (have hz : n = 1 ∨ n = 2 ∨ n = 4 ∨ n = 8 := (by (simp only [bne_iff_ne, bne_eq_false_iff_eq, beq_iff_eq, beq_eq_false_iff_ne, ne_eq] at * <;> omega)); have h8 : (n == 8) = false := (by assumption); have e := C.rtop_eq hz h8; have ec := C.cut_hi (x := (⟨⟨av, am⟩, ⟨alo, ahi, asl, ash⟩⟩ : Sc)) (n := n) (by assumption); rw [C.low_u (C.n_ext hz) (by assumption) h8 (by assumption), ← e, ec]; first | exact eqv_tt _ | exact eqv_tt ⟨⟨_, _⟩, ⟨_, _, _, _⟩⟩) | (have hz : n = 1 ∨ n = 2 ∨ n = 4 ∨ n = 8 := (by (simp only [bne_iff_ne, bne_eq_false_iff_eq, beq_iff_eq, beq_eq_false_iff_ne, ne_eq] at * <;> omega)); have h8 : (n == 8) = false := (by assumption); have e := C.rtop_eq hz h8; have ec := C.cut_hi (x := (⟨⟨av, am⟩, ⟨alo, ahi, asl, ash⟩⟩ : Sc)) (n := n) (by assumption); rw [C.low_v (C.n_ext hz) (by assumption) h8 (by assumption) (by rw [← e, ec]; assumption), ← e, ec]; first | exact eqv_tt _ | exact eqv_tt ⟨⟨_, _⟩, ⟨_, _, _, _⟩⟩) | (have hz : n = 1 ∨ n = 2 ∨ n = 4 ∨ n = 8 := (by (simp only [bne_iff_ne, bne_eq_false_iff_eq, beq_iff_eq, beq_eq_false_iff_ne, ne_eq] at * <;> omega)); have h8 : (n == 8) = false := (by assumption); have e := C.rtop_eq hz h8; have ec := C.cut_hi (x := (⟨⟨av, am⟩, ⟨alo, ahi, asl, ash⟩⟩ : Sc)) (n := n) (by assumption); rw [C.low_one (C.n_ext hz) (by assumption) h8 (by assumption) (by rw [← e, ec]; assumption) (by rw [← e, ec]; assumption), ← e, ec]; first | exact eqv_tt _ | exact eqv_tt ⟨⟨_, _⟩, ⟨_, _, _, _⟩⟩) | (have hz : n = 1 ∨ n = 2 ∨ n = 4 ∨ n = 8 := (by (simp only [bne_iff_ne, bne_eq_false_iff_eq, beq_iff_eq, beq_eq_false_iff_ne, ne_eq] at * <;> omega)); have h8 : (n == 8) = false := (by assumption); have e := C.rtop_eq hz h8; have ec := C.cut_hi (x := (⟨⟨av, am⟩, ⟨alo, ahi, asl, ash⟩⟩ : Sc)) (n := n) (by assumption); rw [C.low_w (C.n_ext hz) (by assumption) h8 (by assumption) (by rw [← e, ec]; assumption) (by rw [← e, ec]; assumption), C.pair_eta (C.wide (C.tops n)), C.wide_ok hz h8, ← e]; exact eqv_tt _) | (have hz : n = 1 ∨ n = 2 ∨ n = 4 ∨ n = 8 := (by (simp only [bne_iff_ne, bne_eq_false_iff_eq, beq_iff_eq, beq_eq_false_iff_ne, ne_eq] at * <;> omega)); have h8 : (n == 8) = false := (by assumption); have e := C.rtop_eq hz h8; have ec := C.cut_lo (x := (⟨⟨av, am⟩, ⟨alo, ahi, asl, ash⟩⟩ : Sc)) (n := n) (by assumption); rw [C.low_u (C.n_ext hz) (by assumption) h8 (by assumption), ← e, ec]; first | exact eqv_tt _ | exact eqv_tt ⟨⟨_, _⟩, ⟨_, _, _, _⟩⟩) | (have hz : n = 1 ∨ n = 2 ∨ n = 4 ∨ n = 8 := (by (simp only [bne_iff_ne, bne_eq_false_iff_eq, beq_iff_eq, beq_eq_false_iff_ne, ne_eq] at * <;> omega)); have h8 : (n == 8) = false := (by assumption); have e := C.rtop_eq hz h8; have ec := C.cut_lo (x := (⟨⟨av, am⟩, ⟨alo, ahi, asl, ash⟩⟩ : Sc)) (n := n) (by assumption); rw [C.low_v (C.n_ext hz) (by assumption) h8 (by assumption) (by rw [← e, ec]; assumption), ← e, ec]; first | exact eqv_tt _ | exact eqv_tt ⟨⟨_, _⟩, ⟨_, _, _, _⟩⟩) | (have hz : n = 1 ∨ n = 2 ∨ n = 4 ∨ n = 8 := (by (simp only [bne_iff_ne, bne_eq_false_iff_eq, beq_iff_eq, beq_eq_false_iff_ne, ne_eq] at * <;> omega)); have h8 : (n == 8) = false := (by assumption); have e := C.rtop_eq hz h8; have ec := C.cut_lo (x := (⟨⟨av, am⟩, ⟨alo, ahi, asl, ash⟩⟩ : Sc)) (n := n) (by assumption); rw [C.low_one (C.n_ext hz) (by assumption) h8 (by assumption) (by rw [← e, ec]; assumption) (by rw [← e, ec]; assumption), ← e, ec]; first | exact eqv_tt _ | exact eqv_tt ⟨⟨_, _⟩, ⟨_, _, _, _⟩⟩) | (have hz : n = 1 ∨ n = 2 ∨ n = 4 ∨ n = 8 := (by (simp only [bne_iff_ne, bne_eq_false_iff_eq, beq_iff_eq, beq_eq_false_iff_ne, ne_eq] at * <;> omega)); have h8 : (n == 8) = false := (by assumption); have e := C.rtop_eq hz h8; have ec := C.cut_lo (x := (⟨⟨av, am⟩, ⟨alo, ahi, asl, ash⟩⟩ : Sc)) (n := n) (by assumption); rw [C.low_w (C.n_ext hz) (by assumption) h8 (by assumption) (by rw [← e, ec]; assumption) (by rw [← e, ec]; assumption), C.pair_eta (C.wide (C.tops n)), C.wide_ok hz h8, ← e]; exact eqv_tt _) )
  · trivial
end Go.Proofs.YtkfbjnikkmoanaaGreatDoor
