import Derived.Test.YtgfemfgimefmeaaGreatPXA
import Derived.Test.YtgfemfgimefmeaaGreatTXB
namespace Go.Proofs.YtgfemfgimefmeaaGreat
open Go.RowKit Go.Sx
set_option linter.unusedSimpArgs false
set_option linter.unusedVariables false
set_option linter.unnecessarySimpa false
set_option maxRecDepth 100000
set_option maxHeartbeats 4000000
theorem eqv_ff (y : Sc) : eqv (.tup [scv y, .ff]) (.tup [scv y, .bool false]) := ⟨⟨rfl, rfl, rfl, rfl, ⟨rfl, rfl⟩, ⟨rfl, rfl⟩, trivial⟩, rfl, trivial⟩
theorem eqv_tt (y : Sc) : eqv (.tup [scv y, .tt]) (.tup [scv y, .bool true]) := ⟨⟨rfl, rfl, rfl, rfl, ⟨rfl, rfl⟩, ⟨rfl, rfl⟩, trivial⟩, rfl, trivial⟩
theorem C.bt {a b : BitVec 64} (h : (a != b) = false) : (a == b) = true := by revert h; unfold bne; cases (a == b) <;> simp
theorem C.bf {a b : BitVec 64} (h : (a != b) = true) : (a == b) = false := by revert h; unfold bne; cases (a == b) <;> simp
theorem C.ct {a b : Bool} (h : (a != b) = false) : (a == b) = true := by revert h; cases a <;> cases b <;> simp
theorem C.cf {a b : Bool} (h : (a != b) = true) : (a == b) = false := by revert h; cases a <;> cases b <;> simp
theorem rtog_run (av am alo ahi : BitVec 64) (asl ash : Int) (hi : R.inS ⟨alo, ahi, asl, ash⟩ = true) : run Tryz.prog ⟨[(155, k_rRight), (156, k_srRight), (157, k_rMeet), (158, k_rRange)], eqs, [], [], [], mixs, meqs⟩ 10000 [(8, 11, [0, 0, 2, 0, 8, 30, 63, 127, 255, 255, 0, 1535, 4095])] 0 (bodyOf Tryz.f121) (initF Tryz.f121 [.agg [.u64 av, .u64 am], .agg [.u64 alo, .u64 ahi, .int .i64 asl, .int .i64 ash]]) [] (retK Tryz.prog Tryz.f121 fun x _ => eqv x (.tup [scv (C.of ⟨av, am⟩ ⟨alo, ahi, asl, ash⟩).1, .bool (C.of ⟨av, am⟩ ⟨alo, ahi, asl, ash⟩).2])) := by
  (conv => whnf)
  (repeat' (first | (refine And.intro (fun hb => ?_) (fun hb => ?_) <;> (first | contradiction | (conv => whnf))) | (refine And.intro (a := (_ : Bool) = true) ?_ ?_; rotate_left 1; (conv => whnf))))
  all_goals try (rw [C.of_no1 (C.nt (by assumption))]; exact eqv_ff ⟨⟨_, _⟩, ⟨_, _, _, _⟩⟩)
  all_goals try (rw [C.of_no2 (C.nt (by assumption))]; exact eqv_ff ⟨⟨_, _⟩, ⟨_, _, _, _⟩⟩)
  have h1 : T.right ⟨av, am⟩ = true := C.nf (by assumption)
  have h2 : S.good ⟨alo, ahi, asl, ash⟩ = true := C.nf (by assumption)
  have g0 : C.Good ⟨⟨av, am⟩, ⟨alo, ahi, asl, ash⟩⟩ := ⟨h1, (S.good_iff.1 h2).1, (S.good_iff.1 h2).2, hi⟩
  refine .inr ⟨[], [2, 3, 4], fun k vals M => ∃ x : Sc, C.Good x ∧ C.tog x = C.tog ⟨⟨av, am⟩, ⟨alo, ahi, asl, ash⟩⟩ ∧ k = C.mu x ∧ vals = [.ptr 0 0, .ptr 1 0, .ptr 2 0] ∧ M = [.cells 25 [.u64 x.t.v, .u64 x.t.m], .cells 27 [.u64 x.s.lo, .u64 x.s.hi, .int .i64 x.s.sl, .int .i64 x.s.sh], .cells 29 [.u64 (BitVec.ofInt 64 0), .u64 (BitVec.ofInt 64 0), .u64 (BitVec.ofInt 64 0), .u64 (BitVec.ofInt 64 0), .int .i64 0, .int .i64 0]], ?_⟩
  conv => whnf
  refine And.intro ⟨C.mu ⟨⟨av, am⟩, ⟨alo, ahi, asl, ash⟩⟩, _, (mle_cons ble_refl (mle_cons ble_refl (mle_cons ble_refl mle_nil))), rfl, rfl, ⟨⟨av, am⟩, ⟨alo, ahi, asl, ash⟩⟩, g0, rfl, rfl, rfl, rfl⟩ ?_
  rintro k vals M1 ⟨x, gx, ht, rfl, rfl, rfl⟩
  (conv => whnf)
  (repeat' (first | (refine And.intro (fun hb => ?_) (fun hb => ?_) <;> (first | contradiction | (conv => whnf))) | (refine And.intro (a := (_ : Bool) = true) ?_ ?_; rotate_left 1; (conv => whnf))))
  all_goals try (first | rfl | trivial | (simp; done) | (simp; omega) | (simp at hb ⊢; omega) | (simp only [decide_eq_true_eq, Bool.and_eq_true, Int.toNat_natCast] at *; omega))
  all_goals first
    | (have k1 : C.ok1 x = false := C.bn (by assumption)
       rw [C.of_none h1 h2 (ht.symm.trans (C.tog_none gx (C.st1 k1)))]; exact eqv_ff ⟨⟨_, _⟩, ⟨_, _, _, _⟩⟩)
    | (have k1 : C.ok1 x = true := C.bl (by assumption)
       have k2 : C.ok2 (C.r1 x) = false := C.nt (by assumption)
       rw [C.of_none h1 h2 (ht.symm.trans (C.tog_none gx (C.st2 k1 k2)))]; exact eqv_ff ⟨⟨_, _⟩, ⟨_, _, _, _⟩⟩)
    | (have k1 : C.ok1 x = true := C.bl (by assumption)
       have k2 : C.ok2 (C.r1 x) = true := C.nf (by assumption)
       have kt : C.top (C.r2 (C.r1 x)) = true := by assumption
       have k3 : C.ok3 (C.r2 (C.r1 x)) = false := by (unfold C.ok3; rw [C.r3_t kt]; exact C.inn (by assumption))
       rw [C.of_none h1 h2 (ht.symm.trans (C.tog_none gx (C.st3 k1 k2 k3)))]; exact eqv_ff ⟨⟨_, _⟩, ⟨_, _, _, _⟩⟩)
    | (have k1 : C.ok1 x = true := C.bl (by assumption)
       have k2 : C.ok2 (C.r1 x) = true := C.nf (by assumption)
       have kt : C.top (C.r2 (C.r1 x)) = true := by assumption
       have k3 : C.ok3 (C.r2 (C.r1 x)) = true := by (unfold C.ok3; rw [C.r3_t kt]; exact C.il (by assumption))
       have ks : C.sgn (C.r3 (C.r2 (C.r1 x))) = true := by (rw [C.r3_t kt]; assumption)
       have ey := (show C.r4 (C.r3 (C.r2 (C.r1 x))) = _ from by rw [C.r4_t ks, C.r3_t kt])
       have k4 : C.ok4 (C.r3 (C.r2 (C.r1 x))) = false := by (unfold C.ok4; rw [ey]; exact C.bn (by assumption))
       rw [C.of_none h1 h2 (ht.symm.trans (C.tog_none gx (C.st4 k1 k2 k3 k4)))]; exact eqv_ff ⟨⟨_, _⟩, ⟨_, _, _, _⟩⟩)
    | (have k1 : C.ok1 x = true := C.bl (by assumption)
       have k2 : C.ok2 (C.r1 x) = true := C.nf (by assumption)
       have kt : C.top (C.r2 (C.r1 x)) = true := by assumption
       have k3 : C.ok3 (C.r2 (C.r1 x)) = true := by (unfold C.ok3; rw [C.r3_t kt]; exact C.il (by assumption))
       have ks : C.sgn (C.r3 (C.r2 (C.r1 x))) = true := by (rw [C.r3_t kt]; assumption)
       have ey := (show C.r4 (C.r3 (C.r2 (C.r1 x))) = _ from by rw [C.r4_t ks, C.r3_t kt])
       have k4 : C.ok4 (C.r3 (C.r2 (C.r1 x))) = true := by (unfold C.ok4; rw [ey]; exact C.bl (by assumption))
       have e : C.eqc (C.r4 (C.r3 (C.r2 (C.r1 x)))) x = true := by (rw [ey]; assumption)
       rw [C.of_some h1 h2 (ht.symm.trans (C.tog_eqc gx (C.st5 k1 k2 k3 k4) e)), ey]; exact eqv_tt ⟨⟨_, _⟩, ⟨_, _, _, _⟩⟩)
    | (have k1 : C.ok1 x = true := C.bl (by assumption)
       have k2 : C.ok2 (C.r1 x) = true := C.nf (by assumption)
       have kt : C.top (C.r2 (C.r1 x)) = true := by assumption
       have k3 : C.ok3 (C.r2 (C.r1 x)) = true := by (unfold C.ok3; rw [C.r3_t kt]; exact C.il (by assumption))
       have ks : C.sgn (C.r3 (C.r2 (C.r1 x))) = true := by (rw [C.r3_t kt]; assumption)
       have ey := (show C.r4 (C.r3 (C.r2 (C.r1 x))) = _ from by rw [C.r4_t ks, C.r3_t kt])
       have k4 : C.ok4 (C.r3 (C.r2 (C.r1 x))) = true := by (unfold C.ok4; rw [ey]; exact C.bl (by assumption))
       have e : C.eqc (C.r4 (C.r3 (C.r2 (C.r1 x)))) x = false := by (rw [ey]; assumption)
       obtain ⟨n1, n2, n3⟩ := C.tog_next gx (C.st5 k1 k2 k3 k4) e
       refine ⟨C.mu (C.r4 (C.r3 (C.r2 (C.r1 x)))), [.cells 25 [.u64 (C.r4 (C.r3 (C.r2 (C.r1 x)))).t.v, .u64 (C.r4 (C.r3 (C.r2 (C.r1 x)))).t.m], .cells 27 [.u64 (C.r4 (C.r3 (C.r2 (C.r1 x)))).s.lo, .u64 (C.r4 (C.r3 (C.r2 (C.r1 x)))).s.hi, .int .i64 (C.r4 (C.r3 (C.r2 (C.r1 x)))).s.sl, .int .i64 (C.r4 (C.r3 (C.r2 (C.r1 x)))).s.sh], .cells 29 [.u64 (BitVec.ofInt 64 0), .u64 (BitVec.ofInt 64 0), .u64 (BitVec.ofInt 64 0), .u64 (BitVec.ofInt 64 0), .int .i64 0, .int .i64 0]], [0, 1, 2], n2, rfl, (mle_cons (ble_cells (by rw [ey]; rfl)) (mle_cons (ble_cells (by rw [ey]; rfl)) (mle_cons ble_refl mle_nil))), rfl, rfl, C.r4 (C.r3 (C.r2 (C.r1 x))), n3, n1.symm.trans ht, rfl, rfl, rfl⟩)
    | (have k1 : C.ok1 x = true := C.bl (by assumption)
       have k2 : C.ok2 (C.r1 x) = true := C.nf (by assumption)
       have kt : C.top (C.r2 (C.r1 x)) = true := by assumption
       have k3 : C.ok3 (C.r2 (C.r1 x)) = true := by (unfold C.ok3; rw [C.r3_t kt]; exact C.il (by assumption))
       have ks : C.sgn (C.r3 (C.r2 (C.r1 x))) = false := by (rw [C.r3_t kt]; assumption)
       have ey := (show C.r4 (C.r3 (C.r2 (C.r1 x))) = _ from by rw [C.r4_f ks, C.r3_t kt])
       have k4 : C.ok4 (C.r3 (C.r2 (C.r1 x))) = false := by (unfold C.ok4; rw [ey]; exact C.bn (by assumption))
       rw [C.of_none h1 h2 (ht.symm.trans (C.tog_none gx (C.st4 k1 k2 k3 k4)))]; exact eqv_ff ⟨⟨_, _⟩, ⟨_, _, _, _⟩⟩)
    | (have k1 : C.ok1 x = true := C.bl (by assumption)
       have k2 : C.ok2 (C.r1 x) = true := C.nf (by assumption)
       have kt : C.top (C.r2 (C.r1 x)) = true := by assumption
       have k3 : C.ok3 (C.r2 (C.r1 x)) = true := by (unfold C.ok3; rw [C.r3_t kt]; exact C.il (by assumption))
       have ks : C.sgn (C.r3 (C.r2 (C.r1 x))) = false := by (rw [C.r3_t kt]; assumption)
       have ey := (show C.r4 (C.r3 (C.r2 (C.r1 x))) = _ from by rw [C.r4_f ks, C.r3_t kt])
       have k4 : C.ok4 (C.r3 (C.r2 (C.r1 x))) = true := by (unfold C.ok4; rw [ey]; exact C.bl (by assumption))
       have e : C.eqc (C.r4 (C.r3 (C.r2 (C.r1 x)))) x = true := by (rw [ey]; assumption)
       rw [C.of_some h1 h2 (ht.symm.trans (C.tog_eqc gx (C.st5 k1 k2 k3 k4) e)), ey]; exact eqv_tt ⟨⟨_, _⟩, ⟨_, _, _, _⟩⟩)
    | (have k1 : C.ok1 x = true := C.bl (by assumption)
       have k2 : C.ok2 (C.r1 x) = true := C.nf (by assumption)
       have kt : C.top (C.r2 (C.r1 x)) = true := by assumption
       have k3 : C.ok3 (C.r2 (C.r1 x)) = true := by (unfold C.ok3; rw [C.r3_t kt]; exact C.il (by assumption))
       have ks : C.sgn (C.r3 (C.r2 (C.r1 x))) = false := by (rw [C.r3_t kt]; assumption)
       have ey := (show C.r4 (C.r3 (C.r2 (C.r1 x))) = _ from by rw [C.r4_f ks, C.r3_t kt])
       have k4 : C.ok4 (C.r3 (C.r2 (C.r1 x))) = true := by (unfold C.ok4; rw [ey]; exact C.bl (by assumption))
       have e : C.eqc (C.r4 (C.r3 (C.r2 (C.r1 x)))) x = false := by (rw [ey]; assumption)
       obtain ⟨n1, n2, n3⟩ := C.tog_next gx (C.st5 k1 k2 k3 k4) e
       refine ⟨C.mu (C.r4 (C.r3 (C.r2 (C.r1 x)))), [.cells 25 [.u64 (C.r4 (C.r3 (C.r2 (C.r1 x)))).t.v, .u64 (C.r4 (C.r3 (C.r2 (C.r1 x)))).t.m], .cells 27 [.u64 (C.r4 (C.r3 (C.r2 (C.r1 x)))).s.lo, .u64 (C.r4 (C.r3 (C.r2 (C.r1 x)))).s.hi, .int .i64 (C.r4 (C.r3 (C.r2 (C.r1 x)))).s.sl, .int .i64 (C.r4 (C.r3 (C.r2 (C.r1 x)))).s.sh], .cells 29 [.u64 (BitVec.ofInt 64 0), .u64 (BitVec.ofInt 64 0), .u64 (BitVec.ofInt 64 0), .u64 (BitVec.ofInt 64 0), .int .i64 0, .int .i64 0]], [0, 1, 2], n2, rfl, (mle_cons (ble_cells (by rw [ey]; rfl)) (mle_cons (ble_cells (by rw [ey]; rfl)) (mle_cons ble_refl mle_nil))), rfl, rfl, C.r4 (C.r3 (C.r2 (C.r1 x))), n3, n1.symm.trans ht, rfl, rfl, rfl⟩)
    | (have k1 : C.ok1 x = true := C.bl (by assumption)
       have k2 : C.ok2 (C.r1 x) = true := C.nf (by assumption)
       have kt : C.top (C.r2 (C.r1 x)) = false := by assumption
       have k3 : C.ok3 (C.r2 (C.r1 x)) = false := by (unfold C.ok3; rw [C.r3_f kt]; exact C.inn (by assumption))
       rw [C.of_none h1 h2 (ht.symm.trans (C.tog_none gx (C.st3 k1 k2 k3)))]; exact eqv_ff ⟨⟨_, _⟩, ⟨_, _, _, _⟩⟩)
    | (have k1 : C.ok1 x = true := C.bl (by assumption)
       have k2 : C.ok2 (C.r1 x) = true := C.nf (by assumption)
       have kt : C.top (C.r2 (C.r1 x)) = false := by assumption
       have k3 : C.ok3 (C.r2 (C.r1 x)) = true := by (unfold C.ok3; rw [C.r3_f kt]; exact C.il (by assumption))
       have ks : C.sgn (C.r3 (C.r2 (C.r1 x))) = true := by (rw [C.r3_f kt]; assumption)
       have ey := (show C.r4 (C.r3 (C.r2 (C.r1 x))) = _ from by rw [C.r4_t ks, C.r3_f kt])
       have k4 : C.ok4 (C.r3 (C.r2 (C.r1 x))) = false := by (unfold C.ok4; rw [ey]; exact C.bn (by assumption))
       rw [C.of_none h1 h2 (ht.symm.trans (C.tog_none gx (C.st4 k1 k2 k3 k4)))]; exact eqv_ff ⟨⟨_, _⟩, ⟨_, _, _, _⟩⟩)
    | (have k1 : C.ok1 x = true := C.bl (by assumption)
       have k2 : C.ok2 (C.r1 x) = true := C.nf (by assumption)
       have kt : C.top (C.r2 (C.r1 x)) = false := by assumption
       have k3 : C.ok3 (C.r2 (C.r1 x)) = true := by (unfold C.ok3; rw [C.r3_f kt]; exact C.il (by assumption))
       have ks : C.sgn (C.r3 (C.r2 (C.r1 x))) = true := by (rw [C.r3_f kt]; assumption)
       have ey := (show C.r4 (C.r3 (C.r2 (C.r1 x))) = _ from by rw [C.r4_t ks, C.r3_f kt])
       have k4 : C.ok4 (C.r3 (C.r2 (C.r1 x))) = true := by (unfold C.ok4; rw [ey]; exact C.bl (by assumption))
       have e : C.eqc (C.r4 (C.r3 (C.r2 (C.r1 x)))) x = true := by (rw [ey]; assumption)
       rw [C.of_some h1 h2 (ht.symm.trans (C.tog_eqc gx (C.st5 k1 k2 k3 k4) e)), ey]; exact eqv_tt ⟨⟨_, _⟩, ⟨_, _, _, _⟩⟩)
    | (have k1 : C.ok1 x = true := C.bl (by assumption)
       have k2 : C.ok2 (C.r1 x) = true := C.nf (by assumption)
       have kt : C.top (C.r2 (C.r1 x)) = false := by assumption
       have k3 : C.ok3 (C.r2 (C.r1 x)) = true := by (unfold C.ok3; rw [C.r3_f kt]; exact C.il (by assumption))
       have ks : C.sgn (C.r3 (C.r2 (C.r1 x))) = true := by (rw [C.r3_f kt]; assumption)
       have ey := (show C.r4 (C.r3 (C.r2 (C.r1 x))) = _ from by rw [C.r4_t ks, C.r3_f kt])
       have k4 : C.ok4 (C.r3 (C.r2 (C.r1 x))) = true := by (unfold C.ok4; rw [ey]; exact C.bl (by assumption))
       have e : C.eqc (C.r4 (C.r3 (C.r2 (C.r1 x)))) x = false := by (rw [ey]; assumption)
       obtain ⟨n1, n2, n3⟩ := C.tog_next gx (C.st5 k1 k2 k3 k4) e
       refine ⟨C.mu (C.r4 (C.r3 (C.r2 (C.r1 x)))), [.cells 25 [.u64 (C.r4 (C.r3 (C.r2 (C.r1 x)))).t.v, .u64 (C.r4 (C.r3 (C.r2 (C.r1 x)))).t.m], .cells 27 [.u64 (C.r4 (C.r3 (C.r2 (C.r1 x)))).s.lo, .u64 (C.r4 (C.r3 (C.r2 (C.r1 x)))).s.hi, .int .i64 (C.r4 (C.r3 (C.r2 (C.r1 x)))).s.sl, .int .i64 (C.r4 (C.r3 (C.r2 (C.r1 x)))).s.sh], .cells 29 [.u64 (BitVec.ofInt 64 0), .u64 (BitVec.ofInt 64 0), .u64 (BitVec.ofInt 64 0), .u64 (BitVec.ofInt 64 0), .int .i64 0, .int .i64 0]], [0, 1, 2], n2, rfl, (mle_cons (ble_cells (by rw [ey]; rfl)) (mle_cons (ble_cells (by rw [ey]; rfl)) (mle_cons ble_refl mle_nil))), rfl, rfl, C.r4 (C.r3 (C.r2 (C.r1 x))), n3, n1.symm.trans ht, rfl, rfl, rfl⟩)
    | (have k1 : C.ok1 x = true := C.bl (by assumption)
       have k2 : C.ok2 (C.r1 x) = true := C.nf (by assumption)
       have kt : C.top (C.r2 (C.r1 x)) = false := by assumption
       have k3 : C.ok3 (C.r2 (C.r1 x)) = true := by (unfold C.ok3; rw [C.r3_f kt]; exact C.il (by assumption))
       have ks : C.sgn (C.r3 (C.r2 (C.r1 x))) = false := by (rw [C.r3_f kt]; assumption)
       have ey := (show C.r4 (C.r3 (C.r2 (C.r1 x))) = _ from by rw [C.r4_f ks, C.r3_f kt])
       have k4 : C.ok4 (C.r3 (C.r2 (C.r1 x))) = false := by (unfold C.ok4; rw [ey]; exact C.bn (by assumption))
       rw [C.of_none h1 h2 (ht.symm.trans (C.tog_none gx (C.st4 k1 k2 k3 k4)))]; exact eqv_ff ⟨⟨_, _⟩, ⟨_, _, _, _⟩⟩)
    | (have k1 : C.ok1 x = true := C.bl (by assumption)
       have k2 : C.ok2 (C.r1 x) = true := C.nf (by assumption)
       have kt : C.top (C.r2 (C.r1 x)) = false := by assumption
       have k3 : C.ok3 (C.r2 (C.r1 x)) = true := by (unfold C.ok3; rw [C.r3_f kt]; exact C.il (by assumption))
       have ks : C.sgn (C.r3 (C.r2 (C.r1 x))) = false := by (rw [C.r3_f kt]; assumption)
       have ey := (show C.r4 (C.r3 (C.r2 (C.r1 x))) = _ from by rw [C.r4_f ks, C.r3_f kt])
       have k4 : C.ok4 (C.r3 (C.r2 (C.r1 x))) = true := by (unfold C.ok4; rw [ey]; exact C.bl (by assumption))
       have e : C.eqc (C.r4 (C.r3 (C.r2 (C.r1 x)))) x = true := by (rw [ey]; assumption)
       rw [C.of_some h1 h2 (ht.symm.trans (C.tog_eqc gx (C.st5 k1 k2 k3 k4) e)), ey]; exact eqv_tt ⟨⟨_, _⟩, ⟨_, _, _, _⟩⟩)
    | (have k1 : C.ok1 x = true := C.bl (by assumption)
       have k2 : C.ok2 (C.r1 x) = true := C.nf (by assumption)
       have kt : C.top (C.r2 (C.r1 x)) = false := by assumption
       have k3 : C.ok3 (C.r2 (C.r1 x)) = true := by (unfold C.ok3; rw [C.r3_f kt]; exact C.il (by assumption))
       have ks : C.sgn (C.r3 (C.r2 (C.r1 x))) = false := by (rw [C.r3_f kt]; assumption)
       have ey := (show C.r4 (C.r3 (C.r2 (C.r1 x))) = _ from by rw [C.r4_f ks, C.r3_f kt])
       have k4 : C.ok4 (C.r3 (C.r2 (C.r1 x))) = true := by (unfold C.ok4; rw [ey]; exact C.bl (by assumption))
       have e : C.eqc (C.r4 (C.r3 (C.r2 (C.r1 x)))) x = false := by (rw [ey]; assumption)
       obtain ⟨n1, n2, n3⟩ := C.tog_next gx (C.st5 k1 k2 k3 k4) e
       refine ⟨C.mu (C.r4 (C.r3 (C.r2 (C.r1 x)))), [.cells 25 [.u64 (C.r4 (C.r3 (C.r2 (C.r1 x)))).t.v, .u64 (C.r4 (C.r3 (C.r2 (C.r1 x)))).t.m], .cells 27 [.u64 (C.r4 (C.r3 (C.r2 (C.r1 x)))).s.lo, .u64 (C.r4 (C.r3 (C.r2 (C.r1 x)))).s.hi, .int .i64 (C.r4 (C.r3 (C.r2 (C.r1 x)))).s.sl, .int .i64 (C.r4 (C.r3 (C.r2 (C.r1 x)))).s.sh], .cells 29 [.u64 (BitVec.ofInt 64 0), .u64 (BitVec.ofInt 64 0), .u64 (BitVec.ofInt 64 0), .u64 (BitVec.ofInt 64 0), .int .i64 0, .int .i64 0]], [0, 1, 2], n2, rfl, (mle_cons (ble_cells (by rw [ey]; rfl)) (mle_cons (ble_cells (by rw [ey]; rfl)) (mle_cons ble_refl mle_nil))), rfl, rfl, C.r4 (C.r3 (C.r2 (C.r1 x))), n3, n1.symm.trans ht, rfl, rfl, rfl⟩)
def k_rTog : List SV → List Blk → Res := fun args _ => match args with
  | [.agg [.u64 av, .u64 am], .agg [.u64 alo, .u64 ahi, .int .i64 asl, .int .i64 ash]] => .test (R.inS ⟨alo, ahi, asl, ash⟩) (.ok (.tup [scv (C.of ⟨av, am⟩ ⟨alo, ahi, asl, ash⟩).1, .bool (C.of ⟨av, am⟩ ⟨alo, ahi, asl, ash⟩).2]) [])
  | _ => .fail
theorem k_rTog_ok : CtrOk Tryz.prog Gw 121 k_rTog := by
  refine ⟨fun _ _ => by kernel_rfl, fun args M => ?_⟩
  unfold k_rTog
  split
  · rename_i av am alo ahi asl ash
    intro ht
    exact ctr_flat (Γ := ⟨[(155, k_rRight), (156, k_srRight), (157, k_rMeet), (158, k_rRange)], eqs, [], [], [], mixs, meqs⟩) (sv := .tup [scv (C.of ⟨av, am⟩ ⟨alo, ahi, asl, ash⟩).1, .bool (C.of ⟨av, am⟩ ⟨alo, ahi, asl, ash⟩).2]) st_Gw ⟨(okCons k_rRight_ok (okCons k_srRight_ok (okCons k_rMeet_ok (okCons k_rRange_ok okNil)))), eqs_ok, okNilB, okNilI, okNilP, mixs_ok, meqs_ok⟩ Tryz.func121 rfl mixed [(8, 11, [0, 0, 2, 0, 8, 30, 63, 127, 255, 255, 0, 1535, 4095])] (by kernel_rfl) 10000 (by rfl) (rtog_run av am alo ahi asl ash ht)
  · trivial
end Go.Proofs.YtgfemfgimefmeaaGreat
namespace Go.Proofs.YtgfemfgimefmeaaGreat
open Go.RowKit Go.Sx
set_option linter.unusedSimpArgs false
set_option linter.unusedVariables false
set_option linter.unnecessarySimpa false
set_option maxRecDepth 100000
set_option maxHeartbeats 4000000
theorem of_run (av am alo ahi : BitVec 64) (asl ash : Int) (hi : R.inS ⟨alo, ahi, asl, ash⟩ = true) : run Tryz.prog ⟨[(95, k_Right), (96, k_sRight), (166, k_Meet), (167, k_Range)], eqs, [], [(97, Tryz.f97, [(6, 5, [0, 1, 3, 7, 0, 31])]), (147, Tryz.f147, [(1, 10, [0, 1, 3, 7, 0, 16, 48, 112, 0, 0, 783, 2047])]), (164, Tryz.f164, [(1, 12, [0, 0, 0, 4, 12, 0, 60, 0, 128, 384, 0, 1920, 1021, 5117, 16383, 32767]), (2, 6, [0, 1, 3, 0, 8, 24, 63, 127])]), (169, Tryz.f169, [(1, 12, [0, 0, 0, 4, 12, 0, 60, 0, 128, 384, 0, 1920, 1021, 5117, 16383, 32767]), (2, 6, [0, 1, 3, 0, 8, 24, 63, 127])]), (163, Tryz.f163, [(1, 19, [0, 1, 3, 0, 8, 24, 0, 64, 192, 448, 0, 1024, 3072, 7168, 0, 16384, 49152, 114688, 261120, 524287, 1048575])]), (165, Tryz.f165, [(1, 17, [0, 1, 3, 0, 8, 24, 56, 0, 128, 384, 896, 2040, 4095, 8191, 16383, 16383, 0, 98303, 262143])]), (168, Tryz.f168, [(1, 28, [0, 1, 3, 7, 15, 0, 32, 96, 224, 480, 1023, 2047, 4095, 8191, 16383, 4095, 36863, 102399, 4095, 266239, 790527, 1839103, 3936255, 4095, 8392703, 25169919, 58724351, 125833215, 268435455, 536870911, 1073741823])]), (170, Tryz.f170, [(1, 28, [0, 1, 3, 7, 15, 0, 32, 96, 224, 480, 1023, 2047, 4095, 8191, 16383, 4095, 36863, 102399, 4095, 266239, 790527, 1839103, 3936255, 4095, 8392703, 25169919, 58724351, 125833215, 268435455, 536870911, 1073741823])]), (171, Tryz.f171, [])], [], mixs, meqs⟩ 10000 [] 0 (bodyOf Tryz.f46) (initF Tryz.f46 [.agg [.u64 av, .u64 am], .agg [.u64 alo, .u64 ahi, .int .i64 asl, .int .i64 ash]]) [] (retK Tryz.prog Tryz.f46 fun x _ => eqv x (.tup [scv (C.of ⟨av, am⟩ ⟨alo, ahi, asl, ash⟩).1, .bool (C.of ⟨av, am⟩ ⟨alo, ahi, asl, ash⟩).2])) := by
  (conv => whnf)
  (repeat' (first | (refine And.intro (fun hb => ?_) (fun hb => ?_) <;> (first | contradiction | (conv => whnf))) | (refine And.intro (a := (_ : Bool) = true) ?_ ?_; rotate_left 1; (conv => whnf))))
  all_goals try (rw [C.of_no1 (C.nt (by assumption))]; exact eqv_ff ⟨⟨_, _⟩, ⟨_, _, _, _⟩⟩)
  all_goals try (rw [C.of_no2 (C.nt (by assumption))]; exact eqv_ff ⟨⟨_, _⟩, ⟨_, _, _, _⟩⟩)
  have h1 : T.right ⟨av, am⟩ = true := C.nf (by assumption)
  have h2 : S.good ⟨alo, ahi, asl, ash⟩ = true := C.nf (by assumption)
  have g0 : C.Good ⟨⟨av, am⟩, ⟨alo, ahi, asl, ash⟩⟩ := ⟨h1, (S.good_iff.1 h2).1, (S.good_iff.1 h2).2, hi⟩
  refine .inr ⟨[], [0, 2], fun k vals M => ∃ x : Sc, C.Good x ∧ C.tog x = C.tog ⟨⟨av, am⟩, ⟨alo, ahi, asl, ash⟩⟩ ∧ k = C.mu x ∧ vals = [.ptr 3 0, .ptr 4 0] ∧ M = [.cells 25 [.u64 av, .u64 am], .cells 27 [.u64 alo, .u64 ahi, .int .i64 asl, .int .i64 ash], .cells 29 [.u64 (BitVec.ofInt 64 0), .u64 (BitVec.ofInt 64 0), .u64 (BitVec.ofInt 64 0), .u64 (BitVec.ofInt 64 0), .int .i64 0, .int .i64 0], .cells 173 [.u64 x.t.v, .u64 x.t.m, .u64 x.s.lo, .u64 x.s.hi, .int .i64 x.s.sl, .int .i64 x.s.sh], .cells 4 [.ff]], ?_⟩
  conv => whnf
  refine And.intro ⟨C.mu ⟨⟨av, am⟩, ⟨alo, ahi, asl, ash⟩⟩, _, (mle_cons ble_refl (mle_cons ble_refl (mle_cons ble_refl (mle_cons ble_refl (mle_cons ble_refl mle_nil))))), rfl, rfl, ⟨⟨av, am⟩, ⟨alo, ahi, asl, ash⟩⟩, g0, rfl, rfl, rfl, rfl⟩ ?_
  rintro k vals M1 ⟨x, gx, ht, rfl, rfl, rfl⟩
  (conv => whnf)
  (repeat' (first | (refine .inl ⟨20, ?_⟩; (conv => whnf)) | (refine And.intro (fun hb => ?_) (fun hb => ?_) <;> (first | contradiction | (conv => whnf))) | (refine And.intro (a := (_ : Bool) = true) ?_ ?_; rotate_left 1; (conv => whnf))))
  all_goals try (first | rfl | trivial | (simp; done) | (simp; omega) | (simp at hb ⊢; omega) | (simp only [decide_eq_true_eq, Bool.and_eq_true, Int.toNat_natCast] at *; omega))
  all_goals first
    | (have k1 : C.ok1 x = false := C.nt (by assumption)
       rw [C.of_none h1 h2 (ht.symm.trans (C.tog_none gx (C.st1 k1)))]; exact eqv_ff ⟨⟨_, _⟩, ⟨_, _, _, _⟩⟩)
    | (have k1 : C.ok1 x = true := C.nf (by assumption)
       have k2 : C.ok2 (C.r1 x) = false := C.nt (by assumption)
       rw [C.of_none h1 h2 (ht.symm.trans (C.tog_none gx (C.st2 k1 k2)))]; exact eqv_ff ⟨⟨_, _⟩, ⟨_, _, _, _⟩⟩)
    | (have k1 : C.ok1 x = true := C.nf (by assumption)
       have k2 : C.ok2 (C.r1 x) = true := C.nf (by assumption)
       have kt : C.top (C.r2 (C.r1 x)) = true := C.bt (by assumption)
       have k3 : C.ok3 (C.r2 (C.r1 x)) = false := by (unfold C.ok3; rw [C.r3_t kt]; exact C.nt (by assumption))
       rw [C.of_none h1 h2 (ht.symm.trans (C.tog_none gx (C.st3 k1 k2 k3)))]; exact eqv_ff ⟨⟨_, _⟩, ⟨_, _, _, _⟩⟩)
    | (have k1 : C.ok1 x = true := C.nf (by assumption)
       have k2 : C.ok2 (C.r1 x) = true := C.nf (by assumption)
       have kt : C.top (C.r2 (C.r1 x)) = true := C.bt (by assumption)
       have k3 : C.ok3 (C.r2 (C.r1 x)) = true := by (unfold C.ok3; rw [C.r3_t kt]; exact C.nf (by assumption))
       have ks : C.sgn (C.r3 (C.r2 (C.r1 x))) = true := by (rw [C.r3_t kt]; exact C.ct (by assumption))
       have ey := (show C.r4 (C.r3 (C.r2 (C.r1 x))) = _ from by rw [C.r4_t ks, C.r3_t kt])
       have k4 : C.ok4 (C.r3 (C.r2 (C.r1 x))) = false := by (unfold C.ok4; rw [ey]; exact C.nt (by assumption))
       rw [C.of_none h1 h2 (ht.symm.trans (C.tog_none gx (C.st4 k1 k2 k3 k4)))]; exact eqv_ff ⟨⟨_, _⟩, ⟨_, _, _, _⟩⟩)
    | (have k1 : C.ok1 x = true := C.nf (by assumption)
       have k2 : C.ok2 (C.r1 x) = true := C.nf (by assumption)
       have kt : C.top (C.r2 (C.r1 x)) = true := C.bt (by assumption)
       have k3 : C.ok3 (C.r2 (C.r1 x)) = true := by (unfold C.ok3; rw [C.r3_t kt]; exact C.nf (by assumption))
       have ks : C.sgn (C.r3 (C.r2 (C.r1 x))) = true := by (rw [C.r3_t kt]; exact C.ct (by assumption))
       have ey := (show C.r4 (C.r3 (C.r2 (C.r1 x))) = _ from by rw [C.r4_t ks, C.r3_t kt])
       have k4 : C.ok4 (C.r3 (C.r2 (C.r1 x))) = true := by (unfold C.ok4; rw [ey]; exact C.nf (by assumption))
       have e : C.eqc (C.r4 (C.r3 (C.r2 (C.r1 x)))) x = true := by (rw [ey]; assumption)
       rw [C.of_some h1 h2 (ht.symm.trans (C.tog_eqc gx (C.st5 k1 k2 k3 k4) e)), ey]; exact eqv_tt ⟨⟨_, _⟩, ⟨_, _, _, _⟩⟩)
    | (have k1 : C.ok1 x = true := C.nf (by assumption)
       have k2 : C.ok2 (C.r1 x) = true := C.nf (by assumption)
       have kt : C.top (C.r2 (C.r1 x)) = true := C.bt (by assumption)
       have k3 : C.ok3 (C.r2 (C.r1 x)) = true := by (unfold C.ok3; rw [C.r3_t kt]; exact C.nf (by assumption))
       have ks : C.sgn (C.r3 (C.r2 (C.r1 x))) = true := by (rw [C.r3_t kt]; exact C.ct (by assumption))
       have ey := (show C.r4 (C.r3 (C.r2 (C.r1 x))) = _ from by rw [C.r4_t ks, C.r3_t kt])
       have k4 : C.ok4 (C.r3 (C.r2 (C.r1 x))) = true := by (unfold C.ok4; rw [ey]; exact C.nf (by assumption))
       have e : C.eqc (C.r4 (C.r3 (C.r2 (C.r1 x)))) x = false := by (rw [ey]; assumption)
       obtain ⟨n1, n2, n3⟩ := C.tog_next gx (C.st5 k1 k2 k3 k4) e
       refine ⟨C.mu (C.r4 (C.r3 (C.r2 (C.r1 x)))), [.cells 25 [.u64 av, .u64 am], .cells 27 [.u64 alo, .u64 ahi, .int .i64 asl, .int .i64 ash], .cells 29 [.u64 (BitVec.ofInt 64 0), .u64 (BitVec.ofInt 64 0), .u64 (BitVec.ofInt 64 0), .u64 (BitVec.ofInt 64 0), .int .i64 0, .int .i64 0], .cells 173 [.u64 (C.r4 (C.r3 (C.r2 (C.r1 x)))).t.v, .u64 (C.r4 (C.r3 (C.r2 (C.r1 x)))).t.m, .u64 (C.r4 (C.r3 (C.r2 (C.r1 x)))).s.lo, .u64 (C.r4 (C.r3 (C.r2 (C.r1 x)))).s.hi, .int .i64 (C.r4 (C.r3 (C.r2 (C.r1 x)))).s.sl, .int .i64 (C.r4 (C.r3 (C.r2 (C.r1 x)))).s.sh], .cells 4 [.ff]], [0, 1, 2, 3, 4], n2, rfl, (mle_cons ble_refl (mle_cons ble_refl (mle_cons ble_refl (mle_cons (ble_cells (by rw [ey]; rfl)) (mle_cons ble_refl mle_nil))))), rfl, rfl, C.r4 (C.r3 (C.r2 (C.r1 x))), n3, n1.symm.trans ht, rfl, rfl, rfl⟩)
    | (have k1 : C.ok1 x = true := C.nf (by assumption)
       have k2 : C.ok2 (C.r1 x) = true := C.nf (by assumption)
       have kt : C.top (C.r2 (C.r1 x)) = true := C.bt (by assumption)
       have k3 : C.ok3 (C.r2 (C.r1 x)) = true := by (unfold C.ok3; rw [C.r3_t kt]; exact C.nf (by assumption))
       have ks : C.sgn (C.r3 (C.r2 (C.r1 x))) = false := by (rw [C.r3_t kt]; exact C.cf (by assumption))
       have ey := (show C.r4 (C.r3 (C.r2 (C.r1 x))) = _ from by rw [C.r4_f ks, C.r3_t kt])
       have k4 : C.ok4 (C.r3 (C.r2 (C.r1 x))) = true := by (unfold C.ok4; rw [ey]; exact k1)
       have e : C.eqc (C.r4 (C.r3 (C.r2 (C.r1 x)))) x = true := by (rw [ey]; assumption)
       rw [C.of_some h1 h2 (ht.symm.trans (C.tog_eqc gx (C.st5 k1 k2 k3 k4) e)), ey]; exact eqv_tt ⟨⟨_, _⟩, ⟨_, _, _, _⟩⟩)
    | (have k1 : C.ok1 x = true := C.nf (by assumption)
       have k2 : C.ok2 (C.r1 x) = true := C.nf (by assumption)
       have kt : C.top (C.r2 (C.r1 x)) = true := C.bt (by assumption)
       have k3 : C.ok3 (C.r2 (C.r1 x)) = true := by (unfold C.ok3; rw [C.r3_t kt]; exact C.nf (by assumption))
       have ks : C.sgn (C.r3 (C.r2 (C.r1 x))) = false := by (rw [C.r3_t kt]; exact C.cf (by assumption))
       have ey := (show C.r4 (C.r3 (C.r2 (C.r1 x))) = _ from by rw [C.r4_f ks, C.r3_t kt])
       have k4 : C.ok4 (C.r3 (C.r2 (C.r1 x))) = true := by (unfold C.ok4; rw [ey]; exact k1)
       have e : C.eqc (C.r4 (C.r3 (C.r2 (C.r1 x)))) x = false := by (rw [ey]; assumption)
       obtain ⟨n1, n2, n3⟩ := C.tog_next gx (C.st5 k1 k2 k3 k4) e
       refine ⟨C.mu (C.r4 (C.r3 (C.r2 (C.r1 x)))), [.cells 25 [.u64 av, .u64 am], .cells 27 [.u64 alo, .u64 ahi, .int .i64 asl, .int .i64 ash], .cells 29 [.u64 (BitVec.ofInt 64 0), .u64 (BitVec.ofInt 64 0), .u64 (BitVec.ofInt 64 0), .u64 (BitVec.ofInt 64 0), .int .i64 0, .int .i64 0], .cells 173 [.u64 (C.r4 (C.r3 (C.r2 (C.r1 x)))).t.v, .u64 (C.r4 (C.r3 (C.r2 (C.r1 x)))).t.m, .u64 (C.r4 (C.r3 (C.r2 (C.r1 x)))).s.lo, .u64 (C.r4 (C.r3 (C.r2 (C.r1 x)))).s.hi, .int .i64 (C.r4 (C.r3 (C.r2 (C.r1 x)))).s.sl, .int .i64 (C.r4 (C.r3 (C.r2 (C.r1 x)))).s.sh], .cells 4 [.ff]], [0, 1, 2, 3, 4], n2, rfl, (mle_cons ble_refl (mle_cons ble_refl (mle_cons ble_refl (mle_cons (ble_cells (by rw [ey]; rfl)) (mle_cons ble_refl mle_nil))))), rfl, rfl, C.r4 (C.r3 (C.r2 (C.r1 x))), n3, n1.symm.trans ht, rfl, rfl, rfl⟩)
    | (have k1 : C.ok1 x = true := C.nf (by assumption)
       have k2 : C.ok2 (C.r1 x) = true := C.nf (by assumption)
       have kt : C.top (C.r2 (C.r1 x)) = false := C.bf (by assumption)
       have k3 : C.ok3 (C.r2 (C.r1 x)) = true := by (unfold C.ok3; rw [C.r3_f kt]; exact decide_eq_true gx.g)
       have ks : C.sgn (C.r3 (C.r2 (C.r1 x))) = true := by (rw [C.r3_f kt]; exact C.ct (by assumption))
       have ey := (show C.r4 (C.r3 (C.r2 (C.r1 x))) = _ from by rw [C.r4_t ks, C.r3_f kt])
       have k4 : C.ok4 (C.r3 (C.r2 (C.r1 x))) = false := by (unfold C.ok4; rw [ey]; exact C.nt (by assumption))
       rw [C.of_none h1 h2 (ht.symm.trans (C.tog_none gx (C.st4 k1 k2 k3 k4)))]; exact eqv_ff ⟨⟨_, _⟩, ⟨_, _, _, _⟩⟩)
    | (have k1 : C.ok1 x = true := C.nf (by assumption)
       have k2 : C.ok2 (C.r1 x) = true := C.nf (by assumption)
       have kt : C.top (C.r2 (C.r1 x)) = false := C.bf (by assumption)
       have k3 : C.ok3 (C.r2 (C.r1 x)) = true := by (unfold C.ok3; rw [C.r3_f kt]; exact decide_eq_true gx.g)
       have ks : C.sgn (C.r3 (C.r2 (C.r1 x))) = true := by (rw [C.r3_f kt]; exact C.ct (by assumption))
       have ey := (show C.r4 (C.r3 (C.r2 (C.r1 x))) = _ from by rw [C.r4_t ks, C.r3_f kt])
       have k4 : C.ok4 (C.r3 (C.r2 (C.r1 x))) = true := by (unfold C.ok4; rw [ey]; exact C.nf (by assumption))
       have e : C.eqc (C.r4 (C.r3 (C.r2 (C.r1 x)))) x = true := by (rw [ey]; assumption)
       rw [C.of_some h1 h2 (ht.symm.trans (C.tog_eqc gx (C.st5 k1 k2 k3 k4) e)), ey]; exact eqv_tt ⟨⟨_, _⟩, ⟨_, _, _, _⟩⟩)
    | (have k1 : C.ok1 x = true := C.nf (by assumption)
       have k2 : C.ok2 (C.r1 x) = true := C.nf (by assumption)
       have kt : C.top (C.r2 (C.r1 x)) = false := C.bf (by assumption)
       have k3 : C.ok3 (C.r2 (C.r1 x)) = true := by (unfold C.ok3; rw [C.r3_f kt]; exact decide_eq_true gx.g)
       have ks : C.sgn (C.r3 (C.r2 (C.r1 x))) = true := by (rw [C.r3_f kt]; exact C.ct (by assumption))
       have ey := (show C.r4 (C.r3 (C.r2 (C.r1 x))) = _ from by rw [C.r4_t ks, C.r3_f kt])
       have k4 : C.ok4 (C.r3 (C.r2 (C.r1 x))) = true := by (unfold C.ok4; rw [ey]; exact C.nf (by assumption))
       have e : C.eqc (C.r4 (C.r3 (C.r2 (C.r1 x)))) x = false := by (rw [ey]; assumption)
       obtain ⟨n1, n2, n3⟩ := C.tog_next gx (C.st5 k1 k2 k3 k4) e
       refine ⟨C.mu (C.r4 (C.r3 (C.r2 (C.r1 x)))), [.cells 25 [.u64 av, .u64 am], .cells 27 [.u64 alo, .u64 ahi, .int .i64 asl, .int .i64 ash], .cells 29 [.u64 (BitVec.ofInt 64 0), .u64 (BitVec.ofInt 64 0), .u64 (BitVec.ofInt 64 0), .u64 (BitVec.ofInt 64 0), .int .i64 0, .int .i64 0], .cells 173 [.u64 (C.r4 (C.r3 (C.r2 (C.r1 x)))).t.v, .u64 (C.r4 (C.r3 (C.r2 (C.r1 x)))).t.m, .u64 (C.r4 (C.r3 (C.r2 (C.r1 x)))).s.lo, .u64 (C.r4 (C.r3 (C.r2 (C.r1 x)))).s.hi, .int .i64 (C.r4 (C.r3 (C.r2 (C.r1 x)))).s.sl, .int .i64 (C.r4 (C.r3 (C.r2 (C.r1 x)))).s.sh], .cells 4 [.ff]], [0, 1, 2, 3, 4], n2, rfl, (mle_cons ble_refl (mle_cons ble_refl (mle_cons ble_refl (mle_cons (ble_cells (by rw [ey]; rfl)) (mle_cons ble_refl mle_nil))))), rfl, rfl, C.r4 (C.r3 (C.r2 (C.r1 x))), n3, n1.symm.trans ht, rfl, rfl, rfl⟩)
    | (have k1 : C.ok1 x = true := C.nf (by assumption)
       have k2 : C.ok2 (C.r1 x) = true := C.nf (by assumption)
       have kt : C.top (C.r2 (C.r1 x)) = false := C.bf (by assumption)
       have k3 : C.ok3 (C.r2 (C.r1 x)) = true := by (unfold C.ok3; rw [C.r3_f kt]; exact decide_eq_true gx.g)
       have ks : C.sgn (C.r3 (C.r2 (C.r1 x))) = false := by (rw [C.r3_f kt]; exact C.cf (by assumption))
       have ey := (show C.r4 (C.r3 (C.r2 (C.r1 x))) = _ from by rw [C.r4_f ks, C.r3_f kt])
       have k4 : C.ok4 (C.r3 (C.r2 (C.r1 x))) = true := by (unfold C.ok4; rw [ey]; exact k1)
       have e : C.eqc (C.r4 (C.r3 (C.r2 (C.r1 x)))) x = true := by (rw [ey]; assumption)
       rw [C.of_some h1 h2 (ht.symm.trans (C.tog_eqc gx (C.st5 k1 k2 k3 k4) e)), ey]; exact eqv_tt ⟨⟨_, _⟩, ⟨_, _, _, _⟩⟩)
    | (have k1 : C.ok1 x = true := C.nf (by assumption)
       have k2 : C.ok2 (C.r1 x) = true := C.nf (by assumption)
       have kt : C.top (C.r2 (C.r1 x)) = false := C.bf (by assumption)
       have k3 : C.ok3 (C.r2 (C.r1 x)) = true := by (unfold C.ok3; rw [C.r3_f kt]; exact decide_eq_true gx.g)
       have ks : C.sgn (C.r3 (C.r2 (C.r1 x))) = false := by (rw [C.r3_f kt]; exact C.cf (by assumption))
       have ey := (show C.r4 (C.r3 (C.r2 (C.r1 x))) = _ from by rw [C.r4_f ks, C.r3_f kt])
       have k4 : C.ok4 (C.r3 (C.r2 (C.r1 x))) = true := by (unfold C.ok4; rw [ey]; exact k1)
       have e : C.eqc (C.r4 (C.r3 (C.r2 (C.r1 x)))) x = false := by (rw [ey]; assumption)
       obtain ⟨n1, n2, n3⟩ := C.tog_next gx (C.st5 k1 k2 k3 k4) e
       refine ⟨C.mu (C.r4 (C.r3 (C.r2 (C.r1 x)))), [.cells 25 [.u64 av, .u64 am], .cells 27 [.u64 alo, .u64 ahi, .int .i64 asl, .int .i64 ash], .cells 29 [.u64 (BitVec.ofInt 64 0), .u64 (BitVec.ofInt 64 0), .u64 (BitVec.ofInt 64 0), .u64 (BitVec.ofInt 64 0), .int .i64 0, .int .i64 0], .cells 173 [.u64 (C.r4 (C.r3 (C.r2 (C.r1 x)))).t.v, .u64 (C.r4 (C.r3 (C.r2 (C.r1 x)))).t.m, .u64 (C.r4 (C.r3 (C.r2 (C.r1 x)))).s.lo, .u64 (C.r4 (C.r3 (C.r2 (C.r1 x)))).s.hi, .int .i64 (C.r4 (C.r3 (C.r2 (C.r1 x)))).s.sl, .int .i64 (C.r4 (C.r3 (C.r2 (C.r1 x)))).s.sh], .cells 4 [.ff]], [0, 1, 2, 3, 4], n2, rfl, (mle_cons ble_refl (mle_cons ble_refl (mle_cons ble_refl (mle_cons (ble_cells (by rw [ey]; rfl)) (mle_cons ble_refl mle_nil))))), rfl, rfl, C.r4 (C.r3 (C.r2 (C.r1 x))), n3, n1.symm.trans ht, rfl, rfl, rfl⟩)
def k_Of : List SV → List Blk → Res := fun args _ => match args with
  | [.agg [.u64 av, .u64 am], .agg [.u64 alo, .u64 ahi, .int .i64 asl, .int .i64 ash]] => .test (R.inS ⟨alo, ahi, asl, ash⟩) (.ok (.tup [scv (C.of ⟨av, am⟩ ⟨alo, ahi, asl, ash⟩).1, .bool (C.of ⟨av, am⟩ ⟨alo, ahi, asl, ash⟩).2]) [])
  | _ => .fail
theorem k_Of_ok : CtrOk Tryz.prog Gw 46 k_Of := by
  refine ⟨fun _ _ => by kernel_rfl, fun args M => ?_⟩
  unfold k_Of
  split
  · rename_i av am alo ahi asl ash
    intro ht
    exact ctr_flat (Γ := ⟨[(95, k_Right), (96, k_sRight), (166, k_Meet), (167, k_Range)], eqs, [], [(97, Tryz.f97, [(6, 5, [0, 1, 3, 7, 0, 31])]), (147, Tryz.f147, [(1, 10, [0, 1, 3, 7, 0, 16, 48, 112, 0, 0, 783, 2047])]), (164, Tryz.f164, [(1, 12, [0, 0, 0, 4, 12, 0, 60, 0, 128, 384, 0, 1920, 1021, 5117, 16383, 32767]), (2, 6, [0, 1, 3, 0, 8, 24, 63, 127])]), (169, Tryz.f169, [(1, 12, [0, 0, 0, 4, 12, 0, 60, 0, 128, 384, 0, 1920, 1021, 5117, 16383, 32767]), (2, 6, [0, 1, 3, 0, 8, 24, 63, 127])]), (163, Tryz.f163, [(1, 19, [0, 1, 3, 0, 8, 24, 0, 64, 192, 448, 0, 1024, 3072, 7168, 0, 16384, 49152, 114688, 261120, 524287, 1048575])]), (165, Tryz.f165, [(1, 17, [0, 1, 3, 0, 8, 24, 56, 0, 128, 384, 896, 2040, 4095, 8191, 16383, 16383, 0, 98303, 262143])]), (168, Tryz.f168, [(1, 28, [0, 1, 3, 7, 15, 0, 32, 96, 224, 480, 1023, 2047, 4095, 8191, 16383, 4095, 36863, 102399, 4095, 266239, 790527, 1839103, 3936255, 4095, 8392703, 25169919, 58724351, 125833215, 268435455, 536870911, 1073741823])]), (170, Tryz.f170, [(1, 28, [0, 1, 3, 7, 15, 0, 32, 96, 224, 480, 1023, 2047, 4095, 8191, 16383, 4095, 36863, 102399, 4095, 266239, 790527, 1839103, 3936255, 4095, 8392703, 25169919, 58724351, 125833215, 268435455, 536870911, 1073741823])]), (171, Tryz.f171, [])], [], mixs, meqs⟩) (sv := .tup [scv (C.of ⟨av, am⟩ ⟨alo, ahi, asl, ash⟩).1, .bool (C.of ⟨av, am⟩ ⟨alo, ahi, asl, ash⟩).2]) st_Gw ⟨(okCons k_Right_ok (okCons k_sRight_ok (okCons k_Meet_ok (okCons k_Range_ok okNil)))), eqs_ok, okNilB, (okConsI Tryz.func97 rfl (by kernel_rfl) (fun _ _ => by kernel_rfl) (okConsI Tryz.func147 rfl (by kernel_rfl) (fun _ _ => by kernel_rfl) (okConsI Tryz.func164 rfl (by kernel_rfl) (fun _ _ => by kernel_rfl) (okConsI Tryz.func169 rfl (by kernel_rfl) (fun _ _ => by kernel_rfl) (okConsI Tryz.func163 rfl (by kernel_rfl) (fun _ _ => by kernel_rfl) (okConsI Tryz.func165 rfl (by kernel_rfl) (fun _ _ => by kernel_rfl) (okConsI Tryz.func168 rfl (by kernel_rfl) (fun _ _ => by kernel_rfl) (okConsI Tryz.func170 rfl (by kernel_rfl) (fun _ _ => by kernel_rfl) (okConsI Tryz.func171 rfl (by kernel_rfl) (fun _ _ => by kernel_rfl) okNilI))))))))), okNilP, mixs_ok, meqs_ok⟩ Tryz.func46 rfl mixed [] (by kernel_rfl) 10000 (by rfl) (of_run av am alo ahi asl ash ht)
  · trivial
end Go.Proofs.YtgfemfgimefmeaaGreat
namespace Go.Proofs.YtgfemfgimefmeaaGreat
open Go.RowKit Go.Sx
set_option linter.unusedSimpArgs false
set_option linter.unusedVariables false
set_option linter.unnecessarySimpa false
set_option maxRecDepth 100000
set_option maxHeartbeats 4000000
def k_qOf : List SV → List Blk → Res := fun args _ => match args with
  | [.agg [.u64 av, .u64 am], .agg [.u64 alo, .u64 ahi, .int .i64 asl, .int .i64 ash]] => .test (R.inS ⟨alo, ahi, asl, ash⟩) (.ok (.tup [scv (C.of ⟨av, am⟩ ⟨alo, ahi, asl, ash⟩).1, .bool (C.of ⟨av, am⟩ ⟨alo, ahi, asl, ash⟩).2]) [])
  | _ => .fail
theorem k_qOf_ok : CtrOk Tryz.prog Gw 85 k_qOf := by
  refine ⟨fun _ _ => by kernel_rfl, fun args M => ?_⟩
  unfold k_qOf
  split
  · rename_i av am alo ahi asl ash
    intro ht
    refine ctr_flat (Γ := ⟨[(121, k_rTog)], eqs, [], [], [], mixs, meqs⟩) (sv := .tup [scv (C.of ⟨av, am⟩ ⟨alo, ahi, asl, ash⟩).1, .bool (C.of ⟨av, am⟩ ⟨alo, ahi, asl, ash⟩).2]) st_Gw ⟨(okCons k_rTog_ok okNil), eqs_ok, okNilB, okNilI, okNilP, mixs_ok, meqs_ok⟩ Tryz.func85 rfl mixed [] (by kernel_rfl) 10000 (by rfl) ?_
    (conv => whnf)
    (repeat' (first | (refine And.intro (fun hb => ?_) (fun hb => ?_) <;> (first | contradiction | (conv => whnf))) | (refine And.intro ?_ ?_; rotate_left 1; (conv => whnf))))
    all_goals (first | assumption | first | rfl | trivial | ((try dsimp only at *); (try simp only [Bool.not_eq_true', Bool.not_eq_false', bne, ite_uv] at *); (simp only [eqv, eqv1, eqv2, eqvL1, eqvL2, *, bne, Bool.and_true, Bool.true_and, Bool.and_false, Bool.false_and, Bool.or_true, Bool.true_or, Bool.or_false, Bool.false_or, Bool.not_true, Bool.not_false, if_true, if_false, Bool.false_eq_true, beq_self_eq_true]; done)) | ((try dsimp only at *); (try simp only [Bool.not_eq_true', Bool.not_eq_false', bne] at *); simp only [eqv, eqv1, eqv2, eqvL1, eqvL2, *, bne, Bool.and_true, Bool.true_and, Bool.and_false, Bool.false_and, Bool.or_true, Bool.true_or, Bool.or_false, Bool.false_or, Bool.not_true, Bool.not_false, if_true, if_false, Bool.false_eq_true, beq_self_eq_true]; rfl) | (simp_all [eqv, eqv1, eqv2, eqvL1, eqvL2]; done))
  · trivial
def k_qConst : List SV → List Blk → Res := fun args _ => match args with
  | [.u64 n] => .ok (scv (C.const n)) []
  | _ => .fail
theorem k_qConst_ok : CtrOk Tryz.prog Gw 83 k_qConst := by
  refine ⟨fun _ _ => by kernel_rfl, fun args M => ?_⟩
  unfold k_qConst
  split
  · rename_i n
    refine ctr_flat (Γ := ⟨[(119, k_rConst)], eqs, [], [], [], mixs, meqs⟩) (sv := scv (C.const n)) st_Gw ⟨(okCons k_rConst_ok okNil), eqs_ok, okNilB, okNilI, okNilP, mixs_ok, meqs_ok⟩ Tryz.func83 rfl mixed [] (by kernel_rfl) 10000 (by rfl) ?_
    (conv => whnf)
    (repeat' (first | (refine And.intro (fun hb => ?_) (fun hb => ?_) <;> (first | contradiction | (conv => whnf))) | (refine And.intro ?_ ?_; rotate_left 1; (conv => whnf))))
    all_goals (first | rfl | trivial | ((try dsimp only at *); (try simp only [Bool.not_eq_true', Bool.not_eq_false', bne, ite_uv] at *); (simp only [eqv, eqv1, eqv2, eqvL1, eqvL2, *, C.const, bne, Bool.and_true, Bool.true_and, Bool.and_false, Bool.false_and, Bool.or_true, Bool.true_or, Bool.or_false, Bool.false_or, Bool.not_true, Bool.not_false, if_true, if_false, Bool.false_eq_true, beq_self_eq_true]; done)) | ((try dsimp only at *); (try simp only [Bool.not_eq_true', Bool.not_eq_false', bne] at *); simp only [eqv, eqv1, eqv2, eqvL1, eqvL2, *, C.const, bne, Bool.and_true, Bool.true_and, Bool.and_false, Bool.false_and, Bool.or_true, Bool.true_or, Bool.or_false, Bool.false_or, Bool.not_true, Bool.not_false, if_true, if_false, Bool.false_eq_true, beq_self_eq_true]; rfl) | (simp_all [eqv, eqv1, eqv2, eqvL1, eqvL2, C.const]; done))
  · trivial
def k_qUnknown : List SV → List Blk → Res := fun args _ => match args with
  | [] => .ok (scv C.unknown) []
  | _ => .fail
theorem k_qUnknown_ok : CtrOk Tryz.prog Gw 81 k_qUnknown := by
  refine ⟨fun _ _ => by kernel_rfl, fun args M => ?_⟩
  unfold k_qUnknown
  split
  · refine ctr_flat (Γ := ⟨[(118, k_rUnknown)], eqs, [], [], [], mixs, meqs⟩) (sv := scv C.unknown) st_Gw ⟨(okCons k_rUnknown_ok okNil), eqs_ok, okNilB, okNilI, okNilP, mixs_ok, meqs_ok⟩ Tryz.func81 rfl mixed [] (by kernel_rfl) 10000 (by rfl) ?_
    (conv => whnf)
    (repeat' (first | (refine And.intro (fun hb => ?_) (fun hb => ?_) <;> (first | contradiction | (conv => whnf))) | (refine And.intro ?_ ?_; rotate_left 1; (conv => whnf))))
    all_goals (first | rfl | trivial | ((try dsimp only at *); (try simp only [Bool.not_eq_true', Bool.not_eq_false', bne, ite_uv] at *); (simp only [eqv, eqv1, eqv2, eqvL1, eqvL2, *, C.unknown, bne, Bool.and_true, Bool.true_and, Bool.and_false, Bool.false_and, Bool.or_true, Bool.true_or, Bool.or_false, Bool.false_or, Bool.not_true, Bool.not_false, if_true, if_false, Bool.false_eq_true, beq_self_eq_true]; done)) | ((try dsimp only at *); (try simp only [Bool.not_eq_true', Bool.not_eq_false', bne] at *); simp only [eqv, eqv1, eqv2, eqvL1, eqvL2, *, C.unknown, bne, Bool.and_true, Bool.true_and, Bool.and_false, Bool.false_and, Bool.or_true, Bool.true_or, Bool.or_false, Bool.false_or, Bool.not_true, Bool.not_false, if_true, if_false, Bool.false_eq_true, beq_self_eq_true]; rfl) | (simp_all [eqv, eqv1, eqv2, eqvL1, eqvL2, C.unknown]; done))
  · trivial
def k_qRight : List SV → List Blk → Res := fun args _ => match args with
  | [.agg [.u64 av, .u64 am, .u64 alo, .u64 ahi, .int .i64 asl, .int .i64 ash]] => .test (R.inS ⟨alo, ahi, asl, ash⟩) (.ok (.bool (C.right (⟨⟨av, am⟩, ⟨alo, ahi, asl, ash⟩⟩ : Sc))) [])
  | _ => .fail
theorem k_qRight_ok : CtrOk Tryz.prog Gw 112 k_qRight := by
  refine ⟨fun _ _ => by kernel_rfl, fun args M => ?_⟩
  unfold k_qRight
  split
  · rename_i av am alo ahi asl ash
    intro ht
    refine ctr_flat (Γ := ⟨[(121, k_rTog)], eqs, [], [], [], mixs, meqs⟩) (sv := .bool (C.right (⟨⟨av, am⟩, ⟨alo, ahi, asl, ash⟩⟩ : Sc))) st_Gw ⟨(okCons k_rTog_ok okNil), eqs_ok, okNilB, okNilI, okNilP, mixs_ok, meqs_ok⟩ Tryz.func112 rfl mixed [] (by kernel_rfl) 10000 (by rfl) ?_
    (conv => whnf)
    (repeat' (first | (refine And.intro (fun hb => ?_) (fun hb => ?_) <;> (first | contradiction | (conv => whnf))) | (refine And.intro ?_ ?_; rotate_left 1; (conv => whnf))))
    all_goals (first | assumption | first | rfl | trivial | ((try dsimp only at *); (try simp only [Bool.not_eq_true', Bool.not_eq_false', bne, ite_uv] at *); (simp only [eqv, eqv1, eqv2, eqvL1, eqvL2, *, C.right, C.eqc, bne, Bool.and_true, Bool.true_and, Bool.and_false, Bool.false_and, Bool.or_true, Bool.true_or, Bool.or_false, Bool.false_or, Bool.not_true, Bool.not_false, if_true, if_false, Bool.false_eq_true, beq_self_eq_true]; done)) | ((try dsimp only at *); (try simp only [Bool.not_eq_true', Bool.not_eq_false', bne] at *); simp only [eqv, eqv1, eqv2, eqvL1, eqvL2, *, C.right, C.eqc, bne, Bool.and_true, Bool.true_and, Bool.and_false, Bool.false_and, Bool.or_true, Bool.true_or, Bool.or_false, Bool.false_or, Bool.not_true, Bool.not_false, if_true, if_false, Bool.false_eq_true, beq_self_eq_true]; rfl) | (simp_all [eqv, eqv1, eqv2, eqvL1, eqvL2, C.right, C.eqc]; done))
  · trivial
def k_qOne : List SV → List Blk → Res := fun args _ => match args with
  | [.agg [.u64 av, .u64 am, .u64 alo, .u64 ahi, .int .i64 asl, .int .i64 ash]] => .test (R.inS ⟨alo, ahi, asl, ash⟩) (.ok (.tup [.u64 (C.one (⟨⟨av, am⟩, ⟨alo, ahi, asl, ash⟩⟩ : Sc)).1, .bool (C.one (⟨⟨av, am⟩, ⟨alo, ahi, asl, ash⟩⟩ : Sc)).2]) [])
  | _ => .fail
theorem k_qOne_ok : CtrOk Tryz.prog Gw 82 k_qOne := by
  refine ⟨fun _ _ => by kernel_rfl, fun args M => ?_⟩
  unfold k_qOne
  split
  · rename_i av am alo ahi asl ash
    intro ht
    refine ctr_flat (Γ := ⟨[(112, k_qRight)], eqs, [], [], [], mixs, meqs⟩) (sv := .tup [.u64 (C.one (⟨⟨av, am⟩, ⟨alo, ahi, asl, ash⟩⟩ : Sc)).1, .bool (C.one (⟨⟨av, am⟩, ⟨alo, ahi, asl, ash⟩⟩ : Sc)).2]) st_Gw ⟨(okCons k_qRight_ok okNil), eqs_ok, okNilB, okNilI, okNilP, mixs_ok, meqs_ok⟩ Tryz.func82 rfl mixed [] (by kernel_rfl) 10000 (by rfl) ?_
    (conv => whnf)
    (repeat' (first | (refine And.intro (fun hb => ?_) (fun hb => ?_) <;> (first | contradiction | (conv => whnf))) | (refine And.intro ?_ ?_; rotate_left 1; (conv => whnf))))
    all_goals (first | assumption | first | rfl | trivial | ((try dsimp only at *); (try simp only [Bool.not_eq_true', Bool.not_eq_false', bne, ite_uv] at *); (simp only [eqv, eqv1, eqv2, eqvL1, eqvL2, *, C.one, bne, Bool.and_true, Bool.true_and, Bool.and_false, Bool.false_and, Bool.or_true, Bool.true_or, Bool.or_false, Bool.false_or, Bool.not_true, Bool.not_false, if_true, if_false, Bool.false_eq_true, beq_self_eq_true]; done)) | ((try dsimp only at *); (try simp only [Bool.not_eq_true', Bool.not_eq_false', bne] at *); simp only [eqv, eqv1, eqv2, eqvL1, eqvL2, *, C.one, bne, Bool.and_true, Bool.true_and, Bool.and_false, Bool.false_and, Bool.or_true, Bool.true_or, Bool.or_false, Bool.false_or, Bool.not_true, Bool.not_false, if_true, if_false, Bool.false_eq_true, beq_self_eq_true]; rfl) | (simp_all [eqv, eqv1, eqv2, eqvL1, eqvL2, C.one]; done))
  · trivial
def k_cConst : List SV → List Blk → Res := fun args _ => match args with
  | [.u64 n] => .ok (scv (C.const n)) []
  | _ => .fail
theorem k_cConst_ok : CtrOk Tryz.prog Gw 45 k_cConst := by
  refine ⟨fun _ _ => by kernel_rfl, fun args M => ?_⟩
  unfold k_cConst
  split
  · rename_i n
    refine ctr_flat (Γ := ⟨[(93, k_Const), (94, k_sConst)], eqs, [], [], [], mixs, meqs⟩) (sv := scv (C.const n)) st_Gw ⟨(okCons k_Const_ok (okCons k_sConst_ok okNil)), eqs_ok, okNilB, okNilI, okNilP, mixs_ok, meqs_ok⟩ Tryz.func45 rfl mixed [] (by kernel_rfl) 10000 (by rfl) ?_
    (conv => whnf)
    (repeat' (first | (refine And.intro (fun hb => ?_) (fun hb => ?_) <;> (first | contradiction | (conv => whnf))) | (refine And.intro ?_ ?_; rotate_left 1; (conv => whnf))))
    all_goals (first | rfl | trivial | ((try dsimp only at *); (try simp only [Bool.not_eq_true', Bool.not_eq_false', bne, ite_uv] at *); (simp only [eqv, eqv1, eqv2, eqvL1, eqvL2, *, C.const, bne, Bool.and_true, Bool.true_and, Bool.and_false, Bool.false_and, Bool.or_true, Bool.true_or, Bool.or_false, Bool.false_or, Bool.not_true, Bool.not_false, if_true, if_false, Bool.false_eq_true, beq_self_eq_true]; done)) | ((try dsimp only at *); (try simp only [Bool.not_eq_true', Bool.not_eq_false', bne] at *); simp only [eqv, eqv1, eqv2, eqvL1, eqvL2, *, C.const, bne, Bool.and_true, Bool.true_and, Bool.and_false, Bool.false_and, Bool.or_true, Bool.true_or, Bool.or_false, Bool.false_or, Bool.not_true, Bool.not_false, if_true, if_false, Bool.false_eq_true, beq_self_eq_true]; rfl) | (simp_all [eqv, eqv1, eqv2, eqvL1, eqvL2, C.const]; done))
  · trivial
def k_cUnknown : List SV → List Blk → Res := fun args _ => match args with
  | [] => .ok (scv C.unknown) []
  | _ => .fail
theorem k_cUnknown_ok : CtrOk Tryz.prog Gw 90 k_cUnknown := by
  refine ⟨fun _ _ => by kernel_rfl, fun args M => ?_⟩
  unfold k_cUnknown
  split
  · refine ctr_flat (Γ := ⟨[(47, k_Unknown), (140, k_sFull)], eqs, [], [], [], mixs, meqs⟩) (sv := scv C.unknown) st_Gw ⟨(okCons k_Unknown_ok (okCons k_sFull_ok okNil)), eqs_ok, okNilB, okNilI, okNilP, mixs_ok, meqs_ok⟩ Tryz.func90 rfl mixed [] (by kernel_rfl) 10000 (by rfl) ?_
    (conv => whnf)
    (repeat' (first | (refine And.intro (fun hb => ?_) (fun hb => ?_) <;> (first | contradiction | (conv => whnf))) | (refine And.intro ?_ ?_; rotate_left 1; (conv => whnf))))
    all_goals (first | rfl | trivial | ((try dsimp only at *); (try simp only [Bool.not_eq_true', Bool.not_eq_false', bne, ite_uv] at *); (simp only [eqv, eqv1, eqv2, eqvL1, eqvL2, *, C.unknown, bne, Bool.and_true, Bool.true_and, Bool.and_false, Bool.false_and, Bool.or_true, Bool.true_or, Bool.or_false, Bool.false_or, Bool.not_true, Bool.not_false, if_true, if_false, Bool.false_eq_true, beq_self_eq_true]; done)) | ((try dsimp only at *); (try simp only [Bool.not_eq_true', Bool.not_eq_false', bne] at *); simp only [eqv, eqv1, eqv2, eqvL1, eqvL2, *, C.unknown, bne, Bool.and_true, Bool.true_and, Bool.and_false, Bool.false_and, Bool.or_true, Bool.true_or, Bool.or_false, Bool.false_or, Bool.not_true, Bool.not_false, if_true, if_false, Bool.false_eq_true, beq_self_eq_true]; rfl) | (simp_all [eqv, eqv1, eqv2, eqvL1, eqvL2, C.unknown]; done))
  · trivial
def k_cRight : List SV → List Blk → Res := fun args _ => match args with
  | [.agg [.u64 av, .u64 am, .u64 alo, .u64 ahi, .int .i64 asl, .int .i64 ash]] => .test (R.inS ⟨alo, ahi, asl, ash⟩) (.ok (.bool (C.right (⟨⟨av, am⟩, ⟨alo, ahi, asl, ash⟩⟩ : Sc))) [])
  | _ => .fail
theorem k_cRight_ok : CtrOk Tryz.prog Gw 42 k_cRight := by
  refine ⟨fun _ _ => by kernel_rfl, fun args M => ?_⟩
  unfold k_cRight
  split
  · rename_i av am alo ahi asl ash
    intro ht
    refine ctr_flat (Γ := ⟨[(46, k_Of)], eqs, [], [], [], mixs, meqs⟩) (sv := .bool (C.right (⟨⟨av, am⟩, ⟨alo, ahi, asl, ash⟩⟩ : Sc))) st_Gw ⟨(okCons k_Of_ok okNil), eqs_ok, okNilB, okNilI, okNilP, mixs_ok, meqs_ok⟩ Tryz.func42 rfl mixed [] (by kernel_rfl) 10000 (by rfl) ?_
    (conv => whnf)
    (repeat' (first | (refine And.intro (fun hb => ?_) (fun hb => ?_) <;> (first | contradiction | (conv => whnf))) | (refine And.intro ?_ ?_; rotate_left 1; (conv => whnf))))
    all_goals (first | assumption | first | rfl | trivial | ((try dsimp only at *); (try simp only [Bool.not_eq_true', Bool.not_eq_false', bne, ite_uv] at *); (simp only [eqv, eqv1, eqv2, eqvL1, eqvL2, *, C.right, C.eqc, bne, Bool.and_true, Bool.true_and, Bool.and_false, Bool.false_and, Bool.or_true, Bool.true_or, Bool.or_false, Bool.false_or, Bool.not_true, Bool.not_false, if_true, if_false, Bool.false_eq_true, beq_self_eq_true]; done)) | ((try dsimp only at *); (try simp only [Bool.not_eq_true', Bool.not_eq_false', bne] at *); simp only [eqv, eqv1, eqv2, eqvL1, eqvL2, *, C.right, C.eqc, bne, Bool.and_true, Bool.true_and, Bool.and_false, Bool.false_and, Bool.or_true, Bool.true_or, Bool.or_false, Bool.false_or, Bool.not_true, Bool.not_false, if_true, if_false, Bool.false_eq_true, beq_self_eq_true]; rfl) | (simp_all [eqv, eqv1, eqv2, eqvL1, eqvL2, C.right, C.eqc]; done))
  · trivial
def k_cOne : List SV → List Blk → Res := fun args _ => match args with
  | [.agg [.u64 av, .u64 am, .u64 alo, .u64 ahi, .int .i64 asl, .int .i64 ash]] => .test (R.inS ⟨alo, ahi, asl, ash⟩) (.ok (.tup [.u64 (C.one (⟨⟨av, am⟩, ⟨alo, ahi, asl, ash⟩⟩ : Sc)).1, .bool (C.one (⟨⟨av, am⟩, ⟨alo, ahi, asl, ash⟩⟩ : Sc)).2]) [])
  | _ => .fail
theorem k_cOne_ok : CtrOk Tryz.prog Gw 44 k_cOne := by
  refine ⟨fun _ _ => by kernel_rfl, fun args M => ?_⟩
  unfold k_cOne
  split
  · rename_i av am alo ahi asl ash
    intro ht
    refine ctr_flat (Γ := ⟨[(42, k_cRight)], eqs, [], [], [], mixs, meqs⟩) (sv := .tup [.u64 (C.one (⟨⟨av, am⟩, ⟨alo, ahi, asl, ash⟩⟩ : Sc)).1, .bool (C.one (⟨⟨av, am⟩, ⟨alo, ahi, asl, ash⟩⟩ : Sc)).2]) st_Gw ⟨(okCons k_cRight_ok okNil), eqs_ok, okNilB, okNilI, okNilP, mixs_ok, meqs_ok⟩ Tryz.func44 rfl mixed [] (by kernel_rfl) 10000 (by rfl) ?_
    (conv => whnf)
    (repeat' (first | (refine And.intro (fun hb => ?_) (fun hb => ?_) <;> (first | contradiction | (conv => whnf))) | (refine And.intro ?_ ?_; rotate_left 1; (conv => whnf))))
    all_goals (first | assumption | first | rfl | trivial | ((try dsimp only at *); (try simp only [Bool.not_eq_true', Bool.not_eq_false', bne, ite_uv] at *); (simp only [eqv, eqv1, eqv2, eqvL1, eqvL2, *, C.one, bne, Bool.and_true, Bool.true_and, Bool.and_false, Bool.false_and, Bool.or_true, Bool.true_or, Bool.or_false, Bool.false_or, Bool.not_true, Bool.not_false, if_true, if_false, Bool.false_eq_true, beq_self_eq_true]; done)) | ((try dsimp only at *); (try simp only [Bool.not_eq_true', Bool.not_eq_false', bne] at *); simp only [eqv, eqv1, eqv2, eqvL1, eqvL2, *, C.one, bne, Bool.and_true, Bool.true_and, Bool.and_false, Bool.false_and, Bool.or_true, Bool.true_or, Bool.or_false, Bool.false_or, Bool.not_true, Bool.not_false, if_true, if_false, Bool.false_eq_true, beq_self_eq_true]; rfl) | (simp_all [eqv, eqv1, eqv2, eqvL1, eqvL2, C.one]; done))
  · trivial
def k_cLeq : List SV → List Blk → Res := fun args _ => match args with
  | [.agg [.u64 av, .u64 am, .u64 alo, .u64 ahi, .int .i64 asl, .int .i64 ash], .agg [.u64 bv, .u64 bm, .u64 blo, .u64 bhi, .int .i64 bsl, .int .i64 bsh]] => .test (R.inS ⟨alo, ahi, asl, ash⟩ && R.inS ⟨blo, bhi, bsl, bsh⟩) (.ok (.bool (C.leq (⟨⟨av, am⟩, ⟨alo, ahi, asl, ash⟩⟩ : Sc) (⟨⟨bv, bm⟩, ⟨blo, bhi, bsl, bsh⟩⟩ : Sc))) [])
  | _ => .fail
theorem k_cLeq_ok : CtrOk Tryz.prog Gw 14 k_cLeq := by
  refine ⟨fun _ _ => by kernel_rfl, fun args M => ?_⟩
  unfold k_cLeq
  split
  · rename_i av am alo ahi asl ash bv bm blo bhi bsl bsh
    intro ht
    have ha := (Bool.and_eq_true _ _ ▸ ht).1
    have hb2 := (Bool.and_eq_true _ _ ▸ ht).2
    refine ctr_flat (Γ := ⟨[(42, k_cRight), (48, k_Leq), (49, k_sLeq)], eqs, [], [], [], mixs, meqs⟩) (sv := .bool (C.leq (⟨⟨av, am⟩, ⟨alo, ahi, asl, ash⟩⟩ : Sc) (⟨⟨bv, bm⟩, ⟨blo, bhi, bsl, bsh⟩⟩ : Sc))) st_Gw ⟨(okCons k_cRight_ok (okCons k_Leq_ok (okCons k_sLeq_ok okNil))), eqs_ok, okNilB, okNilI, okNilP, mixs_ok, meqs_ok⟩ Tryz.func14 rfl mixed [] (by kernel_rfl) 10000 (by rfl) ?_
    (conv => whnf)
    (repeat' (first | (refine And.intro (fun hb => ?_) (fun hb => ?_) <;> (first | contradiction | (conv => whnf))) | (refine And.intro ?_ ?_; rotate_left 1; (conv => whnf))))
    all_goals (first | assumption | first | rfl | trivial | ((try dsimp only at *); (try simp only [Bool.not_eq_true', Bool.not_eq_false', bne, ite_uv] at *); (simp only [eqv, eqv1, eqv2, eqvL1, eqvL2, *, C.leq, bne, Bool.and_true, Bool.true_and, Bool.and_false, Bool.false_and, Bool.or_true, Bool.true_or, Bool.or_false, Bool.false_or, Bool.not_true, Bool.not_false, if_true, if_false, Bool.false_eq_true, beq_self_eq_true]; done)) | ((try dsimp only at *); (try simp only [Bool.not_eq_true', Bool.not_eq_false', bne] at *); simp only [eqv, eqv1, eqv2, eqvL1, eqvL2, *, C.leq, bne, Bool.and_true, Bool.true_and, Bool.and_false, Bool.false_and, Bool.or_true, Bool.true_or, Bool.or_false, Bool.false_or, Bool.not_true, Bool.not_false, if_true, if_false, Bool.false_eq_true, beq_self_eq_true]; rfl) | (simp_all [eqv, eqv1, eqv2, eqvL1, eqvL2, C.leq]; done))
  · trivial
end Go.Proofs.YtgfemfgimefmeaaGreat
