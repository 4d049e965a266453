import Derived.Test.YtddcaklgflfkeaaGreatDoorPXA
import Derived.Test.YtddcaklgflfkeaaGreatDoorTXA
namespace Go.Proofs.YtddcaklgflfkeaaGreatDoor
open Go.RowKit Go.Sx
set_option linter.unusedSimpArgs false
set_option linter.unusedVariables false
set_option linter.unnecessarySimpa false
set_option maxRecDepth 100000
set_option maxHeartbeats 4000000
theorem eqv_ff (y : Sc) : eqv (.tup [scv y, .ff]) (.tup [scv y, .bool false]) := ⟨⟨rfl, rfl, rfl, rfl, ⟨rfl, rfl⟩, ⟨rfl, rfl⟩, trivial⟩, rfl, trivial⟩
theorem eqv_tt (y : Sc) : eqv (.tup [scv y, .tt]) (.tup [scv y, .bool true]) := ⟨⟨rfl, rfl, rfl, rfl, ⟨rfl, rfl⟩, ⟨rfl, rfl⟩, trivial⟩, rfl, trivial⟩
theorem C.bt {a b : BitVec 64} (h : (a != b) = false) : (a == b) = true := by revert h; unfold bne; cases (a == b) <;> simp
theorem C.bf {a b : BitVec 64} (h : (a != b) = true) : (a == b) = false := by revert h; unfold bne; cases (a == b) <;> simp
theorem C.ct {a b : Bool} (h : (a != b) = false) : (a == b) = true := by revert h; cases a <;> cases b <;> simp
theorem C.cf {a b : Bool} (h : (a != b) = true) : (a == b) = false := by revert h; cases a <;> cases b <;> simp
end Go.Proofs.YtddcaklgflfkeaaGreatDoor
namespace Go.Proofs.YtddcaklgflfkeaaGreatDoor
open Go.RowKit Go.Sx
set_option linter.unusedSimpArgs false
set_option linter.unusedVariables false
set_option linter.unnecessarySimpa false
set_option maxRecDepth 100000
set_option maxHeartbeats 4000000
theorem of_run (av am alo ahi : BitVec 64) (asl ash : Int) (hi : R.inS ⟨alo, ahi, asl, ash⟩ = true) : run Tryz.prog ⟨[(32, k_Right), (33, k_sRight), (105, k_Meet), (106, k_Range)], eqs, [], [(34, Tryz.f34, [(6, 5, [0, 1, 3, 7, 0, 31])]), (77, Tryz.f77, [(1, 10, [0, 1, 3, 7, 0, 16, 48, 112, 0, 0, 783, 2047])]), (103, Tryz.f103, [(1, 12, [0, 0, 0, 4, 12, 0, 60, 0, 128, 384, 0, 1920, 1021, 5117, 16383, 32767]), (2, 6, [0, 1, 3, 0, 8, 24, 63, 127])]), (108, Tryz.f108, [(1, 12, [0, 0, 0, 4, 12, 0, 60, 0, 128, 384, 0, 1920, 1021, 5117, 16383, 32767]), (2, 6, [0, 1, 3, 0, 8, 24, 63, 127])]), (102, Tryz.f102, [(1, 19, [0, 1, 3, 0, 8, 24, 0, 64, 192, 448, 0, 1024, 3072, 7168, 0, 16384, 49152, 114688, 261120, 524287, 1048575])]), (104, Tryz.f104, [(1, 17, [0, 1, 3, 0, 8, 24, 56, 0, 128, 384, 896, 2040, 4095, 8191, 16383, 16383, 0, 98303, 262143])]), (107, Tryz.f107, [(1, 28, [0, 1, 3, 7, 15, 0, 32, 96, 224, 480, 1023, 2047, 4095, 8191, 16383, 4095, 36863, 102399, 4095, 266239, 790527, 1839103, 3936255, 4095, 8392703, 25169919, 58724351, 125833215, 268435455, 536870911, 1073741823])]), (109, Tryz.f109, [(1, 28, [0, 1, 3, 7, 15, 0, 32, 96, 224, 480, 1023, 2047, 4095, 8191, 16383, 4095, 36863, 102399, 4095, 266239, 790527, 1839103, 3936255, 4095, 8392703, 25169919, 58724351, 125833215, 268435455, 536870911, 1073741823])]), (110, Tryz.f110, [])], []⟩ 10000 [] 0 (bodyOf Tryz.f14) (initF Tryz.f14 [.agg [.u64 av, .u64 am], .agg [.u64 alo, .u64 ahi, .int .i64 asl, .int .i64 ash]]) [] (retK Tryz.prog Tryz.f14 fun x _ => eqv x (.tup [scv (C.of ⟨av, am⟩ ⟨alo, ahi, asl, ash⟩).1, .bool (C.of ⟨av, am⟩ ⟨alo, ahi, asl, ash⟩).2])) := by
  (conv => whnf)
  (repeat' (first | (refine And.intro (fun hb => ?_) (fun hb => ?_) <;> (first | contradiction | (conv => whnf))) | (refine And.intro (a := (_ : Bool) = true) ?_ ?_; rotate_left 1; (conv => whnf))))
  all_goals try (rw [C.of_no1 (C.nt (by assumption))]; exact eqv_ff ⟨⟨_, _⟩, ⟨_, _, _, _⟩⟩)
  all_goals try (rw [C.of_no2 (C.nt (by assumption))]; exact eqv_ff ⟨⟨_, _⟩, ⟨_, _, _, _⟩⟩)
  have h1 : T.right ⟨av, am⟩ = true := C.nf (by assumption)
  have h2 : S.good ⟨alo, ahi, asl, ash⟩ = true := C.nf (by assumption)
  have g0 : C.Good ⟨⟨av, am⟩, ⟨alo, ahi, asl, ash⟩⟩ := ⟨h1, (S.good_iff.1 h2).1, (S.good_iff.1 h2).2, hi⟩
  refine .inr ⟨[], [0, 2], fun k vals M => ∃ x : Sc, C.Good x ∧ C.tog x = C.tog ⟨⟨av, am⟩, ⟨alo, ahi, asl, ash⟩⟩ ∧ k = C.mu x ∧ vals = [.ptr 3 0, .ptr 4 0] ∧ M = [.cells 25 [.u64 av, .u64 am], .cells 27 [.u64 alo, .u64 ahi, .int .i64 asl, .int .i64 ash], .cells 29 [.u64 (BitVec.ofInt 64 0), .u64 (BitVec.ofInt 64 0), .u64 (BitVec.ofInt 64 0), .u64 (BitVec.ofInt 64 0), .int .i64 0, .int .i64 0], .cells 78 [.u64 x.t.v, .u64 x.t.m, .u64 x.s.lo, .u64 x.s.hi, .int .i64 x.s.sl, .int .i64 x.s.sh], .cells 4 [.ff]], ?_⟩
  conv => whnf
  refine And.intro ⟨C.mu ⟨⟨av, am⟩, ⟨alo, ahi, asl, ash⟩⟩, _, (mle_cons ble_refl (mle_cons ble_refl (mle_cons ble_refl (mle_cons ble_refl (mle_cons ble_refl mle_nil))))), rfl, rfl, ⟨⟨av, am⟩, ⟨alo, ahi, asl, ash⟩⟩, g0, rfl, rfl, rfl, rfl⟩ ?_
  rintro k vals M1 ⟨x, gx, ht, rfl, rfl, rfl⟩
  (conv => whnf)
  (repeat' (first | (refine .inl ⟨20, ?_⟩; (conv => whnf)) | (refine And.intro (fun hb => ?_) (fun hb => ?_) <;> (first | contradiction | (conv => whnf))) | (refine And.intro (a := (_ : Bool) = true) ?_ ?_; rotate_left 1; (conv => whnf))))
  all_goals try (first | rfl | trivial | (simp; done) | (simp; omega) | (simp at hb ⊢; omega) | (simp only [decide_eq_true_eq, Bool.and_eq_true, Int.toNat_natCast] at *; omega))
  all_goals first
    | (have k1 : C.ok1 x = false := C.nt (by assumption)
       rw [C.of_none h1 h2 (ht.symm.trans (C.tog_none gx (C.st1 k1)))]; exact eqv_ff ⟨⟨_, _⟩, ⟨_, _, _, _⟩⟩)
    | (have k1 : C.ok1 x = true := C.nf (by assumption)
       have k2 : C.ok2 (C.r1 x) = false := C.nt (by assumption)
       rw [C.of_none h1 h2 (ht.symm.trans (C.tog_none gx (C.st2 k1 k2)))]; exact eqv_ff ⟨⟨_, _⟩, ⟨_, _, _, _⟩⟩)
    | (have k1 : C.ok1 x = true := C.nf (by assumption)
       have k2 : C.ok2 (C.r1 x) = true := C.nf (by assumption)
       have kt : C.top (C.r2 (C.r1 x)) = true := C.bt (by assumption)
       have k3 : C.ok3 (C.r2 (C.r1 x)) = false := by (unfold C.ok3; rw [C.r3_t kt]; exact C.nt (by assumption))
       rw [C.of_none h1 h2 (ht.symm.trans (C.tog_none gx (C.st3 k1 k2 k3)))]; exact eqv_ff ⟨⟨_, _⟩, ⟨_, _, _, _⟩⟩)
    | (have k1 : C.ok1 x = true := C.nf (by assumption)
       have k2 : C.ok2 (C.r1 x) = true := C.nf (by assumption)
       have kt : C.top (C.r2 (C.r1 x)) = true := C.bt (by assumption)
       have k3 : C.ok3 (C.r2 (C.r1 x)) = true := by (unfold C.ok3; rw [C.r3_t kt]; exact C.nf (by assumption))
       have ks : C.sgn (C.r3 (C.r2 (C.r1 x))) = true := by (rw [C.r3_t kt]; exact C.ct (by assumption))
       have ey := (show C.r4 (C.r3 (C.r2 (C.r1 x))) = _ from by rw [C.r4_t ks, C.r3_t kt])
       have k4 : C.ok4 (C.r3 (C.r2 (C.r1 x))) = false := by (unfold C.ok4; rw [ey]; exact C.nt (by assumption))
       rw [C.of_none h1 h2 (ht.symm.trans (C.tog_none gx (C.st4 k1 k2 k3 k4)))]; exact eqv_ff ⟨⟨_, _⟩, ⟨_, _, _, _⟩⟩)
    | (have k1 : C.ok1 x = true := C.nf (by assumption)
       have k2 : C.ok2 (C.r1 x) = true := C.nf (by assumption)
       have kt : C.top (C.r2 (C.r1 x)) = true := C.bt (by assumption)
       have k3 : C.ok3 (C.r2 (C.r1 x)) = true := by (unfold C.ok3; rw [C.r3_t kt]; exact C.nf (by assumption))
       have ks : C.sgn (C.r3 (C.r2 (C.r1 x))) = true := by (rw [C.r3_t kt]; exact C.ct (by assumption))
       have ey := (show C.r4 (C.r3 (C.r2 (C.r1 x))) = _ from by rw [C.r4_t ks, C.r3_t kt])
       have k4 : C.ok4 (C.r3 (C.r2 (C.r1 x))) = true := by (unfold C.ok4; rw [ey]; exact C.nf (by assumption))
       have e : C.eqc (C.r4 (C.r3 (C.r2 (C.r1 x)))) x = true := by (rw [ey]; assumption)
       rw [C.of_some h1 h2 (ht.symm.trans (C.tog_eqc gx (C.st5 k1 k2 k3 k4) e)), ey]; exact eqv_tt ⟨⟨_, _⟩, ⟨_, _, _, _⟩⟩)
    | (have k1 : C.ok1 x = true := C.nf (by assumption)
       have k2 : C.ok2 (C.r1 x) = true := C.nf (by assumption)
       have kt : C.top (C.r2 (C.r1 x)) = true := C.bt (by assumption)
       have k3 : C.ok3 (C.r2 (C.r1 x)) = true := by (unfold C.ok3; rw [C.r3_t kt]; exact C.nf (by assumption))
       have ks : C.sgn (C.r3 (C.r2 (C.r1 x))) = true := by (rw [C.r3_t kt]; exact C.ct (by assumption))
       have ey := (show C.r4 (C.r3 (C.r2 (C.r1 x))) = _ from by rw [C.r4_t ks, C.r3_t kt])
       have k4 : C.ok4 (C.r3 (C.r2 (C.r1 x))) = true := by (unfold C.ok4; rw [ey]; exact C.nf (by assumption))
       have e : C.eqc (C.r4 (C.r3 (C.r2 (C.r1 x)))) x = false := by (rw [ey]; assumption)
       obtain ⟨n1, n2, n3⟩ := C.tog_next gx (C.st5 k1 k2 k3 k4) e
       refine ⟨C.mu (C.r4 (C.r3 (C.r2 (C.r1 x)))), [.cells 25 [.u64 av, .u64 am], .cells 27 [.u64 alo, .u64 ahi, .int .i64 asl, .int .i64 ash], .cells 29 [.u64 (BitVec.ofInt 64 0), .u64 (BitVec.ofInt 64 0), .u64 (BitVec.ofInt 64 0), .u64 (BitVec.ofInt 64 0), .int .i64 0, .int .i64 0], .cells 78 [.u64 (C.r4 (C.r3 (C.r2 (C.r1 x)))).t.v, .u64 (C.r4 (C.r3 (C.r2 (C.r1 x)))).t.m, .u64 (C.r4 (C.r3 (C.r2 (C.r1 x)))).s.lo, .u64 (C.r4 (C.r3 (C.r2 (C.r1 x)))).s.hi, .int .i64 (C.r4 (C.r3 (C.r2 (C.r1 x)))).s.sl, .int .i64 (C.r4 (C.r3 (C.r2 (C.r1 x)))).s.sh], .cells 4 [.ff]], [0, 1, 2, 3, 4], n2, rfl, (mle_cons ble_refl (mle_cons ble_refl (mle_cons ble_refl (mle_cons (ble_cells (by rw [ey]; rfl)) (mle_cons ble_refl mle_nil))))), rfl, rfl, C.r4 (C.r3 (C.r2 (C.r1 x))), n3, n1.symm.trans ht, rfl, rfl, rfl⟩)
    | (have k1 : C.ok1 x = true := C.nf (by assumption)
       have k2 : C.ok2 (C.r1 x) = true := C.nf (by assumption)
       have kt : C.top (C.r2 (C.r1 x)) = true := C.bt (by assumption)
       have k3 : C.ok3 (C.r2 (C.r1 x)) = true := by (unfold C.ok3; rw [C.r3_t kt]; exact C.nf (by assumption))
       have ks : C.sgn (C.r3 (C.r2 (C.r1 x))) = false := by (rw [C.r3_t kt]; exact C.cf (by assumption))
       have ey := (show C.r4 (C.r3 (C.r2 (C.r1 x))) = _ from by rw [C.r4_f ks, C.r3_t kt])
       have k4 : C.ok4 (C.r3 (C.r2 (C.r1 x))) = true := by (unfold C.ok4; rw [ey]; exact k1)
       have e : C.eqc (C.r4 (C.r3 (C.r2 (C.r1 x)))) x = true := by (rw [ey]; assumption)
       rw [C.of_some h1 h2 (ht.symm.trans (C.tog_eqc gx (C.st5 k1 k2 k3 k4) e)), ey]; exact eqv_tt ⟨⟨_, _⟩, ⟨_, _, _, _⟩⟩)
    | (have k1 : C.ok1 x = true := C.nf (by assumption)
       have k2 : C.ok2 (C.r1 x) = true := C.nf (by assumption)
       have kt : C.top (C.r2 (C.r1 x)) = true := C.bt (by assumption)
       have k3 : C.ok3 (C.r2 (C.r1 x)) = true := by (unfold C.ok3; rw [C.r3_t kt]; exact C.nf (by assumption))
       have ks : C.sgn (C.r3 (C.r2 (C.r1 x))) = false := by (rw [C.r3_t kt]; exact C.cf (by assumption))
       have ey := (show C.r4 (C.r3 (C.r2 (C.r1 x))) = _ from by rw [C.r4_f ks, C.r3_t kt])
       have k4 : C.ok4 (C.r3 (C.r2 (C.r1 x))) = true := by (unfold C.ok4; rw [ey]; exact k1)
       have e : C.eqc (C.r4 (C.r3 (C.r2 (C.r1 x)))) x = false := by (rw [ey]; assumption)
       obtain ⟨n1, n2, n3⟩ := C.tog_next gx (C.st5 k1 k2 k3 k4) e
       refine ⟨C.mu (C.r4 (C.r3 (C.r2 (C.r1 x)))), [.cells 25 [.u64 av, .u64 am], .cells 27 [.u64 alo, .u64 ahi, .int .i64 asl, .int .i64 ash], .cells 29 [.u64 (BitVec.ofInt 64 0), .u64 (BitVec.ofInt 64 0), .u64 (BitVec.ofInt 64 0), .u64 (BitVec.ofInt 64 0), .int .i64 0, .int .i64 0], .cells 78 [.u64 (C.r4 (C.r3 (C.r2 (C.r1 x)))).t.v, .u64 (C.r4 (C.r3 (C.r2 (C.r1 x)))).t.m, .u64 (C.r4 (C.r3 (C.r2 (C.r1 x)))).s.lo, .u64 (C.r4 (C.r3 (C.r2 (C.r1 x)))).s.hi, .int .i64 (C.r4 (C.r3 (C.r2 (C.r1 x)))).s.sl, .int .i64 (C.r4 (C.r3 (C.r2 (C.r1 x)))).s.sh], .cells 4 [.ff]], [0, 1, 2, 3, 4], n2, rfl, (mle_cons ble_refl (mle_cons ble_refl (mle_cons ble_refl (mle_cons (ble_cells (by rw [ey]; rfl)) (mle_cons ble_refl mle_nil))))), rfl, rfl, C.r4 (C.r3 (C.r2 (C.r1 x))), n3, n1.symm.trans ht, rfl, rfl, rfl⟩)
    | (have k1 : C.ok1 x = true := C.nf (by assumption)
       have k2 : C.ok2 (C.r1 x) = true := C.nf (by assumption)
       have kt : C.top (C.r2 (C.r1 x)) = false := C.bf (by assumption)
       have k3 : C.ok3 (C.r2 (C.r1 x)) = true := by (unfold C.ok3; rw [C.r3_f kt]; exact decide_eq_true gx.g)
       have ks : C.sgn (C.r3 (C.r2 (C.r1 x))) = true := by (rw [C.r3_f kt]; exact C.ct (by assumption))
       have ey := (show C.r4 (C.r3 (C.r2 (C.r1 x))) = _ from by rw [C.r4_t ks, C.r3_f kt])
       have k4 : C.ok4 (C.r3 (C.r2 (C.r1 x))) = false := by (unfold C.ok4; rw [ey]; exact C.nt (by assumption))
       rw [C.of_none h1 h2 (ht.symm.trans (C.tog_none gx (C.st4 k1 k2 k3 k4)))]; exact eqv_ff ⟨⟨_, _⟩, ⟨_, _, _, _⟩⟩)
    | (have k1 : C.ok1 x = true := C.nf (by assumption)
       have k2 : C.ok2 (C.r1 x) = true := C.nf (by assumption)
       have kt : C.top (C.r2 (C.r1 x)) = false := C.bf (by assumption)
       have k3 : C.ok3 (C.r2 (C.r1 x)) = true := by (unfold C.ok3; rw [C.r3_f kt]; exact decide_eq_true gx.g)
       have ks : C.sgn (C.r3 (C.r2 (C.r1 x))) = true := by (rw [C.r3_f kt]; exact C.ct (by assumption))
       have ey := (show C.r4 (C.r3 (C.r2 (C.r1 x))) = _ from by rw [C.r4_t ks, C.r3_f kt])
       have k4 : C.ok4 (C.r3 (C.r2 (C.r1 x))) = true := by (unfold C.ok4; rw [ey]; exact C.nf (by assumption))
       have e : C.eqc (C.r4 (C.r3 (C.r2 (C.r1 x)))) x = true := by (rw [ey]; assumption)
       rw [C.of_some h1 h2 (ht.symm.trans (C.tog_eqc gx (C.st5 k1 k2 k3 k4) e)), ey]; exact eqv_tt ⟨⟨_, _⟩, ⟨_, _, _, _⟩⟩)
    | (have k1 : C.ok1 x = true := C.nf (by assumption)
       have k2 : C.ok2 (C.r1 x) = true := C.nf (by assumption)
       have kt : C.top (C.r2 (C.r1 x)) = false := C.bf (by assumption)
       have k3 : C.ok3 (C.r2 (C.r1 x)) = true := by (unfold C.ok3; rw [C.r3_f kt]; exact decide_eq_true gx.g)
       have ks : C.sgn (C.r3 (C.r2 (C.r1 x))) = true := by (rw [C.r3_f kt]; exact C.ct (by assumption))
       have ey := (show C.r4 (C.r3 (C.r2 (C.r1 x))) = _ from by rw [C.r4_t ks, C.r3_f kt])
       have k4 : C.ok4 (C.r3 (C.r2 (C.r1 x))) = true := by (unfold C.ok4; rw [ey]; exact C.nf (by assumption))
       have e : C.eqc (C.r4 (C.r3 (C.r2 (C.r1 x)))) x = false := by (rw [ey]; assumption)
       obtain ⟨n1, n2, n3⟩ := C.tog_next gx (C.st5 k1 k2 k3 k4) e
       refine ⟨C.mu (C.r4 (C.r3 (C.r2 (C.r1 x)))), [.cells 25 [.u64 av, .u64 am], .cells 27 [.u64 alo, .u64 ahi, .int .i64 asl, .int .i64 ash], .cells 29 [.u64 (BitVec.ofInt 64 0), .u64 (BitVec.ofInt 64 0), .u64 (BitVec.ofInt 64 0), .u64 (BitVec.ofInt 64 0), .int .i64 0, .int .i64 0], .cells 78 [.u64 (C.r4 (C.r3 (C.r2 (C.r1 x)))).t.v, .u64 (C.r4 (C.r3 (C.r2 (C.r1 x)))).t.m, .u64 (C.r4 (C.r3 (C.r2 (C.r1 x)))).s.lo, .u64 (C.r4 (C.r3 (C.r2 (C.r1 x)))).s.hi, .int .i64 (C.r4 (C.r3 (C.r2 (C.r1 x)))).s.sl, .int .i64 (C.r4 (C.r3 (C.r2 (C.r1 x)))).s.sh], .cells 4 [.ff]], [0, 1, 2, 3, 4], n2, rfl, (mle_cons ble_refl (mle_cons ble_refl (mle_cons ble_refl (mle_cons (ble_cells (by rw [ey]; rfl)) (mle_cons ble_refl mle_nil))))), rfl, rfl, C.r4 (C.r3 (C.r2 (C.r1 x))), n3, n1.symm.trans ht, rfl, rfl, rfl⟩)
    | (have k1 : C.ok1 x = true := C.nf (by assumption)
       have k2 : C.ok2 (C.r1 x) = true := C.nf (by assumption)
       have kt : C.top (C.r2 (C.r1 x)) = false := C.bf (by assumption)
       have k3 : C.ok3 (C.r2 (C.r1 x)) = true := by (unfold C.ok3; rw [C.r3_f kt]; exact decide_eq_true gx.g)
       have ks : C.sgn (C.r3 (C.r2 (C.r1 x))) = false := by (rw [C.r3_f kt]; exact C.cf (by assumption))
       have ey := (show C.r4 (C.r3 (C.r2 (C.r1 x))) = _ from by rw [C.r4_f ks, C.r3_f kt])
       have k4 : C.ok4 (C.r3 (C.r2 (C.r1 x))) = true := by (unfold C.ok4; rw [ey]; exact k1)
       have e : C.eqc (C.r4 (C.r3 (C.r2 (C.r1 x)))) x = true := by (rw [ey]; assumption)
       rw [C.of_some h1 h2 (ht.symm.trans (C.tog_eqc gx (C.st5 k1 k2 k3 k4) e)), ey]; exact eqv_tt ⟨⟨_, _⟩, ⟨_, _, _, _⟩⟩)
    | (have k1 : C.ok1 x = true := C.nf (by assumption)
       have k2 : C.ok2 (C.r1 x) = true := C.nf (by assumption)
       have kt : C.top (C.r2 (C.r1 x)) = false := C.bf (by assumption)
       have k3 : C.ok3 (C.r2 (C.r1 x)) = true := by (unfold C.ok3; rw [C.r3_f kt]; exact decide_eq_true gx.g)
       have ks : C.sgn (C.r3 (C.r2 (C.r1 x))) = false := by (rw [C.r3_f kt]; exact C.cf (by assumption))
       have ey := (show C.r4 (C.r3 (C.r2 (C.r1 x))) = _ from by rw [C.r4_f ks, C.r3_f kt])
       have k4 : C.ok4 (C.r3 (C.r2 (C.r1 x))) = true := by (unfold C.ok4; rw [ey]; exact k1)
       have e : C.eqc (C.r4 (C.r3 (C.r2 (C.r1 x)))) x = false := by (rw [ey]; assumption)
       obtain ⟨n1, n2, n3⟩ := C.tog_next gx (C.st5 k1 k2 k3 k4) e
       refine ⟨C.mu (C.r4 (C.r3 (C.r2 (C.r1 x)))), [.cells 25 [.u64 av, .u64 am], .cells 27 [.u64 alo, .u64 ahi, .int .i64 asl, .int .i64 ash], .cells 29 [.u64 (BitVec.ofInt 64 0), .u64 (BitVec.ofInt 64 0), .u64 (BitVec.ofInt 64 0), .u64 (BitVec.ofInt 64 0), .int .i64 0, .int .i64 0], .cells 78 [.u64 (C.r4 (C.r3 (C.r2 (C.r1 x)))).t.v, .u64 (C.r4 (C.r3 (C.r2 (C.r1 x)))).t.m, .u64 (C.r4 (C.r3 (C.r2 (C.r1 x)))).s.lo, .u64 (C.r4 (C.r3 (C.r2 (C.r1 x)))).s.hi, .int .i64 (C.r4 (C.r3 (C.r2 (C.r1 x)))).s.sl, .int .i64 (C.r4 (C.r3 (C.r2 (C.r1 x)))).s.sh], .cells 4 [.ff]], [0, 1, 2, 3, 4], n2, rfl, (mle_cons ble_refl (mle_cons ble_refl (mle_cons ble_refl (mle_cons (ble_cells (by rw [ey]; rfl)) (mle_cons ble_refl mle_nil))))), rfl, rfl, C.r4 (C.r3 (C.r2 (C.r1 x))), n3, n1.symm.trans ht, rfl, rfl, rfl⟩)
def k_Of : List SV → List Blk → Res := fun args _ => match args with
  | [.agg [.u64 av, .u64 am], .agg [.u64 alo, .u64 ahi, .int .i64 asl, .int .i64 ash]] => .test (R.inS ⟨alo, ahi, asl, ash⟩) (.ok (.tup [scv (C.of ⟨av, am⟩ ⟨alo, ahi, asl, ash⟩).1, .bool (C.of ⟨av, am⟩ ⟨alo, ahi, asl, ash⟩).2]) [])
  | _ => .fail
theorem k_Of_ok : CtrOk Tryz.prog Gw 14 k_Of := by
  refine ⟨fun _ _ => by kernel_rfl, fun args M => ?_⟩
  unfold k_Of
  split
  · rename_i av am alo ahi asl ash
    intro ht
    exact ctr_flat (Γ := ⟨[(32, k_Right), (33, k_sRight), (105, k_Meet), (106, k_Range)], eqs, [], [(34, Tryz.f34, [(6, 5, [0, 1, 3, 7, 0, 31])]), (77, Tryz.f77, [(1, 10, [0, 1, 3, 7, 0, 16, 48, 112, 0, 0, 783, 2047])]), (103, Tryz.f103, [(1, 12, [0, 0, 0, 4, 12, 0, 60, 0, 128, 384, 0, 1920, 1021, 5117, 16383, 32767]), (2, 6, [0, 1, 3, 0, 8, 24, 63, 127])]), (108, Tryz.f108, [(1, 12, [0, 0, 0, 4, 12, 0, 60, 0, 128, 384, 0, 1920, 1021, 5117, 16383, 32767]), (2, 6, [0, 1, 3, 0, 8, 24, 63, 127])]), (102, Tryz.f102, [(1, 19, [0, 1, 3, 0, 8, 24, 0, 64, 192, 448, 0, 1024, 3072, 7168, 0, 16384, 49152, 114688, 261120, 524287, 1048575])]), (104, Tryz.f104, [(1, 17, [0, 1, 3, 0, 8, 24, 56, 0, 128, 384, 896, 2040, 4095, 8191, 16383, 16383, 0, 98303, 262143])]), (107, Tryz.f107, [(1, 28, [0, 1, 3, 7, 15, 0, 32, 96, 224, 480, 1023, 2047, 4095, 8191, 16383, 4095, 36863, 102399, 4095, 266239, 790527, 1839103, 3936255, 4095, 8392703, 25169919, 58724351, 125833215, 268435455, 536870911, 1073741823])]), (109, Tryz.f109, [(1, 28, [0, 1, 3, 7, 15, 0, 32, 96, 224, 480, 1023, 2047, 4095, 8191, 16383, 4095, 36863, 102399, 4095, 266239, 790527, 1839103, 3936255, 4095, 8392703, 25169919, 58724351, 125833215, 268435455, 536870911, 1073741823])]), (110, Tryz.f110, [])], []⟩) (sv := .tup [scv (C.of ⟨av, am⟩ ⟨alo, ahi, asl, ash⟩).1, .bool (C.of ⟨av, am⟩ ⟨alo, ahi, asl, ash⟩).2]) st_Gw ⟨(okCons k_Right_ok (okCons k_sRight_ok (okCons k_Meet_ok (okCons k_Range_ok okNil)))), eqs_ok, okNilB, (okConsI Tryz.func34 rfl (by kernel_rfl) (fun _ _ => by kernel_rfl) (okConsI Tryz.func77 rfl (by kernel_rfl) (fun _ _ => by kernel_rfl) (okConsI Tryz.func103 rfl (by kernel_rfl) (fun _ _ => by kernel_rfl) (okConsI Tryz.func108 rfl (by kernel_rfl) (fun _ _ => by kernel_rfl) (okConsI Tryz.func102 rfl (by kernel_rfl) (fun _ _ => by kernel_rfl) (okConsI Tryz.func104 rfl (by kernel_rfl) (fun _ _ => by kernel_rfl) (okConsI Tryz.func107 rfl (by kernel_rfl) (fun _ _ => by kernel_rfl) (okConsI Tryz.func109 rfl (by kernel_rfl) (fun _ _ => by kernel_rfl) (okConsI Tryz.func110 rfl (by kernel_rfl) (fun _ _ => by kernel_rfl) okNilI))))))))), okNilP⟩ Tryz.func14 rfl mixed [] (by kernel_rfl) 10000 (by rfl) (of_run av am alo ahi asl ash ht)
  · trivial
end Go.Proofs.YtddcaklgflfkeaaGreatDoor
namespace Go.Proofs.YtddcaklgflfkeaaGreatDoor
open Go.RowKit Go.Sx
set_option linter.unusedSimpArgs false
set_option linter.unusedVariables false
set_option linter.unnecessarySimpa false
set_option maxRecDepth 100000
set_option maxHeartbeats 4000000
def k_cConst : List SV → List Blk → Res := fun args _ => match args with
  | [.u64 n] => .ok (scv (C.const n)) []
  | _ => .fail
theorem k_cConst_ok : CtrOk Tryz.prog Gw 9 k_cConst := by
  refine ⟨fun _ _ => by kernel_rfl, fun args M => ?_⟩
  unfold k_cConst
  split
  · rename_i n
    refine ctr_flat (Γ := ⟨[(24, k_Const), (25, k_sConst)], eqs, [], [], []⟩) (sv := scv (C.const n)) st_Gw ⟨(okCons k_Const_ok (okCons k_sConst_ok okNil)), eqs_ok, okNilB, okNilI, okNilP⟩ Tryz.func9 rfl mixed [] (by kernel_rfl) 10000 (by rfl) ?_
    (conv => whnf)
    (repeat' (first | (refine And.intro (fun hb => ?_) (fun hb => ?_) <;> (first | contradiction | (conv => whnf))) | (refine And.intro ?_ ?_; rotate_left 1; (conv => whnf))))
    all_goals (first | rfl | trivial | ((try dsimp only at *); (try simp only [Bool.not_eq_true', Bool.not_eq_false', bne, ite_uv] at *); (simp only [eqv, eqv1, eqv2, eqvL1, eqvL2, *, C.const, bne, Bool.and_true, Bool.true_and, Bool.and_false, Bool.false_and, Bool.or_true, Bool.true_or, Bool.or_false, Bool.false_or, Bool.not_true, Bool.not_false, if_true, if_false, Bool.false_eq_true, beq_self_eq_true]; done)) | ((try dsimp only at *); (try simp only [Bool.not_eq_true', Bool.not_eq_false', bne] at *); simp only [eqv, eqv1, eqv2, eqvL1, eqvL2, *, C.const, bne, Bool.and_true, Bool.true_and, Bool.and_false, Bool.false_and, Bool.or_true, Bool.true_or, Bool.or_false, Bool.false_or, Bool.not_true, Bool.not_false, if_true, if_false, Bool.false_eq_true, beq_self_eq_true]; rfl) | (simp_all [eqv, eqv1, eqv2, eqvL1, eqvL2, C.const]; done))
  · trivial
def k_cUnknown : List SV → List Blk → Res := fun args _ => match args with
  | [] => .ok (scv C.unknown) []
  | _ => .fail
theorem k_cUnknown_ok : CtrOk Tryz.prog Gw 15 k_cUnknown := by
  refine ⟨fun _ _ => by kernel_rfl, fun args M => ?_⟩
  unfold k_cUnknown
  split
  · refine ctr_flat (Γ := ⟨[(35, k_Unknown), (36, k_sFull)], eqs, [], [], []⟩) (sv := scv C.unknown) st_Gw ⟨(okCons k_Unknown_ok (okCons k_sFull_ok okNil)), eqs_ok, okNilB, okNilI, okNilP⟩ Tryz.func15 rfl mixed [] (by kernel_rfl) 10000 (by rfl) ?_
    (conv => whnf)
    (repeat' (first | (refine And.intro (fun hb => ?_) (fun hb => ?_) <;> (first | contradiction | (conv => whnf))) | (refine And.intro ?_ ?_; rotate_left 1; (conv => whnf))))
    all_goals (first | rfl | trivial | ((try dsimp only at *); (try simp only [Bool.not_eq_true', Bool.not_eq_false', bne, ite_uv] at *); (simp only [eqv, eqv1, eqv2, eqvL1, eqvL2, *, C.unknown, bne, Bool.and_true, Bool.true_and, Bool.and_false, Bool.false_and, Bool.or_true, Bool.true_or, Bool.or_false, Bool.false_or, Bool.not_true, Bool.not_false, if_true, if_false, Bool.false_eq_true, beq_self_eq_true]; done)) | ((try dsimp only at *); (try simp only [Bool.not_eq_true', Bool.not_eq_false', bne] at *); simp only [eqv, eqv1, eqv2, eqvL1, eqvL2, *, C.unknown, bne, Bool.and_true, Bool.true_and, Bool.and_false, Bool.false_and, Bool.or_true, Bool.true_or, Bool.or_false, Bool.false_or, Bool.not_true, Bool.not_false, if_true, if_false, Bool.false_eq_true, beq_self_eq_true]; rfl) | (simp_all [eqv, eqv1, eqv2, eqvL1, eqvL2, C.unknown]; done))
  · trivial
def k_cRight : List SV → List Blk → Res := fun args _ => match args with
  | [.agg [.u64 av, .u64 am, .u64 alo, .u64 ahi, .int .i64 asl, .int .i64 ash]] => .test (R.inS ⟨alo, ahi, asl, ash⟩) (.ok (.bool (C.right (⟨⟨av, am⟩, ⟨alo, ahi, asl, ash⟩⟩ : Sc))) [])
  | _ => .fail
theorem k_cRight_ok : CtrOk Tryz.prog Gw 19 k_cRight := by
  refine ⟨fun _ _ => by kernel_rfl, fun args M => ?_⟩
  unfold k_cRight
  split
  · rename_i av am alo ahi asl ash
    intro ht
    refine ctr_flat (Γ := ⟨[(14, k_Of)], eqs, [], [], []⟩) (sv := .bool (C.right (⟨⟨av, am⟩, ⟨alo, ahi, asl, ash⟩⟩ : Sc))) st_Gw ⟨(okCons k_Of_ok okNil), eqs_ok, okNilB, okNilI, okNilP⟩ Tryz.func19 rfl mixed [] (by kernel_rfl) 10000 (by rfl) ?_
    (conv => whnf)
    (repeat' (first | (refine And.intro (fun hb => ?_) (fun hb => ?_) <;> (first | contradiction | (conv => whnf))) | (refine And.intro ?_ ?_; rotate_left 1; (conv => whnf))))
    all_goals (first | assumption | first | rfl | trivial | ((try dsimp only at *); (try simp only [Bool.not_eq_true', Bool.not_eq_false', bne, ite_uv] at *); (simp only [eqv, eqv1, eqv2, eqvL1, eqvL2, *, C.right, C.eqc, bne, Bool.and_true, Bool.true_and, Bool.and_false, Bool.false_and, Bool.or_true, Bool.true_or, Bool.or_false, Bool.false_or, Bool.not_true, Bool.not_false, if_true, if_false, Bool.false_eq_true, beq_self_eq_true]; done)) | ((try dsimp only at *); (try simp only [Bool.not_eq_true', Bool.not_eq_false', bne] at *); simp only [eqv, eqv1, eqv2, eqvL1, eqvL2, *, C.right, C.eqc, bne, Bool.and_true, Bool.true_and, Bool.and_false, Bool.false_and, Bool.or_true, Bool.true_or, Bool.or_false, Bool.false_or, Bool.not_true, Bool.not_false, if_true, if_false, Bool.false_eq_true, beq_self_eq_true]; rfl) | (simp_all [eqv, eqv1, eqv2, eqvL1, eqvL2, C.right, C.eqc]; done))
  · trivial
def k_cHas : List SV → List Blk → Res := fun args _ => match args with
  | [.agg [.u64 av, .u64 am, .u64 alo, .u64 ahi, .int .i64 asl, .int .i64 ash], .u64 n] => .test (R.inS ⟨alo, ahi, asl, ash⟩) (.ok (.bool (C.hasb (⟨⟨av, am⟩, ⟨alo, ahi, asl, ash⟩⟩ : Sc) n)) [])
  | _ => .fail
theorem k_cHas_ok : CtrOk Tryz.prog Gw 13 k_cHas := by
  refine ⟨fun _ _ => by kernel_rfl, fun args M => ?_⟩
  unfold k_cHas
  split
  · rename_i av am alo ahi asl ash n
    intro ht
    refine ctr_flat (Γ := ⟨[(19, k_cRight), (30, k_Has), (31, k_sHas)], eqs, [], [], []⟩) (sv := .bool (C.hasb (⟨⟨av, am⟩, ⟨alo, ahi, asl, ash⟩⟩ : Sc) n)) st_Gw ⟨(okCons k_cRight_ok (okCons k_Has_ok (okCons k_sHas_ok okNil))), eqs_ok, okNilB, okNilI, okNilP⟩ Tryz.func13 rfl mixed [] (by kernel_rfl) 10000 (by rfl) ?_
    (conv => whnf)
    (repeat' (first | (refine And.intro (fun hb => ?_) (fun hb => ?_) <;> (first | contradiction | (conv => whnf))) | (refine And.intro ?_ ?_; rotate_left 1; (conv => whnf))))
    all_goals (first | assumption | first | rfl | trivial | ((try dsimp only at *); (try simp only [Bool.not_eq_true', Bool.not_eq_false', bne, ite_uv] at *); (simp only [eqv, eqv1, eqv2, eqvL1, eqvL2, *, C.hasb, bne, Bool.and_true, Bool.true_and, Bool.and_false, Bool.false_and, Bool.or_true, Bool.true_or, Bool.or_false, Bool.false_or, Bool.not_true, Bool.not_false, if_true, if_false, Bool.false_eq_true, beq_self_eq_true]; done)) | ((try dsimp only at *); (try simp only [Bool.not_eq_true', Bool.not_eq_false', bne] at *); simp only [eqv, eqv1, eqv2, eqvL1, eqvL2, *, C.hasb, bne, Bool.and_true, Bool.true_and, Bool.and_false, Bool.false_and, Bool.or_true, Bool.true_or, Bool.or_false, Bool.false_or, Bool.not_true, Bool.not_false, if_true, if_false, Bool.false_eq_true, beq_self_eq_true]; rfl) | (simp_all [eqv, eqv1, eqv2, eqvL1, eqvL2, C.hasb]; done))
  · trivial
def k_cOne : List SV → List Blk → Res := fun args _ => match args with
  | [.agg [.u64 av, .u64 am, .u64 alo, .u64 ahi, .int .i64 asl, .int .i64 ash]] => .test (R.inS ⟨alo, ahi, asl, ash⟩) (.ok (.tup [.u64 (C.one (⟨⟨av, am⟩, ⟨alo, ahi, asl, ash⟩⟩ : Sc)).1, .bool (C.one (⟨⟨av, am⟩, ⟨alo, ahi, asl, ash⟩⟩ : Sc)).2]) [])
  | _ => .fail
theorem k_cOne_ok : CtrOk Tryz.prog Gw 21 k_cOne := by
  refine ⟨fun _ _ => by kernel_rfl, fun args M => ?_⟩
  unfold k_cOne
  split
  · rename_i av am alo ahi asl ash
    intro ht
    refine ctr_flat (Γ := ⟨[(19, k_cRight)], eqs, [], [], []⟩) (sv := .tup [.u64 (C.one (⟨⟨av, am⟩, ⟨alo, ahi, asl, ash⟩⟩ : Sc)).1, .bool (C.one (⟨⟨av, am⟩, ⟨alo, ahi, asl, ash⟩⟩ : Sc)).2]) st_Gw ⟨(okCons k_cRight_ok okNil), eqs_ok, okNilB, okNilI, okNilP⟩ Tryz.func21 rfl mixed [] (by kernel_rfl) 10000 (by rfl) ?_
    (conv => whnf)
    (repeat' (first | (refine And.intro (fun hb => ?_) (fun hb => ?_) <;> (first | contradiction | (conv => whnf))) | (refine And.intro ?_ ?_; rotate_left 1; (conv => whnf))))
    all_goals (first | assumption | first | rfl | trivial | ((try dsimp only at *); (try simp only [Bool.not_eq_true', Bool.not_eq_false', bne, ite_uv] at *); (simp only [eqv, eqv1, eqv2, eqvL1, eqvL2, *, C.one, bne, Bool.and_true, Bool.true_and, Bool.and_false, Bool.false_and, Bool.or_true, Bool.true_or, Bool.or_false, Bool.false_or, Bool.not_true, Bool.not_false, if_true, if_false, Bool.false_eq_true, beq_self_eq_true]; done)) | ((try dsimp only at *); (try simp only [Bool.not_eq_true', Bool.not_eq_false', bne] at *); simp only [eqv, eqv1, eqv2, eqvL1, eqvL2, *, C.one, bne, Bool.and_true, Bool.true_and, Bool.and_false, Bool.false_and, Bool.or_true, Bool.true_or, Bool.or_false, Bool.false_or, Bool.not_true, Bool.not_false, if_true, if_false, Bool.false_eq_true, beq_self_eq_true]; rfl) | (simp_all [eqv, eqv1, eqv2, eqvL1, eqvL2, C.one]; done))
  · trivial
def k_cLeq : List SV → List Blk → Res := fun args _ => match args with
  | [.agg [.u64 av, .u64 am, .u64 alo, .u64 ahi, .int .i64 asl, .int .i64 ash], .agg [.u64 bv, .u64 bm, .u64 blo, .u64 bhi, .int .i64 bsl, .int .i64 bsh]] => .test (R.inS ⟨alo, ahi, asl, ash⟩ && R.inS ⟨blo, bhi, bsl, bsh⟩) (.ok (.bool (C.leq (⟨⟨av, am⟩, ⟨alo, ahi, asl, ash⟩⟩ : Sc) (⟨⟨bv, bm⟩, ⟨blo, bhi, bsl, bsh⟩⟩ : Sc))) [])
  | _ => .fail
theorem k_cLeq_ok : CtrOk Tryz.prog Gw 85 k_cLeq := by
  refine ⟨fun _ _ => by kernel_rfl, fun args M => ?_⟩
  unfold k_cLeq
  split
  · rename_i av am alo ahi asl ash bv bm blo bhi bsl bsh
    intro ht
    have ha := (Bool.and_eq_true _ _ ▸ ht).1
    have hb2 := (Bool.and_eq_true _ _ ▸ ht).2
    refine ctr_flat (Γ := ⟨[(19, k_cRight), (119, k_Leq), (73, k_sLeq)], eqs, [], [], []⟩) (sv := .bool (C.leq (⟨⟨av, am⟩, ⟨alo, ahi, asl, ash⟩⟩ : Sc) (⟨⟨bv, bm⟩, ⟨blo, bhi, bsl, bsh⟩⟩ : Sc))) st_Gw ⟨(okCons k_cRight_ok (okCons k_Leq_ok (okCons k_sLeq_ok okNil))), eqs_ok, okNilB, okNilI, okNilP⟩ Tryz.func85 rfl mixed [] (by kernel_rfl) 10000 (by rfl) ?_
    (conv => whnf)
    (repeat' (first | (refine And.intro (fun hb => ?_) (fun hb => ?_) <;> (first | contradiction | (conv => whnf))) | (refine And.intro ?_ ?_; rotate_left 1; (conv => whnf))))
    all_goals (first | assumption | first | rfl | trivial | ((try dsimp only at *); (try simp only [Bool.not_eq_true', Bool.not_eq_false', bne, ite_uv] at *); (simp only [eqv, eqv1, eqv2, eqvL1, eqvL2, *, C.leq, bne, Bool.and_true, Bool.true_and, Bool.and_false, Bool.false_and, Bool.or_true, Bool.true_or, Bool.or_false, Bool.false_or, Bool.not_true, Bool.not_false, if_true, if_false, Bool.false_eq_true, beq_self_eq_true]; done)) | ((try dsimp only at *); (try simp only [Bool.not_eq_true', Bool.not_eq_false', bne] at *); simp only [eqv, eqv1, eqv2, eqvL1, eqvL2, *, C.leq, bne, Bool.and_true, Bool.true_and, Bool.and_false, Bool.false_and, Bool.or_true, Bool.true_or, Bool.or_false, Bool.false_or, Bool.not_true, Bool.not_false, if_true, if_false, Bool.false_eq_true, beq_self_eq_true]; rfl) | (simp_all [eqv, eqv1, eqv2, eqvL1, eqvL2, C.leq]; done))
  · trivial
end Go.Proofs.YtddcaklgflfkeaaGreatDoor
namespace Go.Proofs.YtddcaklgflfkeaaGreatDoor
open Go.RowKit Go.Sx
set_option linter.unusedSimpArgs false
set_option linter.unusedVariables false
set_option linter.unnecessarySimpa false
set_option maxRecDepth 100000
set_option maxHeartbeats 4000000
def k_Ext : List SV → List Blk → Res := fun args _ => match args with
  | [.u64 a, .int .i64 n, .bool sg] => .ok (.tup [.u64 (W.extB a n sg).1, .bool (W.extB a n sg).2]) []
  | [.u64 a, .int .i64 n, .tt] => .ok (.tup [.u64 (W.extB a n true).1, .bool (W.extB a n true).2]) []
  | [.u64 a, .int .i64 n, .ff] => .ok (.tup [.u64 (W.extB a n false).1, .bool (W.extB a n false).2]) []
  | _ => .fail
theorem k_Ext_ok : CtrOk Tryz.prog Gw 176 k_Ext := by
  refine ⟨fun _ _ => by kernel_rfl, fun args M => ?_⟩
  unfold k_Ext
  split
  · rename_i a n sg
    refine ctr_flat (Γ := ⟨[], eqs, [], [], []⟩) (sv := .tup [.u64 (W.extB a n sg).1, .bool (W.extB a n sg).2]) st_Gw ⟨okNil, eqs_ok, okNilB, okNilI, okNilP⟩ Tryz.func176 rfl mixed [] (by kernel_rfl) 10000 (by rfl) ?_
    (conv => whnf)
    (repeat' (first | (refine And.intro (fun hb => ?_) (fun hb => ?_) <;> (first | contradiction | (conv => whnf))) | (refine And.intro ?_ ?_; rotate_left 1; (conv => whnf))))
    all_goals ((try simp only [beq_iff_eq, beq_eq_false_iff_ne, bne_iff_ne, bne_eq_false_iff_eq, ne_eq] at *) <;> (try subst_vars) <;> first | exact W.x_t64 a | rfl | trivial | decide | exact W.x_f8 a | exact W.x_t8 a | exact W.x_f16 a | exact W.x_t16 a | exact W.x_f32 a | exact W.x_t32 a | exact W.y_f8 a | exact W.y_f16 a | exact W.y_f32 a | exact W.y_t8 a (W.y_neg8 a ▸ beq_iff_eq.2 (by assumption)) | exact W.y_u8 a (W.y_neg8 a ▸ beq_eq_false_iff_ne.2 (by assumption)) | exact W.y_t16 a (W.y_neg16 a ▸ beq_iff_eq.2 (by assumption)) | exact W.y_u16 a (W.y_neg16 a ▸ beq_eq_false_iff_ne.2 (by assumption)) | exact W.y_t32 a (W.y_neg32 a ▸ beq_iff_eq.2 (by assumption)) | exact W.y_u32 a (W.y_neg32 a ▸ beq_eq_false_iff_ne.2 (by assumption)) | (exact absurd (by assumption) (by decide)) | (simp_all [eqv, eqv1, eqv2, W.extB]; done))
  · rename_i a n
    refine ctr_flat (Γ := ⟨[], eqs, [], [], []⟩) (sv := .tup [.u64 (W.extB a n true).1, .bool (W.extB a n true).2]) st_Gw ⟨okNil, eqs_ok, okNilB, okNilI, okNilP⟩ Tryz.func176 rfl mixed [] (by kernel_rfl) 10000 (by rfl) ?_
    (conv => whnf)
    (repeat' (first | (refine And.intro (fun hb => ?_) (fun hb => ?_) <;> (first | contradiction | (conv => whnf))) | (refine And.intro ?_ ?_; rotate_left 1; (conv => whnf))))
    all_goals ((try simp only [beq_iff_eq, beq_eq_false_iff_ne, bne_iff_ne, bne_eq_false_iff_eq, ne_eq] at *) <;> (try subst_vars) <;> first | exact W.x_t64 a | rfl | trivial | decide | exact W.x_f8 a | exact W.x_t8 a | exact W.x_f16 a | exact W.x_t16 a | exact W.x_f32 a | exact W.x_t32 a | exact W.y_f8 a | exact W.y_f16 a | exact W.y_f32 a | exact W.y_t8 a (W.y_neg8 a ▸ beq_iff_eq.2 (by assumption)) | exact W.y_u8 a (W.y_neg8 a ▸ beq_eq_false_iff_ne.2 (by assumption)) | exact W.y_t16 a (W.y_neg16 a ▸ beq_iff_eq.2 (by assumption)) | exact W.y_u16 a (W.y_neg16 a ▸ beq_eq_false_iff_ne.2 (by assumption)) | exact W.y_t32 a (W.y_neg32 a ▸ beq_iff_eq.2 (by assumption)) | exact W.y_u32 a (W.y_neg32 a ▸ beq_eq_false_iff_ne.2 (by assumption)) | (exact absurd (by assumption) (by decide)) | (simp_all [eqv, eqv1, eqv2, W.extB]; done))
  · rename_i a n
    refine ctr_flat (Γ := ⟨[], eqs, [], [], []⟩) (sv := .tup [.u64 (W.extB a n false).1, .bool (W.extB a n false).2]) st_Gw ⟨okNil, eqs_ok, okNilB, okNilI, okNilP⟩ Tryz.func176 rfl mixed [] (by kernel_rfl) 10000 (by rfl) ?_
    (conv => whnf)
    (repeat' (first | (refine And.intro (fun hb => ?_) (fun hb => ?_) <;> (first | contradiction | (conv => whnf))) | (refine And.intro ?_ ?_; rotate_left 1; (conv => whnf))))
    all_goals ((try simp only [beq_iff_eq, beq_eq_false_iff_ne, bne_iff_ne, bne_eq_false_iff_eq, ne_eq] at *) <;> (try subst_vars) <;> first | exact W.x_t64 a | rfl | trivial | decide | exact W.x_f8 a | exact W.x_t8 a | exact W.x_f16 a | exact W.x_t16 a | exact W.x_f32 a | exact W.x_t32 a | exact W.y_f8 a | exact W.y_f16 a | exact W.y_f32 a | exact W.y_t8 a (W.y_neg8 a ▸ beq_iff_eq.2 (by assumption)) | exact W.y_u8 a (W.y_neg8 a ▸ beq_eq_false_iff_ne.2 (by assumption)) | exact W.y_t16 a (W.y_neg16 a ▸ beq_iff_eq.2 (by assumption)) | exact W.y_u16 a (W.y_neg16 a ▸ beq_eq_false_iff_ne.2 (by assumption)) | exact W.y_t32 a (W.y_neg32 a ▸ beq_iff_eq.2 (by assumption)) | exact W.y_u32 a (W.y_neg32 a ▸ beq_eq_false_iff_ne.2 (by assumption)) | (exact absurd (by assumption) (by decide)) | (simp_all [eqv, eqv1, eqv2, W.extB]; done))
  · trivial
def k_xExt : List SV → List Blk → Res := fun args _ => match args with
  | [.u64 a, .int .i64 n, .bool sg] => .ok (.tup [.u64 (W.extB a n sg).1, .bool (W.extB a n sg).2]) []
  | [.u64 a, .int .i64 n, .tt] => .ok (.tup [.u64 (W.extB a n true).1, .bool (W.extB a n true).2]) []
  | [.u64 a, .int .i64 n, .ff] => .ok (.tup [.u64 (W.extB a n false).1, .bool (W.extB a n false).2]) []
  | _ => .fail
theorem k_xExt_ok : CtrOk Tryz.prog Gw 219 k_xExt := by
  refine ⟨fun _ _ => by kernel_rfl, fun args M => ?_⟩
  unfold k_xExt
  split
  · rename_i a n sg
    refine ctr_flat (Γ := ⟨[], eqs, [], [(184, Tryz.f184, []), (188, Tryz.f188, []), (216, Tryz.f216, [])], []⟩) (sv := .tup [.u64 (W.extB a n sg).1, .bool (W.extB a n sg).2]) st_Gw ⟨okNil, eqs_ok, okNilB, (okConsI Tryz.func184 rfl (by kernel_rfl) (fun _ _ => by kernel_rfl) (okConsI Tryz.func188 rfl (by kernel_rfl) (fun _ _ => by kernel_rfl) (okConsI Tryz.func216 rfl (by kernel_rfl) (fun _ _ => by kernel_rfl) okNilI))), okNilP⟩ Tryz.func219 rfl mixed [] (by kernel_rfl) 10000 (by rfl) ?_
    (conv => whnf)
    (repeat' (first | (refine .inl ⟨20, ?_⟩; (conv => whnf)) | (refine And.intro (fun hb => ?_) (fun hb => ?_) <;> (first | contradiction | (conv => whnf))) | (refine And.intro ?_ ?_; rotate_left 1; (conv => whnf))))
    all_goals ((try simp only [beq_iff_eq, beq_eq_false_iff_ne, bne_iff_ne, bne_eq_false_iff_eq, ne_eq] at *) <;> (try subst_vars) <;> first | exact W.x_t64 a | rfl | trivial | decide | exact W.x_f8 a | exact W.x_t8 a | exact W.x_f16 a | exact W.x_t16 a | exact W.x_f32 a | exact W.x_t32 a | exact W.y_f8 a | exact W.y_f16 a | exact W.y_f32 a | exact W.y_t8 a (W.y_neg8 a ▸ beq_iff_eq.2 (by assumption)) | exact W.y_u8 a (W.y_neg8 a ▸ beq_eq_false_iff_ne.2 (by assumption)) | exact W.y_t16 a (W.y_neg16 a ▸ beq_iff_eq.2 (by assumption)) | exact W.y_u16 a (W.y_neg16 a ▸ beq_eq_false_iff_ne.2 (by assumption)) | exact W.y_t32 a (W.y_neg32 a ▸ beq_iff_eq.2 (by assumption)) | exact W.y_u32 a (W.y_neg32 a ▸ beq_eq_false_iff_ne.2 (by assumption)) | (exact absurd (by assumption) (by decide)) | (simp_all [eqv, eqv1, eqv2, W.extB]; done))
  · rename_i a n
    refine ctr_flat (Γ := ⟨[], eqs, [], [(184, Tryz.f184, []), (188, Tryz.f188, []), (216, Tryz.f216, [])], []⟩) (sv := .tup [.u64 (W.extB a n true).1, .bool (W.extB a n true).2]) st_Gw ⟨okNil, eqs_ok, okNilB, (okConsI Tryz.func184 rfl (by kernel_rfl) (fun _ _ => by kernel_rfl) (okConsI Tryz.func188 rfl (by kernel_rfl) (fun _ _ => by kernel_rfl) (okConsI Tryz.func216 rfl (by kernel_rfl) (fun _ _ => by kernel_rfl) okNilI))), okNilP⟩ Tryz.func219 rfl mixed [] (by kernel_rfl) 10000 (by rfl) ?_
    (conv => whnf)
    (repeat' (first | (refine .inl ⟨20, ?_⟩; (conv => whnf)) | (refine And.intro (fun hb => ?_) (fun hb => ?_) <;> (first | contradiction | (conv => whnf))) | (refine And.intro ?_ ?_; rotate_left 1; (conv => whnf))))
    all_goals ((try simp only [beq_iff_eq, beq_eq_false_iff_ne, bne_iff_ne, bne_eq_false_iff_eq, ne_eq] at *) <;> (try subst_vars) <;> first | exact W.x_t64 a | rfl | trivial | decide | exact W.x_f8 a | exact W.x_t8 a | exact W.x_f16 a | exact W.x_t16 a | exact W.x_f32 a | exact W.x_t32 a | exact W.y_f8 a | exact W.y_f16 a | exact W.y_f32 a | exact W.y_t8 a (W.y_neg8 a ▸ beq_iff_eq.2 (by assumption)) | exact W.y_u8 a (W.y_neg8 a ▸ beq_eq_false_iff_ne.2 (by assumption)) | exact W.y_t16 a (W.y_neg16 a ▸ beq_iff_eq.2 (by assumption)) | exact W.y_u16 a (W.y_neg16 a ▸ beq_eq_false_iff_ne.2 (by assumption)) | exact W.y_t32 a (W.y_neg32 a ▸ beq_iff_eq.2 (by assumption)) | exact W.y_u32 a (W.y_neg32 a ▸ beq_eq_false_iff_ne.2 (by assumption)) | (exact absurd (by assumption) (by decide)) | (simp_all [eqv, eqv1, eqv2, W.extB]; done))
  · rename_i a n
    refine ctr_flat (Γ := ⟨[], eqs, [], [(184, Tryz.f184, []), (188, Tryz.f188, []), (216, Tryz.f216, [])], []⟩) (sv := .tup [.u64 (W.extB a n false).1, .bool (W.extB a n false).2]) st_Gw ⟨okNil, eqs_ok, okNilB, (okConsI Tryz.func184 rfl (by kernel_rfl) (fun _ _ => by kernel_rfl) (okConsI Tryz.func188 rfl (by kernel_rfl) (fun _ _ => by kernel_rfl) (okConsI Tryz.func216 rfl (by kernel_rfl) (fun _ _ => by kernel_rfl) okNilI))), okNilP⟩ Tryz.func219 rfl mixed [] (by kernel_rfl) 10000 (by rfl) ?_
    (conv => whnf)
    (repeat' (first | (refine .inl ⟨20, ?_⟩; (conv => whnf)) | (refine And.intro (fun hb => ?_) (fun hb => ?_) <;> (first | contradiction | (conv => whnf))) | (refine And.intro ?_ ?_; rotate_left 1; (conv => whnf))))
    all_goals ((try simp only [beq_iff_eq, beq_eq_false_iff_ne, bne_iff_ne, bne_eq_false_iff_eq, ne_eq] at *) <;> (try subst_vars) <;> first | exact W.x_t64 a | rfl | trivial | decide | exact W.x_f8 a | exact W.x_t8 a | exact W.x_f16 a | exact W.x_t16 a | exact W.x_f32 a | exact W.x_t32 a | exact W.y_f8 a | exact W.y_f16 a | exact W.y_f32 a | exact W.y_t8 a (W.y_neg8 a ▸ beq_iff_eq.2 (by assumption)) | exact W.y_u8 a (W.y_neg8 a ▸ beq_eq_false_iff_ne.2 (by assumption)) | exact W.y_t16 a (W.y_neg16 a ▸ beq_iff_eq.2 (by assumption)) | exact W.y_u16 a (W.y_neg16 a ▸ beq_eq_false_iff_ne.2 (by assumption)) | exact W.y_t32 a (W.y_neg32 a ▸ beq_iff_eq.2 (by assumption)) | exact W.y_u32 a (W.y_neg32 a ▸ beq_eq_false_iff_ne.2 (by assumption)) | (exact absurd (by assumption) (by decide)) | (simp_all [eqv, eqv1, eqv2, W.extB]; done))
  · trivial
namespace C
/-- What lies under top, of x. -/
def cut (x : Sc) (n : Int) (top : BitVec 64) : Sc := if decide (x.s.hi < top) then x else (of (T.low x.t n).1 ⟨BitVec.ofInt 64 0, top - BitVec.ofInt 64 1, 0, sv (top - BitVec.ofInt 64 1)⟩).1
theorem top_in (a b : BitVec 64) (x : BitVec 64) : R.inS ⟨a, b, 0, sv x⟩ = true := S.inS_iff.2 ⟨⟨by show (-9223372036854775808 : Int) ≤ 0; decide, by show (0 : Int) ≤ 9223372036854775807; decide⟩, S.sv_in x⟩
theorem cut_in {x : Sc} (h : R.inS x.s = true) (n : Int) (top : BitVec 64) : R.inS (cut x n top).s = true := by
  unfold cut
  split
  · exact h
  · exact of_in (top_in _ _ _)
theorem wrap_in (x : Int) : -9223372036854775808 ≤ IntKind.i64.wrap x ∧ IntKind.i64.wrap x ≤ 9223372036854775807 := by
  simp only [IntKind.wrap, IntKind.signed, IntKind.bits, Bool.true_and, decide_eq_true_eq]
  constructor <;> split
  · rename_i h; have h := of_decide_eq_true h; omega
  · rename_i h; have h : ¬ (x % 2 ^ 64 ≥ 2 ^ (64 - 1)) := fun e => h (decide_eq_true e)
    omega
  · rename_i h; have h := of_decide_eq_true h; omega
  · rename_i h; have h : ¬ (x % 2 ^ 64 ≥ 2 ^ (64 - 1)) := fun e => h (decide_eq_true e)
    omega
theorem wraps_in (a b : BitVec 64) (x y : Int) : R.inS ⟨a, b, IntKind.i64.wrap x, IntKind.i64.wrap y⟩ = true := S.inS_iff.2 ⟨wrap_in x, wrap_in y⟩
def tops (n : Int) : BitVec 64 := BitVec.ofInt 64 1 <<< (IntKind.i64.wrap (8 * n)).toNat
/-- All that may come of so many bytes with a sign. -/
def wide (p : BitVec 64) : Sc × Bool := of ⟨0, BitVec.allOnes 64⟩ ⟨BitVec.ofInt 64 0, BitVec.ofInt 64 18446744073709551615, IntKind.i64.wrap (0 - sv (p / BitVec.ofInt 64 2)), IntKind.i64.wrap (sv (p / BitVec.ofInt 64 2) - 1)⟩
def tail (x : Sc) (n : Int) (sg : Bool) (p : BitVec 64) : Sc × Bool :=
  if sg then (if decide ((cut x n p).s.hi < p / BitVec.ofInt 64 2) then (cut x n p, true) else if (one (cut x n p)).2 then (const (W.extB (one (cut x n p)).1 n true).1, true) else wide p) else (cut x n p, true)
/-- The lowest bytes of a scalar. -/
def low (x : Sc) (n : Int) (sg : Bool) : Sc × Bool := if (W.extB (BitVec.ofInt 64 0) n sg).2 then (if right x then (if n == 8 then (x, true) else tail x n sg (tops n)) else ((⟨⟨BitVec.ofInt 64 0, BitVec.ofInt 64 0⟩, ⟨BitVec.ofInt 64 0, BitVec.ofInt 64 0, 0, 0⟩⟩ : Sc), false)) else ((⟨⟨BitVec.ofInt 64 0, BitVec.ofInt 64 0⟩, ⟨BitVec.ofInt 64 0, BitVec.ofInt 64 0, 0, 0⟩⟩ : Sc), false)
theorem ext_n {a : BitVec 64} {n : Int} {sg : Bool} (h : (W.extB a n sg).2 = true) : n = 1 ∨ n = 2 ∨ n = 4 ∨ n = 8 := by
  unfold W.extB at h
  by_cases h1 : n = 1
  · exact .inl h1
  by_cases h2 : n = 2
  · exact .inr (.inl h2)
  by_cases h3 : n = 4
  · exact .inr (.inr (.inl h3))
  by_cases h4 : n = 8
  · exact .inr (.inr (.inr h4))
  rw [if_neg (by simpa using h1), if_neg (by simpa using h2), if_neg (by simpa using h3), if_neg (by simpa using h4)] at h
  cases h
theorem n_ext {a : BitVec 64} {n : Int} {sg : Bool} (h : n = 1 ∨ n = 2 ∨ n = 4 ∨ n = 8) : (W.extB a n sg).2 = true := by
  rcases h with rfl | rfl | rfl | rfl <;> rfl
theorem sh_ok {a : BitVec 64} {n : Int} {sg : Bool} (h : (W.extB a n sg).2 = true) : decide (0 ≤ IntKind.i64.wrap (8 * n)) = true := by
  rcases ext_n h with rfl | rfl | rfl | rfl <;> decide
section
variable {x : Sc} {n : Int} {sg : Bool}
theorem low_no1 (h : (W.extB (BitVec.ofInt 64 0) n sg).2 = false) : low x n sg = ((⟨⟨BitVec.ofInt 64 0, BitVec.ofInt 64 0⟩, ⟨BitVec.ofInt 64 0, BitVec.ofInt 64 0, 0, 0⟩⟩ : Sc), false) := by unfold low; rw [h]; rfl
theorem low_no2 (h : right x = false) : low x n sg = ((⟨⟨BitVec.ofInt 64 0, BitVec.ofInt 64 0⟩, ⟨BitVec.ofInt 64 0, BitVec.ofInt 64 0, 0, 0⟩⟩ : Sc), false) := by unfold low; rw [h]; cases (W.extB (BitVec.ofInt 64 0) n sg).2 <;> rfl
variable (h1 : (W.extB (BitVec.ofInt 64 0) n sg).2 = true) (h2 : right x = true)
include h1 h2
theorem low_8 (h : (n == 8) = true) : low x n sg = (x, true) := by unfold low; rw [h1, h2, h]; rfl
theorem low_tail (h : (n == 8) = false) : low x n sg = tail x n sg (tops n) := by unfold low; rw [h1, h2, h]; rfl
theorem low_u (h : (n == 8) = false) (hs : sg = false) : low x n sg = (cut x n (tops n), true) := by rw [low_tail h1 h2 h]; unfold tail; rw [hs]; rfl
theorem low_v (h : (n == 8) = false) (hs : sg = true) (hv : decide ((cut x n (tops n)).s.hi < tops n / BitVec.ofInt 64 2) = true) : low x n sg = (cut x n (tops n), true) := by rw [low_tail h1 h2 h]; unfold tail; rw [hs, hv]; rfl
theorem low_one (h : (n == 8) = false) (hs : sg = true) (hv : decide ((cut x n (tops n)).s.hi < tops n / BitVec.ofInt 64 2) = false) (ho : (one (cut x n (tops n))).2 = true) : low x n sg = (const (W.extB (one (cut x n (tops n))).1 n true).1, true) := by rw [low_tail h1 h2 h]; unfold tail; rw [hs, hv, ho]; rfl
theorem low_w (h : (n == 8) = false) (hs : sg = true) (hv : decide ((cut x n (tops n)).s.hi < tops n / BitVec.ofInt 64 2) = false) (ho : (one (cut x n (tops n))).2 = false) : low x n sg = wide (tops n) := by rw [low_tail h1 h2 h]; unfold tail; rw [hs, hv, ho]; rfl
end
end C
theorem eqv_b (y : Sc) (b : Bool) : eqv (.tup [scv y, .bool b]) (.tup [scv y, .bool b]) := ⟨⟨rfl, rfl, rfl, rfl, ⟨rfl, rfl⟩, ⟨rfl, rfl⟩, trivial⟩, rfl, trivial⟩
def k_cCut : List SV → List Blk → Res := fun args _ => match args with
  | [.agg [.u64 av, .u64 am, .u64 alo, .u64 ahi, .int .i64 asl, .int .i64 ash], .int .i64 n, .u64 top] => .test (R.inS ⟨alo, ahi, asl, ash⟩) (.ok (scv (C.cut (⟨⟨av, am⟩, ⟨alo, ahi, asl, ash⟩⟩ : Sc) n top)) [])
  | _ => .fail
theorem k_cCut_ok : CtrOk Tryz.prog Gw 177 k_cCut := by
  refine ⟨fun _ _ => by kernel_rfl, fun args M => ?_⟩
  unfold k_cCut
  split
  · rename_i av am alo ahi asl ash n top
    intro ht
    refine ctr_flat (Γ := ⟨[(212, k_Low), (14, k_Of)], eqs, [], [], []⟩) (sv := scv (C.cut (⟨⟨av, am⟩, ⟨alo, ahi, asl, ash⟩⟩ : Sc) n top)) st_Gw ⟨(okCons k_Low_ok (okCons k_Of_ok okNil)), eqs_ok, okNilB, okNilI, okNilP⟩ Tryz.func177 rfl mixed [] (by kernel_rfl) 10000 (by rfl) ?_
    (conv => whnf)
    (repeat' (first | (refine And.intro (fun hb => ?_) (fun hb => ?_) <;> (first | contradiction | (conv => whnf))) | (refine And.intro ?_ ?_; rotate_left 1; (conv => whnf))))
    all_goals (first | assumption | exact C.top_in _ _ _ | first | rfl | trivial | ((try dsimp only at *); (try simp only [Bool.not_eq_true', Bool.not_eq_false', bne, ite_uv] at *); (simp only [eqv, eqv1, eqv2, eqvL1, eqvL2, *, C.cut, bne, Bool.and_true, Bool.true_and, Bool.and_false, Bool.false_and, Bool.or_true, Bool.true_or, Bool.or_false, Bool.false_or, Bool.not_true, Bool.not_false, if_true, if_false, Bool.false_eq_true, beq_self_eq_true]; done)) | ((try dsimp only at *); (try simp only [Bool.not_eq_true', Bool.not_eq_false', bne] at *); simp only [eqv, eqv1, eqv2, eqvL1, eqvL2, *, C.cut, bne, Bool.and_true, Bool.true_and, Bool.and_false, Bool.false_and, Bool.or_true, Bool.true_or, Bool.or_false, Bool.false_or, Bool.not_true, Bool.not_false, if_true, if_false, Bool.false_eq_true, beq_self_eq_true]; rfl) | (simp_all [eqv, eqv1, eqv2, eqvL1, eqvL2, C.cut]; done))
  · trivial
def k_cLow : List SV → List Blk → Res := fun args _ => match args with
  | [.agg [.u64 av, .u64 am, .u64 alo, .u64 ahi, .int .i64 asl, .int .i64 ash], .int .i64 n, .bool sg] => .test (R.inS ⟨alo, ahi, asl, ash⟩) (.ok (.tup [scv (C.low (⟨⟨av, am⟩, ⟨alo, ahi, asl, ash⟩⟩ : Sc) n sg).1, .bool (C.low (⟨⟨av, am⟩, ⟨alo, ahi, asl, ash⟩⟩ : Sc) n sg).2]) [])
  | [.agg [.u64 av, .u64 am, .u64 alo, .u64 ahi, .int .i64 asl, .int .i64 ash], .int .i64 n, .tt] => .test (R.inS ⟨alo, ahi, asl, ash⟩) (.ok (.tup [scv (C.low (⟨⟨av, am⟩, ⟨alo, ahi, asl, ash⟩⟩ : Sc) n true).1, .bool (C.low (⟨⟨av, am⟩, ⟨alo, ahi, asl, ash⟩⟩ : Sc) n true).2]) [])
  | [.agg [.u64 av, .u64 am, .u64 alo, .u64 ahi, .int .i64 asl, .int .i64 ash], .int .i64 n, .ff] => .test (R.inS ⟨alo, ahi, asl, ash⟩) (.ok (.tup [scv (C.low (⟨⟨av, am⟩, ⟨alo, ahi, asl, ash⟩⟩ : Sc) n false).1, .bool (C.low (⟨⟨av, am⟩, ⟨alo, ahi, asl, ash⟩⟩ : Sc) n false).2]) [])
  | _ => .fail
theorem k_cLow_ok : CtrOk Tryz.prog Gw 96 k_cLow := by
  refine ⟨fun _ _ => by kernel_rfl, fun args M => ?_⟩
  unfold k_cLow
  split
  · rename_i av am alo ahi asl ash n sg
    intro ht
    refine ctr_flat (Γ := ⟨[(176, k_Ext), (19, k_cRight), (177, k_cCut), (21, k_cOne), (9, k_cConst), (35, k_Unknown), (14, k_Of)], eqs, [], [], []⟩) (sv := .tup [scv (C.low (⟨⟨av, am⟩, ⟨alo, ahi, asl, ash⟩⟩ : Sc) n sg).1, .bool (C.low (⟨⟨av, am⟩, ⟨alo, ahi, asl, ash⟩⟩ : Sc) n sg).2]) st_Gw ⟨(okCons k_Ext_ok (okCons k_cRight_ok (okCons k_cCut_ok (okCons k_cOne_ok (okCons k_cConst_ok (okCons k_Unknown_ok (okCons k_Of_ok okNil))))))), eqs_ok, okNilB, okNilI, okNilP⟩ Tryz.func96 rfl mixed [] (by kernel_rfl) 10000 (by rfl) ?_
    (conv => whnf)
    (repeat' (first | (refine step_t (by first | rfl | assumption) ?_; (conv => whnf)) | (refine step_f (by first | rfl | assumption) ?_; (conv => whnf)) | (refine step_nt (by assumption) ?_; (conv => whnf)) | (refine step_nf (by assumption) ?_; (conv => whnf)) | (refine step_n (fun hb => ?_) (fun hb => ?_) <;> (first | contradiction | (conv => whnf))) | (refine And.intro (fun hb => ?_) (fun hb => ?_) <;> (first | contradiction | (conv => whnf))) | (refine And.intro (a := (_ : Bool) = true) ?_ ?_; rotate_left 1; (conv => whnf))))
    all_goals (first | rfl | assumption | exact C.cut_in (by first | assumption | rfl) _ _ | exact C.wraps_in _ _ _ _ | exact C.sh_ok (by first | assumption | rfl) | (rw [C.low_no1 (by first | assumption | rfl)]; exact eqv_ff ⟨⟨_, _⟩, ⟨_, _, _, _⟩⟩) | (rw [C.low_no2 (by first | assumption | rfl)]; exact eqv_ff ⟨⟨_, _⟩, ⟨_, _, _, _⟩⟩) | (rw [C.low_8 (by first | assumption | rfl) (by first | assumption | rfl) (by first | assumption | rfl)]; exact eqv_tt ⟨⟨_, _⟩, ⟨_, _, _, _⟩⟩) | (rw [C.low_u (by first | assumption | rfl) (by first | assumption | rfl) (by first | assumption | rfl) (by first | assumption | rfl)]; exact eqv_tt _) | (rw [C.low_v (by first | assumption | rfl) (by first | assumption | rfl) (by first | assumption | rfl) (by first | assumption | rfl) (by first | assumption | rfl)]; exact eqv_tt _) | (rw [C.low_one (by first | assumption | rfl) (by first | assumption | rfl) (by first | assumption | rfl) (by first | assumption | rfl) (by first | assumption | rfl) (by first | assumption | rfl)]; exact eqv_tt _) | (rw [C.low_w (by first | assumption | rfl) (by first | assumption | rfl) (by first | assumption | rfl) (by first | assumption | rfl) (by first | assumption | rfl) (by first | assumption | rfl)]; exact eqv_b _ _) )
  · rename_i av am alo ahi asl ash n
    intro ht
    refine ctr_flat (Γ := ⟨[(176, k_Ext), (19, k_cRight), (177, k_cCut), (21, k_cOne), (9, k_cConst), (35, k_Unknown), (14, k_Of)], eqs, [], [], []⟩) (sv := .tup [scv (C.low (⟨⟨av, am⟩, ⟨alo, ahi, asl, ash⟩⟩ : Sc) n true).1, .bool (C.low (⟨⟨av, am⟩, ⟨alo, ahi, asl, ash⟩⟩ : Sc) n true).2]) st_Gw ⟨(okCons k_Ext_ok (okCons k_cRight_ok (okCons k_cCut_ok (okCons k_cOne_ok (okCons k_cConst_ok (okCons k_Unknown_ok (okCons k_Of_ok okNil))))))), eqs_ok, okNilB, okNilI, okNilP⟩ Tryz.func96 rfl mixed [] (by kernel_rfl) 10000 (by rfl) ?_
    (conv => whnf)
    (repeat' (first | (refine step_t (by first | rfl | assumption) ?_; (conv => whnf)) | (refine step_f (by first | rfl | assumption) ?_; (conv => whnf)) | (refine step_nt (by assumption) ?_; (conv => whnf)) | (refine step_nf (by assumption) ?_; (conv => whnf)) | (refine step_n (fun hb => ?_) (fun hb => ?_) <;> (first | contradiction | (conv => whnf))) | (refine And.intro (fun hb => ?_) (fun hb => ?_) <;> (first | contradiction | (conv => whnf))) | (refine And.intro (a := (_ : Bool) = true) ?_ ?_; rotate_left 1; (conv => whnf))))
    all_goals (first | rfl | assumption | exact C.cut_in (by first | assumption | rfl) _ _ | exact C.wraps_in _ _ _ _ | exact C.sh_ok (by first | assumption | rfl) | (rw [C.low_no1 (by first | assumption | rfl)]; exact eqv_ff ⟨⟨_, _⟩, ⟨_, _, _, _⟩⟩) | (rw [C.low_no2 (by first | assumption | rfl)]; exact eqv_ff ⟨⟨_, _⟩, ⟨_, _, _, _⟩⟩) | (rw [C.low_8 (by first | assumption | rfl) (by first | assumption | rfl) (by first | assumption | rfl)]; exact eqv_tt ⟨⟨_, _⟩, ⟨_, _, _, _⟩⟩) | (rw [C.low_u (by first | assumption | rfl) (by first | assumption | rfl) (by first | assumption | rfl) (by first | assumption | rfl)]; exact eqv_tt _) | (rw [C.low_v (by first | assumption | rfl) (by first | assumption | rfl) (by first | assumption | rfl) (by first | assumption | rfl) (by first | assumption | rfl)]; exact eqv_tt _) | (rw [C.low_one (by first | assumption | rfl) (by first | assumption | rfl) (by first | assumption | rfl) (by first | assumption | rfl) (by first | assumption | rfl) (by first | assumption | rfl)]; exact eqv_tt _) | (rw [C.low_w (by first | assumption | rfl) (by first | assumption | rfl) (by first | assumption | rfl) (by first | assumption | rfl) (by first | assumption | rfl) (by first | assumption | rfl)]; exact eqv_b _ _) )
  · rename_i av am alo ahi asl ash n
    intro ht
    refine ctr_flat (Γ := ⟨[(176, k_Ext), (19, k_cRight), (177, k_cCut), (21, k_cOne), (9, k_cConst), (35, k_Unknown), (14, k_Of)], eqs, [], [], []⟩) (sv := .tup [scv (C.low (⟨⟨av, am⟩, ⟨alo, ahi, asl, ash⟩⟩ : Sc) n false).1, .bool (C.low (⟨⟨av, am⟩, ⟨alo, ahi, asl, ash⟩⟩ : Sc) n false).2]) st_Gw ⟨(okCons k_Ext_ok (okCons k_cRight_ok (okCons k_cCut_ok (okCons k_cOne_ok (okCons k_cConst_ok (okCons k_Unknown_ok (okCons k_Of_ok okNil))))))), eqs_ok, okNilB, okNilI, okNilP⟩ Tryz.func96 rfl mixed [] (by kernel_rfl) 10000 (by rfl) ?_
    (conv => whnf)
    (repeat' (first | (refine step_t (by first | rfl | assumption) ?_; (conv => whnf)) | (refine step_f (by first | rfl | assumption) ?_; (conv => whnf)) | (refine step_nt (by assumption) ?_; (conv => whnf)) | (refine step_nf (by assumption) ?_; (conv => whnf)) | (refine step_n (fun hb => ?_) (fun hb => ?_) <;> (first | contradiction | (conv => whnf))) | (refine And.intro (fun hb => ?_) (fun hb => ?_) <;> (first | contradiction | (conv => whnf))) | (refine And.intro (a := (_ : Bool) = true) ?_ ?_; rotate_left 1; (conv => whnf))))
    all_goals (first | rfl | assumption | exact C.cut_in (by first | assumption | rfl) _ _ | exact C.wraps_in _ _ _ _ | exact C.sh_ok (by first | assumption | rfl) | (rw [C.low_no1 (by first | assumption | rfl)]; exact eqv_ff ⟨⟨_, _⟩, ⟨_, _, _, _⟩⟩) | (rw [C.low_no2 (by first | assumption | rfl)]; exact eqv_ff ⟨⟨_, _⟩, ⟨_, _, _, _⟩⟩) | (rw [C.low_8 (by first | assumption | rfl) (by first | assumption | rfl) (by first | assumption | rfl)]; exact eqv_tt ⟨⟨_, _⟩, ⟨_, _, _, _⟩⟩) | (rw [C.low_u (by first | assumption | rfl) (by first | assumption | rfl) (by first | assumption | rfl) (by first | assumption | rfl)]; exact eqv_tt _) | (rw [C.low_v (by first | assumption | rfl) (by first | assumption | rfl) (by first | assumption | rfl) (by first | assumption | rfl) (by first | assumption | rfl)]; exact eqv_tt _) | (rw [C.low_one (by first | assumption | rfl) (by first | assumption | rfl) (by first | assumption | rfl) (by first | assumption | rfl) (by first | assumption | rfl) (by first | assumption | rfl)]; exact eqv_tt _) | (rw [C.low_w (by first | assumption | rfl) (by first | assumption | rfl) (by first | assumption | rfl) (by first | assumption | rfl) (by first | assumption | rfl) (by first | assumption | rfl)]; exact eqv_b _ _) )
  · trivial
namespace C
theorem bits_and {t : Tn} {n : BitVec 64} (h : T.has t n = true) (m : BitVec 64) : T.has ⟨t.v &&& m, t.m &&& m⟩ (n &&& m) = true := T.has_iff.2 fun i hi => by
  have := T.has_bit h i
  simp only [BitVec.getLsbD_and]
  revert this
  cases t.v.getLsbD i <;> cases t.m.getLsbD i <;> cases m.getLsbD i <;> cases n.getLsbD i <;> simp
theorem xt_and (n : BitVec 64) (k : Nat) (hk : k < 64) : W.xt n k false = n &&& BitVec.ofNat 64 (2 ^ k - 1) := by
  show BitVec.ofNat 64 (n.toNat % 2 ^ k) = _
  apply BitVec.eq_of_toNat_eq
  have h1 : n.toNat % 2 ^ k < 2 ^ 64 := Nat.lt_of_le_of_lt (Nat.mod_le ..) n.isLt
  have h2 : 2 ^ k - 1 < 2 ^ 64 := by have := Nat.pow_lt_pow_right (a := 2) (by omega) hk; omega
  rw [BitVec.toNat_and, BitVec.toNat_ofNat, BitVec.toNat_ofNat, Nat.mod_eq_of_lt h2, Nat.and_two_pow_sub_one_eq_mod, Nat.mod_eq_of_lt h1]
theorem bits_1 {t : Tn} {n : BitVec 64} (h : T.has t n = true) : T.has (T.low t 1).1 (W.xt n 8 false) = true := by
  have e : T.low t 1 = (⟨t.v &&& 255#64, t.m &&& 255#64⟩, true) := by simp [T.low, T.has_right h]
  rw [e, xt_and n 8 (by omega)]; exact bits_and h _
theorem bits_2 {t : Tn} {n : BitVec 64} (h : T.has t n = true) : T.has (T.low t 2).1 (W.xt n 16 false) = true := by
  have e : T.low t 2 = (⟨t.v &&& 65535#64, t.m &&& 65535#64⟩, true) := by simp [T.low, T.has_right h]
  rw [e, xt_and n 16 (by omega)]; exact bits_and h _
theorem bits_4 {t : Tn} {n : BitVec 64} (h : T.has t n = true) : T.has (T.low t 4).1 (W.xt n 32 false) = true := by
  have e : T.low t 4 = (⟨t.v &&& 4294967295#64, t.m &&& 4294967295#64⟩, true) := by simp [T.low, T.has_right h]
  rw [e, xt_and n 32 (by omega)]; exact bits_and h _
theorem ext_none {a : BitVec 64} {k : Int} {sg : Bool} (h1 : k ≠ 1) (h2 : k ≠ 2) (h4 : k ≠ 4) (h8 : k ≠ 8) : (W.extB a k sg).2 = false := by
  unfold W.extB
  rw [if_neg (by simpa using h1), if_neg (by simpa using h2), if_neg (by simpa using h4), if_neg (by simpa using h8)]
/-- The lowest bytes of a scalar, widened: whether they are; they are a scalar; they have what the words of it come to. -/
theorem low_law {x : Sc} (hx : R.inS x.s = true) (k : Int) (sg : Bool) (n : BitVec 64) : (low x k sg).2 = ((W.extB n k sg).2 && right x) ∧ ((low x k sg).2 = true → right (low x k sg).1 = true) ∧ ((low x k sg).2 = true → hasb x n = true → hasb (low x k sg).1 (W.extB n k sg).1 = true) := by
  cases hr : right x with
  | false => rw [low_no2 hr]; simp
  | true =>
    by_cases h1 : k = 1
    · subst h1
      have e := low_tail (sg := sg) (n := 1) rfl hr rfl
      have e : low x 1 sg = tailG x (T.low x.t 1).1 8 sg (tops 1) := e
      obtain ⟨l1, l2, l3⟩ := tail_law hx hr (l := (T.low x.t 1).1) (p := tops 1) (k := 8) (q := 128) sg (by decide) (by decide) (by rfl) (by rfl) (by kernel_rfl) (by kernel_rfl) (by kernel_rfl)
      rw [e, l1]
      exact ⟨rfl, fun _ => l2, fun _ hn => l3 n hn (bits_1 (hasb_iff.1 hn).2.t)⟩
    by_cases h2 : k = 2
    · subst h2
      have e := low_tail (sg := sg) (n := 2) rfl hr rfl
      have e : low x 2 sg = tailG x (T.low x.t 2).1 16 sg (tops 2) := e
      obtain ⟨l1, l2, l3⟩ := tail_law hx hr (l := (T.low x.t 2).1) (p := tops 2) (k := 16) (q := 32768) sg (by decide) (by decide) (by rfl) (by rfl) (by kernel_rfl) (by kernel_rfl) (by kernel_rfl)
      rw [e, l1]
      exact ⟨rfl, fun _ => l2, fun _ hn => l3 n hn (bits_2 (hasb_iff.1 hn).2.t)⟩
    by_cases h4 : k = 4
    · subst h4
      have e := low_tail (sg := sg) (n := 4) rfl hr rfl
      have e : low x 4 sg = tailG x (T.low x.t 4).1 32 sg (tops 4) := e
      obtain ⟨l1, l2, l3⟩ := tail_law hx hr (l := (T.low x.t 4).1) (p := tops 4) (k := 32) (q := 2147483648) sg (by decide) (by decide) (by rfl) (by rfl) (by kernel_rfl) (by kernel_rfl) (by kernel_rfl)
      rw [e, l1]
      exact ⟨rfl, fun _ => l2, fun _ hn => l3 n hn (bits_4 (hasb_iff.1 hn).2.t)⟩
    by_cases h8 : k = 8
    · subst h8
      rw [low_8 (sg := sg) (n := 8) rfl hr rfl]
      exact ⟨rfl, fun _ => hr, fun _ hn => hn⟩
    · rw [low_no1 (ext_none h1 h2 h4 h8), ext_none h1 h2 h4 h8]
      exact ⟨rfl, (fun h => by cases h), (fun h => by cases h)⟩
end C
namespace C
theorem cmeet_in {a b : Sc} (ha : R.inS a.s = true) (hb : R.inS b.s = true) : R.inS (meet a b).1.s = true := by
  unfold meet
  split
  · exact of_in (meet_in ha hb)
  · rfl
theorem const_ins (n : BitVec 64) : R.inS (const n).s = true := S.inS_iff.2 ⟨S.sv_in n, S.sv_in n⟩
theorem low_in {x : Sc} (hx : R.inS x.s = true) (k : Int) (sg : Bool) : R.inS (low x k sg).1.s = true := by
  unfold low
  split
  · split
    · split
      · exact hx
      · unfold tail
        split
        · split
          · exact cut_in hx _ _
          · split
            · exact const_ins _
            · exact of_in (wraps_in _ _ _ _)
        · exact cut_in hx _ _
    · rfl
  · rfl
theorem and2 {a b : Bool} (h : a = true) (k : b = true) : (a && b) = true := by rw [h, k]; rfl
theorem and4 {a b c d : Bool} (h : a = true) (k : b = true) (l : c = true) (m : d = true) : (a && (b && (c && d))) = true := by rw [h, k, l, m]; rfl
end C
namespace S
theorem and_true2 {a b : Bool} (h : (a && b) = true) : a = true ∧ b = true := by rw [Bool.and_eq_true] at h; exact h
theorem i64_in (x : Int) : -9223372036854775808 ≤ IntKind.i64.wrap x ∧ IntKind.i64.wrap x ≤ 9223372036854775807 := C.wrap_in x
theorem maxI_of {a b : Int} : maxI a b = a ∨ maxI a b = b := by unfold maxI; split <;> simp
theorem minI_of {a b : Int} : minI a b = a ∨ minI a b = b := by unfold minI; split <;> simp
/-- What an operation makes of numbers of 64 bits lies within 64 bits. -/
theorem does_in {op : Int} {a b : Sp} (ha : R.inS a = true) (hb : R.inS b = true) : R.inS (does op a b).1 = true := by
  have h1 := inS_iff.1 ha; have h2 := inS_iff.1 hb
  have ks : ∀ x : BitVec 64, -9223372036854775808 ≤ sv x ∧ sv x ≤ 9223372036854775807 := sv_in
  have kw := i64_in
  have key : ∀ f, way op = some f → R.inS (f a b) = true := by
    intro f hf
    unfold way at hf
    split at hf
    · obtain rfl := Option.some.inj hf
      refine inS_iff.2 ?_
      unfold add sums
      simp only []
      split
      · simp
      · exact ⟨kw _, kw _⟩
    split at hf
    · obtain rfl := Option.some.inj hf
      refine inS_iff.2 ?_
      unfold less
      simp only []
      split <;> first | exact ⟨kw _, kw _⟩ | simp
    split at hf
    · obtain rfl := Option.some.inj hf
      refine inS_iff.2 ?_
      unfold times
      simp only []
      split <;> first | exact ⟨kw _, ks _⟩ | simp
    split at hf
    · obtain rfl := Option.some.inj hf
      refine inS_iff.2 ?_
      unfold quotient
      simp
    split at hf
    · obtain rfl := Option.some.inj hf
      refine inS_iff.2 ?_
      unfold rest
      simp
    split at hf
    · obtain rfl := Option.some.inj hf
      refine inS_iff.2 ?_
      unfold and
      simp only [minI_eq]
      split <;> split <;> simp only [] <;> omega
    split at hf
    · obtain rfl := Option.some.inj hf
      refine inS_iff.2 ?_
      unfold or2 or
      simp only [maxI_eq]
      split
      · exact ⟨by simp only []; omega, ks _⟩
      · simp
    split at hf
    · obtain rfl := Option.some.inj hf
      refine inS_iff.2 ?_
      unfold xor or
      simp only []
      split
      · exact ⟨by simp, ks _⟩
      · simp
    · cases hf
  unfold does
  split
  · rename_i f hf
    split
    · exact key f hf
    · rfl
  · rfl
theorem fdiv_in {x : Int} (k : Nat) (h : -9223372036854775808 ≤ x ∧ x ≤ 9223372036854775807) : -9223372036854775808 ≤ x.fdiv (2 ^ k) ∧ x.fdiv (2 ^ k) ≤ 9223372036854775807 := by
  have hp : (0 : Int) < 2 ^ k := Int.pow_pos (by decide)
  have h1 : (1 : Int) ≤ 2 ^ k := hp
  have hd := Int.mul_fdiv_add_fmod x (2 ^ k)
  have hm := Int.fmod_nonneg_of_pos x hp
  have hl := Int.fmod_lt_of_pos x hp
  generalize x.fdiv (2 ^ k) = q at *
  generalize x.fmod (2 ^ k) = r at *
  generalize (2 : Int) ^ k = p at *
  constructor
  · refine Classical.byContradiction fun hc => ?_
    have : q ≤ -9223372036854775809 := by omega
    have h3 : p * q ≤ p * (-9223372036854775809) := Int.mul_le_mul_of_nonneg_left this (by omega)
    have : p * (-9223372036854775809) ≤ -9223372036854775809 - (p - 1) := by omega
    omega
  · refine Classical.byContradiction fun hc => ?_
    have : 9223372036854775808 ≤ q := by omega
    have h3 : p * 9223372036854775808 ≤ p * q := Int.mul_le_mul_of_nonneg_left this (by omega)
    omega
theorem shift_in {op : Int} {a : Sp} {k : Int} (ha : R.inS a = true) : R.inS (shift op a k).1 = true := by
  have h1 := inS_iff.1 ha
  have kw := i64_in
  unfold shift
  split
  · rfl
  · split
    · exact ha
    · split
      · exact inS_iff.2 ⟨⟨by show (-9223372036854775808 : Int) ≤ 0; decide, by show (0 : Int) ≤ 9223372036854775807; decide⟩, fdiv_in (x := 9223372036854775807) _ ⟨by decide, by decide⟩⟩
      · split
        · exact inS_iff.2 ⟨fdiv_in _ h1.1, fdiv_in _ h1.2⟩
        · refine inS_iff.2 ?_
          simp only []
          split <;> first | exact ⟨kw _, kw _⟩ | simp [full]
end S
namespace A
open C
def any : Tn := ⟨0, BitVec.allOnes 64⟩
/-- A scalar of both; anything, if there is none. -/
def ofm (t : Tn) (s : Sp) : Sc := if (C.of t s).2 then (C.of t s).1 else C.unknown
def upTo (h : BitVec 64) : Sc := ofm any ⟨BitVec.ofInt 64 0, h, -9223372036854775808, 9223372036854775807⟩
def low4 (s : Sc) : Sc := if (C.low s 4 false).2 then (C.low s 4 false).1 else C.unknown
def tdo (op : Int) (a b : Tn) : Tn := if (T.doesI op a b).2 then (T.doesI op a b).1 else any
def sdo (op : Int) (a b : Sp) : Sp := if (S.does op a b).2 then (S.does op a b).1 else S.full
def both (op : Int) (a b : Sc) : Sc := ofm (tdo op a.t b.t) (sdo op a.s b.s)
def tsh (op : Int) (a : Tn) (k : Int) : Tn := if (T.shift op a k).2 then (T.shift op a k).1 else any
def ssh (op : Int) (a : Sp) (k : Int) : Sp := if (S.shift op a k).2 then (S.shift op a k).1 else S.full
def shifted (op : Int) (a : Sc) (k : Int) : Sc := ofm (tsh op a.t k) (ssh op a.s k)
section
variable {t : Tn} {s : Sp} {n : BitVec 64}
theorem full_in : R.inS S.full = true := by rfl
theorem unknown_in : R.inS C.unknown.s = true := by rfl
theorem ofm_right (hs : R.inS s = true) : C.right (ofm t s) = true := by
  unfold ofm
  split
  · rename_i h; exact of_right hs h
  · exact unknown_right
theorem ofm_in (hs : R.inS s = true) : R.inS (ofm t s).s = true := by
  unfold ofm
  split
  · exact of_in hs
  · exact unknown_in
theorem unknown_has (n : BitVec 64) : hasb C.unknown n = true := by
  refine hasb_iff.2 ⟨unknown_right, has_all n, Nat.zero_le _, ?_, (S.sv_in n).1, (S.sv_in n).2⟩
  show n.toNat ≤ (BitVec.ofInt 64 18446744073709551615).toNat
  rw [show (BitVec.ofInt 64 18446744073709551615).toNat = 18446744073709551615 from rfl]
  have := n.isLt; omega
theorem ofm_has (hs : R.inS s = true) (h1 : T.has t n = true) (h2 : S.has s n = true) : hasb (ofm t s) n = true := by
  have h := of_has (t := t) hs n
  rw [h1, h2, Bool.and_self] at h
  have h := h.symm
  rw [Bool.and_eq_true] at h
  unfold ofm
  rw [if_pos h.1]; exact h.2
theorem upTo_in (h : BitVec 64) : R.inS ⟨BitVec.ofInt 64 0, h, -9223372036854775808, 9223372036854775807⟩ = true := by rfl
theorem upTo_has {h : BitVec 64} (hn : n.toNat ≤ h.toNat) : hasb (upTo h) n = true :=
  ofm_has (upTo_in h) (has_all n) (S.has_iff.2 ⟨Nat.zero_le _, Nat.le_refl _, hn, (S.sv_in n).1, Int.le_refl _, (S.sv_in n).2⟩)
theorem upTo_right (h : BitVec 64) : C.right (upTo h) = true := ofm_right (upTo_in h)
theorem full_has : S.has S.full n = true := by
  refine S.has_iff.2 ⟨Nat.zero_le _, Nat.le_refl _, ?_, (S.sv_in n).1, Int.le_refl _, (S.sv_in n).2⟩
  show n.toNat ≤ (BitVec.ofInt 64 18446744073709551615).toNat
  rw [show (BitVec.ofInt 64 18446744073709551615).toNat = 18446744073709551615 from rfl]
  have := n.isLt; omega
end
theorem sdo_in {op : Int} {a b : Sp} (ha : R.inS a = true) (hb : R.inS b = true) : R.inS (sdo op a b) = true := by
  unfold sdo
  split
  · exact S.does_in ha hb
  · rfl
theorem ssh_in {op : Int} {a : Sp} {k : Int} (ha : R.inS a = true) : R.inS (ssh op a k) = true := by
  unfold ssh
  split
  · exact S.shift_in ha
  · rfl
theorem both_right {op : Int} {a b : Sc} (ha : R.inS a.s = true) (hb : R.inS b.s = true) : C.right (both op a b) = true := ofm_right (sdo_in ha hb)
theorem both_in {op : Int} {a b : Sc} (ha : R.inS a.s = true) (hb : R.inS b.s = true) : R.inS (both op a b).s = true := ofm_in (sdo_in ha hb)
theorem both_has {op : Int} {a b : Sc} {n : BitVec 64} (ha : R.inS a.s = true) (hb : R.inS b.s = true) (h1 : T.has (tdo op a.t b.t) n = true) (h2 : S.has (sdo op a.s b.s) n = true) : hasb (both op a b) n = true := ofm_has (sdo_in ha hb) h1 h2
theorem shifted_right {op : Int} {a : Sc} {k : Int} (ha : R.inS a.s = true) : C.right (shifted op a k) = true := ofm_right (ssh_in ha)
theorem shifted_in {op : Int} {a : Sc} {k : Int} (ha : R.inS a.s = true) : R.inS (shifted op a k).s = true := ofm_in (ssh_in ha)
theorem low4_eq {s : Sc} (hs : R.inS s.s = true) (hr : C.right s = true) : low4 s = (C.low s 4 false).1 := by
  unfold low4
  rw [if_pos (by rw [(low_law hs 4 false 0).1, hr]; rfl)]
theorem low4_right {s : Sc} (hs : R.inS s.s = true) (hr : C.right s = true) : C.right (low4 s) = true := by
  rw [low4_eq hs hr]; exact (low_law hs 4 false 0).2.1 (by rw [(low_law hs 4 false 0).1, hr]; rfl)
theorem low4_in {s : Sc} (hs : R.inS s.s = true) : R.inS (low4 s).s = true := by
  unfold low4
  split
  · exact low_in hs 4 false
  · rfl
theorem low4_has {s : Sc} {n : BitVec 64} (hs : R.inS s.s = true) (h : hasb s n = true) : hasb (low4 s) (W.xt n 32 false) = true := by
  rw [low4_eq hs (hasb_iff.1 h).1]; exact (low_law hs 4 false n).2.2 (by rw [(low_law hs 4 false n).1, (hasb_iff.1 h).1]; rfl) h
end A
end Go.Proofs.YtddcaklgflfkeaaGreatDoor
