import Derived.Test.YtddcaklgflfkeaaGreatDoorX35
namespace Go.Proofs.YtddcaklgflfkeaaGreatDoor
open Go.RowKit Go.Sx
set_option linter.unusedSimpArgs false
set_option linter.unusedVariables false
set_option linter.unnecessarySimpa false
set_option maxRecDepth 100000
set_option maxHeartbeats 4000000
attribute [local irreducible] V.touch V.stands R.inS
theorem touch_run (ak : Int) (av am alo ahi : BitVec 64) (asl ash aof amp aid arm : Int) (anu : Bool) (off size mk mkey mval mmax : Int) (v : BitVec 64) (long : Int) (ia : R.inS (⟨⟨av, am⟩, ⟨alo, ahi, asl, ash⟩⟩ : Sc).s = true) : run Tryz.prog ⟨[(7, k_awake22), (10, k_vTouch), (11, k_vstands)], eqs, [], [], []⟩ 10000 [] 0 (bodyOf Tryz.f4) (initF Tryz.f4 [.agg [.int .u8 ak, .u64 av, .u64 am, .u64 alo, .u64 ahi, .int .i64 asl, .int .i64 ash, .int .i64 aof, .int .i64 amp, .int .i64 aid, .int .i64 arm, .bool anu], .int .i64 off, .int .i64 size, .agg [.int .u8 mk, .int .i64 mkey, .int .i64 mval, .int .i64 mmax], .u64 v, .int .i64 long]) [] (retK Tryz.prog Tryz.f4 fun x _ => eqv x (.bool true)) := by
  (conv => whnf)
  (repeat' (first | (refine .inl ⟨20, ?_⟩; (conv => whnf)) | (refine step_t (by first | rfl | assumption) ?_; (conv => whnf)) | (refine step_f (by first | rfl | assumption) ?_; (conv => whnf)) | (refine step_nt (by assumption) ?_; (conv => whnf)) | (refine step_nf (by assumption) ?_; (conv => whnf)) | (refine step_n (fun hb => ?_) (fun hb => ?_) <;> (first | contradiction | (conv => whnf))) | (refine And.intro (fun hb => ?_) (fun hb => ?_) <;> (first | contradiction | (conv => whnf))) | (refine And.intro (a := (_ : Bool) = true) ?_ ?_; rotate_left 1; (conv => whnf))))
  all_goals first | rfl | trivial | assumption | (have T := V.touch_ok (p := (⟨ak, (⟨⟨av, am⟩, ⟨alo, ahi, asl, ash⟩⟩ : Sc), aof, amp, aid, arm, anu⟩ : Ab)) (beq_iff_eq.1 (by assumption)) (by assumption); simp only [beq_iff_eq, beq_eq_false_iff_ne, ne_eq, decide_eq_true_eq, decide_eq_false_iff_not] at *; obtain ⟨t1, t2, t3, t4, t5, t6⟩ := T; first | omega | (exfalso; simp_all; done))
def k_ValueTouch : List SV → List Blk → Res := fun args _ => match args with
  | [.agg [.int .u8 ak, .u64 av, .u64 am, .u64 alo, .u64 ahi, .int .i64 asl, .int .i64 ash, .int .i64 aof, .int .i64 amp, .int .i64 aid, .int .i64 arm, .bool anu], .int .i64 off, .int .i64 size, .agg [.int .u8 mk, .int .i64 mkey, .int .i64 mval, .int .i64 mmax], .u64 v, .int .i64 long] => .test (R.inS ⟨alo, ahi, asl, ash⟩) (.ok (.bool true) [])
  | _ => .fail
theorem k_ValueTouch_ok : CtrOk Tryz.prog Gw 4 k_ValueTouch := by
  refine ⟨fun _ _ => by kernel_rfl, fun args M => ?_⟩
  unfold k_ValueTouch
  split
  · rename_i ak av am alo ahi asl ash aof amp aid arm anu off size mk mkey mval mmax v long
    intro ht
    exact ctr_flat (Γ := ⟨[(7, k_awake22), (10, k_vTouch), (11, k_vstands)], eqs, [], [], []⟩) (sv := .bool true) st_Gw ⟨(okCons k_awake22_ok (okCons k_vTouch_ok (okCons k_vstands_ok okNil))), eqs_ok, okNilB, okNilI, okNilP⟩ Tryz.func4 rfl mixed [] (by kernel_rfl) 10000 (by rfl) (by
      exact touch_run ak av am alo ahi asl ash aof amp aid arm anu off size mk mkey mval mmax v long ht)
  · trivial
end Go.Proofs.YtddcaklgflfkeaaGreatDoor
