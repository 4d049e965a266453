import Derived.Test.YtddcaklgflfkeaaGreatDoorX37
namespace Go.Proofs.YtddcaklgflfkeaaGreatDoor
open Go.RowKit Go.Sx
set_option linter.unusedSimpArgs false
set_option linter.unusedVariables false
set_option linter.unnecessarySimpa false
set_option maxRecDepth 100000
set_option maxHeartbeats 4000000
attribute [local irreducible] V.add C.const R.inS
theorem twice_run (ak : Int) (av am alo ahi : BitVec 64) (asl ash aof amp aid arm : Int) (anu : Bool) (m n id : Int) (ia : R.inS (⟨⟨av, am⟩, ⟨alo, ahi, asl, ash⟩⟩ : Sc).s = true) : run Tryz.prog ⟨[(7, k_awake22), (8, k_vAdd), (9, k_cConst)], eqs, [], [], []⟩ 10000 [(5, 10, [0, 0, 2, 6, 0, 31, 63, 127, 127, 0, 767, 2047]), (6, 10, [0, 0, 2, 6, 0, 31, 63, 127, 127, 0, 767, 2047]), (7, 12, [0, 0, 0, 6, 14, 30, 0, 127, 255, 511, 511, 0, 3071, 8191]), (8, 10, [0, 0, 2, 6, 0, 31, 63, 127, 127, 0, 767, 2047]), (9, 10, [0, 0, 2, 6, 0, 31, 63, 127, 127, 0, 767, 2047]), (12, 10, [0, 0, 2, 6, 0, 31, 63, 127, 127, 0, 767, 2047])] 0 (bodyOf Tryz.f3) (initF Tryz.f3 [.agg [.int .u8 ak, .u64 av, .u64 am, .u64 alo, .u64 ahi, .int .i64 asl, .int .i64 ash, .int .i64 aof, .int .i64 amp, .int .i64 aid, .int .i64 arm, .bool anu], .int .i64 m, .int .i64 n, .int .i64 id]) [] (retK Tryz.prog Tryz.f3 fun x _ => eqv x (.bool true)) := by
  have c0 : ∀ q, R.inS (C.const q).s = true := C.const_ins
  have i0 : ∀ q, (R.inS (⟨⟨av, am⟩, ⟨alo, ahi, asl, ash⟩⟩ : Sc).s && R.inS (C.const q).s) = true := fun q => C.and2 ia (c0 q)
  have i1 : ∀ q r, (R.inS (V.add (⟨ak, (⟨⟨av, am⟩, ⟨alo, ahi, asl, ash⟩⟩ : Sc), aof, amp, aid, arm, anu⟩ : Ab) (C.const q) false id).1.n.s && R.inS (C.const r).s) = true := fun q r => C.and2 (V.add_in ia) (c0 r)
  (conv => whnf)
  (repeat' (first | (refine .inl ⟨20, ?_⟩; (conv => whnf)) | (refine step_t (by first | rfl | assumption) ?_; (conv => whnf)) | (refine step_f (by first | rfl | assumption) ?_; (conv => whnf)) | (refine step_nt (by assumption) ?_; (conv => whnf)) | (refine step_nf (by assumption) ?_; (conv => whnf)) | (refine step_n (fun hb => ?_) (fun hb => ?_) <;> (first | contradiction | (conv => whnf))) | (refine And.intro (fun hb => ?_) (fun hb => ?_) <;> (first | contradiction | (conv => whnf))) | (refine And.intro (a := (_ : Bool) = true) ?_ ?_; rotate_left 1; (conv => whnf))))
  all_goals first | rfl | trivial | assumption | exact i0 _ | exact i1 _ _ | exact V.w_b (p := (⟨ak, (⟨⟨av, am⟩, ⟨alo, ahi, asl, ash⟩⟩ : Sc), aof, amp, aid, arm, anu⟩ : Ab)) (id := id) (m := m) (by assumption) (by assumption) (by assumption) | exact absurd (V.w_g (m := m) (n := n) (p := (⟨ak, (⟨⟨av, am⟩, ⟨alo, ahi, asl, ash⟩⟩ : Sc), aof, amp, aid, arm, anu⟩ : Ab)) (id := id) (by assumption) (by assumption) (by assumption) (by assumption) (by assumption) (by assumption) ) (Bool.eq_false_iff.1 (by assumption)) | exact absurd (V.w_c (m := m) (n := n) (p := (⟨ak, (⟨⟨av, am⟩, ⟨alo, ahi, asl, ash⟩⟩ : Sc), aof, amp, aid, arm, anu⟩ : Ab)) (id := id) (by assumption) (by assumption) (by assumption) (by assumption) (by assumption) (by assumption) ) (Bool.eq_false_iff.1 (by assumption)) | exact absurd (V.w_x (m := m) (n := n) (p := (⟨ak, (⟨⟨av, am⟩, ⟨alo, ahi, asl, ash⟩⟩ : Sc), aof, amp, aid, arm, anu⟩ : Ab)) (id := id) (by assumption) (by assumption) (by assumption) (by assumption) (by assumption) (by assumption) (by assumption) (by assumption) ) (Bool.eq_false_iff.1 (by assumption)) | exact absurd (V.w_j (m := m) (p := (⟨ak, (⟨⟨av, am⟩, ⟨alo, ahi, asl, ash⟩⟩ : Sc), aof, amp, aid, arm, anu⟩ : Ab)) (id := id) (by assumption) (by assumption) (by assumption) ) (Bool.eq_false_iff.1 (by assumption)) | exact absurd (V.w_b (m := m) (p := (⟨ak, (⟨⟨av, am⟩, ⟨alo, ahi, asl, ash⟩⟩ : Sc), aof, amp, aid, arm, anu⟩ : Ab)) (id := id) (by assumption) (by assumption) (by assumption) ) (Bool.eq_false_iff.1 (by assumption)) 
def k_ValueTwice : List SV → List Blk → Res := fun args _ => match args with
  | [.agg [.int .u8 ak, .u64 av, .u64 am, .u64 alo, .u64 ahi, .int .i64 asl, .int .i64 ash, .int .i64 aof, .int .i64 amp, .int .i64 aid, .int .i64 arm, .bool anu], .int .i64 m, .int .i64 n, .int .i64 id] => .test (R.inS ⟨alo, ahi, asl, ash⟩) (.ok (.bool true) [])
  | _ => .fail
theorem k_ValueTwice_ok : CtrOk Tryz.prog Gw 3 k_ValueTwice := by
  refine ⟨fun _ _ => by kernel_rfl, fun args M => ?_⟩
  unfold k_ValueTwice
  split
  · rename_i ak av am alo ahi asl ash aof amp aid arm anu m n id
    intro ht
    exact ctr_flat (Γ := ⟨[(7, k_awake22), (8, k_vAdd), (9, k_cConst)], eqs, [], [], []⟩) (sv := .bool true) st_Gw ⟨(okCons k_awake22_ok (okCons k_vAdd_ok (okCons k_cConst_ok okNil))), eqs_ok, okNilB, okNilI, okNilP⟩ Tryz.func3 rfl mixed [(5, 10, [0, 0, 2, 6, 0, 31, 63, 127, 127, 0, 767, 2047]), (6, 10, [0, 0, 2, 6, 0, 31, 63, 127, 127, 0, 767, 2047]), (7, 12, [0, 0, 0, 6, 14, 30, 0, 127, 255, 511, 511, 0, 3071, 8191]), (8, 10, [0, 0, 2, 6, 0, 31, 63, 127, 127, 0, 767, 2047]), (9, 10, [0, 0, 2, 6, 0, 31, 63, 127, 127, 0, 767, 2047]), (12, 10, [0, 0, 2, 6, 0, 31, 63, 127, 127, 0, 767, 2047])] (by kernel_rfl) 10000 (by rfl) (by
      exact twice_run ak av am alo ahi asl ash aof amp aid arm anu m n id ht)
  · trivial
end Go.Proofs.YtddcaklgflfkeaaGreatDoor
