import Derived.Test.YtgfemfgimefmeaaGreatXF4
import Derived.Test.YtgfemfgimefmeaaGreatX79
namespace Go.Proofs.YtgfemfgimefmeaaGreat
open Go.RowKit Go.Sx
set_option linter.unusedSimpArgs false
set_option linter.unusedVariables false
set_option linter.unnecessarySimpa false
set_option maxRecDepth 100000
set_option maxHeartbeats 4000000
attribute [local irreducible] F.store F.load F.right C.low C.leq
theorem FrameLoads_run (f : Fr) (hf : f.wf) (off other n more : Int) (ak : Int) (av am alo ahi : BitVec 64) (asl ash aof amp aid arm : Int) (anu : Bool) (sg : Bool) (ha : R.inS ⟨alo, ahi, asl, ash⟩ = true) : run Tryz.prog ⟨[(9, k_awake23), (10, k_fStore), (11, k_fLoad), (12, k_fRight), (13, k_cLow), (14, k_cLeq)], eqs, [], [], [], mixs, meqs⟩ 10000 [] 0 (bodyOf Tryz.f4) (initF Tryz.f4 [frv f, .int .i64 off, .int .i64 other, .int .i64 n, .int .i64 more, .agg [.int .u8 ak, .u64 av, .u64 am, .u64 alo, .u64 ahi, .int .i64 asl, .int .i64 ash, .int .i64 aof, .int .i64 amp, .int .i64 aid, .int .i64 arm, .bool anu], .bool sg]) [] (retK Tryz.prog Tryz.f4 fun x _ => eqv x (.bool true)) := by
  have hst := F.store_wf (off := off) (n := n) (a := (⟨ak, (⟨⟨av, am⟩, ⟨alo, ahi, asl, ash⟩⟩ : Sc), aof, amp, aid, arm, anu⟩ : Ab)) hf ha
  (conv => whnf)
  (repeat' (first | (refine step_t (by first | rfl | assumption) ?_; (conv => whnf)) | (refine step_f (by first | rfl | assumption) ?_; (conv => whnf)) | (refine step_nt (by assumption) ?_; (conv => whnf)) | (refine step_nf (by assumption) ?_; (conv => whnf)) | (refine step_n (fun hb => ?_) (fun hb => ?_) <;> (first | contradiction | (conv => whnf))) | (refine And.intro (fun hb => ?_) (fun hb => ?_) <;> (first | contradiction | (conv => whnf))) | (refine And.intro (a := (_ : Bool) = true) ?_ ?_; rotate_left 1; (conv => whnf))))
  all_goals (try simp only [frD_of hf, frD_of hst] at *)
  all_goals try first
    | exact frB_of hf
    | exact frB_of hst
    | exact ha
    | rfl
    | trivial
    | (rw [frB_of hf, ha]; rfl)
    | exact F.none_eq (by assumption)
    | (rw [Bool.and_eq_true]; exact ⟨C.low_in ha _ _, F.load_inA hst _ _ _⟩)
  all_goals (have hs : ((F.store f off n (⟨ak, (⟨⟨av, am⟩, ⟨alo, ahi, asl, ash⟩⟩ : Sc), aof, amp, aid, arm, anu⟩ : Ab)).2 == 0) = true := by assumption)
  all_goals first
    | exact F.l_bad2 hs (by assumption)
    | exact F.l_bad32 hs (by assumption)
    | (rw [F.l_apart1 hf hs (by assumption) (by assumption) (by assumption)]; exact beq_self_eq_true _)
    | (rw [F.l_apart2 hf hs (by assumption) (by assumption) (by assumption)]; exact beq_self_eq_true _)
    | exact (F.ff (F.store_right hs) (by assumption)).elim
    | exact (F.ff (F.l_ok hf hs) (by assumption)).elim
    | exact (F.ff (F.l_same hf hs (by assumption) (by assumption)) (by assumption)).elim
    | exact (F.ff (F.l_low hs (by assumption)) (by assumption)).elim
    | exact (F.ff (F.l_k hf hs ha (by assumption)) (by assumption)).elim
    | exact (F.ff (F.l_leq1 hf hs ha (by assumption) (by assumption)) (by assumption)).elim
    | exact (F.ff (F.l_leq2 hf hs ha (by assumption) (by assumption)) (by assumption)).elim
    | exact (F.ff (F.eqa_of (F.l_apart1 hf hs (by assumption) (by assumption) (by assumption))) (by assumption)).elim
    | exact (F.ff (F.eqa_of (F.l_apart2 hf hs (by assumption) (by assumption) (by assumption))) (by assumption)).elim
    | exact (F.n8 (by assumption) (by assumption)).elim
def k_FrameLoads : List SV → List Blk → Res := fun args _ => match args with
  | [.mix [.arr 11 12 g, .arr 64 14 h, .int .i64 ids], .int .i64 off, .int .i64 other, .int .i64 n, .int .i64 more, .agg [.int .u8 ak, .u64 av, .u64 am, .u64 alo, .u64 ahi, .int .i64 asl, .int .i64 ash, .int .i64 aof, .int .i64 amp, .int .i64 aid, .int .i64 arm, .bool anu], .bool sg] => .test ((frB g h && (R.inS ⟨alo, ahi, asl, ash⟩))) (.ok (.bool true) [])
  | _ => .fail
theorem k_FrameLoads_ok : CtrOk Tryz.prog Gw 4 k_FrameLoads := by
  refine ⟨fun _ _ => by kernel_rfl, fun args M => ?_⟩
  unfold k_FrameLoads
  split
  · rename_i g h ids off other n more ak av am alo ahi asl ash aof amp aid arm anu sg
    intro ht
    rw [Bool.and_eq_true] at ht
    obtain ⟨hfr, ht⟩ := ht
    exact ctr_fr (Γ := ⟨[(9, k_awake23), (10, k_fStore), (11, k_fLoad), (12, k_fRight), (13, k_cLow), (14, k_cLeq)], eqs, [], [], [], mixs, meqs⟩) (sv := .bool true) st_Gw ⟨(okCons k_awake23_ok (okCons k_fStore_ok (okCons k_fLoad_ok (okCons k_fRight_ok (okCons k_cLow_ok (okCons k_cLeq_ok okNil)))))), eqs_ok, okNilB, okNilI, okNilP, mixs_ok, meqs_ok⟩ Tryz.func4 rfl mixed [] (by kernel_rfl) 10000 (rest := [.int .i64 off, .int .i64 other, .int .i64 n, .int .i64 more, .agg [.int .u8 ak, .u64 av, .u64 am, .u64 alo, .u64 ahi, .int .i64 asl, .int .i64 ash, .int .i64 aof, .int .i64 amp, .int .i64 aid, .int .i64 arm, .bool anu], .bool sg]) hfr rfl (FrameLoads_run _ (frD_wf hfr) off other n more ak av am alo ahi asl ash aof amp aid arm anu sg ht)
  · trivial
end Go.Proofs.YtgfemfgimefmeaaGreat
