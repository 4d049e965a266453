import Derived.Test.YtgfemfgimefmeaaGreatXL1
import Derived.Test.YtgfemfgimefmeaaGreatXL2
import Derived.Test.YtgfemfgimefmeaaGreatX78
namespace Go.Proofs.YtgfemfgimefmeaaGreat
open Go.RowKit Go.Sx
set_option linter.unusedSimpArgs false
set_option linter.unusedVariables false
set_option linter.unnecessarySimpa false
set_option maxRecDepth 100000
set_option maxHeartbeats 4000000
attribute [local irreducible] F.room F.null F.leq F.load F.right F.asks V.leq
theorem FrameLess_run (f g : Fr) (hf : f.wf) (hg : g.wf) (off n : Int) (sg : Bool) (id rm : Int) (nl : Bool) : run Tryz.prog ⟨[(9, k_awake23), (15, k_fRoom), (16, k_fNull), (12, k_fRight), (17, k_fLeq), (11, k_fLoad), (18, k_vLeq), (19, k_fReady)], eqs, [], [], [], mixs, meqs⟩ 10000 [(3, 10, [0, 0, 0, 7, 0, 0, 0, 127, 0, 0, 1023, 2047])] 0 (bodyOf Tryz.f5) (initF Tryz.f5 [frv f, frv g, .int .i64 off, .int .i64 n, .bool sg, .int .i64 id, .int .i64 rm, .bool nl]) [] (retK Tryz.prog Tryz.f5 fun x _ => eqv x (.bool true)) := by
  have hr := F.room_wf hf id rm
  have hn := F.null_wf hf id nl
  (conv => whnf)
  (repeat' (first | (refine step_t (by first | rfl | assumption) ?_; (conv => whnf)) | (refine step_f (by first | rfl | assumption) ?_; (conv => whnf)) | (refine step_nt (by assumption) ?_; (conv => whnf)) | (refine step_nf (by assumption) ?_; (conv => whnf)) | (refine step_n (fun hb => ?_) (fun hb => ?_) <;> (first | contradiction | (conv => whnf))) | (refine And.intro (fun hb => ?_) (fun hb => ?_) <;> (first | contradiction | (conv => whnf))) | (refine And.intro (a := (_ : Bool) = true) ?_ ?_; rotate_left 1; (conv => whnf))))
  all_goals (try simp only [frD_of hf, frD_of hg, frD_of hr, frD_of hn] at *)
  all_goals try first
    | exact frB_of hf
    | exact frB_of hg
    | exact frB_of hr
    | exact frB_of hn
    | rfl
    | trivial
    | (rw [frB_of hf, frB_of hg]; rfl)
    | (rw [frB_of hr, frB_of hf]; rfl)
    | (rw [Bool.and_eq_true]; exact ⟨F.load_inA hf _ _ _, F.load_inA hg _ _ _⟩)
    | exact (F.ff (F.room_right (f := f) id rm (by assumption)) (by assumption)).elim
    | exact (F.ff (F.null_right (f := f) id nl (by assumption)) (by assumption)).elim
    | exact (F.ff (F.room_leq hf id rm (by assumption)) (by assumption)).elim
    | exact (F.ff (F.load_less hf hg (by assumption) (by assumption)).1 (by assumption)).elim
    | exact (F.ff (F.load_less hf hg (by assumption) (by assumption)).2 (by assumption)).elim
    | exact F.asks_less (by assumption) (by assumption)
    | exact (F.ff (F.asks_less (by assumption) (by assumption)) (by assumption)).elim
def k_FrameLess : List SV → List Blk → Res := fun args _ => match args with
  | [.mix [.arr 11 12 g, .arr 64 14 h, .int .i64 ids], .mix [.arr 11 12 g2, .arr 64 14 h2, .int .i64 ids2], .int .i64 off, .int .i64 n, .bool sg, .int .i64 id, .int .i64 rm, .bool nl] => .test (frB g h && frB g2 h2) (.ok (.bool true) [])
  | _ => .fail
theorem k_FrameLess_ok : CtrOk Tryz.prog Gw 5 k_FrameLess := by
  refine ⟨fun _ _ => by kernel_rfl, fun args M => ?_⟩
  unfold k_FrameLess
  split
  · rename_i g h ids g2 h2 ids2 off n sg id rm nl
    intro ht
    have hfr := ht
    rw [Bool.and_eq_true] at hfr
    obtain ⟨hfr, hfr2⟩ := hfr
    exact ctr_fr2 (Γ := ⟨[(9, k_awake23), (15, k_fRoom), (16, k_fNull), (12, k_fRight), (17, k_fLeq), (11, k_fLoad), (18, k_vLeq), (19, k_fReady)], eqs, [], [], [], mixs, meqs⟩) (sv := .bool true) st_Gw ⟨(okCons k_awake23_ok (okCons k_fRoom_ok (okCons k_fNull_ok (okCons k_fRight_ok (okCons k_fLeq_ok (okCons k_fLoad_ok (okCons k_vLeq_ok (okCons k_fReady_ok okNil)))))))), eqs_ok, okNilB, okNilI, okNilP, mixs_ok, meqs_ok⟩ Tryz.func5 rfl mixed [(3, 10, [0, 0, 0, 7, 0, 0, 0, 127, 0, 0, 1023, 2047])] (by kernel_rfl) 10000 (rest := [.int .i64 off, .int .i64 n, .bool sg, .int .i64 id, .int .i64 rm, .bool nl]) hfr hfr2 rfl (FrameLess_run _ _ (frD_wf hfr) (frD_wf hfr2) off n sg id rm nl)
  · trivial
end Go.Proofs.YtgfemfgimefmeaaGreat
namespace Go.Proofs.YtgfemfgimefmeaaGreat
open Go.RowKit Go.Sx
set_option linter.unusedSimpArgs false
set_option linter.unusedVariables false
set_option linter.unnecessarySimpa false
set_option maxRecDepth 100000
set_option maxHeartbeats 4000000
end Go.Proofs.YtgfemfgimefmeaaGreat
