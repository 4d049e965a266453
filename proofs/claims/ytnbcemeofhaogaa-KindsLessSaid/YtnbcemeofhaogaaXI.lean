import Derived.Test.YtnbcemeofhaogaaXH
namespace Go.Proofs.Ytnbcemeofhaogaa
open Go.RowKit Go.Sx
set_option linter.unusedSimpArgs false
set_option linter.unusedVariables false
set_option linter.unnecessarySimpa false
set_option maxRecDepth 100000
set_option maxHeartbeats 4000000
theorem shelp_run (a b : Hp) (ha : a.atMost 1099511627776 = true) : run Try.prog ⟨[(24, k_sargs)], eqs, [], [], [], mixs, meqs, []⟩ 10000 [] 0 (bodyOf Try.f9) (initF Try.f9 [.agg [.int .i64 a.id, .int .i64 a.mj, .int .i64 a.mn, .int .u8 a.core, .sl 0 4 0 a.args.length, .int .u8 a.rk, .int .i64 a.rlo, .int .i64 a.rhi, .int .i64 a.rsz], .agg [.int .i64 b.id, .int .i64 b.mj, .int .i64 b.mn, .int .u8 b.core, .sl 1 4 0 b.args.length, .int .u8 b.rk, .int .i64 b.rlo, .int .i64 b.rhi, .int .i64 b.rsz]]) [.ro 4 a.args.length (cA.g a.args), .ro 4 b.args.length (cA.g b.args)] (retK Try.prog Try.f9 fun x _ => eqv x (.bool (eqC a b))) := by
  (conv => whnf)
  (repeat' (first | (refine step_t (by first | rfl | assumption) ?_; (conv => whnf)) | (refine step_f (by first | rfl | assumption) ?_; (conv => whnf)) | (refine step_nt (by assumption) ?_; (conv => whnf)) | (refine step_nf (by assumption) ?_; (conv => whnf)) | (refine step_n (fun hb => ?_) (fun hb => ?_) <;> (first | contradiction | (conv => whnf))) | (refine And.intro (fun hb => ?_) (fun hb => ?_) <;> (first | contradiction | (conv => whnf))) | (refine And.intro ?_ ?_; rotate_left 1; (conv => whnf))))
  all_goals try (simp only [sh0, decA_row, isA_row] at *)
  all_goals first
  | (refine eqC_f ?_; rintro rfl; simp at hb; done)
  | (refine eqC_f ?_; rintro rfl; rw [eqC_t rfl] at hb; cases hb; done)
  | (rw [Bool.and_eq_true]; exact ⟨decide_eq_true (Hp.atMost_len ha), Hp.atMost_all ha⟩)
  | (simp; done)
  | (rename_i h1 h2 h3 h4
     have h5 := eqC_iff.1 hb
     exact ret_eq h1 h2 h3 h4 h5)

noncomputable def k_shelp : List SV → List Blk → Res := fun args M => match topA eltB M args with
  | some (b, [.agg l, .agg m]) => .test b (.test (cH.is l && cH.is m) (.test ((cH.dec l).atMost 1099511627776) (.ok (.bool (eqC (cH.dec l) (cH.dec m))) [])))
  | _ => .fail
theorem k_shelp_ok : CtrOk Try.prog Gw 9 k_shelp := by
  refine ⟨fun _ _ => by kernel_rfl, fun args M => ?_⟩
  unfold k_shelp
  split
  · rename_i b l m hv
    intro hb hi hw
    simp only [Bool.and_eq_true] at hi
    exact ctr_top (Γ := ⟨[(24, k_sargs)], eqs, [], [], [], mixs, meqs, []⟩) st_Gw ⟨(okCons k_sargs_ok okNil), eqs_ok, okNilB, okNilI, okNilP, mixs_ok, meqs_ok, okNilY⟩ Try.func9 rfl mixed [] (by kernel_rfl) 10000 [.agg (celH (cH.dec l)), .agg (celH (cH.dec m))] hv hb ⟨Cel.is_dec hi.1, Cel.is_dec hi.2, trivial⟩ rfl (shelp_run _ _ hw)
  · trivial
end Go.Proofs.Ytnbcemeofhaogaa
