import Derived.Test.YtgaclnllkiihlaaSpanM
import Derived.Test.YtgaclnllkiihlaaX8
namespace Go.Proofs.Ytgaclnllkiihlaa
open Go.RowKit Go.Sx
set_option linter.unusedSimpArgs false
set_option linter.unusedVariables false
set_option linter.unnecessarySimpa false
set_option maxRecDepth 100000
set_option maxHeartbeats 4000000
def k_SpanMono : List SV → List Blk → Res := fun args _ => match args with
  | [.int .u8 op, .agg [.u64 alo, .u64 ahi, .int .i64 asl, .int .i64 ash], .agg [.u64 blo, .u64 bhi, .int .i64 bsl, .int .i64 bsh], .agg [.u64 clo, .u64 chi, .int .i64 csl, .int .i64 csh], .int .i64 k] => .test (R.inS (⟨alo, ahi, asl, ash⟩ : Sp) && R.inS (⟨blo, bhi, bsl, bsh⟩ : Sp) && R.inS (⟨clo, chi, csl, csh⟩ : Sp)) (.ok (.bool true) [])
  | _ => .fail
theorem k_SpanMono_ok : CtrOk Try.prog Gw 5 k_SpanMono := by
  refine ⟨fun _ _ => by kernel_rfl, fun args M => ?_⟩
  unfold k_SpanMono
  split
  · rename_i op alo ahi asl ash blo bhi bsl bsh clo chi csl csh k
    intro ht
    simp only [Bool.and_eq_true] at ht
    have F : (∀ (h : S.leq (⟨alo, ahi, asl, ash⟩ : Sp) (⟨blo, bhi, bsl, bsh⟩ : Sp) = true) (hc : S.good (⟨clo, chi, csl, csh⟩ : Sp) = true), ((S.does op (⟨alo, ahi, asl, ash⟩ : Sp) (⟨clo, chi, csl, csh⟩ : Sp)).2 = (S.does op (⟨blo, bhi, bsl, bsh⟩ : Sp) (⟨clo, chi, csl, csh⟩ : Sp)).2 ∧ ((S.does op (⟨blo, bhi, bsl, bsh⟩ : Sp) (⟨clo, chi, csl, csh⟩ : Sp)).2 = true → S.leq (S.does op (⟨alo, ahi, asl, ash⟩ : Sp) (⟨clo, chi, csl, csh⟩ : Sp)).1 (S.does op (⟨blo, bhi, bsl, bsh⟩ : Sp) (⟨clo, chi, csl, csh⟩ : Sp)).1 = true)) ∧ ((S.does op (⟨clo, chi, csl, csh⟩ : Sp) (⟨alo, ahi, asl, ash⟩ : Sp)).2 = (S.does op (⟨clo, chi, csl, csh⟩ : Sp) (⟨blo, bhi, bsl, bsh⟩ : Sp)).2 ∧ ((S.does op (⟨clo, chi, csl, csh⟩ : Sp) (⟨blo, bhi, bsl, bsh⟩ : Sp)).2 = true → S.leq (S.does op (⟨clo, chi, csl, csh⟩ : Sp) (⟨alo, ahi, asl, ash⟩ : Sp)).1 (S.does op (⟨clo, chi, csl, csh⟩ : Sp) (⟨blo, bhi, bsl, bsh⟩ : Sp)).1 = true)) ∧ (S.shift op (⟨alo, ahi, asl, ash⟩ : Sp) k).2 = (S.shift op (⟨blo, bhi, bsl, bsh⟩ : Sp) k).2 ∧ ((S.shift op (⟨blo, bhi, bsl, bsh⟩ : Sp) k).2 = true → S.leq (S.shift op (⟨alo, ahi, asl, ash⟩ : Sp) k).1 (S.shift op (⟨blo, bhi, bsl, bsh⟩ : Sp) k).1 = true)) := fun h hc => by
      have h := S.leq_iff.1 h
      have r := S.Le.refl hc
      have m1 := S.does_mono op h r ht.1.2 ht.2
      have m2 := S.does_mono op r h ht.2 ht.1.2
      exact ⟨⟨m1.1, fun e => S.leq_iff.2 (m1.2 e)⟩, ⟨m2.1, fun e => S.leq_iff.2 (m2.2 e)⟩, S.shift_guard h.good1 h.good2, fun e => S.leq_iff.2 (S.shift_mono op k h ht.1.2 e)⟩
    refine ctr_flat (Γ := ⟨[(9, k_awake), (7, k_Do), (10, k_Shift), (12, k_Leq), (13, k_Right)], eqs, [], [], []⟩) (sv := .bool true) st_Gw ⟨(okCons k_awake_ok (okCons k_Do_ok (okCons k_Shift_ok (okCons k_Leq_ok (okCons k_Right_ok okNil))))), eqs_ok, okNilB, okNilI, okNilP⟩ Try.func5 rfl mixed [] (by kernel_rfl) 10000 (by rfl) ?_
    (conv => whnf)
    (repeat' (first | (refine step_t (by first | rfl | (simp only [beq_self_eq_true, bne_self_eq_false, Bool.and_self, Bool.not_true, Bool.not_false, Bool.and_true]; done) | assumption) ?_; (conv => whnf)) | (refine step_f (by first | rfl | (simp only [beq_self_eq_true, bne_self_eq_false, Bool.and_self, Bool.not_true, Bool.not_false, Bool.and_true]; done) | assumption) ?_; (conv => whnf)) | (refine step_nt (by assumption) ?_; (conv => whnf)) | (refine step_nf (by assumption) ?_; (conv => whnf)) | (refine step_n (fun hb => ?_) (fun hb => ?_) <;> (first | contradiction | (conv => whnf))) | (refine And.intro (fun hb => ?_) (fun hb => ?_) <;> (first | contradiction | (conv => whnf))) | (refine And.intro ?_ ?_; rotate_left 1; (conv => whnf))))
    all_goals (first | trivial | rfl | ((try simp only [Bool.not_eq_false', Bool.not_eq_true'] at *); obtain ⟨⟨f1, f2⟩, ⟨f3, f4⟩, f5, f6⟩ := F (by assumption) (by assumption); simp_all [eqv, eqv1]; done))
  · trivial
end Go.Proofs.Ytgaclnllkiihlaa
