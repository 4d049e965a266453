import Derived.Test.YtgfemfgimefmeaaGreatXF3
namespace Go.Proofs.YtgfemfgimefmeaaGreat
open Go.RowKit Go.Sx
set_option linter.unusedSimpArgs false
set_option linter.unusedVariables false
set_option linter.unnecessarySimpa false
set_option maxRecDepth 100000
set_option maxHeartbeats 4000000
theorem C.unknown_S : R.inS C.unknown.s = true := rfl
attribute [local irreducible] C.low C.one C.const C.unknown V.number
theorem gload_run (f : Fr) (hf : f.wf) (off n : Int) (sg : Bool) : run Tryz.prog ⟨[(75, k_gRight), (77, k_gpower), (78, k_gwithin), (80, k_gready), (81, k_qUnknown), (82, k_qOne), (83, k_qConst), (84, k_qLow)], eqs, [], [], [], mixs, meqs⟩ 10000 [] 0 (bodyOf Tryz.f27) (initF Tryz.f27 [frv f, .int .i64 off, .int .i64 n, .bool sg]) [] (retK Tryz.prog Tryz.f27 fun x _ => eqv x (.tup [abv (F.load f off n sg).1, .int .i64 (F.load f off n sg).2])) := by
  (conv => whnf)
  (repeat' (first | (refine step_t (by first | rfl | assumption) ?_; (conv => whnf)) | (refine step_f (by first | rfl | assumption) ?_; (conv => whnf)) | (refine step_nt (by assumption) ?_; (conv => whnf)) | (refine step_nf (by assumption) ?_; (conv => whnf)) | (refine step_n (fun hb => ?_) (fun hb => ?_) <;> (first | contradiction | (conv => whnf))) | (refine And.intro (fun hb => ?_) (fun hb => ?_) <;> (first | contradiction | (conv => whnf))) | (refine And.intro (a := (_ : Bool) = true) ?_ ?_; rotate_left 1; (conv => whnf))))
  all_goals (try simp only [frD_of hf, F.inside_eq] at *)
  all_goals try first
    | exact frB_of hf
    | exact (rfl : ((8 : Int) != 0) = true)
    | rfl
    | (refine two_zero ?_; simp only [F.load, F.part, *, noSl_eq, ↓reduceIte, Bool.true_eq_false, Bool.false_eq_true]; done)
  all_goals (
    have hwd : F.word n = true := by assumption
    have hnu := F.number_u (n := n) (sg := sg) hwd
    have hnc := F.number_c (n := n) (sg := sg) hwd
    have hw := F.word_in hwd
    obtain ⟨q1, q2, q3⟩ := F.within_in (off := off) (n := n) (by assumption) hw.1
    have e1 : IntKind.i64.wrap (512 + off) = 512 + off := i64_of (by omega) (by omega)
    have e8 := quo8 (p := 512 + off) (by omega) (by omega)
    have r8 := rem8 (p := 512 + off) (by omega)
    have e7 := sh8 r8.1 r8.2)
  all_goals (try simp only [e1, e8, e7, Int.toNat_natCast] at *)
  all_goals first
    | exact decide_eq_true (by omega)
    | (rw [Bool.and_eq_true]; exact ⟨decide_eq_true (by omega), decide_eq_true (by omega)⟩)
    | (rw [frB_of hf]
       simp only [Bool.true_and, Bool.and_eq_true, decide_eq_true_eq]
       omega)
    | exact C.const_S _
    | exact C.unknown_S
    | exact inS_at hf.si (i := (512 + off).toNat / 8) (by rw [hf.s]; omega)
    | (clear q2 q3 hw r8
       first
       | (refine two_zero ?_; simp only [F.load, F.part, *, noSl_eq, ↓reduceIte, Bool.true_eq_false, Bool.false_eq_true]; done)
       | (refine two_ab (X := (f.S.getD ((512 + off).toNat / 8) noSl).a) ?_; simp only [F.load, F.part, *, noSl_eq, ↓reduceIte, Bool.true_eq_false, Bool.false_eq_true]; done)
       | (refine two_num (N := (C.low C.unknown n sg).1) ?_; simp only [F.load, F.part, *, noSl_eq, ↓reduceIte, Bool.true_eq_false, Bool.false_eq_true]; done)
       | (refine two_num (N := (C.low (C.const ((C.one (f.S.getD ((512 + off).toNat / 8) eS.dft).a.n).1 >>> (IntKind.i64.wrap (8 * ((512 + off).tmod 8))).toNat)) n sg).1) ?_; simp only [F.load, F.part, *, noSl_eq, ↓reduceIte, Bool.true_eq_false, Bool.false_eq_true]; done))
def k_gLoad : List SV → List Blk → Res := fun args _ => match args with
  | [.mix [.arr 11 12 g, .arr 64 14 h, .int .i64 ids], .int .i64 off, .int .i64 n, .bool sg] => .test (frB g h) (.ok (.tup [abv (F.load (frD g h ids) off n sg).1, .int .i64 (F.load (frD g h ids) off n sg).2]) [])
  | _ => .fail
theorem k_gLoad_ok : CtrOk Tryz.prog Gw 27 k_gLoad := by
  refine ⟨fun _ _ => by kernel_rfl, fun args M => ?_⟩
  unfold k_gLoad
  split
  · rename_i g h ids off n sg
    intro ht
    have hfr : frB g h = true := ht
    exact ctr_fr (Γ := ⟨[(75, k_gRight), (77, k_gpower), (78, k_gwithin), (80, k_gready), (81, k_qUnknown), (82, k_qOne), (83, k_qConst), (84, k_qLow)], eqs, [], [], [], mixs, meqs⟩) (sv := .tup [abv (F.load (frD g h ids) off n sg).1, .int .i64 (F.load (frD g h ids) off n sg).2]) st_Gw ⟨(okCons k_gRight_ok (okCons k_gpower_ok (okCons k_gwithin_ok (okCons k_gready_ok (okCons k_qUnknown_ok (okCons k_qOne_ok (okCons k_qConst_ok (okCons k_qLow_ok okNil)))))))), eqs_ok, okNilB, okNilI, okNilP, mixs_ok, meqs_ok⟩ Tryz.func27 rfl mixed [] (by kernel_rfl) 10000 (rest := [.int .i64 off, .int .i64 n, .bool sg]) hfr rfl (gload_run _ (frD_wf hfr) off n sg)
  · trivial
end Go.Proofs.YtgfemfgimefmeaaGreat
namespace Go.Proofs.YtgfemfgimefmeaaGreat
open Go.RowKit Go.Sx
set_option linter.unusedSimpArgs false
set_option linter.unusedVariables false
set_option linter.unnecessarySimpa false
set_option maxRecDepth 100000
set_option maxHeartbeats 4000000
theorem int_eqv {k c : Int} (h : k = c) : eqv1 (.int .i64 c) (.int .i64 k) := by subst h; simp [eqv1]
namespace F
theorem may_in {f : Fr} {off n : Int} (h : ((may f off n).2 == 0) = true) : (may f off n).1 = 512 + off ∧ 1 ≤ n ∧ n ≤ 512 ∧ -512 ≤ off ∧ off + n ≤ 0 := by
  unfold may at *
  by_cases h1 : right f = false
  · rw [if_pos h1] at h; exact absurd h (by decide)
  rw [if_neg h1] at h ⊢
  by_cases h2 : decide (n < 1) = true
  · rw [if_pos h2] at h; exact absurd h (by decide)
  rw [if_neg h2] at h ⊢
  by_cases h3 : decide (512 < n) = true
  · rw [if_pos h3] at h; exact absurd h (by decide)
  rw [if_neg h3] at h ⊢
  by_cases h4 : (within off n).2 = false
  · rw [if_pos h4] at h; exact absurd h (by decide)
  rw [if_neg h4]
  have g2 : 1 ≤ n := by
    have : ¬ (n < 1) := fun e => h2 (decide_eq_true e)
    omega
  have g3 : n ≤ 512 := by
    have : ¬ (512 < n) := fun e => h3 (decide_eq_true e)
    omega
  obtain ⟨q1, q2, q3⟩ := within_in (off := off) (n := n) (by simpa using h4) g2
  exact ⟨q1, g2, g3, q2, q3⟩
theorem n_in {n : Int} (h : decide (n < 1) = false) (k : decide (512 < n) = false) : 1 ≤ n ∧ n ≤ 512 := by
  have := of_decide_eq_false h
  have := of_decide_eq_false k
  omega
end F
theorem may_run (f : Fr) (hf : f.wf) (off n : Int) : run Tryz.prog ⟨[(12, k_fRight), (34, k_fwithin)], eqs, [], [], [], mixs, meqs⟩ 10000 [] 0 (bodyOf Tryz.f58) (initF Tryz.f58 [frv f, .int .i64 off, .int .i64 n]) [] (retK Tryz.prog Tryz.f58 fun x _ => eqv x (.tup [.int .i64 (F.may f off n).1, .int .i64 (F.may f off n).2])) := by
  (conv => whnf)
  (repeat' (first | (refine step_t (by first | rfl | assumption) ?_; (conv => whnf)) | (refine step_f (by first | rfl | assumption) ?_; (conv => whnf)) | (refine step_nt (by assumption) ?_; (conv => whnf)) | (refine step_nf (by assumption) ?_; (conv => whnf)) | (refine step_n (fun hb => ?_) (fun hb => ?_) <;> (first | contradiction | (conv => whnf))) | (refine And.intro (fun hb => ?_) (fun hb => ?_) <;> (first | contradiction | (conv => whnf))) | (refine And.intro (a := (_ : Bool) = true) ?_ ?_; rotate_left 1; (conv => whnf))))
  all_goals (try simp only [frD_of hf, F.inside_eq] at *)
  all_goals first
    | exact frB_of hf
    | exact two_int (x := 0) (by (simp only [F.may, *, ↓reduceIte, Bool.true_eq_false, Bool.false_eq_true] <;> rfl))
    | exact two_int (x := (F.within off n).1) (by (simp only [F.may, *, ↓reduceIte, Bool.true_eq_false, Bool.false_eq_true] <;> rfl))
def k_fmay : List SV → List Blk → Res := fun args _ => match args with
  | [.mix [.arr 11 12 g, .arr 64 14 h, .int .i64 ids], .int .i64 off, .int .i64 n] => .test (frB g h) (.ok (.tup [.int .i64 (F.may (frD g h ids) off n).1, .int .i64 (F.may (frD g h ids) off n).2]) [])
  | _ => .fail
theorem k_fmay_ok : CtrOk Tryz.prog Gw 58 k_fmay := by
  refine ⟨fun _ _ => by kernel_rfl, fun args M => ?_⟩
  unfold k_fmay
  split
  · rename_i g h ids off n
    intro ht
    have hfr : frB g h = true := ht
    exact ctr_fr (Γ := ⟨[(12, k_fRight), (34, k_fwithin)], eqs, [], [], [], mixs, meqs⟩) (sv := .tup [.int .i64 (F.may (frD g h ids) off n).1, .int .i64 (F.may (frD g h ids) off n).2]) st_Gw ⟨(okCons k_fRight_ok (okCons k_fwithin_ok okNil)), eqs_ok, okNilB, okNilI, okNilP, mixs_ok, meqs_ok⟩ Tryz.func58 rfl mixed [] (by kernel_rfl) 10000 (rest := [.int .i64 off, .int .i64 n]) hfr rfl (may_run _ (frD_wf hfr) off n)
  · trivial
theorem asks_run (f : Fr) (hf : f.wf) (off n : Int) : run Tryz.prog ⟨[(58, k_fmay), (38, k_fready)], eqs, [], [], [], mixs, meqs⟩ 10000 [] 0 (bodyOf Tryz.f19) (initF Tryz.f19 [frv f, .int .i64 off, .int .i64 n]) [] (retK Tryz.prog Tryz.f19 fun x _ => eqv x (.int .i64 (F.asks f off n))) := by
  (conv => whnf)
  (repeat' (first | (refine step_t (by first | rfl | assumption) ?_; (conv => whnf)) | (refine step_f (by first | rfl | assumption) ?_; (conv => whnf)) | (refine step_nt (by assumption) ?_; (conv => whnf)) | (refine step_nf (by assumption) ?_; (conv => whnf)) | (refine step_n (fun hb => ?_) (fun hb => ?_) <;> (first | contradiction | (conv => whnf))) | (refine And.intro (fun hb => ?_) (fun hb => ?_) <;> (first | contradiction | (conv => whnf))) | (refine And.intro (a := (_ : Bool) = true) ?_ ?_; rotate_left 1; (conv => whnf))))
  all_goals (try simp only [frD_of hf, F.inside_eq] at *)
  all_goals first
    | exact frB_of hf
    | (have q := F.may_in (by assumption)
       rw [frB_of hf]
       simp only [Bool.true_and, Bool.and_eq_true, decide_eq_true_eq]
       omega)
    | (refine ⟨trivial, Eq.symm ?_⟩; (simp only [F.asks, *, ↓reduceIte, Bool.true_eq_false, Bool.false_eq_true] <;> rfl); done)
def k_fReady : List SV → List Blk → Res := fun args _ => match args with
  | [.mix [.arr 11 12 g, .arr 64 14 h, .int .i64 ids], .int .i64 off, .int .i64 n] => .test (frB g h) (.ok (.int .i64 (F.asks (frD g h ids) off n)) [])
  | _ => .fail
theorem k_fReady_ok : CtrOk Tryz.prog Gw 19 k_fReady := by
  refine ⟨fun _ _ => by kernel_rfl, fun args M => ?_⟩
  unfold k_fReady
  split
  · rename_i g h ids off n
    intro ht
    have hfr : frB g h = true := ht
    exact ctr_fr (Γ := ⟨[(58, k_fmay), (38, k_fready)], eqs, [], [], [], mixs, meqs⟩) (sv := .int .i64 (F.asks (frD g h ids) off n)) st_Gw ⟨(okCons k_fmay_ok (okCons k_fready_ok okNil)), eqs_ok, okNilB, okNilI, okNilP, mixs_ok, meqs_ok⟩ Tryz.func19 rfl mixed [] (by kernel_rfl) 10000 (rest := [.int .i64 off, .int .i64 n]) hfr rfl (asks_run _ (frD_wf hfr) off n)
  · trivial
theorem fill_run (f : Fr) (hf : f.wf) (off n : Int) : run Tryz.prog ⟨[(58, k_fmay), (37, k_ftouch)], eqs, [], [], [], mixs, meqs⟩ 10000 [] 0 (bodyOf Tryz.f28) (initF Tryz.f28 [frv f, .int .i64 off, .int .i64 n]) [] (retK Tryz.prog Tryz.f28 fun x _ => eqv x (.tup [frv (F.fill f off n).1, .int .i64 (F.fill f off n).2])) := by
  (conv => whnf)
  (repeat' (first | (refine step_t (by first | rfl | assumption) ?_; (conv => whnf)) | (refine step_f (by first | rfl | assumption) ?_; (conv => whnf)) | (refine step_nt (by assumption) ?_; (conv => whnf)) | (refine step_nf (by assumption) ?_; (conv => whnf)) | (refine step_n (fun hb => ?_) (fun hb => ?_) <;> (first | contradiction | (conv => whnf))) | (refine And.intro (fun hb => ?_) (fun hb => ?_) <;> (first | contradiction | (conv => whnf))) | (refine And.intro (a := (_ : Bool) = true) ?_ ?_; rotate_left 1; (conv => whnf))))
  all_goals (try simp only [frD_of hf, F.inside_eq] at *)
  all_goals first
    | exact frB_of hf
    | (have q := F.may_in (by assumption)
       rw [frB_of hf]
       simp only [Bool.true_and, Bool.and_eq_true, decide_eq_true_eq]
       omega)
    | (refine two_no ?_; (simp only [F.fill, *, ↓reduceIte, Bool.true_eq_false, Bool.false_eq_true] <;> rfl); done)
    | (refine two_same (X := F.touch f (F.may f off n).1 n) ?_; (simp only [F.fill, *, ↓reduceIte, Bool.true_eq_false, Bool.false_eq_true] <;> rfl); done)
def k_fFill : List SV → List Blk → Res := fun args _ => match args with
  | [.mix [.arr 11 12 g, .arr 64 14 h, .int .i64 ids], .int .i64 off, .int .i64 n] => .test (frB g h) (.ok (.tup [frv (F.fill (frD g h ids) off n).1, .int .i64 (F.fill (frD g h ids) off n).2]) [])
  | _ => .fail
theorem k_fFill_ok : CtrOk Tryz.prog Gw 28 k_fFill := by
  refine ⟨fun _ _ => by kernel_rfl, fun args M => ?_⟩
  unfold k_fFill
  split
  · rename_i g h ids off n
    intro ht
    have hfr : frB g h = true := ht
    exact ctr_fr (Γ := ⟨[(58, k_fmay), (37, k_ftouch)], eqs, [], [], [], mixs, meqs⟩) (sv := .tup [frv (F.fill (frD g h ids) off n).1, .int .i64 (F.fill (frD g h ids) off n).2]) st_Gw ⟨(okCons k_fmay_ok (okCons k_ftouch_ok okNil)), eqs_ok, okNilB, okNilI, okNilP, mixs_ok, meqs_ok⟩ Tryz.func28 rfl mixed [] (by kernel_rfl) 10000 (rest := [.int .i64 off, .int .i64 n]) hfr rfl (fill_run _ (frD_wf hfr) off n)
  · trivial
theorem gasks_run (f : Fr) (hf : f.wf) (off n : Int) : run Tryz.prog ⟨[(75, k_gRight), (78, k_gwithin), (80, k_gready)], eqs, [], [], [], mixs, meqs⟩ 10000 [] 0 (bodyOf Tryz.f30) (initF Tryz.f30 [frv f, .int .i64 off, .int .i64 n]) [] (retK Tryz.prog Tryz.f30 fun x _ => eqv x (.int .i64 (F.asks f off n))) := by
  (conv => whnf)
  (repeat' (first | (refine step_t (by first | rfl | assumption) ?_; (conv => whnf)) | (refine step_f (by first | rfl | assumption) ?_; (conv => whnf)) | (refine step_nt (by assumption) ?_; (conv => whnf)) | (refine step_nf (by assumption) ?_; (conv => whnf)) | (refine step_n (fun hb => ?_) (fun hb => ?_) <;> (first | contradiction | (conv => whnf))) | (refine And.intro (fun hb => ?_) (fun hb => ?_) <;> (first | contradiction | (conv => whnf))) | (refine And.intro (a := (_ : Bool) = true) ?_ ?_; rotate_left 1; (conv => whnf))))
  all_goals (try simp only [frD_of hf, F.inside_eq] at *)
  all_goals first
    | exact frB_of hf
    | (have q := F.n_in (n := n) (by assumption) (by assumption)
       have q2 := F.within_in (off := off) (n := n) (by assumption) q.1
       rw [frB_of hf]
       simp only [Bool.true_and, Bool.and_eq_true, decide_eq_true_eq]
       omega)
    | (refine ⟨trivial, Eq.symm ?_⟩; (simp only [F.asks, F.may, *, ↓reduceIte, Bool.true_eq_false, Bool.false_eq_true] <;> rfl); done)
    | (have q := F.n_in (n := n) (by assumption) (by assumption)
       obtain ⟨q1, q2, q3⟩ := F.within_in (off := off) (n := n) (by assumption) q.1
       clear q q2 q3
       refine ⟨trivial, Eq.symm ?_⟩
       (simp only [F.asks, F.may, *, ↓reduceIte, Bool.true_eq_false, Bool.false_eq_true] <;> rfl)
       done)
def k_gReady : List SV → List Blk → Res := fun args _ => match args with
  | [.mix [.arr 11 12 g, .arr 64 14 h, .int .i64 ids], .int .i64 off, .int .i64 n] => .test (frB g h) (.ok (.int .i64 (F.asks (frD g h ids) off n)) [])
  | _ => .fail
theorem k_gReady_ok : CtrOk Tryz.prog Gw 30 k_gReady := by
  refine ⟨fun _ _ => by kernel_rfl, fun args M => ?_⟩
  unfold k_gReady
  split
  · rename_i g h ids off n
    intro ht
    have hfr : frB g h = true := ht
    exact ctr_fr (Γ := ⟨[(75, k_gRight), (78, k_gwithin), (80, k_gready)], eqs, [], [], [], mixs, meqs⟩) (sv := .int .i64 (F.asks (frD g h ids) off n)) st_Gw ⟨(okCons k_gRight_ok (okCons k_gwithin_ok (okCons k_gready_ok okNil))), eqs_ok, okNilB, okNilI, okNilP, mixs_ok, meqs_ok⟩ Tryz.func30 rfl mixed [] (by kernel_rfl) 10000 (rest := [.int .i64 off, .int .i64 n]) hfr rfl (gasks_run _ (frD_wf hfr) off n)
  · trivial
theorem gfill_run (f : Fr) (hf : f.wf) (off n : Int) : run Tryz.prog ⟨[(75, k_gRight), (78, k_gwithin), (79, k_gtouch)], eqs, [], [], [], mixs, meqs⟩ 10000 [] 0 (bodyOf Tryz.f29) (initF Tryz.f29 [frv f, .int .i64 off, .int .i64 n]) [] (retK Tryz.prog Tryz.f29 fun x _ => eqv x (.tup [frv (F.fill f off n).1, .int .i64 (F.fill f off n).2])) := by
  (conv => whnf)
  (repeat' (first | (refine step_t (by first | rfl | assumption) ?_; (conv => whnf)) | (refine step_f (by first | rfl | assumption) ?_; (conv => whnf)) | (refine step_nt (by assumption) ?_; (conv => whnf)) | (refine step_nf (by assumption) ?_; (conv => whnf)) | (refine step_n (fun hb => ?_) (fun hb => ?_) <;> (first | contradiction | (conv => whnf))) | (refine And.intro (fun hb => ?_) (fun hb => ?_) <;> (first | contradiction | (conv => whnf))) | (refine And.intro (a := (_ : Bool) = true) ?_ ?_; rotate_left 1; (conv => whnf))))
  all_goals (try simp only [frD_of hf, F.inside_eq] at *)
  all_goals first
    | exact frB_of hf
    | (have q := F.n_in (n := n) (by assumption) (by assumption)
       have q2 := F.within_in (off := off) (n := n) (by assumption) q.1
       rw [frB_of hf]
       simp only [Bool.true_and, Bool.and_eq_true, decide_eq_true_eq]
       omega)
    | (refine two_no ?_; (simp only [F.fill, F.may, *, ↓reduceIte, Bool.true_eq_false, Bool.false_eq_true] <;> rfl); done)
    | (have q := F.n_in (n := n) (by assumption) (by assumption)
       obtain ⟨q1, q2, q3⟩ := F.within_in (off := off) (n := n) (by assumption) q.1
       clear q q2 q3
       refine two_same (X := F.touch f (512 + off) n) ?_
       (simp only [F.fill, F.may, *, ↓reduceIte, Bool.true_eq_false, Bool.false_eq_true] <;> rfl)
       done)
def k_gFill : List SV → List Blk → Res := fun args _ => match args with
  | [.mix [.arr 11 12 g, .arr 64 14 h, .int .i64 ids], .int .i64 off, .int .i64 n] => .test (frB g h) (.ok (.tup [frv (F.fill (frD g h ids) off n).1, .int .i64 (F.fill (frD g h ids) off n).2]) [])
  | _ => .fail
theorem k_gFill_ok : CtrOk Tryz.prog Gw 29 k_gFill := by
  refine ⟨fun _ _ => by kernel_rfl, fun args M => ?_⟩
  unfold k_gFill
  split
  · rename_i g h ids off n
    intro ht
    have hfr : frB g h = true := ht
    exact ctr_fr (Γ := ⟨[(75, k_gRight), (78, k_gwithin), (79, k_gtouch)], eqs, [], [], [], mixs, meqs⟩) (sv := .tup [frv (F.fill (frD g h ids) off n).1, .int .i64 (F.fill (frD g h ids) off n).2]) st_Gw ⟨(okCons k_gRight_ok (okCons k_gwithin_ok (okCons k_gtouch_ok okNil))), eqs_ok, okNilB, okNilI, okNilP, mixs_ok, meqs_ok⟩ Tryz.func29 rfl mixed [] (by kernel_rfl) 10000 (rest := [.int .i64 off, .int .i64 n]) hfr rfl (gfill_run _ (frD_wf hfr) off n)
  · trivial
end Go.Proofs.YtgfemfgimefmeaaGreat
namespace Go.Proofs.YtgfemfgimefmeaaGreat
open Go.RowKit Go.Sx
set_option linter.unusedSimpArgs false
set_option linter.unusedVariables false
set_option linter.unnecessarySimpa false
set_option maxRecDepth 100000
set_option maxHeartbeats 4000000
namespace F
/-- The frame at the start. -/
def start : Fr := ⟨[V.zero, ⟨3, V.zs, 0, 0, 0, 0, false⟩, V.zero, V.zero, V.zero, V.zero, V.zero, V.zero, V.zero, V.zero, ⟨2, V.zs, 0, 0, 0, 0, false⟩], List.replicate 64 noSl, 0⟩
theorem start_wf : start.wf := ⟨rfl, rfl, rfl, rfl⟩
end F
theorem eqDef_A (L M : List Ab) : eqDef 11 [.int, .int, .int, .int, .int, .int, .int, .int, .int, .int, .int, .bool] (gOf eA L) (gOf eA M) = true := decide_eq_true fun _ _ => rfl
theorem eqDef_S (L M : List Sl) : eqDef 64 [.bool, .int, .int, .int, .int, .int, .int, .int, .int, .int, .int, .int, .int, .bool] (gOf eS L) (gOf eS M) = true := decide_eq_true fun _ _ => rfl
theorem eqArr_A (L : List Ab) : eqArr 11 [.int, .int, .int, .int, .int, .int, .int, .int, .int, .int, .int, .bool] (gOf eA L) (gOf eA L) = true := decide_eq_true fun i _ => by
  show some _ = some true
  simp
theorem eqArr_S (L : List Sl) : eqArr 64 [.bool, .int, .int, .int, .int, .int, .int, .int, .int, .int, .int, .int, .int, .bool] (gOf eS L) (gOf eS L) = true := decide_eq_true fun i _ => by
  show some _ = some true
  simp
def k_fStart : List SV → List Blk → Res := fun args _ => match args with
  | [] => .ok (frv F.start) []
  | _ => .fail
theorem k_fStart_ok : CtrOk Tryz.prog Gw 31 k_fStart := by
  refine ⟨fun _ _ => by kernel_rfl, fun args M => ?_⟩
  unfold k_fStart
  split
  · refine ctr_flat (Γ := ⟨[], eqs, [], [], [], mixs, meqs⟩) (sv := frv F.start) st_Gw ⟨okNil, eqs_ok, okNilB, okNilI, okNilP, mixs_ok, meqs_ok⟩ Tryz.func31 rfl mixed [] (by kernel_rfl) 10000 (by rfl) ?_
    (conv => whnf)
    (repeat' (first | (refine step_t (by first | rfl | assumption) ?_; (conv => whnf)) | (refine step_f (by first | rfl | assumption) ?_; (conv => whnf)) | (refine step_nt (by assumption) ?_; (conv => whnf)) | (refine step_nf (by assumption) ?_; (conv => whnf)) | (refine step_n (fun hb => ?_) (fun hb => ?_) <;> (first | contradiction | (conv => whnf))) | (refine And.intro (fun hb => ?_) (fun hb => ?_) <;> (first | contradiction | (conv => whnf))) | (refine And.intro (a := (_ : Bool) = true) ?_ ?_; rotate_left 1; (conv => whnf))))
    all_goals (first | rfl | trivial | (refine eqv_fr (X := F.start) (fun i hi => ?_) F.zero_S rfl; match i, hi with | 0, _ => rfl | 1, _ => rfl | 2, _ => rfl | 3, _ => rfl | 4, _ => rfl | 5, _ => rfl | 6, _ => rfl | 7, _ => rfl | 8, _ => rfl | 9, _ => rfl | 10, _ => rfl))
  · trivial
def k_lnumber : List SV → List Blk → Res := fun args _ => match args with
  | [.u64 n] => .ok (abv ⟨1, C.const n, 0, 0, 0, 0, false⟩) []
  | _ => .fail
theorem k_lnumber_ok : CtrOk Tryz.prog Gw 32 k_lnumber := by
  refine ⟨fun _ _ => by kernel_rfl, fun args M => ?_⟩
  unfold k_lnumber
  split
  · rename_i n
    refine ctr_flat (Γ := ⟨[(83, k_qConst)], eqs, [], [], [], mixs, meqs⟩) (sv := abv ⟨1, C.const n, 0, 0, 0, 0, false⟩) st_Gw ⟨(okCons k_qConst_ok okNil), eqs_ok, okNilB, okNilI, okNilP, mixs_ok, meqs_ok⟩ Tryz.func32 rfl mixed [] (by kernel_rfl) 10000 (by rfl) ?_
    (conv => whnf)
    (repeat' (first | (refine step_t (by first | rfl | assumption) ?_; (conv => whnf)) | (refine step_f (by first | rfl | assumption) ?_; (conv => whnf)) | (refine step_nt (by assumption) ?_; (conv => whnf)) | (refine step_nf (by assumption) ?_; (conv => whnf)) | (refine step_n (fun hb => ?_) (fun hb => ?_) <;> (first | contradiction | (conv => whnf))) | (refine And.intro (fun hb => ?_) (fun hb => ?_) <;> (first | contradiction | (conv => whnf))) | (refine And.intro (a := (_ : Bool) = true) ?_ ?_; rotate_left 1; (conv => whnf))))
    all_goals (first | rfl | trivial | (simp [eqv, eqvL1, eqv1]; done))
  · trivial
def k_lsome : List SV → List Blk → Res := fun args _ => match args with
  | [.u64 a, .u64 b] => .ok (abv ⟨1, (C.of ⟨BitVec.ofInt 64 0, BitVec.ofInt 64 18446744073709551615⟩ ⟨a, b, sv a, sv b⟩).1, 0, 0, 0, 0, false⟩) []
  | _ => .fail
theorem k_lsome_ok : CtrOk Tryz.prog Gw 33 k_lsome := by
  refine ⟨fun _ _ => by kernel_rfl, fun args M => ?_⟩
  unfold k_lsome
  split
  · rename_i a b
    refine ctr_flat (Γ := ⟨[(85, k_qOf)], eqs, [], [], [], mixs, meqs⟩) (sv := abv ⟨1, (C.of ⟨BitVec.ofInt 64 0, BitVec.ofInt 64 18446744073709551615⟩ ⟨a, b, sv a, sv b⟩).1, 0, 0, 0, 0, false⟩) st_Gw ⟨(okCons k_qOf_ok okNil), eqs_ok, okNilB, okNilI, okNilP, mixs_ok, meqs_ok⟩ Tryz.func33 rfl mixed [] (by kernel_rfl) 10000 (by rfl) ?_
    (conv => whnf)
    (repeat' (first | (refine step_t (by first | rfl | assumption) ?_; (conv => whnf)) | (refine step_f (by first | rfl | assumption) ?_; (conv => whnf)) | (refine step_nt (by assumption) ?_; (conv => whnf)) | (refine step_nf (by assumption) ?_; (conv => whnf)) | (refine step_n (fun hb => ?_) (fun hb => ?_) <;> (first | contradiction | (conv => whnf))) | (refine And.intro (fun hb => ?_) (fun hb => ?_) <;> (first | contradiction | (conv => whnf))) | (refine And.intro (a := (_ : Bool) = true) ?_ ?_; rotate_left 1; (conv => whnf))))
    all_goals (first | rfl | trivial | exact S.inS_iff.2 ⟨S.sv_in _, S.sv_in _⟩ | (simp [eqv, eqvL1, eqv1]; done))
  · trivial
end Go.Proofs.YtgfemfgimefmeaaGreat
namespace Go.Proofs.YtgfemfgimefmeaaGreat
open Go.RowKit Go.Sx
set_option linter.unusedSimpArgs false
set_option linter.unusedVariables false
set_option linter.unnecessarySimpa false
set_option maxRecDepth 100000
set_option maxHeartbeats 4000000
def k_awake23 : List SV → List Blk → Res := fun args _ => match args with
  | [] => .ok (.bool true) []
  | _ => .fail
theorem k_awake23_ok : CtrOk Tryz.prog Gw 9 k_awake23 := by
  refine ⟨fun _ _ => by kernel_rfl, fun args M => ?_⟩
  unfold k_awake23
  split
  · refine ctr_flat (Γ := ⟨[(31, k_fStart), (10, k_fStore), (11, k_fLoad), (19, k_fReady), (32, k_lnumber), (33, k_lsome)], eqs, [], [], [], mixs, meqs⟩) (sv := .bool true) st_Gw ⟨(okCons k_fStart_ok (okCons k_fStore_ok (okCons k_fLoad_ok (okCons k_fReady_ok (okCons k_lnumber_ok (okCons k_lsome_ok okNil)))))), eqs_ok, okNilB, okNilI, okNilP, mixs_ok, meqs_ok⟩ Tryz.func9 rfl mixed [(5, 7, [0, 0, 3, 7, 15, 15, 0, 95, 255]), (7, 24, [0, 1, 3, 7, 7, 23, 55, 127, 255, 511, 1023, 2047, 4095, 8191, 16383, 32767, 65535, 131071, 262143, 524287, 1048575, 2097151, 4194303, 4194303, 16777215, 33554431, 67108863, 134217727, 268435455, 536870911, 1073741823, 2147483647, 4294967295, 8589934591, 17179869183, 34359738367])] (by kernel_rfl) 10000 (by rfl) ?_
    (conv => whnf)
    (repeat' (first | (refine step_t (by kernel_rfl) ?_; (conv => whnf)) | (refine step_f (by kernel_rfl) ?_; (conv => whnf)) | (refine step_nt (by assumption) ?_; (conv => whnf)) | (refine step_nf (by assumption) ?_; (conv => whnf)) | (refine step_n (fun hb => ?_) (fun hb => ?_) <;> (first | contradiction | (conv => whnf))) | (refine And.intro (fun hb => ?_) (fun hb => ?_) <;> (first | contradiction | (conv => whnf))) | (refine And.intro ?_ ?_; rotate_left 1; (conv => whnf))))
    all_goals (first | rfl | trivial | kernel_rfl)
  · trivial
end Go.Proofs.YtgfemfgimefmeaaGreat
