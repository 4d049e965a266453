import Derived.Test.YtgfemfgimefmeaaGreatXF1
import Derived.Test.YtgfemfgimefmeaaGreatXV
namespace Go.Proofs.YtgfemfgimefmeaaGreat
open Go.RowKit Go.Sx
set_option linter.unusedSimpArgs false
set_option linter.unusedVariables false
set_option linter.unnecessarySimpa false
set_option maxRecDepth 100000
set_option maxHeartbeats 4000000
namespace C
theorem const_S (n : BitVec 64) : R.inS (const n).s = true := S.inS_iff.2 ⟨S.sv_in n, S.sv_in n⟩
theorem low_in {x : Sc} (h : R.inS x.s = true) (n : Int) (sg : Bool) : R.inS (low x n sg).1.s = true := by
  unfold low
  split
  · split
    · split
      · exact h
      · unfold tail
        split
        · split
          · exact cut_in h _ _
          · split
            · exact const_S _
            · exact of_in (wraps_in _ _ _ _)
        · exact cut_in h _ _
    · rfl
  · rfl
end C
theorem ab_eqv {X Y : Ab} (h : X = Y) : eqvL1 (match abv X with | .agg l => l | _ => []) (match abv Y with | .agg l => l | _ => []) := by
  subst h
  simp [abv, eqvL1, eqv1]
theorem two_ab {k : Ab × Int} {X : Ab} {c : Int} (h : k = (X, c)) : eqv2 (abv X) (abv k.1) ∧ eqvL2 [.int .i64 c] [.int .i64 k.2] := by
  subst h
  exact ⟨ab_eqv rfl, by simp [eqvL2, eqv2, eqv1]⟩
theorem two_int {k : Int × Int} {x c : Int} (h : k = (x, c)) : eqv2 (.int .i64 x) (.int .i64 k.1) ∧ eqvL2 [.int .i64 c] [.int .i64 k.2] := by
  subst h
  simp [eqvL2, eqv2, eqv1]
theorem rem8 {p : Int} (h : 0 ≤ p) : 0 ≤ p.tmod 8 ∧ p.tmod 8 < 8 := by
  rw [Int.tmod_eq_emod_of_nonneg h]; omega
theorem noSl_eq : noSl = eS.dft := rfl
theorem two_zero {k : Ab × Int} {c : Int} (h : k = (V.zero, c)) : eqv2 (.agg [.int .u8 0, .u64 (BitVec.ofInt 64 0), .u64 (BitVec.ofInt 64 0), .u64 (BitVec.ofInt 64 0), .u64 (BitVec.ofInt 64 0), .int .i64 0, .int .i64 0, .int .i64 0, .int .i64 0, .int .i64 0, .int .i64 0, .ff]) (abv k.1) ∧ eqvL2 [.int .i64 c] [.int .i64 k.2] := by
  subst h
  exact ⟨by simp [eqv2, eqvL1, eqv1, V.zero, V.zs], by simp [eqvL2, eqv2, eqv1]⟩
def k_fpart : List SV → List Blk → Res := fun args _ => match args with
  | [.agg [.bool w, .int .u8 st, .int .u8 ak, .u64 av, .u64 am, .u64 alo, .u64 ahi, .int .i64 asl, .int .i64 ash, .int .i64 aof, .int .i64 amp, .int .i64 aid, .int .i64 arm, .bool anu], .int .i64 r, .int .i64 n, .bool sg] => .test (R.inS ⟨alo, ahi, asl, ash⟩ && (decide (0 ≤ r) && decide (r < 8))) (.ok (abv (F.part (⟨w, st, (⟨ak, (⟨⟨av, am⟩, ⟨alo, ahi, asl, ash⟩⟩ : Sc), aof, amp, aid, arm, anu⟩ : Ab)⟩ : Sl) r n sg)) [])
  | _ => .fail
theorem k_fpart_ok : CtrOk Tryz.prog Gw 39 k_fpart := by
  refine ⟨fun _ _ => by kernel_rfl, fun args M => ?_⟩
  unfold k_fpart
  split
  · rename_i w st ak av am alo ahi asl ash aof amp aid arm anu r n sg
    intro ht
    refine ctr_flat (Γ := ⟨[(90, k_cUnknown), (44, k_cOne), (45, k_cConst), (13, k_cLow), (53, k_vNumber)], eqs, [], [], [], mixs, meqs⟩) (sv := abv (F.part (⟨w, st, (⟨ak, (⟨⟨av, am⟩, ⟨alo, ahi, asl, ash⟩⟩ : Sc), aof, amp, aid, arm, anu⟩ : Ab)⟩ : Sl) r n sg)) st_Gw ⟨(okCons k_cUnknown_ok (okCons k_cOne_ok (okCons k_cConst_ok (okCons k_cLow_ok (okCons k_vNumber_ok okNil))))), eqs_ok, okNilB, okNilI, okNilP, mixs_ok, meqs_ok⟩ Tryz.func39 rfl mixed [] (by kernel_rfl) 10000 (by rfl) ?_
    have hin := S.and_true2 ht |>.1
    (conv => whnf)
    (repeat' (first | (refine step_t (by first | rfl | assumption) ?_; (conv => whnf)) | (refine step_f (by first | rfl | assumption) ?_; (conv => whnf)) | (refine step_nt (by assumption) ?_; (conv => whnf)) | (refine step_nf (by assumption) ?_; (conv => whnf)) | (refine step_n (fun hb => ?_) (fun hb => ?_) <;> (first | contradiction | (conv => whnf))) | (refine And.intro (fun hb => ?_) (fun hb => ?_) <;> (first | contradiction | (conv => whnf))) | (refine And.intro (a := (_ : Bool) = true) ?_ ?_; rotate_left 1; (conv => whnf))))
    all_goals (first
      | rfl
      | assumption
      | exact C.const_S _
      | exact C.low_in rfl _ _
      | exact C.low_in (C.const_S _) _ _
      | (simp only [Bool.and_eq_true, decide_eq_true_eq] at ht
         refine decide_eq_true ?_
         rw [i64_of (by omega) (by omega)]; omega)
      | exact ab_eqv (X := V.number (C.low C.unknown n sg).1) (by simp only [F.part, *, ↓reduceIte, Bool.true_eq_false, Bool.false_eq_true])
      | exact ab_eqv (X := V.number (C.low (C.const ((C.one (⟨ak, (⟨⟨av, am⟩, ⟨alo, ahi, asl, ash⟩⟩ : Sc), aof, amp, aid, arm, anu⟩ : Ab).n).1 >>> (IntKind.i64.wrap (8 * r)).toNat)) n sg).1) (by simp only [F.part, *, ↓reduceIte, Bool.true_eq_false, Bool.false_eq_true]))
  · trivial
end Go.Proofs.YtgfemfgimefmeaaGreat
namespace Go.Proofs.YtgfemfgimefmeaaGreat
open Go.RowKit Go.Sx
set_option linter.unusedSimpArgs false
set_option linter.unusedVariables false
set_option linter.unnecessarySimpa false
set_option maxRecDepth 100000
set_option maxHeartbeats 4000000
theorem load_run (f : Fr) (hf : f.wf) (off n : Int) (sg : Bool) : run Tryz.prog ⟨[(12, k_fRight), (36, k_fword), (34, k_fwithin), (38, k_fready), (39, k_fpart)], eqs, [], [], [], mixs, meqs⟩ 10000 [] 0 (bodyOf Tryz.f11) (initF Tryz.f11 [frv f, .int .i64 off, .int .i64 n, .bool sg]) [] (retK Tryz.prog Tryz.f11 fun x _ => eqv x (.tup [abv (F.load f off n sg).1, .int .i64 (F.load f off n sg).2])) := by
  (conv => whnf)
  (repeat' (first | (refine step_t (by first | rfl | assumption) ?_; (conv => whnf)) | (refine step_f (by first | rfl | assumption) ?_; (conv => whnf)) | (refine step_nt (by assumption) ?_; (conv => whnf)) | (refine step_nf (by assumption) ?_; (conv => whnf)) | (refine step_n (fun hb => ?_) (fun hb => ?_) <;> (first | contradiction | (conv => whnf))) | (refine And.intro (fun hb => ?_) (fun hb => ?_) <;> (first | contradiction | (conv => whnf))) | (refine And.intro (a := (_ : Bool) = true) ?_ ?_; rotate_left 1; (conv => whnf))))
  all_goals (try simp only [frD_of hf] at *)
  all_goals try first
    | exact frB_of hf
    | exact (rfl : ((8 : Int) != 0) = true)
    | rfl
    | (refine two_zero ?_; simp only [F.load, *, noSl_eq, ↓reduceIte, Bool.true_eq_false, Bool.false_eq_true]; done)
  all_goals (
    have hw := F.word_in (n := n) (by assumption)
    obtain ⟨q1, q2, q3⟩ := F.within_in (off := off) (n := n) (by assumption) hw.1
    have e8 := quo8 (p := (F.within off n).1) (by omega) (by omega)
    have r8 := rem8 (p := (F.within off n).1) (by omega))
  all_goals (try simp only [e8, Int.toNat_natCast] at *)
  all_goals first
    | exact decide_eq_true (by omega)
    | (rw [Bool.and_eq_true]; exact ⟨decide_eq_true (by omega), decide_eq_true (by omega)⟩)
    | (rw [frB_of hf]
       simp only [Bool.true_and, Bool.and_eq_true, decide_eq_true_eq]
       omega)
    | (have hin := inS_at hf.si (i := (F.within off n).1.toNat / 8) (by rw [hf.s]; omega)
       rw [Bool.and_eq_true, Bool.and_eq_true]
       exact ⟨hin, decide_eq_true (by omega), decide_eq_true (by omega)⟩)
    | (clear q1 q2 q3 e8 hw r8
       first
       | (refine two_zero ?_; simp only [F.load, *, noSl_eq, ↓reduceIte, Bool.true_eq_false, Bool.false_eq_true]; done)
       | (refine two_ab (X := (f.S.getD ((F.within off n).1.toNat / 8) noSl).a) ?_; simp only [F.load, *, noSl_eq, ↓reduceIte, Bool.true_eq_false, Bool.false_eq_true]; done)
       | exact two_ab (X := F.part (f.S.getD ((F.within off n).1.toNat / 8) noSl) ((F.within off n).1.tmod 8) n sg) (by simp only [F.load, *, noSl_eq, ↓reduceIte, Bool.true_eq_false, Bool.false_eq_true]))
def k_fLoad : List SV → List Blk → Res := fun args _ => match args with
  | [.mix [.arr 11 12 g, .arr 64 14 h, .int .i64 ids], .int .i64 off, .int .i64 n, .bool sg] => .test (frB g h) (.ok (.tup [abv (F.load (frD g h ids) off n sg).1, .int .i64 (F.load (frD g h ids) off n sg).2]) [])
  | [.mix [.arr 11 12 g, .arr 64 14 h, .int .i64 ids], .int .i64 off, .int .i64 n, .ff] => .test (frB g h) (.ok (.tup [abv (F.load (frD g h ids) off n false).1, .int .i64 (F.load (frD g h ids) off n false).2]) [])
  | _ => .fail
theorem k_fLoad_ok : CtrOk Tryz.prog Gw 11 k_fLoad := by
  refine ⟨fun _ _ => by kernel_rfl, fun args M => ?_⟩
  unfold k_fLoad
  split
  · rename_i g h ids off n sg
    intro ht
    have hfr : frB g h = true := ht
    exact ctr_fr (Γ := ⟨[(12, k_fRight), (36, k_fword), (34, k_fwithin), (38, k_fready), (39, k_fpart)], eqs, [], [], [], mixs, meqs⟩) (sv := .tup [abv (F.load (frD g h ids) off n sg).1, .int .i64 (F.load (frD g h ids) off n sg).2]) st_Gw ⟨(okCons k_fRight_ok (okCons k_fword_ok (okCons k_fwithin_ok (okCons k_fready_ok (okCons k_fpart_ok okNil))))), eqs_ok, okNilB, okNilI, okNilP, mixs_ok, meqs_ok⟩ Tryz.func11 rfl mixed [] (by kernel_rfl) 10000 (rest := [.int .i64 off, .int .i64 n, .bool sg]) hfr rfl (load_run _ (frD_wf hfr) off n sg)
  · rename_i g h ids off n
    intro ht
    have hfr : frB g h = true := ht
    exact ctr_fr (Γ := ⟨[(12, k_fRight), (36, k_fword), (34, k_fwithin), (38, k_fready), (39, k_fpart)], eqs, [], [], [], mixs, meqs⟩) (sv := .tup [abv (F.load (frD g h ids) off n false).1, .int .i64 (F.load (frD g h ids) off n false).2]) st_Gw ⟨(okCons k_fRight_ok (okCons k_fword_ok (okCons k_fwithin_ok (okCons k_fready_ok (okCons k_fpart_ok okNil))))), eqs_ok, okNilB, okNilI, okNilP, mixs_ok, meqs_ok⟩ Tryz.func11 rfl mixed [] (by kernel_rfl) 10000 (rest := [.int .i64 off, .int .i64 n, .bool false]) hfr rfl (load_run _ (frD_wf hfr) off n false)
  · trivial
end Go.Proofs.YtgfemfgimefmeaaGreat
namespace Go.Proofs.YtgfemfgimefmeaaGreat
open Go.RowKit Go.Sx
set_option linter.unusedSimpArgs false
set_option linter.unusedVariables false
set_option linter.unnecessarySimpa false
set_option maxRecDepth 100000
set_option maxHeartbeats 4000000
theorem one_lt (x : Int) : decide (1 ≤ x) = decide (0 < x) := rfl
theorem lt_no {x : Int} (h : decide (0 ≤ x) = false) : decide (0 < x) = false := decide_eq_false (by have := of_decide_eq_false h; omega)
theorem id_no {x : Int} (h : decide (0 ≤ x) = false) : (x == 0) = false := beq_false_of_ne (by have := of_decide_eq_false h; omega)
theorem id_eq {x : Int} (h : decide (0 ≤ x) = true) (k : decide (0 < x) = false) : (x == 0) = true := beq_iff_eq.2 (by have := of_decide_eq_true h; have := of_decide_eq_false k; omega)
attribute [local irreducible] C.right C.leq C.join C.unknown C.const R.inS
def k_unear : List SV → List Blk → Res := fun args _ => match args with
  | [.int .i64 n] => .ok (.bool (V.near n)) []
  | _ => .fail
theorem k_unear_ok : CtrOk Tryz.prog Gw 113 k_unear := by
  refine ⟨fun _ _ => by kernel_rfl, fun args M => ?_⟩
  unfold k_unear
  split
  · rename_i n
    refine ctr_flat (Γ := ⟨[], eqs, [], [], [], mixs, meqs⟩) (sv := .bool (V.near n)) st_Gw ⟨okNil, eqs_ok, okNilB, okNilI, okNilP, mixs_ok, meqs_ok⟩ Tryz.func113 rfl mixed [] (by kernel_rfl) 10000 (by rfl) ?_
    (conv => whnf)
    (repeat' (first | (refine step_t (by first | rfl | assumption) ?_; (conv => whnf)) | (refine step_f (by first | rfl | assumption) ?_; (conv => whnf)) | (refine step_nt (by assumption) ?_; (conv => whnf)) | (refine step_nf (by assumption) ?_; (conv => whnf)) | (refine step_n (fun hb => ?_) (fun hb => ?_) <;> (first | contradiction | (conv => whnf))) | (refine And.intro (fun hb => ?_) (fun hb => ?_) <;> (first | contradiction | (conv => whnf))) | (refine And.intro (a := (_ : Bool) = true) ?_ ?_; rotate_left 1; (conv => whnf))))
    all_goals (first | rfl | trivial | assumption | (simp only [V.near, *, Bool.true_or, Bool.or_true, Bool.or_self, Bool.false_or, Bool.or_false, Bool.and_true, Bool.true_and, Bool.false_and, Bool.and_false, Bool.and_self, ↓reduceIte, Bool.not_true, Bool.not_false, Bool.false_eq_true, Bool.and_assoc]; done) | (simp only [V.near, *, Bool.true_or, Bool.or_true, Bool.or_self, Bool.false_or, Bool.or_false, Bool.and_true, Bool.true_and, Bool.false_and, Bool.and_false, ↓reduceIte, Bool.not_true, Bool.not_false, Bool.false_eq_true, beq_self_eq_true, beq_false]; done) | (simp only [V.near, *, Bool.true_or, Bool.or_true, Bool.or_self, Bool.false_or, Bool.or_false, Bool.and_true, Bool.true_and, Bool.false_and, Bool.and_false, ↓reduceIte, Bool.not_true, Bool.not_false, Bool.false_eq_true, beq_self_eq_true, beq_false, Bool.and_assoc]; done) | (simp_all [V.near]; done))
  · trivial
def k_unum : List SV → List Blk → Res := fun args _ => match args with
  | [.agg [.u64 nv, .u64 nm, .u64 nlo, .u64 nhi, .int .i64 nsl, .int .i64 nsh]] => .test (R.inS ⟨nlo, nhi, nsl, nsh⟩) (.ok (.bool (C.right (⟨⟨nv, nm⟩, ⟨nlo, nhi, nsl, nsh⟩⟩ : Sc) && (decide (nhi ≤ BitVec.ofInt 64 1048576) && decide (0 ≤ nsl)))) [])
  | _ => .fail
theorem k_unum_ok : CtrOk Tryz.prog Gw 114 k_unum := by
  refine ⟨fun _ _ => by kernel_rfl, fun args M => ?_⟩
  unfold k_unum
  split
  · rename_i nv nm nlo nhi nsl nsh
    intro ht
    refine ctr_flat (Γ := ⟨[(112, k_qRight)], eqs, [], [], [], mixs, meqs⟩) (sv := .bool (C.right (⟨⟨nv, nm⟩, ⟨nlo, nhi, nsl, nsh⟩⟩ : Sc) && (decide (nhi ≤ BitVec.ofInt 64 1048576) && decide (0 ≤ nsl)))) st_Gw ⟨(okCons k_qRight_ok okNil), eqs_ok, okNilB, okNilI, okNilP, mixs_ok, meqs_ok⟩ Tryz.func114 rfl mixed [] (by kernel_rfl) 10000 (by rfl) ?_
    (conv => whnf)
    (repeat' (first | (refine step_t (by first | rfl | assumption) ?_; (conv => whnf)) | (refine step_f (by first | rfl | assumption) ?_; (conv => whnf)) | (refine step_nt (by assumption) ?_; (conv => whnf)) | (refine step_nf (by assumption) ?_; (conv => whnf)) | (refine step_n (fun hb => ?_) (fun hb => ?_) <;> (first | contradiction | (conv => whnf))) | (refine And.intro (fun hb => ?_) (fun hb => ?_) <;> (first | contradiction | (conv => whnf))) | (refine And.intro (a := (_ : Bool) = true) ?_ ?_; rotate_left 1; (conv => whnf))))
    all_goals (first | rfl | trivial | assumption | (simp only [Bool.and_true, *, Bool.true_or, Bool.or_true, Bool.or_self, Bool.false_or, Bool.or_false, Bool.and_true, Bool.true_and, Bool.false_and, Bool.and_false, Bool.and_self, ↓reduceIte, Bool.not_true, Bool.not_false, Bool.false_eq_true, Bool.and_assoc]; done) | (simp only [Bool.and_true, *, Bool.true_or, Bool.or_true, Bool.or_self, Bool.false_or, Bool.or_false, Bool.and_true, Bool.true_and, Bool.false_and, Bool.and_false, ↓reduceIte, Bool.not_true, Bool.not_false, Bool.false_eq_true, beq_self_eq_true, beq_false]; done) | (simp only [Bool.and_true, *, Bool.true_or, Bool.or_true, Bool.or_self, Bool.false_or, Bool.or_false, Bool.and_true, Bool.true_and, Bool.false_and, Bool.and_false, ↓reduceIte, Bool.not_true, Bool.not_false, Bool.false_eq_true, beq_self_eq_true, beq_false, Bool.and_assoc]; done) | (simp_all [Bool.and_true]; done))
  · trivial
def k_unull : List SV → List Blk → Res := fun args _ => match args with
  | [.agg [.int .u8 ak, .u64 av, .u64 am, .u64 alo, .u64 ahi, .int .i64 asl, .int .i64 ash, .int .i64 aof, .int .i64 amp, .int .i64 aid, .int .i64 arm, .bool anu]] => .ok (.bool (V.nulled (⟨ak, (⟨⟨av, am⟩, ⟨alo, ahi, asl, ash⟩⟩ : Sc), aof, amp, aid, arm, anu⟩ : Ab))) []
  | _ => .fail
theorem k_unull_ok : CtrOk Tryz.prog Gw 116 k_unull := by
  refine ⟨fun _ _ => by kernel_rfl, fun args M => ?_⟩
  unfold k_unull
  split
  · rename_i ak av am alo ahi asl ash aof amp aid arm anu
    refine ctr_flat (Γ := ⟨[(83, k_qConst)], eqs, [], [(115, Tryz.f115, [])], [], mixs, meqs⟩) (sv := .bool (V.nulled (⟨ak, (⟨⟨av, am⟩, ⟨alo, ahi, asl, ash⟩⟩ : Sc), aof, amp, aid, arm, anu⟩ : Ab))) st_Gw ⟨(okCons k_qConst_ok okNil), eqs_ok, okNilB, (okConsI Tryz.func115 rfl (by kernel_rfl) (fun _ _ => by kernel_rfl) okNilI), okNilP, mixs_ok, meqs_ok⟩ Tryz.func116 rfl mixed [] (by kernel_rfl) 10000 (by rfl) ?_
    (conv => whnf)
    (repeat' (first | (refine step_t (by first | rfl | assumption) ?_; (conv => whnf)) | (refine step_f (by first | rfl | assumption) ?_; (conv => whnf)) | (refine step_nt (by assumption) ?_; (conv => whnf)) | (refine step_nf (by assumption) ?_; (conv => whnf)) | (refine step_n (fun hb => ?_) (fun hb => ?_) <;> (first | contradiction | (conv => whnf))) | (refine And.intro (fun hb => ?_) (fun hb => ?_) <;> (first | contradiction | (conv => whnf))) | (refine And.intro (a := (_ : Bool) = true) ?_ ?_; rotate_left 1; (conv => whnf))))
    all_goals (first | rfl | trivial | assumption | (simp only [V.nulled, V.nought, C.eqc, *, Bool.true_or, Bool.or_true, Bool.or_self, Bool.false_or, Bool.or_false, Bool.and_true, Bool.true_and, Bool.false_and, Bool.and_false, Bool.and_self, ↓reduceIte, Bool.not_true, Bool.not_false, Bool.false_eq_true, Bool.and_assoc]; done) | (simp only [V.nulled, V.nought, C.eqc, *, Bool.true_or, Bool.or_true, Bool.or_self, Bool.false_or, Bool.or_false, Bool.and_true, Bool.true_and, Bool.false_and, Bool.and_false, ↓reduceIte, Bool.not_true, Bool.not_false, Bool.false_eq_true, beq_self_eq_true, beq_false]; done) | (simp only [V.nulled, V.nought, C.eqc, *, Bool.true_or, Bool.or_true, Bool.or_self, Bool.false_or, Bool.or_false, Bool.and_true, Bool.true_and, Bool.false_and, Bool.and_false, ↓reduceIte, Bool.not_true, Bool.not_false, Bool.false_eq_true, beq_self_eq_true, beq_false, Bool.and_assoc]; done) | (simp_all [V.nulled, V.nought, C.eqc]; done) | (simp only [Bool.and_true, one_lt] at *; simp only [V.nulled, V.nought, C.eqc, *, Bool.and_true, Bool.true_and, Bool.false_and, Bool.and_false, ↓reduceIte, Bool.false_eq_true]; done))
  · trivial
attribute [local irreducible] V.near
def k_uRight : List SV → List Blk → Res := fun args _ => match args with
  | [.agg [.int .u8 ak, .u64 av, .u64 am, .u64 alo, .u64 ahi, .int .i64 asl, .int .i64 ash, .int .i64 aof, .int .i64 amp, .int .i64 aid, .int .i64 arm, .bool anu]] => .test (R.inS ⟨alo, ahi, asl, ash⟩) (.ok (.bool (V.right (⟨ak, (⟨⟨av, am⟩, ⟨alo, ahi, asl, ash⟩⟩ : Sc), aof, amp, aid, arm, anu⟩ : Ab))) [])
  | _ => .fail
theorem k_uRight_ok : CtrOk Tryz.prog Gw 76 k_uRight := by
  refine ⟨fun _ _ => by kernel_rfl, fun args M => ?_⟩
  unfold k_uRight
  split
  · rename_i ak av am alo ahi asl ash aof amp aid arm anu
    intro ht
    refine ctr_flat (Γ := ⟨[(112, k_qRight), (113, k_unear), (114, k_unum), (116, k_unull), (83, k_qConst)], eqs, [], [(115, Tryz.f115, [])], [], mixs, meqs⟩) (sv := .bool (V.right (⟨ak, (⟨⟨av, am⟩, ⟨alo, ahi, asl, ash⟩⟩ : Sc), aof, amp, aid, arm, anu⟩ : Ab))) st_Gw ⟨(okCons k_qRight_ok (okCons k_unear_ok (okCons k_unum_ok (okCons k_unull_ok (okCons k_qConst_ok okNil))))), eqs_ok, okNilB, (okConsI Tryz.func115 rfl (by kernel_rfl) (fun _ _ => by kernel_rfl) okNilI), okNilP, mixs_ok, meqs_ok⟩ Tryz.func76 rfl mixed [] (by kernel_rfl) 10000 (by rfl) ?_
    (conv => whnf)
    (repeat' (first | (refine step_t (by first | rfl | assumption) ?_; (conv => whnf)) | (refine step_f (by first | rfl | assumption) ?_; (conv => whnf)) | (refine step_nt (by assumption) ?_; (conv => whnf)) | (refine step_nf (by assumption) ?_; (conv => whnf)) | (refine step_n (fun hb => ?_) (fun hb => ?_) <;> (first | contradiction | (conv => whnf))) | (refine And.intro (fun hb => ?_) (fun hb => ?_) <;> (first | contradiction | (conv => whnf))) | (refine And.intro (a := (_ : Bool) = true) ?_ ?_; rotate_left 1; (conv => whnf))))
    all_goals (first | rfl | trivial | assumption | (simp only [V.right, V.zeroB, V.placed, V.added, V.numbered, V.named, V.nought, V.roomy, V.mapped, V.sized, *, Bool.true_or, Bool.or_true, Bool.or_self, Bool.false_or, Bool.or_false, Bool.and_true, Bool.true_and, Bool.false_and, Bool.and_false, Bool.and_self, ↓reduceIte, Bool.not_true, Bool.not_false, Bool.false_eq_true, Bool.and_assoc]; done) | (simp only [V.right, V.zeroB, V.placed, V.added, V.numbered, V.named, V.nought, V.roomy, V.mapped, V.sized, *, Bool.true_or, Bool.or_true, Bool.or_self, Bool.false_or, Bool.or_false, Bool.and_true, Bool.true_and, Bool.false_and, Bool.and_false, ↓reduceIte, Bool.not_true, Bool.not_false, Bool.false_eq_true, beq_self_eq_true, beq_false]; done) | (simp only [V.right, V.zeroB, V.placed, V.added, V.numbered, V.named, V.nought, V.roomy, V.mapped, V.sized, *, Bool.true_or, Bool.or_true, Bool.or_self, Bool.false_or, Bool.or_false, Bool.and_true, Bool.true_and, Bool.false_and, Bool.and_false, ↓reduceIte, Bool.not_true, Bool.not_false, Bool.false_eq_true, beq_self_eq_true, beq_false, Bool.and_assoc]; done) | (simp_all [V.right, V.zeroB, V.placed, V.added, V.numbered, V.named, V.nought, V.roomy, V.mapped, V.sized]; done) | (have h0 := lt_no (x := aid) (by assumption); have h1 := id_no (x := aid) (by assumption); simp only [V.right, V.zeroB, V.placed, V.added, V.numbered, V.named, V.nought, V.roomy, V.mapped, V.sized, C.eqc, *, Bool.and_true, Bool.true_and, Bool.false_and, Bool.and_false, ↓reduceIte, Bool.false_eq_true, Bool.or_self, Bool.or_true, Bool.or_false, Bool.false_or, beq_self_eq_true, beq_false, Bool.and_assoc]; done) | (have h1 := id_eq (x := aid) (by assumption) (by assumption); simp only [Bool.and_true, one_lt] at *; simp only [V.right, V.zeroB, V.placed, V.added, V.numbered, V.named, V.nought, V.roomy, V.mapped, V.sized, C.eqc, *, Bool.and_true, Bool.true_and, Bool.false_and, Bool.and_false, ↓reduceIte, Bool.false_eq_true, Bool.or_self, Bool.or_true, Bool.or_false, Bool.false_or, beq_self_eq_true, beq_false, Bool.and_assoc]; done) | (simp only [Bool.and_true, one_lt] at *; simp only [V.right, V.zeroB, V.placed, V.added, V.numbered, V.named, V.nought, V.roomy, V.mapped, V.sized, C.eqc, *, Bool.and_true, Bool.true_and, Bool.false_and, Bool.and_false, ↓reduceIte, Bool.false_eq_true, Bool.or_self, Bool.or_true, Bool.or_false, Bool.false_or, beq_self_eq_true, beq_false, Bool.and_assoc]; done))
  · trivial
end Go.Proofs.YtgfemfgimefmeaaGreat
