import Derived.Test.YtkfbjnikkmoanaaGreatDoorXF
import Derived.Test.YtkfbjnikkmoanaaGreatDoorRXA
import Derived.Test.YtkfbjnikkmoanaaGreatDoorXD
namespace Go.Proofs.YtkfbjnikkmoanaaGreatDoor
open Go.RowKit Go.Sx
set_option linter.unusedSimpArgs false
set_option linter.unusedVariables false
set_option linter.unnecessarySimpa false
set_option maxRecDepth 100000
set_option maxHeartbeats 4000000
/-- A constant truth value, as one that is known. -/
def loose : SV → SV
  | .tt => .bool true
  | .ff => .bool false
  | x => x
theorem loose_den (ρ : Val) (x : SV) : (loose x).den ρ = x.den ρ := by cases x <;> rfl
theorem denL_loose (ρ : Val) : ∀ l : List SV, denL ρ (l.map loose) = denL ρ l
  | [] => rfl
  | x :: l => by simp only [List.map_cons, denL, loose_den, denL_loose ρ l]
theorem ctr_loose {P : Program} {G : World → Prop} {g : FuncId} {c : List SV → List Blk → Res} (h : CtrOk P G g c) : CtrOk P G g fun args M => c (args.map loose) M :=
  ⟨h.1, fun args M => by have h2 := h.2 (args.map loose) M; simp only [denL_loose] at h2; exact h2⟩
namespace A
section
variable {t : Tn} {s : Sp}
theorem ofm_t (h : (C.of t s).2 = true) : ofm t s = (C.of t s).1 := by unfold ofm; rw [if_pos h]
theorem ofm_f (h : (C.of t s).2 = false) : ofm t s = C.unknown := by unfold ofm; rw [if_neg (by rw [h]; decide)]
end
/-- An operation of both, bit by bit and bound by bound. -/
def bop (op : Int) : Bool := op == 0 || (op == 16 || (op == 32 || (op == 64 || (op == 80 || op == 160))))
/-- A shift. -/
def sop (op : Int) : Bool := op == 96 || (op == 112 || op == 192)
theorem bop_cases {op : Int} (h : bop op = true) : op = 0 ∨ op = 16 ∨ op = 32 ∨ op = 64 ∨ op = 80 ∨ op = 160 := by
  unfold bop at h; simpa using h
theorem sop_cases {op : Int} (h : sop op = true) : op = 96 ∨ op = 112 ∨ op = 192 := by
  unfold sop at h; simpa using h
theorem right_t {x : Sc} (hi : R.inS x.s = true) (h : C.right x = true) : T.right x.t = true := ((C.right_iff hi).1 h).1.1
theorem right_s {x : Sc} (hi : R.inS x.s = true) (h : C.right x = true) : S.good x.s = true := by
  obtain ⟨_, l, k, _⟩ := ((C.right_iff hi).1 h).1
  exact S.good_iff.2 ⟨l, k⟩
theorem tdo_eq {op : Int} {a b : Tn} (h : bop op = true) (ha : T.right a = true) (hb : T.right b = true) : tdo op a b = (T.doesI op a b).1 := by
  unfold tdo
  rw [if_pos]
  rcases bop_cases h with rfl | rfl | rfl | rfl | rfl | rfl <;> (unfold T.doesI; rw [ha, hb]; rfl)
theorem sdo_eq {op : Int} {a b : Sp} (h : bop op = true ∨ op = 48) (ia : R.inS a = true) (ib : R.inS b = true) (ha : S.good a = true) (hb : S.good b = true) : sdo op a b = (R.does op a b).1 := by
  rw [R.does_eq op ia ib]
  unfold sdo
  rw [if_pos]
  rcases h with h | rfl
  · rcases bop_cases h with rfl | rfl | rfl | rfl | rfl | rfl <;> (rw [S.does_good ha hb]; rfl)
  · rw [S.does_good ha hb]; rfl
theorem tsh_eq {op k : Int} {a : Tn} (h : sop op = true) (ha : T.right a = true) (h0 : 0 ≤ k) (h1 : k ≤ 63) : tsh op a k = (T.shift op a k).1 := by
  unfold tsh
  rw [if_pos]
  unfold T.shift
  have e1 : decide (k < 0) = false := decide_eq_false (by omega)
  have e2 : decide (63 < k) = false := decide_eq_false (by omega)
  rcases sop_cases h with rfl | rfl | rfl <;> simp [ha, e1, e2]
theorem ssh_eq {op k : Int} {a : Sp} (h : sop op = true) (ia : R.inS a = true) (ha : S.good a = true) (h0 : 0 ≤ k) (h1 : k ≤ 63) : ssh op a k = (R.shift op a k).1 := by
  rw [R.shift_eq op k ia]
  unfold ssh
  rw [if_pos]
  unfold S.shift
  have e1 : decide (k < 0) = false := decide_eq_false (by omega)
  have e2 : decide (63 < k) = false := decide_eq_false (by omega)
  rcases sop_cases h with rfl | rfl | rfl
  all_goals
    rw [if_neg (by simp [ha, e1, e2])]
    split
    · rfl
    · simp
section
variable {op off k : Int} {w : Bool} {a b : Sc} (ia : R.inS a.s = true) (ib : R.inS b.s = true) (ra : C.right a = true) (rb : C.right b = true)
include ia ra
theorem shifted_ref (h : sop op = true) (h0 : 0 ≤ k) (h1 : k ≤ 63) : shifted op a k = ofm (T.shift op a.t k).1 (R.shift op a.s k).1 := by
  unfold shifted
  rw [tsh_eq h (right_t ia ra) h0 h1, ssh_eq h ia (right_s ia ra) h0 h1]
theorem sh_test (h : sop op = true) : (R.inS a.s && (C.right a && (sop op && (decide (0 ≤ sby w b) && decide (sby w b ≤ 63))))) = true := by
  have e : 0 ≤ sby w b ∧ sby w b ≤ 63 := by
    have hl : ((C.one b).1 % width w).toNat ≤ 63 := by
      rw [BitVec.toNat_umod]
      cases w
      · show (C.one b).1.toNat % 32 ≤ 63
        omega
      · show (C.one b).1.toNat % 64 ≤ 63
        omega
    have : sby w b = (((C.one b).1 % width w).toNat : Int) := by
      unfold sby sv
      exact BitVec.toInt_eq_toNat_of_lt (by omega)
    omega
  rw [ia, ra, h, decide_eq_true e.1, decide_eq_true e.2]; rfl
include ib rb
theorem both_ref (h : bop op = true) : both op a b = ofm (T.doesI op a.t b.t).1 (R.does op a.s b.s).1 := by
  unfold both
  rw [tdo_eq h (right_t ia ra) (right_t ib rb), sdo_eq (.inl h) ia ib (right_s ia ra) (right_s ib rb)]
theorem both_test (h : bop op = true) : (R.inS a.s && (R.inS b.s && (C.right a && (C.right b && bop op)))) = true := by rw [ia, ib, ra, rb, h]; rfl
theorem quo_ref : ofm any (sdo 48 a.s b.s) = ofm ⟨BitVec.ofInt 64 0, BitVec.allOnes 64⟩ (R.does 48 a.s b.s).1 := by
  rw [sdo_eq (.inr rfl) ia ib (right_s ia ra) (right_s ib rb)]; rfl
omit ra rb
theorem rdoes_in : R.inS (R.does op a.s b.s).1 = true := by rw [R.does_eq op ia ib]; exact S.does_in ia ib
omit ib
theorem rshift_in : R.inS (R.shift op a.s k).1 = true := by rw [R.shift_eq op k ia]; exact S.shift_in ia
end
section
variable {op off : Int} {w : Bool} {a b : Sc}
theorem ex_1 (h : (C.one a).2 = false) : exactB op off w a b = false := by unfold exactB; rw [h]; rfl
theorem ex_2 (h : (C.one b).2 = false) : exactB op off w a b = false := by unfold exactB; rw [h, Bool.false_and, Bool.and_false]
theorem made_ex (hk : (W.aluG op off w (BitVec.ofInt 64 0) (BitVec.ofInt 64 0)).2 = true) (h1 : (C.one a).2 = true) (h2 : (C.one b).2 = true) : made op off w a b = C.const (W.aluG op off w (C.one a).1 (C.one b).1).1 :=
  mk_e (by unfold exactB; rw [h1, h2, W.aluG_is, hk]; rfl)
theorem mov_ref (ib : R.inS b.s = true) (rb : C.right b = true) (h0 : (off == 0) = false) (h : (W.extB 0 (IntKind.i64.wrap ((IntKind.i64.wrap off).tdiv 8)) true).2 = true) : moved off b = (C.low b (IntKind.i64.wrap ((IntKind.i64.wrap off).tdiv 8)) true).1 := by
  rw [mov_1 h0]; unfold pickC
  rw [if_pos (by rw [(C.low_law ib _ true 0).1, h, rb]; rfl)]
end
end A
def k_qLowL : List SV → List Blk → Res := fun args M => k_qLow (args.map loose) M
theorem k_qLowL_ok : CtrOk Tryz.prog Gw 43 k_qLowL := ctr_loose k_qLow_ok
attribute [local irreducible] C.of C.low C.one C.right C.const R.inS T.doesI R.does T.shift R.shift
def k_zmade : List SV → List Blk → Res := fun args _ => match args with
  | [.agg [.u64 av, .u64 am], .agg [.u64 alo, .u64 ahi, .int .i64 asl, .int .i64 ash]] => .test (R.inS ⟨alo, ahi, asl, ash⟩) (.ok (scv (A.ofm ⟨av, am⟩ ⟨alo, ahi, asl, ash⟩)) [])
  | _ => .fail
theorem k_zmade_ok : CtrOk Tryz.prog Gw 117 k_zmade := by
  refine ⟨fun _ _ => by kernel_rfl, fun args M => ?_⟩
  unfold k_zmade
  split
  · rename_i av am alo ahi asl ash
    intro ht
    refine ctr_flat (Γ := ⟨[(158, k_qOf), (42, k_qUnknown)], eqs, [], [], []⟩) (sv := scv (A.ofm ⟨av, am⟩ ⟨alo, ahi, asl, ash⟩)) st_Gw ⟨(okCons k_qOf_ok (okCons k_qUnknown_ok okNil)), eqs_ok, okNilB, okNilI, okNilP⟩ Tryz.func117 rfl mixed [] (by kernel_rfl) 10000 (by rfl) ?_
    (conv => whnf)
    (repeat' (first | (refine step_t (by first | rfl | assumption) ?_; (conv => whnf)) | (refine step_f (by first | rfl | assumption) ?_; (conv => whnf)) | (refine step_nt (by assumption) ?_; (conv => whnf)) | (refine step_nf (by assumption) ?_; (conv => whnf)) | (refine step_n (fun hb => ?_) (fun hb => ?_) <;> (first | contradiction | (conv => whnf))) | (refine And.intro (fun hb => ?_) (fun hb => ?_) <;> (first | contradiction | (conv => whnf))) | (refine And.intro (a := (_ : Bool) = true) ?_ ?_; rotate_left 1; (conv => whnf))))
    all_goals (first | rfl | trivial | assumption | exact eqv_of (A.ofm_t (by assumption)) | exact eqv_of (A.ofm_f (by assumption)))
  · trivial
attribute [local irreducible] A.ofm
def k_zup : List SV → List Blk → Res := fun args _ => match args with
  | [.u64 h] => .ok (scv (A.upTo h)) []
  | _ => .fail
theorem k_zup_ok : CtrOk Tryz.prog Gw 119 k_zup := by
  refine ⟨fun _ _ => by kernel_rfl, fun args M => ?_⟩
  unfold k_zup
  split
  · rename_i h
    refine ctr_flat (Γ := ⟨[(118, k_rUnknown), (117, k_zmade)], eqs, [], [], []⟩) (sv := scv (A.upTo h)) st_Gw ⟨(okCons k_rUnknown_ok (okCons k_zmade_ok okNil)), eqs_ok, okNilB, okNilI, okNilP⟩ Tryz.func119 rfl mixed [] (by kernel_rfl) 10000 (by rfl) ?_
    (conv => whnf)
    (repeat' (first | (refine step_t (by first | rfl | assumption) ?_; (conv => whnf)) | (refine step_f (by first | rfl | assumption) ?_; (conv => whnf)) | (refine step_nt (by assumption) ?_; (conv => whnf)) | (refine step_nf (by assumption) ?_; (conv => whnf)) | (refine step_n (fun hb => ?_) (fun hb => ?_) <;> (first | contradiction | (conv => whnf))) | (refine And.intro (fun hb => ?_) (fun hb => ?_) <;> (first | contradiction | (conv => whnf))) | (refine And.intro (a := (_ : Bool) = true) ?_ ?_; rotate_left 1; (conv => whnf))))
    all_goals (first | rfl | trivial | assumption | exact A.upTo_in h | exact eqv_s (A.upTo h))
  · trivial
def k_zlow : List SV → List Blk → Res := fun args _ => match args with
  | [.agg [.u64 av, .u64 am, .u64 alo, .u64 ahi, .int .i64 asl, .int .i64 ash]] => .test (R.inS ⟨alo, ahi, asl, ash⟩ && C.right (⟨⟨av, am⟩, ⟨alo, ahi, asl, ash⟩⟩ : Sc)) (.ok (scv (A.low4 (⟨⟨av, am⟩, ⟨alo, ahi, asl, ash⟩⟩ : Sc))) [])
  | _ => .fail
theorem k_zlow_ok : CtrOk Tryz.prog Gw 36 k_zlow := by
  refine ⟨fun _ _ => by kernel_rfl, fun args M => ?_⟩
  unfold k_zlow
  split
  · rename_i av am alo ahi asl ash
    intro ht
    have hq := S.and_true2 ht
    have hq1 := hq.1
    have hq2 := hq.2
    refine ctr_flat (Γ := ⟨[(43, k_qLowL)], eqs, [], [], []⟩) (sv := scv (A.low4 (⟨⟨av, am⟩, ⟨alo, ahi, asl, ash⟩⟩ : Sc))) st_Gw ⟨(okCons k_qLowL_ok okNil), eqs_ok, okNilB, okNilI, okNilP⟩ Tryz.func36 rfl mixed [] (by kernel_rfl) 10000 (by rfl) ?_
    (conv => whnf)
    (repeat' (first | (refine step_t (by first | rfl | assumption) ?_; (conv => whnf)) | (refine step_f (by first | rfl | assumption) ?_; (conv => whnf)) | (refine step_nt (by assumption) ?_; (conv => whnf)) | (refine step_nf (by assumption) ?_; (conv => whnf)) | (refine step_n (fun hb => ?_) (fun hb => ?_) <;> (first | contradiction | (conv => whnf))) | (refine And.intro (fun hb => ?_) (fun hb => ?_) <;> (first | contradiction | (conv => whnf))) | (refine And.intro (a := (_ : Bool) = true) ?_ ?_; rotate_left 1; (conv => whnf))))
    all_goals (first | rfl | trivial | assumption | exact eqv_of (A.low4_eq hq1 hq2))
  · trivial
def k_zboth : List SV → List Blk → Res := fun args _ => match args with
  | [.int .u8 op, .agg [.u64 av, .u64 am, .u64 alo, .u64 ahi, .int .i64 asl, .int .i64 ash], .agg [.u64 bv, .u64 bm, .u64 blo, .u64 bhi, .int .i64 bsl, .int .i64 bsh]] => .test (R.inS ⟨alo, ahi, asl, ash⟩ && (R.inS ⟨blo, bhi, bsl, bsh⟩ && (C.right (⟨⟨av, am⟩, ⟨alo, ahi, asl, ash⟩⟩ : Sc) && (C.right (⟨⟨bv, bm⟩, ⟨blo, bhi, bsl, bsh⟩⟩ : Sc) && A.bop op)))) (.ok (scv (A.both op (⟨⟨av, am⟩, ⟨alo, ahi, asl, ash⟩⟩ : Sc) (⟨⟨bv, bm⟩, ⟨blo, bhi, bsl, bsh⟩⟩ : Sc))) [])
  | _ => .fail
theorem k_zboth_ok : CtrOk Tryz.prog Gw 114 k_zboth := by
  refine ⟨fun _ _ => by kernel_rfl, fun args M => ?_⟩
  unfold k_zboth
  split
  · rename_i op av am alo ahi asl ash bv bm blo bhi bsl bsh
    intro ht
    simp only [Bool.and_eq_true] at ht
    obtain ⟨ia, ib, ra, rb, ho⟩ := ht
    have hi1 := A.rdoes_in (op := op) (a := (⟨⟨av, am⟩, ⟨alo, ahi, asl, ash⟩⟩ : Sc)) (b := (⟨⟨bv, bm⟩, ⟨blo, bhi, bsl, bsh⟩⟩ : Sc)) ia ib
    refine ctr_flat (Γ := ⟨[(145, k_rDo), (116, k_srDo), (117, k_zmade)], eqs, [], [], []⟩) (sv := scv (A.both op (⟨⟨av, am⟩, ⟨alo, ahi, asl, ash⟩⟩ : Sc) (⟨⟨bv, bm⟩, ⟨blo, bhi, bsl, bsh⟩⟩ : Sc))) st_Gw ⟨(okCons k_rDo_ok (okCons k_srDo_ok (okCons k_zmade_ok okNil))), eqs_ok, okNilB, okNilI, okNilP⟩ Tryz.func114 rfl mixed [] (by kernel_rfl) 10000 (by rfl) ?_
    (conv => whnf)
    (repeat' (first | (refine step_t (by first | rfl | assumption) ?_; (conv => whnf)) | (refine step_f (by first | rfl | assumption) ?_; (conv => whnf)) | (refine step_nt (by assumption) ?_; (conv => whnf)) | (refine step_nf (by assumption) ?_; (conv => whnf)) | (refine step_n (fun hb => ?_) (fun hb => ?_) <;> (first | contradiction | (conv => whnf))) | (refine And.intro (fun hb => ?_) (fun hb => ?_) <;> (first | contradiction | (conv => whnf))) | (refine And.intro (a := (_ : Bool) = true) ?_ ?_; rotate_left 1; (conv => whnf))))
    all_goals (first | rfl | trivial | assumption | exact hi1 | exact eqv_of (A.both_ref ia ib ra rb ho))
  · trivial
def k_zshifted : List SV → List Blk → Res := fun args _ => match args with
  | [.int .u8 op, .agg [.u64 av, .u64 am, .u64 alo, .u64 ahi, .int .i64 asl, .int .i64 ash], .int .i64 k] => .test (R.inS ⟨alo, ahi, asl, ash⟩ && (C.right (⟨⟨av, am⟩, ⟨alo, ahi, asl, ash⟩⟩ : Sc) && (A.sop op && (decide (0 ≤ k) && decide (k ≤ 63))))) (.ok (scv (A.shifted op (⟨⟨av, am⟩, ⟨alo, ahi, asl, ash⟩⟩ : Sc) k)) [])
  | _ => .fail
theorem k_zshifted_ok : CtrOk Tryz.prog Gw 115 k_zshifted := by
  refine ⟨fun _ _ => by kernel_rfl, fun args M => ?_⟩
  unfold k_zshifted
  split
  · rename_i op av am alo ahi asl ash k
    intro ht
    simp only [Bool.and_eq_true, decide_eq_true_eq] at ht
    obtain ⟨ia, ra, ho, h0, h1⟩ := ht
    have hi1 := A.rshift_in (op := op) (k := k) (a := (⟨⟨av, am⟩, ⟨alo, ahi, asl, ash⟩⟩ : Sc)) ia
    have ia2 := ia
    unfold R.inS at ia2
    refine ctr_flat (Γ := ⟨[(146, k_rShift), (147, k_srShift), (117, k_zmade)], eqs, [], [], []⟩) (sv := scv (A.shifted op (⟨⟨av, am⟩, ⟨alo, ahi, asl, ash⟩⟩ : Sc) k)) st_Gw ⟨(okCons k_rShift_ok (okCons k_srShift_ok (okCons k_zmade_ok okNil))), eqs_ok, okNilB, okNilI, okNilP⟩ Tryz.func115 rfl mixed [] (by kernel_rfl) 10000 (by rfl) ?_
    (conv => whnf)
    (repeat' (first | (refine step_t (by first | rfl | assumption) ?_; (conv => whnf)) | (refine step_f (by first | rfl | assumption) ?_; (conv => whnf)) | (refine step_nt (by assumption) ?_; (conv => whnf)) | (refine step_nf (by assumption) ?_; (conv => whnf)) | (refine step_n (fun hb => ?_) (fun hb => ?_) <;> (first | contradiction | (conv => whnf))) | (refine And.intro (fun hb => ?_) (fun hb => ?_) <;> (first | contradiction | (conv => whnf))) | (refine And.intro (a := (_ : Bool) = true) ?_ ?_; rotate_left 1; (conv => whnf))))
    all_goals (first | rfl | trivial | assumption | exact hi1 | exact ia2 | exact eqv_of (A.shifted_ref ia ra ho h0 h1))
  · trivial
end Go.Proofs.YtkfbjnikkmoanaaGreatDoor
namespace Go.Proofs.YtkfbjnikkmoanaaGreatDoor
open Go.RowKit Go.Sx
set_option linter.unusedSimpArgs false
set_option linter.unusedVariables false
set_option linter.unnecessarySimpa false
set_option maxRecDepth 100000
set_option maxHeartbeats 4000000
theorem W.aluG_t {op off : Int} {a b : BitVec 64} (h : (W.aluG op off true a b).2 = true) : (W.aluW op off a b).2 = true := h
theorem W.aluG_f {op off : Int} {a b : BitVec 64} (h : (W.aluG op off false a b).2 = true) : (W.aluN op off a b).2 = true := h
attribute [local irreducible] A.made A.both A.quot A.rem A.moved A.shiftA A.shifted A.upTo A.low4 A.ofm A.exactB A.exactV W.aluG W.aluN W.aluW C.one C.const C.of C.low C.right R.inS R.does
theorem rrulet_run (op off : Int) (av am alo ahi : BitVec 64) (asl ash : Int) (bv bm blo bhi : BitVec 64) (bsl bsh : Int) (hk : (W.aluG op off true (BitVec.ofInt 64 0) (BitVec.ofInt 64 0)).2 = true) (ia : R.inS (⟨⟨av, am⟩, ⟨alo, ahi, asl, ash⟩⟩ : Sc).s = true) (ib : R.inS (⟨⟨bv, bm⟩, ⟨blo, bhi, bsl, bsh⟩⟩ : Sc).s = true) (ra : C.right (⟨⟨av, am⟩, ⟨alo, ahi, asl, ash⟩⟩ : Sc) = true) (rb : C.right (⟨⟨bv, bm⟩, ⟨blo, bhi, bsl, bsh⟩⟩ : Sc) = true) : run Tryz.prog ⟨[(40, k_qOne), (33, k_rAlu), (41, k_qConst), (114, k_zboth), (43, k_qLowL), (115, k_zshifted), (119, k_zup), (117, k_zmade), (116, k_srDo), (42, k_qUnknown), (118, k_rUnknown)], eqs, [], [], []⟩ 10000 [(8, 2, [0, 0, 3, 7]), (38, 2, [0, 0, 3, 7])] 0 (bodyOf Tryz.f35) (initF Tryz.f35 [.int .u8 op, .int .i16 off, .tt, .agg [.u64 av, .u64 am, .u64 alo, .u64 ahi, .int .i64 asl, .int .i64 ash], .agg [.u64 bv, .u64 bm, .u64 blo, .u64 bhi, .int .i64 bsl, .int .i64 bsh]]) [] (retK Tryz.prog Tryz.f35 fun x _ => eqv x (scv (A.made op off true (⟨⟨av, am⟩, ⟨alo, ahi, asl, ash⟩⟩ : Sc) (⟨⟨bv, bm⟩, ⟨blo, bhi, bsl, bsh⟩⟩ : Sc)))) := by
  have h : (W.aluW op off (BitVec.ofInt 64 0) (BitVec.ofInt 64 0)).2 = true := W.aluG_t hk
  have hc : R.inS (C.const (BitVec.ofInt 64 0)).s = true := A.c0_in
  have rc : C.right (C.const (BitVec.ofInt 64 0)) = true := C.const_right _
  have hd : R.inS (R.does 48 (⟨⟨av, am⟩, ⟨alo, ahi, asl, ash⟩⟩ : Sc).s (⟨⟨bv, bm⟩, ⟨blo, bhi, bsl, bsh⟩⟩ : Sc).s).1 = true := A.rdoes_in ia ib
  rcases W.aluW_cases h with ⟨rfl, rfl⟩ | ⟨rfl, rfl⟩ | ⟨rfl, rfl⟩ | ⟨rfl, rfl⟩ | ⟨rfl, rfl⟩ | ⟨rfl, rfl⟩ | ⟨rfl, rfl⟩ | ⟨rfl, rfl⟩ | ⟨rfl, rfl⟩ | ⟨rfl, rfl⟩ | ⟨rfl, rfl⟩ | ⟨rfl, rfl⟩ | ⟨rfl, rfl⟩ | ⟨rfl, rfl⟩ | ⟨rfl, rfl⟩ | ⟨rfl, rfl⟩ | ⟨rfl, rfl⟩ | ⟨rfl, rfl⟩
  · (conv => whnf)
    (repeat' (first | (refine step_t (by first | rfl | assumption) ?_; (conv => whnf)) | (refine step_f (by first | rfl | assumption) ?_; (conv => whnf)) | (refine step_nt (by assumption) ?_; (conv => whnf)) | (refine step_nf (by assumption) ?_; (conv => whnf)) | (refine step_n (fun hb => ?_) (fun hb => ?_) <;> (first | contradiction | (conv => whnf))) | (refine And.intro (fun hb => ?_) (fun hb => ?_) <;> (first | contradiction | (conv => whnf))) | (refine And.intro (a := (_ : Bool) = true) ?_ ?_; rotate_left 1; (conv => whnf))))
    all_goals first | rfl | trivial | assumption | exact ib | exact hk | exact eqv_of (A.made_ex hk (by assumption) (by assumption)) | exact eqv_of ((A.mk_mov (op := 176) (off := 32) (w := true) (a := (⟨⟨av, am⟩, ⟨alo, ahi, asl, ash⟩⟩ : Sc)) (b := (⟨⟨bv, bm⟩, ⟨blo, bhi, bsl, bsh⟩⟩ : Sc)) (by first | exact A.ex_1 (by assumption) | exact A.ex_2 (by assumption)) rfl rfl).trans (A.mov_ref ib rb rfl (by kernel_rfl))) 
  · (conv => whnf)
    (repeat' (first | (refine step_t (by first | rfl | assumption) ?_; (conv => whnf)) | (refine step_f (by first | rfl | assumption) ?_; (conv => whnf)) | (refine step_nt (by assumption) ?_; (conv => whnf)) | (refine step_nf (by assumption) ?_; (conv => whnf)) | (refine step_n (fun hb => ?_) (fun hb => ?_) <;> (first | contradiction | (conv => whnf))) | (refine And.intro (fun hb => ?_) (fun hb => ?_) <;> (first | contradiction | (conv => whnf))) | (refine And.intro (a := (_ : Bool) = true) ?_ ?_; rotate_left 1; (conv => whnf))))
    all_goals first | rfl | trivial | assumption | exact A.both_test ia ib ra rb rfl | exact hk | exact eqv_of (A.made_ex hk (by assumption) (by assumption)) | exact eqv_of (A.mk_two (op := 0) (off := 0) (w := true) (a := (⟨⟨av, am⟩, ⟨alo, ahi, asl, ash⟩⟩ : Sc)) (b := (⟨⟨bv, bm⟩, ⟨blo, bhi, bsl, bsh⟩⟩ : Sc)) (by first | exact A.ex_1 (by assumption) | exact A.ex_2 (by assumption)) rfl rfl rfl rfl rfl rfl rfl) 
  · (conv => whnf)
    (repeat' (first | (refine step_t (by first | rfl | assumption) ?_; (conv => whnf)) | (refine step_f (by first | rfl | assumption) ?_; (conv => whnf)) | (refine step_nt (by assumption) ?_; (conv => whnf)) | (refine step_nf (by assumption) ?_; (conv => whnf)) | (refine step_n (fun hb => ?_) (fun hb => ?_) <;> (first | contradiction | (conv => whnf))) | (refine And.intro (fun hb => ?_) (fun hb => ?_) <;> (first | contradiction | (conv => whnf))) | (refine And.intro (a := (_ : Bool) = true) ?_ ?_; rotate_left 1; (conv => whnf))))
    all_goals first | rfl | trivial | assumption | exact A.both_test ia ib ra rb rfl | exact hk | exact eqv_of (A.made_ex hk (by assumption) (by assumption)) | exact eqv_of (A.mk_two (op := 16) (off := 0) (w := true) (a := (⟨⟨av, am⟩, ⟨alo, ahi, asl, ash⟩⟩ : Sc)) (b := (⟨⟨bv, bm⟩, ⟨blo, bhi, bsl, bsh⟩⟩ : Sc)) (by first | exact A.ex_1 (by assumption) | exact A.ex_2 (by assumption)) rfl rfl rfl rfl rfl rfl rfl) 
  · (conv => whnf)
    (repeat' (first | (refine step_t (by first | rfl | assumption) ?_; (conv => whnf)) | (refine step_f (by first | rfl | assumption) ?_; (conv => whnf)) | (refine step_nt (by assumption) ?_; (conv => whnf)) | (refine step_nf (by assumption) ?_; (conv => whnf)) | (refine step_n (fun hb => ?_) (fun hb => ?_) <;> (first | contradiction | (conv => whnf))) | (refine And.intro (fun hb => ?_) (fun hb => ?_) <;> (first | contradiction | (conv => whnf))) | (refine And.intro (a := (_ : Bool) = true) ?_ ?_; rotate_left 1; (conv => whnf))))
    all_goals first | rfl | trivial | assumption | exact A.both_test ia ib ra rb rfl | exact hk | exact eqv_of (A.made_ex hk (by assumption) (by assumption)) | exact eqv_of (A.mk_two (op := 32) (off := 0) (w := true) (a := (⟨⟨av, am⟩, ⟨alo, ahi, asl, ash⟩⟩ : Sc)) (b := (⟨⟨bv, bm⟩, ⟨blo, bhi, bsl, bsh⟩⟩ : Sc)) (by first | exact A.ex_1 (by assumption) | exact A.ex_2 (by assumption)) rfl rfl rfl rfl rfl rfl rfl) 
  · (conv => whnf)
    (repeat' (first | (refine step_t (by first | rfl | assumption) ?_; (conv => whnf)) | (refine step_f (by first | rfl | assumption) ?_; (conv => whnf)) | (refine step_nt (by assumption) ?_; (conv => whnf)) | (refine step_nf (by assumption) ?_; (conv => whnf)) | (refine step_n (fun hb => ?_) (fun hb => ?_) <;> (first | contradiction | (conv => whnf))) | (refine And.intro (fun hb => ?_) (fun hb => ?_) <;> (first | contradiction | (conv => whnf))) | (refine And.intro (a := (_ : Bool) = true) ?_ ?_; rotate_left 1; (conv => whnf))))
    all_goals first | rfl | trivial | assumption | exact hd | exact hk | exact eqv_of (A.made_ex hk (by assumption) (by assumption)) | exact eqv_of ((A.mk_div (op := 48) (off := 0) (w := true) (a := (⟨⟨av, am⟩, ⟨alo, ahi, asl, ash⟩⟩ : Sc)) (b := (⟨⟨bv, bm⟩, ⟨blo, bhi, bsl, bsh⟩⟩ : Sc)) (by first | exact A.ex_1 (by assumption) | exact A.ex_2 (by assumption)) rfl rfl rfl).trans (A.quo_3 rfl (by assumption))) | exact eqv_of ((A.mk_div (op := 48) (off := 0) (w := true) (a := (⟨⟨av, am⟩, ⟨alo, ahi, asl, ash⟩⟩ : Sc)) (b := (⟨⟨bv, bm⟩, ⟨blo, bhi, bsl, bsh⟩⟩ : Sc)) (by first | exact A.ex_1 (by assumption) | exact A.ex_2 (by assumption)) rfl rfl rfl).trans (A.quo_2 rfl (by assumption) (by assumption))) | exact eqv_of ((A.mk_div (op := 48) (off := 0) (w := true) (a := (⟨⟨av, am⟩, ⟨alo, ahi, asl, ash⟩⟩ : Sc)) (b := (⟨⟨bv, bm⟩, ⟨blo, bhi, bsl, bsh⟩⟩ : Sc)) (by first | exact A.ex_1 (by assumption) | exact A.ex_2 (by assumption)) rfl rfl rfl).trans ((A.quo_1 rfl (by assumption) (by assumption)).trans (A.quo_ref ia ib ra rb))) 
  · (conv => whnf)
    (repeat' (first | (refine step_t (by first | rfl | assumption) ?_; (conv => whnf)) | (refine step_f (by first | rfl | assumption) ?_; (conv => whnf)) | (refine step_nt (by assumption) ?_; (conv => whnf)) | (refine step_nf (by assumption) ?_; (conv => whnf)) | (refine step_n (fun hb => ?_) (fun hb => ?_) <;> (first | contradiction | (conv => whnf))) | (refine And.intro (fun hb => ?_) (fun hb => ?_) <;> (first | contradiction | (conv => whnf))) | (refine And.intro (a := (_ : Bool) = true) ?_ ?_; rotate_left 1; (conv => whnf))))
    all_goals first | rfl | trivial | assumption | exact hk | exact eqv_of (A.made_ex hk (by assumption) (by assumption)) | exact eqv_of ((A.mk_div (op := 48) (off := 1) (w := true) (a := (⟨⟨av, am⟩, ⟨alo, ahi, asl, ash⟩⟩ : Sc)) (b := (⟨⟨bv, bm⟩, ⟨blo, bhi, bsl, bsh⟩⟩ : Sc)) (by first | exact A.ex_1 (by assumption) | exact A.ex_2 (by assumption)) rfl rfl rfl).trans (A.quo_u rfl)) 
  · (conv => whnf)
    (repeat' (first | (refine step_t (by first | rfl | assumption) ?_; (conv => whnf)) | (refine step_f (by first | rfl | assumption) ?_; (conv => whnf)) | (refine step_nt (by assumption) ?_; (conv => whnf)) | (refine step_nf (by assumption) ?_; (conv => whnf)) | (refine step_n (fun hb => ?_) (fun hb => ?_) <;> (first | contradiction | (conv => whnf))) | (refine And.intro (fun hb => ?_) (fun hb => ?_) <;> (first | contradiction | (conv => whnf))) | (refine And.intro (a := (_ : Bool) = true) ?_ ?_; rotate_left 1; (conv => whnf))))
    all_goals first | rfl | trivial | assumption | exact hk | exact eqv_of (A.made_ex hk (by assumption) (by assumption)) | exact eqv_of ((A.mk_mod (op := 144) (off := 0) (w := true) (a := (⟨⟨av, am⟩, ⟨alo, ahi, asl, ash⟩⟩ : Sc)) (b := (⟨⟨bv, bm⟩, ⟨blo, bhi, bsl, bsh⟩⟩ : Sc)) (by first | exact A.ex_1 (by assumption) | exact A.ex_2 (by assumption)) rfl rfl rfl rfl).trans (A.rem_4 rfl (by assumption))) | exact eqv_of ((A.mk_mod (op := 144) (off := 0) (w := true) (a := (⟨⟨av, am⟩, ⟨alo, ahi, asl, ash⟩⟩ : Sc)) (b := (⟨⟨bv, bm⟩, ⟨blo, bhi, bsl, bsh⟩⟩ : Sc)) (by first | exact A.ex_1 (by assumption) | exact A.ex_2 (by assumption)) rfl rfl rfl rfl).trans (A.rem_3 rfl (by assumption) (by assumption))) | exact eqv_of ((A.mk_mod (op := 144) (off := 0) (w := true) (a := (⟨⟨av, am⟩, ⟨alo, ahi, asl, ash⟩⟩ : Sc)) (b := (⟨⟨bv, bm⟩, ⟨blo, bhi, bsl, bsh⟩⟩ : Sc)) (by first | exact A.ex_1 (by assumption) | exact A.ex_2 (by assumption)) rfl rfl rfl rfl).trans (A.rem_1 rfl (by assumption) (by assumption) (by assumption))) | exact eqv_of ((A.mk_mod (op := 144) (off := 0) (w := true) (a := (⟨⟨av, am⟩, ⟨alo, ahi, asl, ash⟩⟩ : Sc)) (b := (⟨⟨bv, bm⟩, ⟨blo, bhi, bsl, bsh⟩⟩ : Sc)) (by first | exact A.ex_1 (by assumption) | exact A.ex_2 (by assumption)) rfl rfl rfl rfl).trans (A.rem_2 rfl (by assumption) (by assumption) (by assumption))) 
  · (conv => whnf)
    (repeat' (first | (refine step_t (by first | rfl | assumption) ?_; (conv => whnf)) | (refine step_f (by first | rfl | assumption) ?_; (conv => whnf)) | (refine step_nt (by assumption) ?_; (conv => whnf)) | (refine step_nf (by assumption) ?_; (conv => whnf)) | (refine step_n (fun hb => ?_) (fun hb => ?_) <;> (first | contradiction | (conv => whnf))) | (refine And.intro (fun hb => ?_) (fun hb => ?_) <;> (first | contradiction | (conv => whnf))) | (refine And.intro (a := (_ : Bool) = true) ?_ ?_; rotate_left 1; (conv => whnf))))
    all_goals first | rfl | trivial | assumption | exact hk | exact eqv_of (A.made_ex hk (by assumption) (by assumption)) | exact eqv_of ((A.mk_mod (op := 144) (off := 1) (w := true) (a := (⟨⟨av, am⟩, ⟨alo, ahi, asl, ash⟩⟩ : Sc)) (b := (⟨⟨bv, bm⟩, ⟨blo, bhi, bsl, bsh⟩⟩ : Sc)) (by first | exact A.ex_1 (by assumption) | exact A.ex_2 (by assumption)) rfl rfl rfl rfl).trans (A.rem_u rfl)) 
  · (conv => whnf)
    (repeat' (first | (refine step_t (by first | rfl | assumption) ?_; (conv => whnf)) | (refine step_f (by first | rfl | assumption) ?_; (conv => whnf)) | (refine step_nt (by assumption) ?_; (conv => whnf)) | (refine step_nf (by assumption) ?_; (conv => whnf)) | (refine step_n (fun hb => ?_) (fun hb => ?_) <;> (first | contradiction | (conv => whnf))) | (refine And.intro (fun hb => ?_) (fun hb => ?_) <;> (first | contradiction | (conv => whnf))) | (refine And.intro (a := (_ : Bool) = true) ?_ ?_; rotate_left 1; (conv => whnf))))
    all_goals first | rfl | trivial | assumption | exact A.both_test ia ib ra rb rfl | exact hk | exact eqv_of (A.made_ex hk (by assumption) (by assumption)) | exact eqv_of (A.mk_two (op := 64) (off := 0) (w := true) (a := (⟨⟨av, am⟩, ⟨alo, ahi, asl, ash⟩⟩ : Sc)) (b := (⟨⟨bv, bm⟩, ⟨blo, bhi, bsl, bsh⟩⟩ : Sc)) (by first | exact A.ex_1 (by assumption) | exact A.ex_2 (by assumption)) rfl rfl rfl rfl rfl rfl rfl) 
  · (conv => whnf)
    (repeat' (first | (refine step_t (by first | rfl | assumption) ?_; (conv => whnf)) | (refine step_f (by first | rfl | assumption) ?_; (conv => whnf)) | (refine step_nt (by assumption) ?_; (conv => whnf)) | (refine step_nf (by assumption) ?_; (conv => whnf)) | (refine step_n (fun hb => ?_) (fun hb => ?_) <;> (first | contradiction | (conv => whnf))) | (refine And.intro (fun hb => ?_) (fun hb => ?_) <;> (first | contradiction | (conv => whnf))) | (refine And.intro (a := (_ : Bool) = true) ?_ ?_; rotate_left 1; (conv => whnf))))
    all_goals first | rfl | trivial | assumption | exact A.both_test ia ib ra rb rfl | exact hk | exact eqv_of (A.made_ex hk (by assumption) (by assumption)) | exact eqv_of (A.mk_two (op := 80) (off := 0) (w := true) (a := (⟨⟨av, am⟩, ⟨alo, ahi, asl, ash⟩⟩ : Sc)) (b := (⟨⟨bv, bm⟩, ⟨blo, bhi, bsl, bsh⟩⟩ : Sc)) (by first | exact A.ex_1 (by assumption) | exact A.ex_2 (by assumption)) rfl rfl rfl rfl rfl rfl rfl) 
  · (conv => whnf)
    (repeat' (first | (refine step_t (by first | rfl | assumption) ?_; (conv => whnf)) | (refine step_f (by first | rfl | assumption) ?_; (conv => whnf)) | (refine step_nt (by assumption) ?_; (conv => whnf)) | (refine step_nf (by assumption) ?_; (conv => whnf)) | (refine step_n (fun hb => ?_) (fun hb => ?_) <;> (first | contradiction | (conv => whnf))) | (refine And.intro (fun hb => ?_) (fun hb => ?_) <;> (first | contradiction | (conv => whnf))) | (refine And.intro (a := (_ : Bool) = true) ?_ ?_; rotate_left 1; (conv => whnf))))
    all_goals first | rfl | trivial | assumption | exact A.both_test ia ib ra rb rfl | exact hk | exact eqv_of (A.made_ex hk (by assumption) (by assumption)) | exact eqv_of (A.mk_two (op := 160) (off := 0) (w := true) (a := (⟨⟨av, am⟩, ⟨alo, ahi, asl, ash⟩⟩ : Sc)) (b := (⟨⟨bv, bm⟩, ⟨blo, bhi, bsl, bsh⟩⟩ : Sc)) (by first | exact A.ex_1 (by assumption) | exact A.ex_2 (by assumption)) rfl rfl rfl rfl rfl rfl rfl) 
  · (conv => whnf)
    (repeat' (first | (refine step_t (by first | rfl | assumption) ?_; (conv => whnf)) | (refine step_f (by first | rfl | assumption) ?_; (conv => whnf)) | (refine step_nt (by assumption) ?_; (conv => whnf)) | (refine step_nf (by assumption) ?_; (conv => whnf)) | (refine step_n (fun hb => ?_) (fun hb => ?_) <;> (first | contradiction | (conv => whnf))) | (refine And.intro (fun hb => ?_) (fun hb => ?_) <;> (first | contradiction | (conv => whnf))) | (refine And.intro (a := (_ : Bool) = true) ?_ ?_; rotate_left 1; (conv => whnf))))
    all_goals first | rfl | trivial | assumption | exact A.sh_test (w := true) ia ra rfl | exact hk | exact eqv_of (A.made_ex hk (by assumption) (by assumption)) | exact eqv_of ((A.mk_lsh (op := 96) (off := 0) (w := true) (a := (⟨⟨av, am⟩, ⟨alo, ahi, asl, ash⟩⟩ : Sc)) (b := (⟨⟨bv, bm⟩, ⟨blo, bhi, bsl, bsh⟩⟩ : Sc)) (by first | exact A.ex_1 (by assumption) | exact A.ex_2 (by assumption)) rfl rfl rfl rfl rfl).trans (A.shi_u (by assumption))) | exact eqv_of ((A.mk_lsh (op := 96) (off := 0) (w := true) (a := (⟨⟨av, am⟩, ⟨alo, ahi, asl, ash⟩⟩ : Sc)) (b := (⟨⟨bv, bm⟩, ⟨blo, bhi, bsl, bsh⟩⟩ : Sc)) (by first | exact A.ex_1 (by assumption) | exact A.ex_2 (by assumption)) rfl rfl rfl rfl rfl).trans (A.shi_w (by assumption))) 
  · (conv => whnf)
    (repeat' (first | (refine step_t (by first | rfl | assumption) ?_; (conv => whnf)) | (refine step_f (by first | rfl | assumption) ?_; (conv => whnf)) | (refine step_nt (by assumption) ?_; (conv => whnf)) | (refine step_nf (by assumption) ?_; (conv => whnf)) | (refine step_n (fun hb => ?_) (fun hb => ?_) <;> (first | contradiction | (conv => whnf))) | (refine And.intro (fun hb => ?_) (fun hb => ?_) <;> (first | contradiction | (conv => whnf))) | (refine And.intro (a := (_ : Bool) = true) ?_ ?_; rotate_left 1; (conv => whnf))))
    all_goals first | rfl | trivial | assumption | exact A.sh_test (w := true) ia ra rfl | exact hk | exact eqv_of (A.made_ex hk (by assumption) (by assumption)) | exact eqv_of ((A.mk_rsh (op := 112) (off := 0) (w := true) (a := (⟨⟨av, am⟩, ⟨alo, ahi, asl, ash⟩⟩ : Sc)) (b := (⟨⟨bv, bm⟩, ⟨blo, bhi, bsl, bsh⟩⟩ : Sc)) (by first | exact A.ex_1 (by assumption) | exact A.ex_2 (by assumption)) rfl rfl rfl rfl rfl rfl).trans (A.shi_u (by assumption))) | exact eqv_of ((A.mk_rsh (op := 112) (off := 0) (w := true) (a := (⟨⟨av, am⟩, ⟨alo, ahi, asl, ash⟩⟩ : Sc)) (b := (⟨⟨bv, bm⟩, ⟨blo, bhi, bsl, bsh⟩⟩ : Sc)) (by first | exact A.ex_1 (by assumption) | exact A.ex_2 (by assumption)) rfl rfl rfl rfl rfl rfl).trans (A.shi_w (by assumption))) 
  · (conv => whnf)
    (repeat' (first | (refine step_t (by first | rfl | assumption) ?_; (conv => whnf)) | (refine step_f (by first | rfl | assumption) ?_; (conv => whnf)) | (refine step_nt (by assumption) ?_; (conv => whnf)) | (refine step_nf (by assumption) ?_; (conv => whnf)) | (refine step_n (fun hb => ?_) (fun hb => ?_) <;> (first | contradiction | (conv => whnf))) | (refine And.intro (fun hb => ?_) (fun hb => ?_) <;> (first | contradiction | (conv => whnf))) | (refine And.intro (a := (_ : Bool) = true) ?_ ?_; rotate_left 1; (conv => whnf))))
    all_goals first | rfl | trivial | assumption | exact A.sh_test (w := true) ia ra rfl | exact hk | exact eqv_of (A.made_ex hk (by assumption) (by assumption)) | exact eqv_of ((A.mk_ars (op := 192) (off := 0) (w := true) (a := (⟨⟨av, am⟩, ⟨alo, ahi, asl, ash⟩⟩ : Sc)) (b := (⟨⟨bv, bm⟩, ⟨blo, bhi, bsl, bsh⟩⟩ : Sc)) (by first | exact A.ex_1 (by assumption) | exact A.ex_2 (by assumption)) rfl rfl rfl rfl rfl rfl rfl).trans (A.shi_u (by assumption))) | exact eqv_of ((A.mk_ars (op := 192) (off := 0) (w := true) (a := (⟨⟨av, am⟩, ⟨alo, ahi, asl, ash⟩⟩ : Sc)) (b := (⟨⟨bv, bm⟩, ⟨blo, bhi, bsl, bsh⟩⟩ : Sc)) (by first | exact A.ex_1 (by assumption) | exact A.ex_2 (by assumption)) rfl rfl rfl rfl rfl rfl rfl).trans (A.shi_w (by assumption))) 
  · (conv => whnf)
    (repeat' (first | (refine step_t (by first | rfl | assumption) ?_; (conv => whnf)) | (refine step_f (by first | rfl | assumption) ?_; (conv => whnf)) | (refine step_nt (by assumption) ?_; (conv => whnf)) | (refine step_nf (by assumption) ?_; (conv => whnf)) | (refine step_n (fun hb => ?_) (fun hb => ?_) <;> (first | contradiction | (conv => whnf))) | (refine And.intro (fun hb => ?_) (fun hb => ?_) <;> (first | contradiction | (conv => whnf))) | (refine And.intro (a := (_ : Bool) = true) ?_ ?_; rotate_left 1; (conv => whnf))))
    all_goals first | rfl | trivial | assumption | exact A.both_test hc ia rc ra rfl | exact hk | exact eqv_of (A.made_ex hk (by assumption) (by assumption)) | exact eqv_of (A.mk_neg (op := 128) (off := 0) (w := true) (a := (⟨⟨av, am⟩, ⟨alo, ahi, asl, ash⟩⟩ : Sc)) (b := (⟨⟨bv, bm⟩, ⟨blo, bhi, bsl, bsh⟩⟩ : Sc)) (by first | exact A.ex_1 (by assumption) | exact A.ex_2 (by assumption)) rfl) 
  · (conv => whnf)
    (repeat' (first | (refine step_t (by first | rfl | assumption) ?_; (conv => whnf)) | (refine step_f (by first | rfl | assumption) ?_; (conv => whnf)) | (refine step_nt (by assumption) ?_; (conv => whnf)) | (refine step_nf (by assumption) ?_; (conv => whnf)) | (refine step_n (fun hb => ?_) (fun hb => ?_) <;> (first | contradiction | (conv => whnf))) | (refine And.intro (fun hb => ?_) (fun hb => ?_) <;> (first | contradiction | (conv => whnf))) | (refine And.intro (a := (_ : Bool) = true) ?_ ?_; rotate_left 1; (conv => whnf))))
    all_goals first | rfl | trivial | assumption | exact hk | exact eqv_of (A.made_ex hk (by assumption) (by assumption)) | exact eqv_of ((A.mk_mov (op := 176) (off := 0) (w := true) (a := (⟨⟨av, am⟩, ⟨alo, ahi, asl, ash⟩⟩ : Sc)) (b := (⟨⟨bv, bm⟩, ⟨blo, bhi, bsl, bsh⟩⟩ : Sc)) (by first | exact A.ex_1 (by assumption) | exact A.ex_2 (by assumption)) rfl rfl).trans (A.mov_0 rfl)) 
  · (conv => whnf)
    (repeat' (first | (refine step_t (by first | rfl | assumption) ?_; (conv => whnf)) | (refine step_f (by first | rfl | assumption) ?_; (conv => whnf)) | (refine step_nt (by assumption) ?_; (conv => whnf)) | (refine step_nf (by assumption) ?_; (conv => whnf)) | (refine step_n (fun hb => ?_) (fun hb => ?_) <;> (first | contradiction | (conv => whnf))) | (refine And.intro (fun hb => ?_) (fun hb => ?_) <;> (first | contradiction | (conv => whnf))) | (refine And.intro (a := (_ : Bool) = true) ?_ ?_; rotate_left 1; (conv => whnf))))
    all_goals first | rfl | trivial | assumption | exact ib | exact hk | exact eqv_of (A.made_ex hk (by assumption) (by assumption)) | exact eqv_of ((A.mk_mov (op := 176) (off := 8) (w := true) (a := (⟨⟨av, am⟩, ⟨alo, ahi, asl, ash⟩⟩ : Sc)) (b := (⟨⟨bv, bm⟩, ⟨blo, bhi, bsl, bsh⟩⟩ : Sc)) (by first | exact A.ex_1 (by assumption) | exact A.ex_2 (by assumption)) rfl rfl).trans (A.mov_ref ib rb rfl (by kernel_rfl))) 
  · (conv => whnf)
    (repeat' (first | (refine step_t (by first | rfl | assumption) ?_; (conv => whnf)) | (refine step_f (by first | rfl | assumption) ?_; (conv => whnf)) | (refine step_nt (by assumption) ?_; (conv => whnf)) | (refine step_nf (by assumption) ?_; (conv => whnf)) | (refine step_n (fun hb => ?_) (fun hb => ?_) <;> (first | contradiction | (conv => whnf))) | (refine And.intro (fun hb => ?_) (fun hb => ?_) <;> (first | contradiction | (conv => whnf))) | (refine And.intro (a := (_ : Bool) = true) ?_ ?_; rotate_left 1; (conv => whnf))))
    all_goals first | rfl | trivial | assumption | exact ib | exact hk | exact eqv_of (A.made_ex hk (by assumption) (by assumption)) | exact eqv_of ((A.mk_mov (op := 176) (off := 16) (w := true) (a := (⟨⟨av, am⟩, ⟨alo, ahi, asl, ash⟩⟩ : Sc)) (b := (⟨⟨bv, bm⟩, ⟨blo, bhi, bsl, bsh⟩⟩ : Sc)) (by first | exact A.ex_1 (by assumption) | exact A.ex_2 (by assumption)) rfl rfl).trans (A.mov_ref ib rb rfl (by kernel_rfl))) 
theorem rrulef_run (op off : Int) (av am alo ahi : BitVec 64) (asl ash : Int) (bv bm blo bhi : BitVec 64) (bsl bsh : Int) (hk : (W.aluG op off false (BitVec.ofInt 64 0) (BitVec.ofInt 64 0)).2 = true) (ia : R.inS (⟨⟨av, am⟩, ⟨alo, ahi, asl, ash⟩⟩ : Sc).s = true) (ib : R.inS (⟨⟨bv, bm⟩, ⟨blo, bhi, bsl, bsh⟩⟩ : Sc).s = true) (ra : C.right (⟨⟨av, am⟩, ⟨alo, ahi, asl, ash⟩⟩ : Sc) = true) (rb : C.right (⟨⟨bv, bm⟩, ⟨blo, bhi, bsl, bsh⟩⟩ : Sc) = true) : run Tryz.prog ⟨[(40, k_qOne), (33, k_rAlu), (41, k_qConst), (114, k_zboth), (43, k_qLowL), (115, k_zshifted), (119, k_zup), (117, k_zmade), (116, k_srDo), (42, k_qUnknown), (118, k_rUnknown)], eqs, [], [], []⟩ 10000 [(8, 2, [0, 0, 3, 7]), (38, 2, [0, 0, 3, 7])] 0 (bodyOf Tryz.f35) (initF Tryz.f35 [.int .u8 op, .int .i16 off, .ff, .agg [.u64 av, .u64 am, .u64 alo, .u64 ahi, .int .i64 asl, .int .i64 ash], .agg [.u64 bv, .u64 bm, .u64 blo, .u64 bhi, .int .i64 bsl, .int .i64 bsh]]) [] (retK Tryz.prog Tryz.f35 fun x _ => eqv x (scv (A.made op off false (⟨⟨av, am⟩, ⟨alo, ahi, asl, ash⟩⟩ : Sc) (⟨⟨bv, bm⟩, ⟨blo, bhi, bsl, bsh⟩⟩ : Sc)))) := by
  have h : (W.aluN op off (BitVec.ofInt 64 0) (BitVec.ofInt 64 0)).2 = true := W.aluG_f hk
  have hc : R.inS (C.const (BitVec.ofInt 64 0)).s = true := A.c0_in
  have rc : C.right (C.const (BitVec.ofInt 64 0)) = true := C.const_right _
  have hd : R.inS (R.does 48 (⟨⟨av, am⟩, ⟨alo, ahi, asl, ash⟩⟩ : Sc).s (⟨⟨bv, bm⟩, ⟨blo, bhi, bsl, bsh⟩⟩ : Sc).s).1 = true := A.rdoes_in ia ib
  rcases W.alu32_cases (W.aluN_2 h) with ⟨rfl, rfl⟩ | ⟨rfl, rfl⟩ | ⟨rfl, rfl⟩ | ⟨rfl, rfl⟩ | ⟨rfl, rfl⟩ | ⟨rfl, rfl⟩ | ⟨rfl, rfl⟩ | ⟨rfl, rfl⟩ | ⟨rfl, rfl⟩ | ⟨rfl, rfl⟩ | ⟨rfl, rfl⟩ | ⟨rfl, rfl⟩ | ⟨rfl, rfl⟩ | ⟨rfl, rfl⟩ | ⟨rfl, rfl⟩ | ⟨rfl, rfl⟩ | ⟨rfl, rfl⟩
  · (conv => whnf)
    (repeat' (first | (refine step_t (by first | rfl | assumption) ?_; (conv => whnf)) | (refine step_f (by first | rfl | assumption) ?_; (conv => whnf)) | (refine step_nt (by assumption) ?_; (conv => whnf)) | (refine step_nf (by assumption) ?_; (conv => whnf)) | (refine step_n (fun hb => ?_) (fun hb => ?_) <;> (first | contradiction | (conv => whnf))) | (refine And.intro (fun hb => ?_) (fun hb => ?_) <;> (first | contradiction | (conv => whnf))) | (refine And.intro (a := (_ : Bool) = true) ?_ ?_; rotate_left 1; (conv => whnf))))
    all_goals first | rfl | trivial | assumption | exact A.both_test ia ib ra rb rfl | exact hk | exact eqv_of (A.made_ex hk (by assumption) (by assumption)) | exact eqv_of (A.mk_two (op := 0) (off := 0) (w := false) (a := (⟨⟨av, am⟩, ⟨alo, ahi, asl, ash⟩⟩ : Sc)) (b := (⟨⟨bv, bm⟩, ⟨blo, bhi, bsl, bsh⟩⟩ : Sc)) (by first | exact A.ex_1 (by assumption) | exact A.ex_2 (by assumption)) rfl rfl rfl rfl rfl rfl rfl) 
  · (conv => whnf)
    (repeat' (first | (refine step_t (by first | rfl | assumption) ?_; (conv => whnf)) | (refine step_f (by first | rfl | assumption) ?_; (conv => whnf)) | (refine step_nt (by assumption) ?_; (conv => whnf)) | (refine step_nf (by assumption) ?_; (conv => whnf)) | (refine step_n (fun hb => ?_) (fun hb => ?_) <;> (first | contradiction | (conv => whnf))) | (refine And.intro (fun hb => ?_) (fun hb => ?_) <;> (first | contradiction | (conv => whnf))) | (refine And.intro (a := (_ : Bool) = true) ?_ ?_; rotate_left 1; (conv => whnf))))
    all_goals first | rfl | trivial | assumption | exact A.both_test ia ib ra rb rfl | exact hk | exact eqv_of (A.made_ex hk (by assumption) (by assumption)) | exact eqv_of (A.mk_two (op := 16) (off := 0) (w := false) (a := (⟨⟨av, am⟩, ⟨alo, ahi, asl, ash⟩⟩ : Sc)) (b := (⟨⟨bv, bm⟩, ⟨blo, bhi, bsl, bsh⟩⟩ : Sc)) (by first | exact A.ex_1 (by assumption) | exact A.ex_2 (by assumption)) rfl rfl rfl rfl rfl rfl rfl) 
  · (conv => whnf)
    (repeat' (first | (refine step_t (by first | rfl | assumption) ?_; (conv => whnf)) | (refine step_f (by first | rfl | assumption) ?_; (conv => whnf)) | (refine step_nt (by assumption) ?_; (conv => whnf)) | (refine step_nf (by assumption) ?_; (conv => whnf)) | (refine step_n (fun hb => ?_) (fun hb => ?_) <;> (first | contradiction | (conv => whnf))) | (refine And.intro (fun hb => ?_) (fun hb => ?_) <;> (first | contradiction | (conv => whnf))) | (refine And.intro (a := (_ : Bool) = true) ?_ ?_; rotate_left 1; (conv => whnf))))
    all_goals first | rfl | trivial | assumption | exact A.both_test ia ib ra rb rfl | exact hk | exact eqv_of (A.made_ex hk (by assumption) (by assumption)) | exact eqv_of (A.mk_two (op := 32) (off := 0) (w := false) (a := (⟨⟨av, am⟩, ⟨alo, ahi, asl, ash⟩⟩ : Sc)) (b := (⟨⟨bv, bm⟩, ⟨blo, bhi, bsl, bsh⟩⟩ : Sc)) (by first | exact A.ex_1 (by assumption) | exact A.ex_2 (by assumption)) rfl rfl rfl rfl rfl rfl rfl) 
  · (conv => whnf)
    (repeat' (first | (refine step_t (by first | rfl | assumption) ?_; (conv => whnf)) | (refine step_f (by first | rfl | assumption) ?_; (conv => whnf)) | (refine step_nt (by assumption) ?_; (conv => whnf)) | (refine step_nf (by assumption) ?_; (conv => whnf)) | (refine step_n (fun hb => ?_) (fun hb => ?_) <;> (first | contradiction | (conv => whnf))) | (refine And.intro (fun hb => ?_) (fun hb => ?_) <;> (first | contradiction | (conv => whnf))) | (refine And.intro (a := (_ : Bool) = true) ?_ ?_; rotate_left 1; (conv => whnf))))
    all_goals first | rfl | trivial | assumption | exact hd | exact hk | exact eqv_of (A.made_ex hk (by assumption) (by assumption)) | exact eqv_of ((A.mk_div (op := 48) (off := 0) (w := false) (a := (⟨⟨av, am⟩, ⟨alo, ahi, asl, ash⟩⟩ : Sc)) (b := (⟨⟨bv, bm⟩, ⟨blo, bhi, bsl, bsh⟩⟩ : Sc)) (by first | exact A.ex_1 (by assumption) | exact A.ex_2 (by assumption)) rfl rfl rfl).trans (A.quo_3 rfl (by assumption))) | exact eqv_of ((A.mk_div (op := 48) (off := 0) (w := false) (a := (⟨⟨av, am⟩, ⟨alo, ahi, asl, ash⟩⟩ : Sc)) (b := (⟨⟨bv, bm⟩, ⟨blo, bhi, bsl, bsh⟩⟩ : Sc)) (by first | exact A.ex_1 (by assumption) | exact A.ex_2 (by assumption)) rfl rfl rfl).trans (A.quo_2 rfl (by assumption) (by assumption))) | exact eqv_of ((A.mk_div (op := 48) (off := 0) (w := false) (a := (⟨⟨av, am⟩, ⟨alo, ahi, asl, ash⟩⟩ : Sc)) (b := (⟨⟨bv, bm⟩, ⟨blo, bhi, bsl, bsh⟩⟩ : Sc)) (by first | exact A.ex_1 (by assumption) | exact A.ex_2 (by assumption)) rfl rfl rfl).trans ((A.quo_1 rfl (by assumption) (by assumption)).trans (A.quo_ref ia ib ra rb))) 
  · (conv => whnf)
    (repeat' (first | (refine step_t (by first | rfl | assumption) ?_; (conv => whnf)) | (refine step_f (by first | rfl | assumption) ?_; (conv => whnf)) | (refine step_nt (by assumption) ?_; (conv => whnf)) | (refine step_nf (by assumption) ?_; (conv => whnf)) | (refine step_n (fun hb => ?_) (fun hb => ?_) <;> (first | contradiction | (conv => whnf))) | (refine And.intro (fun hb => ?_) (fun hb => ?_) <;> (first | contradiction | (conv => whnf))) | (refine And.intro (a := (_ : Bool) = true) ?_ ?_; rotate_left 1; (conv => whnf))))
    all_goals first | rfl | trivial | assumption | exact hk | exact eqv_of (A.made_ex hk (by assumption) (by assumption)) | exact eqv_of ((A.mk_div (op := 48) (off := 1) (w := false) (a := (⟨⟨av, am⟩, ⟨alo, ahi, asl, ash⟩⟩ : Sc)) (b := (⟨⟨bv, bm⟩, ⟨blo, bhi, bsl, bsh⟩⟩ : Sc)) (by first | exact A.ex_1 (by assumption) | exact A.ex_2 (by assumption)) rfl rfl rfl).trans (A.quo_u rfl)) 
  · (conv => whnf)
    (repeat' (first | (refine step_t (by first | rfl | assumption) ?_; (conv => whnf)) | (refine step_f (by first | rfl | assumption) ?_; (conv => whnf)) | (refine step_nt (by assumption) ?_; (conv => whnf)) | (refine step_nf (by assumption) ?_; (conv => whnf)) | (refine step_n (fun hb => ?_) (fun hb => ?_) <;> (first | contradiction | (conv => whnf))) | (refine And.intro (fun hb => ?_) (fun hb => ?_) <;> (first | contradiction | (conv => whnf))) | (refine And.intro (a := (_ : Bool) = true) ?_ ?_; rotate_left 1; (conv => whnf))))
    all_goals first | rfl | trivial | assumption | exact hk | exact eqv_of (A.made_ex hk (by assumption) (by assumption)) | exact eqv_of ((A.mk_mod (op := 144) (off := 0) (w := false) (a := (⟨⟨av, am⟩, ⟨alo, ahi, asl, ash⟩⟩ : Sc)) (b := (⟨⟨bv, bm⟩, ⟨blo, bhi, bsl, bsh⟩⟩ : Sc)) (by first | exact A.ex_1 (by assumption) | exact A.ex_2 (by assumption)) rfl rfl rfl rfl).trans (A.rem_4 rfl (by assumption))) | exact eqv_of ((A.mk_mod (op := 144) (off := 0) (w := false) (a := (⟨⟨av, am⟩, ⟨alo, ahi, asl, ash⟩⟩ : Sc)) (b := (⟨⟨bv, bm⟩, ⟨blo, bhi, bsl, bsh⟩⟩ : Sc)) (by first | exact A.ex_1 (by assumption) | exact A.ex_2 (by assumption)) rfl rfl rfl rfl).trans (A.rem_3 rfl (by assumption) (by assumption))) | exact eqv_of ((A.mk_mod (op := 144) (off := 0) (w := false) (a := (⟨⟨av, am⟩, ⟨alo, ahi, asl, ash⟩⟩ : Sc)) (b := (⟨⟨bv, bm⟩, ⟨blo, bhi, bsl, bsh⟩⟩ : Sc)) (by first | exact A.ex_1 (by assumption) | exact A.ex_2 (by assumption)) rfl rfl rfl rfl).trans (A.rem_1 rfl (by assumption) (by assumption) (by assumption))) | exact eqv_of ((A.mk_mod (op := 144) (off := 0) (w := false) (a := (⟨⟨av, am⟩, ⟨alo, ahi, asl, ash⟩⟩ : Sc)) (b := (⟨⟨bv, bm⟩, ⟨blo, bhi, bsl, bsh⟩⟩ : Sc)) (by first | exact A.ex_1 (by assumption) | exact A.ex_2 (by assumption)) rfl rfl rfl rfl).trans (A.rem_2 rfl (by assumption) (by assumption) (by assumption))) 
  · (conv => whnf)
    (repeat' (first | (refine step_t (by first | rfl | assumption) ?_; (conv => whnf)) | (refine step_f (by first | rfl | assumption) ?_; (conv => whnf)) | (refine step_nt (by assumption) ?_; (conv => whnf)) | (refine step_nf (by assumption) ?_; (conv => whnf)) | (refine step_n (fun hb => ?_) (fun hb => ?_) <;> (first | contradiction | (conv => whnf))) | (refine And.intro (fun hb => ?_) (fun hb => ?_) <;> (first | contradiction | (conv => whnf))) | (refine And.intro (a := (_ : Bool) = true) ?_ ?_; rotate_left 1; (conv => whnf))))
    all_goals first | rfl | trivial | assumption | exact hk | exact eqv_of (A.made_ex hk (by assumption) (by assumption)) | exact eqv_of ((A.mk_mod (op := 144) (off := 1) (w := false) (a := (⟨⟨av, am⟩, ⟨alo, ahi, asl, ash⟩⟩ : Sc)) (b := (⟨⟨bv, bm⟩, ⟨blo, bhi, bsl, bsh⟩⟩ : Sc)) (by first | exact A.ex_1 (by assumption) | exact A.ex_2 (by assumption)) rfl rfl rfl rfl).trans (A.rem_u rfl)) 
  · (conv => whnf)
    (repeat' (first | (refine step_t (by first | rfl | assumption) ?_; (conv => whnf)) | (refine step_f (by first | rfl | assumption) ?_; (conv => whnf)) | (refine step_nt (by assumption) ?_; (conv => whnf)) | (refine step_nf (by assumption) ?_; (conv => whnf)) | (refine step_n (fun hb => ?_) (fun hb => ?_) <;> (first | contradiction | (conv => whnf))) | (refine And.intro (fun hb => ?_) (fun hb => ?_) <;> (first | contradiction | (conv => whnf))) | (refine And.intro (a := (_ : Bool) = true) ?_ ?_; rotate_left 1; (conv => whnf))))
    all_goals first | rfl | trivial | assumption | exact A.both_test ia ib ra rb rfl | exact hk | exact eqv_of (A.made_ex hk (by assumption) (by assumption)) | exact eqv_of (A.mk_two (op := 64) (off := 0) (w := false) (a := (⟨⟨av, am⟩, ⟨alo, ahi, asl, ash⟩⟩ : Sc)) (b := (⟨⟨bv, bm⟩, ⟨blo, bhi, bsl, bsh⟩⟩ : Sc)) (by first | exact A.ex_1 (by assumption) | exact A.ex_2 (by assumption)) rfl rfl rfl rfl rfl rfl rfl) 
  · (conv => whnf)
    (repeat' (first | (refine step_t (by first | rfl | assumption) ?_; (conv => whnf)) | (refine step_f (by first | rfl | assumption) ?_; (conv => whnf)) | (refine step_nt (by assumption) ?_; (conv => whnf)) | (refine step_nf (by assumption) ?_; (conv => whnf)) | (refine step_n (fun hb => ?_) (fun hb => ?_) <;> (first | contradiction | (conv => whnf))) | (refine And.intro (fun hb => ?_) (fun hb => ?_) <;> (first | contradiction | (conv => whnf))) | (refine And.intro (a := (_ : Bool) = true) ?_ ?_; rotate_left 1; (conv => whnf))))
    all_goals first | rfl | trivial | assumption | exact A.both_test ia ib ra rb rfl | exact hk | exact eqv_of (A.made_ex hk (by assumption) (by assumption)) | exact eqv_of (A.mk_two (op := 80) (off := 0) (w := false) (a := (⟨⟨av, am⟩, ⟨alo, ahi, asl, ash⟩⟩ : Sc)) (b := (⟨⟨bv, bm⟩, ⟨blo, bhi, bsl, bsh⟩⟩ : Sc)) (by first | exact A.ex_1 (by assumption) | exact A.ex_2 (by assumption)) rfl rfl rfl rfl rfl rfl rfl) 
  · (conv => whnf)
    (repeat' (first | (refine step_t (by first | rfl | assumption) ?_; (conv => whnf)) | (refine step_f (by first | rfl | assumption) ?_; (conv => whnf)) | (refine step_nt (by assumption) ?_; (conv => whnf)) | (refine step_nf (by assumption) ?_; (conv => whnf)) | (refine step_n (fun hb => ?_) (fun hb => ?_) <;> (first | contradiction | (conv => whnf))) | (refine And.intro (fun hb => ?_) (fun hb => ?_) <;> (first | contradiction | (conv => whnf))) | (refine And.intro (a := (_ : Bool) = true) ?_ ?_; rotate_left 1; (conv => whnf))))
    all_goals first | rfl | trivial | assumption | exact A.both_test ia ib ra rb rfl | exact hk | exact eqv_of (A.made_ex hk (by assumption) (by assumption)) | exact eqv_of (A.mk_two (op := 160) (off := 0) (w := false) (a := (⟨⟨av, am⟩, ⟨alo, ahi, asl, ash⟩⟩ : Sc)) (b := (⟨⟨bv, bm⟩, ⟨blo, bhi, bsl, bsh⟩⟩ : Sc)) (by first | exact A.ex_1 (by assumption) | exact A.ex_2 (by assumption)) rfl rfl rfl rfl rfl rfl rfl) 
  · (conv => whnf)
    (repeat' (first | (refine step_t (by first | rfl | assumption) ?_; (conv => whnf)) | (refine step_f (by first | rfl | assumption) ?_; (conv => whnf)) | (refine step_nt (by assumption) ?_; (conv => whnf)) | (refine step_nf (by assumption) ?_; (conv => whnf)) | (refine step_n (fun hb => ?_) (fun hb => ?_) <;> (first | contradiction | (conv => whnf))) | (refine And.intro (fun hb => ?_) (fun hb => ?_) <;> (first | contradiction | (conv => whnf))) | (refine And.intro (a := (_ : Bool) = true) ?_ ?_; rotate_left 1; (conv => whnf))))
    all_goals first | rfl | trivial | assumption | exact A.sh_test (w := false) ia ra rfl | exact hk | exact eqv_of (A.made_ex hk (by assumption) (by assumption)) | exact eqv_of ((A.mk_lsh (op := 96) (off := 0) (w := false) (a := (⟨⟨av, am⟩, ⟨alo, ahi, asl, ash⟩⟩ : Sc)) (b := (⟨⟨bv, bm⟩, ⟨blo, bhi, bsl, bsh⟩⟩ : Sc)) (by first | exact A.ex_1 (by assumption) | exact A.ex_2 (by assumption)) rfl rfl rfl rfl rfl).trans (A.shi_u (by assumption))) | exact eqv_of ((A.mk_lsh (op := 96) (off := 0) (w := false) (a := (⟨⟨av, am⟩, ⟨alo, ahi, asl, ash⟩⟩ : Sc)) (b := (⟨⟨bv, bm⟩, ⟨blo, bhi, bsl, bsh⟩⟩ : Sc)) (by first | exact A.ex_1 (by assumption) | exact A.ex_2 (by assumption)) rfl rfl rfl rfl rfl).trans (A.shi_n (by assumption) rfl)) 
  · (conv => whnf)
    (repeat' (first | (refine step_t (by first | rfl | assumption) ?_; (conv => whnf)) | (refine step_f (by first | rfl | assumption) ?_; (conv => whnf)) | (refine step_nt (by assumption) ?_; (conv => whnf)) | (refine step_nf (by assumption) ?_; (conv => whnf)) | (refine step_n (fun hb => ?_) (fun hb => ?_) <;> (first | contradiction | (conv => whnf))) | (refine And.intro (fun hb => ?_) (fun hb => ?_) <;> (first | contradiction | (conv => whnf))) | (refine And.intro (a := (_ : Bool) = true) ?_ ?_; rotate_left 1; (conv => whnf))))
    all_goals first | rfl | trivial | assumption | exact A.sh_test (w := false) ia ra rfl | exact hk | exact eqv_of (A.made_ex hk (by assumption) (by assumption)) | exact eqv_of ((A.mk_rsh (op := 112) (off := 0) (w := false) (a := (⟨⟨av, am⟩, ⟨alo, ahi, asl, ash⟩⟩ : Sc)) (b := (⟨⟨bv, bm⟩, ⟨blo, bhi, bsl, bsh⟩⟩ : Sc)) (by first | exact A.ex_1 (by assumption) | exact A.ex_2 (by assumption)) rfl rfl rfl rfl rfl rfl).trans (A.shi_u (by assumption))) | exact eqv_of ((A.mk_rsh (op := 112) (off := 0) (w := false) (a := (⟨⟨av, am⟩, ⟨alo, ahi, asl, ash⟩⟩ : Sc)) (b := (⟨⟨bv, bm⟩, ⟨blo, bhi, bsl, bsh⟩⟩ : Sc)) (by first | exact A.ex_1 (by assumption) | exact A.ex_2 (by assumption)) rfl rfl rfl rfl rfl rfl).trans (A.shi_n (by assumption) rfl)) 
  · (conv => whnf)
    (repeat' (first | (refine step_t (by first | rfl | assumption) ?_; (conv => whnf)) | (refine step_f (by first | rfl | assumption) ?_; (conv => whnf)) | (refine step_nt (by assumption) ?_; (conv => whnf)) | (refine step_nf (by assumption) ?_; (conv => whnf)) | (refine step_n (fun hb => ?_) (fun hb => ?_) <;> (first | contradiction | (conv => whnf))) | (refine And.intro (fun hb => ?_) (fun hb => ?_) <;> (first | contradiction | (conv => whnf))) | (refine And.intro (a := (_ : Bool) = true) ?_ ?_; rotate_left 1; (conv => whnf))))
    all_goals first | rfl | trivial | assumption | exact A.sh_test (w := false) ia ra rfl | exact hk | exact eqv_of (A.made_ex hk (by assumption) (by assumption)) | exact eqv_of ((A.mk_ars (op := 192) (off := 0) (w := false) (a := (⟨⟨av, am⟩, ⟨alo, ahi, asl, ash⟩⟩ : Sc)) (b := (⟨⟨bv, bm⟩, ⟨blo, bhi, bsl, bsh⟩⟩ : Sc)) (by first | exact A.ex_1 (by assumption) | exact A.ex_2 (by assumption)) rfl rfl rfl rfl rfl rfl rfl).trans (A.shi_u (by assumption))) | exact eqv_of ((A.mk_ars (op := 192) (off := 0) (w := false) (a := (⟨⟨av, am⟩, ⟨alo, ahi, asl, ash⟩⟩ : Sc)) (b := (⟨⟨bv, bm⟩, ⟨blo, bhi, bsl, bsh⟩⟩ : Sc)) (by first | exact A.ex_1 (by assumption) | exact A.ex_2 (by assumption)) rfl rfl rfl rfl rfl rfl rfl).trans (A.shi_a (by assumption) rfl (by assumption))) | exact eqv_of ((A.mk_ars (op := 192) (off := 0) (w := false) (a := (⟨⟨av, am⟩, ⟨alo, ahi, asl, ash⟩⟩ : Sc)) (b := (⟨⟨bv, bm⟩, ⟨blo, bhi, bsl, bsh⟩⟩ : Sc)) (by first | exact A.ex_1 (by assumption) | exact A.ex_2 (by assumption)) rfl rfl rfl rfl rfl rfl rfl).trans (A.shi_b (by assumption) rfl (by assumption))) 
  · (conv => whnf)
    (repeat' (first | (refine step_t (by first | rfl | assumption) ?_; (conv => whnf)) | (refine step_f (by first | rfl | assumption) ?_; (conv => whnf)) | (refine step_nt (by assumption) ?_; (conv => whnf)) | (refine step_nf (by assumption) ?_; (conv => whnf)) | (refine step_n (fun hb => ?_) (fun hb => ?_) <;> (first | contradiction | (conv => whnf))) | (refine And.intro (fun hb => ?_) (fun hb => ?_) <;> (first | contradiction | (conv => whnf))) | (refine And.intro (a := (_ : Bool) = true) ?_ ?_; rotate_left 1; (conv => whnf))))
    all_goals first | rfl | trivial | assumption | exact A.both_test hc ia rc ra rfl | exact hk | exact eqv_of (A.made_ex hk (by assumption) (by assumption)) | exact eqv_of (A.mk_neg (op := 128) (off := 0) (w := false) (a := (⟨⟨av, am⟩, ⟨alo, ahi, asl, ash⟩⟩ : Sc)) (b := (⟨⟨bv, bm⟩, ⟨blo, bhi, bsl, bsh⟩⟩ : Sc)) (by first | exact A.ex_1 (by assumption) | exact A.ex_2 (by assumption)) rfl) 
  · (conv => whnf)
    (repeat' (first | (refine step_t (by first | rfl | assumption) ?_; (conv => whnf)) | (refine step_f (by first | rfl | assumption) ?_; (conv => whnf)) | (refine step_nt (by assumption) ?_; (conv => whnf)) | (refine step_nf (by assumption) ?_; (conv => whnf)) | (refine step_n (fun hb => ?_) (fun hb => ?_) <;> (first | contradiction | (conv => whnf))) | (refine And.intro (fun hb => ?_) (fun hb => ?_) <;> (first | contradiction | (conv => whnf))) | (refine And.intro (a := (_ : Bool) = true) ?_ ?_; rotate_left 1; (conv => whnf))))
    all_goals first | rfl | trivial | assumption | exact hk | exact eqv_of (A.made_ex hk (by assumption) (by assumption)) | exact eqv_of ((A.mk_mov (op := 176) (off := 0) (w := false) (a := (⟨⟨av, am⟩, ⟨alo, ahi, asl, ash⟩⟩ : Sc)) (b := (⟨⟨bv, bm⟩, ⟨blo, bhi, bsl, bsh⟩⟩ : Sc)) (by first | exact A.ex_1 (by assumption) | exact A.ex_2 (by assumption)) rfl rfl).trans (A.mov_0 rfl)) 
  · (conv => whnf)
    (repeat' (first | (refine step_t (by first | rfl | assumption) ?_; (conv => whnf)) | (refine step_f (by first | rfl | assumption) ?_; (conv => whnf)) | (refine step_nt (by assumption) ?_; (conv => whnf)) | (refine step_nf (by assumption) ?_; (conv => whnf)) | (refine step_n (fun hb => ?_) (fun hb => ?_) <;> (first | contradiction | (conv => whnf))) | (refine And.intro (fun hb => ?_) (fun hb => ?_) <;> (first | contradiction | (conv => whnf))) | (refine And.intro (a := (_ : Bool) = true) ?_ ?_; rotate_left 1; (conv => whnf))))
    all_goals first | rfl | trivial | assumption | exact ib | exact hk | exact eqv_of (A.made_ex hk (by assumption) (by assumption)) | exact eqv_of ((A.mk_mov (op := 176) (off := 8) (w := false) (a := (⟨⟨av, am⟩, ⟨alo, ahi, asl, ash⟩⟩ : Sc)) (b := (⟨⟨bv, bm⟩, ⟨blo, bhi, bsl, bsh⟩⟩ : Sc)) (by first | exact A.ex_1 (by assumption) | exact A.ex_2 (by assumption)) rfl rfl).trans (A.mov_ref ib rb rfl (by kernel_rfl))) 
  · (conv => whnf)
    (repeat' (first | (refine step_t (by first | rfl | assumption) ?_; (conv => whnf)) | (refine step_f (by first | rfl | assumption) ?_; (conv => whnf)) | (refine step_nt (by assumption) ?_; (conv => whnf)) | (refine step_nf (by assumption) ?_; (conv => whnf)) | (refine step_n (fun hb => ?_) (fun hb => ?_) <;> (first | contradiction | (conv => whnf))) | (refine And.intro (fun hb => ?_) (fun hb => ?_) <;> (first | contradiction | (conv => whnf))) | (refine And.intro (a := (_ : Bool) = true) ?_ ?_; rotate_left 1; (conv => whnf))))
    all_goals first | rfl | trivial | assumption | exact ib | exact hk | exact eqv_of (A.made_ex hk (by assumption) (by assumption)) | exact eqv_of ((A.mk_mov (op := 176) (off := 16) (w := false) (a := (⟨⟨av, am⟩, ⟨alo, ahi, asl, ash⟩⟩ : Sc)) (b := (⟨⟨bv, bm⟩, ⟨blo, bhi, bsl, bsh⟩⟩ : Sc)) (by first | exact A.ex_1 (by assumption) | exact A.ex_2 (by assumption)) rfl rfl).trans (A.mov_ref ib rb rfl (by kernel_rfl))) 
def k_zrule : List SV → List Blk → Res := fun args _ => match args with
  | [.int .u8 op, .int .i16 off, .tt, .agg [.u64 av, .u64 am, .u64 alo, .u64 ahi, .int .i64 asl, .int .i64 ash], .agg [.u64 bv, .u64 bm, .u64 blo, .u64 bhi, .int .i64 bsl, .int .i64 bsh]] => .test ((W.aluG op off true (BitVec.ofInt 64 0) (BitVec.ofInt 64 0)).2 && (R.inS ⟨alo, ahi, asl, ash⟩ && (R.inS ⟨blo, bhi, bsl, bsh⟩ && (C.right (⟨⟨av, am⟩, ⟨alo, ahi, asl, ash⟩⟩ : Sc) && C.right (⟨⟨bv, bm⟩, ⟨blo, bhi, bsl, bsh⟩⟩ : Sc))))) (.ok (scv (A.made op off true (⟨⟨av, am⟩, ⟨alo, ahi, asl, ash⟩⟩ : Sc) (⟨⟨bv, bm⟩, ⟨blo, bhi, bsl, bsh⟩⟩ : Sc))) [])
  | [.int .u8 op, .int .i16 off, .ff, .agg [.u64 av, .u64 am, .u64 alo, .u64 ahi, .int .i64 asl, .int .i64 ash], .agg [.u64 bv, .u64 bm, .u64 blo, .u64 bhi, .int .i64 bsl, .int .i64 bsh]] => .test ((W.aluG op off false (BitVec.ofInt 64 0) (BitVec.ofInt 64 0)).2 && (R.inS ⟨alo, ahi, asl, ash⟩ && (R.inS ⟨blo, bhi, bsl, bsh⟩ && (C.right (⟨⟨av, am⟩, ⟨alo, ahi, asl, ash⟩⟩ : Sc) && C.right (⟨⟨bv, bm⟩, ⟨blo, bhi, bsl, bsh⟩⟩ : Sc))))) (.ok (scv (A.made op off false (⟨⟨av, am⟩, ⟨alo, ahi, asl, ash⟩⟩ : Sc) (⟨⟨bv, bm⟩, ⟨blo, bhi, bsl, bsh⟩⟩ : Sc))) [])
  | _ => .fail
theorem k_zrule_ok : CtrOk Tryz.prog Gw 35 k_zrule := by
  refine ⟨fun _ _ => by kernel_rfl, fun args M => ?_⟩
  unfold k_zrule
  split
  · rename_i op off av am alo ahi asl ash bv bm blo bhi bsl bsh
    intro ht
    exact ctr_flat (Γ := ⟨[(40, k_qOne), (33, k_rAlu), (41, k_qConst), (114, k_zboth), (43, k_qLowL), (115, k_zshifted), (119, k_zup), (117, k_zmade), (116, k_srDo), (42, k_qUnknown), (118, k_rUnknown)], eqs, [], [], []⟩) (sv := scv (A.made op off true (⟨⟨av, am⟩, ⟨alo, ahi, asl, ash⟩⟩ : Sc) (⟨⟨bv, bm⟩, ⟨blo, bhi, bsl, bsh⟩⟩ : Sc))) st_Gw ⟨(okCons k_qOne_ok (okCons k_rAlu_ok (okCons k_qConst_ok (okCons k_zboth_ok (okCons k_qLowL_ok (okCons k_zshifted_ok (okCons k_zup_ok (okCons k_zmade_ok (okCons k_srDo_ok (okCons k_qUnknown_ok (okCons k_rUnknown_ok okNil))))))))))), eqs_ok, okNilB, okNilI, okNilP⟩ Tryz.func35 rfl mixed [(8, 2, [0, 0, 3, 7]), (38, 2, [0, 0, 3, 7])] (by kernel_rfl) 10000 (by rfl) (by
      simp only [Bool.and_eq_true] at ht
      exact rrulet_run op off av am alo ahi asl ash bv bm blo bhi bsl bsh ht.1 ht.2.1 ht.2.2.1 ht.2.2.2.1 ht.2.2.2.2)
  · rename_i op off av am alo ahi asl ash bv bm blo bhi bsl bsh
    intro ht
    exact ctr_flat (Γ := ⟨[(40, k_qOne), (33, k_rAlu), (41, k_qConst), (114, k_zboth), (43, k_qLowL), (115, k_zshifted), (119, k_zup), (117, k_zmade), (116, k_srDo), (42, k_qUnknown), (118, k_rUnknown)], eqs, [], [], []⟩) (sv := scv (A.made op off false (⟨⟨av, am⟩, ⟨alo, ahi, asl, ash⟩⟩ : Sc) (⟨⟨bv, bm⟩, ⟨blo, bhi, bsl, bsh⟩⟩ : Sc))) st_Gw ⟨(okCons k_qOne_ok (okCons k_rAlu_ok (okCons k_qConst_ok (okCons k_zboth_ok (okCons k_qLowL_ok (okCons k_zshifted_ok (okCons k_zup_ok (okCons k_zmade_ok (okCons k_srDo_ok (okCons k_qUnknown_ok (okCons k_rUnknown_ok okNil))))))))))), eqs_ok, okNilB, okNilI, okNilP⟩ Tryz.func35 rfl mixed [(8, 2, [0, 0, 3, 7]), (38, 2, [0, 0, 3, 7])] (by kernel_rfl) 10000 (by rfl) (by
      simp only [Bool.and_eq_true] at ht
      exact rrulef_run op off av am alo ahi asl ash bv bm blo bhi bsl bsh ht.1 ht.2.1 ht.2.2.1 ht.2.2.2.1 ht.2.2.2.2)
  · trivial
end Go.Proofs.YtkfbjnikkmoanaaGreatDoor
namespace Go.Proofs.YtkfbjnikkmoanaaGreatDoor
open Go.RowKit Go.Sx
set_option linter.unusedSimpArgs false
set_option linter.unusedVariables false
set_option linter.unnecessarySimpa false
set_option maxRecDepth 100000
set_option maxHeartbeats 4000000
attribute [local irreducible] A.made A.low4 W.aluG C.one C.const C.low C.right R.inS A.does A.swap W.swp
def k_zdo : List SV → List Blk → Res := fun args _ => match args with
  | [.int .u8 op, .int .i16 off, .tt, .agg [.u64 av, .u64 am, .u64 alo, .u64 ahi, .int .i64 asl, .int .i64 ash], .agg [.u64 bv, .u64 bm, .u64 blo, .u64 bhi, .int .i64 bsl, .int .i64 bsh]] => .test (R.inS ⟨alo, ahi, asl, ash⟩ && R.inS ⟨blo, bhi, bsl, bsh⟩) (.ok (.tup [scv (A.does op off true (⟨⟨av, am⟩, ⟨alo, ahi, asl, ash⟩⟩ : Sc) (⟨⟨bv, bm⟩, ⟨blo, bhi, bsl, bsh⟩⟩ : Sc)).1, .bool (A.does op off true (⟨⟨av, am⟩, ⟨alo, ahi, asl, ash⟩⟩ : Sc) (⟨⟨bv, bm⟩, ⟨blo, bhi, bsl, bsh⟩⟩ : Sc)).2]) [])
  | [.int .u8 op, .int .i16 off, .ff, .agg [.u64 av, .u64 am, .u64 alo, .u64 ahi, .int .i64 asl, .int .i64 ash], .agg [.u64 bv, .u64 bm, .u64 blo, .u64 bhi, .int .i64 bsl, .int .i64 bsh]] => .test (R.inS ⟨alo, ahi, asl, ash⟩ && R.inS ⟨blo, bhi, bsl, bsh⟩) (.ok (.tup [scv (A.does op off false (⟨⟨av, am⟩, ⟨alo, ahi, asl, ash⟩⟩ : Sc) (⟨⟨bv, bm⟩, ⟨blo, bhi, bsl, bsh⟩⟩ : Sc)).1, .bool (A.does op off false (⟨⟨av, am⟩, ⟨alo, ahi, asl, ash⟩⟩ : Sc) (⟨⟨bv, bm⟩, ⟨blo, bhi, bsl, bsh⟩⟩ : Sc)).2]) [])
  | _ => .fail
theorem k_zdo_ok : CtrOk Tryz.prog Gw 16 k_zdo := by
  refine ⟨fun _ _ => by kernel_rfl, fun args M => ?_⟩
  unfold k_zdo
  split
  · rename_i op off av am alo ahi asl ash bv bm blo bhi bsl bsh
    intro ht
    have hq := S.and_true2 ht
    have ia := hq.1
    have ib := hq.2
    have il1 : R.inS (A.low4 (⟨⟨av, am⟩, ⟨alo, ahi, asl, ash⟩⟩ : Sc)).s = true := A.low4_in ia
    have il2 : R.inS (A.low4 (⟨⟨bv, bm⟩, ⟨blo, bhi, bsl, bsh⟩⟩ : Sc)).s = true := A.low4_in ib
    have im : R.inS (A.made op off false (A.low4 (⟨⟨av, am⟩, ⟨alo, ahi, asl, ash⟩⟩ : Sc)) (A.low4 (⟨⟨bv, bm⟩, ⟨blo, bhi, bsl, bsh⟩⟩ : Sc))).s = true := A.made_in il1 il2
    have rl1 : C.right (⟨⟨av, am⟩, ⟨alo, ahi, asl, ash⟩⟩ : Sc) = true → C.right (A.low4 (⟨⟨av, am⟩, ⟨alo, ahi, asl, ash⟩⟩ : Sc)) = true := A.low4_right ia
    have rl2 : C.right (⟨⟨bv, bm⟩, ⟨blo, bhi, bsl, bsh⟩⟩ : Sc) = true → C.right (A.low4 (⟨⟨bv, bm⟩, ⟨blo, bhi, bsl, bsh⟩⟩ : Sc)) = true := A.low4_right ib
    have rm := @A.made_right op off false (A.low4 (⟨⟨av, am⟩, ⟨alo, ahi, asl, ash⟩⟩ : Sc)) (A.low4 (⟨⟨bv, bm⟩, ⟨blo, bhi, bsl, bsh⟩⟩ : Sc)) il1 il2
    have t5 : ∀ {q1 q2 q3 q4 q5 : Bool}, q1 = true → q2 = true → q3 = true → q4 = true → q5 = true → (q1 && (q2 && (q3 && (q4 && q5)))) = true := fun a b c d e => by rw [a, b, c, d, e]; rfl
    have t2 : ∀ {q1 q2 : Bool}, q1 = true → q2 = true → (q1 && q2) = true := fun a b => by rw [a, b]; rfl
    refine ctr_flat (Γ := ⟨[(33, k_rAlu), (34, k_qRight), (35, k_zrule), (36, k_zlow)], eqs, [], [], []⟩) (sv := .tup [scv (A.does op off true (⟨⟨av, am⟩, ⟨alo, ahi, asl, ash⟩⟩ : Sc) (⟨⟨bv, bm⟩, ⟨blo, bhi, bsl, bsh⟩⟩ : Sc)).1, .bool (A.does op off true (⟨⟨av, am⟩, ⟨alo, ahi, asl, ash⟩⟩ : Sc) (⟨⟨bv, bm⟩, ⟨blo, bhi, bsl, bsh⟩⟩ : Sc)).2]) st_Gw ⟨(okCons k_rAlu_ok (okCons k_qRight_ok (okCons k_zrule_ok (okCons k_zlow_ok okNil)))), eqs_ok, okNilB, okNilI, okNilP⟩ Tryz.func16 rfl mixed [(6, 5, [0, 0, 0, 4, 0, 28, 63, 127, 255, 511])] (by kernel_rfl) 10000 (by rfl) ?_
    (conv => whnf)
    (repeat' (first | (refine step_t (by first | rfl | assumption) ?_; (conv => whnf)) | (refine step_f (by first | rfl | assumption) ?_; (conv => whnf)) | (refine step_nt (by assumption) ?_; (conv => whnf)) | (refine step_nf (by assumption) ?_; (conv => whnf)) | (refine step_n (fun hb => ?_) (fun hb => ?_) <;> (first | contradiction | (conv => whnf))) | (refine And.intro (fun hb => ?_) (fun hb => ?_) <;> (first | contradiction | (conv => whnf))) | (refine And.intro (a := (_ : Bool) = true) ?_ ?_; rotate_left 1; (conv => whnf))))
    all_goals (first | rfl | trivial | assumption | exact t5 (by assumption) ia ib (by assumption) (by assumption) | exact t5 (by assumption) il1 il2 (rl1 (by assumption)) (rl2 (by assumption)) | exact t2 ia (by assumption) | exact t2 ib (by assumption) | exact t2 im (rm (rl1 (by assumption)) (rl2 (by assumption))) | exact A.eqv_pf (A.do_0 (by assumption)) | exact A.eqv_pf (A.do_1 (by assumption) (by assumption)) | exact A.eqv_pf (A.do_2 (by assumption) (by assumption) (by assumption)) | exact A.eqv_pt (A.do_3 (by assumption) (by assumption) (by assumption) (by first | rfl | assumption)) | exact A.eqv_pt (A.do_4 (by assumption) (by assumption) (by assumption) (by first | rfl | assumption)))
  · rename_i op off av am alo ahi asl ash bv bm blo bhi bsl bsh
    intro ht
    have hq := S.and_true2 ht
    have ia := hq.1
    have ib := hq.2
    have il1 : R.inS (A.low4 (⟨⟨av, am⟩, ⟨alo, ahi, asl, ash⟩⟩ : Sc)).s = true := A.low4_in ia
    have il2 : R.inS (A.low4 (⟨⟨bv, bm⟩, ⟨blo, bhi, bsl, bsh⟩⟩ : Sc)).s = true := A.low4_in ib
    have im : R.inS (A.made op off false (A.low4 (⟨⟨av, am⟩, ⟨alo, ahi, asl, ash⟩⟩ : Sc)) (A.low4 (⟨⟨bv, bm⟩, ⟨blo, bhi, bsl, bsh⟩⟩ : Sc))).s = true := A.made_in il1 il2
    have rl1 : C.right (⟨⟨av, am⟩, ⟨alo, ahi, asl, ash⟩⟩ : Sc) = true → C.right (A.low4 (⟨⟨av, am⟩, ⟨alo, ahi, asl, ash⟩⟩ : Sc)) = true := A.low4_right ia
    have rl2 : C.right (⟨⟨bv, bm⟩, ⟨blo, bhi, bsl, bsh⟩⟩ : Sc) = true → C.right (A.low4 (⟨⟨bv, bm⟩, ⟨blo, bhi, bsl, bsh⟩⟩ : Sc)) = true := A.low4_right ib
    have rm := @A.made_right op off false (A.low4 (⟨⟨av, am⟩, ⟨alo, ahi, asl, ash⟩⟩ : Sc)) (A.low4 (⟨⟨bv, bm⟩, ⟨blo, bhi, bsl, bsh⟩⟩ : Sc)) il1 il2
    have t5 : ∀ {q1 q2 q3 q4 q5 : Bool}, q1 = true → q2 = true → q3 = true → q4 = true → q5 = true → (q1 && (q2 && (q3 && (q4 && q5)))) = true := fun a b c d e => by rw [a, b, c, d, e]; rfl
    have t2 : ∀ {q1 q2 : Bool}, q1 = true → q2 = true → (q1 && q2) = true := fun a b => by rw [a, b]; rfl
    refine ctr_flat (Γ := ⟨[(33, k_rAlu), (34, k_qRight), (35, k_zrule), (36, k_zlow)], eqs, [], [], []⟩) (sv := .tup [scv (A.does op off false (⟨⟨av, am⟩, ⟨alo, ahi, asl, ash⟩⟩ : Sc) (⟨⟨bv, bm⟩, ⟨blo, bhi, bsl, bsh⟩⟩ : Sc)).1, .bool (A.does op off false (⟨⟨av, am⟩, ⟨alo, ahi, asl, ash⟩⟩ : Sc) (⟨⟨bv, bm⟩, ⟨blo, bhi, bsl, bsh⟩⟩ : Sc)).2]) st_Gw ⟨(okCons k_rAlu_ok (okCons k_qRight_ok (okCons k_zrule_ok (okCons k_zlow_ok okNil)))), eqs_ok, okNilB, okNilI, okNilP⟩ Tryz.func16 rfl mixed [(6, 5, [0, 0, 0, 4, 0, 28, 63, 127, 255, 511])] (by kernel_rfl) 10000 (by rfl) ?_
    (conv => whnf)
    (repeat' (first | (refine step_t (by first | rfl | assumption) ?_; (conv => whnf)) | (refine step_f (by first | rfl | assumption) ?_; (conv => whnf)) | (refine step_nt (by assumption) ?_; (conv => whnf)) | (refine step_nf (by assumption) ?_; (conv => whnf)) | (refine step_n (fun hb => ?_) (fun hb => ?_) <;> (first | contradiction | (conv => whnf))) | (refine And.intro (fun hb => ?_) (fun hb => ?_) <;> (first | contradiction | (conv => whnf))) | (refine And.intro (a := (_ : Bool) = true) ?_ ?_; rotate_left 1; (conv => whnf))))
    all_goals (first | rfl | trivial | assumption | exact t5 (by assumption) ia ib (by assumption) (by assumption) | exact t5 (by assumption) il1 il2 (rl1 (by assumption)) (rl2 (by assumption)) | exact t2 ia (by assumption) | exact t2 ib (by assumption) | exact t2 im (rm (rl1 (by assumption)) (rl2 (by assumption))) | exact A.eqv_pf (A.do_0 (by assumption)) | exact A.eqv_pf (A.do_1 (by assumption) (by assumption)) | exact A.eqv_pf (A.do_2 (by assumption) (by assumption) (by assumption)) | exact A.eqv_pt (A.do_3 (by assumption) (by assumption) (by assumption) (by first | rfl | assumption)) | exact A.eqv_pt (A.do_4 (by assumption) (by assumption) (by assumption) (by first | rfl | assumption)))
  · trivial
def k_zdoW : List SV → List Blk → Res := fun args M => match args with
  | [.int .u8 op, .int .i16 off, .bool w, .agg [.u64 av, .u64 am, .u64 alo, .u64 ahi, .int .i64 asl, .int .i64 ash], .agg [.u64 bv, .u64 bm, .u64 blo, .u64 bhi, .int .i64 bsl, .int .i64 bsh]] => .test (R.inS ⟨alo, ahi, asl, ash⟩ && R.inS ⟨blo, bhi, bsl, bsh⟩) (.ok (.tup [scv (A.does op off w (⟨⟨av, am⟩, ⟨alo, ahi, asl, ash⟩⟩ : Sc) (⟨⟨bv, bm⟩, ⟨blo, bhi, bsl, bsh⟩⟩ : Sc)).1, .bool (A.does op off w (⟨⟨av, am⟩, ⟨alo, ahi, asl, ash⟩⟩ : Sc) (⟨⟨bv, bm⟩, ⟨blo, bhi, bsl, bsh⟩⟩ : Sc)).2]) [])
  | _ => k_zdo args M
theorem k_zdoW_ok : CtrOk Tryz.prog Gw 16 k_zdoW := by
  refine ⟨fun _ _ => by kernel_rfl, fun args M => ?_⟩
  unfold k_zdoW
  split
  · rename_i op off w av am alo ahi asl ash bv bm blo bhi bsl bsh
    intro ht
    cases w
    · exact k_zdo_ok.2 [.int .u8 op, .int .i16 off, .ff, .agg [.u64 av, .u64 am, .u64 alo, .u64 ahi, .int .i64 asl, .int .i64 ash], .agg [.u64 bv, .u64 bm, .u64 blo, .u64 bhi, .int .i64 bsl, .int .i64 bsh]] M ht
    · exact k_zdo_ok.2 [.int .u8 op, .int .i16 off, .tt, .agg [.u64 av, .u64 am, .u64 alo, .u64 ahi, .int .i64 asl, .int .i64 ash], .agg [.u64 bv, .u64 bm, .u64 blo, .u64 bhi, .int .i64 bsl, .int .i64 bsh]] M ht
  · exact k_zdo_ok.2 args M
namespace A
theorem bne_f {o : Int} (h : (o != 0) = false) : (o == 0) = true := by simpa using h
theorem bne_t {o : Int} (h : (o != 0) = true) : (o == 0) = false := by simpa using h
theorem low_pair {p : Sc × Bool} {y : Sc × Bool} (h : y = p) (hy : y.2 = true) : eqv (.tup [scv p.1, .tt]) (.tup [scv y.1, .bool y.2]) := by
  subst h; rw [hy]; exact ⟨eqv_s _, rfl, trivial⟩
end A
def k_zswap : List SV → List Blk → Res := fun args _ => match args with
  | [.int .i64 o, .int .i64 k, .agg [.u64 av, .u64 am, .u64 alo, .u64 ahi, .int .i64 asl, .int .i64 ash]] => .test (R.inS ⟨alo, ahi, asl, ash⟩) (.ok (.tup [scv (A.swap o k (⟨⟨av, am⟩, ⟨alo, ahi, asl, ash⟩⟩ : Sc)).1, .bool (A.swap o k (⟨⟨av, am⟩, ⟨alo, ahi, asl, ash⟩⟩ : Sc)).2]) [])
  | _ => .fail
theorem k_zswap_ok : CtrOk Tryz.prog Gw 18 k_zswap := by
  refine ⟨fun _ _ => by kernel_rfl, fun args M => ?_⟩
  unfold k_zswap
  split
  · rename_i o k av am alo ahi asl ash
    intro ht
    have hu : R.inS C.unknown.s = true := A.unknown_in
    have hto : (A.swap o k (⟨⟨av, am⟩, ⟨alo, ahi, asl, ash⟩⟩ : Sc)).2 = ((W.swp o k (BitVec.ofInt 64 0)).2 && C.right (⟨⟨av, am⟩, ⟨alo, ahi, asl, ash⟩⟩ : Sc)) := A.swap_told (BitVec.ofInt 64 0) ht
    have hty : (W.swp o k (BitVec.ofInt 64 0)).2 = true → C.right (⟨⟨av, am⟩, ⟨alo, ahi, asl, ash⟩⟩ : Sc) = true → (A.swap o k (⟨⟨av, am⟩, ⟨alo, ahi, asl, ash⟩⟩ : Sc)).2 = true := fun a b => by rw [hto, a, b]; rfl
    refine ctr_flat (Γ := ⟨[(39, k_rSwap), (34, k_qRight), (40, k_qOne), (41, k_qConst), (42, k_qUnknown), (43, k_qLowL)], eqs, [], [], []⟩) (sv := .tup [scv (A.swap o k (⟨⟨av, am⟩, ⟨alo, ahi, asl, ash⟩⟩ : Sc)).1, .bool (A.swap o k (⟨⟨av, am⟩, ⟨alo, ahi, asl, ash⟩⟩ : Sc)).2]) st_Gw ⟨(okCons k_rSwap_ok (okCons k_qRight_ok (okCons k_qOne_ok (okCons k_qConst_ok (okCons k_qUnknown_ok (okCons k_qLowL_ok okNil)))))), eqs_ok, okNilB, okNilI, okNilP⟩ Tryz.func18 rfl mixed [] (by kernel_rfl) 10000 (by rfl) ?_
    (conv => whnf)
    (repeat' (first | (refine step_t (by first | rfl | assumption) ?_; (conv => whnf)) | (refine step_f (by first | rfl | assumption) ?_; (conv => whnf)) | (refine step_nt (by assumption) ?_; (conv => whnf)) | (refine step_nf (by assumption) ?_; (conv => whnf)) | (refine step_n (fun hb => ?_) (fun hb => ?_) <;> (first | contradiction | (conv => whnf))) | (refine And.intro (fun hb => ?_) (fun hb => ?_) <;> (first | contradiction | (conv => whnf))) | (refine And.intro (a := (_ : Bool) = true) ?_ ?_; rotate_left 1; (conv => whnf))))
    all_goals (first | rfl | trivial | assumption | exact hu | exact A.eqv_pf (A.sw_0 (by rw [W.swp_is o k _ (BitVec.ofInt 64 0)]; assumption)) | exact A.eqv_pf (A.sw_1 (by rw [W.swp_is o k _ (BitVec.ofInt 64 0)]; assumption) (by assumption)) | exact A.eqv_pt (A.sw_2 (by rw [W.swp_is o k _ (BitVec.ofInt 64 0)]; assumption) (by assumption) (by assumption)) | exact A.low_pair (A.sw_3 (by rw [W.swp_is o k _ (BitVec.ofInt 64 0)]; assumption) (by assumption) (by assumption) (by assumption)) (hty (by assumption) (by assumption)) | exact A.low_pair (A.sw_4 (by rw [W.swp_is o k _ (BitVec.ofInt 64 0)]; assumption) (by assumption) (by assumption) (by assumption)) (hty (by assumption) (by assumption)))
  · trivial
end Go.Proofs.YtkfbjnikkmoanaaGreatDoor
namespace Go.Proofs.YtkfbjnikkmoanaaGreatDoor
open Go.RowKit Go.Sx
set_option linter.unusedSimpArgs false
set_option linter.unusedVariables false
set_option linter.unnecessarySimpa false
set_option maxRecDepth 100000
set_option maxHeartbeats 4000000
attribute [local irreducible] A.does A.swap R.inS
def k_ArithTells : List SV → List Blk → Res := fun args _ => match args with
  | [.int .u8 op, .int .i16 off, .bool w, .agg [.u64 av, .u64 am, .u64 alo, .u64 ahi, .int .i64 asl, .int .i64 ash], .agg [.u64 bv, .u64 bm, .u64 blo, .u64 bhi, .int .i64 bsl, .int .i64 bsh], .int .i64 o, .int .i64 k] => .test ((R.inS ⟨alo, ahi, asl, ash⟩) && (R.inS ⟨blo, bhi, bsl, bsh⟩)) (.ok (.bool true) [])
  | [.int .u8 op, .int .i16 off, .tt, .agg [.u64 av, .u64 am, .u64 alo, .u64 ahi, .int .i64 asl, .int .i64 ash], .agg [.u64 bv, .u64 bm, .u64 blo, .u64 bhi, .int .i64 bsl, .int .i64 bsh], .int .i64 o, .int .i64 k] => .test ((R.inS ⟨alo, ahi, asl, ash⟩) && (R.inS ⟨blo, bhi, bsl, bsh⟩)) (.ok (.bool true) [])
  | [.int .u8 op, .int .i16 off, .ff, .agg [.u64 av, .u64 am, .u64 alo, .u64 ahi, .int .i64 asl, .int .i64 ash], .agg [.u64 bv, .u64 bm, .u64 blo, .u64 bhi, .int .i64 bsl, .int .i64 bsh], .int .i64 o, .int .i64 k] => .test ((R.inS ⟨alo, ahi, asl, ash⟩) && (R.inS ⟨blo, bhi, bsl, bsh⟩)) (.ok (.bool true) [])
  | _ => .fail
theorem k_ArithTells_ok : CtrOk Tryz.prog Gw 6 k_ArithTells := by
  refine ⟨fun _ _ => by kernel_rfl, fun args M => ?_⟩
  unfold k_ArithTells
  split
  · rename_i op off w av am alo ahi asl ash bv bm blo bhi bsl bsh o k
    intro ht
    have hq := S.and_true2 ht
    have ia := hq.1
    have ib := hq.2
    refine ctr_flat (Γ := ⟨[(9, k_awake20), (10, k_ado), (16, k_zdoW), (17, k_aswap), (18, k_zswap)], eqs, [], [], []⟩) (sv := .bool true) st_Gw ⟨(okCons k_awake20_ok (okCons k_ado_ok (okCons k_zdoW_ok (okCons k_aswap_ok (okCons k_zswap_ok okNil))))), eqs_ok, okNilB, okNilI, okNilP⟩ Tryz.func6 rfl mixed [] (by kernel_rfl) 10000 (by rfl) ?_
    (conv => whnf)
    (repeat' (first | (refine step_t (by first | rfl | (simp only [beq_self_eq_true, bne_self_eq_false, Bool.and_self, Bool.not_true, Bool.not_false, Bool.and_true]; done) | assumption) ?_; (conv => whnf)) | (refine step_f (by first | rfl | (simp only [beq_self_eq_true, bne_self_eq_false, Bool.and_self, Bool.not_true, Bool.not_false, Bool.and_true]; done) | assumption) ?_; (conv => whnf)) | (refine step_nt (by assumption) ?_; (conv => whnf)) | (refine step_nf (by assumption) ?_; (conv => whnf)) | (refine step_n (fun hb => ?_) (fun hb => ?_) <;> (first | contradiction | (conv => whnf))) | (refine And.intro (fun hb => ?_) (fun hb => ?_) <;> (first | contradiction | (conv => whnf))) | (refine And.intro ?_ ?_; rotate_left 1; (conv => whnf))))
    all_goals (first | rfl | trivial | assumption | exact ht | (simp only [bne_self_eq_false, beq_self_eq_true, Bool.and_self, eqv, eqv1] at *; done) | (simp_all [eqv, eqv1]; done))
  · rename_i op off av am alo ahi asl ash bv bm blo bhi bsl bsh o k
    intro ht
    have hq := S.and_true2 ht
    have ia := hq.1
    have ib := hq.2
    refine ctr_flat (Γ := ⟨[(9, k_awake20), (10, k_ado), (16, k_zdoW), (17, k_aswap), (18, k_zswap)], eqs, [], [], []⟩) (sv := .bool true) st_Gw ⟨(okCons k_awake20_ok (okCons k_ado_ok (okCons k_zdoW_ok (okCons k_aswap_ok (okCons k_zswap_ok okNil))))), eqs_ok, okNilB, okNilI, okNilP⟩ Tryz.func6 rfl mixed [] (by kernel_rfl) 10000 (by rfl) ?_
    (conv => whnf)
    (repeat' (first | (refine step_t (by first | rfl | (simp only [beq_self_eq_true, bne_self_eq_false, Bool.and_self, Bool.not_true, Bool.not_false, Bool.and_true]; done) | assumption) ?_; (conv => whnf)) | (refine step_f (by first | rfl | (simp only [beq_self_eq_true, bne_self_eq_false, Bool.and_self, Bool.not_true, Bool.not_false, Bool.and_true]; done) | assumption) ?_; (conv => whnf)) | (refine step_nt (by assumption) ?_; (conv => whnf)) | (refine step_nf (by assumption) ?_; (conv => whnf)) | (refine step_n (fun hb => ?_) (fun hb => ?_) <;> (first | contradiction | (conv => whnf))) | (refine And.intro (fun hb => ?_) (fun hb => ?_) <;> (first | contradiction | (conv => whnf))) | (refine And.intro ?_ ?_; rotate_left 1; (conv => whnf))))
    all_goals (first | rfl | trivial | assumption | exact ht | (simp only [bne_self_eq_false, beq_self_eq_true, Bool.and_self, eqv, eqv1] at *; done) | (simp_all [eqv, eqv1]; done))
  · rename_i op off av am alo ahi asl ash bv bm blo bhi bsl bsh o k
    intro ht
    have hq := S.and_true2 ht
    have ia := hq.1
    have ib := hq.2
    refine ctr_flat (Γ := ⟨[(9, k_awake20), (10, k_ado), (16, k_zdoW), (17, k_aswap), (18, k_zswap)], eqs, [], [], []⟩) (sv := .bool true) st_Gw ⟨(okCons k_awake20_ok (okCons k_ado_ok (okCons k_zdoW_ok (okCons k_aswap_ok (okCons k_zswap_ok okNil))))), eqs_ok, okNilB, okNilI, okNilP⟩ Tryz.func6 rfl mixed [] (by kernel_rfl) 10000 (by rfl) ?_
    (conv => whnf)
    (repeat' (first | (refine step_t (by first | rfl | (simp only [beq_self_eq_true, bne_self_eq_false, Bool.and_self, Bool.not_true, Bool.not_false, Bool.and_true]; done) | assumption) ?_; (conv => whnf)) | (refine step_f (by first | rfl | (simp only [beq_self_eq_true, bne_self_eq_false, Bool.and_self, Bool.not_true, Bool.not_false, Bool.and_true]; done) | assumption) ?_; (conv => whnf)) | (refine step_nt (by assumption) ?_; (conv => whnf)) | (refine step_nf (by assumption) ?_; (conv => whnf)) | (refine step_n (fun hb => ?_) (fun hb => ?_) <;> (first | contradiction | (conv => whnf))) | (refine And.intro (fun hb => ?_) (fun hb => ?_) <;> (first | contradiction | (conv => whnf))) | (refine And.intro ?_ ?_; rotate_left 1; (conv => whnf))))
    all_goals (first | rfl | trivial | assumption | exact ht | (simp only [bne_self_eq_false, beq_self_eq_true, Bool.and_self, eqv, eqv1] at *; done) | (simp_all [eqv, eqv1]; done))
  · trivial
end Go.Proofs.YtkfbjnikkmoanaaGreatDoor
namespace Go.Proofs.YtkfbjnikkmoanaaGreatDoor
open Go.RowKit Go.Sx
set_option linter.unusedSimpArgs false
set_option linter.unusedVariables false
set_option linter.unnecessarySimpa false
set_option maxRecDepth 100000
set_option maxHeartbeats 4000000
/-- The scalars that are tried. -/
def opsL : Nat → Sc
  | 0 => C.const (BitVec.ofInt 64 0)
  | 1 => C.const (BitVec.ofInt 64 1)
  | 2 => C.const (BitVec.ofInt 64 33)
  | 3 => C.const (BitVec.ofInt 64 2147483648)
  | 4 => C.const (BitVec.ofInt 64 18446744073709551615)
  | 5 => C.const (BitVec.ofInt 64 9223372036854775808)
  | 6 => (C.of ⟨0, BitVec.allOnes 64⟩ ⟨BitVec.ofInt 64 0, BitVec.ofInt 64 1, -9223372036854775808, 9223372036854775807⟩).1
  | 7 => (C.of ⟨0, BitVec.allOnes 64⟩ ⟨BitVec.ofInt 64 1, BitVec.ofInt 64 5, -9223372036854775808, 9223372036854775807⟩).1
  | 8 => (C.of ⟨0, BitVec.allOnes 64⟩ ⟨BitVec.ofInt 64 0, BitVec.ofInt 64 2147483647, -9223372036854775808, 9223372036854775807⟩).1
  | 9 => (C.of ⟨0, BitVec.allOnes 64⟩ ⟨BitVec.ofInt 64 2147483647, BitVec.ofInt 64 2147483648, -9223372036854775808, 9223372036854775807⟩).1
  | 10 => (C.of ⟨0, BitVec.allOnes 64⟩ ⟨BitVec.ofInt 64 0, BitVec.ofInt 64 4294967296, -9223372036854775808, 9223372036854775807⟩).1
  | 11 => (C.of ⟨0, BitVec.allOnes 64⟩ ⟨BitVec.ofInt 64 9223372036854775807, BitVec.ofInt 64 9223372036854775808, -9223372036854775808, 9223372036854775807⟩).1
  | 12 => (C.of ⟨0, BitVec.allOnes 64⟩ ⟨BitVec.ofInt 64 18446744073709551613, BitVec.ofInt 64 18446744073709551615, -9223372036854775808, 9223372036854775807⟩).1
  | 13 => C.unknown
  | 14 => A.zeroC
  | _ => A.zeroC
/-- The offs that are tried. -/
def opsO : Nat → Int
  | 0 => 0
  | 1 => 1
  | 2 => 8
  | 3 => 16
  | 4 => 32
  | 5 => 2
  | _ => 0
theorem opsL_in (i : Nat) : R.inS (opsL i).s = true := by
  unfold opsL
  split <;> first | exact C.const_ins _ | exact A.unknown_in | exact C.of_in rfl | rfl
@[reducible] def opsG (i : Nat) : List FV := [.u64 (opsL i).t.v, .u64 (opsL i).t.m, .u64 (opsL i).s.lo, .u64 (opsL i).s.hi, .int .i64 (opsL i).s.sl, .int .i64 (opsL i).s.sh]
@[reducible] def opsF (i : Nat) : List FV := [.int .i16 (opsO i)]
theorem ops_15 {p : Nat → Prop} (h : p 0 ∧ p 1 ∧ p 2 ∧ p 3 ∧ p 4 ∧ p 5 ∧ p 6 ∧ p 7 ∧ p 8 ∧ p 9 ∧ p 10 ∧ p 11 ∧ p 12 ∧ p 13 ∧ p 14) : ∀ i, i < 15 → p i := by
  intro i hi
  match i, hi with
  | 0, _ => exact h.1
  | 1, _ => exact h.2.1
  | 2, _ => exact h.2.2.1
  | 3, _ => exact h.2.2.2.1
  | 4, _ => exact h.2.2.2.2.1
  | 5, _ => exact h.2.2.2.2.2.1
  | 6, _ => exact h.2.2.2.2.2.2.1
  | 7, _ => exact h.2.2.2.2.2.2.2.1
  | 8, _ => exact h.2.2.2.2.2.2.2.2.1
  | 9, _ => exact h.2.2.2.2.2.2.2.2.2.1
  | 10, _ => exact h.2.2.2.2.2.2.2.2.2.2.1
  | 11, _ => exact h.2.2.2.2.2.2.2.2.2.2.2.1
  | 12, _ => exact h.2.2.2.2.2.2.2.2.2.2.2.2.1
  | 13, _ => exact h.2.2.2.2.2.2.2.2.2.2.2.2.2.1
  | 14, _ => exact h.2.2.2.2.2.2.2.2.2.2.2.2.2.2
  | i + 15, hi => omega
theorem ops_6 {p : Nat → Prop} (h : p 0 ∧ p 1 ∧ p 2 ∧ p 3 ∧ p 4 ∧ p 5) : ∀ i, i < 6 → p i := by
  intro i hi
  match i, hi with
  | 0, _ => exact h.1
  | 1, _ => exact h.2.1
  | 2, _ => exact h.2.2.1
  | 3, _ => exact h.2.2.2.1
  | 4, _ => exact h.2.2.2.2.1
  | 5, _ => exact h.2.2.2.2.2
  | i + 6, hi => omega
theorem w_1 {j : Nat} (h : j < 1000000) : IntKind.i64.wrap ((j : Int) + 1) = ((j + 1 : Nat) : Int) := by rw [IntWalk.i64_in _ (by omega)]; omega
theorem w_8 {j : Nat} (h : j < 1000000) : IntKind.i64.wrap (((8 * j : Nat) : Int) + 8) = ((8 * (j + 1) : Nat) : Int) := by rw [IntWalk.i64_in _ (by omega)]; omega
attribute [local irreducible] opsL opsO C.const C.of C.unknown R.inS A.does A.swap
theorem ops_run : run Tryz.prog ⟨[(9, k_awake20), (11, k_cConst), (19, k_rng20), (20, k_cUnknown), (6, k_ArithTells)], eqs, [], [], []⟩ 10000 [(17, 42, [0, 1, 0, 0, 12, 28, 0, 0, 192, 448, 0, 0, 3072, 7168, 0, 16384, 0, 65536, 196608, 458752, 1048575, 2097151, 4194303, 8388607, 16777215, 8388607, 8388607, 109051903, 243269631, 8388607, 8388607, 1619001343, 3766484991, 8388607, 8388607, 25778192383, 60137930751, 8388607, 137447342079, 8388607, 549764202495, 1649275830271, 4398046511103, 8796093022207, 17592186044415])] 0 (bodyOf Tryz.f7) (initF Tryz.f7 []) [] (retK Tryz.prog Tryz.f7 fun x _ => eqv x (.bool true)) := by
  (conv => whnf)
  (repeat' (first | (refine And.intro (fun hb => ?_) (fun hb => ?_) <;> (first | contradiction | (conv => whnf))) | (refine And.intro ?_ ?_; rotate_left 1; (conv => whnf))))
  all_goals try (first | rfl | trivial | (simp; done) | (simp; omega) | (simp at hb ⊢; omega) | (simp only [decide_eq_true_eq, Bool.and_eq_true, Int.toNat_natCast] at *; omega))
  refine .inr ⟨[], [1, 2, 3], fun k vals M => ∃ a : Nat, a ≤ 32 ∧ k = 32 - a ∧ vals = [.sl 0 6 0 15, .sl 1 1 0 6, .int .i64 ((8 * a : Nat) : Int)] ∧ M = [.own 29 6 15 opsG, .own 22 1 6 opsF], ?_⟩
  conv => whnf
  refine And.intro ⟨32, [.own 29 6 15 opsG, .own 22 1 6 opsF], mle_cons (ble_own rfl (ops_15 ⟨by with_unfolding_all rfl, by with_unfolding_all rfl, by with_unfolding_all rfl, by with_unfolding_all rfl, by with_unfolding_all rfl, by with_unfolding_all rfl, by with_unfolding_all rfl, by with_unfolding_all rfl, by with_unfolding_all rfl, by with_unfolding_all rfl, by with_unfolding_all rfl, by with_unfolding_all rfl, by with_unfolding_all rfl, by with_unfolding_all rfl, by with_unfolding_all rfl⟩)) (mle_cons (ble_own rfl (ops_6 ⟨by with_unfolding_all rfl, by with_unfolding_all rfl, by with_unfolding_all rfl, by with_unfolding_all rfl, by with_unfolding_all rfl, by with_unfolding_all rfl⟩)) mle_nil), rfl, rfl, 0, by omega, by omega, rfl, rfl⟩ ?_
  rintro k vals M1 ⟨a, ha, rfl, rfl, rfl⟩
  (conv => whnf)
  (repeat' (first | (refine And.intro (fun hb => ?_) (fun hb => ?_) <;> (first | contradiction | (conv => whnf))) | (refine And.intro ?_ ?_; rotate_left 1; (conv => whnf))))
  all_goals try (first | rfl | trivial | (simp; done) | (simp; omega) | (simp at hb ⊢; omega) | (simp only [decide_eq_true_eq, Bool.and_eq_true, Int.toNat_natCast] at *; omega))
  · refine .inr ⟨[], [1, 2, 3, 4], fun k vals M => ∃ i : Nat, i ≤ 15 ∧ k = 15 - i ∧ vals = [.sl 0 6 0 15, .sl 1 1 0 6, .int .i64 ((8 * a : Nat) : Int), .int .i64 (i : Int)] ∧ M = [.own 29 6 15 opsG, .own 22 1 6 opsF], ?_⟩
    conv => whnf
    refine And.intro ⟨15, [.own 29 6 15 opsG, .own 22 1 6 opsF], mle_cons ble_refl (mle_cons ble_refl mle_nil), rfl, rfl, 0, by omega, by omega, rfl, rfl⟩ ?_
    rintro k vals M1 ⟨i, hi, rfl, rfl, rfl⟩
    (conv => whnf)
    (repeat' (first | (refine And.intro (fun hb => ?_) (fun hb => ?_) <;> (first | contradiction | (conv => whnf))) | (refine And.intro ?_ ?_; rotate_left 1; (conv => whnf))))
    all_goals try (first | rfl | trivial | (simp; done) | (simp; omega) | (simp at hb ⊢; omega) | (simp only [decide_eq_true_eq, Bool.and_eq_true, Int.toNat_natCast] at *; omega))
    · refine .inr ⟨[], [1, 2, 3, 4, 5], fun k vals M => ∃ c : Nat, c ≤ 15 ∧ k = 15 - c ∧ vals = [.sl 0 6 0 15, .sl 1 1 0 6, .int .i64 ((8 * a : Nat) : Int), .int .i64 (i : Int), .int .i64 (c : Int)] ∧ M = [.own 29 6 15 opsG, .own 22 1 6 opsF], ?_⟩
      conv => whnf
      refine And.intro ⟨15, [.own 29 6 15 opsG, .own 22 1 6 opsF], mle_cons ble_refl (mle_cons ble_refl mle_nil), rfl, rfl, 0, by omega, by omega, rfl, rfl⟩ ?_
      rintro k vals M1 ⟨c, hc, rfl, rfl, rfl⟩
      (conv => whnf)
      (repeat' (first | (refine And.intro (fun hb => ?_) (fun hb => ?_) <;> (first | contradiction | (conv => whnf))) | (refine And.intro ?_ ?_; rotate_left 1; (conv => whnf))))
      all_goals try (first | rfl | trivial | (simp; done) | (simp; omega) | (simp at hb ⊢; omega) | (simp only [decide_eq_true_eq, Bool.and_eq_true, Int.toNat_natCast] at *; omega))
      · refine .inr ⟨[], [1, 2, 3, 4, 5, 6], fun k vals M => ∃ n : Nat, n ≤ 6 ∧ k = 6 - n ∧ vals = [.sl 0 6 0 15, .sl 1 1 0 6, .int .i64 ((8 * a : Nat) : Int), .int .i64 (i : Int), .int .i64 (c : Int), .int .i64 (n : Int)] ∧ M = [.own 29 6 15 opsG, .own 22 1 6 opsF], ?_⟩
        conv => whnf
        refine And.intro ⟨6, [.own 29 6 15 opsG, .own 22 1 6 opsF], mle_cons ble_refl (mle_cons ble_refl mle_nil), rfl, rfl, 0, by omega, by omega, rfl, rfl⟩ ?_
        rintro k vals M1 ⟨n, hn, rfl, rfl, rfl⟩
        (conv => whnf)
        (repeat' (first | (refine And.intro (fun hb => ?_) (fun hb => ?_) <;> (first | contradiction | (conv => whnf))) | (refine And.intro ?_ ?_; rotate_left 1; (conv => whnf))))
        all_goals try (first | rfl | trivial | (simp; done) | (simp; omega) | (simp at hb ⊢; omega) | (simp only [decide_eq_true_eq, Bool.and_eq_true, Int.toNat_natCast] at *; omega))
        all_goals first | exact C.and2 (opsL_in _) (opsL_in _) | (simp only [decide_eq_true_eq] at *; omega) | (simp [IntKind.wrap, IntKind.signed, IntKind.bits]; omega) |exact ⟨6 - (n + 1), [.own 29 6 15 opsG, .own 22 1 6 opsF], [0, 1], by (simp only [decide_eq_true_eq, decide_eq_false_iff_not] at *; omega), rfl, mle_cons ble_refl (mle_cons ble_refl mle_nil), rfl, rfl, n + 1, by (simp only [decide_eq_true_eq, decide_eq_false_iff_not] at *; omega), rfl, (by rw [← w_1 (j := n) (by omega)]; rfl), rfl⟩ |exact ⟨15 - (c + 1), [.own 29 6 15 opsG, .own 22 1 6 opsF], [0, 1], by (simp only [decide_eq_true_eq, decide_eq_false_iff_not] at *; omega), rfl, mle_cons ble_refl (mle_cons ble_refl mle_nil), rfl, rfl, c + 1, by (simp only [decide_eq_true_eq, decide_eq_false_iff_not] at *; omega), rfl, (by rw [← w_1 (j := c) (by omega)]; rfl), rfl⟩
      · exact ⟨15 - (i + 1), [.own 29 6 15 opsG, .own 22 1 6 opsF], [0, 1], by (simp only [decide_eq_true_eq, decide_eq_false_iff_not] at *; omega), rfl, mle_cons ble_refl (mle_cons ble_refl mle_nil), rfl, rfl, i + 1, by (simp only [decide_eq_true_eq, decide_eq_false_iff_not] at *; omega), rfl, (by rw [← w_1 (j := i) (by omega)]; rfl), rfl⟩
    · exact ⟨32 - (a + 1), [.own 29 6 15 opsG, .own 22 1 6 opsF], [0, 1], by (simp only [decide_eq_true_eq, decide_eq_false_iff_not] at *; omega), rfl, mle_cons ble_refl (mle_cons ble_refl mle_nil), rfl, rfl, a + 1, by (simp only [decide_eq_true_eq, decide_eq_false_iff_not] at *; omega), rfl, (by rw [← w_8 (j := a) (by omega)]; rfl), rfl⟩
def k_ArithOps : List SV → List Blk → Res := fun args _ => match args with
  | [] => .ok (.bool true) []
  | _ => .fail
theorem k_ArithOps_ok : CtrOk Tryz.prog Gw 7 k_ArithOps := by
  refine ⟨fun _ _ => by kernel_rfl, fun args M => ?_⟩
  unfold k_ArithOps
  split
  · exact ctr_flat (Γ := ⟨[(9, k_awake20), (11, k_cConst), (19, k_rng20), (20, k_cUnknown), (6, k_ArithTells)], eqs, [], [], []⟩) (sv := .bool true) st_Gw ⟨(okCons k_awake20_ok (okCons k_cConst_ok (okCons k_rng20_ok (okCons k_cUnknown_ok (okCons k_ArithTells_ok okNil))))), eqs_ok, okNilB, okNilI, okNilP⟩ Tryz.func7 rfl mixed [(17, 42, [0, 1, 0, 0, 12, 28, 0, 0, 192, 448, 0, 0, 3072, 7168, 0, 16384, 0, 65536, 196608, 458752, 1048575, 2097151, 4194303, 8388607, 16777215, 8388607, 8388607, 109051903, 243269631, 8388607, 8388607, 1619001343, 3766484991, 8388607, 8388607, 25778192383, 60137930751, 8388607, 137447342079, 8388607, 549764202495, 1649275830271, 4398046511103, 8796093022207, 17592186044415])] (by kernel_rfl) 10000 (by rfl) (ops_run)
  · trivial
end Go.Proofs.YtkfbjnikkmoanaaGreatDoor
