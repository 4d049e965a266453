import Derived.Test.YtddcaklgflfkeaaGreatDoorX8
namespace Go.Proofs.YtddcaklgflfkeaaGreatDoor
open Go.RowKit Go.Sx
set_option linter.unusedSimpArgs false
set_option linter.unusedVariables false
set_option linter.unnecessarySimpa false
set_option maxRecDepth 100000
set_option maxHeartbeats 4000000
namespace A
theorem pickC_in {b : Bool} {x y : Sc} (hx : R.inS x.s = true) (hy : R.inS y.s = true) : R.inS (pickC b x y).s = true := by
  unfold pickC; split
  · exact hx
  · exact hy
theorem upTo_ins (h : BitVec 64) : R.inS (upTo h).s = true := ofm_in (upTo_in h)
theorem moved_in {off : Int} {b : Sc} (hb : R.inS b.s = true) : R.inS (moved off b).s = true := by
  unfold moved; split
  · exact hb
  · exact pickC_in (C.low_in hb _ _) unknown_in
theorem quot_in {op off : Int} {a b : Sc} (ha : R.inS a.s = true) (hb : R.inS b.s = true) : R.inS (quot op off a b).s = true := by
  unfold quot; split
  · split
    · split
      · exact upTo_ins _
      · exact ofm_in (sdo_in ha hb)
    · exact upTo_ins _
  · exact unknown_in
theorem rem_in {off : Int} {a b : Sc} (ha : R.inS a.s = true) : R.inS (rem off a b).s = true := by
  unfold rem; split
  · split
    · split
      · exact upTo_ins _
      · split
        · exact ha
        · exact upTo_ins _
    · exact upTo_ins _
  · exact unknown_in
theorem shiftA_in {op : Int} {w : Bool} {a b : Sc} (ha : R.inS a.s = true) : R.inS (shiftA op w a b).s = true := by
  unfold shiftA; split
  · split
    · exact shifted_in ha
    · split
      · split
        · exact shifted_in ha
        · exact unknown_in
      · exact shifted_in ha
  · exact unknown_in
theorem made_in {op off : Int} {w : Bool} {a b : Sc} (ha : R.inS a.s = true) (hb : R.inS b.s = true) : R.inS (made op off w a b).s = true := by
  unfold made
  split
  · exact C.const_ins _
  split
  · exact both_in (C.const_ins _) ha
  split
  · exact moved_in hb
  split
  · exact quot_in ha hb
  split
  · exact rem_in ha
  split
  · exact shiftA_in ha
  split
  · exact shiftA_in ha
  split
  · exact shiftA_in ha
  · exact both_in ha hb
theorem moved_right {off : Int} {b : Sc} (hb : R.inS b.s = true) (hr : C.right b = true) : C.right (moved off b) = true := by
  unfold moved; split
  · exact hr
  · unfold pickC; split
    · rename_i h; exact (C.low_law hb _ true 0).2.1 h
    · exact C.unknown_right
theorem quot_right {op off : Int} {a b : Sc} (ha : R.inS a.s = true) (hb : R.inS b.s = true) : C.right (quot op off a b) = true := by
  unfold quot; split
  · split
    · split
      · exact upTo_right _
      · exact ofm_right (sdo_in ha hb)
    · exact upTo_right _
  · exact C.unknown_right
theorem rem_right {off : Int} {a b : Sc} (hr : C.right a = true) : C.right (rem off a b) = true := by
  unfold rem; split
  · split
    · split
      · exact upTo_right _
      · split
        · exact hr
        · exact upTo_right _
    · exact upTo_right _
  · exact C.unknown_right
theorem shiftA_right {op : Int} {w : Bool} {a b : Sc} (ha : R.inS a.s = true) : C.right (shiftA op w a b) = true := by
  unfold shiftA; split
  · split
    · exact shifted_right ha
    · split
      · split
        · exact shifted_right ha
        · exact C.unknown_right
      · exact shifted_right ha
  · exact C.unknown_right
theorem made_right {op off : Int} {w : Bool} {a b : Sc} (ha : R.inS a.s = true) (hb : R.inS b.s = true) (ra : C.right a = true) (rb : C.right b = true) : C.right (made op off w a b) = true := by
  unfold made
  split
  · exact C.const_right _
  split
  · exact both_right (C.const_ins _) ha
  split
  · exact moved_right hb rb
  split
  · exact quot_right ha hb
  split
  · exact rem_right ra
  split
  · exact shiftA_right ha
  split
  · exact shiftA_right ha
  split
  · exact shiftA_right ha
  · exact both_right ha hb
def zeroC : Sc := ⟨⟨BitVec.ofInt 64 0, BitVec.ofInt 64 0⟩, ⟨BitVec.ofInt 64 0, BitVec.ofInt 64 0, 0, 0⟩⟩
/-- What arith.Do tells. -/
def does (op off : Int) (w : Bool) (a b : Sc) : Sc × Bool :=
  if (W.aluG op off w (BitVec.ofInt 64 0) (BitVec.ofInt 64 0)).2 then (if C.right a then (if C.right b then (if w then made op off true a b else low4 (made op off false (low4 a) (low4 b)), true) else (zeroC, false)) else (zeroC, false)) else (zeroC, false)
section
variable {op off : Int} {w : Bool} {a b : Sc}
theorem do_0 (h : (W.aluG op off w (BitVec.ofInt 64 0) (BitVec.ofInt 64 0)).2 = false) : does op off w a b = (zeroC, false) := by unfold does; rw [if_neg (by rw [h]; decide)]
theorem do_1 (h : (W.aluG op off w (BitVec.ofInt 64 0) (BitVec.ofInt 64 0)).2 = true) (h1 : C.right a = false) : does op off w a b = (zeroC, false) := by unfold does; rw [if_pos h, if_neg (by rw [h1]; decide)]
theorem do_2 (h : (W.aluG op off w (BitVec.ofInt 64 0) (BitVec.ofInt 64 0)).2 = true) (h1 : C.right a = true) (h2 : C.right b = false) : does op off w a b = (zeroC, false) := by unfold does; rw [if_pos h, if_pos h1, if_neg (by rw [h2]; decide)]
theorem do_3 (h : (W.aluG op off w (BitVec.ofInt 64 0) (BitVec.ofInt 64 0)).2 = true) (h1 : C.right a = true) (h2 : C.right b = true) (hw : w = true) : does op off w a b = (made op off true a b, true) := by unfold does; rw [if_pos h, if_pos h1, if_pos h2, if_pos hw]
theorem do_4 (h : (W.aluG op off w (BitVec.ofInt 64 0) (BitVec.ofInt 64 0)).2 = true) (h1 : C.right a = true) (h2 : C.right b = true) (hw : w = false) : does op off w a b = (low4 (made op off false (low4 a) (low4 b)), true) := by unfold does; rw [if_pos h, if_pos h1, if_pos h2, if_neg (by rw [hw]; decide)]
/-- What is told is a scalar. -/
theorem does_right (ha : R.inS a.s = true) (hb : R.inS b.s = true) (h : (does op off w a b).2 = true) : C.right (does op off w a b).1 = true := by
  unfold does at h ⊢
  split at h
  · rename_i h0
    rw [if_pos h0]
    split at h
    · rename_i h1
      rw [if_pos h1]
      split at h
      · rename_i h2
        rw [if_pos h2]
        show C.right (if w = true then made op off true a b else low4 (made op off false (low4 a) (low4 b))) = true
        split
        · exact made_right ha hb h1 h2
        · exact low4_right (made_in (low4_in ha) (low4_in hb)) (made_right (low4_in ha) (low4_in hb) (low4_right ha h1) (low4_right hb h2))
      · cases h
    · cases h
  · cases h
end
theorem eqv_pb {x y : Sc} {b c : Bool} (h : (y, c) = (x, b)) : eqv (.tup [scv x, .bool b]) (.tup [scv y, .bool c]) := by
  obtain ⟨rfl, rfl⟩ := Prod.mk.inj h
  exact ⟨eqv_s _, rfl, trivial⟩
theorem eqv_pt {x : Sc} {p : Sc × Bool} (h : p = (x, true)) : eqv (.tup [scv x, .tt]) (.tup [scv p.1, .bool p.2]) := by
  subst h; exact ⟨eqv_s _, rfl, trivial⟩
theorem eqv_pf {p : Sc × Bool} (h : p = (zeroC, false)) : eqv (.tup [scv zeroC, .ff]) (.tup [scv p.1, .bool p.2]) := by
  subst h; exact ⟨eqv_s _, rfl, trivial⟩
end A
attribute [local irreducible] A.made A.low4 A.does W.aluG C.right R.inS
def k_ado : List SV → List Blk → Res := fun args _ => match args with
  | [.int .u8 op, .int .i16 off, .tt, .agg [.u64 av, .u64 am, .u64 alo, .u64 ahi, .int .i64 asl, .int .i64 ash], .agg [.u64 bv, .u64 bm, .u64 blo, .u64 bhi, .int .i64 bsl, .int .i64 bsh]] => .test (R.inS ⟨alo, ahi, asl, ash⟩ && R.inS ⟨blo, bhi, bsl, bsh⟩) (.ok (.tup [scv (A.does op off true (⟨⟨av, am⟩, ⟨alo, ahi, asl, ash⟩⟩ : Sc) (⟨⟨bv, bm⟩, ⟨blo, bhi, bsl, bsh⟩⟩ : Sc)).1, .bool (A.does op off true (⟨⟨av, am⟩, ⟨alo, ahi, asl, ash⟩⟩ : Sc) (⟨⟨bv, bm⟩, ⟨blo, bhi, bsl, bsh⟩⟩ : Sc)).2]) [])
  | [.int .u8 op, .int .i16 off, .ff, .agg [.u64 av, .u64 am, .u64 alo, .u64 ahi, .int .i64 asl, .int .i64 ash], .agg [.u64 bv, .u64 bm, .u64 blo, .u64 bhi, .int .i64 bsl, .int .i64 bsh]] => .test (R.inS ⟨alo, ahi, asl, ash⟩ && R.inS ⟨blo, bhi, bsl, bsh⟩) (.ok (.tup [scv (A.does op off false (⟨⟨av, am⟩, ⟨alo, ahi, asl, ash⟩⟩ : Sc) (⟨⟨bv, bm⟩, ⟨blo, bhi, bsl, bsh⟩⟩ : Sc)).1, .bool (A.does op off false (⟨⟨av, am⟩, ⟨alo, ahi, asl, ash⟩⟩ : Sc) (⟨⟨bv, bm⟩, ⟨blo, bhi, bsl, bsh⟩⟩ : Sc)).2]) [])
  | [.int .u8 op, .int .i16 off, .bool w, .agg [.u64 av, .u64 am, .u64 alo, .u64 ahi, .int .i64 asl, .int .i64 ash], .agg [.u64 bv, .u64 bm, .u64 blo, .u64 bhi, .int .i64 bsl, .int .i64 bsh]] => .test (R.inS ⟨alo, ahi, asl, ash⟩ && R.inS ⟨blo, bhi, bsl, bsh⟩) (.ok (.tup [scv (A.does op off w (⟨⟨av, am⟩, ⟨alo, ahi, asl, ash⟩⟩ : Sc) (⟨⟨bv, bm⟩, ⟨blo, bhi, bsl, bsh⟩⟩ : Sc)).1, .bool (A.does op off w (⟨⟨av, am⟩, ⟨alo, ahi, asl, ash⟩⟩ : Sc) (⟨⟨bv, bm⟩, ⟨blo, bhi, bsl, bsh⟩⟩ : Sc)).2]) [])
  | _ => .fail
theorem k_ado_ok : CtrOk Tryz.prog Gw 23 k_ado := by
  refine ⟨fun _ _ => by kernel_rfl, fun args M => ?_⟩
  unfold k_ado
  split
  · rename_i op off av am alo ahi asl ash bv bm blo bhi bsl bsh
    intro ht
    have hq := S.and_true2 ht
    have hq1 := hq.1
    have hq2 := hq.2
    have hl1 : R.inS (A.low4 (⟨⟨av, am⟩, ⟨alo, ahi, asl, ash⟩⟩ : Sc)).s = true := A.low4_in hq1
    have hl2 : R.inS (A.low4 (⟨⟨bv, bm⟩, ⟨blo, bhi, bsl, bsh⟩⟩ : Sc)).s = true := A.low4_in hq2
    have hl3 := C.and2 hl1 hl2
    have hm : R.inS (A.made op off false (A.low4 (⟨⟨av, am⟩, ⟨alo, ahi, asl, ash⟩⟩ : Sc)) (A.low4 (⟨⟨bv, bm⟩, ⟨blo, bhi, bsl, bsh⟩⟩ : Sc))).s = true := A.made_in hl1 hl2
    refine ctr_flat (Γ := ⟨[(50, k_AluG), (19, k_cRight), (51, k_amade), (52, k_alow)], eqs, [], [], []⟩) (sv := .tup [scv (A.does op off true (⟨⟨av, am⟩, ⟨alo, ahi, asl, ash⟩⟩ : Sc) (⟨⟨bv, bm⟩, ⟨blo, bhi, bsl, bsh⟩⟩ : Sc)).1, .bool (A.does op off true (⟨⟨av, am⟩, ⟨alo, ahi, asl, ash⟩⟩ : Sc) (⟨⟨bv, bm⟩, ⟨blo, bhi, bsl, bsh⟩⟩ : Sc)).2]) st_Gw ⟨(okCons k_AluG_ok (okCons k_cRight_ok (okCons k_amade_ok (okCons k_alow_ok okNil)))), eqs_ok, okNilB, okNilI, okNilP⟩ Tryz.func23 rfl mixed [(8, 5, [0, 0, 0, 4, 0, 28, 63, 127, 255, 511, 1023])] (by kernel_rfl) 10000 (by rfl) ?_
    (conv => whnf)
    (repeat' (first | (refine step_t (by first | rfl | assumption) ?_; (conv => whnf)) | (refine step_f (by first | rfl | assumption) ?_; (conv => whnf)) | (refine step_nt (by assumption) ?_; (conv => whnf)) | (refine step_nf (by assumption) ?_; (conv => whnf)) | (refine step_n (fun hb => ?_) (fun hb => ?_) <;> (first | contradiction | (conv => whnf))) | (refine And.intro (fun hb => ?_) (fun hb => ?_) <;> (first | contradiction | (conv => whnf))) | (refine And.intro (a := (_ : Bool) = true) ?_ ?_; rotate_left 1; (conv => whnf))))
    all_goals (first | rfl | trivial | assumption | exact ht | exact hl3 | exact A.eqv_pf (A.do_0 (by assumption)) | exact A.eqv_pf (A.do_1 (by assumption) (by assumption)) | exact A.eqv_pf (A.do_2 (by assumption) (by assumption) (by assumption)) | exact A.eqv_pt (A.do_3 (by assumption) (by assumption) (by assumption) (by first | rfl | assumption)) | exact A.eqv_pt (A.do_4 (by assumption) (by assumption) (by assumption) (by first | rfl | assumption)))
  · rename_i op off av am alo ahi asl ash bv bm blo bhi bsl bsh
    intro ht
    have hq := S.and_true2 ht
    have hq1 := hq.1
    have hq2 := hq.2
    have hl1 : R.inS (A.low4 (⟨⟨av, am⟩, ⟨alo, ahi, asl, ash⟩⟩ : Sc)).s = true := A.low4_in hq1
    have hl2 : R.inS (A.low4 (⟨⟨bv, bm⟩, ⟨blo, bhi, bsl, bsh⟩⟩ : Sc)).s = true := A.low4_in hq2
    have hl3 := C.and2 hl1 hl2
    have hm : R.inS (A.made op off false (A.low4 (⟨⟨av, am⟩, ⟨alo, ahi, asl, ash⟩⟩ : Sc)) (A.low4 (⟨⟨bv, bm⟩, ⟨blo, bhi, bsl, bsh⟩⟩ : Sc))).s = true := A.made_in hl1 hl2
    refine ctr_flat (Γ := ⟨[(50, k_AluG), (19, k_cRight), (51, k_amade), (52, k_alow)], eqs, [], [], []⟩) (sv := .tup [scv (A.does op off false (⟨⟨av, am⟩, ⟨alo, ahi, asl, ash⟩⟩ : Sc) (⟨⟨bv, bm⟩, ⟨blo, bhi, bsl, bsh⟩⟩ : Sc)).1, .bool (A.does op off false (⟨⟨av, am⟩, ⟨alo, ahi, asl, ash⟩⟩ : Sc) (⟨⟨bv, bm⟩, ⟨blo, bhi, bsl, bsh⟩⟩ : Sc)).2]) st_Gw ⟨(okCons k_AluG_ok (okCons k_cRight_ok (okCons k_amade_ok (okCons k_alow_ok okNil)))), eqs_ok, okNilB, okNilI, okNilP⟩ Tryz.func23 rfl mixed [(8, 5, [0, 0, 0, 4, 0, 28, 63, 127, 255, 511, 1023])] (by kernel_rfl) 10000 (by rfl) ?_
    (conv => whnf)
    (repeat' (first | (refine step_t (by first | rfl | assumption) ?_; (conv => whnf)) | (refine step_f (by first | rfl | assumption) ?_; (conv => whnf)) | (refine step_nt (by assumption) ?_; (conv => whnf)) | (refine step_nf (by assumption) ?_; (conv => whnf)) | (refine step_n (fun hb => ?_) (fun hb => ?_) <;> (first | contradiction | (conv => whnf))) | (refine And.intro (fun hb => ?_) (fun hb => ?_) <;> (first | contradiction | (conv => whnf))) | (refine And.intro (a := (_ : Bool) = true) ?_ ?_; rotate_left 1; (conv => whnf))))
    all_goals (first | rfl | trivial | assumption | exact ht | exact hl3 | exact A.eqv_pf (A.do_0 (by assumption)) | exact A.eqv_pf (A.do_1 (by assumption) (by assumption)) | exact A.eqv_pf (A.do_2 (by assumption) (by assumption) (by assumption)) | exact A.eqv_pt (A.do_3 (by assumption) (by assumption) (by assumption) (by first | rfl | assumption)) | exact A.eqv_pt (A.do_4 (by assumption) (by assumption) (by assumption) (by first | rfl | assumption)))
  · rename_i op off w av am alo ahi asl ash bv bm blo bhi bsl bsh
    intro ht
    have hq := S.and_true2 ht
    have hq1 := hq.1
    have hq2 := hq.2
    have hl1 : R.inS (A.low4 (⟨⟨av, am⟩, ⟨alo, ahi, asl, ash⟩⟩ : Sc)).s = true := A.low4_in hq1
    have hl2 : R.inS (A.low4 (⟨⟨bv, bm⟩, ⟨blo, bhi, bsl, bsh⟩⟩ : Sc)).s = true := A.low4_in hq2
    have hl3 := C.and2 hl1 hl2
    have hm : R.inS (A.made op off false (A.low4 (⟨⟨av, am⟩, ⟨alo, ahi, asl, ash⟩⟩ : Sc)) (A.low4 (⟨⟨bv, bm⟩, ⟨blo, bhi, bsl, bsh⟩⟩ : Sc))).s = true := A.made_in hl1 hl2
    refine ctr_flat (Γ := ⟨[(50, k_AluG), (19, k_cRight), (51, k_amade), (52, k_alow)], eqs, [], [], []⟩) (sv := .tup [scv (A.does op off w (⟨⟨av, am⟩, ⟨alo, ahi, asl, ash⟩⟩ : Sc) (⟨⟨bv, bm⟩, ⟨blo, bhi, bsl, bsh⟩⟩ : Sc)).1, .bool (A.does op off w (⟨⟨av, am⟩, ⟨alo, ahi, asl, ash⟩⟩ : Sc) (⟨⟨bv, bm⟩, ⟨blo, bhi, bsl, bsh⟩⟩ : Sc)).2]) st_Gw ⟨(okCons k_AluG_ok (okCons k_cRight_ok (okCons k_amade_ok (okCons k_alow_ok okNil)))), eqs_ok, okNilB, okNilI, okNilP⟩ Tryz.func23 rfl mixed [(8, 5, [0, 0, 0, 4, 0, 28, 63, 127, 255, 511, 1023])] (by kernel_rfl) 10000 (by rfl) ?_
    (conv => whnf)
    (repeat' (first | (refine step_t (by first | rfl | assumption) ?_; (conv => whnf)) | (refine step_f (by first | rfl | assumption) ?_; (conv => whnf)) | (refine step_nt (by assumption) ?_; (conv => whnf)) | (refine step_nf (by assumption) ?_; (conv => whnf)) | (refine step_n (fun hb => ?_) (fun hb => ?_) <;> (first | contradiction | (conv => whnf))) | (refine And.intro (fun hb => ?_) (fun hb => ?_) <;> (first | contradiction | (conv => whnf))) | (refine And.intro (a := (_ : Bool) = true) ?_ ?_; rotate_left 1; (conv => whnf))))
    all_goals (first | rfl | trivial | assumption | exact ht | exact hl3 | exact A.eqv_pf (A.do_0 (by assumption)) | exact A.eqv_pf (A.do_1 (by assumption) (by assumption)) | exact A.eqv_pf (A.do_2 (by assumption) (by assumption) (by assumption)) | exact A.eqv_pt (A.do_3 (by assumption) (by assumption) (by assumption) (by first | rfl | assumption)) | exact A.eqv_pt (A.do_4 (by assumption) (by assumption) (by assumption) (by first | rfl | assumption)))
  · trivial
end Go.Proofs.YtddcaklgflfkeaaGreatDoor
