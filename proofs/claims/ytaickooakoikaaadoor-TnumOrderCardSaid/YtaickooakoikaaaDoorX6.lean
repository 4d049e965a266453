import Derived.Test.YtaickooakoikaaaDoorTnumP
import Derived.Test.YtaickooakoikaaaDoorX5
namespace Go.Proofs.YtaickooakoikaaaDoor
open Go.RowKit Go.Sx
set_option linter.unusedSimpArgs false
set_option linter.unusedVariables false
set_option linter.unnecessarySimpa false
set_option maxRecDepth 100000
set_option maxHeartbeats 4000000
namespace T
theorem nope {c : Bool} (h : c = true) (h' : c = false) : true = false := h.symm.trans h'
@[reducible] def eqT (a b : Tn) : Bool := a.v == b.v && (a.m == b.m && true)
theorem eqT_of {a b : Tn} (h : a = b) : eqT a b = true := by subst h; simp [eqT]
theorem of_eqT {a b : Tn} (h : eqT a b = true) : a = b := by
  cases a; cases b; simp [eqT] at h; simp [h.1, h.2]
theorem o1 {a b : Tn} (ha : right a = true) (hb : right b = true) : leq a (join [a, b]) = true := by rw [join_two ha hb]; exact join2_left ha hb
theorem o2 {a b : Tn} (ha : right a = true) (hb : right b = true) : leq b (join [a, b]) = true := by rw [join_two ha hb]; exact join2_right ha hb
theorem o3 {a b : Tn} (ha : right a = true) (hb : right b = true) : eqT (join [a, b]) (join [b, a]) = true := eqT_of (by rw [join_two ha hb, join_two hb ha, join2_comm])
theorem o4 {a b : Tn} (ha : right a = true) (hb : right b = true) : (leq a b == eqT (join [a, b]) b) = true := by
  cases h : leq a b with
  | true => rw [eqT_of (by rw [join_two ha hb, join2_of_leq h])]; rfl
  | false =>
    cases h' : eqT (join [a, b]) b with
    | false => rfl
    | true => have := o1 ha hb; rw [of_eqT h', h] at this; cases this
theorem o5 {a b c : Tn} (ha : right a = true) (hb : right b = true) (h1 : leq a c = true) (h2 : leq b c = true) : leq (join [a, b]) c = true := by rw [join_two ha hb]; exact join2_least h1 h2
theorem o6 {a b : Tn} {n : BitVec 64} (ha : right a = true) (hb : right b = true) (h1 : has a n = true) (h2 : (meet a b).2 = true) : (has b n == has (meet a b).1 n) = true := by
  have := meet_has ha hb n; rw [h1, h2] at this; simpa using this
theorem o7 {a b : Tn} {n : BitVec 64} (ha : right a = true) (hb : right b = true) (h1 : has a n = true) (h2 : (meet a b).2 = false) : (has b n == false) = true := by
  have := meet_has ha hb n; rw [h1, h2] at this; simpa using this
theorem o8 {a b : Tn} {n : BitVec 64} (ha : right a = true) (hb : right b = true) (h1 : has a n = false) (h2 : (meet a b).2 = true) : (false == has (meet a b).1 n) = true := by
  have := meet_has ha hb n; rw [h1, h2] at this; simpa using this
theorem o9 {a b : Tn} (ha : right a = true) (hb : right b = true) (h : (meet a b).2 = true) : leq (meet a b).1 a = true := (meet_leq ha hb h).1
theorem o10 {a b : Tn} (ha : right a = true) (hb : right b = true) (h : (meet a b).2 = true) : leq (meet a b).1 b = true := (meet_leq ha hb h).2
theorem o11 {a b : Tn} (h1 : leq a b = true) (h2 : leq b a = true) : eqT a b = true := eqT_of (leq_antisymm h1 h2)
end T
attribute [local irreducible] T.leq T.has T.meet T.join T.join2 T.rt T.right
def k_TnumOrder : List SV → List Blk → Res := fun args _ => match args with
  | [.u64 av, .u64 am, .u64 bv, .u64 bm, .u64 cv, .u64 cm, .u64 n] => .ok (.bool true) []
  | _ => .fail
set_option maxHeartbeats 0 in
theorem k_TnumOrder_ok : CtrOk Tryd.prog Gw 6 k_TnumOrder := by
  refine ⟨fun _ _ => by kernel_rfl, fun args M => ?_⟩
  unfold k_TnumOrder
  split
  · rename_i av am bv bm cv cm n
    have ha := T.right_rt av am
    have hb0 := T.right_rt bv bm
    have hAA := T.leq_refl ha
    have hAJ := T.o1 ha hb0
    have hBJ := T.o2 ha hb0
    have hJJ := T.o3 ha hb0
    have hE := T.o4 ha hb0
    have h11 := @T.o11 (T.rt av am) (T.rt bv bm)
    have h5 := @T.o5 (T.rt av am) (T.rt bv bm) (T.rt cv cm) ha hb0
    have hTr := @T.leq_trans (T.rt av am) (T.rt bv bm) (T.rt cv cm)
    have h6 := @T.o6 (T.rt av am) (T.rt bv bm) n ha hb0
    have h7 := @T.o7 (T.rt av am) (T.rt bv bm) n ha hb0
    have h8 := @T.o8 (T.rt av am) (T.rt bv bm) n ha hb0
    have h9 := @T.o9 (T.rt av am) (T.rt bv bm) ha hb0
    have h10 := @T.o10 (T.rt av am) (T.rt bv bm) ha hb0
    have hH := @T.leq_has (T.rt av am) (T.rt bv bm) n
    refine ctr_flat (Γ := ⟨[(9, k_awake), (18, k_right17), (10, k_Join), (20, k_Meet), (19, k_Leq), (17, k_Has)], eqs, []⟩) (sv := .bool true) st_Gw ⟨(okCons k_awake_ok (okCons k_right17_ok (okCons k_Join_ok (okCons k_Meet_ok (okCons k_Leq_ok (okCons k_Has_ok okNil)))))), eqs_ok, okNilB⟩ Tryd.func6 rfl mixed [(8, 32, [0, 0, 3, 7, 15, 31, 31, 127, 255, 511, 1023, 2047, 2047, 8191, 16383, 32767, 32767, 131071, 262143, 524287, 1048575, 1048575, 4194303, 8388607, 16777215, 33554431, 67108863, 134217727, 134217727, 134217727, 939524095, 2013265919, 4294967295, 8589934591]), (13, 21, [0, 0, 3, 0, 0, 24, 63, 127, 255, 255, 1023, 2047, 4095, 8191, 8191, 32767, 65535, 131071, 262143, 524287, 524287, 2097151, 4194303, 8388607, 16777215])] (by kernel_rfl) 10000 (by rfl) ?_
    (conv => whnf)
    (repeat' (first | (refine step_t (by first | rfl | assumption | exact h11 (by assumption) (by assumption) | exact h5 (by first | assumption | exact hTr (by assumption) (by assumption)) (by assumption) | exact hTr (by assumption) (by assumption) | exact h6 (by assumption) (by assumption) | exact h7 (by assumption) (by assumption) | exact h8 (by assumption) (by assumption) | exact h9 (by assumption) | exact h10 (by assumption)) ?_; (conv => whnf)) | (refine step_f (by first | rfl | assumption) ?_; (conv => whnf)) | (refine step_nt (by first | assumption | exact h11 (by assumption) (by assumption) | exact h5 (by first | assumption | exact hTr (by assumption) (by assumption)) (by assumption) | exact hTr (by assumption) (by assumption) | exact h6 (by assumption) (by assumption) | exact h7 (by assumption) (by assumption) | exact h8 (by assumption) (by assumption) | exact h9 (by assumption) | exact h10 (by assumption)) ?_; (conv => whnf)) | (refine step_nf (by assumption) ?_; (conv => whnf)) | (refine step_n (fun hb => ?_) (fun hb => ?_) <;> (first | contradiction | (conv => whnf))) | (refine And.intro (fun hb => ?_) (fun hb => ?_) <;> (first | contradiction | (conv => whnf))) | (refine And.intro ?_ ?_; rotate_left 1; (conv => whnf))))
    all_goals (first | rfl | exact hH (by assumption) (by assumption) | exact T.nope (hTr (by assumption) (by assumption)) (by assumption) | exact T.nope (h11 (by assumption) (by assumption)) (by assumption))
  · trivial
theorem w_TnumOrder (x0 x1 x2 x3 x4 x5 x6 : BitVec 64) (w : World) (hT : Tab w) :
    Calls Tryd.prog 6 #[.int .u64 (uv x0), .int .u64 (uv x1), .int .u64 (uv x2), .int .u64 (uv x3), .int .u64 (uv x4), .int .u64 (uv x5), .int .u64 (uv x6)] w (Ret w (.bool true)) := by
  have h := k_TnumOrder_ok.2 [.u64 x0, .u64 x1, .u64 x2, .u64 x3, .u64 x4, .u64 x5, .u64 x6] []
  refine (h ⟨w.heap.size, []⟩ (fun _ => none) w hT (MRel.nil _ (Nat.le_refl _))).mono ?_
  rintro e w' ⟨ρ', v, rfl, hv, _, hbel, _⟩
  exact ⟨by rw [hv (by simp)]; rfl, grow_mk hbel⟩
end Go.Proofs.YtaickooakoikaaaDoor
