import Derived.Test.YtobednfbejcaeaaTX17
namespace Go.Proofs.Ytobednfbejcaeaa
open Go.RowKit Go.Sx
set_option linter.unusedSimpArgs false
set_option linter.unusedVariables false
set_option linter.unnecessarySimpa false
set_option maxRecDepth 100000
set_option maxHeartbeats 4000000
namespace T
theorem does_mul {op : Int} {a b : Tn} (ha : right a = true) (hb : right b = true) (h : op = 32) : doesI op a b = (product a b, true) := by subst h; simp [doesI, opI, ha, hb]
theorem mul_64 {a b : Tn} (h : min (tz a.m) (tz b.m) = 64) : product a b = ⟨a.v * b.v, 0⟩ := by
  rw [mul_low_of h, show (1#64 <<< 64 - 1#64 : BitVec 64) = BitVec.allOnes 64 by decide]
  rw [BitVec.and_allOnes, show (~~~(BitVec.allOnes 64) : BitVec 64) = 0 by decide]
theorem mul_n {a b : Tn} (h : min (tz a.m) (tz b.m) ≠ 64) : product a b = ⟨a.v * b.v &&& (BitVec.ofInt 64 1 <<< (BitVec.ofInt 64 ((min (tz a.m) (tz b.m) : Nat) : Int)).toNat - BitVec.ofInt 64 1), ~~~(BitVec.ofInt 64 1 <<< (BitVec.ofInt 64 ((min (tz a.m) (tz b.m) : Nat) : Int)).toNat - BitVec.ofInt 64 1)⟩ := by
  have h64 : min (tz a.m) (tz b.m) < 64 := by have := tz_le a.m; omega
  rw [one_is h64, mul_low_of rfl]; rfl
theorem low_1 {a : Tn} (h : right a = true) : low a 1 = (⟨a.v &&& (BitVec.ofInt 64 1 <<< (BitVec.ofInt 64 (IntKind.i64.wrap (8 * 1))).toNat - BitVec.ofInt 64 1), a.m &&& (BitVec.ofInt 64 1 <<< (BitVec.ofInt 64 (IntKind.i64.wrap (8 * 1))).toNat - BitVec.ofInt 64 1)⟩, true) := by
  rw [show BitVec.ofInt 64 1 <<< (BitVec.ofInt 64 (IntKind.i64.wrap (8 * 1))).toNat - BitVec.ofInt 64 1 = 255#64 by decide]; simp [low, h]
theorem low_2 {a : Tn} (h : right a = true) : low a 2 = (⟨a.v &&& (BitVec.ofInt 64 1 <<< (BitVec.ofInt 64 (IntKind.i64.wrap (8 * 2))).toNat - BitVec.ofInt 64 1), a.m &&& (BitVec.ofInt 64 1 <<< (BitVec.ofInt 64 (IntKind.i64.wrap (8 * 2))).toNat - BitVec.ofInt 64 1)⟩, true) := by
  rw [show BitVec.ofInt 64 1 <<< (BitVec.ofInt 64 (IntKind.i64.wrap (8 * 2))).toNat - BitVec.ofInt 64 1 = 65535#64 by decide]; simp [low, h]
theorem low_4 {a : Tn} (h : right a = true) : low a 4 = (⟨a.v &&& (BitVec.ofInt 64 1 <<< (BitVec.ofInt 64 (IntKind.i64.wrap (8 * 4))).toNat - BitVec.ofInt 64 1), a.m &&& (BitVec.ofInt 64 1 <<< (BitVec.ofInt 64 (IntKind.i64.wrap (8 * 4))).toNat - BitVec.ofInt 64 1)⟩, true) := by
  rw [show BitVec.ofInt 64 1 <<< (BitVec.ofInt 64 (IntKind.i64.wrap (8 * 4))).toNat - BitVec.ofInt 64 1 = 4294967295#64 by decide]; simp [low, h]
theorem low_8 {a : Tn} (h : right a = true) : low a 8 = (a, true) := by
  unfold low
  rw [if_pos h, if_neg (by decide), if_neg (by decide), if_neg (by decide), if_pos (by decide), show (18446744073709551615#64 : BitVec 64) = BitVec.allOnes 64 by decide, BitVec.and_allOnes, BitVec.and_allOnes]
end T
def k_rOnes : List SV → List Blk → Res := fun args _ => match args with
  | [.agg [.u64 av, .u64 am]] => .ok (.u64 (av ||| am)) []
  | _ => .fail
theorem k_rOnes_ok : CtrOk Try.prog Gw 74 k_rOnes := by
  refine ⟨fun _ _ => by kernel_rfl, fun args M => ?_⟩
  unfold k_rOnes
  split
  · rename_i av am
    refine ctr_flat (Γ := ⟨[], eqs, [], [], []⟩) (sv := .u64 (av ||| am)) st_Gw ⟨okNil, eqs_ok, okNilB, okNilI, okNilP⟩ Try.func74 rfl mixed [] (by kernel_rfl) 10000 (by rfl) ?_
    (conv => whnf)
    (repeat' (first | (refine And.intro (fun hb => ?_) (fun hb => ?_) <;> (first | contradiction | (conv => whnf))) | (refine And.intro ?_ ?_; rotate_left 1; (conv => whnf))))
    all_goals (first | rfl | trivial | (simp_all [eqv, eqv1, eqv2, eqvL1, eqvL2]))
  · trivial
def k_rNoughts : List SV → List Blk → Res := fun args _ => match args with
  | [.agg [.u64 av, .u64 am]] => .ok (.u64 (~~~av)) []
  | _ => .fail
theorem k_rNoughts_ok : CtrOk Try.prog Gw 75 k_rNoughts := by
  refine ⟨fun _ _ => by kernel_rfl, fun args M => ?_⟩
  unfold k_rNoughts
  split
  · rename_i av am
    refine ctr_flat (Γ := ⟨[], eqs, [], [], []⟩) (sv := .u64 (~~~av)) st_Gw ⟨okNil, eqs_ok, okNilB, okNilI, okNilP⟩ Try.func75 rfl mixed [] (by kernel_rfl) 10000 (by rfl) ?_
    (conv => whnf)
    (repeat' (first | (refine And.intro (fun hb => ?_) (fun hb => ?_) <;> (first | contradiction | (conv => whnf))) | (refine And.intro ?_ ?_; rotate_left 1; (conv => whnf))))
    all_goals (first | rfl | trivial | (simp_all [eqv, eqv1, eqv2, eqvL1, eqvL2]))
  · trivial
def k_rMeet : List SV → List Blk → Res := fun args _ => match args with
  | [.agg [.u64 av, .u64 am], .agg [.u64 bv, .u64 bm]] => .ok (.tup [tsv (T.meet ⟨av, am⟩ ⟨bv, bm⟩).1, .bool (T.meet ⟨av, am⟩ ⟨bv, bm⟩).2]) []
  | _ => .fail
theorem k_rMeet_ok : CtrOk Try.prog Gw 44 k_rMeet := by
  refine ⟨fun _ _ => by kernel_rfl, fun args M => ?_⟩
  unfold k_rMeet
  split
  · rename_i av am bv bm
    refine ctr_flat (Γ := ⟨[(71, k_rRight), (74, k_rOnes), (75, k_rNoughts), (76, k_of)], eqs, [], [], []⟩) (sv := .tup [tsv (T.meet ⟨av, am⟩ ⟨bv, bm⟩).1, .bool (T.meet ⟨av, am⟩ ⟨bv, bm⟩).2]) st_Gw ⟨(okCons k_rRight_ok (okCons k_rOnes_ok (okCons k_rNoughts_ok (okCons k_of_ok okNil)))), eqs_ok, okNilB, okNilI, okNilP⟩ Try.func44 rfl mixed [(3, 12, [0, 1, 0, 7, 15, 0, 47, 0, 239, 495, 1023, 2047, 2047, 8191, 16383])] (by kernel_rfl) 10000 (by rfl) ?_
    (conv => whnf)
    (repeat' (first | (refine And.intro (fun hb => ?_) (fun hb => ?_) <;> (first | contradiction | (conv => whnf))) | (refine And.intro ?_ ?_; rotate_left 1; (conv => whnf))))
    all_goals (first | trivial | (simp_all [eqv, eqv1, eqv2, T.meet]; done) | (rw [← T.of_meet (by simp_all) (by simp_all)]; try rfl))
  · trivial
def k_rLow : List SV → List Blk → Res := fun args _ => match args with
  | [.agg [.u64 av, .u64 am], .int .i64 n] => .ok (.tup [tsv (T.low ⟨av, am⟩ n).1, .bool (T.low ⟨av, am⟩ n).2]) []
  | _ => .fail
theorem k_rLow_ok : CtrOk Try.prog Gw 48 k_rLow := by
  refine ⟨fun _ _ => by kernel_rfl, fun args M => ?_⟩
  unfold k_rLow
  split
  · rename_i av am n
    refine ctr_flat (Γ := ⟨[(71, k_rRight)], eqs, [], [], []⟩) (sv := .tup [tsv (T.low ⟨av, am⟩ n).1, .bool (T.low ⟨av, am⟩ n).2]) st_Gw ⟨(okCons k_rRight_ok okNil), eqs_ok, okNilB, okNilI, okNilP⟩ Try.func48 rfl mixed [] (by kernel_rfl) 10000 (by rfl) ?_
    (conv => whnf)
    (repeat' (first | (refine And.intro (fun hb => ?_) (fun hb => ?_) <;> (first | contradiction | (conv => whnf))) | (refine And.intro ?_ ?_; rotate_left 1; (conv => whnf))))
    all_goals (first | trivial | (simp_all [eqv, eqv1, eqv2, T.low]; done) | ((have h1 : n = 1 := by simp_all); subst h1; rw [T.low_1 (by simp_all)]; try rfl) | ((have h1 : n = 2 := by simp_all); subst h1; rw [T.low_2 (by simp_all)]; try rfl) | ((have h1 : n = 4 := by simp_all); subst h1; rw [T.low_4 (by simp_all)]; try rfl) | ((have h1 : n = 8 := by simp_all); subst h1; rw [T.low_8 (by simp_all)]; try rfl))
  · trivial
end Go.Proofs.Ytobednfbejcaeaa
