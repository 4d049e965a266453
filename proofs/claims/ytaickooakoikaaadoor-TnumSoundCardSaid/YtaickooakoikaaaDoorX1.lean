import Derived.Test.YtaickooakoikaaaDoorXL
namespace Go.Proofs.YtaickooakoikaaaDoor
open Go.RowKit Go.Sx
set_option linter.unusedSimpArgs false
set_option linter.unusedVariables false
set_option linter.unnecessarySimpa false
set_option maxRecDepth 100000
set_option maxHeartbeats 4000000
theorem ite_min (a b : Nat) : (if (b : Int) < (a : Int) then (b : Int) else (a : Int)) = ((min a b : Nat) : Int) := by split <;> omega
theorem allOnes64 : (18446744073709551615#64 : BitVec 64) = BitVec.allOnes 64 := by decide
def k_known : List SV → List Blk → Res := fun args _ => match args with
  | [.agg [.u64 av, .u64 am]] => .ok (.bool (T.right ⟨av, am⟩)) []
  | _ => .fail
theorem k_known_ok : CtrOk Tryd.prog Gw 42 k_known := by
  refine ⟨fun _ _ => by kernel_rfl, fun args M => ?_⟩
  unfold k_known
  split
  · rename_i av am
    refine ctr_flat (Γ := ⟨[], eqs, [], [], []⟩) (sv := .bool (T.right ⟨av, am⟩)) st_Gw ⟨okNil, eqs_ok, okNilB, okNilI, okNilP⟩ Tryd.func42 rfl mixed [] (by kernel_rfl) 10000 (by rfl) ?_
    (conv => whnf)
    (repeat' (first | (refine And.intro (fun hb => ?_) (fun hb => ?_) <;> (first | contradiction | (conv => whnf))) | (refine And.intro ?_ ?_; rotate_left 1; (conv => whnf))))
    all_goals (first | rfl | trivial | (simp_all [eqv, eqv1, eqv2, eqvL1, eqvL2]))
  · trivial
def k_Right : List SV → List Blk → Res := fun args _ => match args with
  | [.agg [.u64 av, .u64 am]] => .ok (.bool (T.right ⟨av, am⟩)) []
  | _ => .fail
theorem k_Right_ok : CtrOk Tryd.prog Gw 12 k_Right := by
  refine ⟨fun _ _ => by kernel_rfl, fun args M => ?_⟩
  unfold k_Right
  split
  · rename_i av am
    refine ctr_flat (Γ := ⟨[(42, k_known)], eqs, [], [], []⟩) (sv := .bool (T.right ⟨av, am⟩)) st_Gw ⟨(okCons k_known_ok okNil), eqs_ok, okNilB, okNilI, okNilP⟩ Tryd.func12 rfl mixed [] (by kernel_rfl) 10000 (by rfl) ?_
    (conv => whnf)
    (repeat' (first | (refine And.intro (fun hb => ?_) (fun hb => ?_) <;> (first | contradiction | (conv => whnf))) | (refine And.intro ?_ ?_; rotate_left 1; (conv => whnf))))
    all_goals (first | rfl | trivial | (simp_all [eqv, eqv1, eqv2, eqvL1, eqvL2]))
  · trivial
def k_Const : List SV → List Blk → Res := fun args _ => match args with
  | [.u64 n] => .ok (tsv ⟨n, 0⟩) []
  | _ => .fail
theorem k_Const_ok : CtrOk Tryd.prog Gw 14 k_Const := by
  refine ⟨fun _ _ => by kernel_rfl, fun args M => ?_⟩
  unfold k_Const
  split
  · rename_i n
    refine ctr_flat (Γ := ⟨[], eqs, [], [], []⟩) (sv := tsv ⟨n, 0⟩) st_Gw ⟨okNil, eqs_ok, okNilB, okNilI, okNilP⟩ Tryd.func14 rfl mixed [] (by kernel_rfl) 10000 (by rfl) ?_
    (conv => whnf)
    (repeat' (first | (refine And.intro (fun hb => ?_) (fun hb => ?_) <;> (first | contradiction | (conv => whnf))) | (refine And.intro ?_ ?_; rotate_left 1; (conv => whnf))))
    all_goals (first | rfl | trivial | (simp_all [eqv, eqv1, eqv2, eqvL1, eqvL2]))
  · trivial
def k_Unknown : List SV → List Blk → Res := fun args _ => match args with
  | [] => .ok (tsv ⟨0, BitVec.allOnes 64⟩) []
  | _ => .fail
theorem k_Unknown_ok : CtrOk Tryd.prog Gw 32 k_Unknown := by
  refine ⟨fun _ _ => by kernel_rfl, fun args M => ?_⟩
  unfold k_Unknown
  split
  · refine ctr_flat (Γ := ⟨[], eqs, [], [], []⟩) (sv := tsv ⟨0, BitVec.allOnes 64⟩) st_Gw ⟨okNil, eqs_ok, okNilB, okNilI, okNilP⟩ Tryd.func32 rfl mixed [] (by kernel_rfl) 10000 (by rfl) ?_
    (conv => whnf)
    (repeat' (first | (refine And.intro (fun hb => ?_) (fun hb => ?_) <;> (first | contradiction | (conv => whnf))) | (refine And.intro ?_ ?_; rotate_left 1; (conv => whnf))))
    all_goals (first | rfl | trivial | (simp_all [eqv, eqv1, eqv2, eqvL1, eqvL2]))
  · trivial
def k_Has : List SV → List Blk → Res := fun args _ => match args with
  | [.agg [.u64 av, .u64 am], .u64 n] => .ok (.bool (T.has ⟨av, am⟩ n)) []
  | _ => .fail
theorem k_Has_ok : CtrOk Tryd.prog Gw 17 k_Has := by
  refine ⟨fun _ _ => by kernel_rfl, fun args M => ?_⟩
  unfold k_Has
  split
  · rename_i av am n
    refine ctr_flat (Γ := ⟨[(12, k_Right)], eqs, [], [], []⟩) (sv := .bool (T.has ⟨av, am⟩ n)) st_Gw ⟨(okCons k_Right_ok okNil), eqs_ok, okNilB, okNilI, okNilP⟩ Tryd.func17 rfl mixed [] (by kernel_rfl) 10000 (by rfl) ?_
    (conv => whnf)
    (repeat' (first | (refine And.intro (fun hb => ?_) (fun hb => ?_) <;> (first | contradiction | (conv => whnf))) | (refine And.intro ?_ ?_; rotate_left 1; (conv => whnf))))
    all_goals (first | rfl | trivial | (simp_all [eqv, eqv1, eqv2, eqvL1, eqvL2, T.has]))
  · trivial
def k_Leq : List SV → List Blk → Res := fun args _ => match args with
  | [.agg [.u64 av, .u64 am], .agg [.u64 bv, .u64 bm]] => .ok (.bool (T.leq ⟨av, am⟩ ⟨bv, bm⟩)) []
  | _ => .fail
theorem k_Leq_ok : CtrOk Tryd.prog Gw 19 k_Leq := by
  refine ⟨fun _ _ => by kernel_rfl, fun args M => ?_⟩
  unfold k_Leq
  split
  · rename_i av am bv bm
    refine ctr_flat (Γ := ⟨[(12, k_Right)], eqs, [], [], []⟩) (sv := .bool (T.leq ⟨av, am⟩ ⟨bv, bm⟩)) st_Gw ⟨(okCons k_Right_ok okNil), eqs_ok, okNilB, okNilI, okNilP⟩ Tryd.func19 rfl mixed [] (by kernel_rfl) 10000 (by rfl) ?_
    (conv => whnf)
    (repeat' (first | (refine And.intro (fun hb => ?_) (fun hb => ?_) <;> (first | contradiction | (conv => whnf))) | (refine And.intro ?_ ?_; rotate_left 1; (conv => whnf))))
    all_goals (first | rfl | trivial | (simp_all [eqv, eqv1, eqv2, eqvL1, eqvL2, T.leq]))
  · trivial
def k_Meet : List SV → List Blk → Res := fun args _ => match args with
  | [.agg [.u64 av, .u64 am], .agg [.u64 bv, .u64 bm]] => .ok (.tup [tsv (T.meet ⟨av, am⟩ ⟨bv, bm⟩).1, .bool (T.meet ⟨av, am⟩ ⟨bv, bm⟩).2]) []
  | _ => .fail
theorem k_Meet_ok : CtrOk Tryd.prog Gw 20 k_Meet := by
  refine ⟨fun _ _ => by kernel_rfl, fun args M => ?_⟩
  unfold k_Meet
  split
  · rename_i av am bv bm
    refine ctr_flat (Γ := ⟨[(12, k_Right)], eqs, [], [], []⟩) (sv := .tup [tsv (T.meet ⟨av, am⟩ ⟨bv, bm⟩).1, .bool (T.meet ⟨av, am⟩ ⟨bv, bm⟩).2]) st_Gw ⟨(okCons k_Right_ok okNil), eqs_ok, okNilB, okNilI, okNilP⟩ Tryd.func20 rfl mixed [] (by kernel_rfl) 10000 (by rfl) ?_
    (conv => whnf)
    (repeat' (first | (refine And.intro (fun hb => ?_) (fun hb => ?_) <;> (first | contradiction | (conv => whnf))) | (refine And.intro ?_ ?_; rotate_left 1; (conv => whnf))))
    all_goals (first | rfl | trivial | (simp_all [eqv, eqv1, eqv2, eqvL1, eqvL2, T.meet]))
  · trivial
def k_sum : List SV → List Blk → Res := fun args _ => match args with
  | [.agg [.u64 av, .u64 am, .u64 bv, .u64 bm]] => .ok (tsv (T.sum ⟨av, am⟩ ⟨bv, bm⟩)) []
  | _ => .fail
theorem k_sum_ok : CtrOk Tryd.prog Gw 43 k_sum := by
  refine ⟨fun _ _ => by kernel_rfl, fun args M => ?_⟩
  unfold k_sum
  split
  · rename_i av am bv bm
    refine ctr_flat (Γ := ⟨[], eqs, [], [], []⟩) (sv := tsv (T.sum ⟨av, am⟩ ⟨bv, bm⟩)) st_Gw ⟨okNil, eqs_ok, okNilB, okNilI, okNilP⟩ Tryd.func43 rfl mixed [] (by kernel_rfl) 10000 (by rfl) ?_
    (conv => whnf)
    (repeat' (first | (refine And.intro (fun hb => ?_) (fun hb => ?_) <;> (first | contradiction | (conv => whnf))) | (refine And.intro ?_ ?_; rotate_left 1; (conv => whnf))))
    all_goals (first | rfl | trivial | (simp_all [eqv, eqv1, eqv2, eqvL1, eqvL2, T.sum]))
  · trivial
def k_difference : List SV → List Blk → Res := fun args _ => match args with
  | [.agg [.u64 av, .u64 am, .u64 bv, .u64 bm]] => .ok (tsv (T.difference ⟨av, am⟩ ⟨bv, bm⟩)) []
  | _ => .fail
theorem k_difference_ok : CtrOk Tryd.prog Gw 44 k_difference := by
  refine ⟨fun _ _ => by kernel_rfl, fun args M => ?_⟩
  unfold k_difference
  split
  · rename_i av am bv bm
    refine ctr_flat (Γ := ⟨[], eqs, [], [], []⟩) (sv := tsv (T.difference ⟨av, am⟩ ⟨bv, bm⟩)) st_Gw ⟨okNil, eqs_ok, okNilB, okNilI, okNilP⟩ Tryd.func44 rfl mixed [] (by kernel_rfl) 10000 (by rfl) ?_
    (conv => whnf)
    (repeat' (first | (refine And.intro (fun hb => ?_) (fun hb => ?_) <;> (first | contradiction | (conv => whnf))) | (refine And.intro ?_ ?_; rotate_left 1; (conv => whnf))))
    all_goals (first | rfl | trivial | (simp_all [eqv, eqv1, eqv2, eqvL1, eqvL2, T.difference]))
  · trivial
def k_and : List SV → List Blk → Res := fun args _ => match args with
  | [.agg [.u64 av, .u64 am, .u64 bv, .u64 bm]] => .ok (tsv (T.and ⟨av, am⟩ ⟨bv, bm⟩)) []
  | _ => .fail
theorem k_and_ok : CtrOk Tryd.prog Gw 45 k_and := by
  refine ⟨fun _ _ => by kernel_rfl, fun args M => ?_⟩
  unfold k_and
  split
  · rename_i av am bv bm
    refine ctr_flat (Γ := ⟨[], eqs, [], [], []⟩) (sv := tsv (T.and ⟨av, am⟩ ⟨bv, bm⟩)) st_Gw ⟨okNil, eqs_ok, okNilB, okNilI, okNilP⟩ Tryd.func45 rfl mixed [] (by kernel_rfl) 10000 (by rfl) ?_
    (conv => whnf)
    (repeat' (first | (refine And.intro (fun hb => ?_) (fun hb => ?_) <;> (first | contradiction | (conv => whnf))) | (refine And.intro ?_ ?_; rotate_left 1; (conv => whnf))))
    all_goals (first | rfl | trivial | (simp_all [eqv, eqv1, eqv2, eqvL1, eqvL2, T.and]))
  · trivial
def k_or : List SV → List Blk → Res := fun args _ => match args with
  | [.agg [.u64 av, .u64 am, .u64 bv, .u64 bm]] => .ok (tsv (T.or ⟨av, am⟩ ⟨bv, bm⟩)) []
  | _ => .fail
theorem k_or_ok : CtrOk Tryd.prog Gw 46 k_or := by
  refine ⟨fun _ _ => by kernel_rfl, fun args M => ?_⟩
  unfold k_or
  split
  · rename_i av am bv bm
    refine ctr_flat (Γ := ⟨[], eqs, [], [], []⟩) (sv := tsv (T.or ⟨av, am⟩ ⟨bv, bm⟩)) st_Gw ⟨okNil, eqs_ok, okNilB, okNilI, okNilP⟩ Tryd.func46 rfl mixed [] (by kernel_rfl) 10000 (by rfl) ?_
    (conv => whnf)
    (repeat' (first | (refine And.intro (fun hb => ?_) (fun hb => ?_) <;> (first | contradiction | (conv => whnf))) | (refine And.intro ?_ ?_; rotate_left 1; (conv => whnf))))
    all_goals (first | rfl | trivial | (simp_all [eqv, eqv1, eqv2, eqvL1, eqvL2, T.or]))
  · trivial
def k_xor : List SV → List Blk → Res := fun args _ => match args with
  | [.agg [.u64 av, .u64 am, .u64 bv, .u64 bm]] => .ok (tsv (T.xor ⟨av, am⟩ ⟨bv, bm⟩)) []
  | _ => .fail
theorem k_xor_ok : CtrOk Tryd.prog Gw 47 k_xor := by
  refine ⟨fun _ _ => by kernel_rfl, fun args M => ?_⟩
  unfold k_xor
  split
  · rename_i av am bv bm
    refine ctr_flat (Γ := ⟨[], eqs, [], [], []⟩) (sv := tsv (T.xor ⟨av, am⟩ ⟨bv, bm⟩)) st_Gw ⟨okNil, eqs_ok, okNilB, okNilI, okNilP⟩ Tryd.func47 rfl mixed [] (by kernel_rfl) 10000 (by rfl) ?_
    (conv => whnf)
    (repeat' (first | (refine And.intro (fun hb => ?_) (fun hb => ?_) <;> (first | contradiction | (conv => whnf))) | (refine And.intro ?_ ?_; rotate_left 1; (conv => whnf))))
    all_goals (first | rfl | trivial | (simp_all [eqv, eqv1, eqv2, eqvL1, eqvL2, T.xor]))
  · trivial
def k_join2 : List SV → List Blk → Res := fun args _ => match args with
  | [.agg [.u64 av, .u64 am], .agg [.u64 bv, .u64 bm]] => .ok (tsv (T.join2 ⟨av, am⟩ ⟨bv, bm⟩)) []
  | _ => .fail
theorem k_join2_ok : CtrOk Tryd.prog Gw 38 k_join2 := by
  refine ⟨fun _ _ => by kernel_rfl, fun args M => ?_⟩
  unfold k_join2
  split
  · rename_i av am bv bm
    refine ctr_flat (Γ := ⟨[], eqs, [], [], []⟩) (sv := tsv (T.join2 ⟨av, am⟩ ⟨bv, bm⟩)) st_Gw ⟨okNil, eqs_ok, okNilB, okNilI, okNilP⟩ Tryd.func38 rfl mixed [] (by kernel_rfl) 10000 (by rfl) ?_
    (conv => whnf)
    (repeat' (first | (refine And.intro (fun hb => ?_) (fun hb => ?_) <;> (first | contradiction | (conv => whnf))) | (refine And.intro ?_ ?_; rotate_left 1; (conv => whnf))))
    all_goals (first | rfl | trivial | (simp_all [eqv, eqv1, eqv2, eqvL1, eqvL2, T.join2]))
  · trivial
def k_product : List SV → List Blk → Res := fun args _ => match args with
  | [.agg [.u64 av, .u64 am, .u64 bv, .u64 bm]] => .ok (tsv (T.product ⟨av, am⟩ ⟨bv, bm⟩)) []
  | _ => .fail
theorem k_product_ok : CtrOk Tryd.prog Gw 48 k_product := by
  refine ⟨fun _ _ => by kernel_rfl, fun args M => ?_⟩
  unfold k_product
  split
  · rename_i av am bv bm
    refine ctr_flat (Γ := ⟨[(62, k_tz)], eqs, [], [], []⟩) (sv := tsv (T.product ⟨av, am⟩ ⟨bv, bm⟩)) st_Gw ⟨(okCons k_tz_ok okNil), eqs_ok, okNilB, okNilI, okNilP⟩ Tryd.func48 rfl mixed [(1, 7, [0, 1, 3, 7, 0, 16, 48, 127, 255, 511])] (by kernel_rfl) 10000 (by rfl) ?_
    (conv => whnf)
    (repeat' (first | (refine And.intro (fun hb => ?_) (fun hb => ?_) <;> (first | contradiction | (conv => whnf))) | (refine And.intro ?_ ?_; rotate_left 1; (conv => whnf))))
    all_goals (first | trivial | (simp only [ite_min]; exact decide_eq_true (by omega)) | (simp only [eqv1, T.product, ite_min, Int.toNat_natCast]; rfl))
  · trivial
def k_Range : List SV → List Blk → Res := fun args _ => match args with
  | [.u64 lo, .u64 hi] => .ok (tsv (T.range lo hi)) []
  | _ => .fail
theorem k_Range_ok : CtrOk Tryd.prog Gw 16 k_Range := by
  refine ⟨fun _ _ => by kernel_rfl, fun args M => ?_⟩
  unfold k_Range
  split
  · rename_i lo hi
    refine ctr_flat (Γ := ⟨[(49, k_lz), (32, k_Unknown)], eqs, [], [], []⟩) (sv := tsv (T.range lo hi)) st_Gw ⟨(okCons k_lz_ok (okCons k_Unknown_ok okNil)), eqs_ok, okNilB, okNilI, okNilP⟩ Tryd.func16 rfl mixed [] (by kernel_rfl) 10000 (by rfl) ?_
    (conv => whnf)
    (repeat' (first | (refine And.intro (fun hb => ?_) (fun hb => ?_) <;> (first | contradiction | (conv => whnf))) | (refine And.intro ?_ ?_; rotate_left 1; (conv => whnf))))
    all_goals (first | trivial | (simp only [lz_nonneg, decide_true]; done) | (simp only [decide_eq_true_eq, decide_eq_false_iff_not, beq_iff_eq, beq_eq_false_iff_ne, ne_eq] at *; simp only [eqv1, T.range, lz_toNat]; first | (rw [if_pos (by assumption)]; done) | (rw [if_pos (by assumption)]; rfl) | (rw [if_neg (by assumption), if_pos (by assumption)]; rfl) | (rw [if_neg (by assumption), if_neg (by assumption)]; rfl)))
  · trivial
end Go.Proofs.YtaickooakoikaaaDoor
