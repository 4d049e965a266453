import Derived.Test.YtobednfbejcaeaaTX13
import Derived.Test.YtobednfbejcaeaaTnumV
import Derived.Test.YtobednfbejcaeaaTX7
namespace Go.Proofs.Ytobednfbejcaeaa
open Go.RowKit Go.Sx
set_option linter.unusedSimpArgs false
set_option linter.unusedVariables false
set_option linter.unnecessarySimpa false
set_option maxRecDepth 100000
set_option maxHeartbeats 4000000
namespace T
theorem bit_is (n : BitVec 64) (i : Nat) : (((n >>> i) &&& 1#64) == 1#64) = n.getLsbD i := by
  cases h : n.getLsbD i
  · rw [beq_eq_false_iff_ne]; intro e
    have := congrArg (fun x => BitVec.getLsbD x 0) e
    simp [h] at this
  · rw [beq_iff_eq]
    apply BitVec.eq_of_getLsbD_eq
    intro k hk
    by_cases h0 : k = 0
    · subst h0; simp [h]
    · simp [BitVec.getLsbD_one, h0]
theorem ofInt_small {i : Int} (h0 : 0 ≤ i) (h : i < 64) : (BitVec.ofInt 64 i).toNat = i.toNat := by
  rw [BitVec.toNat_ofInt]; omega
end T
def k_rBit : List SV → List Blk → Res := fun args _ => match args with
  | [.u64 n, .int .i64 i] => .test (decide (0 ≤ i) && decide (i < 64)) (.ok (.bool (n.getLsbD i.toNat)) [])
  | _ => .fail
theorem k_rBit_ok : CtrOk Try.prog Gw 100 k_rBit := by
  refine ⟨fun _ _ => by kernel_rfl, fun args M => ?_⟩
  unfold k_rBit
  split
  · rename_i n i
    intro ht
    refine ctr_flat (Γ := ⟨[], eqs, [], [], []⟩) (sv := .bool (n.getLsbD i.toNat)) st_Gw ⟨okNil, eqs_ok, okNilB, okNilI, okNilP⟩ Try.func100 rfl mixed [] (by kernel_rfl) 10000 (by rfl) ?_
    (conv => whnf)
    (repeat' (first | (refine And.intro (fun hb => ?_) (fun hb => ?_) <;> (first | contradiction | (conv => whnf))) | (refine And.intro ?_ ?_; rotate_left 1; (conv => whnf))))
    all_goals (first | trivial | (simp only [Bool.and_eq_true, decide_eq_true_eq] at ht; simp only [eqv, eqv1, T.ofInt_small ht.1 ht.2]; exact T.bit_is _ _))
  · trivial
def k_rMay : List SV → List Blk → Res := fun args _ => match args with
  | [.agg [.u64 av, .u64 am], .int .i64 i, .tt] => .test (decide (0 ≤ i) && decide (i < 64)) (.ok (.bool (T.may ⟨av, am⟩ i.toNat true)) [])
  | [.agg [.u64 av, .u64 am], .int .i64 i, .ff] => .test (decide (0 ≤ i) && decide (i < 64)) (.ok (.bool (T.may ⟨av, am⟩ i.toNat false)) [])
  | [.agg [.u64 av, .u64 am], .int .i64 i, .bool b] => .test (decide (0 ≤ i) && decide (i < 64)) (.ok (.bool (T.may ⟨av, am⟩ i.toNat b)) [])
  | _ => .fail
theorem k_rMay_ok : CtrOk Try.prog Gw 82 k_rMay := by
  refine ⟨fun _ _ => by kernel_rfl, fun args M => ?_⟩
  unfold k_rMay
  split
  · rename_i av am i
    intro ht
    refine ctr_flat (Γ := ⟨[(100, k_rBit)], eqs, [], [], []⟩) (sv := .bool (T.may ⟨av, am⟩ i.toNat true)) st_Gw ⟨(okCons k_rBit_ok okNil), eqs_ok, okNilB, okNilI, okNilP⟩ Try.func82 rfl mixed [] (by kernel_rfl) 10000 (by rfl) ?_
    (conv => whnf)
    (repeat' (first | (refine And.intro (fun hb => ?_) (fun hb => ?_) <;> (first | contradiction | (conv => whnf))) | (refine And.intro ?_ ?_; rotate_left 1; (conv => whnf))))
    all_goals (first | trivial | exact ht | (simp_all [eqv, eqv1, T.may]; done))
  · rename_i av am i
    intro ht
    refine ctr_flat (Γ := ⟨[(100, k_rBit)], eqs, [], [], []⟩) (sv := .bool (T.may ⟨av, am⟩ i.toNat false)) st_Gw ⟨(okCons k_rBit_ok okNil), eqs_ok, okNilB, okNilI, okNilP⟩ Try.func82 rfl mixed [] (by kernel_rfl) 10000 (by rfl) ?_
    (conv => whnf)
    (repeat' (first | (refine And.intro (fun hb => ?_) (fun hb => ?_) <;> (first | contradiction | (conv => whnf))) | (refine And.intro ?_ ?_; rotate_left 1; (conv => whnf))))
    all_goals (first | trivial | exact ht | (simp_all [eqv, eqv1, T.may]; done))
  · rename_i av am i b
    intro ht
    refine ctr_flat (Γ := ⟨[(100, k_rBit)], eqs, [], [], []⟩) (sv := .bool (T.may ⟨av, am⟩ i.toNat b)) st_Gw ⟨(okCons k_rBit_ok okNil), eqs_ok, okNilB, okNilI, okNilP⟩ Try.func82 rfl mixed [] (by kernel_rfl) 10000 (by rfl) ?_
    (conv => whnf)
    (repeat' (first | (refine And.intro (fun hb => ?_) (fun hb => ?_) <;> (first | contradiction | (conv => whnf))) | (refine And.intro ?_ ?_; rotate_left 1; (conv => whnf))))
    all_goals (first | trivial | exact ht | (simp_all [eqv, eqv1, T.may]; done))
  · trivial
def k_rConst : List SV → List Blk → Res := fun args _ => match args with
  | [.u64 n] => .ok (tsv ⟨n, 0⟩) []
  | _ => .fail
theorem k_rConst_ok : CtrOk Try.prog Gw 57 k_rConst := by
  refine ⟨fun _ _ => by kernel_rfl, fun args M => ?_⟩
  unfold k_rConst
  split
  · rename_i n
    refine ctr_flat (Γ := ⟨[], eqs, [], [], []⟩) (sv := tsv ⟨n, 0⟩) st_Gw ⟨okNil, eqs_ok, okNilB, okNilI, okNilP⟩ Try.func57 rfl mixed [] (by kernel_rfl) 10000 (by rfl) ?_
    (conv => whnf)
    (repeat' (first | (refine And.intro (fun hb => ?_) (fun hb => ?_) <;> (first | contradiction | (conv => whnf))) | (refine And.intro ?_ ?_; rotate_left 1; (conv => whnf))))
    all_goals (first | rfl | trivial | (simp_all [eqv, eqv1, eqv2, eqvL1, eqvL2]))
  · trivial
def k_rHas : List SV → List Blk → Res := fun args _ => match args with
  | [.agg [.u64 av, .u64 am], .u64 n] => .ok (.bool (T.has ⟨av, am⟩ n)) []
  | _ => .fail
theorem k_rHas_ok : CtrOk Try.prog Gw 51 k_rHas := by
  refine ⟨fun _ _ => by kernel_rfl, fun args M => ?_⟩
  unfold k_rHas
  split
  · rename_i av am n
    refine ctr_flat (Γ := ⟨[(71, k_rRight)], eqs, [], [], []⟩) (sv := .bool (T.has ⟨av, am⟩ n)) st_Gw ⟨(okCons k_rRight_ok okNil), eqs_ok, okNilB, okNilI, okNilP⟩ Try.func51 rfl mixed [] (by kernel_rfl) 10000 (by rfl) ?_
    (conv => whnf)
    (repeat' (first | (refine And.intro (fun hb => ?_) (fun hb => ?_) <;> (first | contradiction | (conv => whnf))) | (refine And.intro ?_ ?_; rotate_left 1; (conv => whnf))))
    all_goals (first | rfl | trivial | (simp_all [eqv, eqv1, eqv2, eqvL1, eqvL2, T.has]))
  · trivial
end Go.Proofs.Ytobednfbejcaeaa
