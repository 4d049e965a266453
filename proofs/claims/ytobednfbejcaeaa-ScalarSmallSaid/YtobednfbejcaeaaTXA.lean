import Derived.Test.YtobednfbejcaeaaX0
import Derived.Test.YtobednfbejcaeaaSxL
namespace Go.Proofs.Ytobednfbejcaeaa
open Go.RowKit Go.Sx
set_option linter.unusedSimpArgs false
set_option linter.unusedVariables false
set_option linter.unnecessarySimpa false
set_option maxRecDepth 100000
set_option maxHeartbeats 4000000
end Go.Proofs.Ytobednfbejcaeaa
namespace Go.Proofs.Ytobednfbejcaeaa
open Go.RowKit Go.Sx
set_option linter.unusedSimpArgs false
set_option linter.unusedVariables false
set_option linter.unnecessarySimpa false
set_option maxRecDepth 100000
set_option maxHeartbeats 4000000
theorem ite_min (a b : Nat) : (if (b : Int) < (a : Int) then (b : Int) else (a : Int)) = ((min a b : Nat) : Int) := by split <;> omega
theorem allOnes64 : (18446744073709551615#64 : BitVec 64) = BitVec.allOnes 64 := by decide
def k_known : List SV → List Blk → Res := fun args _ => match args with
  | [.agg [.u64 av, .u64 am]] => .ok (.bool (T.right ⟨av, am⟩)) []
  | _ => .fail
theorem k_known_ok : CtrOk Try.prog Gw 63 k_known := by
  refine ⟨fun _ _ => by kernel_rfl, fun args M => ?_⟩
  unfold k_known
  split
  · rename_i av am
    refine ctr_flat (Γ := ⟨[], eqs, [], [], []⟩) (sv := .bool (T.right ⟨av, am⟩)) st_Gw ⟨okNil, eqs_ok, okNilB, okNilI, okNilP⟩ Try.func63 rfl mixed [] (by kernel_rfl) 10000 (by rfl) ?_
    (conv => whnf)
    (repeat' (first | (refine And.intro (fun hb => ?_) (fun hb => ?_) <;> (first | contradiction | (conv => whnf))) | (refine And.intro ?_ ?_; rotate_left 1; (conv => whnf))))
    all_goals (first | rfl | trivial | (simp_all [eqv, eqv1, eqv2, eqvL1, eqvL2]))
  · trivial
def k_Right : List SV → List Blk → Res := fun args _ => match args with
  | [.agg [.u64 av, .u64 am]] => .ok (.bool (T.right ⟨av, am⟩)) []
  | _ => .fail
theorem k_Right_ok : CtrOk Try.prog Gw 34 k_Right := by
  refine ⟨fun _ _ => by kernel_rfl, fun args M => ?_⟩
  unfold k_Right
  split
  · rename_i av am
    refine ctr_flat (Γ := ⟨[(63, k_known)], eqs, [], [], []⟩) (sv := .bool (T.right ⟨av, am⟩)) st_Gw ⟨(okCons k_known_ok okNil), eqs_ok, okNilB, okNilI, okNilP⟩ Try.func34 rfl mixed [] (by kernel_rfl) 10000 (by rfl) ?_
    (conv => whnf)
    (repeat' (first | (refine And.intro (fun hb => ?_) (fun hb => ?_) <;> (first | contradiction | (conv => whnf))) | (refine And.intro ?_ ?_; rotate_left 1; (conv => whnf))))
    all_goals (first | rfl | trivial | (simp_all [eqv, eqv1, eqv2, eqvL1, eqvL2]))
  · trivial
def k_Const : List SV → List Blk → Res := fun args _ => match args with
  | [.u64 n] => .ok (tsv ⟨n, 0⟩) []
  | _ => .fail
theorem k_Const_ok : CtrOk Try.prog Gw 55 k_Const := by
  refine ⟨fun _ _ => by kernel_rfl, fun args M => ?_⟩
  unfold k_Const
  split
  · rename_i n
    refine ctr_flat (Γ := ⟨[], eqs, [], [], []⟩) (sv := tsv ⟨n, 0⟩) st_Gw ⟨okNil, eqs_ok, okNilB, okNilI, okNilP⟩ Try.func55 rfl mixed [] (by kernel_rfl) 10000 (by rfl) ?_
    (conv => whnf)
    (repeat' (first | (refine And.intro (fun hb => ?_) (fun hb => ?_) <;> (first | contradiction | (conv => whnf))) | (refine And.intro ?_ ?_; rotate_left 1; (conv => whnf))))
    all_goals (first | rfl | trivial | (simp_all [eqv, eqv1, eqv2, eqvL1, eqvL2]))
  · trivial
def k_Unknown : List SV → List Blk → Res := fun args _ => match args with
  | [] => .ok (tsv ⟨0, BitVec.allOnes 64⟩) []
  | _ => .fail
theorem k_Unknown_ok : CtrOk Try.prog Gw 47 k_Unknown := by
  refine ⟨fun _ _ => by kernel_rfl, fun args M => ?_⟩
  unfold k_Unknown
  split
  · refine ctr_flat (Γ := ⟨[], eqs, [], [], []⟩) (sv := tsv ⟨0, BitVec.allOnes 64⟩) st_Gw ⟨okNil, eqs_ok, okNilB, okNilI, okNilP⟩ Try.func47 rfl mixed [] (by kernel_rfl) 10000 (by rfl) ?_
    (conv => whnf)
    (repeat' (first | (refine And.intro (fun hb => ?_) (fun hb => ?_) <;> (first | contradiction | (conv => whnf))) | (refine And.intro ?_ ?_; rotate_left 1; (conv => whnf))))
    all_goals (first | rfl | trivial | (simp_all [eqv, eqv1, eqv2, eqvL1, eqvL2]))
  · trivial
def k_Has : List SV → List Blk → Res := fun args _ => match args with
  | [.agg [.u64 av, .u64 am], .u64 n] => .ok (.bool (T.has ⟨av, am⟩ n)) []
  | _ => .fail
theorem k_Has_ok : CtrOk Try.prog Gw 29 k_Has := by
  refine ⟨fun _ _ => by kernel_rfl, fun args M => ?_⟩
  unfold k_Has
  split
  · rename_i av am n
    refine ctr_flat (Γ := ⟨[(34, k_Right)], eqs, [], [], []⟩) (sv := .bool (T.has ⟨av, am⟩ n)) st_Gw ⟨(okCons k_Right_ok okNil), eqs_ok, okNilB, okNilI, okNilP⟩ Try.func29 rfl mixed [] (by kernel_rfl) 10000 (by rfl) ?_
    (conv => whnf)
    (repeat' (first | (refine And.intro (fun hb => ?_) (fun hb => ?_) <;> (first | contradiction | (conv => whnf))) | (refine And.intro ?_ ?_; rotate_left 1; (conv => whnf))))
    all_goals (first | rfl | trivial | (simp_all [eqv, eqv1, eqv2, eqvL1, eqvL2, T.has]))
  · trivial
def k_Leq : List SV → List Blk → Res := fun args _ => match args with
  | [.agg [.u64 av, .u64 am], .agg [.u64 bv, .u64 bm]] => .ok (.bool (T.leq ⟨av, am⟩ ⟨bv, bm⟩)) []
  | _ => .fail
theorem k_Leq_ok : CtrOk Try.prog Gw 31 k_Leq := by
  refine ⟨fun _ _ => by kernel_rfl, fun args M => ?_⟩
  unfold k_Leq
  split
  · rename_i av am bv bm
    refine ctr_flat (Γ := ⟨[(34, k_Right)], eqs, [], [], []⟩) (sv := .bool (T.leq ⟨av, am⟩ ⟨bv, bm⟩)) st_Gw ⟨(okCons k_Right_ok okNil), eqs_ok, okNilB, okNilI, okNilP⟩ Try.func31 rfl mixed [] (by kernel_rfl) 10000 (by rfl) ?_
    (conv => whnf)
    (repeat' (first | (refine And.intro (fun hb => ?_) (fun hb => ?_) <;> (first | contradiction | (conv => whnf))) | (refine And.intro ?_ ?_; rotate_left 1; (conv => whnf))))
    all_goals (first | rfl | trivial | (simp_all [eqv, eqv1, eqv2, eqvL1, eqvL2, T.leq]))
  · trivial
def k_Meet : List SV → List Blk → Res := fun args _ => match args with
  | [.agg [.u64 av, .u64 am], .agg [.u64 bv, .u64 bm]] => .ok (.tup [tsv (T.meet ⟨av, am⟩ ⟨bv, bm⟩).1, .bool (T.meet ⟨av, am⟩ ⟨bv, bm⟩).2]) []
  | _ => .fail
theorem k_Meet_ok : CtrOk Try.prog Gw 42 k_Meet := by
  refine ⟨fun _ _ => by kernel_rfl, fun args M => ?_⟩
  unfold k_Meet
  split
  · rename_i av am bv bm
    refine ctr_flat (Γ := ⟨[(34, k_Right)], eqs, [], [], []⟩) (sv := .tup [tsv (T.meet ⟨av, am⟩ ⟨bv, bm⟩).1, .bool (T.meet ⟨av, am⟩ ⟨bv, bm⟩).2]) st_Gw ⟨(okCons k_Right_ok okNil), eqs_ok, okNilB, okNilI, okNilP⟩ Try.func42 rfl mixed [] (by kernel_rfl) 10000 (by rfl) ?_
    (conv => whnf)
    (repeat' (first | (refine And.intro (fun hb => ?_) (fun hb => ?_) <;> (first | contradiction | (conv => whnf))) | (refine And.intro ?_ ?_; rotate_left 1; (conv => whnf))))
    all_goals (first | rfl | trivial | (simp_all [eqv, eqv1, eqv2, eqvL1, eqvL2, T.meet]))
  · trivial
def k_join2 : List SV → List Blk → Res := fun args _ => match args with
  | [.agg [.u64 av, .u64 am], .agg [.u64 bv, .u64 bm]] => .ok (tsv (T.join2 ⟨av, am⟩ ⟨bv, bm⟩)) []
  | _ => .fail
theorem k_join2_ok : CtrOk Try.prog Gw 66 k_join2 := by
  refine ⟨fun _ _ => by kernel_rfl, fun args M => ?_⟩
  unfold k_join2
  split
  · rename_i av am bv bm
    refine ctr_flat (Γ := ⟨[], eqs, [], [], []⟩) (sv := tsv (T.join2 ⟨av, am⟩ ⟨bv, bm⟩)) st_Gw ⟨okNil, eqs_ok, okNilB, okNilI, okNilP⟩ Try.func66 rfl mixed [] (by kernel_rfl) 10000 (by rfl) ?_
    (conv => whnf)
    (repeat' (first | (refine And.intro (fun hb => ?_) (fun hb => ?_) <;> (first | contradiction | (conv => whnf))) | (refine And.intro ?_ ?_; rotate_left 1; (conv => whnf))))
    all_goals (first | rfl | trivial | (simp_all [eqv, eqv1, eqv2, eqvL1, eqvL2, T.join2]))
  · trivial
def k_Range : List SV → List Blk → Res := fun args _ => match args with
  | [.u64 lo, .u64 hi] => .ok (tsv (T.range lo hi)) []
  | _ => .fail
theorem k_Range_ok : CtrOk Try.prog Gw 91 k_Range := by
  refine ⟨fun _ _ => by kernel_rfl, fun args M => ?_⟩
  unfold k_Range
  split
  · rename_i lo hi
    refine ctr_flat (Γ := ⟨[(104, k_lz), (47, k_Unknown)], eqs, [], [], []⟩) (sv := tsv (T.range lo hi)) st_Gw ⟨(okCons k_lz_ok (okCons k_Unknown_ok okNil)), eqs_ok, okNilB, okNilI, okNilP⟩ Try.func91 rfl mixed [] (by kernel_rfl) 10000 (by rfl) ?_
    (conv => whnf)
    (repeat' (first | (refine And.intro (fun hb => ?_) (fun hb => ?_) <;> (first | contradiction | (conv => whnf))) | (refine And.intro ?_ ?_; rotate_left 1; (conv => whnf))))
    all_goals (first | trivial | (simp only [lz_nonneg, decide_true]; done) | (simp only [decide_eq_true_eq, decide_eq_false_iff_not, beq_iff_eq, beq_eq_false_iff_ne, ne_eq] at *; simp only [eqv1, T.range, lz_toNat]; first | (rw [if_pos (by assumption)]; done) | (rw [if_pos (by assumption)]; rfl) | (rw [if_neg (by assumption), if_pos (by assumption)]; rfl) | (rw [if_neg (by assumption), if_neg (by assumption)]; rfl)))
  · trivial
end Go.Proofs.Ytobednfbejcaeaa
namespace Go.Proofs.Ytobednfbejcaeaa
open Go.RowKit Go.Sx
set_option linter.unusedSimpArgs false
set_option linter.unusedVariables false
set_option linter.unnecessarySimpa false
set_option maxRecDepth 100000
set_option maxHeartbeats 4000000
namespace T
/-- What an operation of two comes to, by its number. -/
def opI (op : Int) (a b : Tn) : Tn × Bool := if op == 0 then (T.sum a b, true) else if op == 16 then (T.difference a b, true) else if op == 80 then (T.and a b, true) else if op == 64 then (T.or a b, true) else if op == 160 then (T.xor a b, true) else if op == 32 then (T.product a b, true) else (⟨0, 0⟩, false)
def doesI (op : Int) (a b : Tn) : Tn × Bool := if right a && right b then opI op a b else (⟨0, 0⟩, false)
end T
end Go.Proofs.Ytobednfbejcaeaa
namespace Go.Proofs.Ytobednfbejcaeaa
open Go.RowKit Go.Sx
set_option linter.unusedSimpArgs false
set_option linter.unusedVariables false
set_option linter.unnecessarySimpa false
set_option maxRecDepth 100000
set_option maxHeartbeats 4000000
def eT : Enc Tn := ⟨fun t => [.u64 t.v, .u64 t.m], fun l => match l with | [.u64 v, .u64 m] => ⟨v, m⟩ | _ => ⟨0, 0⟩, fun l => match l with | [.u64 _, .u64 _] => true | _ => false, ⟨0, 0⟩,
  fun l h => by revert h; split <;> simp_all, fun _ => rfl, fun _ => rfl⟩
namespace T
def foldT (no : Tn) (L : List Tn) : Tn := match L with
  | [] => no
  | t :: r => r.foldl T.join2 t
end T
theorem wrap_succ {j : Nat} (h : j < 1000000000000) : IntKind.i64.wrap ((j : Int) + 1) = ((j + 1 : Nat) : Int) := by
  rw [IntWalk.i64_in _ (by omega)]; omega
theorem fold_nil (nv nm : BitVec 64) : run Try.prog ⟨[(66, k_join2)], eqs, [], [], []⟩ 10000 [(6, 6, [0, 0, 0, 4, 12, 0, 62, 127, 255])] 0 (bodyOf Try.f65) (initF Try.f65 [.sl 0 2 0 0, .fn (.func 66) [] [], .agg [.u64 nv, .u64 nm]]) [.own 25 2 0 (gOf eT [])] (retK Try.prog Try.f65 fun x _ => eqv x (tsv (T.foldT ⟨nv, nm⟩ []))) := by
  (conv => whnf)
  (repeat' (first | (refine And.intro (fun hb => ?_) (fun hb => ?_) <;> (first | contradiction | (conv => whnf))) | (refine And.intro ?_ ?_; rotate_left 1; (conv => whnf))))
  all_goals first | rfl | trivial | simp_all
theorem fold_cons (t : Tn) (r : List Tn) (nv nm : BitVec 64) (hL : r.length < 1000000000000) : run Try.prog ⟨[(66, k_join2)], eqs, [], [], []⟩ 10000 [(6, 6, [0, 0, 0, 4, 12, 0, 62, 127, 255])] 0 (bodyOf Try.f65) (initF Try.f65 [.sl 0 2 0 (r.length + 1), .fn (.func 66) [] [], .agg [.u64 nv, .u64 nm]]) [.own 25 2 (r.length + 1) (gOf eT (t :: r))] (retK Try.prog Try.f65 fun x _ => eqv x (tsv (T.foldT ⟨nv, nm⟩ (t :: r)))) := by
  (conv => whnf)
  (repeat' (first | (refine And.intro (fun hb => ?_) (fun hb => ?_) <;> (first | contradiction | (conv => whnf))) | (refine And.intro ?_ ?_; rotate_left 1; (conv => whnf))))
  all_goals try (first | rfl | trivial | (simp; done) | (simp; omega) | (simp at hb ⊢; omega) | (simp only [decide_eq_true_eq, Bool.and_eq_true, Int.toNat_natCast] at *; omega))
  · refine .inr ⟨[], [0, 1, 6, 14, 15, 16], fun k vals M => ∃ j : Nat, j ≤ r.length ∧ k = r.length - j ∧ vals = [.sl 0 2 0 (r.length + 1), .fn (.func 66) [] [], .ptr 2 0, .sl 0 2 (0 + Int.toNat 1) (r.length + 1 - Int.toNat 1), .int .i64 ((r.length + 1 - Int.toNat 1 : Nat) : Int), .int .i64 (j : Int)] ∧ M = [.own 25 2 (r.length + 1) (gOf eT ((r.take j).foldl T.join2 t :: r)), .dead, .cells 25 [.u64 (BitVec.ofInt 64 0), .u64 (BitVec.ofInt 64 0)]], ?_⟩
    conv => whnf
    refine And.intro ⟨r.length, _, mle_cons ble_refl (mle_cons ble_dead (mle_cons ble_refl mle_nil)), rfl, rfl, 0, by omega, by omega, rfl, rfl⟩ ?_
    rintro k vals M1 ⟨j, hj, rfl, rfl, rfl⟩
    (conv => whnf)
    (repeat' (first | (refine And.intro (fun hb => ?_) (fun hb => ?_) <;> (first | contradiction | (conv => whnf))) | (refine And.intro ?_ ?_; rotate_left 1; (conv => whnf))))
    all_goals try (first | rfl | trivial | (simp; done) | (simp; omega) | (simp at hb ⊢; omega) | (simp only [decide_eq_true_eq, Bool.and_eq_true, Int.toNat_natCast] at *; omega))
    · have hlt : j < r.length := by simp at hb; omega
      have e : (r.take (j + 1)).foldl T.join2 t = T.join2 ((r.take j).foldl T.join2 t) r[j] := by rw [List.take_succ_eq_append_getElem hlt, List.foldl_append]; rfl
      refine ⟨r.length - (j + 1), [.own 25 2 (r.length + 1) (gOf eT ((r.take (j + 1)).foldl T.join2 t :: r)), .dead, .cells 25 [.u64 (BitVec.ofInt 64 0), .u64 (BitVec.ofInt 64 0)]], [0, 1, 2], by omega, rfl, mle_cons (ble_own rfl fun i hi => ?_) (mle_cons ble_dead (mle_cons ble_refl mle_nil)), rfl, rfl, j + 1, by omega, rfl, ?_, rfl⟩
      · rw [e]
        exact gSet_gOf eT (L := (r.take j).foldl T.join2 t :: r) (i := 0) (a := T.join2 ((r.take j).foldl T.join2 t) r[j]) (by simp) (by simp [eT, List.getD_eq_getElem?_getD, hlt, Nat.add_comm 1 j]) (by simp [eT]) i hi
      · rw [← wrap_succ (by omega)]; rfl
    · have : j = r.length := by simp at hb; omega
      subst this
      simp [eqv1, T.foldT]
    · have : j = r.length := by simp at hb; omega
      subst this
      simp [eqv1, T.foldT]
  · have hr : r = [] := by cases r with
      | nil => rfl
      | cons a r => simp at hb
    subst hr
    refine .inr ⟨[], [0, 6, 15, 16], fun k vals M => k = 0 ∧ vals = [.sl 0 2 0 1, .ptr 2 0, .int .i64 0, .int .i64 0] ∧ M = [.own 25 2 1 (gOf eT [t]), .dead, .cells 25 [.u64 (BitVec.ofInt 64 0), .u64 (BitVec.ofInt 64 0)]], ?_⟩
    conv => whnf
    refine And.intro ⟨0, _, mle_cons ble_refl (mle_cons ble_dead (mle_cons ble_refl mle_nil)), rfl, rfl, rfl, rfl, rfl⟩ ?_
    rintro k vals M1 ⟨rfl, rfl, rfl⟩
    (conv => whnf)
    (repeat' (first | (refine And.intro (fun hb => ?_) (fun hb => ?_) <;> (first | contradiction | (conv => whnf))) | (refine And.intro ?_ ?_; rotate_left 1; (conv => whnf))))
    all_goals try (first | rfl | trivial | (simp; done) | (simp; omega) | (simp at hb ⊢; omega) | (simp only [decide_eq_true_eq, Bool.and_eq_true, Int.toNat_natCast] at *; omega))
    all_goals first | (simp at hb; done) | (simp [eqv1, T.foldT]; done)

def k_fold : List SV → List Blk → BRes := fun args M => match args with
  | [.sl k sz 0 len, .fn (.func 66) [] [], .agg [.u64 nv, .u64 nm]] => match nth M k with
    | some (.own ty sz' m g) => match Nat.beq ty 25 && (Nat.beq sz 2 && Nat.beq sz' 2) with
      | true => .test (decide (len = m) && (allIs eT 0 m g && decide (m < 1000000000000))) (.ok (tsv (T.foldT ⟨nv, nm⟩ (elts eT 0 m g))) (M.set k .dead))
      | false => .fail
    | _ => .fail
  | _ => .fail
theorem fold_run (L : List Tn) (nv nm : BitVec 64) (hL : L.length < 1000000000000) : run Try.prog ⟨[(66, k_join2)], eqs, [], [], []⟩ 10000 [(6, 6, [0, 0, 0, 4, 12, 0, 62, 127, 255])] 0 (bodyOf Try.f65) (initF Try.f65 [.sl 0 2 0 L.length, .fn (.func 66) [] [], .agg [.u64 nv, .u64 nm]]) [.own 25 2 L.length (gOf eT L)] (retK Try.prog Try.f65 fun x _ => eqv x (tsv (T.foldT ⟨nv, nm⟩ L))) := by
  cases L with
  | nil => exact fold_nil nv nm
  | cons t r => exact fold_cons t r nv nm (by simp at hL; omega)
theorem k_fold_ok : BCtrOk Try.prog Gw 65 k_fold := by
  refine ⟨fun _ _ => by kernel_rfl, fun args M => ?_⟩
  unfold k_fold
  split
  · rename_i k sz len nv nm
    split
    · rename_i ty sz' m g hk
      split
      · rename_i hb
        simp only [Bool.and_eq_true] at hb
        obtain rfl := Nat.eq_of_beq_eq_true hb.1
        obtain rfl := Nat.eq_of_beq_eq_true hb.2.1
        obtain rfl := Nat.eq_of_beq_eq_true hb.2.2
        intro ht
        simp only [Bool.and_eq_true, decide_eq_true_eq] at ht
        obtain ⟨rfl, h1, h2⟩ := ht
        have hr := fold_run (elts eT 0 len g) nv nm (by rw [elts_length]; exact h2)
        rw [elts_length] at hr
        exact bctr_own (Γ := ⟨[(66, k_join2)], eqs, [], [], []⟩) ⟨(okCons k_join2_ok okNil), eqs_ok, okNilB, okNilI, okNilP⟩ Try.func65 rfl mixed [(6, 6, [0, 0, 0, 4, 12, 0, 62, 127, 255])] (by kernel_rfl) 10000 (by rw [← nth_eq]; exact hk) (fun i hi => by rw [gOf_elts eT h1 i hi, Nat.zero_add]) rfl hr
      · trivial
    · trivial
  · trivial
end Go.Proofs.Ytobednfbejcaeaa
namespace Go.Proofs.Ytobednfbejcaeaa
open Go.RowKit Go.Sx
set_option linter.unusedSimpArgs false
set_option linter.unusedVariables false
set_option linter.unnecessarySimpa false
set_option maxRecDepth 100000
set_option maxHeartbeats 4000000
theorem getD_lt {L : List Tn} {j : Nat} (h : j < L.length) : L.getD (0 + ((j : Int)).toNat) eT.dft = L[j] := by simp [List.getD_eq_getElem?_getD, h]
theorem filter_le (L : List Tn) (j : Nat) : ((L.take j).filter T.right).length ≤ L.length := by
  have h1 := List.length_filter_le T.right (L.take j)
  simp at h1; omega
theorem filter_yes {L : List Tn} {j : Nat} (h : j < L.length) (hr : T.right L[j] = true) : (L.take (j + 1)).filter T.right = (L.take j).filter T.right ++ [L[j]] := by
  rw [List.take_succ_eq_append_getElem h, List.filter_append]; simp [hr]
theorem filter_no {L : List Tn} {j : Nat} (h : j < L.length) (hr : T.right L[j] = false) : (L.take (j + 1)).filter T.right = (L.take j).filter T.right := by
  rw [List.take_succ_eq_append_getElem h, List.filter_append]; simp [hr]
theorem join_eq (L : List Tn) : T.foldT ⟨0, BitVec.allOnes 64⟩ (L.filter T.right) = T.join L := by unfold T.foldT T.join; rfl

theorem join_run (L : List Tn) (hL : L.length < 1000000000000) : run Try.prog ⟨[(34, k_Right), (47, k_Unknown)], eqs, [(65, k_fold)], [], []⟩ 10000 [] 0 (bodyOf Try.f37) (initF Try.f37 [.sl 0 2 0 L.length]) [.ro 2 L.length (gOf eT L)] (retK Try.prog Try.f37 fun x _ => eqv x (tsv (T.join L))) := by
  (conv => whnf)
  (repeat' (first | (refine And.intro (fun hb => ?_) (fun hb => ?_) <;> (first | contradiction | (conv => whnf))) | (refine And.intro ?_ ?_; rotate_left 1; (conv => whnf))))
  refine .inr ⟨[(3, 25, 2)], [2, 3, 6, 7, 8], fun k vals M => ∃ j : Nat, j ≤ L.length ∧ k = L.length - j ∧ vals = [.ptr 1 0, .sl 2 2 0 ((L.take j).filter T.right).length, .sl 0 2 0 L.length, .int .i64 (L.length : Int), .int .i64 (j : Int)] ∧ M = [.ro 2 L.length (gOf eT L), .cells 25 [.u64 (BitVec.ofInt 64 0), .u64 (BitVec.ofInt 64 0)], .own 25 2 ((L.take j).filter T.right).length (gOf eT ((L.take j).filter T.right))], ?_⟩
  conv => whnf
  refine And.intro ⟨L.length, [.ro 2 L.length (gOf eT L), .cells 25 [.u64 (BitVec.ofInt 64 0), .u64 (BitVec.ofInt 64 0)], .own 25 2 0 (gOf eT [])], mle_cons ble_refl (mle_cons ble_refl (mle_cons (ble_own rfl fun i hi => absurd hi (Nat.not_lt_zero i)) mle_nil)), rfl, rfl, 0, by omega, by omega, rfl, rfl⟩ ?_
  rintro k vals M1 ⟨j, hj, rfl, rfl, rfl⟩
  (conv => whnf)
  (repeat' (first | (refine And.intro (fun hb => ?_) (fun hb => ?_) <;> (first | contradiction | (conv => whnf))) | (refine And.intro ?_ ?_; rotate_left 1; (conv => whnf))))
  all_goals try (first | rfl | trivial | (simp; done) | (simp; omega) | (simp at hb ⊢; omega) | (simp only [decide_eq_true_eq, Bool.and_eq_true, Int.toNat_natCast] at *; omega))
  · have hlt : j < L.length := by simpa using ‹decide ((j : Int) < (L.length : Int)) = true›
    rw [getD_lt hlt] at hb
    have e := filter_yes hlt hb
    refine ⟨L.length - (j + 1), [.ro 2 L.length (gOf eT L), .cells 25 [.u64 (BitVec.ofInt 64 0), .u64 (BitVec.ofInt 64 0)], .own 25 2 ((L.take (j + 1)).filter T.right).length (gOf eT ((L.take (j + 1)).filter T.right))], [0, 1, 5], by omega, rfl, mle_cons ble_refl (mle_cons ble_refl (mle_cons (ble_own (by rw [e]; simp) fun i hi => ?_) mle_nil)), rfl, rfl, j + 1, by omega, rfl, ?_, rfl⟩
    · rw [e] at hi ⊢
      exact gOf_snoc eT _ _ _ (by rw [getD_lt hlt]; rfl) i (by simpa using hi)
    · rw [← wrap_succ (by omega), show ((L.take (j + 1)).filter T.right).length = ((L.take j).filter T.right).length + 1 by rw [e]; simp]; rfl
  · have h1 := filter_le L j
    have h2 : Try.prog.types[25]!.bytes = 16 := by kernel_rfl
    rw [decide_eq_true_eq]
    exact ⟨by show (_ + 1) * Try.prog.types[25]!.bytes ≤ _; rw [h2]; omega, by omega⟩
  · have hlt : j < L.length := by simpa using ‹decide ((j : Int) < (L.length : Int)) = true›
    rw [getD_lt hlt] at hb
    have e := filter_no hlt hb
    refine ⟨L.length - (j + 1), [.ro 2 L.length (gOf eT L), .cells 25 [.u64 (BitVec.ofInt 64 0), .u64 (BitVec.ofInt 64 0)], .own 25 2 ((L.take (j + 1)).filter T.right).length (gOf eT ((L.take (j + 1)).filter T.right))], [0, 1, 2], by omega, rfl, mle_cons ble_refl (mle_cons ble_refl (mle_cons (ble_own (by rw [e]) fun i hi => by rw [e]) mle_nil)), rfl, rfl, j + 1, by omega, rfl, ?_, rfl⟩
    rw [← wrap_succ (by omega), e]; rfl
  all_goals
    have hj2 : j = L.length := by simp at hb; omega
    subst hj2
    simp only [List.take_length]
  · rw [elts_all, join_eq]; rfl
  · rw [elts_all, join_eq]; rfl
  · have := filter_le L L.length
    simp only [List.take_length] at this
    simp [allIs_gOf]; omega

def k_Join : List SV → List Blk → Res := fun args M => match args with
  | [.sl b sz off len] => match eltB (nth M b) with
    | some (sz', m, g) => match Nat.beq sz 2 && Nat.beq sz' 2 with
      | true => .test (decide (off + len ≤ m) && (allIs eT off len g && decide (len < 1000000000000))) (.ok (tsv (T.join (elts eT off len g))) [])
      | false => .fail
    | _ => .fail
  | _ => .fail
theorem k_Join_ok : CtrOk Try.prog Gw 37 k_Join := by
  refine ⟨fun _ _ => by kernel_rfl, fun args M => ?_⟩
  unfold k_Join
  split
  · rename_i b sz off len
    split
    · rename_i sz' m g hk
      split
      · rename_i hb
        simp only [Bool.and_eq_true] at hb
        obtain rfl := Nat.eq_of_beq_eq_true hb.1
        obtain rfl := Nat.eq_of_beq_eq_true hb.2
        intro ht
        simp only [Bool.and_eq_true, decide_eq_true_eq] at ht
        obtain ⟨hle, h1, h2⟩ := ht
        have hr := join_run (elts eT off len g) (by rw [elts_length]; exact h2)
        rw [elts_length] at hr
        exact ctr_row (Γ := ⟨[(34, k_Right), (47, k_Unknown)], eqs, [(65, k_fold)], [], []⟩) st_Gw ⟨(okCons k_Right_ok (okCons k_Unknown_ok okNil)), eqs_ok, (okConsB k_fold_ok okNilB), okNilI, okNilP⟩ Try.func37 rfl mixed [] (by kernel_rfl) 10000 hk hle (gOf_elts eT h1) rfl hr
      · trivial
    · trivial
  · trivial
end Go.Proofs.Ytobednfbejcaeaa
namespace Go.Proofs.Ytobednfbejcaeaa
open Go.RowKit Go.Sx
set_option linter.unusedSimpArgs false
set_option linter.unusedVariables false
set_option linter.unnecessarySimpa false
set_option maxRecDepth 100000
set_option maxHeartbeats 4000000
namespace T
def rt (v m : BitVec 64) : Tn := ⟨v &&& ~~~m, m⟩
theorem right_rt (v m : BitVec 64) : right (rt v m) = true := by unfold right rt; simp [BitVec.and_assoc]
end T
end Go.Proofs.Ytobednfbejcaeaa
namespace Go.Proofs.Ytobednfbejcaeaa
open Go.RowKit Go.Sx
set_option linter.unusedSimpArgs false
set_option linter.unusedVariables false
set_option linter.unnecessarySimpa false
set_option maxRecDepth 100000
set_option maxHeartbeats 4000000
namespace T
def of (x y : BitVec 64) : Tn × Bool := if x ||| y != BitVec.allOnes 64 then (⟨0, 0⟩, false) else (⟨x &&& ~~~y, x &&& y⟩, true)
end T
def k_rRight : List SV → List Blk → Res := fun args _ => match args with
  | [.agg [.u64 av, .u64 am]] => .ok (.bool (T.right ⟨av, am⟩)) []
  | _ => .fail
theorem k_rRight_ok : CtrOk Try.prog Gw 71 k_rRight := by
  refine ⟨fun _ _ => by kernel_rfl, fun args M => ?_⟩
  unfold k_rRight
  split
  · rename_i av am
    refine ctr_flat (Γ := ⟨[], eqs, [], [], []⟩) (sv := .bool (T.right ⟨av, am⟩)) st_Gw ⟨okNil, eqs_ok, okNilB, okNilI, okNilP⟩ Try.func71 rfl mixed [] (by kernel_rfl) 10000 (by rfl) ?_
    (conv => whnf)
    (repeat' (first | (refine And.intro (fun hb => ?_) (fun hb => ?_) <;> (first | contradiction | (conv => whnf))) | (refine And.intro ?_ ?_; rotate_left 1; (conv => whnf))))
    all_goals (first | rfl | trivial | (simp_all [eqv, eqv1, eqv2, eqvL1, eqvL2]))
  · trivial
def k_rUnknown : List SV → List Blk → Res := fun args _ => match args with
  | [] => .ok (tsv ⟨0, BitVec.allOnes 64⟩) []
  | _ => .fail
theorem k_rUnknown_ok : CtrOk Try.prog Gw 50 k_rUnknown := by
  refine ⟨fun _ _ => by kernel_rfl, fun args M => ?_⟩
  unfold k_rUnknown
  split
  · refine ctr_flat (Γ := ⟨[], eqs, [], [], []⟩) (sv := tsv ⟨0, BitVec.allOnes 64⟩) st_Gw ⟨okNil, eqs_ok, okNilB, okNilI, okNilP⟩ Try.func50 rfl mixed [] (by kernel_rfl) 10000 (by rfl) ?_
    (conv => whnf)
    (repeat' (first | (refine And.intro (fun hb => ?_) (fun hb => ?_) <;> (first | contradiction | (conv => whnf))) | (refine And.intro ?_ ?_; rotate_left 1; (conv => whnf))))
    all_goals (first | rfl | trivial | (simp_all [eqv, eqv1, eqv2, eqvL1, eqvL2]))
  · trivial
def k_ones : List SV → List Blk → Res := fun args _ => match args with
  | [.agg [.u64 av, .u64 am]] => .ok (.u64 (av ||| am)) []
  | _ => .fail
theorem k_ones_ok : CtrOk Try.prog Gw 74 k_ones := by
  refine ⟨fun _ _ => by kernel_rfl, fun args M => ?_⟩
  unfold k_ones
  split
  · rename_i av am
    refine ctr_flat (Γ := ⟨[], eqs, [], [], []⟩) (sv := .u64 (av ||| am)) st_Gw ⟨okNil, eqs_ok, okNilB, okNilI, okNilP⟩ Try.func74 rfl mixed [] (by kernel_rfl) 10000 (by rfl) ?_
    (conv => whnf)
    (repeat' (first | (refine And.intro (fun hb => ?_) (fun hb => ?_) <;> (first | contradiction | (conv => whnf))) | (refine And.intro ?_ ?_; rotate_left 1; (conv => whnf))))
    all_goals (first | rfl | trivial | (simp_all [eqv, eqv1, eqv2, eqvL1, eqvL2]))
  · trivial
def k_noughts : List SV → List Blk → Res := fun args _ => match args with
  | [.agg [.u64 av, .u64 am]] => .ok (.u64 (~~~av)) []
  | _ => .fail
theorem k_noughts_ok : CtrOk Try.prog Gw 75 k_noughts := by
  refine ⟨fun _ _ => by kernel_rfl, fun args M => ?_⟩
  unfold k_noughts
  split
  · rename_i av am
    refine ctr_flat (Γ := ⟨[], eqs, [], [], []⟩) (sv := .u64 (~~~av)) st_Gw ⟨okNil, eqs_ok, okNilB, okNilI, okNilP⟩ Try.func75 rfl mixed [] (by kernel_rfl) 10000 (by rfl) ?_
    (conv => whnf)
    (repeat' (first | (refine And.intro (fun hb => ?_) (fun hb => ?_) <;> (first | contradiction | (conv => whnf))) | (refine And.intro ?_ ?_; rotate_left 1; (conv => whnf))))
    all_goals (first | rfl | trivial | (simp_all [eqv, eqv1, eqv2, eqvL1, eqvL2]))
  · trivial
def k_of : List SV → List Blk → Res := fun args _ => match args with
  | [.u64 x, .u64 y] => .ok (.tup [tsv (T.of x y).1, .bool (T.of x y).2]) []
  | _ => .fail
theorem k_of_ok : CtrOk Try.prog Gw 76 k_of := by
  refine ⟨fun _ _ => by kernel_rfl, fun args M => ?_⟩
  unfold k_of
  split
  · rename_i x y
    refine ctr_flat (Γ := ⟨[], eqs, [], [], []⟩) (sv := .tup [tsv (T.of x y).1, .bool (T.of x y).2]) st_Gw ⟨okNil, eqs_ok, okNilB, okNilI, okNilP⟩ Try.func76 rfl mixed [] (by kernel_rfl) 10000 (by rfl) ?_
    (conv => whnf)
    (repeat' (first | (refine And.intro (fun hb => ?_) (fun hb => ?_) <;> (first | contradiction | (conv => whnf))) | (refine And.intro ?_ ?_; rotate_left 1; (conv => whnf))))
    all_goals (first | rfl | trivial | (simp_all [eqv, eqv1, eqv2, eqvL1, eqvL2, T.of]))
  · trivial
def bsv (b : Bool) : SV := match b with
  | true => .ff
  | false => .tt
namespace T
def jx (L : List Tn) : BitVec 64 := (L.filter T.right).foldl (fun x t => x ||| (t.v ||| t.m)) 0
def jy (L : List Tn) : BitVec 64 := (L.filter T.right).foldl (fun x t => x ||| ~~~t.v) 0
def rjoin (L : List Tn) : Tn := if (L.filter T.right).isEmpty then ⟨0, BitVec.allOnes 64⟩ else (T.of (T.jx L) (T.jy L)).1
end T
theorem jx_yes {L : List Tn} {j : Nat} (h : j < L.length) (hr : T.right L[j] = true) : T.jx (L.take (j + 1)) = T.jx (L.take j) ||| (L[j].v ||| L[j].m) := by
  unfold T.jx; rw [filter_yes h hr, List.foldl_append]; rfl
theorem jy_yes {L : List Tn} {j : Nat} (h : j < L.length) (hr : T.right L[j] = true) : T.jy (L.take (j + 1)) = T.jy (L.take j) ||| ~~~L[j].v := by
  unfold T.jy; rw [filter_yes h hr, List.foldl_append]; rfl
theorem jx_no {L : List Tn} {j : Nat} (h : j < L.length) (hr : T.right L[j] = false) : T.jx (L.take (j + 1)) = T.jx (L.take j) := by unfold T.jx; rw [filter_no h hr]
theorem jy_no {L : List Tn} {j : Nat} (h : j < L.length) (hr : T.right L[j] = false) : T.jy (L.take (j + 1)) = T.jy (L.take j) := by unfold T.jy; rw [filter_no h hr]
theorem rjoin_run (L : List Tn) (hL : L.length < 1000000000000) : run Try.prog ⟨[(71, k_rRight), (50, k_rUnknown), (74, k_ones), (75, k_noughts), (76, k_of)], eqs, [], [], []⟩ 10000 [] 0 (bodyOf Try.f40) (initF Try.f40 [.sl 0 2 0 L.length]) [.ro 2 L.length (gOf eT L)] (retK Try.prog Try.f40 fun x _ => eqv x (tsv (T.rjoin L))) := by
  (conv => whnf)
  (repeat' (first | (refine And.intro (fun hb => ?_) (fun hb => ?_) <;> (first | contradiction | (conv => whnf))) | (refine And.intro ?_ ?_; rotate_left 1; (conv => whnf))))
  refine .inr ⟨[], [0, 2, 3, 4, 5, 6], fun k vals M => ∃ j : Nat, j ≤ L.length ∧ k = L.length - j ∧ vals = [.sl 0 2 0 L.length, .ptr 1 0, bsv ((L.take j).filter T.right).isEmpty, .u64 (T.jx (L.take j)), .u64 (T.jy (L.take j)), .int .i64 (j : Int)] ∧ M = [.ro 2 L.length (gOf eT L), .cells 25 [.u64 (BitVec.ofInt 64 0), .u64 (BitVec.ofInt 64 0)]], ?_⟩
  conv => whnf
  refine And.intro ⟨L.length, [.ro 2 L.length (gOf eT L), .cells 25 [.u64 (BitVec.ofInt 64 0), .u64 (BitVec.ofInt 64 0)]], mle_cons ble_refl (mle_cons ble_refl mle_nil), rfl, rfl, 0, by omega, by omega, rfl, rfl⟩ ?_
  rintro k vals M1 ⟨j, hj, rfl, rfl, rfl⟩
  generalize hs : ((L.take j).filter T.right).isEmpty = s
  cases s
  all_goals try simp only [bsv]
  · (conv => whnf)
    (repeat' (first | (refine And.intro (fun hb => ?_) (fun hb => ?_) <;> (first | contradiction | (conv => whnf))) | (refine And.intro ?_ ?_; rotate_left 1; (conv => whnf))))
    all_goals try (first | rfl | trivial | (simp; done) | (simp; omega) | (simp at hb ⊢; omega) | (simp only [decide_eq_true_eq, Bool.and_eq_true, Int.toNat_natCast] at *; omega))
    · have hlt : j < L.length := by simpa using ‹decide ((j : Int) < (L.length : Int)) = true›
      rw [getD_lt hlt] at hb
      refine ⟨L.length - (j + 1), [.ro 2 L.length (gOf eT L), .cells 25 [.u64 (BitVec.ofInt 64 0), .u64 (BitVec.ofInt 64 0)]], [0, 1], by omega, rfl, mle_cons ble_refl (mle_cons ble_refl mle_nil), rfl, rfl, j + 1, by omega, rfl, ?_, rfl⟩
      rw [jx_yes hlt hb, jy_yes hlt hb, show ((L.take (j + 1)).filter T.right).isEmpty = false by rw [filter_yes hlt hb]; simp, ← wrap_succ (by omega), ← getD_lt hlt]; rfl
    · have hlt : j < L.length := by simpa using ‹decide ((j : Int) < (L.length : Int)) = true›
      rw [getD_lt hlt] at hb
      refine ⟨L.length - (j + 1), [.ro 2 L.length (gOf eT L), .cells 25 [.u64 (BitVec.ofInt 64 0), .u64 (BitVec.ofInt 64 0)]], [0, 1], by omega, rfl, mle_cons ble_refl (mle_cons ble_refl mle_nil), rfl, rfl, j + 1, by omega, rfl, ?_, rfl⟩
      rw [jx_no hlt hb, jy_no hlt hb, show ((L.take (j + 1)).filter T.right).isEmpty = false by rw [filter_no hlt hb]; exact hs, ← wrap_succ (by omega)]; rfl
    all_goals
      have hj2 : j = L.length := by simp at hb; omega
      subst hj2
      simp only [List.take_length] at hs ⊢
      first | (simp only [T.rjoin, hs]; trivial) | (rw [eqv1, T.rjoin, hs]; rfl) | (unfold T.rjoin; rw [hs]; rfl)
  · (conv => whnf)
    (repeat' (first | (refine And.intro (fun hb => ?_) (fun hb => ?_) <;> (first | contradiction | (conv => whnf))) | (refine And.intro ?_ ?_; rotate_left 1; (conv => whnf))))
    all_goals try (first | rfl | trivial | (simp; done) | (simp; omega) | (simp at hb ⊢; omega) | (simp only [decide_eq_true_eq, Bool.and_eq_true, Int.toNat_natCast] at *; omega))
    · have hlt : j < L.length := by simpa using ‹decide ((j : Int) < (L.length : Int)) = true›
      rw [getD_lt hlt] at hb
      refine ⟨L.length - (j + 1), [.ro 2 L.length (gOf eT L), .cells 25 [.u64 (BitVec.ofInt 64 0), .u64 (BitVec.ofInt 64 0)]], [0, 1], by omega, rfl, mle_cons ble_refl (mle_cons ble_refl mle_nil), rfl, rfl, j + 1, by omega, rfl, ?_, rfl⟩
      rw [jx_yes hlt hb, jy_yes hlt hb, show ((L.take (j + 1)).filter T.right).isEmpty = false by rw [filter_yes hlt hb]; simp, ← wrap_succ (by omega), ← getD_lt hlt]; rfl
    · have hlt : j < L.length := by simpa using ‹decide ((j : Int) < (L.length : Int)) = true›
      rw [getD_lt hlt] at hb
      refine ⟨L.length - (j + 1), [.ro 2 L.length (gOf eT L), .cells 25 [.u64 (BitVec.ofInt 64 0), .u64 (BitVec.ofInt 64 0)]], [0, 1], by omega, rfl, mle_cons ble_refl (mle_cons ble_refl mle_nil), rfl, rfl, j + 1, by omega, rfl, ?_, rfl⟩
      rw [jx_no hlt hb, jy_no hlt hb, show ((L.take (j + 1)).filter T.right).isEmpty = true by rw [filter_no hlt hb]; exact hs, ← wrap_succ (by omega)]; rfl
    all_goals
      have hj2 : j = L.length := by simp at hb; omega
      subst hj2
      simp only [List.take_length] at hs ⊢
      first | (simp only [T.rjoin, hs]; trivial) | (rw [eqv1, T.rjoin, hs]; rfl) | (unfold T.rjoin; rw [hs]; rfl)
theorem of_ones {t : Tn} (h : T.right t = true) : T.of (t.v ||| t.m) (~~~t.v) = (t, true) := by
  have h' : t.v &&& t.m = 0#64 := by simpa [T.right] using h
  unfold T.of
  have e1 : (t.v ||| t.m) ||| ~~~t.v = BitVec.allOnes 64 := by
    apply BitVec.eq_of_getLsbD_eq; intro i hi
    simp only [BitVec.getLsbD_or, BitVec.getLsbD_not, BitVec.getLsbD_allOnes, hi, decide_true, Bool.true_and]
    cases t.v.getLsbD i <;> simp
  have bit : ∀ i, (t.v.getLsbD i && t.m.getLsbD i) = false := fun i => by
    have := congrArg (fun x => BitVec.getLsbD x i) h'
    simpa using this
  have e2 : (t.v ||| t.m) &&& ~~~(~~~t.v) = t.v := by
    apply BitVec.eq_of_getLsbD_eq; intro i hi
    simp only [BitVec.getLsbD_and, BitVec.getLsbD_or, BitVec.getLsbD_not, hi, decide_true, Bool.true_and]
    cases t.v.getLsbD i <;> simp
  have e3 : (t.v ||| t.m) &&& ~~~t.v = t.m := by
    apply BitVec.eq_of_getLsbD_eq; intro i hi
    have := bit i
    simp only [BitVec.getLsbD_and, BitVec.getLsbD_or, BitVec.getLsbD_not, hi, decide_true, Bool.true_and]
    revert this; cases t.v.getLsbD i <;> cases t.m.getLsbD i <;> simp
  rw [e1, e2, e3]; simp
theorem join2_ones {a b : Tn} (ha : T.right a = true) (hb : T.right b = true) : (T.join2 a b).v ||| (T.join2 a b).m = (a.v ||| a.m) ||| (b.v ||| b.m) ∧ ~~~(T.join2 a b).v = ~~~a.v ||| ~~~b.v ∧ T.right (T.join2 a b) = true := by
  have ha' : a.v &&& a.m = 0#64 := by simpa [T.right] using ha
  have hb' : b.v &&& b.m = 0#64 := by simpa [T.right] using hb
  have p : ∀ i, (a.v.getLsbD i && a.m.getLsbD i) = false := fun i => by
    have := congrArg (fun x => BitVec.getLsbD x i) ha'
    simpa using this
  have q : ∀ i, (b.v.getLsbD i && b.m.getLsbD i) = false := fun i => by
    have := congrArg (fun x => BitVec.getLsbD x i) hb'
    simpa using this
  refine ⟨?_, ?_, ?_⟩
  · apply BitVec.eq_of_getLsbD_eq; intro i hi
    have p := p i; have q := q i
    simp only [T.join2, BitVec.getLsbD_and, BitVec.getLsbD_or, BitVec.getLsbD_xor, BitVec.getLsbD_not, hi, decide_true, Bool.true_and]
    revert p q; cases a.v.getLsbD i <;> cases a.m.getLsbD i <;> cases b.v.getLsbD i <;> cases b.m.getLsbD i <;> simp
  · apply BitVec.eq_of_getLsbD_eq; intro i hi
    have p := p i; have q := q i
    simp only [T.join2, BitVec.getLsbD_and, BitVec.getLsbD_or, BitVec.getLsbD_xor, BitVec.getLsbD_not, hi, decide_true, Bool.true_and]
    revert p q; cases a.v.getLsbD i <;> cases a.m.getLsbD i <;> cases b.v.getLsbD i <;> cases b.m.getLsbD i <;> simp
  · unfold T.right T.join2
    rw [beq_iff_eq]
    apply BitVec.eq_of_getLsbD_eq; intro i hi
    simp only [BitVec.getLsbD_and, BitVec.getLsbD_or, BitVec.getLsbD_xor, BitVec.getLsbD_not, hi, decide_true, Bool.true_and]
    cases a.v.getLsbD i <;> cases a.m.getLsbD i <;> cases b.v.getLsbD i <;> cases b.m.getLsbD i <;> simp
theorem fold_ones (r : List Tn) : ∀ (t : Tn), T.right t = true → (∀ u ∈ r, T.right u = true) →
    T.of (r.foldl (fun x t => x ||| (t.v ||| t.m)) (t.v ||| t.m)) (r.foldl (fun x t => x ||| ~~~t.v) (~~~t.v)) = (r.foldl T.join2 t, true) := by
  induction r with
  | nil => exact fun t ht _ => of_ones ht
  | cons u r ih =>
    intro t ht hr
    have hu := hr u (by simp)
    obtain ⟨e1, e2, e3⟩ := join2_ones ht hu
    have := ih (T.join2 t u) e3 (fun v hv => hr v (by simp [hv]))
    rw [e1, e2] at this
    exact this
theorem rjoin_eq (L : List Tn) : T.rjoin L = T.join L := by
  unfold T.rjoin T.join T.jx T.jy
  have hr : ∀ u ∈ L.filter T.right, T.right u = true := fun u hu => (List.mem_filter.1 hu).2
  revert hr
  generalize L.filter T.right = F
  intro hr
  cases F with
  | nil => rfl
  | cons t r =>
    simp only [List.isEmpty_cons, List.foldl_cons]
    have := fold_ones r t (hr t (by simp)) (fun v hv => hr v (by simp [hv]))
    rw [show (0 : BitVec 64) ||| (t.v ||| t.m) = t.v ||| t.m by simp, show (0 : BitVec 64) ||| ~~~t.v = ~~~t.v by simp, this]
    rfl

def k_rJoin : List SV → List Blk → Res := fun args M => match args with
  | [.sl b sz off len] => match eltB (nth M b) with
    | some (sz', m, g) => match Nat.beq sz 2 && Nat.beq sz' 2 with
      | true => .test (decide (off + len ≤ m) && (allIs eT off len g && decide (len < 1000000000000))) (.ok (tsv (T.join (elts eT off len g))) [])
      | false => .fail
    | _ => .fail
  | _ => .fail
theorem k_rJoin_ok : CtrOk Try.prog Gw 40 k_rJoin := by
  refine ⟨fun _ _ => by kernel_rfl, fun args M => ?_⟩
  unfold k_rJoin
  split
  · rename_i b sz off len
    split
    · rename_i sz' m g hk
      split
      · rename_i hb
        simp only [Bool.and_eq_true] at hb
        obtain rfl := Nat.eq_of_beq_eq_true hb.1
        obtain rfl := Nat.eq_of_beq_eq_true hb.2
        intro ht
        simp only [Bool.and_eq_true, decide_eq_true_eq] at ht
        obtain ⟨hle, h1, h2⟩ := ht
        have hr := rjoin_run (elts eT off len g) (by rw [elts_length]; exact h2)
        rw [elts_length, rjoin_eq] at hr
        exact ctr_row (Γ := ⟨[(71, k_rRight), (50, k_rUnknown), (74, k_ones), (75, k_noughts), (76, k_of)], eqs, [], [], []⟩) st_Gw ⟨(okCons k_rRight_ok (okCons k_rUnknown_ok (okCons k_ones_ok (okCons k_noughts_ok (okCons k_of_ok okNil))))), eqs_ok, okNilB, okNilI, okNilP⟩ Try.func40 rfl mixed [] (by kernel_rfl) 10000 hk hle (gOf_elts eT h1) rfl hr
      · trivial
    · trivial
  · trivial
end Go.Proofs.Ytobednfbejcaeaa
