import Derived.Test.YtgfemfgimefmeaaGreatX0
import Derived.Test.YtgfemfgimefmeaaGreatSxL
namespace Go.Proofs.YtgfemfgimefmeaaGreat
open Go.RowKit Go.Sx
set_option linter.unusedSimpArgs false
set_option linter.unusedVariables false
set_option linter.unnecessarySimpa false
set_option maxRecDepth 100000
set_option maxHeartbeats 4000000
end Go.Proofs.YtgfemfgimefmeaaGreat
namespace Go.Proofs.YtgfemfgimefmeaaGreat
open Go.RowKit Go.Sx
set_option linter.unusedSimpArgs false
set_option linter.unusedVariables false
set_option linter.unnecessarySimpa false
set_option maxRecDepth 100000
set_option maxHeartbeats 4000000
theorem ite_min (a b : Nat) : (if (b : Int) < (a : Int) then (b : Int) else (a : Int)) = ((min a b : Nat) : Int) := by split <;> omega
theorem allOnes64 : (18446744073709551615#64 : BitVec 64) = BitVec.allOnes 64 := by decide
def k_known : List SV → List Blk → Res := fun args _ => match args with
  | [.agg [.u64 av, .u64 am]] => .ok (.bool (T.right ⟨av, am⟩)) []
  | _ => .fail
theorem k_known_ok : CtrOk Tryz.prog Gw 146 k_known := by
  refine ⟨fun _ _ => by kernel_rfl, fun args M => ?_⟩
  unfold k_known
  split
  · rename_i av am
    refine ctr_flat (Γ := ⟨[], eqs, [], [], [], mixs, meqs⟩) (sv := .bool (T.right ⟨av, am⟩)) st_Gw ⟨okNil, eqs_ok, okNilB, okNilI, okNilP, mixs_ok, meqs_ok⟩ Tryz.func146 rfl mixed [] (by kernel_rfl) 10000 (by rfl) ?_
    (conv => whnf)
    (repeat' (first | (refine And.intro (fun hb => ?_) (fun hb => ?_) <;> (first | contradiction | (conv => whnf))) | (refine And.intro ?_ ?_; rotate_left 1; (conv => whnf))))
    all_goals (first | rfl | trivial | (simp_all [eqv, eqv1, eqv2, eqvL1, eqvL2]))
  · trivial
def k_Right : List SV → List Blk → Res := fun args _ => match args with
  | [.agg [.u64 av, .u64 am]] => .ok (.bool (T.right ⟨av, am⟩)) []
  | _ => .fail
theorem k_Right_ok : CtrOk Tryz.prog Gw 95 k_Right := by
  refine ⟨fun _ _ => by kernel_rfl, fun args M => ?_⟩
  unfold k_Right
  split
  · rename_i av am
    refine ctr_flat (Γ := ⟨[(146, k_known)], eqs, [], [], [], mixs, meqs⟩) (sv := .bool (T.right ⟨av, am⟩)) st_Gw ⟨(okCons k_known_ok okNil), eqs_ok, okNilB, okNilI, okNilP, mixs_ok, meqs_ok⟩ Tryz.func95 rfl mixed [] (by kernel_rfl) 10000 (by rfl) ?_
    (conv => whnf)
    (repeat' (first | (refine And.intro (fun hb => ?_) (fun hb => ?_) <;> (first | contradiction | (conv => whnf))) | (refine And.intro ?_ ?_; rotate_left 1; (conv => whnf))))
    all_goals (first | rfl | trivial | (simp_all [eqv, eqv1, eqv2, eqvL1, eqvL2]))
  · trivial
def k_Const : List SV → List Blk → Res := fun args _ => match args with
  | [.u64 n] => .ok (tsv ⟨n, 0⟩) []
  | _ => .fail
theorem k_Const_ok : CtrOk Tryz.prog Gw 93 k_Const := by
  refine ⟨fun _ _ => by kernel_rfl, fun args M => ?_⟩
  unfold k_Const
  split
  · rename_i n
    refine ctr_flat (Γ := ⟨[], eqs, [], [], [], mixs, meqs⟩) (sv := tsv ⟨n, 0⟩) st_Gw ⟨okNil, eqs_ok, okNilB, okNilI, okNilP, mixs_ok, meqs_ok⟩ Tryz.func93 rfl mixed [] (by kernel_rfl) 10000 (by rfl) ?_
    (conv => whnf)
    (repeat' (first | (refine And.intro (fun hb => ?_) (fun hb => ?_) <;> (first | contradiction | (conv => whnf))) | (refine And.intro ?_ ?_; rotate_left 1; (conv => whnf))))
    all_goals (first | rfl | trivial | (simp_all [eqv, eqv1, eqv2, eqvL1, eqvL2]))
  · trivial
def k_Unknown : List SV → List Blk → Res := fun args _ => match args with
  | [] => .ok (tsv ⟨0, BitVec.allOnes 64⟩) []
  | _ => .fail
theorem k_Unknown_ok : CtrOk Tryz.prog Gw 47 k_Unknown := by
  refine ⟨fun _ _ => by kernel_rfl, fun args M => ?_⟩
  unfold k_Unknown
  split
  · refine ctr_flat (Γ := ⟨[], eqs, [], [], [], mixs, meqs⟩) (sv := tsv ⟨0, BitVec.allOnes 64⟩) st_Gw ⟨okNil, eqs_ok, okNilB, okNilI, okNilP, mixs_ok, meqs_ok⟩ Tryz.func47 rfl mixed [] (by kernel_rfl) 10000 (by rfl) ?_
    (conv => whnf)
    (repeat' (first | (refine And.intro (fun hb => ?_) (fun hb => ?_) <;> (first | contradiction | (conv => whnf))) | (refine And.intro ?_ ?_; rotate_left 1; (conv => whnf))))
    all_goals (first | rfl | trivial | (simp_all [eqv, eqv1, eqv2, eqvL1, eqvL2]))
  · trivial
def k_Leq : List SV → List Blk → Res := fun args _ => match args with
  | [.agg [.u64 av, .u64 am], .agg [.u64 bv, .u64 bm]] => .ok (.bool (T.leq ⟨av, am⟩ ⟨bv, bm⟩)) []
  | _ => .fail
theorem k_Leq_ok : CtrOk Tryz.prog Gw 48 k_Leq := by
  refine ⟨fun _ _ => by kernel_rfl, fun args M => ?_⟩
  unfold k_Leq
  split
  · rename_i av am bv bm
    refine ctr_flat (Γ := ⟨[(95, k_Right)], eqs, [], [], [], mixs, meqs⟩) (sv := .bool (T.leq ⟨av, am⟩ ⟨bv, bm⟩)) st_Gw ⟨(okCons k_Right_ok okNil), eqs_ok, okNilB, okNilI, okNilP, mixs_ok, meqs_ok⟩ Tryz.func48 rfl mixed [] (by kernel_rfl) 10000 (by rfl) ?_
    (conv => whnf)
    (repeat' (first | (refine And.intro (fun hb => ?_) (fun hb => ?_) <;> (first | contradiction | (conv => whnf))) | (refine And.intro ?_ ?_; rotate_left 1; (conv => whnf))))
    all_goals (first | rfl | trivial | (simp_all [eqv, eqv1, eqv2, eqvL1, eqvL2, T.leq]))
  · trivial
def k_Meet : List SV → List Blk → Res := fun args _ => match args with
  | [.agg [.u64 av, .u64 am], .agg [.u64 bv, .u64 bm]] => .ok (.tup [tsv (T.meet ⟨av, am⟩ ⟨bv, bm⟩).1, .bool (T.meet ⟨av, am⟩ ⟨bv, bm⟩).2]) []
  | _ => .fail
theorem k_Meet_ok : CtrOk Tryz.prog Gw 166 k_Meet := by
  refine ⟨fun _ _ => by kernel_rfl, fun args M => ?_⟩
  unfold k_Meet
  split
  · rename_i av am bv bm
    refine ctr_flat (Γ := ⟨[(95, k_Right)], eqs, [], [], [], mixs, meqs⟩) (sv := .tup [tsv (T.meet ⟨av, am⟩ ⟨bv, bm⟩).1, .bool (T.meet ⟨av, am⟩ ⟨bv, bm⟩).2]) st_Gw ⟨(okCons k_Right_ok okNil), eqs_ok, okNilB, okNilI, okNilP, mixs_ok, meqs_ok⟩ Tryz.func166 rfl mixed [] (by kernel_rfl) 10000 (by rfl) ?_
    (conv => whnf)
    (repeat' (first | (refine And.intro (fun hb => ?_) (fun hb => ?_) <;> (first | contradiction | (conv => whnf))) | (refine And.intro ?_ ?_; rotate_left 1; (conv => whnf))))
    all_goals (first | rfl | trivial | (simp_all [eqv, eqv1, eqv2, eqvL1, eqvL2, T.meet]))
  · trivial
def k_join2 : List SV → List Blk → Res := fun args _ => match args with
  | [.agg [.u64 av, .u64 am], .agg [.u64 bv, .u64 bm]] => .ok (tsv (T.join2 ⟨av, am⟩ ⟨bv, bm⟩)) []
  | _ => .fail
theorem k_join2_ok : CtrOk Tryz.prog Gw 173 k_join2 := by
  refine ⟨fun _ _ => by kernel_rfl, fun args M => ?_⟩
  unfold k_join2
  split
  · rename_i av am bv bm
    refine ctr_flat (Γ := ⟨[], eqs, [], [], [], mixs, meqs⟩) (sv := tsv (T.join2 ⟨av, am⟩ ⟨bv, bm⟩)) st_Gw ⟨okNil, eqs_ok, okNilB, okNilI, okNilP, mixs_ok, meqs_ok⟩ Tryz.func173 rfl mixed [] (by kernel_rfl) 10000 (by rfl) ?_
    (conv => whnf)
    (repeat' (first | (refine And.intro (fun hb => ?_) (fun hb => ?_) <;> (first | contradiction | (conv => whnf))) | (refine And.intro ?_ ?_; rotate_left 1; (conv => whnf))))
    all_goals (first | rfl | trivial | (simp_all [eqv, eqv1, eqv2, eqvL1, eqvL2, T.join2]))
  · trivial
def k_Range : List SV → List Blk → Res := fun args _ => match args with
  | [.u64 lo, .u64 hi] => .ok (tsv (T.range lo hi)) []
  | _ => .fail
theorem k_Range_ok : CtrOk Tryz.prog Gw 167 k_Range := by
  refine ⟨fun _ _ => by kernel_rfl, fun args M => ?_⟩
  unfold k_Range
  split
  · rename_i lo hi
    refine ctr_flat (Γ := ⟨[(186, k_lz), (47, k_Unknown)], eqs, [], [], [], mixs, meqs⟩) (sv := tsv (T.range lo hi)) st_Gw ⟨(okCons k_lz_ok (okCons k_Unknown_ok okNil)), eqs_ok, okNilB, okNilI, okNilP, mixs_ok, meqs_ok⟩ Tryz.func167 rfl mixed [] (by kernel_rfl) 10000 (by rfl) ?_
    (conv => whnf)
    (repeat' (first | (refine And.intro (fun hb => ?_) (fun hb => ?_) <;> (first | contradiction | (conv => whnf))) | (refine And.intro ?_ ?_; rotate_left 1; (conv => whnf))))
    all_goals (first | trivial | (simp only [lz_nonneg, decide_true]; done) | (simp only [decide_eq_true_eq, decide_eq_false_iff_not, beq_iff_eq, beq_eq_false_iff_ne, ne_eq] at *; simp only [eqv1, T.range, lz_toNat]; first | (rw [if_pos (by assumption)]; done) | (rw [if_pos (by assumption)]; rfl) | (rw [if_neg (by assumption), if_pos (by assumption)]; rfl) | (rw [if_neg (by assumption), if_neg (by assumption)]; rfl)))
  · trivial
end Go.Proofs.YtgfemfgimefmeaaGreat
namespace Go.Proofs.YtgfemfgimefmeaaGreat
open Go.RowKit Go.Sx
set_option linter.unusedSimpArgs false
set_option linter.unusedVariables false
set_option linter.unnecessarySimpa false
set_option maxRecDepth 100000
set_option maxHeartbeats 4000000
namespace T
/-- What an operation of two comes to, by its number. -/
def opI (op : Int) (a b : Tn) : Tn × Bool := if op == 0 then (T.sum a b, true) else if op == 16 then (T.difference a b, true) else if op == 80 then (T.and a b, true) else if op == 64 then (T.or a b, true) else if op == 160 then (T.xor a b, true) else if op == 32 then (T.product a b, true) else (⟨0, 0⟩, false)
def doesI (op : Int) (a b : Tn) : Tn × Bool := if right a && right b then opI op a b else (⟨0, 0⟩, false)
end T
end Go.Proofs.YtgfemfgimefmeaaGreat
namespace Go.Proofs.YtgfemfgimefmeaaGreat
open Go.RowKit Go.Sx
set_option linter.unusedSimpArgs false
set_option linter.unusedVariables false
set_option linter.unnecessarySimpa false
set_option maxRecDepth 100000
set_option maxHeartbeats 4000000
def eT : Enc Tn := ⟨fun t => [.u64 t.v, .u64 t.m], fun l => match l with | [.u64 v, .u64 m] => ⟨v, m⟩ | _ => ⟨0, 0⟩, fun l => match l with | [.u64 _, .u64 _] => true | _ => false, ⟨0, 0⟩,
  fun l h => by revert h; split <;> simp_all, fun _ => rfl, fun _ => rfl⟩
namespace T
def foldT (no : Tn) (L : List Tn) : Tn := match L with
  | [] => no
  | t :: r => r.foldl T.join2 t
end T
theorem wrap_succ {j : Nat} (h : j < 1000000000000) : IntKind.i64.wrap ((j : Int) + 1) = ((j + 1 : Nat) : Int) := by
  rw [IntWalk.i64_in _ (by omega)]; omega
theorem fold_nil (nv nm : BitVec 64) : run Tryz.prog ⟨[(173, k_join2)], eqs, [], [], [], mixs, meqs⟩ 10000 [(6, 6, [0, 0, 0, 4, 12, 0, 62, 127, 255])] 0 (bodyOf Tryz.f172) (initF Tryz.f172 [.sl 0 2 0 0, .fn (.func 173) [] [], .agg [.u64 nv, .u64 nm]]) [.own 25 2 0 (gOf eT [])] (retK Tryz.prog Tryz.f172 fun x _ => eqv x (tsv (T.foldT ⟨nv, nm⟩ []))) := by
  (conv => whnf)
  (repeat' (first | (refine And.intro (fun hb => ?_) (fun hb => ?_) <;> (first | contradiction | (conv => whnf))) | (refine And.intro ?_ ?_; rotate_left 1; (conv => whnf))))
  all_goals first | rfl | trivial | simp_all
theorem fold_cons (t : Tn) (r : List Tn) (nv nm : BitVec 64) (hL : r.length < 1000000000000) : run Tryz.prog ⟨[(173, k_join2)], eqs, [], [], [], mixs, meqs⟩ 10000 [(6, 6, [0, 0, 0, 4, 12, 0, 62, 127, 255])] 0 (bodyOf Tryz.f172) (initF Tryz.f172 [.sl 0 2 0 (r.length + 1), .fn (.func 173) [] [], .agg [.u64 nv, .u64 nm]]) [.own 25 2 (r.length + 1) (gOf eT (t :: r))] (retK Tryz.prog Tryz.f172 fun x _ => eqv x (tsv (T.foldT ⟨nv, nm⟩ (t :: r)))) := by
  (conv => whnf)
  (repeat' (first | (refine And.intro (fun hb => ?_) (fun hb => ?_) <;> (first | contradiction | (conv => whnf))) | (refine And.intro ?_ ?_; rotate_left 1; (conv => whnf))))
  all_goals try (first | rfl | trivial | (simp; done) | (simp; omega) | (simp at hb ⊢; omega) | (simp only [decide_eq_true_eq, Bool.and_eq_true, Int.toNat_natCast] at *; omega))
  · refine .inr ⟨[], [0, 1, 6, 14, 15, 16], fun k vals M => ∃ j : Nat, j ≤ r.length ∧ k = r.length - j ∧ vals = [.sl 0 2 0 (r.length + 1), .fn (.func 173) [] [], .ptr 2 0, .sl 0 2 (0 + Int.toNat 1) (r.length + 1 - Int.toNat 1), .int .i64 ((r.length + 1 - Int.toNat 1 : Nat) : Int), .int .i64 (j : Int)] ∧ M = [.own 25 2 (r.length + 1) (gOf eT ((r.take j).foldl T.join2 t :: r)), .dead, .cells 25 [.u64 (BitVec.ofInt 64 0), .u64 (BitVec.ofInt 64 0)]], ?_⟩
    conv => whnf
    refine And.intro ⟨r.length, _, mle_cons ble_refl (mle_cons ble_dead (mle_cons ble_refl mle_nil)), rfl, rfl, 0, by omega, by omega, rfl, rfl⟩ ?_
    rintro k vals M1 ⟨j, hj, rfl, rfl, rfl⟩
    (conv => whnf)
    (repeat' (first | (refine And.intro (fun hb => ?_) (fun hb => ?_) <;> (first | contradiction | (conv => whnf))) | (refine And.intro ?_ ?_; rotate_left 1; (conv => whnf))))
    all_goals try (first | rfl | trivial | (simp; done) | (simp; omega) | (simp at hb ⊢; omega) | (simp only [decide_eq_true_eq, Bool.and_eq_true, Int.toNat_natCast] at *; omega))
    · have hlt : j < r.length := by simp at hb; omega
      have e : (r.take (j + 1)).foldl T.join2 t = T.join2 ((r.take j).foldl T.join2 t) r[j] := by rw [List.take_succ_eq_append_getElem hlt, List.foldl_append]; rfl
      refine ⟨r.length - (j + 1), [.own 25 2 (r.length + 1) (gOf eT ((r.take (j + 1)).foldl T.join2 t :: r)), .dead, .cells 25 [.u64 (BitVec.ofInt 64 0), .u64 (BitVec.ofInt 64 0)]], [0, 1, 2], by omega, rfl, mle_cons (ble_own rfl fun i hi => ?_) (mle_cons ble_dead (mle_cons ble_refl mle_nil)), rfl, rfl, j + 1, by omega, rfl, ?_, rfl⟩
      · rw [e]
        exact gSet_gOf eT (L := (r.take j).foldl T.join2 t :: r) (i := 0) (a := T.join2 ((r.take j).foldl T.join2 t) r[j]) (by simp) (by simp [eT, List.getD_eq_getElem?_getD, hlt, Nat.add_comm 1 j]) (by simp [eT]) i hi
      · rw [← wrap_succ (by omega)]; rfl
    · have : j = r.length := by simp at hb; omega
      subst this
      simp [eqv1, T.foldT]
    · have : j = r.length := by simp at hb; omega
      subst this
      simp [eqv1, T.foldT]
  · have hr : r = [] := by cases r with
      | nil => rfl
      | cons a r => simp at hb
    subst hr
    refine .inr ⟨[], [0, 6, 15, 16], fun k vals M => k = 0 ∧ vals = [.sl 0 2 0 1, .ptr 2 0, .int .i64 0, .int .i64 0] ∧ M = [.own 25 2 1 (gOf eT [t]), .dead, .cells 25 [.u64 (BitVec.ofInt 64 0), .u64 (BitVec.ofInt 64 0)]], ?_⟩
    conv => whnf
    refine And.intro ⟨0, _, mle_cons ble_refl (mle_cons ble_dead (mle_cons ble_refl mle_nil)), rfl, rfl, rfl, rfl, rfl⟩ ?_
    rintro k vals M1 ⟨rfl, rfl, rfl⟩
    (conv => whnf)
    (repeat' (first | (refine And.intro (fun hb => ?_) (fun hb => ?_) <;> (first | contradiction | (conv => whnf))) | (refine And.intro ?_ ?_; rotate_left 1; (conv => whnf))))
    all_goals try (first | rfl | trivial | (simp; done) | (simp; omega) | (simp at hb ⊢; omega) | (simp only [decide_eq_true_eq, Bool.and_eq_true, Int.toNat_natCast] at *; omega))
    all_goals first | (simp at hb; done) | (simp [eqv1, T.foldT]; done)

def k_fold : List SV → List Blk → BRes := fun args M => match args with
  | [.sl k sz 0 len, .fn (.func 173) [] [], .agg [.u64 nv, .u64 nm]] => match nth M k with
    | some (.own ty sz' m g) => match Nat.beq ty 25 && (Nat.beq sz 2 && Nat.beq sz' 2) with
      | true => .test (decide (len = m) && (allIs eT 0 m g && decide (m < 1000000000000))) (.ok (tsv (T.foldT ⟨nv, nm⟩ (elts eT 0 m g))) (M.set k .dead))
      | false => .fail
    | _ => .fail
  | _ => .fail
theorem fold_run (L : List Tn) (nv nm : BitVec 64) (hL : L.length < 1000000000000) : run Tryz.prog ⟨[(173, k_join2)], eqs, [], [], [], mixs, meqs⟩ 10000 [(6, 6, [0, 0, 0, 4, 12, 0, 62, 127, 255])] 0 (bodyOf Tryz.f172) (initF Tryz.f172 [.sl 0 2 0 L.length, .fn (.func 173) [] [], .agg [.u64 nv, .u64 nm]]) [.own 25 2 L.length (gOf eT L)] (retK Tryz.prog Tryz.f172 fun x _ => eqv x (tsv (T.foldT ⟨nv, nm⟩ L))) := by
  cases L with
  | nil => exact fold_nil nv nm
  | cons t r => exact fold_cons t r nv nm (by simp at hL; omega)
theorem k_fold_ok : BCtrOk Tryz.prog Gw 172 k_fold := by
  refine ⟨fun _ _ => by kernel_rfl, fun args M => ?_⟩
  unfold k_fold
  split
  · rename_i k sz len nv nm
    split
    · rename_i ty sz' m g hk
      split
      · rename_i hb
        simp only [Bool.and_eq_true] at hb
        obtain rfl := Nat.eq_of_beq_eq_true hb.1
        obtain rfl := Nat.eq_of_beq_eq_true hb.2.1
        obtain rfl := Nat.eq_of_beq_eq_true hb.2.2
        intro ht
        simp only [Bool.and_eq_true, decide_eq_true_eq] at ht
        obtain ⟨rfl, h1, h2⟩ := ht
        have hr := fold_run (elts eT 0 len g) nv nm (by rw [elts_length]; exact h2)
        rw [elts_length] at hr
        exact bctr_own (Γ := ⟨[(173, k_join2)], eqs, [], [], [], mixs, meqs⟩) ⟨(okCons k_join2_ok okNil), eqs_ok, okNilB, okNilI, okNilP, mixs_ok, meqs_ok⟩ Tryz.func172 rfl mixed [(6, 6, [0, 0, 0, 4, 12, 0, 62, 127, 255])] (by kernel_rfl) 10000 (by rw [← nth_eq]; exact hk) (fun i hi => by rw [gOf_elts eT h1 i hi, Nat.zero_add]) rfl hr
      · trivial
    · trivial
  · trivial
end Go.Proofs.YtgfemfgimefmeaaGreat
namespace Go.Proofs.YtgfemfgimefmeaaGreat
open Go.RowKit Go.Sx
set_option linter.unusedSimpArgs false
set_option linter.unusedVariables false
set_option linter.unnecessarySimpa false
set_option maxRecDepth 100000
set_option maxHeartbeats 4000000
theorem getD_lt {L : List Tn} {j : Nat} (h : j < L.length) : L.getD (0 + ((j : Int)).toNat) eT.dft = L[j] := by simp [List.getD_eq_getElem?_getD, h]
theorem filter_le (L : List Tn) (j : Nat) : ((L.take j).filter T.right).length ≤ L.length := by
  have h1 := List.length_filter_le T.right (L.take j)
  simp at h1; omega
theorem filter_yes {L : List Tn} {j : Nat} (h : j < L.length) (hr : T.right L[j] = true) : (L.take (j + 1)).filter T.right = (L.take j).filter T.right ++ [L[j]] := by
  rw [List.take_succ_eq_append_getElem h, List.filter_append]; simp [hr]
theorem filter_no {L : List Tn} {j : Nat} (h : j < L.length) (hr : T.right L[j] = false) : (L.take (j + 1)).filter T.right = (L.take j).filter T.right := by
  rw [List.take_succ_eq_append_getElem h, List.filter_append]; simp [hr]
theorem join_eq (L : List Tn) : T.foldT ⟨0, BitVec.allOnes 64⟩ (L.filter T.right) = T.join L := by unfold T.foldT T.join; rfl

theorem join_run (L : List Tn) (hL : L.length < 1000000000000) : run Tryz.prog ⟨[(95, k_Right), (47, k_Unknown)], eqs, [(172, k_fold)], [], [], mixs, meqs⟩ 10000 [] 0 (bodyOf Tryz.f150) (initF Tryz.f150 [.sl 0 2 0 L.length]) [.ro 2 L.length (gOf eT L)] (retK Tryz.prog Tryz.f150 fun x _ => eqv x (tsv (T.join L))) := by
  (conv => whnf)
  (repeat' (first | (refine And.intro (fun hb => ?_) (fun hb => ?_) <;> (first | contradiction | (conv => whnf))) | (refine And.intro ?_ ?_; rotate_left 1; (conv => whnf))))
  refine .inr ⟨[(3, 25, 2)], [2, 3, 6, 7, 8], fun k vals M => ∃ j : Nat, j ≤ L.length ∧ k = L.length - j ∧ vals = [.ptr 1 0, .sl 2 2 0 ((L.take j).filter T.right).length, .sl 0 2 0 L.length, .int .i64 (L.length : Int), .int .i64 (j : Int)] ∧ M = [.ro 2 L.length (gOf eT L), .cells 25 [.u64 (BitVec.ofInt 64 0), .u64 (BitVec.ofInt 64 0)], .own 25 2 ((L.take j).filter T.right).length (gOf eT ((L.take j).filter T.right))], ?_⟩
  conv => whnf
  refine And.intro ⟨L.length, [.ro 2 L.length (gOf eT L), .cells 25 [.u64 (BitVec.ofInt 64 0), .u64 (BitVec.ofInt 64 0)], .own 25 2 0 (gOf eT [])], mle_cons ble_refl (mle_cons ble_refl (mle_cons (ble_own rfl fun i hi => absurd hi (Nat.not_lt_zero i)) mle_nil)), rfl, rfl, 0, by omega, by omega, rfl, rfl⟩ ?_
  rintro k vals M1 ⟨j, hj, rfl, rfl, rfl⟩
  (conv => whnf)
  (repeat' (first | (refine And.intro (fun hb => ?_) (fun hb => ?_) <;> (first | contradiction | (conv => whnf))) | (refine And.intro ?_ ?_; rotate_left 1; (conv => whnf))))
  all_goals try (first | rfl | trivial | (simp; done) | (simp; omega) | (simp at hb ⊢; omega) | (simp only [decide_eq_true_eq, Bool.and_eq_true, Int.toNat_natCast] at *; omega))
  · have hlt : j < L.length := by simpa using ‹decide ((j : Int) < (L.length : Int)) = true›
    rw [getD_lt hlt] at hb
    have e := filter_yes hlt hb
    refine ⟨L.length - (j + 1), [.ro 2 L.length (gOf eT L), .cells 25 [.u64 (BitVec.ofInt 64 0), .u64 (BitVec.ofInt 64 0)], .own 25 2 ((L.take (j + 1)).filter T.right).length (gOf eT ((L.take (j + 1)).filter T.right))], [0, 1, 5], by omega, rfl, mle_cons ble_refl (mle_cons ble_refl (mle_cons (ble_own (by rw [e]; simp) fun i hi => ?_) mle_nil)), rfl, rfl, j + 1, by omega, rfl, ?_, rfl⟩
    · rw [e] at hi ⊢
      exact gOf_snoc eT _ _ _ (by rw [getD_lt hlt]; rfl) i (by simpa using hi)
    · rw [← wrap_succ (by omega), show ((L.take (j + 1)).filter T.right).length = ((L.take j).filter T.right).length + 1 by rw [e]; simp]; rfl
  · have h1 := filter_le L j
    have h2 : Tryz.prog.types[25]!.bytes = 16 := by kernel_rfl
    rw [decide_eq_true_eq]
    exact ⟨by show (_ + 1) * Tryz.prog.types[25]!.bytes ≤ _; rw [h2]; omega, by omega⟩
  · have hlt : j < L.length := by simpa using ‹decide ((j : Int) < (L.length : Int)) = true›
    rw [getD_lt hlt] at hb
    have e := filter_no hlt hb
    refine ⟨L.length - (j + 1), [.ro 2 L.length (gOf eT L), .cells 25 [.u64 (BitVec.ofInt 64 0), .u64 (BitVec.ofInt 64 0)], .own 25 2 ((L.take (j + 1)).filter T.right).length (gOf eT ((L.take (j + 1)).filter T.right))], [0, 1, 2], by omega, rfl, mle_cons ble_refl (mle_cons ble_refl (mle_cons (ble_own (by rw [e]) fun i hi => by rw [e]) mle_nil)), rfl, rfl, j + 1, by omega, rfl, ?_, rfl⟩
    rw [← wrap_succ (by omega), e]; rfl
  all_goals
    have hj2 : j = L.length := by simp at hb; omega
    subst hj2
    simp only [List.take_length]
  · rw [elts_all, join_eq]; rfl
  · rw [elts_all, join_eq]; rfl
  · have := filter_le L L.length
    simp only [List.take_length] at this
    simp [allIs_gOf]; omega

def k_Join : List SV → List Blk → Res := fun args M => match args with
  | [.sl b sz off len] => match eltB (nth M b) with
    | some (sz', m, g) => match Nat.beq sz 2 && Nat.beq sz' 2 with
      | true => .test (decide (off + len ≤ m) && (allIs eT off len g && decide (len < 1000000000000))) (.ok (tsv (T.join (elts eT off len g))) [])
      | false => .fail
    | _ => .fail
  | _ => .fail
theorem k_Join_ok : CtrOk Tryz.prog Gw 150 k_Join := by
  refine ⟨fun _ _ => by kernel_rfl, fun args M => ?_⟩
  unfold k_Join
  split
  · rename_i b sz off len
    split
    · rename_i sz' m g hk
      split
      · rename_i hb
        simp only [Bool.and_eq_true] at hb
        obtain rfl := Nat.eq_of_beq_eq_true hb.1
        obtain rfl := Nat.eq_of_beq_eq_true hb.2
        intro ht
        simp only [Bool.and_eq_true, decide_eq_true_eq] at ht
        obtain ⟨hle, h1, h2⟩ := ht
        have hr := join_run (elts eT off len g) (by rw [elts_length]; exact h2)
        rw [elts_length] at hr
        exact ctr_row (Γ := ⟨[(95, k_Right), (47, k_Unknown)], eqs, [(172, k_fold)], [], [], mixs, meqs⟩) st_Gw ⟨(okCons k_Right_ok (okCons k_Unknown_ok okNil)), eqs_ok, (okConsB k_fold_ok okNilB), okNilI, okNilP, mixs_ok, meqs_ok⟩ Tryz.func150 rfl mixed [] (by kernel_rfl) 10000 hk hle (gOf_elts eT h1) rfl hr
      · trivial
    · trivial
  · trivial
end Go.Proofs.YtgfemfgimefmeaaGreat
namespace Go.Proofs.YtgfemfgimefmeaaGreat
open Go.RowKit Go.Sx
set_option linter.unusedSimpArgs false
set_option linter.unusedVariables false
set_option linter.unnecessarySimpa false
set_option maxRecDepth 100000
set_option maxHeartbeats 4000000
namespace T
def rt (v m : BitVec 64) : Tn := ⟨v &&& ~~~m, m⟩
theorem right_rt (v m : BitVec 64) : right (rt v m) = true := by unfold right rt; simp [BitVec.and_assoc]
end T
end Go.Proofs.YtgfemfgimefmeaaGreat
namespace Go.Proofs.YtgfemfgimefmeaaGreat
open Go.RowKit Go.Sx
set_option linter.unusedSimpArgs false
set_option linter.unusedVariables false
set_option linter.unnecessarySimpa false
set_option maxRecDepth 100000
set_option maxHeartbeats 4000000
namespace T
def of (x y : BitVec 64) : Tn × Bool := if x ||| y != BitVec.allOnes 64 then (⟨0, 0⟩, false) else (⟨x &&& ~~~y, x &&& y⟩, true)
end T
def k_rRight : List SV → List Blk → Res := fun args _ => match args with
  | [.agg [.u64 av, .u64 am]] => .ok (.bool (T.right ⟨av, am⟩)) []
  | _ => .fail
theorem k_rRight_ok : CtrOk Tryz.prog Gw 155 k_rRight := by
  refine ⟨fun _ _ => by kernel_rfl, fun args M => ?_⟩
  unfold k_rRight
  split
  · rename_i av am
    refine ctr_flat (Γ := ⟨[], eqs, [], [], [], mixs, meqs⟩) (sv := .bool (T.right ⟨av, am⟩)) st_Gw ⟨okNil, eqs_ok, okNilB, okNilI, okNilP, mixs_ok, meqs_ok⟩ Tryz.func155 rfl mixed [] (by kernel_rfl) 10000 (by rfl) ?_
    (conv => whnf)
    (repeat' (first | (refine And.intro (fun hb => ?_) (fun hb => ?_) <;> (first | contradiction | (conv => whnf))) | (refine And.intro ?_ ?_; rotate_left 1; (conv => whnf))))
    all_goals (first | rfl | trivial | (simp_all [eqv, eqv1, eqv2, eqvL1, eqvL2]))
  · trivial
def k_rUnknown : List SV → List Blk → Res := fun args _ => match args with
  | [] => .ok (tsv ⟨0, BitVec.allOnes 64⟩) []
  | _ => .fail
theorem k_rUnknown_ok : CtrOk Tryz.prog Gw 118 k_rUnknown := by
  refine ⟨fun _ _ => by kernel_rfl, fun args M => ?_⟩
  unfold k_rUnknown
  split
  · refine ctr_flat (Γ := ⟨[], eqs, [], [], [], mixs, meqs⟩) (sv := tsv ⟨0, BitVec.allOnes 64⟩) st_Gw ⟨okNil, eqs_ok, okNilB, okNilI, okNilP, mixs_ok, meqs_ok⟩ Tryz.func118 rfl mixed [] (by kernel_rfl) 10000 (by rfl) ?_
    (conv => whnf)
    (repeat' (first | (refine And.intro (fun hb => ?_) (fun hb => ?_) <;> (first | contradiction | (conv => whnf))) | (refine And.intro ?_ ?_; rotate_left 1; (conv => whnf))))
    all_goals (first | rfl | trivial | (simp_all [eqv, eqv1, eqv2, eqvL1, eqvL2]))
  · trivial
def k_ones : List SV → List Blk → Res := fun args _ => match args with
  | [.agg [.u64 av, .u64 am]] => .ok (.u64 (av ||| am)) []
  | _ => .fail
theorem k_ones_ok : CtrOk Tryz.prog Gw 181 k_ones := by
  refine ⟨fun _ _ => by kernel_rfl, fun args M => ?_⟩
  unfold k_ones
  split
  · rename_i av am
    refine ctr_flat (Γ := ⟨[], eqs, [], [], [], mixs, meqs⟩) (sv := .u64 (av ||| am)) st_Gw ⟨okNil, eqs_ok, okNilB, okNilI, okNilP, mixs_ok, meqs_ok⟩ Tryz.func181 rfl mixed [] (by kernel_rfl) 10000 (by rfl) ?_
    (conv => whnf)
    (repeat' (first | (refine And.intro (fun hb => ?_) (fun hb => ?_) <;> (first | contradiction | (conv => whnf))) | (refine And.intro ?_ ?_; rotate_left 1; (conv => whnf))))
    all_goals (first | rfl | trivial | (simp_all [eqv, eqv1, eqv2, eqvL1, eqvL2]))
  · trivial
def k_noughts : List SV → List Blk → Res := fun args _ => match args with
  | [.agg [.u64 av, .u64 am]] => .ok (.u64 (~~~av)) []
  | _ => .fail
theorem k_noughts_ok : CtrOk Tryz.prog Gw 182 k_noughts := by
  refine ⟨fun _ _ => by kernel_rfl, fun args M => ?_⟩
  unfold k_noughts
  split
  · rename_i av am
    refine ctr_flat (Γ := ⟨[], eqs, [], [], [], mixs, meqs⟩) (sv := .u64 (~~~av)) st_Gw ⟨okNil, eqs_ok, okNilB, okNilI, okNilP, mixs_ok, meqs_ok⟩ Tryz.func182 rfl mixed [] (by kernel_rfl) 10000 (by rfl) ?_
    (conv => whnf)
    (repeat' (first | (refine And.intro (fun hb => ?_) (fun hb => ?_) <;> (first | contradiction | (conv => whnf))) | (refine And.intro ?_ ?_; rotate_left 1; (conv => whnf))))
    all_goals (first | rfl | trivial | (simp_all [eqv, eqv1, eqv2, eqvL1, eqvL2]))
  · trivial
def k_of : List SV → List Blk → Res := fun args _ => match args with
  | [.u64 x, .u64 y] => .ok (.tup [tsv (T.of x y).1, .bool (T.of x y).2]) []
  | _ => .fail
theorem k_of_ok : CtrOk Tryz.prog Gw 180 k_of := by
  refine ⟨fun _ _ => by kernel_rfl, fun args M => ?_⟩
  unfold k_of
  split
  · rename_i x y
    refine ctr_flat (Γ := ⟨[], eqs, [], [], [], mixs, meqs⟩) (sv := .tup [tsv (T.of x y).1, .bool (T.of x y).2]) st_Gw ⟨okNil, eqs_ok, okNilB, okNilI, okNilP, mixs_ok, meqs_ok⟩ Tryz.func180 rfl mixed [] (by kernel_rfl) 10000 (by rfl) ?_
    (conv => whnf)
    (repeat' (first | (refine And.intro (fun hb => ?_) (fun hb => ?_) <;> (first | contradiction | (conv => whnf))) | (refine And.intro ?_ ?_; rotate_left 1; (conv => whnf))))
    all_goals (first | rfl | trivial | (simp_all [eqv, eqv1, eqv2, eqvL1, eqvL2, T.of]))
  · trivial
theorem of_ones {t : Tn} (h : T.right t = true) : T.of (t.v ||| t.m) (~~~t.v) = (t, true) := by
  have h' : t.v &&& t.m = 0#64 := by simpa [T.right] using h
  unfold T.of
  have e1 : (t.v ||| t.m) ||| ~~~t.v = BitVec.allOnes 64 := by
    apply BitVec.eq_of_getLsbD_eq; intro i hi
    simp only [BitVec.getLsbD_or, BitVec.getLsbD_not, BitVec.getLsbD_allOnes, hi, decide_true, Bool.true_and]
    cases t.v.getLsbD i <;> simp
  have bit : ∀ i, (t.v.getLsbD i && t.m.getLsbD i) = false := fun i => by
    have := congrArg (fun x => BitVec.getLsbD x i) h'
    simpa using this
  have e2 : (t.v ||| t.m) &&& ~~~(~~~t.v) = t.v := by
    apply BitVec.eq_of_getLsbD_eq; intro i hi
    simp only [BitVec.getLsbD_and, BitVec.getLsbD_or, BitVec.getLsbD_not, hi, decide_true, Bool.true_and]
    cases t.v.getLsbD i <;> simp
  have e3 : (t.v ||| t.m) &&& ~~~t.v = t.m := by
    apply BitVec.eq_of_getLsbD_eq; intro i hi
    have := bit i
    simp only [BitVec.getLsbD_and, BitVec.getLsbD_or, BitVec.getLsbD_not, hi, decide_true, Bool.true_and]
    revert this; cases t.v.getLsbD i <;> cases t.m.getLsbD i <;> simp
  rw [e1, e2, e3]; simp
end Go.Proofs.YtgfemfgimefmeaaGreat
