import Derived.Test.YtobednfbejcaeaaSxL
import Derived.Test.YtobednfbejcaeaaTX2
namespace Go.Proofs.Ytobednfbejcaeaa
open Go.RowKit Go.Sx
set_option linter.unusedSimpArgs false
set_option linter.unusedVariables false
set_option linter.unnecessarySimpa false
set_option maxRecDepth 100000
set_option maxHeartbeats 4000000
def eT : Enc Tn := ⟨fun t => [.u64 t.v, .u64 t.m], fun l => match l with | [.u64 v, .u64 m] => ⟨v, m⟩ | _ => ⟨0, 0⟩, fun l => match l with | [.u64 _, .u64 _] => true | _ => false, ⟨0, 0⟩,
  fun l h => by revert h; split <;> simp_all, fun _ => rfl, fun _ => rfl⟩
namespace T
def foldT (no : Tn) (L : List Tn) : Tn := match L with
  | [] => no
  | t :: r => r.foldl T.join2 t
end T
theorem wrap_succ {j : Nat} (h : j < 1000000000000) : IntKind.i64.wrap ((j : Int) + 1) = ((j + 1 : Nat) : Int) := by
  rw [IntWalk.i64_in _ (by omega)]; omega
theorem fold_nil (nv nm : BitVec 64) : run Try.prog ⟨[(66, k_join2)], eqs, [], [], []⟩ 10000 [(6, 6, [0, 0, 0, 4, 12, 0, 62, 127, 255])] 0 (bodyOf Try.f65) (initF Try.f65 [.sl 0 2 0 0, .fn (.func 66) [] [], .agg [.u64 nv, .u64 nm]]) [.own 25 2 0 (gOf eT [])] (retK Try.prog Try.f65 fun x _ => eqv x (tsv (T.foldT ⟨nv, nm⟩ []))) := by
  (conv => whnf)
  (repeat' (first | (refine And.intro (fun hb => ?_) (fun hb => ?_) <;> (first | contradiction | (conv => whnf))) | (refine And.intro ?_ ?_; rotate_left 1; (conv => whnf))))
  all_goals first | rfl | trivial | simp_all
theorem fold_cons (t : Tn) (r : List Tn) (nv nm : BitVec 64) (hL : r.length < 1000000000000) : run Try.prog ⟨[(66, k_join2)], eqs, [], [], []⟩ 10000 [(6, 6, [0, 0, 0, 4, 12, 0, 62, 127, 255])] 0 (bodyOf Try.f65) (initF Try.f65 [.sl 0 2 0 (r.length + 1), .fn (.func 66) [] [], .agg [.u64 nv, .u64 nm]]) [.own 25 2 (r.length + 1) (gOf eT (t :: r))] (retK Try.prog Try.f65 fun x _ => eqv x (tsv (T.foldT ⟨nv, nm⟩ (t :: r)))) := by
  (conv => whnf)
  (repeat' (first | (refine And.intro (fun hb => ?_) (fun hb => ?_) <;> (first | contradiction | (conv => whnf))) | (refine And.intro ?_ ?_; rotate_left 1; (conv => whnf))))
  all_goals try (first | rfl | trivial | (simp; done) | (simp; omega) | (simp at hb ⊢; omega) | (simp only [decide_eq_true_eq, Bool.and_eq_true, Int.toNat_natCast] at *; omega))
  · refine .inr ⟨[], [0, 1, 6, 14, 15, 16], fun k vals M => ∃ j : Nat, j ≤ r.length ∧ k = r.length - j ∧ vals = [.sl 0 2 0 (r.length + 1), .fn (.func 66) [] [], .ptr 2 0, .sl 0 2 (0 + Int.toNat 1) (r.length + 1 - Int.toNat 1), .int .i64 ((r.length + 1 - Int.toNat 1 : Nat) : Int), .int .i64 (j : Int)] ∧ M = [.own 25 2 (r.length + 1) (gOf eT ((r.take j).foldl T.join2 t :: r)), .dead, .cells 25 [.u64 (BitVec.ofInt 64 0), .u64 (BitVec.ofInt 64 0)]], ?_⟩
    conv => whnf
    refine And.intro ⟨r.length, _, mle_cons ble_refl (mle_cons ble_dead (mle_cons ble_refl mle_nil)), rfl, rfl, 0, by omega, by omega, rfl, rfl⟩ ?_
    rintro k vals M1 ⟨j, hj, rfl, rfl, rfl⟩
    (conv => whnf)
    (repeat' (first | (refine And.intro (fun hb => ?_) (fun hb => ?_) <;> (first | contradiction | (conv => whnf))) | (refine And.intro ?_ ?_; rotate_left 1; (conv => whnf))))
    all_goals try (first | rfl | trivial | (simp; done) | (simp; omega) | (simp at hb ⊢; omega) | (simp only [decide_eq_true_eq, Bool.and_eq_true, Int.toNat_natCast] at *; omega))
    · have hlt : j < r.length := by simp at hb; omega
      have e : (r.take (j + 1)).foldl T.join2 t = T.join2 ((r.take j).foldl T.join2 t) r[j] := by rw [List.take_succ_eq_append_getElem hlt, List.foldl_append]; rfl
      refine ⟨r.length - (j + 1), [.own 25 2 (r.length + 1) (gOf eT ((r.take (j + 1)).foldl T.join2 t :: r)), .dead, .cells 25 [.u64 (BitVec.ofInt 64 0), .u64 (BitVec.ofInt 64 0)]], [0, 1, 2], by omega, rfl, mle_cons (ble_own rfl fun i hi => ?_) (mle_cons ble_dead (mle_cons ble_refl mle_nil)), rfl, rfl, j + 1, by omega, rfl, ?_, rfl⟩
      · rw [e]
        exact gSet_gOf eT (L := (r.take j).foldl T.join2 t :: r) (i := 0) (a := T.join2 ((r.take j).foldl T.join2 t) r[j]) (by simp) (by simp [eT, List.getD_eq_getElem?_getD, hlt, Nat.add_comm 1 j]) (by simp [eT]) i hi
      · rw [← wrap_succ (by omega)]; rfl
    · have : j = r.length := by simp at hb; omega
      subst this
      simp [eqv1, T.foldT]
    · have : j = r.length := by simp at hb; omega
      subst this
      simp [eqv1, T.foldT]
  · have hr : r = [] := by cases r with
      | nil => rfl
      | cons a r => simp at hb
    subst hr
    refine .inr ⟨[], [0, 6, 15, 16], fun k vals M => k = 0 ∧ vals = [.sl 0 2 0 1, .ptr 2 0, .int .i64 0, .int .i64 0] ∧ M = [.own 25 2 1 (gOf eT [t]), .dead, .cells 25 [.u64 (BitVec.ofInt 64 0), .u64 (BitVec.ofInt 64 0)]], ?_⟩
    conv => whnf
    refine And.intro ⟨0, _, mle_cons ble_refl (mle_cons ble_dead (mle_cons ble_refl mle_nil)), rfl, rfl, rfl, rfl, rfl⟩ ?_
    rintro k vals M1 ⟨rfl, rfl, rfl⟩
    (conv => whnf)
    (repeat' (first | (refine And.intro (fun hb => ?_) (fun hb => ?_) <;> (first | contradiction | (conv => whnf))) | (refine And.intro ?_ ?_; rotate_left 1; (conv => whnf))))
    all_goals try (first | rfl | trivial | (simp; done) | (simp; omega) | (simp at hb ⊢; omega) | (simp only [decide_eq_true_eq, Bool.and_eq_true, Int.toNat_natCast] at *; omega))
    all_goals first | (simp at hb; done) | (simp [eqv1, T.foldT]; done)

def k_fold : List SV → List Blk → BRes := fun args M => match args with
  | [.sl k sz 0 len, .fn (.func 66) [] [], .agg [.u64 nv, .u64 nm]] => match nth M k with
    | some (.own ty sz' m g) => match Nat.beq ty 25 && (Nat.beq sz 2 && Nat.beq sz' 2) with
      | true => .test (decide (len = m) && (allIs eT 0 m g && decide (m < 1000000000000))) (.ok (tsv (T.foldT ⟨nv, nm⟩ (elts eT 0 m g))) (M.set k .dead))
      | false => .fail
    | _ => .fail
  | _ => .fail
theorem fold_run (L : List Tn) (nv nm : BitVec 64) (hL : L.length < 1000000000000) : run Try.prog ⟨[(66, k_join2)], eqs, [], [], []⟩ 10000 [(6, 6, [0, 0, 0, 4, 12, 0, 62, 127, 255])] 0 (bodyOf Try.f65) (initF Try.f65 [.sl 0 2 0 L.length, .fn (.func 66) [] [], .agg [.u64 nv, .u64 nm]]) [.own 25 2 L.length (gOf eT L)] (retK Try.prog Try.f65 fun x _ => eqv x (tsv (T.foldT ⟨nv, nm⟩ L))) := by
  cases L with
  | nil => exact fold_nil nv nm
  | cons t r => exact fold_cons t r nv nm (by simp at hL; omega)
theorem k_fold_ok : BCtrOk Try.prog Gw 65 k_fold := by
  refine ⟨fun _ _ => by kernel_rfl, fun args M => ?_⟩
  unfold k_fold
  split
  · rename_i k sz len nv nm
    split
    · rename_i ty sz' m g hk
      split
      · rename_i hb
        simp only [Bool.and_eq_true] at hb
        obtain rfl := Nat.eq_of_beq_eq_true hb.1
        obtain rfl := Nat.eq_of_beq_eq_true hb.2.1
        obtain rfl := Nat.eq_of_beq_eq_true hb.2.2
        intro ht
        simp only [Bool.and_eq_true, decide_eq_true_eq] at ht
        obtain ⟨rfl, h1, h2⟩ := ht
        have hr := fold_run (elts eT 0 len g) nv nm (by rw [elts_length]; exact h2)
        rw [elts_length] at hr
        exact bctr_own (Γ := ⟨[(66, k_join2)], eqs, [], [], []⟩) ⟨(okCons k_join2_ok okNil), eqs_ok, okNilB, okNilI, okNilP⟩ Try.func65 rfl mixed [(6, 6, [0, 0, 0, 4, 12, 0, 62, 127, 255])] (by kernel_rfl) 10000 (by rw [← nth_eq]; exact hk) (fun i hi => by rw [gOf_elts eT h1 i hi, Nat.zero_add]) rfl hr
      · trivial
    · trivial
  · trivial
end Go.Proofs.Ytobednfbejcaeaa
