import Derived.Test.YtobednfbejcaeaaTX3
namespace Go.Proofs.Ytobednfbejcaeaa
open Go.RowKit Go.Sx
set_option linter.unusedSimpArgs false
set_option linter.unusedVariables false
set_option linter.unnecessarySimpa false
set_option maxRecDepth 100000
set_option maxHeartbeats 4000000
theorem getD_lt {L : List Tn} {j : Nat} (h : j < L.length) : L.getD (0 + ((j : Int)).toNat) eT.dft = L[j] := by simp [List.getD_eq_getElem?_getD, h]
theorem filter_le (L : List Tn) (j : Nat) : ((L.take j).filter T.right).length ≤ L.length := by
  have h1 := List.length_filter_le T.right (L.take j)
  simp at h1; omega
theorem filter_yes {L : List Tn} {j : Nat} (h : j < L.length) (hr : T.right L[j] = true) : (L.take (j + 1)).filter T.right = (L.take j).filter T.right ++ [L[j]] := by
  rw [List.take_succ_eq_append_getElem h, List.filter_append]; simp [hr]
theorem filter_no {L : List Tn} {j : Nat} (h : j < L.length) (hr : T.right L[j] = false) : (L.take (j + 1)).filter T.right = (L.take j).filter T.right := by
  rw [List.take_succ_eq_append_getElem h, List.filter_append]; simp [hr]
theorem join_eq (L : List Tn) : T.foldT ⟨0, BitVec.allOnes 64⟩ (L.filter T.right) = T.join L := by unfold T.foldT T.join; rfl

theorem join_run (L : List Tn) (hL : L.length < 1000000000000) : run Try.prog ⟨[(34, k_Right), (47, k_Unknown)], eqs, [(65, k_fold)], [], []⟩ 10000 [] 0 (bodyOf Try.f37) (initF Try.f37 [.sl 0 2 0 L.length]) [.ro 2 L.length (gOf eT L)] (retK Try.prog Try.f37 fun x _ => eqv x (tsv (T.join L))) := by
  (conv => whnf)
  (repeat' (first | (refine And.intro (fun hb => ?_) (fun hb => ?_) <;> (first | contradiction | (conv => whnf))) | (refine And.intro ?_ ?_; rotate_left 1; (conv => whnf))))
  refine .inr ⟨[(3, 25, 2)], [2, 3, 6, 7, 8], fun k vals M => ∃ j : Nat, j ≤ L.length ∧ k = L.length - j ∧ vals = [.ptr 1 0, .sl 2 2 0 ((L.take j).filter T.right).length, .sl 0 2 0 L.length, .int .i64 (L.length : Int), .int .i64 (j : Int)] ∧ M = [.ro 2 L.length (gOf eT L), .cells 25 [.u64 (BitVec.ofInt 64 0), .u64 (BitVec.ofInt 64 0)], .own 25 2 ((L.take j).filter T.right).length (gOf eT ((L.take j).filter T.right))], ?_⟩
  conv => whnf
  refine And.intro ⟨L.length, [.ro 2 L.length (gOf eT L), .cells 25 [.u64 (BitVec.ofInt 64 0), .u64 (BitVec.ofInt 64 0)], .own 25 2 0 (gOf eT [])], mle_cons ble_refl (mle_cons ble_refl (mle_cons (ble_own rfl fun i hi => absurd hi (Nat.not_lt_zero i)) mle_nil)), rfl, rfl, 0, by omega, by omega, rfl, rfl⟩ ?_
  rintro k vals M1 ⟨j, hj, rfl, rfl, rfl⟩
  (conv => whnf)
  (repeat' (first | (refine And.intro (fun hb => ?_) (fun hb => ?_) <;> (first | contradiction | (conv => whnf))) | (refine And.intro ?_ ?_; rotate_left 1; (conv => whnf))))
  all_goals try (first | rfl | trivial | (simp; done) | (simp; omega) | (simp at hb ⊢; omega) | (simp only [decide_eq_true_eq, Bool.and_eq_true, Int.toNat_natCast] at *; omega))
  · have hlt : j < L.length := by simpa using ‹decide ((j : Int) < (L.length : Int)) = true›
    rw [getD_lt hlt] at hb
    have e := filter_yes hlt hb
    refine ⟨L.length - (j + 1), [.ro 2 L.length (gOf eT L), .cells 25 [.u64 (BitVec.ofInt 64 0), .u64 (BitVec.ofInt 64 0)], .own 25 2 ((L.take (j + 1)).filter T.right).length (gOf eT ((L.take (j + 1)).filter T.right))], [0, 1, 5], by omega, rfl, mle_cons ble_refl (mle_cons ble_refl (mle_cons (ble_own (by rw [e]; simp) fun i hi => ?_) mle_nil)), rfl, rfl, j + 1, by omega, rfl, ?_, rfl⟩
    · rw [e] at hi ⊢
      exact gOf_snoc eT _ _ _ (by rw [getD_lt hlt]; rfl) i (by simpa using hi)
    · rw [← wrap_succ (by omega), show ((L.take (j + 1)).filter T.right).length = ((L.take j).filter T.right).length + 1 by rw [e]; simp]; rfl
  · have h1 := filter_le L j
    have h2 : Try.prog.types[25]!.bytes = 16 := by kernel_rfl
    rw [decide_eq_true_eq]
    exact ⟨by show (_ + 1) * Try.prog.types[25]!.bytes ≤ _; rw [h2]; omega, by omega⟩
  · have hlt : j < L.length := by simpa using ‹decide ((j : Int) < (L.length : Int)) = true›
    rw [getD_lt hlt] at hb
    have e := filter_no hlt hb
    refine ⟨L.length - (j + 1), [.ro 2 L.length (gOf eT L), .cells 25 [.u64 (BitVec.ofInt 64 0), .u64 (BitVec.ofInt 64 0)], .own 25 2 ((L.take (j + 1)).filter T.right).length (gOf eT ((L.take (j + 1)).filter T.right))], [0, 1, 2], by omega, rfl, mle_cons ble_refl (mle_cons ble_refl (mle_cons (ble_own (by rw [e]) fun i hi => by rw [e]) mle_nil)), rfl, rfl, j + 1, by omega, rfl, ?_, rfl⟩
    rw [← wrap_succ (by omega), e]; rfl
  all_goals
    have hj2 : j = L.length := by simp at hb; omega
    subst hj2
    simp only [List.take_length]
  · rw [elts_all, join_eq]; rfl
  · rw [elts_all, join_eq]; rfl
  · have := filter_le L L.length
    simp only [List.take_length] at this
    simp [allIs_gOf]; omega

def k_Join : List SV → List Blk → Res := fun args M => match args with
  | [.sl b sz off len] => match eltB (nth M b) with
    | some (sz', m, g) => match Nat.beq sz 2 && Nat.beq sz' 2 with
      | true => .test (decide (off + len ≤ m) && (allIs eT off len g && decide (len < 1000000000000))) (.ok (tsv (T.join (elts eT off len g))) [])
      | false => .fail
    | _ => .fail
  | _ => .fail
theorem k_Join_ok : CtrOk Try.prog Gw 37 k_Join := by
  refine ⟨fun _ _ => by kernel_rfl, fun args M => ?_⟩
  unfold k_Join
  split
  · rename_i b sz off len
    split
    · rename_i sz' m g hk
      split
      · rename_i hb
        simp only [Bool.and_eq_true] at hb
        obtain rfl := Nat.eq_of_beq_eq_true hb.1
        obtain rfl := Nat.eq_of_beq_eq_true hb.2
        intro ht
        simp only [Bool.and_eq_true, decide_eq_true_eq] at ht
        obtain ⟨hle, h1, h2⟩ := ht
        have hr := join_run (elts eT off len g) (by rw [elts_length]; exact h2)
        rw [elts_length] at hr
        exact ctr_row (Γ := ⟨[(34, k_Right), (47, k_Unknown)], eqs, [(65, k_fold)], [], []⟩) st_Gw ⟨(okCons k_Right_ok (okCons k_Unknown_ok okNil)), eqs_ok, (okConsB k_fold_ok okNilB), okNilI, okNilP⟩ Try.func37 rfl mixed [] (by kernel_rfl) 10000 hk hle (gOf_elts eT h1) rfl hr
      · trivial
    · trivial
  · trivial
end Go.Proofs.Ytobednfbejcaeaa
