import Derived.Test.YtobednfbejcaeaaXJ
import Derived.Test.YtobednfbejcaeaaX5
namespace Go.Proofs.Ytobednfbejcaeaa
open Go.RowKit Go.Sx
set_option linter.unusedSimpArgs false
set_option linter.unusedVariables false
set_option linter.unnecessarySimpa false
set_option maxRecDepth 100000
set_option maxHeartbeats 4000000
def eC : Enc Sc := ⟨fun x => [.u64 x.t.v, .u64 x.t.m, .u64 x.s.lo, .u64 x.s.hi, .int .i64 x.s.sl, .int .i64 x.s.sh], fun l => match l with | [.u64 p, .u64 q, .u64 a, .u64 b, .int .i64 c, .int .i64 d] => ⟨⟨p, q⟩, ⟨a, b, c, d⟩⟩ | _ => ⟨⟨0, 0⟩, ⟨0, 0, 0, 0⟩⟩, fun l => match l with | [.u64 _, .u64 _, .u64 _, .u64 _, .int .i64 _, .int .i64 _] => true | _ => false, ⟨⟨0, 0⟩, ⟨0, 0, 0, 0⟩⟩,
  fun l h => by revert h; split <;> simp_all, fun _ => rfl, fun _ => rfl⟩
namespace C
/-- Whether all numbers with a sign are such. -/
def ins (L : List Sc) : Bool := L.all fun x => R.inS x.s
def ts (L : List Sc) (j : Nat) : List Tn := ((L.take j).filter right).map (·.t)
def ss (L : List Sc) (j : Nat) : List Sp := ((L.take j).filter right).map (·.s)
section
variable {L : List Sc} {j : Nat}
theorem getD_lt (h : j < L.length) : L.getD (0 + ((j : Int)).toNat) eC.dft = L[j] := by simp [List.getD_eq_getElem?_getD, h]
theorem ins_at (h : ins L = true) (hj : j < L.length) : R.inS L[j].s = true := List.all_eq_true.1 h _ (List.getElem_mem hj)
theorem f_yes (h : j < L.length) (hr : right L[j] = true) : (L.take (j + 1)).filter right = (L.take j).filter right ++ [L[j]] := by
  rw [List.take_succ_eq_append_getElem h, List.filter_append]; simp [hr]
theorem f_no (h : j < L.length) (hr : right L[j] = false) : (L.take (j + 1)).filter right = (L.take j).filter right := by
  rw [List.take_succ_eq_append_getElem h, List.filter_append]; simp [hr]
theorem ts_yes (h : j < L.length) (hr : right L[j] = true) : ts L (j + 1) = ts L j ++ [L[j].t] := by unfold ts; rw [f_yes h hr]; simp
theorem ss_yes (h : j < L.length) (hr : right L[j] = true) : ss L (j + 1) = ss L j ++ [L[j].s] := by unfold ss; rw [f_yes h hr]; simp
theorem ts_no (h : j < L.length) (hr : right L[j] = false) : ts L (j + 1) = ts L j := by unfold ts; rw [f_no h hr]
theorem ss_no (h : j < L.length) (hr : right L[j] = false) : ss L (j + 1) = ss L j := by unfold ss; rw [f_no h hr]
theorem ts_le (L : List Sc) (j : Nat) : (ts L j).length ≤ L.length := by
  have h1 := List.length_filter_le right (L.take j)
  simp [ts] at h1 ⊢; omega
theorem ss_le (L : List Sc) (j : Nat) : (ss L j).length ≤ L.length := by
  have h1 := List.length_filter_le right (L.take j)
  simp [ss] at h1 ⊢; omega
theorem ss_len (L : List Sc) (j : Nat) : (ss L j).length = (ts L j).length := by simp [ss, ts]
theorem joinL_in {l : List Sp} (h : ∀ x ∈ l, R.inS x = true) : R.inS (S.joinL l) = true := by
  unfold S.joinL
  split
  · cases l with
    | nil => rfl
    | cons a r =>
      have key : ∀ (r : List Sp) (a : Sp), R.inS a = true → (∀ x ∈ r, R.inS x = true) → R.inS (r.foldl S.cup a) = true := by
        intro r
        induction r with
        | nil => exact fun a h _ => h
        | cons b r ih => exact fun a ha hr => ih _ (cup_in ha (hr b (by simp))) fun x hx => hr x (by simp [hx])
      exact key (a :: r) a (h a (by simp)) h
  · rfl
theorem ss_in (h : ins L = true) (j : Nat) : R.inS (S.joinL (ss L j)) = true := joinL_in fun x hx => by
  unfold ss at hx
  obtain ⟨y, hy, rfl⟩ := List.mem_map.1 hx
  exact List.all_eq_true.1 h y (List.mem_of_mem_take (List.mem_filter.1 hy).1)
theorem join_none (h : (((ts L L.length).length : Int) == 0) = true) : join L = unknown := by
  have h := eq_of_beq h
  have h0 : ((L.filter right).isEmpty) = true := by
    have : (ts L L.length).length = 0 := by omega
    unfold ts at this
    rw [List.take_length, List.length_map] at this
    rw [List.eq_nil_of_length_eq_zero this]; rfl
  unfold join; rw [h0]; rfl
theorem join_some (h : (((ts L L.length).length : Int) == 0) = false) : join L = (of (T.join (ts L L.length)) (S.joinL (ss L L.length))).1 := by
  have h := beq_eq_false_iff_ne.1 h
  have h0 : ((L.filter right).isEmpty) = false := by
    cases hb : (L.filter right).isEmpty with
    | false => rfl
    | true =>
      have : L.filter right = [] := List.isEmpty_iff.1 hb
      unfold ts at h
      rw [List.take_length, this] at h
      exact absurd rfl h
  unfold join ts ss; rw [h0, List.take_length]; rfl
theorem joinin (h : ins L = true) : R.inS (join L).s = true := by
  unfold join
  split
  · rfl
  · refine of_in (joinL_in fun x hx => ?_)
    obtain ⟨y, hy, rfl⟩ := List.mem_map.1 hx
    exact List.all_eq_true.1 h y (List.mem_filter.1 hy).1
end
end C
theorem cjoin_run (L : List Sc) (hL : L.length < 1000000000000) (hI : C.ins L = true) : run Try.prog ⟨[(11, k_cRight), (27, k_cUnknown), (9, k_Of), (37, k_Join), (38, k_sJoin)], eqs, [], [], []⟩ 10000 [] 0 (bodyOf Try.f12) (initF Try.f12 [.sl 0 6 0 L.length]) [.ro 6 L.length (gOf eC L)] (retK Try.prog Try.f12 fun x _ => eqv x (scv (C.join L))) := by
  (conv => whnf)
  (repeat' (first | (refine And.intro (fun hb => ?_) (fun hb => ?_) <;> (first | contradiction | (conv => whnf))) | (refine And.intro (a := (_ : Bool) = true) ?_ ?_; rotate_left 1; (conv => whnf))))
  refine .inr ⟨[(3, 25, 2), (4, 27, 4)], [2, 3, 4, 9, 10, 11], fun k vals M => ∃ j : Nat, j ≤ L.length ∧ k = L.length - j ∧ vals = [.ptr 1 0, .sl 2 2 0 (C.ts L j).length, .sl 3 4 0 (C.ts L j).length, .sl 0 6 0 L.length, .int .i64 (L.length : Int), .int .i64 (j : Int)] ∧ M = [.ro 6 L.length (gOf eC L), .cells 29 [.u64 (BitVec.ofInt 64 0), .u64 (BitVec.ofInt 64 0), .u64 (BitVec.ofInt 64 0), .u64 (BitVec.ofInt 64 0), .int .i64 0, .int .i64 0], .own 25 2 (C.ts L j).length (gOf eT (C.ts L j)), .own 27 4 (C.ts L j).length (gOf eS (C.ss L j))], ?_⟩
  conv => whnf
  refine And.intro ⟨L.length, [.ro 6 L.length (gOf eC L), .cells 29 [.u64 (BitVec.ofInt 64 0), .u64 (BitVec.ofInt 64 0), .u64 (BitVec.ofInt 64 0), .u64 (BitVec.ofInt 64 0), .int .i64 0, .int .i64 0], .own 25 2 0 (gOf eT []), .own 27 4 0 (gOf eS [])], mle_cons ble_refl (mle_cons ble_refl (mle_cons (ble_own rfl fun i hi => absurd hi (Nat.not_lt_zero i)) (mle_cons (ble_own rfl fun i hi => absurd hi (Nat.not_lt_zero i)) mle_nil))), rfl, rfl, 0, by omega, by omega, rfl, rfl⟩ ?_
  rintro k vals M1 ⟨j, hj, rfl, rfl, rfl⟩
  (conv => whnf)
  (repeat' (first | (refine And.intro (fun hb => ?_) (fun hb => ?_) <;> (first | contradiction | (conv => whnf))) | (refine And.intro (a := (_ : Bool) = true) ?_ ?_; rotate_left 1; (conv => whnf))))
  all_goals try (first | rfl | trivial | (simp; done) | (simp; omega) | (simp at hb ⊢; omega) | (simp only [decide_eq_true_eq, Bool.and_eq_true, Int.toNat_natCast] at *; omega))
  · have hlt : j < L.length := by simpa using ‹decide ((j : Int) < (L.length : Int)) = true›
    have e := C.getD_lt hlt
    have hr : C.right L[j] = true := (by rw [← e]; assumption)
    refine ⟨L.length - (j + 1), [.ro 6 L.length (gOf eC L), .cells 29 [.u64 (BitVec.ofInt 64 0), .u64 (BitVec.ofInt 64 0), .u64 (BitVec.ofInt 64 0), .u64 (BitVec.ofInt 64 0), .int .i64 0, .int .i64 0], .own 25 2 (C.ts L (j + 1)).length (gOf eT (C.ts L (j + 1))), .own 27 4 (C.ts L (j + 1)).length (gOf eS (C.ss L (j + 1)))], [0, 1, 6, 8], by omega, rfl, mle_cons ble_refl (mle_cons ble_refl (mle_cons (ble_own (by rw [C.ts_yes hlt hr]; simp) fun i hi => by rw [C.ts_yes hlt hr] at hi ⊢; exact gOf_snoc eT _ _ _ (by rw [← e]; rfl) i (by simpa using hi)) (mle_cons (ble_own (by rw [C.ts_yes hlt hr]; simp) fun i hi => by rw [C.ts_yes hlt hr] at hi; rw [C.ss_yes hlt hr]; have hl := C.ss_len L j; rw [← hl]; exact gOf_snoc eS _ _ _ (by rw [← e]; rfl) i (by rw [hl]; simpa using hi)) mle_nil))), rfl, rfl, j + 1, by omega, rfl, ?_, rfl⟩
    rw [← wrap_succ (by omega), show (C.ts L (j + 1)).length = (C.ts L j).length + 1 by rw [C.ts_yes hlt hr]; simp]; rfl
  · have h1 := C.ts_le L j; have h2 : Try.prog.types[27]!.bytes = 32 := (by kernel_rfl); rw [decide_eq_true_eq]; exact ⟨by show (_ + 1) * Try.prog.types[27]!.bytes ≤ _; rw [h2]; omega, by omega⟩
  · have h1 := C.ts_le L j; have h2 : Try.prog.types[25]!.bytes = 16 := (by kernel_rfl); rw [decide_eq_true_eq]; exact ⟨by show (_ + 1) * Try.prog.types[25]!.bytes ≤ _; rw [h2]; omega, by omega⟩
  · have hlt : j < L.length := by simpa using ‹decide ((j : Int) < (L.length : Int)) = true›
    have e := C.getD_lt hlt
    have hr : C.right L[j] = true := (by rw [← e]; assumption)
    refine ⟨L.length - (j + 1), [.ro 6 L.length (gOf eC L), .cells 29 [.u64 (BitVec.ofInt 64 0), .u64 (BitVec.ofInt 64 0), .u64 (BitVec.ofInt 64 0), .u64 (BitVec.ofInt 64 0), .int .i64 0, .int .i64 0], .own 25 2 (C.ts L (j + 1)).length (gOf eT (C.ts L (j + 1))), .own 27 4 (C.ts L (j + 1)).length (gOf eS (C.ss L (j + 1)))], [0, 1, 6, 8], by omega, rfl, mle_cons ble_refl (mle_cons ble_refl (mle_cons (ble_own (by rw [C.ts_yes hlt hr]; simp) fun i hi => by rw [C.ts_yes hlt hr] at hi ⊢; exact gOf_snoc eT _ _ _ (by rw [← e]; rfl) i (by simpa using hi)) (mle_cons (ble_own (by rw [C.ts_yes hlt hr]; simp) fun i hi => by rw [C.ts_yes hlt hr] at hi; rw [C.ss_yes hlt hr]; have hl := C.ss_len L j; rw [← hl]; exact gOf_snoc eS _ _ _ (by rw [← e]; rfl) i (by rw [hl]; simpa using hi)) mle_nil))), rfl, rfl, j + 1, by omega, rfl, ?_, rfl⟩
    rw [← wrap_succ (by omega), show (C.ts L (j + 1)).length = (C.ts L j).length + 1 by rw [C.ts_yes hlt hr]; simp]; rfl
  · have h1 := C.ts_le L j; have h2 : Try.prog.types[27]!.bytes = 32 := (by kernel_rfl); rw [decide_eq_true_eq]; exact ⟨by show (_ + 1) * Try.prog.types[27]!.bytes ≤ _; rw [h2]; omega, by omega⟩
  · have h1 := C.ts_le L j; have h2 : Try.prog.types[25]!.bytes = 16 := (by kernel_rfl); rw [decide_eq_true_eq]; exact ⟨by show (_ + 1) * Try.prog.types[25]!.bytes ≤ _; rw [h2]; omega, by omega⟩
  · have hlt : j < L.length := by simpa using ‹decide ((j : Int) < (L.length : Int)) = true›
    have e := C.getD_lt hlt
    have hr : C.right L[j] = true := (by rw [← e]; assumption)
    refine ⟨L.length - (j + 1), [.ro 6 L.length (gOf eC L), .cells 29 [.u64 (BitVec.ofInt 64 0), .u64 (BitVec.ofInt 64 0), .u64 (BitVec.ofInt 64 0), .u64 (BitVec.ofInt 64 0), .int .i64 0, .int .i64 0], .own 25 2 (C.ts L (j + 1)).length (gOf eT (C.ts L (j + 1))), .own 27 4 (C.ts L (j + 1)).length (gOf eS (C.ss L (j + 1)))], [0, 1, 7, 8], by omega, rfl, mle_cons ble_refl (mle_cons ble_refl (mle_cons (ble_own (by rw [C.ts_yes hlt hr]; simp) fun i hi => by rw [C.ts_yes hlt hr] at hi ⊢; exact gOf_snoc eT _ _ _ (by rw [← e]; rfl) i (by simpa using hi)) (mle_cons (ble_own (by rw [C.ts_yes hlt hr]; simp) fun i hi => by rw [C.ts_yes hlt hr] at hi; rw [C.ss_yes hlt hr]; have hl := C.ss_len L j; rw [← hl]; exact gOf_snoc eS _ _ _ (by rw [← e]; rfl) i (by rw [hl]; simpa using hi)) mle_nil))), rfl, rfl, j + 1, by omega, rfl, ?_, rfl⟩
    rw [← wrap_succ (by omega), show (C.ts L (j + 1)).length = (C.ts L j).length + 1 by rw [C.ts_yes hlt hr]; simp]; rfl
  · have h1 := C.ts_le L j; have h2 : Try.prog.types[27]!.bytes = 32 := (by kernel_rfl); rw [decide_eq_true_eq]; exact ⟨by show (_ + 1) * Try.prog.types[27]!.bytes ≤ _; rw [h2]; omega, by omega⟩
  · have h1 := C.ts_le L j; have h2 : Try.prog.types[25]!.bytes = 16 := (by kernel_rfl); rw [decide_eq_true_eq]; exact ⟨by show (_ + 1) * Try.prog.types[25]!.bytes ≤ _; rw [h2]; omega, by omega⟩
  · have hlt : j < L.length := by simpa using ‹decide ((j : Int) < (L.length : Int)) = true›
    have e := C.getD_lt hlt
    have hr : C.right L[j] = true := (by rw [← e]; assumption)
    refine ⟨L.length - (j + 1), [.ro 6 L.length (gOf eC L), .cells 29 [.u64 (BitVec.ofInt 64 0), .u64 (BitVec.ofInt 64 0), .u64 (BitVec.ofInt 64 0), .u64 (BitVec.ofInt 64 0), .int .i64 0, .int .i64 0], .own 25 2 (C.ts L (j + 1)).length (gOf eT (C.ts L (j + 1))), .own 27 4 (C.ts L (j + 1)).length (gOf eS (C.ss L (j + 1)))], [0, 1, 6, 8], by omega, rfl, mle_cons ble_refl (mle_cons ble_refl (mle_cons (ble_own (by rw [C.ts_yes hlt hr]; simp) fun i hi => by rw [C.ts_yes hlt hr] at hi ⊢; exact gOf_snoc eT _ _ _ (by rw [← e]; rfl) i (by simpa using hi)) (mle_cons (ble_own (by rw [C.ts_yes hlt hr]; simp) fun i hi => by rw [C.ts_yes hlt hr] at hi; rw [C.ss_yes hlt hr]; have hl := C.ss_len L j; rw [← hl]; exact gOf_snoc eS _ _ _ (by rw [← e]; rfl) i (by rw [hl]; simpa using hi)) mle_nil))), rfl, rfl, j + 1, by omega, rfl, ?_, rfl⟩
    rw [← wrap_succ (by omega), show (C.ts L (j + 1)).length = (C.ts L j).length + 1 by rw [C.ts_yes hlt hr]; simp]; rfl
  · have h1 := C.ts_le L j; have h2 : Try.prog.types[27]!.bytes = 32 := (by kernel_rfl); rw [decide_eq_true_eq]; exact ⟨by show (_ + 1) * Try.prog.types[27]!.bytes ≤ _; rw [h2]; omega, by omega⟩
  · have h1 := C.ts_le L j; have h2 : Try.prog.types[25]!.bytes = 16 := (by kernel_rfl); rw [decide_eq_true_eq]; exact ⟨by show (_ + 1) * Try.prog.types[25]!.bytes ≤ _; rw [h2]; omega, by omega⟩
  · have hlt : j < L.length := by simpa using ‹decide ((j : Int) < (L.length : Int)) = true›
    have e := C.getD_lt hlt
    have hr : C.right L[j] = true := (by rw [← e]; assumption)
    refine ⟨L.length - (j + 1), [.ro 6 L.length (gOf eC L), .cells 29 [.u64 (BitVec.ofInt 64 0), .u64 (BitVec.ofInt 64 0), .u64 (BitVec.ofInt 64 0), .u64 (BitVec.ofInt 64 0), .int .i64 0, .int .i64 0], .own 25 2 (C.ts L (j + 1)).length (gOf eT (C.ts L (j + 1))), .own 27 4 (C.ts L (j + 1)).length (gOf eS (C.ss L (j + 1)))], [0, 1, 7, 8], by omega, rfl, mle_cons ble_refl (mle_cons ble_refl (mle_cons (ble_own (by rw [C.ts_yes hlt hr]; simp) fun i hi => by rw [C.ts_yes hlt hr] at hi ⊢; exact gOf_snoc eT _ _ _ (by rw [← e]; rfl) i (by simpa using hi)) (mle_cons (ble_own (by rw [C.ts_yes hlt hr]; simp) fun i hi => by rw [C.ts_yes hlt hr] at hi; rw [C.ss_yes hlt hr]; have hl := C.ss_len L j; rw [← hl]; exact gOf_snoc eS _ _ _ (by rw [← e]; rfl) i (by rw [hl]; simpa using hi)) mle_nil))), rfl, rfl, j + 1, by omega, rfl, ?_, rfl⟩
    rw [← wrap_succ (by omega), show (C.ts L (j + 1)).length = (C.ts L j).length + 1 by rw [C.ts_yes hlt hr]; simp]; rfl
  · have h1 := C.ts_le L j; have h2 : Try.prog.types[27]!.bytes = 32 := (by kernel_rfl); rw [decide_eq_true_eq]; exact ⟨by show (_ + 1) * Try.prog.types[27]!.bytes ≤ _; rw [h2]; omega, by omega⟩
  · have h1 := C.ts_le L j; have h2 : Try.prog.types[25]!.bytes = 16 := (by kernel_rfl); rw [decide_eq_true_eq]; exact ⟨by show (_ + 1) * Try.prog.types[25]!.bytes ≤ _; rw [h2]; omega, by omega⟩
  · have hlt : j < L.length := by simpa using ‹decide ((j : Int) < (L.length : Int)) = true›
    have e := C.getD_lt hlt
    have hr : C.right L[j] = true := (by rw [← e]; assumption)
    refine ⟨L.length - (j + 1), [.ro 6 L.length (gOf eC L), .cells 29 [.u64 (BitVec.ofInt 64 0), .u64 (BitVec.ofInt 64 0), .u64 (BitVec.ofInt 64 0), .u64 (BitVec.ofInt 64 0), .int .i64 0, .int .i64 0], .own 25 2 (C.ts L (j + 1)).length (gOf eT (C.ts L (j + 1))), .own 27 4 (C.ts L (j + 1)).length (gOf eS (C.ss L (j + 1)))], [0, 1, 7, 8], by omega, rfl, mle_cons ble_refl (mle_cons ble_refl (mle_cons (ble_own (by rw [C.ts_yes hlt hr]; simp) fun i hi => by rw [C.ts_yes hlt hr] at hi ⊢; exact gOf_snoc eT _ _ _ (by rw [← e]; rfl) i (by simpa using hi)) (mle_cons (ble_own (by rw [C.ts_yes hlt hr]; simp) fun i hi => by rw [C.ts_yes hlt hr] at hi; rw [C.ss_yes hlt hr]; have hl := C.ss_len L j; rw [← hl]; exact gOf_snoc eS _ _ _ (by rw [← e]; rfl) i (by rw [hl]; simpa using hi)) mle_nil))), rfl, rfl, j + 1, by omega, rfl, ?_, rfl⟩
    rw [← wrap_succ (by omega), show (C.ts L (j + 1)).length = (C.ts L j).length + 1 by rw [C.ts_yes hlt hr]; simp]; rfl
  · have h1 := C.ts_le L j; have h2 : Try.prog.types[27]!.bytes = 32 := (by kernel_rfl); rw [decide_eq_true_eq]; exact ⟨by show (_ + 1) * Try.prog.types[27]!.bytes ≤ _; rw [h2]; omega, by omega⟩
  · have h1 := C.ts_le L j; have h2 : Try.prog.types[25]!.bytes = 16 := (by kernel_rfl); rw [decide_eq_true_eq]; exact ⟨by show (_ + 1) * Try.prog.types[25]!.bytes ≤ _; rw [h2]; omega, by omega⟩
  · have hlt : j < L.length := by simpa using ‹decide ((j : Int) < (L.length : Int)) = true›
    have e := C.getD_lt hlt
    have hr : C.right L[j] = true := (by rw [← e]; assumption)
    refine ⟨L.length - (j + 1), [.ro 6 L.length (gOf eC L), .cells 29 [.u64 (BitVec.ofInt 64 0), .u64 (BitVec.ofInt 64 0), .u64 (BitVec.ofInt 64 0), .u64 (BitVec.ofInt 64 0), .int .i64 0, .int .i64 0], .own 25 2 (C.ts L (j + 1)).length (gOf eT (C.ts L (j + 1))), .own 27 4 (C.ts L (j + 1)).length (gOf eS (C.ss L (j + 1)))], [0, 1, 6, 8], by omega, rfl, mle_cons ble_refl (mle_cons ble_refl (mle_cons (ble_own (by rw [C.ts_yes hlt hr]; simp) fun i hi => by rw [C.ts_yes hlt hr] at hi ⊢; exact gOf_snoc eT _ _ _ (by rw [← e]; rfl) i (by simpa using hi)) (mle_cons (ble_own (by rw [C.ts_yes hlt hr]; simp) fun i hi => by rw [C.ts_yes hlt hr] at hi; rw [C.ss_yes hlt hr]; have hl := C.ss_len L j; rw [← hl]; exact gOf_snoc eS _ _ _ (by rw [← e]; rfl) i (by rw [hl]; simpa using hi)) mle_nil))), rfl, rfl, j + 1, by omega, rfl, ?_, rfl⟩
    rw [← wrap_succ (by omega), show (C.ts L (j + 1)).length = (C.ts L j).length + 1 by rw [C.ts_yes hlt hr]; simp]; rfl
  · have h1 := C.ts_le L j; have h2 : Try.prog.types[27]!.bytes = 32 := (by kernel_rfl); rw [decide_eq_true_eq]; exact ⟨by show (_ + 1) * Try.prog.types[27]!.bytes ≤ _; rw [h2]; omega, by omega⟩
  · have h1 := C.ts_le L j; have h2 : Try.prog.types[25]!.bytes = 16 := (by kernel_rfl); rw [decide_eq_true_eq]; exact ⟨by show (_ + 1) * Try.prog.types[25]!.bytes ≤ _; rw [h2]; omega, by omega⟩
  · have hlt : j < L.length := by simpa using ‹decide ((j : Int) < (L.length : Int)) = true›
    have e := C.getD_lt hlt
    have hr : C.right L[j] = true := (by rw [← e]; assumption)
    refine ⟨L.length - (j + 1), [.ro 6 L.length (gOf eC L), .cells 29 [.u64 (BitVec.ofInt 64 0), .u64 (BitVec.ofInt 64 0), .u64 (BitVec.ofInt 64 0), .u64 (BitVec.ofInt 64 0), .int .i64 0, .int .i64 0], .own 25 2 (C.ts L (j + 1)).length (gOf eT (C.ts L (j + 1))), .own 27 4 (C.ts L (j + 1)).length (gOf eS (C.ss L (j + 1)))], [0, 1, 7, 8], by omega, rfl, mle_cons ble_refl (mle_cons ble_refl (mle_cons (ble_own (by rw [C.ts_yes hlt hr]; simp) fun i hi => by rw [C.ts_yes hlt hr] at hi ⊢; exact gOf_snoc eT _ _ _ (by rw [← e]; rfl) i (by simpa using hi)) (mle_cons (ble_own (by rw [C.ts_yes hlt hr]; simp) fun i hi => by rw [C.ts_yes hlt hr] at hi; rw [C.ss_yes hlt hr]; have hl := C.ss_len L j; rw [← hl]; exact gOf_snoc eS _ _ _ (by rw [← e]; rfl) i (by rw [hl]; simpa using hi)) mle_nil))), rfl, rfl, j + 1, by omega, rfl, ?_, rfl⟩
    rw [← wrap_succ (by omega), show (C.ts L (j + 1)).length = (C.ts L j).length + 1 by rw [C.ts_yes hlt hr]; simp]; rfl
  · have h1 := C.ts_le L j; have h2 : Try.prog.types[27]!.bytes = 32 := (by kernel_rfl); rw [decide_eq_true_eq]; exact ⟨by show (_ + 1) * Try.prog.types[27]!.bytes ≤ _; rw [h2]; omega, by omega⟩
  · have h1 := C.ts_le L j; have h2 : Try.prog.types[25]!.bytes = 16 := (by kernel_rfl); rw [decide_eq_true_eq]; exact ⟨by show (_ + 1) * Try.prog.types[25]!.bytes ≤ _; rw [h2]; omega, by omega⟩
  · have hlt : j < L.length := by simpa using ‹decide ((j : Int) < (L.length : Int)) = true›
    have e := C.getD_lt hlt
    have hr : C.right L[j] = true := (by rw [← e]; assumption)
    refine ⟨L.length - (j + 1), [.ro 6 L.length (gOf eC L), .cells 29 [.u64 (BitVec.ofInt 64 0), .u64 (BitVec.ofInt 64 0), .u64 (BitVec.ofInt 64 0), .u64 (BitVec.ofInt 64 0), .int .i64 0, .int .i64 0], .own 25 2 (C.ts L (j + 1)).length (gOf eT (C.ts L (j + 1))), .own 27 4 (C.ts L (j + 1)).length (gOf eS (C.ss L (j + 1)))], [0, 1, 7, 8], by omega, rfl, mle_cons ble_refl (mle_cons ble_refl (mle_cons (ble_own (by rw [C.ts_yes hlt hr]; simp) fun i hi => by rw [C.ts_yes hlt hr] at hi ⊢; exact gOf_snoc eT _ _ _ (by rw [← e]; rfl) i (by simpa using hi)) (mle_cons (ble_own (by rw [C.ts_yes hlt hr]; simp) fun i hi => by rw [C.ts_yes hlt hr] at hi; rw [C.ss_yes hlt hr]; have hl := C.ss_len L j; rw [← hl]; exact gOf_snoc eS _ _ _ (by rw [← e]; rfl) i (by rw [hl]; simpa using hi)) mle_nil))), rfl, rfl, j + 1, by omega, rfl, ?_, rfl⟩
    rw [← wrap_succ (by omega), show (C.ts L (j + 1)).length = (C.ts L j).length + 1 by rw [C.ts_yes hlt hr]; simp]; rfl
  · have h1 := C.ts_le L j; have h2 : Try.prog.types[27]!.bytes = 32 := (by kernel_rfl); rw [decide_eq_true_eq]; exact ⟨by show (_ + 1) * Try.prog.types[27]!.bytes ≤ _; rw [h2]; omega, by omega⟩
  · have h1 := C.ts_le L j; have h2 : Try.prog.types[25]!.bytes = 16 := (by kernel_rfl); rw [decide_eq_true_eq]; exact ⟨by show (_ + 1) * Try.prog.types[25]!.bytes ≤ _; rw [h2]; omega, by omega⟩
  · have hlt : j < L.length := by simpa using ‹decide ((j : Int) < (L.length : Int)) = true›
    have e := C.getD_lt hlt
    have hr : C.right L[j] = true := (by rw [← e]; assumption)
    refine ⟨L.length - (j + 1), [.ro 6 L.length (gOf eC L), .cells 29 [.u64 (BitVec.ofInt 64 0), .u64 (BitVec.ofInt 64 0), .u64 (BitVec.ofInt 64 0), .u64 (BitVec.ofInt 64 0), .int .i64 0, .int .i64 0], .own 25 2 (C.ts L (j + 1)).length (gOf eT (C.ts L (j + 1))), .own 27 4 (C.ts L (j + 1)).length (gOf eS (C.ss L (j + 1)))], [0, 1, 7, 8], by omega, rfl, mle_cons ble_refl (mle_cons ble_refl (mle_cons (ble_own (by rw [C.ts_yes hlt hr]; simp) fun i hi => by rw [C.ts_yes hlt hr] at hi ⊢; exact gOf_snoc eT _ _ _ (by rw [← e]; rfl) i (by simpa using hi)) (mle_cons (ble_own (by rw [C.ts_yes hlt hr]; simp) fun i hi => by rw [C.ts_yes hlt hr] at hi; rw [C.ss_yes hlt hr]; have hl := C.ss_len L j; rw [← hl]; exact gOf_snoc eS _ _ _ (by rw [← e]; rfl) i (by rw [hl]; simpa using hi)) mle_nil))), rfl, rfl, j + 1, by omega, rfl, ?_, rfl⟩
    rw [← wrap_succ (by omega), show (C.ts L (j + 1)).length = (C.ts L j).length + 1 by rw [C.ts_yes hlt hr]; simp]; rfl
  · have h1 := C.ts_le L j; have h2 : Try.prog.types[27]!.bytes = 32 := (by kernel_rfl); rw [decide_eq_true_eq]; exact ⟨by show (_ + 1) * Try.prog.types[27]!.bytes ≤ _; rw [h2]; omega, by omega⟩
  · have h1 := C.ts_le L j; have h2 : Try.prog.types[25]!.bytes = 16 := (by kernel_rfl); rw [decide_eq_true_eq]; exact ⟨by show (_ + 1) * Try.prog.types[25]!.bytes ≤ _; rw [h2]; omega, by omega⟩
  · have hlt : j < L.length := by simpa using ‹decide ((j : Int) < (L.length : Int)) = true›
    have e := C.getD_lt hlt
    have hr : C.right L[j] = false := (by rw [← e]; assumption)
    refine ⟨L.length - (j + 1), [.ro 6 L.length (gOf eC L), .cells 29 [.u64 (BitVec.ofInt 64 0), .u64 (BitVec.ofInt 64 0), .u64 (BitVec.ofInt 64 0), .u64 (BitVec.ofInt 64 0), .int .i64 0, .int .i64 0], .own 25 2 (C.ts L (j + 1)).length (gOf eT (C.ts L (j + 1))), .own 27 4 (C.ts L (j + 1)).length (gOf eS (C.ss L (j + 1)))], [0, 1, 2, 3], by omega, rfl, mle_cons ble_refl (mle_cons ble_refl (mle_cons (ble_own (by rw [C.ts_no hlt hr]) fun i hi => by rw [C.ts_no hlt hr]) (mle_cons (ble_own (by rw [C.ts_no hlt hr]) fun i hi => by rw [C.ss_no hlt hr]) mle_nil))), rfl, rfl, j + 1, by omega, rfl, ?_, rfl⟩
    rw [← wrap_succ (by omega), C.ts_no hlt hr]; rfl
  · have hlt : j < L.length := by simpa using ‹decide ((j : Int) < (L.length : Int)) = true›
    have e := C.getD_lt hlt
    exact e ▸ C.ins_at hI hlt
  · have hj2 : j = L.length := by (have h : ¬ (j : Int) < (L.length : Int) := of_decide_eq_false ‹decide ((j : Int) < (L.length : Int)) = false›); omega
    subst hj2
    rw [C.join_none (by assumption)]; exact ⟨rfl, rfl, rfl, rfl, ⟨rfl, rfl⟩, ⟨rfl, rfl⟩, trivial⟩
  · have hj2 : j = L.length := by (have h : ¬ (j : Int) < (L.length : Int) := of_decide_eq_false ‹decide ((j : Int) < (L.length : Int)) = false›); omega
    subst hj2
    rw [C.join_some (by assumption), elts_all, ← C.ss_len L L.length, elts_all]; exact ⟨rfl, rfl, rfl, rfl, ⟨rfl, rfl⟩, ⟨rfl, rfl⟩, trivial⟩
  · have hj2 : j = L.length := by (have h : ¬ (j : Int) < (L.length : Int) := of_decide_eq_false ‹decide ((j : Int) < (L.length : Int)) = false›); omega
    subst hj2
    rw [← C.ss_len L L.length, elts_all]; exact C.ss_in hI _
  · have h1 := C.ts_le L j; have h2 := C.ss_len L j; rw [← C.ss_len L j, allIs_gOf]; simp; omega
  · have h1 := C.ts_le L j; rw [allIs_gOf]; simp; omega
def k_cJoin : List SV → List Blk → Res := fun args M => match args with
  | [.sl b sz off len] => match eltB (nth M b) with
    | some (sz', m, g) => match Nat.beq sz 6 && Nat.beq sz' 6 with
      | true => .test (decide (off + len ≤ m) && (allIs eC off len g && (decide (len < 1000000000000) && C.ins (elts eC off len g)))) (.ok (scv (C.join (elts eC off len g))) [])
      | false => .fail
    | _ => .fail
  | _ => .fail
theorem k_cJoin_ok : CtrOk Try.prog Gw 12 k_cJoin := by
  refine ⟨fun _ _ => by kernel_rfl, fun args M => ?_⟩
  unfold k_cJoin
  split
  · rename_i b sz off len
    split
    · rename_i sz' m g hk
      split
      · rename_i hb
        simp only [Bool.and_eq_true] at hb
        obtain rfl := Nat.eq_of_beq_eq_true hb.1
        obtain rfl := Nat.eq_of_beq_eq_true hb.2
        intro ht
        simp only [Bool.and_eq_true, decide_eq_true_eq] at ht
        obtain ⟨hle, h1, h2, h3⟩ := ht
        have hr := cjoin_run (elts eC off len g) (by rw [elts_length]; exact h2) h3
        rw [elts_length] at hr
        exact ctr_row (Γ := ⟨[(11, k_cRight), (27, k_cUnknown), (9, k_Of), (37, k_Join), (38, k_sJoin)], eqs, [], [], []⟩) st_Gw ⟨(okCons k_cRight_ok (okCons k_cUnknown_ok (okCons k_Of_ok (okCons k_Join_ok (okCons k_sJoin_ok okNil))))), eqs_ok, okNilB, okNilI, okNilP⟩ Try.func12 rfl mixed [] (by kernel_rfl) 10000 hk hle (gOf_elts eC h1) rfl hr
      · trivial
    · trivial
  · trivial
theorem qjoin_run (L : List Sc) (hL : L.length < 1000000000000) (hI : C.ins L = true) : run Try.prog ⟨[(21, k_qRight), (28, k_qUnknown), (39, k_rTog), (40, k_rJoin), (41, k_srJoin)], eqs, [], [], []⟩ 10000 [] 0 (bodyOf Try.f13) (initF Try.f13 [.sl 0 6 0 L.length]) [.ro 6 L.length (gOf eC L)] (retK Try.prog Try.f13 fun x _ => eqv x (scv (C.join L))) := by
  (conv => whnf)
  (repeat' (first | (refine And.intro (fun hb => ?_) (fun hb => ?_) <;> (first | contradiction | (conv => whnf))) | (refine And.intro (a := (_ : Bool) = true) ?_ ?_; rotate_left 1; (conv => whnf))))
  refine .inr ⟨[(3, 25, 2), (4, 27, 4)], [0, 2, 3, 4, 5], fun k vals M => ∃ j : Nat, j ≤ L.length ∧ k = L.length - j ∧ vals = [.sl 0 6 0 L.length, .ptr 1 0, .sl 2 2 0 (C.ts L j).length, .sl 3 4 0 (C.ts L j).length, .int .i64 (j : Int)] ∧ M = [.ro 6 L.length (gOf eC L), .cells 29 [.u64 (BitVec.ofInt 64 0), .u64 (BitVec.ofInt 64 0), .u64 (BitVec.ofInt 64 0), .u64 (BitVec.ofInt 64 0), .int .i64 0, .int .i64 0], .own 25 2 (C.ts L j).length (gOf eT (C.ts L j)), .own 27 4 (C.ts L j).length (gOf eS (C.ss L j))], ?_⟩
  conv => whnf
  refine And.intro ⟨L.length, [.ro 6 L.length (gOf eC L), .cells 29 [.u64 (BitVec.ofInt 64 0), .u64 (BitVec.ofInt 64 0), .u64 (BitVec.ofInt 64 0), .u64 (BitVec.ofInt 64 0), .int .i64 0, .int .i64 0], .own 25 2 0 (gOf eT []), .own 27 4 0 (gOf eS [])], mle_cons ble_refl (mle_cons ble_refl (mle_cons (ble_own rfl fun i hi => absurd hi (Nat.not_lt_zero i)) (mle_cons (ble_own rfl fun i hi => absurd hi (Nat.not_lt_zero i)) mle_nil))), rfl, rfl, 0, by omega, by omega, rfl, rfl⟩ ?_
  rintro k vals M1 ⟨j, hj, rfl, rfl, rfl⟩
  (conv => whnf)
  (repeat' (first | (refine And.intro (fun hb => ?_) (fun hb => ?_) <;> (first | contradiction | (conv => whnf))) | (refine And.intro (a := (_ : Bool) = true) ?_ ?_; rotate_left 1; (conv => whnf))))
  all_goals try (first | rfl | trivial | (simp; done) | (simp; omega) | (simp at hb ⊢; omega) | (simp only [decide_eq_true_eq, Bool.and_eq_true, Int.toNat_natCast] at *; omega))
  · have hlt : j < L.length := by simpa using ‹decide ((j : Int) < (L.length : Int)) = true›
    have e := C.getD_lt hlt
    have hr : C.right L[j] = true := (by rw [← e]; assumption)
    refine ⟨L.length - (j + 1), [.ro 6 L.length (gOf eC L), .cells 29 [.u64 (BitVec.ofInt 64 0), .u64 (BitVec.ofInt 64 0), .u64 (BitVec.ofInt 64 0), .u64 (BitVec.ofInt 64 0), .int .i64 0, .int .i64 0], .own 25 2 (C.ts L (j + 1)).length (gOf eT (C.ts L (j + 1))), .own 27 4 (C.ts L (j + 1)).length (gOf eS (C.ss L (j + 1)))], [0, 1, 5, 7], by omega, rfl, mle_cons ble_refl (mle_cons ble_refl (mle_cons (ble_own (by rw [C.ts_yes hlt hr]; simp) fun i hi => by rw [C.ts_yes hlt hr] at hi ⊢; exact gOf_snoc eT _ _ _ (by rw [← e]; rfl) i (by simpa using hi)) (mle_cons (ble_own (by rw [C.ts_yes hlt hr]; simp) fun i hi => by rw [C.ts_yes hlt hr] at hi; rw [C.ss_yes hlt hr]; have hl := C.ss_len L j; rw [← hl]; exact gOf_snoc eS _ _ _ (by rw [← e]; rfl) i (by rw [hl]; simpa using hi)) mle_nil))), rfl, rfl, j + 1, by omega, rfl, ?_, rfl⟩
    rw [← wrap_succ (by omega), show (C.ts L (j + 1)).length = (C.ts L j).length + 1 by rw [C.ts_yes hlt hr]; simp]; rfl
  · have h1 := C.ts_le L j; have h2 : Try.prog.types[27]!.bytes = 32 := (by kernel_rfl); rw [decide_eq_true_eq]; exact ⟨by show (_ + 1) * Try.prog.types[27]!.bytes ≤ _; rw [h2]; omega, by omega⟩
  · have h1 := C.ts_le L j; have h2 : Try.prog.types[25]!.bytes = 16 := (by kernel_rfl); rw [decide_eq_true_eq]; exact ⟨by show (_ + 1) * Try.prog.types[25]!.bytes ≤ _; rw [h2]; omega, by omega⟩
  · have hlt : j < L.length := by simpa using ‹decide ((j : Int) < (L.length : Int)) = true›
    have e := C.getD_lt hlt
    have hr : C.right L[j] = false := (by rw [← e]; assumption)
    refine ⟨L.length - (j + 1), [.ro 6 L.length (gOf eC L), .cells 29 [.u64 (BitVec.ofInt 64 0), .u64 (BitVec.ofInt 64 0), .u64 (BitVec.ofInt 64 0), .u64 (BitVec.ofInt 64 0), .int .i64 0, .int .i64 0], .own 25 2 (C.ts L (j + 1)).length (gOf eT (C.ts L (j + 1))), .own 27 4 (C.ts L (j + 1)).length (gOf eS (C.ss L (j + 1)))], [0, 1, 2, 3], by omega, rfl, mle_cons ble_refl (mle_cons ble_refl (mle_cons (ble_own (by rw [C.ts_no hlt hr]) fun i hi => by rw [C.ts_no hlt hr]) (mle_cons (ble_own (by rw [C.ts_no hlt hr]) fun i hi => by rw [C.ss_no hlt hr]) mle_nil))), rfl, rfl, j + 1, by omega, rfl, ?_, rfl⟩
    rw [← wrap_succ (by omega), C.ts_no hlt hr]; rfl
  · have hlt : j < L.length := by simpa using ‹decide ((j : Int) < (L.length : Int)) = true›
    have e := C.getD_lt hlt
    exact e ▸ C.ins_at hI hlt
  · have hj2 : j = L.length := by (have h : ¬ (j : Int) < (L.length : Int) := of_decide_eq_false ‹decide ((j : Int) < (L.length : Int)) = false›); omega
    subst hj2
    rw [C.join_none (by assumption)]; exact ⟨rfl, rfl, rfl, rfl, ⟨rfl, rfl⟩, ⟨rfl, rfl⟩, trivial⟩
  · have hj2 : j = L.length := by (have h : ¬ (j : Int) < (L.length : Int) := of_decide_eq_false ‹decide ((j : Int) < (L.length : Int)) = false›); omega
    subst hj2
    rw [C.join_some (by assumption), elts_all, ← C.ss_len L L.length, elts_all]; exact ⟨rfl, rfl, rfl, rfl, ⟨rfl, rfl⟩, ⟨rfl, rfl⟩, trivial⟩
  · have hj2 : j = L.length := by (have h : ¬ (j : Int) < (L.length : Int) := of_decide_eq_false ‹decide ((j : Int) < (L.length : Int)) = false›); omega
    subst hj2
    rw [← C.ss_len L L.length, elts_all]; exact C.ss_in hI _
  · have h1 := C.ts_le L j; have h2 := C.ss_len L j; rw [← C.ss_len L j, allIs_gOf]; simp; omega
  · have h1 := C.ts_le L j; rw [allIs_gOf]; simp; omega
def k_qJoin : List SV → List Blk → Res := fun args M => match args with
  | [.sl b sz off len] => match eltB (nth M b) with
    | some (sz', m, g) => match Nat.beq sz 6 && Nat.beq sz' 6 with
      | true => .test (decide (off + len ≤ m) && (allIs eC off len g && (decide (len < 1000000000000) && C.ins (elts eC off len g)))) (.ok (scv (C.join (elts eC off len g))) [])
      | false => .fail
    | _ => .fail
  | _ => .fail
theorem k_qJoin_ok : CtrOk Try.prog Gw 13 k_qJoin := by
  refine ⟨fun _ _ => by kernel_rfl, fun args M => ?_⟩
  unfold k_qJoin
  split
  · rename_i b sz off len
    split
    · rename_i sz' m g hk
      split
      · rename_i hb
        simp only [Bool.and_eq_true] at hb
        obtain rfl := Nat.eq_of_beq_eq_true hb.1
        obtain rfl := Nat.eq_of_beq_eq_true hb.2
        intro ht
        simp only [Bool.and_eq_true, decide_eq_true_eq] at ht
        obtain ⟨hle, h1, h2, h3⟩ := ht
        have hr := qjoin_run (elts eC off len g) (by rw [elts_length]; exact h2) h3
        rw [elts_length] at hr
        exact ctr_row (Γ := ⟨[(21, k_qRight), (28, k_qUnknown), (39, k_rTog), (40, k_rJoin), (41, k_srJoin)], eqs, [], [], []⟩) st_Gw ⟨(okCons k_qRight_ok (okCons k_qUnknown_ok (okCons k_rTog_ok (okCons k_rJoin_ok (okCons k_srJoin_ok okNil))))), eqs_ok, okNilB, okNilI, okNilP⟩ Try.func13 rfl mixed [] (by kernel_rfl) 10000 hk hle (gOf_elts eC h1) rfl hr
      · trivial
    · trivial
  · trivial
end Go.Proofs.Ytobednfbejcaeaa
