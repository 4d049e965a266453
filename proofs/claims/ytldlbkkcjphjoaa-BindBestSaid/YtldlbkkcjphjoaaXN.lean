import Derived.Test.YtldlbkkcjphjoaaXG
import Derived.Test.YtldlbkkcjphjoaaXL
namespace Go.Proofs.Ytldlbkkcjphjoaa
open Go.RowKit Go.Sx
set_option linter.unusedSimpArgs false
set_option linter.unusedVariables false
set_option linter.unnecessarySimpa false
set_option maxRecDepth 100000
set_option maxHeartbeats 4000000
/-- Does it meet the need? -/
def meets (n : Nd) (h : Hp) : Bool := h.id == n.a && (h.mj == n.b && decide (n.c ≤ h.mn))
def pickH (n : Nd) : Option Hp → Hp → Option Hp
  | none, h => if meets n h then some h else none
  | some b, h => if meets n h && decide (b.mn < h.mn) then some h else some b
/-- The first of the greatest that meet the need. -/
def findH (n : Nd) (L : List Hp) : Option Hp := L.foldl (pickH n) none
theorem find_next {n : Nd} {L : List Hp} {j : Nat} (h : j < L.length) : findH n (L.take (j + 1)) = pickH n (findH n (L.take j)) (L.getD j cH.dft) := by
  unfold findH
  rw [List.take_succ_eq_append_getElem h, List.foldl_append]
  simp [List.getD_eq_getElem?_getD, h]
theorem find_part {n : Nd} {L : List Hp} : ∀ j, j ≤ L.length → (findH n (L.take j) = none → ∀ i, i < j → meets n (L.getD i cH.dft) = false) ∧ ∀ b, findH n (L.take j) = some b → (∃ i, i < j ∧ b = L.getD i cH.dft) ∧ meets n b = true ∧ ∀ i, i < j → meets n (L.getD i cH.dft) = true → (L.getD i cH.dft).mn ≤ b.mn
  | 0, _ => ⟨fun _ i hi => absurd hi (Nat.not_lt_zero i), fun b hb => (by rw [List.take_zero] at hb; cases hb)⟩
  | j + 1, hj => by
    obtain ⟨h1, h2⟩ := find_part (n := n) (L := L) j (by omega)
    rw [find_next (by omega)]
    cases hf : findH n (L.take j) with
    | none =>
      have h3 := h1 hf
      unfold pickH
      by_cases hm : meets n (L.getD j cH.dft) = true
      · simp only [hm, if_true]
        refine ⟨fun h => (by cases h), fun b hb => ?_⟩
        obtain rfl := Option.some.inj hb
        refine ⟨⟨j, by omega, rfl⟩, hm, fun i hi hmi => ?_⟩
        rcases Nat.lt_or_ge i j with h | h
        · rw [h3 i h] at hmi; cases hmi
        · obtain rfl : i = j := by omega
          exact Int.le_refl _
      · have hm' : meets n (L.getD j cH.dft) = false := by simpa using hm
        simp only [hm', Bool.false_eq_true, if_false]
        refine ⟨fun _ i hi => ?_, fun b hb => (by cases hb)⟩
        rcases Nat.lt_or_ge i j with h | h
        · exact h3 i h
        · obtain rfl : i = j := by omega
          exact hm'
    | some b0 =>
      obtain ⟨⟨i0, hi0, e0⟩, hm0, ha0⟩ := h2 b0 hf
      unfold pickH
      by_cases hm : (meets n (L.getD j cH.dft) && decide (b0.mn < (L.getD j cH.dft).mn)) = true
      · simp only [hm, if_true]
        simp only [Bool.and_eq_true, decide_eq_true_eq] at hm
        refine ⟨fun h => (by cases h), fun b hb => ?_⟩
        obtain rfl := Option.some.inj hb
        refine ⟨⟨j, by omega, rfl⟩, hm.1, fun i hi hmi => ?_⟩
        rcases Nat.lt_or_ge i j with h | h
        · have := ha0 i h hmi; omega
        · obtain rfl : i = j := by omega
          exact Int.le_refl _
      · have hm' : (meets n (L.getD j cH.dft) && decide (b0.mn < (L.getD j cH.dft).mn)) = false := by simpa using hm
        simp only [hm', Bool.false_eq_true, if_false]
        refine ⟨fun h => (by cases h), fun b hb => ?_⟩
        obtain rfl := Option.some.inj hb
        refine ⟨⟨i0, by omega, e0⟩, hm0, fun i hi hmi => ?_⟩
        rcases Nat.lt_or_ge i j with h | h
        · exact ha0 i h hmi
        · obtain rfl : i = j := by omega
          simp only [hmi, Bool.true_and, decide_eq_false_iff_not] at hm'
          omega
theorem find_all {n : Nd} {L : List Hp} {b : Hp} {p : Hp → Bool} (hp : L.all p = true) (h : findH n L = some b) : p b = true := by
  have := (find_part (n := n) (L := L) L.length (Nat.le_refl _)).2 b (by rw [List.take_length]; exact h)
  obtain ⟨⟨i, hi, rfl⟩, _⟩ := this
  exact all_getD hp hi _
def asF (n : Nd) (L : List Hp) : List AV := [.agg (celH ((findH n L).getD Hp.no)), .one (.bool (findH n L).isSome)]
end Go.Proofs.Ytldlbkkcjphjoaa
namespace Go.Proofs.Ytldlbkkcjphjoaa
open Go.RowKit Go.Sx
set_option linter.unusedSimpArgs false
set_option linter.unusedVariables false
set_option linter.unnecessarySimpa false
set_option maxRecDepth 100000
set_option maxHeartbeats 4000000
theorem best_run (L : List Hp) (n : Nd) (hL : L.length ≤ 1099511627776) (hW : L.all (Hp.atMost 1099511627776) = true) : run Try.prog ⟨[], eqs, [], [(18, Try.f18, []), (13, Try.f13, [])], [], mixs, meqs, []⟩ 10000 [] 0 (bodyOf Try.f11) (initF Try.f11 [.fn (.func 18) [] [.ptr 0 0, .ptr 1 0], .fn (.func 13) [] []]) [.rc 22 [.sl 2 9 0 L.length], .rc 31 [.int .i64 n.a, .int .i64 n.b, .int .i64 n.c], .ro 9 L.length (cH.g L)] (retK Try.prog Try.f11 (TellsC true (asF n L))) := by
  (conv => whnf)
  (repeat' (first | (refine step_t (by first | rfl | assumption) ?_; (conv => whnf)) | (refine step_f (by first | rfl | assumption) ?_; (conv => whnf)) | (refine step_nt (by assumption) ?_; (conv => whnf)) | (refine step_nf (by assumption) ?_; (conv => whnf)) | (refine step_n (fun hb => ?_) (fun hb => ?_) <;> (first | contradiction | (conv => whnf))) | (refine And.intro (fun hb => ?_) (fun hb => ?_) <;> (first | contradiction | (conv => whnf))) | (refine And.intro ?_ ?_; rotate_left 1; (conv => whnf))))
  refine .inr ⟨[], [0, 1, 2, 6, 7, 8], fun k vals M => ∃ j : Nat, j ≤ L.length ∧ k = L.length - j ∧ vals = [.yld 6, .ptr 0 0, .ptr 1 0, .sl 2 9 0 L.length, .int .i64 (L.length : Int), .int .i64 (j : Int)] ∧ ((findH n (L.take j) = none ∧ M = [.rc 22 [.sl 2 9 0 L.length], .rc 31 [.int .i64 n.a, .int .i64 n.b, .int .i64 n.c], .ro 9 L.length (cH.g L), .cells 42 [.fn (.func 13) [] []], .cells 29 [.int .i64 0, .int .i64 0, .int .i64 0, .int .u8 0, .val (.slice none 0 0), .int .u8 0, .int .i64 0, .int .i64 0, .int .i64 0], .cells 4 [.ff], lpOf [] (bodyOf Try.f11) [.fn (.func 18) [] [.ptr 0 0, .ptr 1 0], .fn (.func 13) [] [], .tup [], .ptr 3 0, .ptr 4 0, .ptr 5 0, .tup [], .fn (.func 18) [] [.ptr 0 0, .ptr 1 0], .tup [], .tup [], .tup [], .tup [], .tup [], .tup [], .tup [], .tup [], .tup [], .tup [], .tup [], .tup []]]) ∨ ∃ b : Hp, findH n (L.take j) = some b ∧ M = [.rc 22 [.sl 2 9 0 L.length], .rc 31 [.int .i64 n.a, .int .i64 n.b, .int .i64 n.c], .ro 9 L.length (cH.g L), .cells 42 [.fn (.func 13) [] []], .cells 29 [.int .i64 b.id, .int .i64 b.mj, .int .i64 b.mn, .int .u8 b.core, .sl 7 4 0 b.args.length, .int .u8 b.rk, .int .i64 b.rlo, .int .i64 b.rhi, .int .i64 b.rsz], .cells 4 [.tt], lpOf [] (bodyOf Try.f11) [.fn (.func 18) [] [.ptr 0 0, .ptr 1 0], .fn (.func 13) [] [], .tup [], .ptr 3 0, .ptr 4 0, .ptr 5 0, .tup [], .fn (.func 18) [] [.ptr 0 0, .ptr 1 0], .tup [], .tup [], .tup [], .tup [], .tup [], .tup [], .tup [], .tup [], .tup [], .tup [], .tup [], .tup []], .fz 4 b.args.length (cA.g b.args)]), ?_⟩
  conv => whnf
  refine And.intro ⟨L.length, [.rc 22 [.sl 2 9 0 L.length], .rc 31 [.int .i64 n.a, .int .i64 n.b, .int .i64 n.c], .ro 9 L.length (cH.g L), .cells 42 [.fn (.func 13) [] []], .cells 29 [.int .i64 0, .int .i64 0, .int .i64 0, .int .u8 0, .val (.slice none 0 0), .int .u8 0, .int .i64 0, .int .i64 0, .int .i64 0], .cells 4 [.ff], lpOf [] (bodyOf Try.f11) [.fn (.func 18) [] [.ptr 0 0, .ptr 1 0], .fn (.func 13) [] [], .tup [], .ptr 3 0, .ptr 4 0, .ptr 5 0, .tup [], .fn (.func 18) [] [.ptr 0 0, .ptr 1 0], .tup [], .tup [], .tup [], .tup [], .tup [], .tup [], .tup [], .tup [], .tup [], .tup [], .tup [], .tup []]], (mle_cons ble_refl (mle_cons ble_refl (mle_cons ble_refl (mle_cons ble_refl (mle_cons ble_refl (mle_cons ble_refl (mle_cons ble_refl mle_nil))))))), rfl, rfl, 0, by omega, by omega, rfl, .inl ⟨by rw [List.take_zero]; rfl, rfl⟩⟩ ?_
  rintro k vals M1 ⟨j, hj, rfl, rfl, (⟨hf, rfl⟩ | ⟨b, hf, rfl⟩)⟩
  · have hz : 0 + ((j : Int)).toNat = j := by omega
    (conv => whnf)
    (repeat' (first | (refine step_t (by first | rfl | assumption) ?_; (conv => whnf)) | (refine step_f (by first | rfl | assumption) ?_; (conv => whnf)) | (refine step_nt (by assumption) ?_; (conv => whnf)) | (refine step_nf (by assumption) ?_; (conv => whnf)) | (refine step_n (fun hb => ?_) (fun hb => ?_) <;> (first | contradiction | (conv => whnf))) | (refine And.intro (fun hb => ?_) (fun hb => ?_) <;> (first | contradiction | (conv => whnf))) | (refine And.intro ?_ ?_; rotate_left 1; (conv => whnf))))
    all_goals try (simp only [hz, sh0, decH_no, isH_no] at *)
    all_goals first
    | rfl
    | (have hlt : j < L.length := (by
         have h9 : decide ((j : Int) < (L.length : Int)) = true := (by assumption)
         have := of_decide_eq_true h9
         omega)
       first
       | exact decide_eq_true hlt
       | (rw [Bool.and_eq_true]; exact ⟨decide_eq_true (by omega), decide_eq_true (by omega)⟩)
       | (simp; done)
       | (refine ⟨L.length - (j + 1), [.rc 22 [.sl 2 9 0 L.length], .rc 31 [.int .i64 n.a, .int .i64 n.b, .int .i64 n.c], .ro 9 L.length (cH.g L), .cells 42 [.fn (.func 13) [] []], .cells 29 [.int .i64 0, .int .i64 0, .int .i64 0, .int .u8 0, .val (.slice none 0 0), .int .u8 0, .int .i64 0, .int .i64 0, .int .i64 0], .cells 4 [.ff], lpOf [] (bodyOf Try.f11) [.fn (.func 18) [] [.ptr 0 0, .ptr 1 0], .fn (.func 13) [] [], .tup [], .ptr 3 0, .ptr 4 0, .ptr 5 0, .tup [], .fn (.func 18) [] [.ptr 0 0, .ptr 1 0], .tup [], .tup [], .tup [], .tup [], .tup [], .tup [], .tup [], .tup [], .tup [], .tup [], .tup [], .tup []]], [0, 1, 2, 3, 4, 5, 6], by omega, rfl, (mle_cons ble_refl (mle_cons ble_refl (mle_cons ble_refl (mle_cons ble_refl (mle_cons ble_refl (mle_cons ble_refl (mle_cons ble_refl mle_nil))))))), rfl, rfl, j + 1, by omega, rfl, ?_, .inl ⟨?_, rfl⟩⟩
          · (show [SV.yld 6, .ptr 0 0, .ptr 1 0, .sl 2 9 0 L.length, .int .i64 (L.length : Int), .int .i64 (IntKind.i64.wrap ((j : Int) + 1))] = _; rw [i64_of (n := (j : Int) + 1) (by omega) (by omega)]; rfl)
          · rw [find_next hlt, hf]; (first | (simp_all [pickH, meets]; done) | (simp_all [pickH, meets]; intros; omega)))
       | (refine ⟨L.length - (j + 1), [.rc 22 [.sl 2 9 0 L.length], .rc 31 [.int .i64 n.a, .int .i64 n.b, .int .i64 n.c], .ro 9 L.length (cH.g L), .cells 42 [.fn (.func 13) [] []], .cells 29 [.int .i64 (L.getD j cH.dft).id, .int .i64 (L.getD j cH.dft).mj, .int .i64 (L.getD j cH.dft).mn, .int .u8 (L.getD j cH.dft).core, .sl 7 4 0 (L.getD j cH.dft).args.length, .int .u8 (L.getD j cH.dft).rk, .int .i64 (L.getD j cH.dft).rlo, .int .i64 (L.getD j cH.dft).rhi, .int .i64 (L.getD j cH.dft).rsz], .cells 4 [.tt], lpOf [] (bodyOf Try.f11) [.fn (.func 18) [] [.ptr 0 0, .ptr 1 0], .fn (.func 13) [] [], .tup [], .ptr 3 0, .ptr 4 0, .ptr 5 0, .tup [], .fn (.func 18) [] [.ptr 0 0, .ptr 1 0], .tup [], .tup [], .tup [], .tup [], .tup [], .tup [], .tup [], .tup [], .tup [], .tup [], .tup [], .tup []], .fz 4 (L.getD j cH.dft).args.length (cA.g (L.getD j cH.dft).args)], [0, 1, 2, 3, 4, 5, 6, 7], by omega, rfl, (mle_cons ble_refl (mle_cons ble_refl (mle_cons ble_refl (mle_cons ble_refl (mle_cons ble_refl (mle_cons ble_refl (mle_cons ble_refl (mle_cons ble_refl mle_nil)))))))), rfl, rfl, j + 1, by omega, rfl, ?_, .inr ⟨L.getD j cH.dft, ?_, rfl⟩⟩
          · (show [SV.yld 6, .ptr 0 0, .ptr 1 0, .sl 2 9 0 L.length, .int .i64 (L.length : Int), .int .i64 (IntKind.i64.wrap ((j : Int) + 1))] = _; rw [i64_of (n := (j : Int) + 1) (by omega) (by omega)]; rfl)
          · rw [find_next hlt, hf]; (first | (simp_all [pickH, meets]; done) | (simp_all [pickH, meets]; intros; omega))))
    | (obtain rfl : j = L.length := (by
         have h9 : decide ((j : Int) < (L.length : Int)) = false := (by assumption)
         have := of_decide_eq_false h9
         omega)
       rw [List.take_length] at hf
       refine ⟨[_, _], _, _, rfl, .inl (by trivial), rfl, ?_, ?_⟩
       · simp
       · unfold asF; rw [hf]; first | exact ⟨FVEqL.refl _, FVEq.refl _, trivial⟩ | exact ⟨no_cel, FVEq.refl _, trivial⟩)
    | skip
  · have hz : 0 + ((j : Int)).toNat = j := by omega
    (conv => whnf)
    (repeat' (first | (refine step_t (by first | rfl | assumption) ?_; (conv => whnf)) | (refine step_f (by first | rfl | assumption) ?_; (conv => whnf)) | (refine step_nt (by assumption) ?_; (conv => whnf)) | (refine step_nf (by assumption) ?_; (conv => whnf)) | (refine step_n (fun hb => ?_) (fun hb => ?_) <;> (first | contradiction | (conv => whnf))) | (refine And.intro (fun hb => ?_) (fun hb => ?_) <;> (first | contradiction | (conv => whnf))) | (refine And.intro ?_ ?_; rotate_left 1; (conv => whnf))))
    all_goals try (simp only [hz, sh0, decH_no, isH_no, isH_cel, decH_cel] at *)
    all_goals first
    | rfl
    | (have hlt : j < L.length := (by
         have h9 : decide ((j : Int) < (L.length : Int)) = true := (by assumption)
         have := of_decide_eq_true h9
         omega)
       first
       | exact decide_eq_true hlt
       | (rw [Bool.and_eq_true]; exact ⟨decide_eq_true (by omega), decide_eq_true (by omega)⟩)
       | (simp; done)
       | (refine ⟨L.length - (j + 1), [.rc 22 [.sl 2 9 0 L.length], .rc 31 [.int .i64 n.a, .int .i64 n.b, .int .i64 n.c], .ro 9 L.length (cH.g L), .cells 42 [.fn (.func 13) [] []], .cells 29 [.int .i64 b.id, .int .i64 b.mj, .int .i64 b.mn, .int .u8 b.core, .sl 7 4 0 b.args.length, .int .u8 b.rk, .int .i64 b.rlo, .int .i64 b.rhi, .int .i64 b.rsz], .cells 4 [.tt], lpOf [] (bodyOf Try.f11) [.fn (.func 18) [] [.ptr 0 0, .ptr 1 0], .fn (.func 13) [] [], .tup [], .ptr 3 0, .ptr 4 0, .ptr 5 0, .tup [], .fn (.func 18) [] [.ptr 0 0, .ptr 1 0], .tup [], .tup [], .tup [], .tup [], .tup [], .tup [], .tup [], .tup [], .tup [], .tup [], .tup [], .tup []], .fz 4 b.args.length (cA.g b.args)], [0, 1, 2, 3, 4, 5, 6, 7], by omega, rfl, (mle_cons ble_refl (mle_cons ble_refl (mle_cons ble_refl (mle_cons ble_refl (mle_cons ble_refl (mle_cons ble_refl (mle_cons ble_refl (mle_cons ble_refl mle_nil)))))))), rfl, rfl, j + 1, by omega, rfl, ?_, .inr ⟨b, ?_, rfl⟩⟩
          · (show [SV.yld 6, .ptr 0 0, .ptr 1 0, .sl 2 9 0 L.length, .int .i64 (L.length : Int), .int .i64 (IntKind.i64.wrap ((j : Int) + 1))] = _; rw [i64_of (n := (j : Int) + 1) (by omega) (by omega)]; rfl)
          · rw [find_next hlt, hf]; (first | (simp_all [pickH, meets]; done) | (simp_all [pickH, meets]; intros; omega)))
       | (refine ⟨L.length - (j + 1), [.rc 22 [.sl 2 9 0 L.length], .rc 31 [.int .i64 n.a, .int .i64 n.b, .int .i64 n.c], .ro 9 L.length (cH.g L), .cells 42 [.fn (.func 13) [] []], .cells 29 [.int .i64 (L.getD j cH.dft).id, .int .i64 (L.getD j cH.dft).mj, .int .i64 (L.getD j cH.dft).mn, .int .u8 (L.getD j cH.dft).core, .sl 7 4 0 (L.getD j cH.dft).args.length, .int .u8 (L.getD j cH.dft).rk, .int .i64 (L.getD j cH.dft).rlo, .int .i64 (L.getD j cH.dft).rhi, .int .i64 (L.getD j cH.dft).rsz], .cells 4 [.tt], lpOf [] (bodyOf Try.f11) [.fn (.func 18) [] [.ptr 0 0, .ptr 1 0], .fn (.func 13) [] [], .tup [], .ptr 3 0, .ptr 4 0, .ptr 5 0, .tup [], .fn (.func 18) [] [.ptr 0 0, .ptr 1 0], .tup [], .tup [], .tup [], .tup [], .tup [], .tup [], .tup [], .tup [], .tup [], .tup [], .tup [], .tup []], .fz 4 (L.getD j cH.dft).args.length (cA.g (L.getD j cH.dft).args)], [0, 1, 2, 3, 4, 5, 6, 8], by omega, rfl, (mle_cons ble_refl (mle_cons ble_refl (mle_cons ble_refl (mle_cons ble_refl (mle_cons ble_refl (mle_cons ble_refl (mle_cons ble_refl (mle_cons ble_refl mle_nil)))))))), rfl, rfl, j + 1, by omega, rfl, ?_, .inr ⟨L.getD j cH.dft, ?_, rfl⟩⟩
          · (show [SV.yld 6, .ptr 0 0, .ptr 1 0, .sl 2 9 0 L.length, .int .i64 (L.length : Int), .int .i64 (IntKind.i64.wrap ((j : Int) + 1))] = _; rw [i64_of (n := (j : Int) + 1) (by omega) (by omega)]; rfl)
          · rw [find_next hlt, hf]; (first | (simp_all [pickH, meets]; done) | (simp_all [pickH, meets]; intros; omega))))
    | (obtain rfl : j = L.length := (by
         have h9 : decide ((j : Int) < (L.length : Int)) = false := (by assumption)
         have := of_decide_eq_false h9
         omega)
       rw [List.take_length] at hf
       have hbw : b.atMost 1099511627776 = true := find_all hW hf
       first
       | exact hbw
       | (simp; done)
       | (refine ⟨[_, _], _, _, rfl, .inl (by trivial), rfl, ?_, ?_⟩
          · simp
          · unfold asF; rw [hf]; first | exact ⟨FVEqL.refl _, FVEq.refl _, trivial⟩ | exact ⟨no_cel, FVEq.refl _, trivial⟩))
    | skip

noncomputable def k_best (L : List Hp) (n : Nd) : List SV → List Blk → Res := fun args M => match args with
  | [.fn (.func 18) [] [.ptr a 0, .ptr b 0], .fn (.func 13) [] []] => match nth M a, nth M b with
    | some (.cells 22 [.sl c 9 0 len]), some (.cells 31 [.int .i64 na, .int .i64 nb, .int .i64 nc]) => match eltB (nth M c) with
      | some (9, m, g) => .test (decide (len = L.length ∧ len ≤ m)) (.test (holds (∀ i, i < L.length → cH.g L i = g i)) (.test (decide (na = n.a ∧ nb = n.b ∧ nc = n.c)) (.ok (outA true (namA true M.length (asF n L)).1) (namA true M.length (asF n L)).2)))
      | _ => .fail
    | _, _ => .fail
  | _ => .fail
theorem k_best_ok (L : List Hp) (n : Nd) (hL : L.length ≤ 1099511627776) (hW : L.all (Hp.atMost 1099511627776) = true) : CtrOk Try.prog Gw 11 (k_best L n) := by
  refine ⟨fun _ _ => by kernel_rfl, fun args M => ?_⟩
  unfold k_best
  split
  · rename_i a b
    split
    · rename_i c len na nb nc ha hb
      split
      · rename_i m g hc
        intro h1 h2 h3
        simp only [decide_eq_true_eq] at h1 h3
        obtain ⟨rfl, h1⟩ := h1
        obtain ⟨rfl, rfl, rfl⟩ := h3
        have h2 := holds_is h2
        simp only [nth_eq] at ha hb hc
        obtain ⟨bc, hbc⟩ : ∃ bc, M[c]? = some bc := by
          cases hq : M[c]? with
          | none => rw [hq] at hc; cases hc
          | some bc => exact ⟨bc, rfl⟩
        rw [hbc] at hc
        exact ctr_viewc (Γ := ⟨[], eqs, [], [(18, Try.f18, []), (13, Try.f13, [])], [], mixs, meqs, []⟩) st_Gw ⟨okNil, eqs_ok, okNilB, (okConsI Try.func18 rfl (by kernel_rfl) (fun _ _ => by kernel_rfl) (okConsI Try.func13 rfl (by kernel_rfl) (fun _ _ => by kernel_rfl) okNilI)), okNilP, mixs_ok, meqs_ok, okNilY⟩ Try.func11 rfl mixed [] (by kernel_rfl) [] [a, b, c] [.fn (.func 18) [] [.ptr 0 0, .ptr 1 0], .fn (.func 13) [] []] [.rc 22 [.sl 2 9 0 L.length], .rc 31 [.int .i64 n.a, .int .i64 n.b, .int .i64 n.c], .ro 9 L.length (cH.g L)] (fun ρ => rfl) rfl ⟨⟨_, ha, _, .inl rfl, fun ρ => rfl⟩, ⟨_, hb, _, .inl rfl, fun ρ => rfl⟩, ⟨_, hbc, _, _, hc, h1, h2⟩, trivial⟩ true (asF n L) ⟨rfl, best_run L n hL hW⟩
      · trivial
    · trivial
  · trivial
end Go.Proofs.Ytldlbkkcjphjoaa
namespace Go.Proofs.Ytldlbkkcjphjoaa
open Go.RowKit Go.Sx
set_option linter.unusedSimpArgs false
set_option linter.unusedVariables false
set_option linter.unnecessarySimpa false
set_option maxRecDepth 100000
set_option maxHeartbeats 4000000
theorem find_run (L : List Hp) (n : Nd) (hL : L.length ≤ 1099511627776) (hW : L.all (Hp.atMost 1099511627776) = true) : run Try.prog ⟨[(14, k_own), (11, k_best L n)], eqs, [], [(12, Try.f12, [])], [], mixs, meqs, []⟩ 10000 [] 0 (bodyOf Try.f7) (initF Try.f7 [.sl 0 9 0 L.length, .agg [.int .i64 n.a, .int .i64 n.b, .int .i64 n.c]]) [.ro 9 L.length (cH.g L)] (retK Try.prog Try.f7 (TellsC true (asF n L))) := by
  have hbw : ((findH n L).getD Hp.no).atMost 1099511627776 = true := by
    cases hf : findH n L with
    | none => rfl
    | some b => exact find_all hW hf
  (conv => whnf)
  (repeat' (first | (refine step_t (by first | rfl | assumption) ?_; (conv => whnf)) | (refine step_f (by first | rfl | assumption) ?_; (conv => whnf)) | (refine step_nt (by assumption) ?_; (conv => whnf)) | (refine step_nf (by assumption) ?_; (conv => whnf)) | (refine step_n (fun hb => ?_) (fun hb => ?_) <;> (first | contradiction | (conv => whnf))) | (refine And.intro (fun hb => ?_) (fun hb => ?_) <;> (first | contradiction | (conv => whnf))) | (refine And.intro ?_ ?_; rotate_left 1; (conv => whnf))))
  all_goals try (simp only [sh0, isH_cel, decH_cel] at *)
  all_goals first
  | rfl
  | exact hbw
  | exact decide_eq_true (by omega)
  | exact holds_t (fun _ _ => rfl)
  | exact holds_t (fun _ _ => trivial)
  | exact decide_eq_true ⟨rfl, rfl, rfl⟩
  | exact decide_eq_true ⟨rfl, by omega⟩
  | (simp; done)
  | (refine ⟨[_, _], _, _, rfl, .inl (by trivial), rfl, ?_, ?_⟩
     · simp
     · exact ⟨FVEqL.refl _, FVEq.refl _, trivial⟩)

noncomputable def k_find : List SV → List Blk → Res := fun args M => match topA eltB M args with
  | some (b, [.one x, .agg [.int .i64 na, .int .i64 nb, .int .i64 nc]]) => .test b (.test (cH.isR 9 x) (.test (decide ((cH.decR 9 x).length ≤ 1099511627776) && (cH.decR 9 x).all (Hp.atMost 1099511627776)) (.ok (outA true (namA true M.length (asF ⟨na, nb, nc⟩ (cH.decR 9 x))).1) (namA true M.length (asF ⟨na, nb, nc⟩ (cH.decR 9 x))).2)))
  | _ => .fail
theorem k_find_ok : CtrOk Try.prog Gw 7 k_find := by
  refine ⟨fun _ _ => by kernel_rfl, fun args M => ?_⟩
  unfold k_find
  split
  · rename_i b x na nb nc hv
    intro hb hi hw
    simp only [Bool.and_eq_true, decide_eq_true_eq] at hw
    exact ctr_topc (Γ := ⟨[(14, k_own), (11, k_best (cH.decR 9 x) ⟨na, nb, nc⟩)], eqs, [], [(12, Try.f12, [])], [], mixs, meqs, []⟩) st_Gw ⟨(okCons k_own_ok (okCons (k_best_ok (cH.decR 9 x) ⟨na, nb, nc⟩ hw.1 hw.2) okNil)), eqs_ok, okNilB, (okConsI Try.func12 rfl (by kernel_rfl) (fun _ _ => by kernel_rfl) okNilI), okNilP, mixs_ok, meqs_ok, okNilY⟩ Try.func7 rfl mixed [] (by kernel_rfl) 10000 [.one (.row 9 (cH.decR 9 x).length (cH.g (cH.decR 9 x))), .agg [.int .i64 na, .int .i64 nb, .int .i64 nc]] hv hb (avcons (Cel.isR_dec hi) (AVEqL.refl _)) rfl true (asF ⟨na, nb, nc⟩ (cH.decR 9 x)) (find_run _ ⟨na, nb, nc⟩ hw.1 hw.2)
  · trivial
end Go.Proofs.Ytldlbkkcjphjoaa
