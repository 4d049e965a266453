import Derived.Test.YtgfemfgimefmeaaGreatXL1
namespace Go.Proofs.YtgfemfgimefmeaaGreat
open Go.RowKit Go.Sx
set_option linter.unusedSimpArgs false
set_option linter.unusedVariables false
set_option linter.unnecessarySimpa false
set_option maxRecDepth 100000
set_option maxHeartbeats 4000000
theorem gSet_length {g : Nat → List FV} {i j n : Nat} {fs : List FV} (h : (g i).length = n) (hj : j + fs.length ≤ n) : (gSet g i j fs i).length = n := by
  unfold gSet
  simp only [decide_true]
  exact gSet_len h hj
theorem frv_is {X Y : Fr} (h : X = Y) : eqv2 (.mix [.arr 11 12 (gOf eA X.R), .arr 64 14 (gOf eS X.S), .int .i64 X.ids]) (frv Y) := by subst h; exact eqv_fr (fun _ _ => rfl) (fun _ _ => rfl) rfl
theorem room_run (f : Fr) (hf : f.wf) (id r : Int) : run Tryz.prog ⟨[(12, k_fRight), (102, k_fnone)], eqs, [], [(50, Tryz.f50, []), (40, Tryz.f40, []), (91, Tryz.f91, []), (51, Tryz.f51, [(0, 11, [0, 1, 3, 7, 15, 31, 63, 127, 255, 511, 63, 2047, 4095]), (1, 6, [0, 0, 2, 6, 14, 0, 62, 127, 255, 511])])], [], mixs, meqs⟩ 10000 [] 0 (bodyOf Tryz.f15) (initF Tryz.f15 [frv f, .int .i64 id, .int .i64 r]) [] (retK Tryz.prog Tryz.f15 fun x _ => eqv x (frv (F.room f id r))) := by
  have hR := hf.r
  have hS := hf.s
  (conv => whnf)
  (repeat' (first | (refine step_t (by first | rfl | assumption) ?_; (conv => whnf)) | (refine step_f (by first | rfl | assumption) ?_; (conv => whnf)) | (refine step_nt (by assumption) ?_; (conv => whnf)) | (refine step_nf (by assumption) ?_; (conv => whnf)) | (refine step_n (fun hb => ?_) (fun hb => ?_) <;> (first | contradiction | (conv => whnf))) | (refine And.intro (fun hb => ?_) (fun hb => ?_) <;> (first | contradiction | (conv => whnf))) | (refine And.intro (a := (_ : Bool) = true) ?_ ?_; rotate_left 1; (conv => whnf))))
  all_goals (try simp only [frD_of hf] at *)
  all_goals try first
    | exact frB_of hf
    | (refine frv_is (X := f) ?_; (simp only [F.room, F.each, *, ↓reduceIte, Bool.true_eq_false, Bool.false_eq_true] <;> rfl); done)
  refine .inr ⟨[], [0, 1, 5], fun k vals M => ∃ i : Nat, i ≤ 11 ∧ k = 11 - i ∧ vals = [.yld 8, .ptr 7 0, .int .i64 (i : Int)] ∧ M = ([.mix 37 [.arr 11 12 (gOf eA f.R), .arr 64 14 (gOf eS f.S), .int .i64 f.ids], .cells 3 [.int .i64 id], .cells 3 [.int .i64 r], .mix 37 [.arr 11 12 (fun _ => [.int .u8 0, .u64 (BitVec.ofInt 64 0), .u64 (BitVec.ofInt 64 0), .u64 (BitVec.ofInt 64 0), .u64 (BitVec.ofInt 64 0), .int .i64 0, .int .i64 0, .int .i64 0, .int .i64 0, .int .i64 0, .int .i64 0, .bool false]), .arr 64 14 (fun _ => .bool false :: .int .u8 0 :: [.int .u8 0, .u64 (BitVec.ofInt 64 0), .u64 (BitVec.ofInt 64 0), .u64 (BitVec.ofInt 64 0), .u64 (BitVec.ofInt 64 0), .int .i64 0, .int .i64 0, .int .i64 0, .int .i64 0, .int .i64 0, .int .i64 0, .bool false]), .int .i64 0], .mix 37 [.arr 11 12 (gOf eA (F.upto (F.roomA id r) f.R i)), .arr 64 14 (gOf eS (f.S)), .int .i64 f.ids], .cells 112 [.fn (.func 51) [] [.ptr 1 0, .ptr 2 0]], .mix 37 [.arr 11 12 (fun _ => [.int .u8 0, .u64 (BitVec.ofInt 64 0), .u64 (BitVec.ofInt 64 0), .u64 (BitVec.ofInt 64 0), .u64 (BitVec.ofInt 64 0), .int .i64 0, .int .i64 0, .int .i64 0, .int .i64 0, .int .i64 0, .int .i64 0, .bool false]), .arr 64 14 (fun _ => .bool false :: .int .u8 0 :: [.int .u8 0, .u64 (BitVec.ofInt 64 0), .u64 (BitVec.ofInt 64 0), .u64 (BitVec.ofInt 64 0), .u64 (BitVec.ofInt 64 0), .int .i64 0, .int .i64 0, .int .i64 0, .int .i64 0, .int .i64 0, .int .i64 0, .bool false]), .int .i64 0], .cells 99 [.ptr 4 0], lpOf [] (bodyOf Tryz.f50) [frv f, .fn (.func 51) [] [.ptr 1 0, .ptr 2 0], .ptr 4 0, .ptr 5 0, .ptr 6 0, .tup [], .tup [], .fn (.func 91) [] [.ptr 7 0], .tup [], .tup [], .tup [], .tup [], .tup [], .tup [], .tup [], .tup [], .tup [], .tup [], .tup []]]), ?_⟩
  conv => whnf
  refine And.intro ⟨11, ([.mix 37 [.arr 11 12 (gOf eA f.R), .arr 64 14 (gOf eS f.S), .int .i64 f.ids], .cells 3 [.int .i64 id], .cells 3 [.int .i64 r], .mix 37 [.arr 11 12 (fun _ => [.int .u8 0, .u64 (BitVec.ofInt 64 0), .u64 (BitVec.ofInt 64 0), .u64 (BitVec.ofInt 64 0), .u64 (BitVec.ofInt 64 0), .int .i64 0, .int .i64 0, .int .i64 0, .int .i64 0, .int .i64 0, .int .i64 0, .bool false]), .arr 64 14 (fun _ => .bool false :: .int .u8 0 :: [.int .u8 0, .u64 (BitVec.ofInt 64 0), .u64 (BitVec.ofInt 64 0), .u64 (BitVec.ofInt 64 0), .u64 (BitVec.ofInt 64 0), .int .i64 0, .int .i64 0, .int .i64 0, .int .i64 0, .int .i64 0, .int .i64 0, .bool false]), .int .i64 0], .mix 37 [.arr 11 12 (gOf eA (f.R)), .arr 64 14 (gOf eS (f.S)), .int .i64 f.ids], .cells 112 [.fn (.func 51) [] [.ptr 1 0, .ptr 2 0]], .mix 37 [.arr 11 12 (fun _ => [.int .u8 0, .u64 (BitVec.ofInt 64 0), .u64 (BitVec.ofInt 64 0), .u64 (BitVec.ofInt 64 0), .u64 (BitVec.ofInt 64 0), .int .i64 0, .int .i64 0, .int .i64 0, .int .i64 0, .int .i64 0, .int .i64 0, .bool false]), .arr 64 14 (fun _ => .bool false :: .int .u8 0 :: [.int .u8 0, .u64 (BitVec.ofInt 64 0), .u64 (BitVec.ofInt 64 0), .u64 (BitVec.ofInt 64 0), .u64 (BitVec.ofInt 64 0), .int .i64 0, .int .i64 0, .int .i64 0, .int .i64 0, .int .i64 0, .int .i64 0, .bool false]), .int .i64 0], .cells 99 [.ptr 4 0], lpOf [] (bodyOf Tryz.f50) [frv f, .fn (.func 51) [] [.ptr 1 0, .ptr 2 0], .ptr 4 0, .ptr 5 0, .ptr 6 0, .tup [], .tup [], .fn (.func 91) [] [.ptr 7 0], .tup [], .tup [], .tup [], .tup [], .tup [], .tup [], .tup [], .tup [], .tup [], .tup [], .tup []]]), (mle_cons ble_refl (mle_cons ble_refl (mle_cons ble_refl (mle_cons ble_refl (mle_cons ble_refl (mle_cons ble_refl (mle_cons ble_refl (mle_cons ble_refl (mle_cons ble_refl mle_nil))))))))), rfl, rfl, 0, by omega, by omega, rfl, rfl⟩ ?_
  rintro k vals M1 ⟨i, hi, rfl, rfl, rfl⟩
  (conv => whnf)
  (repeat' (first | (refine step_t (by first | rfl | assumption) ?_; (conv => whnf)) | (refine step_f (by first | rfl | assumption) ?_; (conv => whnf)) | (refine step_nt (by assumption) ?_; (conv => whnf)) | (refine step_nf (by assumption) ?_; (conv => whnf)) | (refine step_n (fun hb => ?_) (fun hb => ?_) <;> (first | contradiction | (conv => whnf))) | (refine And.intro (fun hb => ?_) (fun hb => ?_) <;> (first | contradiction | (conv => whnf))) | (refine And.intro (a := (_ : Bool) = true) ?_ ?_; rotate_left 1; (conv => whnf))))
  all_goals try (simp only [Int.toNat_natCast] at *)
  all_goals try first
    | (refine decide_eq_true ?_; omega)
    | (have hlt : i < 11 := by
         have h9 : decide ((i : Int) < 11) = true := by assumption
         have := of_decide_eq_true h9
         omega
       have hlt' : i < f.R.length := by omega
       (try simp only [F.upto_at (w := F.roomA id r) eA.dft hlt'] at *)
       first
       | (refine decide_eq_true ?_; omega)
       | (refine decide_eq_true ?_; rfl)
       | (rw [Bool.and_eq_true]; exact ⟨decide_eq_true (by omega), decide_eq_true (by omega)⟩)
       | exact C.const_S _
       | exact decide_eq_true (gSet_length rfl (by decide))
       | (refine ⟨11 - (i + 1), ([.mix 37 [.arr 11 12 (gOf eA f.R), .arr 64 14 (gOf eS f.S), .int .i64 f.ids], .cells 3 [.int .i64 id], .cells 3 [.int .i64 r], .mix 37 [.arr 11 12 (fun _ => [.int .u8 0, .u64 (BitVec.ofInt 64 0), .u64 (BitVec.ofInt 64 0), .u64 (BitVec.ofInt 64 0), .u64 (BitVec.ofInt 64 0), .int .i64 0, .int .i64 0, .int .i64 0, .int .i64 0, .int .i64 0, .int .i64 0, .bool false]), .arr 64 14 (fun _ => .bool false :: .int .u8 0 :: [.int .u8 0, .u64 (BitVec.ofInt 64 0), .u64 (BitVec.ofInt 64 0), .u64 (BitVec.ofInt 64 0), .u64 (BitVec.ofInt 64 0), .int .i64 0, .int .i64 0, .int .i64 0, .int .i64 0, .int .i64 0, .int .i64 0, .bool false]), .int .i64 0], .mix 37 [.arr 11 12 (gOf eA (F.upto (F.roomA id r) f.R (i + 1))), .arr 64 14 (gOf eS (f.S)), .int .i64 f.ids], .cells 112 [.fn (.func 51) [] [.ptr 1 0, .ptr 2 0]], .mix 37 [.arr 11 12 (fun _ => [.int .u8 0, .u64 (BitVec.ofInt 64 0), .u64 (BitVec.ofInt 64 0), .u64 (BitVec.ofInt 64 0), .u64 (BitVec.ofInt 64 0), .int .i64 0, .int .i64 0, .int .i64 0, .int .i64 0, .int .i64 0, .int .i64 0, .bool false]), .arr 64 14 (fun _ => .bool false :: .int .u8 0 :: [.int .u8 0, .u64 (BitVec.ofInt 64 0), .u64 (BitVec.ofInt 64 0), .u64 (BitVec.ofInt 64 0), .u64 (BitVec.ofInt 64 0), .int .i64 0, .int .i64 0, .int .i64 0, .int .i64 0, .int .i64 0, .int .i64 0, .bool false]), .int .i64 0], .cells 99 [.ptr 4 0], lpOf [] (bodyOf Tryz.f50) [frv f, .fn (.func 51) [] [.ptr 1 0, .ptr 2 0], .ptr 4 0, .ptr 5 0, .ptr 6 0, .tup [], .tup [], .fn (.func 91) [] [.ptr 7 0], .tup [], .tup [], .tup [], .tup [], .tup [], .tup [], .tup [], .tup [], .tup [], .tup [], .tup []]]), [0, 1, 2, 3, 4, 5, 6, 7, 8], by omega, rfl, (mle_cons ble_refl (mle_cons ble_refl (mle_cons ble_refl (mle_cons ble_refl (mle_cons (ble_mix ⟨⟨rfl, rfl, fun k hk => ?_⟩, itemLe_refl _, rfl, trivial⟩) (mle_cons ble_refl (mle_cons ble_refl (mle_cons ble_refl (mle_cons ble_refl mle_nil))))))))), rfl, rfl, i + 1, by omega, rfl, ?_, rfl⟩
          · first
            | exact F.same_upto eA hR hlt (F.roomA_none (by assumption)) k hk
            | exact F.same_upto eA hR hlt (F.roomA_k (by assumption)) k hk
            | exact F.same_upto eA hR hlt (F.roomA_i (by assumption)) k hk
            | exact F.part_upto eA hR hlt (by rw [F.roomA_h (by assumption) (by assumption)]; rfl) k hk
          · show [SV.yld 8, .ptr 7 0, .int .i64 (IntKind.i64.wrap ((i : Int) + 1))] = _
            rw [i64_of (n := (i : Int) + 1) (by omega) (by omega)]; rfl))
  have hi11 : i = 11 := by
    have h9 : decide ((i : Int) < 11) = false := by assumption
    have := of_decide_eq_false h9
    omega
  subst hi11
  refine .inr ⟨[], [0, 1, 18], fun k vals M => ∃ i : Nat, i ≤ 64 ∧ k = 64 - i ∧ vals = [.yld 8, .ptr 7 0, .int .i64 (i : Int)] ∧ M = ([.mix 37 [.arr 11 12 (gOf eA f.R), .arr 64 14 (gOf eS f.S), .int .i64 f.ids], .cells 3 [.int .i64 id], .cells 3 [.int .i64 r], .mix 37 [.arr 11 12 (fun _ => [.int .u8 0, .u64 (BitVec.ofInt 64 0), .u64 (BitVec.ofInt 64 0), .u64 (BitVec.ofInt 64 0), .u64 (BitVec.ofInt 64 0), .int .i64 0, .int .i64 0, .int .i64 0, .int .i64 0, .int .i64 0, .int .i64 0, .bool false]), .arr 64 14 (fun _ => .bool false :: .int .u8 0 :: [.int .u8 0, .u64 (BitVec.ofInt 64 0), .u64 (BitVec.ofInt 64 0), .u64 (BitVec.ofInt 64 0), .u64 (BitVec.ofInt 64 0), .int .i64 0, .int .i64 0, .int .i64 0, .int .i64 0, .int .i64 0, .int .i64 0, .bool false]), .int .i64 0], .mix 37 [.arr 11 12 (gOf eA (F.upto (F.roomA id r) f.R 11)), .arr 64 14 (gOf eS (F.upto (F.onS (F.roomA id r)) f.S i)), .int .i64 f.ids], .cells 112 [.fn (.func 51) [] [.ptr 1 0, .ptr 2 0]], .mix 37 [.arr 11 12 (fun _ => [.int .u8 0, .u64 (BitVec.ofInt 64 0), .u64 (BitVec.ofInt 64 0), .u64 (BitVec.ofInt 64 0), .u64 (BitVec.ofInt 64 0), .int .i64 0, .int .i64 0, .int .i64 0, .int .i64 0, .int .i64 0, .int .i64 0, .bool false]), .arr 64 14 (fun _ => .bool false :: .int .u8 0 :: [.int .u8 0, .u64 (BitVec.ofInt 64 0), .u64 (BitVec.ofInt 64 0), .u64 (BitVec.ofInt 64 0), .u64 (BitVec.ofInt 64 0), .int .i64 0, .int .i64 0, .int .i64 0, .int .i64 0, .int .i64 0, .int .i64 0, .bool false]), .int .i64 0], .cells 99 [.ptr 4 0], lpOf [] (bodyOf Tryz.f50) [frv f, .fn (.func 51) [] [.ptr 1 0, .ptr 2 0], .ptr 4 0, .ptr 5 0, .ptr 6 0, .tup [], .tup [], .fn (.func 91) [] [.ptr 7 0], .tup [], .tup [], .tup [], .tup [], .tup [], .tup [], .tup [], .tup [], .tup [], .tup [], .tup []]]), ?_⟩
  conv => whnf
  refine And.intro ⟨64, ([.mix 37 [.arr 11 12 (gOf eA f.R), .arr 64 14 (gOf eS f.S), .int .i64 f.ids], .cells 3 [.int .i64 id], .cells 3 [.int .i64 r], .mix 37 [.arr 11 12 (fun _ => [.int .u8 0, .u64 (BitVec.ofInt 64 0), .u64 (BitVec.ofInt 64 0), .u64 (BitVec.ofInt 64 0), .u64 (BitVec.ofInt 64 0), .int .i64 0, .int .i64 0, .int .i64 0, .int .i64 0, .int .i64 0, .int .i64 0, .bool false]), .arr 64 14 (fun _ => .bool false :: .int .u8 0 :: [.int .u8 0, .u64 (BitVec.ofInt 64 0), .u64 (BitVec.ofInt 64 0), .u64 (BitVec.ofInt 64 0), .u64 (BitVec.ofInt 64 0), .int .i64 0, .int .i64 0, .int .i64 0, .int .i64 0, .int .i64 0, .int .i64 0, .bool false]), .int .i64 0], .mix 37 [.arr 11 12 (gOf eA (F.upto (F.roomA id r) f.R 11)), .arr 64 14 (gOf eS (f.S)), .int .i64 f.ids], .cells 112 [.fn (.func 51) [] [.ptr 1 0, .ptr 2 0]], .mix 37 [.arr 11 12 (fun _ => [.int .u8 0, .u64 (BitVec.ofInt 64 0), .u64 (BitVec.ofInt 64 0), .u64 (BitVec.ofInt 64 0), .u64 (BitVec.ofInt 64 0), .int .i64 0, .int .i64 0, .int .i64 0, .int .i64 0, .int .i64 0, .int .i64 0, .bool false]), .arr 64 14 (fun _ => .bool false :: .int .u8 0 :: [.int .u8 0, .u64 (BitVec.ofInt 64 0), .u64 (BitVec.ofInt 64 0), .u64 (BitVec.ofInt 64 0), .u64 (BitVec.ofInt 64 0), .int .i64 0, .int .i64 0, .int .i64 0, .int .i64 0, .int .i64 0, .int .i64 0, .bool false]), .int .i64 0], .cells 99 [.ptr 4 0], lpOf [] (bodyOf Tryz.f50) [frv f, .fn (.func 51) [] [.ptr 1 0, .ptr 2 0], .ptr 4 0, .ptr 5 0, .ptr 6 0, .tup [], .tup [], .fn (.func 91) [] [.ptr 7 0], .tup [], .tup [], .tup [], .tup [], .tup [], .tup [], .tup [], .tup [], .tup [], .tup [], .tup []]]), (mle_cons ble_refl (mle_cons ble_refl (mle_cons ble_refl (mle_cons ble_refl (mle_cons ble_refl (mle_cons ble_refl (mle_cons ble_refl (mle_cons ble_refl (mle_cons ble_refl mle_nil))))))))), rfl, rfl, 0, by omega, by omega, rfl, rfl⟩ ?_
  clear hi
  rintro k vals M1 ⟨i, hi, rfl, rfl, rfl⟩
  (conv => whnf)
  (repeat' (first | (refine step_t (by first | rfl | assumption) ?_; (conv => whnf)) | (refine step_f (by first | rfl | assumption) ?_; (conv => whnf)) | (refine step_nt (by assumption) ?_; (conv => whnf)) | (refine step_nf (by assumption) ?_; (conv => whnf)) | (refine step_n (fun hb => ?_) (fun hb => ?_) <;> (first | contradiction | (conv => whnf))) | (refine And.intro (fun hb => ?_) (fun hb => ?_) <;> (first | contradiction | (conv => whnf))) | (refine And.intro (a := (_ : Bool) = true) ?_ ?_; rotate_left 1; (conv => whnf))))
  all_goals try (simp only [Int.toNat_natCast] at *)
  all_goals try first
    | (refine decide_eq_true ?_; omega)
    | (have hlt : i < 64 := by
         have h9 : decide ((i : Int) < 64) = true := by assumption
         have := of_decide_eq_true h9
         omega
       have hlt' : i < f.S.length := by omega
       (try simp only [F.upto_at (w := F.onS (F.roomA id r)) eS.dft hlt'] at *)
       first
       | (refine decide_eq_true ?_; omega)
       | (refine decide_eq_true ?_; rfl)
       | (rw [Bool.and_eq_true]; exact ⟨decide_eq_true (by omega), decide_eq_true (by omega)⟩)
       | exact C.const_S _
       | exact decide_eq_true (gSet_length rfl (by decide))
       | (refine ⟨64 - (i + 1), ([.mix 37 [.arr 11 12 (gOf eA f.R), .arr 64 14 (gOf eS f.S), .int .i64 f.ids], .cells 3 [.int .i64 id], .cells 3 [.int .i64 r], .mix 37 [.arr 11 12 (fun _ => [.int .u8 0, .u64 (BitVec.ofInt 64 0), .u64 (BitVec.ofInt 64 0), .u64 (BitVec.ofInt 64 0), .u64 (BitVec.ofInt 64 0), .int .i64 0, .int .i64 0, .int .i64 0, .int .i64 0, .int .i64 0, .int .i64 0, .bool false]), .arr 64 14 (fun _ => .bool false :: .int .u8 0 :: [.int .u8 0, .u64 (BitVec.ofInt 64 0), .u64 (BitVec.ofInt 64 0), .u64 (BitVec.ofInt 64 0), .u64 (BitVec.ofInt 64 0), .int .i64 0, .int .i64 0, .int .i64 0, .int .i64 0, .int .i64 0, .int .i64 0, .bool false]), .int .i64 0], .mix 37 [.arr 11 12 (gOf eA (F.upto (F.roomA id r) f.R 11)), .arr 64 14 (gOf eS (F.upto (F.onS (F.roomA id r)) f.S (i + 1))), .int .i64 f.ids], .cells 112 [.fn (.func 51) [] [.ptr 1 0, .ptr 2 0]], .mix 37 [.arr 11 12 (fun _ => [.int .u8 0, .u64 (BitVec.ofInt 64 0), .u64 (BitVec.ofInt 64 0), .u64 (BitVec.ofInt 64 0), .u64 (BitVec.ofInt 64 0), .int .i64 0, .int .i64 0, .int .i64 0, .int .i64 0, .int .i64 0, .int .i64 0, .bool false]), .arr 64 14 (fun _ => .bool false :: .int .u8 0 :: [.int .u8 0, .u64 (BitVec.ofInt 64 0), .u64 (BitVec.ofInt 64 0), .u64 (BitVec.ofInt 64 0), .u64 (BitVec.ofInt 64 0), .int .i64 0, .int .i64 0, .int .i64 0, .int .i64 0, .int .i64 0, .int .i64 0, .bool false]), .int .i64 0], .cells 99 [.ptr 4 0], lpOf [] (bodyOf Tryz.f50) [frv f, .fn (.func 51) [] [.ptr 1 0, .ptr 2 0], .ptr 4 0, .ptr 5 0, .ptr 6 0, .tup [], .tup [], .fn (.func 91) [] [.ptr 7 0], .tup [], .tup [], .tup [], .tup [], .tup [], .tup [], .tup [], .tup [], .tup [], .tup [], .tup []]]), [0, 1, 2, 3, 4, 5, 6, 7, 8], by omega, rfl, (mle_cons ble_refl (mle_cons ble_refl (mle_cons ble_refl (mle_cons ble_refl (mle_cons (ble_mix ⟨itemLe_refl _, ⟨rfl, rfl, fun k hk => ?_⟩, rfl, trivial⟩) (mle_cons ble_refl (mle_cons ble_refl (mle_cons ble_refl (mle_cons ble_refl mle_nil))))))))), rfl, rfl, i + 1, by omega, rfl, ?_, rfl⟩
          · first
            | exact F.same_upto eS hS hlt (F.onS_same (F.roomA_none (by assumption))) k hk
            | exact F.same_upto eS hS hlt (F.onS_same (F.roomA_k (by assumption))) k hk
            | exact F.same_upto eS hS hlt (F.onS_same (F.roomA_i (by assumption))) k hk
            | exact F.part_upto eS hS hlt (by unfold F.onS; rw [F.roomA_h (by assumption) (by assumption)]; rfl) k hk
          · show [SV.yld 8, .ptr 7 0, .int .i64 (IntKind.i64.wrap ((i : Int) + 1))] = _
            rw [i64_of (n := (i : Int) + 1) (by omega) (by omega)]; rfl))
  all_goals first
    | (have hi64 : i = 64 := by
         have h9 : decide ((i : Int) < 64) = false := by assumption
         have := of_decide_eq_false h9
         omega
       subst hi64
       rw [F.upto_all hR, F.upto_all hS]
       refine frv_is (X := F.each (F.roomA id r) f) ?_
       (simp only [F.room, F.each, *, ↓reduceIte, Bool.true_eq_false, Bool.false_eq_true] <;> rfl)
       done)
def k_fRoom : List SV → List Blk → Res := fun args _ => match args with
  | [.mix [.arr 11 12 g, .arr 64 14 h, .int .i64 ids], .int .i64 id, .int .i64 r] => .test (frB g h) (.ok (frv (F.room (frD g h ids) id r)) [])
  | _ => .fail
theorem k_fRoom_ok : CtrOk Tryz.prog Gw 15 k_fRoom := by
  refine ⟨fun _ _ => by kernel_rfl, fun args M => ?_⟩
  unfold k_fRoom
  split
  · rename_i g h ids id r
    intro ht
    have hfr : frB g h = true := ht
    exact ctr_fr (Γ := ⟨[(12, k_fRight), (102, k_fnone)], eqs, [], [(50, Tryz.f50, []), (40, Tryz.f40, []), (91, Tryz.f91, []), (51, Tryz.f51, [(0, 11, [0, 1, 3, 7, 15, 31, 63, 127, 255, 511, 63, 2047, 4095]), (1, 6, [0, 0, 2, 6, 14, 0, 62, 127, 255, 511])])], [], mixs, meqs⟩) (sv := frv (F.room (frD g h ids) id r)) st_Gw ⟨(okCons k_fRight_ok (okCons k_fnone_ok okNil)), eqs_ok, okNilB, (okConsI Tryz.func50 rfl (by kernel_rfl) (fun _ _ => by kernel_rfl) (okConsI Tryz.func40 rfl (by kernel_rfl) (fun _ _ => by kernel_rfl) (okConsI Tryz.func91 rfl (by kernel_rfl) (fun _ _ => by kernel_rfl) (okConsI Tryz.func51 rfl (by kernel_rfl) (fun _ _ => by kernel_rfl) okNilI)))), okNilP, mixs_ok, meqs_ok⟩ Tryz.func15 rfl mixed [] (by kernel_rfl) 10000 (rest := [.int .i64 id, .int .i64 r]) hfr rfl (room_run _ (frD_wf hfr) id r)
  · trivial
theorem ne_b {a b : Int} (h : (a != b) = true) : (a == b) = false := by rw [bne, Bool.not_eq_true'] at h; exact h
theorem eq_b {a b : Int} (h : (a != b) = false) : (a == b) = true := by rw [bne, Bool.not_eq_false'] at h; exact h
attribute [local irreducible] V.number C.const
theorem null_run (f : Fr) (hf : f.wf) (id : Int) (is : Bool) : run Tryz.prog ⟨[(12, k_fRight), (102, k_fnone), (45, k_cConst), (53, k_vNumber)], eqs, [], [(50, Tryz.f50, []), (40, Tryz.f40, []), (91, Tryz.f91, []), (52, Tryz.f52, [(1, 11, [0, 1, 3, 7, 15, 31, 63, 127, 255, 511, 63, 2047, 4095, 8191])])], [], mixs, meqs⟩ 10000 [] 0 (bodyOf Tryz.f16) (initF Tryz.f16 [frv f, .int .i64 id, .bool is]) [] (retK Tryz.prog Tryz.f16 fun x _ => eqv x (frv (F.null f id is))) := by
  have hR := hf.r
  have hS := hf.s
  (conv => whnf)
  (repeat' (first | (refine step_t (by first | rfl | assumption) ?_; (conv => whnf)) | (refine step_f (by first | rfl | assumption) ?_; (conv => whnf)) | (refine step_nt (by assumption) ?_; (conv => whnf)) | (refine step_nf (by assumption) ?_; (conv => whnf)) | (refine step_n (fun hb => ?_) (fun hb => ?_) <;> (first | contradiction | (conv => whnf))) | (refine And.intro (fun hb => ?_) (fun hb => ?_) <;> (first | contradiction | (conv => whnf))) | (refine And.intro (a := (_ : Bool) = true) ?_ ?_; rotate_left 1; (conv => whnf))))
  all_goals (try simp only [frD_of hf] at *)
  all_goals try first
    | exact frB_of hf
    | (refine frv_is (X := f) ?_; (simp only [F.null, F.each, *, ↓reduceIte, Bool.true_eq_false, Bool.false_eq_true] <;> rfl); done)
  refine .inr ⟨[], [0, 1, 5], fun k vals M => ∃ i : Nat, i ≤ 11 ∧ k = 11 - i ∧ vals = [.yld 8, .ptr 7 0, .int .i64 (i : Int)] ∧ M = ([.mix 37 [.arr 11 12 (gOf eA f.R), .arr 64 14 (gOf eS f.S), .int .i64 f.ids], .cells 3 [.int .i64 id], .cells 4 [.bool is], .mix 37 [.arr 11 12 (fun _ => [.int .u8 0, .u64 (BitVec.ofInt 64 0), .u64 (BitVec.ofInt 64 0), .u64 (BitVec.ofInt 64 0), .u64 (BitVec.ofInt 64 0), .int .i64 0, .int .i64 0, .int .i64 0, .int .i64 0, .int .i64 0, .int .i64 0, .bool false]), .arr 64 14 (fun _ => .bool false :: .int .u8 0 :: [.int .u8 0, .u64 (BitVec.ofInt 64 0), .u64 (BitVec.ofInt 64 0), .u64 (BitVec.ofInt 64 0), .u64 (BitVec.ofInt 64 0), .int .i64 0, .int .i64 0, .int .i64 0, .int .i64 0, .int .i64 0, .int .i64 0, .bool false]), .int .i64 0], .mix 37 [.arr 11 12 (gOf eA (F.upto (F.nullA id is) f.R i)), .arr 64 14 (gOf eS (f.S)), .int .i64 f.ids], .cells 112 [.fn (.func 52) [] [.ptr 1 0, .ptr 2 0]], .mix 37 [.arr 11 12 (fun _ => [.int .u8 0, .u64 (BitVec.ofInt 64 0), .u64 (BitVec.ofInt 64 0), .u64 (BitVec.ofInt 64 0), .u64 (BitVec.ofInt 64 0), .int .i64 0, .int .i64 0, .int .i64 0, .int .i64 0, .int .i64 0, .int .i64 0, .bool false]), .arr 64 14 (fun _ => .bool false :: .int .u8 0 :: [.int .u8 0, .u64 (BitVec.ofInt 64 0), .u64 (BitVec.ofInt 64 0), .u64 (BitVec.ofInt 64 0), .u64 (BitVec.ofInt 64 0), .int .i64 0, .int .i64 0, .int .i64 0, .int .i64 0, .int .i64 0, .int .i64 0, .bool false]), .int .i64 0], .cells 99 [.ptr 4 0], lpOf [] (bodyOf Tryz.f50) [frv f, .fn (.func 52) [] [.ptr 1 0, .ptr 2 0], .ptr 4 0, .ptr 5 0, .ptr 6 0, .tup [], .tup [], .fn (.func 91) [] [.ptr 7 0], .tup [], .tup [], .tup [], .tup [], .tup [], .tup [], .tup [], .tup [], .tup [], .tup [], .tup []]]), ?_⟩
  conv => whnf
  refine And.intro ⟨11, ([.mix 37 [.arr 11 12 (gOf eA f.R), .arr 64 14 (gOf eS f.S), .int .i64 f.ids], .cells 3 [.int .i64 id], .cells 4 [.bool is], .mix 37 [.arr 11 12 (fun _ => [.int .u8 0, .u64 (BitVec.ofInt 64 0), .u64 (BitVec.ofInt 64 0), .u64 (BitVec.ofInt 64 0), .u64 (BitVec.ofInt 64 0), .int .i64 0, .int .i64 0, .int .i64 0, .int .i64 0, .int .i64 0, .int .i64 0, .bool false]), .arr 64 14 (fun _ => .bool false :: .int .u8 0 :: [.int .u8 0, .u64 (BitVec.ofInt 64 0), .u64 (BitVec.ofInt 64 0), .u64 (BitVec.ofInt 64 0), .u64 (BitVec.ofInt 64 0), .int .i64 0, .int .i64 0, .int .i64 0, .int .i64 0, .int .i64 0, .int .i64 0, .bool false]), .int .i64 0], .mix 37 [.arr 11 12 (gOf eA (f.R)), .arr 64 14 (gOf eS (f.S)), .int .i64 f.ids], .cells 112 [.fn (.func 52) [] [.ptr 1 0, .ptr 2 0]], .mix 37 [.arr 11 12 (fun _ => [.int .u8 0, .u64 (BitVec.ofInt 64 0), .u64 (BitVec.ofInt 64 0), .u64 (BitVec.ofInt 64 0), .u64 (BitVec.ofInt 64 0), .int .i64 0, .int .i64 0, .int .i64 0, .int .i64 0, .int .i64 0, .int .i64 0, .bool false]), .arr 64 14 (fun _ => .bool false :: .int .u8 0 :: [.int .u8 0, .u64 (BitVec.ofInt 64 0), .u64 (BitVec.ofInt 64 0), .u64 (BitVec.ofInt 64 0), .u64 (BitVec.ofInt 64 0), .int .i64 0, .int .i64 0, .int .i64 0, .int .i64 0, .int .i64 0, .int .i64 0, .bool false]), .int .i64 0], .cells 99 [.ptr 4 0], lpOf [] (bodyOf Tryz.f50) [frv f, .fn (.func 52) [] [.ptr 1 0, .ptr 2 0], .ptr 4 0, .ptr 5 0, .ptr 6 0, .tup [], .tup [], .fn (.func 91) [] [.ptr 7 0], .tup [], .tup [], .tup [], .tup [], .tup [], .tup [], .tup [], .tup [], .tup [], .tup [], .tup []]]), (mle_cons ble_refl (mle_cons ble_refl (mle_cons ble_refl (mle_cons ble_refl (mle_cons ble_refl (mle_cons ble_refl (mle_cons ble_refl (mle_cons ble_refl (mle_cons ble_refl mle_nil))))))))), rfl, rfl, 0, by omega, by omega, rfl, rfl⟩ ?_
  rintro k vals M1 ⟨i, hi, rfl, rfl, rfl⟩
  (conv => whnf)
  (repeat' (first | (refine step_t (by first | rfl | assumption) ?_; (conv => whnf)) | (refine step_f (by first | rfl | assumption) ?_; (conv => whnf)) | (refine step_nt (by assumption) ?_; (conv => whnf)) | (refine step_nf (by assumption) ?_; (conv => whnf)) | (refine step_n (fun hb => ?_) (fun hb => ?_) <;> (first | contradiction | (conv => whnf))) | (refine And.intro (fun hb => ?_) (fun hb => ?_) <;> (first | contradiction | (conv => whnf))) | (refine And.intro (a := (_ : Bool) = true) ?_ ?_; rotate_left 1; (conv => whnf))))
  all_goals try (simp only [Int.toNat_natCast] at *)
  all_goals try first
    | (refine decide_eq_true ?_; omega)
    | (have hlt : i < 11 := by
         have h9 : decide ((i : Int) < 11) = true := by assumption
         have := of_decide_eq_true h9
         omega
       have hlt' : i < f.R.length := by omega
       (try simp only [F.upto_at (w := F.nullA id is) eA.dft hlt'] at *)
       first
       | (refine decide_eq_true ?_; omega)
       | (refine decide_eq_true ?_; rfl)
       | (rw [Bool.and_eq_true]; exact ⟨decide_eq_true (by omega), decide_eq_true (by omega)⟩)
       | exact C.const_S _
       | exact decide_eq_true (gSet_length rfl (by decide))
       | (refine ⟨11 - (i + 1), ([.mix 37 [.arr 11 12 (gOf eA f.R), .arr 64 14 (gOf eS f.S), .int .i64 f.ids], .cells 3 [.int .i64 id], .cells 4 [.bool is], .mix 37 [.arr 11 12 (fun _ => [.int .u8 0, .u64 (BitVec.ofInt 64 0), .u64 (BitVec.ofInt 64 0), .u64 (BitVec.ofInt 64 0), .u64 (BitVec.ofInt 64 0), .int .i64 0, .int .i64 0, .int .i64 0, .int .i64 0, .int .i64 0, .int .i64 0, .bool false]), .arr 64 14 (fun _ => .bool false :: .int .u8 0 :: [.int .u8 0, .u64 (BitVec.ofInt 64 0), .u64 (BitVec.ofInt 64 0), .u64 (BitVec.ofInt 64 0), .u64 (BitVec.ofInt 64 0), .int .i64 0, .int .i64 0, .int .i64 0, .int .i64 0, .int .i64 0, .int .i64 0, .bool false]), .int .i64 0], .mix 37 [.arr 11 12 (gOf eA (F.upto (F.nullA id is) f.R (i + 1))), .arr 64 14 (gOf eS (f.S)), .int .i64 f.ids], .cells 112 [.fn (.func 52) [] [.ptr 1 0, .ptr 2 0]], .mix 37 [.arr 11 12 (fun _ => [.int .u8 0, .u64 (BitVec.ofInt 64 0), .u64 (BitVec.ofInt 64 0), .u64 (BitVec.ofInt 64 0), .u64 (BitVec.ofInt 64 0), .int .i64 0, .int .i64 0, .int .i64 0, .int .i64 0, .int .i64 0, .int .i64 0, .bool false]), .arr 64 14 (fun _ => .bool false :: .int .u8 0 :: [.int .u8 0, .u64 (BitVec.ofInt 64 0), .u64 (BitVec.ofInt 64 0), .u64 (BitVec.ofInt 64 0), .u64 (BitVec.ofInt 64 0), .int .i64 0, .int .i64 0, .int .i64 0, .int .i64 0, .int .i64 0, .int .i64 0, .bool false]), .int .i64 0], .cells 99 [.ptr 4 0], lpOf [] (bodyOf Tryz.f50) [frv f, .fn (.func 52) [] [.ptr 1 0, .ptr 2 0], .ptr 4 0, .ptr 5 0, .ptr 6 0, .tup [], .tup [], .fn (.func 91) [] [.ptr 7 0], .tup [], .tup [], .tup [], .tup [], .tup [], .tup [], .tup [], .tup [], .tup [], .tup [], .tup []]]), [0, 1, 2, 3, 4, 5, 6, 7, 8], by omega, rfl, (mle_cons ble_refl (mle_cons ble_refl (mle_cons ble_refl (mle_cons ble_refl (mle_cons (ble_mix ⟨⟨rfl, rfl, fun k hk => ?_⟩, itemLe_refl _, rfl, trivial⟩) (mle_cons ble_refl (mle_cons ble_refl (mle_cons ble_refl (mle_cons ble_refl mle_nil))))))))), rfl, rfl, i + 1, by omega, rfl, ?_, rfl⟩
          · first
            | exact F.same_upto eA hR hlt (F.nullA_none (by assumption)) k hk
            | exact F.same_upto eA hR hlt (F.nullA_u (by assumption)) k hk
            | exact F.same_upto eA hR hlt (F.nullA_i (by first | assumption | exact C.bf (by assumption) | exact ne_b (by assumption))) k hk
            | exact F.part_upto eA hR hlt (by rw [F.nullA_t (by assumption) (by first | assumption | exact eq_b (by assumption)) (by assumption)]; rfl) k hk
            | exact F.part_upto2 eA hR hlt (a := ⟨(f.R.getD i eA.dft).k, (f.R.getD i eA.dft).n, (f.R.getD i eA.dft).of, (f.R.getD i eA.dft).mp, (f.R.getD i eA.dft).id, (f.R.getD i eA.dft).rm, false⟩) rfl (by rw [F.nullA_f (by assumption) (by first | assumption | exact eq_b (by assumption)) (by assumption)]; rfl) k hk
          · show [SV.yld 8, .ptr 7 0, .int .i64 (IntKind.i64.wrap ((i : Int) + 1))] = _
            rw [i64_of (n := (i : Int) + 1) (by omega) (by omega)]; rfl))
  have hi11 : i = 11 := by
    have h9 : decide ((i : Int) < 11) = false := by assumption
    have := of_decide_eq_false h9
    omega
  subst hi11
  refine .inr ⟨[], [0, 1, 18], fun k vals M => ∃ i : Nat, i ≤ 64 ∧ k = 64 - i ∧ vals = [.yld 8, .ptr 7 0, .int .i64 (i : Int)] ∧ M = ([.mix 37 [.arr 11 12 (gOf eA f.R), .arr 64 14 (gOf eS f.S), .int .i64 f.ids], .cells 3 [.int .i64 id], .cells 4 [.bool is], .mix 37 [.arr 11 12 (fun _ => [.int .u8 0, .u64 (BitVec.ofInt 64 0), .u64 (BitVec.ofInt 64 0), .u64 (BitVec.ofInt 64 0), .u64 (BitVec.ofInt 64 0), .int .i64 0, .int .i64 0, .int .i64 0, .int .i64 0, .int .i64 0, .int .i64 0, .bool false]), .arr 64 14 (fun _ => .bool false :: .int .u8 0 :: [.int .u8 0, .u64 (BitVec.ofInt 64 0), .u64 (BitVec.ofInt 64 0), .u64 (BitVec.ofInt 64 0), .u64 (BitVec.ofInt 64 0), .int .i64 0, .int .i64 0, .int .i64 0, .int .i64 0, .int .i64 0, .int .i64 0, .bool false]), .int .i64 0], .mix 37 [.arr 11 12 (gOf eA (F.upto (F.nullA id is) f.R 11)), .arr 64 14 (gOf eS (F.upto (F.onS (F.nullA id is)) f.S i)), .int .i64 f.ids], .cells 112 [.fn (.func 52) [] [.ptr 1 0, .ptr 2 0]], .mix 37 [.arr 11 12 (fun _ => [.int .u8 0, .u64 (BitVec.ofInt 64 0), .u64 (BitVec.ofInt 64 0), .u64 (BitVec.ofInt 64 0), .u64 (BitVec.ofInt 64 0), .int .i64 0, .int .i64 0, .int .i64 0, .int .i64 0, .int .i64 0, .int .i64 0, .bool false]), .arr 64 14 (fun _ => .bool false :: .int .u8 0 :: [.int .u8 0, .u64 (BitVec.ofInt 64 0), .u64 (BitVec.ofInt 64 0), .u64 (BitVec.ofInt 64 0), .u64 (BitVec.ofInt 64 0), .int .i64 0, .int .i64 0, .int .i64 0, .int .i64 0, .int .i64 0, .int .i64 0, .bool false]), .int .i64 0], .cells 99 [.ptr 4 0], lpOf [] (bodyOf Tryz.f50) [frv f, .fn (.func 52) [] [.ptr 1 0, .ptr 2 0], .ptr 4 0, .ptr 5 0, .ptr 6 0, .tup [], .tup [], .fn (.func 91) [] [.ptr 7 0], .tup [], .tup [], .tup [], .tup [], .tup [], .tup [], .tup [], .tup [], .tup [], .tup [], .tup []]]), ?_⟩
  conv => whnf
  refine And.intro ⟨64, ([.mix 37 [.arr 11 12 (gOf eA f.R), .arr 64 14 (gOf eS f.S), .int .i64 f.ids], .cells 3 [.int .i64 id], .cells 4 [.bool is], .mix 37 [.arr 11 12 (fun _ => [.int .u8 0, .u64 (BitVec.ofInt 64 0), .u64 (BitVec.ofInt 64 0), .u64 (BitVec.ofInt 64 0), .u64 (BitVec.ofInt 64 0), .int .i64 0, .int .i64 0, .int .i64 0, .int .i64 0, .int .i64 0, .int .i64 0, .bool false]), .arr 64 14 (fun _ => .bool false :: .int .u8 0 :: [.int .u8 0, .u64 (BitVec.ofInt 64 0), .u64 (BitVec.ofInt 64 0), .u64 (BitVec.ofInt 64 0), .u64 (BitVec.ofInt 64 0), .int .i64 0, .int .i64 0, .int .i64 0, .int .i64 0, .int .i64 0, .int .i64 0, .bool false]), .int .i64 0], .mix 37 [.arr 11 12 (gOf eA (F.upto (F.nullA id is) f.R 11)), .arr 64 14 (gOf eS (f.S)), .int .i64 f.ids], .cells 112 [.fn (.func 52) [] [.ptr 1 0, .ptr 2 0]], .mix 37 [.arr 11 12 (fun _ => [.int .u8 0, .u64 (BitVec.ofInt 64 0), .u64 (BitVec.ofInt 64 0), .u64 (BitVec.ofInt 64 0), .u64 (BitVec.ofInt 64 0), .int .i64 0, .int .i64 0, .int .i64 0, .int .i64 0, .int .i64 0, .int .i64 0, .bool false]), .arr 64 14 (fun _ => .bool false :: .int .u8 0 :: [.int .u8 0, .u64 (BitVec.ofInt 64 0), .u64 (BitVec.ofInt 64 0), .u64 (BitVec.ofInt 64 0), .u64 (BitVec.ofInt 64 0), .int .i64 0, .int .i64 0, .int .i64 0, .int .i64 0, .int .i64 0, .int .i64 0, .bool false]), .int .i64 0], .cells 99 [.ptr 4 0], lpOf [] (bodyOf Tryz.f50) [frv f, .fn (.func 52) [] [.ptr 1 0, .ptr 2 0], .ptr 4 0, .ptr 5 0, .ptr 6 0, .tup [], .tup [], .fn (.func 91) [] [.ptr 7 0], .tup [], .tup [], .tup [], .tup [], .tup [], .tup [], .tup [], .tup [], .tup [], .tup [], .tup []]]), (mle_cons ble_refl (mle_cons ble_refl (mle_cons ble_refl (mle_cons ble_refl (mle_cons ble_refl (mle_cons ble_refl (mle_cons ble_refl (mle_cons ble_refl (mle_cons ble_refl mle_nil))))))))), rfl, rfl, 0, by omega, by omega, rfl, rfl⟩ ?_
  clear hi
  rintro k vals M1 ⟨i, hi, rfl, rfl, rfl⟩
  (conv => whnf)
  (repeat' (first | (refine step_t (by first | rfl | assumption) ?_; (conv => whnf)) | (refine step_f (by first | rfl | assumption) ?_; (conv => whnf)) | (refine step_nt (by assumption) ?_; (conv => whnf)) | (refine step_nf (by assumption) ?_; (conv => whnf)) | (refine step_n (fun hb => ?_) (fun hb => ?_) <;> (first | contradiction | (conv => whnf))) | (refine And.intro (fun hb => ?_) (fun hb => ?_) <;> (first | contradiction | (conv => whnf))) | (refine And.intro (a := (_ : Bool) = true) ?_ ?_; rotate_left 1; (conv => whnf))))
  all_goals try (simp only [Int.toNat_natCast] at *)
  all_goals try first
    | (refine decide_eq_true ?_; omega)
    | (have hlt : i < 64 := by
         have h9 : decide ((i : Int) < 64) = true := by assumption
         have := of_decide_eq_true h9
         omega
       have hlt' : i < f.S.length := by omega
       (try simp only [F.upto_at (w := F.onS (F.nullA id is)) eS.dft hlt'] at *)
       first
       | (refine decide_eq_true ?_; omega)
       | (refine decide_eq_true ?_; rfl)
       | (rw [Bool.and_eq_true]; exact ⟨decide_eq_true (by omega), decide_eq_true (by omega)⟩)
       | exact C.const_S _
       | exact decide_eq_true (gSet_length rfl (by decide))
       | (refine ⟨64 - (i + 1), ([.mix 37 [.arr 11 12 (gOf eA f.R), .arr 64 14 (gOf eS f.S), .int .i64 f.ids], .cells 3 [.int .i64 id], .cells 4 [.bool is], .mix 37 [.arr 11 12 (fun _ => [.int .u8 0, .u64 (BitVec.ofInt 64 0), .u64 (BitVec.ofInt 64 0), .u64 (BitVec.ofInt 64 0), .u64 (BitVec.ofInt 64 0), .int .i64 0, .int .i64 0, .int .i64 0, .int .i64 0, .int .i64 0, .int .i64 0, .bool false]), .arr 64 14 (fun _ => .bool false :: .int .u8 0 :: [.int .u8 0, .u64 (BitVec.ofInt 64 0), .u64 (BitVec.ofInt 64 0), .u64 (BitVec.ofInt 64 0), .u64 (BitVec.ofInt 64 0), .int .i64 0, .int .i64 0, .int .i64 0, .int .i64 0, .int .i64 0, .int .i64 0, .bool false]), .int .i64 0], .mix 37 [.arr 11 12 (gOf eA (F.upto (F.nullA id is) f.R 11)), .arr 64 14 (gOf eS (F.upto (F.onS (F.nullA id is)) f.S (i + 1))), .int .i64 f.ids], .cells 112 [.fn (.func 52) [] [.ptr 1 0, .ptr 2 0]], .mix 37 [.arr 11 12 (fun _ => [.int .u8 0, .u64 (BitVec.ofInt 64 0), .u64 (BitVec.ofInt 64 0), .u64 (BitVec.ofInt 64 0), .u64 (BitVec.ofInt 64 0), .int .i64 0, .int .i64 0, .int .i64 0, .int .i64 0, .int .i64 0, .int .i64 0, .bool false]), .arr 64 14 (fun _ => .bool false :: .int .u8 0 :: [.int .u8 0, .u64 (BitVec.ofInt 64 0), .u64 (BitVec.ofInt 64 0), .u64 (BitVec.ofInt 64 0), .u64 (BitVec.ofInt 64 0), .int .i64 0, .int .i64 0, .int .i64 0, .int .i64 0, .int .i64 0, .int .i64 0, .bool false]), .int .i64 0], .cells 99 [.ptr 4 0], lpOf [] (bodyOf Tryz.f50) [frv f, .fn (.func 52) [] [.ptr 1 0, .ptr 2 0], .ptr 4 0, .ptr 5 0, .ptr 6 0, .tup [], .tup [], .fn (.func 91) [] [.ptr 7 0], .tup [], .tup [], .tup [], .tup [], .tup [], .tup [], .tup [], .tup [], .tup [], .tup [], .tup []]]), [0, 1, 2, 3, 4, 5, 6, 7, 8], by omega, rfl, (mle_cons ble_refl (mle_cons ble_refl (mle_cons ble_refl (mle_cons ble_refl (mle_cons (ble_mix ⟨itemLe_refl _, ⟨rfl, rfl, fun k hk => ?_⟩, rfl, trivial⟩) (mle_cons ble_refl (mle_cons ble_refl (mle_cons ble_refl (mle_cons ble_refl mle_nil))))))))), rfl, rfl, i + 1, by omega, rfl, ?_, rfl⟩
          · first
            | exact F.same_upto eS hS hlt (F.onS_same (F.nullA_none (by assumption))) k hk
            | exact F.same_upto eS hS hlt (F.onS_same (F.nullA_u (by assumption))) k hk
            | exact F.same_upto eS hS hlt (F.onS_same (F.nullA_i (by first | assumption | exact ne_b (by assumption)))) k hk
            | exact F.part_upto eS hS hlt (by unfold F.onS; rw [F.nullA_t (by assumption) (by first | assumption | exact eq_b (by assumption)) (by assumption)]; rfl) k hk
            | exact F.part_upto2 eS hS hlt (a := ⟨(f.S.getD i eS.dft).w, (f.S.getD i eS.dft).st, (f.S.getD i eS.dft).a.k, (f.S.getD i eS.dft).a.n, (f.S.getD i eS.dft).a.of, (f.S.getD i eS.dft).a.mp, (f.S.getD i eS.dft).a.id, (f.S.getD i eS.dft).a.rm, false⟩) rfl (by unfold F.onS; rw [F.nullA_f (by assumption) (by first | assumption | exact eq_b (by assumption)) (by assumption)]; rfl) k hk
          · show [SV.yld 8, .ptr 7 0, .int .i64 (IntKind.i64.wrap ((i : Int) + 1))] = _
            rw [i64_of (n := (i : Int) + 1) (by omega) (by omega)]; rfl))
  all_goals first
    | (have hi64 : i = 64 := by
         have h9 : decide ((i : Int) < 64) = false := by assumption
         have := of_decide_eq_false h9
         omega
       subst hi64
       rw [F.upto_all hR, F.upto_all hS]
       refine frv_is (X := F.each (F.nullA id is) f) ?_
       (simp only [F.null, F.each, *, ↓reduceIte, Bool.true_eq_false, Bool.false_eq_true] <;> rfl)
       done)
def k_fNull : List SV → List Blk → Res := fun args _ => match args with
  | [.mix [.arr 11 12 g, .arr 64 14 h, .int .i64 ids], .int .i64 id, .bool is] => .test (frB g h) (.ok (frv (F.null (frD g h ids) id is)) [])
  | _ => .fail
theorem k_fNull_ok : CtrOk Tryz.prog Gw 16 k_fNull := by
  refine ⟨fun _ _ => by kernel_rfl, fun args M => ?_⟩
  unfold k_fNull
  split
  · rename_i g h ids id is
    intro ht
    have hfr : frB g h = true := ht
    exact ctr_fr (Γ := ⟨[(12, k_fRight), (102, k_fnone), (45, k_cConst), (53, k_vNumber)], eqs, [], [(50, Tryz.f50, []), (40, Tryz.f40, []), (91, Tryz.f91, []), (52, Tryz.f52, [(1, 11, [0, 1, 3, 7, 15, 31, 63, 127, 255, 511, 63, 2047, 4095, 8191])])], [], mixs, meqs⟩) (sv := frv (F.null (frD g h ids) id is)) st_Gw ⟨(okCons k_fRight_ok (okCons k_fnone_ok (okCons k_cConst_ok (okCons k_vNumber_ok okNil)))), eqs_ok, okNilB, (okConsI Tryz.func50 rfl (by kernel_rfl) (fun _ _ => by kernel_rfl) (okConsI Tryz.func40 rfl (by kernel_rfl) (fun _ _ => by kernel_rfl) (okConsI Tryz.func91 rfl (by kernel_rfl) (fun _ _ => by kernel_rfl) (okConsI Tryz.func52 rfl (by kernel_rfl) (fun _ _ => by kernel_rfl) okNilI)))), okNilP, mixs_ok, meqs_ok⟩ Tryz.func16 rfl mixed [] (by kernel_rfl) 10000 (rest := [.int .i64 id, .bool is]) hfr rfl (null_run _ (frD_wf hfr) id is)
  · trivial
end Go.Proofs.YtgfemfgimefmeaaGreat
namespace Go.Proofs.YtgfemfgimefmeaaGreat
open Go.RowKit Go.Sx
set_option linter.unusedSimpArgs false
set_option linter.unusedVariables false
set_option linter.unnecessarySimpa false
set_option maxRecDepth 100000
set_option maxHeartbeats 4000000
/-- A function of two frames. -/
theorem ctr_fr2 {P : Program} {G : World → Prop} (hG : Stable G) {Γ : Env} (hΓ : EnvOk P G Γ) {f : FuncId} {fn : Func} (hf : P.funcs[f]? = some fn) (hb : fn.body.isSome = true) (hm : P.follows .mixedOrders = true) (T : Tbl) (hT : codeOk T (bodyOf fn) = true) (n : Nat)
    {M : List Blk} {g h g2 h2 : Nat → List FV} {ids ids2 : Int} {rest : List SV} {sv : SV} (hfr : frB g h = true) (hfr2 : frB g2 h2 = true) (hsc : scL (fun _ => false) rest = true)
    (hr : run P Γ n T 0 (bodyOf fn) (initF fn (frv (frD g h ids) :: frv (frD g2 h2 ids2) :: rest)) [] (retK P fn fun x _ => eqv x sv)) :
    ∀ (B : Bd) (ρ : Val) (w : World), G w → MRel B ρ M w → Calls P f (denL ρ (.mix [.arr 11 12 g, .arr 64 14 h, .int .i64 ids] :: .mix [.arr 11 12 g2, .arr 64 14 h2, .int .i64 ids2] :: rest)).toArray w fun e w' =>
      ∃ (ρ' : Val) (v : Value), e = .returned v ∧ (sv ≠ .junk → v = sv.den ρ') ∧ Val.Ext w.heap.size (fun n => ¬ (M.length ≤ n ∧ n < M.length + ([] : List Blk).length)) ρ ρ' ∧ Below w.heap.size w w' ∧ New B w.heap.size ρ' M.length [] w' := by
  intro B ρ w hGw hM
  have := ctr_flat hG hΓ hf hb hm T hT n (args := frv (frD g h ids) :: frv (frD g2 h2 ids2) :: rest) (M := M) (by simpa [scL, SV.sc] using hsc) hr B ρ w hGw hM
  have e : denL ρ (.mix [.arr 11 12 g, .arr 64 14 h, .int .i64 ids] :: .mix [.arr 11 12 g2, .arr 64 14 h2, .int .i64 ids2] :: rest) = denL ρ (frv (frD g h ids) :: frv (frD g2 h2 ids2) :: rest) := by
    show _ :: _ :: _ = _ :: _ :: _
    rw [frv_den hfr ρ, frv_den hfr2 ρ]
  rw [e]; exact this
attribute [local irreducible] F.tie F.under F.right V.leq F.leq F.tok F.tst F.vals F.leR F.leS F.tied
theorem leq_run (f g : Fr) (hf : f.wf) (hg : g.wf) : run Tryz.prog ⟨[(12, k_fRight), (18, k_vLeq), (54, k_funder), (61, k_ftie)], eqs, [], [(55, Tryz.f55, []), (40, Tryz.f40, []), (91, Tryz.f91, []), (62, Tryz.f62, [])], [], mixs, meqs⟩ 10000 [(6, 8, [0, 0, 3, 7, 0, 0, 48, 112, 255, 511]), (12, 8, [0, 0, 3, 7, 0, 0, 48, 112, 255, 511])] 0 (bodyOf Tryz.f17) (initF Tryz.f17 [frv f, frv g]) [] (retK Tryz.prog Tryz.f17 fun x _ => eqv x (.bool (F.leq f g))) := by
  have hR := hf.r
  have hS := hf.s
  have gR := hg.r
  have gS := hg.s
  (conv => whnf)
  (repeat' (first | (refine step_t (by first | rfl | assumption) ?_; (conv => whnf)) | (refine step_f (by first | rfl | assumption) ?_; (conv => whnf)) | (refine step_nt (by assumption) ?_; (conv => whnf)) | (refine step_nf (by assumption) ?_; (conv => whnf)) | (refine step_n (fun hb => ?_) (fun hb => ?_) <;> (first | contradiction | (conv => whnf))) | (refine And.intro (fun hb => ?_) (fun hb => ?_) <;> (first | contradiction | (conv => whnf))) | (refine And.intro ?_ ?_; rotate_left 1; (conv => whnf))))
  all_goals (try simp only [frD_of hf, frD_of hg] at *)
  all_goals try first
    | exact frB_of hf
    | exact frB_of hg
    | exact F.leq_no1 (by assumption)
    | exact (F.leq_no1 (by assumption)).symm
    | exact F.leq_no2 (by assumption)
    | exact (F.leq_no2 (by assumption)).symm
  refine .inr ⟨[], [2, 3, 15], fun k vals M => ∃ i : Nat, i ≤ 11 ∧ k = 11 - i ∧ F.leR f.R g.R i = true ∧ vals = [.ptr 0 0, .ptr 1 0, .int .i64 (i : Int)] ∧ M = [.mix 37 [.arr 11 12 (gOf eA f.R), .arr 64 14 (gOf eS f.S), .int .i64 f.ids], .mix 37 [.arr 11 12 (gOf eA g.R), .arr 64 14 (gOf eS g.S), .int .i64 g.ids]], ?_⟩
  conv => whnf
  refine And.intro ⟨11, [.mix 37 [.arr 11 12 (gOf eA f.R), .arr 64 14 (gOf eS f.S), .int .i64 f.ids], .mix 37 [.arr 11 12 (gOf eA g.R), .arr 64 14 (gOf eS g.S), .int .i64 g.ids]], (mle_cons ble_refl (mle_cons ble_refl mle_nil)), rfl, rfl, 0, by omega, by omega, F.leR_0, rfl, rfl⟩ ?_
  rintro k vals M1 ⟨i, hi, rfl, hle, rfl, rfl⟩
  (conv => whnf)
  (repeat' (first | (refine step_t (by first | rfl | assumption) ?_; (conv => whnf)) | (refine step_f (by first | rfl | assumption) ?_; (conv => whnf)) | (refine step_nt (by assumption) ?_; (conv => whnf)) | (refine step_nf (by assumption) ?_; (conv => whnf)) | (refine step_n (fun hb => ?_) (fun hb => ?_) <;> (first | contradiction | (conv => whnf))) | (refine And.intro (fun hb => ?_) (fun hb => ?_) <;> (first | contradiction | (conv => whnf))) | (refine And.intro ?_ ?_; rotate_left 1; (conv => whnf))))
  all_goals try (simp only [Int.toNat_natCast] at *)
  all_goals try first
    | (refine decide_eq_true ?_; omega)
    | (have hlt : i < 11 := by
         have h9 : decide ((i : Int) < 11) = true := by assumption
         have := of_decide_eq_true h9
         omega
       first
       | (refine decide_eq_true ?_; omega)
       | (rw [Bool.and_eq_true]; exact ⟨decide_eq_true (by omega), decide_eq_true (by omega)⟩)
       | (rw [Bool.and_eq_true]; exact ⟨inA_at hf.ri (by omega), inA_at hg.ri (by omega)⟩)
       | exact F.leq_R hlt (by assumption)
       | exact (F.leq_R hlt (by assumption)).symm
       | (refine ⟨11 - (i + 1), [.mix 37 [.arr 11 12 (gOf eA f.R), .arr 64 14 (gOf eS f.S), .int .i64 f.ids], .mix 37 [.arr 11 12 (gOf eA g.R), .arr 64 14 (gOf eS g.S), .int .i64 g.ids]], [0, 1], by omega, rfl, (mle_cons ble_refl (mle_cons ble_refl mle_nil)), rfl, rfl, i + 1, by omega, rfl, F.leR_go hle (by assumption), ?_, rfl⟩
          show [SV.ptr 0 0, .ptr 1 0, .int .i64 (IntKind.i64.wrap ((i : Int) + 1))] = _
          rw [i64_of (n := (i : Int) + 1) (by omega) (by omega)]; rfl))
  have hi11 : i = 11 := by
    have h9 : decide ((i : Int) < 11) = false := by assumption
    have := of_decide_eq_false h9
    omega
  subst hi11
  refine .inr ⟨[], [2, 3, 29], fun k vals M => ∃ i : Nat, i ≤ 64 ∧ k = 64 - i ∧ F.leS f.S g.S i = true ∧ vals = [.ptr 0 0, .ptr 1 0, .int .i64 (i : Int)] ∧ M = [.mix 37 [.arr 11 12 (gOf eA f.R), .arr 64 14 (gOf eS f.S), .int .i64 f.ids], .mix 37 [.arr 11 12 (gOf eA g.R), .arr 64 14 (gOf eS g.S), .int .i64 g.ids]], ?_⟩
  conv => whnf
  refine And.intro ⟨64, [.mix 37 [.arr 11 12 (gOf eA f.R), .arr 64 14 (gOf eS f.S), .int .i64 f.ids], .mix 37 [.arr 11 12 (gOf eA g.R), .arr 64 14 (gOf eS g.S), .int .i64 g.ids]], (mle_cons ble_refl (mle_cons ble_refl mle_nil)), rfl, rfl, 0, by omega, by omega, F.leS_0, rfl, rfl⟩ ?_
  clear hi
  rintro k vals M1 ⟨i, hi, rfl, hles, rfl, rfl⟩
  (conv => whnf)
  (repeat' (first | (refine step_t (by first | rfl | assumption) ?_; (conv => whnf)) | (refine step_f (by first | rfl | assumption) ?_; (conv => whnf)) | (refine step_nt (by assumption) ?_; (conv => whnf)) | (refine step_nf (by assumption) ?_; (conv => whnf)) | (refine step_n (fun hb => ?_) (fun hb => ?_) <;> (first | contradiction | (conv => whnf))) | (refine And.intro (fun hb => ?_) (fun hb => ?_) <;> (first | contradiction | (conv => whnf))) | (refine And.intro ?_ ?_; rotate_left 1; (conv => whnf))))
  all_goals try (simp only [Int.toNat_natCast] at *)
  all_goals try first
    | (refine decide_eq_true ?_; omega)
    | (have hlt : i < 64 := by
         have h9 : decide ((i : Int) < 64) = true := by assumption
         have := of_decide_eq_true h9
         omega
       first
       | (refine decide_eq_true ?_; omega)
       | (rw [Bool.and_eq_true]; exact ⟨decide_eq_true (by omega), decide_eq_true (by omega)⟩)
       | (rw [Bool.and_eq_true]; exact ⟨inS_at hf.si (by omega), inS_at hg.si (by omega)⟩)
       | exact F.leq_S hlt (by assumption)
       | exact (F.leq_S hlt (by assumption)).symm
       | (refine ⟨64 - (i + 1), [.mix 37 [.arr 11 12 (gOf eA f.R), .arr 64 14 (gOf eS f.S), .int .i64 f.ids], .mix 37 [.arr 11 12 (gOf eA g.R), .arr 64 14 (gOf eS g.S), .int .i64 g.ids]], [0, 1], by omega, rfl, (mle_cons ble_refl (mle_cons ble_refl mle_nil)), rfl, rfl, i + 1, by omega, rfl, F.leS_go hles (by assumption), ?_, rfl⟩
          show [SV.ptr 0 0, .ptr 1 0, .int .i64 (IntKind.i64.wrap ((i : Int) + 1))] = _
          rw [i64_of (n := (i : Int) + 1) (by omega) (by omega)]; rfl))
  have hi64 : i = 64 := by
    have h9 : decide ((i : Int) < 64) = false := by assumption
    have := of_decide_eq_false h9
    omega
  subst hi64
  refine .inr ⟨[], [0, 1, 5], fun k vals M => ∃ i : Nat, i ≤ 11 ∧ k = 11 - i ∧ F.tok (F.vals f) (F.vals g) i = true ∧ vals = [.yld 7, .ptr 6 0, .int .i64 (i : Int)] ∧ M = ([.mix 37 [.arr 11 12 (gOf eA f.R), .arr 64 14 (gOf eS f.S), .int .i64 f.ids], .mix 37 [.arr 11 12 (gOf eA g.R), .arr 64 14 (gOf eS g.S), .int .i64 g.ids], .cells 99 [.ptr 0 0], .cells 4 [.ff], .fm 3 (F.tst (F.vals f) (F.vals g) (i)), .cells 120 [.mp 4], .cells 99 [.ptr 1 0], lpOf [] (bodyOf Tryz.f55) [.ptr 0 0, .ptr 1 0, .ptr 2 0, .tup [], .ptr 3 0, .ptr 5 0, .tup [], .tup [], .tup [], .tup [], .tup [], .tup [], .tup [], .tup [], .mp 4, .ptr 1 0, .fn (.func 91) [] [.ptr 6 0], .tup [], .tup [], .tup [], .tup [], .tup [], .tup [], .tup [], .tup [], .tup [], .tup [], .tup [], .tup [], .tup [], .tup [], .tup [], .tup [], .tup [], .tup [], .tup [], .tup [], .tup [], .tup [], .tup [], .tup [], .tup [], .tup [], .tup [], .tup [], .tup [], .tup [], .tup [], .tup [], .tup [], .tup [], .tup [], .tup [], .tup []]]), ?_⟩
  conv => whnf
  refine And.intro ⟨11, ([.mix 37 [.arr 11 12 (gOf eA f.R), .arr 64 14 (gOf eS f.S), .int .i64 f.ids], .mix 37 [.arr 11 12 (gOf eA g.R), .arr 64 14 (gOf eS g.S), .int .i64 g.ids], .cells 99 [.ptr 0 0], .cells 4 [.ff], .fm 3 (F.tst (F.vals f) (F.vals g) (0)), .cells 120 [.mp 4], .cells 99 [.ptr 1 0], lpOf [] (bodyOf Tryz.f55) [.ptr 0 0, .ptr 1 0, .ptr 2 0, .tup [], .ptr 3 0, .ptr 5 0, .tup [], .tup [], .tup [], .tup [], .tup [], .tup [], .tup [], .tup [], .mp 4, .ptr 1 0, .fn (.func 91) [] [.ptr 6 0], .tup [], .tup [], .tup [], .tup [], .tup [], .tup [], .tup [], .tup [], .tup [], .tup [], .tup [], .tup [], .tup [], .tup [], .tup [], .tup [], .tup [], .tup [], .tup [], .tup [], .tup [], .tup [], .tup [], .tup [], .tup [], .tup [], .tup [], .tup [], .tup [], .tup [], .tup [], .tup [], .tup [], .tup [], .tup [], .tup [], .tup []]]), (mle_cons ble_refl (mle_cons ble_refl (mle_cons ble_refl (mle_cons ble_refl (mle_cons (ble_fm0 fun k _ => F.tst_0 k) (mle_cons ble_refl (mle_cons ble_refl (mle_cons ble_refl mle_nil)))))))), rfl, rfl, 0, by omega, by omega, F.tok_0, rfl, rfl⟩ ?_
  clear hi
  rintro k vals M1 ⟨i, hi, rfl, hok, rfl, rfl⟩
  (conv => whnf)
  (repeat' (first | (refine step_t (by first | rfl | assumption) ?_; (conv => whnf)) | (refine step_f (by first | rfl | assumption) ?_; (conv => whnf)) | (refine step_nt (by assumption) ?_; (conv => whnf)) | (refine step_nf (by assumption) ?_; (conv => whnf)) | (refine step_n (fun hb => ?_) (fun hb => ?_) <;> (first | contradiction | (conv => whnf))) | (refine And.intro (fun hb => ?_) (fun hb => ?_) <;> (first | contradiction | (conv => whnf))) | (refine And.intro ?_ ?_; rotate_left 1; (conv => whnf))))
  all_goals try (simp only [Int.toNat_natCast] at *)
  all_goals try first
    | (refine decide_eq_true ?_; omega)
    | (have hlt : i < 11 := by
         have h9 : decide ((i : Int) < 11) = true := by assumption
         have := of_decide_eq_true h9
         omega
       have hx := F.vals_R hf hlt
       have hy := F.vals_R hg hlt
       first
       | (refine decide_eq_true ?_; omega)
       | (rw [Bool.and_eq_true]; exact ⟨decide_eq_true (by omega), decide_eq_true (by omega)⟩)
       | exact F.leq_no6 (F.tok_no hx hy (by omega) (by assumption) (by assumption) (by assumption))
       | exact (F.leq_no6 (F.tok_no hx hy (by omega) (by assumption) (by assumption) (by assumption))).symm
       | (refine ⟨11 - (i + 1), ([.mix 37 [.arr 11 12 (gOf eA f.R), .arr 64 14 (gOf eS f.S), .int .i64 f.ids], .mix 37 [.arr 11 12 (gOf eA g.R), .arr 64 14 (gOf eS g.S), .int .i64 g.ids], .cells 99 [.ptr 0 0], .cells 4 [.ff], .fm 3 (F.tst (F.vals f) (F.vals g) (i + 1)), .cells 120 [.mp 4], .cells 99 [.ptr 1 0], lpOf [] (bodyOf Tryz.f55) [.ptr 0 0, .ptr 1 0, .ptr 2 0, .tup [], .ptr 3 0, .ptr 5 0, .tup [], .tup [], .tup [], .tup [], .tup [], .tup [], .tup [], .tup [], .mp 4, .ptr 1 0, .fn (.func 91) [] [.ptr 6 0], .tup [], .tup [], .tup [], .tup [], .tup [], .tup [], .tup [], .tup [], .tup [], .tup [], .tup [], .tup [], .tup [], .tup [], .tup [], .tup [], .tup [], .tup [], .tup [], .tup [], .tup [], .tup [], .tup [], .tup [], .tup [], .tup [], .tup [], .tup [], .tup [], .tup [], .tup [], .tup [], .tup [], .tup [], .tup [], .tup [], .tup []]]), [0, 1, 2, 3, 4, 5, 6, 7], by omega, rfl, (mle_cons ble_refl (mle_cons ble_refl (mle_cons ble_refl (mle_cons ble_refl (mle_cons (ble_fm fun k _ => ?_) (mle_cons ble_refl (mle_cons ble_refl (mle_cons ble_refl mle_nil)))))))), rfl, rfl, i + 1, by omega, rfl, ?_, ?_, rfl⟩
          · first
            | exact (congrFun (F.tst_skip hy (by assumption)) k).symm
            | exact (congrFun (F.tst_put hx hy (by assumption)) k).symm
          · first
            | exact F.tok_skip hy (by assumption) hok
            | exact F.tok_new hx hy (by assumption) hok
            | exact F.tok_old hx hy (by assumption) hok
          · show [SV.yld 7, .ptr 6 0, .int .i64 (IntKind.i64.wrap ((i : Int) + 1))] = _
            rw [i64_of (n := (i : Int) + 1) (by omega) (by omega)]; rfl))
  have hi11 : i = 11 := by
    have h9 : decide ((i : Int) < 11) = false := by assumption
    have := of_decide_eq_false h9
    omega
  subst hi11
  refine .inr ⟨[], [0, 1, 18], fun k vals M => ∃ i : Nat, i ≤ 64 ∧ k = 64 - i ∧ F.tok (F.vals f) (F.vals g) (11 + i) = true ∧ vals = [.yld 7, .ptr 6 0, .int .i64 (i : Int)] ∧ M = ([.mix 37 [.arr 11 12 (gOf eA f.R), .arr 64 14 (gOf eS f.S), .int .i64 f.ids], .mix 37 [.arr 11 12 (gOf eA g.R), .arr 64 14 (gOf eS g.S), .int .i64 g.ids], .cells 99 [.ptr 0 0], .cells 4 [.ff], .fm 3 (F.tst (F.vals f) (F.vals g) (11 + i)), .cells 120 [.mp 4], .cells 99 [.ptr 1 0], lpOf [] (bodyOf Tryz.f55) [.ptr 0 0, .ptr 1 0, .ptr 2 0, .tup [], .ptr 3 0, .ptr 5 0, .tup [], .tup [], .tup [], .tup [], .tup [], .tup [], .tup [], .tup [], .mp 4, .ptr 1 0, .fn (.func 91) [] [.ptr 6 0], .tup [], .tup [], .tup [], .tup [], .tup [], .tup [], .tup [], .tup [], .tup [], .tup [], .tup [], .tup [], .tup [], .tup [], .tup [], .tup [], .tup [], .tup [], .tup [], .tup [], .tup [], .tup [], .tup [], .tup [], .tup [], .tup [], .tup [], .tup [], .tup [], .tup [], .tup [], .tup [], .tup [], .tup [], .tup [], .tup [], .tup []]]), ?_⟩
  conv => whnf
  refine And.intro ⟨64, ([.mix 37 [.arr 11 12 (gOf eA f.R), .arr 64 14 (gOf eS f.S), .int .i64 f.ids], .mix 37 [.arr 11 12 (gOf eA g.R), .arr 64 14 (gOf eS g.S), .int .i64 g.ids], .cells 99 [.ptr 0 0], .cells 4 [.ff], .fm 3 (F.tst (F.vals f) (F.vals g) (11)), .cells 120 [.mp 4], .cells 99 [.ptr 1 0], lpOf [] (bodyOf Tryz.f55) [.ptr 0 0, .ptr 1 0, .ptr 2 0, .tup [], .ptr 3 0, .ptr 5 0, .tup [], .tup [], .tup [], .tup [], .tup [], .tup [], .tup [], .tup [], .mp 4, .ptr 1 0, .fn (.func 91) [] [.ptr 6 0], .tup [], .tup [], .tup [], .tup [], .tup [], .tup [], .tup [], .tup [], .tup [], .tup [], .tup [], .tup [], .tup [], .tup [], .tup [], .tup [], .tup [], .tup [], .tup [], .tup [], .tup [], .tup [], .tup [], .tup [], .tup [], .tup [], .tup [], .tup [], .tup [], .tup [], .tup [], .tup [], .tup [], .tup [], .tup [], .tup [], .tup []]]), (mle_cons ble_refl (mle_cons ble_refl (mle_cons ble_refl (mle_cons ble_refl (mle_cons ble_refl (mle_cons ble_refl (mle_cons ble_refl (mle_cons ble_refl mle_nil)))))))), rfl, rfl, 0, by omega, by omega, hok, rfl, rfl⟩ ?_
  clear hi hok
  rintro k vals M1 ⟨i, hi, rfl, hok, rfl, rfl⟩
  have e11 : IntKind.i64.wrap (11 + (i : Int)) = 11 + (i : Int) := i64_of (by omega) (by omega)
  have hn11 : decide (IntKind.i64.wrap (11 + (i : Int)) < 11) = false := by rw [e11]; exact decide_eq_false (by omega)
  have e0 : IntKind.i64.wrap (11 + (i : Int) - 11) = (i : Int) := by rw [show 11 + (i : Int) - 11 = i by omega]; exact i64_of (by omega) (by omega)
  (conv => whnf)
  (repeat' (first | (refine step_t (by first | rfl | assumption) ?_; (conv => whnf)) | (refine step_f (by first | rfl | assumption) ?_; (conv => whnf)) | (refine step_nt (by assumption) ?_; (conv => whnf)) | (refine step_nf (by assumption) ?_; (conv => whnf)) | (refine step_n (fun hb => ?_) (fun hb => ?_) <;> (first | contradiction | (conv => whnf))) | (refine And.intro (fun hb => ?_) (fun hb => ?_) <;> (first | contradiction | (conv => whnf))) | (refine And.intro ?_ ?_; rotate_left 1; (conv => whnf))))
  all_goals try (simp only [e11, e0, Int.toNat_natCast] at *)
  all_goals (try clear hn11)
  all_goals (try clear e0)
  all_goals (try clear e11)
  all_goals try first
    | (refine decide_eq_true ?_; omega)
    | (have hlt : i < 64 := by
         have h9 : decide ((i : Int) < 64) = true := by assumption
         have := of_decide_eq_true h9
         omega
       have hx := F.vals_S hf hlt
       have hy := F.vals_S hg hlt
       first
       | (refine decide_eq_true ?_; omega)
       | (rw [Bool.and_eq_true]; exact ⟨decide_eq_true (by omega), decide_eq_true (by omega)⟩)
       | exact F.leq_no6 (F.tok_no hx hy (by omega) (by assumption) (by assumption) (by assumption))
       | exact (F.leq_no6 (F.tok_no hx hy (by omega) (by assumption) (by assumption) (by assumption))).symm
       | (refine ⟨64 - (i + 1), ([.mix 37 [.arr 11 12 (gOf eA f.R), .arr 64 14 (gOf eS f.S), .int .i64 f.ids], .mix 37 [.arr 11 12 (gOf eA g.R), .arr 64 14 (gOf eS g.S), .int .i64 g.ids], .cells 99 [.ptr 0 0], .cells 4 [.ff], .fm 3 (F.tst (F.vals f) (F.vals g) (11 + i + 1)), .cells 120 [.mp 4], .cells 99 [.ptr 1 0], lpOf [] (bodyOf Tryz.f55) [.ptr 0 0, .ptr 1 0, .ptr 2 0, .tup [], .ptr 3 0, .ptr 5 0, .tup [], .tup [], .tup [], .tup [], .tup [], .tup [], .tup [], .tup [], .mp 4, .ptr 1 0, .fn (.func 91) [] [.ptr 6 0], .tup [], .tup [], .tup [], .tup [], .tup [], .tup [], .tup [], .tup [], .tup [], .tup [], .tup [], .tup [], .tup [], .tup [], .tup [], .tup [], .tup [], .tup [], .tup [], .tup [], .tup [], .tup [], .tup [], .tup [], .tup [], .tup [], .tup [], .tup [], .tup [], .tup [], .tup [], .tup [], .tup [], .tup [], .tup [], .tup [], .tup []]]), [0, 1, 2, 3, 4, 5, 6, 7], by omega, rfl, (mle_cons ble_refl (mle_cons ble_refl (mle_cons ble_refl (mle_cons ble_refl (mle_cons (ble_fm fun k _ => ?_) (mle_cons ble_refl (mle_cons ble_refl (mle_cons ble_refl mle_nil)))))))), rfl, rfl, i + 1, by omega, rfl, ?_, ?_, rfl⟩
          · first
            | exact (congrFun (F.tst_skip hy (by assumption)) k).symm
            | exact (congrFun (F.tst_put hx hy (by assumption)) k).symm
          · show F.tok (F.vals f) (F.vals g) (11 + i + 1) = true
            first
            | exact F.tok_skip hy (by assumption) hok
            | exact F.tok_new hx hy (by assumption) hok
            | exact F.tok_old hx hy (by assumption) hok
          · show [SV.yld 7, .ptr 6 0, .int .i64 (IntKind.i64.wrap ((i : Int) + 1))] = _
            rw [i64_of (n := (i : Int) + 1) (by omega) (by omega)]; rfl))
  all_goals first
    | (have hi64 : i = 64 := by
         have h9 : decide ((i : Int) < 64) = false := by assumption
         have := of_decide_eq_false h9
         omega
       subst hi64
       first | exact F.leq_yes (by assumption) (by assumption) hle hles hok | exact (F.leq_yes (by assumption) (by assumption) hle hles hok).symm)
def k_fLeq : List SV → List Blk → Res := fun args _ => match args with
  | [.mix [.arr 11 12 g, .arr 64 14 h, .int .i64 ids], .mix [.arr 11 12 g2, .arr 64 14 h2, .int .i64 ids2]] => .test (frB g h && frB g2 h2) (.ok (.bool (F.leq (frD g h ids) (frD g2 h2 ids2))) [])
  | _ => .fail
theorem k_fLeq_ok : CtrOk Tryz.prog Gw 17 k_fLeq := by
  refine ⟨fun _ _ => by kernel_rfl, fun args M => ?_⟩
  unfold k_fLeq
  split
  · rename_i g h ids g2 h2 ids2 
    intro ht
    have hfr := ht
    rw [Bool.and_eq_true] at hfr
    obtain ⟨hfr, hfr2⟩ := hfr
    exact ctr_fr2 (Γ := ⟨[(12, k_fRight), (18, k_vLeq), (54, k_funder), (61, k_ftie)], eqs, [], [(55, Tryz.f55, []), (40, Tryz.f40, []), (91, Tryz.f91, []), (62, Tryz.f62, [])], [], mixs, meqs⟩) (sv := .bool (F.leq (frD g h ids) (frD g2 h2 ids2))) st_Gw ⟨(okCons k_fRight_ok (okCons k_vLeq_ok (okCons k_funder_ok (okCons k_ftie_ok okNil)))), eqs_ok, okNilB, (okConsI Tryz.func55 rfl (by kernel_rfl) (fun _ _ => by kernel_rfl) (okConsI Tryz.func40 rfl (by kernel_rfl) (fun _ _ => by kernel_rfl) (okConsI Tryz.func91 rfl (by kernel_rfl) (fun _ _ => by kernel_rfl) (okConsI Tryz.func62 rfl (by kernel_rfl) (fun _ _ => by kernel_rfl) okNilI)))), okNilP, mixs_ok, meqs_ok⟩ Tryz.func17 rfl mixed [(6, 8, [0, 0, 3, 7, 0, 0, 48, 112, 255, 511]), (12, 8, [0, 0, 3, 7, 0, 0, 48, 112, 255, 511])] (by kernel_rfl) 10000 (rest := []) hfr hfr2 rfl (leq_run _ _ (frD_wf hfr) (frD_wf hfr2))
  · trivial
end Go.Proofs.YtgfemfgimefmeaaGreat
