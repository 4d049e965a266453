import Derived.Test.YtaickooakoikaaaDoorX9
namespace Go.Proofs.YtaickooakoikaaaDoor
open Go.RowKit Go.Sx
set_option linter.unusedSimpArgs false
set_option linter.unusedVariables false
set_option linter.unnecessarySimpa false
set_option maxRecDepth 100000
set_option maxHeartbeats 4000000
def tA (n : Nat) : Tn := ⟨BitVec.ofNat 64 (n % 16), BitVec.ofNat 64 (n / 16)⟩
def opsL : List Int := [0, 16, 80, 64, 160]
/-- What an operation makes of two words. -/
def opW (op : Int) (x y : BitVec 64) : BitVec 64 := if op == 16 then x - y else if op == 80 then x &&& y else if op == 64 then x ||| y else if op == 160 then x ^^^ y else x + y
/-- What comes of the first i words of l with all of k. -/
def resI (op : Int) (l k : List (BitVec 64)) (i : Nat) : List Tn := (l.take i).flatMap fun x => k.map fun y => (⟨opW op x y, 0⟩ : Tn)
def tnEq (a b : Tn) : Bool := a.v == b.v && (a.m == b.m && true)
theorem tnEq_of {a b : Tn} (h : tnEq a b = true) : a = b := by
  cases a; cases b; simp [tnEq] at h; simp [h.1, h.2]
def leastB (n m : Nat) (op : Int) : Bool := !(T.right (tA n) && T.right (tA m)) || ((T.doesI op (tA n) (tA m)).2 && tnEq (T.doesI op (tA n) (tA m)).1 (T.join (resI op (allL (tA n) 16) (allL (tA m) 16) (allL (tA n) 16).length)))
def rowB (n : Nat) : Bool := (List.range 256).all fun m => opsL.all fun op => leastB n m op
theorem rem16 (n : Nat) : BitVec.ofInt 64 ((n : Int).tmod 16) = BitVec.ofNat 64 (n % 16) := by
  rw [Int.tmod_eq_emod_of_nonneg (by omega), show (n : Int) % 16 = ((n % 16 : Nat) : Int) by omega, BitVec.ofInt_natCast]
theorem quo16 {n : Nat} (h : n ≤ 256) : BitVec.ofInt 64 (IntKind.i64.wrap ((n : Int).tdiv 16)) = BitVec.ofNat 64 (n / 16) := by
  rw [Int.tdiv_eq_ediv_of_nonneg (by omega), show (n : Int) / 16 = ((n / 16 : Nat) : Int) by omega, IntWalk.i64_in _ (by omega), BitVec.ofInt_natCast]
/-- The operations' row. -/
def gOps : Nat → List FV := fun i => [.int .u8 (opsL.getD i 0)]
theorem resI_succ {op : Int} {l k : List (BitVec 64)} {i : Nat} (h : i < l.length) : resI op l k (i + 1) = resI op l k i ++ k.map fun y => (⟨opW op l[i] y, 0⟩ : Tn) := by
  unfold resI; rw [List.take_succ_eq_append_getElem h, List.flatMap_append]; simp
theorem resI_length (op : Int) (l k : List (BitVec 64)) (i : Nat) (h : i ≤ l.length) : (resI op l k i).length = i * k.length := by
  induction i with
  | zero => simp [resI]
  | succ i ih => rw [resI_succ (by omega), List.length_append, ih (by omega), List.length_map, Nat.succ_mul]
/-- .. and of the next word with the first j. -/
def resJ (op : Int) (l k : List (BitVec 64)) (i j : Nat) : List Tn := resI op l k i ++ (k.take j).map fun y => (⟨opW op (l.getD i 0) y, 0⟩ : Tn)
theorem resJ_zero (op : Int) (l k : List (BitVec 64)) (i : Nat) : resJ op l k i 0 = resI op l k i := by simp [resJ]
theorem resJ_succ {op : Int} {l k : List (BitVec 64)} {i j : Nat} (h : j < k.length) : resJ op l k i (j + 1) = resJ op l k i j ++ [⟨opW op (l.getD i 0) (k.getD j 0), 0⟩] := by
  unfold resJ; rw [List.take_succ_eq_append_getElem h, List.map_append, List.append_assoc]
  simp [List.getD_eq_getElem?_getD, h]
theorem resJ_all {op : Int} {l k : List (BitVec 64)} {i : Nat} (h : i < l.length) : resJ op l k i k.length = resI op l k (i + 1) := by
  unfold resJ; rw [resI_succ h, List.take_length, show l.getD i 0 = l[i] by simp [List.getD_eq_getElem?_getD, h]]
theorem resJ_length {op : Int} {l k : List (BitVec 64)} {i j : Nat} (hi : i < l.length) (hj : j ≤ k.length) (h1 : l.length ≤ 16) (h2 : k.length ≤ 16) : (resJ op l k i j).length ≤ 256 := by
  unfold resJ
  rw [List.length_append, resI_length op l k i (by omega), List.length_map, List.length_take]
  have : i * k.length ≤ 15 * 16 := Nat.mul_le_mul (by omega) h2
  omega
theorem least_run (law : ∀ n m op, n < 256 → m < 256 → op ∈ opsL → T.right (tA n) = true → T.right (tA m) = true → (T.doesI op (tA n) (tA m)).2 = true ∧ (T.doesI op (tA n) (tA m)).1 = T.join (resI op (allL (tA n) 16) (allL (tA m) 16) (allL (tA n) 16).length)) :
    run Tryd.prog ⟨[(9, k_awake), (12, k_Right), (14, k_Const), (15, k_Do), (10, k_Join), (13, k_all)], eqs, [], []⟩ 10000 [(14, 3, [0, 1, 0, 7, 15, 31]), (25, 8, [0, 0, 3, 7, 0, 0, 48, 112, 255, 511]), (28, 8, [0, 0, 3, 7, 0, 0, 48, 112, 255, 511]), (30, 8, [0, 0, 3, 7, 0, 0, 48, 112, 255, 511]), (32, 8, [0, 0, 3, 7, 0, 0, 48, 112, 255, 511]), (34, 8, [0, 0, 3, 7, 0, 0, 48, 112, 255, 511]), (36, 11, [0, 0, 3, 7, 0, 0, 63, 127, 255, 255, 0, 1535, 4095]), (37, 6, [0, 1, 3, 7, 7, 23, 63, 127])] 0 (bodyOf Tryd.f4) (initF Tryd.f4 []) [] (retK Tryd.prog Tryd.f4 fun x _ => eqv x (.bool true)) := by
  (conv => whnf)
  (repeat' (first | (refine And.intro (fun hb => ?_) (fun hb => ?_) <;> (first | contradiction | (conv => whnf))) | (refine And.intro ?_ ?_; rotate_left 1; (conv => whnf))))
  all_goals try (first | rfl | trivial | (simp; done) | (simp; omega) | (simp at hb ⊢; omega) | (simp only [decide_eq_true_eq, Bool.and_eq_true, Int.toNat_natCast] at *; omega))
  refine .inr ⟨[], [0, 1, 2], fun k vals M => ∃ n : Nat, n ≤ 256 ∧ k = 256 - n ∧ vals = [.ff, .sl 0 1 0 5, .int .i64 (n : Int)] ∧ M = [.own 5 1 5 gOps], ?_⟩
  conv => whnf
  refine And.intro ⟨256, [.own 5 1 5 gOps], mle_cons (ble_own rfl fun i hi => by match i, hi with | 0, _ => rfl | 1, _ => rfl | 2, _ => rfl | 3, _ => rfl | 4, _ => rfl) mle_nil, rfl, rfl, 0, by omega, by omega, rfl, rfl⟩ ?_
  rintro k vals M1 ⟨n, hn, rfl, rfl, rfl⟩
  (conv => whnf)
  (repeat' (first | (refine And.intro (fun hb => ?_) (fun hb => ?_) <;> (first | contradiction | (conv => whnf))) | (refine And.intro ?_ ?_; rotate_left 1; (conv => whnf))))
  all_goals try (first | rfl | trivial | (simp; done) | (simp; omega) | (simp at hb ⊢; omega) | (simp only [decide_eq_true_eq, Bool.and_eq_true, Int.toNat_natCast] at *; omega))
  · refine ⟨256 - (n + 1), [.own 5 1 5 gOps], [0], by simp at *; omega, rfl, mle_cons ble_refl mle_nil, rfl, rfl, n + 1, by simp at *; omega, rfl, ?_, rfl⟩
    rw [← wrap_succ (j := n) (by omega)]; rfl
  · have hn2 : n < 256 := by have h := ‹decide ((n : Int) < 256) = true›; simp only [decide_eq_true_eq] at h; omega
    have hA : T.right (tA n) = true := by
      rw [rem16, quo16 hn] at hb; simp only [Bool.not_eq_eq_eq_not, Bool.not_false] at hb; exact hb
    refine .inr ⟨[], [0, 1, 2, 3, 4], fun k vals M => ∃ m : Nat, m ≤ 256 ∧ k = 256 - m ∧ vals = [.ff, .sl 0 1 0 5, .int .i64 (n : Int), .ptr 1 0, .int .i64 (m : Int)] ∧ M = [.own 5 1 5 gOps, .cells 26 [.u64 (tA n).v, .u64 (tA n).m]], ?_⟩
    conv => whnf
    refine And.intro ⟨256, [.own 5 1 5 gOps, .cells 26 [.u64 (tA n).v, .u64 (tA n).m]], mle_cons ble_refl (mle_cons (ble_cells (by rw [rem16, quo16 hn]; rfl)) mle_nil), rfl, rfl, 0, by omega, by omega, rfl, rfl⟩ ?_
    clear hb
    rintro k vals M1 ⟨m, hm, rfl, rfl, rfl⟩
    (conv => whnf)
    (repeat' (first | (refine And.intro (fun hb => ?_) (fun hb => ?_) <;> (first | contradiction | (conv => whnf))) | (refine And.intro ?_ ?_; rotate_left 1; (conv => whnf))))
    all_goals try (first | rfl | trivial | (simp; done) | (simp; omega) | (simp at hb ⊢; omega) | (simp only [decide_eq_true_eq, Bool.and_eq_true, Int.toNat_natCast] at *; omega))
    · have hm2 : m < 256 := by have h := ‹decide ((m : Int) < 256) = true›; simp only [decide_eq_true_eq] at h; omega
      refine ⟨256 - (m + 1), [.own 5 1 5 gOps, .cells 26 [.u64 (tA n).v, .u64 (tA n).m]], [0, 1], by omega, rfl, (mle_cons ble_refl (mle_cons ble_refl mle_nil)), rfl, rfl, m + 1, by omega, rfl, ?_, rfl⟩
      rw [← wrap_succ (j := m) (by omega)]; rfl
    · have hm2 : m < 256 := by have h := ‹decide ((m : Int) < 256) = true›; simp only [decide_eq_true_eq] at h; omega
      have hB : T.right (tA m) = true := by
        rw [rem16, quo16 hm] at hb; simp only [Bool.not_eq_eq_eq_not, Bool.not_false] at hb; exact hb
      refine .inr ⟨[], [0, 1, 2, 3, 4, 5, 6, 7, 8], fun k vals M => ∃ o : Nat, o ≤ 5 ∧ k = 5 - o ∧ vals = [.ff, .sl 0 1 0 5, .int .i64 (n : Int), .ptr 1 0, .int .i64 (m : Int), .ptr 2 0, .sl 3 1 0 (allL (tA n) 16).length, .sl 4 1 0 (allL (tA m) 16).length, .int .i64 (o : Int)] ∧ M = [.own 5 1 5 gOps, .cells 26 [.u64 (tA n).v, .u64 (tA n).m], .cells 26 [.u64 (tA m).v, .u64 (tA m).m], .own 24 1 (allL (tA n) 16).length (gOf eW (allL (tA n) 16)), .own 24 1 (allL (tA m) 16).length (gOf eW (allL (tA m) 16))], ?_⟩
      conv => whnf
      refine And.intro ⟨5, [.own 5 1 5 gOps, .cells 26 [.u64 (tA n).v, .u64 (tA n).m], .cells 26 [.u64 (tA m).v, .u64 (tA m).m], .own 24 1 (allL (tA n) 16).length (gOf eW (allL (tA n) 16)), .own 24 1 (allL (tA m) 16).length (gOf eW (allL (tA m) 16))], mle_cons ble_refl (mle_cons ble_refl (mle_cons (ble_cells (by rw [rem16, quo16 hm]; rfl)) (mle_cons ble_refl (mle_cons (ble_own (by rw [rem16, quo16 hm]; rfl) fun i hi => by rw [rem16, quo16 hm]; rfl) mle_nil)))), rfl, rfl, 0, by omega, by omega, by rw [rem16, quo16 hm]; rfl, rfl⟩ ?_
      clear hb
      rintro k vals M1 ⟨o, ho, rfl, rfl, rfl⟩
      (conv => whnf)
      (repeat' (first | (refine And.intro (fun hb => ?_) (fun hb => ?_) <;> (first | contradiction | (conv => whnf))) | (refine And.intro ?_ ?_; rotate_left 1; (conv => whnf))))
      all_goals try (first | rfl | trivial | (simp; done) | (simp; omega) | (simp at hb ⊢; omega) | (simp only [decide_eq_true_eq, Bool.and_eq_true, Int.toNat_natCast] at *; omega))
      · have ho2 : o < 5 := by have h := ‹decide ((o : Int) < ((5 : Nat) : Int)) = true›; simp only [decide_eq_true_eq] at h; omega
        refine .inr ⟨[(9, 26, 2)], [0, 1, 2, 3, 4, 5, 6, 7, 8, 9, 10], fun k vals M => ∃ i : Nat, i ≤ (allL (tA n) 16).length ∧ k = (allL (tA n) 16).length - i ∧ vals = [.ff, .sl 0 1 0 5, .int .i64 (n : Int), .ptr 1 0, .int .i64 (m : Int), .ptr 2 0, .sl 3 1 0 (allL (tA n) 16).length, .sl 4 1 0 (allL (tA m) 16).length, .int .i64 (o : Int), .sl 5 2 0 (resI (opsL.getD o 0) (allL (tA n) 16) (allL (tA m) 16) i).length, .int .i64 (i : Int)] ∧ M = [.own 5 1 5 gOps, .cells 26 [.u64 (tA n).v, .u64 (tA n).m], .cells 26 [.u64 (tA m).v, .u64 (tA m).m], .own 24 1 (allL (tA n) 16).length (gOf eW (allL (tA n) 16)), .own 24 1 (allL (tA m) 16).length (gOf eW (allL (tA m) 16)), .own 26 2 (resI (opsL.getD o 0) (allL (tA n) 16) (allL (tA m) 16) i).length (gOf eT (resI (opsL.getD o 0) (allL (tA n) 16) (allL (tA m) 16) i))], ?_⟩
        conv => whnf
        refine And.intro ⟨(allL (tA n) 16).length, [.own 5 1 5 gOps, .cells 26 [.u64 (tA n).v, .u64 (tA n).m], .cells 26 [.u64 (tA m).v, .u64 (tA m).m], .own 24 1 (allL (tA n) 16).length (gOf eW (allL (tA n) 16)), .own 24 1 (allL (tA m) 16).length (gOf eW (allL (tA m) 16)), .own 26 2 0 (gOf eT [])], mle_cons ble_refl (mle_cons ble_refl (mle_cons ble_refl (mle_cons ble_refl (mle_cons ble_refl (mle_cons (ble_own rfl fun i hi => absurd hi (Nat.not_lt_zero i)) mle_nil))))), rfl, rfl, 0, by omega, by omega, rfl, rfl⟩ ?_
        rintro k vals M1 ⟨i, hi, rfl, rfl, rfl⟩
        (conv => whnf)
        (repeat' (first | (refine And.intro (fun hb => ?_) (fun hb => ?_) <;> (first | contradiction | (conv => whnf))) | (refine And.intro ?_ ?_; rotate_left 1; (conv => whnf))))
        all_goals try (first | rfl | trivial | (simp; done) | (simp; omega) | (simp at hb ⊢; omega) | (simp only [decide_eq_true_eq, Bool.and_eq_true, Int.toNat_natCast] at *; omega))
        · have hi2 : i < (allL (tA n) 16).length := by simp only [decide_eq_true_eq] at hb; omega
          refine .inr ⟨[], [0, 1, 2, 3, 4, 5, 6, 7, 8, 9, 10, 11], fun k vals M => ∃ j : Nat, j ≤ (allL (tA m) 16).length ∧ k = (allL (tA m) 16).length - j ∧ vals = [.ff, .sl 0 1 0 5, .int .i64 (n : Int), .ptr 1 0, .int .i64 (m : Int), .ptr 2 0, .sl 3 1 0 (allL (tA n) 16).length, .sl 4 1 0 (allL (tA m) 16).length, .int .i64 (o : Int), .sl 5 2 0 (resJ (opsL.getD o 0) (allL (tA n) 16) (allL (tA m) 16) i j).length, .int .i64 (i : Int), .int .i64 (j : Int)] ∧ M = [.own 5 1 5 gOps, .cells 26 [.u64 (tA n).v, .u64 (tA n).m], .cells 26 [.u64 (tA m).v, .u64 (tA m).m], .own 24 1 (allL (tA n) 16).length (gOf eW (allL (tA n) 16)), .own 24 1 (allL (tA m) 16).length (gOf eW (allL (tA m) 16)), .own 26 2 (resJ (opsL.getD o 0) (allL (tA n) 16) (allL (tA m) 16) i j).length (gOf eT (resJ (opsL.getD o 0) (allL (tA n) 16) (allL (tA m) 16) i j))], ?_⟩
          conv => whnf
          refine And.intro ⟨(allL (tA m) 16).length, [.own 5 1 5 gOps, .cells 26 [.u64 (tA n).v, .u64 (tA n).m], .cells 26 [.u64 (tA m).v, .u64 (tA m).m], .own 24 1 (allL (tA n) 16).length (gOf eW (allL (tA n) 16)), .own 24 1 (allL (tA m) 16).length (gOf eW (allL (tA m) 16)), .own 26 2 (resI (opsL.getD o 0) (allL (tA n) 16) (allL (tA m) 16) i).length (gOf eT (resI (opsL.getD o 0) (allL (tA n) 16) (allL (tA m) 16) i))], (mle_cons ble_refl (mle_cons ble_refl (mle_cons ble_refl (mle_cons ble_refl (mle_cons ble_refl (mle_cons ble_refl mle_nil)))))), rfl, rfl, 0, by omega, by omega, by rw [resJ_zero]; rfl, by rw [resJ_zero]⟩ ?_
          rintro k vals M1 ⟨j, hj, rfl, rfl, rfl⟩
          (conv => whnf)
          (repeat' (first | (refine And.intro (fun hb => ?_) (fun hb => ?_) <;> (first | contradiction | (conv => whnf))) | (refine And.intro ?_ ?_; rotate_left 1; (conv => whnf))))
          all_goals try (first | rfl | trivial | (simp; done) | (simp; omega) | (simp at hb ⊢; omega) | (simp only [decide_eq_true_eq, Bool.and_eq_true, Int.toNat_natCast] at *; omega))
          all_goals clear law hA hB
          all_goals try (
            have h2 : Tryd.prog.types[26]!.bytes = 16 := by kernel_rfl
            have h3 := resJ_length (op := opsL.getD o 0) hi2 hj (allL_le _ 16) (allL_le _ 16)
            rw [decide_eq_true_eq]
            exact ⟨by show (_ + 1) * Tryd.prog.types[26]!.bytes ≤ _; rw [h2]; omega, by omega⟩)
          all_goals try (
            have hj2 : j < (allL (tA m) 16).length := by
              have h := ‹decide ((j : Int) < (((allL (tA m) 16).length : Nat) : Int)) = true›
              simp only [decide_eq_true_eq] at h; omega
            have e := resJ_succ (op := opsL.getD o 0) (l := allL (tA n) 16) (k := allL (tA m) 16) (i := i) hj2
            refine ⟨(allL (tA m) 16).length - (j + 1), [.own 5 1 5 gOps, .cells 26 [.u64 (tA n).v, .u64 (tA n).m], .cells 26 [.u64 (tA m).v, .u64 (tA m).m], .own 24 1 (allL (tA n) 16).length (gOf eW (allL (tA n) 16)), .own 24 1 (allL (tA m) 16).length (gOf eW (allL (tA m) 16)), .own 26 2 (resJ (opsL.getD o 0) (allL (tA n) 16) (allL (tA m) 16) i (j + 1)).length (gOf eT (resJ (opsL.getD o 0) (allL (tA n) 16) (allL (tA m) 16) i (j + 1)))], [0, 1, 2, 3, 4, 7], by omega, rfl, (mle_cons ble_refl (mle_cons ble_refl (mle_cons ble_refl (mle_cons ble_refl (mle_cons ble_refl (mle_cons (ble_own (by rw [e]; simp) fun q hq => ?_) mle_nil)))))), rfl, rfl, j + 1, by omega, rfl, ?_, rfl⟩
            · rw [e] at hq ⊢
              refine gOf_snoc eT _ _ _ ?_ q (by simpa using hq)
              have eo : opsL.getD (0 + (o : Int).toNat) 0 = opsL.getD o 0 := by rw [Nat.zero_add, Int.toNat_natCast]
              have ex : (allL (tA n) 16).getD (0 + (i : Int).toNat) eW.dft = (allL (tA n) 16).getD i 0 := by rw [Nat.zero_add, Int.toNat_natCast]; rfl
              have ey : (allL (tA m) 16).getD (0 + (j : Int).toNat) eW.dft = (allL (tA m) 16).getD j 0 := by rw [Nat.zero_add, Int.toNat_natCast]; rfl
              simp only [eo] at *
              show [FV.u64 _, FV.u64 _] = [FV.u64 (opW _ _ _), FV.u64 _]
              rw [ex, ey]
              simp_all [opW]
            · rw [← wrap_succ (j := j) (by have := allL_le (tA m) 16; omega), show (resJ (opsL.getD o 0) (allL (tA n) 16) (allL (tA m) 16) i (j + 1)).length = (resJ (opsL.getD o 0) (allL (tA n) 16) (allL (tA m) 16) i j).length + 1 by rw [e]; simp]; rfl)
          all_goals try (
            have hj2 : j = (allL (tA m) 16).length := by simp only [decide_eq_false_iff_not] at hb; omega
            subst hj2
            refine ⟨(allL (tA n) 16).length - (i + 1), [.own 5 1 5 gOps, .cells 26 [.u64 (tA n).v, .u64 (tA n).m], .cells 26 [.u64 (tA m).v, .u64 (tA m).m], .own 24 1 (allL (tA n) 16).length (gOf eW (allL (tA n) 16)), .own 24 1 (allL (tA m) 16).length (gOf eW (allL (tA m) 16)), .own 26 2 (resI (opsL.getD o 0) (allL (tA n) 16) (allL (tA m) 16) (i + 1)).length (gOf eT (resI (opsL.getD o 0) (allL (tA n) 16) (allL (tA m) 16) (i + 1)))], [0, 1, 2, 3, 4, 5], by omega, rfl, (mle_cons ble_refl (mle_cons ble_refl (mle_cons ble_refl (mle_cons ble_refl (mle_cons ble_refl (mle_cons (ble_own (by rw [resJ_all hi2]) fun q hq => by rw [resJ_all hi2]) mle_nil)))))), rfl, rfl, i + 1, by omega, rfl, ?_, rfl⟩
            rw [← wrap_succ (j := i) (by have := allL_le (tA n) 16; omega), resJ_all hi2]; rfl)
        all_goals
          have hi3 : i = (allL (tA n) 16).length := by
            have h := ‹decide ((i : Int) < (((allL (tA n) 16).length : Nat) : Int)) = false›
            simp only [decide_eq_false_iff_not] at h; omega
          have hop : opsL.getD o 0 ∈ opsL := by
            match o, ho2 with
            | 0, _ => decide
            | 1, _ => decide
            | 2, _ => decide
            | 3, _ => decide
            | 4, _ => decide
          have hl := law n m (opsL.getD o 0) hn2 hm2 hop hA hB
          rw [← hi3] at hl
          have eo : opsL.getD (0 + (o : Int).toNat) 0 = opsL.getD o 0 := by rw [Nat.zero_add, Int.toNat_natCast]
          have he : T.join (elts eT 0 (resI (opsL.getD o 0) (allL (tA n) 16) (allL (tA m) 16) i).length (gOf eT (resI (opsL.getD o 0) (allL (tA n) 16) (allL (tA m) 16) i))) = (T.doesI (opsL.getD o 0) (tA n) (tA m)).1 := by rw [elts_all]; exact hl.2.symm
          have hlen : (resI (opsL.getD o 0) (allL (tA n) 16) (allL (tA m) 16) i).length ≤ 256 := by
            have h := resI_length (opsL.getD o 0) (allL (tA n) 16) (allL (tA m) 16) i hi
            have h2 := allL_le (tA n) 16
            have h3 := allL_le (tA m) 16
            have h4 : i * (allL (tA m) 16).length ≤ 16 * 16 := Nat.mul_le_mul (by omega) h3
            omega
        · exfalso
          rw [eo] at hb
          have h2 : (T.doesI (opsL.getD o 0) { v := (tA n).v, m := (tA n).m } { v := (tA m).v, m := (tA m).m }).2 = true := hl.1
          rw [h2] at hb; cases hb
        · exfalso
          rw [eo, he] at hb
          have h2 : T.doesI (opsL.getD o 0) { v := (tA n).v, m := (tA n).m } { v := (tA m).v, m := (tA m).m } = T.doesI (opsL.getD o 0) (tA n) (tA m) := rfl
          rw [h2] at hb
          simp at hb
        · refine ⟨5 - (o + 1), [.own 5 1 5 gOps, .cells 26 [.u64 (tA n).v, .u64 (tA n).m], .cells 26 [.u64 (tA m).v, .u64 (tA m).m], .own 24 1 (allL (tA n) 16).length (gOf eW (allL (tA n) 16)), .own 24 1 (allL (tA m) 16).length (gOf eW (allL (tA m) 16))], [0, 1, 2, 3, 4], by omega, rfl, (mle_cons ble_refl (mle_cons ble_refl (mle_cons ble_refl (mle_cons ble_refl (mle_cons ble_refl mle_nil))))), rfl, rfl, o + 1, by omega, rfl, ?_, rfl⟩
          rw [← wrap_succ (j := o) (by omega)]; rfl
        · simp only [allIs_gOf, Bool.true_and, Bool.and_eq_true, decide_eq_true_eq]
          exact ⟨by omega, by omega⟩
      · refine ⟨256 - (m + 1), [.own 5 1 5 gOps, .cells 26 [.u64 (tA n).v, .u64 (tA n).m]], [0, 1], by omega, rfl, (mle_cons ble_refl (mle_cons ble_refl mle_nil)), rfl, rfl, m + 1, by omega, rfl, ?_, rfl⟩
        rw [← wrap_succ (j := m) (by omega)]; rfl
    · refine ⟨256 - (n + 1), [.own 5 1 5 gOps], [0], by omega, rfl, (mle_cons ble_refl mle_nil), rfl, rfl, n + 1, by omega, rfl, ?_, rfl⟩
      rw [← wrap_succ (j := n) (by omega)]; rfl
end Go.Proofs.YtaickooakoikaaaDoor
