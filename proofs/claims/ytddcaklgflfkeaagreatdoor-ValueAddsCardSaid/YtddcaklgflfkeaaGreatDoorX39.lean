import Derived.Test.YtddcaklgflfkeaaGreatDoorX9
namespace Go.Proofs.YtddcaklgflfkeaaGreatDoor
open Go.RowKit Go.Sx
set_option linter.unusedSimpArgs false
set_option linter.unusedVariables false
set_option linter.unnecessarySimpa false
set_option maxRecDepth 100000
set_option maxHeartbeats 4000000
set_option linter.unusedSectionVars false
namespace T
theorem ofInt_small {i : Int} (h0 : 0 ≤ i) (h : i < 64) : (BitVec.ofInt 64 i).toNat = i.toNat := by
  rw [BitVec.toNat_ofInt]; omega
theorem sh_bit (op : Int) (hop : op = 96 ∨ op = 112 ∨ op = 192) (x : BitVec 64) (n i : Nat) (hn : n < 64) (hi : i < 64) : (sh op x n).getLsbD i = if op = 96 then decide (n ≤ i) && x.getLsbD (i - n) else if op = 112 then decide (i + n < 64) && x.getLsbD (i + n) else x.getLsbD (min (i + n) 63) := by
  rcases hop with rfl | rfl | rfl
  · show (x <<< n).getLsbD i = _
    rw [if_pos rfl, BitVec.getLsbD_shiftLeft]
    by_cases h : n ≤ i
    · simp [hi, h, show ¬ i < n by omega]
    · simp [h, show i < n by omega]
  · show (x >>> n).getLsbD i = _
    rw [if_neg (by decide), if_pos rfl, BitVec.getLsbD_ushiftRight, Nat.add_comm n i]
    by_cases h : i + n < 64
    · simp [h]
    · rw [BitVec.getLsbD_of_ge _ _ (by omega)]; simp [h]
  · show (x.sshiftRight (min n 64)).getLsbD i = _
    rw [if_neg (by decide), if_neg (by decide), show min n 64 = n by omega, BitVec.getLsbD_sshiftRight]
    by_cases h : n + i < 64
    · simp [hi, h, show min (i + n) 63 = n + i by omega]
    · simp [hi, h, show min (i + n) 63 = 63 by omega, BitVec.msb_eq_getLsbD_last]
theorem so_0 {a b : Tn} {p q : BitVec 64} (ha : has a p = true) (hb : has b q = true) : (doesI 0 a b).2 = true ∧ (W.aluW 0 0 p q).2 = true ∧ has (doesI 0 a b).1 (W.aluW 0 0 p q).1 = true ∧ right (doesI 0 a b).1 = true := by
  have e : doesI 0 a b = (sum a b, true) := by simp [doesI, opI, has_right ha, has_right hb]
  have f : W.aluW 0 0 p q = (p + q, true) := rfl
  rw [e, f]; exact ⟨rfl, rfl, sum_sound ha hb, has_right (sum_sound ha hb)⟩
theorem so_16 {a b : Tn} {p q : BitVec 64} (ha : has a p = true) (hb : has b q = true) : (doesI 16 a b).2 = true ∧ (W.aluW 16 0 p q).2 = true ∧ has (doesI 16 a b).1 (W.aluW 16 0 p q).1 = true ∧ right (doesI 16 a b).1 = true := by
  have e : doesI 16 a b = (difference a b, true) := by simp [doesI, opI, has_right ha, has_right hb]
  have f : W.aluW 16 0 p q = (p - q, true) := rfl
  rw [e, f]; exact ⟨rfl, rfl, dif_sound ha hb, has_right (dif_sound ha hb)⟩
theorem so_80 {a b : Tn} {p q : BitVec 64} (ha : has a p = true) (hb : has b q = true) : (doesI 80 a b).2 = true ∧ (W.aluW 80 0 p q).2 = true ∧ has (doesI 80 a b).1 (W.aluW 80 0 p q).1 = true ∧ right (doesI 80 a b).1 = true := by
  have e : doesI 80 a b = (and a b, true) := by simp [doesI, opI, has_right ha, has_right hb]
  have f : W.aluW 80 0 p q = (p &&& q, true) := rfl
  rw [e, f]; exact ⟨rfl, rfl, and_sound ha hb, has_right (and_sound ha hb)⟩
theorem so_64 {a b : Tn} {p q : BitVec 64} (ha : has a p = true) (hb : has b q = true) : (doesI 64 a b).2 = true ∧ (W.aluW 64 0 p q).2 = true ∧ has (doesI 64 a b).1 (W.aluW 64 0 p q).1 = true ∧ right (doesI 64 a b).1 = true := by
  have e : doesI 64 a b = (or a b, true) := by simp [doesI, opI, has_right ha, has_right hb]
  have f : W.aluW 64 0 p q = (p ||| q, true) := rfl
  rw [e, f]; exact ⟨rfl, rfl, or_sound ha hb, has_right (or_sound ha hb)⟩
theorem so_160 {a b : Tn} {p q : BitVec 64} (ha : has a p = true) (hb : has b q = true) : (doesI 160 a b).2 = true ∧ (W.aluW 160 0 p q).2 = true ∧ has (doesI 160 a b).1 (W.aluW 160 0 p q).1 = true ∧ right (doesI 160 a b).1 = true := by
  have e : doesI 160 a b = (xor a b, true) := by simp [doesI, opI, has_right ha, has_right hb]
  have f : W.aluW 160 0 p q = (p ^^^ q, true) := rfl
  rw [e, f]; exact ⟨rfl, rfl, xor_sound ha hb, has_right (xor_sound ha hb)⟩
theorem so_32 {a b : Tn} {p q : BitVec 64} (ha : has a p = true) (hb : has b q = true) : (doesI 32 a b).2 = true ∧ (W.aluW 32 0 p q).2 = true ∧ has (doesI 32 a b).1 (W.aluW 32 0 p q).1 = true ∧ right (doesI 32 a b).1 = true := by
  have e : doesI 32 a b = (product a b, true) := by simp [doesI, opI, has_right ha, has_right hb]
  have f : W.aluW 32 0 p q = (p * q, true) := rfl
  rw [e, f]; exact ⟨rfl, rfl, product_sound ha hb, has_right (product_sound ha hb)⟩
theorem shift_sound (op : Int) (hop : op = 96 ∨ op = 112 ∨ op = 192) {t : Tn} {p : BitVec 64} (h : has t p = true) (n : Nat) (hn : n < 64) : has ⟨sh op t.v n, sh op t.m n⟩ (sh op p n) = true := has_iff.2 fun i hi => by
  rw [sh_bit op hop _ _ _ hn hi, sh_bit op hop _ _ _ hn hi, sh_bit op hop _ _ _ hn hi]
  have p1 := has_bit h (i - n); have p2 := has_bit h (i + n); have p3 := has_bit h (min (i + n) 63)
  split
  · cases decide (n ≤ i) <;> simp_all
  · split
    · cases decide (i + n < 64) <;> simp_all
    · exact p3
theorem and63 (k : Int) : ∃ n : Nat, n < 64 ∧ Go.bits .and .i64 k 63 = (n : Int) := by
  refine ⟨(BitVec.ofInt 64 k &&& BitVec.ofInt 64 63).toNat, ?_, ?_⟩
  · rw [BitVec.toNat_and]; exact Nat.lt_of_le_of_lt Nat.and_le_right (by decide)
  · have h : (BitVec.ofInt 64 k &&& BitVec.ofInt 64 63).toNat ≤ 63 := by rw [BitVec.toNat_and]; exact Nat.le_trans Nat.and_le_right (by decide)
    show IntKind.i64.wrap (((BitVec.ofInt 64 k &&& BitVec.ofInt 64 63).toNat : Nat) : Int) = _
    rw [IntWalk.i64_in _ (by omega)]
theorem mod64 {n : Nat} (hn : n < 64) : (BitVec.ofInt 64 (n : Int) % 64#64).toNat = n := by
  rw [BitVec.toNat_umod, ofInt_small (by omega) (by omega), Int.toNat_natCast, show (64#64 : BitVec 64).toNat = 64 from rfl, Nat.mod_eq_of_lt hn]
theorem sh_96 {a : Tn} {p : BitVec 64} (ha : has a p = true) (k : Int) : (shift 96 a (Go.bits .and .i64 k 63)).2 = true ∧ (W.aluW 96 0 p (BitVec.ofInt 64 (Go.bits .and .i64 k 63))).2 = true ∧ has (shift 96 a (Go.bits .and .i64 k 63)).1 (W.aluW 96 0 p (BitVec.ofInt 64 (Go.bits .and .i64 k 63))).1 = true := by
  obtain ⟨n, hn, e⟩ := and63 k
  rw [e]
  have e1 : shift 96 a n = (⟨sh 96 a.v n, sh 96 a.m n⟩, true) := by
    unfold shift; rw [if_pos (by simp [has_right ha]; omega), Int.toNat_natCast]
  have f : W.aluW 96 0 p (BitVec.ofInt 64 n) = (p <<< (BitVec.ofInt 64 (n : Int) % 64#64).toNat, true) := rfl
  rw [e1, f, mod64 hn]; exact ⟨rfl, rfl, shift_sound 96 (by decide) ha n hn⟩
theorem sh_112 {a : Tn} {p : BitVec 64} (ha : has a p = true) (k : Int) : (shift 112 a (Go.bits .and .i64 k 63)).2 = true ∧ (W.aluW 112 0 p (BitVec.ofInt 64 (Go.bits .and .i64 k 63))).2 = true ∧ has (shift 112 a (Go.bits .and .i64 k 63)).1 (W.aluW 112 0 p (BitVec.ofInt 64 (Go.bits .and .i64 k 63))).1 = true := by
  obtain ⟨n, hn, e⟩ := and63 k
  rw [e]
  have e1 : shift 112 a n = (⟨sh 112 a.v n, sh 112 a.m n⟩, true) := by
    unfold shift; rw [if_pos (by simp [has_right ha]; omega), Int.toNat_natCast]
  have f : W.aluW 112 0 p (BitVec.ofInt 64 n) = (p >>> (BitVec.ofInt 64 (n : Int) % 64#64).toNat, true) := rfl
  rw [e1, f, mod64 hn]; exact ⟨rfl, rfl, shift_sound 112 (by decide) ha n hn⟩
theorem sh_192 {a : Tn} {p : BitVec 64} (ha : has a p = true) (k : Int) : (shift 192 a (Go.bits .and .i64 k 63)).2 = true ∧ (W.aluW 192 0 p (BitVec.ofInt 64 (Go.bits .and .i64 k 63))).2 = true ∧ has (shift 192 a (Go.bits .and .i64 k 63)).1 (W.aluW 192 0 p (BitVec.ofInt 64 (Go.bits .and .i64 k 63))).1 = true := by
  obtain ⟨n, hn, e⟩ := and63 k
  rw [e]
  have e1 : shift 192 a n = (⟨sh 192 a.v n, sh 192 a.m n⟩, true) := by
    unfold shift; rw [if_pos (by simp [has_right ha]; omega), Int.toNat_natCast]
  have f : W.aluW 192 0 p (BitVec.ofInt 64 n) = (p.sshiftRight (min (BitVec.ofInt 64 (n : Int) % 64#64).toNat 64), true) := rfl
  rw [e1, f, mod64 hn]; exact ⟨rfl, rfl, shift_sound 192 (by decide) ha n hn⟩
end T
namespace S
theorem so {op : Int} {f : Sp → Sp → Sp} (hw : way op = some f) {x y : BitVec 64} (h0 : (W.aluW op 0 x y).2 = true) (h1 : Le (one (W.aluW op 0 x y).1) (f (one x) (one y))) {a b : Sp} (ha : has a x = true) (hb : has b y = true) (ia : R.inS a = true) (ib : R.inS b = true) :
    (does op a b).2 = true ∧ (W.aluW op 0 x y).2 = true ∧ has (does op a b).1 (W.aluW op 0 x y).1 = true := ⟨(does_sound hw h1 ha hb ia ib).1, h0, (does_sound hw h1 ha hb ia ib).2⟩
theorem and63 (k : Int) : ∃ n : Nat, n < 64 ∧ Go.bits .and .i64 k 63 = (n : Int) := by
  refine ⟨(BitVec.ofInt 64 k &&& BitVec.ofInt 64 63).toNat, ?_, ?_⟩
  · rw [BitVec.toNat_and]; exact Nat.lt_of_le_of_lt Nat.and_le_right (by decide)
  · have h : (BitVec.ofInt 64 k &&& BitVec.ofInt 64 63).toNat ≤ 63 := by rw [BitVec.toNat_and]; exact Nat.le_trans Nat.and_le_right (by decide)
    show IntKind.i64.wrap (((BitVec.ofInt 64 k &&& BitVec.ofInt 64 63).toNat : Nat) : Int) = _
    rw [IntWalk.i64_in _ (by omega)]
theorem mod64 {n : Nat} (hn : n < 64) : (BitVec.ofInt 64 (n : Int) % 64#64).toNat = n := by
  have h := R.ofInt_nat (n : Int)
  have h2 : (BitVec.ofInt 64 (n : Int)).toNat = n := by omega
  rw [BitVec.toNat_umod, h2, show (64#64 : BitVec 64).toNat = 64 from rfl, Nat.mod_eq_of_lt hn]
theorem ss_96 {a : Sp} {x : BitVec 64} (ha : has a x = true) (ia : R.inS a = true) (k : Int) : (shift 96 a (Go.bits .and .i64 k 63)).2 = true ∧ (W.aluW 96 0 x (BitVec.ofInt 64 (Go.bits .and .i64 k 63))).2 = true ∧ has (shift 96 a (Go.bits .and .i64 k 63)).1 (W.aluW 96 0 x (BitVec.ofInt 64 (Go.bits .and .i64 k 63))).1 = true := by
  obtain ⟨n, hn, e⟩ := and63 k
  rw [e]
  have f : W.aluW 96 0 x (BitVec.ofInt 64 n) = (x <<< (BitVec.ofInt 64 (n : Int) % 64#64).toNat, true) := rfl
  rw [f, mod64 hn]
  obtain ⟨h1, h2⟩ := shift_sound (.inl rfl) hn (shl_one hn) ha ia
  exact ⟨h1, rfl, h2⟩
theorem ss_112 {a : Sp} {x : BitVec 64} (ha : has a x = true) (ia : R.inS a = true) (k : Int) : (shift 112 a (Go.bits .and .i64 k 63)).2 = true ∧ (W.aluW 112 0 x (BitVec.ofInt 64 (Go.bits .and .i64 k 63))).2 = true ∧ has (shift 112 a (Go.bits .and .i64 k 63)).1 (W.aluW 112 0 x (BitVec.ofInt 64 (Go.bits .and .i64 k 63))).1 = true := by
  obtain ⟨n, hn, e⟩ := and63 k
  rw [e]
  have f : W.aluW 112 0 x (BitVec.ofInt 64 n) = (x >>> (BitVec.ofInt 64 (n : Int) % 64#64).toNat, true) := rfl
  rw [f, mod64 hn]
  obtain ⟨h1, h2⟩ := shift_sound (.inr (.inl rfl)) hn (shr_one hn) ha ia
  exact ⟨h1, rfl, h2⟩
theorem ss_192 {a : Sp} {x : BitVec 64} (ha : has a x = true) (ia : R.inS a = true) (k : Int) : (shift 192 a (Go.bits .and .i64 k 63)).2 = true ∧ (W.aluW 192 0 x (BitVec.ofInt 64 (Go.bits .and .i64 k 63))).2 = true ∧ has (shift 192 a (Go.bits .and .i64 k 63)).1 (W.aluW 192 0 x (BitVec.ofInt 64 (Go.bits .and .i64 k 63))).1 = true := by
  obtain ⟨n, hn, e⟩ := and63 k
  rw [e]
  have f : W.aluW 192 0 x (BitVec.ofInt 64 n) = (x.sshiftRight (min (BitVec.ofInt 64 (n : Int) % 64#64).toNat 64), true) := rfl
  rw [f, mod64 hn]
  obtain ⟨h1, h2⟩ := shift_sound (.inr (.inr rfl)) hn (sar_one hn) ha ia
  exact ⟨h1, rfl, h2⟩
theorem so_last (x y : BitVec 64) : good (does 0 (one x) (one y)).1 = true ∧ (decide (x + y < x) = false → ((does 0 (one x) (one y)).1.lo == x + y) = true ∧ ((does 0 (one x) (one y)).1.hi == x + y) = true) := by
  rw [does_good (one_good x) (one_good y), show way 0 = some add from rfl]
  refine ⟨(add_one x y).good2, fun h => ?_⟩
  have h := of_decide_eq_false h
  rw [BitVec.lt_def, BitVec.toNat_add] at h
  have hx := x.isLt; have hy := y.isLt
  have hc : sum ⟨x, x⟩ ⟨y, y⟩ = ⟨x + y, x + y⟩ := by
    unfold sum; simp only [carry_zero]; rw [if_pos (by rw [decide_eq_true_eq]; omega)]
  have e1 : (add (one x) (one y)).lo = x + y := by show (sum ⟨x, x⟩ ⟨y, y⟩).lo = _; rw [hc]
  have e2 : (add (one x) (one y)).hi = x + y := by show (sum ⟨x, x⟩ ⟨y, y⟩).hi = _; rw [hc]
  exact ⟨by rw [e1]; simp, by rw [e2]; simp⟩
theorem so_0 {x y : BitVec 64} {a b : Sp} (ha : has a x = true) (hb : has b y = true) (ia : R.inS a = true) (ib : R.inS b = true) : (does 0 a b).2 = true ∧ (W.aluW 0 0 x y).2 = true ∧ has (does 0 a b).1 (W.aluW 0 0 x y).1 = true := so (op := 0) rfl rfl (add_one x y) ha hb ia ib
theorem so_16 {x y : BitVec 64} {a b : Sp} (ha : has a x = true) (hb : has b y = true) (ia : R.inS a = true) (ib : R.inS b = true) : (does 16 a b).2 = true ∧ (W.aluW 16 0 x y).2 = true ∧ has (does 16 a b).1 (W.aluW 16 0 x y).1 = true := so (op := 16) rfl rfl (less_one x y) ha hb ia ib
theorem so_32 {x y : BitVec 64} {a b : Sp} (ha : has a x = true) (hb : has b y = true) (ia : R.inS a = true) (ib : R.inS b = true) : (does 32 a b).2 = true ∧ (W.aluW 32 0 x y).2 = true ∧ has (does 32 a b).1 (W.aluW 32 0 x y).1 = true := so (op := 32) rfl rfl (times_one x y) ha hb ia ib
theorem so_48 {x y : BitVec 64} {a b : Sp} (ha : has a x = true) (hb : has b y = true) (ia : R.inS a = true) (ib : R.inS b = true) : (does 48 a b).2 = true ∧ (W.aluW 48 0 x y).2 = true ∧ has (does 48 a b).1 (W.aluW 48 0 x y).1 = true := so (op := 48) rfl rfl (quo_one x y) ha hb ia ib
theorem so_64 {x y : BitVec 64} {a b : Sp} (ha : has a x = true) (hb : has b y = true) (ia : R.inS a = true) (ib : R.inS b = true) : (does 64 a b).2 = true ∧ (W.aluW 64 0 x y).2 = true ∧ has (does 64 a b).1 (W.aluW 64 0 x y).1 = true := so (op := 64) rfl rfl (or2_one x y) ha hb ia ib
theorem so_80 {x y : BitVec 64} {a b : Sp} (ha : has a x = true) (hb : has b y = true) (ia : R.inS a = true) (ib : R.inS b = true) : (does 80 a b).2 = true ∧ (W.aluW 80 0 x y).2 = true ∧ has (does 80 a b).1 (W.aluW 80 0 x y).1 = true := so (op := 80) rfl rfl (and_one x y) ha hb ia ib
theorem so_144 {x y : BitVec 64} {a b : Sp} (ha : has a x = true) (hb : has b y = true) (ia : R.inS a = true) (ib : R.inS b = true) : (does 144 a b).2 = true ∧ (W.aluW 144 0 x y).2 = true ∧ has (does 144 a b).1 (W.aluW 144 0 x y).1 = true := so (op := 144) rfl rfl (res_one x y) ha hb ia ib
theorem so_160 {x y : BitVec 64} {a b : Sp} (ha : has a x = true) (hb : has b y = true) (ia : R.inS a = true) (ib : R.inS b = true) : (does 160 a b).2 = true ∧ (W.aluW 160 0 x y).2 = true ∧ has (does 160 a b).1 (W.aluW 160 0 x y).1 = true := so (op := 160) rfl rfl (xor_one x y) ha hb ia ib
end S
namespace W
theorem aluW_is (op off : Int) (n m p q : BitVec 64) : (aluW op off n m).2 = (aluW op off p q).2 := by
  unfold aluW alu; simp only [apply_ite Prod.snd]
theorem alu32_is (op off : Int) (n m p q : Int) : (alu32 op off n m).2 = (alu32 op off p q).2 := by
  unfold alu32; simp only [apply_ite Prod.snd]
/-- Whether an operation is one hangs on no word. -/
theorem aluG_is (op off : Int) (w : Bool) (n m : BitVec 64) : (aluG op off w n m).2 = (aluG op off w (BitVec.ofInt 64 0) (BitVec.ofInt 64 0)).2 := by
  unfold aluG; split
  · exact aluW_is ..
  · exact alu32_is ..
theorem aluW_cases {op off : Int} {n m : BitVec 64} (h : (aluW op off n m).2 = true) : (op = 176 ∧ off = 32) ∨ (op = 0 ∧ off = 0) ∨ (op = 16 ∧ off = 0) ∨ (op = 32 ∧ off = 0) ∨ (op = 48 ∧ off = 0) ∨ (op = 48 ∧ off = 1) ∨ (op = 144 ∧ off = 0) ∨ (op = 144 ∧ off = 1) ∨ (op = 64 ∧ off = 0) ∨ (op = 80 ∧ off = 0) ∨ (op = 160 ∧ off = 0) ∨ (op = 96 ∧ off = 0) ∨ (op = 112 ∧ off = 0) ∨ (op = 192 ∧ off = 0) ∨ (op = 128 ∧ off = 0) ∨ (op = 176 ∧ off = 0) ∨ (op = 176 ∧ off = 8) ∨ (op = 176 ∧ off = 16) := by
  unfold aluW alu at h
  simpa [apply_ite Prod.snd] using h
theorem alu32_cases {op off : Int} {n m : Int} (h : (alu32 op off n m).2 = true) : (op = 0 ∧ off = 0) ∨ (op = 16 ∧ off = 0) ∨ (op = 32 ∧ off = 0) ∨ (op = 48 ∧ off = 0) ∨ (op = 48 ∧ off = 1) ∨ (op = 144 ∧ off = 0) ∨ (op = 144 ∧ off = 1) ∨ (op = 64 ∧ off = 0) ∨ (op = 80 ∧ off = 0) ∨ (op = 160 ∧ off = 0) ∨ (op = 96 ∧ off = 0) ∨ (op = 112 ∧ off = 0) ∨ (op = 192 ∧ off = 0) ∨ (op = 128 ∧ off = 0) ∨ (op = 176 ∧ off = 0) ∨ (op = 176 ∧ off = 8) ∨ (op = 176 ∧ off = 16) := by
  unfold alu32 at h
  simpa [apply_ite Prod.snd] using h
theorem ofInt_nat (k : Nat) : (BitVec.ofInt 64 (k : Int)) = BitVec.ofNat 64 k := by
  rw [BitVec.ofInt_natCast]
/-- What is moved, widened. -/
theorem mov_8 (m : BitVec 64) : BitVec.ofInt 64 (IntKind.i8.wrap (uv m)) = xt m 8 true := by
  have hy : m.toNat % 2 ^ 8 < 2 ^ 8 := Nat.mod_lt _ (by decide)
  have hc : (m.toNat : Int) % 2 ^ 8 = ((m.toNat % 2 ^ 8 : Nat) : Int) := by omega
  unfold xt
  simp only [IntKind.wrap, IntKind.signed, IntKind.bits, uv, hc, Bool.true_and]
  generalize m.toNat % 2 ^ 8 = y at hy ⊢
  apply BitVec.eq_of_toNat_eq
  by_cases h : 2 ^ (8 - 1) ≤ y
  · rw [if_pos (by simp; omega), if_pos (by simp; omega), BitVec.toNat_ofNat, BitVec.toNat_ofInt]
    omega
  · rw [if_neg (by simp; omega), if_neg (by simp; omega), BitVec.toNat_ofNat, BitVec.toNat_ofInt]
    omega
theorem mov_16 (m : BitVec 64) : BitVec.ofInt 64 (IntKind.i16.wrap (uv m)) = xt m 16 true := by
  have hy : m.toNat % 2 ^ 16 < 2 ^ 16 := Nat.mod_lt _ (by decide)
  have hc : (m.toNat : Int) % 2 ^ 16 = ((m.toNat % 2 ^ 16 : Nat) : Int) := by omega
  unfold xt
  simp only [IntKind.wrap, IntKind.signed, IntKind.bits, uv, hc, Bool.true_and]
  generalize m.toNat % 2 ^ 16 = y at hy ⊢
  apply BitVec.eq_of_toNat_eq
  by_cases h : 2 ^ (16 - 1) ≤ y
  · rw [if_pos (by simp; omega), if_pos (by simp; omega), BitVec.toNat_ofNat, BitVec.toNat_ofInt]
    omega
  · rw [if_neg (by simp; omega), if_neg (by simp; omega), BitVec.toNat_ofNat, BitVec.toNat_ofInt]
    omega
theorem mov_32 (m : BitVec 64) : BitVec.ofInt 64 (IntKind.i32.wrap (uv m)) = xt m 32 true := by
  have hy : m.toNat % 2 ^ 32 < 2 ^ 32 := Nat.mod_lt _ (by decide)
  have hc : (m.toNat : Int) % 2 ^ 32 = ((m.toNat % 2 ^ 32 : Nat) : Int) := by omega
  unfold xt
  simp only [IntKind.wrap, IntKind.signed, IntKind.bits, uv, hc, Bool.true_and]
  generalize m.toNat % 2 ^ 32 = y at hy ⊢
  apply BitVec.eq_of_toNat_eq
  by_cases h : 2 ^ (32 - 1) ≤ y
  · rw [if_pos (by simp; omega), if_pos (by simp; omega), BitVec.toNat_ofNat, BitVec.toNat_ofInt]
    omega
  · rw [if_neg (by simp; omega), if_neg (by simp; omega), BitVec.toNat_ofNat, BitVec.toNat_ofInt]
    omega
theorem div_le (n m : BitVec 64) : (divU n m).toNat ≤ n.toNat := by
  unfold divU; split
  · exact Nat.zero_le _
  · rw [BitVec.toNat_udiv]; exact Nat.div_le_self ..
theorem mod_le (n m : BitVec 64) : (modU n m).toNat ≤ n.toNat := by
  unfold modU; split
  · exact Nat.le_refl _
  · rw [BitVec.toNat_umod]; exact Nat.mod_le ..
end W
namespace A
open C
theorem hasb_ts {a : Sc} {n : BitVec 64} (h : hasb a n = true) : T.has a.t n = true ∧ S.has a.s n = true := by
  unfold hasb at h; simp only [Bool.and_eq_true] at h; exact h.2
theorem const_has (n : BitVec 64) : hasb (const n) n = true := hasb_iff.2 ⟨const_right n, const_in n⟩
theorem hi_of {a : Sc} {n : BitVec 64} (h : hasb a n = true) : n.toNat ≤ a.s.hi.toNat := (hasb_iff.1 h).2.hi
section
variable {a b : Sc} {n m : BitVec 64} (ha : R.inS a.s = true) (hb : R.inS b.s = true) (hn : hasb a n = true) (hm : hasb b m = true)
include ha hb
theorem both_so {op : Int} {r : BitVec 64} (t1 : (T.doesI op a.t b.t).2 = true) (t2 : T.has (T.doesI op a.t b.t).1 r = true) (s1 : (S.does op a.s b.s).2 = true) (s2 : S.has (S.does op a.s b.s).1 r = true) : hasb (both op a b) r = true :=
  both_has ha hb (by unfold tdo; rw [if_pos t1]; exact t2) (by unfold sdo; rw [if_pos s1]; exact s2)
include hn hm
theorem both_16 : hasb (both 16 a b) (W.aluW 16 0 n m).1 = true := by
  have t := T.so_16 (hasb_ts hn).1 (hasb_ts hm).1; have s := S.so_16 (hasb_ts hn).2 (hasb_ts hm).2 ha hb
  exact both_so ha hb t.1 t.2.2.1 s.1 s.2.2
theorem two_has {op : Int} (h : op = 0 ∨ op = 16 ∨ op = 32 ∨ op = 64 ∨ op = 80 ∨ op = 160) : hasb (both op a b) (W.aluW op 0 n m).1 = true := by
  have hn1 := hasb_ts hn; have hm1 := hasb_ts hm
  rcases h with rfl | rfl | rfl | rfl | rfl | rfl
  · have t := T.so_0 hn1.1 hm1.1; have s := S.so_0 hn1.2 hm1.2 ha hb; exact both_so ha hb t.1 t.2.2.1 s.1 s.2.2
  · exact both_16 ha hb hn hm
  · have t := T.so_32 hn1.1 hm1.1; have s := S.so_32 hn1.2 hm1.2 ha hb; exact both_so ha hb t.1 t.2.2.1 s.1 s.2.2
  · have t := T.so_64 hn1.1 hm1.1; have s := S.so_64 hn1.2 hm1.2 ha hb; exact both_so ha hb t.1 t.2.2.1 s.1 s.2.2
  · have t := T.so_80 hn1.1 hm1.1; have s := S.so_80 hn1.2 hm1.2 ha hb; exact both_so ha hb t.1 t.2.2.1 s.1 s.2.2
  · have t := T.so_160 hn1.1 hm1.1; have s := S.so_160 hn1.2 hm1.2 ha hb; exact both_so ha hb t.1 t.2.2.1 s.1 s.2.2
omit hb hm in
theorem neg_has : hasb (both 16 (C.const (BitVec.ofInt 64 0)) a) (-n) = true := by
  have h := both_16 (C.const_ins (BitVec.ofInt 64 0)) ha (const_has _) hn
  have e : (W.aluW 16 0 (BitVec.ofInt 64 0) n).1 = -n := by
    show BitVec.ofInt 64 0 - n = -n
    exact BitVec.zero_sub n
  rw [e] at h; exact h
theorem quo_has (op : Int) (hop : op = 48) : hasb (quot op 0 a b) (W.divU n m) = true := by
  subst hop
  unfold quot
  rw [if_pos (by rfl)]
  split
  · split
    · exact upTo_has (Nat.le_trans (W.div_le n m) (hi_of hn))
    · have s := S.so_48 (hasb_ts hn).2 (hasb_ts hm).2 ha hb
      refine ofm_has (sdo_in ha hb) (C.has_all _) ?_
      unfold sdo; rw [if_pos s.1]; exact s.2.2
  · exact upTo_has (Nat.le_trans (W.div_le n m) (hi_of hn))
theorem rem_has : hasb (rem 0 a b) (W.modU n m) = true := by
  unfold rem
  rw [if_pos (by rfl)]
  split
  · rename_i h1
    have e := (one_has hb h1).2 m hm
    split
    · exact upTo_has (Nat.le_trans (W.mod_le n m) (hi_of hn))
    · rename_i h2
      rw [← e] at h2 ⊢
      have hz : ¬ (m == 0#64) = true := h2
      have hm0 : m.toNat ≠ 0 := fun h0 => hz (by rw [beq_iff_eq]; exact S.eq_toNat.2 h0)
      have em : (W.modU n m).toNat = n.toNat % m.toNat := by
        unfold W.modU; rw [if_neg hz, BitVec.toNat_umod]
      split
      · rename_i h3
        have h3 := of_decide_eq_true h3
        rw [BitVec.lt_def] at h3
        have := hi_of hn
        have : W.modU n m = n := S.eq_toNat.2 (by rw [em]; exact Nat.mod_eq_of_lt (by omega))
        rw [this]; exact hn
      · refine upTo_has ?_
        rw [em, BitVec.toNat_sub, show (BitVec.ofInt 64 1).toNat = 1 from rfl]
        have := Nat.mod_lt n.toNat (Nat.pos_of_ne_zero hm0)
        have := m.isLt
        omega
  · exact upTo_has (Nat.le_trans (W.mod_le n m) (hi_of hn))
end
section
variable {a b : Sc} {n m : BitVec 64} (ha : R.inS a.s = true) (hn : hasb a n = true)
include ha hn
theorem shifted_has {op : Int} (hop : op = 96 ∨ op = 112 ∨ op = 192) {j : Nat} (hj : j < 64) : hasb (shifted op a (j : Int)) (T.sh op n j) = true := by
  have hn1 := hasb_ts hn
  have et : tsh op a.t (j : Int) = ⟨T.sh op a.t.v j, T.sh op a.t.m j⟩ := by
    have : T.shift op a.t (j : Int) = (⟨T.sh op a.t.v j, T.sh op a.t.m j⟩, true) := by
      unfold T.shift; rw [if_pos (by rcases hop with rfl | rfl | rfl <;> simp [T.has_right hn1.1] <;> omega), Int.toNat_natCast]
    unfold tsh; rw [this]; rfl
  refine ofm_has (ssh_in ha) (by rw [et]; exact T.shift_sound op hop hn1.1 j hj) ?_
  rcases hop with rfl | rfl | rfl
  · obtain ⟨h1, h2⟩ := S.shift_sound (.inl rfl) hj (S.shl_one hj) hn1.2 ha
    unfold ssh; rw [if_pos h1]; exact h2
  · obtain ⟨h1, h2⟩ := S.shift_sound (.inr (.inl rfl)) hj (S.shr_one hj) hn1.2 ha
    unfold ssh; rw [if_pos h1]; exact h2
  · obtain ⟨h1, h2⟩ := S.shift_sound (.inr (.inr rfl)) hj (S.sar_one hj) hn1.2 ha
    unfold ssh; rw [if_pos h1]; exact h2
variable (hb : R.inS b.s = true) (hm : hasb b m = true)
include hb hm
omit ha hn in
theorem sby_eq (w : Bool) (h : (one b).2 = true) : sby w b = ((m.toNat % (if w then 64 else 32) : Nat) : Int) := by
  unfold sby width
  rw [← (one_has hb h).2 m hm]
  cases w
  · rw [C.sv_small, BitVec.toNat_umod]
    · rfl
    · rw [BitVec.toNat_umod]
      have : m.toNat % (if false = true then BitVec.ofInt 64 64 else BitVec.ofInt 64 32).toNat < 32 := Nat.mod_lt _ (by decide)
      omega
  · rw [C.sv_small, BitVec.toNat_umod]
    · rfl
    · rw [BitVec.toNat_umod]
      have : m.toNat % (if true = true then BitVec.ofInt 64 64 else BitVec.ofInt 64 32).toNat < 64 := Nat.mod_lt _ (by decide)
      omega
theorem shw_has {op : Int} (hop : op = 96 ∨ op = 112 ∨ op = 192) : hasb (shiftA op true a b) (T.sh op n (m.toNat % 64)) = true := by
  unfold shiftA
  split
  · rename_i h
    rw [if_pos rfl, sby_eq hb hm true h]
    exact shifted_has ha hn hop (Nat.mod_lt _ (by decide))
  · exact unknown_has _
theorem shn_has {op : Int} (hop : op = 96 ∨ op = 112) : hasb (shiftA op false a b) (T.sh op n (m.toNat % 32)) = true := by
  unfold shiftA
  split
  · rename_i h
    rw [if_neg (by decide), if_neg (by rcases hop with rfl | rfl <;> decide), sby_eq hb hm false h]
    have : m.toNat % 32 < 32 := Nat.mod_lt _ (by decide)
    exact shifted_has ha hn (by omega) (show m.toNat % 32 < 64 by omega)
  · exact unknown_has _
/-- Shifted with its sign: without one, it is as without; else nothing is told. -/
theorem sha_has (r : BitVec 64) (hr : n.toNat < 2147483648 → r = T.sh 112 n (m.toNat % 32)) : hasb (shiftA 192 false a b) r = true := by
  unfold shiftA
  split
  · rename_i h
    rw [if_neg (by decide), if_pos (by decide)]
    split
    · rename_i h3
      have h3 := of_decide_eq_true h3
      rw [BitVec.lt_def, show (BitVec.ofInt 64 2147483648).toNat = 2147483648 from rfl] at h3
      have := hi_of hn
      rw [sby_eq hb hm false h, hr (by omega)]
      have : m.toNat % 32 < 32 := Nat.mod_lt _ (by decide)
      exact shifted_has ha hn (by omega) (show m.toNat % 32 < 64 by omega)
    · exact unknown_has _
  · exact unknown_has _
end
section
variable {b : Sc} {m : BitVec 64} (hb : R.inS b.s = true) (hm : hasb b m = true)
include hb hm
theorem low_hasb {k : Int} (hk : (W.extB m k true).2 = true) : hasb (pickC (C.low b k true).2 (C.low b k true).1 C.unknown) (W.extB m k true).1 = true := by
  have l := low_law hb k true m
  have h : (C.low b k true).2 = true := by rw [l.1, hk, (hasb_iff.1 hm).1]; rfl
  unfold pickC; rw [if_pos h]; exact l.2.2 h hm
theorem mv_0 : hasb (moved 0 b) m = true := by unfold moved; rw [if_pos (by rfl)]; exact hm
theorem mv_8 : hasb (moved 8 b) (W.xt m 8 true) = true := by
  have e : moved 8 b = pickC (C.low b 1 true).2 (C.low b 1 true).1 C.unknown := mov_1 (by rfl)
  rw [e]; exact low_hasb (k := 1) hb hm rfl
theorem mv_16 : hasb (moved 16 b) (W.xt m 16 true) = true := by
  have e : moved 16 b = pickC (C.low b 2 true).2 (C.low b 2 true).1 C.unknown := mov_1 (by rfl)
  rw [e]; exact low_hasb (k := 2) hb hm rfl
theorem mv_32 : hasb (moved 32 b) (W.xt m 32 true) = true := by
  have e : moved 32 b = pickC (C.low b 4 true).2 (C.low b 4 true).1 C.unknown := mov_1 (by rfl)
  rw [e]; exact low_hasb (k := 4) hb hm rfl
end
section
variable {op off : Int} {w : Bool} {a b : Sc} {n m : BitVec 64} (ha : R.inS a.s = true) (hb : R.inS b.s = true) (hn : hasb a n = true) (hm : hasb b m = true)
include ha hb hn hm
/-- Of two numbers: the number. -/
theorem exact_has (h : exactB op off w a b = true) : made op off w a b = C.const (W.aluG op off w n m).1 := by
  rw [mk_e h]
  unfold exactB at h
  simp only [Bool.and_eq_true] at h
  unfold exactV
  rw [← (one_has ha h.1).2 n hn, ← (one_has hb h.2.1).2 m hm]
/-- Wide: what is made has what the operation makes. -/
theorem made_wide (h : (W.aluW op off n m).2 = true) : hasb (made op off true a b) (W.aluW op off n m).1 = true := by
  cases he : exactB op off true a b with
  | true => rw [exact_has ha hb hn hm he]; exact const_has _
  | false =>
    rcases W.aluW_cases h with ⟨rfl, rfl⟩ | ⟨rfl, rfl⟩ | ⟨rfl, rfl⟩ | ⟨rfl, rfl⟩ | ⟨rfl, rfl⟩ | ⟨rfl, rfl⟩ | ⟨rfl, rfl⟩ | ⟨rfl, rfl⟩ | ⟨rfl, rfl⟩ | ⟨rfl, rfl⟩ | ⟨rfl, rfl⟩ | ⟨rfl, rfl⟩ | ⟨rfl, rfl⟩ | ⟨rfl, rfl⟩ | ⟨rfl, rfl⟩ | ⟨rfl, rfl⟩ | ⟨rfl, rfl⟩ | ⟨rfl, rfl⟩
    · rw [mk_mov he rfl rfl, show (W.aluW 176 32 n m).1 = BitVec.ofInt 64 (IntKind.i32.wrap (uv m)) from rfl, W.mov_32]; exact mv_32 hb hm
    · rw [mk_two he rfl rfl rfl rfl rfl rfl rfl]; exact two_has ha hb hn hm (by decide)
    · rw [mk_two he rfl rfl rfl rfl rfl rfl rfl]; exact two_has ha hb hn hm (by decide)
    · rw [mk_two he rfl rfl rfl rfl rfl rfl rfl]; exact two_has ha hb hn hm (by decide)
    · rw [mk_div he rfl rfl rfl]; exact quo_has ha hb hn hm 48 rfl
    · rw [mk_div he rfl rfl rfl, quo_u rfl]; exact unknown_has _
    · rw [mk_mod he rfl rfl rfl rfl]; exact rem_has ha hb hn hm
    · rw [mk_mod he rfl rfl rfl rfl, rem_u rfl]; exact unknown_has _
    · rw [mk_two he rfl rfl rfl rfl rfl rfl rfl]; exact two_has ha hb hn hm (by decide)
    · rw [mk_two he rfl rfl rfl rfl rfl rfl rfl]; exact two_has ha hb hn hm (by decide)
    · rw [mk_two he rfl rfl rfl rfl rfl rfl rfl]; exact two_has ha hb hn hm (by decide)
    · rw [mk_lsh he rfl rfl rfl rfl rfl]; exact shw_has ha hn hb hm (.inl rfl)
    · rw [mk_rsh he rfl rfl rfl rfl rfl rfl]; exact shw_has ha hn hb hm (.inr (.inl rfl))
    · rw [mk_ars he rfl rfl rfl rfl rfl rfl rfl]
      have h := shw_has (op := 192) ha hn hb hm (.inr (.inr rfl))
      have e : (W.aluW 192 0 n m).1 = T.sh 192 n (m.toNat % 64) := by
        show n.sshiftRight (min (m % 64#64).toNat 64) = n.sshiftRight (min (m.toNat % 64) 64)
        rw [BitVec.toNat_umod]; rfl
      rw [e]; exact h
    · rw [mk_neg he rfl]; exact neg_has ha hn
    · rw [mk_mov he rfl rfl]; exact mv_0 hb hm
    · rw [mk_mov he rfl rfl, show (W.aluW 176 8 n m).1 = BitVec.ofInt 64 (IntKind.i8.wrap (uv m)) from rfl, W.mov_8]; exact mv_8 hb hm
    · rw [mk_mov he rfl rfl, show (W.aluW 176 16 n m).1 = BitVec.ofInt 64 (IntKind.i16.wrap (uv m)) from rfl, W.mov_16]; exact mv_16 hb hm
end
end A
namespace W
theorem uwrap (z : Int) : IntKind.u32.wrap z = z % 4294967296 := by simp [IntKind.wrap, IntKind.signed, IntKind.bits]
theorem un_eq (n : BitVec 64) : IntKind.u32.wrap (uv n) = ((n.toNat % 4294967296 : Nat) : Int) := by
  rw [uwrap]; unfold uv; omega
theorem xtn (n : BitVec 64) : (xt n 32 false).toNat = n.toNat % 4294967296 := C.xt_f n 32 (by decide)
theorem xt_key {z : Int} {r : BitVec 64} (h : z = ((r.toNat % 4294967296 : Nat) : Int)) : BitVec.ofInt 64 z = xt r 32 false := by
  rw [h, BitVec.ofInt_natCast]; rfl
theorem xt_wrap (z : Int) : BitVec.ofInt 64 (IntKind.u32.wrap z) = xt (BitVec.ofInt 64 z) 32 false := by
  refine xt_key ?_
  rw [uwrap, BitVec.toNat_ofInt]
  omega
theorem nar (op off : Int) (n m : BitVec 64) : (aluN op off n m).1 = BitVec.ofInt 64 (alu32 op off ((n.toNat % 4294967296 : Nat) : Int) ((m.toNat % 4294967296 : Nat) : Int)).1 := by
  unfold aluN; rw [un_eq, un_eq]
theorem nar_xt (op off : Int) (n m : BitVec 64) : (aluN op off (xt n 32 false) (xt m 32 false)).1 = (aluN op off n m).1 := by
  rw [nar, nar, xtn, xtn, Nat.mod_mod, Nat.mod_mod]
theorem r_0 (x y : Int) : alu32 0 0 x y = (IntKind.u32.wrap (x + y), true) := rfl
theorem r_16 (x y : Int) : alu32 16 0 x y = (IntKind.u32.wrap (x - y), true) := rfl
theorem r_32 (x y : Int) : alu32 32 0 x y = (IntKind.u32.wrap (x * y), true) := rfl
theorem r_48 (x y : Int) : alu32 48 0 x y = ((if y == 0 then 0 else IntKind.u32.wrap (x.tdiv y)), true) := rfl
theorem r_144 (x y : Int) : alu32 144 0 x y = ((if y == 0 then x else x.tmod y), true) := rfl
theorem r_64 (x y : Int) : alu32 64 0 x y = (Go.bits .or .u32 x y, true) := rfl
theorem r_80 (x y : Int) : alu32 80 0 x y = (Go.bits .and .u32 x y, true) := rfl
theorem r_160 (x y : Int) : alu32 160 0 x y = (Go.bits .xor .u32 x y, true) := rfl
theorem r_96 (x y : Int) : alu32 96 0 x y = (IntKind.u32.wrap (x * 2 ^ min (BitVec.ofInt 64 y % BitVec.ofInt 64 32).toNat IntKind.u32.bits), true) := rfl
theorem r_112 (x y : Int) : alu32 112 0 x y = (x.fdiv (2 ^ min (BitVec.ofInt 64 y % BitVec.ofInt 64 32).toNat IntKind.u32.bits), true) := rfl
theorem r_192 (x y : Int) : alu32 192 0 x y = (IntKind.u32.wrap ((IntKind.i32.wrap x).fdiv (2 ^ min (BitVec.ofInt 64 y % BitVec.ofInt 64 32).toNat IntKind.i32.bits)), true) := rfl
theorem r_128 (x y : Int) : alu32 128 0 x y = (IntKind.u32.wrap (0 - x), true) := rfl
theorem r_176 (x y : Int) : alu32 176 0 x y = (y, true) := rfl
theorem r_176_8 (x y : Int) : alu32 176 8 x y = (IntKind.u32.wrap (IntKind.i8.wrap y), true) := rfl
theorem r_176_16 (x y : Int) : alu32 176 16 x y = (IntKind.u32.wrap (IntKind.i16.wrap y), true) := rfl
theorem r_48_1 (x y : Int) : ∃ z, alu32 48 1 x y = (IntKind.u32.wrap z, true) := by
  by_cases h : (IntKind.i32.wrap y == 0) = true
  · exact ⟨0, by show ((if IntKind.i32.wrap y == 0 then IntKind.u32.wrap 0 else _), true) = _; rw [if_pos h]⟩
  · exact ⟨_, by show ((if IntKind.i32.wrap y == 0 then IntKind.u32.wrap 0 else IntKind.u32.wrap (IntKind.i32.wrap ((IntKind.i32.wrap x).tdiv (IntKind.i32.wrap y)))), true) = _; rw [if_neg h]⟩
theorem r_144_1 (x y : Int) : ∃ z, alu32 144 1 x y = (IntKind.u32.wrap z, true) := by
  by_cases h : (IntKind.i32.wrap y == 0) = true
  · exact ⟨IntKind.i32.wrap x, by show ((if IntKind.i32.wrap y == 0 then IntKind.u32.wrap (IntKind.i32.wrap x) else _), true) = _; rw [if_pos h]⟩
  · exact ⟨_, by show ((if IntKind.i32.wrap y == 0 then IntKind.u32.wrap (IntKind.i32.wrap x) else IntKind.u32.wrap ((IntKind.i32.wrap x).tmod (IntKind.i32.wrap y))), true) = _; rw [if_neg h]⟩
theorem by32 (M : Nat) : (BitVec.ofInt 64 (M : Int) % BitVec.ofInt 64 32).toNat = M % 18446744073709551616 % 32 := by
  rw [BitVec.toNat_umod, BitVec.ofInt_natCast, BitVec.toNat_ofNat]; rfl
theorem of32 {N : Nat} (h : N < 4294967296) : (BitVec.ofInt IntKind.u32.bits (N : Int)).toNat = N := by
  show (BitVec.ofInt 32 (N : Int)).toNat = N
  rw [BitVec.ofInt_natCast, BitVec.toNat_ofNat]; exact Nat.mod_eq_of_lt h
section
variable {n m : BitVec 64} (hn : n.toNat < 4294967296) (hm : m.toNat < 4294967296)
include hn hm
theorem n_0 : (aluN 0 0 n m).1 = xt (n + m) 32 false := by
  rw [nar, Nat.mod_eq_of_lt hn, Nat.mod_eq_of_lt hm, r_0]
  refine xt_key ?_
  rw [BitVec.toNat_add]
  show IntKind.u32.wrap ((n.toNat : Int) + (m.toNat : Int)) = _
  rw [uwrap]; omega
theorem n_16 : (aluN 16 0 n m).1 = xt (n - m) 32 false := by
  rw [nar, Nat.mod_eq_of_lt hn, Nat.mod_eq_of_lt hm, r_16]
  refine xt_key ?_
  rw [BitVec.toNat_sub]
  show IntKind.u32.wrap ((n.toNat : Int) - (m.toNat : Int)) = _
  rw [uwrap]; omega
theorem n_32 : (aluN 32 0 n m).1 = xt (n * m) 32 false := by
  rw [nar, Nat.mod_eq_of_lt hn, Nat.mod_eq_of_lt hm, r_32]
  refine xt_key ?_
  rw [BitVec.toNat_mul]
  show IntKind.u32.wrap ((n.toNat : Int) * (m.toNat : Int)) = _
  rw [uwrap, ← Int.natCast_mul]
  generalize n.toNat * m.toNat = p
  omega
theorem n_48 : (aluN 48 0 n m).1 = xt (divU n m) 32 false := by
  rw [nar, Nat.mod_eq_of_lt hn, Nat.mod_eq_of_lt hm, r_48]
  refine xt_key ?_
  show (if ((m.toNat : Int) == 0) = true then (0 : Int) else IntKind.u32.wrap (Int.tdiv (n.toNat : Int) (m.toNat : Int))) = _
  unfold divU
  by_cases h : m.toNat = 0
  · rw [if_pos (by rw [h]; rfl), if_pos (by rw [beq_iff_eq]; exact S.eq_toNat.2 h)]; rfl
  · rw [if_neg (by rw [beq_iff_eq]; omega), if_neg (by rw [beq_iff_eq]; intro e; exact h (by rw [e]; rfl)), uwrap, BitVec.toNat_udiv, ← Int.ofNat_tdiv]
    have := Nat.div_le_self n.toNat m.toNat
    omega
theorem n_144 : (aluN 144 0 n m).1 = xt (modU n m) 32 false := by
  rw [nar, Nat.mod_eq_of_lt hn, Nat.mod_eq_of_lt hm, r_144]
  refine xt_key ?_
  show (if ((m.toNat : Int) == 0) = true then (n.toNat : Int) else Int.tmod (n.toNat : Int) (m.toNat : Int)) = _
  unfold modU
  by_cases h : m.toNat = 0
  · rw [if_pos (by rw [h]; rfl), if_pos (by rw [beq_iff_eq]; exact S.eq_toNat.2 h)]; omega
  · rw [if_neg (by rw [beq_iff_eq]; omega), if_neg (by rw [beq_iff_eq]; intro e; exact h (by rw [e]; rfl)), BitVec.toNat_umod, ← Int.ofNat_tmod]
    have := Nat.mod_le n.toNat m.toNat
    omega
theorem n_80 : (aluN 80 0 n m).1 = xt (n &&& m) 32 false := by
  rw [nar, Nat.mod_eq_of_lt hn, Nat.mod_eq_of_lt hm, r_80]
  refine xt_key ?_
  show IntKind.u32.wrap (((BitVec.ofInt IntKind.u32.bits (n.toNat : Int) &&& BitVec.ofInt IntKind.u32.bits (m.toNat : Int)).toNat : Nat) : Int) = _
  rw [uwrap, BitVec.toNat_and, of32 hn, of32 hm, BitVec.toNat_and]; omega
theorem n_64 : (aluN 64 0 n m).1 = xt (n ||| m) 32 false := by
  rw [nar, Nat.mod_eq_of_lt hn, Nat.mod_eq_of_lt hm, r_64]
  refine xt_key ?_
  show IntKind.u32.wrap (((BitVec.ofInt IntKind.u32.bits (n.toNat : Int) ||| BitVec.ofInt IntKind.u32.bits (m.toNat : Int)).toNat : Nat) : Int) = _
  rw [uwrap, BitVec.toNat_or, of32 hn, of32 hm, BitVec.toNat_or]; omega
theorem n_160 : (aluN 160 0 n m).1 = xt (n ^^^ m) 32 false := by
  rw [nar, Nat.mod_eq_of_lt hn, Nat.mod_eq_of_lt hm, r_160]
  refine xt_key ?_
  show IntKind.u32.wrap (((BitVec.ofInt IntKind.u32.bits (n.toNat : Int) ^^^ BitVec.ofInt IntKind.u32.bits (m.toNat : Int)).toNat : Nat) : Int) = _
  rw [uwrap, BitVec.toNat_xor, of32 hn, of32 hm, BitVec.toNat_xor]; omega
theorem n_96 : (aluN 96 0 n m).1 = xt (T.sh 96 n (m.toNat % 32)) 32 false := by
  rw [nar, Nat.mod_eq_of_lt hn, Nat.mod_eq_of_lt hm, r_96, by32]
  refine xt_key ?_
  show IntKind.u32.wrap ((n.toNat : Int) * 2 ^ min (m.toNat % 18446744073709551616 % 32) 32) = (((n <<< (m.toNat % 32)).toNat % 4294967296 : Nat) : Int)
  rw [show min (m.toNat % 18446744073709551616 % 32) 32 = m.toNat % 32 by omega, uwrap, BitVec.toNat_shiftLeft, Nat.shiftLeft_eq, show (n.toNat : Int) * 2 ^ (m.toNat % 32) = ((n.toNat * 2 ^ (m.toNat % 32) : Nat) : Int) by push_cast; rfl]
  generalize n.toNat * 2 ^ (m.toNat % 32) = p
  omega
theorem n_112 : (aluN 112 0 n m).1 = xt (T.sh 112 n (m.toNat % 32)) 32 false := by
  rw [nar, Nat.mod_eq_of_lt hn, Nat.mod_eq_of_lt hm, r_112, by32]
  refine xt_key ?_
  show Int.fdiv (n.toNat : Int) (2 ^ min (m.toNat % 18446744073709551616 % 32) 32) = (((n >>> (m.toNat % 32)).toNat % 4294967296 : Nat) : Int)
  rw [show min (m.toNat % 18446744073709551616 % 32) 32 = m.toNat % 32 by omega, BitVec.toNat_ushiftRight, Nat.shiftRight_eq_div_pow, Int.fdiv_eq_ediv_of_nonneg _ (Int.le_of_lt (Int.pow_pos (by decide))), show (n.toNat : Int) / 2 ^ (m.toNat % 32) = ((n.toNat / 2 ^ (m.toNat % 32) : Nat) : Int) by push_cast; rfl]
  have := Nat.div_le_self n.toNat (2 ^ (m.toNat % 32))
  generalize n.toNat / 2 ^ (m.toNat % 32) = q at *
  omega
theorem n_192 (h : n.toNat < 2147483648) : (aluN 192 0 n m).1 = T.sh 112 n (m.toNat % 32) := by
  rw [nar, Nat.mod_eq_of_lt hn, Nat.mod_eq_of_lt hm, r_192, by32]
  show BitVec.ofInt 64 (IntKind.u32.wrap ((IntKind.i32.wrap (n.toNat : Int)).fdiv (2 ^ min (m.toNat % 18446744073709551616 % 32) 32))) = n >>> (m.toNat % 32)
  have hi : IntKind.i32.wrap (n.toNat : Int) = (n.toNat : Int) := by
    have e : (n.toNat : Int) % 2 ^ 32 = (n.toNat : Int) := by omega
    simp only [IntKind.wrap, IntKind.signed, IntKind.bits, e]
    rw [if_neg (by simp; omega)]
  rw [hi, show min (m.toNat % 18446744073709551616 % 32) 32 = m.toNat % 32 by omega, Int.fdiv_eq_ediv_of_nonneg _ (Int.le_of_lt (Int.pow_pos (by decide))), show (n.toNat : Int) / 2 ^ (m.toNat % 32) = ((n.toNat / 2 ^ (m.toNat % 32) : Nat) : Int) by push_cast; rfl]
  have := Nat.div_le_self n.toNat (2 ^ (m.toNat % 32))
  have hq : ((n.toNat / 2 ^ (m.toNat % 32) : Nat) : Int) % 4294967296 = ((n.toNat / 2 ^ (m.toNat % 32) : Nat) : Int) := by
    generalize n.toNat / 2 ^ (m.toNat % 32) = q at *
    omega
  rw [uwrap, hq, BitVec.ofInt_natCast]
  apply BitVec.eq_of_toNat_eq
  rw [BitVec.toNat_ofNat, BitVec.toNat_ushiftRight, Nat.shiftRight_eq_div_pow, Nat.mod_eq_of_lt (by omega)]
theorem n_128 : (aluN 128 0 n m).1 = xt (-n) 32 false := by
  rw [nar, Nat.mod_eq_of_lt hn, Nat.mod_eq_of_lt hm, r_128]
  refine xt_key ?_
  rw [BitVec.toNat_neg]
  show IntKind.u32.wrap (0 - (n.toNat : Int)) = _
  rw [uwrap]; omega
theorem n_176 : (aluN 176 0 n m).1 = xt m 32 false := by
  rw [nar, Nat.mod_eq_of_lt hn, Nat.mod_eq_of_lt hm, r_176]
  refine xt_key ?_
  show (m.toNat : Int) = _
  omega
theorem n_176_8 : (aluN 176 8 n m).1 = xt (xt m 8 true) 32 false := by
  rw [nar, Nat.mod_eq_of_lt hn, Nat.mod_eq_of_lt hm, r_176_8]
  show BitVec.ofInt 64 (IntKind.u32.wrap (IntKind.i8.wrap (uv m))) = _
  rw [xt_wrap, mov_8]
theorem n_176_16 : (aluN 176 16 n m).1 = xt (xt m 16 true) 32 false := by
  rw [nar, Nat.mod_eq_of_lt hn, Nat.mod_eq_of_lt hm, r_176_16]
  show BitVec.ofInt 64 (IntKind.u32.wrap (IntKind.i16.wrap (uv m))) = _
  rw [xt_wrap, mov_16]
omit hn hm in
theorem n_48_1 : ∃ r, (aluN 48 1 n m).1 = xt r 32 false := by
  rw [nar]
  obtain ⟨z, h⟩ := r_48_1 ((n.toNat % 4294967296 : Nat) : Int) ((m.toNat % 4294967296 : Nat) : Int)
  exact ⟨_, by rw [h]; exact xt_wrap z⟩
omit hn hm in
theorem n_144_1 : ∃ r, (aluN 144 1 n m).1 = xt r 32 false := by
  rw [nar]
  obtain ⟨z, h⟩ := r_144_1 ((n.toNat % 4294967296 : Nat) : Int) ((m.toNat % 4294967296 : Nat) : Int)
  exact ⟨_, by rw [h]; exact xt_wrap z⟩
omit hn hm in
theorem n_192_x : ∃ r, (aluN 192 0 n m).1 = xt r 32 false := by
  rw [nar, r_192]; exact ⟨_, xt_wrap _⟩
/-- What a narrow operation makes is narrow. -/
theorem nar_fix {op off : Int} (h : (aluN op off n m).2 = true) : xt (aluN op off n m).1 32 false = (aluN op off n m).1 := by
  have key : ∃ r, (aluN op off n m).1 = xt r 32 false := by
    rcases alu32_cases h with ⟨rfl, rfl⟩ | ⟨rfl, rfl⟩ | ⟨rfl, rfl⟩ | ⟨rfl, rfl⟩ | ⟨rfl, rfl⟩ | ⟨rfl, rfl⟩ | ⟨rfl, rfl⟩ | ⟨rfl, rfl⟩ | ⟨rfl, rfl⟩ | ⟨rfl, rfl⟩ | ⟨rfl, rfl⟩ | ⟨rfl, rfl⟩ | ⟨rfl, rfl⟩ | ⟨rfl, rfl⟩ | ⟨rfl, rfl⟩ | ⟨rfl, rfl⟩ | ⟨rfl, rfl⟩
    · exact ⟨_, n_0 hn hm⟩
    · exact ⟨_, n_16 hn hm⟩
    · exact ⟨_, n_32 hn hm⟩
    · exact ⟨_, n_48 hn hm⟩
    · exact n_48_1
    · exact ⟨_, n_144 hn hm⟩
    · exact n_144_1
    · exact ⟨_, n_64 hn hm⟩
    · exact ⟨_, n_80 hn hm⟩
    · exact ⟨_, n_160 hn hm⟩
    · exact ⟨_, n_96 hn hm⟩
    · exact ⟨_, n_112 hn hm⟩
    · exact n_192_x
    · exact ⟨_, n_128 hn hm⟩
    · exact ⟨_, n_176 hn hm⟩
    · exact ⟨_, n_176_8 hn hm⟩
    · exact ⟨_, n_176_16 hn hm⟩
  obtain ⟨r, e⟩ := key
  rw [e]; exact C.xt_idem r (by decide) false
end
end W
namespace A
open C
section
variable {op off : Int} {a b : Sc} {n m : BitVec 64} (ha : R.inS a.s = true) (hb : R.inS b.s = true) (hn : hasb a n = true) (hm : hasb b m = true) (sn : n.toNat < 4294967296) (sm : m.toNat < 4294967296)
include ha hb hn hm sn sm
/-- Narrow: what is made has a word whose low part is what the operation makes. -/
theorem made_narrow (h : (W.aluN op off n m).2 = true) : ∃ r, hasb (made op off false a b) r = true ∧ (W.aluN op off n m).1 = W.xt r 32 false := by
  cases he : exactB op off false a b with
  | true => exact ⟨_, by rw [exact_has ha hb hn hm he]; exact const_has _, (W.nar_fix sn sm h).symm⟩
  | false =>
    rcases W.alu32_cases h with ⟨rfl, rfl⟩ | ⟨rfl, rfl⟩ | ⟨rfl, rfl⟩ | ⟨rfl, rfl⟩ | ⟨rfl, rfl⟩ | ⟨rfl, rfl⟩ | ⟨rfl, rfl⟩ | ⟨rfl, rfl⟩ | ⟨rfl, rfl⟩ | ⟨rfl, rfl⟩ | ⟨rfl, rfl⟩ | ⟨rfl, rfl⟩ | ⟨rfl, rfl⟩ | ⟨rfl, rfl⟩ | ⟨rfl, rfl⟩ | ⟨rfl, rfl⟩ | ⟨rfl, rfl⟩
    · rw [mk_two he rfl rfl rfl rfl rfl rfl rfl]; exact ⟨_, two_has (op := 0) ha hb hn hm (by decide), W.n_0 sn sm⟩
    · rw [mk_two he rfl rfl rfl rfl rfl rfl rfl]; exact ⟨_, two_has (op := 16) ha hb hn hm (by decide), W.n_16 sn sm⟩
    · rw [mk_two he rfl rfl rfl rfl rfl rfl rfl]; exact ⟨_, two_has (op := 32) ha hb hn hm (by decide), W.n_32 sn sm⟩
    · rw [mk_div he rfl rfl rfl]; exact ⟨_, quo_has ha hb hn hm 48 rfl, W.n_48 sn sm⟩
    · rw [mk_div he rfl rfl rfl, quo_u rfl]; obtain ⟨r, e⟩ := W.n_48_1 (n := n) (m := m); exact ⟨r, unknown_has _, e⟩
    · rw [mk_mod he rfl rfl rfl rfl]; exact ⟨_, rem_has ha hb hn hm, W.n_144 sn sm⟩
    · rw [mk_mod he rfl rfl rfl rfl, rem_u rfl]; obtain ⟨r, e⟩ := W.n_144_1 (n := n) (m := m); exact ⟨r, unknown_has _, e⟩
    · rw [mk_two he rfl rfl rfl rfl rfl rfl rfl]; exact ⟨_, two_has (op := 64) ha hb hn hm (by decide), W.n_64 sn sm⟩
    · rw [mk_two he rfl rfl rfl rfl rfl rfl rfl]; exact ⟨_, two_has (op := 80) ha hb hn hm (by decide), W.n_80 sn sm⟩
    · rw [mk_two he rfl rfl rfl rfl rfl rfl rfl]; exact ⟨_, two_has (op := 160) ha hb hn hm (by decide), W.n_160 sn sm⟩
    · rw [mk_lsh he rfl rfl rfl rfl rfl]; exact ⟨_, shn_has ha hn hb hm (.inl rfl), W.n_96 sn sm⟩
    · rw [mk_rsh he rfl rfl rfl rfl rfl rfl]; exact ⟨_, shn_has ha hn hb hm (.inr rfl), W.n_112 sn sm⟩
    · rw [mk_ars he rfl rfl rfl rfl rfl rfl rfl]; exact ⟨_, sha_has ha hn hb hm _ (W.n_192 sn sm), (W.nar_fix sn sm h).symm⟩
    · rw [mk_neg he rfl]; exact ⟨_, neg_has ha hn, W.n_128 sn sm⟩
    · rw [mk_mov he rfl rfl]; exact ⟨_, mv_0 hb hm, W.n_176 sn sm⟩
    · rw [mk_mov he rfl rfl]; exact ⟨_, mv_8 hb hm, W.n_176_8 sn sm⟩
    · rw [mk_mov he rfl rfl]; exact ⟨_, mv_16 hb hm, W.n_176_16 sn sm⟩
end
section
variable {op off : Int} {w : Bool} {a b : Sc}
/-- Whether anything is told. -/
theorem does_told (op off : Int) (w : Bool) (a b : Sc) (n m : BitVec 64) : (does op off w a b).2 = ((W.aluG op off w n m).2 && (C.right a && C.right b)) := by
  unfold does
  rw [W.aluG_is op off w n m]
  cases (W.aluG op off w (BitVec.ofInt 64 0) (BitVec.ofInt 64 0)).2 <;> cases C.right a <;> cases C.right b <;> rfl
/-- What two words that two scalars have come to is had by what is told. -/
theorem does_has {n m : BitVec 64} (ha : R.inS a.s = true) (hb : R.inS b.s = true) (hn : hasb a n = true) (hm : hasb b m = true) (h : (W.aluG op off w n m).2 = true) : hasb (does op off w a b).1 (W.aluG op off w n m).1 = true := by
  have h0 : (W.aluG op off w (BitVec.ofInt 64 0) (BitVec.ofInt 64 0)).2 = true := by rw [← W.aluG_is op off w n m]; exact h
  have ra := (hasb_iff.1 hn).1; have rb := (hasb_iff.1 hm).1
  cases w with
  | true => rw [do_3 h0 ra rb rfl]; exact made_wide ha hb hn hm h
  | false =>
    rw [do_4 h0 ra rb rfl]
    have h : (W.aluN op off n m).2 = true := h
    have hx : (W.aluN op off (W.xt n 32 false) (W.xt m 32 false)).2 = true := by
      have : (W.aluN op off (W.xt n 32 false) (W.xt m 32 false)).2 = (W.aluN op off n m).2 := W.alu32_is ..
      rw [this]; exact h
    have sn : (W.xt n 32 false).toNat < 4294967296 := by rw [W.xtn]; exact Nat.mod_lt _ (by decide)
    have sm : (W.xt m 32 false).toNat < 4294967296 := by rw [W.xtn]; exact Nat.mod_lt _ (by decide)
    obtain ⟨r, k1, k2⟩ := made_narrow (low4_in ha) (low4_in hb) (low4_has ha hn) (low4_has hb hm) sn sm hx
    show hasb (low4 (made op off false (low4 a) (low4 b))) (W.aluN op off n m).1 = true
    rw [← W.nar_xt op off n m, k2]
    exact low4_has (made_in (low4_in ha) (low4_in hb)) k1
end
end A
namespace A
open C
/-- A scalar whose bits are known is a number. -/
theorem const_of {y : Sc} {v : BitVec 64} (hy : R.inS y.s = true) (hr : right y = true) (ht : y.t = ⟨v, 0⟩) : y = const v := by
  obtain ⟨g, hf⟩ := (right_iff hy).1 hr
  obtain ⟨⟨_, e1⟩, _⟩ := fix_parts g hf
  have e2 : S.maxB y.s.lo y.t.v = y.s.lo := congrArg (fun x : Sc => x.s.lo) e1
  have e3 : S.minB y.s.hi (y.t.v ||| y.t.m) = y.s.hi := congrArg (fun x : Sc => x.s.hi) e1
  have hp := g.p
  rw [ht] at e2 e3
  have e4 : v.toNat ≤ y.s.lo.toNat := by rw [← e2, S.maxB_nat]; exact Nat.le_max_right ..
  have e5 : y.s.hi.toNat ≤ v.toNat := by
    have : (v ||| 0) = v := BitVec.or_zero
    have e3 : S.minB y.s.hi (v ||| 0) = y.s.hi := e3
    rw [← e3, this, S.minB_nat]; exact Nat.min_le_right ..
  have el : y.s.lo = v := S.eq_toNat.2 (by omega)
  have eh : y.s.hi = v := S.eq_toNat.2 (by omega)
  have h1 : one y = (v, true) := by
    unfold one; rw [hr, el, eh]; simp
  have := one_law hy (by rw [h1])
  rw [h1] at this; exact this
theorem cutG_hi {x : Sc} {l : Tn} {p : BitVec 64} (hp : 0 < p.toNat) : (cutG x l p).s.hi.toNat < p.toNat := by
  unfold cutG; split
  · rename_i hc; have hc := of_decide_eq_true hc; rw [BitVec.lt_def] at hc; exact hc
  · have hpp : (p - BitVec.ofInt 64 1).toNat = p.toNat - 1 := by
      have := p.isLt
      rw [BitVec.toNat_sub, show (BitVec.ofInt 64 1).toNat = 1 from rfl]; omega
    cases h : (of l ⟨BitVec.ofInt 64 0, p - BitVec.ofInt 64 1, 0, sv (p - BitVec.ofInt 64 1)⟩).2 with
    | true =>
      have k := (of_ok (topI p) h).2.1.hi
      have k : (of l ⟨BitVec.ofInt 64 0, p - BitVec.ofInt 64 1, 0, sv (p - BitVec.ofInt 64 1)⟩).1.s.hi.toNat ≤ (p - BitVec.ofInt 64 1).toNat := k
      omega
    | false => rw [of_zero h]; exact hp
theorem low4_cut {x : Sc} (hx : R.inS x.s = true) (hr : right x = true) : low4 x = cutG x (T.low x.t 4).1 (tops 4) := by
  rw [low4_eq hx hr]
  have e : low x 4 false = tailG x (T.low x.t 4).1 32 false (tops 4) := low_tail (sg := false) (n := 4) rfl hr rfl
  rw [e]; rfl
theorem tops4 : (tops 4).toNat = 2 ^ 32 := by kernel_rfl
theorem low4_hi {x : Sc} (hx : R.inS x.s = true) (hr : right x = true) : (low4 x).s.hi.toNat < 4294967296 := by
  rw [low4_cut hx hr]
  have h := cutG_hi (x := x) (l := (T.low x.t 4).1) (p := tops 4) (by rw [tops4]; decide)
  rw [tops4] at h; exact h
theorem low4_const (n : BitVec 64) : low4 (const n) = const (W.xt n 32 false) := by
  have hi := const_ins n
  have hr := const_right n
  have hb := low4_has hi (const_has n)
  have hin := low4_in hi
  have hrr := low4_right hi hr
  refine const_of hin hrr ?_
  have e : T.low (const n).t 4 = (⟨n &&& 4294967295#64, BitVec.ofInt 64 0 &&& 4294967295#64⟩, true) := by
    have hq : T.right (⟨n, 0#64⟩ : Tn) = true := T.has_right (has_one n)
    simp [T.low, const, hq]
  have ex : W.xt n 32 false = n &&& 4294967295#64 := xt_and n 32 (by decide)
  have e2 : (BitVec.ofInt 64 0 &&& 4294967295#64) = 0#64 := by decide
  rw [low4_cut hi hr, e, e2, ← ex] at hb ⊢
  unfold cutG at hb ⊢
  split
  · rename_i hc
    rw [if_pos hc] at hb
    have h1 := (one_has hi (by unfold one; rw [hr]; simp [const, S.one])).2
    have := (h1 _ hb).trans (h1 _ (const_has n)).symm
    rw [this]; rfl
  · rename_i hc
    rw [if_neg hc] at hb
    cases h : (of (⟨W.xt n 32 false, 0#64⟩ : Tn) ⟨BitVec.ofInt 64 0, tops 4 - BitVec.ofInt 64 1, 0, sv (tops 4 - BitVec.ofInt 64 1)⟩).2 with
    | true => exact leq_one (of_ok (topI (tops 4)) h).2.1.t
    | false =>
      rw [of_zero h] at hb ⊢
      have h1 := (one_has (const_ins (BitVec.ofInt 64 0)) (by unfold one; rw [const_right]; simp [const, S.one])).2
      have := (h1 _ hb).trans (h1 _ (const_has _)).symm
      rw [this]; rfl
theorem exact_const (op off : Int) (w : Bool) (n m : BitVec 64) (h : (W.aluG op off w n m).2 = true) : made op off w (const n) (const m) = const (W.aluG op off w n m).1 := by
  have h1 : ∀ k : BitVec 64, one (const k) = (k, true) := fun k => by unfold one; rw [const_right]; simp [const, S.one]
  have he : exactB op off w (const n) (const m) = true := by unfold exactB; rw [h1, h1, h]; rfl
  rw [mk_e he]; unfold exactV; rw [h1, h1]
/-- Of two numbers: the number that the operation makes. -/
theorem does_const (op off : Int) (w : Bool) (n m : BitVec 64) (h : (W.aluG op off w n m).2 = true) : (does op off w (const n) (const m)).1 = const (W.aluG op off w n m).1 := by
  have h0 : (W.aluG op off w (BitVec.ofInt 64 0) (BitVec.ofInt 64 0)).2 = true := by rw [← W.aluG_is op off w n m]; exact h
  cases w with
  | true => rw [do_3 h0 (const_right n) (const_right m) rfl]; exact exact_const op off true n m h
  | false =>
    rw [do_4 h0 (const_right n) (const_right m) rfl]
    have h : (W.aluN op off n m).2 = true := h
    have hx : (W.aluN op off (W.xt n 32 false) (W.xt m 32 false)).2 = true := by
      have : (W.aluN op off (W.xt n 32 false) (W.xt m 32 false)).2 = (W.aluN op off n m).2 := W.alu32_is ..
      rw [this]; exact h
    have sn : (W.xt n 32 false).toNat < 4294967296 := by rw [W.xtn]; exact Nat.mod_lt _ (by decide)
    have sm : (W.xt m 32 false).toNat < 4294967296 := by rw [W.xtn]; exact Nat.mod_lt _ (by decide)
    show low4 (made op off false (low4 (const n)) (low4 (const m))) = const (W.aluN op off n m).1
    have e : made op off false (const (W.xt n 32 false)) (const (W.xt m 32 false)) = const (W.aluN op off (W.xt n 32 false) (W.xt m 32 false)).1 := exact_const op off false _ _ hx
    rw [low4_const, low4_const, e, low4_const, W.nar_fix sn sm hx, W.nar_xt]
theorem does_hi {op off : Int} {a b : Sc} (ha : R.inS a.s = true) (hb : R.inS b.s = true) (h : (does op off false a b).2 = true) : (does op off false a b).1.s.hi.toNat < 4294967296 := by
  have h2 := h
  rw [does_told op off false a b (BitVec.ofInt 64 0) (BitVec.ofInt 64 0)] at h2
  simp only [Bool.and_eq_true] at h2
  rw [do_4 h2.1 h2.2.1 h2.2.2 rfl]
  exact low4_hi (made_in (low4_in ha) (low4_in hb)) (made_right (low4_in ha) (low4_in hb) (low4_right ha h2.2.1) (low4_right hb h2.2.2))
end A
end Go.Proofs.YtddcaklgflfkeaaGreatDoor
