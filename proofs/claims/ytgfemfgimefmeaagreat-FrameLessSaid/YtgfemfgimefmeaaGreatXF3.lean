import Derived.Test.YtgfemfgimefmeaaGreatXF2
namespace Go.Proofs.YtgfemfgimefmeaaGreat
open Go.RowKit Go.Sx
set_option linter.unusedSimpArgs false
set_option linter.unusedVariables false
set_option linter.unnecessarySimpa false
set_option maxRecDepth 100000
set_option maxHeartbeats 4000000
namespace F
/-- Are these the cells of nothing? -/
def zeroA (a : Ab) : Bool := a.k == 0 && (a.n.t.v == BitVec.ofInt 64 0 && (a.n.t.m == BitVec.ofInt 64 0 && (a.n.s.lo == BitVec.ofInt 64 0 && (a.n.s.hi == BitVec.ofInt 64 0 && (a.n.s.sl == 0 && (a.n.s.sh == 0 && (a.of == 0 && (a.mp == 0 && (a.id == 0 && (a.rm == 0 && (a.nu == false && true)))))))))))
def okB (ids : Int) (s : Sl) : Bool := if s.w = true then (s.st == 0) && (!(s.a.k == 0) && okA ids s.a) else zeroA s.a
def right2 (f : Fr) : Bool := f.R.all (okA f.ids) && (f.S.all (okB f.ids) && decide (0 ≤ f.ids))
theorem zero_right {a : Ab} (h : zeroA a = true) : V.right a = true ∧ a.k = 0 ∧ a.id = 0 := by
  obtain ⟨k, ⟨⟨v, m⟩, ⟨lo, hi, sl, sh⟩⟩, of, mp, id, rm, nu⟩ := a
  simp only [zeroA, Bool.and_eq_true, beq_iff_eq] at h
  obtain ⟨rfl, rfl, rfl, rfl, rfl, rfl, rfl, rfl, rfl, rfl, rfl, rfl, -⟩ := h
  exact ⟨by kernel_rfl, rfl, rfl⟩
theorem right_zero {a : Ab} (h : V.right a = true) (k : a.k = 0) : zeroA a = true := by
  obtain ⟨k, ⟨⟨v, m⟩, ⟨lo, hi, sl, sh⟩⟩, of, mp, id, rm, nu⟩ := a
  subst k
  have h : (V.zeroB ⟨⟨v, m⟩, ⟨lo, hi, sl, sh⟩⟩ && (of == 0 && (mp == 0 && (id == 0 && (rm == 0 && !nu))))) = true := h
  simp only [V.zeroB, Bool.and_eq_true, Bool.not_eq_true', beq_iff_eq] at h
  simp [zeroA, h]
theorem okB_eq {ids : Int} (hi : 0 ≤ ids) (s : Sl) : okB ids s = (okS s && okA ids s.a) := by
  unfold okB okS
  cases hw : s.w
  · simp only [Bool.false_eq_true, if_false, Bool.false_and, Bool.or_false]
    by_cases hz : zeroA s.a = true
    · obtain ⟨h1, h2, h3⟩ := zero_right hz
      rw [hz, okA, h1, h2, h3, decide_eq_true hi]; rfl
    · rw [Bool.not_eq_true] at hz
      rw [hz]
      symm
      rw [Bool.and_eq_false_iff]
      by_cases hk : s.a.k = 0
      · right
        unfold okA
        by_cases hr : V.right s.a = true
        · rw [right_zero hr hk] at hz; cases hz
        · rw [Bool.not_eq_true] at hr; rw [hr]; rfl
      · left
        rw [beq_false_of_ne hk]; rfl
  · simp only [if_true, Bool.true_and]
    cases (s.a.k == 0) <;> cases hst : (s.st == 0) <;> simp [bne, hst]
theorem right2_eq (f : Fr) : right2 f = right f := by
  unfold right2 right
  by_cases hi : 0 ≤ f.ids
  · rw [decide_eq_true hi, Bool.and_true, Bool.and_true]
    have : f.S.all (okB f.ids) = (f.S.all okS && f.S.all fun s => okA f.ids s.a) := by
      induction f.S with
      | nil => rfl
      | cons s l ih =>
        simp only [List.all_cons, ih, okB_eq hi]
        cases okS s <;> cases okA f.ids s.a <;> simp
    rw [this]
    cases f.S.all okS <;> cases f.R.all (okA f.ids) <;> simp
  · rw [decide_eq_false hi]; simp
theorem okB_0 {ids : Int} {s : Sl} {b : Bool} (h : s.w = false) (k : zeroA s.a = b) : okB ids s = b := by unfold okB; rw [h, ← k]; rfl
theorem right2_1 {f : Fr} {j : Nat} (h : j < f.R.length) (k : okA f.ids (f.R.getD j eA.dft) = false) : right2 f = false := by unfold right2; rw [all_not' eA.dft h k]; rfl
theorem right2_2 {f : Fr} {j : Nat} (h : j < f.S.length) (k : okB f.ids (f.S.getD j eS.dft) = false) : right2 f = false := by unfold right2; rw [all_not' eS.dft h k, Bool.false_and, Bool.and_false]
theorem right2_3 {f : Fr} (h : f.R.all (okA f.ids) = true) (k : f.S.all (okB f.ids) = true) : right2 f = decide (0 ≤ f.ids) := by unfold right2; rw [h, k]; rfl
end F
attribute [local irreducible] V.right
theorem gright_run (f : Fr) (hf : f.wf) : run Tryz.prog ⟨[(76, k_uRight)], eqs, [], [], [], mixs, meqs⟩ 10000 [] 0 (bodyOf Tryz.f75) (initF Tryz.f75 [frv f]) [] (retK Tryz.prog Tryz.f75 fun x _ => eqv x (.bool (F.right2 f))) := by
  have hR := hf.r
  have hS := hf.s
  (conv => whnf)
  (repeat' (first | (refine step_t (by first | rfl | assumption) ?_; (conv => whnf)) | (refine step_f (by first | rfl | assumption) ?_; (conv => whnf)) | (refine step_nt (by assumption) ?_; (conv => whnf)) | (refine step_nf (by assumption) ?_; (conv => whnf)) | (refine step_n (fun hb => ?_) (fun hb => ?_) <;> (first | contradiction | (conv => whnf))) | (refine And.intro (fun hb => ?_) (fun hb => ?_) <;> (first | contradiction | (conv => whnf))) | (refine And.intro (a := (_ : Bool) = true) ?_ ?_; rotate_left 1; (conv => whnf))))
  refine .inr ⟨[], [1, 3], fun k vals M => ∃ i : Nat, i ≤ 11 ∧ k = 11 - i ∧ (f.R.take i).all (F.okA f.ids) = true ∧ vals = [.ptr 0 0, .int .i64 (i : Int)] ∧ M = [.mix 37 [.arr 11 12 (gOf eA f.R), .arr 64 14 (gOf eS f.S), .int .i64 f.ids]], ?_⟩
  conv => whnf
  refine And.intro ⟨11, [.mix 37 [.arr 11 12 (gOf eA f.R), .arr 64 14 (gOf eS f.S), .int .i64 f.ids]], mle_cons ble_refl mle_nil, rfl, rfl, 0, by omega, by omega, rfl, rfl, rfl⟩ ?_
  rintro k vals M1 ⟨i, hi, rfl, hallR, rfl, rfl⟩
  (conv => whnf)
  (repeat' (first | (refine step_t (by first | rfl | assumption) ?_; (conv => whnf)) | (refine step_f (by first | rfl | assumption) ?_; (conv => whnf)) | (refine step_nt (by assumption) ?_; (conv => whnf)) | (refine step_nf (by assumption) ?_; (conv => whnf)) | (refine step_n (fun hb => ?_) (fun hb => ?_) <;> (first | contradiction | (conv => whnf))) | (refine And.intro (fun hb => ?_) (fun hb => ?_) <;> (first | contradiction | (conv => whnf))) | (refine And.intro (a := (_ : Bool) = true) ?_ ?_; rotate_left 1; (conv => whnf))))
  all_goals try (simp only [Int.toNat_natCast] at *)
  all_goals try first
    | (refine decide_eq_true ?_; omega)
    | (have hlt : i < 11 := by
         have h9 : decide ((i : Int) < 11) = true := by assumption
         have := of_decide_eq_true h9
         omega
       have hlt' : i < f.R.length := by omega
       first
       | (refine decide_eq_true ?_; omega)
       | (rw [Bool.and_eq_true]; exact ⟨decide_eq_true (by omega), decide_eq_true (by omega)⟩)
       | exact F.right2_1 hlt' (F.okA_1 (by assumption))
       | exact F.right2_1 hlt' (F.okA_2 (by assumption))
       | exact (F.right2_1 hlt' (F.okA_1 (by assumption))).symm
       | exact (F.right2_1 hlt' (F.okA_2 (by assumption))).symm
       | exact inA_at hf.ri hlt'
       | (refine ⟨11 - (i + 1), [.mix 37 [.arr 11 12 (gOf eA f.R), .arr 64 14 (gOf eS f.S), .int .i64 f.ids]], [0], by omega, rfl, mle_cons ble_refl mle_nil, rfl, rfl, i + 1, by omega, rfl, ?_, ?_, rfl⟩
          · rw [all_take' eA.dft hlt', hallR, Bool.true_and]
            exact F.okA_3 (by assumption) (by assumption)
          · show [SV.ptr 0 0, .int .i64 (IntKind.i64.wrap ((i : Int) + 1))] = _
            rw [i64_of (n := (i : Int) + 1) (by omega) (by omega)]; rfl))
  have hi11 : i = 11 := by
    have h9 : decide ((i : Int) < 11) = false := by assumption
    have := of_decide_eq_false h9
    omega
  have hallA : f.R.all (F.okA f.ids) = true := by rw [hi11, ← hR, List.take_length] at hallR; exact hallR
  refine .inr ⟨[], [1, 4], fun k vals M => ∃ i : Nat, i ≤ 64 ∧ k = 64 - i ∧ (f.S.take i).all (F.okB f.ids) = true ∧ vals = [.ptr 0 0, .int .i64 (i : Int)] ∧ M = [.mix 37 [.arr 11 12 (gOf eA f.R), .arr 64 14 (gOf eS f.S), .int .i64 f.ids]], ?_⟩
  conv => whnf
  refine And.intro ⟨64, [.mix 37 [.arr 11 12 (gOf eA f.R), .arr 64 14 (gOf eS f.S), .int .i64 f.ids]], mle_cons ble_refl mle_nil, rfl, rfl, 0, by omega, by omega, rfl, rfl, rfl⟩ ?_
  clear hi hallR hi11
  rintro k vals M1 ⟨i, hi, rfl, hallR, rfl, rfl⟩
  (conv => whnf)
  (repeat' (first | (refine step_t (by first | rfl | assumption) ?_; (conv => whnf)) | (refine step_f (by first | rfl | assumption) ?_; (conv => whnf)) | (refine step_nt (by assumption) ?_; (conv => whnf)) | (refine step_nf (by assumption) ?_; (conv => whnf)) | (refine step_n (fun hb => ?_) (fun hb => ?_) <;> (first | contradiction | (conv => whnf))) | (refine And.intro (fun hb => ?_) (fun hb => ?_) <;> (first | contradiction | (conv => whnf))) | (refine And.intro (a := (_ : Bool) = true) ?_ ?_; rotate_left 1; (conv => whnf))))
  all_goals try (simp only [Int.toNat_natCast] at *)
  all_goals try first
    | (refine decide_eq_true ?_; omega)
    | (have hlt : i < 64 := by
         have h9 : decide ((i : Int) < 64) = true := by assumption
         have := of_decide_eq_true h9
         omega
       have hlt' : i < f.S.length := by omega
       first
       | (refine decide_eq_true ?_; omega)
       | (rw [Bool.and_eq_true]; exact ⟨decide_eq_true (by omega), decide_eq_true (by omega)⟩)
       | exact inS_at hf.si hlt'
       | (refine F.right2_2 hlt' ?_; first | exact F.okB_0 (by assumption) hb | (simp only [F.okB, F.zeroA, *, F.okA_1, ↓reduceIte, Bool.false_eq_true, Bool.not_true, Bool.not_false, Bool.and_false, Bool.false_and, Bool.true_and, Bool.and_true]; done) | (have h9 := F.okA_2 (by assumption); simp only [F.okB, *, ↓reduceIte, Bool.false_eq_true, Bool.and_false, Bool.false_and, Bool.true_and]; done); done)
       | (refine (F.right2_2 hlt' ?_).symm; first | exact F.okB_0 (by assumption) hb | (simp only [F.okB, F.zeroA, *, F.okA_1, ↓reduceIte, Bool.false_eq_true, Bool.not_true, Bool.not_false, Bool.and_false, Bool.false_and, Bool.true_and, Bool.and_true]; done) | (have h9 := F.okA_2 (by assumption); simp only [F.okB, *, ↓reduceIte, Bool.false_eq_true, Bool.and_false, Bool.false_and, Bool.true_and]; done); done)
       | (refine ⟨64 - (i + 1), [.mix 37 [.arr 11 12 (gOf eA f.R), .arr 64 14 (gOf eS f.S), .int .i64 f.ids]], [0], by omega, rfl, mle_cons ble_refl mle_nil, rfl, rfl, i + 1, by omega, rfl, ?_, ?_, rfl⟩
          · rw [all_take' eS.dft hlt', hallR, Bool.true_and]
            first | (first | exact F.okB_0 (by assumption) hb | (simp only [F.okB, F.zeroA, *, F.okA_1, ↓reduceIte, Bool.false_eq_true, Bool.not_true, Bool.not_false, Bool.and_false, Bool.false_and, Bool.true_and, Bool.and_true]; done) | (have h9 := F.okA_2 (by assumption); simp only [F.okB, *, ↓reduceIte, Bool.false_eq_true, Bool.and_false, Bool.false_and, Bool.true_and]; done); done) | (have h9 := F.okA_3 (by assumption) (by assumption); simp only [F.okB, *, ↓reduceIte, Bool.not_false, Bool.true_and]; done)
          · show [SV.ptr 0 0, .int .i64 (IntKind.i64.wrap ((i : Int) + 1))] = _
            rw [i64_of (n := (i : Int) + 1) (by omega) (by omega)]; rfl))
  all_goals (
    have hi64 : i = 64 := by
      have h9 : decide ((i : Int) < 64) = false := by assumption
      have := of_decide_eq_false h9
      omega
    have hallSA : f.S.all (F.okB f.ids) = true := by rw [hi64, ← hS, List.take_length] at hallR; exact hallR
    exact (F.right2_3 hallA hallSA).symm)
def k_gRight : List SV → List Blk → Res := fun args _ => match args with
  | [.mix [.arr 11 12 g, .arr 64 14 h, .int .i64 ids]] => .test (frB g h) (.ok (.bool (F.right (frD g h ids))) [])
  | _ => .fail
theorem k_gRight_ok : CtrOk Tryz.prog Gw 75 k_gRight := by
  refine ⟨fun _ _ => by kernel_rfl, fun args M => ?_⟩
  unfold k_gRight
  split
  · rename_i g h ids 
    intro ht
    have hfr : frB g h = true := ht
    exact ctr_fr (Γ := ⟨[(76, k_uRight)], eqs, [], [], [], mixs, meqs⟩) (sv := .bool (F.right (frD g h ids))) st_Gw ⟨(okCons k_uRight_ok okNil), eqs_ok, okNilB, okNilI, okNilP, mixs_ok, meqs_ok⟩ Tryz.func75 rfl mixed [] (by kernel_rfl) 10000 (rest := []) hfr rfl (F.right2_eq (frD g h ids) ▸ gright_run _ (frD_wf hfr))
  · trivial
end Go.Proofs.YtgfemfgimefmeaaGreat
namespace Go.Proofs.YtgfemfgimefmeaaGreat
open Go.RowKit Go.Sx
set_option linter.unusedSimpArgs false
set_option linter.unusedVariables false
set_option linter.unnecessarySimpa false
set_option maxRecDepth 100000
set_option maxHeartbeats 4000000
namespace F
/-- A slot of which one byte is touched. -/
def bslot (s : Sl) (j : Nat) : Sl := ⟨false, Go.bits .or .u8 (set s) (IntKind.u8.wrap (1 * 2 ^ min j 8)), V.zero⟩
/-- The slots, of which bytes are touched one by one. -/
def gt (S : List Sl) (p : Nat) : Nat → List Sl
  | 0 => S
  | k + 1 => (gt S p k).set ((p + k) / 8) (bslot ((gt S p k).getD ((p + k) / 8) noSl) ((p + k) % 8))
def bitOf (s : Sl) (j : Nat) : Bool := !(Go.bits .and .u8 ((set s).fdiv (2 ^ min j 8)) 1 == 0)
/-- Are the bytes set ones, looked at one by one? -/
def grdy (S : List Sl) (p : Nat) : Nat → Bool
  | 0 => true
  | k + 1 => grdy S p k && bitOf (S.getD ((p + k) / 8) noSl) ((p + k) % 8)
def gtouch (f : Fr) (off n : Int) : Fr := ⟨f.R, gt f.S (512 + off).toNat n.toNat, f.ids⟩
def gready (f : Fr) (off n : Int) : Bool := grdy f.S (512 + off).toNat n.toNat
theorem gt_len (S : List Sl) (p : Nat) : ∀ k, (gt S p k).length = S.length
  | 0 => rfl
  | k + 1 => by rw [gt, List.length_set, gt_len S p k]
end F
theorem tdiv8 (x : Nat) (h : x < 1024) : IntKind.i64.wrap ((x : Int).tdiv 8) = ((x / 8 : Nat) : Int) := by
  have h : (x : Int).tdiv 8 = ((x / 8 : Nat) : Int) := by rw [Int.tdiv_eq_ediv_of_nonneg (by omega)]; omega
  rw [h, i64_of (by omega) (by omega)]
theorem tmod8 (x : Nat) : (x : Int).tmod 8 = ((x % 8 : Nat) : Int) := by rw [Int.tmod_eq_emod_of_nonneg (by omega)]; omega
theorem ofInt8 (x : Nat) : (BitVec.ofInt 64 ((x % 8 : Nat) : Int)).toNat = x % 8 := by rw [BitVec.toNat_ofInt]; omega
namespace F
theorem grdy_le {S : List Sl} {p j : Nat} (h : grdy S p j = false) : ∀ k, j ≤ k → grdy S p k = false
  | 0, hk => by rw [Nat.le_zero.1 hk] at h; exact h
  | k + 1, hk => by
    rcases Nat.lt_or_ge j (k + 1) with h1 | h1
    · rw [grdy, grdy_le h k (by omega)]; rfl
    · rw [← Nat.le_antisymm hk h1]; exact h
theorem grdy_no {f : Fr} {off n : Int} {j : Nat} (hj : j < n.toNat) (h : (Go.bits .and .u8 ((set (f.S.getD (((512 + off).toNat + j) / 8) eS.dft)).fdiv (2 ^ min (((512 + off).toNat + j) % 8) 8)) 1 == 0) = true) : gready f off n = false := by
  refine grdy_le (j := j + 1) ?_ _ hj
  rw [grdy]
  have : bitOf (f.S.getD (((512 + off).toNat + j) / 8) noSl) (((512 + off).toNat + j) % 8) = false := by unfold bitOf; rw [noSl_eq, h]; rfl
  rw [this, Bool.and_false]
theorem grdy_go {S : List Sl} {p j : Nat} (h : grdy S p j = true) (k : (Go.bits .and .u8 ((set (S.getD ((p + j) / 8) eS.dft)).fdiv (2 ^ min ((p + j) % 8) 8)) 1 == 0) = false) : grdy S p (j + 1) = true := by
  rw [grdy, h]
  unfold bitOf
  rw [noSl_eq, k]; rfl
end F
theorem gtouch_run (f : Fr) (hf : f.wf) (off n : Int) (h0 : -512 ≤ off) (hn : 1 ≤ n) (hpn : off + n ≤ 0) : run Tryz.prog ⟨[(117, k_gset)], eqs, [], [], [], mixs, meqs⟩ 10000 [] 0 (bodyOf Tryz.f79) (initF Tryz.f79 [frv f, .int .i64 off, .int .i64 n]) [] (retK Tryz.prog Tryz.f79 fun x _ => eqv x (frv (F.gtouch f off n))) := by
  (conv => whnf)
  (repeat' (first | (refine step_t (by first | rfl | assumption) ?_; (conv => whnf)) | (refine step_f (by first | rfl | assumption) ?_; (conv => whnf)) | (refine step_nt (by assumption) ?_; (conv => whnf)) | (refine step_nf (by assumption) ?_; (conv => whnf)) | (refine step_n (fun hb => ?_) (fun hb => ?_) <;> (first | contradiction | (conv => whnf))) | (refine And.intro (fun hb => ?_) (fun hb => ?_) <;> (first | contradiction | (conv => whnf))) | (refine And.intro (a := (_ : Bool) = true) ?_ ?_; rotate_left 1; (conv => whnf))))
  refine .inr ⟨[], [1, 2, 3, 6, 7], fun k vals M => ∃ j : Nat, j ≤ n.toNat ∧ k = n.toNat - j ∧ vals = [.int .i64 off, .int .i64 n, .ptr 0 0, .ptr 1 0, .int .i64 (j : Int)] ∧ M = [.mix 37 [.arr 11 12 (gOf eA f.R), .arr 64 14 (gOf eS (F.gt f.S (512 + off).toNat j)), .int .i64 f.ids], .mix 37 [.arr 11 12 (fun _ => [.int .u8 0, .u64 (BitVec.ofInt 64 0), .u64 (BitVec.ofInt 64 0), .u64 (BitVec.ofInt 64 0), .u64 (BitVec.ofInt 64 0), .int .i64 0, .int .i64 0, .int .i64 0, .int .i64 0, .int .i64 0, .int .i64 0, .bool false]), .arr 64 14 (fun _ => .bool false :: .int .u8 0 :: [.int .u8 0, .u64 (BitVec.ofInt 64 0), .u64 (BitVec.ofInt 64 0), .u64 (BitVec.ofInt 64 0), .u64 (BitVec.ofInt 64 0), .int .i64 0, .int .i64 0, .int .i64 0, .int .i64 0, .int .i64 0, .int .i64 0, .bool false]), .int .i64 0]], ?_⟩
  conv => whnf
  refine And.intro ⟨n.toNat, [.mix 37 [.arr 11 12 (gOf eA f.R), .arr 64 14 (gOf eS (F.gt f.S (512 + off).toNat 0)), .int .i64 f.ids], .mix 37 [.arr 11 12 (fun _ => [.int .u8 0, .u64 (BitVec.ofInt 64 0), .u64 (BitVec.ofInt 64 0), .u64 (BitVec.ofInt 64 0), .u64 (BitVec.ofInt 64 0), .int .i64 0, .int .i64 0, .int .i64 0, .int .i64 0, .int .i64 0, .int .i64 0, .bool false]), .arr 64 14 (fun _ => .bool false :: .int .u8 0 :: [.int .u8 0, .u64 (BitVec.ofInt 64 0), .u64 (BitVec.ofInt 64 0), .u64 (BitVec.ofInt 64 0), .u64 (BitVec.ofInt 64 0), .int .i64 0, .int .i64 0, .int .i64 0, .int .i64 0, .int .i64 0, .int .i64 0, .bool false]), .int .i64 0]], mle_cons ble_refl (mle_cons ble_refl mle_nil), rfl, rfl, 0, by omega, by omega, rfl, rfl⟩ ?_
  rintro k vals M1 ⟨j, hj, rfl, rfl, rfl⟩
  have e1 : IntKind.i64.wrap (512 + off) = (((512 + off).toNat : Nat) : Int) := by rw [i64_of (by omega) (by omega)]; omega
  have e2 : IntKind.i64.wrap ((((512 + off).toNat : Nat) : Int) + (j : Int)) = (((512 + off).toNat + j : Nat) : Int) := by rw [i64_of (by omega) (by omega)]; omega
  have e3 := tdiv8 ((512 + off).toNat + j) (by omega)
  have e4 := tmod8 ((512 + off).toNat + j)
  have hlen : (F.gt f.S (512 + off).toNat j).length = 64 := by rw [F.gt_len]; exact hf.s
  have e5 := ofInt8 ((512 + off).toNat + j)
  (conv => whnf)
  (repeat' (first | (refine step_t (by first | rfl | assumption) ?_; (conv => whnf)) | (refine step_f (by first | rfl | assumption) ?_; (conv => whnf)) | (refine step_nt (by assumption) ?_; (conv => whnf)) | (refine step_nf (by assumption) ?_; (conv => whnf)) | (refine step_n (fun hb => ?_) (fun hb => ?_) <;> (first | contradiction | (conv => whnf))) | (refine And.intro (fun hb => ?_) (fun hb => ?_) <;> (first | contradiction | (conv => whnf))) | (refine And.intro (a := (_ : Bool) = true) ?_ ?_; rotate_left 1; (conv => whnf))))
  all_goals (try simp only [e1, e2, e3, e4, e5, Int.toNat_natCast] at *)
  all_goals try first
    | rfl
    | exact (rfl : ((8 : Int) != 0) = true)
    | (have hlt : j < n.toNat := by
         have h9 : decide ((j : Int) < n) = true := by assumption
         have := of_decide_eq_true h9
         omega
       first
       | exact decide_eq_true (by omega)
       | (rw [Bool.and_eq_true]; exact ⟨decide_eq_true (by omega), decide_eq_true (by omega)⟩)
       | (refine ⟨n.toNat - (j + 1), [.mix 37 [.arr 11 12 (gOf eA f.R), .arr 64 14 (gOf eS (F.gt f.S (512 + off).toNat (j + 1))), .int .i64 f.ids], .mix 37 [.arr 11 12 (fun _ => [.int .u8 0, .u64 (BitVec.ofInt 64 0), .u64 (BitVec.ofInt 64 0), .u64 (BitVec.ofInt 64 0), .u64 (BitVec.ofInt 64 0), .int .i64 0, .int .i64 0, .int .i64 0, .int .i64 0, .int .i64 0, .int .i64 0, .bool false]), .arr 64 14 (fun _ => .bool false :: .int .u8 0 :: [.int .u8 0, .u64 (BitVec.ofInt 64 0), .u64 (BitVec.ofInt 64 0), .u64 (BitVec.ofInt 64 0), .u64 (BitVec.ofInt 64 0), .int .i64 0, .int .i64 0, .int .i64 0, .int .i64 0, .int .i64 0, .int .i64 0, .bool false]), .int .i64 0]], [0, 1], by omega, rfl, mle_cons (ble_mix ⟨⟨rfl, rfl, fun _ _ => rfl⟩, ⟨rfl, rfl, fun k hk => ?_⟩, rfl, trivial⟩) (mle_cons ble_refl mle_nil), rfl, rfl, j + 1, by omega, rfl, ?_, rfl⟩
          · symm
            exact gSet_gOf eS (L := F.gt f.S (512 + off).toNat j) (i := ((512 + off).toNat + j) / 8) (a := F.bslot ((F.gt f.S (512 + off).toNat j).getD (((512 + off).toNat + j) / 8) eS.dft) (((512 + off).toNat + j) % 8)) (by rw [hlen]; omega) rfl rfl k (by rw [hlen]; exact hk)
          · show [SV.int .i64 off, .int .i64 n, .ptr 0 0, .ptr 1 0, .int .i64 (IntKind.i64.wrap ((j : Int) + 1))] = _
            rw [i64_of (n := (j : Int) + 1) (by omega) (by omega)]; rfl))
  have hjn : j = n.toNat := by
    have h9 : decide ((j : Int) < n) = false := by assumption
    have := of_decide_eq_false h9
    omega
  subst hjn
  exact eqv_fr (X := F.gtouch f off n) (fun _ _ => rfl) (fun _ _ => rfl) rfl
theorem gready_run (f : Fr) (hf : f.wf) (off n : Int) (h0 : -512 ≤ off) (hn : 1 ≤ n) (hpn : off + n ≤ 0) : run Tryz.prog ⟨[(117, k_gset)], eqs, [], [], [], mixs, meqs⟩ 10000 [] 0 (bodyOf Tryz.f80) (initF Tryz.f80 [frv f, .int .i64 off, .int .i64 n]) [] (retK Tryz.prog Tryz.f80 fun x _ => eqv x (.bool (F.gready f off n))) := by
  (conv => whnf)
  (repeat' (first | (refine step_t (by first | rfl | assumption) ?_; (conv => whnf)) | (refine step_f (by first | rfl | assumption) ?_; (conv => whnf)) | (refine step_nt (by assumption) ?_; (conv => whnf)) | (refine step_nf (by assumption) ?_; (conv => whnf)) | (refine step_n (fun hb => ?_) (fun hb => ?_) <;> (first | contradiction | (conv => whnf))) | (refine And.intro (fun hb => ?_) (fun hb => ?_) <;> (first | contradiction | (conv => whnf))) | (refine And.intro (a := (_ : Bool) = true) ?_ ?_; rotate_left 1; (conv => whnf))))
  refine .inr ⟨[], [1, 2, 3, 7], fun k vals M => ∃ j : Nat, j ≤ n.toNat ∧ k = n.toNat - j ∧ F.grdy f.S (512 + off).toNat j = true ∧ vals = [.int .i64 off, .int .i64 n, .ptr 0 0, .int .i64 (j : Int)] ∧ M = [.mix 37 [.arr 11 12 (gOf eA f.R), .arr 64 14 (gOf eS f.S), .int .i64 f.ids]], ?_⟩
  conv => whnf
  refine And.intro ⟨n.toNat, [.mix 37 [.arr 11 12 (gOf eA f.R), .arr 64 14 (gOf eS f.S), .int .i64 f.ids]], mle_cons ble_refl mle_nil, rfl, rfl, 0, by omega, by omega, rfl, rfl, rfl⟩ ?_
  rintro k vals M1 ⟨j, hj, rfl, hrd, rfl, rfl⟩
  have e1 : IntKind.i64.wrap (512 + off) = (((512 + off).toNat : Nat) : Int) := by rw [i64_of (by omega) (by omega)]; omega
  have e2 : IntKind.i64.wrap ((((512 + off).toNat : Nat) : Int) + (j : Int)) = (((512 + off).toNat + j : Nat) : Int) := by rw [i64_of (by omega) (by omega)]; omega
  have e3 := tdiv8 ((512 + off).toNat + j) (by omega)
  have e4 := tmod8 ((512 + off).toNat + j)
  have e5 := ofInt8 ((512 + off).toNat + j)
  (conv => whnf)
  (repeat' (first | (refine step_t (by first | rfl | assumption) ?_; (conv => whnf)) | (refine step_f (by first | rfl | assumption) ?_; (conv => whnf)) | (refine step_nt (by assumption) ?_; (conv => whnf)) | (refine step_nf (by assumption) ?_; (conv => whnf)) | (refine step_n (fun hb => ?_) (fun hb => ?_) <;> (first | contradiction | (conv => whnf))) | (refine And.intro (fun hb => ?_) (fun hb => ?_) <;> (first | contradiction | (conv => whnf))) | (refine And.intro (a := (_ : Bool) = true) ?_ ?_; rotate_left 1; (conv => whnf))))
  all_goals (try simp only [e1, e2, e3, e4, e5, Int.toNat_natCast] at *)
  all_goals try first
    | rfl
    | exact (rfl : ((8 : Int) != 0) = true)
    | (have hlt : j < n.toNat := by
         have h9 : decide ((j : Int) < n) = true := by assumption
         have := of_decide_eq_true h9
         omega
       first
       | exact decide_eq_true (by omega)
       | (rw [Bool.and_eq_true]; exact ⟨decide_eq_true (by omega), decide_eq_true (by omega)⟩)
       | exact (F.grdy_no hlt (by assumption)).symm
       | exact F.grdy_no hlt (by assumption)
       | (refine ⟨n.toNat - (j + 1), [.mix 37 [.arr 11 12 (gOf eA f.R), .arr 64 14 (gOf eS f.S), .int .i64 f.ids]], [0], by omega, rfl, mle_cons ble_refl mle_nil, rfl, rfl, j + 1, by omega, rfl, F.grdy_go hrd (by assumption), ?_, rfl⟩
          show [SV.int .i64 off, .int .i64 n, .ptr 0 0, .int .i64 (IntKind.i64.wrap ((j : Int) + 1))] = _
          rw [i64_of (n := (j : Int) + 1) (by omega) (by omega)]; rfl))
  have hjn : j = n.toNat := by
    have h9 : decide ((j : Int) < n) = false := by assumption
    have := of_decide_eq_false h9
    omega
  subst hjn
  first | exact hrd | exact hrd.symm
end Go.Proofs.YtgfemfgimefmeaaGreat
namespace Go.Proofs.YtgfemfgimefmeaaGreat
open Go.RowKit Go.Sx
set_option linter.unusedSimpArgs false
set_option linter.unusedVariables false
set_option linter.unnecessarySimpa false
set_option maxRecDepth 100000
set_option maxHeartbeats 4000000
theorem getD_set {α : Type} (l : List α) (i j : Nat) (a d : α) : (l.set i a).getD j d = if i = j ∧ j < l.length then a else l.getD j d := by
  simp only [List.getD_eq_getElem?_getD, List.getElem?_set]
  by_cases h : i = j
  · subst h
    by_cases h2 : i < l.length
    · simp [h2]
    · simp [h2]
  · simp [h]
theorem bit1 : ∀ j : Fin 8, ∀ i : Fin 8, (b8 (IntKind.u8.wrap (1 * 2 ^ min j.1 8))).getLsbD i.1 = decide (i.1 = j.1) := by decide
theorem b8_ext {a b : BitVec 8} (h : ∀ i, i < 8 → a.getLsbD i = b.getLsbD i) : a = b := BitVec.eq_of_getLsbD_eq (fun i hi => h i hi)
theorem bit_at (x : Int) (j : Nat) (hj : j < 8) : (!(Go.bits .and .u8 (x.fdiv (2 ^ min j 8)) 1 == 0)) = (b8 x).getLsbD j := by
  have hmin : min j 8 = j := by omega
  have hf : x.fdiv (2 ^ j) = x / 2 ^ j := Int.fdiv_eq_ediv_of_nonneg _ (Int.le_of_lt (Int.pow_pos (by decide)))
  rw [hmin, hf, and8]
  have h1 : (b8 x).getLsbD j = decide (((x % 256).toNat / 2 ^ j) % 2 = 1) := by
    unfold b8
    rw [BitVec.getLsbD, BitVec.toNat_ofInt, Nat.testBit_eq_decide_div_mod_eq]
    rfl
  have h2 : ub (b8 (x / 2 ^ j) &&& b8 1) = ((x / 2 ^ j) % 2 : Int) := by
    unfold ub
    rw [BitVec.toNat_and]
    have : (b8 1).toNat = 1 := rfl
    rw [this, Nat.and_one_is_mod]
    unfold b8
    rw [BitVec.toNat_ofInt]
    omega
  rw [h1, h2]
  have hj' : j = 0 ∨ j = 1 ∨ j = 2 ∨ j = 3 ∨ j = 4 ∨ j = 5 ∨ j = 6 ∨ j = 7 := by omega
  have key : ((x / 2 ^ j) % 2 : Int) = if ((x % 256).toNat / 2 ^ j) % 2 = 1 then 1 else 0 := by
    rcases hj' with rfl | rfl | rfl | rfl | rfl | rfl | rfl | rfl <;> simp only [Int.reducePow, Nat.reducePow] <;> split <;> omega
  rw [key]
  split <;> rename_i h <;> simp [h]
namespace F
theorem mk_bit (p n : Int) (q : Nat) : ∀ k, k ≤ 8 → ∀ i, i < 8 → (b8 (mk p n q k)).getLsbD i = (decide (i < k) && (decide (p ≤ 8 * (q : Int) + i) && decide (8 * (q : Int) + i < p + n)))
  | 0, _, i, _ => by
    have : b8 (mk p n q 0) = 0#8 := rfl
    rw [this]; simp
  | k + 1, hk, i, hi => by
    have ih := mk_bit p n q k (by omega) i hi
    have hb := bit1 ⟨k, by omega⟩ ⟨i, hi⟩
    simp only at hb
    rw [mk]
    by_cases h1 : p ≤ 8 * (q : Int) + k
    · by_cases h2 : 8 * (q : Int) + k < p + n
      · rw [decide_eq_true h1, decide_eq_true h2]
        simp only [Bool.and_self, if_true]
        rw [or8, b8_ub, BitVec.getLsbD_or, ih, hb]
        by_cases hik : i = k
        · subst hik
          simp [h1, h2]
        · have : (i < k + 1) ↔ i < k := by omega
          simp [hik, this]
      · rw [decide_eq_true h1, decide_eq_false h2]
        simp only [Bool.and_false, Bool.false_eq_true, if_false]
        rw [ih]
        by_cases hik : i = k
        · subst hik; simp [h2]
        · have : (i < k + 1) ↔ i < k := by omega
          simp [this]
    · rw [decide_eq_false h1]
      simp only [Bool.false_and, Bool.false_eq_true, if_false]
      rw [ih]
      by_cases hik : i = k
      · subst hik; simp [h1]
      · have : (i < k + 1) ↔ i < k := by omega
        simp [this]
theorem mk8_bit (p n : Int) (q i : Nat) (hi : i < 8) : (b8 (mk p n q 8)).getLsbD i = (decide (p ≤ 8 * (q : Int) + i) && decide (8 * (q : Int) + i < p + n)) := by
  rw [mk_bit p n q 8 (by omega) i hi, decide_eq_true hi, Bool.true_and]
theorem set_mk (v : Int) : set ⟨false, v, V.zero⟩ = v := rfl
theorem mk_next (p k : Nat) : b8 (mk (p : Int) ((k + 1 : Nat) : Int) ((p + k) / 8) 8) = b8 (mk (p : Int) (k : Int) ((p + k) / 8) 8) ||| b8 (IntKind.u8.wrap (1 * 2 ^ min ((p + k) % 8) 8)) := by
  apply b8_ext
  intro i hi
  have hb := bit1 ⟨(p + k) % 8, by omega⟩ ⟨i, hi⟩
  simp only at hb
  rw [BitVec.getLsbD_or, mk8_bit _ _ _ i hi, mk8_bit _ _ _ i hi, hb]
  rw [Bool.eq_iff_iff]
  simp only [Bool.and_eq_true, Bool.or_eq_true, decide_eq_true_eq]
  omega
theorem mk_same {p k q : Nat} (h : q ≠ (p + k) / 8) : b8 (mk (p : Int) ((k + 1 : Nat) : Int) q 8) = b8 (mk (p : Int) (k : Int) q 8) := by
  apply b8_ext
  intro i hi
  rw [mk8_bit _ _ _ i hi, mk8_bit _ _ _ i hi]
  rw [Bool.eq_iff_iff]
  simp only [Bool.and_eq_true, decide_eq_true_eq]
  omega
theorem mk_none {p k : Nat} (h : ¬ (p / 8 ≤ (p + k) / 8 ∧ 8 * ((p + k) / 8) < p + k ∧ 0 < k)) : b8 (mk (p : Int) (k : Int) ((p + k) / 8) 8) = 0#8 := by
  apply b8_ext
  intro i hi
  rw [mk8_bit _ _ _ i hi]
  have : (0#8 : BitVec 8).getLsbD i = false := by simp
  rw [this, Bool.and_eq_false_iff, decide_eq_false_iff_not, decide_eq_false_iff_not]
  omega
theorem gt_at (S : List Sl) (p : Nat) : ∀ k q, q < S.length → (gt S p k).getD q noSl = if p / 8 ≤ q ∧ 8 * q < p + k ∧ 0 < k then ⟨false, ub (b8 (set (S.getD q noSl)) ||| b8 (mk (p : Int) (k : Int) q 8)), V.zero⟩ else S.getD q noSl
  | 0, q, _ => by rw [if_neg (by omega)]; rfl
  | k + 1, q, hq => by
    have ih := gt_at S p k q hq
    rw [gt, getD_set]
    by_cases hc : (p + k) / 8 = q
    · rw [if_pos ⟨hc, by rw [gt_len]; exact hq⟩, if_pos (by omega), hc, ih]
      unfold bslot
      rw [or8]
      by_cases h2 : p / 8 ≤ q ∧ 8 * q < p + k ∧ 0 < k
      · rw [if_pos h2, set_mk, b8_ub]
        subst hc
        rw [mk_next, BitVec.or_assoc]
      · rw [if_neg h2]
        subst hc
        rw [mk_next, mk_none h2, BitVec.zero_or]
    · rw [if_neg (by rintro ⟨h, _⟩; exact hc h), ih]
      have hiff : (p / 8 ≤ q ∧ 8 * q < p + (k + 1) ∧ 0 < k + 1) ↔ (p / 8 ≤ q ∧ 8 * q < p + k ∧ 0 < k) := by omega
      by_cases h2 : p / 8 ≤ q ∧ 8 * q < p + k ∧ 0 < k
      · rw [if_pos h2, if_pos (hiff.2 h2), mk_same (fun e => hc e.symm)]
      · rw [if_neg h2, if_neg (fun e => h2 (hiff.1 e))]
theorem tch_at (S : List Sl) (p n : Int) (a : Nat) : ∀ j q, q < S.length → (tch S p n a j).getD q noSl = if a ≤ q ∧ q < a + j then slot (S.getD q noSl) (mk p n q 8) else S.getD q noSl
  | 0, q, _ => by rw [if_neg (by omega)]; rfl
  | j + 1, q, hq => by
    have ih := tch_at S p n a j q hq
    rw [tch, getD_set]
    by_cases hc : a + j = q
    · rw [if_pos ⟨hc, by rw [tch_len]; exact hq⟩, if_pos (by omega), hc, ih, if_neg (by omega)]
    · rw [if_neg (by rintro ⟨h, _⟩; exact hc h), ih]
      have hiff : (a ≤ q ∧ q < a + (j + 1)) ↔ (a ≤ q ∧ q < a + j) := by omega
      by_cases h2 : a ≤ q ∧ q < a + j
      · rw [if_pos h2, if_pos (hiff.2 h2)]
      · rw [if_neg h2, if_neg (fun e => h2 (hiff.1 e))]
theorem list_getD {l m : List Sl} (hl : l.length = m.length) (h : ∀ q, q < l.length → l.getD q noSl = m.getD q noSl) : l = m := by
  apply List.ext_getElem hl
  intro i h1 h2
  have := h i h1
  rwa [getD_at _ h1, getD_at _ h2] at this
theorem gt_eq (S : List Sl) (p k : Nat) (hk : 0 < k) : gt S p k = tch S (p : Int) (k : Int) (p / 8) (cnt (p : Int) (k : Int)) := by
  apply list_getD (by rw [gt_len, tch_len])
  intro q hq
  rw [gt_len] at hq
  rw [gt_at S p k q hq, tch_at S _ _ _ _ q hq]
  have hiff : (p / 8 ≤ q ∧ 8 * q < p + k ∧ 0 < k) ↔ (p / 8 ≤ q ∧ q < p / 8 + cnt (p : Int) (k : Int)) := by unfold cnt; omega
  by_cases h : p / 8 ≤ q ∧ 8 * q < p + k ∧ 0 < k
  · rw [if_pos h, if_pos (hiff.1 h)]
    unfold slot
    rw [or8]
  · rw [if_neg h, if_neg (fun e => h (hiff.2 e))]
theorem gtouch_eq (f : Fr) {off n : Int} (h0 : -512 ≤ off) (hn : 1 ≤ n) : gtouch f off n = touch f (512 + off) n := by
  have e : gt f.S (512 + off).toNat n.toNat = tch f.S (512 + off) n ((512 + off).toNat / 8) (cnt (512 + off) n) := by
    have := gt_eq f.S (512 + off).toNat n.toNat (by omega)
    rwa [Int.toNat_of_nonneg (by omega), Int.toNat_of_nonneg (by omega)] at this
  unfold gtouch touch
  rw [e]
theorem grdy_iff (S : List Sl) (p : Nat) : ∀ k, grdy S p k = true ↔ ∀ i, i < k → (b8 (set (S.getD ((p + i) / 8) noSl))).getLsbD ((p + i) % 8) = true
  | 0 => by simp [grdy]
  | k + 1 => by
    rw [grdy, Bool.and_eq_true, grdy_iff S p k]
    unfold bitOf
    rw [bit_at _ _ (by omega)]
    constructor
    · rintro ⟨h1, h2⟩ i hi
      rcases Nat.lt_or_ge i k with h | h
      · exact h1 i h
      · rw [show i = k by omega]; exact h2
    · intro h
      exact ⟨fun i hi => h i (by omega), h k (by omega)⟩
theorem ub_zero (v : BitVec 8) : (ub v == 0) = (v == 0#8) := by
  rw [Bool.eq_iff_iff, beq_iff_eq, beq_iff_eq]
  constructor
  · intro h
    apply BitVec.eq_of_toNat_eq
    unfold ub at h
    have : (0#8 : BitVec 8).toNat = 0 := rfl
    omega
  · rintro rfl; rfl
theorem rdy_iff (S : List Sl) (p n : Int) (a : Nat) : ∀ j, rdy S p n a j = true ↔ ∀ q, a ≤ q → q < a + j → ∀ i : Nat, i < 8 → p ≤ 8 * (q : Int) + i → 8 * (q : Int) + i < p + n → (b8 (set (S.getD q noSl))).getLsbD i = true
  | 0 => by
    constructor
    · intro _ q h1 h2; omega
    · intro _; rfl
  | j + 1 => by
    rw [rdy, Bool.and_eq_true, rdy_iff S p n a j, andNot8, ub_zero, beq_iff_eq]
    have key : (b8 (mk p n (a + j) 8) &&& ~~~b8 (set (S.getD (a + j) noSl)) = 0#8) ↔ ∀ i : Nat, i < 8 → p ≤ 8 * ((a + j : Nat) : Int) + i → 8 * ((a + j : Nat) : Int) + i < p + n → (b8 (set (S.getD (a + j) noSl))).getLsbD i = true := by
      constructor
      · intro h i hi h1 h2
        have h3 : (b8 (mk p n (a + j) 8) &&& ~~~b8 (set (S.getD (a + j) noSl))).getLsbD i = false := by rw [h]; simp
        rw [BitVec.getLsbD_and, mk8_bit _ _ _ i hi, decide_eq_true h1, decide_eq_true h2, BitVec.getLsbD_not, decide_eq_true hi] at h3
        simpa using h3
      · intro h
        apply b8_ext
        intro i hi
        have h0 : (0#8 : BitVec 8).getLsbD i = false := by simp
        rw [BitVec.getLsbD_and, mk8_bit _ _ _ i hi, BitVec.getLsbD_not, decide_eq_true hi, h0]
        by_cases h1 : p ≤ 8 * ((a + j : Nat) : Int) + i
        · by_cases h2 : 8 * ((a + j : Nat) : Int) + i < p + n
          · rw [h i hi h1 h2]; simp
          · rw [decide_eq_false h2]; simp
        · rw [decide_eq_false h1]; simp
    rw [key]
    constructor
    · rintro ⟨h1, h2⟩ q hq1 hq2
      rcases Nat.lt_or_ge q (a + j) with h | h
      · exact h1 q hq1 h
      · have : q = a + j := by omega
        subst this; exact h2
    · intro h
      exact ⟨fun q h1 h2 => h q h1 (by omega), h (a + j) (by omega) (by omega)⟩
theorem gready_eq (f : Fr) {off n : Int} (h0 : -512 ≤ off) (hn : 1 ≤ n) : gready f off n = ready f (512 + off) n := by
  unfold gready ready
  rw [Bool.eq_iff_iff, grdy_iff, rdy_iff]
  constructor
  · intro h q h1 h2 i hi h3 h4
    have := h (8 * q + i - (512 + off).toNat) (by omega)
    rwa [show ((512 + off).toNat + (8 * q + i - (512 + off).toNat)) / 8 = q by omega, show ((512 + off).toNat + (8 * q + i - (512 + off).toNat)) % 8 = i by omega] at this
  · intro h i hi
    refine h (((512 + off).toNat + i) / 8) (by omega) (by unfold cnt; omega) (((512 + off).toNat + i) % 8) (by omega) (by omega) (by omega)
end F
end Go.Proofs.YtgfemfgimefmeaaGreat
namespace Go.Proofs.YtgfemfgimefmeaaGreat
open Go.RowKit Go.Sx
set_option linter.unusedSimpArgs false
set_option linter.unusedVariables false
set_option linter.unnecessarySimpa false
set_option maxRecDepth 100000
set_option maxHeartbeats 4000000
namespace C
theorem low_right {x : Sc} (hx : R.inS x.s = true) (hr : right x = true) {n : Int} {sg : Bool} (hn : (W.extB (BitVec.ofInt 64 0) n sg).2 = true) : right (low x n sg).1 = true := by
  unfold low
  rw [if_pos hn, if_pos hr]
  split
  · exact hr
  · have hc : right (cut x n (tops n)) = true := by
      unfold cut
      split
      · exact hr
      · exact of_any (top_in _ _ _)
    unfold tail
    split
    · split
      · exact hc
      · split
        · exact const_right _
        · exact of_any (wraps_in _ _ _ _)
    · exact hc
end C
namespace F
theorem word_ext {n : Int} {sg : Bool} (h : word n = true) : (W.extB (BitVec.ofInt 64 0) n sg).2 = true := by
  simp only [word, Bool.or_eq_true, beq_iff_eq] at h
  rcases h with rfl | rfl | rfl | rfl <;> rfl
theorem number_u {n : Int} {sg : Bool} (h : word n = true) : V.number (C.low C.unknown n sg).1 = ⟨1, (C.low C.unknown n sg).1, 0, 0, 0, 0, false⟩ := by
  unfold V.number
  rw [if_pos (C.low_right rfl C.unknown_right (word_ext h))]
theorem number_c {n : Int} {sg : Bool} (h : word n = true) (v : BitVec 64) : V.number (C.low (C.const v) n sg).1 = ⟨1, (C.low (C.const v) n sg).1, 0, 0, 0, 0, false⟩ := by
  unfold V.number
  rw [if_pos (C.low_right (C.const_S v) (C.const_right v) (word_ext h))]
theorem rem_same {off : Int} (h0 : -512 ≤ off) : ((512 + off).tmod 8 == 0) = (off.tmod 8 == 0) := by
  rw [Bool.eq_iff_iff, beq_iff_eq, beq_iff_eq]
  rw [Int.tmod_eq_emod_of_nonneg (by omega)]
  constructor
  · intro h
    obtain ⟨k, hk⟩ := Int.dvd_of_emod_eq_zero h
    exact Int.tmod_eq_zero_of_dvd ⟨k - 64, by omega⟩
  · intro h
    obtain ⟨k, hk⟩ := Int.dvd_of_tmod_eq_zero h
    omega
end F
theorem two_num {k : Ab × Int} {N : Sc} {c : Int} (h : k = (⟨1, N, 0, 0, 0, 0, false⟩, c)) : eqv2 (.agg [.int .u8 1, .u64 N.t.v, .u64 N.t.m, .u64 N.s.lo, .u64 N.s.hi, .int .i64 N.s.sl, .int .i64 N.s.sh, .int .i64 0, .int .i64 0, .int .i64 0, .int .i64 0, .ff]) (abv k.1) ∧ eqvL2 [.int .i64 c] [.int .i64 k.2] := by
  subst h
  exact ⟨by simp [eqv2, eqvL1, eqv1], by simp [eqvL2, eqv2, eqv1]⟩
theorem sh8 {r : Int} (h0 : 0 ≤ r) (h1 : r < 8) : (BitVec.ofInt 64 (IntKind.i64.wrap (8 * r))).toNat = (IntKind.i64.wrap (8 * r)).toNat := by
  rw [i64_of (by omega) (by omega), BitVec.toNat_ofInt]; omega
theorem gft_of {off n : Int} (h : (decide (-512 ≤ off) && (decide (1 ≤ n) && decide (off + n ≤ 0))) = true) : -512 ≤ off ∧ 1 ≤ n ∧ off + n ≤ 0 := by
  simp only [Bool.and_eq_true, decide_eq_true_eq] at h; exact h
def k_gtouch : List SV → List Blk → Res := fun args _ => match args with
  | [.mix [.arr 11 12 g, .arr 64 14 h, .int .i64 ids], .int .i64 off, .int .i64 n] => .test ((frB g h && (decide (-512 ≤ off) && (decide (1 ≤ n) && decide (off + n ≤ 0))))) (.ok (frv (F.touch (frD g h ids) (512 + off) n)) [])
  | _ => .fail
theorem k_gtouch_ok : CtrOk Tryz.prog Gw 79 k_gtouch := by
  refine ⟨fun _ _ => by kernel_rfl, fun args M => ?_⟩
  unfold k_gtouch
  split
  · rename_i g h ids off n
    intro ht
    rw [Bool.and_eq_true] at ht
    obtain ⟨hfr, ht⟩ := ht
    exact ctr_fr (Γ := ⟨[(117, k_gset)], eqs, [], [], [], mixs, meqs⟩) (sv := frv (F.touch (frD g h ids) (512 + off) n)) st_Gw ⟨(okCons k_gset_ok okNil), eqs_ok, okNilB, okNilI, okNilP, mixs_ok, meqs_ok⟩ Tryz.func79 rfl mixed [] (by kernel_rfl) 10000 (rest := [.int .i64 off, .int .i64 n]) hfr rfl (F.gtouch_eq (frD g h ids) (gft_of ht).1 (gft_of ht).2.1 ▸ gtouch_run _ (frD_wf hfr) off n (gft_of ht).1 (gft_of ht).2.1 (gft_of ht).2.2)
  · trivial
def k_gready : List SV → List Blk → Res := fun args _ => match args with
  | [.mix [.arr 11 12 g, .arr 64 14 h, .int .i64 ids], .int .i64 off, .int .i64 n] => .test ((frB g h && (decide (-512 ≤ off) && (decide (1 ≤ n) && decide (off + n ≤ 0))))) (.ok (.bool (F.ready (frD g h ids) (512 + off) n)) [])
  | _ => .fail
theorem k_gready_ok : CtrOk Tryz.prog Gw 80 k_gready := by
  refine ⟨fun _ _ => by kernel_rfl, fun args M => ?_⟩
  unfold k_gready
  split
  · rename_i g h ids off n
    intro ht
    rw [Bool.and_eq_true] at ht
    obtain ⟨hfr, ht⟩ := ht
    exact ctr_fr (Γ := ⟨[(117, k_gset)], eqs, [], [], [], mixs, meqs⟩) (sv := .bool (F.ready (frD g h ids) (512 + off) n)) st_Gw ⟨(okCons k_gset_ok okNil), eqs_ok, okNilB, okNilI, okNilP, mixs_ok, meqs_ok⟩ Tryz.func80 rfl mixed [] (by kernel_rfl) 10000 (rest := [.int .i64 off, .int .i64 n]) hfr rfl (F.gready_eq (frD g h ids) (gft_of ht).1 (gft_of ht).2.1 ▸ gready_run _ (frD_wf hfr) off n (gft_of ht).1 (gft_of ht).2.1 (gft_of ht).2.2)
  · trivial
theorem gstore_run (f : Fr) (hf : f.wf) (off n : Int) (ak : Int) (av am alo ahi : BitVec 64) (asl ash aof amp aid arm : Int) (anu : Bool) (ha : R.inS ⟨alo, ahi, asl, ash⟩ = true) : run Tryz.prog ⟨[(75, k_gRight), (76, k_uRight), (77, k_gpower), (78, k_gwithin), (79, k_gtouch)], eqs, [], [], [], mixs, meqs⟩ 10000 [] 0 (bodyOf Tryz.f26) (initF Tryz.f26 [frv f, .int .i64 off, .int .i64 n, .agg [.int .u8 ak, .u64 av, .u64 am, .u64 alo, .u64 ahi, .int .i64 asl, .int .i64 ash, .int .i64 aof, .int .i64 amp, .int .i64 aid, .int .i64 arm, .bool anu]]) [] (retK Tryz.prog Tryz.f26 fun x _ => eqv x (.tup [frv (F.store f off n (⟨ak, (⟨⟨av, am⟩, ⟨alo, ahi, asl, ash⟩⟩ : Sc), aof, amp, aid, arm, anu⟩ : Ab)).1, .int .i64 (F.store f off n (⟨ak, (⟨⟨av, am⟩, ⟨alo, ahi, asl, ash⟩⟩ : Sc), aof, amp, aid, arm, anu⟩ : Ab)).2])) := by
  (conv => whnf)
  (repeat' (first | (refine step_t (by first | rfl | assumption) ?_; (conv => whnf)) | (refine step_f (by first | rfl | assumption) ?_; (conv => whnf)) | (refine step_nt (by assumption) ?_; (conv => whnf)) | (refine step_nf (by assumption) ?_; (conv => whnf)) | (refine step_n (fun hb => ?_) (fun hb => ?_) <;> (first | contradiction | (conv => whnf))) | (refine And.intro (fun hb => ?_) (fun hb => ?_) <;> (first | contradiction | (conv => whnf))) | (refine And.intro (a := (_ : Bool) = true) ?_ ?_; rotate_left 1; (conv => whnf))))
  all_goals (try simp only [frD_of hf, F.inside_eq] at *)
  all_goals try first
    | exact frB_of hf
    | exact ha
    | exact (rfl : ((8 : Int) != 0) = true)
    | rfl
    | (refine two_no ?_; simp only [F.store, *, ↓reduceIte, Bool.true_eq_false, Bool.false_eq_true]; done)
  all_goals (
    have hw := F.word_in (n := n) (by assumption)
    obtain ⟨q1, q2, q3⟩ := F.within_in (off := off) (n := n) (by assumption) hw.1
    have e1 : IntKind.i64.wrap (512 + off) = 512 + off := i64_of (by omega) (by omega)
    have e8 := quo8 (p := 512 + off) (by omega) (by omega)
    have e9 := F.rem_same q2)
  all_goals (try simp only [e1, e8, Int.toNat_natCast] at *)
  all_goals first
    | exact decide_eq_true (by omega)
    | (rw [Bool.and_eq_true]; exact ⟨decide_eq_true (by omega), decide_eq_true (by omega)⟩)
    | (rw [frB_of hf]
       simp only [Bool.true_and, Bool.and_eq_true, decide_eq_true_eq]
       omega)
    | (clear q2 q3 hw
       first
       | (refine two_no ?_; simp only [F.store, *, ↓reduceIte, Bool.true_eq_false, Bool.false_eq_true]; done)
       | (refine two_same (X := F.touch f (512 + off) n) ?_; simp only [F.store, *, ↓reduceIte, Bool.true_eq_false, Bool.false_eq_true]; done))
    | (refine two_fr (X := ⟨f.R, f.S.set ((512 + off).toNat / 8) ⟨true, 0, (⟨ak, (⟨⟨av, am⟩, ⟨alo, ahi, asl, ash⟩⟩ : Sc), aof, amp, aid, arm, anu⟩ : Ab)⟩, f.ids⟩) (by clear q2 q3 hw; simp only [F.store, *, ↓reduceIte, Bool.true_eq_false, Bool.false_eq_true]) (eqv_fr (fun _ _ => rfl) (fun i hi => ?_) rfl)
       exact (gSet_gOf eS (L := f.S) (i := (512 + off).toNat / 8) (a := ⟨true, 0, (⟨ak, (⟨⟨av, am⟩, ⟨alo, ahi, asl, ash⟩⟩ : Sc), aof, amp, aid, arm, anu⟩ : Ab)⟩) (by rw [hf.s]; omega) rfl rfl i (by rw [hf.s]; exact hi)).symm)
def k_gStore : List SV → List Blk → Res := fun args _ => match args with
  | [.mix [.arr 11 12 g, .arr 64 14 h, .int .i64 ids], .int .i64 off, .int .i64 n, .agg [.int .u8 ak, .u64 av, .u64 am, .u64 alo, .u64 ahi, .int .i64 asl, .int .i64 ash, .int .i64 aof, .int .i64 amp, .int .i64 aid, .int .i64 arm, .bool anu]] => .test ((frB g h && (R.inS ⟨alo, ahi, asl, ash⟩))) (.ok (.tup [frv (F.store (frD g h ids) off n (⟨ak, (⟨⟨av, am⟩, ⟨alo, ahi, asl, ash⟩⟩ : Sc), aof, amp, aid, arm, anu⟩ : Ab)).1, .int .i64 (F.store (frD g h ids) off n (⟨ak, (⟨⟨av, am⟩, ⟨alo, ahi, asl, ash⟩⟩ : Sc), aof, amp, aid, arm, anu⟩ : Ab)).2]) [])
  | _ => .fail
theorem k_gStore_ok : CtrOk Tryz.prog Gw 26 k_gStore := by
  refine ⟨fun _ _ => by kernel_rfl, fun args M => ?_⟩
  unfold k_gStore
  split
  · rename_i g h ids off n ak av am alo ahi asl ash aof amp aid arm anu
    intro ht
    rw [Bool.and_eq_true] at ht
    obtain ⟨hfr, ht⟩ := ht
    exact ctr_fr (Γ := ⟨[(75, k_gRight), (76, k_uRight), (77, k_gpower), (78, k_gwithin), (79, k_gtouch)], eqs, [], [], [], mixs, meqs⟩) (sv := .tup [frv (F.store (frD g h ids) off n (⟨ak, (⟨⟨av, am⟩, ⟨alo, ahi, asl, ash⟩⟩ : Sc), aof, amp, aid, arm, anu⟩ : Ab)).1, .int .i64 (F.store (frD g h ids) off n (⟨ak, (⟨⟨av, am⟩, ⟨alo, ahi, asl, ash⟩⟩ : Sc), aof, amp, aid, arm, anu⟩ : Ab)).2]) st_Gw ⟨(okCons k_gRight_ok (okCons k_uRight_ok (okCons k_gpower_ok (okCons k_gwithin_ok (okCons k_gtouch_ok okNil))))), eqs_ok, okNilB, okNilI, okNilP, mixs_ok, meqs_ok⟩ Tryz.func26 rfl mixed [] (by kernel_rfl) 10000 (rest := [.int .i64 off, .int .i64 n, .agg [.int .u8 ak, .u64 av, .u64 am, .u64 alo, .u64 ahi, .int .i64 asl, .int .i64 ash, .int .i64 aof, .int .i64 amp, .int .i64 aid, .int .i64 arm, .bool anu]]) hfr rfl (gstore_run _ (frD_wf hfr) off n ak av am alo ahi asl ash aof amp aid arm anu ht)
  · trivial
end Go.Proofs.YtgfemfgimefmeaaGreat
