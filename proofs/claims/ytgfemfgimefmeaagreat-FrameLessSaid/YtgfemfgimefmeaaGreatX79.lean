import Derived.Test.YtgfemfgimefmeaaGreatXF3
namespace Go.Proofs.YtgfemfgimefmeaaGreat
open Go.RowKit Go.Sx
set_option linter.unusedSimpArgs false
set_option linter.unusedVariables false
set_option linter.unnecessarySimpa false
set_option maxRecDepth 100000
set_option maxHeartbeats 4000000
/-! ### The lowest bytes of a number, and of one that is not known. -/
namespace C
/-- A right scalar that is small. -/
theorem small {x : Sc} (hx : R.inS x.s = true) (hr : right x = true) {m : BitVec 64} (hm : m.toNat < 9223372036854775808) (h : x.s.hi.toNat ≤ m.toNat) : T.leq x.t (T.range (BitVec.ofInt 64 0) m) = true ∧ 0 ≤ x.s.sl ∧ x.s.sh ≤ (x.s.hi.toNat : Int) := by
  obtain ⟨g, hf⟩ := (right_iff hx).1 hr
  obtain ⟨_, ⟨k2, e2⟩, ⟨k3, e3⟩, _⟩ := fix_parts g hf
  have hp := g.p
  have ht : top x = true := by
    unfold top
    rw [beq_iff_eq]
    apply BitVec.eq_of_toNat_eq
    simp only [BitVec.toNat_ushiftRight, Nat.shiftRight_eq_div_pow]
    omega
  rw [r3_t ht] at e3
  have hsl : S.maxI x.s.sl (sv x.s.lo) = x.s.sl := congrArg (fun z : Sc => z.s.sl) e3
  have hsh : S.minI x.s.sh (sv x.s.hi) = x.s.sh := congrArg (fun z : Sc => z.s.sh) e3
  rw [S.maxI_eq] at hsl
  rw [S.minI_eq] at hsh
  have v1 := sv_small (x := x.s.lo) (by omega)
  have v2 := sv_small (x := x.s.hi) (by omega)
  refine ⟨?_, by omega, by omega⟩
  have hrr : T.right (T.range x.s.lo x.s.hi) = true := T.range_right (by rw [BitVec.lt_def]; omega)
  have hl := (T.meet_leq g.t hrr k2).2
  have et : (T.meet x.t (T.range x.s.lo x.s.hi)).1 = x.t := congrArg (fun z : Sc => z.t) e2
  rw [et] at hl
  exact T.leq_trans hl (T.range_mono (Nat.zero_le _) hp h)
/-- All that is no more than m. -/
def upm (m : BitVec 64) : Sc := ⟨T.range (BitVec.ofInt 64 0) m, ⟨BitVec.ofInt 64 0, m, 0, (m.toNat : Int)⟩⟩
theorem small_leq {x : Sc} (hx : R.inS x.s = true) (hr : right x = true) {m : BitVec 64} (hm : m.toNat < 9223372036854775808) (h : x.s.hi.toNat ≤ m.toNat) (hU : right (upm m) = true) : leq x (upm m) = true := by
  obtain ⟨h1, h2, h3⟩ := small hx hr hm h
  refine sub_leq hx ?_ hr hU ⟨Nat.zero_le _, h, h2, ?_, h1⟩
  · exact S.inS_iff.2 ⟨⟨by show (-9223372036854775808 : Int) ≤ 0; decide, by show (0 : Int) ≤ 9223372036854775807; decide⟩, ⟨by show (-9223372036854775808 : Int) ≤ (m.toNat : Int); omega, by show (m.toNat : Int) ≤ 9223372036854775807; omega⟩⟩
  · show x.s.sh ≤ (m.toNat : Int); omega
theorem cut_right {x : Sc} (hr : right x = true) (n : Int) (p : BitVec 64) : right (cut x n p) = true := by
  unfold cut
  split
  · exact hr
  · exact of_any (top_in _ _ _)
theorem cut_le {x : Sc} {n : Int} {p m : BitVec 64} (hp : p.toNat = m.toNat + 1) : (cut x n p).s.hi.toNat ≤ m.toNat := by
  unfold cut
  split
  · rename_i hc
    have hc := of_decide_eq_true hc
    rw [BitVec.lt_def] at hc
    omega
  · have hpp : (p - BitVec.ofInt 64 1).toNat = m.toNat := by
      have := p.isLt
      rw [BitVec.toNat_sub, show (BitVec.ofInt 64 1).toNat = 1 from rfl]; omega
    cases h : (of (T.low x.t n).1 ⟨BitVec.ofInt 64 0, p - BitVec.ofInt 64 1, 0, sv (p - BitVec.ofInt 64 1)⟩).2 with
    | true =>
      have k : (of (T.low x.t n).1 ⟨BitVec.ofInt 64 0, p - BitVec.ofInt 64 1, 0, sv (p - BitVec.ofInt 64 1)⟩).1.s.hi.toNat ≤ (p - BitVec.ofInt 64 1).toNat := (of_ok (topI p) h).2.1.hi
      omega
    | false => rw [of_zero h]; exact Nat.zero_le _
/-- All that lies about nought. -/
def about (q : Int) : Sc := ⟨⟨BitVec.ofInt 64 0, BitVec.ofInt 64 18446744073709551615⟩, ⟨BitVec.ofInt 64 0, BitVec.ofInt 64 18446744073709551615, -q, q - 1⟩⟩
theorem about_leq {x : Sc} (hx : R.inS x.s = true) (hr : right x = true) {q : Int} (h0 : 1 ≤ q) (hq : q ≤ 9223372036854775808) (h1 : -q ≤ x.s.sl) (h2 : x.s.sh ≤ q - 1) (hU : right (about q) = true) : leq x (about q) = true := by
  refine sub_leq hx ?_ hr hU ⟨Nat.zero_le _, ?_, h1, h2, (leq_sub (leq_unknown hx hr)).t⟩
  · exact S.inS_iff.2 ⟨⟨by show (-9223372036854775808 : Int) ≤ -q; omega, by show -q ≤ (9223372036854775807 : Int); omega⟩, ⟨by show (-9223372036854775808 : Int) ≤ q - 1; omega, by show q - 1 ≤ (9223372036854775807 : Int); omega⟩⟩
  · have := x.s.hi.isLt
    show x.s.hi.toNat ≤ (BitVec.ofInt 64 18446744073709551615).toNat
    rw [show (BitVec.ofInt 64 18446744073709551615).toNat = 18446744073709551615 from rfl]; omega
theorem xt_sv (a : BitVec 64) {k : Nat} (h0 : 0 < k) (hk : k ≤ 32) {q : Int} (hq : q = 2 ^ (k - 1)) : -q ≤ sv (W.xt a k true) ∧ sv (W.xt a k true) ≤ q - 1 := by
  have h2 : (2 : Nat) ^ k = 2 * 2 ^ (k - 1) := by rw [← Nat.pow_succ']; congr 1; omega
  have hle : (2 : Nat) ^ (k - 1) ≤ 2 ^ 31 := Nat.pow_le_pow_right (by omega) (by omega)
  have hpos : 0 < (2 : Nat) ^ (k - 1) := Nat.pow_pos (by omega)
  have hlt : (W.xt a k false).toNat < 2 ^ k := by rw [xt_f a k hk]; exact Nat.mod_lt _ (by omega)
  have hq' : q = ((2 ^ (k - 1) : Nat) : Int) := by rw [hq]; simp
  have hx := xt_t a h0 hk
  rw [h2] at hx hlt
  generalize (2 : Nat) ^ (k - 1) = z at *
  rcases hx with ⟨h, e⟩ | ⟨h, e⟩
  · rw [e, sv_small (by omega)]; omega
  · rw [sv_big (by omega)]; omega
theorem low_leq_u {x : Sc} (hx : R.inS x.s = true) (hr : right x = true) {n : Int} {m : BitVec 64} (hn : (W.extB (BitVec.ofInt 64 0) n false).2 = true) (h8 : (n == 8) = false) (hp : (tops n).toNat = m.toNat + 1) (hm : m.toNat < 9223372036854775808) (hU : (low unknown n false).1 = upm m) (rU : right (upm m) = true) : leq (low x n false).1 (low unknown n false).1 = true := by
  rw [low_u hn hr h8 rfl, hU]
  exact small_leq (cut_in hx _ _) (cut_right hr _ _) hm (cut_le hp) rU
theorem low_leq_t {x : Sc} (hx : R.inS x.s = true) (hr : right x = true) {n : Int} {k : Nat} {q : Int} (hn : (W.extB (BitVec.ofInt 64 0) n true).2 = true) (h8 : (n == 8) = false) (h0 : 0 < k) (hk : k ≤ 32) (hq : q = 2 ^ (k - 1)) (hqq : (tops n / BitVec.ofInt 64 2).toNat = 2 ^ (k - 1)) (he : ∀ a, (W.extB a n true).1 = W.xt a k true) (hU : (low unknown n true).1 = about q) (hW : (wide (tops n)).1 = about q) (rU : right (about q) = true) : leq (low x n true).1 (low unknown n true).1 = true := by
  have hle : (2 : Nat) ^ (k - 1) ≤ 2 ^ 31 := Nat.pow_le_pow_right (by omega) (by omega)
  have hpos : 0 < (2 : Nat) ^ (k - 1) := Nat.pow_pos (by omega)
  have hq' : q = ((2 ^ (k - 1) : Nat) : Int) := by rw [hq]; simp
  have g1 : 1 ≤ q := by rw [hq']; omega
  have g2 : q ≤ 9223372036854775808 := by rw [hq']; omega
  rw [hU]
  cases hv : decide ((cut x n (tops n)).s.hi < tops n / BitVec.ofInt 64 2) with
  | true =>
    rw [low_v hn hr h8 rfl hv]
    have hc := of_decide_eq_true hv
    rw [BitVec.lt_def, hqq] at hc
    obtain ⟨_, s2, s3⟩ := small (m := (cut x n (tops n)).s.hi) (cut_in hx n (tops n)) (cut_right hr n (tops n)) (by omega) (Nat.le_refl _)
    exact about_leq (cut_in hx n (tops n)) (cut_right hr n (tops n)) g1 g2 (by omega) (by omega) rU
  | false =>
    cases ho : (one (cut x n (tops n))).2 with
    | true =>
      rw [low_one hn hr h8 rfl hv ho, he]
      obtain ⟨s1, s2⟩ := xt_sv (one (cut x n (tops n))).1 h0 hk hq
      exact about_leq (S.inS_iff.2 ⟨S.sv_in _, S.sv_in _⟩) (const_right _) g1 g2 s1 s2 rU
    | false =>
      rw [low_w hn hr h8 rfl hv ho, hW]
      exact leq_refl2 (S.inS_iff.2 ⟨⟨by show (-9223372036854775808 : Int) ≤ -q; omega, by show -q ≤ (9223372036854775807 : Int); omega⟩, ⟨by show (-9223372036854775808 : Int) ≤ q - 1; omega, by show q - 1 ≤ (9223372036854775807 : Int); omega⟩⟩) rU
/-- What is left of a number, of so many bytes, is below what is left of one that is not known. -/
theorem low_leq {x : Sc} (hx : R.inS x.s = true) (hr : right x = true) {n : Int} (hn : n = 1 ∨ n = 2 ∨ n = 4 ∨ n = 8) (sg : Bool) : leq (low x n sg).1 (low unknown n sg).1 = true := by
  rcases hn with rfl | rfl | rfl | rfl
  · cases sg
    · exact low_leq_u (m := 255#64) hx hr rfl rfl (by kernel_rfl) (by decide) (by kernel_rfl) (by kernel_rfl)
    · exact low_leq_t (k := 8) (q := 128) hx hr rfl rfl (by decide) (by decide) (by decide) (by kernel_rfl) (fun _ => rfl) (by kernel_rfl) (by kernel_rfl) (by kernel_rfl)
  · cases sg
    · exact low_leq_u (m := 65535#64) hx hr rfl rfl (by kernel_rfl) (by decide) (by kernel_rfl) (by kernel_rfl)
    · exact low_leq_t (k := 16) (q := 32768) hx hr rfl rfl (by decide) (by decide) (by decide) (by kernel_rfl) (fun _ => rfl) (by kernel_rfl) (by kernel_rfl) (by kernel_rfl)
  · cases sg
    · exact low_leq_u (m := 4294967295#64) hx hr rfl rfl (by kernel_rfl) (by decide) (by kernel_rfl) (by kernel_rfl)
    · exact low_leq_t (k := 32) (q := 2147483648) hx hr rfl rfl (by decide) (by decide) (by decide) (by kernel_rfl) (fun _ => rfl) (by kernel_rfl) (by kernel_rfl) (by kernel_rfl)
  · have e1 : (low x 8 sg).1 = x := by rw [low_8 (by cases sg <;> rfl) hr rfl]
    have e2 : (low unknown 8 sg).1 = unknown := by rw [low_8 (by cases sg <;> rfl) unknown_right rfl]
    rw [e1, e2]
    exact leq_unknown hx hr
theorem low_told {x : Sc} (hr : right x = true) {n : Int} (hn : n = 1 ∨ n = 2 ∨ n = 4 ∨ n = 8) (sg : Bool) : (low x n sg).2 = true := by
  have he : (W.extB (BitVec.ofInt 64 0) n sg).2 = true := n_ext hn
  cases h8 : (n == 8) with
  | true => rw [low_8 he hr h8]
  | false =>
    cases sg with
    | false => rw [low_u he hr h8 rfl]
    | true =>
      cases hv : decide ((cut x n (tops n)).s.hi < tops n / BitVec.ofInt 64 2) with
      | true => rw [low_v he hr h8 rfl hv]
      | false =>
        cases ho : (one (cut x n (tops n))).2 with
        | true => rw [low_one he hr h8 rfl hv ho]
        | false => rw [low_w he hr h8 rfl hv ho]; exact wide_ok hn h8
end C
/-! ### FrameLoads: the plain law (NOT BUILT YET) -/
namespace F
@[reducible] def eqa (a b : Ab) : Bool := a.k == b.k && (a.n.t.v == b.n.t.v && (a.n.t.m == b.n.t.m && (a.n.s.lo == b.n.s.lo && (a.n.s.hi == b.n.s.hi && (a.n.s.sl == b.n.s.sl && (a.n.s.sh == b.n.s.sh && (a.of == b.of && (a.mp == b.mp && (a.id == b.id && (a.rm == b.rm && (a.nu == b.nu && true)))))))))))
theorem eqa_eq {a b : Ab} (h : eqa a b = true) : a = b := by
  obtain ⟨k, ⟨⟨v, m⟩, ⟨lo, hi, sl, sh⟩⟩, of, mp, id, rm, nu⟩ := a
  obtain ⟨k', ⟨⟨v', m'⟩, ⟨lo', hi', sl', sh'⟩⟩, of', mp', id', rm', nu'⟩ := b
  simp only [eqa, Bool.and_eq_true, beq_iff_eq, and_true] at h
  obtain ⟨rfl, rfl, rfl, rfl, rfl, rfl, rfl, rfl, rfl, rfl, rfl, rfl⟩ := h
  rfl
theorem eqa_self (a : Ab) : eqa a a = true := by simp [eqa]
theorem store_none {f : Fr} {off n : Int} {a : Ab} (h : ((store f off n a).2 == 0) = false) : (store f off n a).1 = none := by
  revert h
  unfold store
  repeat' split
  all_goals (intro h; first | rfl | exact absurd (show (true : Bool) = false from h) (by decide))
/-- What is known behind a Store that is not refused. -/
theorem store_ok {f : Fr} {off n : Int} {a : Ab} (h : ((store f off n a).2 == 0) = true) : right f = true ∧ V.right a = true ∧ a.k ≠ 0 ∧ word n = true ∧ (within off n).2 = true ∧
    ((n = 8 ∧ (within off n).1.tmod 8 = 0 ∧ a.id ≤ f.ids ∧ (store f off n a).1 = ⟨f.R, f.S.set ((within off n).1.toNat / 8) ⟨true, 0, a⟩, f.ids⟩) ∨ (¬ (n = 8 ∧ (within off n).1.tmod 8 = 0) ∧ a.k = 1 ∧ (store f off n a).1 = touch f (within off n).1 n)) := by
  revert h
  unfold store
  repeat' split
  all_goals (intro h; first | (exfalso; revert h; decide) | skip)
  all_goals simp_all
/-- Slots that bytes do not touch are as they were. -/
theorem touch_at {f : Fr} {p n : Int} {q : Nat} (hq : q < f.S.length) (h : ¬ (p.toNat / 8 ≤ q ∧ q < p.toNat / 8 + cnt p n)) : (touch f p n).S.getD q noSl = f.S.getD q noSl := by
  show (tch ..).getD q noSl = _
  rw [tch_at _ _ _ _ _ _ hq, if_neg h]
theorem touch_in {f : Fr} {p n : Int} {q : Nat} (hq : q < f.S.length) (h : p.toNat / 8 ≤ q ∧ q < p.toNat / 8 + cnt p n) : (touch f p n).S.getD q noSl = slot (f.S.getD q noSl) (mk p n q 8) := by
  show (tch ..).getD q noSl = _
  rw [tch_at _ _ _ _ _ _ hq, if_pos h]
/-- Touched bytes are ready. -/
theorem touch_ready {f : Fr} (hS : f.S.length = 64) {p n : Int} (h0 : 0 ≤ p) (hn : 1 ≤ n) (hp : p + n ≤ 512) : ready (touch f p n) p n = true := by
  unfold ready
  rw [rdy_iff]
  intro q h1 h2 i hi h3 h4
  have hq : q < f.S.length := by unfold cnt at h2; omega
  rw [touch_in hq ⟨h1, h2⟩]
  show (b8 (Go.bits .or .u8 (set (f.S.getD q noSl)) (mk p n q 8))).getLsbD i = true
  rw [or8, b8_ub, BitVec.getLsbD_or, mk8_bit _ _ _ i hi, decide_eq_true h3, decide_eq_true h4]
  simp
theorem okS_slot (s : Sl) (b : Int) : okS (slot s b) = true := rfl
theorem okA_slot {ids : Int} (h : 0 ≤ ids) (s : Sl) (b : Int) : okA ids (slot s b).a = true := by
  show okA ids V.zero = true
  unfold okA
  rw [show V.right V.zero = true by kernel_rfl, decide_eq_true (show V.zero.id ≤ ids from h)]; rfl
theorem set_in {S : List Sl} (h : (S.all fun s => inA s.a) = true) (i : Nat) {s : Sl} (hs : inA s.a = true) : ((S.set i s).all fun s => inA s.a) = true := by
  rw [List.all_eq_true] at h ⊢
  intro x hx
  rcases List.mem_or_eq_of_mem_set hx with hx | rfl
  · exact h x hx
  · exact hs
theorem store_wf {f : Fr} (hf : f.wf) {off n : Int} {a : Ab} (ha : R.inS a.n.s = true) : (store f off n a).1.wf := by
  unfold store
  repeat' split
  all_goals first
    | exact none_wf
    | exact touch_wf hf _ _
    | exact ⟨hf.r, by show (List.set ..).length = 64; rw [List.length_set]; exact hf.s, hf.ri, set_in hf.si _ ha⟩
theorem right_all {f : Fr} (h : right f = true) : f.S.all okS = true ∧ f.R.all (okA f.ids) = true ∧ (f.S.all fun s => okA f.ids s.a) = true ∧ 0 ≤ f.ids := by
  unfold right at h
  simp only [Bool.and_eq_true, decide_eq_true_eq] at h
  exact ⟨h.1, h.2.1, h.2.2.1, h.2.2.2⟩
theorem all_tch {p : Sl → Bool} (hp : ∀ s b, p (slot s b) = true) {S : List Sl} (h : S.all p = true) (x n : Int) (a : Nat) : ∀ j, (tch S x n a j).all p = true
  | 0 => h
  | j + 1 => by
    have ih := all_tch hp h x n a j
    rw [tch]
    rw [List.all_eq_true] at ih ⊢
    intro y hy
    rcases List.mem_or_eq_of_mem_set hy with hy | rfl
    · exact ih y hy
    · exact hp _ _
theorem all_set {p : Sl → Bool} {S : List Sl} (h : S.all p = true) (i : Nat) {s : Sl} (hs : p s = true) : (S.set i s).all p = true := by
  rw [List.all_eq_true] at h ⊢
  intro x hx
  rcases List.mem_or_eq_of_mem_set hx with hx | rfl
  · exact h x hx
  · exact hs
theorem touch_right {f : Fr} (h : right f = true) (p n : Int) : right (touch f p n) = true := by
  obtain ⟨h1, h2, h3, h4⟩ := right_all h
  unfold right
  rw [show (touch f p n).S.all okS = true from all_tch okS_slot h1 p n _ _, show (touch f p n).R.all (okA (touch f p n).ids) = true from h2, show ((touch f p n).S.all fun s => okA (touch f p n).ids s.a) = true from all_tch (p := fun s => okA f.ids s.a) (okA_slot h4) h3 p n _ _]
  exact decide_eq_true h4
/-- What is stored is right. -/
theorem store_right {f : Fr} {off n : Int} {a : Ab} (h : ((store f off n a).2 == 0) = true) : right (store f off n a).1 = true := by
  obtain ⟨h1, h2, h3, h4, h5, h6⟩ := store_ok h
  rcases h6 with ⟨_, _, hid, he⟩ | ⟨_, _, he⟩
  · rw [he]
    obtain ⟨g1, g2, g3, g4⟩ := right_all h1
    have hok : okS ⟨true, 0, a⟩ = true := by
      unfold okS
      rw [beq_false_of_ne h3]; rfl
    have hoA : okA f.ids a = true := by unfold okA; rw [h2, decide_eq_true hid]; rfl
    unfold right
    rw [show (f.S.set ((within off n).1.toNat / 8) ⟨true, 0, a⟩).all okS = true from all_set g1 _ hok, show f.R.all (okA f.ids) = true from g2, show ((f.S.set ((within off n).1.toNat / 8) ⟨true, 0, a⟩).all fun s => okA f.ids s.a) = true from all_set (p := fun s => okA f.ids s.a) g3 _ hoA]
    exact decide_eq_true g4
  · rw [he]; exact touch_right h1 _ _
/-- What is read back of a slot that was put down whole. -/
theorem load_whole {f : Fr} (hf : f.wf) {off n : Int} {a : Ab} (sg : Bool) (h : ((store f off n a).2 == 0) = true) (h8 : n = 8) (hm : (within off n).1.tmod 8 = 0) : load (store f off n a).1 off n sg = (a, 0) := by
  have hr := store_right h
  obtain ⟨h1, h2, h3, h4, h5, h6⟩ := store_ok h
  obtain ⟨q1, q2, q3⟩ := within_in h5 (word_in h4).1
  rcases h6 with ⟨_, _, hid, he⟩ | ⟨hno, _⟩
  · have hlt : (within off n).1.toNat / 8 < f.S.length := by rw [hf.s, q1]; have := (word_in h4).1; omega
    have hg : (store f off n a).1.S.getD ((within off n).1.toNat / 8) noSl = ⟨true, 0, a⟩ := by
      rw [he]
      show (f.S.set ((within off n).1.toNat / 8) ⟨true, 0, a⟩).getD _ noSl = _
      rw [getD_set, if_pos ⟨rfl, hlt⟩]
    unfold load
    rw [if_neg (by rw [hr]; decide), if_neg (by rw [h4]; decide), if_neg (by rw [h5]; decide), if_pos (by rw [h8]; rfl), if_pos (by rw [hm]; rfl), hg]
    rfl
  · exact absurd ⟨h8, hm⟩ hno
/-- What is read back of bytes that were touched. -/
theorem load_touched {f : Fr} (hf : f.wf) {off n : Int} {a : Ab} (sg : Bool) (h : ((store f off n a).2 == 0) = true) (hno : ¬ (n = 8 ∧ (within off n).1.tmod 8 = 0)) : load (store f off n a).1 off n sg = (V.number (C.low C.unknown n sg).1, 0) := by
  have hr := store_right h
  obtain ⟨h1, h2, h3, h4, h5, h6⟩ := store_ok h
  have hw := word_in h4
  obtain ⟨q1, q2, q3⟩ := within_in h5 hw.1
  rcases h6 with ⟨a1, a2, _⟩ | ⟨_, _, he⟩
  · exact absurd ⟨a1, a2⟩ hno
  · have hrd : ready (store f off n a).1 (within off n).1 n = true := by
      rw [he]
      exact touch_ready hf.s (by omega) hw.1 (by omega)
    have hq : (within off n).1.toNat / 8 < f.S.length := by rw [hf.s, q1]; omega
    have hg : ((store f off n a).1.S.getD ((within off n).1.toNat / 8) noSl).w = false := by
      rw [he, touch_in hq ⟨Nat.le_refl _, by unfold cnt; omega⟩]; rfl
    have hp : part ((store f off n a).1.S.getD ((within off n).1.toNat / 8) noSl) ((within off n).1.tmod 8) n sg = V.number (C.low C.unknown n sg).1 := by
      unfold part
      rw [if_neg (by rw [hg]; decide)]
    unfold load
    rw [if_neg (by rw [hr]; decide), if_neg (by rw [h4]; decide), if_neg (by rw [h5]; decide)]
    by_cases h8 : n = 8
    · rw [if_pos (by rw [h8]; rfl), if_neg (by rw [beq_iff_eq]; exact fun e => hno ⟨h8, e⟩), if_neg (by rw [hrd]; decide), hp]
    · rw [if_neg (by rw [beq_iff_eq]; exact h8), if_neg (by rw [hrd]; decide), hp]
theorem word_or {n : Int} (h : word n = true) : n = 1 ∨ n = 2 ∨ n = 4 ∨ n = 8 := by
  simp only [word, Bool.or_eq_true, beq_iff_eq] at h; omega
/-- Slots that are the same are as ready. -/
theorem ready_same {f g : Fr} {p n : Int} (h : ∀ q, p.toNat / 8 ≤ q → q < p.toNat / 8 + cnt p n → g.S.getD q noSl = f.S.getD q noSl) : ready g p n = ready f p n := by
  unfold ready
  rw [Bool.eq_iff_iff, rdy_iff, rdy_iff]
  constructor <;> intro k q h1 h2 i hi h3 h4 <;> have e := h q h1 h2 <;> have := k q h1 h2 i hi h3 h4
  · rwa [e] at this
  · rwa [e]
theorem load_same {f g : Fr} (hf : right f = true) (hg : right g = true) {off n : Int} (sg : Bool) (h : word n = true → (within off n).2 = true → ∀ q, (within off n).1.toNat / 8 ≤ q → q < (within off n).1.toNat / 8 + cnt (within off n).1 n → g.S.getD q noSl = f.S.getD q noSl) : load g off n sg = load f off n sg := by
  unfold load
  rw [hf, hg]
  cases hw : word n with
  | false => rfl
  | true =>
    cases hi : (within off n).2 with
    | false => rfl
    | true =>
      have hn := word_in hw
      obtain ⟨q1, q2, q3⟩ := within_in hi hn.1
      have h' := h hw hi
      rw [ready_same h', h' ((within off n).1.toNat / 8) (Nat.le_refl _) (by unfold cnt; omega)]
/-- What is not touched stays. -/
theorem store_at {f : Fr} (hf : f.wf) {off n : Int} {a : Ab} (h : ((store f off n a).2 == 0) = true) {q : Nat} (hq : q < 64) (hno : ¬ ((within off n).1.toNat / 8 ≤ q ∧ q < (within off n).1.toNat / 8 + cnt (within off n).1 n)) : (store f off n a).1.S.getD q noSl = f.S.getD q noSl := by
  obtain ⟨h1, h2, h3, h4, h5, h6⟩ := store_ok h
  have hw := word_in h4
  obtain ⟨q1, q2, q3⟩ := within_in h5 hw.1
  rcases h6 with ⟨_, _, _, he⟩ | ⟨_, _, he⟩
  · rw [he]
    show (f.S.set _ _).getD q noSl = _
    rw [getD_set, if_neg]
    rintro ⟨e, _⟩
    apply hno
    unfold cnt
    omega
  · rw [he]
    exact touch_at (by rw [hf.s]; exact hq) hno
theorem load_bad {f g : Fr} (hf : right f = true) (hg : right g = true) {off n : Int} {sg : Bool} (h : (load f off n sg).2 = 2 ∨ (load f off n sg).2 = 32) : (load g off n sg).2 = (load f off n sg).2 := by
  unfold load at h ⊢
  rw [hf] at h ⊢
  rw [hg]
  revert h
  cases hw : word n with
  | false => intro _; rfl
  | true =>
    cases hi : (within off n).2 with
    | false => intro _; rfl
    | true =>
      intro h
      exfalso
      revert h
      rw [if_neg (by decide), if_neg (by decide), if_neg (by decide)]
      repeat' split
      all_goals (intro h; revert h; simp)
theorem load_good {f : Fr} {off n : Int} {sg : Bool} (h2 : (load f off n sg).2 ≠ 2) (h32 : (load f off n sg).2 ≠ 32) : word n = true ∧ (within off n).2 = true := by
  cases hw : word n with
  | false =>
    exfalso; apply h2
    unfold load
    rw [hw]
    split <;> rfl
  | true =>
    refine ⟨rfl, ?_⟩
    cases hi : (within off n).2 with
    | true => rfl
    | false =>
      exfalso
      cases hr : right f with
      | false => apply h2; unfold load; rw [hr]; rfl
      | true => apply h32; unfold load; rw [hr, hw, hi]; rfl
/-- Bytes of other slots are read as they were. -/
theorem load_apart {f : Fr} (hf : f.wf) {off n other m : Int} {a : Ab} {sg : Bool} (h : ((store f off n a).2 == 0) = true) (hw : word m = true) (hi : (within other m).2 = true) (hno : ¬ ((off + 512) / 8 ≤ (other + 511 + m) / 8 ∧ (other + 512) / 8 ≤ (off + 511 + n) / 8)) : load (store f off n a).1 other m sg = load f other m sg := by
  have hr := store_right h
  obtain ⟨h1, h2, h3, h4, h5, h6⟩ := store_ok h
  have hn := word_in h4
  obtain ⟨q1, q2, q3⟩ := within_in h5 hn.1
  have hm := word_in hw
  obtain ⟨r1, r2, r3⟩ := within_in hi hm.1
  refine load_same h1 hr sg fun _ _ q l1 l2 => store_at hf h ?_ ?_
  · unfold cnt at l2; omega
  · unfold cnt at *; omega
/-- A number is read back as one that is no less. -/
theorem load_num {f : Fr} (hf : f.wf) {off n : Int} {a : Ab} {sg : Bool} (ha : R.inS a.n.s = true) (h : ((store f off n a).2 == 0) = true) (hk : a.k = 1) (ra : C.right a.n = true) : (load (store f off n a).1 off n sg).1.k = 1 ∧ (¬ (n = 8 ∧ (within off n).1.tmod 8 = 0) → C.leq (C.low a.n n sg).1 (load (store f off n a).1 off n sg).1.n = true) := by
  obtain ⟨h1, h2, h3, h4, h5, h6⟩ := store_ok h
  by_cases hc : n = 8 ∧ (within off n).1.tmod 8 = 0
  · rw [load_whole hf sg h hc.1 hc.2]
    exact ⟨hk, fun e => absurd hc e⟩
  · rw [load_touched hf sg h hc, number_u h4]
    exact ⟨rfl, fun _ => C.low_leq ha ra (word_or h4) sg⟩
/-! What the statement asks, path by path. -/
theorem ff {b : Bool} (h : b = true) (k : b = false) : False := by rw [h] at k; cases k
section
variable {f : Fr} (hf : f.wf) {off n : Int} {a : Ab} {sg : Bool} (hs : ((store f off n a).2 == 0) = true)
include hf hs
theorem l_ok : ((load (store f off n a).1 off n sg).2 == 0) = true := by
  by_cases hc : n = 8 ∧ (within off n).1.tmod 8 = 0
  · rw [load_whole hf sg hs hc.1 hc.2]; rfl
  · rw [load_touched hf sg hs hc]; rfl
omit hf in
theorem l_rem : (within off n).1.tmod 8 = 0 ↔ off.tmod 8 = 0 := by
  obtain ⟨h1, h2, h3, h4, h5, h6⟩ := store_ok hs
  obtain ⟨q1, q2, q3⟩ := within_in h5 (word_in h4).1
  rw [q1]
  have := rem_same q2
  rw [Bool.eq_iff_iff, beq_iff_eq, beq_iff_eq] at this
  exact this
theorem l_same (h8 : (n == 8) = true) (h0 : (off.tmod 8 == 0) = true) : eqa (load (store f off n a).1 off n sg).1 a = true := by
  rw [load_whole hf sg hs (beq_iff_eq.1 h8) ((l_rem hs).2 (beq_iff_eq.1 h0))]; exact eqa_self a
omit hf in
theorem l_right (hk : (a.k == 1) = true) : C.right a.n = true := by
  obtain ⟨_, h2, _⟩ := store_ok hs
  unfold V.right at h2
  rw [if_neg (by rw [beq_iff_eq.1 hk]; decide), if_pos hk, Bool.and_eq_true] at h2
  exact h2.1
omit hf in
theorem l_low (hk : (a.k == 1) = true) : (C.low a.n n sg).2 = true := by
  obtain ⟨_, _, _, h4, _⟩ := store_ok hs
  exact C.low_told (l_right hs hk) (word_or h4) sg
variable (ha : R.inS a.n.s = true) (hk : (a.k == 1) = true)
include ha hk
theorem l_k : ((load (store f off n a).1 off n sg).1.k == 1) = true := beq_iff_eq.2 (load_num hf ha hs (beq_iff_eq.1 hk) (l_right hs hk)).1
theorem l_leq1 (h8 : (n == 8) = false) : C.leq (C.low a.n n sg).1 (load (store f off n a).1 off n sg).1.n = true :=
  (load_num hf ha hs (beq_iff_eq.1 hk) (l_right hs hk)).2 fun e => by rw [e.1] at h8; cases h8
theorem l_leq2 (h0 : (off.tmod 8 == 0) = false) : C.leq (C.low a.n n sg).1 (load (store f off n a).1 off n sg).1.n = true :=
  (load_num hf ha hs (beq_iff_eq.1 hk) (l_right hs hk)).2 fun e => by rw [(l_rem hs).1 e.2] at h0; cases h0
omit ha hk
variable {other m : Int}
omit hf in
theorem l_bad2 (h : ((load f other m sg).2 == 2) = true) : ((load f other m sg).2 == (load (store f off n a).1 other m sg).2) = true :=
  beq_iff_eq.2 (load_bad (store_ok hs).1 (store_right hs) (.inl (beq_iff_eq.1 h))).symm
omit hf in
theorem l_bad32 (h : ((load f other m sg).2 == 32) = true) : ((load f other m sg).2 == (load (store f off n a).1 other m sg).2) = true :=
  beq_iff_eq.2 (load_bad (store_ok hs).1 (store_right hs) (.inr (beq_iff_eq.1 h))).symm
variable (h2 : ((load f other m sg).2 == 2) = false) (h32 : ((load f other m sg).2 == 32) = false)
include h2 h32
theorem l_apart1 (hno : decide (IntKind.i64.wrap ((IntKind.i64.wrap (off + 512)).tdiv 8) ≤ IntKind.i64.wrap ((IntKind.i64.wrap (IntKind.i64.wrap (other + 511) + m)).tdiv 8)) = false) : load (store f off n a).1 other m sg = load f other m sg := by
  have hno := of_decide_eq_false hno
  obtain ⟨h1, _, _, h4, h5, _⟩ := store_ok hs
  obtain ⟨g1, g2⟩ := load_good (fun e => by rw [e] at h2; cases h2) (fun e => by rw [e] at h32; cases h32)
  have hn := word_in h4
  have hm := word_in g1
  obtain ⟨q1, q2, q3⟩ := within_in h5 hn.1
  obtain ⟨r1, r2, r3⟩ := within_in g2 hm.1
  refine load_apart hf hs g1 g2 fun e => hno ?_
  rw [i64_of (n := off + 512) (by omega) (by omega), IntWalk.i64_in (other + 511) (by omega), i64_of (n := other + 511 + m) (by omega) (by omega), Int.tdiv_eq_ediv_of_nonneg (by omega), Int.tdiv_eq_ediv_of_nonneg (by omega), i64_of (by omega) (by omega), i64_of (by omega) (by omega)]
  exact e.1
theorem l_apart2 (hno : decide (IntKind.i64.wrap ((IntKind.i64.wrap (other + 512)).tdiv 8) ≤ IntKind.i64.wrap ((IntKind.i64.wrap (IntKind.i64.wrap (off + 511) + n)).tdiv 8)) = false) : load (store f off n a).1 other m sg = load f other m sg := by
  have hno := of_decide_eq_false hno
  obtain ⟨h1, _, _, h4, h5, _⟩ := store_ok hs
  obtain ⟨g1, g2⟩ := load_good (fun e => by rw [e] at h2; cases h2) (fun e => by rw [e] at h32; cases h32)
  have hn := word_in h4
  have hm := word_in g1
  obtain ⟨q1, q2, q3⟩ := within_in h5 hn.1
  obtain ⟨r1, r2, r3⟩ := within_in g2 hm.1
  refine load_apart hf hs g1 g2 fun e => hno ?_
  rw [i64_of (n := other + 512) (by omega) (by omega), IntWalk.i64_in (off + 511) (by omega), i64_of (n := off + 511 + n) (by omega) (by omega), Int.tdiv_eq_ediv_of_nonneg (by omega), Int.tdiv_eq_ediv_of_nonneg (by omega), i64_of (by omega) (by omega), i64_of (by omega) (by omega)]
  exact e.2
end
theorem eqa_of {x y : Ab × Int} (h : y = x) : eqa x.1 y.1 = true := by rw [h]; exact eqa_self _
theorem n8 {n : Int} (h : (n == 8) = true) (k : decide (n < 8) = true) : False := by
  have := beq_iff_eq.1 h
  have := of_decide_eq_true k
  omega
theorem number_in {x : Sc} (h : R.inS x.s = true) : R.inS (V.number x).n.s = true := by
  unfold V.number
  split
  · exact h
  · rfl
theorem load_inA {f : Fr} (hf : f.wf) (off n : Int) (sg : Bool) : R.inS (load f off n sg).1.n.s = true := by
  have hp : ∀ (s : Sl) (r : Int), R.inS (part s r n sg).n.s = true := fun s r => by
    unfold part
    refine number_in (C.low_in ?_ _ _)
    repeat' split
    all_goals first | exact C.const_S _ | rfl
  have hl : (within off n).2 = true → word n = true → R.inS (f.S.getD ((within off n).1.toNat / 8) noSl).a.n.s = true := fun h hw => by
    obtain ⟨q1, q2, q3⟩ := within_in h (word_in hw).1
    exact inS_at hf.si (by rw [hf.s, q1]; have := word_in hw; omega)
  unfold load
  repeat' split
  all_goals first
    | rfl
    | exact hp _ _
    | exact hl (by simpa using ‹¬(within off n).2 = false›) (by simpa using ‹¬word n = false›)
theorem none_eq {f : Fr} {off n : Int} {a : Ab} (h : ((store f off n a).2 == 0) = false) : ((eqArr 11 [.int, .int, .int, .int, .int, .int, .int, .int, .int, .int, .int, .bool] (gOf eA (store f off n a).1.R) fun _ => [.int .u8 0, .u64 (BitVec.ofInt 64 0), .u64 (BitVec.ofInt 64 0), .u64 (BitVec.ofInt 64 0), .u64 (BitVec.ofInt 64 0), .int .i64 0, .int .i64 0, .int .i64 0, .int .i64 0, .int .i64 0, .int .i64 0, .bool false]) && ((eqArr 64 [.bool, .int, .int, .int, .int, .int, .int, .int, .int, .int, .int, .int, .int, .bool] (gOf eS (store f off n a).1.S) fun _ => .bool false :: .int .u8 0 :: [.int .u8 0, .u64 (BitVec.ofInt 64 0), .u64 (BitVec.ofInt 64 0), .u64 (BitVec.ofInt 64 0), .u64 (BitVec.ofInt 64 0), .int .i64 0, .int .i64 0, .int .i64 0, .int .i64 0, .int .i64 0, .int .i64 0, .bool false]) && ((store f off n a).1.ids == 0 && true))) = true := by
  rw [store_none h]
  kernel_rfl
end F
end Go.Proofs.YtgfemfgimefmeaaGreat
