import Derived.Test.YtaickooakoikaaaDoorX22
namespace Go.Proofs.YtaickooakoikaaaDoor
open Go.RowKit Go.Sx
set_option linter.unusedSimpArgs false
set_option linter.unusedVariables false
set_option linter.unnecessarySimpa false
set_option maxRecDepth 100000
set_option maxHeartbeats 4000000
namespace T
def some (t : Tn) (n : BitVec 64) : BitVec 64 := n &&& t.m ||| t.v
theorem has_rt (v m x : BitVec 64) : has (rt v m) (some (rt v m) x) = true := has_some v m x
theorem so_0 {a b : Tn} {p q : BitVec 64} (ha : has a p = true) (hb : has b q = true) : (doesI 0 a b).2 = true ∧ (W.aluW 0 0 p q).2 = true ∧ has (doesI 0 a b).1 (W.aluW 0 0 p q).1 = true ∧ right (doesI 0 a b).1 = true := by
  have e : doesI 0 a b = (sum a b, true) := by simp [doesI, opI, has_right ha, has_right hb]
  have f : W.aluW 0 0 p q = (p + q, true) := rfl
  rw [e, f]; exact ⟨rfl, rfl, sum_sound ha hb, has_right (sum_sound ha hb)⟩
theorem so_16 {a b : Tn} {p q : BitVec 64} (ha : has a p = true) (hb : has b q = true) : (doesI 16 a b).2 = true ∧ (W.aluW 16 0 p q).2 = true ∧ has (doesI 16 a b).1 (W.aluW 16 0 p q).1 = true ∧ right (doesI 16 a b).1 = true := by
  have e : doesI 16 a b = (difference a b, true) := by simp [doesI, opI, has_right ha, has_right hb]
  have f : W.aluW 16 0 p q = (p - q, true) := rfl
  rw [e, f]; exact ⟨rfl, rfl, dif_sound ha hb, has_right (dif_sound ha hb)⟩
theorem so_80 {a b : Tn} {p q : BitVec 64} (ha : has a p = true) (hb : has b q = true) : (doesI 80 a b).2 = true ∧ (W.aluW 80 0 p q).2 = true ∧ has (doesI 80 a b).1 (W.aluW 80 0 p q).1 = true ∧ right (doesI 80 a b).1 = true := by
  have e : doesI 80 a b = (and a b, true) := by simp [doesI, opI, has_right ha, has_right hb]
  have f : W.aluW 80 0 p q = (p &&& q, true) := rfl
  rw [e, f]; exact ⟨rfl, rfl, and_sound ha hb, has_right (and_sound ha hb)⟩
theorem so_64 {a b : Tn} {p q : BitVec 64} (ha : has a p = true) (hb : has b q = true) : (doesI 64 a b).2 = true ∧ (W.aluW 64 0 p q).2 = true ∧ has (doesI 64 a b).1 (W.aluW 64 0 p q).1 = true ∧ right (doesI 64 a b).1 = true := by
  have e : doesI 64 a b = (or a b, true) := by simp [doesI, opI, has_right ha, has_right hb]
  have f : W.aluW 64 0 p q = (p ||| q, true) := rfl
  rw [e, f]; exact ⟨rfl, rfl, or_sound ha hb, has_right (or_sound ha hb)⟩
theorem so_160 {a b : Tn} {p q : BitVec 64} (ha : has a p = true) (hb : has b q = true) : (doesI 160 a b).2 = true ∧ (W.aluW 160 0 p q).2 = true ∧ has (doesI 160 a b).1 (W.aluW 160 0 p q).1 = true ∧ right (doesI 160 a b).1 = true := by
  have e : doesI 160 a b = (xor a b, true) := by simp [doesI, opI, has_right ha, has_right hb]
  have f : W.aluW 160 0 p q = (p ^^^ q, true) := rfl
  rw [e, f]; exact ⟨rfl, rfl, xor_sound ha hb, has_right (xor_sound ha hb)⟩
theorem so_32 {a b : Tn} {p q : BitVec 64} (ha : has a p = true) (hb : has b q = true) : (doesI 32 a b).2 = true ∧ (W.aluW 32 0 p q).2 = true ∧ has (doesI 32 a b).1 (W.aluW 32 0 p q).1 = true ∧ right (doesI 32 a b).1 = true := by
  have e : doesI 32 a b = (product a b, true) := by simp [doesI, opI, has_right ha, has_right hb]
  have f : W.aluW 32 0 p q = (p * q, true) := rfl
  rw [e, f]; exact ⟨rfl, rfl, product_sound ha hb, has_right (product_sound ha hb)⟩
theorem shift_sound (op : Int) (hop : op = 96 ∨ op = 112 ∨ op = 192) {t : Tn} {p : BitVec 64} (h : has t p = true) (n : Nat) (hn : n < 64) : has ⟨sh op t.v n, sh op t.m n⟩ (sh op p n) = true := has_iff.2 fun i hi => by
  rw [sh_bit op hop _ _ _ hn hi, sh_bit op hop _ _ _ hn hi, sh_bit op hop _ _ _ hn hi]
  have p1 := has_bit h (i - n); have p2 := has_bit h (i + n); have p3 := has_bit h (min (i + n) 63)
  split
  · cases decide (n ≤ i) <;> simp_all
  · split
    · cases decide (i + n < 64) <;> simp_all
    · exact p3
theorem and63 (k : Int) : ∃ n : Nat, n < 64 ∧ Go.bits .and .i64 k 63 = (n : Int) := by
  refine ⟨(BitVec.ofInt 64 k &&& BitVec.ofInt 64 63).toNat, ?_, ?_⟩
  · rw [BitVec.toNat_and]; exact Nat.lt_of_le_of_lt Nat.and_le_right (by decide)
  · have h : (BitVec.ofInt 64 k &&& BitVec.ofInt 64 63).toNat ≤ 63 := by rw [BitVec.toNat_and]; exact Nat.le_trans Nat.and_le_right (by decide)
    show IntKind.i64.wrap (((BitVec.ofInt 64 k &&& BitVec.ofInt 64 63).toNat : Nat) : Int) = _
    rw [IntWalk.i64_in _ (by omega)]
theorem mod64 {n : Nat} (hn : n < 64) : (BitVec.ofInt 64 (n : Int) % 64#64).toNat = n := by
  rw [BitVec.toNat_umod, ofInt_small (by omega) (by omega), Int.toNat_natCast, show (64#64 : BitVec 64).toNat = 64 from rfl, Nat.mod_eq_of_lt hn]
theorem sh_96 {a : Tn} {p : BitVec 64} (ha : has a p = true) (k : Int) : (shift 96 a (Go.bits .and .i64 k 63)).2 = true ∧ (W.aluW 96 0 p (BitVec.ofInt 64 (Go.bits .and .i64 k 63))).2 = true ∧ has (shift 96 a (Go.bits .and .i64 k 63)).1 (W.aluW 96 0 p (BitVec.ofInt 64 (Go.bits .and .i64 k 63))).1 = true := by
  obtain ⟨n, hn, e⟩ := and63 k
  rw [e]
  have e1 : shift 96 a n = (⟨sh 96 a.v n, sh 96 a.m n⟩, true) := by
    unfold shift; rw [if_pos (by simp [has_right ha]; omega), Int.toNat_natCast]
  have f : W.aluW 96 0 p (BitVec.ofInt 64 n) = (p <<< (BitVec.ofInt 64 (n : Int) % 64#64).toNat, true) := rfl
  rw [e1, f, mod64 hn]; exact ⟨rfl, rfl, shift_sound 96 (by decide) ha n hn⟩
theorem sh_112 {a : Tn} {p : BitVec 64} (ha : has a p = true) (k : Int) : (shift 112 a (Go.bits .and .i64 k 63)).2 = true ∧ (W.aluW 112 0 p (BitVec.ofInt 64 (Go.bits .and .i64 k 63))).2 = true ∧ has (shift 112 a (Go.bits .and .i64 k 63)).1 (W.aluW 112 0 p (BitVec.ofInt 64 (Go.bits .and .i64 k 63))).1 = true := by
  obtain ⟨n, hn, e⟩ := and63 k
  rw [e]
  have e1 : shift 112 a n = (⟨sh 112 a.v n, sh 112 a.m n⟩, true) := by
    unfold shift; rw [if_pos (by simp [has_right ha]; omega), Int.toNat_natCast]
  have f : W.aluW 112 0 p (BitVec.ofInt 64 n) = (p >>> (BitVec.ofInt 64 (n : Int) % 64#64).toNat, true) := rfl
  rw [e1, f, mod64 hn]; exact ⟨rfl, rfl, shift_sound 112 (by decide) ha n hn⟩
theorem sh_192 {a : Tn} {p : BitVec 64} (ha : has a p = true) (k : Int) : (shift 192 a (Go.bits .and .i64 k 63)).2 = true ∧ (W.aluW 192 0 p (BitVec.ofInt 64 (Go.bits .and .i64 k 63))).2 = true ∧ has (shift 192 a (Go.bits .and .i64 k 63)).1 (W.aluW 192 0 p (BitVec.ofInt 64 (Go.bits .and .i64 k 63))).1 = true := by
  obtain ⟨n, hn, e⟩ := and63 k
  rw [e]
  have e1 : shift 192 a n = (⟨sh 192 a.v n, sh 192 a.m n⟩, true) := by
    unfold shift; rw [if_pos (by simp [has_right ha]; omega), Int.toNat_natCast]
  have f : W.aluW 192 0 p (BitVec.ofInt 64 n) = (p.sshiftRight (min (BitVec.ofInt 64 (n : Int) % 64#64).toNat 64), true) := rfl
  rw [e1, f, mod64 hn]; exact ⟨rfl, rfl, shift_sound 192 (by decide) ha n hn⟩
theorem has_and {t : Tn} {p : BitVec 64} (h : has t p = true) (m : BitVec 64) : has ⟨t.v &&& m, t.m &&& m⟩ (p &&& m) = true := has_iff.2 fun i hi => by
  have := has_bit h i
  simp only [BitVec.getLsbD_and]
  revert this
  cases t.v.getLsbD i <;> cases t.m.getLsbD i <;> cases m.getLsbD i <;> cases p.getLsbD i <;> simp
theorem cut_and (p : BitVec 64) (k : Nat) (hk : k < 64) : BitVec.ofInt 64 ((p.toNat % 2 ^ k : Nat) : Int) = p &&& BitVec.ofNat 64 (2 ^ k - 1) := by
  apply BitVec.eq_of_toNat_eq
  have h1 : p.toNat % 2 ^ k < 2 ^ 64 := Nat.lt_of_le_of_lt (Nat.mod_le ..) p.isLt
  have h2 : 2 ^ k - 1 < 2 ^ 64 := by have := Nat.pow_lt_pow_right (a := 2) (by omega) hk; omega
  rw [BitVec.toNat_and, BitVec.toNat_ofNat, Nat.mod_eq_of_lt h2, Nat.and_two_pow_sub_one_eq_mod, BitVec.ofInt_natCast, BitVec.toNat_ofNat, Nat.mod_eq_of_lt h1]
theorem lo_1 {a : Tn} {p : BitVec 64} (h : has a p = true) : (low a 1).2 = true ∧ (W.ext p 1).2 = true ∧ has (low a 1).1 (W.ext p 1).1 = true := by
  have e : low a 1 = (⟨a.v &&& 255#64, a.m &&& 255#64⟩, true) := by simp [low, has_right h]
  have f : W.ext p 1 = (BitVec.ofInt 64 ((p.toNat % 2 ^ 8 : Nat) : Int), true) := rfl
  rw [e, f, cut_and p 8 (by omega)]; exact ⟨rfl, rfl, has_and h _⟩
theorem lo_2 {a : Tn} {p : BitVec 64} (h : has a p = true) : (low a 2).2 = true ∧ (W.ext p 2).2 = true ∧ has (low a 2).1 (W.ext p 2).1 = true := by
  have e : low a 2 = (⟨a.v &&& 65535#64, a.m &&& 65535#64⟩, true) := by simp [low, has_right h]
  have f : W.ext p 2 = (BitVec.ofInt 64 ((p.toNat % 2 ^ 16 : Nat) : Int), true) := rfl
  rw [e, f, cut_and p 16 (by omega)]; exact ⟨rfl, rfl, has_and h _⟩
theorem lo_4 {a : Tn} {p : BitVec 64} (h : has a p = true) : (low a 4).2 = true ∧ (W.ext p 4).2 = true ∧ has (low a 4).1 (W.ext p 4).1 = true := by
  have e : low a 4 = (⟨a.v &&& 4294967295#64, a.m &&& 4294967295#64⟩, true) := by simp [low, has_right h]
  have f : W.ext p 4 = (BitVec.ofInt 64 ((p.toNat % 2 ^ 32 : Nat) : Int), true) := rfl
  rw [e, f, cut_and p 32 (by omega)]; exact ⟨rfl, rfl, has_and h _⟩
theorem lo_8 {a : Tn} {p : BitVec 64} (h : has a p = true) : (low a 8).2 = true ∧ (W.ext p 8).2 = true ∧ has (low a 8).1 (W.ext p 8).1 = true := by
  have e : low a 8 = (a, true) := low_8 (has_right h)
  have f : W.ext p 8 = (p, true) := rfl
  rw [e, f]; exact ⟨rfl, rfl, h⟩
end T
def k_some17 : List SV → List Blk → Res := fun args _ => match args with
  | [.agg [.u64 av, .u64 am], .u64 n] => .ok (.u64 (T.some ⟨av, am⟩ n)) []
  | _ => .fail
theorem k_some17_ok : CtrOk Tryd.prog Gw 34 k_some17 := by
  refine ⟨fun _ _ => by kernel_rfl, fun args M => ?_⟩
  unfold k_some17
  split
  · rename_i av am n
    refine ctr_flat (Γ := ⟨[], eqs, [], [], []⟩) (sv := .u64 (T.some ⟨av, am⟩ n)) st_Gw ⟨okNil, eqs_ok, okNilB, okNilI, okNilP⟩ Tryd.func34 rfl mixed [] (by kernel_rfl) 10000 (by rfl) ?_
    (conv => whnf)
    (repeat' (first | (refine And.intro (fun hb => ?_) (fun hb => ?_) <;> (first | contradiction | (conv => whnf))) | (refine And.intro ?_ ?_; rotate_left 1; (conv => whnf))))
    all_goals (first | rfl | trivial | (simp_all [eqv, eqv1, eqv2, eqvL1, eqvL2]))
  · trivial
attribute [local irreducible] T.doesI W.aluW T.has T.right T.shift T.low W.ext T.rt T.some
def k_TnumSound : List SV → List Blk → Res := fun args _ => match args with
  | [.u64 av, .u64 am, .u64 bv, .u64 bm, .u64 x, .u64 y, .int .i64 k] => .ok (.bool true) []
  | _ => .fail
theorem k_TnumSound_ok : CtrOk Tryd.prog Gw 8 k_TnumSound := by
  refine ⟨fun _ _ => by kernel_rfl, fun args M => ?_⟩
  unfold k_TnumSound
  split
  · rename_i av am bv bm x y k
    have hA := T.has_rt av am x
    have hB := T.has_rt bv bm y
    obtain ⟨d0, f0, g0, r0⟩ := T.so_0 hA hB
    obtain ⟨d16, f16, g16, r16⟩ := T.so_16 hA hB
    obtain ⟨d80, f80, g80, r80⟩ := T.so_80 hA hB
    obtain ⟨d64, f64, g64, r64⟩ := T.so_64 hA hB
    obtain ⟨d160, f160, g160, r160⟩ := T.so_160 hA hB
    obtain ⟨d32, f32, g32, r32⟩ := T.so_32 hA hB
    obtain ⟨d96, f96, g96⟩ := T.sh_96 hA k
    obtain ⟨d112, f112, g112⟩ := T.sh_112 hA k
    obtain ⟨d192, f192, g192⟩ := T.sh_192 hA k
    obtain ⟨e1, h1, i1⟩ := T.lo_1 hA
    obtain ⟨e2, h2, i2⟩ := T.lo_2 hA
    obtain ⟨e4, h4, i4⟩ := T.lo_4 hA
    obtain ⟨e8, h8, i8⟩ := T.lo_8 hA
    refine ctr_flat (Γ := ⟨[(9, k_awake), (18, k_right17), (34, k_some17), (15, k_Do), (35, k_Alu), (17, k_Has), (12, k_Right), (22, k_Shift), (25, k_Low), (36, k_Extend)], eqs, [], [], []⟩) (sv := .bool true) st_Gw ⟨(okCons k_awake_ok (okCons k_right17_ok (okCons k_some17_ok (okCons k_Do_ok (okCons k_Alu_ok (okCons k_Has_ok (okCons k_Right_ok (okCons k_Shift_ok (okCons k_Low_ok (okCons k_Extend_ok okNil)))))))))), eqs_ok, okNilB, okNilI, okNilP⟩ Tryd.func8 rfl mixed [(4, 5, [0, 0, 3, 0, 0, 31, 63, 127]), (9, 11, [0, 0, 3, 7, 0, 0, 63, 127, 255, 255, 0, 1535, 4095]), (18, 11, [0, 0, 3, 7, 0, 0, 63, 127, 255, 255, 0, 1535, 4095]), (26, 10, [0, 0, 0, 6, 14, 31, 63, 127, 127, 0, 767, 2047])] (by kernel_rfl) 10000 (by rfl) ?_
    (conv => whnf)
    (repeat' (first | (refine .inl ⟨20, ?_⟩; (conv => whnf)) | (refine step_t (by first | rfl | assumption) ?_; (conv => whnf)) | (refine step_f (by first | rfl | assumption) ?_; (conv => whnf)) | (refine step_nt (by assumption) ?_; (conv => whnf)) | (refine step_nf (by assumption) ?_; (conv => whnf)) | (refine step_n (fun hb => ?_) (fun hb => ?_) <;> (first | contradiction | (conv => whnf))) | (refine And.intro (fun hb => ?_) (fun hb => ?_) <;> (first | contradiction | (conv => whnf))) | (refine And.intro ?_ ?_; rotate_left 1; (conv => whnf))))
    all_goals (first | rfl | trivial | assumption)
  · trivial
end Go.Proofs.YtaickooakoikaaaDoor
