import Derived.Test.YtgfemfgimefmeaaGreatTXA
import Derived.Test.YtgfemfgimefmeaaGreatTnumV
namespace Go.Proofs.YtgfemfgimefmeaaGreat
open Go.RowKit Go.Sx
set_option linter.unusedSimpArgs false
set_option linter.unusedVariables false
set_option linter.unnecessarySimpa false
set_option maxRecDepth 100000
set_option maxHeartbeats 4000000
namespace T
/-- A word shifted. -/
def sh (op : Int) (x : BitVec 64) (n : Nat) : BitVec 64 := if op == 96 then x <<< n else if op == 112 then x >>> n else x.sshiftRight (min n 64)
def shift (op : Int) (a : Tn) (n : Int) : Tn × Bool := if (op == 96 || op == 112 || op == 192) && right a && !decide (n < 0) && !decide (63 < n) then (⟨sh op a.v n.toNat, sh op a.m n.toNat⟩, true) else (⟨0, 0⟩, false)
end T
theorem sshr (x : BitVec 64) (n : Nat) : BitVec.ofInt 64 ((sv x).fdiv (2 ^ min n IntKind.i64.bits)) = x.sshiftRight (min n 64) := by
  unfold BitVec.sshiftRight
  rw [show IntKind.i64.bits = 64 from rfl, Int.fdiv_eq_ediv_of_nonneg _ (Int.le_of_lt (Int.pow_pos (by decide))), Int.shiftRight_eq_div_pow]
  simp [sv]
def k_low1 : List SV → List Blk → Res := fun args M => match args with
  | [.u64 x, .ptr b 0] => match nth M b with
    | some (.cells ty [.u64 n]) => .ok (.u64 (x &&& n)) []
    | _ => .fail
  | _ => .fail
theorem k_low1_ok : CtrOk Tryz.prog Gw 142 k_low1 := by
  refine ⟨fun _ _ => by kernel_rfl, fun args M => ?_⟩
  unfold k_low1
  split
  · split
    · rename_i x b _ ty n hm0
      simp only [nth_eq] at hm0
      refine ctr_sel (Γ := ⟨[], eqs, [], [], [], mixs, meqs⟩) (sv := .u64 (x &&& n)) st_Gw ⟨okNil, eqs_ok, okNilB, okNilI, okNilP, mixs_ok, meqs_ok⟩ Tryz.func142 rfl mixed [] (by kernel_rfl) 10000 [b] [.u64 x, .ptr 0 0] [.rc ty [.u64 n]] (fun ρ => rfl) rfl ⟨⟨_, hm0, ⟨_, .inl rfl, fun _ => rfl⟩⟩, trivial⟩ ?_
      (conv => whnf)
      (repeat' (first | (refine And.intro (fun hb => ?_) (fun hb => ?_) <;> (first | contradiction | (conv => whnf))) | (refine And.intro ?_ ?_; rotate_left 1; (conv => whnf))))
      all_goals (first | rfl | trivial | (simp_all [eqv, eqv1, eqv2, eqvL1, eqvL2]))
    · trivial
  · trivial
end Go.Proofs.YtgfemfgimefmeaaGreat
namespace Go.Proofs.YtgfemfgimefmeaaGreat
open Go.RowKit Go.Sx
set_option linter.unusedSimpArgs false
set_option linter.unusedVariables false
set_option linter.unnecessarySimpa false
set_option maxRecDepth 100000
set_option maxHeartbeats 4000000
namespace T
def low (a : Tn) (n : Int) : Tn × Bool := if right a then (if n == 1 then (⟨a.v &&& 255#64, a.m &&& 255#64⟩, true) else if n == 2 then (⟨a.v &&& 65535#64, a.m &&& 65535#64⟩, true) else if n == 4 then (⟨a.v &&& 4294967295#64, a.m &&& 4294967295#64⟩, true) else if n == 8 then (⟨a.v &&& 18446744073709551615#64, a.m &&& 18446744073709551615#64⟩, true) else (⟨0, 0⟩, false)) else (⟨0, 0⟩, false)
end T
def k_Low : List SV → List Blk → Res := fun args _ => match args with
  | [.agg [.u64 av, .u64 am], .int .i64 n] => .ok (.tup [tsv (T.low ⟨av, am⟩ n).1, .bool (T.low ⟨av, am⟩ n).2]) []
  | _ => .fail
theorem k_Low_ok : CtrOk Tryz.prog Gw 92 k_Low := by
  refine ⟨fun _ _ => by kernel_rfl, fun args M => ?_⟩
  unfold k_Low
  split
  · rename_i av am n
    refine ctr_flat (Γ := ⟨[(95, k_Right), (142, k_low1)], eqs, [], [(141, Tryz.f141, [(4, 5, [0, 0, 0, 6, 14, 31, 63]), (5, 6, [0, 1, 3, 0, 8, 24, 63, 127])]), (162, Tryz.f162, []), (185, Tryz.f185, [])], [], mixs, meqs⟩) (sv := .tup [tsv (T.low ⟨av, am⟩ n).1, .bool (T.low ⟨av, am⟩ n).2]) st_Gw ⟨(okCons k_Right_ok (okCons k_low1_ok okNil)), eqs_ok, okNilB, (okConsI Tryz.func141 rfl (by kernel_rfl) (fun _ _ => by kernel_rfl) (okConsI Tryz.func162 rfl (by kernel_rfl) (fun _ _ => by kernel_rfl) (okConsI Tryz.func185 rfl (by kernel_rfl) (fun _ _ => by kernel_rfl) okNilI))), okNilP, mixs_ok, meqs_ok⟩ Tryz.func92 rfl mixed [] (by kernel_rfl) 10000 (by rfl) ?_
    (conv => whnf)
    (repeat' (first | (refine And.intro (fun hb => ?_) (fun hb => ?_) <;> (first | contradiction | (conv => whnf))) | (refine And.intro ?_ ?_; rotate_left 1; (conv => whnf))))
    all_goals (first | rfl | trivial | (simp_all [eqv, eqv1, eqv2, T.low]; done) | (simp_all [eqv, eqv1, eqv2, T.low]; rfl))
  · trivial
namespace W
def divU (a b : BitVec 64) : BitVec 64 := if b == 0#64 then 0 else a / b
def modU (a b : BitVec 64) : BitVec 64 := if b == 0#64 then a else a % b
def divS (a b : Int) : Int := if b == 0 then 0 else IntKind.i64.wrap (a.tdiv b)
def modS (a b : Int) : Int := if b == 0 then a else a.tmod b
/-- What an operation makes of two wide words. -/
def alu (op off : Int) (a b : BitVec 64) : BitVec 64 × Bool :=
  if op == 0 && (off == 0 && true) then (a + b, true) else if op == 16 && (off == 0 && true) then (a - b, true) else if op == 32 && (off == 0 && true) then (a * b, true) else if op == 48 && (off == 0 && true) then (divU a b, true) else if op == 48 && (off == 1 && true) then (BitVec.ofInt 64 (divS (sv a) (sv b)), true) else if op == 144 && (off == 0 && true) then (modU a b, true) else if op == 144 && (off == 1 && true) then (BitVec.ofInt 64 (modS (sv a) (sv b)), true) else if op == 64 && (off == 0 && true) then (a ||| b, true) else if op == 80 && (off == 0 && true) then (a &&& b, true) else if op == 160 && (off == 0 && true) then (a ^^^ b, true) else if op == 96 && (off == 0 && true) then (a <<< (b % 64#64).toNat, true) else if op == 112 && (off == 0 && true) then (a >>> (b % 64#64).toNat, true) else if op == 192 && (off == 0 && true) then (a.sshiftRight (min (b % 64#64).toNat 64), true) else if op == 128 && (off == 0 && true) then (-a, true) else if op == 176 && (off == 0 && true) then (b, true) else if op == 176 && (off == 8 && true) then (BitVec.ofInt 64 (IntKind.i8.wrap (uv b)), true) else if op == 176 && (off == 16 && true) then (BitVec.ofInt 64 (IntKind.i16.wrap (uv b)), true) else (0, false)
/-- The lowest bytes. -/
def ext (a : BitVec 64) (n : Int) : BitVec 64 × Bool := if n == 1 then (BitVec.ofInt 64 (IntKind.u8.wrap (uv a)), true) else if n == 2 then (BitVec.ofInt 64 (IntKind.u16.wrap (uv a)), true) else if n == 4 then (BitVec.ofInt 64 (IntKind.u32.wrap (uv a)), true) else if n == 8 then (a, true) else (0, false)
def aluW (op off : Int) (a b : BitVec 64) : BitVec 64 × Bool := if op == 176 && off == 32 then (BitVec.ofInt 64 (IntKind.i32.wrap (uv b)), true) else alu op off a b
end W
def k_Extend : List SV → List Blk → Res := fun args _ => match args with
  | [.u64 a, .int .i64 n, .ff] => .ok (.tup [.u64 (W.ext a n).1, .bool (W.ext a n).2]) []
  | _ => .fail
theorem k_Extend_ok : CtrOk Tryz.prog Gw 41 k_Extend := by
  refine ⟨fun _ _ => by kernel_rfl, fun args M => ?_⟩
  unfold k_Extend
  split
  · rename_i a n
    refine ctr_flat (Γ := ⟨[], eqs, [], [], [], mixs, meqs⟩) (sv := .tup [.u64 (W.ext a n).1, .bool (W.ext a n).2]) st_Gw ⟨okNil, eqs_ok, okNilB, okNilI, okNilP, mixs_ok, meqs_ok⟩ Tryz.func41 rfl mixed [] (by kernel_rfl) 10000 (by rfl) ?_
    (conv => whnf)
    (repeat' (first | (refine And.intro (fun hb => ?_) (fun hb => ?_) <;> (first | contradiction | (conv => whnf))) | (refine And.intro ?_ ?_; rotate_left 1; (conv => whnf))))
    all_goals (first | rfl | trivial | (simp_all [eqv, eqv1, eqv2, W.ext]; done))
  · trivial
end Go.Proofs.YtgfemfgimefmeaaGreat
namespace Go.Proofs.YtgfemfgimefmeaaGreat
open Go.RowKit Go.Sx
set_option linter.unusedSimpArgs false
set_option linter.unusedVariables false
set_option linter.unnecessarySimpa false
set_option maxRecDepth 100000
set_option maxHeartbeats 4000000
namespace T
theorem bit_is (n : BitVec 64) (i : Nat) : (((n >>> i) &&& 1#64) == 1#64) = n.getLsbD i := by
  cases h : n.getLsbD i
  · rw [beq_eq_false_iff_ne]; intro e
    have := congrArg (fun x => BitVec.getLsbD x 0) e
    simp [h] at this
  · rw [beq_iff_eq]
    apply BitVec.eq_of_getLsbD_eq
    intro k hk
    by_cases h0 : k = 0
    · subst h0; simp [h]
    · simp [BitVec.getLsbD_one, h0]
theorem ofInt_small {i : Int} (h0 : 0 ≤ i) (h : i < 64) : (BitVec.ofInt 64 i).toNat = i.toNat := by
  rw [BitVec.toNat_ofInt]; omega
end T
def k_rBit : List SV → List Blk → Res := fun args _ => match args with
  | [.u64 n, .int .i64 i] => .test (decide (0 ≤ i) && decide (i < 64)) (.ok (.bool (n.getLsbD i.toNat)) [])
  | _ => .fail
theorem k_rBit_ok : CtrOk Tryz.prog Gw 183 k_rBit := by
  refine ⟨fun _ _ => by kernel_rfl, fun args M => ?_⟩
  unfold k_rBit
  split
  · rename_i n i
    intro ht
    refine ctr_flat (Γ := ⟨[], eqs, [], [], [], mixs, meqs⟩) (sv := .bool (n.getLsbD i.toNat)) st_Gw ⟨okNil, eqs_ok, okNilB, okNilI, okNilP, mixs_ok, meqs_ok⟩ Tryz.func183 rfl mixed [] (by kernel_rfl) 10000 (by rfl) ?_
    (conv => whnf)
    (repeat' (first | (refine And.intro (fun hb => ?_) (fun hb => ?_) <;> (first | contradiction | (conv => whnf))) | (refine And.intro ?_ ?_; rotate_left 1; (conv => whnf))))
    all_goals (first | trivial | (simp only [Bool.and_eq_true, decide_eq_true_eq] at ht; simp only [eqv, eqv1, T.ofInt_small ht.1 ht.2]; exact T.bit_is _ _))
  · trivial
def k_rConst : List SV → List Blk → Res := fun args _ => match args with
  | [.u64 n] => .ok (tsv ⟨n, 0⟩) []
  | _ => .fail
theorem k_rConst_ok : CtrOk Tryz.prog Gw 119 k_rConst := by
  refine ⟨fun _ _ => by kernel_rfl, fun args M => ?_⟩
  unfold k_rConst
  split
  · rename_i n
    refine ctr_flat (Γ := ⟨[], eqs, [], [], [], mixs, meqs⟩) (sv := tsv ⟨n, 0⟩) st_Gw ⟨okNil, eqs_ok, okNilB, okNilI, okNilP, mixs_ok, meqs_ok⟩ Tryz.func119 rfl mixed [] (by kernel_rfl) 10000 (by rfl) ?_
    (conv => whnf)
    (repeat' (first | (refine And.intro (fun hb => ?_) (fun hb => ?_) <;> (first | contradiction | (conv => whnf))) | (refine And.intro ?_ ?_; rotate_left 1; (conv => whnf))))
    all_goals (first | rfl | trivial | (simp_all [eqv, eqv1, eqv2, eqvL1, eqvL2]))
  · trivial
end Go.Proofs.YtgfemfgimefmeaaGreat
namespace Go.Proofs.YtgfemfgimefmeaaGreat
open Go.RowKit Go.Sx
set_option linter.unusedSimpArgs false
set_option linter.unusedVariables false
set_option linter.unnecessarySimpa false
set_option maxRecDepth 100000
set_option maxHeartbeats 4000000
end Go.Proofs.YtgfemfgimefmeaaGreat
namespace Go.Proofs.YtgfemfgimefmeaaGreat
open Go.RowKit Go.Sx
set_option linter.unusedSimpArgs false
set_option linter.unusedVariables false
set_option linter.unnecessarySimpa false
set_option maxRecDepth 100000
set_option maxHeartbeats 4000000
theorem one_is {j : Nat} (hj : j < 64) : BitVec.ofInt 64 1 <<< (BitVec.ofInt 64 (j : Int)).toNat = 1#64 <<< j := by
  rw [T.ofInt_small (by omega) (by omega), Int.toNat_natCast]; rfl
theorem zero_is : BitVec.ofInt 64 0 = 0#64 := by decide
namespace T
theorem of_mk {f g : Nat → Bool} {t : Tn} (h : right t = true) (hf : ∀ i, i < 64 → f i = (t.v.getLsbD i || t.m.getLsbD i)) (hg : ∀ i, i < 64 → g i = !t.v.getLsbD i) : of (mk f 64) (mk g 64) = (t, true) := by
  have e1 : mk f 64 = t.v ||| t.m := ext64 fun i hi => by rw [mk_bit f 64 i hi, BitVec.getLsbD_or, hf i hi]; simp [hi]
  have e2 : mk g 64 = ~~~t.v := ext64 fun i hi => by rw [mk_bit g 64 i hi, not_bit hi, hg i hi]; simp [hi]
  rw [e1, e2, of_ones h]
theorem of_meet {a b : Tn} (ha : right a = true) (hb : right b = true) : of ((a.v ||| a.m) &&& (b.v ||| b.m)) (~~~a.v &&& ~~~b.v) = meet a b := by
  have hc : ((a.v ||| a.m) &&& (b.v ||| b.m)) ||| (~~~a.v &&& ~~~b.v) = BitVec.allOnes 64 ↔ (a.v ^^^ b.v) &&& ~~~a.m &&& ~~~b.m = 0#64 := by
    constructor
    · intro h
      apply ext64; intro i hi
      have := congrArg (fun x => BitVec.getLsbD x i) h
      have p := right_bit ha i; have q := right_bit hb i
      simp only [BitVec.getLsbD_and, BitVec.getLsbD_or, BitVec.getLsbD_xor, BitVec.getLsbD_not, BitVec.getLsbD_allOnes, BitVec.getLsbD_zero, hi, decide_true, Bool.true_and] at this ⊢
      revert this p q
      cases a.v.getLsbD i <;> cases a.m.getLsbD i <;> cases b.v.getLsbD i <;> cases b.m.getLsbD i <;> simp
    · intro h
      apply ext64; intro i hi
      have := congrArg (fun x => BitVec.getLsbD x i) h
      have p := right_bit ha i; have q := right_bit hb i
      simp only [BitVec.getLsbD_and, BitVec.getLsbD_or, BitVec.getLsbD_xor, BitVec.getLsbD_not, BitVec.getLsbD_allOnes, BitVec.getLsbD_zero, hi, decide_true, Bool.true_and] at this ⊢
      revert this p q
      cases a.v.getLsbD i <;> cases a.m.getLsbD i <;> cases b.v.getLsbD i <;> cases b.m.getLsbD i <;> simp
  unfold of meet
  rw [ha, hb]
  simp only [Bool.not_true, Bool.false_or]
  by_cases h : (a.v ^^^ b.v) &&& ~~~a.m &&& ~~~b.m = 0#64
  · rw [if_neg (by simp [hc.2 h]), if_neg (by simp [h])]
    congr 2
    · apply ext64; intro i hi
      have := congrArg (fun x => BitVec.getLsbD x i) h
      have p := right_bit ha i; have q := right_bit hb i
      simp only [BitVec.getLsbD_and, BitVec.getLsbD_or, BitVec.getLsbD_xor, BitVec.getLsbD_not, BitVec.getLsbD_allOnes, BitVec.getLsbD_zero, hi, decide_true, Bool.true_and] at this ⊢
      revert this p q
      cases a.v.getLsbD i <;> cases a.m.getLsbD i <;> cases b.v.getLsbD i <;> cases b.m.getLsbD i <;> simp
    · apply ext64; intro i hi
      have := congrArg (fun x => BitVec.getLsbD x i) h
      have p := right_bit ha i; have q := right_bit hb i
      simp only [BitVec.getLsbD_and, BitVec.getLsbD_or, BitVec.getLsbD_xor, BitVec.getLsbD_not, BitVec.getLsbD_allOnes, BitVec.getLsbD_zero, hi, decide_true, Bool.true_and] at this ⊢
      revert this p q
      cases a.v.getLsbD i <;> cases a.m.getLsbD i <;> cases b.v.getLsbD i <;> cases b.m.getLsbD i <;> simp
  · rw [if_pos (bne_iff_ne.2 fun e => h (hc.1 e)), if_pos (bne_iff_ne.2 h)]
/-- What a bit of a shifted one may be. -/
def s1 (op : Int) (t : Tn) (n i : Nat) : Bool := if op = 96 then decide (n ≤ i) && may t (i - n) true else if op = 112 then decide (i + n < 64) && may t (i + n) true else may t (min (i + n) 63) true
def s0 (op : Int) (t : Tn) (n i : Nat) : Bool := if op = 96 then !decide (n ≤ i) || may t (i - n) false else if op = 112 then !decide (i + n < 64) || may t (i + n) false else may t (min (i + n) 63) false
theorem sh_bit (op : Int) (hop : op = 96 ∨ op = 112 ∨ op = 192) (x : BitVec 64) (n i : Nat) (hn : n < 64) (hi : i < 64) : (sh op x n).getLsbD i = if op = 96 then decide (n ≤ i) && x.getLsbD (i - n) else if op = 112 then decide (i + n < 64) && x.getLsbD (i + n) else x.getLsbD (min (i + n) 63) := by
  rcases hop with rfl | rfl | rfl
  · show (x <<< n).getLsbD i = _
    rw [if_pos rfl, BitVec.getLsbD_shiftLeft]
    by_cases h : n ≤ i
    · simp [hi, h, show ¬ i < n by omega]
    · simp [h, show i < n by omega]
  · show (x >>> n).getLsbD i = _
    rw [if_neg (by decide), if_pos rfl, BitVec.getLsbD_ushiftRight, Nat.add_comm n i]
    by_cases h : i + n < 64
    · simp [h]
    · rw [BitVec.getLsbD_of_ge _ _ (by omega)]; simp [h]
  · show (x.sshiftRight (min n 64)).getLsbD i = _
    rw [if_neg (by decide), if_neg (by decide), show min n 64 = n by omega, BitVec.getLsbD_sshiftRight]
    by_cases h : n + i < 64
    · simp [hi, h, show min (i + n) 63 = n + i by omega]
    · simp [hi, h, show min (i + n) 63 = 63 by omega, BitVec.msb_eq_getLsbD_last]
theorem of_shift (op : Int) (hop : op = 96 ∨ op = 112 ∨ op = 192) {t : Tn} (h : right t = true) (n : Nat) (hn : n < 64) : of (mk (s1 op t n) 64) (mk (s0 op t n) 64) = (⟨sh op t.v n, sh op t.m n⟩, true) := by
  apply of_mk
  · apply right_iff.2; intro i hi
    rw [sh_bit op hop _ _ _ hn hi, sh_bit op hop _ _ _ hn hi]
    have p1 := right_bit h (i - n); have p2 := right_bit h (i + n); have p3 := right_bit h (min (i + n) 63)
    split
    · cases hd : decide (n ≤ i) <;> simp_all
    · split
      · cases hd : decide (i + n < 64) <;> simp_all
      · exact p3
  · intro i hi
    simp only [sh_bit op hop _ _ _ hn hi, s1, may]
    split
    · cases decide (n ≤ i) <;> cases t.v.getLsbD (i - n) <;> cases t.m.getLsbD (i - n) <;> rfl
    · split
      · cases decide (i + n < 64) <;> cases t.v.getLsbD (i + n) <;> cases t.m.getLsbD (i + n) <;> rfl
      · cases t.v.getLsbD (min (i + n) 63) <;> cases t.m.getLsbD (min (i + n) 63) <;> rfl
  · intro i hi
    simp only [sh_bit op hop _ _ _ hn hi, s0, may]
    have p1 := right_bit h (i - n); have p2 := right_bit h (i + n); have p3 := right_bit h (min (i + n) 63)
    revert p1 p2 p3
    split
    · cases decide (n ≤ i) <;> cases t.v.getLsbD (i - n) <;> cases t.m.getLsbD (i - n) <;> simp
    · split
      · cases decide (i + n < 64) <;> cases t.v.getLsbD (i + n) <;> cases t.m.getLsbD (i + n) <;> simp
      · cases t.v.getLsbD (min (i + n) 63) <;> cases t.m.getLsbD (min (i + n) 63) <;> simp
/-- What a bit of and, or, xor may be. -/
def b2 (op : Int) (p q : Bool) : Bool := if op = 64 then p || q else if op = 160 then p ^^ q else p && q
def q1 (op : Int) (a b : Tn) (i : Nat) : Bool := (may a i false && may b i false && b2 op false false) || (may a i true && may b i false && b2 op true false) || (may a i false && may b i true && b2 op false true) || (may a i true && may b i true && b2 op true true)
def q0 (op : Int) (a b : Tn) (i : Nat) : Bool := (may a i false && may b i false && !b2 op false false) || (may a i true && may b i false && !b2 op true false) || (may a i false && may b i true && !b2 op false true) || (may a i true && may b i true && !b2 op true true)
/-- One of the four rounds at a bit. -/
def pr (op : Int) (a b : Tn) (i : Nat) (s : BitVec 64 × BitVec 64) (n : Nat) : BitVec 64 × BitVec 64 :=
  if may a i (n.testBit 0) && may b i (n.testBit 1) then (if b2 op (n.testBit 0) (n.testBit 1) then (s.1 ||| 1#64 <<< i, s.2) else (s.1, s.2 ||| 1#64 <<< i)) else s
def prs (op : Int) (a b : Tn) (i : Nat) (s : BitVec 64 × BitVec 64) : Nat → BitVec 64 × BitVec 64
  | 0 => s
  | k + 1 => pr op a b i (prs op a b i s k) k
theorem pr_form (op : Int) (a b : Tn) (i : Nat) (x y : BitVec 64) (u v : Bool) (n : Nat) :
    pr op a b i (if u = true then x ||| 1#64 <<< i else x, if v = true then y ||| 1#64 <<< i else y) n =
      (if (u || (may a i (n.testBit 0) && may b i (n.testBit 1) && b2 op (n.testBit 0) (n.testBit 1))) = true then x ||| 1#64 <<< i else x, if (v || (may a i (n.testBit 0) && may b i (n.testBit 1) && !b2 op (n.testBit 0) (n.testBit 1))) = true then y ||| 1#64 <<< i else y) := by
  unfold pr
  cases may a i (n.testBit 0) <;> cases may b i (n.testBit 1) <;> cases b2 op (n.testBit 0) (n.testBit 1) <;> cases u <;> cases v <;> simp [or_twice]
theorem prs4 (op : Int) (a b : Tn) (i : Nat) : prs op a b i (mk (q1 op a b) i, mk (q0 op a b) i) 4 = (mk (q1 op a b) (i + 1), mk (q0 op a b) (i + 1)) := by
  have h : prs op a b i (mk (q1 op a b) i, mk (q0 op a b) i) 0 = (if false = true then mk (q1 op a b) i ||| 1#64 <<< i else mk (q1 op a b) i, if false = true then mk (q0 op a b) i ||| 1#64 <<< i else mk (q0 op a b) i) := rfl
  simp only [prs] at h ⊢
  rw [h, pr_form, pr_form, pr_form, pr_form]
  rw [Prod.mk.injEq]
  constructor
  · refine (ite_b (v := q1 op a b i) ?_).trans (by simp only [mk])
    unfold q1
    simp [show Nat.testBit 1 0 = true from rfl, show Nat.testBit 1 1 = false from rfl, show Nat.testBit 2 0 = false from rfl, show Nat.testBit 2 1 = true from rfl, show Nat.testBit 3 0 = true from rfl, show Nat.testBit 3 1 = true from rfl]
  · refine (ite_b (v := q0 op a b i) ?_).trans (by simp only [mk])
    unfold q0
    simp [show Nat.testBit 1 0 = true from rfl, show Nat.testBit 1 1 = false from rfl, show Nat.testBit 2 0 = false from rfl, show Nat.testBit 2 1 = true from rfl, show Nat.testBit 3 0 = true from rfl, show Nat.testBit 3 1 = true from rfl]
def logic (op : Int) (a b : Tn) : Tn := if op = 64 then or a b else if op = 160 then xor a b else and a b
theorem of_logic (op : Int) {a b : Tn} (ha : right a = true) (hb : right b = true) : of (mk (q1 op a b) 64) (mk (q0 op a b) 64) = (logic op a b, true) := by
  have key : ∀ i, i < 64 → ((logic op a b).v.getLsbD i && (logic op a b).m.getLsbD i) = false ∧ q1 op a b i = ((logic op a b).v.getLsbD i || (logic op a b).m.getLsbD i) ∧ q0 op a b i = !(logic op a b).v.getLsbD i := by
    intro i hi
    have p := right_bit ha i; have q := right_bit hb i
    unfold logic q1 q0 b2
    split
    · simp only [T.or, may, BitVec.getLsbD_and, BitVec.getLsbD_or, BitVec.getLsbD_xor, BitVec.getLsbD_not, hi, decide_true, Bool.true_and]
      revert p q
      cases a.v.getLsbD i <;> cases a.m.getLsbD i <;> cases b.v.getLsbD i <;> cases b.m.getLsbD i <;> simp
    · split
      · simp only [T.xor, may, BitVec.getLsbD_and, BitVec.getLsbD_or, BitVec.getLsbD_xor, BitVec.getLsbD_not, hi, decide_true, Bool.true_and]
        revert p q
        cases a.v.getLsbD i <;> cases a.m.getLsbD i <;> cases b.v.getLsbD i <;> cases b.m.getLsbD i <;> simp
      · simp only [T.and, may, BitVec.getLsbD_and, BitVec.getLsbD_or, BitVec.getLsbD_xor, BitVec.getLsbD_not, hi, decide_true, Bool.true_and]
        revert p q
        cases a.v.getLsbD i <;> cases a.m.getLsbD i <;> cases b.v.getLsbD i <;> cases b.m.getLsbD i <;> simp
  exact of_mk (right_iff.2 fun i hi => (key i hi).1) (fun i hi => (key i hi).2.1) fun i hi => (key i hi).2.2
theorem of_sums (less : Bool) {a b : Tn} (ha : right a = true) (hb : right b = true) : of (mk (sx less a b) 64) (mk (sy less a b) 64) = (if less then difference a b else sum a b, true) := by
  cases less
  · exact of_mk (right_iff.2 fun i hi => (sum_bits ha hb hi).2.2) (fun i hi => (sum_bits ha hb hi).1) fun i hi => (sum_bits ha hb hi).2.1
  · exact of_mk (right_iff.2 fun i hi => (dif_bits ha hb hi).2.2) (fun i hi => (dif_bits ha hb hi).1) fun i hi => (dif_bits ha hb hi).2.1
theorem mul_low_of {a b : Tn} {n : Nat} (hn : min (tz a.m) (tz b.m) = n) : product a b = ⟨a.v * b.v &&& (1#64 <<< n - 1#64), ~~~(1#64 <<< n - 1#64)⟩ := by
  have h64 : n ≤ 64 := by have := tz_le a.m; omega
  unfold product
  rw [hn]
  simp only [← not_low n h64]
  congr 1
  apply ext64; intro i hi; simp [hi]
end T
end Go.Proofs.YtgfemfgimefmeaaGreat
namespace Go.Proofs.YtgfemfgimefmeaaGreat
open Go.RowKit Go.Sx
set_option linter.unusedSimpArgs false
set_option linter.unusedVariables false
set_option linter.unnecessarySimpa false
set_option maxRecDepth 100000
set_option maxHeartbeats 4000000
theorem dec63 {j : Nat} (h : j < 64) : IntKind.i64.wrap (63 - (j : Int) - 1) = 63 - ((j + 1 : Nat) : Int) := by rw [IntWalk.i64_in _ (by omega)]; omega
theorem rrange_run (lo hi : BitVec 64) : run Tryz.prog ⟨[(155, k_rRight), (183, k_rBit), (118, k_rUnknown), (180, k_of)], eqs, [], [], [], mixs, meqs⟩ 10000 [] 0 (bodyOf Tryz.f158) (initF Tryz.f158 [.u64 lo, .u64 hi]) [] (retK Tryz.prog Tryz.f158 fun x _ => eqv x (tsv (T.range lo hi))) := by
  (conv => whnf)
  (repeat' (first | (refine And.intro (fun hb => ?_) (fun hb => ?_) <;> (first | contradiction | (conv => whnf))) | (refine And.intro ?_ ?_; rotate_left 1; (conv => whnf))))
  all_goals try (simp_all [eqv, eqv1, T.range]; done)
  · have hle : ¬ hi < lo := of_decide_eq_false hb
    refine .inr ⟨[], [0, 1, 4, 5, 6], fun k vals M => ∃ j : Nat, j ≤ 64 ∧ k = 64 - j ∧ (∀ k, k < 64 → 64 ≤ k + j → lo.getLsbD k = hi.getLsbD k) ∧ vals = [.u64 lo, .u64 hi, .ptr 0 0, .ptr 1 0, .int .i64 (63 - (j : Int))] ∧ M = [.cells 25 [.u64 (BitVec.ofInt 64 0), .u64 (BitVec.ofInt 64 0)], .cells 25 [.u64 lo, .u64 (BitVec.ofInt 64 0)]], ?_⟩
    conv => whnf
    refine And.intro ⟨64, [.cells 25 [.u64 (BitVec.ofInt 64 0), .u64 (BitVec.ofInt 64 0)], .cells 25 [.u64 lo, .u64 (BitVec.ofInt 64 0)]], (mle_cons ble_refl (mle_cons ble_refl mle_nil)), rfl, rfl, 0, by omega, by omega, fun k h1 h2 => by omega, rfl, rfl⟩ ?_
    rintro k vals M1 ⟨j, hj, rfl, hx, rfl, rfl⟩
    (conv => whnf)
    (repeat' (first | (refine And.intro (fun hb => ?_) (fun hb => ?_) <;> (first | contradiction | (conv => whnf))) | (refine And.intro ?_ ?_; rotate_left 1; (conv => whnf))))
    all_goals try (first | rfl | trivial | (simp; done) | (simp; omega) | (simp at hb ⊢; omega) | (simp only [decide_eq_true_eq, Bool.and_eq_true, Int.toNat_natCast] at *; omega))
    · have hlt : j < 64 := by (have h := ‹decide ((0 : Int) ≤ 63 - (j : Int)) = true›; simp at h; omega)
      have e : ((63 : Int) - (j : Int)).toNat = 63 - j := by omega
      rw [e] at hb
      have hr := T.range_at (i := 63 - j) (by omega) hle hb fun k h1 h2 => hx k h2 (by omega)
      rw [hr]; simp only [T.ofInt_small (show (0 : Int) ≤ 63 - (j : Int) by omega) (by omega), e]; rfl
    · have hlt : j < 64 := by (have h := ‹decide ((0 : Int) ≤ 63 - (j : Int)) = true›; simp at h; omega)
      have e : ((63 : Int) - (j : Int)).toNat = 63 - j := by omega
      rw [e] at hb
      have hr := T.range_at (i := 63 - j) (by omega) hle hb fun k h1 h2 => hx k h2 (by omega)
      rw [hr]; simp only [T.ofInt_small (show (0 : Int) ≤ 63 - (j : Int) by omega) (by omega), e]; rfl
    · have hlt : j < 64 := by (have h := ‹decide ((0 : Int) ≤ 63 - (j : Int)) = true›; simp at h; omega)
      have e : ((63 : Int) - (j : Int)).toNat = 63 - j := by omega
      rw [e] at hb
      refine ⟨64 - (j + 1), [.cells 25 [.u64 (BitVec.ofInt 64 0), .u64 (BitVec.ofInt 64 0)], .cells 25 [.u64 lo, .u64 (BitVec.ofInt 64 0)]], [0, 1], by omega, rfl, (mle_cons ble_refl (mle_cons ble_refl mle_nil)), rfl, rfl, j + 1, by omega, rfl, ?_, ?_, rfl⟩
      · intro k h1 h2
        by_cases hk : 64 ≤ k + j
        · exact hx k h1 hk
        · obtain rfl : k = 63 - j := by omega
          simpa using hb
      · rw [← dec63 hlt]; rfl
    all_goals
      have hj2 : j = 64 := by simp at hb; omega
      subst hj2
      rw [T.range_same fun k h => hx k h (by omega)]; rfl
def k_rRange : List SV → List Blk → Res := fun args _ => match args with
  | [.u64 lo, .u64 hi] => .ok (tsv (T.range lo hi)) []
  | _ => .fail
theorem k_rRange_ok : CtrOk Tryz.prog Gw 158 k_rRange := by
  refine ⟨fun _ _ => by kernel_rfl, fun args M => ?_⟩
  unfold k_rRange
  split
  · rename_i lo hi
    exact ctr_flat (Γ := ⟨[(155, k_rRight), (183, k_rBit), (118, k_rUnknown), (180, k_of)], eqs, [], [], [], mixs, meqs⟩) (sv := tsv (T.range lo hi)) st_Gw ⟨(okCons k_rRight_ok (okCons k_rBit_ok (okCons k_rUnknown_ok (okCons k_of_ok okNil)))), eqs_ok, okNilB, okNilI, okNilP, mixs_ok, meqs_ok⟩ Tryz.func158 rfl mixed [] (by kernel_rfl) 10000 (by rfl) (rrange_run lo hi)
  · trivial
end Go.Proofs.YtgfemfgimefmeaaGreat
namespace Go.Proofs.YtgfemfgimefmeaaGreat
open Go.RowKit Go.Sx
set_option linter.unusedSimpArgs false
set_option linter.unusedVariables false
set_option linter.unnecessarySimpa false
set_option maxRecDepth 100000
set_option maxHeartbeats 4000000
namespace T
theorem does_mul {op : Int} {a b : Tn} (ha : right a = true) (hb : right b = true) (h : op = 32) : doesI op a b = (product a b, true) := by subst h; simp [doesI, opI, ha, hb]
theorem mul_64 {a b : Tn} (h : min (tz a.m) (tz b.m) = 64) : product a b = ⟨a.v * b.v, 0⟩ := by
  rw [mul_low_of h, show (1#64 <<< 64 - 1#64 : BitVec 64) = BitVec.allOnes 64 by decide]
  rw [BitVec.and_allOnes, show (~~~(BitVec.allOnes 64) : BitVec 64) = 0 by decide]
theorem mul_n {a b : Tn} (h : min (tz a.m) (tz b.m) ≠ 64) : product a b = ⟨a.v * b.v &&& (BitVec.ofInt 64 1 <<< (BitVec.ofInt 64 ((min (tz a.m) (tz b.m) : Nat) : Int)).toNat - BitVec.ofInt 64 1), ~~~(BitVec.ofInt 64 1 <<< (BitVec.ofInt 64 ((min (tz a.m) (tz b.m) : Nat) : Int)).toNat - BitVec.ofInt 64 1)⟩ := by
  have h64 : min (tz a.m) (tz b.m) < 64 := by have := tz_le a.m; omega
  rw [one_is h64, mul_low_of rfl]; rfl
theorem low_1 {a : Tn} (h : right a = true) : low a 1 = (⟨a.v &&& (BitVec.ofInt 64 1 <<< (BitVec.ofInt 64 (IntKind.i64.wrap (8 * 1))).toNat - BitVec.ofInt 64 1), a.m &&& (BitVec.ofInt 64 1 <<< (BitVec.ofInt 64 (IntKind.i64.wrap (8 * 1))).toNat - BitVec.ofInt 64 1)⟩, true) := by
  rw [show BitVec.ofInt 64 1 <<< (BitVec.ofInt 64 (IntKind.i64.wrap (8 * 1))).toNat - BitVec.ofInt 64 1 = 255#64 by decide]; simp [low, h]
theorem low_2 {a : Tn} (h : right a = true) : low a 2 = (⟨a.v &&& (BitVec.ofInt 64 1 <<< (BitVec.ofInt 64 (IntKind.i64.wrap (8 * 2))).toNat - BitVec.ofInt 64 1), a.m &&& (BitVec.ofInt 64 1 <<< (BitVec.ofInt 64 (IntKind.i64.wrap (8 * 2))).toNat - BitVec.ofInt 64 1)⟩, true) := by
  rw [show BitVec.ofInt 64 1 <<< (BitVec.ofInt 64 (IntKind.i64.wrap (8 * 2))).toNat - BitVec.ofInt 64 1 = 65535#64 by decide]; simp [low, h]
theorem low_4 {a : Tn} (h : right a = true) : low a 4 = (⟨a.v &&& (BitVec.ofInt 64 1 <<< (BitVec.ofInt 64 (IntKind.i64.wrap (8 * 4))).toNat - BitVec.ofInt 64 1), a.m &&& (BitVec.ofInt 64 1 <<< (BitVec.ofInt 64 (IntKind.i64.wrap (8 * 4))).toNat - BitVec.ofInt 64 1)⟩, true) := by
  rw [show BitVec.ofInt 64 1 <<< (BitVec.ofInt 64 (IntKind.i64.wrap (8 * 4))).toNat - BitVec.ofInt 64 1 = 4294967295#64 by decide]; simp [low, h]
theorem low_8 {a : Tn} (h : right a = true) : low a 8 = (a, true) := by
  unfold low
  rw [if_pos h, if_neg (by decide), if_neg (by decide), if_neg (by decide), if_pos (by decide), show (18446744073709551615#64 : BitVec 64) = BitVec.allOnes 64 by decide, BitVec.and_allOnes, BitVec.and_allOnes]
end T
def k_rOnes : List SV → List Blk → Res := fun args _ => match args with
  | [.agg [.u64 av, .u64 am]] => .ok (.u64 (av ||| am)) []
  | _ => .fail
theorem k_rOnes_ok : CtrOk Tryz.prog Gw 181 k_rOnes := by
  refine ⟨fun _ _ => by kernel_rfl, fun args M => ?_⟩
  unfold k_rOnes
  split
  · rename_i av am
    refine ctr_flat (Γ := ⟨[], eqs, [], [], [], mixs, meqs⟩) (sv := .u64 (av ||| am)) st_Gw ⟨okNil, eqs_ok, okNilB, okNilI, okNilP, mixs_ok, meqs_ok⟩ Tryz.func181 rfl mixed [] (by kernel_rfl) 10000 (by rfl) ?_
    (conv => whnf)
    (repeat' (first | (refine And.intro (fun hb => ?_) (fun hb => ?_) <;> (first | contradiction | (conv => whnf))) | (refine And.intro ?_ ?_; rotate_left 1; (conv => whnf))))
    all_goals (first | rfl | trivial | (simp_all [eqv, eqv1, eqv2, eqvL1, eqvL2]))
  · trivial
def k_rNoughts : List SV → List Blk → Res := fun args _ => match args with
  | [.agg [.u64 av, .u64 am]] => .ok (.u64 (~~~av)) []
  | _ => .fail
theorem k_rNoughts_ok : CtrOk Tryz.prog Gw 182 k_rNoughts := by
  refine ⟨fun _ _ => by kernel_rfl, fun args M => ?_⟩
  unfold k_rNoughts
  split
  · rename_i av am
    refine ctr_flat (Γ := ⟨[], eqs, [], [], [], mixs, meqs⟩) (sv := .u64 (~~~av)) st_Gw ⟨okNil, eqs_ok, okNilB, okNilI, okNilP, mixs_ok, meqs_ok⟩ Tryz.func182 rfl mixed [] (by kernel_rfl) 10000 (by rfl) ?_
    (conv => whnf)
    (repeat' (first | (refine And.intro (fun hb => ?_) (fun hb => ?_) <;> (first | contradiction | (conv => whnf))) | (refine And.intro ?_ ?_; rotate_left 1; (conv => whnf))))
    all_goals (first | rfl | trivial | (simp_all [eqv, eqv1, eqv2, eqvL1, eqvL2]))
  · trivial
def k_rMeet : List SV → List Blk → Res := fun args _ => match args with
  | [.agg [.u64 av, .u64 am], .agg [.u64 bv, .u64 bm]] => .ok (.tup [tsv (T.meet ⟨av, am⟩ ⟨bv, bm⟩).1, .bool (T.meet ⟨av, am⟩ ⟨bv, bm⟩).2]) []
  | _ => .fail
theorem k_rMeet_ok : CtrOk Tryz.prog Gw 157 k_rMeet := by
  refine ⟨fun _ _ => by kernel_rfl, fun args M => ?_⟩
  unfold k_rMeet
  split
  · rename_i av am bv bm
    refine ctr_flat (Γ := ⟨[(155, k_rRight), (181, k_rOnes), (182, k_rNoughts), (180, k_of)], eqs, [], [], [], mixs, meqs⟩) (sv := .tup [tsv (T.meet ⟨av, am⟩ ⟨bv, bm⟩).1, .bool (T.meet ⟨av, am⟩ ⟨bv, bm⟩).2]) st_Gw ⟨(okCons k_rRight_ok (okCons k_rOnes_ok (okCons k_rNoughts_ok (okCons k_of_ok okNil)))), eqs_ok, okNilB, okNilI, okNilP, mixs_ok, meqs_ok⟩ Tryz.func157 rfl mixed [(3, 12, [0, 1, 0, 7, 15, 0, 47, 0, 239, 495, 1023, 2047, 2047, 8191, 16383])] (by kernel_rfl) 10000 (by rfl) ?_
    (conv => whnf)
    (repeat' (first | (refine And.intro (fun hb => ?_) (fun hb => ?_) <;> (first | contradiction | (conv => whnf))) | (refine And.intro ?_ ?_; rotate_left 1; (conv => whnf))))
    all_goals (first | trivial | (simp_all [eqv, eqv1, eqv2, T.meet]; done) | (rw [← T.of_meet (by simp_all) (by simp_all)]; try rfl))
  · trivial
def k_rLow : List SV → List Blk → Res := fun args _ => match args with
  | [.agg [.u64 av, .u64 am], .int .i64 n] => .ok (.tup [tsv (T.low ⟨av, am⟩ n).1, .bool (T.low ⟨av, am⟩ n).2]) []
  | _ => .fail
theorem k_rLow_ok : CtrOk Tryz.prog Gw 120 k_rLow := by
  refine ⟨fun _ _ => by kernel_rfl, fun args M => ?_⟩
  unfold k_rLow
  split
  · rename_i av am n
    refine ctr_flat (Γ := ⟨[(155, k_rRight)], eqs, [], [], [], mixs, meqs⟩) (sv := .tup [tsv (T.low ⟨av, am⟩ n).1, .bool (T.low ⟨av, am⟩ n).2]) st_Gw ⟨(okCons k_rRight_ok okNil), eqs_ok, okNilB, okNilI, okNilP, mixs_ok, meqs_ok⟩ Tryz.func120 rfl mixed [] (by kernel_rfl) 10000 (by rfl) ?_
    (conv => whnf)
    (repeat' (first | (refine And.intro (fun hb => ?_) (fun hb => ?_) <;> (first | contradiction | (conv => whnf))) | (refine And.intro ?_ ?_; rotate_left 1; (conv => whnf))))
    all_goals (first | trivial | (simp_all [eqv, eqv1, eqv2, T.low]; done) | ((have h1 : n = 1 := by simp_all); subst h1; rw [T.low_1 (by simp_all)]; try rfl) | ((have h1 : n = 2 := by simp_all); subst h1; rw [T.low_2 (by simp_all)]; try rfl) | ((have h1 : n = 4 := by simp_all); subst h1; rw [T.low_4 (by simp_all)]; try rfl) | ((have h1 : n = 8 := by simp_all); subst h1; rw [T.low_8 (by simp_all)]; try rfl))
  · trivial
end Go.Proofs.YtgfemfgimefmeaaGreat
