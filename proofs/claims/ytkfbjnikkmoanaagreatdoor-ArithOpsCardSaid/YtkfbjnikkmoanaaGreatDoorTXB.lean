import Derived.Test.YtkfbjnikkmoanaaGreatDoorXW
import Derived.Test.YtkfbjnikkmoanaaGreatDoorTXA
import Derived.Test.YtkfbjnikkmoanaaGreatDoorTnumV
namespace Go.Proofs.YtkfbjnikkmoanaaGreatDoor
open Go.RowKit Go.Sx
set_option linter.unusedSimpArgs false
set_option linter.unusedVariables false
set_option linter.unnecessarySimpa false
set_option maxRecDepth 100000
set_option maxHeartbeats 4000000
namespace T
def of (x y : BitVec 64) : Tn × Bool := if x ||| y != BitVec.allOnes 64 then (⟨0, 0⟩, false) else (⟨x &&& ~~~y, x &&& y⟩, true)
end T
def k_rRight : List SV → List Blk → Res := fun args _ => match args with
  | [.agg [.u64 av, .u64 am]] => .ok (.bool (T.right ⟨av, am⟩)) []
  | _ => .fail
theorem k_rRight_ok : CtrOk Tryz.prog Gw 141 k_rRight := by
  refine ⟨fun _ _ => by kernel_rfl, fun args M => ?_⟩
  unfold k_rRight
  split
  · rename_i av am
    refine ctr_flat (Γ := ⟨[], eqs, [], [], []⟩) (sv := .bool (T.right ⟨av, am⟩)) st_Gw ⟨okNil, eqs_ok, okNilB, okNilI, okNilP⟩ Tryz.func141 rfl mixed [] (by kernel_rfl) 10000 (by rfl) ?_
    (conv => whnf)
    (repeat' (first | (refine And.intro (fun hb => ?_) (fun hb => ?_) <;> (first | contradiction | (conv => whnf))) | (refine And.intro ?_ ?_; rotate_left 1; (conv => whnf))))
    all_goals (first | rfl | trivial | (simp_all [eqv, eqv1, eqv2, eqvL1, eqvL2]))
  · trivial
def k_rUnknown : List SV → List Blk → Res := fun args _ => match args with
  | [] => .ok (tsv ⟨0, BitVec.allOnes 64⟩) []
  | _ => .fail
theorem k_rUnknown_ok : CtrOk Tryz.prog Gw 118 k_rUnknown := by
  refine ⟨fun _ _ => by kernel_rfl, fun args M => ?_⟩
  unfold k_rUnknown
  split
  · refine ctr_flat (Γ := ⟨[], eqs, [], [], []⟩) (sv := tsv ⟨0, BitVec.allOnes 64⟩) st_Gw ⟨okNil, eqs_ok, okNilB, okNilI, okNilP⟩ Tryz.func118 rfl mixed [] (by kernel_rfl) 10000 (by rfl) ?_
    (conv => whnf)
    (repeat' (first | (refine And.intro (fun hb => ?_) (fun hb => ?_) <;> (first | contradiction | (conv => whnf))) | (refine And.intro ?_ ?_; rotate_left 1; (conv => whnf))))
    all_goals (first | rfl | trivial | (simp_all [eqv, eqv1, eqv2, eqvL1, eqvL2]))
  · trivial
def k_ones : List SV → List Blk → Res := fun args _ => match args with
  | [.agg [.u64 av, .u64 am]] => .ok (.u64 (av ||| am)) []
  | _ => .fail
theorem k_ones_ok : CtrOk Tryz.prog Gw 181 k_ones := by
  refine ⟨fun _ _ => by kernel_rfl, fun args M => ?_⟩
  unfold k_ones
  split
  · rename_i av am
    refine ctr_flat (Γ := ⟨[], eqs, [], [], []⟩) (sv := .u64 (av ||| am)) st_Gw ⟨okNil, eqs_ok, okNilB, okNilI, okNilP⟩ Tryz.func181 rfl mixed [] (by kernel_rfl) 10000 (by rfl) ?_
    (conv => whnf)
    (repeat' (first | (refine And.intro (fun hb => ?_) (fun hb => ?_) <;> (first | contradiction | (conv => whnf))) | (refine And.intro ?_ ?_; rotate_left 1; (conv => whnf))))
    all_goals (first | rfl | trivial | (simp_all [eqv, eqv1, eqv2, eqvL1, eqvL2]))
  · trivial
def k_noughts : List SV → List Blk → Res := fun args _ => match args with
  | [.agg [.u64 av, .u64 am]] => .ok (.u64 (~~~av)) []
  | _ => .fail
theorem k_noughts_ok : CtrOk Tryz.prog Gw 182 k_noughts := by
  refine ⟨fun _ _ => by kernel_rfl, fun args M => ?_⟩
  unfold k_noughts
  split
  · rename_i av am
    refine ctr_flat (Γ := ⟨[], eqs, [], [], []⟩) (sv := .u64 (~~~av)) st_Gw ⟨okNil, eqs_ok, okNilB, okNilI, okNilP⟩ Tryz.func182 rfl mixed [] (by kernel_rfl) 10000 (by rfl) ?_
    (conv => whnf)
    (repeat' (first | (refine And.intro (fun hb => ?_) (fun hb => ?_) <;> (first | contradiction | (conv => whnf))) | (refine And.intro ?_ ?_; rotate_left 1; (conv => whnf))))
    all_goals (first | rfl | trivial | (simp_all [eqv, eqv1, eqv2, eqvL1, eqvL2]))
  · trivial
def k_of : List SV → List Blk → Res := fun args _ => match args with
  | [.u64 x, .u64 y] => .ok (.tup [tsv (T.of x y).1, .bool (T.of x y).2]) []
  | _ => .fail
theorem k_of_ok : CtrOk Tryz.prog Gw 180 k_of := by
  refine ⟨fun _ _ => by kernel_rfl, fun args M => ?_⟩
  unfold k_of
  split
  · rename_i x y
    refine ctr_flat (Γ := ⟨[], eqs, [], [], []⟩) (sv := .tup [tsv (T.of x y).1, .bool (T.of x y).2]) st_Gw ⟨okNil, eqs_ok, okNilB, okNilI, okNilP⟩ Tryz.func180 rfl mixed [] (by kernel_rfl) 10000 (by rfl) ?_
    (conv => whnf)
    (repeat' (first | (refine And.intro (fun hb => ?_) (fun hb => ?_) <;> (first | contradiction | (conv => whnf))) | (refine And.intro ?_ ?_; rotate_left 1; (conv => whnf))))
    all_goals (first | rfl | trivial | (simp_all [eqv, eqv1, eqv2, eqvL1, eqvL2, T.of]))
  · trivial
theorem of_ones {t : Tn} (h : T.right t = true) : T.of (t.v ||| t.m) (~~~t.v) = (t, true) := by
  have h' : t.v &&& t.m = 0#64 := by simpa [T.right] using h
  unfold T.of
  have e1 : (t.v ||| t.m) ||| ~~~t.v = BitVec.allOnes 64 := by
    apply BitVec.eq_of_getLsbD_eq; intro i hi
    simp only [BitVec.getLsbD_or, BitVec.getLsbD_not, BitVec.getLsbD_allOnes, hi, decide_true, Bool.true_and]
    cases t.v.getLsbD i <;> simp
  have bit : ∀ i, (t.v.getLsbD i && t.m.getLsbD i) = false := fun i => by
    have := congrArg (fun x => BitVec.getLsbD x i) h'
    simpa using this
  have e2 : (t.v ||| t.m) &&& ~~~(~~~t.v) = t.v := by
    apply BitVec.eq_of_getLsbD_eq; intro i hi
    simp only [BitVec.getLsbD_and, BitVec.getLsbD_or, BitVec.getLsbD_not, hi, decide_true, Bool.true_and]
    cases t.v.getLsbD i <;> simp
  have e3 : (t.v ||| t.m) &&& ~~~t.v = t.m := by
    apply BitVec.eq_of_getLsbD_eq; intro i hi
    have := bit i
    simp only [BitVec.getLsbD_and, BitVec.getLsbD_or, BitVec.getLsbD_not, hi, decide_true, Bool.true_and]
    revert this; cases t.v.getLsbD i <;> cases t.m.getLsbD i <;> simp
  rw [e1, e2, e3]; simp
end Go.Proofs.YtkfbjnikkmoanaaGreatDoor
namespace Go.Proofs.YtkfbjnikkmoanaaGreatDoor
open Go.RowKit Go.Sx
set_option linter.unusedSimpArgs false
set_option linter.unusedVariables false
set_option linter.unnecessarySimpa false
set_option maxRecDepth 100000
set_option maxHeartbeats 4000000
namespace T
theorem bit_is (n : BitVec 64) (i : Nat) : (((n >>> i) &&& 1#64) == 1#64) = n.getLsbD i := by
  cases h : n.getLsbD i
  · rw [beq_eq_false_iff_ne]; intro e
    have := congrArg (fun x => BitVec.getLsbD x 0) e
    simp [h] at this
  · rw [beq_iff_eq]
    apply BitVec.eq_of_getLsbD_eq
    intro k hk
    by_cases h0 : k = 0
    · subst h0; simp [h]
    · simp [BitVec.getLsbD_one, h0]
theorem ofInt_small {i : Int} (h0 : 0 ≤ i) (h : i < 64) : (BitVec.ofInt 64 i).toNat = i.toNat := by
  rw [BitVec.toNat_ofInt]; omega
end T
def k_rBit : List SV → List Blk → Res := fun args _ => match args with
  | [.u64 n, .int .i64 i] => .test (decide (0 ≤ i) && decide (i < 64)) (.ok (.bool (n.getLsbD i.toNat)) [])
  | _ => .fail
theorem k_rBit_ok : CtrOk Tryz.prog Gw 183 k_rBit := by
  refine ⟨fun _ _ => by kernel_rfl, fun args M => ?_⟩
  unfold k_rBit
  split
  · rename_i n i
    intro ht
    refine ctr_flat (Γ := ⟨[], eqs, [], [], []⟩) (sv := .bool (n.getLsbD i.toNat)) st_Gw ⟨okNil, eqs_ok, okNilB, okNilI, okNilP⟩ Tryz.func183 rfl mixed [] (by kernel_rfl) 10000 (by rfl) ?_
    (conv => whnf)
    (repeat' (first | (refine And.intro (fun hb => ?_) (fun hb => ?_) <;> (first | contradiction | (conv => whnf))) | (refine And.intro ?_ ?_; rotate_left 1; (conv => whnf))))
    all_goals (first | trivial | (simp only [Bool.and_eq_true, decide_eq_true_eq] at ht; simp only [eqv, eqv1, T.ofInt_small ht.1 ht.2]; exact T.bit_is _ _))
  · trivial
def k_rMay : List SV → List Blk → Res := fun args _ => match args with
  | [.agg [.u64 av, .u64 am], .int .i64 i, .tt] => .test (decide (0 ≤ i) && decide (i < 64)) (.ok (.bool (T.may ⟨av, am⟩ i.toNat true)) [])
  | [.agg [.u64 av, .u64 am], .int .i64 i, .ff] => .test (decide (0 ≤ i) && decide (i < 64)) (.ok (.bool (T.may ⟨av, am⟩ i.toNat false)) [])
  | [.agg [.u64 av, .u64 am], .int .i64 i, .bool b] => .test (decide (0 ≤ i) && decide (i < 64)) (.ok (.bool (T.may ⟨av, am⟩ i.toNat b)) [])
  | _ => .fail
theorem k_rMay_ok : CtrOk Tryz.prog Gw 187 k_rMay := by
  refine ⟨fun _ _ => by kernel_rfl, fun args M => ?_⟩
  unfold k_rMay
  split
  · rename_i av am i
    intro ht
    refine ctr_flat (Γ := ⟨[(183, k_rBit)], eqs, [], [], []⟩) (sv := .bool (T.may ⟨av, am⟩ i.toNat true)) st_Gw ⟨(okCons k_rBit_ok okNil), eqs_ok, okNilB, okNilI, okNilP⟩ Tryz.func187 rfl mixed [] (by kernel_rfl) 10000 (by rfl) ?_
    (conv => whnf)
    (repeat' (first | (refine And.intro (fun hb => ?_) (fun hb => ?_) <;> (first | contradiction | (conv => whnf))) | (refine And.intro ?_ ?_; rotate_left 1; (conv => whnf))))
    all_goals (first | trivial | exact ht | (simp_all [eqv, eqv1, T.may]; done))
  · rename_i av am i
    intro ht
    refine ctr_flat (Γ := ⟨[(183, k_rBit)], eqs, [], [], []⟩) (sv := .bool (T.may ⟨av, am⟩ i.toNat false)) st_Gw ⟨(okCons k_rBit_ok okNil), eqs_ok, okNilB, okNilI, okNilP⟩ Tryz.func187 rfl mixed [] (by kernel_rfl) 10000 (by rfl) ?_
    (conv => whnf)
    (repeat' (first | (refine And.intro (fun hb => ?_) (fun hb => ?_) <;> (first | contradiction | (conv => whnf))) | (refine And.intro ?_ ?_; rotate_left 1; (conv => whnf))))
    all_goals (first | trivial | exact ht | (simp_all [eqv, eqv1, T.may]; done))
  · rename_i av am i b
    intro ht
    refine ctr_flat (Γ := ⟨[(183, k_rBit)], eqs, [], [], []⟩) (sv := .bool (T.may ⟨av, am⟩ i.toNat b)) st_Gw ⟨(okCons k_rBit_ok okNil), eqs_ok, okNilB, okNilI, okNilP⟩ Tryz.func187 rfl mixed [] (by kernel_rfl) 10000 (by rfl) ?_
    (conv => whnf)
    (repeat' (first | (refine And.intro (fun hb => ?_) (fun hb => ?_) <;> (first | contradiction | (conv => whnf))) | (refine And.intro ?_ ?_; rotate_left 1; (conv => whnf))))
    all_goals (first | trivial | exact ht | (simp_all [eqv, eqv1, T.may]; done))
  · trivial
def k_rConst : List SV → List Blk → Res := fun args _ => match args with
  | [.u64 n] => .ok (tsv ⟨n, 0⟩) []
  | _ => .fail
theorem k_rConst_ok : CtrOk Tryz.prog Gw 122 k_rConst := by
  refine ⟨fun _ _ => by kernel_rfl, fun args M => ?_⟩
  unfold k_rConst
  split
  · rename_i n
    refine ctr_flat (Γ := ⟨[], eqs, [], [], []⟩) (sv := tsv ⟨n, 0⟩) st_Gw ⟨okNil, eqs_ok, okNilB, okNilI, okNilP⟩ Tryz.func122 rfl mixed [] (by kernel_rfl) 10000 (by rfl) ?_
    (conv => whnf)
    (repeat' (first | (refine And.intro (fun hb => ?_) (fun hb => ?_) <;> (first | contradiction | (conv => whnf))) | (refine And.intro ?_ ?_; rotate_left 1; (conv => whnf))))
    all_goals (first | rfl | trivial | (simp_all [eqv, eqv1, eqv2, eqvL1, eqvL2]))
  · trivial
end Go.Proofs.YtkfbjnikkmoanaaGreatDoor
namespace Go.Proofs.YtkfbjnikkmoanaaGreatDoor
open Go.RowKit Go.Sx
set_option linter.unusedSimpArgs false
set_option linter.unusedVariables false
set_option linter.unnecessarySimpa false
set_option maxRecDepth 100000
set_option maxHeartbeats 4000000
end Go.Proofs.YtkfbjnikkmoanaaGreatDoor
namespace Go.Proofs.YtkfbjnikkmoanaaGreatDoor
open Go.RowKit Go.Sx
set_option linter.unusedSimpArgs false
set_option linter.unusedVariables false
set_option linter.unnecessarySimpa false
set_option maxRecDepth 100000
set_option maxHeartbeats 4000000
theorem one_is {j : Nat} (hj : j < 64) : BitVec.ofInt 64 1 <<< (BitVec.ofInt 64 (j : Int)).toNat = 1#64 <<< j := by
  rw [T.ofInt_small (by omega) (by omega), Int.toNat_natCast]; rfl
theorem zero_is : BitVec.ofInt 64 0 = 0#64 := by decide
namespace T
theorem of_mk {f g : Nat → Bool} {t : Tn} (h : right t = true) (hf : ∀ i, i < 64 → f i = (t.v.getLsbD i || t.m.getLsbD i)) (hg : ∀ i, i < 64 → g i = !t.v.getLsbD i) : of (mk f 64) (mk g 64) = (t, true) := by
  have e1 : mk f 64 = t.v ||| t.m := ext64 fun i hi => by rw [mk_bit f 64 i hi, BitVec.getLsbD_or, hf i hi]; simp [hi]
  have e2 : mk g 64 = ~~~t.v := ext64 fun i hi => by rw [mk_bit g 64 i hi, not_bit hi, hg i hi]; simp [hi]
  rw [e1, e2, of_ones h]
theorem of_meet {a b : Tn} (ha : right a = true) (hb : right b = true) : of ((a.v ||| a.m) &&& (b.v ||| b.m)) (~~~a.v &&& ~~~b.v) = meet a b := by
  have hc : ((a.v ||| a.m) &&& (b.v ||| b.m)) ||| (~~~a.v &&& ~~~b.v) = BitVec.allOnes 64 ↔ (a.v ^^^ b.v) &&& ~~~a.m &&& ~~~b.m = 0#64 := by
    constructor
    · intro h
      apply ext64; intro i hi
      have := congrArg (fun x => BitVec.getLsbD x i) h
      have p := right_bit ha i; have q := right_bit hb i
      simp only [BitVec.getLsbD_and, BitVec.getLsbD_or, BitVec.getLsbD_xor, BitVec.getLsbD_not, BitVec.getLsbD_allOnes, BitVec.getLsbD_zero, hi, decide_true, Bool.true_and] at this ⊢
      revert this p q
      cases a.v.getLsbD i <;> cases a.m.getLsbD i <;> cases b.v.getLsbD i <;> cases b.m.getLsbD i <;> simp
    · intro h
      apply ext64; intro i hi
      have := congrArg (fun x => BitVec.getLsbD x i) h
      have p := right_bit ha i; have q := right_bit hb i
      simp only [BitVec.getLsbD_and, BitVec.getLsbD_or, BitVec.getLsbD_xor, BitVec.getLsbD_not, BitVec.getLsbD_allOnes, BitVec.getLsbD_zero, hi, decide_true, Bool.true_and] at this ⊢
      revert this p q
      cases a.v.getLsbD i <;> cases a.m.getLsbD i <;> cases b.v.getLsbD i <;> cases b.m.getLsbD i <;> simp
  unfold of meet
  rw [ha, hb]
  simp only [Bool.not_true, Bool.false_or]
  by_cases h : (a.v ^^^ b.v) &&& ~~~a.m &&& ~~~b.m = 0#64
  · rw [if_neg (by simp [hc.2 h]), if_neg (by simp [h])]
    congr 2
    · apply ext64; intro i hi
      have := congrArg (fun x => BitVec.getLsbD x i) h
      have p := right_bit ha i; have q := right_bit hb i
      simp only [BitVec.getLsbD_and, BitVec.getLsbD_or, BitVec.getLsbD_xor, BitVec.getLsbD_not, BitVec.getLsbD_allOnes, BitVec.getLsbD_zero, hi, decide_true, Bool.true_and] at this ⊢
      revert this p q
      cases a.v.getLsbD i <;> cases a.m.getLsbD i <;> cases b.v.getLsbD i <;> cases b.m.getLsbD i <;> simp
    · apply ext64; intro i hi
      have := congrArg (fun x => BitVec.getLsbD x i) h
      have p := right_bit ha i; have q := right_bit hb i
      simp only [BitVec.getLsbD_and, BitVec.getLsbD_or, BitVec.getLsbD_xor, BitVec.getLsbD_not, BitVec.getLsbD_allOnes, BitVec.getLsbD_zero, hi, decide_true, Bool.true_and] at this ⊢
      revert this p q
      cases a.v.getLsbD i <;> cases a.m.getLsbD i <;> cases b.v.getLsbD i <;> cases b.m.getLsbD i <;> simp
  · rw [if_pos (bne_iff_ne.2 fun e => h (hc.1 e)), if_pos (bne_iff_ne.2 h)]
/-- What a bit of a shifted one may be. -/
def s1 (op : Int) (t : Tn) (n i : Nat) : Bool := if op = 96 then decide (n ≤ i) && may t (i - n) true else if op = 112 then decide (i + n < 64) && may t (i + n) true else may t (min (i + n) 63) true
def s0 (op : Int) (t : Tn) (n i : Nat) : Bool := if op = 96 then !decide (n ≤ i) || may t (i - n) false else if op = 112 then !decide (i + n < 64) || may t (i + n) false else may t (min (i + n) 63) false
theorem sh_bit (op : Int) (hop : op = 96 ∨ op = 112 ∨ op = 192) (x : BitVec 64) (n i : Nat) (hn : n < 64) (hi : i < 64) : (sh op x n).getLsbD i = if op = 96 then decide (n ≤ i) && x.getLsbD (i - n) else if op = 112 then decide (i + n < 64) && x.getLsbD (i + n) else x.getLsbD (min (i + n) 63) := by
  rcases hop with rfl | rfl | rfl
  · show (x <<< n).getLsbD i = _
    rw [if_pos rfl, BitVec.getLsbD_shiftLeft]
    by_cases h : n ≤ i
    · simp [hi, h, show ¬ i < n by omega]
    · simp [h, show i < n by omega]
  · show (x >>> n).getLsbD i = _
    rw [if_neg (by decide), if_pos rfl, BitVec.getLsbD_ushiftRight, Nat.add_comm n i]
    by_cases h : i + n < 64
    · simp [h]
    · rw [BitVec.getLsbD_of_ge _ _ (by omega)]; simp [h]
  · show (x.sshiftRight (min n 64)).getLsbD i = _
    rw [if_neg (by decide), if_neg (by decide), show min n 64 = n by omega, BitVec.getLsbD_sshiftRight]
    by_cases h : n + i < 64
    · simp [hi, h, show min (i + n) 63 = n + i by omega]
    · simp [hi, h, show min (i + n) 63 = 63 by omega, BitVec.msb_eq_getLsbD_last]
theorem of_shift (op : Int) (hop : op = 96 ∨ op = 112 ∨ op = 192) {t : Tn} (h : right t = true) (n : Nat) (hn : n < 64) : of (mk (s1 op t n) 64) (mk (s0 op t n) 64) = (⟨sh op t.v n, sh op t.m n⟩, true) := by
  apply of_mk
  · apply right_iff.2; intro i hi
    rw [sh_bit op hop _ _ _ hn hi, sh_bit op hop _ _ _ hn hi]
    have p1 := right_bit h (i - n); have p2 := right_bit h (i + n); have p3 := right_bit h (min (i + n) 63)
    split
    · cases hd : decide (n ≤ i) <;> simp_all
    · split
      · cases hd : decide (i + n < 64) <;> simp_all
      · exact p3
  · intro i hi
    simp only [sh_bit op hop _ _ _ hn hi, s1, may]
    split
    · cases decide (n ≤ i) <;> cases t.v.getLsbD (i - n) <;> cases t.m.getLsbD (i - n) <;> rfl
    · split
      · cases decide (i + n < 64) <;> cases t.v.getLsbD (i + n) <;> cases t.m.getLsbD (i + n) <;> rfl
      · cases t.v.getLsbD (min (i + n) 63) <;> cases t.m.getLsbD (min (i + n) 63) <;> rfl
  · intro i hi
    simp only [sh_bit op hop _ _ _ hn hi, s0, may]
    have p1 := right_bit h (i - n); have p2 := right_bit h (i + n); have p3 := right_bit h (min (i + n) 63)
    revert p1 p2 p3
    split
    · cases decide (n ≤ i) <;> cases t.v.getLsbD (i - n) <;> cases t.m.getLsbD (i - n) <;> simp
    · split
      · cases decide (i + n < 64) <;> cases t.v.getLsbD (i + n) <;> cases t.m.getLsbD (i + n) <;> simp
      · cases t.v.getLsbD (min (i + n) 63) <;> cases t.m.getLsbD (min (i + n) 63) <;> simp
/-- What a bit of and, or, xor may be. -/
def b2 (op : Int) (p q : Bool) : Bool := if op = 64 then p || q else if op = 160 then p ^^ q else p && q
def q1 (op : Int) (a b : Tn) (i : Nat) : Bool := (may a i false && may b i false && b2 op false false) || (may a i true && may b i false && b2 op true false) || (may a i false && may b i true && b2 op false true) || (may a i true && may b i true && b2 op true true)
def q0 (op : Int) (a b : Tn) (i : Nat) : Bool := (may a i false && may b i false && !b2 op false false) || (may a i true && may b i false && !b2 op true false) || (may a i false && may b i true && !b2 op false true) || (may a i true && may b i true && !b2 op true true)
/-- One of the four rounds at a bit. -/
def pr (op : Int) (a b : Tn) (i : Nat) (s : BitVec 64 × BitVec 64) (n : Nat) : BitVec 64 × BitVec 64 :=
  if may a i (n.testBit 0) && may b i (n.testBit 1) then (if b2 op (n.testBit 0) (n.testBit 1) then (s.1 ||| 1#64 <<< i, s.2) else (s.1, s.2 ||| 1#64 <<< i)) else s
def prs (op : Int) (a b : Tn) (i : Nat) (s : BitVec 64 × BitVec 64) : Nat → BitVec 64 × BitVec 64
  | 0 => s
  | k + 1 => pr op a b i (prs op a b i s k) k
theorem pr_form (op : Int) (a b : Tn) (i : Nat) (x y : BitVec 64) (u v : Bool) (n : Nat) :
    pr op a b i (if u = true then x ||| 1#64 <<< i else x, if v = true then y ||| 1#64 <<< i else y) n =
      (if (u || (may a i (n.testBit 0) && may b i (n.testBit 1) && b2 op (n.testBit 0) (n.testBit 1))) = true then x ||| 1#64 <<< i else x, if (v || (may a i (n.testBit 0) && may b i (n.testBit 1) && !b2 op (n.testBit 0) (n.testBit 1))) = true then y ||| 1#64 <<< i else y) := by
  unfold pr
  cases may a i (n.testBit 0) <;> cases may b i (n.testBit 1) <;> cases b2 op (n.testBit 0) (n.testBit 1) <;> cases u <;> cases v <;> simp [or_twice]
theorem prs4 (op : Int) (a b : Tn) (i : Nat) : prs op a b i (mk (q1 op a b) i, mk (q0 op a b) i) 4 = (mk (q1 op a b) (i + 1), mk (q0 op a b) (i + 1)) := by
  have h : prs op a b i (mk (q1 op a b) i, mk (q0 op a b) i) 0 = (if false = true then mk (q1 op a b) i ||| 1#64 <<< i else mk (q1 op a b) i, if false = true then mk (q0 op a b) i ||| 1#64 <<< i else mk (q0 op a b) i) := rfl
  simp only [prs] at h ⊢
  rw [h, pr_form, pr_form, pr_form, pr_form]
  rw [Prod.mk.injEq]
  constructor
  · refine (ite_b (v := q1 op a b i) ?_).trans (by simp only [mk])
    unfold q1
    simp [show Nat.testBit 1 0 = true from rfl, show Nat.testBit 1 1 = false from rfl, show Nat.testBit 2 0 = false from rfl, show Nat.testBit 2 1 = true from rfl, show Nat.testBit 3 0 = true from rfl, show Nat.testBit 3 1 = true from rfl]
  · refine (ite_b (v := q0 op a b i) ?_).trans (by simp only [mk])
    unfold q0
    simp [show Nat.testBit 1 0 = true from rfl, show Nat.testBit 1 1 = false from rfl, show Nat.testBit 2 0 = false from rfl, show Nat.testBit 2 1 = true from rfl, show Nat.testBit 3 0 = true from rfl, show Nat.testBit 3 1 = true from rfl]
def logic (op : Int) (a b : Tn) : Tn := if op = 64 then or a b else if op = 160 then xor a b else and a b
theorem of_logic (op : Int) {a b : Tn} (ha : right a = true) (hb : right b = true) : of (mk (q1 op a b) 64) (mk (q0 op a b) 64) = (logic op a b, true) := by
  have key : ∀ i, i < 64 → ((logic op a b).v.getLsbD i && (logic op a b).m.getLsbD i) = false ∧ q1 op a b i = ((logic op a b).v.getLsbD i || (logic op a b).m.getLsbD i) ∧ q0 op a b i = !(logic op a b).v.getLsbD i := by
    intro i hi
    have p := right_bit ha i; have q := right_bit hb i
    unfold logic q1 q0 b2
    split
    · simp only [T.or, may, BitVec.getLsbD_and, BitVec.getLsbD_or, BitVec.getLsbD_xor, BitVec.getLsbD_not, hi, decide_true, Bool.true_and]
      revert p q
      cases a.v.getLsbD i <;> cases a.m.getLsbD i <;> cases b.v.getLsbD i <;> cases b.m.getLsbD i <;> simp
    · split
      · simp only [T.xor, may, BitVec.getLsbD_and, BitVec.getLsbD_or, BitVec.getLsbD_xor, BitVec.getLsbD_not, hi, decide_true, Bool.true_and]
        revert p q
        cases a.v.getLsbD i <;> cases a.m.getLsbD i <;> cases b.v.getLsbD i <;> cases b.m.getLsbD i <;> simp
      · simp only [T.and, may, BitVec.getLsbD_and, BitVec.getLsbD_or, BitVec.getLsbD_xor, BitVec.getLsbD_not, hi, decide_true, Bool.true_and]
        revert p q
        cases a.v.getLsbD i <;> cases a.m.getLsbD i <;> cases b.v.getLsbD i <;> cases b.m.getLsbD i <;> simp
  exact of_mk (right_iff.2 fun i hi => (key i hi).1) (fun i hi => (key i hi).2.1) fun i hi => (key i hi).2.2
theorem of_sums (less : Bool) {a b : Tn} (ha : right a = true) (hb : right b = true) : of (mk (sx less a b) 64) (mk (sy less a b) 64) = (if less then difference a b else sum a b, true) := by
  cases less
  · exact of_mk (right_iff.2 fun i hi => (sum_bits ha hb hi).2.2) (fun i hi => (sum_bits ha hb hi).1) fun i hi => (sum_bits ha hb hi).2.1
  · exact of_mk (right_iff.2 fun i hi => (dif_bits ha hb hi).2.2) (fun i hi => (dif_bits ha hb hi).1) fun i hi => (dif_bits ha hb hi).2.1
theorem mul_low_of {a b : Tn} {n : Nat} (hn : min (tz a.m) (tz b.m) = n) : product a b = ⟨a.v * b.v &&& (1#64 <<< n - 1#64), ~~~(1#64 <<< n - 1#64)⟩ := by
  have h64 : n ≤ 64 := by have := tz_le a.m; omega
  unfold product
  rw [hn]
  simp only [← not_low n h64]
  congr 1
  apply ext64; intro i hi; simp [hi]
end T
end Go.Proofs.YtkfbjnikkmoanaaGreatDoor
namespace Go.Proofs.YtkfbjnikkmoanaaGreatDoor
open Go.RowKit Go.Sx
set_option linter.unusedSimpArgs false
set_option linter.unusedVariables false
set_option linter.unnecessarySimpa false
set_option maxRecDepth 100000
set_option maxHeartbeats 4000000
theorem dec63 {j : Nat} (h : j < 64) : IntKind.i64.wrap (63 - (j : Int) - 1) = 63 - ((j + 1 : Nat) : Int) := by rw [IntWalk.i64_in _ (by omega)]; omega
theorem rrange_run (lo hi : BitVec 64) : run Tryz.prog ⟨[(141, k_rRight), (187, k_rMay), (183, k_rBit), (118, k_rUnknown), (180, k_of)], eqs, [], [], []⟩ 10000 [] 0 (bodyOf Tryz.f144) (initF Tryz.f144 [.u64 lo, .u64 hi]) [] (retK Tryz.prog Tryz.f144 fun x _ => eqv x (tsv (T.range lo hi))) := by
  (conv => whnf)
  (repeat' (first | (refine And.intro (fun hb => ?_) (fun hb => ?_) <;> (first | contradiction | (conv => whnf))) | (refine And.intro ?_ ?_; rotate_left 1; (conv => whnf))))
  all_goals try (simp_all [eqv, eqv1, T.range]; done)
  · have hle : ¬ hi < lo := of_decide_eq_false hb
    refine .inr ⟨[], [0, 1, 4, 5, 6], fun k vals M => ∃ j : Nat, j ≤ 64 ∧ k = 64 - j ∧ (∀ k, k < 64 → 64 ≤ k + j → lo.getLsbD k = hi.getLsbD k) ∧ vals = [.u64 lo, .u64 hi, .ptr 0 0, .ptr 1 0, .int .i64 (63 - (j : Int))] ∧ M = [.cells 25 [.u64 (BitVec.ofInt 64 0), .u64 (BitVec.ofInt 64 0)], .cells 25 [.u64 lo, .u64 (BitVec.ofInt 64 0)]], ?_⟩
    conv => whnf
    refine And.intro ⟨64, [.cells 25 [.u64 (BitVec.ofInt 64 0), .u64 (BitVec.ofInt 64 0)], .cells 25 [.u64 lo, .u64 (BitVec.ofInt 64 0)]], (mle_cons ble_refl (mle_cons ble_refl mle_nil)), rfl, rfl, 0, by omega, by omega, fun k h1 h2 => by omega, rfl, rfl⟩ ?_
    rintro k vals M1 ⟨j, hj, rfl, hx, rfl, rfl⟩
    (conv => whnf)
    (repeat' (first | (refine And.intro (fun hb => ?_) (fun hb => ?_) <;> (first | contradiction | (conv => whnf))) | (refine And.intro ?_ ?_; rotate_left 1; (conv => whnf))))
    all_goals try (first | rfl | trivial | (simp; done) | (simp; omega) | (simp at hb ⊢; omega) | (simp only [decide_eq_true_eq, Bool.and_eq_true, Int.toNat_natCast] at *; omega))
    · have hlt : j < 64 := by (have h := ‹decide ((0 : Int) ≤ 63 - (j : Int)) = true›; simp at h; omega)
      have e : ((63 : Int) - (j : Int)).toNat = 63 - j := by omega
      rw [e] at hb
      have hr := T.range_at (i := 63 - j) (by omega) hle hb fun k h1 h2 => hx k h2 (by omega)
      rw [hr]; simp only [T.ofInt_small (show (0 : Int) ≤ 63 - (j : Int) by omega) (by omega), e]; rfl
    · have hlt : j < 64 := by (have h := ‹decide ((0 : Int) ≤ 63 - (j : Int)) = true›; simp at h; omega)
      have e : ((63 : Int) - (j : Int)).toNat = 63 - j := by omega
      rw [e] at hb
      have hr := T.range_at (i := 63 - j) (by omega) hle hb fun k h1 h2 => hx k h2 (by omega)
      rw [hr]; simp only [T.ofInt_small (show (0 : Int) ≤ 63 - (j : Int) by omega) (by omega), e]; rfl
    · have hlt : j < 64 := by (have h := ‹decide ((0 : Int) ≤ 63 - (j : Int)) = true›; simp at h; omega)
      have e : ((63 : Int) - (j : Int)).toNat = 63 - j := by omega
      rw [e] at hb
      refine ⟨64 - (j + 1), [.cells 25 [.u64 (BitVec.ofInt 64 0), .u64 (BitVec.ofInt 64 0)], .cells 25 [.u64 lo, .u64 (BitVec.ofInt 64 0)]], [0, 1], by omega, rfl, (mle_cons ble_refl (mle_cons ble_refl mle_nil)), rfl, rfl, j + 1, by omega, rfl, ?_, ?_, rfl⟩
      · intro k h1 h2
        by_cases hk : 64 ≤ k + j
        · exact hx k h1 hk
        · obtain rfl : k = 63 - j := by omega
          simpa using hb
      · rw [← dec63 hlt]; rfl
    all_goals
      have hj2 : j = 64 := by simp at hb; omega
      subst hj2
      rw [T.range_same fun k h => hx k h (by omega)]; rfl
def k_rRange : List SV → List Blk → Res := fun args _ => match args with
  | [.u64 lo, .u64 hi] => .ok (tsv (T.range lo hi)) []
  | _ => .fail
theorem k_rRange_ok : CtrOk Tryz.prog Gw 144 k_rRange := by
  refine ⟨fun _ _ => by kernel_rfl, fun args M => ?_⟩
  unfold k_rRange
  split
  · rename_i lo hi
    exact ctr_flat (Γ := ⟨[(141, k_rRight), (187, k_rMay), (183, k_rBit), (118, k_rUnknown), (180, k_of)], eqs, [], [], []⟩) (sv := tsv (T.range lo hi)) st_Gw ⟨(okCons k_rRight_ok (okCons k_rMay_ok (okCons k_rBit_ok (okCons k_rUnknown_ok (okCons k_of_ok okNil))))), eqs_ok, okNilB, okNilI, okNilP⟩ Tryz.func144 rfl mixed [] (by kernel_rfl) 10000 (by rfl) (rrange_run lo hi)
  · trivial
theorem rknown_run (av am : BitVec 64) : run Tryz.prog ⟨[(141, k_rRight), (187, k_rMay), (183, k_rBit), (118, k_rUnknown), (180, k_of)], eqs, [], [], []⟩ 10000 [] 0 (bodyOf Tryz.f186) (initF Tryz.f186 [.agg [.u64 av, .u64 am]]) [] (retK Tryz.prog Tryz.f186 fun x _ => eqv x (.int .i64 (tz am : Nat))) := by
  (conv => whnf)
  (repeat' (first | (refine And.intro (fun hb => ?_) (fun hb => ?_) <;> (first | contradiction | (conv => whnf))) | (refine And.intro ?_ ?_; rotate_left 1; (conv => whnf))))
  refine .inr ⟨[], [1, 3], fun k vals M => ∃ j : Nat, j ≤ 64 ∧ k = 64 - j ∧ (∀ k, k < j → am.getLsbD k = false) ∧ vals = [.ptr 0 0, .int .i64 (j : Int)] ∧ M = [.cells 25 [.u64 av, .u64 am]], ?_⟩
  conv => whnf
  refine And.intro ⟨64, [.cells 25 [.u64 av, .u64 am]], (mle_cons ble_refl mle_nil), rfl, rfl, 0, by omega, by omega, fun k h => by omega, rfl, rfl⟩ ?_
  rintro k vals M1 ⟨j, hj, rfl, hx, rfl, rfl⟩
  (conv => whnf)
  (repeat' (first | (refine And.intro (fun hb => ?_) (fun hb => ?_) <;> (first | contradiction | (conv => whnf))) | (refine And.intro ?_ ?_; rotate_left 1; (conv => whnf))))
  all_goals try (first | rfl | trivial | (simp; done) | (simp; omega) | (simp at hb ⊢; omega) | (simp only [decide_eq_true_eq, Bool.and_eq_true, Int.toNat_natCast] at *; omega))
  · have hlt : j < 64 := by (have h := ‹decide ((j : Int) < 64) = true›; simp at h; omega)
    rw [Int.toNat_natCast] at hb
    refine ⟨64 - (j + 1), [.cells 25 [.u64 av, .u64 am]], [0], by omega, rfl, (mle_cons ble_refl mle_nil), rfl, rfl, j + 1, by omega, rfl, ?_, ?_, rfl⟩
    · intro k h
      by_cases hk : k < j
      · exact hx k hk
      · obtain rfl : k = j := by omega
        simpa using hb
    · rw [← wrap_succ (by omega)]; rfl
  · rw [Int.toNat_natCast] at hb
    rw [T.tz_of (n := j) hj hx (.inr (by simpa using hb))]
  · have hj2 : j = 64 := by simp at hb; omega
    subst hj2
    rw [T.tz_of (n := 64) (by omega) hx (.inl rfl)]
def k_rKnown : List SV → List Blk → Res := fun args _ => match args with
  | [.agg [.u64 av, .u64 am]] => .ok (.int .i64 (tz am : Nat)) []
  | _ => .fail
theorem k_rKnown_ok : CtrOk Tryz.prog Gw 186 k_rKnown := by
  refine ⟨fun _ _ => by kernel_rfl, fun args M => ?_⟩
  unfold k_rKnown
  split
  · rename_i av am
    exact ctr_flat (Γ := ⟨[(141, k_rRight), (187, k_rMay), (183, k_rBit), (118, k_rUnknown), (180, k_of)], eqs, [], [], []⟩) (sv := .int .i64 (tz am : Nat)) st_Gw ⟨(okCons k_rRight_ok (okCons k_rMay_ok (okCons k_rBit_ok (okCons k_rUnknown_ok (okCons k_of_ok okNil))))), eqs_ok, okNilB, okNilI, okNilP⟩ Tryz.func186 rfl mixed [] (by kernel_rfl) 10000 (by rfl) (rknown_run av am)
  · trivial
end Go.Proofs.YtkfbjnikkmoanaaGreatDoor
namespace Go.Proofs.YtkfbjnikkmoanaaGreatDoor
open Go.RowKit Go.Sx
set_option linter.unusedSimpArgs false
set_option linter.unusedVariables false
set_option linter.unnecessarySimpa false
set_option maxRecDepth 100000
set_option maxHeartbeats 4000000
theorem mk_step {f : Nat → Bool} {j : Nat} {b : Bool} (hlt : j < 64) (h : f j = b) : T.mk f (j + 1) = if b then T.mk f j ||| BitVec.ofInt 64 1 <<< (BitVec.ofInt 64 (j : Int)).toNat else T.mk f j := by rw [one_is hlt, ← h]; rfl
namespace T
theorem s1_96 (t : Tn) (n i : Nat) : s1 96 t n i = (decide (n ≤ i) && may t (i - n) true) := by simp [s1]
theorem s0_96 (t : Tn) (n i : Nat) : s0 96 t n i = (!decide (n ≤ i) || may t (i - n) false) := by simp [s0]
theorem s1_112 (t : Tn) (n i : Nat) : s1 112 t n i = (decide (i + n < 64) && may t (i + n) true) := by simp [s1]
theorem s0_112 (t : Tn) (n i : Nat) : s0 112 t n i = (!decide (i + n < 64) || may t (i + n) false) := by simp [s0]
theorem s1_192 (t : Tn) (n i : Nat) : s1 192 t n i = may t (min (i + n) 63) true := by simp [s1]
theorem s0_192 (t : Tn) (n i : Nat) : s0 192 t n i = may t (min (i + n) 63) false := by simp [s0]
end T
theorem rshift_96 (av am : BitVec 64) (n : Nat) (hn : n < 64) (hr : T.right ⟨av, am⟩ = true) : run Tryz.prog ⟨[(141, k_rRight), (187, k_rMay), (183, k_rBit), (118, k_rUnknown), (180, k_of)], eqs, [], [], []⟩ 10000 [(12, 5, [0, 0, 3, 0, 0, 31, 63, 127]), (14, 3, [0, 1, 0, 7, 15, 31])] 0 (bodyOf Tryz.f146) (initF Tryz.f146 [.int .u8 96, .agg [.u64 av, .u64 am], .int .i64 (n : Int)]) [] (retK Tryz.prog Tryz.f146 fun x _ => eqv x (.tup [tsv (⟨T.sh 96 av n, T.sh 96 am n⟩ : Tn), .bool true])) := by
  (conv => whnf)
  (repeat' (first | (refine And.intro (fun hb => ?_) (fun hb => ?_) <;> (first | contradiction | (conv => whnf))) | (refine And.intro ?_ ?_; rotate_left 1; (conv => whnf))))
  all_goals try (exfalso; first | (rw [hr] at hb; exact absurd hb (by decide)) | (simp at hb; omega) | (exact absurd hb (by decide)))
  refine .inr ⟨[], [0, 2, 4, 6, 7, 8, 9, 10], fun k vals M => ∃ j : Nat, j ≤ 64 ∧ k = 64 - j ∧ (True) ∧ vals = [.int .u8 96, .int .i64 (n : Int), .ptr 0 0, .ptr 1 0, .ff, .u64 (T.mk (T.s1 96 ⟨av, am⟩ n) j), .u64 (T.mk (T.s0 96 ⟨av, am⟩ n) j), .int .i64 (j : Int)] ∧ M = [.cells 25 [.u64 av, .u64 am], .cells 25 [.u64 (BitVec.ofInt 64 0), .u64 (BitVec.ofInt 64 0)]], ?_⟩
  conv => whnf
  refine And.intro ⟨64, [.cells 25 [.u64 av, .u64 am], .cells 25 [.u64 (BitVec.ofInt 64 0), .u64 (BitVec.ofInt 64 0)]], (mle_cons ble_refl (mle_cons ble_refl mle_nil)), rfl, rfl, 0, by omega, by omega, trivial, rfl, rfl⟩ ?_
  rintro k vals M1 ⟨j, hj, rfl, hx, rfl, rfl⟩
  (conv => whnf)
  (repeat' (first | (refine And.intro (fun hb => ?_) (fun hb => ?_) <;> (first | contradiction | (conv => whnf))) | (refine And.intro ?_ ?_; rotate_left 1; (conv => whnf))))
  all_goals try (first | rfl | trivial | (simp; done) | (simp; omega) | (simp at hb ⊢; omega) | (simp only [decide_eq_true_eq, Bool.and_eq_true, Int.toNat_natCast] at *; omega))
  all_goals have hw : IntKind.i64.wrap ((j : Int) - (n : Int)) = (j : Int) - (n : Int) := IntWalk.i64_in _ (by omega)
  all_goals simp only [hw, decide_eq_true_eq, decide_eq_false_iff_not, show Int.toNat 63 = 63 from rfl] at *
  all_goals have he : ((j : Int) - (n : Int)).toNat = j - n := by omega
  all_goals simp only [he] at *
  all_goals try (exfalso; omega)
  all_goals first
    | (have hlt : j < 64 := by omega
       refine ⟨64 - (j + 1), [.cells 25 [.u64 av, .u64 am], .cells 25 [.u64 (BitVec.ofInt 64 0), .u64 (BitVec.ofInt 64 0)]], [0, 1], by omega, rfl, (mle_cons ble_refl (mle_cons ble_refl mle_nil)), rfl, rfl, j + 1, by omega, rfl, trivial, ?_, rfl⟩
       first
         | (have h1 : T.s1 96 ⟨av, am⟩ n j = true := (by rw [T.s1_96]; first | (have hd : n ≤ j := (by omega); simp [*]; done) | (have hd : ¬ n ≤ j := (by omega); simp [*]; done)); have h0 : T.s0 96 ⟨av, am⟩ n j = true := (by rw [T.s0_96]; first | (have hd : n ≤ j := (by omega); simp [*]; done) | (have hd : ¬ n ≤ j := (by omega); simp [*]; done)); rw [mk_step hlt h1, mk_step hlt h0, ← wrap_succ (by omega)]; rfl)
         | (have h1 : T.s1 96 ⟨av, am⟩ n j = true := (by rw [T.s1_96]; first | (have hd : n ≤ j := (by omega); simp [*]; done) | (have hd : ¬ n ≤ j := (by omega); simp [*]; done)); have h0 : T.s0 96 ⟨av, am⟩ n j = false := (by rw [T.s0_96]; first | (have hd : n ≤ j := (by omega); simp [*]; done) | (have hd : ¬ n ≤ j := (by omega); simp [*]; done)); rw [mk_step hlt h1, mk_step hlt h0, ← wrap_succ (by omega)]; rfl)
         | (have h1 : T.s1 96 ⟨av, am⟩ n j = false := (by rw [T.s1_96]; first | (have hd : n ≤ j := (by omega); simp [*]; done) | (have hd : ¬ n ≤ j := (by omega); simp [*]; done)); have h0 : T.s0 96 ⟨av, am⟩ n j = true := (by rw [T.s0_96]; first | (have hd : n ≤ j := (by omega); simp [*]; done) | (have hd : ¬ n ≤ j := (by omega); simp [*]; done)); rw [mk_step hlt h1, mk_step hlt h0, ← wrap_succ (by omega)]; rfl)
         | (have h1 : T.s1 96 ⟨av, am⟩ n j = false := (by rw [T.s1_96]; first | (have hd : n ≤ j := (by omega); simp [*]; done) | (have hd : ¬ n ≤ j := (by omega); simp [*]; done)); have h0 : T.s0 96 ⟨av, am⟩ n j = false := (by rw [T.s0_96]; first | (have hd : n ≤ j := (by omega); simp [*]; done) | (have hd : ¬ n ≤ j := (by omega); simp [*]; done)); rw [mk_step hlt h1, mk_step hlt h0, ← wrap_succ (by omega)]; rfl))
    | (have hj2 : j = 64 := by omega
       subst hj2
       rw [T.of_shift 96 (by decide) hr n hn]; try rfl)
   
theorem rshift_112 (av am : BitVec 64) (n : Nat) (hn : n < 64) (hr : T.right ⟨av, am⟩ = true) : run Tryz.prog ⟨[(141, k_rRight), (187, k_rMay), (183, k_rBit), (118, k_rUnknown), (180, k_of)], eqs, [], [], []⟩ 10000 [(12, 5, [0, 0, 3, 0, 0, 31, 63, 127]), (14, 3, [0, 1, 0, 7, 15, 31])] 0 (bodyOf Tryz.f146) (initF Tryz.f146 [.int .u8 112, .agg [.u64 av, .u64 am], .int .i64 (n : Int)]) [] (retK Tryz.prog Tryz.f146 fun x _ => eqv x (.tup [tsv (⟨T.sh 112 av n, T.sh 112 am n⟩ : Tn), .bool true])) := by
  (conv => whnf)
  (repeat' (first | (refine And.intro (fun hb => ?_) (fun hb => ?_) <;> (first | contradiction | (conv => whnf))) | (refine And.intro ?_ ?_; rotate_left 1; (conv => whnf))))
  all_goals try (exfalso; first | (rw [hr] at hb; exact absurd hb (by decide)) | (simp at hb; omega) | (exact absurd hb (by decide)))
  refine .inr ⟨[], [0, 2, 4, 6, 7, 8, 9, 10], fun k vals M => ∃ j : Nat, j ≤ 64 ∧ k = 64 - j ∧ (True) ∧ vals = [.int .u8 112, .int .i64 (n : Int), .ptr 0 0, .ptr 1 0, .ff, .u64 (T.mk (T.s1 112 ⟨av, am⟩ n) j), .u64 (T.mk (T.s0 112 ⟨av, am⟩ n) j), .int .i64 (j : Int)] ∧ M = [.cells 25 [.u64 av, .u64 am], .cells 25 [.u64 (BitVec.ofInt 64 0), .u64 (BitVec.ofInt 64 0)]], ?_⟩
  conv => whnf
  refine And.intro ⟨64, [.cells 25 [.u64 av, .u64 am], .cells 25 [.u64 (BitVec.ofInt 64 0), .u64 (BitVec.ofInt 64 0)]], (mle_cons ble_refl (mle_cons ble_refl mle_nil)), rfl, rfl, 0, by omega, by omega, trivial, rfl, rfl⟩ ?_
  rintro k vals M1 ⟨j, hj, rfl, hx, rfl, rfl⟩
  (conv => whnf)
  (repeat' (first | (refine And.intro (fun hb => ?_) (fun hb => ?_) <;> (first | contradiction | (conv => whnf))) | (refine And.intro ?_ ?_; rotate_left 1; (conv => whnf))))
  all_goals try (first | rfl | trivial | (simp; done) | (simp; omega) | (simp at hb ⊢; omega) | (simp only [decide_eq_true_eq, Bool.and_eq_true, Int.toNat_natCast] at *; omega))
  all_goals have hw : IntKind.i64.wrap ((j : Int) + (n : Int)) = (j : Int) + (n : Int) := IntWalk.i64_in _ (by omega)
  all_goals simp only [hw, decide_eq_true_eq, decide_eq_false_iff_not, show Int.toNat 63 = 63 from rfl] at *
  all_goals have he : ((j : Int) + (n : Int)).toNat = j + n := by omega
  all_goals simp only [he] at *
  all_goals try (exfalso; omega)
  all_goals first
    | (have hlt : j < 64 := by omega
       refine ⟨64 - (j + 1), [.cells 25 [.u64 av, .u64 am], .cells 25 [.u64 (BitVec.ofInt 64 0), .u64 (BitVec.ofInt 64 0)]], [0, 1], by omega, rfl, (mle_cons ble_refl (mle_cons ble_refl mle_nil)), rfl, rfl, j + 1, by omega, rfl, trivial, ?_, rfl⟩
       first
         | (have h1 : T.s1 112 ⟨av, am⟩ n j = true := (by rw [T.s1_112]; first | (have hd : j + n < 64 := (by omega); simp [*]; done) | (have hd : ¬ j + n < 64 := (by omega); simp [*]; done)); have h0 : T.s0 112 ⟨av, am⟩ n j = true := (by rw [T.s0_112]; first | (have hd : j + n < 64 := (by omega); simp [*]; done) | (have hd : ¬ j + n < 64 := (by omega); simp [*]; done)); rw [mk_step hlt h1, mk_step hlt h0, ← wrap_succ (by omega)]; rfl)
         | (have h1 : T.s1 112 ⟨av, am⟩ n j = true := (by rw [T.s1_112]; first | (have hd : j + n < 64 := (by omega); simp [*]; done) | (have hd : ¬ j + n < 64 := (by omega); simp [*]; done)); have h0 : T.s0 112 ⟨av, am⟩ n j = false := (by rw [T.s0_112]; first | (have hd : j + n < 64 := (by omega); simp [*]; done) | (have hd : ¬ j + n < 64 := (by omega); simp [*]; done)); rw [mk_step hlt h1, mk_step hlt h0, ← wrap_succ (by omega)]; rfl)
         | (have h1 : T.s1 112 ⟨av, am⟩ n j = false := (by rw [T.s1_112]; first | (have hd : j + n < 64 := (by omega); simp [*]; done) | (have hd : ¬ j + n < 64 := (by omega); simp [*]; done)); have h0 : T.s0 112 ⟨av, am⟩ n j = true := (by rw [T.s0_112]; first | (have hd : j + n < 64 := (by omega); simp [*]; done) | (have hd : ¬ j + n < 64 := (by omega); simp [*]; done)); rw [mk_step hlt h1, mk_step hlt h0, ← wrap_succ (by omega)]; rfl)
         | (have h1 : T.s1 112 ⟨av, am⟩ n j = false := (by rw [T.s1_112]; first | (have hd : j + n < 64 := (by omega); simp [*]; done) | (have hd : ¬ j + n < 64 := (by omega); simp [*]; done)); have h0 : T.s0 112 ⟨av, am⟩ n j = false := (by rw [T.s0_112]; first | (have hd : j + n < 64 := (by omega); simp [*]; done) | (have hd : ¬ j + n < 64 := (by omega); simp [*]; done)); rw [mk_step hlt h1, mk_step hlt h0, ← wrap_succ (by omega)]; rfl))
    | (have hj2 : j = 64 := by omega
       subst hj2
       rw [T.of_shift 112 (by decide) hr n hn]; try rfl)
   
theorem rshift_192 (av am : BitVec 64) (n : Nat) (hn : n < 64) (hr : T.right ⟨av, am⟩ = true) : run Tryz.prog ⟨[(141, k_rRight), (187, k_rMay), (183, k_rBit), (118, k_rUnknown), (180, k_of)], eqs, [], [], []⟩ 10000 [(12, 5, [0, 0, 3, 0, 0, 31, 63, 127]), (14, 3, [0, 1, 0, 7, 15, 31])] 0 (bodyOf Tryz.f146) (initF Tryz.f146 [.int .u8 192, .agg [.u64 av, .u64 am], .int .i64 (n : Int)]) [] (retK Tryz.prog Tryz.f146 fun x _ => eqv x (.tup [tsv (⟨T.sh 192 av n, T.sh 192 am n⟩ : Tn), .bool true])) := by
  (conv => whnf)
  (repeat' (first | (refine And.intro (fun hb => ?_) (fun hb => ?_) <;> (first | contradiction | (conv => whnf))) | (refine And.intro ?_ ?_; rotate_left 1; (conv => whnf))))
  all_goals try (exfalso; first | (rw [hr] at hb; exact absurd hb (by decide)) | (simp at hb; omega) | (exact absurd hb (by decide)))
  refine .inr ⟨[], [0, 2, 4, 6, 7, 8, 9, 10], fun k vals M => ∃ j : Nat, j ≤ 64 ∧ k = 64 - j ∧ (True) ∧ vals = [.int .u8 192, .int .i64 (n : Int), .ptr 0 0, .ptr 1 0, .ff, .u64 (T.mk (T.s1 192 ⟨av, am⟩ n) j), .u64 (T.mk (T.s0 192 ⟨av, am⟩ n) j), .int .i64 (j : Int)] ∧ M = [.cells 25 [.u64 av, .u64 am], .cells 25 [.u64 (BitVec.ofInt 64 0), .u64 (BitVec.ofInt 64 0)]], ?_⟩
  conv => whnf
  refine And.intro ⟨64, [.cells 25 [.u64 av, .u64 am], .cells 25 [.u64 (BitVec.ofInt 64 0), .u64 (BitVec.ofInt 64 0)]], (mle_cons ble_refl (mle_cons ble_refl mle_nil)), rfl, rfl, 0, by omega, by omega, trivial, rfl, rfl⟩ ?_
  rintro k vals M1 ⟨j, hj, rfl, hx, rfl, rfl⟩
  (conv => whnf)
  (repeat' (first | (refine And.intro (fun hb => ?_) (fun hb => ?_) <;> (first | contradiction | (conv => whnf))) | (refine And.intro ?_ ?_; rotate_left 1; (conv => whnf))))
  all_goals try (first | rfl | trivial | (simp; done) | (simp; omega) | (simp at hb ⊢; omega) | (simp only [decide_eq_true_eq, Bool.and_eq_true, Int.toNat_natCast] at *; omega))
  all_goals have hw : IntKind.i64.wrap ((j : Int) + (n : Int)) = (j : Int) + (n : Int) := IntWalk.i64_in _ (by omega)
  all_goals simp only [hw, decide_eq_true_eq, decide_eq_false_iff_not, show Int.toNat 63 = 63 from rfl] at *
  all_goals have he : ((j : Int) + (n : Int)).toNat = j + n := by omega
  all_goals simp only [he] at *
  all_goals try (exfalso; omega)
  all_goals first
    | (have hlt : j < 64 := by omega
       refine ⟨64 - (j + 1), [.cells 25 [.u64 av, .u64 am], .cells 25 [.u64 (BitVec.ofInt 64 0), .u64 (BitVec.ofInt 64 0)]], [0, 1], by omega, rfl, (mle_cons ble_refl (mle_cons ble_refl mle_nil)), rfl, rfl, j + 1, by omega, rfl, trivial, ?_, rfl⟩
       first
         | (have h1 : T.s1 192 ⟨av, am⟩ n j = true := (by rw [T.s1_192]; first | (have hd : min (j + n) 63 = j + n := (by omega); simp [*]; done) | (have hd : min (j + n) 63 = 63 := (by omega); simp [*]; done)); have h0 : T.s0 192 ⟨av, am⟩ n j = true := (by rw [T.s0_192]; first | (have hd : min (j + n) 63 = j + n := (by omega); simp [*]; done) | (have hd : min (j + n) 63 = 63 := (by omega); simp [*]; done)); rw [mk_step hlt h1, mk_step hlt h0, ← wrap_succ (by omega)]; rfl)
         | (have h1 : T.s1 192 ⟨av, am⟩ n j = true := (by rw [T.s1_192]; first | (have hd : min (j + n) 63 = j + n := (by omega); simp [*]; done) | (have hd : min (j + n) 63 = 63 := (by omega); simp [*]; done)); have h0 : T.s0 192 ⟨av, am⟩ n j = false := (by rw [T.s0_192]; first | (have hd : min (j + n) 63 = j + n := (by omega); simp [*]; done) | (have hd : min (j + n) 63 = 63 := (by omega); simp [*]; done)); rw [mk_step hlt h1, mk_step hlt h0, ← wrap_succ (by omega)]; rfl)
         | (have h1 : T.s1 192 ⟨av, am⟩ n j = false := (by rw [T.s1_192]; first | (have hd : min (j + n) 63 = j + n := (by omega); simp [*]; done) | (have hd : min (j + n) 63 = 63 := (by omega); simp [*]; done)); have h0 : T.s0 192 ⟨av, am⟩ n j = true := (by rw [T.s0_192]; first | (have hd : min (j + n) 63 = j + n := (by omega); simp [*]; done) | (have hd : min (j + n) 63 = 63 := (by omega); simp [*]; done)); rw [mk_step hlt h1, mk_step hlt h0, ← wrap_succ (by omega)]; rfl)
         | (have h1 : T.s1 192 ⟨av, am⟩ n j = false := (by rw [T.s1_192]; first | (have hd : min (j + n) 63 = j + n := (by omega); simp [*]; done) | (have hd : min (j + n) 63 = 63 := (by omega); simp [*]; done)); have h0 : T.s0 192 ⟨av, am⟩ n j = false := (by rw [T.s0_192]; first | (have hd : min (j + n) 63 = j + n := (by omega); simp [*]; done) | (have hd : min (j + n) 63 = 63 := (by omega); simp [*]; done)); rw [mk_step hlt h1, mk_step hlt h0, ← wrap_succ (by omega)]; rfl))
    | (have hj2 : j = 64 := by omega
       subst hj2
       rw [T.of_shift 192 (by decide) hr n hn]; try rfl)
   
theorem rshift_run (op n : Int) (av am : BitVec 64) : run Tryz.prog ⟨[(141, k_rRight), (187, k_rMay), (183, k_rBit), (118, k_rUnknown), (180, k_of)], eqs, [], [], []⟩ 10000 [(12, 5, [0, 0, 3, 0, 0, 31, 63, 127]), (14, 3, [0, 1, 0, 7, 15, 31])] 0 (bodyOf Tryz.f146) (initF Tryz.f146 [.int .u8 op, .agg [.u64 av, .u64 am], .int .i64 n]) [] (retK Tryz.prog Tryz.f146 fun x _ => eqv x (.tup [tsv (T.shift op ⟨av, am⟩ n).1, .bool (T.shift op ⟨av, am⟩ n).2])) := by
  by_cases h : T.right ⟨av, am⟩ = true ∧ 0 ≤ n ∧ n < 64 ∧ (op = 96 ∨ op = 112 ∨ op = 192)
  · obtain ⟨h1, h2, h3, h4⟩ := h
    obtain ⟨m, rfl⟩ : ∃ m : Nat, n = m := ⟨n.toNat, by omega⟩
    have e : T.shift op ⟨av, am⟩ m = (⟨T.sh op av m, T.sh op am m⟩, true) := by
      unfold T.shift
      rw [if_pos (by rcases h4 with rfl | rfl | rfl <;> simp [h1] <;> omega), Int.toNat_natCast]
    rw [e]
    rcases h4 with rfl | rfl | rfl
    · exact rshift_96 av am m (by omega) h1
    · exact rshift_112 av am m (by omega) h1
    · exact rshift_192 av am m (by omega) h1
  · have e : T.shift op ⟨av, am⟩ n = (⟨0, 0⟩, false) := by
      unfold T.shift
      rw [if_neg]
      intro hc
      simp only [Bool.and_eq_true, Bool.or_eq_true, beq_iff_eq, Bool.not_eq_true', decide_eq_false_iff_not] at hc
      exact h ⟨hc.1.1.2, by omega, by omega, by omega⟩
    rw [e]
    (conv => whnf)
    (repeat' (first | (refine And.intro (fun hb => ?_) (fun hb => ?_) <;> (first | contradiction | (conv => whnf))) | (refine And.intro ?_ ?_; rotate_left 1; (conv => whnf))))
    all_goals first
      | rfl
      | trivial
      | (exfalso; apply h; simp_all; omega)
def k_rShift : List SV → List Blk → Res := fun args _ => match args with
  | [.int .u8 op, .agg [.u64 av, .u64 am], .int .i64 n] => .ok (.tup [tsv (T.shift op ⟨av, am⟩ n).1, .bool (T.shift op ⟨av, am⟩ n).2]) []
  | _ => .fail
theorem k_rShift_ok : CtrOk Tryz.prog Gw 146 k_rShift := by
  refine ⟨fun _ _ => by kernel_rfl, fun args M => ?_⟩
  unfold k_rShift
  split
  · rename_i op av am n
    exact ctr_flat (Γ := ⟨[(141, k_rRight), (187, k_rMay), (183, k_rBit), (118, k_rUnknown), (180, k_of)], eqs, [], [], []⟩) (sv := .tup [tsv (T.shift op ⟨av, am⟩ n).1, .bool (T.shift op ⟨av, am⟩ n).2]) st_Gw ⟨(okCons k_rRight_ok (okCons k_rMay_ok (okCons k_rBit_ok (okCons k_rUnknown_ok (okCons k_of_ok okNil))))), eqs_ok, okNilB, okNilI, okNilP⟩ Tryz.func146 rfl mixed [(12, 5, [0, 0, 3, 0, 0, 31, 63, 127]), (14, 3, [0, 1, 0, 7, 15, 31])] (by kernel_rfl) 10000 (by rfl) (rshift_run op n av am)
  · trivial
end Go.Proofs.YtkfbjnikkmoanaaGreatDoor
namespace Go.Proofs.YtkfbjnikkmoanaaGreatDoor
open Go.RowKit Go.Sx
set_option linter.unusedSimpArgs false
set_option linter.unusedVariables false
set_option linter.unnecessarySimpa false
set_option maxRecDepth 100000
set_option maxHeartbeats 4000000
namespace T
theorem pr_skip1 {op : Int} {a b : Tn} {i n : Nat} {s : BitVec 64 × BitVec 64} (h : may a i (n.testBit 0) = false) : pr op a b i s n = s := by unfold pr; rw [h]; rfl
theorem pr_skip2 {op : Int} {a b : Tn} {i n : Nat} {s : BitVec 64 × BitVec 64} (h1 : may a i (n.testBit 0) = true) (h : may b i (n.testBit 1) = false) : pr op a b i s n = s := by unfold pr; rw [h1, h]; rfl
theorem pr_one {op : Int} {a b : Tn} {i n : Nat} {s : BitVec 64 × BitVec 64} (h1 : may a i (n.testBit 0) = true) (h2 : may b i (n.testBit 1) = true) (h : b2 op (n.testBit 0) (n.testBit 1) = true) : pr op a b i s n = (s.1 ||| 1#64 <<< i, s.2) := by unfold pr; rw [h1, h2, h]; rfl
theorem pr_nought {op : Int} {a b : Tn} {i n : Nat} {s : BitVec 64 × BitVec 64} (h1 : may a i (n.testBit 0) = true) (h2 : may b i (n.testBit 1) = true) (h : b2 op (n.testBit 0) (n.testBit 1) = false) : pr op a b i s n = (s.1, s.2 ||| 1#64 <<< i) := by unfold pr; rw [h1, h2, h]; rfl
end T
theorem rplain_run (op : Int) (av am bv bm : BitVec 64) (ha : T.right ⟨av, am⟩ = true) (hb0 : T.right ⟨bv, bm⟩ = true) : run Tryz.prog ⟨[(141, k_rRight), (187, k_rMay), (183, k_rBit), (118, k_rUnknown), (180, k_of)], eqs, [], [], []⟩ 10000 [] 0 (bodyOf Tryz.f185) (initF Tryz.f185 [.int .u8 op, .agg [.u64 av, .u64 am], .agg [.u64 bv, .u64 bm]]) [] (retK Tryz.prog Tryz.f185 fun x _ => eqv x (tsv (T.logic op ⟨av, am⟩ ⟨bv, bm⟩))) := by
  (conv => whnf)
  (repeat' (first | (refine And.intro (fun hb => ?_) (fun hb => ?_) <;> (first | contradiction | (conv => whnf))) | (refine And.intro ?_ ?_; rotate_left 1; (conv => whnf))))
  refine .inr ⟨[], [0, 4, 5, 6, 7, 8, 9], fun k vals M => ∃ j : Nat, j ≤ 64 ∧ k = 64 - j ∧ (True) ∧ vals = [.int .u8 op, .ptr 0 0, .ptr 1 0, .ptr 2 0, .u64 (T.mk (T.q1 op ⟨av, am⟩ ⟨bv, bm⟩) j), .u64 (T.mk (T.q0 op ⟨av, am⟩ ⟨bv, bm⟩) j), .int .i64 (j : Int)] ∧ M = [.cells 25 [.u64 av, .u64 am], .cells 25 [.u64 bv, .u64 bm], .cells 25 [.u64 (BitVec.ofInt 64 0), .u64 (BitVec.ofInt 64 0)]], ?_⟩
  conv => whnf
  refine And.intro ⟨64, [.cells 25 [.u64 av, .u64 am], .cells 25 [.u64 bv, .u64 bm], .cells 25 [.u64 (BitVec.ofInt 64 0), .u64 (BitVec.ofInt 64 0)]], (mle_cons ble_refl (mle_cons ble_refl (mle_cons ble_refl mle_nil))), rfl, rfl, 0, by omega, by omega, trivial, rfl, rfl⟩ ?_
  rintro k vals M1 ⟨j, hj, rfl, hx, rfl, rfl⟩
  (conv => whnf)
  (repeat' (first | (refine And.intro (fun hb => ?_) (fun hb => ?_) <;> (first | contradiction | (conv => whnf))) | (refine And.intro ?_ ?_; rotate_left 1; (conv => whnf))))
  all_goals try (first | rfl | trivial | (simp; done) | (simp; omega) | (simp at hb ⊢; omega) | (simp only [decide_eq_true_eq, Bool.and_eq_true, Int.toNat_natCast] at *; omega))
  · have hlt : j < 64 := by (simp at hb; omega)
    refine .inr ⟨[], [0, 4, 5, 6, 7, 8, 9, 10], fun k vals M => ∃ n : Nat, n ≤ 4 ∧ k = 4 - n ∧ (True) ∧ vals = [.int .u8 op, .ptr 0 0, .ptr 1 0, .ptr 2 0, .u64 (T.prs op ⟨av, am⟩ ⟨bv, bm⟩ j (T.mk (T.q1 op ⟨av, am⟩ ⟨bv, bm⟩) j, T.mk (T.q0 op ⟨av, am⟩ ⟨bv, bm⟩) j) n).1, .u64 (T.prs op ⟨av, am⟩ ⟨bv, bm⟩ j (T.mk (T.q1 op ⟨av, am⟩ ⟨bv, bm⟩) j, T.mk (T.q0 op ⟨av, am⟩ ⟨bv, bm⟩) j) n).2, .int .i64 (j : Int), .int .i64 (n : Int)] ∧ M = [.cells 25 [.u64 av, .u64 am], .cells 25 [.u64 bv, .u64 bm], .cells 25 [.u64 (BitVec.ofInt 64 0), .u64 (BitVec.ofInt 64 0)]], ?_⟩
    conv => whnf
    refine And.intro ⟨4, [.cells 25 [.u64 av, .u64 am], .cells 25 [.u64 bv, .u64 bm], .cells 25 [.u64 (BitVec.ofInt 64 0), .u64 (BitVec.ofInt 64 0)]], (mle_cons ble_refl (mle_cons ble_refl (mle_cons ble_refl mle_nil))), rfl, rfl, 0, by omega, by omega, trivial, rfl, rfl⟩ ?_
    rintro k vals M1 ⟨n, hn, rfl, hx, rfl, rfl⟩

    have h5 : n = 0 ∨ n = 1 ∨ n = 2 ∨ n = 3 ∨ n = 4 := by omega
    rcases h5 with rfl | rfl | rfl | rfl | rfl
    · (conv => whnf)
      (repeat' (first | (refine step_t (by first | rfl | assumption) ?_; (conv => whnf)) | (refine step_f (by first | rfl | assumption) ?_; (conv => whnf)) | (refine step_nt (by assumption) ?_; (conv => whnf)) | (refine step_nf (by assumption) ?_; (conv => whnf)) | (refine step_n (fun hb => ?_) (fun hb => ?_) <;> (first | contradiction | (conv => whnf))) | (refine And.intro (fun hb => ?_) (fun hb => ?_) <;> (first | contradiction | (conv => whnf))) | (refine And.intro ?_ ?_; rotate_left 1; (conv => whnf))))
      all_goals try (first | rfl | trivial | (simp; done) | (simp; omega) | (simp at hb ⊢; omega) | (simp only [decide_eq_true_eq, Bool.and_eq_true, Int.toNat_natCast] at *; omega))
      all_goals
        refine ⟨4 - (0 + 1), [.cells 25 [.u64 av, .u64 am], .cells 25 [.u64 bv, .u64 bm], .cells 25 [.u64 (BitVec.ofInt 64 0), .u64 (BitVec.ofInt 64 0)]], [0, 1, 2], by omega, rfl, (mle_cons ble_refl (mle_cons ble_refl (mle_cons ble_refl mle_nil))), rfl, rfl, 0 + 1, by omega, rfl, trivial, ?_, rfl⟩
        rw [show T.prs op ⟨av, am⟩ ⟨bv, bm⟩ j (T.mk (T.q1 op ⟨av, am⟩ ⟨bv, bm⟩) j, T.mk (T.q0 op ⟨av, am⟩ ⟨bv, bm⟩) j) (0 + 1) = T.pr op ⟨av, am⟩ ⟨bv, bm⟩ j (T.prs op ⟨av, am⟩ ⟨bv, bm⟩ j (T.mk (T.q1 op ⟨av, am⟩ ⟨bv, bm⟩) j, T.mk (T.q0 op ⟨av, am⟩ ⟨bv, bm⟩) j) 0) 0 from rfl]
        first
          | (rw [T.pr_skip1 (by assumption)]; rfl)
          | (rw [T.pr_skip2 (by assumption) (by assumption)]; rfl)
          | (rw [T.pr_one (by assumption) (by assumption) (by (first | rfl | (simp_all [T.b2, show Nat.testBit 1 0 = true from rfl, show Nat.testBit 1 1 = false from rfl, show Nat.testBit 2 0 = false from rfl, show Nat.testBit 2 1 = true from rfl, show Nat.testBit 3 0 = true from rfl, show Nat.testBit 3 1 = true from rfl]; done))), ← one_is hlt]; rfl)
          | (rw [T.pr_nought (by assumption) (by assumption) (by (first | rfl | (simp_all [T.b2, show Nat.testBit 1 0 = true from rfl, show Nat.testBit 1 1 = false from rfl, show Nat.testBit 2 0 = false from rfl, show Nat.testBit 2 1 = true from rfl, show Nat.testBit 3 0 = true from rfl, show Nat.testBit 3 1 = true from rfl]; done))), ← one_is hlt]; rfl)
    · (conv => whnf)
      (repeat' (first | (refine step_t (by first | rfl | assumption) ?_; (conv => whnf)) | (refine step_f (by first | rfl | assumption) ?_; (conv => whnf)) | (refine step_nt (by assumption) ?_; (conv => whnf)) | (refine step_nf (by assumption) ?_; (conv => whnf)) | (refine step_n (fun hb => ?_) (fun hb => ?_) <;> (first | contradiction | (conv => whnf))) | (refine And.intro (fun hb => ?_) (fun hb => ?_) <;> (first | contradiction | (conv => whnf))) | (refine And.intro ?_ ?_; rotate_left 1; (conv => whnf))))
      all_goals try (first | rfl | trivial | (simp; done) | (simp; omega) | (simp at hb ⊢; omega) | (simp only [decide_eq_true_eq, Bool.and_eq_true, Int.toNat_natCast] at *; omega))
      all_goals
        refine ⟨4 - (1 + 1), [.cells 25 [.u64 av, .u64 am], .cells 25 [.u64 bv, .u64 bm], .cells 25 [.u64 (BitVec.ofInt 64 0), .u64 (BitVec.ofInt 64 0)]], [0, 1, 2], by omega, rfl, (mle_cons ble_refl (mle_cons ble_refl (mle_cons ble_refl mle_nil))), rfl, rfl, 1 + 1, by omega, rfl, trivial, ?_, rfl⟩
        rw [show T.prs op ⟨av, am⟩ ⟨bv, bm⟩ j (T.mk (T.q1 op ⟨av, am⟩ ⟨bv, bm⟩) j, T.mk (T.q0 op ⟨av, am⟩ ⟨bv, bm⟩) j) (1 + 1) = T.pr op ⟨av, am⟩ ⟨bv, bm⟩ j (T.prs op ⟨av, am⟩ ⟨bv, bm⟩ j (T.mk (T.q1 op ⟨av, am⟩ ⟨bv, bm⟩) j, T.mk (T.q0 op ⟨av, am⟩ ⟨bv, bm⟩) j) 1) 1 from rfl]
        first
          | (rw [T.pr_skip1 (by assumption)]; rfl)
          | (rw [T.pr_skip2 (by assumption) (by assumption)]; rfl)
          | (rw [T.pr_one (by assumption) (by assumption) (by (first | rfl | (simp_all [T.b2, show Nat.testBit 1 0 = true from rfl, show Nat.testBit 1 1 = false from rfl, show Nat.testBit 2 0 = false from rfl, show Nat.testBit 2 1 = true from rfl, show Nat.testBit 3 0 = true from rfl, show Nat.testBit 3 1 = true from rfl]; done))), ← one_is hlt]; rfl)
          | (rw [T.pr_nought (by assumption) (by assumption) (by (first | rfl | (simp_all [T.b2, show Nat.testBit 1 0 = true from rfl, show Nat.testBit 1 1 = false from rfl, show Nat.testBit 2 0 = false from rfl, show Nat.testBit 2 1 = true from rfl, show Nat.testBit 3 0 = true from rfl, show Nat.testBit 3 1 = true from rfl]; done))), ← one_is hlt]; rfl)
    · (conv => whnf)
      (repeat' (first | (refine step_t (by first | rfl | assumption) ?_; (conv => whnf)) | (refine step_f (by first | rfl | assumption) ?_; (conv => whnf)) | (refine step_nt (by assumption) ?_; (conv => whnf)) | (refine step_nf (by assumption) ?_; (conv => whnf)) | (refine step_n (fun hb => ?_) (fun hb => ?_) <;> (first | contradiction | (conv => whnf))) | (refine And.intro (fun hb => ?_) (fun hb => ?_) <;> (first | contradiction | (conv => whnf))) | (refine And.intro ?_ ?_; rotate_left 1; (conv => whnf))))
      all_goals try (first | rfl | trivial | (simp; done) | (simp; omega) | (simp at hb ⊢; omega) | (simp only [decide_eq_true_eq, Bool.and_eq_true, Int.toNat_natCast] at *; omega))
      all_goals
        refine ⟨4 - (2 + 1), [.cells 25 [.u64 av, .u64 am], .cells 25 [.u64 bv, .u64 bm], .cells 25 [.u64 (BitVec.ofInt 64 0), .u64 (BitVec.ofInt 64 0)]], [0, 1, 2], by omega, rfl, (mle_cons ble_refl (mle_cons ble_refl (mle_cons ble_refl mle_nil))), rfl, rfl, 2 + 1, by omega, rfl, trivial, ?_, rfl⟩
        rw [show T.prs op ⟨av, am⟩ ⟨bv, bm⟩ j (T.mk (T.q1 op ⟨av, am⟩ ⟨bv, bm⟩) j, T.mk (T.q0 op ⟨av, am⟩ ⟨bv, bm⟩) j) (2 + 1) = T.pr op ⟨av, am⟩ ⟨bv, bm⟩ j (T.prs op ⟨av, am⟩ ⟨bv, bm⟩ j (T.mk (T.q1 op ⟨av, am⟩ ⟨bv, bm⟩) j, T.mk (T.q0 op ⟨av, am⟩ ⟨bv, bm⟩) j) 2) 2 from rfl]
        first
          | (rw [T.pr_skip1 (by assumption)]; rfl)
          | (rw [T.pr_skip2 (by assumption) (by assumption)]; rfl)
          | (rw [T.pr_one (by assumption) (by assumption) (by (first | rfl | (simp_all [T.b2, show Nat.testBit 1 0 = true from rfl, show Nat.testBit 1 1 = false from rfl, show Nat.testBit 2 0 = false from rfl, show Nat.testBit 2 1 = true from rfl, show Nat.testBit 3 0 = true from rfl, show Nat.testBit 3 1 = true from rfl]; done))), ← one_is hlt]; rfl)
          | (rw [T.pr_nought (by assumption) (by assumption) (by (first | rfl | (simp_all [T.b2, show Nat.testBit 1 0 = true from rfl, show Nat.testBit 1 1 = false from rfl, show Nat.testBit 2 0 = false from rfl, show Nat.testBit 2 1 = true from rfl, show Nat.testBit 3 0 = true from rfl, show Nat.testBit 3 1 = true from rfl]; done))), ← one_is hlt]; rfl)
    · (conv => whnf)
      (repeat' (first | (refine step_t (by first | rfl | assumption) ?_; (conv => whnf)) | (refine step_f (by first | rfl | assumption) ?_; (conv => whnf)) | (refine step_nt (by assumption) ?_; (conv => whnf)) | (refine step_nf (by assumption) ?_; (conv => whnf)) | (refine step_n (fun hb => ?_) (fun hb => ?_) <;> (first | contradiction | (conv => whnf))) | (refine And.intro (fun hb => ?_) (fun hb => ?_) <;> (first | contradiction | (conv => whnf))) | (refine And.intro ?_ ?_; rotate_left 1; (conv => whnf))))
      all_goals try (first | rfl | trivial | (simp; done) | (simp; omega) | (simp at hb ⊢; omega) | (simp only [decide_eq_true_eq, Bool.and_eq_true, Int.toNat_natCast] at *; omega))
      all_goals
        refine ⟨4 - (3 + 1), [.cells 25 [.u64 av, .u64 am], .cells 25 [.u64 bv, .u64 bm], .cells 25 [.u64 (BitVec.ofInt 64 0), .u64 (BitVec.ofInt 64 0)]], [0, 1, 2], by omega, rfl, (mle_cons ble_refl (mle_cons ble_refl (mle_cons ble_refl mle_nil))), rfl, rfl, 3 + 1, by omega, rfl, trivial, ?_, rfl⟩
        rw [show T.prs op ⟨av, am⟩ ⟨bv, bm⟩ j (T.mk (T.q1 op ⟨av, am⟩ ⟨bv, bm⟩) j, T.mk (T.q0 op ⟨av, am⟩ ⟨bv, bm⟩) j) (3 + 1) = T.pr op ⟨av, am⟩ ⟨bv, bm⟩ j (T.prs op ⟨av, am⟩ ⟨bv, bm⟩ j (T.mk (T.q1 op ⟨av, am⟩ ⟨bv, bm⟩) j, T.mk (T.q0 op ⟨av, am⟩ ⟨bv, bm⟩) j) 3) 3 from rfl]
        first
          | (rw [T.pr_skip1 (by assumption)]; rfl)
          | (rw [T.pr_skip2 (by assumption) (by assumption)]; rfl)
          | (rw [T.pr_one (by assumption) (by assumption) (by (first | rfl | (simp_all [T.b2, show Nat.testBit 1 0 = true from rfl, show Nat.testBit 1 1 = false from rfl, show Nat.testBit 2 0 = false from rfl, show Nat.testBit 2 1 = true from rfl, show Nat.testBit 3 0 = true from rfl, show Nat.testBit 3 1 = true from rfl]; done))), ← one_is hlt]; rfl)
          | (rw [T.pr_nought (by assumption) (by assumption) (by (first | rfl | (simp_all [T.b2, show Nat.testBit 1 0 = true from rfl, show Nat.testBit 1 1 = false from rfl, show Nat.testBit 2 0 = false from rfl, show Nat.testBit 2 1 = true from rfl, show Nat.testBit 3 0 = true from rfl, show Nat.testBit 3 1 = true from rfl]; done))), ← one_is hlt]; rfl)
    · (conv => whnf)
      (repeat' (first | (refine step_t (by first | rfl | assumption) ?_; (conv => whnf)) | (refine step_f (by first | rfl | assumption) ?_; (conv => whnf)) | (refine step_nt (by assumption) ?_; (conv => whnf)) | (refine step_nf (by assumption) ?_; (conv => whnf)) | (refine step_n (fun hb => ?_) (fun hb => ?_) <;> (first | contradiction | (conv => whnf))) | (refine And.intro (fun hb => ?_) (fun hb => ?_) <;> (first | contradiction | (conv => whnf))) | (refine And.intro ?_ ?_; rotate_left 1; (conv => whnf))))
      all_goals try (first | rfl | trivial | (simp; done) | (simp; omega) | (simp at hb ⊢; omega) | (simp only [decide_eq_true_eq, Bool.and_eq_true, Int.toNat_natCast] at *; omega))
      all_goals
        refine ⟨64 - (j + 1), [.cells 25 [.u64 av, .u64 am], .cells 25 [.u64 bv, .u64 bm], .cells 25 [.u64 (BitVec.ofInt 64 0), .u64 (BitVec.ofInt 64 0)]], [0, 1, 2], by omega, rfl, (mle_cons ble_refl (mle_cons ble_refl (mle_cons ble_refl mle_nil))), rfl, rfl, j + 1, by omega, rfl, trivial, ?_, rfl⟩
        simp only [T.prs4]; rw [← wrap_succ (j := j) (by omega)]; rfl
  all_goals
    have hj2 : j = 64 := by simp at hb; omega
    subst hj2
    rw [T.of_logic op ha hb0]; try rfl
end Go.Proofs.YtkfbjnikkmoanaaGreatDoor
namespace Go.Proofs.YtkfbjnikkmoanaaGreatDoor
open Go.RowKit Go.Sx
set_option linter.unusedSimpArgs false
set_option linter.unusedVariables false
set_option linter.unnecessarySimpa false
set_option maxRecDepth 100000
set_option maxHeartbeats 4000000
/-- A Bool as an element. -/
def eB : Enc Bool := ⟨fun b => [.bool b], fun l => match l with | [.bool b] => b | _ => false, fun l => match l with | [.bool _] => true | _ => false, false,
  fun l h => by revert h; split <;> simp_all, fun _ => rfl, fun _ => rfl⟩
theorem gB (L : List Bool) (i : Nat) (b : Bool) (hi : i < L.length) : ∀ k, k < L.length → gOf eB (L.set i b) k = gSet (gOf eB L) i 0 [.bool b] k := gSet_gOf eB hi rfl (by simp [eB])
namespace T
theorem rnd_skip0 {less : Bool} {a b : Tn} {i n : Nat} {c0 c1 : Bool} {s : St} (h : (if n.testBit 2 then c1 else c0) = false) : rnd less a b i c0 c1 s n = s := by unfold rnd; rw [h]; rfl
theorem rnd_skip1 {less : Bool} {a b : Tn} {i n : Nat} {c0 c1 : Bool} {s : St} (h0 : (if n.testBit 2 then c1 else c0) = true) (h : may a i (n.testBit 0) = false) : rnd less a b i c0 c1 s n = s := by unfold rnd; rw [h0, h]; rfl
theorem rnd_skip2 {less : Bool} {a b : Tn} {i n : Nat} {c0 c1 : Bool} {s : St} (h0 : (if n.testBit 2 then c1 else c0) = true) (h1 : may a i (n.testBit 0) = true) (h : may b i (n.testBit 1) = false) : rnd less a b i c0 c1 s n = s := by unfold rnd; rw [h0, h1, h]; rfl
theorem rnd_go {less : Bool} {a b : Tn} {i n : Nat} {c0 c1 : Bool} {s : St} (h0 : (if n.testBit 2 then c1 else c0) = true) (h1 : may a i (n.testBit 0) = true) (h : may b i (n.testBit 1) = true) : rnd less a b i c0 c1 s n =
    (let z : St := if odd n then ⟨s.x ||| 1#64 <<< i, s.y, s.c0, s.c1⟩ else ⟨s.x, s.y ||| 1#64 <<< i, s.c0, s.c1⟩
     if cbn less n then ⟨z.x, z.y, z.c0, true⟩ else ⟨z.x, z.y, true, z.c1⟩) := by unfold rnd; rw [h0, h1, h]; rfl
end T
theorem rsum_run (av am bv bm : BitVec 64) (ha : T.right ⟨av, am⟩ = true) (hb0 : T.right ⟨bv, bm⟩ = true) : run Tryz.prog ⟨[(141, k_rRight), (187, k_rMay), (183, k_rBit), (118, k_rUnknown), (180, k_of)], eqs, [], [], []⟩ 10000 [] 0 (bodyOf Tryz.f184) (initF Tryz.f184 [.agg [.u64 av, .u64 am], .agg [.u64 bv, .u64 bm], .ff]) [] (retK Tryz.prog Tryz.f184 fun x _ => eqv x (tsv (T.sum ⟨av, am⟩ ⟨bv, bm⟩))) := by
  (conv => whnf)
  (repeat' (first | (refine And.intro (fun hb => ?_) (fun hb => ?_) <;> (first | contradiction | (conv => whnf))) | (refine And.intro ?_ ?_; rotate_left 1; (conv => whnf))))
  refine .inr ⟨[], [2, 3, 4, 6, 7, 8, 9, 10], fun k vals M => ∃ j : Nat, j ≤ 64 ∧ k = 64 - j ∧ (True) ∧ vals = [.ff, .ptr 0 0, .ptr 1 0, .ptr 2 0, .u64 (T.mk (T.sx false ⟨av, am⟩ ⟨bv, bm⟩) j), .u64 (T.mk (T.sy false ⟨av, am⟩ ⟨bv, bm⟩) j), .sl 3 1 0 2, .int .i64 (j : Int)] ∧ M = [.cells 25 [.u64 av, .u64 am], .cells 25 [.u64 bv, .u64 bm], .cells 25 [.u64 (BitVec.ofInt 64 0), .u64 (BitVec.ofInt 64 0)], .own 4 1 2 (gOf eB [(T.cs false ⟨av, am⟩ ⟨bv, bm⟩ j).1, (T.cs false ⟨av, am⟩ ⟨bv, bm⟩ j).2])], ?_⟩
  conv => whnf
  refine And.intro ⟨64, [.cells 25 [.u64 av, .u64 am], .cells 25 [.u64 bv, .u64 bm], .cells 25 [.u64 (BitVec.ofInt 64 0), .u64 (BitVec.ofInt 64 0)], .own 4 1 2 (gOf eB [(T.cs false ⟨av, am⟩ ⟨bv, bm⟩ 0).1, (T.cs false ⟨av, am⟩ ⟨bv, bm⟩ 0).2])], (mle_cons ble_refl (mle_cons ble_refl (mle_cons ble_refl (mle_cons (ble_own rfl fun i hi => by match i, hi with | 0, _ => rfl | 1, _ => rfl) mle_nil)))), rfl, rfl, 0, by omega, by omega, trivial, rfl, rfl⟩ ?_
  rintro k vals M1 ⟨j, hj, rfl, hx, rfl, rfl⟩
  (conv => whnf)
  (repeat' (first | (refine And.intro (fun hb => ?_) (fun hb => ?_) <;> (first | contradiction | (conv => whnf))) | (refine And.intro ?_ ?_; rotate_left 1; (conv => whnf))))
  all_goals try (first | rfl | trivial | (simp; done) | (simp; omega) | (simp at hb ⊢; omega) | (simp only [decide_eq_true_eq, Bool.and_eq_true, Int.toNat_natCast] at *; omega))
  · have hlt : j < 64 := by (simp at hb; omega)
    refine .inr ⟨[], [2, 3, 4, 6, 7, 8, 9, 10, 11, 12], fun k vals M => ∃ n : Nat, n ≤ 8 ∧ k = 8 - n ∧ (True) ∧ vals = [.ff, .ptr 0 0, .ptr 1 0, .ptr 2 0, .u64 (T.rnds false ⟨av, am⟩ ⟨bv, bm⟩ j (T.cs false ⟨av, am⟩ ⟨bv, bm⟩ j).1 (T.cs false ⟨av, am⟩ ⟨bv, bm⟩ j).2 ⟨T.mk (T.sx false ⟨av, am⟩ ⟨bv, bm⟩) j, T.mk (T.sy false ⟨av, am⟩ ⟨bv, bm⟩) j, false, false⟩ n).x, .u64 (T.rnds false ⟨av, am⟩ ⟨bv, bm⟩ j (T.cs false ⟨av, am⟩ ⟨bv, bm⟩ j).1 (T.cs false ⟨av, am⟩ ⟨bv, bm⟩ j).2 ⟨T.mk (T.sx false ⟨av, am⟩ ⟨bv, bm⟩) j, T.mk (T.sy false ⟨av, am⟩ ⟨bv, bm⟩) j, false, false⟩ n).y, .sl 3 1 0 2, .int .i64 (j : Int), .sl 4 1 0 2, .int .i64 (n : Int)] ∧ M = [.cells 25 [.u64 av, .u64 am], .cells 25 [.u64 bv, .u64 bm], .cells 25 [.u64 (BitVec.ofInt 64 0), .u64 (BitVec.ofInt 64 0)], .own 4 1 2 (gOf eB [(T.cs false ⟨av, am⟩ ⟨bv, bm⟩ j).1, (T.cs false ⟨av, am⟩ ⟨bv, bm⟩ j).2]), .own 4 1 2 (gOf eB [(T.rnds false ⟨av, am⟩ ⟨bv, bm⟩ j (T.cs false ⟨av, am⟩ ⟨bv, bm⟩ j).1 (T.cs false ⟨av, am⟩ ⟨bv, bm⟩ j).2 ⟨T.mk (T.sx false ⟨av, am⟩ ⟨bv, bm⟩) j, T.mk (T.sy false ⟨av, am⟩ ⟨bv, bm⟩) j, false, false⟩ n).c0, (T.rnds false ⟨av, am⟩ ⟨bv, bm⟩ j (T.cs false ⟨av, am⟩ ⟨bv, bm⟩ j).1 (T.cs false ⟨av, am⟩ ⟨bv, bm⟩ j).2 ⟨T.mk (T.sx false ⟨av, am⟩ ⟨bv, bm⟩) j, T.mk (T.sy false ⟨av, am⟩ ⟨bv, bm⟩) j, false, false⟩ n).c1])], ?_⟩
    conv => whnf
    refine And.intro ⟨8, [.cells 25 [.u64 av, .u64 am], .cells 25 [.u64 bv, .u64 bm], .cells 25 [.u64 (BitVec.ofInt 64 0), .u64 (BitVec.ofInt 64 0)], .own 4 1 2 (gOf eB [(T.cs false ⟨av, am⟩ ⟨bv, bm⟩ j).1, (T.cs false ⟨av, am⟩ ⟨bv, bm⟩ j).2]), .own 4 1 2 (gOf eB [(T.rnds false ⟨av, am⟩ ⟨bv, bm⟩ j (T.cs false ⟨av, am⟩ ⟨bv, bm⟩ j).1 (T.cs false ⟨av, am⟩ ⟨bv, bm⟩ j).2 ⟨T.mk (T.sx false ⟨av, am⟩ ⟨bv, bm⟩) j, T.mk (T.sy false ⟨av, am⟩ ⟨bv, bm⟩) j, false, false⟩ 0).c0, (T.rnds false ⟨av, am⟩ ⟨bv, bm⟩ j (T.cs false ⟨av, am⟩ ⟨bv, bm⟩ j).1 (T.cs false ⟨av, am⟩ ⟨bv, bm⟩ j).2 ⟨T.mk (T.sx false ⟨av, am⟩ ⟨bv, bm⟩) j, T.mk (T.sy false ⟨av, am⟩ ⟨bv, bm⟩) j, false, false⟩ 0).c1])], (mle_cons ble_refl (mle_cons ble_refl (mle_cons ble_refl (mle_cons ble_refl (mle_cons (ble_own rfl fun i hi => by match i, hi with | 0, _ => rfl | 1, _ => rfl) mle_nil))))), rfl, rfl, 0, by omega, by omega, trivial, rfl, rfl⟩ ?_
    rintro k vals M1 ⟨n, hn, rfl, hx, rfl, rfl⟩

    have h5 : n = 0 ∨ n = 1 ∨ n = 2 ∨ n = 3 ∨ n = 4 ∨ n = 5 ∨ n = 6 ∨ n = 7 ∨ n = 8 := by omega
    rcases h5 with rfl | rfl | rfl | rfl | rfl | rfl | rfl | rfl | rfl
    · (conv => whnf)
      (repeat' (first | (refine step_t (by first | rfl | assumption) ?_; (conv => whnf)) | (refine step_f (by first | rfl | assumption) ?_; (conv => whnf)) | (refine step_nt (by assumption) ?_; (conv => whnf)) | (refine step_nf (by assumption) ?_; (conv => whnf)) | (refine step_n (fun hb => ?_) (fun hb => ?_) <;> (first | contradiction | (conv => whnf))) | (refine And.intro (fun hb => ?_) (fun hb => ?_) <;> (first | contradiction | (conv => whnf))) | (refine And.intro ?_ ?_; rotate_left 1; (conv => whnf))))
      all_goals try (first | rfl | trivial | (simp; done) | (simp; omega) | (simp at hb ⊢; omega) | (simp only [decide_eq_true_eq, Bool.and_eq_true, Int.toNat_natCast] at *; omega))
      all_goals
        refine ⟨8 - (0 + 1), [.cells 25 [.u64 av, .u64 am], .cells 25 [.u64 bv, .u64 bm], .cells 25 [.u64 (BitVec.ofInt 64 0), .u64 (BitVec.ofInt 64 0)], .own 4 1 2 (gOf eB [(T.cs false ⟨av, am⟩ ⟨bv, bm⟩ j).1, (T.cs false ⟨av, am⟩ ⟨bv, bm⟩ j).2]), .own 4 1 2 (gOf eB [(T.rnds false ⟨av, am⟩ ⟨bv, bm⟩ j (T.cs false ⟨av, am⟩ ⟨bv, bm⟩ j).1 (T.cs false ⟨av, am⟩ ⟨bv, bm⟩ j).2 ⟨T.mk (T.sx false ⟨av, am⟩ ⟨bv, bm⟩) j, T.mk (T.sy false ⟨av, am⟩ ⟨bv, bm⟩) j, false, false⟩ (0 + 1)).c0, (T.rnds false ⟨av, am⟩ ⟨bv, bm⟩ j (T.cs false ⟨av, am⟩ ⟨bv, bm⟩ j).1 (T.cs false ⟨av, am⟩ ⟨bv, bm⟩ j).2 ⟨T.mk (T.sx false ⟨av, am⟩ ⟨bv, bm⟩) j, T.mk (T.sy false ⟨av, am⟩ ⟨bv, bm⟩) j, false, false⟩ (0 + 1)).c1])], [0, 1, 2, 3, 4], by omega, rfl, (mle_cons ble_refl (mle_cons ble_refl (mle_cons ble_refl (mle_cons ble_refl (mle_cons (ble_own rfl fun i hi => ?_) mle_nil))))), rfl, rfl, 0 + 1, by omega, rfl, trivial, ?_, rfl⟩
        · rw [show (T.rnds false ⟨av, am⟩ ⟨bv, bm⟩ j (T.cs false ⟨av, am⟩ ⟨bv, bm⟩ j).1 (T.cs false ⟨av, am⟩ ⟨bv, bm⟩ j).2 ⟨T.mk (T.sx false ⟨av, am⟩ ⟨bv, bm⟩) j, T.mk (T.sy false ⟨av, am⟩ ⟨bv, bm⟩) j, false, false⟩ (0 + 1)) = T.rnd false ⟨av, am⟩ ⟨bv, bm⟩ j (T.cs false ⟨av, am⟩ ⟨bv, bm⟩ j).1 (T.cs false ⟨av, am⟩ ⟨bv, bm⟩ j).2 (T.rnds false ⟨av, am⟩ ⟨bv, bm⟩ j (T.cs false ⟨av, am⟩ ⟨bv, bm⟩ j).1 (T.cs false ⟨av, am⟩ ⟨bv, bm⟩ j).2 ⟨T.mk (T.sx false ⟨av, am⟩ ⟨bv, bm⟩) j, T.mk (T.sy false ⟨av, am⟩ ⟨bv, bm⟩) j, false, false⟩ 0) 0 from rfl]
          first
            | (rw [T.rnd_skip0 (by assumption)]; done)
            | (rw [T.rnd_skip1 (by assumption) (by assumption)]; done)
            | (rw [T.rnd_skip2 (by assumption) (by assumption) (by assumption)]; done)
            | (rw [T.rnd_go (by assumption) (by assumption) (by assumption)]; exact gB [_, _] 1 true (by simp) i hi)
            | (rw [T.rnd_go (by assumption) (by assumption) (by assumption)]; exact gB [_, _] 0 true (by simp) i hi)
        · rw [show (T.rnds false ⟨av, am⟩ ⟨bv, bm⟩ j (T.cs false ⟨av, am⟩ ⟨bv, bm⟩ j).1 (T.cs false ⟨av, am⟩ ⟨bv, bm⟩ j).2 ⟨T.mk (T.sx false ⟨av, am⟩ ⟨bv, bm⟩) j, T.mk (T.sy false ⟨av, am⟩ ⟨bv, bm⟩) j, false, false⟩ (0 + 1)) = T.rnd false ⟨av, am⟩ ⟨bv, bm⟩ j (T.cs false ⟨av, am⟩ ⟨bv, bm⟩ j).1 (T.cs false ⟨av, am⟩ ⟨bv, bm⟩ j).2 (T.rnds false ⟨av, am⟩ ⟨bv, bm⟩ j (T.cs false ⟨av, am⟩ ⟨bv, bm⟩ j).1 (T.cs false ⟨av, am⟩ ⟨bv, bm⟩ j).2 ⟨T.mk (T.sx false ⟨av, am⟩ ⟨bv, bm⟩) j, T.mk (T.sy false ⟨av, am⟩ ⟨bv, bm⟩) j, false, false⟩ 0) 0 from rfl]
          first
            | (rw [T.rnd_skip0 (by assumption)]; rfl)
            | (rw [T.rnd_skip1 (by assumption) (by assumption)]; rfl)
            | (rw [T.rnd_skip2 (by assumption) (by assumption) (by assumption)]; rfl)
            | (rw [T.rnd_go (by assumption) (by assumption) (by assumption), ← one_is hlt]; rfl)
    · (conv => whnf)
      (repeat' (first | (refine step_t (by first | rfl | assumption) ?_; (conv => whnf)) | (refine step_f (by first | rfl | assumption) ?_; (conv => whnf)) | (refine step_nt (by assumption) ?_; (conv => whnf)) | (refine step_nf (by assumption) ?_; (conv => whnf)) | (refine step_n (fun hb => ?_) (fun hb => ?_) <;> (first | contradiction | (conv => whnf))) | (refine And.intro (fun hb => ?_) (fun hb => ?_) <;> (first | contradiction | (conv => whnf))) | (refine And.intro ?_ ?_; rotate_left 1; (conv => whnf))))
      all_goals try (first | rfl | trivial | (simp; done) | (simp; omega) | (simp at hb ⊢; omega) | (simp only [decide_eq_true_eq, Bool.and_eq_true, Int.toNat_natCast] at *; omega))
      all_goals
        refine ⟨8 - (1 + 1), [.cells 25 [.u64 av, .u64 am], .cells 25 [.u64 bv, .u64 bm], .cells 25 [.u64 (BitVec.ofInt 64 0), .u64 (BitVec.ofInt 64 0)], .own 4 1 2 (gOf eB [(T.cs false ⟨av, am⟩ ⟨bv, bm⟩ j).1, (T.cs false ⟨av, am⟩ ⟨bv, bm⟩ j).2]), .own 4 1 2 (gOf eB [(T.rnds false ⟨av, am⟩ ⟨bv, bm⟩ j (T.cs false ⟨av, am⟩ ⟨bv, bm⟩ j).1 (T.cs false ⟨av, am⟩ ⟨bv, bm⟩ j).2 ⟨T.mk (T.sx false ⟨av, am⟩ ⟨bv, bm⟩) j, T.mk (T.sy false ⟨av, am⟩ ⟨bv, bm⟩) j, false, false⟩ (1 + 1)).c0, (T.rnds false ⟨av, am⟩ ⟨bv, bm⟩ j (T.cs false ⟨av, am⟩ ⟨bv, bm⟩ j).1 (T.cs false ⟨av, am⟩ ⟨bv, bm⟩ j).2 ⟨T.mk (T.sx false ⟨av, am⟩ ⟨bv, bm⟩) j, T.mk (T.sy false ⟨av, am⟩ ⟨bv, bm⟩) j, false, false⟩ (1 + 1)).c1])], [0, 1, 2, 3, 4], by omega, rfl, (mle_cons ble_refl (mle_cons ble_refl (mle_cons ble_refl (mle_cons ble_refl (mle_cons (ble_own rfl fun i hi => ?_) mle_nil))))), rfl, rfl, 1 + 1, by omega, rfl, trivial, ?_, rfl⟩
        · rw [show (T.rnds false ⟨av, am⟩ ⟨bv, bm⟩ j (T.cs false ⟨av, am⟩ ⟨bv, bm⟩ j).1 (T.cs false ⟨av, am⟩ ⟨bv, bm⟩ j).2 ⟨T.mk (T.sx false ⟨av, am⟩ ⟨bv, bm⟩) j, T.mk (T.sy false ⟨av, am⟩ ⟨bv, bm⟩) j, false, false⟩ (1 + 1)) = T.rnd false ⟨av, am⟩ ⟨bv, bm⟩ j (T.cs false ⟨av, am⟩ ⟨bv, bm⟩ j).1 (T.cs false ⟨av, am⟩ ⟨bv, bm⟩ j).2 (T.rnds false ⟨av, am⟩ ⟨bv, bm⟩ j (T.cs false ⟨av, am⟩ ⟨bv, bm⟩ j).1 (T.cs false ⟨av, am⟩ ⟨bv, bm⟩ j).2 ⟨T.mk (T.sx false ⟨av, am⟩ ⟨bv, bm⟩) j, T.mk (T.sy false ⟨av, am⟩ ⟨bv, bm⟩) j, false, false⟩ 1) 1 from rfl]
          first
            | (rw [T.rnd_skip0 (by assumption)]; done)
            | (rw [T.rnd_skip1 (by assumption) (by assumption)]; done)
            | (rw [T.rnd_skip2 (by assumption) (by assumption) (by assumption)]; done)
            | (rw [T.rnd_go (by assumption) (by assumption) (by assumption)]; exact gB [_, _] 1 true (by simp) i hi)
            | (rw [T.rnd_go (by assumption) (by assumption) (by assumption)]; exact gB [_, _] 0 true (by simp) i hi)
        · rw [show (T.rnds false ⟨av, am⟩ ⟨bv, bm⟩ j (T.cs false ⟨av, am⟩ ⟨bv, bm⟩ j).1 (T.cs false ⟨av, am⟩ ⟨bv, bm⟩ j).2 ⟨T.mk (T.sx false ⟨av, am⟩ ⟨bv, bm⟩) j, T.mk (T.sy false ⟨av, am⟩ ⟨bv, bm⟩) j, false, false⟩ (1 + 1)) = T.rnd false ⟨av, am⟩ ⟨bv, bm⟩ j (T.cs false ⟨av, am⟩ ⟨bv, bm⟩ j).1 (T.cs false ⟨av, am⟩ ⟨bv, bm⟩ j).2 (T.rnds false ⟨av, am⟩ ⟨bv, bm⟩ j (T.cs false ⟨av, am⟩ ⟨bv, bm⟩ j).1 (T.cs false ⟨av, am⟩ ⟨bv, bm⟩ j).2 ⟨T.mk (T.sx false ⟨av, am⟩ ⟨bv, bm⟩) j, T.mk (T.sy false ⟨av, am⟩ ⟨bv, bm⟩) j, false, false⟩ 1) 1 from rfl]
          first
            | (rw [T.rnd_skip0 (by assumption)]; rfl)
            | (rw [T.rnd_skip1 (by assumption) (by assumption)]; rfl)
            | (rw [T.rnd_skip2 (by assumption) (by assumption) (by assumption)]; rfl)
            | (rw [T.rnd_go (by assumption) (by assumption) (by assumption), ← one_is hlt]; rfl)
    · (conv => whnf)
      (repeat' (first | (refine step_t (by first | rfl | assumption) ?_; (conv => whnf)) | (refine step_f (by first | rfl | assumption) ?_; (conv => whnf)) | (refine step_nt (by assumption) ?_; (conv => whnf)) | (refine step_nf (by assumption) ?_; (conv => whnf)) | (refine step_n (fun hb => ?_) (fun hb => ?_) <;> (first | contradiction | (conv => whnf))) | (refine And.intro (fun hb => ?_) (fun hb => ?_) <;> (first | contradiction | (conv => whnf))) | (refine And.intro ?_ ?_; rotate_left 1; (conv => whnf))))
      all_goals try (first | rfl | trivial | (simp; done) | (simp; omega) | (simp at hb ⊢; omega) | (simp only [decide_eq_true_eq, Bool.and_eq_true, Int.toNat_natCast] at *; omega))
      all_goals
        refine ⟨8 - (2 + 1), [.cells 25 [.u64 av, .u64 am], .cells 25 [.u64 bv, .u64 bm], .cells 25 [.u64 (BitVec.ofInt 64 0), .u64 (BitVec.ofInt 64 0)], .own 4 1 2 (gOf eB [(T.cs false ⟨av, am⟩ ⟨bv, bm⟩ j).1, (T.cs false ⟨av, am⟩ ⟨bv, bm⟩ j).2]), .own 4 1 2 (gOf eB [(T.rnds false ⟨av, am⟩ ⟨bv, bm⟩ j (T.cs false ⟨av, am⟩ ⟨bv, bm⟩ j).1 (T.cs false ⟨av, am⟩ ⟨bv, bm⟩ j).2 ⟨T.mk (T.sx false ⟨av, am⟩ ⟨bv, bm⟩) j, T.mk (T.sy false ⟨av, am⟩ ⟨bv, bm⟩) j, false, false⟩ (2 + 1)).c0, (T.rnds false ⟨av, am⟩ ⟨bv, bm⟩ j (T.cs false ⟨av, am⟩ ⟨bv, bm⟩ j).1 (T.cs false ⟨av, am⟩ ⟨bv, bm⟩ j).2 ⟨T.mk (T.sx false ⟨av, am⟩ ⟨bv, bm⟩) j, T.mk (T.sy false ⟨av, am⟩ ⟨bv, bm⟩) j, false, false⟩ (2 + 1)).c1])], [0, 1, 2, 3, 4], by omega, rfl, (mle_cons ble_refl (mle_cons ble_refl (mle_cons ble_refl (mle_cons ble_refl (mle_cons (ble_own rfl fun i hi => ?_) mle_nil))))), rfl, rfl, 2 + 1, by omega, rfl, trivial, ?_, rfl⟩
        · rw [show (T.rnds false ⟨av, am⟩ ⟨bv, bm⟩ j (T.cs false ⟨av, am⟩ ⟨bv, bm⟩ j).1 (T.cs false ⟨av, am⟩ ⟨bv, bm⟩ j).2 ⟨T.mk (T.sx false ⟨av, am⟩ ⟨bv, bm⟩) j, T.mk (T.sy false ⟨av, am⟩ ⟨bv, bm⟩) j, false, false⟩ (2 + 1)) = T.rnd false ⟨av, am⟩ ⟨bv, bm⟩ j (T.cs false ⟨av, am⟩ ⟨bv, bm⟩ j).1 (T.cs false ⟨av, am⟩ ⟨bv, bm⟩ j).2 (T.rnds false ⟨av, am⟩ ⟨bv, bm⟩ j (T.cs false ⟨av, am⟩ ⟨bv, bm⟩ j).1 (T.cs false ⟨av, am⟩ ⟨bv, bm⟩ j).2 ⟨T.mk (T.sx false ⟨av, am⟩ ⟨bv, bm⟩) j, T.mk (T.sy false ⟨av, am⟩ ⟨bv, bm⟩) j, false, false⟩ 2) 2 from rfl]
          first
            | (rw [T.rnd_skip0 (by assumption)]; done)
            | (rw [T.rnd_skip1 (by assumption) (by assumption)]; done)
            | (rw [T.rnd_skip2 (by assumption) (by assumption) (by assumption)]; done)
            | (rw [T.rnd_go (by assumption) (by assumption) (by assumption)]; exact gB [_, _] 1 true (by simp) i hi)
            | (rw [T.rnd_go (by assumption) (by assumption) (by assumption)]; exact gB [_, _] 0 true (by simp) i hi)
        · rw [show (T.rnds false ⟨av, am⟩ ⟨bv, bm⟩ j (T.cs false ⟨av, am⟩ ⟨bv, bm⟩ j).1 (T.cs false ⟨av, am⟩ ⟨bv, bm⟩ j).2 ⟨T.mk (T.sx false ⟨av, am⟩ ⟨bv, bm⟩) j, T.mk (T.sy false ⟨av, am⟩ ⟨bv, bm⟩) j, false, false⟩ (2 + 1)) = T.rnd false ⟨av, am⟩ ⟨bv, bm⟩ j (T.cs false ⟨av, am⟩ ⟨bv, bm⟩ j).1 (T.cs false ⟨av, am⟩ ⟨bv, bm⟩ j).2 (T.rnds false ⟨av, am⟩ ⟨bv, bm⟩ j (T.cs false ⟨av, am⟩ ⟨bv, bm⟩ j).1 (T.cs false ⟨av, am⟩ ⟨bv, bm⟩ j).2 ⟨T.mk (T.sx false ⟨av, am⟩ ⟨bv, bm⟩) j, T.mk (T.sy false ⟨av, am⟩ ⟨bv, bm⟩) j, false, false⟩ 2) 2 from rfl]
          first
            | (rw [T.rnd_skip0 (by assumption)]; rfl)
            | (rw [T.rnd_skip1 (by assumption) (by assumption)]; rfl)
            | (rw [T.rnd_skip2 (by assumption) (by assumption) (by assumption)]; rfl)
            | (rw [T.rnd_go (by assumption) (by assumption) (by assumption), ← one_is hlt]; rfl)
    · (conv => whnf)
      (repeat' (first | (refine step_t (by first | rfl | assumption) ?_; (conv => whnf)) | (refine step_f (by first | rfl | assumption) ?_; (conv => whnf)) | (refine step_nt (by assumption) ?_; (conv => whnf)) | (refine step_nf (by assumption) ?_; (conv => whnf)) | (refine step_n (fun hb => ?_) (fun hb => ?_) <;> (first | contradiction | (conv => whnf))) | (refine And.intro (fun hb => ?_) (fun hb => ?_) <;> (first | contradiction | (conv => whnf))) | (refine And.intro ?_ ?_; rotate_left 1; (conv => whnf))))
      all_goals try (first | rfl | trivial | (simp; done) | (simp; omega) | (simp at hb ⊢; omega) | (simp only [decide_eq_true_eq, Bool.and_eq_true, Int.toNat_natCast] at *; omega))
      all_goals
        refine ⟨8 - (3 + 1), [.cells 25 [.u64 av, .u64 am], .cells 25 [.u64 bv, .u64 bm], .cells 25 [.u64 (BitVec.ofInt 64 0), .u64 (BitVec.ofInt 64 0)], .own 4 1 2 (gOf eB [(T.cs false ⟨av, am⟩ ⟨bv, bm⟩ j).1, (T.cs false ⟨av, am⟩ ⟨bv, bm⟩ j).2]), .own 4 1 2 (gOf eB [(T.rnds false ⟨av, am⟩ ⟨bv, bm⟩ j (T.cs false ⟨av, am⟩ ⟨bv, bm⟩ j).1 (T.cs false ⟨av, am⟩ ⟨bv, bm⟩ j).2 ⟨T.mk (T.sx false ⟨av, am⟩ ⟨bv, bm⟩) j, T.mk (T.sy false ⟨av, am⟩ ⟨bv, bm⟩) j, false, false⟩ (3 + 1)).c0, (T.rnds false ⟨av, am⟩ ⟨bv, bm⟩ j (T.cs false ⟨av, am⟩ ⟨bv, bm⟩ j).1 (T.cs false ⟨av, am⟩ ⟨bv, bm⟩ j).2 ⟨T.mk (T.sx false ⟨av, am⟩ ⟨bv, bm⟩) j, T.mk (T.sy false ⟨av, am⟩ ⟨bv, bm⟩) j, false, false⟩ (3 + 1)).c1])], [0, 1, 2, 3, 4], by omega, rfl, (mle_cons ble_refl (mle_cons ble_refl (mle_cons ble_refl (mle_cons ble_refl (mle_cons (ble_own rfl fun i hi => ?_) mle_nil))))), rfl, rfl, 3 + 1, by omega, rfl, trivial, ?_, rfl⟩
        · rw [show (T.rnds false ⟨av, am⟩ ⟨bv, bm⟩ j (T.cs false ⟨av, am⟩ ⟨bv, bm⟩ j).1 (T.cs false ⟨av, am⟩ ⟨bv, bm⟩ j).2 ⟨T.mk (T.sx false ⟨av, am⟩ ⟨bv, bm⟩) j, T.mk (T.sy false ⟨av, am⟩ ⟨bv, bm⟩) j, false, false⟩ (3 + 1)) = T.rnd false ⟨av, am⟩ ⟨bv, bm⟩ j (T.cs false ⟨av, am⟩ ⟨bv, bm⟩ j).1 (T.cs false ⟨av, am⟩ ⟨bv, bm⟩ j).2 (T.rnds false ⟨av, am⟩ ⟨bv, bm⟩ j (T.cs false ⟨av, am⟩ ⟨bv, bm⟩ j).1 (T.cs false ⟨av, am⟩ ⟨bv, bm⟩ j).2 ⟨T.mk (T.sx false ⟨av, am⟩ ⟨bv, bm⟩) j, T.mk (T.sy false ⟨av, am⟩ ⟨bv, bm⟩) j, false, false⟩ 3) 3 from rfl]
          first
            | (rw [T.rnd_skip0 (by assumption)]; done)
            | (rw [T.rnd_skip1 (by assumption) (by assumption)]; done)
            | (rw [T.rnd_skip2 (by assumption) (by assumption) (by assumption)]; done)
            | (rw [T.rnd_go (by assumption) (by assumption) (by assumption)]; exact gB [_, _] 1 true (by simp) i hi)
            | (rw [T.rnd_go (by assumption) (by assumption) (by assumption)]; exact gB [_, _] 0 true (by simp) i hi)
        · rw [show (T.rnds false ⟨av, am⟩ ⟨bv, bm⟩ j (T.cs false ⟨av, am⟩ ⟨bv, bm⟩ j).1 (T.cs false ⟨av, am⟩ ⟨bv, bm⟩ j).2 ⟨T.mk (T.sx false ⟨av, am⟩ ⟨bv, bm⟩) j, T.mk (T.sy false ⟨av, am⟩ ⟨bv, bm⟩) j, false, false⟩ (3 + 1)) = T.rnd false ⟨av, am⟩ ⟨bv, bm⟩ j (T.cs false ⟨av, am⟩ ⟨bv, bm⟩ j).1 (T.cs false ⟨av, am⟩ ⟨bv, bm⟩ j).2 (T.rnds false ⟨av, am⟩ ⟨bv, bm⟩ j (T.cs false ⟨av, am⟩ ⟨bv, bm⟩ j).1 (T.cs false ⟨av, am⟩ ⟨bv, bm⟩ j).2 ⟨T.mk (T.sx false ⟨av, am⟩ ⟨bv, bm⟩) j, T.mk (T.sy false ⟨av, am⟩ ⟨bv, bm⟩) j, false, false⟩ 3) 3 from rfl]
          first
            | (rw [T.rnd_skip0 (by assumption)]; rfl)
            | (rw [T.rnd_skip1 (by assumption) (by assumption)]; rfl)
            | (rw [T.rnd_skip2 (by assumption) (by assumption) (by assumption)]; rfl)
            | (rw [T.rnd_go (by assumption) (by assumption) (by assumption), ← one_is hlt]; rfl)
    · (conv => whnf)
      (repeat' (first | (refine step_t (by first | rfl | assumption) ?_; (conv => whnf)) | (refine step_f (by first | rfl | assumption) ?_; (conv => whnf)) | (refine step_nt (by assumption) ?_; (conv => whnf)) | (refine step_nf (by assumption) ?_; (conv => whnf)) | (refine step_n (fun hb => ?_) (fun hb => ?_) <;> (first | contradiction | (conv => whnf))) | (refine And.intro (fun hb => ?_) (fun hb => ?_) <;> (first | contradiction | (conv => whnf))) | (refine And.intro ?_ ?_; rotate_left 1; (conv => whnf))))
      all_goals try (first | rfl | trivial | (simp; done) | (simp; omega) | (simp at hb ⊢; omega) | (simp only [decide_eq_true_eq, Bool.and_eq_true, Int.toNat_natCast] at *; omega))
      all_goals
        refine ⟨8 - (4 + 1), [.cells 25 [.u64 av, .u64 am], .cells 25 [.u64 bv, .u64 bm], .cells 25 [.u64 (BitVec.ofInt 64 0), .u64 (BitVec.ofInt 64 0)], .own 4 1 2 (gOf eB [(T.cs false ⟨av, am⟩ ⟨bv, bm⟩ j).1, (T.cs false ⟨av, am⟩ ⟨bv, bm⟩ j).2]), .own 4 1 2 (gOf eB [(T.rnds false ⟨av, am⟩ ⟨bv, bm⟩ j (T.cs false ⟨av, am⟩ ⟨bv, bm⟩ j).1 (T.cs false ⟨av, am⟩ ⟨bv, bm⟩ j).2 ⟨T.mk (T.sx false ⟨av, am⟩ ⟨bv, bm⟩) j, T.mk (T.sy false ⟨av, am⟩ ⟨bv, bm⟩) j, false, false⟩ (4 + 1)).c0, (T.rnds false ⟨av, am⟩ ⟨bv, bm⟩ j (T.cs false ⟨av, am⟩ ⟨bv, bm⟩ j).1 (T.cs false ⟨av, am⟩ ⟨bv, bm⟩ j).2 ⟨T.mk (T.sx false ⟨av, am⟩ ⟨bv, bm⟩) j, T.mk (T.sy false ⟨av, am⟩ ⟨bv, bm⟩) j, false, false⟩ (4 + 1)).c1])], [0, 1, 2, 3, 4], by omega, rfl, (mle_cons ble_refl (mle_cons ble_refl (mle_cons ble_refl (mle_cons ble_refl (mle_cons (ble_own rfl fun i hi => ?_) mle_nil))))), rfl, rfl, 4 + 1, by omega, rfl, trivial, ?_, rfl⟩
        · rw [show (T.rnds false ⟨av, am⟩ ⟨bv, bm⟩ j (T.cs false ⟨av, am⟩ ⟨bv, bm⟩ j).1 (T.cs false ⟨av, am⟩ ⟨bv, bm⟩ j).2 ⟨T.mk (T.sx false ⟨av, am⟩ ⟨bv, bm⟩) j, T.mk (T.sy false ⟨av, am⟩ ⟨bv, bm⟩) j, false, false⟩ (4 + 1)) = T.rnd false ⟨av, am⟩ ⟨bv, bm⟩ j (T.cs false ⟨av, am⟩ ⟨bv, bm⟩ j).1 (T.cs false ⟨av, am⟩ ⟨bv, bm⟩ j).2 (T.rnds false ⟨av, am⟩ ⟨bv, bm⟩ j (T.cs false ⟨av, am⟩ ⟨bv, bm⟩ j).1 (T.cs false ⟨av, am⟩ ⟨bv, bm⟩ j).2 ⟨T.mk (T.sx false ⟨av, am⟩ ⟨bv, bm⟩) j, T.mk (T.sy false ⟨av, am⟩ ⟨bv, bm⟩) j, false, false⟩ 4) 4 from rfl]
          first
            | (rw [T.rnd_skip0 (by assumption)]; done)
            | (rw [T.rnd_skip1 (by assumption) (by assumption)]; done)
            | (rw [T.rnd_skip2 (by assumption) (by assumption) (by assumption)]; done)
            | (rw [T.rnd_go (by assumption) (by assumption) (by assumption)]; exact gB [_, _] 1 true (by simp) i hi)
            | (rw [T.rnd_go (by assumption) (by assumption) (by assumption)]; exact gB [_, _] 0 true (by simp) i hi)
        · rw [show (T.rnds false ⟨av, am⟩ ⟨bv, bm⟩ j (T.cs false ⟨av, am⟩ ⟨bv, bm⟩ j).1 (T.cs false ⟨av, am⟩ ⟨bv, bm⟩ j).2 ⟨T.mk (T.sx false ⟨av, am⟩ ⟨bv, bm⟩) j, T.mk (T.sy false ⟨av, am⟩ ⟨bv, bm⟩) j, false, false⟩ (4 + 1)) = T.rnd false ⟨av, am⟩ ⟨bv, bm⟩ j (T.cs false ⟨av, am⟩ ⟨bv, bm⟩ j).1 (T.cs false ⟨av, am⟩ ⟨bv, bm⟩ j).2 (T.rnds false ⟨av, am⟩ ⟨bv, bm⟩ j (T.cs false ⟨av, am⟩ ⟨bv, bm⟩ j).1 (T.cs false ⟨av, am⟩ ⟨bv, bm⟩ j).2 ⟨T.mk (T.sx false ⟨av, am⟩ ⟨bv, bm⟩) j, T.mk (T.sy false ⟨av, am⟩ ⟨bv, bm⟩) j, false, false⟩ 4) 4 from rfl]
          first
            | (rw [T.rnd_skip0 (by assumption)]; rfl)
            | (rw [T.rnd_skip1 (by assumption) (by assumption)]; rfl)
            | (rw [T.rnd_skip2 (by assumption) (by assumption) (by assumption)]; rfl)
            | (rw [T.rnd_go (by assumption) (by assumption) (by assumption), ← one_is hlt]; rfl)
    · (conv => whnf)
      (repeat' (first | (refine step_t (by first | rfl | assumption) ?_; (conv => whnf)) | (refine step_f (by first | rfl | assumption) ?_; (conv => whnf)) | (refine step_nt (by assumption) ?_; (conv => whnf)) | (refine step_nf (by assumption) ?_; (conv => whnf)) | (refine step_n (fun hb => ?_) (fun hb => ?_) <;> (first | contradiction | (conv => whnf))) | (refine And.intro (fun hb => ?_) (fun hb => ?_) <;> (first | contradiction | (conv => whnf))) | (refine And.intro ?_ ?_; rotate_left 1; (conv => whnf))))
      all_goals try (first | rfl | trivial | (simp; done) | (simp; omega) | (simp at hb ⊢; omega) | (simp only [decide_eq_true_eq, Bool.and_eq_true, Int.toNat_natCast] at *; omega))
      all_goals
        refine ⟨8 - (5 + 1), [.cells 25 [.u64 av, .u64 am], .cells 25 [.u64 bv, .u64 bm], .cells 25 [.u64 (BitVec.ofInt 64 0), .u64 (BitVec.ofInt 64 0)], .own 4 1 2 (gOf eB [(T.cs false ⟨av, am⟩ ⟨bv, bm⟩ j).1, (T.cs false ⟨av, am⟩ ⟨bv, bm⟩ j).2]), .own 4 1 2 (gOf eB [(T.rnds false ⟨av, am⟩ ⟨bv, bm⟩ j (T.cs false ⟨av, am⟩ ⟨bv, bm⟩ j).1 (T.cs false ⟨av, am⟩ ⟨bv, bm⟩ j).2 ⟨T.mk (T.sx false ⟨av, am⟩ ⟨bv, bm⟩) j, T.mk (T.sy false ⟨av, am⟩ ⟨bv, bm⟩) j, false, false⟩ (5 + 1)).c0, (T.rnds false ⟨av, am⟩ ⟨bv, bm⟩ j (T.cs false ⟨av, am⟩ ⟨bv, bm⟩ j).1 (T.cs false ⟨av, am⟩ ⟨bv, bm⟩ j).2 ⟨T.mk (T.sx false ⟨av, am⟩ ⟨bv, bm⟩) j, T.mk (T.sy false ⟨av, am⟩ ⟨bv, bm⟩) j, false, false⟩ (5 + 1)).c1])], [0, 1, 2, 3, 4], by omega, rfl, (mle_cons ble_refl (mle_cons ble_refl (mle_cons ble_refl (mle_cons ble_refl (mle_cons (ble_own rfl fun i hi => ?_) mle_nil))))), rfl, rfl, 5 + 1, by omega, rfl, trivial, ?_, rfl⟩
        · rw [show (T.rnds false ⟨av, am⟩ ⟨bv, bm⟩ j (T.cs false ⟨av, am⟩ ⟨bv, bm⟩ j).1 (T.cs false ⟨av, am⟩ ⟨bv, bm⟩ j).2 ⟨T.mk (T.sx false ⟨av, am⟩ ⟨bv, bm⟩) j, T.mk (T.sy false ⟨av, am⟩ ⟨bv, bm⟩) j, false, false⟩ (5 + 1)) = T.rnd false ⟨av, am⟩ ⟨bv, bm⟩ j (T.cs false ⟨av, am⟩ ⟨bv, bm⟩ j).1 (T.cs false ⟨av, am⟩ ⟨bv, bm⟩ j).2 (T.rnds false ⟨av, am⟩ ⟨bv, bm⟩ j (T.cs false ⟨av, am⟩ ⟨bv, bm⟩ j).1 (T.cs false ⟨av, am⟩ ⟨bv, bm⟩ j).2 ⟨T.mk (T.sx false ⟨av, am⟩ ⟨bv, bm⟩) j, T.mk (T.sy false ⟨av, am⟩ ⟨bv, bm⟩) j, false, false⟩ 5) 5 from rfl]
          first
            | (rw [T.rnd_skip0 (by assumption)]; done)
            | (rw [T.rnd_skip1 (by assumption) (by assumption)]; done)
            | (rw [T.rnd_skip2 (by assumption) (by assumption) (by assumption)]; done)
            | (rw [T.rnd_go (by assumption) (by assumption) (by assumption)]; exact gB [_, _] 1 true (by simp) i hi)
            | (rw [T.rnd_go (by assumption) (by assumption) (by assumption)]; exact gB [_, _] 0 true (by simp) i hi)
        · rw [show (T.rnds false ⟨av, am⟩ ⟨bv, bm⟩ j (T.cs false ⟨av, am⟩ ⟨bv, bm⟩ j).1 (T.cs false ⟨av, am⟩ ⟨bv, bm⟩ j).2 ⟨T.mk (T.sx false ⟨av, am⟩ ⟨bv, bm⟩) j, T.mk (T.sy false ⟨av, am⟩ ⟨bv, bm⟩) j, false, false⟩ (5 + 1)) = T.rnd false ⟨av, am⟩ ⟨bv, bm⟩ j (T.cs false ⟨av, am⟩ ⟨bv, bm⟩ j).1 (T.cs false ⟨av, am⟩ ⟨bv, bm⟩ j).2 (T.rnds false ⟨av, am⟩ ⟨bv, bm⟩ j (T.cs false ⟨av, am⟩ ⟨bv, bm⟩ j).1 (T.cs false ⟨av, am⟩ ⟨bv, bm⟩ j).2 ⟨T.mk (T.sx false ⟨av, am⟩ ⟨bv, bm⟩) j, T.mk (T.sy false ⟨av, am⟩ ⟨bv, bm⟩) j, false, false⟩ 5) 5 from rfl]
          first
            | (rw [T.rnd_skip0 (by assumption)]; rfl)
            | (rw [T.rnd_skip1 (by assumption) (by assumption)]; rfl)
            | (rw [T.rnd_skip2 (by assumption) (by assumption) (by assumption)]; rfl)
            | (rw [T.rnd_go (by assumption) (by assumption) (by assumption), ← one_is hlt]; rfl)
    · (conv => whnf)
      (repeat' (first | (refine step_t (by first | rfl | assumption) ?_; (conv => whnf)) | (refine step_f (by first | rfl | assumption) ?_; (conv => whnf)) | (refine step_nt (by assumption) ?_; (conv => whnf)) | (refine step_nf (by assumption) ?_; (conv => whnf)) | (refine step_n (fun hb => ?_) (fun hb => ?_) <;> (first | contradiction | (conv => whnf))) | (refine And.intro (fun hb => ?_) (fun hb => ?_) <;> (first | contradiction | (conv => whnf))) | (refine And.intro ?_ ?_; rotate_left 1; (conv => whnf))))
      all_goals try (first | rfl | trivial | (simp; done) | (simp; omega) | (simp at hb ⊢; omega) | (simp only [decide_eq_true_eq, Bool.and_eq_true, Int.toNat_natCast] at *; omega))
      all_goals
        refine ⟨8 - (6 + 1), [.cells 25 [.u64 av, .u64 am], .cells 25 [.u64 bv, .u64 bm], .cells 25 [.u64 (BitVec.ofInt 64 0), .u64 (BitVec.ofInt 64 0)], .own 4 1 2 (gOf eB [(T.cs false ⟨av, am⟩ ⟨bv, bm⟩ j).1, (T.cs false ⟨av, am⟩ ⟨bv, bm⟩ j).2]), .own 4 1 2 (gOf eB [(T.rnds false ⟨av, am⟩ ⟨bv, bm⟩ j (T.cs false ⟨av, am⟩ ⟨bv, bm⟩ j).1 (T.cs false ⟨av, am⟩ ⟨bv, bm⟩ j).2 ⟨T.mk (T.sx false ⟨av, am⟩ ⟨bv, bm⟩) j, T.mk (T.sy false ⟨av, am⟩ ⟨bv, bm⟩) j, false, false⟩ (6 + 1)).c0, (T.rnds false ⟨av, am⟩ ⟨bv, bm⟩ j (T.cs false ⟨av, am⟩ ⟨bv, bm⟩ j).1 (T.cs false ⟨av, am⟩ ⟨bv, bm⟩ j).2 ⟨T.mk (T.sx false ⟨av, am⟩ ⟨bv, bm⟩) j, T.mk (T.sy false ⟨av, am⟩ ⟨bv, bm⟩) j, false, false⟩ (6 + 1)).c1])], [0, 1, 2, 3, 4], by omega, rfl, (mle_cons ble_refl (mle_cons ble_refl (mle_cons ble_refl (mle_cons ble_refl (mle_cons (ble_own rfl fun i hi => ?_) mle_nil))))), rfl, rfl, 6 + 1, by omega, rfl, trivial, ?_, rfl⟩
        · rw [show (T.rnds false ⟨av, am⟩ ⟨bv, bm⟩ j (T.cs false ⟨av, am⟩ ⟨bv, bm⟩ j).1 (T.cs false ⟨av, am⟩ ⟨bv, bm⟩ j).2 ⟨T.mk (T.sx false ⟨av, am⟩ ⟨bv, bm⟩) j, T.mk (T.sy false ⟨av, am⟩ ⟨bv, bm⟩) j, false, false⟩ (6 + 1)) = T.rnd false ⟨av, am⟩ ⟨bv, bm⟩ j (T.cs false ⟨av, am⟩ ⟨bv, bm⟩ j).1 (T.cs false ⟨av, am⟩ ⟨bv, bm⟩ j).2 (T.rnds false ⟨av, am⟩ ⟨bv, bm⟩ j (T.cs false ⟨av, am⟩ ⟨bv, bm⟩ j).1 (T.cs false ⟨av, am⟩ ⟨bv, bm⟩ j).2 ⟨T.mk (T.sx false ⟨av, am⟩ ⟨bv, bm⟩) j, T.mk (T.sy false ⟨av, am⟩ ⟨bv, bm⟩) j, false, false⟩ 6) 6 from rfl]
          first
            | (rw [T.rnd_skip0 (by assumption)]; done)
            | (rw [T.rnd_skip1 (by assumption) (by assumption)]; done)
            | (rw [T.rnd_skip2 (by assumption) (by assumption) (by assumption)]; done)
            | (rw [T.rnd_go (by assumption) (by assumption) (by assumption)]; exact gB [_, _] 1 true (by simp) i hi)
            | (rw [T.rnd_go (by assumption) (by assumption) (by assumption)]; exact gB [_, _] 0 true (by simp) i hi)
        · rw [show (T.rnds false ⟨av, am⟩ ⟨bv, bm⟩ j (T.cs false ⟨av, am⟩ ⟨bv, bm⟩ j).1 (T.cs false ⟨av, am⟩ ⟨bv, bm⟩ j).2 ⟨T.mk (T.sx false ⟨av, am⟩ ⟨bv, bm⟩) j, T.mk (T.sy false ⟨av, am⟩ ⟨bv, bm⟩) j, false, false⟩ (6 + 1)) = T.rnd false ⟨av, am⟩ ⟨bv, bm⟩ j (T.cs false ⟨av, am⟩ ⟨bv, bm⟩ j).1 (T.cs false ⟨av, am⟩ ⟨bv, bm⟩ j).2 (T.rnds false ⟨av, am⟩ ⟨bv, bm⟩ j (T.cs false ⟨av, am⟩ ⟨bv, bm⟩ j).1 (T.cs false ⟨av, am⟩ ⟨bv, bm⟩ j).2 ⟨T.mk (T.sx false ⟨av, am⟩ ⟨bv, bm⟩) j, T.mk (T.sy false ⟨av, am⟩ ⟨bv, bm⟩) j, false, false⟩ 6) 6 from rfl]
          first
            | (rw [T.rnd_skip0 (by assumption)]; rfl)
            | (rw [T.rnd_skip1 (by assumption) (by assumption)]; rfl)
            | (rw [T.rnd_skip2 (by assumption) (by assumption) (by assumption)]; rfl)
            | (rw [T.rnd_go (by assumption) (by assumption) (by assumption), ← one_is hlt]; rfl)
    · (conv => whnf)
      (repeat' (first | (refine step_t (by first | rfl | assumption) ?_; (conv => whnf)) | (refine step_f (by first | rfl | assumption) ?_; (conv => whnf)) | (refine step_nt (by assumption) ?_; (conv => whnf)) | (refine step_nf (by assumption) ?_; (conv => whnf)) | (refine step_n (fun hb => ?_) (fun hb => ?_) <;> (first | contradiction | (conv => whnf))) | (refine And.intro (fun hb => ?_) (fun hb => ?_) <;> (first | contradiction | (conv => whnf))) | (refine And.intro ?_ ?_; rotate_left 1; (conv => whnf))))
      all_goals try (first | rfl | trivial | (simp; done) | (simp; omega) | (simp at hb ⊢; omega) | (simp only [decide_eq_true_eq, Bool.and_eq_true, Int.toNat_natCast] at *; omega))
      all_goals
        refine ⟨8 - (7 + 1), [.cells 25 [.u64 av, .u64 am], .cells 25 [.u64 bv, .u64 bm], .cells 25 [.u64 (BitVec.ofInt 64 0), .u64 (BitVec.ofInt 64 0)], .own 4 1 2 (gOf eB [(T.cs false ⟨av, am⟩ ⟨bv, bm⟩ j).1, (T.cs false ⟨av, am⟩ ⟨bv, bm⟩ j).2]), .own 4 1 2 (gOf eB [(T.rnds false ⟨av, am⟩ ⟨bv, bm⟩ j (T.cs false ⟨av, am⟩ ⟨bv, bm⟩ j).1 (T.cs false ⟨av, am⟩ ⟨bv, bm⟩ j).2 ⟨T.mk (T.sx false ⟨av, am⟩ ⟨bv, bm⟩) j, T.mk (T.sy false ⟨av, am⟩ ⟨bv, bm⟩) j, false, false⟩ (7 + 1)).c0, (T.rnds false ⟨av, am⟩ ⟨bv, bm⟩ j (T.cs false ⟨av, am⟩ ⟨bv, bm⟩ j).1 (T.cs false ⟨av, am⟩ ⟨bv, bm⟩ j).2 ⟨T.mk (T.sx false ⟨av, am⟩ ⟨bv, bm⟩) j, T.mk (T.sy false ⟨av, am⟩ ⟨bv, bm⟩) j, false, false⟩ (7 + 1)).c1])], [0, 1, 2, 3, 4], by omega, rfl, (mle_cons ble_refl (mle_cons ble_refl (mle_cons ble_refl (mle_cons ble_refl (mle_cons (ble_own rfl fun i hi => ?_) mle_nil))))), rfl, rfl, 7 + 1, by omega, rfl, trivial, ?_, rfl⟩
        · rw [show (T.rnds false ⟨av, am⟩ ⟨bv, bm⟩ j (T.cs false ⟨av, am⟩ ⟨bv, bm⟩ j).1 (T.cs false ⟨av, am⟩ ⟨bv, bm⟩ j).2 ⟨T.mk (T.sx false ⟨av, am⟩ ⟨bv, bm⟩) j, T.mk (T.sy false ⟨av, am⟩ ⟨bv, bm⟩) j, false, false⟩ (7 + 1)) = T.rnd false ⟨av, am⟩ ⟨bv, bm⟩ j (T.cs false ⟨av, am⟩ ⟨bv, bm⟩ j).1 (T.cs false ⟨av, am⟩ ⟨bv, bm⟩ j).2 (T.rnds false ⟨av, am⟩ ⟨bv, bm⟩ j (T.cs false ⟨av, am⟩ ⟨bv, bm⟩ j).1 (T.cs false ⟨av, am⟩ ⟨bv, bm⟩ j).2 ⟨T.mk (T.sx false ⟨av, am⟩ ⟨bv, bm⟩) j, T.mk (T.sy false ⟨av, am⟩ ⟨bv, bm⟩) j, false, false⟩ 7) 7 from rfl]
          first
            | (rw [T.rnd_skip0 (by assumption)]; done)
            | (rw [T.rnd_skip1 (by assumption) (by assumption)]; done)
            | (rw [T.rnd_skip2 (by assumption) (by assumption) (by assumption)]; done)
            | (rw [T.rnd_go (by assumption) (by assumption) (by assumption)]; exact gB [_, _] 1 true (by simp) i hi)
            | (rw [T.rnd_go (by assumption) (by assumption) (by assumption)]; exact gB [_, _] 0 true (by simp) i hi)
        · rw [show (T.rnds false ⟨av, am⟩ ⟨bv, bm⟩ j (T.cs false ⟨av, am⟩ ⟨bv, bm⟩ j).1 (T.cs false ⟨av, am⟩ ⟨bv, bm⟩ j).2 ⟨T.mk (T.sx false ⟨av, am⟩ ⟨bv, bm⟩) j, T.mk (T.sy false ⟨av, am⟩ ⟨bv, bm⟩) j, false, false⟩ (7 + 1)) = T.rnd false ⟨av, am⟩ ⟨bv, bm⟩ j (T.cs false ⟨av, am⟩ ⟨bv, bm⟩ j).1 (T.cs false ⟨av, am⟩ ⟨bv, bm⟩ j).2 (T.rnds false ⟨av, am⟩ ⟨bv, bm⟩ j (T.cs false ⟨av, am⟩ ⟨bv, bm⟩ j).1 (T.cs false ⟨av, am⟩ ⟨bv, bm⟩ j).2 ⟨T.mk (T.sx false ⟨av, am⟩ ⟨bv, bm⟩) j, T.mk (T.sy false ⟨av, am⟩ ⟨bv, bm⟩) j, false, false⟩ 7) 7 from rfl]
          first
            | (rw [T.rnd_skip0 (by assumption)]; rfl)
            | (rw [T.rnd_skip1 (by assumption) (by assumption)]; rfl)
            | (rw [T.rnd_skip2 (by assumption) (by assumption) (by assumption)]; rfl)
            | (rw [T.rnd_go (by assumption) (by assumption) (by assumption), ← one_is hlt]; rfl)
    · (conv => whnf)
      (repeat' (first | (refine step_t (by first | rfl | assumption) ?_; (conv => whnf)) | (refine step_f (by first | rfl | assumption) ?_; (conv => whnf)) | (refine step_nt (by assumption) ?_; (conv => whnf)) | (refine step_nf (by assumption) ?_; (conv => whnf)) | (refine step_n (fun hb => ?_) (fun hb => ?_) <;> (first | contradiction | (conv => whnf))) | (refine And.intro (fun hb => ?_) (fun hb => ?_) <;> (first | contradiction | (conv => whnf))) | (refine And.intro ?_ ?_; rotate_left 1; (conv => whnf))))
      all_goals try (first | rfl | trivial | (simp; done) | (simp; omega) | (simp at hb ⊢; omega) | (simp only [decide_eq_true_eq, Bool.and_eq_true, Int.toNat_natCast] at *; omega))
      all_goals
        refine ⟨64 - (j + 1), [.cells 25 [.u64 av, .u64 am], .cells 25 [.u64 bv, .u64 bm], .cells 25 [.u64 (BitVec.ofInt 64 0), .u64 (BitVec.ofInt 64 0)], .own 4 1 2 (gOf eB [(T.cs false ⟨av, am⟩ ⟨bv, bm⟩ (j + 1)).1, (T.cs false ⟨av, am⟩ ⟨bv, bm⟩ (j + 1)).2])], [0, 1, 2, 4], by omega, rfl, (mle_cons ble_refl (mle_cons ble_refl (mle_cons ble_refl (mle_cons (ble_own rfl fun i hi => ?_) mle_nil)))), rfl, rfl, j + 1, by omega, rfl, trivial, ?_, rfl⟩
        · rw [T.rnds_sums]
        · simp only [T.rnds_sums]; rw [← wrap_succ (j := j) (by omega)]; rfl
  all_goals
    have hj2 : j = 64 := by simp at hb; omega
    subst hj2
    rw [T.of_sums false ha hb0]; try rfl
theorem rdifference_run (av am bv bm : BitVec 64) (ha : T.right ⟨av, am⟩ = true) (hb0 : T.right ⟨bv, bm⟩ = true) : run Tryz.prog ⟨[(141, k_rRight), (187, k_rMay), (183, k_rBit), (118, k_rUnknown), (180, k_of)], eqs, [], [], []⟩ 10000 [] 0 (bodyOf Tryz.f184) (initF Tryz.f184 [.agg [.u64 av, .u64 am], .agg [.u64 bv, .u64 bm], .tt]) [] (retK Tryz.prog Tryz.f184 fun x _ => eqv x (tsv (T.difference ⟨av, am⟩ ⟨bv, bm⟩))) := by
  (conv => whnf)
  (repeat' (first | (refine And.intro (fun hb => ?_) (fun hb => ?_) <;> (first | contradiction | (conv => whnf))) | (refine And.intro ?_ ?_; rotate_left 1; (conv => whnf))))
  refine .inr ⟨[], [2, 3, 4, 6, 7, 8, 9, 10], fun k vals M => ∃ j : Nat, j ≤ 64 ∧ k = 64 - j ∧ (True) ∧ vals = [.tt, .ptr 0 0, .ptr 1 0, .ptr 2 0, .u64 (T.mk (T.sx true ⟨av, am⟩ ⟨bv, bm⟩) j), .u64 (T.mk (T.sy true ⟨av, am⟩ ⟨bv, bm⟩) j), .sl 3 1 0 2, .int .i64 (j : Int)] ∧ M = [.cells 25 [.u64 av, .u64 am], .cells 25 [.u64 bv, .u64 bm], .cells 25 [.u64 (BitVec.ofInt 64 0), .u64 (BitVec.ofInt 64 0)], .own 4 1 2 (gOf eB [(T.cs true ⟨av, am⟩ ⟨bv, bm⟩ j).1, (T.cs true ⟨av, am⟩ ⟨bv, bm⟩ j).2])], ?_⟩
  conv => whnf
  refine And.intro ⟨64, [.cells 25 [.u64 av, .u64 am], .cells 25 [.u64 bv, .u64 bm], .cells 25 [.u64 (BitVec.ofInt 64 0), .u64 (BitVec.ofInt 64 0)], .own 4 1 2 (gOf eB [(T.cs true ⟨av, am⟩ ⟨bv, bm⟩ 0).1, (T.cs true ⟨av, am⟩ ⟨bv, bm⟩ 0).2])], (mle_cons ble_refl (mle_cons ble_refl (mle_cons ble_refl (mle_cons (ble_own rfl fun i hi => by match i, hi with | 0, _ => rfl | 1, _ => rfl) mle_nil)))), rfl, rfl, 0, by omega, by omega, trivial, rfl, rfl⟩ ?_
  rintro k vals M1 ⟨j, hj, rfl, hx, rfl, rfl⟩
  (conv => whnf)
  (repeat' (first | (refine And.intro (fun hb => ?_) (fun hb => ?_) <;> (first | contradiction | (conv => whnf))) | (refine And.intro ?_ ?_; rotate_left 1; (conv => whnf))))
  all_goals try (first | rfl | trivial | (simp; done) | (simp; omega) | (simp at hb ⊢; omega) | (simp only [decide_eq_true_eq, Bool.and_eq_true, Int.toNat_natCast] at *; omega))
  · have hlt : j < 64 := by (simp at hb; omega)
    refine .inr ⟨[], [2, 3, 4, 6, 7, 8, 9, 10, 11, 12], fun k vals M => ∃ n : Nat, n ≤ 8 ∧ k = 8 - n ∧ (True) ∧ vals = [.tt, .ptr 0 0, .ptr 1 0, .ptr 2 0, .u64 (T.rnds true ⟨av, am⟩ ⟨bv, bm⟩ j (T.cs true ⟨av, am⟩ ⟨bv, bm⟩ j).1 (T.cs true ⟨av, am⟩ ⟨bv, bm⟩ j).2 ⟨T.mk (T.sx true ⟨av, am⟩ ⟨bv, bm⟩) j, T.mk (T.sy true ⟨av, am⟩ ⟨bv, bm⟩) j, false, false⟩ n).x, .u64 (T.rnds true ⟨av, am⟩ ⟨bv, bm⟩ j (T.cs true ⟨av, am⟩ ⟨bv, bm⟩ j).1 (T.cs true ⟨av, am⟩ ⟨bv, bm⟩ j).2 ⟨T.mk (T.sx true ⟨av, am⟩ ⟨bv, bm⟩) j, T.mk (T.sy true ⟨av, am⟩ ⟨bv, bm⟩) j, false, false⟩ n).y, .sl 3 1 0 2, .int .i64 (j : Int), .sl 4 1 0 2, .int .i64 (n : Int)] ∧ M = [.cells 25 [.u64 av, .u64 am], .cells 25 [.u64 bv, .u64 bm], .cells 25 [.u64 (BitVec.ofInt 64 0), .u64 (BitVec.ofInt 64 0)], .own 4 1 2 (gOf eB [(T.cs true ⟨av, am⟩ ⟨bv, bm⟩ j).1, (T.cs true ⟨av, am⟩ ⟨bv, bm⟩ j).2]), .own 4 1 2 (gOf eB [(T.rnds true ⟨av, am⟩ ⟨bv, bm⟩ j (T.cs true ⟨av, am⟩ ⟨bv, bm⟩ j).1 (T.cs true ⟨av, am⟩ ⟨bv, bm⟩ j).2 ⟨T.mk (T.sx true ⟨av, am⟩ ⟨bv, bm⟩) j, T.mk (T.sy true ⟨av, am⟩ ⟨bv, bm⟩) j, false, false⟩ n).c0, (T.rnds true ⟨av, am⟩ ⟨bv, bm⟩ j (T.cs true ⟨av, am⟩ ⟨bv, bm⟩ j).1 (T.cs true ⟨av, am⟩ ⟨bv, bm⟩ j).2 ⟨T.mk (T.sx true ⟨av, am⟩ ⟨bv, bm⟩) j, T.mk (T.sy true ⟨av, am⟩ ⟨bv, bm⟩) j, false, false⟩ n).c1])], ?_⟩
    conv => whnf
    refine And.intro ⟨8, [.cells 25 [.u64 av, .u64 am], .cells 25 [.u64 bv, .u64 bm], .cells 25 [.u64 (BitVec.ofInt 64 0), .u64 (BitVec.ofInt 64 0)], .own 4 1 2 (gOf eB [(T.cs true ⟨av, am⟩ ⟨bv, bm⟩ j).1, (T.cs true ⟨av, am⟩ ⟨bv, bm⟩ j).2]), .own 4 1 2 (gOf eB [(T.rnds true ⟨av, am⟩ ⟨bv, bm⟩ j (T.cs true ⟨av, am⟩ ⟨bv, bm⟩ j).1 (T.cs true ⟨av, am⟩ ⟨bv, bm⟩ j).2 ⟨T.mk (T.sx true ⟨av, am⟩ ⟨bv, bm⟩) j, T.mk (T.sy true ⟨av, am⟩ ⟨bv, bm⟩) j, false, false⟩ 0).c0, (T.rnds true ⟨av, am⟩ ⟨bv, bm⟩ j (T.cs true ⟨av, am⟩ ⟨bv, bm⟩ j).1 (T.cs true ⟨av, am⟩ ⟨bv, bm⟩ j).2 ⟨T.mk (T.sx true ⟨av, am⟩ ⟨bv, bm⟩) j, T.mk (T.sy true ⟨av, am⟩ ⟨bv, bm⟩) j, false, false⟩ 0).c1])], (mle_cons ble_refl (mle_cons ble_refl (mle_cons ble_refl (mle_cons ble_refl (mle_cons (ble_own rfl fun i hi => by match i, hi with | 0, _ => rfl | 1, _ => rfl) mle_nil))))), rfl, rfl, 0, by omega, by omega, trivial, rfl, rfl⟩ ?_
    rintro k vals M1 ⟨n, hn, rfl, hx, rfl, rfl⟩

    have h5 : n = 0 ∨ n = 1 ∨ n = 2 ∨ n = 3 ∨ n = 4 ∨ n = 5 ∨ n = 6 ∨ n = 7 ∨ n = 8 := by omega
    rcases h5 with rfl | rfl | rfl | rfl | rfl | rfl | rfl | rfl | rfl
    · (conv => whnf)
      (repeat' (first | (refine step_t (by first | rfl | assumption) ?_; (conv => whnf)) | (refine step_f (by first | rfl | assumption) ?_; (conv => whnf)) | (refine step_nt (by assumption) ?_; (conv => whnf)) | (refine step_nf (by assumption) ?_; (conv => whnf)) | (refine step_n (fun hb => ?_) (fun hb => ?_) <;> (first | contradiction | (conv => whnf))) | (refine And.intro (fun hb => ?_) (fun hb => ?_) <;> (first | contradiction | (conv => whnf))) | (refine And.intro ?_ ?_; rotate_left 1; (conv => whnf))))
      all_goals try (first | rfl | trivial | (simp; done) | (simp; omega) | (simp at hb ⊢; omega) | (simp only [decide_eq_true_eq, Bool.and_eq_true, Int.toNat_natCast] at *; omega))
      all_goals
        refine ⟨8 - (0 + 1), [.cells 25 [.u64 av, .u64 am], .cells 25 [.u64 bv, .u64 bm], .cells 25 [.u64 (BitVec.ofInt 64 0), .u64 (BitVec.ofInt 64 0)], .own 4 1 2 (gOf eB [(T.cs true ⟨av, am⟩ ⟨bv, bm⟩ j).1, (T.cs true ⟨av, am⟩ ⟨bv, bm⟩ j).2]), .own 4 1 2 (gOf eB [(T.rnds true ⟨av, am⟩ ⟨bv, bm⟩ j (T.cs true ⟨av, am⟩ ⟨bv, bm⟩ j).1 (T.cs true ⟨av, am⟩ ⟨bv, bm⟩ j).2 ⟨T.mk (T.sx true ⟨av, am⟩ ⟨bv, bm⟩) j, T.mk (T.sy true ⟨av, am⟩ ⟨bv, bm⟩) j, false, false⟩ (0 + 1)).c0, (T.rnds true ⟨av, am⟩ ⟨bv, bm⟩ j (T.cs true ⟨av, am⟩ ⟨bv, bm⟩ j).1 (T.cs true ⟨av, am⟩ ⟨bv, bm⟩ j).2 ⟨T.mk (T.sx true ⟨av, am⟩ ⟨bv, bm⟩) j, T.mk (T.sy true ⟨av, am⟩ ⟨bv, bm⟩) j, false, false⟩ (0 + 1)).c1])], [0, 1, 2, 3, 4], by omega, rfl, (mle_cons ble_refl (mle_cons ble_refl (mle_cons ble_refl (mle_cons ble_refl (mle_cons (ble_own rfl fun i hi => ?_) mle_nil))))), rfl, rfl, 0 + 1, by omega, rfl, trivial, ?_, rfl⟩
        · rw [show (T.rnds true ⟨av, am⟩ ⟨bv, bm⟩ j (T.cs true ⟨av, am⟩ ⟨bv, bm⟩ j).1 (T.cs true ⟨av, am⟩ ⟨bv, bm⟩ j).2 ⟨T.mk (T.sx true ⟨av, am⟩ ⟨bv, bm⟩) j, T.mk (T.sy true ⟨av, am⟩ ⟨bv, bm⟩) j, false, false⟩ (0 + 1)) = T.rnd true ⟨av, am⟩ ⟨bv, bm⟩ j (T.cs true ⟨av, am⟩ ⟨bv, bm⟩ j).1 (T.cs true ⟨av, am⟩ ⟨bv, bm⟩ j).2 (T.rnds true ⟨av, am⟩ ⟨bv, bm⟩ j (T.cs true ⟨av, am⟩ ⟨bv, bm⟩ j).1 (T.cs true ⟨av, am⟩ ⟨bv, bm⟩ j).2 ⟨T.mk (T.sx true ⟨av, am⟩ ⟨bv, bm⟩) j, T.mk (T.sy true ⟨av, am⟩ ⟨bv, bm⟩) j, false, false⟩ 0) 0 from rfl]
          first
            | (rw [T.rnd_skip0 (by assumption)]; done)
            | (rw [T.rnd_skip1 (by assumption) (by assumption)]; done)
            | (rw [T.rnd_skip2 (by assumption) (by assumption) (by assumption)]; done)
            | (rw [T.rnd_go (by assumption) (by assumption) (by assumption)]; exact gB [_, _] 1 true (by simp) i hi)
            | (rw [T.rnd_go (by assumption) (by assumption) (by assumption)]; exact gB [_, _] 0 true (by simp) i hi)
        · rw [show (T.rnds true ⟨av, am⟩ ⟨bv, bm⟩ j (T.cs true ⟨av, am⟩ ⟨bv, bm⟩ j).1 (T.cs true ⟨av, am⟩ ⟨bv, bm⟩ j).2 ⟨T.mk (T.sx true ⟨av, am⟩ ⟨bv, bm⟩) j, T.mk (T.sy true ⟨av, am⟩ ⟨bv, bm⟩) j, false, false⟩ (0 + 1)) = T.rnd true ⟨av, am⟩ ⟨bv, bm⟩ j (T.cs true ⟨av, am⟩ ⟨bv, bm⟩ j).1 (T.cs true ⟨av, am⟩ ⟨bv, bm⟩ j).2 (T.rnds true ⟨av, am⟩ ⟨bv, bm⟩ j (T.cs true ⟨av, am⟩ ⟨bv, bm⟩ j).1 (T.cs true ⟨av, am⟩ ⟨bv, bm⟩ j).2 ⟨T.mk (T.sx true ⟨av, am⟩ ⟨bv, bm⟩) j, T.mk (T.sy true ⟨av, am⟩ ⟨bv, bm⟩) j, false, false⟩ 0) 0 from rfl]
          first
            | (rw [T.rnd_skip0 (by assumption)]; rfl)
            | (rw [T.rnd_skip1 (by assumption) (by assumption)]; rfl)
            | (rw [T.rnd_skip2 (by assumption) (by assumption) (by assumption)]; rfl)
            | (rw [T.rnd_go (by assumption) (by assumption) (by assumption), ← one_is hlt]; rfl)
    · (conv => whnf)
      (repeat' (first | (refine step_t (by first | rfl | assumption) ?_; (conv => whnf)) | (refine step_f (by first | rfl | assumption) ?_; (conv => whnf)) | (refine step_nt (by assumption) ?_; (conv => whnf)) | (refine step_nf (by assumption) ?_; (conv => whnf)) | (refine step_n (fun hb => ?_) (fun hb => ?_) <;> (first | contradiction | (conv => whnf))) | (refine And.intro (fun hb => ?_) (fun hb => ?_) <;> (first | contradiction | (conv => whnf))) | (refine And.intro ?_ ?_; rotate_left 1; (conv => whnf))))
      all_goals try (first | rfl | trivial | (simp; done) | (simp; omega) | (simp at hb ⊢; omega) | (simp only [decide_eq_true_eq, Bool.and_eq_true, Int.toNat_natCast] at *; omega))
      all_goals
        refine ⟨8 - (1 + 1), [.cells 25 [.u64 av, .u64 am], .cells 25 [.u64 bv, .u64 bm], .cells 25 [.u64 (BitVec.ofInt 64 0), .u64 (BitVec.ofInt 64 0)], .own 4 1 2 (gOf eB [(T.cs true ⟨av, am⟩ ⟨bv, bm⟩ j).1, (T.cs true ⟨av, am⟩ ⟨bv, bm⟩ j).2]), .own 4 1 2 (gOf eB [(T.rnds true ⟨av, am⟩ ⟨bv, bm⟩ j (T.cs true ⟨av, am⟩ ⟨bv, bm⟩ j).1 (T.cs true ⟨av, am⟩ ⟨bv, bm⟩ j).2 ⟨T.mk (T.sx true ⟨av, am⟩ ⟨bv, bm⟩) j, T.mk (T.sy true ⟨av, am⟩ ⟨bv, bm⟩) j, false, false⟩ (1 + 1)).c0, (T.rnds true ⟨av, am⟩ ⟨bv, bm⟩ j (T.cs true ⟨av, am⟩ ⟨bv, bm⟩ j).1 (T.cs true ⟨av, am⟩ ⟨bv, bm⟩ j).2 ⟨T.mk (T.sx true ⟨av, am⟩ ⟨bv, bm⟩) j, T.mk (T.sy true ⟨av, am⟩ ⟨bv, bm⟩) j, false, false⟩ (1 + 1)).c1])], [0, 1, 2, 3, 4], by omega, rfl, (mle_cons ble_refl (mle_cons ble_refl (mle_cons ble_refl (mle_cons ble_refl (mle_cons (ble_own rfl fun i hi => ?_) mle_nil))))), rfl, rfl, 1 + 1, by omega, rfl, trivial, ?_, rfl⟩
        · rw [show (T.rnds true ⟨av, am⟩ ⟨bv, bm⟩ j (T.cs true ⟨av, am⟩ ⟨bv, bm⟩ j).1 (T.cs true ⟨av, am⟩ ⟨bv, bm⟩ j).2 ⟨T.mk (T.sx true ⟨av, am⟩ ⟨bv, bm⟩) j, T.mk (T.sy true ⟨av, am⟩ ⟨bv, bm⟩) j, false, false⟩ (1 + 1)) = T.rnd true ⟨av, am⟩ ⟨bv, bm⟩ j (T.cs true ⟨av, am⟩ ⟨bv, bm⟩ j).1 (T.cs true ⟨av, am⟩ ⟨bv, bm⟩ j).2 (T.rnds true ⟨av, am⟩ ⟨bv, bm⟩ j (T.cs true ⟨av, am⟩ ⟨bv, bm⟩ j).1 (T.cs true ⟨av, am⟩ ⟨bv, bm⟩ j).2 ⟨T.mk (T.sx true ⟨av, am⟩ ⟨bv, bm⟩) j, T.mk (T.sy true ⟨av, am⟩ ⟨bv, bm⟩) j, false, false⟩ 1) 1 from rfl]
          first
            | (rw [T.rnd_skip0 (by assumption)]; done)
            | (rw [T.rnd_skip1 (by assumption) (by assumption)]; done)
            | (rw [T.rnd_skip2 (by assumption) (by assumption) (by assumption)]; done)
            | (rw [T.rnd_go (by assumption) (by assumption) (by assumption)]; exact gB [_, _] 1 true (by simp) i hi)
            | (rw [T.rnd_go (by assumption) (by assumption) (by assumption)]; exact gB [_, _] 0 true (by simp) i hi)
        · rw [show (T.rnds true ⟨av, am⟩ ⟨bv, bm⟩ j (T.cs true ⟨av, am⟩ ⟨bv, bm⟩ j).1 (T.cs true ⟨av, am⟩ ⟨bv, bm⟩ j).2 ⟨T.mk (T.sx true ⟨av, am⟩ ⟨bv, bm⟩) j, T.mk (T.sy true ⟨av, am⟩ ⟨bv, bm⟩) j, false, false⟩ (1 + 1)) = T.rnd true ⟨av, am⟩ ⟨bv, bm⟩ j (T.cs true ⟨av, am⟩ ⟨bv, bm⟩ j).1 (T.cs true ⟨av, am⟩ ⟨bv, bm⟩ j).2 (T.rnds true ⟨av, am⟩ ⟨bv, bm⟩ j (T.cs true ⟨av, am⟩ ⟨bv, bm⟩ j).1 (T.cs true ⟨av, am⟩ ⟨bv, bm⟩ j).2 ⟨T.mk (T.sx true ⟨av, am⟩ ⟨bv, bm⟩) j, T.mk (T.sy true ⟨av, am⟩ ⟨bv, bm⟩) j, false, false⟩ 1) 1 from rfl]
          first
            | (rw [T.rnd_skip0 (by assumption)]; rfl)
            | (rw [T.rnd_skip1 (by assumption) (by assumption)]; rfl)
            | (rw [T.rnd_skip2 (by assumption) (by assumption) (by assumption)]; rfl)
            | (rw [T.rnd_go (by assumption) (by assumption) (by assumption), ← one_is hlt]; rfl)
    · (conv => whnf)
      (repeat' (first | (refine step_t (by first | rfl | assumption) ?_; (conv => whnf)) | (refine step_f (by first | rfl | assumption) ?_; (conv => whnf)) | (refine step_nt (by assumption) ?_; (conv => whnf)) | (refine step_nf (by assumption) ?_; (conv => whnf)) | (refine step_n (fun hb => ?_) (fun hb => ?_) <;> (first | contradiction | (conv => whnf))) | (refine And.intro (fun hb => ?_) (fun hb => ?_) <;> (first | contradiction | (conv => whnf))) | (refine And.intro ?_ ?_; rotate_left 1; (conv => whnf))))
      all_goals try (first | rfl | trivial | (simp; done) | (simp; omega) | (simp at hb ⊢; omega) | (simp only [decide_eq_true_eq, Bool.and_eq_true, Int.toNat_natCast] at *; omega))
      all_goals
        refine ⟨8 - (2 + 1), [.cells 25 [.u64 av, .u64 am], .cells 25 [.u64 bv, .u64 bm], .cells 25 [.u64 (BitVec.ofInt 64 0), .u64 (BitVec.ofInt 64 0)], .own 4 1 2 (gOf eB [(T.cs true ⟨av, am⟩ ⟨bv, bm⟩ j).1, (T.cs true ⟨av, am⟩ ⟨bv, bm⟩ j).2]), .own 4 1 2 (gOf eB [(T.rnds true ⟨av, am⟩ ⟨bv, bm⟩ j (T.cs true ⟨av, am⟩ ⟨bv, bm⟩ j).1 (T.cs true ⟨av, am⟩ ⟨bv, bm⟩ j).2 ⟨T.mk (T.sx true ⟨av, am⟩ ⟨bv, bm⟩) j, T.mk (T.sy true ⟨av, am⟩ ⟨bv, bm⟩) j, false, false⟩ (2 + 1)).c0, (T.rnds true ⟨av, am⟩ ⟨bv, bm⟩ j (T.cs true ⟨av, am⟩ ⟨bv, bm⟩ j).1 (T.cs true ⟨av, am⟩ ⟨bv, bm⟩ j).2 ⟨T.mk (T.sx true ⟨av, am⟩ ⟨bv, bm⟩) j, T.mk (T.sy true ⟨av, am⟩ ⟨bv, bm⟩) j, false, false⟩ (2 + 1)).c1])], [0, 1, 2, 3, 4], by omega, rfl, (mle_cons ble_refl (mle_cons ble_refl (mle_cons ble_refl (mle_cons ble_refl (mle_cons (ble_own rfl fun i hi => ?_) mle_nil))))), rfl, rfl, 2 + 1, by omega, rfl, trivial, ?_, rfl⟩
        · rw [show (T.rnds true ⟨av, am⟩ ⟨bv, bm⟩ j (T.cs true ⟨av, am⟩ ⟨bv, bm⟩ j).1 (T.cs true ⟨av, am⟩ ⟨bv, bm⟩ j).2 ⟨T.mk (T.sx true ⟨av, am⟩ ⟨bv, bm⟩) j, T.mk (T.sy true ⟨av, am⟩ ⟨bv, bm⟩) j, false, false⟩ (2 + 1)) = T.rnd true ⟨av, am⟩ ⟨bv, bm⟩ j (T.cs true ⟨av, am⟩ ⟨bv, bm⟩ j).1 (T.cs true ⟨av, am⟩ ⟨bv, bm⟩ j).2 (T.rnds true ⟨av, am⟩ ⟨bv, bm⟩ j (T.cs true ⟨av, am⟩ ⟨bv, bm⟩ j).1 (T.cs true ⟨av, am⟩ ⟨bv, bm⟩ j).2 ⟨T.mk (T.sx true ⟨av, am⟩ ⟨bv, bm⟩) j, T.mk (T.sy true ⟨av, am⟩ ⟨bv, bm⟩) j, false, false⟩ 2) 2 from rfl]
          first
            | (rw [T.rnd_skip0 (by assumption)]; done)
            | (rw [T.rnd_skip1 (by assumption) (by assumption)]; done)
            | (rw [T.rnd_skip2 (by assumption) (by assumption) (by assumption)]; done)
            | (rw [T.rnd_go (by assumption) (by assumption) (by assumption)]; exact gB [_, _] 1 true (by simp) i hi)
            | (rw [T.rnd_go (by assumption) (by assumption) (by assumption)]; exact gB [_, _] 0 true (by simp) i hi)
        · rw [show (T.rnds true ⟨av, am⟩ ⟨bv, bm⟩ j (T.cs true ⟨av, am⟩ ⟨bv, bm⟩ j).1 (T.cs true ⟨av, am⟩ ⟨bv, bm⟩ j).2 ⟨T.mk (T.sx true ⟨av, am⟩ ⟨bv, bm⟩) j, T.mk (T.sy true ⟨av, am⟩ ⟨bv, bm⟩) j, false, false⟩ (2 + 1)) = T.rnd true ⟨av, am⟩ ⟨bv, bm⟩ j (T.cs true ⟨av, am⟩ ⟨bv, bm⟩ j).1 (T.cs true ⟨av, am⟩ ⟨bv, bm⟩ j).2 (T.rnds true ⟨av, am⟩ ⟨bv, bm⟩ j (T.cs true ⟨av, am⟩ ⟨bv, bm⟩ j).1 (T.cs true ⟨av, am⟩ ⟨bv, bm⟩ j).2 ⟨T.mk (T.sx true ⟨av, am⟩ ⟨bv, bm⟩) j, T.mk (T.sy true ⟨av, am⟩ ⟨bv, bm⟩) j, false, false⟩ 2) 2 from rfl]
          first
            | (rw [T.rnd_skip0 (by assumption)]; rfl)
            | (rw [T.rnd_skip1 (by assumption) (by assumption)]; rfl)
            | (rw [T.rnd_skip2 (by assumption) (by assumption) (by assumption)]; rfl)
            | (rw [T.rnd_go (by assumption) (by assumption) (by assumption), ← one_is hlt]; rfl)
    · (conv => whnf)
      (repeat' (first | (refine step_t (by first | rfl | assumption) ?_; (conv => whnf)) | (refine step_f (by first | rfl | assumption) ?_; (conv => whnf)) | (refine step_nt (by assumption) ?_; (conv => whnf)) | (refine step_nf (by assumption) ?_; (conv => whnf)) | (refine step_n (fun hb => ?_) (fun hb => ?_) <;> (first | contradiction | (conv => whnf))) | (refine And.intro (fun hb => ?_) (fun hb => ?_) <;> (first | contradiction | (conv => whnf))) | (refine And.intro ?_ ?_; rotate_left 1; (conv => whnf))))
      all_goals try (first | rfl | trivial | (simp; done) | (simp; omega) | (simp at hb ⊢; omega) | (simp only [decide_eq_true_eq, Bool.and_eq_true, Int.toNat_natCast] at *; omega))
      all_goals
        refine ⟨8 - (3 + 1), [.cells 25 [.u64 av, .u64 am], .cells 25 [.u64 bv, .u64 bm], .cells 25 [.u64 (BitVec.ofInt 64 0), .u64 (BitVec.ofInt 64 0)], .own 4 1 2 (gOf eB [(T.cs true ⟨av, am⟩ ⟨bv, bm⟩ j).1, (T.cs true ⟨av, am⟩ ⟨bv, bm⟩ j).2]), .own 4 1 2 (gOf eB [(T.rnds true ⟨av, am⟩ ⟨bv, bm⟩ j (T.cs true ⟨av, am⟩ ⟨bv, bm⟩ j).1 (T.cs true ⟨av, am⟩ ⟨bv, bm⟩ j).2 ⟨T.mk (T.sx true ⟨av, am⟩ ⟨bv, bm⟩) j, T.mk (T.sy true ⟨av, am⟩ ⟨bv, bm⟩) j, false, false⟩ (3 + 1)).c0, (T.rnds true ⟨av, am⟩ ⟨bv, bm⟩ j (T.cs true ⟨av, am⟩ ⟨bv, bm⟩ j).1 (T.cs true ⟨av, am⟩ ⟨bv, bm⟩ j).2 ⟨T.mk (T.sx true ⟨av, am⟩ ⟨bv, bm⟩) j, T.mk (T.sy true ⟨av, am⟩ ⟨bv, bm⟩) j, false, false⟩ (3 + 1)).c1])], [0, 1, 2, 3, 4], by omega, rfl, (mle_cons ble_refl (mle_cons ble_refl (mle_cons ble_refl (mle_cons ble_refl (mle_cons (ble_own rfl fun i hi => ?_) mle_nil))))), rfl, rfl, 3 + 1, by omega, rfl, trivial, ?_, rfl⟩
        · rw [show (T.rnds true ⟨av, am⟩ ⟨bv, bm⟩ j (T.cs true ⟨av, am⟩ ⟨bv, bm⟩ j).1 (T.cs true ⟨av, am⟩ ⟨bv, bm⟩ j).2 ⟨T.mk (T.sx true ⟨av, am⟩ ⟨bv, bm⟩) j, T.mk (T.sy true ⟨av, am⟩ ⟨bv, bm⟩) j, false, false⟩ (3 + 1)) = T.rnd true ⟨av, am⟩ ⟨bv, bm⟩ j (T.cs true ⟨av, am⟩ ⟨bv, bm⟩ j).1 (T.cs true ⟨av, am⟩ ⟨bv, bm⟩ j).2 (T.rnds true ⟨av, am⟩ ⟨bv, bm⟩ j (T.cs true ⟨av, am⟩ ⟨bv, bm⟩ j).1 (T.cs true ⟨av, am⟩ ⟨bv, bm⟩ j).2 ⟨T.mk (T.sx true ⟨av, am⟩ ⟨bv, bm⟩) j, T.mk (T.sy true ⟨av, am⟩ ⟨bv, bm⟩) j, false, false⟩ 3) 3 from rfl]
          first
            | (rw [T.rnd_skip0 (by assumption)]; done)
            | (rw [T.rnd_skip1 (by assumption) (by assumption)]; done)
            | (rw [T.rnd_skip2 (by assumption) (by assumption) (by assumption)]; done)
            | (rw [T.rnd_go (by assumption) (by assumption) (by assumption)]; exact gB [_, _] 1 true (by simp) i hi)
            | (rw [T.rnd_go (by assumption) (by assumption) (by assumption)]; exact gB [_, _] 0 true (by simp) i hi)
        · rw [show (T.rnds true ⟨av, am⟩ ⟨bv, bm⟩ j (T.cs true ⟨av, am⟩ ⟨bv, bm⟩ j).1 (T.cs true ⟨av, am⟩ ⟨bv, bm⟩ j).2 ⟨T.mk (T.sx true ⟨av, am⟩ ⟨bv, bm⟩) j, T.mk (T.sy true ⟨av, am⟩ ⟨bv, bm⟩) j, false, false⟩ (3 + 1)) = T.rnd true ⟨av, am⟩ ⟨bv, bm⟩ j (T.cs true ⟨av, am⟩ ⟨bv, bm⟩ j).1 (T.cs true ⟨av, am⟩ ⟨bv, bm⟩ j).2 (T.rnds true ⟨av, am⟩ ⟨bv, bm⟩ j (T.cs true ⟨av, am⟩ ⟨bv, bm⟩ j).1 (T.cs true ⟨av, am⟩ ⟨bv, bm⟩ j).2 ⟨T.mk (T.sx true ⟨av, am⟩ ⟨bv, bm⟩) j, T.mk (T.sy true ⟨av, am⟩ ⟨bv, bm⟩) j, false, false⟩ 3) 3 from rfl]
          first
            | (rw [T.rnd_skip0 (by assumption)]; rfl)
            | (rw [T.rnd_skip1 (by assumption) (by assumption)]; rfl)
            | (rw [T.rnd_skip2 (by assumption) (by assumption) (by assumption)]; rfl)
            | (rw [T.rnd_go (by assumption) (by assumption) (by assumption), ← one_is hlt]; rfl)
    · (conv => whnf)
      (repeat' (first | (refine step_t (by first | rfl | assumption) ?_; (conv => whnf)) | (refine step_f (by first | rfl | assumption) ?_; (conv => whnf)) | (refine step_nt (by assumption) ?_; (conv => whnf)) | (refine step_nf (by assumption) ?_; (conv => whnf)) | (refine step_n (fun hb => ?_) (fun hb => ?_) <;> (first | contradiction | (conv => whnf))) | (refine And.intro (fun hb => ?_) (fun hb => ?_) <;> (first | contradiction | (conv => whnf))) | (refine And.intro ?_ ?_; rotate_left 1; (conv => whnf))))
      all_goals try (first | rfl | trivial | (simp; done) | (simp; omega) | (simp at hb ⊢; omega) | (simp only [decide_eq_true_eq, Bool.and_eq_true, Int.toNat_natCast] at *; omega))
      all_goals
        refine ⟨8 - (4 + 1), [.cells 25 [.u64 av, .u64 am], .cells 25 [.u64 bv, .u64 bm], .cells 25 [.u64 (BitVec.ofInt 64 0), .u64 (BitVec.ofInt 64 0)], .own 4 1 2 (gOf eB [(T.cs true ⟨av, am⟩ ⟨bv, bm⟩ j).1, (T.cs true ⟨av, am⟩ ⟨bv, bm⟩ j).2]), .own 4 1 2 (gOf eB [(T.rnds true ⟨av, am⟩ ⟨bv, bm⟩ j (T.cs true ⟨av, am⟩ ⟨bv, bm⟩ j).1 (T.cs true ⟨av, am⟩ ⟨bv, bm⟩ j).2 ⟨T.mk (T.sx true ⟨av, am⟩ ⟨bv, bm⟩) j, T.mk (T.sy true ⟨av, am⟩ ⟨bv, bm⟩) j, false, false⟩ (4 + 1)).c0, (T.rnds true ⟨av, am⟩ ⟨bv, bm⟩ j (T.cs true ⟨av, am⟩ ⟨bv, bm⟩ j).1 (T.cs true ⟨av, am⟩ ⟨bv, bm⟩ j).2 ⟨T.mk (T.sx true ⟨av, am⟩ ⟨bv, bm⟩) j, T.mk (T.sy true ⟨av, am⟩ ⟨bv, bm⟩) j, false, false⟩ (4 + 1)).c1])], [0, 1, 2, 3, 4], by omega, rfl, (mle_cons ble_refl (mle_cons ble_refl (mle_cons ble_refl (mle_cons ble_refl (mle_cons (ble_own rfl fun i hi => ?_) mle_nil))))), rfl, rfl, 4 + 1, by omega, rfl, trivial, ?_, rfl⟩
        · rw [show (T.rnds true ⟨av, am⟩ ⟨bv, bm⟩ j (T.cs true ⟨av, am⟩ ⟨bv, bm⟩ j).1 (T.cs true ⟨av, am⟩ ⟨bv, bm⟩ j).2 ⟨T.mk (T.sx true ⟨av, am⟩ ⟨bv, bm⟩) j, T.mk (T.sy true ⟨av, am⟩ ⟨bv, bm⟩) j, false, false⟩ (4 + 1)) = T.rnd true ⟨av, am⟩ ⟨bv, bm⟩ j (T.cs true ⟨av, am⟩ ⟨bv, bm⟩ j).1 (T.cs true ⟨av, am⟩ ⟨bv, bm⟩ j).2 (T.rnds true ⟨av, am⟩ ⟨bv, bm⟩ j (T.cs true ⟨av, am⟩ ⟨bv, bm⟩ j).1 (T.cs true ⟨av, am⟩ ⟨bv, bm⟩ j).2 ⟨T.mk (T.sx true ⟨av, am⟩ ⟨bv, bm⟩) j, T.mk (T.sy true ⟨av, am⟩ ⟨bv, bm⟩) j, false, false⟩ 4) 4 from rfl]
          first
            | (rw [T.rnd_skip0 (by assumption)]; done)
            | (rw [T.rnd_skip1 (by assumption) (by assumption)]; done)
            | (rw [T.rnd_skip2 (by assumption) (by assumption) (by assumption)]; done)
            | (rw [T.rnd_go (by assumption) (by assumption) (by assumption)]; exact gB [_, _] 1 true (by simp) i hi)
            | (rw [T.rnd_go (by assumption) (by assumption) (by assumption)]; exact gB [_, _] 0 true (by simp) i hi)
        · rw [show (T.rnds true ⟨av, am⟩ ⟨bv, bm⟩ j (T.cs true ⟨av, am⟩ ⟨bv, bm⟩ j).1 (T.cs true ⟨av, am⟩ ⟨bv, bm⟩ j).2 ⟨T.mk (T.sx true ⟨av, am⟩ ⟨bv, bm⟩) j, T.mk (T.sy true ⟨av, am⟩ ⟨bv, bm⟩) j, false, false⟩ (4 + 1)) = T.rnd true ⟨av, am⟩ ⟨bv, bm⟩ j (T.cs true ⟨av, am⟩ ⟨bv, bm⟩ j).1 (T.cs true ⟨av, am⟩ ⟨bv, bm⟩ j).2 (T.rnds true ⟨av, am⟩ ⟨bv, bm⟩ j (T.cs true ⟨av, am⟩ ⟨bv, bm⟩ j).1 (T.cs true ⟨av, am⟩ ⟨bv, bm⟩ j).2 ⟨T.mk (T.sx true ⟨av, am⟩ ⟨bv, bm⟩) j, T.mk (T.sy true ⟨av, am⟩ ⟨bv, bm⟩) j, false, false⟩ 4) 4 from rfl]
          first
            | (rw [T.rnd_skip0 (by assumption)]; rfl)
            | (rw [T.rnd_skip1 (by assumption) (by assumption)]; rfl)
            | (rw [T.rnd_skip2 (by assumption) (by assumption) (by assumption)]; rfl)
            | (rw [T.rnd_go (by assumption) (by assumption) (by assumption), ← one_is hlt]; rfl)
    · (conv => whnf)
      (repeat' (first | (refine step_t (by first | rfl | assumption) ?_; (conv => whnf)) | (refine step_f (by first | rfl | assumption) ?_; (conv => whnf)) | (refine step_nt (by assumption) ?_; (conv => whnf)) | (refine step_nf (by assumption) ?_; (conv => whnf)) | (refine step_n (fun hb => ?_) (fun hb => ?_) <;> (first | contradiction | (conv => whnf))) | (refine And.intro (fun hb => ?_) (fun hb => ?_) <;> (first | contradiction | (conv => whnf))) | (refine And.intro ?_ ?_; rotate_left 1; (conv => whnf))))
      all_goals try (first | rfl | trivial | (simp; done) | (simp; omega) | (simp at hb ⊢; omega) | (simp only [decide_eq_true_eq, Bool.and_eq_true, Int.toNat_natCast] at *; omega))
      all_goals
        refine ⟨8 - (5 + 1), [.cells 25 [.u64 av, .u64 am], .cells 25 [.u64 bv, .u64 bm], .cells 25 [.u64 (BitVec.ofInt 64 0), .u64 (BitVec.ofInt 64 0)], .own 4 1 2 (gOf eB [(T.cs true ⟨av, am⟩ ⟨bv, bm⟩ j).1, (T.cs true ⟨av, am⟩ ⟨bv, bm⟩ j).2]), .own 4 1 2 (gOf eB [(T.rnds true ⟨av, am⟩ ⟨bv, bm⟩ j (T.cs true ⟨av, am⟩ ⟨bv, bm⟩ j).1 (T.cs true ⟨av, am⟩ ⟨bv, bm⟩ j).2 ⟨T.mk (T.sx true ⟨av, am⟩ ⟨bv, bm⟩) j, T.mk (T.sy true ⟨av, am⟩ ⟨bv, bm⟩) j, false, false⟩ (5 + 1)).c0, (T.rnds true ⟨av, am⟩ ⟨bv, bm⟩ j (T.cs true ⟨av, am⟩ ⟨bv, bm⟩ j).1 (T.cs true ⟨av, am⟩ ⟨bv, bm⟩ j).2 ⟨T.mk (T.sx true ⟨av, am⟩ ⟨bv, bm⟩) j, T.mk (T.sy true ⟨av, am⟩ ⟨bv, bm⟩) j, false, false⟩ (5 + 1)).c1])], [0, 1, 2, 3, 4], by omega, rfl, (mle_cons ble_refl (mle_cons ble_refl (mle_cons ble_refl (mle_cons ble_refl (mle_cons (ble_own rfl fun i hi => ?_) mle_nil))))), rfl, rfl, 5 + 1, by omega, rfl, trivial, ?_, rfl⟩
        · rw [show (T.rnds true ⟨av, am⟩ ⟨bv, bm⟩ j (T.cs true ⟨av, am⟩ ⟨bv, bm⟩ j).1 (T.cs true ⟨av, am⟩ ⟨bv, bm⟩ j).2 ⟨T.mk (T.sx true ⟨av, am⟩ ⟨bv, bm⟩) j, T.mk (T.sy true ⟨av, am⟩ ⟨bv, bm⟩) j, false, false⟩ (5 + 1)) = T.rnd true ⟨av, am⟩ ⟨bv, bm⟩ j (T.cs true ⟨av, am⟩ ⟨bv, bm⟩ j).1 (T.cs true ⟨av, am⟩ ⟨bv, bm⟩ j).2 (T.rnds true ⟨av, am⟩ ⟨bv, bm⟩ j (T.cs true ⟨av, am⟩ ⟨bv, bm⟩ j).1 (T.cs true ⟨av, am⟩ ⟨bv, bm⟩ j).2 ⟨T.mk (T.sx true ⟨av, am⟩ ⟨bv, bm⟩) j, T.mk (T.sy true ⟨av, am⟩ ⟨bv, bm⟩) j, false, false⟩ 5) 5 from rfl]
          first
            | (rw [T.rnd_skip0 (by assumption)]; done)
            | (rw [T.rnd_skip1 (by assumption) (by assumption)]; done)
            | (rw [T.rnd_skip2 (by assumption) (by assumption) (by assumption)]; done)
            | (rw [T.rnd_go (by assumption) (by assumption) (by assumption)]; exact gB [_, _] 1 true (by simp) i hi)
            | (rw [T.rnd_go (by assumption) (by assumption) (by assumption)]; exact gB [_, _] 0 true (by simp) i hi)
        · rw [show (T.rnds true ⟨av, am⟩ ⟨bv, bm⟩ j (T.cs true ⟨av, am⟩ ⟨bv, bm⟩ j).1 (T.cs true ⟨av, am⟩ ⟨bv, bm⟩ j).2 ⟨T.mk (T.sx true ⟨av, am⟩ ⟨bv, bm⟩) j, T.mk (T.sy true ⟨av, am⟩ ⟨bv, bm⟩) j, false, false⟩ (5 + 1)) = T.rnd true ⟨av, am⟩ ⟨bv, bm⟩ j (T.cs true ⟨av, am⟩ ⟨bv, bm⟩ j).1 (T.cs true ⟨av, am⟩ ⟨bv, bm⟩ j).2 (T.rnds true ⟨av, am⟩ ⟨bv, bm⟩ j (T.cs true ⟨av, am⟩ ⟨bv, bm⟩ j).1 (T.cs true ⟨av, am⟩ ⟨bv, bm⟩ j).2 ⟨T.mk (T.sx true ⟨av, am⟩ ⟨bv, bm⟩) j, T.mk (T.sy true ⟨av, am⟩ ⟨bv, bm⟩) j, false, false⟩ 5) 5 from rfl]
          first
            | (rw [T.rnd_skip0 (by assumption)]; rfl)
            | (rw [T.rnd_skip1 (by assumption) (by assumption)]; rfl)
            | (rw [T.rnd_skip2 (by assumption) (by assumption) (by assumption)]; rfl)
            | (rw [T.rnd_go (by assumption) (by assumption) (by assumption), ← one_is hlt]; rfl)
    · (conv => whnf)
      (repeat' (first | (refine step_t (by first | rfl | assumption) ?_; (conv => whnf)) | (refine step_f (by first | rfl | assumption) ?_; (conv => whnf)) | (refine step_nt (by assumption) ?_; (conv => whnf)) | (refine step_nf (by assumption) ?_; (conv => whnf)) | (refine step_n (fun hb => ?_) (fun hb => ?_) <;> (first | contradiction | (conv => whnf))) | (refine And.intro (fun hb => ?_) (fun hb => ?_) <;> (first | contradiction | (conv => whnf))) | (refine And.intro ?_ ?_; rotate_left 1; (conv => whnf))))
      all_goals try (first | rfl | trivial | (simp; done) | (simp; omega) | (simp at hb ⊢; omega) | (simp only [decide_eq_true_eq, Bool.and_eq_true, Int.toNat_natCast] at *; omega))
      all_goals
        refine ⟨8 - (6 + 1), [.cells 25 [.u64 av, .u64 am], .cells 25 [.u64 bv, .u64 bm], .cells 25 [.u64 (BitVec.ofInt 64 0), .u64 (BitVec.ofInt 64 0)], .own 4 1 2 (gOf eB [(T.cs true ⟨av, am⟩ ⟨bv, bm⟩ j).1, (T.cs true ⟨av, am⟩ ⟨bv, bm⟩ j).2]), .own 4 1 2 (gOf eB [(T.rnds true ⟨av, am⟩ ⟨bv, bm⟩ j (T.cs true ⟨av, am⟩ ⟨bv, bm⟩ j).1 (T.cs true ⟨av, am⟩ ⟨bv, bm⟩ j).2 ⟨T.mk (T.sx true ⟨av, am⟩ ⟨bv, bm⟩) j, T.mk (T.sy true ⟨av, am⟩ ⟨bv, bm⟩) j, false, false⟩ (6 + 1)).c0, (T.rnds true ⟨av, am⟩ ⟨bv, bm⟩ j (T.cs true ⟨av, am⟩ ⟨bv, bm⟩ j).1 (T.cs true ⟨av, am⟩ ⟨bv, bm⟩ j).2 ⟨T.mk (T.sx true ⟨av, am⟩ ⟨bv, bm⟩) j, T.mk (T.sy true ⟨av, am⟩ ⟨bv, bm⟩) j, false, false⟩ (6 + 1)).c1])], [0, 1, 2, 3, 4], by omega, rfl, (mle_cons ble_refl (mle_cons ble_refl (mle_cons ble_refl (mle_cons ble_refl (mle_cons (ble_own rfl fun i hi => ?_) mle_nil))))), rfl, rfl, 6 + 1, by omega, rfl, trivial, ?_, rfl⟩
        · rw [show (T.rnds true ⟨av, am⟩ ⟨bv, bm⟩ j (T.cs true ⟨av, am⟩ ⟨bv, bm⟩ j).1 (T.cs true ⟨av, am⟩ ⟨bv, bm⟩ j).2 ⟨T.mk (T.sx true ⟨av, am⟩ ⟨bv, bm⟩) j, T.mk (T.sy true ⟨av, am⟩ ⟨bv, bm⟩) j, false, false⟩ (6 + 1)) = T.rnd true ⟨av, am⟩ ⟨bv, bm⟩ j (T.cs true ⟨av, am⟩ ⟨bv, bm⟩ j).1 (T.cs true ⟨av, am⟩ ⟨bv, bm⟩ j).2 (T.rnds true ⟨av, am⟩ ⟨bv, bm⟩ j (T.cs true ⟨av, am⟩ ⟨bv, bm⟩ j).1 (T.cs true ⟨av, am⟩ ⟨bv, bm⟩ j).2 ⟨T.mk (T.sx true ⟨av, am⟩ ⟨bv, bm⟩) j, T.mk (T.sy true ⟨av, am⟩ ⟨bv, bm⟩) j, false, false⟩ 6) 6 from rfl]
          first
            | (rw [T.rnd_skip0 (by assumption)]; done)
            | (rw [T.rnd_skip1 (by assumption) (by assumption)]; done)
            | (rw [T.rnd_skip2 (by assumption) (by assumption) (by assumption)]; done)
            | (rw [T.rnd_go (by assumption) (by assumption) (by assumption)]; exact gB [_, _] 1 true (by simp) i hi)
            | (rw [T.rnd_go (by assumption) (by assumption) (by assumption)]; exact gB [_, _] 0 true (by simp) i hi)
        · rw [show (T.rnds true ⟨av, am⟩ ⟨bv, bm⟩ j (T.cs true ⟨av, am⟩ ⟨bv, bm⟩ j).1 (T.cs true ⟨av, am⟩ ⟨bv, bm⟩ j).2 ⟨T.mk (T.sx true ⟨av, am⟩ ⟨bv, bm⟩) j, T.mk (T.sy true ⟨av, am⟩ ⟨bv, bm⟩) j, false, false⟩ (6 + 1)) = T.rnd true ⟨av, am⟩ ⟨bv, bm⟩ j (T.cs true ⟨av, am⟩ ⟨bv, bm⟩ j).1 (T.cs true ⟨av, am⟩ ⟨bv, bm⟩ j).2 (T.rnds true ⟨av, am⟩ ⟨bv, bm⟩ j (T.cs true ⟨av, am⟩ ⟨bv, bm⟩ j).1 (T.cs true ⟨av, am⟩ ⟨bv, bm⟩ j).2 ⟨T.mk (T.sx true ⟨av, am⟩ ⟨bv, bm⟩) j, T.mk (T.sy true ⟨av, am⟩ ⟨bv, bm⟩) j, false, false⟩ 6) 6 from rfl]
          first
            | (rw [T.rnd_skip0 (by assumption)]; rfl)
            | (rw [T.rnd_skip1 (by assumption) (by assumption)]; rfl)
            | (rw [T.rnd_skip2 (by assumption) (by assumption) (by assumption)]; rfl)
            | (rw [T.rnd_go (by assumption) (by assumption) (by assumption), ← one_is hlt]; rfl)
    · (conv => whnf)
      (repeat' (first | (refine step_t (by first | rfl | assumption) ?_; (conv => whnf)) | (refine step_f (by first | rfl | assumption) ?_; (conv => whnf)) | (refine step_nt (by assumption) ?_; (conv => whnf)) | (refine step_nf (by assumption) ?_; (conv => whnf)) | (refine step_n (fun hb => ?_) (fun hb => ?_) <;> (first | contradiction | (conv => whnf))) | (refine And.intro (fun hb => ?_) (fun hb => ?_) <;> (first | contradiction | (conv => whnf))) | (refine And.intro ?_ ?_; rotate_left 1; (conv => whnf))))
      all_goals try (first | rfl | trivial | (simp; done) | (simp; omega) | (simp at hb ⊢; omega) | (simp only [decide_eq_true_eq, Bool.and_eq_true, Int.toNat_natCast] at *; omega))
      all_goals
        refine ⟨8 - (7 + 1), [.cells 25 [.u64 av, .u64 am], .cells 25 [.u64 bv, .u64 bm], .cells 25 [.u64 (BitVec.ofInt 64 0), .u64 (BitVec.ofInt 64 0)], .own 4 1 2 (gOf eB [(T.cs true ⟨av, am⟩ ⟨bv, bm⟩ j).1, (T.cs true ⟨av, am⟩ ⟨bv, bm⟩ j).2]), .own 4 1 2 (gOf eB [(T.rnds true ⟨av, am⟩ ⟨bv, bm⟩ j (T.cs true ⟨av, am⟩ ⟨bv, bm⟩ j).1 (T.cs true ⟨av, am⟩ ⟨bv, bm⟩ j).2 ⟨T.mk (T.sx true ⟨av, am⟩ ⟨bv, bm⟩) j, T.mk (T.sy true ⟨av, am⟩ ⟨bv, bm⟩) j, false, false⟩ (7 + 1)).c0, (T.rnds true ⟨av, am⟩ ⟨bv, bm⟩ j (T.cs true ⟨av, am⟩ ⟨bv, bm⟩ j).1 (T.cs true ⟨av, am⟩ ⟨bv, bm⟩ j).2 ⟨T.mk (T.sx true ⟨av, am⟩ ⟨bv, bm⟩) j, T.mk (T.sy true ⟨av, am⟩ ⟨bv, bm⟩) j, false, false⟩ (7 + 1)).c1])], [0, 1, 2, 3, 4], by omega, rfl, (mle_cons ble_refl (mle_cons ble_refl (mle_cons ble_refl (mle_cons ble_refl (mle_cons (ble_own rfl fun i hi => ?_) mle_nil))))), rfl, rfl, 7 + 1, by omega, rfl, trivial, ?_, rfl⟩
        · rw [show (T.rnds true ⟨av, am⟩ ⟨bv, bm⟩ j (T.cs true ⟨av, am⟩ ⟨bv, bm⟩ j).1 (T.cs true ⟨av, am⟩ ⟨bv, bm⟩ j).2 ⟨T.mk (T.sx true ⟨av, am⟩ ⟨bv, bm⟩) j, T.mk (T.sy true ⟨av, am⟩ ⟨bv, bm⟩) j, false, false⟩ (7 + 1)) = T.rnd true ⟨av, am⟩ ⟨bv, bm⟩ j (T.cs true ⟨av, am⟩ ⟨bv, bm⟩ j).1 (T.cs true ⟨av, am⟩ ⟨bv, bm⟩ j).2 (T.rnds true ⟨av, am⟩ ⟨bv, bm⟩ j (T.cs true ⟨av, am⟩ ⟨bv, bm⟩ j).1 (T.cs true ⟨av, am⟩ ⟨bv, bm⟩ j).2 ⟨T.mk (T.sx true ⟨av, am⟩ ⟨bv, bm⟩) j, T.mk (T.sy true ⟨av, am⟩ ⟨bv, bm⟩) j, false, false⟩ 7) 7 from rfl]
          first
            | (rw [T.rnd_skip0 (by assumption)]; done)
            | (rw [T.rnd_skip1 (by assumption) (by assumption)]; done)
            | (rw [T.rnd_skip2 (by assumption) (by assumption) (by assumption)]; done)
            | (rw [T.rnd_go (by assumption) (by assumption) (by assumption)]; exact gB [_, _] 1 true (by simp) i hi)
            | (rw [T.rnd_go (by assumption) (by assumption) (by assumption)]; exact gB [_, _] 0 true (by simp) i hi)
        · rw [show (T.rnds true ⟨av, am⟩ ⟨bv, bm⟩ j (T.cs true ⟨av, am⟩ ⟨bv, bm⟩ j).1 (T.cs true ⟨av, am⟩ ⟨bv, bm⟩ j).2 ⟨T.mk (T.sx true ⟨av, am⟩ ⟨bv, bm⟩) j, T.mk (T.sy true ⟨av, am⟩ ⟨bv, bm⟩) j, false, false⟩ (7 + 1)) = T.rnd true ⟨av, am⟩ ⟨bv, bm⟩ j (T.cs true ⟨av, am⟩ ⟨bv, bm⟩ j).1 (T.cs true ⟨av, am⟩ ⟨bv, bm⟩ j).2 (T.rnds true ⟨av, am⟩ ⟨bv, bm⟩ j (T.cs true ⟨av, am⟩ ⟨bv, bm⟩ j).1 (T.cs true ⟨av, am⟩ ⟨bv, bm⟩ j).2 ⟨T.mk (T.sx true ⟨av, am⟩ ⟨bv, bm⟩) j, T.mk (T.sy true ⟨av, am⟩ ⟨bv, bm⟩) j, false, false⟩ 7) 7 from rfl]
          first
            | (rw [T.rnd_skip0 (by assumption)]; rfl)
            | (rw [T.rnd_skip1 (by assumption) (by assumption)]; rfl)
            | (rw [T.rnd_skip2 (by assumption) (by assumption) (by assumption)]; rfl)
            | (rw [T.rnd_go (by assumption) (by assumption) (by assumption), ← one_is hlt]; rfl)
    · (conv => whnf)
      (repeat' (first | (refine step_t (by first | rfl | assumption) ?_; (conv => whnf)) | (refine step_f (by first | rfl | assumption) ?_; (conv => whnf)) | (refine step_nt (by assumption) ?_; (conv => whnf)) | (refine step_nf (by assumption) ?_; (conv => whnf)) | (refine step_n (fun hb => ?_) (fun hb => ?_) <;> (first | contradiction | (conv => whnf))) | (refine And.intro (fun hb => ?_) (fun hb => ?_) <;> (first | contradiction | (conv => whnf))) | (refine And.intro ?_ ?_; rotate_left 1; (conv => whnf))))
      all_goals try (first | rfl | trivial | (simp; done) | (simp; omega) | (simp at hb ⊢; omega) | (simp only [decide_eq_true_eq, Bool.and_eq_true, Int.toNat_natCast] at *; omega))
      all_goals
        refine ⟨64 - (j + 1), [.cells 25 [.u64 av, .u64 am], .cells 25 [.u64 bv, .u64 bm], .cells 25 [.u64 (BitVec.ofInt 64 0), .u64 (BitVec.ofInt 64 0)], .own 4 1 2 (gOf eB [(T.cs true ⟨av, am⟩ ⟨bv, bm⟩ (j + 1)).1, (T.cs true ⟨av, am⟩ ⟨bv, bm⟩ (j + 1)).2])], [0, 1, 2, 4], by omega, rfl, (mle_cons ble_refl (mle_cons ble_refl (mle_cons ble_refl (mle_cons (ble_own rfl fun i hi => ?_) mle_nil)))), rfl, rfl, j + 1, by omega, rfl, trivial, ?_, rfl⟩
        · rw [T.rnds_sums]
        · simp only [T.rnds_sums]; rw [← wrap_succ (j := j) (by omega)]; rfl
  all_goals
    have hj2 : j = 64 := by simp at hb; omega
    subst hj2
    rw [T.of_sums true ha hb0]; try rfl
end Go.Proofs.YtkfbjnikkmoanaaGreatDoor
namespace Go.Proofs.YtkfbjnikkmoanaaGreatDoor
open Go.RowKit Go.Sx
set_option linter.unusedSimpArgs false
set_option linter.unusedVariables false
set_option linter.unnecessarySimpa false
set_option maxRecDepth 100000
set_option maxHeartbeats 4000000
namespace T
theorem does_mul {op : Int} {a b : Tn} (ha : right a = true) (hb : right b = true) (h : op = 32) : doesI op a b = (product a b, true) := by subst h; simp [doesI, opI, ha, hb]
theorem mul_64 {a b : Tn} (h : min (tz a.m) (tz b.m) = 64) : product a b = ⟨a.v * b.v, 0⟩ := by
  rw [mul_low_of h, show (1#64 <<< 64 - 1#64 : BitVec 64) = BitVec.allOnes 64 by decide]
  rw [BitVec.and_allOnes, show (~~~(BitVec.allOnes 64) : BitVec 64) = 0 by decide]
theorem mul_n {a b : Tn} (h : min (tz a.m) (tz b.m) ≠ 64) : product a b = ⟨a.v * b.v &&& (BitVec.ofInt 64 1 <<< (BitVec.ofInt 64 ((min (tz a.m) (tz b.m) : Nat) : Int)).toNat - BitVec.ofInt 64 1), ~~~(BitVec.ofInt 64 1 <<< (BitVec.ofInt 64 ((min (tz a.m) (tz b.m) : Nat) : Int)).toNat - BitVec.ofInt 64 1)⟩ := by
  have h64 : min (tz a.m) (tz b.m) < 64 := by have := tz_le a.m; omega
  rw [one_is h64, mul_low_of rfl]; rfl
theorem low_1 {a : Tn} (h : right a = true) : low a 1 = (⟨a.v &&& (BitVec.ofInt 64 1 <<< (BitVec.ofInt 64 (IntKind.i64.wrap (8 * 1))).toNat - BitVec.ofInt 64 1), a.m &&& (BitVec.ofInt 64 1 <<< (BitVec.ofInt 64 (IntKind.i64.wrap (8 * 1))).toNat - BitVec.ofInt 64 1)⟩, true) := by
  rw [show BitVec.ofInt 64 1 <<< (BitVec.ofInt 64 (IntKind.i64.wrap (8 * 1))).toNat - BitVec.ofInt 64 1 = 255#64 by decide]; simp [low, h]
theorem low_2 {a : Tn} (h : right a = true) : low a 2 = (⟨a.v &&& (BitVec.ofInt 64 1 <<< (BitVec.ofInt 64 (IntKind.i64.wrap (8 * 2))).toNat - BitVec.ofInt 64 1), a.m &&& (BitVec.ofInt 64 1 <<< (BitVec.ofInt 64 (IntKind.i64.wrap (8 * 2))).toNat - BitVec.ofInt 64 1)⟩, true) := by
  rw [show BitVec.ofInt 64 1 <<< (BitVec.ofInt 64 (IntKind.i64.wrap (8 * 2))).toNat - BitVec.ofInt 64 1 = 65535#64 by decide]; simp [low, h]
theorem low_4 {a : Tn} (h : right a = true) : low a 4 = (⟨a.v &&& (BitVec.ofInt 64 1 <<< (BitVec.ofInt 64 (IntKind.i64.wrap (8 * 4))).toNat - BitVec.ofInt 64 1), a.m &&& (BitVec.ofInt 64 1 <<< (BitVec.ofInt 64 (IntKind.i64.wrap (8 * 4))).toNat - BitVec.ofInt 64 1)⟩, true) := by
  rw [show BitVec.ofInt 64 1 <<< (BitVec.ofInt 64 (IntKind.i64.wrap (8 * 4))).toNat - BitVec.ofInt 64 1 = 4294967295#64 by decide]; simp [low, h]
theorem low_8 {a : Tn} (h : right a = true) : low a 8 = (a, true) := by
  unfold low
  rw [if_pos h, if_neg (by decide), if_neg (by decide), if_neg (by decide), if_pos (by decide), show (18446744073709551615#64 : BitVec 64) = BitVec.allOnes 64 by decide, BitVec.and_allOnes, BitVec.and_allOnes]
end T
def k_rSums : List SV → List Blk → Res := fun args _ => match args with
  | [.agg [.u64 av, .u64 am], .agg [.u64 bv, .u64 bm], .ff] => .test (T.right ⟨av, am⟩ && T.right ⟨bv, bm⟩) (.ok (tsv (T.sum ⟨av, am⟩ ⟨bv, bm⟩)) [])
  | [.agg [.u64 av, .u64 am], .agg [.u64 bv, .u64 bm], .tt] => .test (T.right ⟨av, am⟩ && T.right ⟨bv, bm⟩) (.ok (tsv (T.difference ⟨av, am⟩ ⟨bv, bm⟩)) [])
  | _ => .fail
theorem k_rSums_ok : CtrOk Tryz.prog Gw 184 k_rSums := by
  refine ⟨fun _ _ => by kernel_rfl, fun args M => ?_⟩
  unfold k_rSums
  split
  · rename_i av am bv bm
    intro ht
    exact ctr_flat (Γ := ⟨[(141, k_rRight), (187, k_rMay), (183, k_rBit), (118, k_rUnknown), (180, k_of)], eqs, [], [], []⟩) (sv := tsv (T.sum ⟨av, am⟩ ⟨bv, bm⟩)) st_Gw ⟨(okCons k_rRight_ok (okCons k_rMay_ok (okCons k_rBit_ok (okCons k_rUnknown_ok (okCons k_of_ok okNil))))), eqs_ok, okNilB, okNilI, okNilP⟩ Tryz.func184 rfl mixed [] (by kernel_rfl) 10000 (by rfl) (rsum_run av am bv bm (by simp only [Bool.and_eq_true] at ht; exact ht.1) (by simp only [Bool.and_eq_true] at ht; exact ht.2))
  · rename_i av am bv bm
    intro ht
    exact ctr_flat (Γ := ⟨[(141, k_rRight), (187, k_rMay), (183, k_rBit), (118, k_rUnknown), (180, k_of)], eqs, [], [], []⟩) (sv := tsv (T.difference ⟨av, am⟩ ⟨bv, bm⟩)) st_Gw ⟨(okCons k_rRight_ok (okCons k_rMay_ok (okCons k_rBit_ok (okCons k_rUnknown_ok (okCons k_of_ok okNil))))), eqs_ok, okNilB, okNilI, okNilP⟩ Tryz.func184 rfl mixed [] (by kernel_rfl) 10000 (by rfl) (rdifference_run av am bv bm (by simp only [Bool.and_eq_true] at ht; exact ht.1) (by simp only [Bool.and_eq_true] at ht; exact ht.2))
  · trivial
def k_rPlain : List SV → List Blk → Res := fun args _ => match args with
  | [.int .u8 op, .agg [.u64 av, .u64 am], .agg [.u64 bv, .u64 bm]] => .test (T.right ⟨av, am⟩ && T.right ⟨bv, bm⟩) (.ok (tsv (T.logic op ⟨av, am⟩ ⟨bv, bm⟩)) [])
  | _ => .fail
theorem k_rPlain_ok : CtrOk Tryz.prog Gw 185 k_rPlain := by
  refine ⟨fun _ _ => by kernel_rfl, fun args M => ?_⟩
  unfold k_rPlain
  split
  · rename_i op av am bv bm
    intro ht
    exact ctr_flat (Γ := ⟨[(141, k_rRight), (187, k_rMay), (183, k_rBit), (118, k_rUnknown), (180, k_of)], eqs, [], [], []⟩) (sv := tsv (T.logic op ⟨av, am⟩ ⟨bv, bm⟩)) st_Gw ⟨(okCons k_rRight_ok (okCons k_rMay_ok (okCons k_rBit_ok (okCons k_rUnknown_ok (okCons k_of_ok okNil))))), eqs_ok, okNilB, okNilI, okNilP⟩ Tryz.func185 rfl mixed [] (by kernel_rfl) 10000 (by rfl) (rplain_run op av am bv bm (by simp only [Bool.and_eq_true] at ht; exact ht.1) (by simp only [Bool.and_eq_true] at ht; exact ht.2))
  · trivial
def k_rOnes : List SV → List Blk → Res := fun args _ => match args with
  | [.agg [.u64 av, .u64 am]] => .ok (.u64 (av ||| am)) []
  | _ => .fail
theorem k_rOnes_ok : CtrOk Tryz.prog Gw 181 k_rOnes := by
  refine ⟨fun _ _ => by kernel_rfl, fun args M => ?_⟩
  unfold k_rOnes
  split
  · rename_i av am
    refine ctr_flat (Γ := ⟨[], eqs, [], [], []⟩) (sv := .u64 (av ||| am)) st_Gw ⟨okNil, eqs_ok, okNilB, okNilI, okNilP⟩ Tryz.func181 rfl mixed [] (by kernel_rfl) 10000 (by rfl) ?_
    (conv => whnf)
    (repeat' (first | (refine And.intro (fun hb => ?_) (fun hb => ?_) <;> (first | contradiction | (conv => whnf))) | (refine And.intro ?_ ?_; rotate_left 1; (conv => whnf))))
    all_goals (first | rfl | trivial | (simp_all [eqv, eqv1, eqv2, eqvL1, eqvL2]))
  · trivial
def k_rNoughts : List SV → List Blk → Res := fun args _ => match args with
  | [.agg [.u64 av, .u64 am]] => .ok (.u64 (~~~av)) []
  | _ => .fail
theorem k_rNoughts_ok : CtrOk Tryz.prog Gw 182 k_rNoughts := by
  refine ⟨fun _ _ => by kernel_rfl, fun args M => ?_⟩
  unfold k_rNoughts
  split
  · rename_i av am
    refine ctr_flat (Γ := ⟨[], eqs, [], [], []⟩) (sv := .u64 (~~~av)) st_Gw ⟨okNil, eqs_ok, okNilB, okNilI, okNilP⟩ Tryz.func182 rfl mixed [] (by kernel_rfl) 10000 (by rfl) ?_
    (conv => whnf)
    (repeat' (first | (refine And.intro (fun hb => ?_) (fun hb => ?_) <;> (first | contradiction | (conv => whnf))) | (refine And.intro ?_ ?_; rotate_left 1; (conv => whnf))))
    all_goals (first | rfl | trivial | (simp_all [eqv, eqv1, eqv2, eqvL1, eqvL2]))
  · trivial
def k_rMeet : List SV → List Blk → Res := fun args _ => match args with
  | [.agg [.u64 av, .u64 am], .agg [.u64 bv, .u64 bm]] => .ok (.tup [tsv (T.meet ⟨av, am⟩ ⟨bv, bm⟩).1, .bool (T.meet ⟨av, am⟩ ⟨bv, bm⟩).2]) []
  | _ => .fail
theorem k_rMeet_ok : CtrOk Tryz.prog Gw 143 k_rMeet := by
  refine ⟨fun _ _ => by kernel_rfl, fun args M => ?_⟩
  unfold k_rMeet
  split
  · rename_i av am bv bm
    refine ctr_flat (Γ := ⟨[(141, k_rRight), (181, k_rOnes), (182, k_rNoughts), (180, k_of)], eqs, [], [], []⟩) (sv := .tup [tsv (T.meet ⟨av, am⟩ ⟨bv, bm⟩).1, .bool (T.meet ⟨av, am⟩ ⟨bv, bm⟩).2]) st_Gw ⟨(okCons k_rRight_ok (okCons k_rOnes_ok (okCons k_rNoughts_ok (okCons k_of_ok okNil)))), eqs_ok, okNilB, okNilI, okNilP⟩ Tryz.func143 rfl mixed [(3, 12, [0, 1, 0, 7, 15, 0, 47, 0, 239, 495, 1023, 2047, 2047, 8191, 16383])] (by kernel_rfl) 10000 (by rfl) ?_
    (conv => whnf)
    (repeat' (first | (refine And.intro (fun hb => ?_) (fun hb => ?_) <;> (first | contradiction | (conv => whnf))) | (refine And.intro ?_ ?_; rotate_left 1; (conv => whnf))))
    all_goals (first | trivial | (simp_all [eqv, eqv1, eqv2, T.meet]; done) | (rw [← T.of_meet (by simp_all) (by simp_all)]; try rfl))
  · trivial
def k_rDo : List SV → List Blk → Res := fun args _ => match args with
  | [.int .u8 op, .agg [.u64 av, .u64 am], .agg [.u64 bv, .u64 bm]] => .ok (.tup [tsv (T.doesI op ⟨av, am⟩ ⟨bv, bm⟩).1, .bool (T.doesI op ⟨av, am⟩ ⟨bv, bm⟩).2]) []
  | _ => .fail
theorem k_rDo_ok : CtrOk Tryz.prog Gw 145 k_rDo := by
  refine ⟨fun _ _ => by kernel_rfl, fun args M => ?_⟩
  unfold k_rDo
  split
  · rename_i op av am bv bm
    refine ctr_flat (Γ := ⟨[(141, k_rRight), (184, k_rSums), (185, k_rPlain), (186, k_rKnown), (122, k_rConst)], eqs, [], [], []⟩) (sv := .tup [tsv (T.doesI op ⟨av, am⟩ ⟨bv, bm⟩).1, .bool (T.doesI op ⟨av, am⟩ ⟨bv, bm⟩).2]) st_Gw ⟨(okCons k_rRight_ok (okCons k_rSums_ok (okCons k_rPlain_ok (okCons k_rKnown_ok (okCons k_rConst_ok okNil))))), eqs_ok, okNilB, okNilI, okNilP⟩ Tryz.func145 rfl mixed [(13, 3, [0, 1, 0, 7, 15, 31])] (by kernel_rfl) 10000 (by rfl) ?_
    (conv => whnf)
    (repeat' (first | (refine And.intro (fun hb => ?_) (fun hb => ?_) <;> (first | contradiction | (conv => whnf))) | (refine And.intro ?_ ?_; rotate_left 1; (conv => whnf))))
    all_goals (first | trivial | (simp_all [eqv, eqv1, eqv2, T.doesI, T.opI, T.logic]; done) | (rw [T.does_mul (by simp_all) (by simp_all) (by simp_all)]; rw [ite_min] at *; have h64 : min (tz am) (tz bm) = 64 := (by rw [beq_iff_eq] at hb; omega); rw [T.mul_64 h64]; try rfl) | (rw [T.does_mul (by simp_all) (by simp_all) (by simp_all)]; rw [ite_min] at *; have h64 : min (tz am) (tz bm) ≠ 64 := (by rw [beq_eq_false_iff_ne] at hb; omega); rw [T.mul_n h64]; try rfl))
  · trivial
def k_rLow : List SV → List Blk → Res := fun args _ => match args with
  | [.agg [.u64 av, .u64 am], .int .i64 n] => .ok (.tup [tsv (T.low ⟨av, am⟩ n).1, .bool (T.low ⟨av, am⟩ n).2]) []
  | _ => .fail
theorem k_rLow_ok : CtrOk Tryz.prog Gw 123 k_rLow := by
  refine ⟨fun _ _ => by kernel_rfl, fun args M => ?_⟩
  unfold k_rLow
  split
  · rename_i av am n
    refine ctr_flat (Γ := ⟨[(141, k_rRight)], eqs, [], [], []⟩) (sv := .tup [tsv (T.low ⟨av, am⟩ n).1, .bool (T.low ⟨av, am⟩ n).2]) st_Gw ⟨(okCons k_rRight_ok okNil), eqs_ok, okNilB, okNilI, okNilP⟩ Tryz.func123 rfl mixed [] (by kernel_rfl) 10000 (by rfl) ?_
    (conv => whnf)
    (repeat' (first | (refine And.intro (fun hb => ?_) (fun hb => ?_) <;> (first | contradiction | (conv => whnf))) | (refine And.intro ?_ ?_; rotate_left 1; (conv => whnf))))
    all_goals (first | trivial | (simp_all [eqv, eqv1, eqv2, T.low]; done) | ((have h1 : n = 1 := by simp_all); subst h1; rw [T.low_1 (by simp_all)]; try rfl) | ((have h1 : n = 2 := by simp_all); subst h1; rw [T.low_2 (by simp_all)]; try rfl) | ((have h1 : n = 4 := by simp_all); subst h1; rw [T.low_4 (by simp_all)]; try rfl) | ((have h1 : n = 8 := by simp_all); subst h1; rw [T.low_8 (by simp_all)]; try rfl))
  · trivial
end Go.Proofs.YtkfbjnikkmoanaaGreatDoor
