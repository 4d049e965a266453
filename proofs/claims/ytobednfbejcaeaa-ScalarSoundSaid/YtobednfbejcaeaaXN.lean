import Derived.Test.YtobednfbejcaeaaX9
import Derived.Test.YtobednfbejcaeaaScalT
import Derived.Test.YtobednfbejcaeaaSxW
import Derived.Test.YtobednfbejcaeaaXM
namespace Go.Proofs.Ytobednfbejcaeaa
open Go.RowKit Go.Sx
set_option linter.unusedSimpArgs false
set_option linter.unusedVariables false
set_option linter.unnecessarySimpa false
set_option maxRecDepth 100000
set_option maxHeartbeats 4000000
theorem cApp_zero (L : List Sc) (g : Nat → List FV) : ∀ i, i < L.length → gOf eC L i = gApp 0 g (fun k => gOf eC L (0 + k)) i := by
  intro i hi; unfold gApp; simp
theorem celts_app (L : List Sc) (g : Nat → List FV) : elts eC 0 (0 + L.length) (gApp 0 g (fun k => gOf eC L (0 + k))) = L := by
  rw [Nat.zero_add, show elts eC 0 L.length (gApp 0 g (fun k => gOf eC L (0 + k))) = elts eC 0 L.length (gOf eC L) from ?_, elts_all]
  unfold elts; apply List.map_congr_left; intro i hi
  rw [Nat.zero_add, ← cApp_zero L g i (by simpa using hi)]
theorem callIs_app (L : List Sc) (g : Nat → List FV) : allIs eC 0 (0 + L.length) (gApp 0 g (fun k => gOf eC L (0 + k))) = true := by
  rw [Nat.zero_add, ← allIs_gOf eC L 0 L.length]
  unfold allIs; rw [List.all_eq_not_any_not, List.all_eq_not_any_not]
  congr 1
theorem cjoins_run (L : List Sc) (hL : L.length < 9223372036854775808) (hI : C.ins L = true) : run Try.prog ⟨[(8, k_awake), (12, k_cJoin), (13, k_qJoin)], eqs, [], [], []⟩ 10000 [(10, 8, [0, 0, 3, 7, 0, 0, 48, 112, 255]), (12, 3, [0, 0, 2, 7, 15])] 0 (bodyOf Try.f4) (initF Try.f4 [.sl 0 6 0 L.length]) [.ro 6 L.length (gOf eC L)] (retK Try.prog Try.f4 fun x _ => eqv x (.bool true)) := by
  (conv => whnf)
  (repeat' (first | (refine And.intro (fun hb => ?_) (fun hb => ?_) <;> (first | contradiction | (conv => whnf))) | (refine And.intro ?_ ?_; rotate_left 1; (conv => whnf))))
  all_goals try (first | rfl | trivial | (simp; done) | (simp; omega) | (simp at hb ⊢; omega) | (simp only [decide_eq_true_eq, Bool.and_eq_true, Int.toNat_natCast] at *; omega))
  · have hm : L.length ≤ 100 := by simp at hb; omega
    refine .inr ⟨[], [0, 2, 3, 4, 5], fun k vals M => ∃ j : Nat, j ≤ L.length ∧ k = L.length - j ∧ vals = [.sl 0 6 0 L.length, .ff, .sl 2 6 0 (0 + L.length), .ptr 3 0, .int .i64 (j : Int)] ∧ M = [.ro 6 L.length (gOf eC L), .dead, .own 29 6 (0 + L.length) (gOf eC L), .cells 29 [.u64 (C.join L).t.v, .u64 (C.join L).t.m, .u64 (C.join L).s.lo, .u64 (C.join L).s.hi, .int .i64 (C.join L).s.sl, .int .i64 (C.join L).s.sh]], ?_⟩
    conv => whnf
    refine And.intro ⟨L.length, [.ro 6 L.length (gOf eC L), .dead, .own 29 6 (0 + L.length) (gOf eC L), .cells 29 [.u64 (C.join L).t.v, .u64 (C.join L).t.m, .u64 (C.join L).s.lo, .u64 (C.join L).s.hi, .int .i64 (C.join L).s.sl, .int .i64 (C.join L).s.sh]], mle_cons ble_refl (mle_cons ble_dead (mle_cons (ble_own rfl fun i hi => cApp_zero L _ i (by omega)) (mle_cons (ble_cells (by rw [celts_app])) mle_nil))), rfl, rfl, 0, by omega, by omega, rfl, rfl⟩ ?_
    rintro k vals M1 ⟨j, hj, rfl, rfl, rfl⟩
    (conv => whnf)
    (repeat' (first | (refine And.intro (fun hb => ?_) (fun hb => ?_) <;> (first | contradiction | (conv => whnf))) | (refine And.intro ?_ ?_; rotate_left 1; (conv => whnf))))
    all_goals try (first | rfl | trivial | (simp; done) | (simp; omega) | (simp at hb ⊢; omega) | (simp only [decide_eq_true_eq, Bool.and_eq_true, Int.toNat_natCast] at *; omega))
    · simp at hb
    · have hlt : j < L.length := by simpa using ‹decide ((j : Int) < (L.length : Int)) = true›
      refine ⟨L.length - (j + 1), [.ro 6 L.length (gOf eC L), .dead, .own 29 6 (0 + L.length) (gOf eC L), .cells 29 [.u64 (C.join L).t.v, .u64 (C.join L).t.m, .u64 (C.join L).s.lo, .u64 (C.join L).s.hi, .int .i64 (C.join L).s.sl, .int .i64 (C.join L).s.sh]], [0, 1, 2, 3], by omega, rfl, mle_cons ble_refl (mle_cons ble_refl (mle_cons ble_refl (mle_cons ble_refl mle_nil))), rfl, rfl, j + 1, by omega, rfl, ?_, rfl⟩
      rw [← wrap_succ (by omega)]; rfl
    · rw [elts_all]; simp
    · rw [allIs_gOf, elts_all, hI]; simp; omega
  · have hm : L.length ≤ 100 := by simp at hb; omega
    rw [callIs_app, celts_app, hI]; simp; omega
  · have hm : L.length ≤ 100 := by simp at hb; omega
    have h2 : Try.prog.types[29]!.bytes = 48 := by kernel_rfl
    rw [decide_eq_true_eq]
    exact ⟨by show (_ + _) * Try.prog.types[29]!.bytes ≤ _; rw [h2]; omega, by omega⟩
theorem inS_fits {l : List FV} (h : fits [.u64, .u64, .u64, .u64, .int .i64, .int .i64] l) : eC.is l = true ∧ R.inS (eC.dec l).s = true := by
  obtain ⟨a, _, rfl, b, _, rfl, c, _, rfl, d, _, rfl, e, _, rfl, he, f, _, rfl, hf, rfl⟩ := h
  exact ⟨rfl, by show (R.inI e && R.inI f) = true; simp only [R.inI, i64_has he, i64_has hf]; rfl⟩
theorem w_ScalarJoins (l : Option Sx.Loc) (len : Nat) (F : Nat → List FV) (hF : ∀ i, fits [.u64, .u64, .u64, .u64, .int .i64, .int .i64] (F i) ∨ len ≤ i) (w : World) (hn : len < 9223372036854775808)
    (hM : ∀ g : Nat → List FV, (∀ i, i < len → g i = F i) → MRel ⟨w.heap.size, []⟩ (at0 l) [.ro 6 len g] w) :
    Calls Try.prog 4 #[SV.den (at0 l) (.sl 0 6 0 len)] w (Ret w (.bool true)) := by
  have hfi : ∀ i, i < len → fits [.u64, .u64, .u64, .u64, .int .i64, .int .i64] (F i) := fun i hi => (hF i).elim id fun h => absurd hi (by omega)
  have hl : (elts eC 0 len F).length = len := elts_length ..
  have hI : C.ins (elts eC 0 len F) = true := List.all_eq_true.2 fun x hx => by
    obtain ⟨i, hi, rfl⟩ := List.mem_map.1 hx
    exact (inS_fits (hfi (0 + i) (by have := List.mem_range.1 hi; omega))).2
  have hr := cjoins_run (elts eC 0 len F) (by rw [hl]; exact hn) hI
  rw [hl] at hr
  refine (calls_run (Γ := ⟨[(8, k_awake), (12, k_cJoin), (13, k_qJoin)], eqs, [], [], []⟩) st_Gw ⟨(okCons k_awake_ok (okCons k_cJoin_ok (okCons k_qJoin_ok okNil))), eqs_ok, okNilB, okNilI, okNilP⟩ Try.func4 rfl mixed [(10, 8, [0, 0, 3, 7, 0, 0, 48, 112, 255]), (12, 3, [0, 0, 2, 7, 15])] (by kernel_rfl) 10000 (ρ0 := at0 l) trivial (by rfl) (hM _ fun i hi => ?_) hr).mono ?_
  · rw [gOf_elts eC (List.all_eq_true.2 fun j hj => (inS_fits (hfi (0 + j) (by have := List.mem_range.1 hj; omega))).1) i hi, Nat.zero_add]
  · rintro e w' ⟨ρ', x, M', rfl, hx, hM', hbel⟩
    exact ⟨congrArg Ending.returned (eqv_den hx ρ' (fun _ => none)), grow_mk hbel⟩
namespace C
theorem bits_and {t : Tn} {n : BitVec 64} (h : T.has t n = true) (m : BitVec 64) : T.has ⟨t.v &&& m, t.m &&& m⟩ (n &&& m) = true := T.has_iff.2 fun i hi => by
  have := T.has_bit h i
  simp only [BitVec.getLsbD_and]
  revert this
  cases t.v.getLsbD i <;> cases t.m.getLsbD i <;> cases m.getLsbD i <;> cases n.getLsbD i <;> simp
theorem xt_and (n : BitVec 64) (k : Nat) (hk : k < 64) : W.xt n k false = n &&& BitVec.ofNat 64 (2 ^ k - 1) := by
  show BitVec.ofNat 64 (n.toNat % 2 ^ k) = _
  apply BitVec.eq_of_toNat_eq
  have h1 : n.toNat % 2 ^ k < 2 ^ 64 := Nat.lt_of_le_of_lt (Nat.mod_le ..) n.isLt
  have h2 : 2 ^ k - 1 < 2 ^ 64 := by have := Nat.pow_lt_pow_right (a := 2) (by omega) hk; omega
  rw [BitVec.toNat_and, BitVec.toNat_ofNat, BitVec.toNat_ofNat, Nat.mod_eq_of_lt h2, Nat.and_two_pow_sub_one_eq_mod, Nat.mod_eq_of_lt h1]
theorem bits_1 {t : Tn} {n : BitVec 64} (h : T.has t n = true) : T.has (T.low t 1).1 (W.xt n 8 false) = true := by
  have e : T.low t 1 = (⟨t.v &&& 255#64, t.m &&& 255#64⟩, true) := by simp [T.low, T.has_right h]
  rw [e, xt_and n 8 (by omega)]; exact bits_and h _
theorem bits_2 {t : Tn} {n : BitVec 64} (h : T.has t n = true) : T.has (T.low t 2).1 (W.xt n 16 false) = true := by
  have e : T.low t 2 = (⟨t.v &&& 65535#64, t.m &&& 65535#64⟩, true) := by simp [T.low, T.has_right h]
  rw [e, xt_and n 16 (by omega)]; exact bits_and h _
theorem bits_4 {t : Tn} {n : BitVec 64} (h : T.has t n = true) : T.has (T.low t 4).1 (W.xt n 32 false) = true := by
  have e : T.low t 4 = (⟨t.v &&& 4294967295#64, t.m &&& 4294967295#64⟩, true) := by simp [T.low, T.has_right h]
  rw [e, xt_and n 32 (by omega)]; exact bits_and h _
theorem ext_none {a : BitVec 64} {k : Int} {sg : Bool} (h1 : k ≠ 1) (h2 : k ≠ 2) (h4 : k ≠ 4) (h8 : k ≠ 8) : (W.extB a k sg).2 = false := by
  unfold W.extB
  rw [if_neg (by simpa using h1), if_neg (by simpa using h2), if_neg (by simpa using h4), if_neg (by simpa using h8)]
/-- The lowest bytes of a scalar, widened: whether they are; they are a scalar; they have what the words of it come to. -/
theorem low_law {x : Sc} (hx : R.inS x.s = true) (k : Int) (sg : Bool) (n : BitVec 64) : (low x k sg).2 = ((W.extB n k sg).2 && right x) ∧ ((low x k sg).2 = true → right (low x k sg).1 = true) ∧ ((low x k sg).2 = true → hasb x n = true → hasb (low x k sg).1 (W.extB n k sg).1 = true) := by
  cases hr : right x with
  | false => rw [low_no2 hr]; simp
  | true =>
    by_cases h1 : k = 1
    · subst h1
      have e := low_tail (sg := sg) (n := 1) rfl hr rfl
      have e : low x 1 sg = tailG x (T.low x.t 1).1 8 sg (tops 1) := e
      obtain ⟨l1, l2, l3⟩ := tail_law hx hr (l := (T.low x.t 1).1) (p := tops 1) (k := 8) (q := 128) sg (by decide) (by decide) (by rfl) (by rfl) (by kernel_rfl) (by kernel_rfl) (by kernel_rfl)
      rw [e, l1]
      exact ⟨rfl, fun _ => l2, fun _ hn => l3 n hn (bits_1 (hasb_iff.1 hn).2.t)⟩
    by_cases h2 : k = 2
    · subst h2
      have e := low_tail (sg := sg) (n := 2) rfl hr rfl
      have e : low x 2 sg = tailG x (T.low x.t 2).1 16 sg (tops 2) := e
      obtain ⟨l1, l2, l3⟩ := tail_law hx hr (l := (T.low x.t 2).1) (p := tops 2) (k := 16) (q := 32768) sg (by decide) (by decide) (by rfl) (by rfl) (by kernel_rfl) (by kernel_rfl) (by kernel_rfl)
      rw [e, l1]
      exact ⟨rfl, fun _ => l2, fun _ hn => l3 n hn (bits_2 (hasb_iff.1 hn).2.t)⟩
    by_cases h4 : k = 4
    · subst h4
      have e := low_tail (sg := sg) (n := 4) rfl hr rfl
      have e : low x 4 sg = tailG x (T.low x.t 4).1 32 sg (tops 4) := e
      obtain ⟨l1, l2, l3⟩ := tail_law hx hr (l := (T.low x.t 4).1) (p := tops 4) (k := 32) (q := 2147483648) sg (by decide) (by decide) (by rfl) (by rfl) (by kernel_rfl) (by kernel_rfl) (by kernel_rfl)
      rw [e, l1]
      exact ⟨rfl, fun _ => l2, fun _ hn => l3 n hn (bits_4 (hasb_iff.1 hn).2.t)⟩
    by_cases h8 : k = 8
    · subst h8
      rw [low_8 (sg := sg) (n := 8) rfl hr rfl]
      exact ⟨rfl, fun _ => hr, fun _ hn => hn⟩
    · rw [low_no1 (ext_none h1 h2 h4 h8), ext_none h1 h2 h4 h8]
      exact ⟨rfl, (fun h => by cases h), (fun h => by cases h)⟩
end C
namespace C
theorem cmeet_in {a b : Sc} (ha : R.inS a.s = true) (hb : R.inS b.s = true) : R.inS (meet a b).1.s = true := by
  unfold meet
  split
  · exact of_in (meet_in ha hb)
  · rfl
theorem const_ins (n : BitVec 64) : R.inS (const n).s = true := S.inS_iff.2 ⟨S.sv_in n, S.sv_in n⟩
theorem low_in {x : Sc} (hx : R.inS x.s = true) (k : Int) (sg : Bool) : R.inS (low x k sg).1.s = true := by
  unfold low
  split
  · split
    · split
      · exact hx
      · unfold tail
        split
        · split
          · exact cut_in hx _ _
          · split
            · exact const_ins _
            · exact of_in (wraps_in _ _ _ _)
        · exact cut_in hx _ _
    · rfl
  · rfl
theorem and2 {a b : Bool} (h : a = true) (k : b = true) : (a && b) = true := by rw [h, k]; rfl
theorem and4 {a b c d : Bool} (h : a = true) (k : b = true) (l : c = true) (m : d = true) : (a && (b && (c && d))) = true := by rw [h, k, l, m]; rfl
end C
end Go.Proofs.Ytobednfbejcaeaa
