import Derived.Test.YtobednfbejcaeaaPXA
import Derived.Test.YtobednfbejcaeaaTXB
namespace Go.Proofs.Ytobednfbejcaeaa
open Go.RowKit Go.Sx
set_option linter.unusedSimpArgs false
set_option linter.unusedVariables false
set_option linter.unnecessarySimpa false
set_option maxRecDepth 100000
set_option maxHeartbeats 4000000
def eS : Enc Sp := ⟨fun t => [.u64 t.lo, .u64 t.hi, .int .i64 t.sl, .int .i64 t.sh], fun l => match l with | [.u64 a, .u64 b, .int .i64 c, .int .i64 d] => ⟨a, b, c, d⟩ | _ => ⟨0, 0, 0, 0⟩, fun l => match l with | [.u64 _, .u64 _, .int .i64 _, .int .i64 _] => true | _ => false, ⟨0, 0, 0, 0⟩,
  fun l h => by revert h; split <;> simp_all, fun _ => rfl, fun _ => rfl⟩
theorem getD_ltS {L : List Sp} {j : Nat} (h : j < L.length) : L.getD (0 + ((j : Int)).toNat) eS.dft = L[j] := by simp [List.getD_eq_getElem?_getD, h]
def S.fo (L : List Sp) (j : Nat) : Sp := (L.take j).foldl S.cup (L.getD (0 + Int.toNat 0) eS.dft)
theorem fo_succ {L : List Sp} {j : Nat} (h : j < L.length) : S.fo L (j + 1) = S.cup (S.fo L j) L[j] := by
  unfold S.fo; rw [List.take_succ_eq_append_getElem h, List.foldl_append]; rfl
theorem fo_all {L : List Sp} (h0 : L ≠ []) (h : ∀ x ∈ L, S.good x = true) : S.fo L L.length = S.joinL L := by
  unfold S.fo S.joinL
  rw [if_pos (List.all_eq_true.2 h), List.take_length]
  cases L with
  | nil => exact absurd rfl h0
  | cons a r => rfl
theorem joinL_bad {L : List Sp} {j : Nat} (h : j < L.length) (hb : S.good L[j] = false) : S.joinL L = ⟨BitVec.ofInt 64 0, BitVec.ofInt 64 0, 0, 0⟩ := by
  unfold S.joinL
  rw [if_neg]
  intro k
  have := List.all_eq_true.1 k L[j] (List.getElem_mem h)
  rw [hb] at this; cases this
theorem sjoin_run (L : List Sp) (hL : L.length < 1000000000000) : run Try.prog ⟨[(72, k_srRight)], eqs, [], [], []⟩ 10000 [] 0 (bodyOf Try.f41) (initF Try.f41 [.sl 0 4 0 L.length]) [.ro 4 L.length (gOf eS L)] (retK Try.prog Try.f41 fun x _ => eqv x (spv (S.joinL L))) := by
  (conv => whnf)
  (repeat' (first | (refine And.intro (fun hb => ?_) (fun hb => ?_) <;> (first | contradiction | (conv => whnf))) | (refine And.intro (a := (_ : Bool) = true) ?_ ?_; rotate_left 1; (conv => whnf))))
  all_goals try (have e : L = [] := List.eq_nil_of_length_eq_zero (by have := eq_of_beq hb; omega); subst e; exact ⟨rfl, rfl, ⟨rfl, rfl⟩, ⟨rfl, rfl⟩, trivial⟩)
  all_goals have hne : L.length ≠ 0 := fun h => by rw [h] at hb; revert hb; decide
  all_goals try (simp; omega)
  refine .inr ⟨[], [0, 2, 3, 4], fun k vals M => ∃ j : Nat, j ≤ L.length ∧ k = L.length - j ∧ (∀ x ∈ L.take j, S.good x = true) ∧ vals = [.sl 0 4 0 L.length, .ptr 1 0, .ptr 2 0, .int .i64 (j : Int)] ∧ M = [.ro 4 L.length (gOf eS L), .cells 27 [.u64 (BitVec.ofInt 64 0), .u64 (BitVec.ofInt 64 0), .int .i64 0, .int .i64 0], .cells 27 [.u64 (S.fo L j).lo, .u64 (S.fo L j).hi, .int .i64 (S.fo L j).sl, .int .i64 (S.fo L j).sh]], ?_⟩
  conv => whnf
  refine And.intro ⟨L.length, _, mle_cons ble_refl (mle_cons ble_refl (mle_cons ble_refl mle_nil)), rfl, rfl, 0, by omega, by omega, fun x hx => by simp at hx, rfl, rfl⟩ ?_
  rintro k vals M1 ⟨j, hj, rfl, hg, rfl, rfl⟩
  (conv => whnf)
  (repeat' (first | (refine And.intro (fun hb => ?_) (fun hb => ?_) <;> (first | contradiction | (conv => whnf))) | (refine And.intro (a := (_ : Bool) = true) ?_ ?_; rotate_left 1; (conv => whnf))))
  all_goals try (first | rfl | trivial | (simp; done) | (simp; omega) | (simp at hb ⊢; omega) | (simp only [decide_eq_true_eq, Bool.and_eq_true, Int.toNat_natCast] at *; omega))
  · have hlt : j < L.length := by simpa using ‹decide ((j : Int) < (L.length : Int)) = true›
    rw [getD_ltS hlt] at hb
    rw [joinL_bad hlt (C.nt hb)]; exact ⟨rfl, rfl, ⟨rfl, rfl⟩, ⟨rfl, rfl⟩, trivial⟩
  · have hlt : j < L.length := by simpa using ‹decide ((j : Int) < (L.length : Int)) = true›
    have e := getD_ltS hlt
    rw [e] at hb
    refine ⟨L.length - (j + 1), [.ro 4 L.length (gOf eS L), .cells 27 [.u64 (BitVec.ofInt 64 0), .u64 (BitVec.ofInt 64 0), .int .i64 0, .int .i64 0], .cells 27 [.u64 (S.fo L (j + 1)).lo, .u64 (S.fo L (j + 1)).hi, .int .i64 (S.fo L (j + 1)).sl, .int .i64 (S.fo L (j + 1)).sh]], [0, 1, 2], by omega, rfl, mle_cons ble_refl (mle_cons ble_refl (mle_cons (ble_cells (by rw [fo_succ hlt, ← e]; rfl)) mle_nil)), rfl, rfl, j + 1, by omega, rfl, fun x hx => ?_, ?_, rfl⟩
    · rw [List.take_succ_eq_append_getElem hlt, List.mem_append] at hx
      rcases hx with hx | hx
      · exact hg x hx
      · rw [List.mem_singleton] at hx; subst hx; exact C.nf hb
    · rw [← wrap_succ (by omega)]; rfl
  · have hj2 : j = L.length := by simp at hb; omega
    subst hj2
    rw [List.take_length] at hg
    rw [← fo_all (fun h => hne (by rw [h]; rfl)) hg]; exact ⟨rfl, rfl, ⟨rfl, rfl⟩, ⟨rfl, rfl⟩, trivial⟩
def k_srJoin : List SV → List Blk → Res := fun args M => match args with
  | [.sl b sz off len] => match eltB (nth M b) with
    | some (sz', m, g) => match Nat.beq sz 4 && Nat.beq sz' 4 with
      | true => .test (decide (off + len ≤ m) && (allIs eS off len g && decide (len < 1000000000000))) (.ok (spv (S.joinL (elts eS off len g))) [])
      | false => .fail
    | _ => .fail
  | _ => .fail
theorem k_srJoin_ok : CtrOk Try.prog Gw 41 k_srJoin := by
  refine ⟨fun _ _ => by kernel_rfl, fun args M => ?_⟩
  unfold k_srJoin
  split
  · rename_i b sz off len
    split
    · rename_i sz' m g hk
      split
      · rename_i hb
        simp only [Bool.and_eq_true] at hb
        obtain rfl := Nat.eq_of_beq_eq_true hb.1
        obtain rfl := Nat.eq_of_beq_eq_true hb.2
        intro ht
        simp only [Bool.and_eq_true, decide_eq_true_eq] at ht
        obtain ⟨hle, h1, h2⟩ := ht
        have hr := sjoin_run (elts eS off len g) (by rw [elts_length]; exact h2)
        rw [elts_length] at hr
        exact ctr_row (Γ := ⟨[(72, k_srRight)], eqs, [], [], []⟩) st_Gw ⟨(okCons k_srRight_ok okNil), eqs_ok, okNilB, okNilI, okNilP⟩ Try.func41 rfl mixed [] (by kernel_rfl) 10000 hk hle (gOf_elts eS h1) rfl hr
      · trivial
    · trivial
  · trivial
def k_sJoin1 : List SV → List Blk → Res := fun args _ => match args with
  | [.agg [.u64 alo, .u64 ahi, .int .i64 asl, .int .i64 ash]] => .ok (.bool (!S.good (⟨alo, ahi, asl, ash⟩ : Sp))) []
  | _ => .fail
theorem k_sJoin1_ok : CtrOk Try.prog Gw 68 k_sJoin1 := by
  refine ⟨fun _ _ => by kernel_rfl, fun args M => ?_⟩
  unfold k_sJoin1
  split
  · rename_i alo ahi asl ash
    refine ctr_flat (Γ := ⟨[(35, k_sRight)], eqs, [], [], []⟩) (sv := .bool (!S.good (⟨alo, ahi, asl, ash⟩ : Sp))) st_Gw ⟨(okCons k_sRight_ok okNil), eqs_ok, okNilB, okNilI, okNilP⟩ Try.func68 rfl mixed [] (by kernel_rfl) 10000 (by rfl) ?_
    (conv => whnf)
    (repeat' (first | (refine And.intro (fun hb => ?_) (fun hb => ?_) <;> (first | contradiction | (conv => whnf))) | (refine And.intro ?_ ?_; rotate_left 1; (conv => whnf))))
    all_goals (first | rfl | trivial | ((try dsimp only at *); (try simp only [Bool.not_eq_true', Bool.not_eq_false', bne, ite_uv] at *); (simp only [eqv, eqv1, eqv2, eqvL1, eqvL2, *, bne, Bool.and_true, Bool.true_and, Bool.and_false, Bool.false_and, Bool.or_true, Bool.true_or, Bool.or_false, Bool.false_or, Bool.not_true, Bool.not_false, if_true, if_false, Bool.false_eq_true, beq_self_eq_true]; done)) | ((try dsimp only at *); (try simp only [Bool.not_eq_true', Bool.not_eq_false', bne] at *); simp only [eqv, eqv1, eqv2, eqvL1, eqvL2, *, bne, Bool.and_true, Bool.true_and, Bool.and_false, Bool.false_and, Bool.or_true, Bool.true_or, Bool.or_false, Bool.false_or, Bool.not_true, Bool.not_false, if_true, if_false, Bool.false_eq_true, beq_self_eq_true]; rfl) | (simp_all [eqv, eqv1, eqv2, eqvL1, eqvL2]; done))
  · trivial
/-- The first that is bad; or none. -/
def S.badI (L : List Sp) : Int := match L.findIdx? (fun x => !S.good x) with
  | some i => (i : Int)
  | none => -1
theorem badI_yes {L : List Sp} {j : Nat} (h : j < L.length) (hg : ∀ x ∈ L.take j, S.good x = true) (hb : S.good L[j] = false) : S.badI L = (j : Int) := by
  unfold S.badI
  have : L.findIdx? (fun x => !S.good x) = some j := by
    rw [List.findIdx?_eq_some_iff_getElem]
    refine ⟨h, by simp [hb], fun i hi => ?_⟩
    have := hg L[i] (by rw [List.mem_take_iff_getElem]; exact ⟨i, by omega, rfl⟩)
    simp [this]
  rw [this]
theorem badI_no {L : List Sp} (hg : ∀ x ∈ L, S.good x = true) : S.badI L = -1 := by
  unfold S.badI
  have : L.findIdx? (fun x => !S.good x) = none := by
    rw [List.findIdx?_eq_none_iff]
    intro x hx; simp [hg x hx]
  rw [this]
theorem sidx_run (L : List Sp) (hL : L.length < 1000000000000) : run Try.prog ⟨[(68, k_sJoin1)], eqs, [], [], []⟩ 10000 [] 0 (bodyOf Try.f96) (initF Try.f96 [.sl 0 4 0 L.length, .fn (.func 68) [] []]) [.ro 4 L.length (gOf eS L)] (retK Try.prog Try.f96 fun x _ => eqv x (.int .i64 (S.badI L))) := by
  (conv => whnf)
  (repeat' (first | (refine And.intro (fun hb => ?_) (fun hb => ?_) <;> (first | contradiction | (conv => whnf))) | (refine And.intro (a := (_ : Bool) = true) ?_ ?_; rotate_left 1; (conv => whnf))))
  refine .inr ⟨[], [0, 1, 6, 7, 8], fun k vals M => ∃ j : Nat, j ≤ L.length ∧ k = L.length - j ∧ (∀ x ∈ L.take j, S.good x = true) ∧ vals = [.sl 0 4 0 L.length, .fn (.func 68) [] [], .sl 0 4 0 L.length, .int .i64 (L.length : Int), .int .i64 (j : Int)] ∧ M = [.ro 4 L.length (gOf eS L)], ?_⟩
  conv => whnf
  refine And.intro ⟨L.length, _, mle_cons ble_refl mle_nil, rfl, rfl, 0, by omega, by omega, fun x hx => by simp at hx, rfl, rfl⟩ ?_
  rintro k vals M1 ⟨j, hj, rfl, hg, rfl, rfl⟩
  (conv => whnf)
  (repeat' (first | (refine And.intro (fun hb => ?_) (fun hb => ?_) <;> (first | contradiction | (conv => whnf))) | (refine And.intro (a := (_ : Bool) = true) ?_ ?_; rotate_left 1; (conv => whnf))))
  all_goals try (first | rfl | trivial | (simp; done) | (simp; omega) | (simp at hb ⊢; omega) | (simp only [decide_eq_true_eq, Bool.and_eq_true, Int.toNat_natCast] at *; omega))
  all_goals first
    | (have hlt : j < L.length := by simpa using ‹decide ((j : Int) < (L.length : Int)) = true›
       have e := getD_ltS hlt
       rw [e] at hb
       refine ⟨L.length - (j + 1), [.ro 4 L.length (gOf eS L)], [0], by omega, rfl, mle_cons ble_refl mle_nil, rfl, rfl, j + 1, by omega, rfl, fun x hx => ?_, ?_, rfl⟩
       · rw [List.take_succ_eq_append_getElem hlt, List.mem_append] at hx
         rcases hx with hx | hx
         · exact hg x hx
         · rw [List.mem_singleton] at hx; subst hx; exact C.nf hb
       · rw [← wrap_succ (by omega)]; rfl)
    | (have hlt : j < L.length := by simpa using ‹decide ((j : Int) < (L.length : Int)) = true›
       have e := getD_ltS hlt
       rw [e] at hb
       rw [badI_yes hlt hg (C.nt hb)]; exact ⟨rfl, rfl⟩)
    | (have hj2 : j = L.length := by simp at hb; omega
       subst hj2
       rw [List.take_length] at hg
       rw [badI_no hg]; exact ⟨rfl, rfl⟩)
def k_sIdx : List SV → List Blk → Res := fun args M => match args with
  | [.sl b sz off len, .fn (.func 68) [] []] => match eltB (nth M b) with
    | some (sz', m, g) => match Nat.beq sz 4 && Nat.beq sz' 4 with
      | true => .test (decide (off + len ≤ m) && (allIs eS off len g && decide (len < 1000000000000))) (.ok (.int .i64 (S.badI (elts eS off len g))) [])
      | false => .fail
    | _ => .fail
  | _ => .fail
theorem k_sIdx_ok : CtrOk Try.prog Gw 96 k_sIdx := by
  refine ⟨fun _ _ => by kernel_rfl, fun args M => ?_⟩
  unfold k_sIdx
  split
  · rename_i b sz off len
    split
    · rename_i sz' m g hk
      split
      · rename_i hb
        simp only [Bool.and_eq_true] at hb
        obtain rfl := Nat.eq_of_beq_eq_true hb.1
        obtain rfl := Nat.eq_of_beq_eq_true hb.2
        intro ht
        simp only [Bool.and_eq_true, decide_eq_true_eq] at ht
        obtain ⟨hle, h1, h2⟩ := ht
        have hr := sidx_run (elts eS off len g) (by rw [elts_length]; exact h2)
        rw [elts_length] at hr
        exact ctr_row (Γ := ⟨[(68, k_sJoin1)], eqs, [], [], []⟩) st_Gw ⟨(okCons k_sJoin1_ok okNil), eqs_ok, okNilB, okNilI, okNilP⟩ Try.func96 rfl mixed [] (by kernel_rfl) 10000 hk hle (gOf_elts eS h1) rfl hr
      · trivial
    · trivial
  · trivial
theorem scont_run (L : List Sp) (hL : L.length < 1000000000000) : run Try.prog ⟨[(96, k_sIdx)], eqs, [], [], []⟩ 10000 [] 0 (bodyOf Try.f67) (initF Try.f67 [.sl 0 4 0 L.length, .fn (.func 68) [] []]) [.ro 4 L.length (gOf eS L)] (retK Try.prog Try.f67 fun x _ => eqv x (.bool (decide (0 ≤ S.badI L)))) := by
  (conv => whnf)
  (repeat' (first | (refine And.intro (fun hb => ?_) (fun hb => ?_) <;> (first | contradiction | (conv => whnf))) | (refine And.intro (a := (_ : Bool) = true) ?_ ?_; rotate_left 1; (conv => whnf))))
  all_goals first
    | (simp [allIs_gOf]; omega)
    | (rw [elts_all]; done)
    | (rw [elts_all]; rfl)
def k_sCont : List SV → List Blk → Res := fun args M => match args with
  | [.sl b sz off len, .fn (.func 68) [] []] => match eltB (nth M b) with
    | some (sz', m, g) => match Nat.beq sz 4 && Nat.beq sz' 4 with
      | true => .test (decide (off + len ≤ m) && (allIs eS off len g && decide (len < 1000000000000))) (.ok (.bool (decide (0 ≤ S.badI (elts eS off len g)))) [])
      | false => .fail
    | _ => .fail
  | _ => .fail
theorem k_sCont_ok : CtrOk Try.prog Gw 67 k_sCont := by
  refine ⟨fun _ _ => by kernel_rfl, fun args M => ?_⟩
  unfold k_sCont
  split
  · rename_i b sz off len
    split
    · rename_i sz' m g hk
      split
      · rename_i hb
        simp only [Bool.and_eq_true] at hb
        obtain rfl := Nat.eq_of_beq_eq_true hb.1
        obtain rfl := Nat.eq_of_beq_eq_true hb.2
        intro ht
        simp only [Bool.and_eq_true, decide_eq_true_eq] at ht
        obtain ⟨hle, h1, h2⟩ := ht
        have hr := scont_run (elts eS off len g) (by rw [elts_length]; exact h2)
        rw [elts_length] at hr
        exact ctr_row (Γ := ⟨[(96, k_sIdx)], eqs, [], [], []⟩) st_Gw ⟨(okCons k_sIdx_ok okNil), eqs_ok, okNilB, okNilI, okNilP⟩ Try.func67 rfl mixed [] (by kernel_rfl) 10000 hk hle (gOf_elts eS h1) rfl hr
      · trivial
    · trivial
  · trivial
theorem badI_yes2 {L : List Sp} (h : decide (0 ≤ S.badI L) = true) : S.joinL L = ⟨BitVec.ofInt 64 0, BitVec.ofInt 64 0, 0, 0⟩ := by
  unfold S.joinL
  rw [if_neg]
  intro k
  rw [badI_no (List.all_eq_true.1 k)] at h
  revert h; decide
theorem badI_no2 {L : List Sp} (h : decide (0 ≤ S.badI L) = false) : ∀ x ∈ L, S.good x = true := by
  intro x hx
  cases hg : S.good x with
  | true => rfl
  | false =>
    exfalso
    have h := of_decide_eq_false h
    unfold S.badI at h
    cases hf : L.findIdx? (fun x => !S.good x) with
    | some i => rw [hf] at h; exact h (Int.natCast_nonneg _)
    | none =>
      rw [List.findIdx?_eq_none_iff] at hf
      have := hf x hx
      rw [hg] at this; cases this
def S.pj (L : List Sp) (j : Nat) : Sp := if j = 0 then ⟨BitVec.ofInt 64 0, BitVec.ofInt 64 0, 0, 0⟩ else S.fo L j
def rfOf : Code → Option (Array Nat × Code × Code)
  | .rangeFunc _ ps a b => some (ps, a, b)
  | .seq a b => match rfOf a with
    | some r => some r
    | none => rfOf b
  | .cond _ a b => match rfOf a with
    | some r => some r
    | none => rfOf b
  | .block _ c => rfOf c
  | .loop c => rfOf c
  | _ => none
/-- The block of a range over a function, while it is gone through. -/
def lpOf (c : Code) (fr : List SV) : Blk := match rfOf c with
  | some (ps, a, b) => .lp [] fr ps a b .ready
  | none => .dead
theorem pj_first {L : List Sp} {j : Nat} (h : j < L.length) (h0 : ((j : Int) == 0) = true) : S.pj L (j + 1) = S.cup L[j] L[j] := by
  have e : j = 0 := by have := eq_of_beq h0; omega
  subst e
  unfold S.pj
  rw [if_neg (by omega), fo_succ h]
  have : S.fo L 0 = L[0] := getD_ltS h
  rw [this]
theorem pj_next {L : List Sp} {j : Nat} (h : j < L.length) (h0 : ((j : Int) == 0) = false) : S.pj L (j + 1) = S.cup (S.pj L j) L[j] := by
  have e : j ≠ 0 := fun e => by rw [e] at h0; revert h0; decide
  unfold S.pj
  rw [if_neg (by omega), if_neg e, fo_succ h]
theorem spjoin_run (L : List Sp) (hL : L.length < 1000000000000) : run Try.prog ⟨[(67, k_sCont), (59, k_sof), (70, k_sspan), (98, k_sjoinU), (99, k_sjoinI)], eqs, [], [(69, Try.f69, []), (97, Try.f97, [(7, 9, [0, 1, 0, 4, 15, 0, 32, 0, 128, 511, 1023, 2047])])], []⟩ 10000 [] 0 (bodyOf Try.f38) (initF Try.f38 [.sl 0 4 0 L.length]) [.ro 4 L.length (gOf eS L)] (retK Try.prog Try.f38 fun x _ => eqv x (spv (S.joinL L))) := by
  (conv => whnf)
  (repeat' (first | (refine And.intro (fun hb => ?_) (fun hb => ?_) <;> (first | contradiction | (conv => whnf))) | (refine And.intro (a := (_ : Bool) = true) ?_ ?_; rotate_left 1; (conv => whnf))))
  all_goals try (simp [allIs_gOf]; omega)
  all_goals try (rw [elts_all] at hb; rw [badI_yes2 hb]; exact ⟨rfl, rfl, ⟨rfl, rfl⟩, ⟨rfl, rfl⟩, trivial⟩)
  have hall := hb
  rw [elts_all] at hall
  have hall := badI_no2 hall
  refine .inr ⟨[], [0, 1, 3, 7, 8, 9], fun k vals M => ∃ j : Nat, j ≤ L.length ∧ k = L.length - j ∧ vals = [.yld 3, .ptr 2 0, .ptr 4 0, .sl 0 4 0 L.length, .int .i64 (L.length : Int), .int .i64 (j : Int)] ∧ M = [.ro 4 L.length (gOf eS L), .cells 27 [.u64 (S.pj L j).lo, .u64 (S.pj L j).hi, .int .i64 (S.pj L j).sl, .int .i64 (S.pj L j).sh], .cells 57 [.sl 0 4 0 L.length], lpOf (bodyOf Try.f38) [.sl 0 4 0 L.length, .tup [], .ptr 1 0, .tup [], .sl 0 4 0 L.length, .bool (decide (0 ≤ S.badI (elts eS 0 L.length (gOf eS L)))), .tup [], .sl 0 4 0 L.length, .fn (.func 97) [] [.ptr 2 0], .tup [], .tup [], .tup [], .tup []], .cells 78 [.u64 (S.pj L j).lo, .u64 (S.pj L j).hi, .int .i64 (S.pj L j).sl, .int .i64 (S.pj L j).sh]], ?_⟩
  conv => whnf
  refine And.intro ⟨L.length, _, mle_cons ble_refl (mle_cons ble_refl (mle_cons ble_refl (mle_cons ble_refl (mle_cons ble_refl mle_nil)))), rfl, rfl, 0, by omega, by omega, rfl, rfl⟩ ?_
  rintro k vals M1 ⟨j, hj, rfl, rfl, rfl⟩
  (conv => whnf)
  (repeat' (first | (refine And.intro (fun hb => ?_) (fun hb => ?_) <;> (first | contradiction | (conv => whnf))) | (refine And.intro (a := (_ : Bool) = true) ?_ ?_; rotate_left 1; (conv => whnf))))
  all_goals try (first | rfl | trivial | (simp; done) | (simp; omega) | (simp at hb ⊢; omega) | (simp only [decide_eq_true_eq, Bool.and_eq_true, Int.toNat_natCast] at *; omega))
  all_goals first
    | (have hlt : j < L.length := by simpa using ‹decide ((j : Int) < (L.length : Int)) = true›
       have e := getD_ltS hlt
       refine ⟨L.length - (j + 1), [.ro 4 L.length (gOf eS L), .cells 27 [.u64 (S.pj L (j + 1)).lo, .u64 (S.pj L (j + 1)).hi, .int .i64 (S.pj L (j + 1)).sl, .int .i64 (S.pj L (j + 1)).sh], .cells 57 [.sl 0 4 0 L.length], lpOf (bodyOf Try.f38) [.sl 0 4 0 L.length, .tup [], .ptr 1 0, .tup [], .sl 0 4 0 L.length, .bool (decide (0 ≤ S.badI (elts eS 0 L.length (gOf eS L)))), .tup [], .sl 0 4 0 L.length, .fn (.func 97) [] [.ptr 2 0], .tup [], .tup [], .tup [], .tup []], .cells 78 [.u64 (S.pj L (j + 1)).lo, .u64 (S.pj L (j + 1)).hi, .int .i64 (S.pj L (j + 1)).sl, .int .i64 (S.pj L (j + 1)).sh]], [0, 1, 2, 3, 4], by omega, rfl, mle_cons ble_refl (mle_cons (ble_cells (by rw [pj_first hlt hb, ← e]; rfl)) (mle_cons ble_refl (mle_cons ble_refl (mle_cons (ble_cells (by rw [pj_first hlt hb, ← e]; rfl)) mle_nil)))), rfl, rfl, j + 1, by omega, rfl, ?_, rfl⟩
       rw [← wrap_succ (by omega)]; rfl)
    | (have hlt : j < L.length := by simpa using ‹decide ((j : Int) < (L.length : Int)) = true›
       have e := getD_ltS hlt
       refine ⟨L.length - (j + 1), [.ro 4 L.length (gOf eS L), .cells 27 [.u64 (S.pj L (j + 1)).lo, .u64 (S.pj L (j + 1)).hi, .int .i64 (S.pj L (j + 1)).sl, .int .i64 (S.pj L (j + 1)).sh], .cells 57 [.sl 0 4 0 L.length], lpOf (bodyOf Try.f38) [.sl 0 4 0 L.length, .tup [], .ptr 1 0, .tup [], .sl 0 4 0 L.length, .bool (decide (0 ≤ S.badI (elts eS 0 L.length (gOf eS L)))), .tup [], .sl 0 4 0 L.length, .fn (.func 97) [] [.ptr 2 0], .tup [], .tup [], .tup [], .tup []], .cells 78 [.u64 (S.pj L (j + 1)).lo, .u64 (S.pj L (j + 1)).hi, .int .i64 (S.pj L (j + 1)).sl, .int .i64 (S.pj L (j + 1)).sh]], [0, 1, 2, 3, 4], by omega, rfl, mle_cons ble_refl (mle_cons (ble_cells (by rw [pj_next hlt hb, ← e]; rfl)) (mle_cons ble_refl (mle_cons ble_refl (mle_cons (ble_cells (by rw [pj_next hlt hb, ← e]; rfl)) mle_nil)))), rfl, rfl, j + 1, by omega, rfl, ?_, rfl⟩
       rw [← wrap_succ (by omega)]; rfl)
    | (have hj2 : j = L.length := by simp at hb; omega
       subst hj2
       have e : S.pj L L.length = S.joinL L := by
         unfold S.pj
         split
         · rename_i h0; rw [List.eq_nil_of_length_eq_zero h0]; rfl
         · rename_i h0; exact fo_all (fun h => h0 (by rw [h]; rfl)) hall
       rw [← e]; exact ⟨rfl, rfl, ⟨rfl, rfl⟩, ⟨rfl, rfl⟩, trivial⟩)
def k_sJoin : List SV → List Blk → Res := fun args M => match args with
  | [.sl b sz off len] => match eltB (nth M b) with
    | some (sz', m, g) => match Nat.beq sz 4 && Nat.beq sz' 4 with
      | true => .test (decide (off + len ≤ m) && (allIs eS off len g && decide (len < 1000000000000))) (.ok (spv (S.joinL (elts eS off len g))) [])
      | false => .fail
    | _ => .fail
  | _ => .fail
theorem k_sJoin_ok : CtrOk Try.prog Gw 38 k_sJoin := by
  refine ⟨fun _ _ => by kernel_rfl, fun args M => ?_⟩
  unfold k_sJoin
  split
  · rename_i b sz off len
    split
    · rename_i sz' m g hk
      split
      · rename_i hb
        simp only [Bool.and_eq_true] at hb
        obtain rfl := Nat.eq_of_beq_eq_true hb.1
        obtain rfl := Nat.eq_of_beq_eq_true hb.2
        intro ht
        simp only [Bool.and_eq_true, decide_eq_true_eq] at ht
        obtain ⟨hle, h1, h2⟩ := ht
        have hr := spjoin_run (elts eS off len g) (by rw [elts_length]; exact h2)
        rw [elts_length] at hr
        exact ctr_row (Γ := ⟨[(67, k_sCont), (59, k_sof), (70, k_sspan), (98, k_sjoinU), (99, k_sjoinI)], eqs, [], [(69, Try.f69, []), (97, Try.f97, [(7, 9, [0, 1, 0, 4, 15, 0, 32, 0, 128, 511, 1023, 2047])])], []⟩) st_Gw ⟨(okCons k_sCont_ok (okCons k_sof_ok (okCons k_sspan_ok (okCons k_sjoinU_ok (okCons k_sjoinI_ok okNil))))), eqs_ok, okNilB, (okConsI Try.func69 rfl (by kernel_rfl) (fun _ _ => by kernel_rfl) (okConsI Try.func97 rfl (by kernel_rfl) (fun _ _ => by kernel_rfl) okNilI)), okNilP⟩ Try.func38 rfl mixed [] (by kernel_rfl) 10000 hk hle (gOf_elts eS h1) rfl hr
      · trivial
    · trivial
  · trivial
end Go.Proofs.Ytobednfbejcaeaa
