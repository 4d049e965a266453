import Derived.Test.YtnbcemeofhaogaaX1
import Derived.Test.YtnbcemeofhaogaaCelS
namespace Go.Proofs.Ytnbcemeofhaogaa
open Go.RowKit Go.Sx
set_option linter.unusedSimpArgs false
set_option linter.unusedVariables false
set_option linter.unnecessarySimpa false
set_option maxRecDepth 100000
set_option maxHeartbeats 4000000
/-- The bytes that an argument is. -/
def bytesA : AV → Option (Bool × List Int)
  | .one (.row 1 n g) => some (allIs eB 0 n g, elts eB 0 n g)
  | .one (.val (.slice none 0 0)) => some (true, [])
  | _ => none
theorem bytesA_eq {a : AV} {c : Bool} {L : List Int} (h : bytesA a = some (c, L)) (hc : c = true) : AVEq a (.one (.row 1 L.length (gOf eB L))) := by
  unfold bytesA at h
  split at h
  · rename_i n g
    simp only [Option.some.injEq, Prod.mk.injEq] at h
    obtain ⟨rfl, rfl⟩ := h
    rw [elts_length]
    exact FVEq.of_rows fun i hi => by rw [gOf_elts eB hc i hi, Nat.zero_add]
  · simp only [Option.some.injEq, Prod.mk.injEq] at h
    obtain ⟨_, rfl⟩ := h
    exact FVEq.nil
  · cases h
def k_smk : List SV → List Blk → Res := fun args M => match topA eltB M args with
  | some (b, [x, y]) => match bytesA x, bytesA y with
    | some (c, L), some (d, K) => .test b (.test (c && d) (.test (decide (L.length ≤ 1099511627776)) (.ok (.bool (L == K)) [])))
    | _, _ => .fail
  | _ => .fail
theorem smk_run (L K : List Int) (hL : L.length ≤ 1099511627776) : run Try.prog ⟨[], eqs, [], [], [], mixs, meqs, []⟩ 10000 [(6, 8, [0, 0, 3, 7, 0, 0, 48, 112, 255])] 0 (bodyOf Try.f82) (initF Try.f82 [.sl 0 1 0 L.length, .sl 1 1 0 K.length]) [.ro 1 L.length (gOf eB L), .ro 1 K.length (gOf eB K)] (retK Try.prog Try.f82 fun x _ => eqv x (.bool (L == K))) := by
  (conv => whnf)
  (repeat' (first | (refine And.intro (fun hb => ?_) (fun hb => ?_) <;> (first | contradiction | (conv => whnf))) | (refine And.intro ?_ ?_; rotate_left 1; (conv => whnf))))
  · simp only [bne_iff_ne, ne_eq] at hb
    show (L == K) = false
    rw [beq_eq_false_iff_ne]
    rintro rfl
    exact hb rfl
  · have hlen : L.length = K.length := by simp only [bne_eq_false_iff_eq] at hb; omega
    refine .inr ⟨[], [0, 1, 5], fun k vals M => ∃ j : Nat, j ≤ L.length ∧ k = L.length - j ∧ L.take j = K.take j ∧ vals = [.sl 0 1 0 L.length, .sl 1 1 0 K.length, .int .i64 (j : Int)] ∧ M = [.ro 1 L.length (gOf eB L), .ro 1 K.length (gOf eB K)], ?_⟩
    conv => whnf
    refine And.intro ⟨L.length, [.ro 1 L.length (gOf eB L), .ro 1 K.length (gOf eB K)], mle_cons ble_refl (mle_cons ble_refl mle_nil), rfl, rfl, 0, by omega, by omega, by simp, rfl, rfl⟩ ?_
    rintro k vals M1 ⟨j, hj, rfl, he, rfl, rfl⟩
    have hz : 0 + ((j : Int)).toNat = j := by omega
    (conv => whnf)
    (repeat' (first | (refine And.intro (fun hb => ?_) (fun hb => ?_) <;> (first | contradiction | (conv => whnf))) | (refine And.intro ?_ ?_; rotate_left 1; (conv => whnf))))
    all_goals try (simp only [hz] at *)
    all_goals try (first | rfl | exact decide_eq_true rfl | (refine decide_eq_true ?_; omega) | (simp only [decide_eq_true_eq]; omega))
    all_goals try (have hlt : j < L.length := by simp only [decide_eq_true_eq] at *; omega)
    all_goals try (first | exact decide_eq_true hlt | exact decide_eq_true (by omega) | (rw [Bool.and_eq_true]; exact ⟨decide_eq_true (by omega), decide_eq_true (by omega)⟩))
    · rw [beq_eq_false_iff_ne]
      rintro rfl
      simp at hb
    · have hb' : L.getD j eB.dft = K.getD j eB.dft := by simpa using hb
      refine ⟨L.length - (j + 1), [.ro 1 L.length (gOf eB L), .ro 1 K.length (gOf eB K)], [0, 1], by omega, rfl, mle_cons ble_refl (mle_cons ble_refl mle_nil), rfl, rfl, j + 1, by omega, rfl, ?_, ?_, rfl⟩
      · rw [List.take_succ_eq_append_getElem hlt, List.take_succ_eq_append_getElem (by omega : j < K.length), he]
        simp only [List.getD_eq_getElem?_getD, List.getElem?_eq_getElem hlt, List.getElem?_eq_getElem (by omega : j < K.length), Option.getD_some] at hb'
        rw [hb']
      · show [SV.sl 0 1 0 L.length, .sl 1 1 0 K.length, .int .i64 (IntKind.i64.wrap ((j : Int) + 1))] = _
        rw [i64_of (n := (j : Int) + 1) (by omega) (by omega)]; rfl
    · have : j = L.length := by simp only [decide_eq_false_iff_not] at hb; omega
      subst this
      rw [List.take_length, hlen, List.take_length] at he
      rw [he]; simp
theorem k_smk_ok : CtrOk Try.prog Gw 82 k_smk := by
  refine ⟨fun _ _ => by kernel_rfl, fun args M => ?_⟩
  unfold k_smk
  split
  · rename_i b x y hv
    split
    · rename_i c L d K h1 h2
      intro hb hcd hl
      simp only [Bool.and_eq_true, decide_eq_true_eq] at hcd hl
      exact ctr_top (Γ := ⟨[], eqs, [], [], [], mixs, meqs, []⟩) st_Gw ⟨okNil, eqs_ok, okNilB, okNilI, okNilP, mixs_ok, meqs_ok, okNilY⟩ Try.func82 rfl mixed [(6, 8, [0, 0, 3, 7, 0, 0, 48, 112, 255])] (by kernel_rfl) 10000 _ hv hb (avcons (bytesA_eq h1 hcd.1) (avcons (bytesA_eq h2 hcd.2) (AVEqL.refl []))) rfl (smk_run L K hl)
    · trivial
  · trivial
end Go.Proofs.Ytnbcemeofhaogaa
namespace Go.Proofs.Ytnbcemeofhaogaa
open Go.RowKit Go.Sx
set_option linter.unusedSimpArgs false
set_option linter.unusedVariables false
set_option linter.unnecessarySimpa false
set_option maxRecDepth 100000
set_option maxHeartbeats 4000000
theorem sarg_run (k k' : Int) (lo lo' hi hi' : Int) (L L' : List Int) (hL : L.length ≤ 1099511627776) : run Try.prog ⟨[(82, k_smk)], eqs, [], [], [], mixs, meqs, []⟩ 10000 [] 0 (bodyOf Try.f59) (initF Try.f59 [.agg [.int .u8 k, .int .i64 lo, .int .i64 hi, .sl 0 1 0 L.length], .agg [.int .u8 k', .int .i64 lo', .int .i64 hi', .sl 1 1 0 L'.length]]) [.ro 1 L.length (gOf eB L), .ro 1 L'.length (gOf eB L')] (retK Try.prog Try.f59 fun x _ => eqv x (.bool (k == k' && (lo == lo' && (hi == hi' && L == L'))))) := by
  (conv => whnf)
  (repeat' (first | (refine step_t (by first | rfl | assumption) ?_; (conv => whnf)) | (refine step_f (by first | rfl | assumption) ?_; (conv => whnf)) | (refine step_nt (by assumption) ?_; (conv => whnf)) | (refine step_nf (by assumption) ?_; (conv => whnf)) | (refine step_n (fun hb => ?_) (fun hb => ?_) <;> (first | contradiction | (conv => whnf))) | (refine And.intro (fun hb => ?_) (fun hb => ?_) <;> (first | contradiction | (conv => whnf))) | (refine And.intro ?_ ?_; rotate_left 1; (conv => whnf))))
  all_goals have hz : ∀ g : Nat → List FV, shiftG 0 g = g := fun _ => rfl
  all_goals try simp only [hz, elts_all, allIs_gOf]
  all_goals try (first | (simp [*]; done) | exact decide_eq_true hL)

def k_sarg : List SV → List Blk → Res := fun args M => match topA eltB M args with
  | some (b, [.agg [.int .u8 k, .int .i64 lo, .int .i64 hi, x], .agg [.int .u8 k', .int .i64 lo', .int .i64 hi', y]]) => match rowA eB 1 x, rowA eB 1 y with
    | some (c, L), some (d, L') => .test b (.test (c && d) (.test (decide (L.length ≤ 1099511627776)) (.ok (.bool (k == k' && (lo == lo' && (hi == hi' && L == L')))) [])))
    | _, _ => .fail
  | _ => .fail
theorem k_sarg_ok : CtrOk Try.prog Gw 59 k_sarg := by
  refine ⟨fun _ _ => by kernel_rfl, fun args M => ?_⟩
  unfold k_sarg
  split
  · rename_i b k lo hi x k' lo' hi' y hv
    split
    · rename_i c L d L' h1 h2
      intro hb hcd hl
      simp only [Bool.and_eq_true, decide_eq_true_eq] at hcd hl
      have e1 := fvl_cons (FVEq.refl (.int .u8 k)) (fvl_cons (FVEq.refl (.int .i64 lo)) (fvl_cons (FVEq.refl (.int .i64 hi)) (fvl_cons (rowA_eq h1 hcd.1) (FVEqL.refl []))))
      have e2 := fvl_cons (FVEq.refl (.int .u8 k')) (fvl_cons (FVEq.refl (.int .i64 lo')) (fvl_cons (FVEq.refl (.int .i64 hi')) (fvl_cons (rowA_eq h2 hcd.2) (FVEqL.refl []))))
      exact ctr_top (Γ := ⟨[(82, k_smk)], eqs, [], [], [], mixs, meqs, []⟩) st_Gw ⟨(okCons k_smk_ok okNil), eqs_ok, okNilB, okNilI, okNilP, mixs_ok, meqs_ok, okNilY⟩ Try.func59 rfl mixed [] (by kernel_rfl) 10000 [.agg [.int .u8 k, .int .i64 lo, .int .i64 hi, .row 1 L.length (gOf eB L)], .agg [.int .u8 k', .int .i64 lo', .int .i64 hi', .row 1 L'.length (gOf eB L')]] hv hb ⟨e1, e2, trivial⟩ rfl (sarg_run k k' lo lo' hi hi' L L' hl)
    · trivial
  · trivial
end Go.Proofs.Ytnbcemeofhaogaa
namespace Go.Proofs.Ytnbcemeofhaogaa
open Go.RowKit Go.Sx
set_option linter.unusedSimpArgs false
set_option linter.unusedVariables false
set_option linter.unnecessarySimpa false
set_option maxRecDepth 100000
set_option maxHeartbeats 4000000
/-- An argument; a helper. -/
structure Ag where
  k : Int
  lo : Int
  hi : Int
  maps : List Int
structure Hp where
  id : Int
  mj : Int
  mn : Int
  core : Int
  args : List Ag
  rk : Int
  rlo : Int
  rhi : Int
  rsz : Int
def Ag.no : Ag := ⟨0, 0, 0, []⟩
def Hp.no : Hp := ⟨0, 0, 0, 0, [], 0, 0, 0, 0⟩
@[reducible] def celA (a : Ag) : List FV := [.int .u8 a.k, .int .i64 a.lo, .int .i64 a.hi, .row 1 a.maps.length (gOf eB a.maps)]
theorem inv_cons2 {x y : FV} {l m : List FV} (h : FVEqL (x :: l) (y :: m)) : FVEq x y ∧ FVEqL l m := by
  obtain ⟨x', l', e, h1, h2⟩ := h.inv_cons
  injection e with e1 e2
  subst e1 e2
  exact ⟨h1, h2⟩
theorem int_eq {x : FV} {k : IntKind} {a b : Int} (h1 : FVEq x (.int k a)) (h2 : FVEq x (.int k b)) : a = b := by
  have := h1.inv_int.symm.trans h2.inv_int
  injection this
theorem celA_uniq {l : List FV} {a b : Ag} (h1 : FVEqL l (celA a)) (h2 : FVEqL l (celA b)) : a = b := by
  obtain ⟨x0, l0, rfl, p0, h1⟩ := h1.inv_cons
  obtain ⟨x1, l1, rfl, p1, h1⟩ := h1.inv_cons
  obtain ⟨x2, l2, rfl, p2, h1⟩ := h1.inv_cons
  obtain ⟨x3, l3, rfl, p3, h1⟩ := h1.inv_cons
  obtain ⟨q0, h2⟩ := inv_cons2 h2
  obtain ⟨q1, h2⟩ := inv_cons2 h2
  obtain ⟨q2, h2⟩ := inv_cons2 h2
  obtain ⟨q3, h2⟩ := inv_cons2 h2
  have e0 := int_eq p0 q0
  have e1 := int_eq p1 q1
  have e2 := int_eq p2 q2
  have e3 := bytes_uniq p3 q3
  cases a; cases b
  simp only at e0 e1 e2 e3
  subst e0 e1 e2 e3; rfl
def cA : Cel Ag := ⟨celA, Ag.no, celA_uniq⟩
@[reducible] def celH (h : Hp) : List FV := [.int .i64 h.id, .int .i64 h.mj, .int .i64 h.mn, .int .u8 h.core, .row 4 h.args.length (cA.g h.args), .int .u8 h.rk, .int .i64 h.rlo, .int .i64 h.rhi, .int .i64 h.rsz]
theorem celH_uniq {l : List FV} {a b : Hp} (h1 : FVEqL l (celH a)) (h2 : FVEqL l (celH b)) : a = b := by
  obtain ⟨x0, l0, rfl, p0, h1⟩ := h1.inv_cons
  obtain ⟨x1, l1, rfl, p1, h1⟩ := h1.inv_cons
  obtain ⟨x2, l2, rfl, p2, h1⟩ := h1.inv_cons
  obtain ⟨x3, l3, rfl, p3, h1⟩ := h1.inv_cons
  obtain ⟨x4, l4, rfl, p4, h1⟩ := h1.inv_cons
  obtain ⟨x5, l5, rfl, p5, h1⟩ := h1.inv_cons
  obtain ⟨x6, l6, rfl, p6, h1⟩ := h1.inv_cons
  obtain ⟨x7, l7, rfl, p7, h1⟩ := h1.inv_cons
  obtain ⟨x8, l8, rfl, p8, h1⟩ := h1.inv_cons
  obtain ⟨q0, h2⟩ := inv_cons2 h2
  obtain ⟨q1, h2⟩ := inv_cons2 h2
  obtain ⟨q2, h2⟩ := inv_cons2 h2
  obtain ⟨q3, h2⟩ := inv_cons2 h2
  obtain ⟨q4, h2⟩ := inv_cons2 h2
  obtain ⟨q5, h2⟩ := inv_cons2 h2
  obtain ⟨q6, h2⟩ := inv_cons2 h2
  obtain ⟨q7, h2⟩ := inv_cons2 h2
  obtain ⟨q8, h2⟩ := inv_cons2 h2
  have e0 := int_eq p0 q0
  have e1 := int_eq p1 q1
  have e2 := int_eq p2 q2
  have e3 := int_eq p3 q3
  have e4 := Cel.rows_uniq p4 q4
  have e5 := int_eq p5 q5
  have e6 := int_eq p6 q6
  have e7 := int_eq p7 q7
  have e8 := int_eq p8 q8
  cases a; cases b
  simp only at e0 e1 e2 e3 e4 e5 e6 e7 e8
  subst e0 e1 e2 e3 e4 e5 e6 e7 e8; rfl
def cH : Cel Hp := ⟨celH, Hp.no, celH_uniq⟩
/-- Are two things one? -/
noncomputable def eqC {α : Type} (a b : α) : Bool := by
  classical
  exact decide (a = b)
theorem eqC_t {α : Type} {a b : α} (h : a = b) : eqC a b = true := by
  classical
  unfold eqC; exact decide_eq_true h
theorem eqC_f {α : Type} {a b : α} (h : a ≠ b) : eqC a b = false := by
  classical
  unfold eqC; exact decide_eq_false h
theorem eqC_iff {α : Type} {a b : α} : eqC a b = true ↔ a = b := by
  classical
  unfold eqC; exact decide_eq_true_iff
theorem eqC_nf {α : Type} {a b : α} : eqC a b = false ↔ a ≠ b := by
  classical
  unfold eqC; exact decide_eq_false_iff_not
/-- No row of it is longer than so. -/
def Ag.atMost (n : Nat) (a : Ag) : Bool := decide (a.maps.length ≤ n)
def Hp.atMost (n : Nat) (h : Hp) : Bool := decide (h.args.length ≤ n) && h.args.all (Ag.atMost n)
def atMostL (n : Nat) (L : List Hp) : Bool := decide (L.length ≤ n) && L.all (Hp.atMost n)
theorem all_getD {α : Type} {p : α → Bool} {L : List α} (h : L.all p = true) {i : Nat} (hi : i < L.length) (d : α) : p (L.getD i d) = true := by
  have := List.all_eq_true.1 h (L[i]) (List.getElem_mem hi)
  simpa [List.getD_eq_getElem?_getD, hi] using this
theorem Ag.atMost_len {n : Nat} {a : Ag} (h : a.atMost n = true) : a.maps.length ≤ n := by simpa [Ag.atMost] using h
theorem Hp.atMost_len {n : Nat} {h : Hp} (hw : h.atMost n = true) : h.args.length ≤ n := by
  simp only [Hp.atMost, Bool.and_eq_true, decide_eq_true_eq] at hw
  exact hw.1
theorem Hp.atMost_all {n : Nat} {h : Hp} (hw : h.atMost n = true) : h.args.all (Ag.atMost n) = true := by
  simp only [Hp.atMost, Bool.and_eq_true, decide_eq_true_eq] at hw
  exact hw.2
theorem Ag.atMost_mono {n m : Nat} (hnm : n ≤ m) {a : Ag} (h : a.atMost n = true) : a.atMost m = true := by simp only [Ag.atMost, decide_eq_true_eq] at h ⊢; omega
theorem Hp.atMost_mono {n m : Nat} (hnm : n ≤ m) {h : Hp} (hw : h.atMost n = true) : h.atMost m = true := by
  simp only [Hp.atMost, Bool.and_eq_true, decide_eq_true_eq, List.all_eq_true] at hw ⊢
  exact ⟨by omega, fun a ha => Ag.atMost_mono hnm (hw.2 a ha)⟩
theorem take_next {α : Type} {L K : List α} {j : Nat} (h1 : j < L.length) (h2 : j < K.length) (d : α) (he : L.take j = K.take j) (e : L.getD j d = K.getD j d) : L.take (j + 1) = K.take (j + 1) := by
  rw [List.take_succ_eq_append_getElem h1, List.take_succ_eq_append_getElem h2, he]
  simp only [List.getD_eq_getElem?_getD, List.getElem?_eq_getElem h1, List.getElem?_eq_getElem h2, Option.getD_some] at e
  rw [e]
theorem sarg_eq (a b : Ag) : (a.k == b.k && (a.lo == b.lo && (a.hi == b.hi && a.maps == b.maps))) = eqC a b := by
  by_cases h : a = b
  · subst h; rw [eqC_t rfl]; simp
  · rw [eqC_f h]
    cases a; cases b
    simp only [Ag.mk.injEq] at h
    simp only [Bool.and_eq_false_iff, beq_eq_false_iff_ne, ne_eq]
    grind
theorem sh0 (g : Nat → List FV) : shiftG 0 g = g := rfl
theorem ret_eq {a b : Hp} (h1 : (a.id == b.id) = true) (h2 : (a.mj == b.mj) = true) (h3 : (a.mn == b.mn) = true) (h4 : (a.core == b.core) = true) (h5 : a.args = b.args) : (a.rk == b.rk && (a.rlo == b.rlo && (a.rhi == b.rhi && (a.rsz == b.rsz && true)))) = eqC a b := by
  by_cases h : a = b
  · subst h; rw [eqC_t rfl]; simp
  · rw [eqC_f h]
    cases a; cases b
    simp only [Hp.mk.injEq] at h
    simp only [beq_iff_eq] at h1 h2 h3 h4
    simp only [Bool.and_eq_false_iff, beq_eq_false_iff_ne, ne_eq]
    grind
theorem isB_row (L : List Int) : cB.isR 1 (.row 1 L.length (gOf eB L)) = true := Cel.isR_of (Cel.row_refl (c := cB) 1 L)
theorem decB_row (L : List Int) : cB.decR 1 (.row 1 L.length (gOf eB L)) = L := Cel.decR_of (Cel.row_refl (c := cB) 1 L)
theorem gset_args (L : List Ag) (j i : Nat) : cA.g L i = gSet (cA.g L) j 3 [.row 1 (L.getD j cA.dft).maps.length fun i => cB.g (L.getD j cA.dft).maps (0 + i)] i := by
  unfold gSet
  by_cases h : i = j
  · subst h
    simp only [decide_true, Nat.zero_add]
    rfl
  · simp only [decide_eq_false h]
theorem no_cel : FVEqL [.int .i64 0, .int .i64 0, .int .i64 0, .int .u8 0, .val (.slice none 0 0), .int .u8 0, .int .i64 0, .int .i64 0, .int .i64 0] (celH Hp.no) := by
  refine fvl_cons (FVEq.refl _) (fvl_cons (FVEq.refl _) (fvl_cons (FVEq.refl _) (fvl_cons (FVEq.refl _) (fvl_cons ?_ (FVEqL.refl _)))))
  exact FVEq.nil
theorem isH_no : cH.is [.int .i64 0, .int .i64 0, .int .i64 0, .int .u8 0, .val (.slice none 0 0), .int .u8 0, .int .i64 0, .int .i64 0, .int .i64 0] = true := Cel.is_of no_cel
theorem decH_no : cH.dec [.int .i64 0, .int .i64 0, .int .i64 0, .int .u8 0, .val (.slice none 0 0), .int .u8 0, .int .i64 0, .int .i64 0, .int .i64 0] = Hp.no := Cel.dec_of no_cel
theorem isH_sh (L : List Hp) : cH.isR 9 (.row 9 L.length (shiftG 0 (cH.g L))) = true := Cel.isR_of (Cel.row_refl 9 L)
theorem decH_sh (L : List Hp) : cH.decR 9 (.row 9 L.length (shiftG 0 (cH.g L))) = L := Cel.decR_of (Cel.row_refl 9 L)
theorem all_mono {n m : Nat} (hnm : n ≤ m) {L : List Hp} (h : L.all (Hp.atMost n) = true) : L.all (Hp.atMost m) = true := by
  rw [List.all_eq_true] at h ⊢
  exact fun x hx => Hp.atMost_mono hnm (h x hx)
theorem isA_row (L : List Ag) : cA.isR 4 (.row 4 L.length (cA.g L)) = true := Cel.isR_of (Cel.row_refl 4 L)
theorem decA_row (L : List Ag) : cA.decR 4 (.row 4 L.length (cA.g L)) = L := Cel.decR_of (Cel.row_refl 4 L)
theorem isH_row (L : List Hp) : cH.isR 9 (.row 9 L.length (cH.g L)) = true := Cel.isR_of (Cel.row_refl 9 L)
theorem decH_row (L : List Hp) : cH.decR 9 (.row 9 L.length (cH.g L)) = L := Cel.decR_of (Cel.row_refl 9 L)
theorem isH_cel (h : Hp) : cH.is [.int .i64 h.id, .int .i64 h.mj, .int .i64 h.mn, .int .u8 h.core, .row 4 h.args.length (cA.g h.args), .int .u8 h.rk, .int .i64 h.rlo, .int .i64 h.rhi, .int .i64 h.rsz] = true := Cel.is_of (a := h) (FVEqL.refl _)
theorem decH_cel (h : Hp) : cH.dec [.int .i64 h.id, .int .i64 h.mj, .int .i64 h.mn, .int .u8 h.core, .row 4 h.args.length (cA.g h.args), .int .u8 h.rk, .int .i64 h.rlo, .int .i64 h.rhi, .int .i64 h.rsz] = h := Cel.dec_of (c := cH) (a := h) (FVEqL.refl _)
end Go.Proofs.Ytnbcemeofhaogaa
