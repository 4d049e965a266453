import Derived.Test.YtgfemfgimefmeaaGreatXV
namespace Go.Proofs.YtgfemfgimefmeaaGreat
open Go.RowKit Go.Sx
set_option linter.unusedSimpArgs false
set_option linter.unusedVariables false
set_option linter.unnecessarySimpa false
set_option maxRecDepth 100000
set_option maxHeartbeats 4000000
/-- A slot of the stack, as it is told. -/
structure Sl where
  w : Bool
  st : Int
  a : Ab
/-- A frame, as it is told. -/
structure Fr where
  R : List Ab
  S : List Sl
  ids : Int
@[reducible] def abL (a : Ab) : List FV := [.int .u8 a.k, .u64 a.n.t.v, .u64 a.n.t.m, .u64 a.n.s.lo, .u64 a.n.s.hi, .int .i64 a.n.s.sl, .int .i64 a.n.s.sh, .int .i64 a.of, .int .i64 a.mp, .int .i64 a.id, .int .i64 a.rm, .bool a.nu]
@[reducible] def slL (s : Sl) : List FV := [.bool s.w, .int .u8 s.st, .int .u8 s.a.k, .u64 s.a.n.t.v, .u64 s.a.n.t.m, .u64 s.a.n.s.lo, .u64 s.a.n.s.hi, .int .i64 s.a.n.s.sl, .int .i64 s.a.n.s.sh, .int .i64 s.a.of, .int .i64 s.a.mp, .int .i64 s.a.id, .int .i64 s.a.rm, .bool s.a.nu]
def eA : Enc Ab := ⟨abL, fun l => match l with | [.int .u8 k, .u64 v, .u64 m, .u64 lo, .u64 hi, .int .i64 sl, .int .i64 sh, .int .i64 of, .int .i64 mp, .int .i64 id, .int .i64 rm, .bool nu] => ⟨k, ⟨⟨v, m⟩, ⟨lo, hi, sl, sh⟩⟩, of, mp, id, rm, nu⟩ | _ => V.zero,
  fun l => match l with | [.int .u8 _, .u64 _, .u64 _, .u64 _, .u64 _, .int .i64 _, .int .i64 _, .int .i64 _, .int .i64 _, .int .i64 _, .int .i64 _, .bool _] => true | _ => false, V.zero,
  fun l h => by revert h; split <;> simp_all, fun _ => rfl, fun _ => rfl⟩
def noSl : Sl := ⟨false, 0, V.zero⟩
def eS : Enc Sl := ⟨slL, fun l => match l with | [.bool w, .int .u8 st, .int .u8 k, .u64 v, .u64 m, .u64 lo, .u64 hi, .int .i64 sl, .int .i64 sh, .int .i64 of, .int .i64 mp, .int .i64 id, .int .i64 rm, .bool nu] => ⟨w, st, ⟨k, ⟨⟨v, m⟩, ⟨lo, hi, sl, sh⟩⟩, of, mp, id, rm, nu⟩⟩ | _ => noSl,
  fun l => match l with | [.bool _, .int .u8 _, .int .u8 _, .u64 _, .u64 _, .u64 _, .u64 _, .int .i64 _, .int .i64 _, .int .i64 _, .int .i64 _, .int .i64 _, .int .i64 _, .bool _] => true | _ => false, noSl,
  fun l h => by revert h; split <;> simp_all, fun _ => rfl, fun _ => rfl⟩
@[reducible] def frv (f : Fr) : SV := .mix [.arr 11 12 (gOf eA f.R), .arr 64 14 (gOf eS f.S), .int .i64 f.ids]
def inA (a : Ab) : Bool := R.inS a.n.s
/-- Are these cells a frame's? -/
def frB (g h : Nat → List FV) : Bool := (allIs eA 0 11 g && allIs eS 0 64 h) && ((elts eA 0 11 g).all inA && (elts eS 0 64 h).all fun s => inA s.a)
def frD (g h : Nat → List FV) (ids : Int) : Fr := ⟨elts eA 0 11 g, elts eS 0 64 h, ids⟩
/-- Has it so many registers and slots, of numbers that are such? -/
structure Fr.wf (f : Fr) : Prop where
  r : f.R.length = 11
  s : f.S.length = 64
  ri : f.R.all inA = true
  si : (f.S.all fun s => inA s.a) = true
theorem elts_n {α : Type} (e : Enc α) {L : List α} {n : Nat} (h : L.length = n) : elts e 0 n (gOf e L) = L := by subst h; exact elts_all e L
theorem frD_of {f : Fr} (h : f.wf) : frD (gOf eA f.R) (gOf eS f.S) f.ids = f := by
  unfold frD
  rw [elts_n eA h.r, elts_n eS h.s]
theorem frB_of {f : Fr} (h : f.wf) : frB (gOf eA f.R) (gOf eS f.S) = true := by
  unfold frB
  rw [elts_n eA h.r, elts_n eS h.s, allIs_gOf, allIs_gOf, h.ri, h.si]; rfl
theorem frD_wf {g h : Nat → List FV} {ids : Int} (hb : frB g h = true) : (frD g h ids).wf := by
  unfold frB at hb
  simp only [Bool.and_eq_true] at hb
  exact ⟨elts_length .., elts_length .., hb.2.1, hb.2.2⟩
theorem frv_den {g h : Nat → List FV} {ids : Int} (hb : frB g h = true) (ρ : Val) : (SV.mix [.arr 11 12 g, .arr 64 14 h, .int .i64 ids]).den ρ = (frv (frD g h ids)).den ρ := by
  unfold frB at hb
  simp only [Bool.and_eq_true] at hb
  have h1 : arrL 11 12 g = arrL 11 12 (gOf eA (elts eA 0 11 g)) := arrL_congr fun i hi => by rw [gOf_elts eA hb.1.1 i hi, Nat.zero_add]
  have h2 : arrL 64 14 h = arrL 64 14 (gOf eS (elts eS 0 64 h)) := arrL_congr fun i hi => by rw [gOf_elts eS hb.1.2 i hi, Nat.zero_add]
  simp only [SV.den, frD, mixL, denL, itemL, h1, h2]
/-- A function of a frame, and of numbers. -/
theorem ctr_fr {P : Program} {G : World → Prop} (hG : Stable G) {Γ : Env} (hΓ : EnvOk P G Γ) {f : FuncId} {fn : Func} (hf : P.funcs[f]? = some fn) (hb : fn.body.isSome = true) (hm : P.follows .mixedOrders = true) (T : Tbl) (hT : codeOk T (bodyOf fn) = true) (n : Nat)
    {M : List Blk} {g h : Nat → List FV} {ids : Int} {rest : List SV} {sv : SV} (hfr : frB g h = true) (hsc : scL (fun _ => false) rest = true)
    (hr : run P Γ n T 0 (bodyOf fn) (initF fn (frv (frD g h ids) :: rest)) [] (retK P fn fun x _ => eqv x sv)) :
    ∀ (B : Bd) (ρ : Val) (w : World), G w → MRel B ρ M w → Calls P f (denL ρ (.mix [.arr 11 12 g, .arr 64 14 h, .int .i64 ids] :: rest)).toArray w fun e w' =>
      ∃ (ρ' : Val) (v : Value), e = .returned v ∧ (sv ≠ .junk → v = sv.den ρ') ∧ Val.Ext w.heap.size (fun n => ¬ (M.length ≤ n ∧ n < M.length + ([] : List Blk).length)) ρ ρ' ∧ Below w.heap.size w w' ∧ New B w.heap.size ρ' M.length [] w' := by
  intro B ρ w hGw hM
  have := ctr_flat hG hΓ hf hb hm T hT n (args := frv (frD g h ids) :: rest) (M := M) (by simpa [scL, SV.sc] using hsc) hr B ρ w hGw hM
  have e : denL ρ (.mix [.arr 11 12 g, .arr 64 14 h, .int .i64 ids] :: rest) = denL ρ (frv (frD g h ids) :: rest) := by
    show _ :: _ = _ :: _
    rw [frv_den hfr ρ]
  rw [e]; exact this
namespace F
def okS (s : Sl) : Bool := !((s.w == (s.a.k == 0)) || (s.w && s.st != 0))
def okA (ids : Int) (a : Ab) : Bool := V.right a && decide (a.id ≤ ids)
/-- Is a frame right? -/
def right (f : Fr) : Bool := f.S.all okS && (f.R.all (okA f.ids) && ((f.S.all fun s => okA f.ids s.a) && decide (0 ≤ f.ids)))
/-- The set bytes of a slot. -/
def set (s : Sl) : Int := if s.w then (if s.a.k == 1 then 255 else 0) else s.st
end F
theorem all_take {α : Type} {p : α → Bool} {l : List α} {j : Nat} (h : j < l.length) : (l.take (j + 1)).all p = ((l.take j).all p && p l[j]) := by
  rw [List.take_succ_eq_append_getElem h, List.all_append]; simp
theorem all_not {α : Type} {p : α → Bool} {l : List α} {j : Nat} (h : j < l.length) (hp : p l[j] = false) : l.all p = false := by
  rw [List.all_eq_false]
  exact ⟨l[j], List.getElem_mem h, by rw [hp]; simp⟩
theorem getD_at {α : Type} {l : List α} {j : Nat} (d : α) (h : j < l.length) : l.getD j d = l[j] := by simp [List.getD_eq_getElem?_getD, h]
theorem all_take' {α : Type} {p : α → Bool} {l : List α} {j : Nat} (d : α) (h : j < l.length) : (l.take (j + 1)).all p = ((l.take j).all p && p (l.getD j d)) := by rw [all_take h, getD_at d h]
theorem all_not' {α : Type} {p : α → Bool} {l : List α} {j : Nat} (d : α) (h : j < l.length) (hp : p (l.getD j d) = false) : l.all p = false := all_not h (by rw [← getD_at d h]; exact hp)
namespace F
theorem okS_1 {s : Sl} (h : (s.w == (s.a.k == 0)) = true) : okS s = false := by unfold okS; rw [h]; rfl
theorem okS_2 {s : Sl} (h : s.w = true) (k : (s.st != 0) = true) : okS s = false := by unfold okS; rw [h, k]; cases (true == (s.a.k == 0)) <;> rfl
theorem okS_3 {s : Sl} (h : (s.w == (s.a.k == 0)) = false) (k : s.w = false) : okS s = true := by unfold okS; rw [h, k]; rfl
theorem okS_4 {s : Sl} (h : (s.w == (s.a.k == 0)) = false) (k : (s.st != 0) = false) : okS s = true := by unfold okS; rw [h, k, Bool.and_false]; rfl
theorem okS_5 {s : Sl} (h : s.w = true) (k : (s.st == 0) = false) : okS s = false := okS_2 h (by rw [bne, k]; rfl)
theorem okS_6 {s : Sl} (h : (s.w == (s.a.k == 0)) = false) (k : (s.st == 0) = true) : okS s = true := okS_4 h (by rw [bne, k]; rfl)
theorem right_1 {f : Fr} {j : Nat} (h : j < f.S.length) (k : okS (f.S.getD j eS.dft) = false) : right f = false := by unfold right; rw [all_not' eS.dft h k]; rfl
theorem okA_1 {ids : Int} {a : Ab} (h : V.right a = false) : okA ids a = false := by unfold okA; rw [h]; rfl
theorem okA_2 {ids : Int} {a : Ab} (h : decide (ids < a.id) = true) : okA ids a = false := by
  unfold okA
  rw [decide_eq_false (by have := of_decide_eq_true h; omega), Bool.and_false]
theorem okA_3 {ids : Int} {a : Ab} (h : V.right a = true) (k : decide (ids < a.id) = false) : okA ids a = true := by
  unfold okA
  rw [h, decide_eq_true (by have := of_decide_eq_false k; omega)]; rfl
theorem right_2 {f : Fr} {j : Nat} (h : j < f.R.length) (k : okA f.ids (f.R.getD j eA.dft) = false) : right f = false := by unfold right; rw [all_not' eA.dft h k, Bool.false_and, Bool.and_false]
theorem right_3 {f : Fr} {j : Nat} (h : j < f.S.length) (k : okA f.ids (f.S.getD j eS.dft).a = false) : right f = false := by
  unfold right
  rw [all_not' (p := fun s : Sl => okA f.ids s.a) eS.dft h k, Bool.false_and, Bool.and_false, Bool.and_false]
theorem right_4 {f : Fr} (h : f.S.all okS = true) (k : f.R.all (okA f.ids) = true) (l : (f.S.all fun s => okA f.ids s.a) = true) : right f = decide (0 ≤ f.ids) := by unfold right; rw [h, k, l]; rfl
end F
end Go.Proofs.YtgfemfgimefmeaaGreat
namespace Go.Proofs.YtgfemfgimefmeaaGreat
open Go.RowKit Go.Sx
set_option linter.unusedSimpArgs false
set_option linter.unusedVariables false
set_option linter.unnecessarySimpa false
set_option maxRecDepth 100000
set_option maxHeartbeats 4000000
def rfOf : Code → Option (Array Nat × Code × Code)
  | .rangeFunc _ ps a b => some (ps, a, b)
  | .seq a b => match rfOf a with
    | some r => some r
    | none => rfOf b
  | .cond _ a b => match rfOf a with
    | some r => some r
    | none => rfOf b
  | .block _ c => rfOf c
  | .loop c => rfOf c
  | _ => none
/-- The block of a range over a function, while it is gone through. -/
def lpOf (T : Tbl) (c : Code) (fr : List SV) : Blk := match rfOf c with
  | some (ps, a, b) => .lp T fr ps a b .ready
  | none => .dead
attribute [local irreducible] V.right
theorem i64_of {n : Int} (h0 : 0 ≤ n) (h1 : n < 9223372036854775808) : IntKind.i64.wrap n = n := IntWalk.i64_in _ (by omega)
theorem inA_at {l : List Ab} (h : l.all inA = true) {i : Nat} (hi : i < l.length) : R.inS (l.getD i eA.dft).n.s = true := by
  rw [getD_at _ hi]; exact List.all_eq_true.1 h _ (List.getElem_mem hi)
theorem inS_at {l : List Sl} (h : (l.all fun s => inA s.a) = true) {i : Nat} (hi : i < l.length) : R.inS (l.getD i eS.dft).a.n.s = true := by
  rw [getD_at _ hi]; exact List.all_eq_true.1 h _ (List.getElem_mem hi)
theorem right_run (f : Fr) (hf : f.wf) : run Tryz.prog ⟨[(35, k_vRight)], eqs, [], [(40, Tryz.f40, []), (91, Tryz.f91, [])], [], mixs, meqs⟩ 10000 [] 0 (bodyOf Tryz.f12) (initF Tryz.f12 [frv f]) [] (retK Tryz.prog Tryz.f12 fun x _ => eqv x (.bool (F.right f))) := by
  have hR := hf.r
  have hS := hf.s
  (conv => whnf)
  (repeat' (first | (refine step_t (by first | rfl | assumption) ?_; (conv => whnf)) | (refine step_f (by first | rfl | assumption) ?_; (conv => whnf)) | (refine step_nt (by assumption) ?_; (conv => whnf)) | (refine step_nf (by assumption) ?_; (conv => whnf)) | (refine step_n (fun hb => ?_) (fun hb => ?_) <;> (first | contradiction | (conv => whnf))) | (refine And.intro (fun hb => ?_) (fun hb => ?_) <;> (first | contradiction | (conv => whnf))) | (refine And.intro ?_ ?_; rotate_left 1; (conv => whnf))))
  refine .inr ⟨[], [1, 2, 8, 9], fun k vals M => ∃ j : Nat, j ≤ 64 ∧ k = 64 - j ∧ (f.S.take j).all F.okS = true ∧ vals = [.ptr 0 0, .ptr 1 0, .arr 64 14 (gOf eS f.S), .int .i64 (j : Int)] ∧ M = [.mix 37 [.arr 11 12 (gOf eA f.R), .arr 64 14 (gOf eS f.S), .int .i64 f.ids], .cells 4 [.ff]], ?_⟩
  conv => whnf
  refine And.intro ⟨64, [.mix 37 [.arr 11 12 (gOf eA f.R), .arr 64 14 (gOf eS f.S), .int .i64 f.ids], .cells 4 [.ff]], mle_cons ble_refl (mle_cons ble_refl mle_nil), rfl, rfl, 0, by omega, by omega, rfl, rfl, rfl⟩ ?_
  rintro k vals M1 ⟨j, hj, rfl, hall, rfl, rfl⟩
  (conv => whnf)
  (repeat' (first | (refine step_t (by first | rfl | assumption) ?_; (conv => whnf)) | (refine step_f (by first | rfl | assumption) ?_; (conv => whnf)) | (refine step_nt (by assumption) ?_; (conv => whnf)) | (refine step_nf (by assumption) ?_; (conv => whnf)) | (refine step_n (fun hb => ?_) (fun hb => ?_) <;> (first | contradiction | (conv => whnf))) | (refine And.intro (fun hb => ?_) (fun hb => ?_) <;> (first | contradiction | (conv => whnf))) | (refine And.intro ?_ ?_; rotate_left 1; (conv => whnf))))
  all_goals try (simp only [Int.toNat_natCast] at *)
  all_goals try first
    | (refine decide_eq_true ?_; omega)
    | (have hlt : j < 64 := by
         have h9 : decide ((j : Int) < 64) = true := by assumption
         have := of_decide_eq_true h9
         omega
       have hlt' : j < f.S.length := by omega
       first
       | (rw [Bool.and_eq_true]; exact ⟨decide_eq_true (by omega), decide_eq_true (by omega)⟩)
       | exact F.right_1 hlt' (F.okS_1 (by assumption))
       | exact F.right_1 hlt' (F.okS_2 (by assumption) (by assumption))
       | exact F.right_1 hlt' (F.okS_5 (by assumption) (by assumption))
       | (refine ⟨64 - (j + 1), [.mix 37 [.arr 11 12 (gOf eA f.R), .arr 64 14 (gOf eS f.S), .int .i64 f.ids], .cells 4 [.ff]], [0, 1], by omega, rfl, mle_cons ble_refl (mle_cons ble_refl mle_nil), rfl, rfl, j + 1, by omega, rfl, ?_, ?_, rfl⟩
          · rw [all_take' eS.dft hlt', hall, Bool.true_and]
            first | exact F.okS_3 (by assumption) (by assumption) | exact F.okS_4 (by assumption) (by assumption) | exact F.okS_6 (by assumption) (by assumption)
          · show [SV.ptr 0 0, .ptr 1 0, .arr 64 14 (gOf eS f.S), .int .i64 (IntKind.i64.wrap ((j : Int) + 1))] = _
            rw [i64_of (n := (j : Int) + 1) (by omega) (by omega)]; rfl))
  have hj64 : j = 64 := by
    have h9 : decide ((j : Int) < 64) = false := by assumption
    have := of_decide_eq_false h9
    omega
  have hallS : f.S.all F.okS = true := by rw [hj64, ← hS, List.take_length] at hall; exact hall
  refine .inr ⟨[], [0, 1, 5], fun k vals M => ∃ i : Nat, i ≤ 11 ∧ k = 11 - i ∧ (f.R.take i).all (F.okA f.ids) = true ∧ vals = [.yld 3, .ptr 2 0, .int .i64 (i : Int)] ∧ M = [.mix 37 [.arr 11 12 (gOf eA f.R), .arr 64 14 (gOf eS f.S), .int .i64 f.ids], .cells 4 [.ff], .cells 99 [.ptr 0 0], lpOf [] (bodyOf Tryz.f12) (mkFrom [(1, .ptr 0 0), (2, .ptr 1 0), (8, .arr 64 14 (gOf eS f.S)), (9, .int .i64 (j : Int)), (10, .bool (decide ((j : Int) < 64))), (29, .fn (.func 91) [] [.ptr 2 0])] (fun _ => .junk) 49 0)], ?_⟩
  conv => whnf
  refine And.intro ⟨11, [.mix 37 [.arr 11 12 (gOf eA f.R), .arr 64 14 (gOf eS f.S), .int .i64 f.ids], .cells 4 [.ff], .cells 99 [.ptr 0 0], lpOf [] (bodyOf Tryz.f12) (mkFrom [(1, .ptr 0 0), (2, .ptr 1 0), (8, .arr 64 14 (gOf eS f.S)), (9, .int .i64 (j : Int)), (10, .bool (decide ((j : Int) < 64))), (29, .fn (.func 91) [] [.ptr 2 0])] (fun _ => .junk) 49 0)], mle_cons ble_refl (mle_cons ble_refl (mle_cons ble_refl (mle_cons ble_refl mle_nil))), rfl, rfl, 0, by omega, by omega, rfl, rfl, rfl⟩ ?_
  rintro k vals M1 ⟨i, hi, rfl, hallR, rfl, rfl⟩
  (conv => whnf)
  (repeat' (first | (refine step_t (by first | rfl | assumption) ?_; (conv => whnf)) | (refine step_f (by first | rfl | assumption) ?_; (conv => whnf)) | (refine step_nt (by assumption) ?_; (conv => whnf)) | (refine step_nf (by assumption) ?_; (conv => whnf)) | (refine step_n (fun hb => ?_) (fun hb => ?_) <;> (first | contradiction | (conv => whnf))) | (refine And.intro (fun hb => ?_) (fun hb => ?_) <;> (first | contradiction | (conv => whnf))) | (refine And.intro ?_ ?_; rotate_left 1; (conv => whnf))))
  all_goals try (simp only [Int.toNat_natCast] at *)
  all_goals try first
    | (refine decide_eq_true ?_; omega)
    | (have hlt : i < 11 := by
         have h9 : decide ((i : Int) < 11) = true := by assumption
         have := of_decide_eq_true h9
         omega
       have hlt' : i < f.R.length := by omega
       first
       | (refine decide_eq_true ?_; omega)
       | (rw [Bool.and_eq_true]; exact ⟨decide_eq_true (by omega), decide_eq_true (by omega)⟩)
       | exact F.right_2 hlt' (F.okA_1 (by assumption))
       | exact F.right_2 hlt' (F.okA_2 (by assumption))
       | exact inA_at hf.ri hlt'
       | (refine ⟨11 - (i + 1), [.mix 37 [.arr 11 12 (gOf eA f.R), .arr 64 14 (gOf eS f.S), .int .i64 f.ids], .cells 4 [.ff], .cells 99 [.ptr 0 0], lpOf [] (bodyOf Tryz.f12) (mkFrom [(1, .ptr 0 0), (2, .ptr 1 0), (8, .arr 64 14 (gOf eS f.S)), (9, .int .i64 (j : Int)), (10, .bool (decide ((j : Int) < 64))), (29, .fn (.func 91) [] [.ptr 2 0])] (fun _ => .junk) 49 0)], [0, 1, 2, 3], by omega, rfl, mle_cons ble_refl (mle_cons ble_refl (mle_cons ble_refl (mle_cons ble_refl mle_nil))), rfl, rfl, i + 1, by omega, rfl, ?_, ?_, rfl⟩
          · rw [all_take' eA.dft hlt', hallR, Bool.true_and]
            exact F.okA_3 (by assumption) (by assumption)
          · show [SV.yld 3, .ptr 2 0, .int .i64 (IntKind.i64.wrap ((i : Int) + 1))] = _
            rw [i64_of (n := (i : Int) + 1) (by omega) (by omega)]; rfl))
  have hi11 : i = 11 := by
    have h9 : decide ((i : Int) < 11) = false := by assumption
    have := of_decide_eq_false h9
    omega
  have hallA : f.R.all (F.okA f.ids) = true := by rw [hi11, ← hR, List.take_length] at hallR; exact hallR
  refine .inr ⟨[], [0, 1, 18], fun k vals M => ∃ i : Nat, i ≤ 64 ∧ k = 64 - i ∧ ((f.S.take i).all fun s => F.okA f.ids s.a) = true ∧ vals = [.yld 3, .ptr 2 0, .int .i64 (i : Int)] ∧ M = [.mix 37 [.arr 11 12 (gOf eA f.R), .arr 64 14 (gOf eS f.S), .int .i64 f.ids], .cells 4 [.ff], .cells 99 [.ptr 0 0], lpOf [] (bodyOf Tryz.f12) (mkFrom [(1, .ptr 0 0), (2, .ptr 1 0), (8, .arr 64 14 (gOf eS f.S)), (9, .int .i64 (j : Int)), (10, .bool (decide ((j : Int) < 64))), (29, .fn (.func 91) [] [.ptr 2 0])] (fun _ => .junk) 49 0)], ?_⟩
  conv => whnf
  refine And.intro ⟨64, [.mix 37 [.arr 11 12 (gOf eA f.R), .arr 64 14 (gOf eS f.S), .int .i64 f.ids], .cells 4 [.ff], .cells 99 [.ptr 0 0], lpOf [] (bodyOf Tryz.f12) (mkFrom [(1, .ptr 0 0), (2, .ptr 1 0), (8, .arr 64 14 (gOf eS f.S)), (9, .int .i64 (j : Int)), (10, .bool (decide ((j : Int) < 64))), (29, .fn (.func 91) [] [.ptr 2 0])] (fun _ => .junk) 49 0)], mle_cons ble_refl (mle_cons ble_refl (mle_cons ble_refl (mle_cons ble_refl mle_nil))), rfl, rfl, 0, by omega, by omega, rfl, rfl, rfl⟩ ?_
  clear hi hallR hi11
  rintro k vals M1 ⟨i, hi, rfl, hallR, rfl, rfl⟩
  (conv => whnf)
  (repeat' (first | (refine step_t (by first | rfl | assumption) ?_; (conv => whnf)) | (refine step_f (by first | rfl | assumption) ?_; (conv => whnf)) | (refine step_nt (by assumption) ?_; (conv => whnf)) | (refine step_nf (by assumption) ?_; (conv => whnf)) | (refine step_n (fun hb => ?_) (fun hb => ?_) <;> (first | contradiction | (conv => whnf))) | (refine And.intro (fun hb => ?_) (fun hb => ?_) <;> (first | contradiction | (conv => whnf))) | (refine And.intro ?_ ?_; rotate_left 1; (conv => whnf))))
  all_goals try (simp only [Int.toNat_natCast] at *)
  all_goals try first
    | (refine decide_eq_true ?_; omega)
    | (have hlt : i < 64 := by
         have h9 : decide ((i : Int) < 64) = true := by assumption
         have := of_decide_eq_true h9
         omega
       have hlt' : i < f.S.length := by omega
       first
       | (refine decide_eq_true ?_; omega)
       | (rw [Bool.and_eq_true]; exact ⟨decide_eq_true (by omega), decide_eq_true (by omega)⟩)
       | exact F.right_3 hlt' (F.okA_1 (by assumption))
       | exact F.right_3 hlt' (F.okA_2 (by assumption))
       | exact inS_at hf.si hlt'
       | (refine ⟨64 - (i + 1), [.mix 37 [.arr 11 12 (gOf eA f.R), .arr 64 14 (gOf eS f.S), .int .i64 f.ids], .cells 4 [.ff], .cells 99 [.ptr 0 0], lpOf [] (bodyOf Tryz.f12) (mkFrom [(1, .ptr 0 0), (2, .ptr 1 0), (8, .arr 64 14 (gOf eS f.S)), (9, .int .i64 (j : Int)), (10, .bool (decide ((j : Int) < 64))), (29, .fn (.func 91) [] [.ptr 2 0])] (fun _ => .junk) 49 0)], [0, 1, 2, 3], by omega, rfl, mle_cons ble_refl (mle_cons ble_refl (mle_cons ble_refl (mle_cons ble_refl mle_nil))), rfl, rfl, i + 1, by omega, rfl, ?_, ?_, rfl⟩
          · rw [all_take' (p := fun s : Sl => F.okA f.ids s.a) eS.dft hlt', hallR, Bool.true_and]
            exact F.okA_3 (by assumption) (by assumption)
          · show [SV.yld 3, .ptr 2 0, .int .i64 (IntKind.i64.wrap ((i : Int) + 1))] = _
            rw [i64_of (n := (i : Int) + 1) (by omega) (by omega)]; rfl))
  all_goals (
    have hi64 : i = 64 := by
      have h9 : decide ((i : Int) < 64) = false := by assumption
      have := of_decide_eq_false h9
      omega
    have hallSA : (f.S.all fun s => F.okA f.ids s.a) = true := by rw [hi64, ← hS, List.take_length] at hallR; exact hallR
    exact (F.right_4 hallS hallA hallSA).symm)
def k_fRight : List SV → List Blk → Res := fun args _ => match args with
  | [.mix [.arr 11 12 g, .arr 64 14 h, .int .i64 ids]] => .test (frB g h) (.ok (.bool (F.right (frD g h ids))) [])
  | _ => .fail
theorem k_fRight_ok : CtrOk Tryz.prog Gw 12 k_fRight := by
  refine ⟨fun _ _ => by kernel_rfl, fun args M => ?_⟩
  unfold k_fRight
  split
  · rename_i g h ids 
    intro ht
    have hfr : frB g h = true := ht
    exact ctr_fr (Γ := ⟨[(35, k_vRight)], eqs, [], [(40, Tryz.f40, []), (91, Tryz.f91, [])], [], mixs, meqs⟩) (sv := .bool (F.right (frD g h ids))) st_Gw ⟨(okCons k_vRight_ok okNil), eqs_ok, okNilB, (okConsI Tryz.func40 rfl (by kernel_rfl) (fun _ _ => by kernel_rfl) (okConsI Tryz.func91 rfl (by kernel_rfl) (fun _ _ => by kernel_rfl) okNilI)), okNilP, mixs_ok, meqs_ok⟩ Tryz.func12 rfl mixed [] (by kernel_rfl) 10000 (rest := []) hfr rfl (right_run _ (frD_wf hfr))
  · trivial
end Go.Proofs.YtgfemfgimefmeaaGreat
namespace Go.Proofs.YtgfemfgimefmeaaGreat
open Go.RowKit Go.Sx
set_option linter.unusedSimpArgs false
set_option linter.unusedVariables false
set_option linter.unnecessarySimpa false
set_option maxRecDepth 100000
set_option maxHeartbeats 4000000
/-! ### Bytes -/
/-- A byte's bits. -/
def b8 (x : Int) : BitVec 8 := BitVec.ofInt 8 x
def ub (v : BitVec 8) : Int := (v.toNat : Int)
theorem b8_ub (v : BitVec 8) : b8 (ub v) = v := by
  apply BitVec.eq_of_toNat_eq
  unfold b8 ub
  rw [BitVec.toNat_ofInt]
  have := v.isLt
  omega
theorem ub_b8 {x : Int} (h0 : 0 ≤ x) (h1 : x < 256) : ub (b8 x) = x := by
  unfold b8 ub
  rw [BitVec.toNat_ofInt]
  omega
theorem ub_lt (v : BitVec 8) : 0 ≤ ub v ∧ ub v < 256 := by have := v.isLt; unfold ub; omega
theorem wrap8 {x : Int} (h0 : 0 ≤ x) (h1 : x < 256) : IntKind.u8.wrap x = x := by
  have : IntKind.u8.wrap x = x % 256 := rfl
  omega
theorem or8 (x y : Int) : Go.bits .or .u8 x y = ub (b8 x ||| b8 y) := by
  show IntKind.u8.wrap _ = _
  exact wrap8 (ub_lt _).1 (ub_lt _).2
theorem andNot8 (x y : Int) : Go.bits .andNot .u8 x y = ub (b8 x &&& ~~~b8 y) := by
  show IntKind.u8.wrap _ = _
  exact wrap8 (ub_lt _).1 (ub_lt _).2
theorem and8 (x y : Int) : Go.bits .and .u8 x y = ub (b8 x &&& b8 y) := by
  show IntKind.u8.wrap _ = _
  exact wrap8 (ub_lt _).1 (ub_lt _).2
namespace F
/-- Bytes of a slot that are touched: the first so many asked. -/
def mk (p n : Int) (i : Nat) : Nat → Int
  | 0 => 0
  | k + 1 => if decide (p ≤ 8 * (i : Int) + k) && decide (8 * (i : Int) + k < p + n) then Go.bits .or .u8 (mk p n i k) (IntKind.u8.wrap (1 * 2 ^ min k 8)) else mk p n i k
theorem mk_1 {p n : Int} {i b : Nat} (h : decide (p ≤ 8 * (i : Int) + b) = false) : mk p n i (b + 1) = mk p n i b := by rw [mk, h]; rfl
theorem mk_2 {p n : Int} {i b : Nat} (h : decide (8 * (i : Int) + b < p + n) = false) : mk p n i (b + 1) = mk p n i b := by rw [mk, h, Bool.and_false]; rfl
theorem mk_3 {p n : Int} {i b : Nat} (h : decide (p ≤ 8 * (i : Int) + b) = true) (k : decide (8 * (i : Int) + b < p + n) = true) : mk p n i (b + 1) = Go.bits .or .u8 (mk p n i b) (IntKind.u8.wrap (1 * 2 ^ min b 8)) := by rw [mk, h, k]; rfl
/-- A slot of which bytes are touched. -/
def slot (s : Sl) (b : Int) : Sl := ⟨false, Go.bits .or .u8 (set s) b, V.zero⟩
/-- The slots, behind the first so many that are touched. -/
def tch (S : List Sl) (p n : Int) (a : Nat) : Nat → List Sl
  | 0 => S
  | j + 1 => (tch S p n a j).set (a + j) (slot ((tch S p n a j).getD (a + j) noSl) (mk p n (a + j) 8))
/-- How many slots have bytes that are touched. -/
def cnt (p n : Int) : Nat := ((p + n + 7).toNat / 8) - p.toNat / 8
def touch (f : Fr) (p n : Int) : Fr := ⟨f.R, tch f.S p n (p.toNat / 8) (cnt p n), f.ids⟩
/-- Are the bytes set ones, of the first so many slots? -/
def rdy (S : List Sl) (p n : Int) (a : Nat) : Nat → Bool
  | 0 => true
  | j + 1 => rdy S p n a j && (Go.bits .andNot .u8 (mk p n (a + j) 8) (set (S.getD (a + j) noSl)) == 0)
def ready (f : Fr) (p n : Int) : Bool := rdy f.S p n (p.toNat / 8) (cnt p n)
theorem rdy_le {S : List Sl} {p n : Int} {a j : Nat} (h : rdy S p n a j = false) : ∀ k, j ≤ k → rdy S p n a k = false
  | 0, hk => by rw [Nat.le_zero.1 hk] at h; exact h
  | k + 1, hk => by
    rcases Nat.lt_or_ge j (k + 1) with h1 | h1
    · rw [rdy, rdy_le h k (by omega)]; rfl
    · rw [← Nat.le_antisymm hk h1]; exact h
theorem ready_no {f : Fr} {p n : Int} {j : Nat} (hj : j < cnt p n) (h : (Go.bits .andNot .u8 (mk p n (p.toNat / 8 + j) 8) (set (f.S.getD (p.toNat / 8 + j) noSl)) != 0) = true) : ready f p n = false := by
  refine rdy_le (j := j + 1) ?_ _ hj
  rw [rdy]
  have : (Go.bits .andNot .u8 (mk p n (p.toNat / 8 + j) 8) (set (f.S.getD (p.toNat / 8 + j) noSl)) == 0) = false := by
    rw [bne, Bool.not_eq_true'] at h; exact h
  rw [this, Bool.and_false]
theorem rdy_go {S : List Sl} {p n : Int} {a j : Nat} (h : rdy S p n a j = true) (k : (Go.bits .andNot .u8 (mk p n (a + j) 8) (set (S.getD (a + j) noSl)) != 0) = false) : rdy S p n a (j + 1) = true := by
  rw [rdy, h]
  rw [bne, Bool.not_eq_false'] at k
  rw [k]; rfl
theorem ready_no' {f : Fr} {p n : Int} {j : Nat} (hj : j < cnt p n) (h : (Go.bits .andNot .u8 (mk p n (p.toNat / 8 + j) 8) (set (f.S.getD (p.toNat / 8 + j) noSl)) == 0) = false) : ready f p n = false := ready_no hj (by rw [bne, h]; rfl)
theorem rdy_go' {S : List Sl} {p n : Int} {a j : Nat} (h : rdy S p n a j = true) (k : (Go.bits .andNot .u8 (mk p n (a + j) 8) (set (S.getD (a + j) noSl)) == 0) = true) : rdy S p n a (j + 1) = true := rdy_go h (by rw [bne, k]; rfl)
theorem tch_len (S : List Sl) (p n : Int) (a : Nat) : ∀ j, (tch S p n a j).length = S.length
  | 0 => rfl
  | j + 1 => by rw [tch, List.length_set, tch_len S p n a j]
theorem tch_in {S : List Sl} (h : (S.all fun s => inA s.a) = true) (p n : Int) (a : Nat) : ∀ j, ((tch S p n a j).all fun s => inA s.a) = true
  | 0 => h
  | j + 1 => by
    have ih := tch_in h p n a j
    rw [tch]
    rw [List.all_eq_true] at ih ⊢
    intro x hx
    rcases List.mem_or_eq_of_mem_set hx with hx | rfl
    · exact ih x hx
    · rfl
theorem touch_wf {f : Fr} (h : f.wf) (p n : Int) : (touch f p n).wf := ⟨h.r, by show (tch ..).length = 64; rw [tch_len]; exact h.s, h.ri, tch_in h.si ..⟩
end F
namespace F
/-- The first byte's place, if bytes are of the stack. -/
def within (off n : Int) : Int × Bool := if decide (off < -512) || (decide (0 < off) || decide (IntKind.i64.wrap (0 - off) < n)) then (0, false) else (IntKind.i64.wrap (512 + off), true)
def inside (off n : Int) : Bool := decide (-512 ≤ off) && (decide (off ≤ 0) && decide (n ≤ IntKind.i64.wrap (0 - off)))
theorem inside_eq (off n : Int) : inside off n = (within off n).2 := by
  unfold inside within
  by_cases h1 : off < -512
  · rw [decide_eq_true h1, decide_eq_false (by omega : ¬ (-512 ≤ off))]; rfl
  rw [decide_eq_false h1, decide_eq_true (by omega : -512 ≤ off)]
  by_cases h2 : 0 < off
  · rw [decide_eq_true h2, decide_eq_false (by omega : ¬ (off ≤ 0))]; rfl
  rw [decide_eq_false h2, decide_eq_true (by omega : off ≤ 0)]
  by_cases h3 : IntKind.i64.wrap (0 - off) < n
  · rw [decide_eq_true h3, decide_eq_false (by omega : ¬ (n ≤ IntKind.i64.wrap (0 - off)))]; rfl
  · rw [decide_eq_false h3, decide_eq_true (by omega : n ≤ IntKind.i64.wrap (0 - off))]; rfl
def word (n : Int) : Bool := n == 1 || (n == 2 || (n == 4 || n == 8))
end F
def k_fset : List SV → List Blk → Res := fun args _ => match args with
  | [.agg [.bool w, .int .u8 st, .int .u8 ak, .u64 av, .u64 am, .u64 alo, .u64 ahi, .int .i64 asl, .int .i64 ash, .int .i64 aof, .int .i64 amp, .int .i64 aid, .int .i64 arm, .bool anu]] => .ok (.int .u8 (F.set (⟨w, st, (⟨ak, (⟨⟨av, am⟩, ⟨alo, ahi, asl, ash⟩⟩ : Sc), aof, amp, aid, arm, anu⟩ : Ab)⟩ : Sl))) []
  | _ => .fail
theorem k_fset_ok : CtrOk Tryz.prog Gw 89 k_fset := by
  refine ⟨fun _ _ => by kernel_rfl, fun args M => ?_⟩
  unfold k_fset
  split
  · rename_i w st ak av am alo ahi asl ash aof amp aid arm anu
    refine ctr_flat (Γ := ⟨[], eqs, [], [], [], mixs, meqs⟩) (sv := .int .u8 (F.set (⟨w, st, (⟨ak, (⟨⟨av, am⟩, ⟨alo, ahi, asl, ash⟩⟩ : Sc), aof, amp, aid, arm, anu⟩ : Ab)⟩ : Sl))) st_Gw ⟨okNil, eqs_ok, okNilB, okNilI, okNilP, mixs_ok, meqs_ok⟩ Tryz.func89 rfl mixed [] (by kernel_rfl) 10000 (by rfl) ?_
    (conv => whnf)
    (repeat' (first | (refine step_t (by first | rfl | assumption) ?_; (conv => whnf)) | (refine step_f (by first | rfl | assumption) ?_; (conv => whnf)) | (refine step_nt (by assumption) ?_; (conv => whnf)) | (refine step_nf (by assumption) ?_; (conv => whnf)) | (refine step_n (fun hb => ?_) (fun hb => ?_) <;> (first | contradiction | (conv => whnf))) | (refine And.intro (fun hb => ?_) (fun hb => ?_) <;> (first | contradiction | (conv => whnf))) | (refine And.intro (a := (_ : Bool) = true) ?_ ?_; rotate_left 1; (conv => whnf))))
    all_goals (first | rfl | trivial | assumption | (simp_all [eqv, eqv1, eqv2, eqvL1, eqvL2, F.set]; done) | (simp_all [eqv, eqv1, eqv2, eqvL1, eqvL2, F.set]; intros; omega) )
  · trivial
def k_fwithin : List SV → List Blk → Res := fun args _ => match args with
  | [.int .i64 off, .int .i64 n] => .ok (.tup [.int .i64 (F.within off n).1, .bool (F.within off n).2]) []
  | _ => .fail
theorem k_fwithin_ok : CtrOk Tryz.prog Gw 34 k_fwithin := by
  refine ⟨fun _ _ => by kernel_rfl, fun args M => ?_⟩
  unfold k_fwithin
  split
  · rename_i off n
    refine ctr_flat (Γ := ⟨[], eqs, [], [], [], mixs, meqs⟩) (sv := .tup [.int .i64 (F.within off n).1, .bool (F.within off n).2]) st_Gw ⟨okNil, eqs_ok, okNilB, okNilI, okNilP, mixs_ok, meqs_ok⟩ Tryz.func34 rfl mixed [] (by kernel_rfl) 10000 (by rfl) ?_
    (conv => whnf)
    (repeat' (first | (refine step_t (by first | rfl | assumption) ?_; (conv => whnf)) | (refine step_f (by first | rfl | assumption) ?_; (conv => whnf)) | (refine step_nt (by assumption) ?_; (conv => whnf)) | (refine step_nf (by assumption) ?_; (conv => whnf)) | (refine step_n (fun hb => ?_) (fun hb => ?_) <;> (first | contradiction | (conv => whnf))) | (refine And.intro (fun hb => ?_) (fun hb => ?_) <;> (first | contradiction | (conv => whnf))) | (refine And.intro (a := (_ : Bool) = true) ?_ ?_; rotate_left 1; (conv => whnf))))
    all_goals (first
      | (have e : F.within off n = (0, false) := by simp only [F.within, *, Bool.true_or, Bool.or_true, Bool.or_self, ↓reduceIte]
         simp [e, eqv, eqv1, eqv2, eqvL1, eqvL2]; done)
      | (have e : F.within off n = (IntKind.i64.wrap (512 + off), true) := by simp only [F.within, *, Bool.true_or, Bool.or_true, Bool.or_self, Bool.false_eq_true, ↓reduceIte]
         simp [e, eqv, eqv1, eqv2, eqvL1, eqvL2]; done))
  · trivial
def k_fword : List SV → List Blk → Res := fun args _ => match args with
  | [.int .i64 n] => .ok (.bool (F.word n)) []
  | _ => .fail
theorem k_fword_ok : CtrOk Tryz.prog Gw 36 k_fword := by
  refine ⟨fun _ _ => by kernel_rfl, fun args M => ?_⟩
  unfold k_fword
  split
  · rename_i n
    refine ctr_flat (Γ := ⟨[], eqs, [], [], [], mixs, meqs⟩) (sv := .bool (F.word n)) st_Gw ⟨okNil, eqs_ok, okNilB, okNilI, okNilP, mixs_ok, meqs_ok⟩ Tryz.func36 rfl mixed [] (by kernel_rfl) 10000 (by rfl) ?_
    (conv => whnf)
    (repeat' (first | (refine step_t (by first | rfl | assumption) ?_; (conv => whnf)) | (refine step_f (by first | rfl | assumption) ?_; (conv => whnf)) | (refine step_nt (by assumption) ?_; (conv => whnf)) | (refine step_nf (by assumption) ?_; (conv => whnf)) | (refine step_n (fun hb => ?_) (fun hb => ?_) <;> (first | contradiction | (conv => whnf))) | (refine And.intro (fun hb => ?_) (fun hb => ?_) <;> (first | contradiction | (conv => whnf))) | (refine And.intro (a := (_ : Bool) = true) ?_ ?_; rotate_left 1; (conv => whnf))))
    all_goals (first | rfl | trivial | assumption | (simp only [eqv, eqvL1, eqv1, eqv2, eqvL2, F.word, *, Bool.true_or, Bool.or_true, Bool.or_self, Bool.false_or, Bool.or_false, if_true, if_false, ite_true, ite_false]; done) | (simp only [F.word, *]; rfl))
  · trivial
def k_gset : List SV → List Blk → Res := fun args _ => match args with
  | [.agg [.bool w, .int .u8 st, .int .u8 ak, .u64 av, .u64 am, .u64 alo, .u64 ahi, .int .i64 asl, .int .i64 ash, .int .i64 aof, .int .i64 amp, .int .i64 aid, .int .i64 arm, .bool anu]] => .ok (.int .u8 (F.set (⟨w, st, (⟨ak, (⟨⟨av, am⟩, ⟨alo, ahi, asl, ash⟩⟩ : Sc), aof, amp, aid, arm, anu⟩ : Ab)⟩ : Sl))) []
  | _ => .fail
theorem k_gset_ok : CtrOk Tryz.prog Gw 117 k_gset := by
  refine ⟨fun _ _ => by kernel_rfl, fun args M => ?_⟩
  unfold k_gset
  split
  · rename_i w st ak av am alo ahi asl ash aof amp aid arm anu
    refine ctr_flat (Γ := ⟨[], eqs, [], [], [], mixs, meqs⟩) (sv := .int .u8 (F.set (⟨w, st, (⟨ak, (⟨⟨av, am⟩, ⟨alo, ahi, asl, ash⟩⟩ : Sc), aof, amp, aid, arm, anu⟩ : Ab)⟩ : Sl))) st_Gw ⟨okNil, eqs_ok, okNilB, okNilI, okNilP, mixs_ok, meqs_ok⟩ Tryz.func117 rfl mixed [] (by kernel_rfl) 10000 (by rfl) ?_
    (conv => whnf)
    (repeat' (first | (refine step_t (by first | rfl | assumption) ?_; (conv => whnf)) | (refine step_f (by first | rfl | assumption) ?_; (conv => whnf)) | (refine step_nt (by assumption) ?_; (conv => whnf)) | (refine step_nf (by assumption) ?_; (conv => whnf)) | (refine step_n (fun hb => ?_) (fun hb => ?_) <;> (first | contradiction | (conv => whnf))) | (refine And.intro (fun hb => ?_) (fun hb => ?_) <;> (first | contradiction | (conv => whnf))) | (refine And.intro (a := (_ : Bool) = true) ?_ ?_; rotate_left 1; (conv => whnf))))
    all_goals (first | rfl | trivial | assumption | (simp_all [eqv, eqv1, eqv2, eqvL1, eqvL2, F.set]; done) | (simp_all [eqv, eqv1, eqv2, eqvL1, eqvL2, F.set]; intros; omega) )
  · trivial
def k_gwithin : List SV → List Blk → Res := fun args _ => match args with
  | [.int .i64 off, .int .i64 n] => .ok (.bool (F.inside off n)) []
  | _ => .fail
theorem k_gwithin_ok : CtrOk Tryz.prog Gw 78 k_gwithin := by
  refine ⟨fun _ _ => by kernel_rfl, fun args M => ?_⟩
  unfold k_gwithin
  split
  · rename_i off n
    refine ctr_flat (Γ := ⟨[], eqs, [], [], [], mixs, meqs⟩) (sv := .bool (F.inside off n)) st_Gw ⟨okNil, eqs_ok, okNilB, okNilI, okNilP, mixs_ok, meqs_ok⟩ Tryz.func78 rfl mixed [] (by kernel_rfl) 10000 (by rfl) ?_
    (conv => whnf)
    (repeat' (first | (refine step_t (by first | rfl | assumption) ?_; (conv => whnf)) | (refine step_f (by first | rfl | assumption) ?_; (conv => whnf)) | (refine step_nt (by assumption) ?_; (conv => whnf)) | (refine step_nf (by assumption) ?_; (conv => whnf)) | (refine step_n (fun hb => ?_) (fun hb => ?_) <;> (first | contradiction | (conv => whnf))) | (refine And.intro (fun hb => ?_) (fun hb => ?_) <;> (first | contradiction | (conv => whnf))) | (refine And.intro (a := (_ : Bool) = true) ?_ ?_; rotate_left 1; (conv => whnf))))
    all_goals (first | rfl | trivial | assumption | (simp only [eqv, eqvL1, eqv1, eqv2, eqvL2, F.inside, Bool.and_true, Bool.true_and, Bool.false_and, Bool.and_false, *, Bool.true_or, Bool.or_true, Bool.or_self, Bool.false_or, Bool.or_false, if_true, if_false, ite_true, ite_false]; done) | (simp only [F.inside, Bool.and_true, Bool.true_and, Bool.false_and, Bool.and_false, *]; rfl))
  · trivial
def k_gpower : List SV → List Blk → Res := fun args _ => match args with
  | [.int .i64 n] => .ok (.bool (F.word n)) []
  | _ => .fail
theorem k_gpower_ok : CtrOk Tryz.prog Gw 77 k_gpower := by
  refine ⟨fun _ _ => by kernel_rfl, fun args M => ?_⟩
  unfold k_gpower
  split
  · rename_i n
    refine ctr_flat (Γ := ⟨[], eqs, [], [], [], mixs, meqs⟩) (sv := .bool (F.word n)) st_Gw ⟨okNil, eqs_ok, okNilB, okNilI, okNilP, mixs_ok, meqs_ok⟩ Tryz.func77 rfl mixed [] (by kernel_rfl) 10000 (by rfl) ?_
    (conv => whnf)
    (repeat' (first | (refine step_t (by first | rfl | assumption) ?_; (conv => whnf)) | (refine step_f (by first | rfl | assumption) ?_; (conv => whnf)) | (refine step_nt (by assumption) ?_; (conv => whnf)) | (refine step_nf (by assumption) ?_; (conv => whnf)) | (refine step_n (fun hb => ?_) (fun hb => ?_) <;> (first | contradiction | (conv => whnf))) | (refine And.intro (fun hb => ?_) (fun hb => ?_) <;> (first | contradiction | (conv => whnf))) | (refine And.intro (a := (_ : Bool) = true) ?_ ?_; rotate_left 1; (conv => whnf))))
    all_goals (first | rfl | trivial | assumption | (simp only [eqv, eqvL1, eqv1, eqv2, eqvL2, F.word, *, Bool.true_or, Bool.or_true, Bool.or_self, Bool.false_or, Bool.or_false, if_true, if_false, ite_true, ite_false]; done) | (simp only [F.word, *]; rfl))
  · trivial
end Go.Proofs.YtgfemfgimefmeaaGreat
namespace Go.Proofs.YtgfemfgimefmeaaGreat
open Go.RowKit Go.Sx
set_option linter.unusedSimpArgs false
set_option linter.unusedVariables false
set_option linter.unnecessarySimpa false
set_option maxRecDepth 100000
set_option maxHeartbeats 4000000
theorem ft_of {p n : Int} (h : (decide (0 ≤ p) && (decide (1 ≤ n) && (decide (n ≤ 512) && decide (p + n ≤ 512)))) = true) : 0 ≤ p ∧ 1 ≤ n ∧ n ≤ 512 ∧ p + n ≤ 512 := by
  simp only [Bool.and_eq_true, decide_eq_true_eq] at h; exact h
theorem quo8 {p : Int} (h0 : 0 ≤ p) (h1 : p ≤ 512) : IntKind.i64.wrap (p.tdiv 8) = ((p.toNat / 8 : Nat) : Int) := by
  have h : p.tdiv 8 = ((p.toNat / 8 : Nat) : Int) := by
    rw [Int.tdiv_eq_ediv_of_nonneg h0]; omega
  rw [h, i64_of (by omega) (by omega)]
theorem cnt_le {p n : Int} (hp : 0 ≤ p) (hn : 1 ≤ n) (hb : p + n ≤ 512) {j : Nat} (h : j ≤ F.cnt p n) : p.toNat / 8 + j ≤ 64 := by unfold F.cnt at h; omega
theorem cnt_lt {p n : Int} (hp : 0 ≤ p) (hn : 1 ≤ n) {j : Nat} (h : 8 * ((p.toNat / 8 + j : Nat) : Int) < p + n) : j < F.cnt p n := by unfold F.cnt; omega
theorem cnt_ge {p n : Int} (hp : 0 ≤ p) (hn : 1 ≤ n) {j : Nat} (hj : j ≤ F.cnt p n) (h : ¬ 8 * ((p.toNat / 8 + j : Nat) : Int) < p + n) : j = F.cnt p n := by unfold F.cnt at *; omega
theorem touch_run (f : Fr) (hf : f.wf) (p n : Int) (hp : 0 ≤ p) (hn : 1 ≤ n) (h8 : n ≤ 512) (hpn : p + n ≤ 512) : run Tryz.prog ⟨[(89, k_fset)], eqs, [], [(88, Tryz.f88, []), (139, Tryz.f139, [])], [], mixs, meqs⟩ 10000 [] 0 (bodyOf Tryz.f37) (initF Tryz.f37 [frv f, .int .i64 p, .int .i64 n]) [] (retK Tryz.prog Tryz.f37 fun x _ => eqv x (frv (F.touch f p n))) := by
  (conv => whnf)
  (repeat' (first | (refine step_t (by first | rfl | assumption) ?_; (conv => whnf)) | (refine step_f (by first | rfl | assumption) ?_; (conv => whnf)) | (refine step_nt (by assumption) ?_; (conv => whnf)) | (refine step_nf (by assumption) ?_; (conv => whnf)) | (refine step_n (fun hb => ?_) (fun hb => ?_) <;> (first | contradiction | (conv => whnf))) | (refine And.intro (fun hb => ?_) (fun hb => ?_) <;> (first | contradiction | (conv => whnf))) | (refine And.intro ?_ ?_; rotate_left 1; (conv => whnf))))
  any_goals (exact (rfl : ((8 : Int) != 0) = true))
  refine .inr ⟨[], [0, 1, 2, 4], fun k vals M => ∃ j : Nat, j ≤ F.cnt p n ∧ k = F.cnt p n - j ∧ vals = [.yld 4, .ptr 2 0, .ptr 3 0, .int .i64 ((p.toNat / 8 + j : Nat) : Int)] ∧ M = [.mix 37 [.arr 11 12 (gOf eA f.R), .arr 64 14 (gOf eS (F.tch f.S p n (p.toNat / 8) j)), .int .i64 f.ids], .mix 37 [.arr 11 12 (fun _ => [.int .u8 0, .u64 (BitVec.ofInt 64 0), .u64 (BitVec.ofInt 64 0), .u64 (BitVec.ofInt 64 0), .u64 (BitVec.ofInt 64 0), .int .i64 0, .int .i64 0, .int .i64 0, .int .i64 0, .int .i64 0, .int .i64 0, .bool false]), .arr 64 14 (fun _ => .bool false :: .int .u8 0 :: [.int .u8 0, .u64 (BitVec.ofInt 64 0), .u64 (BitVec.ofInt 64 0), .u64 (BitVec.ofInt 64 0), .u64 (BitVec.ofInt 64 0), .int .i64 0, .int .i64 0, .int .i64 0, .int .i64 0, .int .i64 0, .int .i64 0, .bool false]), .int .i64 0], .cells 3 [.int .i64 p], .cells 3 [.int .i64 n], lpOf [] (bodyOf Tryz.f37) [frv f, .int .i64 p, .int .i64 n, .ptr 0 0, .tup [], .tup [], .ptr 1 0, .tup [], .tup [], .int .i64 p, .int .i64 n, .fn (.func 139) [] [.ptr 2 0, .ptr 3 0], .tup [], .tup [], .tup [], .tup [], .tup [], .tup [], .tup [], .tup [], .tup [], .tup [], .tup [], .tup [], .tup [], .tup []]], ?_⟩
  conv => whnf
  refine And.intro ⟨F.cnt p n, [.mix 37 [.arr 11 12 (gOf eA f.R), .arr 64 14 (gOf eS f.S), .int .i64 f.ids], .mix 37 [.arr 11 12 (fun _ => [.int .u8 0, .u64 (BitVec.ofInt 64 0), .u64 (BitVec.ofInt 64 0), .u64 (BitVec.ofInt 64 0), .u64 (BitVec.ofInt 64 0), .int .i64 0, .int .i64 0, .int .i64 0, .int .i64 0, .int .i64 0, .int .i64 0, .bool false]), .arr 64 14 (fun _ => .bool false :: .int .u8 0 :: [.int .u8 0, .u64 (BitVec.ofInt 64 0), .u64 (BitVec.ofInt 64 0), .u64 (BitVec.ofInt 64 0), .u64 (BitVec.ofInt 64 0), .int .i64 0, .int .i64 0, .int .i64 0, .int .i64 0, .int .i64 0, .int .i64 0, .bool false]), .int .i64 0], .cells 3 [.int .i64 p], .cells 3 [.int .i64 n], lpOf [] (bodyOf Tryz.f37) [frv f, .int .i64 p, .int .i64 n, .ptr 0 0, .tup [], .tup [], .ptr 1 0, .tup [], .tup [], .int .i64 p, .int .i64 n, .fn (.func 139) [] [.ptr 2 0, .ptr 3 0], .tup [], .tup [], .tup [], .tup [], .tup [], .tup [], .tup [], .tup [], .tup [], .tup [], .tup [], .tup [], .tup [], .tup []]], mle_cons ble_refl (mle_cons ble_refl (mle_cons ble_refl (mle_cons ble_refl (mle_cons ble_refl mle_nil)))), rfl, rfl, 0, by omega, by omega, ?_, rfl⟩ ?_
  · show [SV.yld 4, .ptr 2 0, .ptr 3 0, .int .i64 (IntKind.i64.wrap (p.tdiv 8))] = _
    rw [quo8 hp (by omega)]; rfl
  rintro k vals M1 ⟨j, hj, rfl, rfl, rfl⟩
  have hj64 := cnt_le hp hn hpn hj
  have e1 : IntKind.i64.wrap (((p.toNat / 8 + j : Nat) : Int) * 8) = 8 * ((p.toNat / 8 + j : Nat) : Int) := by rw [i64_of (by omega) (by omega)]; omega
  have e3 : IntKind.i64.wrap (p + n) = p + n := i64_of (by omega) (by omega)
  (conv => whnf)
  (repeat' (first | (refine step_t (by first | rfl | assumption) ?_; (conv => whnf)) | (refine step_f (by first | rfl | assumption) ?_; (conv => whnf)) | (refine step_nt (by assumption) ?_; (conv => whnf)) | (refine step_nf (by assumption) ?_; (conv => whnf)) | (refine step_n (fun hb => ?_) (fun hb => ?_) <;> (first | contradiction | (conv => whnf))) | (refine And.intro (fun hb => ?_) (fun hb => ?_) <;> (first | contradiction | (conv => whnf))) | (refine And.intro ?_ ?_; rotate_left 1; (conv => whnf))))
  · rw [e1, e3] at hb
    have hlt := of_decide_eq_true hb
    have hjlt := cnt_lt hp hn hlt
    have hj63 := cnt_le hp hn hpn hjlt
    refine .inr ⟨[], [0, 1, 2, 4, 5, 18], fun k vals M => ∃ b : Nat, b ≤ 8 ∧ k = 8 - b ∧ vals = [.yld 4, .ptr 2 0, .ptr 3 0, .int .i64 ((p.toNat / 8 + j : Nat) : Int), .int .u8 (F.mk p n (p.toNat / 8 + j) b), .int .i64 (b : Int)] ∧ M = [.mix 37 [.arr 11 12 (gOf eA f.R), .arr 64 14 (gOf eS (F.tch f.S p n (p.toNat / 8) j)), .int .i64 f.ids], .mix 37 [.arr 11 12 (fun _ => [.int .u8 0, .u64 (BitVec.ofInt 64 0), .u64 (BitVec.ofInt 64 0), .u64 (BitVec.ofInt 64 0), .u64 (BitVec.ofInt 64 0), .int .i64 0, .int .i64 0, .int .i64 0, .int .i64 0, .int .i64 0, .int .i64 0, .bool false]), .arr 64 14 (fun _ => .bool false :: .int .u8 0 :: [.int .u8 0, .u64 (BitVec.ofInt 64 0), .u64 (BitVec.ofInt 64 0), .u64 (BitVec.ofInt 64 0), .u64 (BitVec.ofInt 64 0), .int .i64 0, .int .i64 0, .int .i64 0, .int .i64 0, .int .i64 0, .int .i64 0, .bool false]), .int .i64 0], .cells 3 [.int .i64 p], .cells 3 [.int .i64 n], lpOf [] (bodyOf Tryz.f37) [frv f, .int .i64 p, .int .i64 n, .ptr 0 0, .tup [], .tup [], .ptr 1 0, .tup [], .tup [], .int .i64 p, .int .i64 n, .fn (.func 139) [] [.ptr 2 0, .ptr 3 0], .tup [], .tup [], .tup [], .tup [], .tup [], .tup [], .tup [], .tup [], .tup [], .tup [], .tup [], .tup [], .tup [], .tup []]], ?_⟩
    conv => whnf
    refine And.intro ⟨8, [.mix 37 [.arr 11 12 (gOf eA f.R), .arr 64 14 (gOf eS (F.tch f.S p n (p.toNat / 8) j)), .int .i64 f.ids], .mix 37 [.arr 11 12 (fun _ => [.int .u8 0, .u64 (BitVec.ofInt 64 0), .u64 (BitVec.ofInt 64 0), .u64 (BitVec.ofInt 64 0), .u64 (BitVec.ofInt 64 0), .int .i64 0, .int .i64 0, .int .i64 0, .int .i64 0, .int .i64 0, .int .i64 0, .bool false]), .arr 64 14 (fun _ => .bool false :: .int .u8 0 :: [.int .u8 0, .u64 (BitVec.ofInt 64 0), .u64 (BitVec.ofInt 64 0), .u64 (BitVec.ofInt 64 0), .u64 (BitVec.ofInt 64 0), .int .i64 0, .int .i64 0, .int .i64 0, .int .i64 0, .int .i64 0, .int .i64 0, .bool false]), .int .i64 0], .cells 3 [.int .i64 p], .cells 3 [.int .i64 n], lpOf [] (bodyOf Tryz.f37) [frv f, .int .i64 p, .int .i64 n, .ptr 0 0, .tup [], .tup [], .ptr 1 0, .tup [], .tup [], .int .i64 p, .int .i64 n, .fn (.func 139) [] [.ptr 2 0, .ptr 3 0], .tup [], .tup [], .tup [], .tup [], .tup [], .tup [], .tup [], .tup [], .tup [], .tup [], .tup [], .tup [], .tup [], .tup []]], mle_cons ble_refl (mle_cons ble_refl (mle_cons ble_refl (mle_cons ble_refl (mle_cons ble_refl mle_nil)))), rfl, rfl, 0, by omega, by omega, rfl, rfl⟩ ?_
    rintro k vals M1 ⟨b, hb8, rfl, rfl, rfl⟩
    have e2 : IntKind.i64.wrap (8 * ((p.toNat / 8 + j : Nat) : Int)) = 8 * ((p.toNat / 8 + j : Nat) : Int) := i64_of (by omega) (by omega)
    have e4 : IntKind.i64.wrap (8 * ((p.toNat / 8 + j : Nat) : Int) + (b : Int)) = 8 * ((p.toNat / 8 + j : Nat) : Int) + (b : Int) := i64_of (by omega) (by omega)
    (conv => whnf)
    (repeat' (first | (refine step_t (by first | rfl | assumption) ?_; (conv => whnf)) | (refine step_f (by first | rfl | assumption) ?_; (conv => whnf)) | (refine step_nt (by assumption) ?_; (conv => whnf)) | (refine step_nf (by assumption) ?_; (conv => whnf)) | (refine step_n (fun hb => ?_) (fun hb => ?_) <;> (first | contradiction | (conv => whnf))) | (refine And.intro (fun hb => ?_) (fun hb => ?_) <;> (first | contradiction | (conv => whnf))) | (refine And.intro ?_ ?_; rotate_left 1; (conv => whnf))))
    all_goals (simp only [Int.toNat_natCast, e2, e4, e3] at *)
    all_goals try first
      | (refine decide_eq_true ?_; omega)
      | (rw [Bool.and_eq_true]; exact ⟨decide_eq_true (by omega), decide_eq_true (by omega)⟩)
      | rfl
      | (have hlt8 : b < 8 := by
           have h9 : decide ((b : Int) < 8) = true := by assumption
           have := of_decide_eq_true h9
           omega
         refine ⟨8 - (b + 1), [.mix 37 [.arr 11 12 (gOf eA f.R), .arr 64 14 (gOf eS (F.tch f.S p n (p.toNat / 8) j)), .int .i64 f.ids], .mix 37 [.arr 11 12 (fun _ => [.int .u8 0, .u64 (BitVec.ofInt 64 0), .u64 (BitVec.ofInt 64 0), .u64 (BitVec.ofInt 64 0), .u64 (BitVec.ofInt 64 0), .int .i64 0, .int .i64 0, .int .i64 0, .int .i64 0, .int .i64 0, .int .i64 0, .bool false]), .arr 64 14 (fun _ => .bool false :: .int .u8 0 :: [.int .u8 0, .u64 (BitVec.ofInt 64 0), .u64 (BitVec.ofInt 64 0), .u64 (BitVec.ofInt 64 0), .u64 (BitVec.ofInt 64 0), .int .i64 0, .int .i64 0, .int .i64 0, .int .i64 0, .int .i64 0, .int .i64 0, .bool false]), .int .i64 0], .cells 3 [.int .i64 p], .cells 3 [.int .i64 n], lpOf [] (bodyOf Tryz.f37) [frv f, .int .i64 p, .int .i64 n, .ptr 0 0, .tup [], .tup [], .ptr 1 0, .tup [], .tup [], .int .i64 p, .int .i64 n, .fn (.func 139) [] [.ptr 2 0, .ptr 3 0], .tup [], .tup [], .tup [], .tup [], .tup [], .tup [], .tup [], .tup [], .tup [], .tup [], .tup [], .tup [], .tup [], .tup []]], [0, 1, 2, 3, 4], by omega, rfl, mle_cons ble_refl (mle_cons ble_refl (mle_cons ble_refl (mle_cons ble_refl (mle_cons ble_refl mle_nil)))), rfl, rfl, b + 1, by omega, rfl, ?_, rfl⟩
         have e5 : IntKind.i64.wrap ((b : Int) + 1) = ((b + 1 : Nat) : Int) := i64_of (by omega) (by omega)
         first
         | rw [F.mk_1 (by assumption), ← e5]; rfl
         | rw [F.mk_2 (by assumption), ← e5]; rfl
         | rw [F.mk_3 (by assumption) (by assumption), ← e5]; rfl)
    have hb8' : b = 8 := by
      have h9 : decide ((b : Int) < 8) = false := by assumption
      have := of_decide_eq_false h9
      omega
    subst hb8'
    have hlen : (F.tch f.S p n (p.toNat / 8) j).length = 64 := by rw [F.tch_len]; exact hf.s
    refine ⟨F.cnt p n - (j + 1), [.mix 37 [.arr 11 12 (gOf eA f.R), .arr 64 14 (gOf eS (F.tch f.S p n (p.toNat / 8) (j + 1))), .int .i64 f.ids], .mix 37 [.arr 11 12 (fun _ => [.int .u8 0, .u64 (BitVec.ofInt 64 0), .u64 (BitVec.ofInt 64 0), .u64 (BitVec.ofInt 64 0), .u64 (BitVec.ofInt 64 0), .int .i64 0, .int .i64 0, .int .i64 0, .int .i64 0, .int .i64 0, .int .i64 0, .bool false]), .arr 64 14 (fun _ => .bool false :: .int .u8 0 :: [.int .u8 0, .u64 (BitVec.ofInt 64 0), .u64 (BitVec.ofInt 64 0), .u64 (BitVec.ofInt 64 0), .u64 (BitVec.ofInt 64 0), .int .i64 0, .int .i64 0, .int .i64 0, .int .i64 0, .int .i64 0, .int .i64 0, .bool false]), .int .i64 0], .cells 3 [.int .i64 p], .cells 3 [.int .i64 n], lpOf [] (bodyOf Tryz.f37) [frv f, .int .i64 p, .int .i64 n, .ptr 0 0, .tup [], .tup [], .ptr 1 0, .tup [], .tup [], .int .i64 p, .int .i64 n, .fn (.func 139) [] [.ptr 2 0, .ptr 3 0], .tup [], .tup [], .tup [], .tup [], .tup [], .tup [], .tup [], .tup [], .tup [], .tup [], .tup [], .tup [], .tup [], .tup []]], [0, 1, 2, 3, 4], by omega, rfl, mle_cons (ble_mix ⟨⟨rfl, rfl, fun _ _ => rfl⟩, ⟨rfl, rfl, fun k hk => ?_⟩, rfl, trivial⟩) (mle_cons ble_refl (mle_cons ble_refl (mle_cons ble_refl (mle_cons ble_refl mle_nil)))), rfl, rfl, j + 1, by omega, rfl, ?_, rfl⟩
    · symm
      exact gSet_gOf eS (L := F.tch f.S p n (p.toNat / 8) j) (i := p.toNat / 8 + j) (a := F.slot ((F.tch f.S p n (p.toNat / 8) j).getD (p.toNat / 8 + j) eS.dft) (F.mk p n (p.toNat / 8 + j) 8)) (by rw [hlen]; omega) rfl rfl k (by rw [hlen]; exact hk)
    · show [SV.yld 4, .ptr 2 0, .ptr 3 0, .int .i64 (IntKind.i64.wrap (((p.toNat / 8 + j : Nat) : Int) + 1))] = _
      rw [i64_of (n := ((p.toNat / 8 + j : Nat) : Int) + 1) (by omega) (by omega)]; rfl
  all_goals (
    first
    | rfl
    | trivial
    | (intro i _; rfl)
    | (rw [e1, e3] at hb
       have hjc := cnt_ge hp hn hj (of_decide_eq_false hb)
       intro i _
       show _ = gOf eS (F.tch f.S p n (p.toNat / 8) (F.cnt p n)) i
       rw [← hjc]; done))
def k_ftouch : List SV → List Blk → Res := fun args _ => match args with
  | [.mix [.arr 11 12 g, .arr 64 14 h, .int .i64 ids], .int .i64 p, .int .i64 n] => .test ((frB g h && (decide (0 ≤ p) && (decide (1 ≤ n) && (decide (n ≤ 512) && decide (p + n ≤ 512)))))) (.ok (frv (F.touch (frD g h ids) p n)) [])
  | _ => .fail
theorem k_ftouch_ok : CtrOk Tryz.prog Gw 37 k_ftouch := by
  refine ⟨fun _ _ => by kernel_rfl, fun args M => ?_⟩
  unfold k_ftouch
  split
  · rename_i g h ids p n
    intro ht
    rw [Bool.and_eq_true] at ht
    obtain ⟨hfr, ht⟩ := ht
    exact ctr_fr (Γ := ⟨[(89, k_fset)], eqs, [], [(88, Tryz.f88, []), (139, Tryz.f139, [])], [], mixs, meqs⟩) (sv := frv (F.touch (frD g h ids) p n)) st_Gw ⟨(okCons k_fset_ok okNil), eqs_ok, okNilB, (okConsI Tryz.func88 rfl (by kernel_rfl) (fun _ _ => by kernel_rfl) (okConsI Tryz.func139 rfl (by kernel_rfl) (fun _ _ => by kernel_rfl) okNilI)), okNilP, mixs_ok, meqs_ok⟩ Tryz.func37 rfl mixed [] (by kernel_rfl) 10000 (rest := [.int .i64 p, .int .i64 n]) hfr rfl (touch_run _ (frD_wf hfr) p n (ft_of ht).1 (ft_of ht).2.1 (ft_of ht).2.2.1 (ft_of ht).2.2.2)
  · trivial
theorem ready_run (f : Fr) (hf : f.wf) (p n : Int) (hp : 0 ≤ p) (hn : 1 ≤ n) (h8 : n ≤ 512) (hpn : p + n ≤ 512) : run Tryz.prog ⟨[(89, k_fset)], eqs, [], [(88, Tryz.f88, []), (139, Tryz.f139, [])], [], mixs, meqs⟩ 10000 [] 0 (bodyOf Tryz.f38) (initF Tryz.f38 [frv f, .int .i64 p, .int .i64 n]) [] (retK Tryz.prog Tryz.f38 fun x _ => eqv x (.bool (F.ready f p n))) := by
  (conv => whnf)
  (repeat' (first | (refine step_t (by first | rfl | assumption) ?_; (conv => whnf)) | (refine step_f (by first | rfl | assumption) ?_; (conv => whnf)) | (refine step_nt (by assumption) ?_; (conv => whnf)) | (refine step_nf (by assumption) ?_; (conv => whnf)) | (refine step_n (fun hb => ?_) (fun hb => ?_) <;> (first | contradiction | (conv => whnf))) | (refine And.intro (fun hb => ?_) (fun hb => ?_) <;> (first | contradiction | (conv => whnf))) | (refine And.intro ?_ ?_; rotate_left 1; (conv => whnf))))
  any_goals (exact (rfl : ((8 : Int) != 0) = true))
  refine .inr ⟨[], [0, 1, 2, 4], fun k vals M => ∃ j : Nat, j ≤ F.cnt p n ∧ k = F.cnt p n - j ∧ F.rdy f.S p n (p.toNat / 8) j = true ∧ vals = [.yld 4, .ptr 2 0, .ptr 3 0, .int .i64 ((p.toNat / 8 + j : Nat) : Int)] ∧ M = [.mix 37 [.arr 11 12 (gOf eA f.R), .arr 64 14 (gOf eS f.S), .int .i64 f.ids], .cells 4 [.ff], .cells 3 [.int .i64 p], .cells 3 [.int .i64 n], lpOf [] (bodyOf Tryz.f38) [frv f, .int .i64 p, .int .i64 n, .ptr 0 0, .tup [], .tup [], .ptr 1 0, .tup [], .tup [], .int .i64 p, .int .i64 n, .fn (.func 139) [] [.ptr 2 0, .ptr 3 0], .tup [], .tup [], .tup [], .tup [], .tup [], .tup [], .tup [], .tup [], .tup [], .tup []]], ?_⟩
  conv => whnf
  refine And.intro ⟨F.cnt p n, [.mix 37 [.arr 11 12 (gOf eA f.R), .arr 64 14 (gOf eS f.S), .int .i64 f.ids], .cells 4 [.ff], .cells 3 [.int .i64 p], .cells 3 [.int .i64 n], lpOf [] (bodyOf Tryz.f38) [frv f, .int .i64 p, .int .i64 n, .ptr 0 0, .tup [], .tup [], .ptr 1 0, .tup [], .tup [], .int .i64 p, .int .i64 n, .fn (.func 139) [] [.ptr 2 0, .ptr 3 0], .tup [], .tup [], .tup [], .tup [], .tup [], .tup [], .tup [], .tup [], .tup [], .tup []]], mle_cons ble_refl (mle_cons ble_refl (mle_cons ble_refl (mle_cons ble_refl (mle_cons ble_refl mle_nil)))), rfl, rfl, 0, by omega, by omega, rfl, ?_, rfl⟩ ?_
  · show [SV.yld 4, .ptr 2 0, .ptr 3 0, .int .i64 (IntKind.i64.wrap (p.tdiv 8))] = _
    rw [quo8 hp (by omega)]; rfl
  rintro k vals M1 ⟨j, hj, rfl, hrd, rfl, rfl⟩
  have hj64 := cnt_le hp hn hpn hj
  have e1 : IntKind.i64.wrap (((p.toNat / 8 + j : Nat) : Int) * 8) = 8 * ((p.toNat / 8 + j : Nat) : Int) := by rw [i64_of (by omega) (by omega)]; omega
  have e3 : IntKind.i64.wrap (p + n) = p + n := i64_of (by omega) (by omega)
  (conv => whnf)
  (repeat' (first | (refine step_t (by first | rfl | assumption) ?_; (conv => whnf)) | (refine step_f (by first | rfl | assumption) ?_; (conv => whnf)) | (refine step_nt (by assumption) ?_; (conv => whnf)) | (refine step_nf (by assumption) ?_; (conv => whnf)) | (refine step_n (fun hb => ?_) (fun hb => ?_) <;> (first | contradiction | (conv => whnf))) | (refine And.intro (fun hb => ?_) (fun hb => ?_) <;> (first | contradiction | (conv => whnf))) | (refine And.intro ?_ ?_; rotate_left 1; (conv => whnf))))
  · rw [e1, e3] at hb
    have hlt := of_decide_eq_true hb
    have hjlt := cnt_lt hp hn hlt
    have hj63 := cnt_le hp hn hpn hjlt
    refine .inr ⟨[], [0, 1, 2, 4, 5, 18], fun k vals M => ∃ b : Nat, b ≤ 8 ∧ k = 8 - b ∧ vals = [.yld 4, .ptr 2 0, .ptr 3 0, .int .i64 ((p.toNat / 8 + j : Nat) : Int), .int .u8 (F.mk p n (p.toNat / 8 + j) b), .int .i64 (b : Int)] ∧ M = [.mix 37 [.arr 11 12 (gOf eA f.R), .arr 64 14 (gOf eS f.S), .int .i64 f.ids], .cells 4 [.ff], .cells 3 [.int .i64 p], .cells 3 [.int .i64 n], lpOf [] (bodyOf Tryz.f38) [frv f, .int .i64 p, .int .i64 n, .ptr 0 0, .tup [], .tup [], .ptr 1 0, .tup [], .tup [], .int .i64 p, .int .i64 n, .fn (.func 139) [] [.ptr 2 0, .ptr 3 0], .tup [], .tup [], .tup [], .tup [], .tup [], .tup [], .tup [], .tup [], .tup [], .tup []]], ?_⟩
    conv => whnf
    refine And.intro ⟨8, [.mix 37 [.arr 11 12 (gOf eA f.R), .arr 64 14 (gOf eS f.S), .int .i64 f.ids], .cells 4 [.ff], .cells 3 [.int .i64 p], .cells 3 [.int .i64 n], lpOf [] (bodyOf Tryz.f38) [frv f, .int .i64 p, .int .i64 n, .ptr 0 0, .tup [], .tup [], .ptr 1 0, .tup [], .tup [], .int .i64 p, .int .i64 n, .fn (.func 139) [] [.ptr 2 0, .ptr 3 0], .tup [], .tup [], .tup [], .tup [], .tup [], .tup [], .tup [], .tup [], .tup [], .tup []]], mle_cons ble_refl (mle_cons ble_refl (mle_cons ble_refl (mle_cons ble_refl (mle_cons ble_refl mle_nil)))), rfl, rfl, 0, by omega, by omega, rfl, rfl⟩ ?_
    rintro k vals M1 ⟨b, hb8, rfl, rfl, rfl⟩
    have e2 : IntKind.i64.wrap (8 * ((p.toNat / 8 + j : Nat) : Int)) = 8 * ((p.toNat / 8 + j : Nat) : Int) := i64_of (by omega) (by omega)
    have e4 : IntKind.i64.wrap (8 * ((p.toNat / 8 + j : Nat) : Int) + (b : Int)) = 8 * ((p.toNat / 8 + j : Nat) : Int) + (b : Int) := i64_of (by omega) (by omega)
    (conv => whnf)
    (repeat' (first | (refine step_t (by first | rfl | assumption) ?_; (conv => whnf)) | (refine step_f (by first | rfl | assumption) ?_; (conv => whnf)) | (refine step_nt (by assumption) ?_; (conv => whnf)) | (refine step_nf (by assumption) ?_; (conv => whnf)) | (refine step_n (fun hb => ?_) (fun hb => ?_) <;> (first | contradiction | (conv => whnf))) | (refine And.intro (fun hb => ?_) (fun hb => ?_) <;> (first | contradiction | (conv => whnf))) | (refine And.intro ?_ ?_; rotate_left 1; (conv => whnf))))
    all_goals (simp only [Int.toNat_natCast, e2, e4, e3] at *)
    all_goals try first
      | (refine decide_eq_true ?_; omega)
      | (rw [Bool.and_eq_true]; exact ⟨decide_eq_true (by omega), decide_eq_true (by omega)⟩)
      | rfl
      | (have hlt8 : b < 8 := by
           have h9 : decide ((b : Int) < 8) = true := by assumption
           have := of_decide_eq_true h9
           omega
         refine ⟨8 - (b + 1), [.mix 37 [.arr 11 12 (gOf eA f.R), .arr 64 14 (gOf eS f.S), .int .i64 f.ids], .cells 4 [.ff], .cells 3 [.int .i64 p], .cells 3 [.int .i64 n], lpOf [] (bodyOf Tryz.f38) [frv f, .int .i64 p, .int .i64 n, .ptr 0 0, .tup [], .tup [], .ptr 1 0, .tup [], .tup [], .int .i64 p, .int .i64 n, .fn (.func 139) [] [.ptr 2 0, .ptr 3 0], .tup [], .tup [], .tup [], .tup [], .tup [], .tup [], .tup [], .tup [], .tup [], .tup []]], [0, 1, 2, 3, 4], by omega, rfl, mle_cons ble_refl (mle_cons ble_refl (mle_cons ble_refl (mle_cons ble_refl (mle_cons ble_refl mle_nil)))), rfl, rfl, b + 1, by omega, rfl, ?_, rfl⟩
         have e5 : IntKind.i64.wrap ((b : Int) + 1) = ((b + 1 : Nat) : Int) := i64_of (by omega) (by omega)
         first
         | rw [F.mk_1 (by assumption), ← e5]; rfl
         | rw [F.mk_2 (by assumption), ← e5]; rfl
         | rw [F.mk_3 (by assumption) (by assumption), ← e5]; rfl)
    all_goals (
      have hb8' : b = 8 := by
        have h9 : decide ((b : Int) < 8) = false := by assumption
        have := of_decide_eq_false h9
        omega
      subst hb8'
      first
      | exact (F.ready_no hjlt (by assumption)).symm
      | exact F.ready_no hjlt (by assumption)
      | exact (F.ready_no' hjlt (by assumption)).symm
      | exact F.ready_no' hjlt (by assumption)
      | (refine ⟨F.cnt p n - (j + 1), [.mix 37 [.arr 11 12 (gOf eA f.R), .arr 64 14 (gOf eS f.S), .int .i64 f.ids], .cells 4 [.ff], .cells 3 [.int .i64 p], .cells 3 [.int .i64 n], lpOf [] (bodyOf Tryz.f38) [frv f, .int .i64 p, .int .i64 n, .ptr 0 0, .tup [], .tup [], .ptr 1 0, .tup [], .tup [], .int .i64 p, .int .i64 n, .fn (.func 139) [] [.ptr 2 0, .ptr 3 0], .tup [], .tup [], .tup [], .tup [], .tup [], .tup [], .tup [], .tup [], .tup [], .tup []]], [0, 1, 2, 3, 4], by omega, rfl, mle_cons ble_refl (mle_cons ble_refl (mle_cons ble_refl (mle_cons ble_refl (mle_cons ble_refl mle_nil)))), rfl, rfl, j + 1, by omega, rfl, (by first | exact F.rdy_go hrd (by assumption) | exact F.rdy_go' hrd (by assumption)), ?_, rfl⟩
         show [SV.yld 4, .ptr 2 0, .ptr 3 0, .int .i64 (IntKind.i64.wrap (((p.toNat / 8 + j : Nat) : Int) + 1))] = _
         rw [i64_of (n := ((p.toNat / 8 + j : Nat) : Int) + 1) (by omega) (by omega)]; rfl))
  all_goals (
    first
    | rfl
    | trivial
    | (rw [e1, e3] at hb
       have hjc := cnt_ge hp hn hj (of_decide_eq_false hb)
       have hr : F.ready f p n = true := by
         show F.rdy f.S p n (p.toNat / 8) (F.cnt p n) = true
         rw [← hjc]; exact hrd
       first | exact hr | exact hr.symm))
def k_fready : List SV → List Blk → Res := fun args _ => match args with
  | [.mix [.arr 11 12 g, .arr 64 14 h, .int .i64 ids], .int .i64 p, .int .i64 n] => .test ((frB g h && (decide (0 ≤ p) && (decide (1 ≤ n) && (decide (n ≤ 512) && decide (p + n ≤ 512)))))) (.ok (.bool (F.ready (frD g h ids) p n)) [])
  | _ => .fail
theorem k_fready_ok : CtrOk Tryz.prog Gw 38 k_fready := by
  refine ⟨fun _ _ => by kernel_rfl, fun args M => ?_⟩
  unfold k_fready
  split
  · rename_i g h ids p n
    intro ht
    rw [Bool.and_eq_true] at ht
    obtain ⟨hfr, ht⟩ := ht
    exact ctr_fr (Γ := ⟨[(89, k_fset)], eqs, [], [(88, Tryz.f88, []), (139, Tryz.f139, [])], [], mixs, meqs⟩) (sv := .bool (F.ready (frD g h ids) p n)) st_Gw ⟨(okCons k_fset_ok okNil), eqs_ok, okNilB, (okConsI Tryz.func88 rfl (by kernel_rfl) (fun _ _ => by kernel_rfl) (okConsI Tryz.func139 rfl (by kernel_rfl) (fun _ _ => by kernel_rfl) okNilI)), okNilP, mixs_ok, meqs_ok⟩ Tryz.func38 rfl mixed [] (by kernel_rfl) 10000 (rest := [.int .i64 p, .int .i64 n]) hfr rfl (ready_run _ (frD_wf hfr) p n (ft_of ht).1 (ft_of ht).2.1 (ft_of ht).2.2.1 (ft_of ht).2.2.2)
  · trivial
end Go.Proofs.YtgfemfgimefmeaaGreat
namespace Go.Proofs.YtgfemfgimefmeaaGreat
open Go.RowKit Go.Sx
set_option linter.unusedSimpArgs false
set_option linter.unusedVariables false
set_option linter.unnecessarySimpa false
set_option maxRecDepth 100000
set_option maxHeartbeats 4000000
theorem wrap_neg {x : Int} (h0 : -512 ≤ x) (h1 : x ≤ 0) : IntKind.i64.wrap (0 - x) = -x := by rw [i64_of (by omega) (by omega)]; omega
namespace F
def none : Fr := ⟨List.replicate 11 V.zero, List.replicate 64 noSl, 0⟩
/-- The frame, where a number is put down whole, touched or refused. -/
def store (f : Fr) (off n : Int) (a : Ab) : Fr × Int :=
  if right f = false then (none, 2) else if V.right a = false then (none, 2) else if (a.k == 0) = true then (none, 2) else if word n = false then (none, 2)
  else if (within off n).2 = false then (none, 32)
  else if (n == 8) = true then
    (if ((within off n).1.tmod 8 == 0) = true then
      (if decide (f.ids < a.id) = true then (none, 2) else (⟨f.R, f.S.set ((within off n).1.toNat / 8) ⟨true, 0, a⟩, f.ids⟩, 0))
    else if (a.k == 1) = false then (none, 31) else (touch f (within off n).1 n, 0))
  else if (a.k == 1) = false then (none, 31) else (touch f (within off n).1 n, 0)
def part (s : Sl) (r n : Int) (sg : Bool) : Ab :=
  V.number (C.low (if s.w = true then (if (C.one s.a.n).2 = true then (if decide (IntKind.i64.wrap (r + n) ≤ 8) = true then C.const ((C.one s.a.n).1 >>> (IntKind.i64.wrap (8 * r)).toNat) else C.unknown) else C.unknown) else C.unknown) n sg).1
/-- What is read back, and why not. -/
def load (f : Fr) (off n : Int) (sg : Bool) : Ab × Int :=
  if right f = false then (V.zero, 2) else if word n = false then (V.zero, 2)
  else if (within off n).2 = false then (V.zero, 32)
  else if (n == 8) = true then
    (if ((within off n).1.tmod 8 == 0) = true then
      (if (f.S.getD ((within off n).1.toNat / 8) noSl).w = true then ((f.S.getD ((within off n).1.toNat / 8) noSl).a, 0)
      else if ready f (within off n).1 n = false then (V.zero, 30) else (part (f.S.getD ((within off n).1.toNat / 8) noSl) ((within off n).1.tmod 8) n sg, 0))
    else if ready f (within off n).1 n = false then (V.zero, 30) else (part (f.S.getD ((within off n).1.toNat / 8) noSl) ((within off n).1.tmod 8) n sg, 0))
  else if ready f (within off n).1 n = false then (V.zero, 30) else (part (f.S.getD ((within off n).1.toNat / 8) noSl) ((within off n).1.tmod 8) n sg, 0)
/-- May bytes be touched, and where do they begin? -/
def may (f : Fr) (off n : Int) : Int × Int :=
  if right f = false then (0, 2) else if decide (n < 1) = true then (0, 2) else if decide (512 < n) = true then (0, 2)
  else if (within off n).2 = false then (0, 32) else ((within off n).1, 0)
def asks (f : Fr) (off n : Int) : Int :=
  if (may f off n).2 == 0 then (if ready f (may f off n).1 n = false then 30 else (may f off n).2) else (may f off n).2
def fill (f : Fr) (off n : Int) : Fr × Int :=
  if (may f off n).2 == 0 then (touch f (may f off n).1 n, 0) else (none, (may f off n).2)
theorem word_in {n : Int} (h : word n = true) : 1 ≤ n ∧ n ≤ 8 := by
  simp only [word, Bool.or_eq_true, beq_iff_eq] at h; omega
theorem within_in {off n : Int} (h : (within off n).2 = true) (hn : 1 ≤ n) : (within off n).1 = 512 + off ∧ -512 ≤ off ∧ off + n ≤ 0 := by
  unfold within at *
  by_cases h1 : off < -512
  · rw [decide_eq_true h1] at h; exact absurd h (by simp)
  by_cases h2 : 0 < off
  · rw [decide_eq_true h2, decide_eq_false h1] at h; exact absurd h (by simp)
  by_cases h3 : IntKind.i64.wrap (0 - off) < n
  · rw [decide_eq_true h3, decide_eq_false h1, decide_eq_false h2] at h; exact absurd h (by simp)
  rw [decide_eq_false h1, decide_eq_false h2, decide_eq_false h3]
  rw [wrap_neg (by omega) (by omega)] at h3
  refine ⟨?_, by omega, by omega⟩
  show IntKind.i64.wrap (512 + off) = _
  exact i64_of (by omega) (by omega)
theorem none_wf : none.wf := ⟨rfl, rfl, rfl, rfl⟩
theorem gOf_none {α : Type} (e : Enc α) (x : α) {n : Nat} : ∀ i, i < n → e.enc x = gOf e (List.replicate n x) i := by
  intro i hi
  show e.enc x = e.enc ((List.replicate n x).getD i e.dft)
  rw [List.getD_eq_getElem?_getD, List.getElem?_replicate, if_pos hi]; rfl
theorem zero_R : ∀ i, i < 11 → eA.enc V.zero = gOf eA none.R i := gOf_none eA V.zero
theorem zero_S : ∀ i, i < 64 → eS.enc noSl = gOf eS none.S i := gOf_none eS noSl
end F
theorem eqv_fr {g h : Nat → List FV} {ids : Int} {X : Fr} (h1 : ∀ i, i < 11 → g i = gOf eA X.R i) (h2 : ∀ i, i < 64 → h i = gOf eS X.S i) (h3 : ids = X.ids) : eqv2 (.mix [.arr 11 12 g, .arr 64 14 h, .int .i64 ids]) (frv X) := by
  subst h3
  refine ⟨⟨rfl, rfl, h1⟩, ⟨rfl, rfl, h2⟩, ⟨rfl, rfl, ?_⟩, trivial⟩
  simp [eqv1]
theorem two_fr {x : SV} {k : Fr × Int} {X : Fr} {c : Int} (h : k = (X, c)) (hx : eqv2 x (frv X)) : eqv2 x (frv k.1) ∧ eqvL2 [.int .i64 c] [.int .i64 k.2] := by
  subst h
  exact ⟨hx, by simp [eqvL2, eqv2, eqv1]⟩
theorem two_no {k : Fr × Int} {c : Int} (h : k = (F.none, c)) : eqv2 (.mix [.arr 11 12 (fun _ => [.int .u8 0, .u64 (BitVec.ofInt 64 0), .u64 (BitVec.ofInt 64 0), .u64 (BitVec.ofInt 64 0), .u64 (BitVec.ofInt 64 0), .int .i64 0, .int .i64 0, .int .i64 0, .int .i64 0, .int .i64 0, .int .i64 0, .bool false]), .arr 64 14 (fun _ => .bool false :: .int .u8 0 :: [.int .u8 0, .u64 (BitVec.ofInt 64 0), .u64 (BitVec.ofInt 64 0), .u64 (BitVec.ofInt 64 0), .u64 (BitVec.ofInt 64 0), .int .i64 0, .int .i64 0, .int .i64 0, .int .i64 0, .int .i64 0, .int .i64 0, .bool false]), .int .i64 0]) (frv k.1) ∧ eqvL2 [.int .i64 c] [.int .i64 k.2] := two_fr h (eqv_fr F.zero_R F.zero_S rfl)
theorem two_same {k : Fr × Int} {X : Fr} {c : Int} (h : k = (X, c)) : eqv2 (.mix [.arr 11 12 (gOf eA X.R), .arr 64 14 (gOf eS X.S), .int .i64 X.ids]) (frv k.1) ∧ eqvL2 [.int .i64 c] [.int .i64 k.2] := two_fr h (eqv_fr (fun _ _ => rfl) (fun _ _ => rfl) rfl)
theorem store_run (f : Fr) (hf : f.wf) (off n : Int) (ak : Int) (av am alo ahi : BitVec 64) (asl ash aof amp aid arm : Int) (anu : Bool) (ha : R.inS ⟨alo, ahi, asl, ash⟩ = true) : run Tryz.prog ⟨[(12, k_fRight), (35, k_vRight), (36, k_fword), (34, k_fwithin), (37, k_ftouch)], eqs, [], [], [], mixs, meqs⟩ 10000 [] 0 (bodyOf Tryz.f10) (initF Tryz.f10 [frv f, .int .i64 off, .int .i64 n, .agg [.int .u8 ak, .u64 av, .u64 am, .u64 alo, .u64 ahi, .int .i64 asl, .int .i64 ash, .int .i64 aof, .int .i64 amp, .int .i64 aid, .int .i64 arm, .bool anu]]) [] (retK Tryz.prog Tryz.f10 fun x _ => eqv x (.tup [frv (F.store f off n (⟨ak, (⟨⟨av, am⟩, ⟨alo, ahi, asl, ash⟩⟩ : Sc), aof, amp, aid, arm, anu⟩ : Ab)).1, .int .i64 (F.store f off n (⟨ak, (⟨⟨av, am⟩, ⟨alo, ahi, asl, ash⟩⟩ : Sc), aof, amp, aid, arm, anu⟩ : Ab)).2])) := by
  (conv => whnf)
  (repeat' (first | (refine step_t (by first | rfl | assumption) ?_; (conv => whnf)) | (refine step_f (by first | rfl | assumption) ?_; (conv => whnf)) | (refine step_nt (by assumption) ?_; (conv => whnf)) | (refine step_nf (by assumption) ?_; (conv => whnf)) | (refine step_n (fun hb => ?_) (fun hb => ?_) <;> (first | contradiction | (conv => whnf))) | (refine And.intro (fun hb => ?_) (fun hb => ?_) <;> (first | contradiction | (conv => whnf))) | (refine And.intro (a := (_ : Bool) = true) ?_ ?_; rotate_left 1; (conv => whnf))))
  all_goals (try simp only [frD_of hf] at *)
  all_goals try first
    | exact frB_of hf
    | exact ha
    | exact (rfl : ((8 : Int) != 0) = true)
    | rfl
    | exact two_no (by simp only [F.store, *, ↓reduceIte, Bool.true_eq_false, Bool.false_eq_true])
    | exact two_same (by simp only [F.store, *, ↓reduceIte, Bool.true_eq_false, Bool.false_eq_true])
  all_goals (
    have hw := F.word_in (n := n) (by assumption)
    obtain ⟨q1, q2, q3⟩ := F.within_in (off := off) (n := n) (by assumption) hw.1
    have e8 := quo8 (p := (F.within off n).1) (by omega) (by omega))
  all_goals first
    | (rw [e8, Int.toNat_natCast]; exact decide_eq_true (by omega))
    | (rw [e8, Int.toNat_natCast, Bool.and_eq_true]; exact ⟨decide_eq_true (by omega), decide_eq_true (by omega)⟩)
    | (rw [frB_of hf]
       simp only [Bool.true_and, Bool.and_eq_true, decide_eq_true_eq]
       omega)
    | (refine two_fr (X := ⟨f.R, f.S.set ((F.within off n).1.toNat / 8) ⟨true, 0, (⟨ak, (⟨⟨av, am⟩, ⟨alo, ahi, asl, ash⟩⟩ : Sc), aof, amp, aid, arm, anu⟩ : Ab)⟩, f.ids⟩) (by clear q1 q2 q3 e8 hw; simp only [F.store, *, ↓reduceIte, Bool.true_eq_false, Bool.false_eq_true]) (eqv_fr (fun _ _ => rfl) (fun i hi => ?_) rfl)
       rw [e8, Int.toNat_natCast]
       exact (gSet_gOf eS (L := f.S) (i := (F.within off n).1.toNat / 8) (a := ⟨true, 0, (⟨ak, (⟨⟨av, am⟩, ⟨alo, ahi, asl, ash⟩⟩ : Sc), aof, amp, aid, arm, anu⟩ : Ab)⟩) (by rw [hf.s]; omega) rfl rfl i (by rw [hf.s]; exact hi)).symm)
def k_fStore : List SV → List Blk → Res := fun args _ => match args with
  | [.mix [.arr 11 12 g, .arr 64 14 h, .int .i64 ids], .int .i64 off, .int .i64 n, .agg [.int .u8 ak, .u64 av, .u64 am, .u64 alo, .u64 ahi, .int .i64 asl, .int .i64 ash, .int .i64 aof, .int .i64 amp, .int .i64 aid, .int .i64 arm, .bool anu]] => .test ((frB g h && (R.inS ⟨alo, ahi, asl, ash⟩))) (.ok (.tup [frv (F.store (frD g h ids) off n (⟨ak, (⟨⟨av, am⟩, ⟨alo, ahi, asl, ash⟩⟩ : Sc), aof, amp, aid, arm, anu⟩ : Ab)).1, .int .i64 (F.store (frD g h ids) off n (⟨ak, (⟨⟨av, am⟩, ⟨alo, ahi, asl, ash⟩⟩ : Sc), aof, amp, aid, arm, anu⟩ : Ab)).2]) [])
  | _ => .fail
theorem k_fStore_ok : CtrOk Tryz.prog Gw 10 k_fStore := by
  refine ⟨fun _ _ => by kernel_rfl, fun args M => ?_⟩
  unfold k_fStore
  split
  · rename_i g h ids off n ak av am alo ahi asl ash aof amp aid arm anu
    intro ht
    rw [Bool.and_eq_true] at ht
    obtain ⟨hfr, ht⟩ := ht
    exact ctr_fr (Γ := ⟨[(12, k_fRight), (35, k_vRight), (36, k_fword), (34, k_fwithin), (37, k_ftouch)], eqs, [], [], [], mixs, meqs⟩) (sv := .tup [frv (F.store (frD g h ids) off n (⟨ak, (⟨⟨av, am⟩, ⟨alo, ahi, asl, ash⟩⟩ : Sc), aof, amp, aid, arm, anu⟩ : Ab)).1, .int .i64 (F.store (frD g h ids) off n (⟨ak, (⟨⟨av, am⟩, ⟨alo, ahi, asl, ash⟩⟩ : Sc), aof, amp, aid, arm, anu⟩ : Ab)).2]) st_Gw ⟨(okCons k_fRight_ok (okCons k_vRight_ok (okCons k_fword_ok (okCons k_fwithin_ok (okCons k_ftouch_ok okNil))))), eqs_ok, okNilB, okNilI, okNilP, mixs_ok, meqs_ok⟩ Tryz.func10 rfl mixed [] (by kernel_rfl) 10000 (rest := [.int .i64 off, .int .i64 n, .agg [.int .u8 ak, .u64 av, .u64 am, .u64 alo, .u64 ahi, .int .i64 asl, .int .i64 ash, .int .i64 aof, .int .i64 amp, .int .i64 aid, .int .i64 arm, .bool anu]]) hfr rfl (store_run _ (frD_wf hfr) off n ak av am alo ahi asl ash aof amp aid arm anu ht)
  · trivial
end Go.Proofs.YtgfemfgimefmeaaGreat
