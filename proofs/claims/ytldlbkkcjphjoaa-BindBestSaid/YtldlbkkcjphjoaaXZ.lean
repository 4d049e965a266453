import Derived.Test.YtldlbkkcjphjoaaXG
import Derived.Test.YtldlbkkcjphjoaaCelO
namespace Go.Proofs.Ytldlbkkcjphjoaa
open Go.RowKit Go.Sx
set_option linter.unusedSimpArgs false
set_option linter.unusedVariables false
set_option linter.unnecessarySimpa false
set_option maxRecDepth 100000
set_option maxHeartbeats 4000000
open Go.ChangeShapes Go.WideShapes Go.Deep
section
variable {H : Type} {enc : TypeId × Value → H} {W : World}
theorem ty_A : ∃ f0 f1 f2 f3 : Field, Try.prog.underlying 51 = some (.struct #[f0, f1, f2, f3]) ∧ (f0.offset = 0 ∧ f1.offset = 1 ∧ f2.offset = 2 ∧ f3.offset = 3) ∧ (Try.prog.cellsOf f0.type = 1 ∧ Try.prog.cellsOf f1.type = 1 ∧ Try.prog.cellsOf f2.type = 1 ∧ Try.prog.cellsOf f3.type = 1) ∧
    Try.prog.underlying f0.type = some (.int .u8) ∧ Try.prog.underlying f1.type = some (.int .i64) ∧ Try.prog.underlying f2.type = some (.int .i64) ∧ f3.type = 49 :=
  ⟨_, _, _, _, Try.underlying51, ⟨rfl, rfl, rfl, rfl⟩, ⟨by kernel_rfl, by kernel_rfl, by kernel_rfl, by kernel_rfl⟩, by kernel_rfl, by kernel_rfl, by kernel_rfl, rfl⟩
theorem ty_H : ∃ f0 f1 f2 f3 f4 f5 : Field, Try.prog.underlying 29 = some (.struct #[f0, f1, f2, f3, f4, f5]) ∧ (f0.offset = 0 ∧ f1.offset = 1 ∧ f2.offset = 2 ∧ f3.offset = 3 ∧ f4.offset = 4 ∧ f5.offset = 5) ∧ (Try.prog.cellsOf f0.type = 1 ∧ Try.prog.cellsOf f1.type = 1 ∧ Try.prog.cellsOf f2.type = 1 ∧ Try.prog.cellsOf f3.type = 1 ∧ Try.prog.cellsOf f4.type = 1 ∧ Try.prog.cellsOf f5.type = 4) ∧
    Try.prog.underlying f0.type = some (.int .i64) ∧ Try.prog.underlying f1.type = some (.int .i64) ∧ Try.prog.underlying f2.type = some (.int .i64) ∧ Try.prog.underlying f3.type = some (.int .u8) ∧ f4.type = 24 ∧ f5.type = 27 :=
  ⟨_, _, _, _, _, _, Try.underlying29, ⟨rfl, rfl, rfl, rfl, rfl, rfl⟩, ⟨by kernel_rfl, by kernel_rfl, by kernel_rfl, by kernel_rfl, by kernel_rfl, by kernel_rfl⟩, by kernel_rfl, by kernel_rfl, by kernel_rfl, by kernel_rfl, rfl, rfl⟩
theorem ty_P : ∃ f0 f1 f2 f3 f4 f5 : Field, Try.prog.underlying 35 = some (.struct #[f0, f1, f2, f3, f4, f5]) ∧ (f0.offset = 0 ∧ f1.offset = 1 ∧ f2.offset = 2 ∧ f3.offset = 3 ∧ f4.offset = 4 ∧ f5.offset = 5) ∧ (Try.prog.cellsOf f0.type = 1 ∧ Try.prog.cellsOf f1.type = 1 ∧ Try.prog.cellsOf f2.type = 1 ∧ Try.prog.cellsOf f3.type = 1 ∧ Try.prog.cellsOf f4.type = 1 ∧ Try.prog.cellsOf f5.type = 1) ∧
    Try.prog.underlying f0.type = some .string ∧ Try.prog.underlying f1.type = some (.int .i64) ∧ f2.type = 32 ∧ f3.type = 33 ∧ Try.prog.underlying f4.type = some (.int .i64) ∧ Try.prog.underlying f5.type = some (.int .i64) :=
  ⟨_, _, _, _, _, _, Try.underlying35, ⟨rfl, rfl, rfl, rfl, rfl, rfl⟩, ⟨by kernel_rfl, by kernel_rfl, by kernel_rfl, by kernel_rfl, by kernel_rfl, by kernel_rfl⟩, by kernel_rfl, by kernel_rfl, rfl, rfl, by kernel_rfl, by kernel_rfl⟩
theorem reads_B : Reads enc Try.prog W 63 1 cB (fun _ => true) := by
  refine ⟨by kernel_rfl, Nat.le_refl _, by decide +kernel, fun n cs x h => ?_⟩
  obtain ⟨k, rfl, _⟩ := DataW.trod_int (k := .u8) (by kernel_rfl) h
  exact ⟨k, [.int .u8 k], rfl, ⟨rfl, fun x hx => by simp at hx; subst hx; rfl⟩, RepL.refl rfl, fun _ => rfl⟩
theorem reads_A : Reads enc Try.prog W 51 4 cA (Ag.atMost 140737488355328) := by
  refine ⟨by kernel_rfl, by omega, by decide +kernel, fun n cs x h => ?_⟩
  obtain ⟨f0, f1, f2, f3, hu, ⟨o0, o1, o2, o3⟩, ⟨c0, c1, c2, c3⟩, u0, u1, u2, t3⟩ := ty_A
  obtain ⟨xs, n', rfl, rfl, hl, hxl, hf⟩ := DataW.trod_struct hu h
  rw [show Try.prog.cellsOf 51 = 4 by kernel_rfl] at hl
  match cs, hl with
  | [v0, v1, v2, v3], _ =>
  have hxl' : xs.length = 4 := hxl
  match xs, hxl' with
  | [y0, y1, y2, y3], _ =>
  have g0 := hf 0 f0 rfl
  have g1 := hf 1 f1 rfl
  have g2 := hf 2 f2 rfl
  have g3 := hf 3 f3 rfl
  rw [o0, c0] at g0; rw [o1, c1] at g1; rw [o2, c2] at g2; rw [o3, c3, t3] at g3
  obtain ⟨k0, e0, _⟩ := DataW.trod_int u0 g0
  obtain ⟨k1, e1, _⟩ := DataW.trod_int u1 g1
  obtain ⟨k2, e2, _⟩ := DataW.trod_int u2 g2
  simp only [List.drop_zero, List.take_succ_cons, List.take_zero, List.drop_succ_cons, List.cons.injEq, and_true] at e0 e1 e2
  subst e0 e1 e2
  obtain ⟨L, hL, hw⟩ := rows_of (tS := 49) (e := 63) (by kernel_rfl) reads_B g3
  refine ⟨⟨k0, k1, k2, L⟩, [.int .u8 k0, .int .i64 k1, .int .i64 k2, .val v3], rfl, ⟨rfl, fun x hx => ?_⟩, repL_cons (.flat rfl) (repL_cons (.flat rfl) (repL_cons (.flat rfl) (repL_cons hL repL_nil))), fun hq => ?_⟩
  · simp only [List.mem_cons, List.not_mem_nil, or_false] at hx
    rcases hx with rfl | rfl | rfl | rfl
    · rfl
    · rfl
    · rfl
    · exact rep_one hL
  · simp only [List.map_cons, List.map_nil, DataW.weights, hu, DataW.weightsEach, t3] at hq
    have := (hw fun q h => hq q (by simp [h])).1
    simpa [Ag.atMost] using this
theorem reads_H : Reads enc Try.prog W 29 9 cH (Hp.atMost 140737488355328) := by
  refine ⟨by kernel_rfl, by omega, by decide +kernel, fun n cs x h => ?_⟩
  obtain ⟨f0, f1, f2, f3, f4, f5, hu, ⟨o0, o1, o2, o3, o4, o5⟩, ⟨c0, c1, c2, c3, c4, c5⟩, u0, u1, u2, u3, t4, t5⟩ := ty_H
  obtain ⟨xs, n', rfl, rfl, hl, hxl, hf⟩ := DataW.trod_struct hu h
  rw [show Try.prog.cellsOf 29 = 9 by kernel_rfl] at hl
  match cs, hl with
  | [v0, v1, v2, v3, v4, v5, v6, v7, v8], _ =>
  have hxl' : xs.length = 6 := hxl
  match xs, hxl' with
  | [y0, y1, y2, y3, y4, y5], _ =>
  have g0 := hf 0 f0 rfl
  have g1 := hf 1 f1 rfl
  have g2 := hf 2 f2 rfl
  have g3 := hf 3 f3 rfl
  have g4 := hf 4 f4 rfl
  have g5 := hf 5 f5 rfl
  rw [o0, c0] at g0; rw [o1, c1] at g1; rw [o2, c2] at g2; rw [o3, c3] at g3; rw [o4, c4, t4] at g4; rw [o5, c5, t5] at g5
  obtain ⟨k0, e0, _⟩ := DataW.trod_int u0 g0
  obtain ⟨k1, e1, _⟩ := DataW.trod_int u1 g1
  obtain ⟨k2, e2, _⟩ := DataW.trod_int u2 g2
  obtain ⟨k3, e3, _⟩ := DataW.trod_int u3 g3
  simp only [List.drop_zero, List.take_succ_cons, List.take_zero, List.drop_succ_cons, List.cons.injEq, and_true] at e0 e1 e2 e3
  subst e0 e1 e2 e3
  obtain ⟨l, hle, r0, m0, rfl, _, r1, m1, rfl, _, r2, m2, rfl, _, r3, m3, rfl, _, rfl⟩ := flatT_ok 4 n' 27 [.int .u8, .int .i64, .int .i64, .int .i64] _ _ (by kernel_rfl) g5
  simp only [List.drop_zero, List.take_succ_cons, List.take_zero, List.drop_succ_cons, List.map_cons, List.map_nil, FV.den, List.cons.injEq, and_true] at hle
  obtain ⟨rfl, rfl, rfl, rfl⟩ := hle
  obtain ⟨L, hL, hw⟩ := rows_of (tS := 24) (e := 51) (by kernel_rfl) reads_A g4
  refine ⟨⟨k0, k1, k2, k3, L, r0, r1, r2, r3⟩, [.int .i64 k0, .int .i64 k1, .int .i64 k2, .int .u8 k3, .val v4, .int .u8 r0, .int .i64 r1, .int .i64 r2, .int .i64 r3], rfl, ⟨rfl, fun x hx => ?_⟩, repL_cons (.flat rfl) (repL_cons (.flat rfl) (repL_cons (.flat rfl) (repL_cons (.flat rfl) (repL_cons hL (RepL.refl rfl))))), fun hq => ?_⟩
  · simp only [List.mem_cons, List.not_mem_nil, or_false] at hx
    rcases hx with rfl | rfl | rfl | rfl | rfl | rfl | rfl | rfl | rfl
    · rfl
    · rfl
    · rfl
    · rfl
    · exact rep_one hL
    · rfl
    · rfl
    · rfl
    · rfl
  · simp only [List.map_cons, List.map_nil, DataW.weights, hu, DataW.weightsEach, t4] at hq
    obtain ⟨a1, a2⟩ := hw fun q h => hq q (by simp [h])
    simp only [Hp.atMost, Bool.and_eq_true, decide_eq_true_eq]
    exact ⟨a1, a2⟩
def cF : Cel Fd := eF.toCel fun _ => rfl
def cN : Cel Nd := eN.toCel fun _ => rfl
theorem reads_F : Reads enc Try.prog W 85 4 cF (fun _ => true) :=
  reads_flat (ks := [.int .i64, .int .i64, .int .u8, .bool]) 4 (by kernel_rfl) (by kernel_rfl) (by decide) (by decide +kernel) fun l h => by
    obtain ⟨a, m0, rfl, _, b, m1, rfl, _, c, m2, rfl, _, d, m3, rfl, rfl⟩ := h
    exact ⟨⟨a, b, c, d⟩, rfl⟩
theorem reads_N : Reads enc Try.prog W 31 3 cN (fun _ => true) :=
  reads_flat (ks := [.int .i64, .int .i64, .int .i64]) 4 (by kernel_rfl) (by kernel_rfl) (by decide) (by decide +kernel) fun l h => by
    obtain ⟨a, m0, rfl, _, b, m1, rfl, _, c, m2, rfl, _, rfl⟩ := h
    exact ⟨⟨a, b, c⟩, rfl⟩
/-- A type's value. -/
theorem open_P {n : Nat} {cs : List Value} {x : DataW H × List MemPlace} (h : DataW.trod enc Try.prog W 0 (fun _ => true) true n 35 cs = some x) :
    ∃ (nm : ByteArray) (cx lo hi : Int) (fl : List Fd) (ns : List Nd) (v2 v3 : Value), cs = [.string nm, .int .i64 cx, v2, v3, .int .i64 lo, .int .i64 hi] ∧ Rep (Low W) W (.row 4 fl.length (cF.g fl)) (.val v2) ∧ Rep (Low W) W (.row 3 ns.length (cN.g ns)) (.val v3) ∧
      ((∀ q ∈ x.1.weights Try.prog 35, q ≤ reachBytes) → nm.size ≤ 140737488355328 ∧ fl.length ≤ 140737488355328 ∧ ns.length ≤ 140737488355328) := by
  obtain ⟨f0, f1, f2, f3, f4, f5, hu, ⟨o0, o1, o2, o3, o4, o5⟩, ⟨c0, c1, c2, c3, c4, c5⟩, u0, u1, t2, t3, u4, u5⟩ := ty_P
  obtain ⟨xs, n', rfl, rfl, hl, hxl, hf⟩ := DataW.trod_struct hu h
  rw [show Try.prog.cellsOf 35 = 6 by kernel_rfl] at hl
  match cs, hl with
  | [v0, v1, v2, v3, v4, v5], _ =>
  have hxl' : xs.length = 6 := hxl
  match xs, hxl' with
  | [y0, y1, y2, y3, y4, y5], _ =>
  have g0 := hf 0 f0 rfl
  have g1 := hf 1 f1 rfl
  have g2 := hf 2 f2 rfl
  have g3 := hf 3 f3 rfl
  have g4 := hf 4 f4 rfl
  have g5 := hf 5 f5 rfl
  rw [o0, c0] at g0; rw [o1, c1] at g1; rw [o2, c2, t2] at g2; rw [o3, c3, t3] at g3; rw [o4, c4] at g4; rw [o5, c5] at g5
  obtain ⟨nm, e0, x0, _⟩ := DataW.trod_string u0 g0
  obtain ⟨k1, e1, _⟩ := DataW.trod_int u1 g1
  obtain ⟨k4, e4, _⟩ := DataW.trod_int u4 g4
  obtain ⟨k5, e5, _⟩ := DataW.trod_int u5 g5
  simp only [List.drop_zero, List.take_succ_cons, List.take_zero, List.drop_succ_cons, List.cons.injEq, and_true] at e0 e1 e4 e5
  subst e0 e1 e4 e5
  obtain ⟨fl, hfl, hwf⟩ := rows_of (tS := 32) (e := 85) (by kernel_rfl) reads_F g2
  obtain ⟨ns, hns, hwn⟩ := rows_of (tS := 33) (e := 31) (by kernel_rfl) reads_N g3
  refine ⟨nm, k1, k4, k5, fl, ns, v2, v3, rfl, hfl, hns, fun hq => ?_⟩
  simp only [List.map_cons, List.map_nil, DataW.weights, hu, DataW.weightsEach, t2, t3, x0] at hq
  have h1 := (hwf fun q h => hq q (by simp [h])).1
  have h2 := (hwn fun q h => hq q (by simp [h])).1
  have h3 := hq nm.data.toList.length (List.mem_append_left _ (List.mem_singleton.2 rfl))
  unfold reachBytes at h3
  have h4 : nm.data.toList.length = nm.size := by rw [Array.length_toList]; rfl
  exact ⟨by omega, h1, h2⟩
end
/-- The statement's form, with the arguments' sizes handed on. -/
theorem returns_sized {H : Type} {enc : TypeId × Value → H} {a : Assume} {C : Checked} {os : Os} {f : FuncId} {fn : Func} {s : ChangeSpec} {conds : List PathCond} {apart fresh handsOn again : Bool}
    (own : ownKnob C.prog.godebug = none) (started : os.Started) (noInit : C.prog.inits.idxOf? f = none) (hfn : C.prog.funcs[f]? = some fn)
    (witness : ∃ (w : World) (tape : Tape) (i : Input), w.os = os ∧ (w.forCall tape i).Shaped C.prog ∧ i.vars = [] ∧ Input.okWide C.prog (w.forCall tape i) .any w.heap.size f i ∧
      s.pre6 enc C.prog fn conds apart (w.forCall tape i).memory i.args ∧ a.holds C.prog (lone (Frame.enter C.prog f i.args .normal) [] (w.forCall tape i)))
    (contract : ∀ (W : World) (base : Nat) (args : Array Value) (ds gs : List (DataW H)) (before : List MemPlace),
      (∀ (j : Nat) t v, fn.params[j]? = some t → args[j]? = some v → Value.okWide C.prog W .any base t v) →
      DataW.Whole enc C.prog fn.params.toList s.vars apart W args.toList ds gs before →
      (∀ q ∈ DataW.weightsEach C.prog (fn.params.toList ++ s.plain.varTypes C.prog) (ds ++ gs), q ≤ reachBytes) →
      Calls C.prog f args W fun e W' => ∃ v, e = .returned v ∧ s.post enc C.prog fn apart fresh handsOn again W args v W') :
    ReturnsInHanded a C os f .any (s.pre6 enc C.prog fn conds apart) (s.post enc C.prog fn apart fresh handsOn again) := by
  refine returnsInHanded_of_calls own started noInit witness fun w tape i _ _ _ hok hpre _ => ?_
  obtain ⟨_, _, _, fn', hfn', _, _, _, _, hval⟩ := hok
  obtain rfl : fn' = fn := Option.some.inj (hfn'.symm.trans hfn)
  obtain ⟨⟨ds, gs, before, hw, _⟩, hz⟩ := hpre
  have hq := hz.weights hw
  refine (contract (w.forCall tape i) w.heap.size i.args ds gs before hval (DataW.Whole.of_heap (w' := w.forCall tape i) (by rfl) hw) fun q hq' => ?_).mono fun e W' ⟨v, he, hp⟩ => ?_
  · have := List.all_eq_true.1 hq q hq'
    simpa using this
  · subst he
    exact ChangeSpec.post_blind hp
end Go.Proofs.Ytldlbkkcjphjoaa
