/- BindBest answers true, whatever its arguments are, and its arguments read behind the call as they did. Conditions: none. -/
import Derived.Test.YtldlbkkcjphjoaaXY
import Derived.Test.YtldlbkkcjphjoaaXZ
import Derived.Test.YtldlbkkcjphjoaaRows
import Derived.Lib.LaidTab
import Derived.LaidMore
import Derived.LaidLaws
import Derived.LaidHandle
import Derived.MakeChecks
import Derived.Stop.Joined
import Derived.ChangeSame
import Derived.ChangeVars
import Derived.JoinedOf
import Derived.ProofKit
import Derived.OpenShut
import Derived.ShutString
import Derived.SevenTiedAt
import Derived.Carry
namespace Go.Proofs.Ytldlbkkcjphjoaa.bindBest
open Go.ChangeShapes Go.WideShapes Go.ChangeAt Go.RowKit Go.Sx
open Go.ChangeMaps (open_string shut_string)
set_option linter.unusedVariables false
set_option linter.unusedSimpArgs false
theorem own : ownKnob Try.prog.godebug = none := by kernel_rfl

theorem repL_inv {z : Nat → Prop} {w : World} {x : FV} {l hs : List FV} (h : RepL z w (x :: l) hs) : ∃ y ys, hs = y :: ys ∧ Rep z w x y ∧ RepL z w l ys := by
  obtain ⟨hl, hr⟩ := h
  match hs, hl with
  | y :: ys, hl => exact ⟨y, ys, rfl, hr 0 x y rfl rfl, by simpa using hl, fun j a b ha hb => hr (j + 1) a b (by simpa using ha) (by simpa using hb)⟩
theorem repL_inv0 {z : Nat → Prop} {w : World} {hs : List FV} (h : RepL z w [] hs) : hs = [] := List.eq_nil_of_length_eq_zero h.1.symm
set_option maxRecDepth 100000 in
theorem lifted (os : Os) (started : os.Started) (H : Type) (enc : TypeId × Value → H) :
    ReturnsInHanded {} Try.checked os 3 .any (Rows.bindBestSpec.pre6 enc Try.prog Try.f3 [] false) (Rows.bindBestSpec.post enc Try.prog Try.f3 false true false false) := by
  refine returns_sized (C := Try.checked) own started (by kernel_rfl) Try.func3
    (ChangeSpec.witness6 (enc := enc) (C := Try.checked) (os := os) false ⟨#[], #[.slice none 0 0, .agg #[.int .i64 0, .int .i64 0, .int .i64 0, .int .u8 0, .slice none 0 0, .int .u8 0, .int .i64 0, .int .i64 0, .int .i64 0], .agg #[.int .i64 0, .int .i64 0, .int .i64 0], .agg #[.string ⟨#[]⟩, .int .i64 0, .slice none 0 0, .slice none 0 0, .int .i64 0, .int .i64 0]], []⟩ 8 (by kernel_rfl) (by kernel_rfl) (by kernel_rfl) (by kernel_rfl)) ?_
  intro W base args ds gs before hval0 hW hsz
  have hval : ∀ (j : Nat) t v, Try.f3.params[j]? = some t → args[j]? = some v → Value.okWide Try.prog W .any base t v := hval0
  have hW' := hW
  have hlt := DataW.Whole.lt hW
  obtain ⟨p, q, hA0, hV, rfl, hfz, hnd⟩ := hW
  have hA : DataW.TrodAll enc Try.prog W 0 (fun _ => true) true Try.f3.params.toList args.toList ds p := hA0
  rw [Try.params3] at hA hval
  obtain ⟨v0, vs0, d0, ds0, p0, q0, hargs, rfl, rfl, h0, r0⟩ := trodAll_cons hA
  obtain ⟨v1, vs1, d1, ds1, p1, q1, rfl, rfl, rfl, h1, r1⟩ := trodAll_cons r0
  obtain ⟨v2, vs2, d2, ds2, p2, q2, rfl, rfl, rfl, h2, r2⟩ := trodAll_cons r1
  obtain ⟨v3, vs3, d3, ds3, p3, q3, rfl, rfl, rfl, h3, r3⟩ := trodAll_cons r2
  obtain ⟨rfl, rfl, rfl⟩ := trodAll_nil r3
  obtain rfl : args = #[v0, v1, v2, v3] := by cases args; simp_all
  obtain ⟨rfl, rfl⟩ := trodVars_none hV
  clear hA0 hval0
  have g0 := h0
  have g1 := h1
  have g2 := h2
  have g3 := h3
  have hwt : (∀ q ∈ d0.weights Try.prog 22, q ≤ reachBytes) ∧ (∀ q ∈ d1.weights Try.prog 29, q ≤ reachBytes) ∧ (∀ q ∈ d3.weights Try.prog 35, q ≤ reachBytes) := by
    have key : ∀ q ∈ d0.weights Try.prog 22 ++ (d1.weights Try.prog 29 ++ (d2.weights Try.prog 31 ++ (d3.weights Try.prog 35 ++ []))), q ≤ reachBytes := fun q hq => hsz q (by
      rw [Try.params3]
      exact hq)
    exact ⟨fun q h => key q (by simp [h]), fun q h => key q (by simp [h]), fun q h => key q (by simp [h])⟩
  obtain ⟨hw0, hw1, hw3⟩ := hwt
  obtain ⟨n0, h0⟩ := h0
  rw [show v0.cells.toList = [v0] by rw [slice_cells' (t := 22) (e := 29) (by kernel_rfl) (hval 0 22 v0 rfl rfl)]] at h0
  obtain ⟨L, hL, hwL⟩ := rows_of (tS := 22) (e := 29) (by kernel_rfl) reads_H h0
  obtain ⟨hLl, hLw⟩ := hwL hw0
  obtain ⟨l0, e0, ok0⟩ := fz_of_rep hL
  injection e0 with e0
  obtain ⟨fa, fb, fc, fd, fe, ff, hu29, _⟩ := ty_H
  obtain ⟨c1, rfl, hc1⟩ := agg_of hu29 (hval 1 29 v1 rfl rfl)
  obtain ⟨n1, h1⟩ := h1
  rw [hc1] at h1
  obtain ⟨m, hs, hcs, _, hrep, hwm⟩ := reads_H.read n1 _ _ h1
  have hmw := hwm hw1
  obtain ⟨x0, t0, rfl, r0, hrep⟩ := repL_inv hrep
  obtain ⟨x1, t1, rfl, r1, hrep⟩ := repL_inv hrep
  obtain ⟨x2, t2, rfl, r2, hrep⟩ := repL_inv hrep
  obtain ⟨x3, t3, rfl, r3, hrep⟩ := repL_inv hrep
  obtain ⟨x4, t4, rfl, r4, hrep⟩ := repL_inv hrep
  obtain ⟨x5, t5, rfl, r5, hrep⟩ := repL_inv hrep
  obtain ⟨x6, t6, rfl, r6, hrep⟩ := repL_inv hrep
  obtain ⟨x7, t7, rfl, r7, hrep⟩ := repL_inv hrep
  obtain ⟨x8, t8, rfl, r8, hrep⟩ := repL_inv hrep
  obtain rfl := repL_inv0 hrep
  obtain rfl := r0.eq rfl
  obtain rfl := r1.eq rfl
  obtain rfl := r2.eq rfl
  obtain rfl := r3.eq rfl
  obtain rfl := r5.eq rfl
  obtain rfl := r6.eq rfl
  obtain rfl := r7.eq rfl
  obtain rfl := r8.eq rfl
  obtain ⟨l1, e1, ok1⟩ := fz_of_rep r4
  subst e1
  obtain ⟨k2, rfl, na, s0, rfl, _, nb, s1, rfl, _, nc, s2, rfl, _, rfl⟩ := open_flat [.int .i64, .int .i64, .int .i64] (by kernel_rfl) (hval 2 31 v2 rfl rfl)
  obtain ⟨ga, gb, gc, gd, ge, gf, hu35, _⟩ := ty_P
  obtain ⟨c3, rfl, hc3⟩ := agg_of hu35 (hval 3 35 v3 rfl rfl)
  obtain ⟨n3, h3⟩ := h3
  rw [hc3] at h3
  obtain ⟨nm, cx, lo, hi, fl, ns, y2, y3, hcs3, hfl, hns, hw35⟩ := open_P h3
  obtain ⟨hnm, hfll, hnsl⟩ := hw35 hw3
  obtain ⟨l2, e2, ok2⟩ := fz_of_rep hfl
  obtain ⟨l3, e3, ok3⟩ := fz_of_rep hns
  injection e2 with e2
  injection e3 with e3
  subst e2 e3
  simp only [List.append_nil] at hW' hlt
  let ρ : Val := ⟨fun i => match i with | 0 => l0 | 1 => l1 | 2 => l2 | 3 => l3 | _ => none, Low W⟩
  have hM : MRel ⟨W.heap.size, [], ρ.z⟩ ρ [.fz 9 L.length (cH.g L), .fz 4 m.args.length (cA.g m.args), .fz 4 fl.length (gOf eF fl), .fz 3 ns.length (gOf eN ns)] W := by
    refine mrel_ro (Nat.le_refl _) rfl (fun k hk hm => ?_) (fun k hk => hk) fun k b hb => ?_
    · rcases hm with hm | hm
      · cases hm
      · exact absurd hk (Nat.not_lt_of_le hm)
    · match k, hb with
      | 0, hb => obtain rfl := Option.some.inj hb; exact ⟨ok0 _ ρ 0 rfl rfl, rfl⟩
      | 1, hb => obtain rfl := Option.some.inj hb; exact ⟨ok1 _ ρ 1 rfl rfl, rfl⟩
      | 2, hb => obtain rfl := Option.some.inj hb; exact ⟨ok2 _ ρ 2 rfl rfl, rfl⟩
      | 3, hb => obtain rfl := Option.some.inj hb; exact ⟨ok3 _ ρ 3 rfl rfl, rfl⟩
      | k + 4, hb => simp at hb
  have hargs : (denL ρ [.sl 0 9 0 L.length, .agg [.int .i64 m.id, .int .i64 m.mj, .int .i64 m.mn, .int .u8 m.core, .sl 1 4 0 m.args.length, .int .u8 m.rk, .int .i64 m.rlo, .int .i64 m.rhi, .int .i64 m.rsz], .agg [.int .i64 na, .int .i64 nb, .int .i64 nc], .agg [.val (.string nm), .int .i64 cx, .sl 2 4 0 fl.length, .sl 3 3 0 ns.length, .int .i64 lo, .int .i64 hi]]).toArray = #[v0, .agg c1, .agg ([FV.int .i64 na, .int .i64 nb, .int .i64 nc].map FV.den).toArray, .agg c3] := by
    have h1' : c1 = c1.toList.toArray := by simp
    have h3' : c3 = c3.toList.toArray := by simp
    rw [h1', h3', hcs, hcs3, e0]
    rfl
  refine (hargs ▸ best_calls ρ L m ⟨na, nb, nc⟩ nm cx lo hi fl ns hLl hLw hmw hnm hfll hnsl hM).mono fun e W' ⟨he, g, hg⟩ => ?_
  subst he; subst hg
  exact ⟨_, rfl, _, _, _, [], _, [], hW', (trodAll_cons_mk (shut_bool Try.underlying4 _) trodAll_mk0), (trodAll_cons_mk (Below.trod (by kernel_rfl) (by kernel_rfl) (by decide +kernel) g0 (grow_below W g) (fun x hx => hlt x (by simp [hx]))) (trodAll_cons_mk (Below.trod (by kernel_rfl) (by kernel_rfl) (by decide +kernel) g1 (grow_below W g) (fun x hx => hlt x (by simp [hx]))) (trodAll_cons_mk (Below.trod (by kernel_rfl) (by kernel_rfl) (by decide +kernel) g2 (grow_below W g) (fun x hx => hlt x (by simp [hx]))) (trodAll_cons_mk (Below.trod (by kernel_rfl) (by kernel_rfl) (by decide +kernel) g3 (grow_below W g) (fun x hx => hlt x (by simp [hx]))) trodAll_mk0)))), rfl, (grow_below W g).frame _, fun h => by cases h⟩
theorem over : Rows.bindBestRow.holds Try.pinned (OpenSpec.ofChange Rows.bindBestSpec) :=
  OpenClaim.holds_of_wide 3 Try.f3 rfl rfl rfl rfl rfl rfl rfl ⟨rfl, rfl, rfl, rfl, rfl⟩ rfl rfl rfl rfl rfl (by kernel_rfl) Try.func3 (by kernel_rfl)
    (of_decide_eq_true (by kernel_rfl)) (by unfold Func.isWrapper; first | (rw [if_pos (by decide +kernel)]; kernel_rfl) | (rw [if_neg (by decide +kernel)]; exact ⟨rfl, rfl⟩))
    (fun os started H enc _ => lifted os started H enc)
/-- The statement. -/
theorem proved : Rows.BindBestSaid := over
#print axioms proved
end Go.Proofs.Ytldlbkkcjphjoaa.bindBest
