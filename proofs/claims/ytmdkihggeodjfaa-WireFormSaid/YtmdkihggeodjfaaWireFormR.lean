/- WireForm answers true, whatever its arguments are, and its arguments read behind the call as they did. Conditions: none. -/
import Derived.Test.YtmdkihggeodjfaaXRY
import Derived.Test.YtmdkihggeodjfaaRows
import Derived.Lib.LaidTab
import Derived.LaidMore
import Derived.LaidLaws
import Derived.LaidHandle
import Derived.MakeChecks
import Derived.Stop.Joined
import Derived.ChangeSame
import Derived.ChangeVars
import Derived.JoinedOf
import Derived.ProofKit
import Derived.OpenShut
import Derived.ShutString
import Derived.SevenTiedAt
import Derived.Carry
namespace Go.Proofs.Ytmdkihggeodjfaa.wireForm
open Go.ChangeShapes Go.WideShapes Go.ChangeAt Go.RowKit Go.Sx
open Go.ChangeMaps (open_string shut_string)
set_option linter.unusedVariables false
set_option linter.unusedSimpArgs false
theorem own : ownKnob Try.prog.godebug = none := by kernel_rfl
theorem treeTy : TreeTy Try.prog 28 22 24 5 :=
  ⟨⟨_, _, _, _, Try.underlying28, ⟨rfl, rfl, rfl, rfl⟩, ⟨by kernel_rfl, by kernel_rfl, by kernel_rfl, by kernel_rfl⟩, by kernel_rfl, by kernel_rfl, rfl, rfl⟩, by kernel_rfl, by kernel_rfl, by kernel_rfl, by kernel_rfl, by kernel_rfl, by decide +kernel, by decide +kernel⟩

theorem repL_inv {z : Nat → Prop} {w : World} {x : FV} {l hs : List FV} (h : RepL z w (x :: l) hs) : ∃ y ys, hs = y :: ys ∧ Rep z w x y ∧ RepL z w l ys := by
  obtain ⟨hl, hr⟩ := h
  match hs, hl with
  | y :: ys, hl => exact ⟨y, ys, rfl, hr 0 x y rfl rfl, by simpa using hl, fun j a b ha hb => hr (j + 1) a b (by simpa using ha) (by simpa using hb)⟩
theorem repL_inv0 {z : Nat → Prop} {w : World} {hs : List FV} (h : RepL z w [] hs) : hs = [] := List.eq_nil_of_length_eq_zero h.1.symm
set_option maxRecDepth 100000 in
theorem lifted (os : Os) (started : os.Started) (H : Type) (enc : TypeId × Value → H) :
    ReturnsInHanded {} Try.checked os 6 .any (Rows.wireFormSpec.pre6 enc Try.prog Try.f6 [] false) (Rows.wireFormSpec.post enc Try.prog Try.f6 false true false false) := by
  refine returns_sized (C := Try.checked) own started (by kernel_rfl) Try.func6
    (ChangeSpec.witness6 (enc := enc) (C := Try.checked) (os := os) false ⟨#[], #[.agg #[.int .u8 0, .int .i64 0, .slice none 0 0, .slice none 0 0], .slice none 0 0, .int .i64 0], []⟩ 8 (by kernel_rfl) (by kernel_rfl) (by kernel_rfl) (by kernel_rfl)) ?_
  intro W base args ds gs before hval0 hW hsz
  have hval : ∀ (j : Nat) t v, Try.f6.params[j]? = some t → args[j]? = some v → Value.okWide Try.prog W .any base t v := hval0
  have hW' := hW
  have hlt := DataW.Whole.lt hW
  obtain ⟨p, q, hA0, hV, rfl, hfz, hnd⟩ := hW
  have hA : DataW.TrodAll enc Try.prog W 0 (fun _ => true) true Try.f6.params.toList args.toList ds p := hA0
  rw [Try.params6] at hA hval
  obtain ⟨v0, vs0, d0, ds0, p0, q0, hargs, rfl, rfl, h0, r0⟩ := trodAll_cons hA
  obtain ⟨v1, vs1, d1, ds1, p1, q1, rfl, rfl, rfl, h1, r1⟩ := trodAll_cons r0
  obtain ⟨v2, vs2, d2, ds2, p2, q2, rfl, rfl, rfl, h2, r2⟩ := trodAll_cons r1
  obtain ⟨rfl, rfl, rfl⟩ := trodAll_nil r2
  obtain rfl : args = #[v0, v1, v2] := by cases args; simp_all
  obtain ⟨rfl, rfl⟩ := trodVars_none hV
  clear hA0 hval0
  have g0 := h0
  have g1 := h1
  have g2 := h2
  have hwt : (∀ q ∈ d0.weights Try.prog 28, q ≤ reachBytes) ∧ (∀ q ∈ d1.weights Try.prog 24, q ≤ reachBytes) := by
    have key : ∀ q ∈ d0.weights Try.prog 28 ++ (d1.weights Try.prog 24 ++ (d2.weights Try.prog 3 ++ [])), q ≤ reachBytes := fun q hq => hsz q (by
      rw [Try.params6]
      exact hq)
    exact ⟨fun q h => key q (by simp [h]), fun q h => key q (by simp [h])⟩
  obtain ⟨hw0, hw1⟩ := hwt
  obtain ⟨fa, fb, fc, fd, huT, _⟩ := treeTy.strct
  obtain ⟨c0, rfl, hc0⟩ := agg_of huT (hval 0 28 v0 rfl rfl)
  obtain ⟨n0, h0⟩ := h0
  rw [hc0] at h0
  obtain ⟨t, hs, hcs, _, hrep, hfit, hwide⟩ := tree_of treeTy n0 _ _ h0
  have hwd := hwide hw0
  obtain ⟨x0, t0, rfl, z0, hrep⟩ := repL_inv hrep
  obtain ⟨x1, t1, rfl, z1, hrep⟩ := repL_inv hrep
  obtain ⟨x2, t2, rfl, z2, hrep⟩ := repL_inv hrep
  obtain ⟨x3, t3, rfl, z3, hrep⟩ := repL_inv hrep
  obtain rfl := repL_inv0 hrep
  obtain rfl := z0.eq rfl
  obtain rfl := z1.eq rfl
  obtain ⟨l0, e0, ok0⟩ := fz_of_rep z2
  obtain ⟨l1, e1, ok1⟩ := fz_of_rep z3
  subst e0 e1
  obtain ⟨n1, h1⟩ := h1
  rw [show v1.cells.toList = [v1] by rw [slice_cells treeTy.uB (hval 1 24 v1 rfl rfl)]] at h1
  obtain ⟨L, hL, hLw, hLB⟩ := bytes_of treeTy h1
  have hLl := hLw hw1
  obtain ⟨l2, e2, ok2⟩ := fz_of_rep hL
  injection e2 with e2
  obtain ⟨k2, rfl, cut, s0, hx2, n2_0, rfl⟩ := open_fk (.int .i64) (by kernel_rfl) (hval 2 3 v2 rfl rfl)
  obtain rfl : k2 = .int .i64 cut := by simpa using hx2
  have hc : -9223372036854775808 ≤ cut ∧ cut ≤ 9223372036854775807 := ⟨n2_0.1, n2_0.2⟩
  simp only [List.append_nil] at hW' hlt
  let ρ : Val := ⟨fun i => match i with | 0 => l0 | 1 => l1 | 2 => l2 | _ => none, fun k => k < W.heap.size⟩
  have hM : MRel ⟨W.heap.size, [], ρ.z⟩ ρ [.fz 1 t.bs.length (gOf eB t.bs), .fz 4 t.kids.length (gK t.kids), .fz 1 L.length (gOf eB L)] W := by
    refine mrel_ro (Nat.le_refl _) rfl (fun k hk hm => ?_) (fun k hk => hk) fun k b hb => ?_
    · rcases hm with hm | hm
      · cases hm
      · exact absurd hk (Nat.not_lt_of_le hm)
    · match k, hb with
      | 0, hb => obtain rfl := Option.some.inj hb; exact ⟨ok0 _ ρ 0 rfl rfl, rfl⟩
      | 1, hb =>
        obtain rfl := Option.some.inj hb
        obtain ⟨q, hr, ho⟩ := ok1 ⟨W.heap.size, [], ρ.z⟩ ρ 1 rfl rfl
        exact ⟨⟨q, fun i hi => by rw [show gK t.kids i = encK t.kids i from (encK_get _ i hi).symm]; exact hr i hi, ho⟩, rfl⟩
      | 2, hb => obtain rfl := Option.some.inj hb; exact ⟨ok2 _ ρ 2 rfl rfl, rfl⟩
      | k + 3, hb => simp at hb
  have hargs : (denL ρ [.agg [.int .u8 t.k, .int .i64 t.n, .sl 0 1 0 t.bs.length, .sl 1 4 0 t.kids.length], .sl 2 1 0 L.length, .int .i64 cut]).toArray = #[.agg c0, v1, (FV.int .i64 cut).den] := by
    have h1' : c0 = c0.toList.toArray := by simp
    rw [h1', hcs, e2]
    rfl
  refine (hargs ▸ form_calls ρ t L cut hwd hfit hLB hLl hc hM).mono fun e W' ⟨he, g, hg⟩ => ?_
  subst he; subst hg
  exact ⟨_, rfl, _, _, _, [], _, [], hW', (trodAll_cons_mk (shut_bool Try.underlying4 _) trodAll_mk0), (trodAll_cons_mk (Below.trod (by kernel_rfl) (by kernel_rfl) (by decide +kernel) g0 (grow_below W g) (fun x hx => hlt x (by simp [hx]))) (trodAll_cons_mk (Below.trod (by kernel_rfl) (by kernel_rfl) (by decide +kernel) g1 (grow_below W g) (fun x hx => hlt x (by simp [hx]))) (trodAll_cons_mk (Below.trod (by kernel_rfl) (by kernel_rfl) (by decide +kernel) g2 (grow_below W g) (fun x hx => hlt x (by simp [hx]))) trodAll_mk0))), rfl, (grow_below W g).frame _, fun h => by cases h⟩
theorem over : Rows.wireFormRow.holds Try.pinned (OpenSpec.ofChange Rows.wireFormSpec) :=
  OpenClaim.holds_of_wide 6 Try.f6 rfl rfl rfl rfl rfl rfl rfl ⟨rfl, rfl, rfl, rfl, rfl⟩ rfl rfl rfl rfl rfl (by kernel_rfl) Try.func6 (by kernel_rfl)
    (of_decide_eq_true (by kernel_rfl)) (by unfold Func.isWrapper; first | (rw [if_pos (by decide +kernel)]; kernel_rfl) | (rw [if_neg (by decide +kernel)]; exact ⟨rfl, rfl⟩))
    (fun os started H enc _ => lifted os started H enc)
/-- The statement. -/
theorem proved : Rows.WireFormSaid := over
#print axioms proved
end Go.Proofs.Ytmdkihggeodjfaa.wireForm
