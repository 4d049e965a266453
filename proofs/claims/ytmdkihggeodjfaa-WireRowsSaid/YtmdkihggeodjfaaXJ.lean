import Derived.Test.YtmdkihggeodjfaaXH
namespace Go.Proofs.Ytmdkihggeodjfaa
open Go.RowKit Go.Sx
set_option linter.unusedSimpArgs false
set_option linter.unusedVariables false
set_option linter.unnecessarySimpa false
set_option maxRecDepth 100000
set_option maxHeartbeats 4000000
/-- The trees that an argument is. -/
noncomputable def treesA : AV → Option (Bool × List Tr)
  | .one (.row 4 n g) => some ((List.range n).all fun i => isT (g i), (List.range n).map fun i => decT (g i))
  | .one (.val (.slice none 0 0)) => some (true, [])
  | _ => none
theorem treesA_eq {a : AV} {c : Bool} {L : List Tr} (h : treesA a = some (c, L)) (hc : c = true) : AVEq a (.one (.row 4 L.length (gK L))) := by
  unfold treesA at h
  split at h
  · rename_i n g
    simp only [Option.some.injEq, Prod.mk.injEq] at h
    obtain ⟨rfl, rfl⟩ := h
    rw [List.length_map, List.length_range]
    simp only [List.all_eq_true, List.mem_range] at hc
    have key : ∀ i, i < n → FVEqL (g i) (gK ((List.range n).map fun i => decT (g i)) i) := fun i hi => by
      have : ((List.range n).map fun i => decT (g i)).getD i .no = decT (g i) := by simp [List.getD_eq_getElem?_getD, hi]
      show FVEqL (g i) (celT _)
      rw [this]; exact isT_dec (hc i hi)
    exact .row (fun _ => rfl) (fun i hi => (key i hi).1) fun i j x y hi hx hy => (key i hi).2 j x y hx hy
  · simp only [Option.some.injEq, Prod.mk.injEq] at h
    obtain ⟨_, rfl⟩ := h
    exact FVEq.nil
  · cases h
/-- What Row tells. -/
def asR (L : List Tr) : List AV := [.agg (celT (.mk 3 0 [] L))]
noncomputable def k_Row : List SV → List Blk → Res := fun args M => match topA eltB M args with
  | some (b, [x]) => match treesA x with
    | some (c, L) => .test b (.test c (.test (decide (L.length ≤ 1099511627776)) (.ok (outA false (namA true M.length (asR L)).1) (namA true M.length (asR L)).2)))
    | _ => .fail
  | _ => .fail
theorem Row_run (L : List Tr) (hl : L.length ≤ 1099511627776) : run Try.prog ⟨[], eqs, [], [(28, Try.f28, [])], [], mixs, meqs⟩ 10000 [] 0 (bodyOf Try.f10) (initF Try.f10 [.sl 0 4 0 L.length]) [.ro 4 L.length (gK L)] (retK Try.prog Try.f10 (TellsC false (asR L))) := by
  have hz : (Try.prog.types[28]).bytes = 64 := by kernel_rfl
  have hR : ∀ f : Nat → List FV, IsT [.int .u8 3, .int .i64 0, .val (.slice none 0 0), .row 4 (0 + L.length) (shiftG 0 (gApp 0 f fun k => gK L (0 + k)))] (.mk 3 0 [] L) := fun f => by
    rw [Nat.zero_add]
    refine isT_mk (t := .mk 3 0 [] L) .nil (.of_rows fun i hi => ?_)
    have : gApp 0 f (fun k => gK L (0 + k)) i = gK L i := by unfold gApp; rw [decide_eq_false (by omega)]; show gK L (0 + (i - 0)) = _; simp
    show gApp 0 f (fun k => gK L (0 + k)) i = encK L i
    rw [this, encK_get L i hi]
  (conv => whnf)
  (repeat' (first | (refine And.intro (fun hb => ?_) (fun hb => ?_) <;> (first | contradiction | (conv => whnf))) | (refine And.intro ?_ ?_; rotate_left 1; (conv => whnf))))
  all_goals try (first | rfl | (refine decide_eq_true ?_; omega) | (rw [hz]; refine decide_eq_true ?_; omega))
  all_goals try (exact ⟨[_], _, _, rfl, .inr rfl, rfl, by simp, hR _, trivial⟩)
  all_goals
    have hn : L = [] := List.eq_nil_of_length_eq_zero (by simp only [decide_eq_false_iff_not] at *; omega)
    subst hn
    exact ⟨[_], _, _, rfl, .inr rfl, rfl, rfl, isT_mk (t := .mk 3 0 [] []) .nil .nil, trivial⟩
theorem k_Row_ok : CtrOk Try.prog Gw 10 k_Row := by
  refine ⟨fun _ _ => by kernel_rfl, fun args M => ?_⟩
  unfold k_Row
  split
  · rename_i b x hv
    split
    · rename_i c L hx
      intro hb hc hl
      exact ctr_topc (Γ := ⟨[], eqs, [], [(28, Try.f28, [])], [], mixs, meqs⟩) st_Gw ⟨okNil, eqs_ok, okNilB, (okConsI Try.func28 rfl (by kernel_rfl) (fun _ _ => by kernel_rfl) okNilI), okNilP, mixs_ok, meqs_ok⟩ Try.func10 rfl mixed [] (by kernel_rfl) 10000 _ hv hb (avcons (treesA_eq hx hc) (AVEqL.refl [])) rfl false (asR L) (Row_run L (of_decide_eq_true hl))
    · trivial
  · trivial
end Go.Proofs.Ytmdkihggeodjfaa
