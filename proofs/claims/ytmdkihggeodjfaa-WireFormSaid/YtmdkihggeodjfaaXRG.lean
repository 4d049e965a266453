import Derived.Test.YtmdkihggeodjfaaXRT
import Derived.Test.YtmdkihggeodjfaaXRH
import Derived.Test.YtmdkihggeodjfaaXE
namespace Go.Proofs.Ytmdkihggeodjfaa
open Go.RowKit Go.Sx
set_option linter.unusedSimpArgs false
set_option linter.unusedVariables false
set_option linter.unnecessarySimpa false
set_option maxRecDepth 100000
set_option maxHeartbeats 4000000
/-- The walk of a tree's reader, over some contracts. -/
def Calls0 (D : Nat) (L : List Int) (Φ : Option Value → SV → List Blk → Prop) : Prop := ∃ (Γ : Env) (T : Tbl), EnvOk Try.prog Gw Γ ∧ codeOk T (bodyOf Try.f38) = true ∧ run Try.prog Γ 10000 T 2 (bodyOf Try.f38) (initF Try.f38 [.ptr 0 0]) [.cells 93 [.sl 1 1 0 L.length, .int .i64 (D : Int)], .ro 1 L.length (gOf eB L)] (retKP Try.prog Try.f38 Φ)
theorem k_tree_of (D : Nat) (hrun : ∀ (L : List Int), btsB L = true → L.length ≤ 1099511627776 → ∀ (Φ : Option Value → SV → List Blk → Prop), (Tr.parse D L = none → ∀ M1, Φ (some errV) .junk M1) → (∀ t r, Tr.parse D L = some (t, r) → ∀ x M1, RdEnd 93 L r (D : Int) false [.agg (celG t)] x M1 → Φ none x M1) →
    Calls0 D L Φ) : YCtrOk Try.prog Gw 38 (k_treeN D) := by
  refine ⟨fun _ _ => by kernel_rfl, fun args M K h hsc hwf => ?_⟩
  unfold k_treeN at h
  split at h
  · rename_i k
    split at h
    · rename_i ty n off len d hk
      split at h
      · rename_i m g hn
        obtain ⟨hty, hd, hle, hc, h⟩ := h
        obtain rfl := Nat.eq_of_beq_eq_true hty
        simp only [Bool.and_eq_true, decide_eq_true_eq] at hd hle hc
        subst hd
        obtain ⟨h1, h2⟩ := RTr_is h
        rw [nth_eq] at hk hn
        have e := elts_length eB off len g
        obtain ⟨Γ, T, hΓ, hT, hr⟩ := hrun (elts eB off len g) hc.2.1 (by omega) (EndYR M k n 1 off len 93 K) (fun h0 _ => h2 h0) (fun t r h0 x M1 hE => by
          obtain ⟨e1, o2, a1, a2, a3⟩ := hE
          rw [e] at a2
          obtain ⟨c1, c2⟩ := h1 t r h0
          rw [forceM_eq] at c1 c2
          refine ⟨e1, o2, r.length, _, false, _, a1, rfl, a3, ?_⟩
          rcases Nat.eq_zero_or_pos r.length with hz | hz
          · exact .inr ⟨hz, c2 (decide_eq_false (by omega))⟩
          · obtain ⟨rfl, hl⟩ := a2.resolve_right (by omega)
            have := c1 (decide_eq_true hz)
            rw [show len - r.length = o2 by omega] at this
            exact .inl ⟨rfl, by omega, this⟩)
        rw [e] at hr
        exact yread_top (Γ := Γ) hΓ Try.func38 rfl mixed T hT 10000 (gOf eB (elts eB off len g)) hk hwf hn hle (fun i hi => gOf_elts eB hc.1 i hi) rfl hr
      · exact h.elim
    · exact h.elim
  · exact h.elim
theorem k_treeN_ok : ∀ D, D < 1000 → YCtrOk Try.prog Gw 38 (k_treeN D)
  | 0, _ => k_tree_of 0 fun L hB hl Φ hN hS => ⟨⟨[(11, k_Of)], eqs, [], [(71, Try.f71, []), (39, Try.f39, []), (70, Try.f70, [])], [], mixs, meqs, [(69, k_lhead)]⟩, [], ⟨(okCons k_Of_ok okNil), eqs_ok, okNilB, (okConsI Try.func71 rfl (by kernel_rfl) (fun _ _ => by kernel_rfl) (okConsI Try.func39 rfl (by kernel_rfl) (fun _ _ => by kernel_rfl) (okConsI Try.func70 rfl (by kernel_rfl) (fun _ _ => by kernel_rfl) okNilI))), okNilP, mixs_ok, meqs_ok, (okConsY k_lhead_ok okNilY)⟩, by kernel_rfl, tree_run0 L hB hl Φ hN hS⟩
  | D + 1, h => by
    have ih := k_treeN_ok D (by omega)
    exact k_tree_of (D + 1) fun L hB hl Φ hN hS => ⟨⟨[(11, k_Of)], eqs, [], [(71, Try.f71, []), (39, Try.f39, []), (70, Try.f70, []), (72, Try.f72, [(3, 1000, [4])]), (101, Try.f101, []), (114, Try.f114, [])], [], mixs, meqs, [(69, k_lhead), (38, k_treeN D)]⟩, [], ⟨(okCons k_Of_ok okNil), eqs_ok, okNilB, (okConsI Try.func71 rfl (by kernel_rfl) (fun _ _ => by kernel_rfl) (okConsI Try.func39 rfl (by kernel_rfl) (fun _ _ => by kernel_rfl) (okConsI Try.func70 rfl (by kernel_rfl) (fun _ _ => by kernel_rfl) (okConsI Try.func72 rfl (by kernel_rfl) (fun _ _ => by kernel_rfl) (okConsI Try.func101 rfl (by kernel_rfl) (fun _ _ => by kernel_rfl) (okConsI Try.func114 rfl (by kernel_rfl) (fun _ _ => by kernel_rfl) okNilI)))))), okNilP, mixs_ok, meqs_ok, (okConsY k_lhead_ok (okConsY ih okNilY))⟩, by kernel_rfl, tree_run D ih (by omega) L hB hl Φ hN hS⟩
end Go.Proofs.Ytmdkihggeodjfaa
namespace Go.Proofs.Ytmdkihggeodjfaa
open Go.RowKit Go.Sx
set_option linter.unusedSimpArgs false
set_option linter.unusedVariables false
set_option linter.unnecessarySimpa false
set_option maxRecDepth 100000
set_option maxHeartbeats 4000000
theorem rec_get : RecOk Try.prog 37 Try.f37 [] (dropC 1 (bodyOf Try.f37)) 4 (some 2) :=
  ⟨⟨rfl, by kernel_rfl, by kernel_rfl, fun _ _ => by kernel_rfl⟩, rfl, ⟨_, _, _, _, rfl, rfl, rfl, rfl, rfl, rfl, rfl⟩⟩
theorem def_get : DefOk Try.prog 23 Try.f23 [] 1 37 [.tmp 3, .tmp 2] 5 (dropC 2 (bodyOf Try.f23)) :=
  ⟨rfl, by kernel_rfl, by kernel_rfl, by kernel_rfl, by kernel_rfl, ⟨_, _, _, _, _, rfl, rfl, rfl, rfl, rfl, rfl, rfl, rfl⟩⟩
noncomputable def k_tree : YC := k_treeN 16
theorem k_tree_ok : YCtrOk Try.prog Gw 38 k_tree := k_treeN_ok 16 (by omega)
/-- What Get tells. -/
def gets (L : List Int) : Tr × Int := match Tr.parse 16 L with
  | some (t, []) => (t, 0)
  | _ => (.no, 4)
def asG (L : List Int) : List AV := [.agg (celG (gets L).1), .one (.int .i64 (gets L).2)]
theorem gets_ok {L : List Int} {t : Tr} {r : List Int} (h : Tr.parse 16 L = some (t, r)) (hr : r = []) : gets L = (t, 0) := by
  subst hr; unfold gets; rw [h]
theorem gets_more {L : List Int} {t : Tr} {r : List Int} (h : Tr.parse 16 L = some (t, r)) (hr : 0 < r.length) : gets L = (.no, 4) := by
  unfold gets; rw [h]
  cases r with
  | nil => simp at hr
  | cons x r => rfl
theorem gets_none {L : List Int} (h : Tr.parse 16 L = none) : gets L = (.no, 4) := by
  unfold gets; rw [h]
theorem tell_no : FVEqL [.int .u8 0, .int .i64 0, .val (.slice none 0 0), .val (.slice none 0 0)] (celG .no) :=
  fvl_cons (FVEq.refl _) (fvl_cons (FVEq.refl _) (fvl_cons FVEq.nil (fvl_cons FVEq.nil (FVEqL.refl _))))
theorem get_run (L : List Int) (hB : btsB L = true) (hl : L.length ≤ 1099511627776) (Φ : SV → List Blk → Prop) (hK : ∀ x M1, TellsC true (asG L) x M1 → Φ x M1) :
    run Try.prog ⟨[], eqs, [], [(39, Try.f39, [])], [], mixs, meqs, [(38, k_tree)]⟩ 10000 [] 0 (takeC 1 (bodyOf Try.f23)) (initF Try.f23 [.sl 0 1 0 L.length]) [.ro 1 L.length (gOf eB L)]
      (guardK Try.prog ⟨[], eqs, [], [(39, Try.f39, [])], [], mixs, meqs, [(38, k_tree)]⟩ 9000 8000 [] (dropC 2 (bodyOf Try.f23)) 5 [.tmp 3, .tmp 2] Try.f37 [] (dropC 1 (bodyOf Try.f37)) 4 (some 2) Try.f23 Φ) := by
  have w0 : allIs eB 0 L.length (gOf eB L) = true := allIs_gOf ..
  have w1 : elts eB 0 L.length (gOf eB L) = L := elts_all eB L
  (conv => whnf)
  (repeat' (first | (refine RH_in (fun kd v r hr => ?_) (fun hr => ?_) <;> (conv => whnf)) | (refine RTr_in (fun t r ht => ?_) (fun ht => ?_) <;> (conv => whnf)) | (first | (refine step_t (by first | rfl | assumption) ?_; (conv => whnf)) | (refine step_f (by first | rfl | assumption) ?_; (conv => whnf)) | (refine step_nt (by assumption) ?_; (conv => whnf)) | (refine step_nf (by assumption) ?_; (conv => whnf)) | (refine step_n (fun hb => ?_) (fun hb => ?_) <;> (first | contradiction | (conv => whnf))) | (refine And.intro (fun hb => ?_) (fun hb => ?_) <;> (first | contradiction | (conv => whnf))) | (refine And.intro ?_ ?_; rotate_left 1; (conv => whnf)))))

  all_goals first
  | rfl
  | exact decide_eq_true rfl
  | (simp only [w0, w1, hB, Nat.zero_add, Nat.le_refl, Bool.true_and, decide_eq_true_eq, decide_true]; (first | omega | done); done)
  | skip
  all_goals try (rw [w1] at ht)
  all_goals first
  | (exfalso
     have h1 : decide (0 < r.length) = true := (by assumption)
     have h2 : ((r.length : Int) == 0) = true := (by assumption)
     have h1 := of_decide_eq_true h1
     have h2 : (r.length : Int) = 0 := (by simpa using h2)
     omega)
  | (have h1 : decide (0 < r.length) = true := (by assumption)
     refine hK _ _ ?_
     unfold asG TellsC
     rw [gets_more ht (of_decide_eq_true h1)]
     exact ⟨[_, _], _, _, rfl, .inl (by trivial), rfl, rfl, ⟨tell_no, FVEq.refl _, trivial⟩⟩)
  | (have h1 : decide (0 < r.length) = false := (by assumption)
     refine hK _ _ ?_
     unfold asG TellsC
     rw [gets_ok ht (List.eq_nil_of_length_eq_zero (by have := of_decide_eq_false h1; omega))]
     exact ⟨[_, _], _, _, rfl, .inl (by trivial), rfl, (by simp), ⟨FVEqL.refl _, FVEq.refl _, trivial⟩⟩)
  | (refine hK _ _ ?_
     unfold asG TellsC
     rw [gets_none ht]
     exact ⟨[_, _], _, _, rfl, .inl (by trivial), rfl, rfl, ⟨tell_no, FVEq.refl _, trivial⟩⟩)
noncomputable def k_Get : YC := fun args M K => match topA eltB M args with
  | some (b, [x]) => match bytesA x with
    | some (c, L) => b = true ∧ (c && (btsB L && decide (L.length ≤ 1099511627776))) = true ∧ forceM (M ++ (namA true M.length (asG L)).2) fun M' => K none (outA true (namA true M.length (asG L)).1) M'
    | _ => False
  | _ => False
theorem k_Get_ok : YCtrOk Try.prog Gw 23 k_Get := by
  refine ⟨fun _ _ => by kernel_rfl, fun args M K h hsc hwf => ?_⟩
  unfold k_Get at h
  split at h
  · rename_i b x hv
    split at h
    · rename_i c L h1
      obtain ⟨hb, hc, hK⟩ := h
      simp only [Bool.and_eq_true, decide_eq_true_eq] at hc
      rw [forceM_eq] at hK
      exact yctr_guardc (Γ := ⟨[], eqs, [], [(39, Try.f39, [])], [], mixs, meqs, [(38, k_tree)]⟩) mixed st_Gw ⟨okNil, eqs_ok, okNilB, (okConsI Try.func39 rfl (by kernel_rfl) (fun _ _ => by kernel_rfl) okNilI), okNilP, mixs_ok, meqs_ok, (okConsY k_tree_ok okNilY)⟩ def_get rec_get _ hv hb (avcons (bytesA_eq h1 hc.1) (AVEqL.refl [])) rfl (get_run L hc.2.1 hc.2.2 _ (fun x1 M1 ht => ⟨true, _, ht, hK⟩)) hwf
    · exact h.elim
  · exact h.elim

end Go.Proofs.Ytmdkihggeodjfaa
