/- Contracts of functions that only read their caller's memory, through a struct with arrays. -/
import Derived.Test.YtnbcemeofhaogaaSxY
namespace Go.Sx
open Go.RowKit Go.Proofs.Ytnbcemeofhaogaa
set_option linter.unusedSimpArgs false
set_option linter.unusedVariables false
section
variable {P : Program} {G : World → Prop} {Γ : Env}
/-- What such a function leaves: its caller's struct as it was; its result is flat. -/
def EndI (c0 : Blk) (K : SV → Prop) : Option Value → SV → List Blk → Prop
  | some _, _, _ => False
  | none, x, M1 => M1[0]? = some c0 ∧ ∃ y, (∀ ρ ρ' : Val, x.den ρ = y.den ρ') ∧ K y
/-- A function that reads a struct with arrays of its caller's, and rows (σ: their names). -/
theorem ymix_top (hΓ : EnvOk P G Γ) {f : FuncId} {fn : Func} (hf : P.funcs[f]? = some fn) (hb : fn.body.isSome = true) (hm : Okay P) (T : Tbl) (hT : codeOk T (bodyOf fn) = true) (n : Nat) (args0 xs : List SV) (V : List Blk) (σ : List Nat)
    {args : List SV} {M : List Blk} {k : Nat} {ty : TypeId} {xs0 : List SV} {K : Option Value → SV → List Blk → Prop} (hk : M[k]? = some (.mix ty xs0)) (hwf : M.all (Blk.sc fun n => decide (n < M.length)) = true) (hks : k ∉ σ)
    (hargs : ∀ ρ, denL (renρ (k :: σ) ρ) args0 = denL ρ args) (hxs : ∀ ρ, mixL xs (denL (renρ (k :: σ) ρ) xs) = mixL xs0 (denL ρ xs0)) (hsc : okSt args0 (.mix ty xs :: V) = true) (hxc : scL (fun n => decide (n < 1 + V.length)) xs = true) (hv : View M (k :: σ) σ V)
    (h : run P Γ n T (1 + V.length) (bodyOf fn) (initF fn args0) (.mix ty xs :: V) (retKP P fn (EndI (.mix ty xs) fun y => K none y M))) :
    ∀ (B : Bd) (ρ : Val) (w : World), (∀ w', Kept B w w' → G w') → MRel B ρ M w → Calls P f (denL ρ args).toArray w fun e w' =>
      ∃ (p : Option Value) (sv : SV) (M' : List Blk) (ρ' : Val), e = endS p sv ρ' ∧ K p sv M' ∧ MRel B ρ' M' w' ∧ M'.all (Blk.sc fun n => decide (n < M'.length)) = true ∧ M.length ≤ M'.length ∧ (∀ k, k < M.length → ρ' k = ρ k) ∧ Kept B w w' := by
  intro B ρ w hG hM
  have hklt : k < M.length := (List.getElem?_eq_some_iff.1 hk).1
  have hbk := hM.ok k _ hk
  let x : List Nat := (ρ k).toList.map (·.blk)
  let B' : Bd := ⟨w.heap.size, x, ρ.z⟩
  have inx : ∀ j, j ∈ x → ∃ l, ρ k = some l ∧ l.blk = j := fun j hj => by
    cases hl : ρ k with
    | none => simp [x, hl] at hj
    | some l => simp [x, hl] at hj; exact ⟨l, rfl, hj.symm⟩
  have bmay : ∀ j, B'.may j → B.may j := fun j hj => by
    rcases hj with hj | hj
    · obtain ⟨l, hl, rfl⟩ := inx j hj
      exact (Blk.ok_lt hbk rfl hl).1
    · exact .inr (Nat.le_trans hM.size hj)
  have zm : ∀ j, ρ.z j → ¬ B'.may j := fun j hj hm => by
    rcases hm with hm | hm
    · obtain ⟨l, hl, rfl⟩ := inx j hm
      exact hM.zown k _ l hk rfl hl hj
    · exact absurd (hM.zhi j hj).1 (Nat.not_lt_of_le hm)
  have others : ∀ (i : Nat) (b : Blk) (l : Loc), i ≠ k → M[i]? = some b → b.isOwn = true → ρ i = some l → ¬ B'.may l.blk := fun i b l hne hi ho' hl hm => by
    rcases hm with hm | hm
    · obtain ⟨lk, hlk, he⟩ := inx _ hm
      exact hM.apart i k b _ l lk hne hi hk ho' rfl hl hlk he.symm
    · exact absurd (Blk.ok_lt (hM.ok i b hi) ho' hl).2 (Nat.not_lt_of_le hm)
  let ρ0 : Val := renρ (k :: σ) ρ
  have hz0 : ρ0.z = ρ.z := rfl
  have h00 : ρ0 0 = ρ k := rfl
  have hV : ∀ (i : Nat) (c : Blk), V[i]? = some c → c.isOwn = false ∧ c.ok B' ρ0 (i + 1) w := fun i c hc => by
    obtain ⟨n, b, hσ, hn, hb⟩ := hv.get i c hc
    refine ⟨by cases c <;> first | rfl | exact hb.elim, ?_⟩
    have hnk : n ≠ k := fun e => hks (e ▸ List.mem_of_getElem? hσ)
    have e0 : ρ0 (i + 1) = ρ n := by show (match (k :: σ)[i + 1]? with | some n => ρ n | none => none) = ρ n; simp [hσ]
    by_cases hcd : c = .dead
    · subst hcd; trivial
    refine view_one hM hn hb e0 (fun _ h => h) (fun _ _ h => h) (fun l hl hpos hin => ?_) (fun l ty' xs hbe hl hin => ?_)
    · cases b with
      | own ty' sz' m' g' => exact others n _ l hnk hn rfl hl (.inl hin)
      | ro sz' m' g' =>
        obtain ⟨q, hr, ho'⟩ := hM.ok n _ hn
        exact (ho'.2 l hl).2.1 (hpos _ _ _ rfl) (bmay _ (.inl hin))
      | fz sz' m' g' =>
        obtain ⟨q, hr, ho'⟩ := hM.ok n _ hn
        exact zm _ ((ho'.2 l hl).2.1 (hpos _ _ _ rfl)) (.inl hin)
      | cells ty' xs => exact others n _ l hnk hn rfl hl (.inl hin)
      | map es => exact others n _ l hnk hn rfl hl (.inl hin)
      | mix ty' xs => exact others n _ l hnk hn rfl hl (.inl hin)
      | fm m' q' => exact others n _ l hnk hn rfl hl (.inl hin)
      | lp T' fe ps asg bd st => exact others n _ l hnk hn rfl hl (.inl hin)
      | rc ty' xs =>
        obtain ⟨l', hl', _, hnm, _⟩ := hM.ok n _ hn
        rw [hl] at hl'; obtain rfl := Option.some.inj hl'
        exact hnm (bmay _ (.inl hin))
      | dead => cases c <;> first | exact absurd rfl hcd | exact hb.elim | (obtain ⟨_, _, h1, _⟩ := hb; cases h1; done) | (obtain ⟨_, h1 | h1, _⟩ := hb <;> cases h1)
    · rcases hbe with rfl | rfl
      · exact others n _ l hnk hn rfl hl (.inl hin)
      · obtain ⟨l', hl', _, hnm, _⟩ := hM.ok n _ hn
        rw [hl] at hl'; obtain rfl := Option.some.inj hl'
        exact hnm (bmay _ (.inl hin))
  have hM0 : MRel B' ρ0 (.mix ty xs :: V) w := by
    refine ⟨Nat.le_refl _, fun i c hc => ?_, fun i j c d l l' hne h1 h2 o1 o2 => ?_, zm, fun _ h => by rw [hz0]; exact h, fun j hj => by rw [hz0] at hj; exact ⟨(hM.zhi j hj).1, .inl hj⟩, fun i c l hc ho' hl hz => ?_, fun j hj => by rw [hz0] at hj; exact .inl hj⟩
    · cases i with
      | zero =>
        simp only [List.getElem?_cons_zero, Option.some.injEq] at hc
        subst hc
        obtain ⟨l, e, h0, _, hh⟩ := hbk
        exact ⟨l, h00.trans e, h0, .inl (by show l.blk ∈ (ρ.loc k).toList.map (·.blk); rw [show ρ.loc k = some l from e]; simp), by rw [hxs]; exact hh⟩
      | succ i =>
        simp only [List.getElem?_cons_succ] at hc
        exact (hV i c hc).2
    · cases i with
      | zero => cases j with
        | zero => exact absurd rfl hne
        | succ j => simp only [List.getElem?_cons_succ] at h2; rw [(hV j d h2).1] at o2; cases o2
      | succ i => simp only [List.getElem?_cons_succ] at h1; rw [(hV i c h1).1] at o1; cases o1
    · rw [hz0] at hz
      cases i with
      | zero => exact hM.zown k _ l hk rfl (h00.symm.trans hl) hz
      | succ i => simp only [List.getElem?_cons_succ] at hc; rw [(hV i c hc).1] at ho'; cases ho'
  have kept : ∀ w', Kept B' w w' → Kept B w w' := fun w' hw => ⟨hw.os, hw.tape, hw.output, hw.size, fun i hi => hw.block i fun h => hi (bmay i h), hw.dq, hw.lq⟩
  have hrun := calls_run_p hΓ hf hb hm T hT n (1 + V.length) (B := B') (M0 := .mix ty xs :: V) (ρ0 := ρ0) (args := args0) (fun w' hw => hG w' (kept w' hw)) hsc hM0 (by simp; omega) h
  rw [hargs] at hrun
  refine hrun.mono ?_
  rintro e w' ⟨p, ρ1, sv, M1, rfl, hΦ, hM1, _, hw, _, hρ1⟩
  cases p with
  | some v => exact hΦ.elim
  | none =>
    obtain ⟨hc0, y, hy, hKy⟩ := hΦ
    have zs : ∀ j, ρ.z j → w'.heap[j]? = w.heap[j]? := fun j hj => hw.block j (zm j hj)
    have h0b : (Blk.mix ty xs).ok B' ρ1 0 w' := hM1.ok 0 _ hc0
    have e10 : ρ1 0 = ρ k := (hρ1 0 (by omega)).trans h00
    refine ⟨none, y, M, ρ, ?_, hKy, ⟨Nat.le_trans hM.size hw.size, fun i c hc => ?_, hM.apart, hM.zb, hM.zlo, fun j hj => ⟨Nat.lt_of_lt_of_le (hM.zhi j hj).1 hw.size, (hM.zhi j hj).2⟩, hM.zown, fun j hj => (hM.zc j hj).imp_right fun hc => hc.same (zs j hj)⟩, hwf, Nat.le_refl _, fun _ _ => rfl, kept w' hw⟩
    · show Ending.returned _ = Ending.returned _
      rw [hy ρ1 ρ]
    · by_cases hik : i = k
      · subst hik
        rw [hk] at hc
        obtain rfl := Option.some.inj hc
        obtain ⟨l, e, h0, _, hh⟩ := h0b
        obtain ⟨l', e', h0', hm', hh'⟩ := hbk
        refine ⟨l, e10.symm.trans e, h0, ?_, ?_⟩
        · rw [show l = l' from Option.some.inj ((e.symm.trans e10).trans e')]; exact hm'
        · rw [hh, ← hxs ρ, denL_congr (p := fun n => decide (n < 1 + V.length)) (ρ := ρ0) (ρ' := ρ1) (fun n hn => hρ1 n (by simpa using hn)) xs hxc]
      · exact c.ok_same (hM.ok i c hc) (fun j hj => hw.block j fun h => hj (bmay j h)) zs fun ho' l hl => hw.block _ (others i c l hik hc ho' hl)
/-- A contract that tells of the result only what S says: first arguments that are flat in their own way (structs with arrays), then others by their content. -/
theorem yctr_topm (hS : Stable G) (hΓ : EnvOk P G Γ) {f : FuncId} {fn : Func} (hf : P.funcs[f]? = some fn) (hb : fn.body.isSome = true) (hm : Okay P) (T : Tbl) (hT : codeOk T (bodyOf fn) = true) (n : Nat)
    {pre pre0 args : List SV} {M : List Blk} {c : Bool} {av : List AV} (av' : List AV) {args0 : List SV} {M0 : List Blk} (hpre : ∀ ρ ρ' : Val, denL ρ pre0 = denL ρ' pre) (hps : scL (fun _ => false) pre0 = true) (hv : topA eltB M args = some (c, av)) (hc : c = true) (he : AVEqL av av') (h0 : namA false 0 av' = (args0, M0)) (S : SV → Prop)
    (h : run P Γ n T 0 (bodyOf fn) (initF fn (pre0 ++ args0)) M0 (retK P fn fun x _ => S x)) {K : Option Value → SV → List Blk → Prop} (hK : ∀ x, S x → ∃ y, (∀ ρ ρ' : Val, x.den ρ = y.den ρ') ∧ K none y M) (hwf : M.all (Blk.sc fun n => decide (n < M.length)) = true) :
    ∀ (B : Bd) (ρ : Val) (w : World), (∀ w', Kept B w w' → G w') → MRel B ρ M w →
      Calls P f (denL ρ (pre ++ args)).toArray w fun e w' => ∃ (p : Option Value) (sv : SV) (M' : List Blk) (ρ' : Val), e = endS p sv ρ' ∧ K p sv M' ∧ MRel B ρ' M' w' ∧ M'.all (Blk.sc fun n => decide (n < M'.length)) = true ∧ M.length ≤ M'.length ∧ (∀ k, k < M.length → ρ' k = ρ k) ∧ Kept B w w' := by
  intro B ρ w hG hM
  obtain ⟨ρ0, e1, e2, e3, e4⟩ := enter_top hM hv hc he h0
  have e5 : okSt (pre0 ++ args0) M0 = true := by
    unfold okSt at e4 ⊢
    simp only [Bool.and_eq_true] at e4 ⊢
    exact ⟨by rw [scL_append, scL_mono (fun _ h => by cases h) _ hps, e4.1]; rfl, e4.2⟩
  have e6 : denL ρ0 (pre0 ++ args0) = denL ρ (pre ++ args) := by rw [denL_append, denL_append, e2, hpre ρ0 ρ]
  have hrun := calls_run hS hΓ hf hb hm T hT n (hG w (Kept.refl _ _)) e5 e3 h
  rw [e6] at hrun
  refine hrun.mono ?_
  rintro e w' ⟨ρ', x, M', rfl, hx, hM', hbel⟩
  have hM2 := hM.grown hwf (Val.Ext.refl ..) hbel (new_none hM hbel)
  rw [List.append_nil] at hM2
  obtain ⟨y, hy, hKy⟩ := hK x hx
  refine ⟨none, y, M, ρ, ?_, hKy, hM2, hwf, Nat.le_refl _, fun _ _ => rfl, Kept.of_below hM.size hbel⟩
  show Ending.returned _ = Ending.returned _
  rw [hy ρ' ρ]
/-- A function whose result names blocks that it was given (σ: their names), and no new one. -/
theorem ctr_back (hS : Stable G) (hΓ : EnvOk P G Γ) {f : FuncId} {fn : Func} (hf : P.funcs[f]? = some fn) (hb : fn.body.isSome = true) (hm : Okay P) (T : Tbl) (hT : codeOk T (bodyOf fn) = true) (n : Nat) (σ : List Nat) (args0 : List SV) (M0 : List Blk) (sv0 : SV)
    {args : List SV} {M : List Blk} {sv : SV} (hargs : ∀ ρ, denL (renρ σ ρ) args0 = denL ρ args) (hsv : ∀ ρ, sv0.den (renρ σ ρ) = sv.den ρ) (hsc : okSt args0 M0 = true) (hv : View M σ σ M0) (hs : sv0.sc (fun n => decide (n < M0.length)) = true)
    (h : run P Γ n T M0.length (bodyOf fn) (initF fn args0) M0 (retKP P fn fun p x _ => p = none ∧ x = sv0)) :
    ∀ (B : Bd) (ρ : Val) (w : World), G w → MRel B ρ M w → Calls P f (denL ρ args).toArray w fun e w' =>
      ∃ (ρ' : Val) (v : Value), e = .returned v ∧ (sv ≠ .junk → v = sv.den ρ') ∧ Val.Ext w.heap.size (fun n => ¬ (M.length ≤ n ∧ n < M.length + ([] : List Blk).length)) ρ ρ' ∧ Below w.heap.size w w' ∧ New B w.heap.size ρ' M.length [] w' := by
  intro B ρ w hGw hM
  have hrun := calls_run_p hΓ hf hb hm T hT n M0.length (B := ⟨w.heap.size, [], ρ.z⟩) (M0 := M0) (ρ0 := renρ σ ρ) (args := args0) (fun w' hk => hS w w' hGw (hk.below rfl)) hsc (View.rel hM hv) (Nat.le_refl _) h
  rw [hargs] at hrun
  refine hrun.mono ?_
  rintro e w' ⟨p, ρ1, x, M', rfl, ⟨rfl, rfl⟩, _, _, hk, _, hρ1⟩
  have hw := hk.below rfl
  refine ⟨ρ, _, rfl, fun _ => ?_, Val.Ext.refl .., hw, new_none hM hw⟩
  rw [← hsv ρ]
  exact SV.den_congr (p := fun n => decide (n < M0.length)) (fun n hn => hρ1 n (by simpa using hn)) _ hs
end
end Go.Sx
