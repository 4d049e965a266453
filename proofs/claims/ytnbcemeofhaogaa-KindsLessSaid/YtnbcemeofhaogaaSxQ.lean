/- Contents that are written out, compared by computing. -/
import Derived.Test.YtnbcemeofhaogaaCelS
namespace Go.Sx
open Go.RowKit Go.Proofs.Ytnbcemeofhaogaa
set_option linter.unusedSimpArgs false
set_option linter.unusedVariables false
def nilB : FV → Bool
  | .val (.slice none 0 0) => true
  | _ => false
theorem nilB_is {x : FV} (h : nilB x = true) : x = .val (.slice none 0 0) := by
  unfold nilB at h
  split at h
  · rfl
  · cases h
def fvB : Nat → FV → FV → Bool
  | 0, _, _ => false
  | d + 1, x, y => match x, y with
    | .row sz n g, .row sz' n' g' => Nat.beq n n' && ((Nat.beq n 0 || Nat.beq sz sz') && (List.range n).all fun i => Nat.beq (g i).length (g' i).length && ((g i).zip (g' i)).all fun p => fvB d p.1 p.2)
    | .int k a, .int k' b => decide (k = k') && decide (a = b)
    | .bool a, .bool b => a == b
    | x, .row _ n _ => nilB x && Nat.beq n 0
    | x, y => nilB x && nilB y
theorem fvB_ok : ∀ {d : Nat} {x y : FV}, fvB d x y = true → FVEq x y
  | 0, _, _, h => by cases h
  | d + 1, x, y, h => by
    unfold fvB at h
    split at h
    · rename_i sz n g sz' n' g'
      simp only [Bool.and_eq_true, Bool.or_eq_true, List.all_eq_true, List.mem_range, Nat.beq_eq] at h
      obtain ⟨rfl, h1, h2⟩ := h
      refine .row (fun hn => h1.resolve_left (by omega)) (fun i hi => (h2 i hi).1) fun i j x y hi hx hy => ?_
      refine fvB_ok ((h2 i hi).2 (x, y) ?_)
      refine List.mem_of_getElem? (i := j) ?_
      rw [List.getElem?_zip_eq_some]
      exact ⟨hx, hy⟩
    · simp only [Bool.and_eq_true, decide_eq_true_eq] at h
      obtain ⟨rfl, rfl⟩ := h
      exact FVEq.refl _
    · simp only [beq_iff_eq] at h
      subst h
      exact FVEq.refl _
    · simp only [Bool.and_eq_true, Nat.beq_eq] at h
      obtain ⟨h1, rfl⟩ := h
      rw [nilB_is h1]
      exact .nil
    · simp only [Bool.and_eq_true] at h
      rw [nilB_is h.1, nilB_is h.2]
      exact FVEq.refl _
def fvLB (d : Nat) : List FV → List FV → Bool
  | [], [] => true
  | x :: l, y :: m => fvB d x y && fvLB d l m
  | _, _ => false
theorem fvLB_ok {d : Nat} : ∀ {l m : List FV}, fvLB d l m = true → FVEqL l m
  | [], [], _ => FVEqL.refl _
  | x :: l, y :: m, h => by
    simp only [fvLB, Bool.and_eq_true] at h
    have h2 := fvLB_ok h.2
    exact ⟨by simp [h2.1], fun j a b ha hb => by
      cases j with
      | zero =>
        simp only [List.getElem?_cons_zero, Option.some.injEq] at ha hb
        subst ha hb
        exact fvB_ok h.1
      | succ j => exact h2.2 j a b (by simpa using ha) (by simpa using hb)⟩
  | [], _ :: _, h => by cases h
  | _ :: _, [], h => by cases h
def avB (d : Nat) : List AV → List AV → Bool
  | [], [] => true
  | .one x :: l, .one y :: m => fvB d x y && avB d l m
  | .agg x :: l, .agg y :: m => fvLB d x y && avB d l m
  | _, _ => false
theorem avB_ok {d : Nat} : ∀ {l m : List AV}, avB d l m = true → AVEqL l m
  | [], [], _ => trivial
  | .one x :: l, .one y :: m, h => by
    simp only [avB, Bool.and_eq_true] at h
    exact ⟨fvB_ok h.1, avB_ok h.2⟩
  | .agg x :: l, .agg y :: m, h => by
    simp only [avB, Bool.and_eq_true] at h
    exact ⟨fvLB_ok h.1, avB_ok h.2⟩
  | .one _ :: _, .agg _ :: _, h => by cases h
  | .agg _ :: _, .one _ :: _, h => by cases h
  | [], .one _ :: _, h => by cases h
  | [], .agg _ :: _, h => by cases h
  | .one _ :: _, [], h => by cases h
  | .agg _ :: _, [], h => by cases h
/-- A row that stays as it is, told otherwise, by computing. -/
theorem ble_lit {sz sz' n : Nat} {g g' : Nat → List FV} (h : (Nat.beq sz' sz && (List.range n).all fun i => fvLB 3 (g' i) (g i)) = true) : BLe (.fz sz' n g') (.fz sz n g) := by
  simp only [Bool.and_eq_true, List.all_eq_true, List.mem_range, Nat.beq_eq] at h
  exact ⟨h.1.symm, rfl, fun i hi => fvLB_ok (h.2 i hi)⟩
/-- Parts of rows. -/
theorem Cel.isR_part {α : Type} {c : Cel α} {sz off n : Nat} {L : List α} (h : off + n ≤ L.length) : c.isR sz (.row sz n (shiftG off (c.g L))) = true :=
  Cel.isR_of (Cel.row_part (sz := sz) (L := L) h (fun i _ => FVEqL.refl _) fun i hi => shiftG_eq ..)
theorem Cel.decR_part {α : Type} {c : Cel α} {sz off n : Nat} {L : List α} (h : off + n ≤ L.length) : c.decR sz (.row sz n (shiftG off (c.g L))) = (L.drop off).take n :=
  Cel.decR_of (Cel.row_part (sz := sz) (L := L) h (fun i _ => FVEqL.refl _) fun i hi => shiftG_eq ..)
section
variable {P : Program} {G : World → Prop} {Γ : Env} {f : FuncId} {fn : Func}
/-- The contract's inner part: arguments by their content, then others that name nothing. -/
theorem ctr_topx (hG : Stable G) (hΓ : EnvOk P G Γ) (hf : P.funcs[f]? = some fn) (hb : fn.body.isSome = true) (hm : Okay P) (T : Tbl) (hT : codeOk T (bodyOf fn) = true) (n : Nat)
    {args post post0 : List SV} {M : List Blk} {sv : SV} {c : Bool} {av : List AV} (av' : List AV) {args0 : List SV} {M0 : List Blk} (hpost : ∀ ρ ρ' : Val, denL ρ post0 = denL ρ' post) (hps : scL (fun _ => false) post0 = true) (hv : topA eltB M args = some (c, av)) (hc : c = true) (he : AVEqL av av') (h0 : namA false 0 av' = (args0, M0))
    (h : run P Γ n T 0 (bodyOf fn) (initF fn (args0 ++ post0)) M0 (retK P fn fun x _ => eqv x sv)) :
    ∀ (B : Bd) (ρ : Val) (w : World), G w → MRel B ρ M w → Calls P f (denL ρ (args ++ post)).toArray w fun e w' =>
      ∃ (ρ' : Val) (v : Value), e = .returned v ∧ (sv ≠ .junk → v = sv.den ρ') ∧ Val.Ext w.heap.size (fun n => ¬ (M.length ≤ n ∧ n < M.length + ([] : List Blk).length)) ρ ρ' ∧ Below w.heap.size w w' ∧ New B w.heap.size ρ' M.length [] w' := by
  intro B ρ w hGw hM
  obtain ⟨ρ0, e1, e2, e3, e4⟩ := enter_top hM hv hc he h0
  have e5 : okSt (args0 ++ post0) M0 = true := by
    unfold okSt at e4 ⊢
    simp only [Bool.and_eq_true] at e4 ⊢
    exact ⟨by rw [scL_append, e4.1, scL_mono (fun _ h => by cases h) _ hps]; rfl, e4.2⟩
  have e6 : denL ρ0 (args0 ++ post0) = denL ρ (args ++ post) := by rw [denL_append, denL_append, e2, hpost ρ0 ρ]
  have hrun := calls_run hG hΓ hf hb hm T hT n hGw e5 e3 h
  rw [e6] at hrun
  refine hrun.mono ?_
  rintro e w' ⟨ρ', x, M', rfl, hx, hM', hbel⟩
  exact ⟨ρ, _, rfl, fun _ => eqv_den hx ρ' ρ, Val.Ext.refl .., hbel, new_none hM hbel⟩
end
end Go.Sx
