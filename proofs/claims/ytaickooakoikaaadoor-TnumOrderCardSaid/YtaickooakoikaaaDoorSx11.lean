/- The symbolic executor: whole functions. -/
import Derived.Test.YtaickooakoikaaaDoorSx10
namespace Go.Sx
open Go.RowKit Go.Proofs.YtaickooakoikaaaDoor
set_option linter.unusedSimpArgs false
set_option linter.unusedVariables false

/-- Results. -/
def retOne (P : Program) (F : List SV) (M : List Blk) : ResultVar → Option SV
  | .tmp t => match nth F t with
    | some x => match x.nj with
      | true => some x
      | false => none
    | none => none
  | .cell a t => match nth F a with
    | some (.ptr n off) => match nth M n with
      | some (.cells _ xs) => partS P t xs off
      | _ => none
    | _ => none
def retL (P : Program) (F : List SV) (M : List Blk) : List ResultVar → Option (List SV)
  | [] => some []
  | r :: l => match retOne P F M r, retL P F M l with
    | some x, some xs => some (x :: xs)
    | _, _ => none
def retS (P : Program) (fn : Func) (F : List SV) (M : List Blk) : Option SV := match retL P F M fn.results.toList with
  | some [x] => some x
  | some xs => some (.tup xs)
  | none => none
def retK (P : Program) (fn : Func) (Φ : SV → List Blk → Prop) : X → List SV → List Blk → Prop
  | .exit _, _, _ => False
  | .normal, F, M => match retS P fn F M with
    | some x => force3 x fun x => Φ x M
    | none => False
  | .ret, F, M => match retS P fn F M with
    | some x => force3 x fun x => Φ x M
    | none => False
def bodyOf (fn : Func) : Code := match fn.body with
  | some c => c
  | none => .skip
def undefs : Nat → List SV
  | 0 => []
  | n + 1 => .tup [] :: undefs n
def initF (fn : Func) (args : List SV) : List SV := args ++ undefs (fn.ntmps - args.length)

section
variable {P : Program} {B : Bd} {w0 : World} {ρ : Val} {F : List SV} {M : List Blk} {a : Act} {w : World}
def resOne (tmps : Array Value) (r : ResultVar) : Sem Value := match r with
  | .tmp t => pure (tmps.getD t undef)
  | .cell c t => do loadVar t (← asAddr (tmps.getD c undef))
theorem results_eq (fn : Func) (tmps : Array Value) : results fn tmps = (do let vs ← fn.results.mapM (resOne tmps); pure (if h : vs.size = 1 then vs[0] else .tuple vs)) := rfl
theorem retOne_run (h : Rel B w0 ρ F M a w) {r : ResultVar} {x : SV} (hr : retOne P F M r = some x) :
    (resOne a.tmps r).run P w = .ok (x.den ρ) w := by
  unfold resOne
  cases r with
  | tmp t =>
    simp only [retOne] at hr
    split at hr
    · rename_i y hy
      split at hr
      · rename_i hnj
        obtain rfl := Option.some.inj hr
        rw [nth_eq] at hy
        have := h.slot t y hy (SV.nj_ne hnj)
        simp [Array.getD_eq_getD_getElem?, this]
      · cases hr
    · cases hr
  | cell c t =>
    simp only [retOne] at hr
    split at hr
    · rename_i n off hc
      split at hr
      · rename_i ty xs hn
        rw [nth_eq] at hc
        have hs := h.slot c _ hc (by simp)
        obtain ⟨l, hl, h0, hB, hh⟩ := h.mem.ok n _ (by rw [← nth_eq]; exact hn)
        have hcell : ∀ j v, (denL ρ xs)[j]? = some v → w.cell? ⟨l.blk, 0 + j, none⟩ = some v := fun j v hv => by
          simp only [World.cell?, hh, Nat.zero_add]; simpa using hv
        obtain ⟨hr', _⟩ := run_load_part (ρ := ρ) hr hcell
        simp only [Array.getD_eq_getD_getElem?, hs, Option.getD_some, SV.den, hl, Option.map_some, h0, asAddr, Sem.run_bind, Sem.run_pure, Result.andThen_ok]
        simpa [Instr.loadAt, Instr.sureAddr] using hr'
      · cases hr
    · cases hr
theorem retL_run (h : Rel B w0 ρ F M a w) : ∀ (rs : List ResultVar) (xs : List SV), retL P F M rs = some xs →
    (rs.mapM (resOne a.tmps)).run P w = .ok (denL ρ xs) w
  | [], xs, hr => by obtain rfl := Option.some.inj hr; simp [denL]
  | r :: l, xs, hr => by
    simp only [retL] at hr
    split at hr
    · rename_i y ys h1 h2
      obtain rfl := Option.some.inj hr
      simp only [List.mapM_cons, Sem.run_bind, retOne_run h h1, retL_run h l ys h2, Result.andThen_ok, Sem.run_pure, denL]
    · cases hr
theorem retS_run (h : Rel B w0 ρ F M a w) {fn : Func} {x : SV} (hr : retS P fn F M = some x) : (results fn a.tmps).run P w = .ok (x.den ρ) w := by
  unfold retS at hr
  rw [results_eq, Array.mapM_eq_mapM_toList]
  split at hr
  · rename_i y hy
    obtain rfl := Option.some.inj hr
    have := retL_run h _ _ hy
    simp only [Sem.run_bind, Sem.run_map, this]
    simp [denL]
  · rename_i xs hne hy
    obtain rfl := Option.some.inj hr
    have := retL_run h _ _ hy
    have hsz : xs.length ≠ 1 := by
      intro e
      obtain ⟨x, rfl⟩ := List.length_eq_one_iff.1 e
      exact hne x rfl
    simp only [Sem.run_bind, Sem.run_map, this]
    simp [denL_eq, hsz, SV.den]
  · cases hr
theorem undefs_eq : ∀ (n : Nat) (ρ : Val), denL ρ (undefs n) = List.replicate n undef
  | 0, ρ => rfl
  | n + 1, ρ => by simp [undefs, denL, undefs_eq n ρ, List.replicate_succ, SV.den, undef]
theorem undefs_sc (p : Nat → Bool) : ∀ n, scL p (undefs n) = true
  | 0 => rfl
  | n + 1 => by simp [undefs, scL, SV.sc, undefs_sc p n]
theorem scL_append (p : Nat → Bool) (a b : List SV) : scL p (a ++ b) = (scL p a && scL p b) := by simp [scL_eq]
end


/-- What holds of the variables of the program, and stays so. -/
def Stable (G : World → Prop) : Prop := ∀ w w', G w → Below w.heap.size w w' → G w'
theorem calls_run_at {P : Program} {G : World → Prop} {Γ : Env} (hΓ : EnvOk P G Γ) {f : FuncId} {fn : Func} (hf : P.funcs[f]? = some fn) (hb : fn.body.isSome = true) (hm : P.follows .mixedOrders = true) (T : Tbl) (hT : codeOk T (bodyOf fn) = true) (n : Nat) {args : List SV} {M0 : List Blk} {ρ0 : Val} {w : World} {Φ : SV → List Blk → Prop} {B : Bd} (hG : ∀ w', Kept B w w' → G w')
    (hsc : okSt args M0 = true) (hM : MRel B ρ0 M0 w) (h : run P Γ T n (bodyOf fn) (initF fn args) M0 (retK P fn Φ)) :
    Calls P f (denL ρ0 args).toArray w fun e w' => ∃ (ρ' : Val) (sv : SV) (M : List Blk), e = .returned (sv.den ρ') ∧ Φ sv M ∧ MRel B ρ' M w' ∧ Kept B w w' := by
  obtain ⟨c, hc⟩ := Option.isSome_iff_exists.1 hb
  refine calls_of_wp hf hc ?_
  have hbody : bodyOf fn = c := by unfold bodyOf; rw [hc]
  rw [hbody] at h hT
  simp only [okSt, Bool.and_eq_true] at hsc
  have hR : Rel B w ρ0 (initF fn args) M0 { tmps := (denL ρ0 args).toArray ++ Array.replicate (fn.ntmps - (denL ρ0 args).toArray.size) undef, defers := [] } w := by
    have e : (denL ρ0 args).toArray ++ Array.replicate (fn.ntmps - (denL ρ0 args).toArray.size) undef = (denL ρ0 (initF fn args)).toArray := by
      apply Array.ext'
      simp only [initF, denL_append, undefs_eq, Array.toList_append, Array.toList_replicate, List.size_toArray]
      simp [denL_eq]
    rw [e]
    refine ⟨rfl, by simp [denL_eq], fun s x hs hx => ?_, ?_, hsc.2, hM, Kept.refl _ _⟩
    · simp [denL_eq, hs]
    · rw [initF, scL_append, hsc.1, undefs_sc]; rfl
  refine wp_mono (run_sound hG hm hΓ n c _ M0 _ ρ0 _ w hT h hR) ?_
  rintro e a' w' ⟨x, F', M', ρ', rfl, hlen, hR', hK⟩
  cases x with
  | exit id => exact hK.elim
  | normal =>
    simp only [retK] at hK
    split at hK
    · rename_i sv hs
      rw [force3_eq] at hK
      exact ⟨hR'.defers, _, retS_run hR' hs, ρ', sv, M', rfl, hK, hR'.mem, hR'.below⟩
    · exact hK.elim
  | ret =>
    simp only [retK] at hK
    split at hK
    · rename_i sv hs
      rw [force3_eq] at hK
      exact ⟨hR'.defers, _, retS_run hR' hs, ρ', sv, M', rfl, hK, hR'.mem, hR'.below⟩
    · exact hK.elim

theorem calls_run {P : Program} {G : World → Prop} (hG : Stable G) {Γ : Env} (hΓ : EnvOk P G Γ) {f : FuncId} {fn : Func} (hf : P.funcs[f]? = some fn) (hb : fn.body.isSome = true) (hm : P.follows .mixedOrders = true) (T : Tbl) (hT : codeOk T (bodyOf fn) = true) (n : Nat) {args : List SV} {M0 : List Blk} {ρ0 : Val} {w : World} {Φ : SV → List Blk → Prop}
    (hGw : G w) (hsc : okSt args M0 = true) (hM : MRel ⟨w.heap.size, []⟩ ρ0 M0 w) (h : run P Γ T n (bodyOf fn) (initF fn args) M0 (retK P fn Φ)) :
    Calls P f (denL ρ0 args).toArray w fun e w' => ∃ (ρ' : Val) (sv : SV) (M : List Blk), e = .returned (sv.den ρ') ∧ Φ sv M ∧ MRel ⟨w.heap.size, []⟩ ρ' M w' ∧ Below w.heap.size w w' :=
  (calls_run_at hΓ hf hb hm T hT n (fun w1 h1 => hG w w1 hGw (h1.below rfl)) hsc hM h).mono fun e w' ⟨ρ', sv, M, h1, h2, h3, h4⟩ => ⟨ρ', sv, M, h1, h2, h3, h4.below rfl⟩

/-- Two results that name no block are alike. -/
def eqv1 : SV → SV → Prop
  | .tt, .tt => True
  | .ff, .ff => True
  | .tt, .bool b => b = true
  | .ff, .bool b => b = false
  | .bool b, .tt => b = true
  | .bool b, .ff => b = false
  | .bool a, .bool b => a = b
  | .u64 a, .u64 b => a = b
  | .int k a, .int k' b => k = k' ∧ a = b
  | .val a, .val b => a = b
  | .fn f [] [], .fn g [] [] => f = g
  | _, _ => False
def eqvL1 : List SV → List SV → Prop
  | [], [] => True
  | x :: xs, y :: ys => eqv1 x y ∧ eqvL1 xs ys
  | _, _ => False
def eqv2 : SV → SV → Prop
  | .agg xs, .agg ys => eqvL1 xs ys
  | x, y => eqv1 x y
def eqvL2 : List SV → List SV → Prop
  | [], [] => True
  | x :: xs, y :: ys => eqv2 x y ∧ eqvL2 xs ys
  | _, _ => False
def eqv : SV → SV → Prop
  | .agg xs, .agg ys => eqvL1 xs ys
  | .tup xs, .tup ys => eqvL2 xs ys
  | x, y => eqv1 x y
theorem eqv1_den {x y : SV} (h : eqv1 x y) : ∀ ρ ρ' : Val, x.den ρ = y.den ρ' := by
  intro ρ ρ'
  unfold eqv1 at h
  split at h <;> first | exact h.elim | rfl | (simp only [SV.den]; simp [h, denL])
theorem eqvL1_den : ∀ {xs ys : List SV} (_ : eqvL1 xs ys) (ρ ρ' : Val), denL ρ xs = denL ρ' ys
  | [], [], _, _, _ => rfl
  | x :: xs, y :: ys, h, ρ, ρ' => by simp only [denL, eqv1_den h.1 ρ ρ', eqvL1_den h.2 ρ ρ']
  | [], _ :: _, h, _, _ => h.elim
  | _ :: _, [], h, _, _ => h.elim
theorem eqv2_den {x y : SV} (h : eqv2 x y) : ∀ ρ ρ' : Val, x.den ρ = y.den ρ' := by
  intro ρ ρ'
  unfold eqv2 at h
  split at h
  · simp only [SV.den, eqvL1_den h ρ ρ']
  · exact eqv1_den h ρ ρ'
theorem eqvL2_den : ∀ {xs ys : List SV} (_ : eqvL2 xs ys) (ρ ρ' : Val), denL ρ xs = denL ρ' ys
  | [], [], _, _, _ => rfl
  | x :: xs, y :: ys, h, ρ, ρ' => by simp only [denL, eqv2_den h.1 ρ ρ', eqvL2_den h.2 ρ ρ']
  | [], _ :: _, h, _, _ => h.elim
  | _ :: _, [], h, _, _ => h.elim
theorem eqv_den {x y : SV} (h : eqv x y) : ∀ ρ ρ' : Val, x.den ρ = y.den ρ' := by
  intro ρ ρ'
  unfold eqv at h
  split at h
  · simp only [SV.den, eqvL1_den h ρ ρ']
  · simp only [SV.den, eqvL2_den h ρ ρ']
  · exact eqv1_den h ρ ρ'

/-- The contract's inner part, of a function whose result names no block. -/
theorem ctr_flat {P : Program} {G : World → Prop} (hG : Stable G) {Γ : Env} (hΓ : EnvOk P G Γ) {f : FuncId} {fn : Func} (hf : P.funcs[f]? = some fn) (hb : fn.body.isSome = true) (hm : P.follows .mixedOrders = true) (T : Tbl) (hT : codeOk T (bodyOf fn) = true) (n : Nat) {args : List SV} {M : List Blk} {sv : SV}
    (hsc : scL (fun _ => false) args = true) (h : run P Γ T n (bodyOf fn) (initF fn args) [] (retK P fn fun x _ => eqv x sv)) :
    ∀ (B : Bd) (ρ : Val) (w : World), G w → MRel B ρ M w → Calls P f (denL ρ args).toArray w fun e w' =>
      ∃ (ρ' : Val) (v : Value), e = .returned v ∧ (sv ≠ .junk → v = sv.den ρ') ∧ (∀ n, ¬ (M.length ≤ n ∧ n < M.length + ([] : List Blk).length) → ρ' n = ρ n) ∧ Below w.heap.size w w' ∧ New B w.heap.size ρ' M.length [] w' := by
  intro B ρ w hGw hM
  refine (calls_run hG hΓ hf hb hm T hT n (M0 := []) (ρ0 := ρ) hGw (by simp [okSt, scAll]; exact scL_mono (fun n hn => by cases hn) _ hsc) (MRel.nil ρ (Nat.le_refl _)) h).mono ?_
  rintro e w' ⟨ρ', x, M', rfl, hx, hM', hbel⟩
  exact ⟨ρ, _, rfl, fun _ => eqv_den hx ρ' ρ, fun _ _ => rfl, hbel, New.nil ..⟩

/-- What a law's walk wants: it returns v, whatever its memory was. -/
theorem calls_val {P : Program} {G : World → Prop} (hG : Stable G) {Γ : Env} (hΓ : EnvOk P G Γ) {f : FuncId} {fn : Func} (hf : P.funcs[f]? = some fn) (hb : fn.body.isSome = true) (hm : P.follows .mixedOrders = true) (T : Tbl) (hT : codeOk T (bodyOf fn) = true) (n : Nat) {args : List SV} {w : World} {sv : SV} (hGw : G w)
    (hsc : scL (fun _ => false) args = true) (h : run P Γ T n (bodyOf fn) (initF fn args) [] (retK P fn fun x _ => eqv x sv)) :
    Calls P f (denL (fun _ => none) args).toArray w (Ret w (sv.den fun _ => none)) := by
  refine (calls_run hG hΓ hf hb hm T hT n (M0 := []) (ρ0 := fun _ => none) hGw (by simp [okSt, scAll]; exact scL_mono (fun n hn => by cases hn) _ hsc) (MRel.nil _ (Nat.le_refl _)) h).mono ?_
  rintro e w' ⟨ρ', x, M', rfl, hx, hM', hbel⟩
  exact ⟨by rw [eqv_den hx], grow_mk hbel⟩
/-- A callee whose first argument is a row of its caller's own, which it may write over: the row is not known any more. -/
theorem bctr_own {P : Program} {G : World → Prop} {Γ : Env} (hΓ : EnvOk P G Γ) {f : FuncId} {fn : Func} (hf : P.funcs[f]? = some fn) (hb : fn.body.isSome = true) (hm : P.follows .mixedOrders = true) (T : Tbl) (hT : codeOk T (bodyOf fn) = true) (n : Nat)
    {rest : List SV} {M : List Blk} {k : Nat} {ty : TypeId} {sz m : Nat} {g0 g : Nat → List FV} {sv : SV} (hk : M[k]? = some (.own ty sz m g0)) (hg0 : ∀ i, i < m → g i = g0 i) (hsc : scL (fun _ => false) rest = true)
    (h : run P Γ T n (bodyOf fn) (initF fn (.sl 0 sz 0 m :: rest)) [.own ty sz m g] (retK P fn fun x _ => eqv x sv)) :
    ∀ (B : Bd) (ρ : Val) (w : World), (∀ w', Kept B w w' → G w') → M.all (Blk.sc fun n => decide (n < M.length)) = true → MRel B ρ M w → Calls P f (denL ρ (.sl k sz 0 m :: rest)).toArray w fun e w' =>
      ∃ (ρ' : Val) (v : Value), e = .returned v ∧ (sv ≠ .junk → v = sv.den ρ') ∧ (∀ n, n < M.length → isKill none n = false → ρ' n = ρ n) ∧ Kept B w w' ∧ MRel B ρ' (M.set k .dead) w' := by
  intro B ρ w hG hwf hM
  have hok := own_congr (hM.ok k _ hk) hg0
  let B' : Bd := ⟨w.heap.size, (ρ k).toList.map (·.blk)⟩
  have hmay : ∀ l, ρ k = some l → B'.may l.blk := fun l hl => .inl (by simp [B', hl])
  have hle : ∀ i, ¬ B.may i → ¬ B'.may i := by
    intro i hi hi'
    rcases hi' with hx | hs
    · cases hl : ρ k with
      | none => simp [B', hl] at hx
      | some l =>
        simp [B', hl] at hx
        exact hi (hx ▸ (Blk.ok_lt hok rfl hl).1)
    · have := Bd.lt hi; have := hM.size
      have hs' : w.heap.size ≤ i := hs
      omega
  have kept : ∀ w', Kept B' w w' → Kept B w w' := fun w' hw => ⟨hw.os, hw.tape, hw.output, hw.size, fun i hi => hw.block i (hle i hi)⟩
  let ρ0 : Val := fun i => if i = 0 then ρ k else none
  have hden : denL ρ0 (.sl 0 sz 0 m :: rest) = denL ρ (.sl k sz 0 m :: rest) := by
    simp only [denL]
    congr 1
    exact denL_congr (p := fun _ => false) (fun n hn => by cases hn) rest hsc
  have hM0 : MRel B' ρ0 [.own ty sz m g] w := by
    refine ⟨Nat.le_refl _, fun i b hb => ?_, fun i j b c l l' hne h1 h2 => ?_⟩
    · cases i with
      | zero =>
        simp only [List.getElem?_cons_zero, Option.some.injEq] at hb
        subst hb
        refine ⟨hok.1, ?_⟩
        rcases hok.2 with ⟨e, h0⟩ | ⟨l, cur, e, h0, _, h2⟩
        · exact .inl ⟨by simp [ρ0, e], h0⟩
        · exact .inr ⟨l, cur, by simp [ρ0, e], h0, hmay l e, h2⟩
      | succ i => simp at hb
    · cases i with
      | zero => cases j with
        | zero => exact absurd rfl hne
        | succ j => simp at h2
      | succ i => simp at h1
  have hrun := calls_run_at hΓ hf hb hm T hT n (B := B') (M0 := [.own ty sz m g]) (ρ0 := ρ0) (args := .sl 0 sz 0 m :: rest) (fun w' hw => hG w' (kept w' hw)) (by
    simp only [okSt, scL, SV.sc, Bool.and_eq_true]
    exact ⟨⟨rfl, scL_mono (fun n hn => by cases hn) _ hsc⟩, rfl⟩) hM0 h
  rw [hden] at hrun
  refine hrun.mono ?_
  rintro e w' ⟨ρ', x, M', rfl, hx, _, hw⟩
  refine ⟨ρ, _, rfl, fun _ => eqv_den hx ρ' ρ, fun _ _ _ => rfl, kept w' hw, ?_⟩
  have other : ∀ i b, (M.set k .dead)[i]? = some b → b = .dead ∨ (i ≠ k ∧ M[i]? = some b) := by
    intro i b hb
    rw [List.getElem?_set] at hb
    split at hb
    · split at hb
      · exact .inl (Option.some.inj hb).symm
      · cases hb
    · rename_i hne; exact .inr ⟨fun e => hne e.symm, hb⟩
  refine ⟨Nat.le_trans hM.size hw.size, fun i b hb => ?_, fun i j b c l l' hne h1 h2 o1 o2 e1 e2 => ?_⟩
  · rcases other i b hb with rfl | ⟨hne, hb'⟩
    · trivial
    · refine b.ok_same (hM.ok i b hb') (fun j hj => hw.block j (hle j hj)) fun ho l hl => hw.block _ fun hmay' => ?_
      have hlt := Blk.ok_lt (hM.ok i b hb') ho hl
      rcases hmay' with hx' | hs
      · cases hlk : ρ k with
        | none => simp [B', hlk] at hx'
        | some lk =>
          simp [B', hlk] at hx'
          exact hM.apart i k b _ l lk hne hb' hk ho rfl hl hlk hx'
      · have hs' : w.heap.size ≤ l.blk := hs
        omega
  · rcases other i b h1 with rfl | ⟨_, h1'⟩
    · cases o1
    · rcases other j c h2 with rfl | ⟨_, h2'⟩
      · cases o2
      · exact hM.apart i j b c l l' hne h1' h2' o1 o2 e1 e2
/-- A contract out of a theorem of the elder form. -/
theorem ctr_ret {P : Program} {f : FuncId} {args : List SV} {M : List Blk} {sv : SV} {ρ : Val} {B : Bd} {w : World} (hsv : ∀ ρ', sv.den ρ' = sv.den ρ) (h : Calls P f (denL ρ args).toArray w (Ret w (sv.den ρ))) :
    Calls P f (denL ρ args).toArray w fun e w' =>
      ∃ (ρ' : Val) (v : Value), e = .returned v ∧ (sv ≠ .junk → v = sv.den ρ') ∧ (∀ n, ¬ (M.length ≤ n ∧ n < M.length + ([] : List Blk).length) → ρ' n = ρ n) ∧ Below w.heap.size w w' ∧ New B w.heap.size ρ' M.length [] w' :=
  h.mono fun e w' ⟨he, g, hg⟩ => ⟨ρ, _, he, fun _ => rfl, fun _ _ => rfl, hg ▸ grow_below w g, New.nil ..⟩
theorem okNilB {P : Program} {G : World → Prop} : ∀ p ∈ ([] : List BCtr), BCtrOk P G p.1 p.2 := fun _ h => by cases h
theorem okConsB {P : Program} {G : World → Prop} {g : FuncId} {c : List SV → List Blk → BRes} {l : List BCtr} (h : BCtrOk P G g c) (t : ∀ p ∈ l, BCtrOk P G p.1 p.2) : ∀ p ∈ (g, c) :: l, BCtrOk P G p.1 p.2 := by
  intro p hp
  cases hp with
  | head => exact h
  | tail _ hp => exact t p hp
theorem okNil {P : Program} {G : World → Prop} : ∀ p ∈ ([] : List Ctr), CtrOk P G p.1 p.2 := fun _ h => by cases h
theorem okCons {P : Program} {G : World → Prop} {g : FuncId} {c : List SV → List Blk → Res} {l : List Ctr} (h : CtrOk P G g c) (t : ∀ p ∈ l, CtrOk P G p.1 p.2) : ∀ p ∈ (g, c) :: l, CtrOk P G p.1 p.2 := by
  intro p hp
  cases hp with
  | head => exact h
  | tail _ hp => exact t p hp
end Go.Sx
