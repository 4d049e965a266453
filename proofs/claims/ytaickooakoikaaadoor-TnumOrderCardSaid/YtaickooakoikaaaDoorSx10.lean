/- The symbolic executor: control, loops, calls. -/
import Derived.Test.YtaickooakoikaaaDoorSxD
namespace Go.Sx
open Go.RowKit Go.Proofs.YtaickooakoikaaaDoor
set_option linter.unusedSimpArgs false
set_option linter.unusedVariables false

inductive X where
  | normal
  | exit (id : Nat)
  | ret
def X.to : X → Exit
  | .normal => .normal
  | .exit id => .exit id
  | .ret => .ret

/-- A block, known as less. -/
def BLe (b : Blk) : Blk → Prop
  | .dead => True
  | .cells ty xs => b = .cells ty xs
  | .map es => b = .map es
  | .own ty sz m g => match b with
    | .own ty' sz' m' g' => ty = ty' ∧ sz = sz' ∧ m = m' ∧ ∀ i, i < m → g i = g' i
    | _ => False
  | .ro sz m g => match b with
    | .ro sz' m' g' => sz = sz' ∧ m = m' ∧ ∀ i, i < m → g i = g' i
    | _ => False
def MLe : List Blk → List Blk → Prop
  | _, [] => True
  | b :: M, c :: N => BLe b c ∧ MLe M N
  | [], _ :: _ => False
/-- Slots that are kept. -/
def pickF (F : List SV) : List Nat → List SV
  | [] => []
  | s :: l => (match nth F s with
    | some x => x
    | none => .junk) :: pickF F l
def junkF : Nat → List SV
  | 0 => []
  | n + 1 => .junk :: junkF n
def spreadF (F : List SV) : List Nat → List SV → List SV
  | s :: l, x :: xs => spreadF (setNth F s x) l xs
  | _, _ => F
/-- Nil slices as rows of one's own. -/
def liftF : List (Nat × TypeId × Nat) → List SV → List Blk → Option (List SV × List Blk)
  | [], F, M => some (F, M)
  | (s, ty, sz) :: l, F, M => match nth F s with
    | some (.val (.slice none 0 0)) => liftF l (setNth F s (.sl M.length sz 0 0)) (M ++ [.own ty sz 0 (fun _ => [])])
    | _ => none
def okSt (F : List SV) (M : List Blk) : Bool := scL (fun n => decide (n < M.length)) F && scAll M.length M

/-- Of each region whose order is open: how many come first, what waits for what. -/
abbrev Tbl := List (Nat × Nat × List Nat)
def findT : Tbl → Nat → Option (Nat × List Nat)
  | [], _ => none
  | (i, h, bs) :: l, id => match Nat.beq i id with
    | true => some (h, bs)
    | false => findT l id
def codeOk (T : Tbl) : Code → Bool
  | .seq a b => codeOk T a && codeOk T b
  | .cond _ a b => codeOk T a && codeOk T b
  | .block _ c => codeOk T c
  | .loop c => codeOk T c
  | .region id ops true => match findT T id with
    | some (h, bs) => drawOk ops.toList bs h
    | none => true
  | _ => true
/-- One step of the control, before what follows. -/
def stepC (P : Program) (Γ : Env) (T : Tbl) (ih : Code → List SV → List Blk → (X → List SV → List Blk → Prop) → Prop) (c : Code) (F : List SV) (M : List Blk) (K : X → List SV → List Blk → Prop) : Prop :=
  match c with
    | .skip => K .normal F M
    | .label _ => K .normal F M
    | .seq a b => ih a F M fun e F' M' => match e with
      | .normal => ih b F' M' K
      | e => K e F' M'
    | .cond c x y => match evS F c with
      | .tt => ih x F M K
      | .ff => ih y F M K
      | .bool b => (b = true → ih x F M K) ∧ (b = false → ih y F M K)
      | _ => False
    | .block id c => ih c F M fun e F' M' => match e with
      | .exit id' => match Nat.beq id' id with
        | true => K .normal F' M'
        | false => K (.exit id') F' M'
      | e => K e F' M'
    | .exit id => K (.exit id) F M
    | .ret => K .ret F M
    | .region id ops draw => match draw with
      | false => runOps P Γ ops.toList (guardsOf ops.toList) ops.toList 0 F M fun F' M' => K .normal F' M'
      | true => match findT T id with
        | some (h, bs) => runHead P Γ ops.toList (guardsOf ops.toList) bs M.length (ops.toList.take h) 0 F M [] fun F' M' => runOps P Γ ops.toList (guardsOf ops.toList) (ops.toList.drop h) h F' M' fun F' M' => K .normal F' M'
        | none => False
    | .loop c => ∃ (lift : List (Nat × TypeId × Nat)) (keep : List Nat) (I : Nat → List SV → List Blk → Prop), match liftF lift F M with
      | none => False
      | some (F0, M0) => (∃ (k : Nat) (M1 : List Blk), MLe M0 M1 ∧ okSt (pickF F0 keep) M1 = true ∧ I k (pickF F0 keep) M1) ∧
        ∀ (k : Nat) (vals : List SV) (M1 : List Blk), I k vals M1 → ih c (spreadF (junkF F.length) keep vals) M1 fun e F' M' => match e with
          | .normal => ∃ (k' : Nat) (M2 : List Blk), k' < k ∧ MLe M' M2 ∧ okSt (pickF F' keep) M2 = true ∧ I k' (pickF F' keep) M2
          | e => K e F' M'
    | _ => False
def run (P : Program) (Γ : Env) (T : Tbl) (n : Nat) : Code → List SV → List Blk → (X → List SV → List Blk → Prop) → Prop :=
  Nat.rec (motive := fun _ => Code → List SV → List Blk → (X → List SV → List Blk → Prop) → Prop) (fun _ _ _ _ => False) (fun _ ih => stepC P Γ T ih) n
theorem run_succ (P : Program) (Γ : Env) (T : Tbl) (n : Nat) (c : Code) (F : List SV) (M : List Blk) (K : X → List SV → List Blk → Prop) : run P Γ T (n + 1) c F M K = stepC P Γ T (run P Γ T n) c F M K := rfl

section
variable {P : Program} {B : Bd} {w0 : World}
theorem BLe.ok {ρ : Val} {n : Nat} {w : World} {b c : Blk} (h : BLe b c) (hb : b.ok B ρ n w) : c.ok B ρ n w := by
  cases c with
  | dead => trivial
  | cells ty xs => obtain rfl : b = _ := h; exact hb
  | map es => obtain rfl : b = _ := h; exact hb
  | own ty sz m g =>
    cases b <;> try (exact h.elim)
    obtain ⟨rfl, rfl, rfl, hg⟩ := h
    exact own_congr hb hg
  | ro sz m g =>
    cases b <;> try (exact h.elim)
    obtain ⟨rfl, rfl, hg⟩ := h
    refine ⟨hb.1, fun l hl => ?_⟩
    obtain ⟨h1, h2, h3⟩ := hb.2 l hl
    exact ⟨h1, h2, fun i hi => by rw [hg i hi]; exact h3 i hi⟩
theorem BLe.own {b c : Blk} (h : BLe b c) (hc : c.isOwn = true) : b.isOwn = true := by
  cases c with
  | dead => cases hc
  | ro => cases hc
  | cells ty xs => obtain rfl : b = _ := h; rfl
  | map es => obtain rfl : b = _ := h; rfl
  | own ty sz m g => cases b <;> first | rfl | exact h.elim
theorem MLe.get : ∀ {M N : List Blk} (h : MLe M N) (n : Nat) (c : Blk), N[n]? = some c → ∃ b, M[n]? = some b ∧ BLe b c
  | _, [], _, n, c, hc => by simp at hc
  | [], _ :: _, h, _, _, _ => h.elim
  | b :: M, d :: N, h, 0, c, hc => by
    simp only [List.getElem?_cons_zero, Option.some.injEq] at hc
    subst hc; exact ⟨b, rfl, h.1⟩
  | b :: M, d :: N, h, n + 1, c, hc => by
    simp only [List.getElem?_cons_succ] at hc ⊢
    exact MLe.get h.2 n c hc
theorem MRel.le {ρ : Val} {M N : List Blk} {w : World} (h : MRel B ρ M w) (hle : MLe M N) : MRel B ρ N w := by
  refine ⟨h.size, fun n c hc => ?_, fun n m b c l k hne h1 h2 o1 o2 e1 e2 => ?_⟩
  · obtain ⟨b, hb, hbc⟩ := hle.get n c hc
    exact hbc.ok (h.ok n b hb)
  · obtain ⟨b', hb', hbb⟩ := hle.get n b h1
    obtain ⟨c', hc', hcc⟩ := hle.get m c h2
    exact h.apart n m b' c' l k hne hb' hc' (hbb.own o1) (hcc.own o2) e1 e2
theorem junkF_length : ∀ n, (junkF n).length = n
  | 0 => rfl
  | n + 1 => by simp [junkF, junkF_length n]
theorem junkF_get : ∀ (n s : Nat) (x : SV), (junkF n)[s]? = some x → x = .junk
  | 0, s, x, h => by simp [junkF] at h
  | n + 1, 0, x, h => by simp [junkF] at h; exact h.symm
  | n + 1, s + 1, x, h => by simp only [junkF, List.getElem?_cons_succ] at h; exact junkF_get n s x h
theorem spreadF_length : ∀ (keep : List Nat) (F vals : List SV), (spreadF F keep vals).length = F.length
  | [], F, vals => by cases vals <;> rfl
  | _ :: _, F, [] => rfl
  | s :: l, F, x :: xs => by rw [spreadF, spreadF_length l]; simp [setNth_eq]
theorem spreadF_get {G : Nat → SV → Prop} : ∀ (keep : List Nat) (F vals : List SV), (∀ (s : Nat) (x : SV), F[s]? = some x → x ≠ .junk → G s x) → (∀ (i s : Nat) (x : SV), keep[i]? = some s → vals[i]? = some x → x ≠ .junk → G s x) →
    ∀ (s : Nat) (x : SV), (spreadF F keep vals)[s]? = some x → x ≠ .junk → G s x
  | [], F, vals, h, _, s, x, hs, hx => by
    have : spreadF F [] vals = F := by cases vals <;> rfl
    rw [this] at hs; exact h s x hs hx
  | k :: l, F, [], h, _, s, x, hs, hx => h s x hs hx
  | k :: l, F, v :: vs, h, hv, s, x, hs, hx => by
    rw [spreadF] at hs
    refine spreadF_get l _ vs (fun s x hs hx => ?_) (fun i s x h1 h2 => hv (i + 1) s x (by simpa using h1) (by simpa using h2)) s x hs hx
    rw [setNth_eq, List.getElem?_set] at hs
    split at hs
    · rename_i e; subst e
      split at hs
      · obtain rfl := Option.some.inj hs; exact hv 0 k _ rfl rfl hx
      · cases hs
    · exact h s x hs hx
theorem pickF_get {F : List SV} : ∀ (keep : List Nat) (i s : Nat) (x : SV), keep[i]? = some s → (pickF F keep)[i]? = some x → x ≠ .junk → F[s]? = some x
  | [], i, s, x, h, _, _ => by simp at h
  | k :: l, 0, s, x, h, hx, hj => by
    simp only [List.getElem?_cons_zero, Option.some.injEq] at h
    subst h
    simp only [pickF, List.getElem?_cons_zero, Option.some.injEq] at hx
    split at hx
    · rename_i y hy; rw [nth_eq] at hy; rw [hy, hx]
    · exact absurd hx.symm hj
  | k :: l, i + 1, s, x, h, hx, hj => by
    simp only [List.getElem?_cons_succ, pickF] at h hx
    exact pickF_get l i s x h hx hj
/-- The state at a loop's head: the slots that are kept, a memory that is known as less. -/
theorem Rel.cut {ρ : Val} {F : List SV} {M N : List Blk} {a : Act} {w : World} {keep : List Nat} {len : Nat} (h : Rel B w0 ρ F M a w) (hlen : F.length = len) (hle : MLe M N) (hok : okSt (pickF F keep) N = true) :
    Rel B w0 ρ (spreadF (junkF len) keep (pickF F keep)) N a w := by
  simp only [okSt, Bool.and_eq_true] at hok
  refine ⟨h.defers, ?_, ?_, ?_, hok.2, h.mem.le hle, h.below⟩
  · rw [spreadF_length, junkF_length, h.size, hlen]
  · exact spreadF_get (G := fun s x => a.tmps[s]? = some (x.den ρ)) keep _ _ (fun s x hs hx => absurd (junkF_get _ s x hs) hx) (fun i s x h1 h2 hx => h.slot s x (pickF_get keep i s x h1 h2 hx) hx)
  · refine scL_of fun s x hs => ?_
    by_cases hx : x = .junk
    · subst hx; rfl
    · refine spreadF_get (G := fun s x => x.sc (fun n => decide (n < N.length)) = true) keep _ _ (fun s x hs hx => absurd (junkF_get _ s x hs) hx) (fun i s x h1 h2 hx => scL_get hok.1 h2) s x hs hx
theorem liftF_rel {len : Nat} : ∀ (lift : List (Nat × TypeId × Nat)) {ρ : Val} {F F0 : List SV} {M M0 : List Blk} {a : Act} {w : World}, Rel B w0 ρ F M a w → F.length = len → liftF lift F M = some (F0, M0) → ∃ ρ', Rel B w0 ρ' F0 M0 a w ∧ F0.length = len
  | [], ρ, F, F0, M, M0, a, w, h, hlen, he => by
    simp only [liftF, Option.some.injEq, Prod.mk.injEq] at he
    obtain ⟨rfl, rfl⟩ := he; exact ⟨ρ, h, hlen⟩
  | (s, ty, sz) :: l, ρ, F, F0, M, M0, a, w, h, hlen, he => by
    simp only [liftF] at he
    split at he
    · rename_i hs
      rw [nth_eq] at hs
      refine liftF_rel l (ρ := setρ ρ M.length none) ?_ (by simp [setNth_eq, hlen]) he
      have hlt : ∀ k, k < M.length → setρ ρ M.length none k = ρ k := fun k hk => setρ_other (by omega)
      have hden : ∀ (s : Nat) (x : SV), F[s]? = some x → x.den (setρ ρ M.length none) = x.den ρ := fun s x hs => SV.den_congr (p := fun n => decide (n < M.length)) (fun n hn => hlt n (by simpa using hn)) x (scL_get h.scF hs)
      have hnew : New B w.heap.size (setρ ρ M.length none) M.length [.own ty sz 0 fun _ => []] w := new_one (l := ⟨0, 0, 0⟩) ⟨fun i hi => by omega, .inl ⟨setρ_self .., rfl⟩⟩ fun _ l hl => by rw [setρ_self] at hl; cases hl
      refine ⟨h.defers, by simp [setNth_eq, h.size], fun t x ht hx => ?_, scL_of fun t x ht => ?_, ?_, h.mem.grown h.scM hlt (Below.refl _ _) hnew, h.below⟩
      · rw [setNth_eq, List.getElem?_set] at ht
        split at ht
        · rename_i e; subst e
          split at ht
          · obtain rfl := Option.some.inj ht
            rw [h.slot s _ hs (by simp)]
            simp [SV.den, setρ_self]
          · cases ht
        · rw [hden t x ht]; exact h.slot t x ht hx
      · rw [setNth_eq, List.getElem?_set] at ht
        split at ht
        · split at ht
          · obtain rfl := Option.some.inj ht; simp [SV.sc]
          · cases ht
        · exact SV.sc_mono (fun n hn => by simp only [decide_eq_true_eq, List.length_append] at hn ⊢; omega) x (scL_get h.scF ht)
      · exact (chk_spec (sv := .tt) (nb := [.own ty sz 0 fun _ => []]) rfl h.scM).2
    · cases he
end

theorem Res.run_mono {K L : SV → List Blk → Prop} (h : ∀ sv nb, K sv nb → L sv nb) : ∀ r : Res, r.run K → r.run L
  | .fail, h' => h'
  | .ok sv nb, h' => h sv nb h'
  | .test _ r, h' => ⟨h'.1, Res.run_mono h r h'.2⟩
  | .split _ r s, h' => ⟨fun hb => Res.run_mono h r (h'.1 hb), fun hb => Res.run_mono h s (h'.2 hb)⟩
theorem BRes.run_mono {K L : SV → List Blk → Option Nat → Prop} (h : ∀ sv M k, K sv M k → L sv M k) : ∀ r : BRes, r.run K → r.run L
  | .fail, h' => h'
  | .ok sv M k, h' => h sv M k h'
  | .test _ r, h' => ⟨h'.1, BRes.run_mono h r h'.2⟩
theorem runOps_len {P : Program} {Γ : Env} {ops : List Oper} {gs : List Nat} {K : List SV → List Blk → Prop} : ∀ (os : List Oper) (i : Nat) (F : List SV) (M : List Blk), runOps P Γ ops gs os i F M K → runOps P Γ ops gs os i F M (fun F' M' => F'.length = F.length ∧ K F' M')
  | [], i, F, M, h => ⟨rfl, h⟩
  | o :: os, i, F, M, h => by
    have key : ∀ (F1 : List SV) (M1 : List Blk), F1.length = F.length → runOps P Γ ops gs os (i + 1) F1 M1 K → runOps P Γ ops gs os (i + 1) F1 M1 (fun F' M' => F'.length = F.length ∧ K F' M') := fun F1 M1 hl h1 => by
      have := runOps_len os (i + 1) F1 M1 h1
      rwa [hl] at this
    rw [runOps_cons] at h ⊢
    unfold stepOp at h ⊢
    simp only [force3_eq, forceM_eq, addM_eq, setFF_eq, spine_eq] at h ⊢
    split at h
    · exact h.elim
    · exact key _ _ (setF_length ..) h
    · split at h
      · refine BRes.run_mono (fun sv M' k hh => ?_) _ h
        split at hh
        · exact key _ _ (by rw [setF_length]; cases k <;> simp [killF]) hh
        · exact hh.elim
      · refine Res.run_mono (fun sv nb hh => ?_) _ h
        split at hh
        · exact hh.elim
        · split at hh
          · exact key _ _ (setF_length ..) hh
          · split at hh
            · exact key _ _ (setF_length ..) hh
            · exact key _ _ (setF_length ..) hh
            · exact ⟨fun hb => key _ _ (setF_length ..) (hh.1 hb), fun hb => key _ _ (setF_length ..) (hh.2 hb)⟩
            · exact hh.elim
theorem runHead_len {P : Program} {Γ : Env} {ops : List Oper} {gs bs : List Nat} {m0 h : Nat} {K : List SV → List Blk → Prop} {os' : List Oper} : ∀ {os : List Oper} {i : Nat} {F : List SV} {M : List Blk} {own : List Nat},
    runHead P Γ ops gs bs m0 os i F M own (fun F' M' => runOps P Γ ops gs os' h F' M' K) → runHead P Γ ops gs bs m0 os i F M own (fun F' M' => runOps P Γ ops gs os' h F' M' fun F' M' => F'.length = F.length ∧ K F' M')
  | [], i, F, M, own, hr => runOps_len _ _ _ _ hr
  | o :: os, i, F, M, own, hr => by
    have key : ∀ (F1 : List SV) (M1 : List Blk) (own1 : List Nat), F1.length = F.length → runHead P Γ ops gs bs m0 os (i + 1) F1 M1 own1 (fun F' M' => runOps P Γ ops gs os' h F' M' K) → runHead P Γ ops gs bs m0 os (i + 1) F1 M1 own1 (fun F' M' => runOps P Γ ops gs os' h F' M' fun F' M' => F'.length = F.length ∧ K F' M') := fun F1 M1 own1 hl h1 => by
      have := runHead_len h1
      rwa [hl] at this
    rw [runHead_cons] at hr ⊢
    unfold stepD at hr ⊢
    simp only [force3_eq, addM_eq, setFF_eq, spine_eq] at hr ⊢
    split at hr
    · exact hr.elim
    · exact key _ _ _ (setF_length ..) hr
    · refine Res.run_mono (fun sv nb hh => ?_) _ hr
      split at hh
      · exact hh.elim
      · split at hh
        · exact key _ _ _ (setF_length ..) hh
        · split at hh
          · exact key _ _ _ (setF_length ..) hh
          · exact key _ _ _ (setF_length ..) hh
          · exact ⟨fun hb => key _ _ _ (setF_length ..) (hh.1 hb), fun hb => key _ _ _ (setF_length ..) (hh.2 hb)⟩
          · exact hh.elim
/-- A loop whose rounds lower a number that need not be read off the state. -/
theorem wp_loop_at {P : Program} {Q : Exit → Act → World → Prop} {c : Code} (I : Nat → Act → World → Prop) (round : ∀ k a w, I k a w → c.wp P (Exit.then (fun a' w' => ∃ k', k' < k ∧ I k' a' w') Q) a w) :
    ∀ {k : Nat} {a : Act} {w : World}, I k a w → (Code.loop c).wp P Q a w := by
  have key : ∀ (n : Nat) (a : Act) (w : World), I n a w → ∀ (b : Frame) (k : List Item) (cs : List Frame), ∃ e a' w', Q e a' w' ∧ Arrives P (lone (b.at a (.code c :: .inLoop c :: k)) cs w) b k cs e a' w' := by
    intro n
    induction n using Nat.strongRecOn with
    | _ n ih =>
      intro a w hI b k cs
      obtain ⟨e, a₁, w₁, hq, harr⟩ := round n a w hI b (.inLoop c :: k) cs
      cases e with
      | normal =>
        obtain ⟨m, hlt, hI₁⟩ := hq
        obtain ⟨e₂, a₂, w₂, hq₂, harr₂⟩ := ih m hlt a₁ w₁ hI₁ b k cs
        exact ⟨e₂, a₂, w₂, hq₂, .of_steps (Steps.trans harr (.one step_inLoop)) harr₂⟩
      | exit id => exact ⟨_, a₁, w₁, hq, .pass (x := .inLoop c) rfl (fun _ _ => .inl (by simp)) harr⟩
      | goto l => exact ⟨_, a₁, w₁, hq, .pass (x := .inLoop c) rfl (fun _ _ => .inl (by simp)) harr⟩
      | ret => exact ⟨_, a₁, w₁, hq, .pass (x := .inLoop c) rfl (fun _ _ => .inl (by simp)) harr⟩
      | panic ch => exact ⟨_, a₁, w₁, hq, .pass (x := .inLoop c) rfl (fun _ _ => .inl (by simp)) harr⟩
      | outgrown => exact ⟨_, a₁, w₁, hq, .pass (x := .inLoop c) rfl (fun _ _ => .inl (by simp)) harr⟩
  intro k a w hI b k' cs
  obtain ⟨e, a', w', hq, harr⟩ := key k a w hI b k' cs
  exact ⟨e, a', w', hq, .of_steps (.one step_loop) harr⟩

/-- SOUNDNESS. -/
theorem run_sound {P : Program} {G : World → Prop} {B : Bd} {w0 : World} (hG : ∀ w, Kept B w0 w → G w) (hm : P.follows .mixedOrders = true) {Γ : Env} (hΓ : EnvOk P G Γ) {T : Tbl} :
    ∀ (n : Nat) (c : Code) (F : List SV) (M : List Blk) (K : X → List SV → List Blk → Prop) (ρ : Val) (a : Act) (w : World), codeOk T c = true → run P Γ T n c F M K → Rel B w0 ρ F M a w →
      c.wp P (fun e a' w' => ∃ (x : X) (F' : List SV) (M' : List Blk) (ρ' : Val), e = x.to ∧ F'.length = F.length ∧ Rel B w0 ρ' F' M' a' w' ∧ K x F' M') a w := by
  intro n
  induction n with
  | zero => intro c F M K ρ a w _ h; exact h.elim
  | succ n ih =>
    intro c F M K ρ a w hT h hR
    rw [run_succ] at h
    cases c <;> simp only [stepC] at h
    case skip => exact wp_skip ⟨.normal, F, M, ρ, rfl, rfl, hR, h⟩
    case label => exact wp_label ⟨.normal, F, M, ρ, rfl, rfl, hR, h⟩
    case exit id => exact wp_exit ⟨.exit id, F, M, ρ, rfl, rfl, hR, h⟩
    case ret => exact wp_ret ⟨.ret, F, M, ρ, rfl, rfl, hR, h⟩
    case seq x y =>
      simp only [codeOk, Bool.and_eq_true] at hT
      refine wp_seq (wp_mono (ih x F M _ ρ a w hT.1 h hR) ?_)
      rintro e a' w' ⟨x', F', M', ρ', rfl, hlen, hR', hK⟩
      cases x' with
      | normal =>
        refine wp_mono (ih y F' M' K ρ' a' w' hT.2 hK hR') ?_
        rintro e a'' w'' ⟨x'', F'', M'', ρ'', rfl, hlen', hR'', hK'⟩
        exact ⟨x'', F'', M'', ρ'', rfl, by rw [hlen', hlen], hR'', hK'⟩
      | exit id => exact ⟨.exit id, F', M', ρ', rfl, hlen, hR', hK⟩
      | ret => exact ⟨.ret, F', M', ρ', rfl, hlen, hR', hK⟩
    case cond o x y =>
      simp only [codeOk, Bool.and_eq_true] at hT
      split at h
      · rename_i ho
        have he := hR.ev o (by rw [ho]; simp)
        rw [ho] at he
        exact wp_cond_true he (ih x F M K ρ a w hT.1 h hR)
      · rename_i ho
        have he := hR.ev o (by rw [ho]; simp)
        rw [ho] at he
        exact wp_cond_false he (ih y F M K ρ a w hT.2 h hR)
      · rename_i b ho
        have he := hR.ev o (by rw [ho]; simp)
        rw [ho] at he
        exact wp_cond_split he (fun hb => ih x F M K ρ a w hT.1 (h.1 hb) hR) (fun hb => ih y F M K ρ a w hT.2 (h.2 hb) hR)
      · exact h.elim
    case block id c =>
      refine wp_block (wp_mono (ih c F M _ ρ a w hT h hR) ?_)
      rintro e a' w' ⟨x', F', M', ρ', rfl, hlen, hR', hK⟩
      cases x' with
      | normal => exact ⟨.normal, F', M', ρ', rfl, hlen, hR', hK⟩
      | ret => exact ⟨.ret, F', M', ρ', rfl, hlen, hR', hK⟩
      | exit id' =>
        simp only [X.to, Exit.inBlock]
        simp only at hK
        split at hK
        · rename_i hb
          rw [if_pos (Nat.eq_of_beq_eq_true hb)]
          exact ⟨.normal, F', M', ρ', rfl, hlen, hR', hK⟩
        · rename_i hb
          rw [if_neg (fun e => by subst e; simp at hb)]
          exact ⟨.exit id', F', M', ρ', rfl, hlen, hR', hK⟩
    case region id ops draw =>
      cases draw with
      | false =>
        simp only at h
        have := runOps_list (B := B) (w0 := w0) hG hΓ (ops := ops.toList) (gs := guardsOf ops.toList) (K := fun F' M' => F'.length = F.length ∧ K .normal F' M')
          (Q := fun e a' w' => ∃ (x : X) (F' : List SV) (M' : List Blk) (ρ' : Val), e = x.to ∧ F'.length = F.length ∧ Rel B w0 ρ' F' M' a' w' ∧ K x F' M')
          (fun F' M' ρ' a' w' hR' hK => ⟨.normal, F', M', ρ', rfl, hK.1, hR', hK.2⟩) ops.toList 0 F M ρ a w (runOps_len _ _ _ _ h) hR
        exact wp_region_list (by simpa using this)
      | true =>
        simp only at h
        split at h
        · rename_i hh bs hf
          simp only [codeOk, hf] at hT
          have := draw_sound (B := B) (w0 := w0) (id := id) hm hG hΓ (ops := ops.toList) (bs := bs) (F := F) (M := M) (gs := guardsOf ops.toList) (h := hh) hT (K := fun F' M' => F'.length = F.length ∧ K .normal F' M')
            (Q := fun e a' w' => ∃ (x : X) (F' : List SV) (M' : List Blk) (ρ' : Val), e = x.to ∧ F'.length = F.length ∧ Rel B w0 ρ' F' M' a' w' ∧ K x F' M')
            (fun F' M' ρ' a' w' hR' hK => ⟨.normal, F', M', ρ', rfl, hK.1, hR', hK.2⟩) (runHead_len h) hR
          simpa using this
        · exact h.elim
    case loop c =>
      obtain ⟨lift, keep, I, h⟩ := h
      split at h
      · exact h.elim
      · rename_i F0 M0 hl
        obtain ⟨⟨k, M1, hle, hok, hI⟩, hround⟩ := h
        obtain ⟨ρ', hR0, hlen0⟩ := liftF_rel lift hR rfl hl
        refine wp_loop_at (I := fun k a' w' => ∃ (vals : List SV) (M1 : List Blk) (ρ' : Val), I k vals M1 ∧ Rel B w0 ρ' (spreadF (junkF F.length) keep vals) M1 a' w') (fun k a' w' hI' => ?_) (k := k) ⟨_, M1, ρ', hI, hR0.cut hlen0 hle hok⟩
        obtain ⟨vals, M1, ρ1, hI1, hR1⟩ := hI'
        refine wp_mono (ih c _ M1 _ ρ1 a' w' hT (hround k vals M1 hI1) hR1) ?_
        rintro e a'' w'' ⟨x, F', M', ρ2, rfl, hlen', hR', hK⟩
        have hlen2 : F'.length = F.length := by rw [hlen', spreadF_length, junkF_length]
        cases x with
        | normal =>
          obtain ⟨k', M2, hlt, hle2, hok2, hI2⟩ := hK
          exact ⟨k', hlt, _, M2, ρ2, hI2, hR'.cut hlen2 hle2 hok2⟩
        | exit id => exact ⟨.exit id, F', M', ρ2, rfl, hlen2, hR', hK⟩
        | ret => exact ⟨.ret, F', M', ρ2, rfl, hlen2, hR', hK⟩
    all_goals exact h.elim
end Go.Sx
