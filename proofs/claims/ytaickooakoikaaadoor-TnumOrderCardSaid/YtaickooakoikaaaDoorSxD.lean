/- The symbolic executor: regions whose order is open: first operations that only read and make memory, in whatever order; then the others, one by one. -/
import Derived.Test.YtaickooakoikaaaDoorSx9
import Derived.StillTail
namespace Go.Sx
open Go.RowKit Go.Proofs.YtaickooakoikaaaDoor
set_option linter.unusedSimpArgs false
set_option linter.unusedVariables false

/-! ### What waits for what: bits -/
def edgeBits : List Edge → List Nat → Nat
  | [], _ => 0
  | e :: l, acc => match Region.binds .any e with
    | true => Nat.lor (Nat.lor (Nat.shiftLeft 1 e.on) (match nth acc e.on with | some b => b | none => 0)) (edgeBits l acc)
    | false => edgeBits l acc
def befGo : List Oper → List Nat → List Nat
  | [], acc => acc
  | o :: os, acc => befGo os (acc ++ [edgeBits o.after.toList acc])
def befS (ops : List Oper) : List Nat := befGo ops []
def bitB (bs : List Nat) (i j : Nat) : Bool := match nth bs i with
  | some b => Nat.testBit b j
  | none => false
/-- From where on each one waits for all before it. -/
def headGo : List Nat → Nat → Nat → Nat
  | [], _, h => h
  | b :: bs, i, h => headGo bs (i + 1) (match Nat.beq (Nat.land b (Nat.pow 2 i - 1)) (Nat.pow 2 i - 1) with
    | true => h
    | false => i + 1)
def headN (bs : List Nat) : Nat := headGo bs 0 0

def closB (ops : List Oper) (bs : List Nat) : Bool := (List.range ops.length).all fun i => match ops[i]? with
  | some o => o.after.toList.all (fun e => !Region.binds .any e || decide (e.on < i)) && (List.range ops.length).all (fun j => !bitB bs i j || o.after.toList.any fun e => Region.binds .any e && (decide (e.on = j) || bitB bs e.on j))
  | none => false
def dstN (ops : List Oper) (i : Nat) : Option Nat := (ops[i]?).bind (·.dst)
def listedH (n h : Nat) : Array Bool := ((List.range n).map fun i => decide (i < h)).toArray
def drawOk (ops : List Oper) (bs : List Nat) (h : Nat) : Bool :=
  closB ops bs && decide (h ≤ ops.length) && Region.seqB .any ops.toArray (ops.length - h) h (listedH ops.length h) &&
  ((List.range h).all fun i => match ops[i]? with
    | some o => !isBar o && (match o.guard with | some (g, _) => bitB bs i g && decide (g < i) | none => true) &&
      (List.range h).all fun j => match dstN ops j with
        | some t => decide (i = j) || (decide (o.dst ≠ some t) && (!(o.looksAt ops.toArray).contains t || (if j < i then bitB bs i j else bitB bs j i)))
        | none => true
    | none => false) &&
  ((List.range ops.length).all fun i => decide (i < h) || (List.range i).all fun j => bitB bs i j)

/-- May operation i know the name n? -/
def visB (bs : List Nat) (m0 : Nat) (own : List Nat) (i n : Nat) : Bool := match Nat.blt n m0 with
  | true => true
  | false => match nth own (n - m0) with
    | some k => match Nat.beq k i with
      | true => true
      | false => bitB bs i k
    | none => false
def maskM (p : Nat → Bool) : Nat → List Blk → List Blk
  | _, [] => []
  | n, b :: l => (match p n with
    | true => b
    | false => .dead) :: maskM p (n + 1) l
def repN (i : Nat) : Nat → List Nat
  | 0 => []
  | n + 1 => i :: repN i n
def stepD (P : Program) (Γ : Env) (ops : List Oper) (gs bs : List Nat) (m0 : Nat) (o : Oper) (ih : Nat → List SV → List Blk → List Nat → (List SV → List Blk → Prop) → Prop) (i : Nat) (F : List SV) (M : List Blk) (own : List Nat) (K : List SV → List Blk → Prop) : Prop :=
  match wants ops F o.guard with
    | none => False
    | some false => setFF F o.dst (.tup []) fun F' => ih (i + 1) F' M own K
    | some true => (stepH P Γ (evS F) (maskM (visB bs m0 own i) 0 M) o).run fun sv nb => force3 sv fun sv => match sv.sc (visB bs m0 (own ++ repN i nb.length) i) && nb.all (Blk.sc (visB bs m0 (own ++ repN i nb.length) i)) with
        | false => False
        | true => addM M nb fun M' => spine (own ++ repN i nb.length) fun own' => match memN i gs with
          | false => setFF F o.dst sv fun F' => ih (i + 1) F' M' own' K
          | true => match sv with
            | .tt => setFF F o.dst .tt fun F' => ih (i + 1) F' M' own' K
            | .ff => setFF F o.dst .ff fun F' => ih (i + 1) F' M' own' K
            | .bool b => (b = true → setFF F o.dst .tt fun F' => ih (i + 1) F' M' own' K) ∧ (b = false → setFF F o.dst .ff fun F' => ih (i + 1) F' M' own' K)
            | _ => False
def runHead (P : Program) (Γ : Env) (ops : List Oper) (gs bs : List Nat) (m0 : Nat) (os : List Oper) : Nat → List SV → List Blk → List Nat → (List SV → List Blk → Prop) → Prop :=
  List.rec (motive := fun _ => Nat → List SV → List Blk → List Nat → (List SV → List Blk → Prop) → Prop) (fun _ F M _ K => K F M) (fun o _ ih => stepD P Γ ops gs bs m0 o ih) os
theorem runHead_cons (P : Program) (Γ : Env) (ops : List Oper) (gs bs : List Nat) (m0 : Nat) (o : Oper) (os : List Oper) (i : Nat) (F : List SV) (M : List Blk) (own : List Nat) (K : List SV → List Blk → Prop) :
    runHead P Γ ops gs bs m0 (o :: os) i F M own K = stepD P Γ ops gs bs m0 o (runHead P Γ ops gs bs m0 os) i F M own K := rfl

/-! ### The path that is taken in the order of the text -/
structure HS where
  sv : SV
  nb : List Blk
def svN (hs : List HS) (i : Nat) : SV := ((hs[i]?).map (·.sv)).getD .junk
def nbN (hs : List HS) (i : Nat) : List Blk := ((hs[i]?).map (·.nb)).getD []
def FsN (ops : List Oper) (F : List SV) (hs : List HS) : Nat → List SV
  | 0 => F
  | i + 1 => setF (FsN ops F hs i) (dstN ops i) (svN hs i)
def MsN (M : List Blk) (hs : List HS) : Nat → List Blk
  | 0 => M
  | i + 1 => MsN M hs i ++ nbN hs i
def owN (hs : List HS) : Nat → List Nat
  | 0 => []
  | i + 1 => owN hs i ++ repN i (nbN hs i).length
theorem svN_append {hs : List HS} {t : List HS} {i : Nat} (h : i < hs.length) : svN (hs ++ t) i = svN hs i := by simp [svN, List.getElem?_append_left h]
theorem nbN_append {hs : List HS} {t : List HS} {i : Nat} (h : i < hs.length) : nbN (hs ++ t) i = nbN hs i := by simp [nbN, List.getElem?_append_left h]
theorem FsN_append {ops : List Oper} {F : List SV} {hs t : List HS} : ∀ i, i ≤ hs.length → FsN ops F (hs ++ t) i = FsN ops F hs i
  | 0, _ => rfl
  | i + 1, h => by
    have ih := FsN_append (ops := ops) (F := F) (hs := hs) (t := t) i (by omega)
    simp only [FsN, ih, svN_append (show i < hs.length by omega)]
theorem MsN_append {M : List Blk} {hs t : List HS} : ∀ i, i ≤ hs.length → MsN M (hs ++ t) i = MsN M hs i
  | 0, _ => rfl
  | i + 1, h => by
    have ih := MsN_append (M := M) (hs := hs) (t := t) i (by omega)
    simp only [MsN, ih, nbN_append (show i < hs.length by omega)]
theorem owN_append {hs t : List HS} : ∀ i, i ≤ hs.length → owN (hs ++ t) i = owN hs i
  | 0, _ => rfl
  | i + 1, h => by
    have ih := owN_append (hs := hs) (t := t) i (by omega)
    simp only [owN, ih, nbN_append (show i < hs.length by omega)]

section
variable {P : Program} {G : World → Prop} {ops : List Oper} {bs : List Nat} {F : List SV} {M : List Blk}
/-- One step of the path. -/
def PStep (P : Program) (G : World → Prop) (ops : List Oper) (bs : List Nat) (F : List SV) (M : List Blk) (hs : List HS) (i : Nat) : Prop := ∃ o, ops[i]? = some o ∧
  ((wants ops (FsN ops F hs i) o.guard = some false ∧ svN hs i = .tup [] ∧ nbN hs i = []) ∨
   (wants ops (FsN ops F hs i) o.guard = some true ∧ OpOk P G (evS (FsN ops F hs i)) (maskM (visB bs M.length (owN hs i) i) 0 (MsN M hs i)) o (svN hs i) (nbN hs i) ∧
    (svN hs i).sc (visB bs M.length (owN hs (i + 1)) i) = true ∧ (nbN hs i).all (Blk.sc (visB bs M.length (owN hs (i + 1)) i)) = true))
theorem PStep.append {hs t : List HS} {i : Nat} (h : PStep P G ops bs F M hs i) (hi : i < hs.length) : PStep P G ops bs F M (hs ++ t) i := by
  unfold PStep at *
  rw [FsN_append i (by omega), MsN_append i (by omega), owN_append i (by omega), owN_append (i + 1) (by omega), svN_append hi, nbN_append hi]
  exact h
theorem OpOk.lit {ev : Operand → SV} {M : List Blk} {o : Oper} {nb : List Blk} {b : Bool} {sv : SV} (h : OpOk P G ev M o (.bool b) nb) (hd : ∀ ρ : Val, sv.den ρ = .bool b) : OpOk P G ev M o sv nb :=
  fun B ρ a w next Q he hM hG hn => h B ρ a w next Q he hM hG fun ρ' w' v hv => hn ρ' w' v fun _ => by rw [hd]; exact hv (by simp)
theorem runHead_path {Γ : Env} (hΓ : EnvOk P G Γ) {gs : List Nat} {K : List SV → List Blk → Prop} :
    ∀ (os : List Oper) (hs : List HS), (∀ j, j < os.length → ops[hs.length + j]? = os[j]?) → (∀ i, i < hs.length → PStep P G ops bs F M hs i) →
      runHead P Γ ops gs bs M.length os hs.length (FsN ops F hs hs.length) (MsN M hs hs.length) (owN hs hs.length) K →
      ∃ hs' : List HS, hs'.length = hs.length + os.length ∧ (∀ i, i < hs'.length → PStep P G ops bs F M hs' i) ∧ K (FsN ops F hs' hs'.length) (MsN M hs' hs'.length)
  | [], hs, _, hp, h => ⟨hs, by simp, hp, h⟩
  | o :: os, hs, hops, hp, h => by
    have ho : ops[hs.length]? = some o := by simpa using hops 0 (by simp)
    have hd : dstN ops hs.length = o.dst := by simp [dstN, ho]
    have go : ∀ (sv : SV) (nb : List Blk), PStep P G ops bs F M (hs ++ [⟨sv, nb⟩]) hs.length →
        runHead P Γ ops gs bs M.length os (hs.length + 1) (setF (FsN ops F hs hs.length) o.dst sv) (MsN M hs hs.length ++ nb) (owN hs hs.length ++ repN hs.length nb.length) K →
        ∃ hs' : List HS, hs'.length = hs.length + (o :: os).length ∧ (∀ i, i < hs'.length → PStep P G ops bs F M hs' i) ∧ K (FsN ops F hs' hs'.length) (MsN M hs' hs'.length) := by
      intro sv nb hstep hrun
      have e1 : svN (hs ++ [⟨sv, nb⟩]) hs.length = sv := by simp [svN]
      have e2 : nbN (hs ++ [⟨sv, nb⟩]) hs.length = nb := by simp [nbN]
      obtain ⟨hs', hl, hp', hK⟩ := runHead_path hΓ (gs := gs) (K := K) os (hs ++ [⟨sv, nb⟩]) (fun j hj => by
          have := hops (j + 1) (by simpa using hj)
          simpa [Nat.add_assoc, Nat.add_comm 1 j] using this)
        (fun i hi => by
          rw [List.length_append, List.length_singleton] at hi
          by_cases e : i < hs.length
          · exact (hp i e).append e
          · obtain rfl : i = hs.length := by omega
            exact hstep)
        (by
          rw [List.length_append, List.length_singleton]
          simp only [FsN, MsN, owN, FsN_append hs.length (Nat.le_refl _), MsN_append hs.length (Nat.le_refl _), owN_append hs.length (Nat.le_refl _), e1, e2, hd]
          exact hrun)
      exact ⟨hs', by rw [hl]; simp; omega, hp', hK⟩
    have mk : ∀ (sv : SV) (nb : List Blk), ((wants ops (FsN ops F hs hs.length) o.guard = some false ∧ sv = .tup [] ∧ nb = []) ∨
        (wants ops (FsN ops F hs hs.length) o.guard = some true ∧ OpOk P G (evS (FsN ops F hs hs.length)) (maskM (visB bs M.length (owN hs hs.length) hs.length) 0 (MsN M hs hs.length)) o sv nb ∧
          sv.sc (visB bs M.length (owN hs hs.length ++ repN hs.length nb.length) hs.length) = true ∧ nb.all (Blk.sc (visB bs M.length (owN hs hs.length ++ repN hs.length nb.length) hs.length)) = true)) → PStep P G ops bs F M (hs ++ [⟨sv, nb⟩]) hs.length := by
      intro sv nb hh
      refine ⟨o, by simpa using ho, ?_⟩
      have e1 : svN (hs ++ [⟨sv, nb⟩]) hs.length = sv := by simp [svN]
      have e2 : nbN (hs ++ [⟨sv, nb⟩]) hs.length = nb := by simp [nbN]
      have e3 : owN (hs ++ [⟨sv, nb⟩]) (hs.length + 1) = owN hs hs.length ++ repN hs.length nb.length := by simp only [owN, owN_append hs.length (Nat.le_refl _), e2]
      rw [FsN_append hs.length (Nat.le_refl _), MsN_append hs.length (Nat.le_refl _), owN_append hs.length (Nat.le_refl _), e1, e2, e3]
      exact hh
    rw [runHead_cons] at h
    unfold stepD at h
    simp only [force3_eq, addM_eq, setFF_eq, spine_eq] at h
    split at h
    · exact h.elim
    · rename_i hw
      have hnil : repN hs.length ([] : List Blk).length = [] := rfl
      exact go (.tup []) [] (mk _ _ (.inl ⟨hw, rfl, rfl⟩)) (by rw [hnil, List.append_nil, List.append_nil]; exact h)
    · rename_i hw
      obtain ⟨sv, nb, hK, hO⟩ := Res.good_run _ h (stepH_good hΓ)
      split at hK
      · exact hK.elim
      · rename_i hc
        simp only [Bool.and_eq_true] at hc
        split at hK
        · exact go sv nb (mk _ _ (.inr ⟨hw, hO, hc.1, hc.2⟩)) hK
        · split at hK
          · exact go _ nb (mk _ _ (.inr ⟨hw, hO, rfl, hc.2⟩)) hK
          · exact go _ nb (mk _ _ (.inr ⟨hw, hO, rfl, hc.2⟩)) hK
          · rename_i b
            cases b
            · exact go .ff nb (mk _ _ (.inr ⟨hw, hO.lit (fun _ => rfl), rfl, hc.2⟩)) (hK.2 rfl)
            · exact go .tt nb (mk _ _ (.inr ⟨hw, hO.lit (fun _ => rfl), rfl, hc.2⟩)) (hK.1 rfl)
          · exact hK.elim

/-! ### What the check says -/
structure DrawOk (ops : List Oper) (bs : List Nat) (h : Nat) : Prop where
  low : ∀ (i : Nat) (o : Oper), ops[i]? = some o → ∀ e ∈ o.after, Region.binds .any e = true → e.on < i
  clos : ∀ (i j : Nat) (o : Oper), ops[i]? = some o → bitB bs i j = true → j < ops.length → ∃ e ∈ o.after, Region.binds .any e = true ∧ (e.on = j ∨ bitB bs e.on j = true)
  hle : h ≤ ops.length
  seq : Region.seqB .any ops.toArray (ops.length - h) h (listedH ops.length h) = true
  bar : ∀ (i : Nat) (o : Oper), i < h → ops[i]? = some o → isBar o = false
  guard : ∀ (i : Nat) (o : Oper) (g : Nat) (b : Bool), i < h → ops[i]? = some o → o.guard = some (g, b) → bitB bs i g = true ∧ g < i
  dst : ∀ (i j t : Nat) (o : Oper), i < h → j < h → i ≠ j → ops[i]? = some o → dstN ops j = some t → o.dst ≠ some t
  looks : ∀ (i j t : Nat) (o : Oper), i < h → j < h → i ≠ j → ops[i]? = some o → dstN ops j = some t → t ∈ o.looksAt ops.toArray → (j < i → bitB bs i j = true) ∧ (i < j → bitB bs j i = true)
  tail : ∀ (i j : Nat), h ≤ i → i < ops.length → j < i → bitB bs i j = true
theorem drawOk_spec {h : Nat} (hd : drawOk ops bs h = true) : DrawOk ops bs h := by
  simp only [drawOk, Bool.and_eq_true, decide_eq_true_eq] at hd
  obtain ⟨⟨⟨⟨h1, h2⟩, h3⟩, h4⟩, h5⟩ := hd
  simp only [closB, List.all_eq_true, List.mem_range] at h1 h4 h5
  have c : ∀ (i : Nat) (o : Oper), ops[i]? = some o → (∀ e ∈ o.after, Region.binds .any e = true → e.on < i) ∧ ∀ j, bitB bs i j = true → j < ops.length → ∃ e ∈ o.after, Region.binds .any e = true ∧ (e.on = j ∨ bitB bs e.on j = true) := by
    intro i o ho
    have hi : i < ops.length := (List.getElem?_eq_some_iff.1 ho).1
    have := h1 i hi
    rw [ho] at this
    simp only [Bool.and_eq_true, List.all_eq_true, Bool.or_eq_true, Bool.not_eq_true', decide_eq_true_eq, List.mem_range, List.any_eq_true] at this
    refine ⟨fun e he hb => (this.1 e (by simpa using he)).resolve_left (by simp [hb]), fun j hj hlt => ?_⟩
    rcases this.2 j hlt with hh | ⟨e, he, hb, hh⟩
    · rw [hj] at hh; cases hh
    · exact ⟨e, by simpa using he, hb, hh⟩
  have d : ∀ (i : Nat) (o : Oper), i < h → ops[i]? = some o → isBar o = false ∧ (∀ g b, o.guard = some (g, b) → bitB bs i g = true ∧ g < i) ∧ ∀ j t, j < h → i ≠ j → dstN ops j = some t → o.dst ≠ some t ∧ (t ∈ o.looksAt ops.toArray → (if j < i then bitB bs i j else bitB bs j i) = true) := by
    intro i o hi ho
    have := h4 i hi
    rw [ho] at this
    simp only [Bool.and_eq_true, Bool.not_eq_true'] at this
    obtain ⟨⟨t1, t2⟩, t3⟩ := this
    refine ⟨t1, fun g b hg => ?_, fun j t hj hne ht => ?_⟩
    · rw [hg] at t2
      simpa using t2
    · rw [List.all_eq_true] at t3
      have := t3 j (by simpa using hj)
      rw [ht] at this
      simp only [Bool.or_eq_true, decide_eq_true_eq, Bool.and_eq_true, Bool.not_eq_true'] at this
      rcases this with e | ⟨e1, e2⟩
      · exact absurd e hne
      · refine ⟨e1, fun hin => ?_⟩
        rcases e2 with e2 | e2
        · exact absurd (List.contains_iff_mem.2 hin) (by rw [e2]; simp)
        · exact e2
  refine ⟨fun i o ho => (c i o ho).1, fun i j o ho => (c i o ho).2 j, h2, h3, fun i o hi ho => (d i o hi ho).1, fun i o g b hi ho => (d i o hi ho).2.1 g b, fun i j t o hi hj hne ho ht => ((d i o hi ho).2.2 j t hj hne ht).1, fun i j t o hi hj hne ho ht hin => ?_, fun i j hi hlt hj => ?_⟩
  · have := ((d i o hi ho).2.2 j t hj hne ht).2 hin
    exact ⟨fun hlt => by rwa [if_pos hlt] at this, fun hlt => by rwa [if_neg (by omega)] at this⟩
  · have := h5 i hlt
    simp only [Bool.or_eq_true, decide_eq_true_eq, List.all_eq_true, List.mem_range] at this
    exact (this.resolve_left (by omega)) j hj

/-! ### Names and slots along the path -/
theorem repN_length (i : Nat) : ∀ n, (repN i n).length = n
  | 0 => rfl
  | n + 1 => by simp [repN, repN_length i n]
theorem repN_get (i : Nat) : ∀ (n p k : Nat), (repN i n)[p]? = some k → k = i
  | 0, p, k, h => by simp [repN] at h
  | n + 1, 0, k, h => by simp [repN] at h; exact h.symm
  | n + 1, p + 1, k, h => by simp only [repN, List.getElem?_cons_succ] at h; exact repN_get i n p k h
theorem MsN_length (hs : List HS) : ∀ i, (MsN M hs i).length = M.length + (owN hs i).length
  | 0 => by simp [MsN, owN]
  | i + 1 => by simp only [MsN, owN, List.length_append, MsN_length hs i, repN_length]; omega
theorem MsN_pre (hs : List HS) {i : Nat} : ∀ {j : Nat}, i ≤ j → ∀ (n : Nat) (b : Blk), (MsN M hs i)[n]? = some b → (MsN M hs j)[n]? = some b := by
  intro j hij
  induction hij with
  | refl => exact fun n b h => h
  | step _ ih =>
    intro n b h
    have := ih n b h
    simp only [MsN]
    rw [List.getElem?_append_left (List.getElem?_eq_some_iff.1 this).1]
    exact this
theorem owN_pre (hs : List HS) {i : Nat} : ∀ {j : Nat}, i ≤ j → ∀ (n k : Nat), (owN hs i)[n]? = some k → (owN hs j)[n]? = some k := by
  intro j hij
  induction hij with
  | refl => exact fun n b h => h
  | step _ ih =>
    intro n b h
    have := ih n b h
    simp only [owN]
    rw [List.getElem?_append_left (List.getElem?_eq_some_iff.1 this).1]
    exact this
theorem owN_lt (hs : List HS) : ∀ (i n k : Nat), (owN hs i)[n]? = some k → k < i
  | 0, n, k, h => by simp [owN] at h
  | i + 1, n, k, h => by
    simp only [owN, List.getElem?_append] at h
    split at h
    · exact Nat.lt_succ_of_lt (owN_lt hs i n k h)
    · rw [repN_get i _ _ k h]; exact Nat.lt_succ_self i
theorem owN_new (hs : List HS) {i h p : Nat} (hi : i < h) (h1 : (owN hs i).length ≤ p) (h2 : p < (owN hs i).length + (nbN hs i).length) : (owN hs h)[p]? = some i := by
  have : (owN hs (i + 1))[p]? = some i := by
    simp only [owN]
    rw [List.getElem?_append_right h1]
    have hlt : p - (owN hs i).length < (repN i (nbN hs i).length).length := by rw [repN_length]; omega
    rw [List.getElem?_eq_getElem hlt]
    congr 1
    exact repN_get i _ _ _ (List.getElem?_eq_getElem hlt)
  exact owN_pre hs hi p i this
theorem FsN_get (ops : List Oper) (F : List SV) (hs : List HS) : ∀ (i t : Nat) (x : SV), (FsN ops F hs i)[t]? = some x →
    (∃ j, j < i ∧ dstN ops j = some t ∧ x = svN hs j ∧ t < F.length) ∨ ((∀ j, j < i → dstN ops j ≠ some t) ∧ F[t]? = some x)
  | 0, t, x, h => .inr ⟨fun j hj => by omega, h⟩
  | i + 1, t, x, h => by
    have hlen : ∀ i, (FsN ops F hs i).length = F.length := by
      intro i; induction i with
      | zero => rfl
      | succ i ih => simp only [FsN, setF_length, ih]
    simp only [FsN] at h
    have hlt : t < F.length := by have := (List.getElem?_eq_some_iff.1 h).1; rw [setF_length, hlen] at this; exact this
    rcases setF_get h with ⟨hd, rfl⟩ | ⟨hd, h'⟩
    · exact .inl ⟨i, Nat.lt_succ_self i, hd, rfl, hlt⟩
    · rcases FsN_get ops F hs i t x h' with ⟨j, hj, h1, h2, h3⟩ | ⟨h1, h2⟩
      · exact .inl ⟨j, by omega, h1, h2, h3⟩
      · refine .inr ⟨fun j hj => ?_, h2⟩
        rcases Nat.lt_or_ge j i with hlt | hge
        · exact h1 j hlt
        · obtain rfl : j = i := by omega
          exact hd
theorem maskM_get (p : Nat → Bool) : ∀ (M : List Blk) (n k : Nat) (b : Blk), (maskM p n M)[k]? = some b → b = .dead ∨ (M[k]? = some b ∧ p (n + k) = true)
  | [], n, k, b, h => by simp [maskM] at h
  | c :: M, n, 0, b, h => by
    simp only [maskM, List.getElem?_cons_zero, Option.some.injEq] at h
    split at h
    · rename_i hp; subst h; exact .inr ⟨rfl, hp⟩
    · exact .inl h.symm
  | c :: M, n, k + 1, b, h => by
    simp only [maskM, List.getElem?_cons_succ] at h ⊢
    rcases maskM_get p M (n + 1) k b h with h1 | ⟨h1, h2⟩
    · exact .inl h1
    · exact .inr ⟨h1, by rw [show n + (k + 1) = n + 1 + k by omega]; exact h2⟩
theorem maskM_length (p : Nat → Bool) : ∀ (M : List Blk) (n : Nat), (maskM p n M).length = M.length
  | [], _ => rfl
  | _ :: M, n => by simp [maskM, maskM_length p M (n + 1)]
theorem visB_spec {m0 : Nat} {own : List Nat} {i n : Nat} (h : visB bs m0 own i n = true) : n < m0 ∨ (m0 ≤ n ∧ ∃ k, own[n - m0]? = some k ∧ (k = i ∨ bitB bs i k = true)) := by
  unfold visB at h
  split at h
  · rename_i hb; exact .inl (by simpa using hb)
  · rename_i hb
    have hge : m0 ≤ n := by
      rcases Nat.lt_or_ge n m0 with h1 | h1
      · exact absurd hb (by simp [h1])
      · exact h1
    split at h
    · rename_i k hk
      rw [nth_eq] at hk
      refine .inr ⟨hge, k, hk, ?_⟩
      split at h
      · rename_i e; exact .inl (Nat.eq_of_beq_eq_true e)
      · exact .inr h
    · cases h

theorem blk_at (hs : List HS) {i h n : Nat} {b : Blk} (hi : i < h) (hge : M.length ≤ n) (hk : (owN hs h)[n - M.length]? = some i) (hb : (MsN M hs h)[n]? = some b) : ∃ k, n = (MsN M hs i).length + k ∧ (nbN hs i)[k]? = some b := by
  -- where the names of i stand
  have h1 : (MsN M hs i).length ≤ n := by
    rcases Nat.lt_or_ge n (MsN M hs i).length with hlt | h1
    · exfalso
      rw [MsN_length] at hlt
      have hp : n - M.length < (owN hs i).length := by omega
      have := owN_pre hs (Nat.le_of_lt hi) _ _ (List.getElem?_eq_getElem hp)
      rw [hk] at this
      have hk' : (owN hs i)[n - M.length]? = some i := by rw [List.getElem?_eq_getElem hp]; exact this.symm
      have := owN_lt hs i _ _ hk'
      omega
    · exact h1
  have h2 : n < (MsN M hs (i + 1)).length := by
    rcases Nat.lt_or_ge n (MsN M hs (i + 1)).length with h2 | hge2
    · exact h2
    · exfalso
      have : ∀ j, i + 1 ≤ j → (MsN M hs (i + 1)).length ≤ n → (owN hs j)[n - M.length]? ≠ some i := by
        intro j hj hge3
        induction hj with
        | refl =>
          intro he
          have := (List.getElem?_eq_some_iff.1 he).1
          rw [MsN_length] at hge3; omega
        | step _ ih =>
          rename_i j hj
          intro he
          simp only [owN, List.getElem?_append] at he
          split at he
          · exact ih he
          · have := repN_get _ _ _ _ he
            have : i + 1 ≤ j := hj
            omega
      exact this h hi hge2 hk
  refine ⟨n - (MsN M hs i).length, by omega, ?_⟩
  have h3 : (MsN M hs (i + 1))[n]? = some ((MsN M hs (i + 1))[n]'h2) := List.getElem?_eq_getElem h2
  have h4 := MsN_pre (M := M) hs (show i + 1 ≤ h from hi) _ _ h3
  rw [hb] at h4
  rw [← h4] at h3
  simp only [MsN] at h3
  rwa [List.getElem?_append_right h1] at h3
theorem blk_of (hs : List HS) {i h n : Nat} {b : Blk} (hi : i < h) (hge : M.length ≤ n) (hk : (owN hs h)[n - M.length]? = some i) (hb : (MsN M hs h)[n]? = some b) : b ∈ nbN hs i := by
  obtain ⟨k, _, hk'⟩ := blk_at hs hi hge hk hb
  exact List.mem_of_getElem? hk'
/-! ### Whatever order -/
/-- Is a name's block there? -/
def Pres (m0 h : Nat) (hs : List HS) (listed : Array Bool) (n : Nat) : Prop := n < m0 ∨ (m0 ≤ n ∧ ∃ k, (owN hs h)[n - m0]? = some k ∧ listed.getD k false = true)
structure Inv (B : Bd) (w0 : World) (ops : List Oper) (F : List SV) (M : List Blk) (hs : List HS) (h : Nat) (listed : Array Bool) (ρ : Val) (a : Act) (w : World) : Prop where
  size : listed.size = ops.length
  tail : ∀ t, h ≤ t → listed.getD t false = false
  clos : ∀ (j : Nat) (o : Oper), listed.getD j false = true → ops[j]? = some o → ∀ e ∈ o.after, Region.binds .any e = true → listed.getD e.on false = true
  defers : a.defers = []
  tsize : a.tmps.size = F.length
  slotL : ∀ (i s : Nat), i < h → listed.getD i false = true → dstN ops i = some s → s < F.length → svN hs i ≠ .junk → a.tmps[s]? = some ((svN hs i).den ρ)
  slotF : ∀ (s : Nat) (x : SV), F[s]? = some x → (∀ i, i < h → listed.getD i false = true → dstN ops i ≠ some s) → x ≠ .junk → a.tmps[s]? = some (x.den ρ)
  msize : B.s ≤ w.heap.size
  ok : ∀ (n : Nat) (b : Blk), (MsN M hs h)[n]? = some b → Pres M.length h hs listed n → b.ok B ρ n w
  apart : ∀ (n m : Nat) (b c : Blk) (l k : Loc), n ≠ m → (MsN M hs h)[n]? = some b → (MsN M hs h)[m]? = some c → Pres M.length h hs listed n → Pres M.length h hs listed m → b.isOwn = true → c.isOwn = true → ρ n = some l → ρ m = some k → l.blk ≠ k.blk
  below : Kept B w0 w

section
variable {B : Bd} {w0 : World} {h : Nat} {hs : List HS} {listed : Array Bool} {ρ : Val} {a : Act} {w : World}
theorem Inv.bits (hd : DrawOk ops bs h) (hI : Inv B w0 ops F M hs h listed ρ a w) {o : Oper} : ∀ (i : Nat), (ops[i]? = some o → ∀ e ∈ o.after, Region.binds .any e = true → listed.getD e.on false = true) → ops[i]? = some o → ∀ j, j < ops.length → bitB bs i j = true → listed.getD j false = true := by
  intro i
  induction i using Nat.strongRecOn generalizing o with
  | _ i ih =>
    intro hr ho j hj hb
    obtain ⟨e, he, hbe, hor⟩ := hd.clos i j o ho hb hj
    have hel := hr ho e he hbe
    rcases hor with rfl | hb'
    · exact hel
    · have hlt := hd.low i o ho e he hbe
      obtain ⟨oe, hoe⟩ : ∃ oe, ops[e.on]? = some oe := by
        have : e.on < ops.length := by have := (List.getElem?_eq_some_iff.1 ho).1; omega
        exact ⟨_, List.getElem?_eq_getElem this⟩
      exact ih e.on hlt (fun ho' => hI.clos e.on oe hel ho') hoe j hj hb'
theorem ready_spec {i : Nat} (hr : i ∈ Region.ready .any ops.toArray listed) : listed.getD i true = false ∧ ∃ o, ops[i]? = some o ∧ ∀ e ∈ o.after, Region.binds .any e = true → listed.getD e.on false = true := by
  have := mem_ready.1 hr
  simp only [List.getElem?_toArray] at this
  exact this
/-- One more has come up. -/
theorem Inv.next (hd : DrawOk ops bs h) (hh : hs.length = h) (hP : ∀ i, i < h → PStep P G ops bs F M hs i) (hF : scL (fun n => decide (n < M.length)) F = true) (hM : scAll M.length M = true)
    (hI : Inv B w0 ops F M hs h listed ρ a w) {i : Nat} {o : Oper} (hi : i < h) (ho : ops[i]? = some o) (hun : listed.getD i true = false) (hready : ∀ e ∈ o.after, Region.binds .any e = true → listed.getD e.on false = true)
    {ρ' : Val} {w' : World} {v : Value} (hv : svN hs i ≠ .junk → v = (svN hs i).den ρ') (hρ : ∀ n, ¬ ((MsN M hs i).length ≤ n ∧ n < (MsN M hs i).length + (nbN hs i).length) → ρ' n = ρ n)
    (hb : Below w.heap.size w w') (hn : New B w.heap.size ρ' (MsN M hs i).length (nbN hs i) w') : Inv B w0 ops F M hs h (listed.setIfInBounds i true) ρ' (a.put o.dst v) w' := by
  have hdst : dstN ops i = o.dst := by simp [dstN, ho]
  have hilt : i < ops.length := (List.getElem?_eq_some_iff.1 ho).1
  have hisz : i < listed.size := by rw [hI.size]; exact hilt
  have hun' : listed.getD i false = false := getD_both hun
  have setD : ∀ k, (listed.setIfInBounds i true).getD k false = true ↔ (k = i ∨ listed.getD k false = true) := by
    intro k
    by_cases e : k = i
    · subst e; simp [hisz]
    · rw [getD_set_ne false (Ne.symm e)]; simp [e]
  -- names that others know are as they were
  have owner : ∀ n, M.length ≤ n → ∀ k, (owN hs h)[n - M.length]? = some k → k ≠ i → ρ' n = ρ n := by
    intro n hge k hk hne
    refine hρ n fun hin => hne ?_
    rw [MsN_length] at hin
    have := owN_new hs hi (p := n - M.length) (by omega) (by omega)
    rw [hk] at this
    exact Option.some.inj this
  have old : ∀ n, n < M.length → ρ' n = ρ n := fun n hn => hρ n fun hin => by rw [MsN_length] at hin; omega
  have visk : ∀ k, k < h → listed.getD k false = true → ∀ n, visB bs M.length (owN hs (k + 1)) k n = true → ρ' n = ρ n := by
    intro k hk hl n hvis
    rcases visB_spec hvis with hlt | ⟨hge, k', hk', hor⟩
    · exact old n hlt
    · have hk2 := owN_pre hs (show k + 1 ≤ h from hk) _ _ hk'
      refine owner n hge k' hk2 fun e => ?_
      subst e
      rcases hor with rfl | hbit
      · rw [hun'] at hl; cases hl
      · obtain ⟨ok, hok⟩ : ∃ ok, ops[k]? = some ok := ⟨_, List.getElem?_eq_getElem (Nat.lt_of_lt_of_le hk hd.hle)⟩
        have := hI.bits hd k (fun ho' => hI.clos k ok hl ho') hok k' hilt hbit
        rw [hun'] at this; cases this
  have svden : ∀ k, k < h → listed.getD k false = true → (svN hs k).den ρ' = (svN hs k).den ρ := by
    intro k hk hl
    obtain ⟨ok, _, hor⟩ := hP k hk
    rcases hor with ⟨_, e, _⟩ | ⟨_, _, hs1, _⟩
    · rw [e]; rfl
    · exact SV.den_congr (visk k hk hl) _ hs1
  have tm : ∀ s, (a.put o.dst v).tmps[s]? = if o.dst = some s then (if s < a.tmps.size then some v else none) else a.tmps[s]? := put_tmps a o.dst v
  have presOld : ∀ n, Pres M.length h hs (listed.setIfInBounds i true) n → Pres M.length h hs listed n ∨ (M.length ≤ n ∧ (owN hs h)[n - M.length]? = some i) := by
    rintro n (hlt | ⟨hge, k, hk, hl⟩)
    · exact .inl (.inl hlt)
    · rcases (setD k).1 hl with rfl | hl'
      · exact .inr ⟨hge, hk⟩
      · exact .inl (.inr ⟨hge, k, hk, hl'⟩)
  -- a block that was there
  have okOld : ∀ n b, (MsN M hs h)[n]? = some b → Pres M.length h hs listed n → b.ok B ρ' n w' := by
    intro n b hnb hp
    have h0 := hI.ok n b hnb hp
    have h1 : b.ok B ρ' n w := by
      rcases hp with hlt | ⟨hge, k, hk, hl⟩
      · have hb0 : M[n]? = some b := by
          have := MsN_pre (M := M) hs (Nat.zero_le h) n (M[n]'hlt) (List.getElem?_eq_getElem hlt)
          rw [hnb] at this; rw [List.getElem?_eq_getElem hlt]; exact this.symm ▸ rfl
        have hsb := (List.all_eq_true.1 hM) b (List.mem_of_getElem? hb0)
        exact Blk.ok_congr (p := fun n => decide (n < M.length)) (fun n hn => old n (by simpa using hn)) (by simpa using hlt) b hsb h0
      · have hklt := owN_lt hs h _ _ hk
        have hki : k ≠ i := fun e => by subst e; rw [hun'] at hl; cases hl
        -- its place among the blocks of k
        obtain ⟨ok, _, hor⟩ := hP k hklt
        have hmem : b ∈ nbN hs k := by
          have := blk_of hs (M := M) hklt hge hk hnb
          exact this
        rcases hor with ⟨_, _, e⟩ | ⟨_, _, _, hs2⟩
        · rw [e] at hmem; cases hmem
        · refine Blk.ok_congr (p := fun m => visB bs M.length (owN hs (k + 1)) k m || Nat.beq m n) (fun m hm => ?_) (by simp) b (Blk.sc_mono (fun m hm => by simp [hm]) b ((List.all_eq_true.1 hs2) b hmem)) h0
          simp only [Bool.or_eq_true] at hm
          rcases hm with hm | hm
          · exact visk k hklt hl m hm
          · obtain rfl : m = n := Nat.eq_of_beq_eq_true hm
            exact owner m hge k hk hki
    exact b.ok_same h1 (fun k hk => hb.block k (Nat.lt_of_lt_of_le (Bd.lt hk) hI.msize)) fun hown l hl => hb.block _ (Blk.ok_lt h1 hown hl).2
  have lt_old : ∀ n b l, (MsN M hs h)[n]? = some b → Pres M.length h hs listed n → b.isOwn = true → ρ' n = some l → l.blk < w.heap.size := by
    intro n b l hnb hp hown hl
    have e : ρ' n = ρ n := by
      rcases hp with hlt | ⟨hge, k, hk, hl'⟩
      · exact old n hlt
      · exact owner n hge k hk fun e => by subst e; rw [hun'] at hl'; cases hl'
    rw [e] at hl
    exact (Blk.ok_lt (hI.ok n b hnb hp) hown hl).2
  -- a block that has just been made
  have okNew : ∀ n b, (MsN M hs h)[n]? = some b → M.length ≤ n → (owN hs h)[n - M.length]? = some i → ∃ k, n = (MsN M hs i).length + k ∧ (nbN hs i)[k]? = some b := by
    intro n b hnb hge hk
    exact blk_at hs (M := M) hi hge hk hnb
  refine ⟨by simp [hI.size], fun t ht => ?_, fun j oj hj hoj e he hbe => ?_, ?_, ?_, fun k s hk hl hds hs' hnj => ?_, fun s x hs' hno hx => ?_, Nat.le_trans hI.msize hb.size, fun n b hnb hp => ?_, fun n m b c l k hne h1 h2 p1 p2 o1 o2 e1 e2 => ?_, Kept.trans_full hI.below hI.msize hb⟩
  · rw [getD_set_ne false (by omega)]; exact hI.tail t ht
  · rcases (setD j).1 hj with rfl | hj'
    · obtain rfl : o = oj := by rw [ho] at hoj; exact Option.some.inj hoj
      exact (setD _).2 (.inr (hready e he hbe))
    · exact (setD _).2 (.inr (hI.clos j oj hj' hoj e he hbe))
  · cases o.dst <;> simp [Act.put, hI.defers]
  · rw [← hI.tsize]; cases o.dst <;> simp [Act.put]
  · rw [tm]
    rcases (setD k).1 hl with rfl | hl'
    · rw [if_pos (by rw [← hdst]; exact hds), if_pos (by rw [hI.tsize]; exact hs'), hv hnj]
    · by_cases e : k = i
      · subst e; rw [hun'] at hl'; cases hl'
      · rw [if_neg (hd.dst i k s o hi hk (Ne.symm e) ho hds), svden k hk hl']
        exact hI.slotL k s hk hl' hds hs' hnj
  · rw [tm, if_neg (by rw [← hdst]; exact hno i hi ((setD i).2 (.inl rfl)))]
    rw [SV.den_congr (p := fun n => decide (n < M.length)) (fun n hn => old n (by simpa using hn)) x (scL_get hF hs')]
    exact hI.slotF s x hs' (fun k hk hl => hno k hk ((setD k).2 (.inr hl))) hx
  · rcases presOld n hp with hp' | ⟨hge, hk⟩
    · exact okOld n b hnb hp'
    · obtain ⟨k, rfl, hkb⟩ := okNew n b hnb hge hk
      exact hn.ok k b hkb
  · rcases presOld n p1 with q1 | ⟨g1, k1⟩ <;> rcases presOld m p2 with q2 | ⟨g2, k2⟩
    · have r1 : ρ' n = ρ n := by
        rcases q1 with hlt | ⟨hge, k, hk, hl'⟩
        · exact old n hlt
        · exact owner n hge k hk fun e => by subst e; rw [hun'] at hl'; cases hl'
      have r2 : ρ' m = ρ m := by
        rcases q2 with hlt | ⟨hge, k, hk, hl'⟩
        · exact old m hlt
        · exact owner m hge k hk fun e => by subst e; rw [hun'] at hl'; cases hl'
      exact hI.apart n m b c l k hne h1 h2 q1 q2 o1 o2 (by rw [← r1]; exact e1) (by rw [← r2]; exact e2)
    · obtain ⟨j, rfl, hj⟩ := okNew m c h2 g2 k2
      have := lt_old n b l h1 q1 o1 e1
      have := hn.fresh j c k hj o2 e2
      omega
    · obtain ⟨j, rfl, hj⟩ := okNew n b h1 g1 k1
      have := lt_old m c k h2 q2 o2 e2
      have := hn.fresh j b l hj o1 e1
      omega
    · obtain ⟨j, rfl, hj⟩ := okNew n b h1 g1 k1
      obtain ⟨j', rfl, hj'⟩ := okNew m c h2 g2 k2
      exact hn.apart j j' b c l k (by omega) hj hj' o1 o2 e1 e2
end

section
variable {B : Bd} {w0 : World} {h : Nat} {hs : List HS} {listed : Array Bool} {ρ : Val} {a : Act} {w : World}
/-- What a slot that operation i looks at holds. -/
theorem Inv.slot (hd : DrawOk ops bs h) (hI : Inv B w0 ops F M hs h listed ρ a w) {i : Nat} {o : Oper} (hi : i < h) (ho : ops[i]? = some o) (hun : listed.getD i true = false) (hready : ∀ e ∈ o.after, Region.binds .any e = true → listed.getD e.on false = true)
    {t : Nat} {x : SV} (ht : t ∈ o.looksAt ops.toArray) (hx : (FsN ops F hs i)[t]? = some x) (hnj : x ≠ .junk) : a.tmps[t]? = some (x.den ρ) := by
  have hilt : i < ops.length := (List.getElem?_eq_some_iff.1 ho).1
  have hun' : listed.getD i false = false := getD_both hun
  have later : ∀ j, j < h → i < j → listed.getD j false = true → dstN ops j ≠ some t := by
    intro j hj hij hl hdt
    have hb := (hd.looks i j t o hi hj (by omega) ho hdt ht).2 hij
    obtain ⟨oj, hoj⟩ : ∃ oj, ops[j]? = some oj := ⟨_, List.getElem?_eq_getElem (Nat.lt_of_lt_of_le hj hd.hle)⟩
    have := hI.bits hd j (fun ho' => hI.clos j oj hl ho') hoj i hilt hb
    rw [hun'] at this; cases this
  rcases FsN_get ops F hs i t x hx with ⟨j, hj, hdt, rfl, hlt⟩ | ⟨hno, hF⟩
  · have hb := (hd.looks i j t o hi (by omega) (by omega) ho hdt ht).1 hj
    have hl := hI.bits hd i (fun _ => hready) ho j (by omega) hb
    exact hI.slotL j t (by omega) hl hdt hlt hnj
  · refine hI.slotF t x hF (fun j hj hl => ?_) hnj
    rcases Nat.lt_trichotomy j i with h1 | h1 | h1
    · exact hno j h1
    · subst h1; rw [hun'] at hl; cases hl
    · exact later j hj h1 hl
theorem Inv.ev (hd : DrawOk ops bs h) (hI : Inv B w0 ops F M hs h listed ρ a w) {i : Nat} {o : Oper} (hi : i < h) (ho : ops[i]? = some o) (hun : listed.getD i true = false) (hready : ∀ e ∈ o.after, Region.binds .any e = true → listed.getD e.on false = true) :
    ∀ x ∈ o.op.operands, evS (FsN ops F hs i) x ≠ .junk → a.eval x = (evS (FsN ops F hs i) x).den ρ := by
  intro x hin hx
  cases x with
  | tmp t =>
    simp only [evS] at hx ⊢
    split at hx
    · rename_i sv hsv
      rw [nth_eq] at hsv
      have hlk : t ∈ o.looksAt ops.toArray := by
        unfold Oper.looksAt
        refine List.mem_append_left _ (List.mem_filterMap.2 ⟨.tmp t, by simpa using hin, rfl⟩)
      have := hI.slot hd hi ho hun hready hlk hsv hx
      simp only [nth_eq, hsv, Act.eval, Array.getD_eq_getD_getElem?, this, Option.getD_some]
    · exact absurd rfl hx
  | const v => simp only [evS, SV.ofV_den, Act.eval]
  | global g => rfl
  | func f => rfl
theorem Inv.wants (hd : DrawOk ops bs h) (hI : Inv B w0 ops F M hs h listed ρ a w) {i : Nat} {o : Oper} (hi : i < h) (ho : ops[i]? = some o) (hun : listed.getD i true = false) (hready : ∀ e ∈ o.after, Region.binds .any e = true → listed.getD e.on false = true)
    {b : Bool} (hw : wants ops (FsN ops F hs i) o.guard = some b) : Region.wanted o (yielded ops.toArray a.tmps) = b := by
  unfold Go.Sx.wants at hw
  unfold Region.wanted
  split at hw
  · rename_i hg; rw [hg]; exact Option.some.inj hw
  · rename_i j want hg
    rw [hg]
    simp only
    split at hw
    · rename_i oj hj
      split at hw
      · rename_i d hdd
        have hjl : ops[j]? = some oj := by rw [← nth_eq]; exact hj
        have hlk : d ∈ o.looksAt ops.toArray := by
          unfold Oper.looksAt
          refine List.mem_append_right _ ?_
          rw [hg]
          simp [hjl, hdd]
        have hy : ∀ x v, (FsN ops F hs i)[d]? = some x → x ≠ .junk → x.den ρ = v → yielded ops.toArray a.tmps j = (match v with | .bool b => some b | _ => none) := by
          intro x v hx hnj hv
          have hs := hI.slot hd hi ho hun hready hlk hx hnj
          have : (ops.toArray[j]?).bind (·.dst) = some d := by simp [hjl, hdd]
          unfold yielded
          rw [this]
          simp only [Option.bind_some, hs, hv]
          cases v <;> rfl
        split at hw
        · rename_i hs'
          rw [nth_eq] at hs'
          rw [hy _ _ hs' (by simp) rfl, ← Option.some.inj hw]
          simp only [SV.den]; cases want <;> rfl
        · rename_i hs'
          rw [nth_eq] at hs'
          rw [hy _ _ hs' (by simp) rfl, ← Option.some.inj hw]
          simp only [SV.den]; cases want <;> rfl
        · rename_i hs'
          rw [nth_eq] at hs'
          rw [hy _ _ hs' (by simp) rfl, ← Option.some.inj hw]
          simp only [SV.den]; cases want <;> rfl
        · cases hw
      · cases hw
    · cases hw
/-- How many of the first k have not come up. -/
def cntU (listed : Array Bool) : Nat → Nat
  | 0 => 0
  | k + 1 => cntU listed k + (if listed.getD k false = true then 0 else 1)
theorem cntU_ge {i : Nat} : ∀ k, k ≤ i → cntU (listed.setIfInBounds i true) k = cntU listed k
  | 0, _ => rfl
  | k + 1, hk => by
    have ih := cntU_ge k (by omega : k ≤ i)
    simp only [cntU, ih]; rw [getD_set_ne false (by omega)]
theorem cntU_set {i : Nat} (hsz : i < listed.size) (hun : listed.getD i false = false) : ∀ k, i < k → cntU listed k = cntU (listed.setIfInBounds i true) k + 1
  | 0, hk => by omega
  | k + 1, hk => by
    simp only [cntU]
    by_cases e : i = k
    · subst e
      rw [cntU_ge i (Nat.le_refl _)]
      have : (listed.setIfInBounds i true).getD i false = true := by simp [hsz]
      rw [this, hun]; simp
    · rw [cntU_set hsz hun k (by omega), getD_set_ne false e]; omega
theorem cntU_zero : ∀ k, cntU listed k = 0 → ∀ i, i < k → listed.getD i false = true
  | 0, _, i, hi => by omega
  | k + 1, hz, i, hi => by
    simp only [cntU] at hz
    rcases Nat.lt_or_ge i k with h1 | h1
    · exact cntU_zero k (by omega) i h1
    · obtain rfl : i = k := by omega
      cases e : listed.getD i false
      · rw [e] at hz; simp at hz
      · rfl
theorem cntU_pos : ∀ k, cntU listed k ≠ 0 → ∃ i, i < k ∧ listed.getD i false = false ∧ ∀ j, j < i → listed.getD j false = true
  | 0, hz => absurd rfl hz
  | k + 1, hz => by
    by_cases h0 : cntU listed k = 0
    · refine ⟨k, Nat.lt_succ_self k, ?_, cntU_zero k h0⟩
      cases e : listed.getD k false
      · rfl
      · simp only [cntU, h0, e] at hz; simp at hz
    · obtain ⟨i, hi, h1, h2⟩ := cntU_pos k h0
      exact ⟨i, by omega, h1, h2⟩
theorem pres_of (hd : DrawOk ops bs h) (hI : Inv B w0 ops F M hs h listed ρ a w) {i n : Nat} {o : Oper} (hi : i < h) (ho : ops[i]? = some o) (hready : ∀ e ∈ o.after, Region.binds .any e = true → listed.getD e.on false = true)
    (hv : visB bs M.length (owN hs i) i (0 + n) = true) : Pres M.length h hs listed n := by
  rw [Nat.zero_add] at hv
  rcases visB_spec hv with hlt | ⟨hge, k, hk, hor⟩
  · exact .inl hlt
  · have hki := owN_lt hs i _ _ hk
    refine .inr ⟨hge, k, owN_pre hs (Nat.le_of_lt hi) _ _ hk, ?_⟩
    rcases hor with rfl | hb
    · omega
    · exact hI.bits hd i (fun _ => hready) ho k (by have := hd.hle; omega) hb
theorem any_head {Q : Exit → Act → World → Prop} (hd : DrawOk ops bs h) (hh : hs.length = h) (hP : ∀ i, i < h → PStep P G ops bs F M hs i) (hF : scL (fun n => decide (n < M.length)) F = true) (hM : scAll M.length M = true) (hG : ∀ w, Kept B w0 w → G w) {g : Nat}
    (fin : ∀ (listed : Array Bool) (ρ : Val) (a : Act) (w : World), Inv B w0 ops F M hs h listed ρ a w → (∀ i, i < h → listed.getD i false = true) → wpAny P .any ops.toArray Q g listed a w) :
    ∀ (r : Nat) (listed : Array Bool) (ρ : Val) (a : Act) (w : World), cntU listed h = r → Inv B w0 ops F M hs h listed ρ a w → wpAny P .any ops.toArray Q (r + g) listed a w := by
  intro r
  induction r with
  | zero => intro listed ρ a w hc hI; rw [Nat.zero_add]; exact fin listed ρ a w hI (cntU_zero h hc)
  | succ r ih =>
    intro listed ρ a w hc hI
    obtain ⟨i0, hi0, hu0, hall⟩ := cntU_pos (listed := listed) h (by omega)
    rw [show r + 1 + g = (r + g) + 1 by omega]
    refine ⟨fun hnil => ?_, fun i hir => ?_⟩
    · exfalso
      have hlt : i0 < ops.length := Nat.lt_of_lt_of_le hi0 hd.hle
      have : i0 ∈ Region.ready .any ops.toArray listed := by
        rw [mem_ready]
        refine ⟨getD_in (by rw [hI.size]; exact hlt) hu0, _, (by rw [List.getElem?_toArray]; exact List.getElem?_eq_getElem hlt), fun e he hb => hall _ (hd.low i0 _ (List.getElem?_eq_getElem hlt) e he hb)⟩
      rw [hnil] at this; cases this
    · obtain ⟨hun, o, ho, hready⟩ := ready_spec hir
      have hilt : i < ops.length := (List.getElem?_eq_some_iff.1 ho).1
      have hih : i < h := by
        rcases Nat.lt_or_ge i h with h1 | h1
        · exact h1
        · exfalso
          have hb := hd.tail i i0 h1 hilt (by omega)
          have := hI.bits hd i (fun _ => hready) ho i0 (by omega) hb
          rw [hu0] at this; cases this
      have hsz : i < listed.size := by rw [hI.size]; exact hilt
      have hcnt : cntU (listed.setIfInBounds i true) h = r := by have := cntU_set hsz (getD_both hun) h hih; omega
      unfold wpOp
      rw [show ops.toArray[i]? = some o by simpa using ho]
      simp only
      obtain ⟨o', ho', hor⟩ := hP i hih
      obtain rfl : o = o' := by rw [ho] at ho'; exact Option.some.inj ho'
      rcases hor with ⟨hw, hsv, hnb⟩ | ⟨hw, hO, hs1, hs2⟩
      · rw [hI.wants hd hih ho hun hready hw, if_neg (by simp)]
        refine ih _ ρ _ w hcnt (hI.next hd hh hP hF hM hih ho hun hready (v := undef) (fun _ => by rw [hsv]; rfl) (fun _ _ => rfl) (Below.refl _ _) (by rw [hnb]; exact New.nil ..))
      · rw [hI.wants hd hih ho hun hready hw, if_pos rfl]
        refine .inl (hO B ρ a w _ Q (hI.ev hd hih ho hun hready) ⟨hI.msize, fun n b hb => ?_, fun n m b c l k hne h1 h2 o1 o2 e1 e2 => ?_⟩ (hG w hI.below) fun ρ' w' v hv hρ hb hn => ?_)
        · rcases maskM_get _ _ _ _ _ hb with rfl | ⟨hb', hvis⟩
          · trivial
          · exact hI.ok n b (MsN_pre hs (Nat.le_of_lt hih) n b hb') (pres_of hd hI hih ho hready hvis)
        · rcases maskM_get _ _ _ _ _ h1 with rfl | ⟨h1', v1⟩
          · cases o1
          · rcases maskM_get _ _ _ _ _ h2 with rfl | ⟨h2', v2⟩
            · cases o2
            · exact hI.apart n m b c l k hne (MsN_pre hs (Nat.le_of_lt hih) n b h1') (MsN_pre hs (Nat.le_of_lt hih) m c h2') (pres_of hd hI hih ho hready v1) (pres_of hd hI hih ho hready v2) o1 o2 e1 e2
        · rw [maskM_length] at hρ hn
          exact ih _ ρ' _ w' hcnt (hI.next hd hh hP hF hM hih ho hun hready hv hρ hb hn)
end

/-- THE THEOREM. -/
theorem draw_sound {Q : Exit → Act → World → Prop} {B : Bd} {w0 : World} (hm : P.follows .mixedOrders = true) (hG : ∀ w, Kept B w0 w → G w) {Γ : Env} (hΓ : EnvOk P G Γ) {gs : List Nat} {h : Nat} (hd : drawOk ops bs h = true)
    {K : List SV → List Blk → Prop} (hQ : ∀ F' M' ρ' a' w', Rel B w0 ρ' F' M' a' w' → K F' M' → Q .normal a' w') {id : Nat} {ρ : Val} {a : Act} {w : World}
    (hr : runHead P Γ ops gs bs M.length (ops.take h) 0 F M [] (fun F' M' => runOps P Γ ops gs (ops.drop h) h F' M' K)) (hR : Rel B w0 ρ F M a w) : (Code.region id ops.toArray true).wp P Q a w := by
  have D := drawOk_spec hd
  have hlt : (ops.take h).length = h := by rw [List.length_take]; have := D.hle; omega
  obtain ⟨hs, hh, hP, hrun⟩ := runHead_path (ops := ops) (bs := bs) (F := F) (M := M) hΓ (gs := gs) (ops.take h) [] (fun j hj => by rw [hlt] at hj; simp [List.getElem?_take, hj]) (fun i hi => by simp at hi) hr
  have hh' : hs.length = h := by rw [hh, hlt]; simp
  rw [hh'] at hP hrun
  refine wp_region_any hm ?_
  have hsz : ops.toArray.size = h + (ops.length - h) := by have := D.hle; simp; omega
  rw [hsz]
  have hI0 : Inv B w0 ops F M hs h (Array.replicate (h + (ops.length - h)) false) ρ a { w with drawn := w.drawn + 1 } := by
    have no : ∀ i, (Array.replicate (h + (ops.length - h)) false).getD i false = false := getD_replicate_false _
    refine ⟨by have := D.hle; simp; omega, fun t _ => no t, (fun j o hj => by rw [no] at hj; cases hj), hR.defers, hR.size, (fun i s _ hl => by rw [no] at hl; cases hl), fun s x hs _ hx => hR.slot s x hs hx, hR.mem.size, fun n b hb hp => ?_, fun n m b c l k hne h1 h2 p1 p2 => ?_, hR.below.drew⟩
    · rcases hp with hlt | ⟨_, k, _, hl⟩
      · have hb0 : M[n]? = some b := by
          have := MsN_pre (M := M) hs (Nat.zero_le h) n (M[n]'hlt) (List.getElem?_eq_getElem hlt)
          rw [hb] at this; rw [List.getElem?_eq_getElem hlt]; exact this.symm ▸ rfl
        exact b.ok_same (w := w) (hR.mem.ok n b hb0) (fun _ _ => rfl) (fun _ _ _ => rfl)
      · rw [no] at hl; cases hl
    · have low : ∀ n b, (MsN M hs h)[n]? = some b → Pres M.length h hs (Array.replicate (h + (ops.length - h)) false) n → M[n]? = some b := by
        intro n b hb hp
        rcases hp with hlt | ⟨_, k, _, hl⟩
        · have := MsN_pre (M := M) hs (Nat.zero_le h) n (M[n]'hlt) (List.getElem?_eq_getElem hlt)
          rw [hb] at this; rw [List.getElem?_eq_getElem hlt]; exact this.symm ▸ rfl
        · rw [no] at hl; cases hl
      exact hR.mem.apart n m b c l k hne (low n b h1 p1) (low m c h2 p2)
  refine any_head D hh' hP hR.scF hR.scM hG (fun listed ρ' a' w' hI hall => ?_) h _ ρ a _ ?_ hI0
  · -- all of the first have come up: the others, one by one
    have hl : listed = listedH ops.length h := by
      apply Array.ext
      · simp [hI.size, listedH]
      · intro i h1 h2
        have h1' : i < ops.length := by rw [← hI.size]; exact h1
        have e : (listedH ops.length h)[i] = decide (i < h) := by simp [listedH]
        rw [e]
        rcases Nat.lt_or_ge i h with hi | hi
        · have := hall i hi; simp [h1] at this; simp [this, hi]
        · have := hI.tail i hi; simp [h1] at this; simp [this]; omega
    have hdl : (ops.drop h).length = ops.length - h := by simp
    have := wpAny_of_seq (P := P) (Q' := Q) (ops := ops.toArray) (md := .any) (ops.drop h) h listed a' w' (fun j => by simp) (by rw [hdl, hl]; exact D.seq) ?_
    · rwa [hdl] at this
    · have own : ∀ n, n < (MsN M hs h).length → M.length ≤ n → ∃ k, (owN hs h)[n - M.length]? = some k := fun n hn hge => by
        rw [MsN_length] at hn
        have hp : n - M.length < (owN hs h).length := by omega
        exact ⟨_, List.getElem?_eq_getElem hp⟩
      have pall : ∀ n b, (MsN M hs h)[n]? = some b → Pres M.length h hs listed n := fun n b hb => by
        have hn := (List.getElem?_eq_some_iff.1 hb).1
        rcases Nat.lt_or_ge n M.length with h1 | h1
        · exact .inl h1
        · obtain ⟨k, hk⟩ := own n hn h1
          exact .inr ⟨h1, k, hk, hall k (owN_lt hs h _ _ hk)⟩
      have vis : ∀ i, i < h → ∀ n, visB bs M.length (owN hs (i + 1)) i n = true → (decide (n < (MsN M hs h).length)) = true := fun i hi n hv => by
        rw [decide_eq_true_eq, MsN_length]
        rcases visB_spec hv with h1 | ⟨h1, k, hk, _⟩
        · omega
        · have := (List.getElem?_eq_some_iff.1 (owN_pre hs (show i + 1 ≤ h from hi) _ _ hk)).1
          omega
      have hF' : ∀ (s : Nat) (x : SV), (FsN ops F hs h)[s]? = some x → x.sc (fun n => decide (n < (MsN M hs h).length)) = true := fun s x hx => by
        rcases FsN_get ops F hs h s x hx with ⟨j, hj, _, rfl, _⟩ | ⟨_, hx'⟩
        · obtain ⟨oj, _, hor⟩ := hP j hj
          rcases hor with ⟨_, e, _⟩ | ⟨_, _, hs1, _⟩
          · rw [e]; rfl
          · exact SV.sc_mono (vis j hj) _ hs1
        · refine SV.sc_mono (fun n hn => ?_) x (scL_get hR.scF hx')
          rw [decide_eq_true_eq] at hn ⊢
          rw [MsN_length]; omega
      have hMs : ∀ i, i ≤ h → ∀ b ∈ MsN M hs i, b.sc (fun n => decide (n < (MsN M hs h).length)) = true := by
        intro i
        induction i with
        | zero =>
          intro _ b hb
          refine Blk.sc_mono (fun n hn => ?_) b ((List.all_eq_true.1 hR.scM) b hb)
          rw [decide_eq_true_eq] at hn ⊢
          rw [MsN_length]; omega
        | succ i ih =>
          intro hi b hb
          simp only [MsN, List.mem_append] at hb
          rcases hb with hb | hb
          · exact ih (by omega) b hb
          · obtain ⟨oj, _, hor⟩ := hP i hi
            rcases hor with ⟨_, _, e⟩ | ⟨_, _, _, hs2⟩
            · rw [e] at hb; cases hb
            · exact Blk.sc_mono (vis i hi) b ((List.all_eq_true.1 hs2) b hb)
      refine runOps_list hG hΓ hQ (ops.drop h) h _ _ ρ' a' w' hrun ⟨hI.defers, ?_, fun s x hs' hx => ?_, scL_of fun s x hs' => ?_, ?_, ⟨hI.msize, fun n b hb => hI.ok n b hb (pall n b hb), fun n m b c l k hne h1 h2 => hI.apart n m b c l k hne h1 h2 (pall n b h1) (pall m c h2)⟩, hI.below⟩
      · rw [hI.tsize]
        have hlen : ∀ i, (FsN ops F hs i).length = F.length := by
          intro i; induction i with
          | zero => rfl
          | succ i ih => simp only [FsN, setF_length, ih]
        rw [hlen]
      · rcases FsN_get ops F hs h s x hs' with ⟨j, hj, hdt, rfl, hlt'⟩ | ⟨hno, hx'⟩
        · exact hI.slotL j s hj (hall j hj) hdt hlt' hx
        · exact hI.slotF s x hx' (fun i hi _ => hno i hi) hx
      · exact hF' s x hs'
      · exact List.all_eq_true.2 (hMs h (Nat.le_refl _))
  · have : ∀ k, cntU (Array.replicate (h + (ops.length - h)) false) k = k := by
      intro k; induction k with
      | zero => rfl
      | succ k ih => simp only [cntU, ih, getD_replicate_false]; simp
    exact this h
end
end Go.Sx
