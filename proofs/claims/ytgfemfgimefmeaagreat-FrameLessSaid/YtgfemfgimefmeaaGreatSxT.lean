/- The symbolic executor: regions whose order is open and that no table tells: every order is gone through; an operation that only reads slots is taken at once. -/
import Derived.Test.YtgfemfgimefmeaaGreatSxD
namespace Go.Sx
open Go.RowKit Go.Proofs.YtgfemfgimefmeaaGreat
set_option linter.unusedSimpArgs false
set_option linter.unusedVariables false

/-- May an operation come up next? -/
def rdyB (listed : List Nat) (i : Nat) (o : Oper) : Bool := match memN i listed with
  | true => false
  | false => o.after.toList.all fun e => !Region.binds .any e || memN e.on listed
def rdyFrom (listed : List Nat) : List Oper → Nat → List Nat
  | [], _ => []
  | o :: os, i => match rdyB listed i o with
    | true => i :: rdyFrom listed os (i + 1)
    | false => rdyFrom listed os (i + 1)
theorem rdyFrom_cons (listed : List Nat) (o : Oper) (os : List Oper) (i : Nat) : rdyFrom listed (o :: os) i = match rdyB listed i o with
    | true => i :: rdyFrom listed os (i + 1)
    | false => rdyFrom listed os (i + 1) := rfl
/-- Does it read slots alone, that none of the others writes? -/
def lateT (P : Program) (Γ : Env) (F : List SV) (ops : List Oper) (listed : List Nat) (i : Nat) : Bool := match nth ops i with
  | some o => match isLate o with
    | true => match callOf Γ F o, isBarG Γ (evS F) o, lateS P (evS F) o with
      | none, false, true => (List.range ops.length).all fun j => Nat.beq j i || (memN j listed || (match nth ops j with
        | some oj => (oj.after.toList.any fun e => Region.binds .any e && Nat.beq e.on i) || o.apart ops.toArray oj
        | none => true))
      | _, _, _ => false
    | false => false
  | none => false
def findL (p : Nat → Bool) : List Nat → Option Nat
  | [] => none
  | i :: l => match p i with
    | true => some i
    | false => findL p l
/-- All of some. -/
def allT (f : Nat → Prop) : List Nat → Prop
  | [] => True
  | [i] => f i
  | i :: l => (True → f i) ∧ (True → allT f l)
theorem allT_mem {f : Nat → Prop} : ∀ {l : List Nat}, allT f l → ∀ i ∈ l, f i
  | [], _, _, h => by cases h
  | [j], h, i, hi => by
    obtain rfl : i = j := by simpa using hi
    exact h
  | j :: k :: l, h, i, hi => by
    rcases List.mem_cons.1 hi with rfl | hi
    · exact h.1 trivial
    · exact allT_mem (l := k :: l) (h.2 trivial) i hi
theorem findL_some {p : Nat → Bool} : ∀ {l : List Nat} {i : Nat}, findL p l = some i → i ∈ l ∧ p i = true
  | j :: l, i, h => by
    unfold findL at h
    split at h
    · rename_i hp
      obtain rfl := Option.some.inj h
      exact ⟨List.mem_cons_self .., hp⟩
    · obtain ⟨h1, h2⟩ := findL_some h
      exact ⟨List.mem_cons_of_mem _ h1, h2⟩
  | [], _, h => by cases h
/-- One that comes up. -/
def oneT (P : Program) (Γ : Env) (Y : YH) (ops : List Oper) (gs : List Nat) (ih : List Nat → List SV → List Blk → (List SV → List Blk → Prop) → Prop) (listed : List Nat) (F : List SV) (M : List Blk) (K : List SV → List Blk → Prop) (i : Nat) : Prop := match nth ops i with
  | some o => stepOp P Γ Y ops gs o (fun _ F' M' K' => ih (i :: listed) F' M' K') i F M K
  | none => False
def runTree (P : Program) (Γ : Env) (Y : YH) (ops : List Oper) (gs : List Nat) (fuel : List Oper) : List Nat → List SV → List Blk → (List SV → List Blk → Prop) → Prop :=
  List.rec (motive := fun _ => List Nat → List SV → List Blk → (List SV → List Blk → Prop) → Prop)
    (fun listed F M K => match rdyFrom listed ops 0 with
      | [] => K F M
      | _ => False)
    (fun _ _ ih listed F M K => match rdyFrom listed ops 0 with
      | [] => K F M
      | l => match findL (lateT P Γ F ops listed) l with
        | some i => oneT P Γ Y ops gs ih listed F M K i
        | none => allT (oneT P Γ Y ops gs ih listed F M K) l) fuel
theorem runTree_nil (P : Program) (Γ : Env) (Y : YH) (ops : List Oper) (gs : List Nat) (listed : List Nat) (F : List SV) (M : List Blk) (K : List SV → List Blk → Prop) : runTree P Γ Y ops gs [] listed F M K = match rdyFrom listed ops 0 with
      | [] => K F M
      | _ => False := rfl
theorem runTree_cons (P : Program) (Γ : Env) (Y : YH) (ops : List Oper) (gs : List Nat) (o : Oper) (fuel : List Oper) (listed : List Nat) (F : List SV) (M : List Blk) (K : List SV → List Blk → Prop) : runTree P Γ Y ops gs (o :: fuel) listed F M K = match rdyFrom listed ops 0 with
      | [] => K F M
      | l => match findL (lateT P Γ F ops listed) l with
        | some i => oneT P Γ Y ops gs (runTree P Γ Y ops gs fuel) listed F M K i
        | none => allT (oneT P Γ Y ops gs (runTree P Γ Y ops gs fuel) listed F M K) l := rfl

theorem memN_mem {i : Nat} : ∀ {l : List Nat}, memN i l = true ↔ i ∈ l
  | [] => by simp [memN]
  | j :: l => by
    simp only [memN, Bool.or_eq_true, memN_mem (l := l), List.mem_cons]
    exact ⟨fun h => h.elim (fun h => .inl (Nat.eq_of_beq_eq_true h)) .inr, fun h => h.elim (fun h => .inl (by rw [h]; exact Nat.beq_refl j)) .inr⟩
/-- What has come up, told twice. -/
structure LOk (n : Nat) (arr : Array Bool) (l : List Nat) : Prop where
  size : arr.size = n
  mem : ∀ i, i < n → arr.getD i false = memN i l
  low : ∀ i ∈ l, i < n
theorem LOk.put {n i : Nat} {arr : Array Bool} {l : List Nat} (h : LOk n arr l) (hi : i < n) : LOk n (arr.setIfInBounds i true) (i :: l) := by
  refine ⟨by rw [Array.size_setIfInBounds, h.size], fun k hk => ?_, fun k hk => (List.mem_cons.1 hk).elim (fun e => e ▸ hi) (h.low k)⟩
  have hs : i < arr.size := by rw [h.size]; exact hi
  have e := setD hs k
  have e2 : memN k (i :: l) = true ↔ (k = i ∨ memN k l = true) := by simp only [memN_mem, List.mem_cons]
  rw [Bool.eq_iff_iff, e, e2, h.mem k hk]
theorem memN_lt {n : Nat} {arr : Array Bool} {l : List Nat} (h : LOk n arr l) {i : Nat} (hi : arr.getD i false = true) : memN i l = true := by
  rcases Nat.lt_or_ge i n with h1 | h1
  · rw [← h.mem i h1]; exact hi
  · rw [Array.getD_eq_getD_getElem?, Array.getElem?_eq_none (by rw [h.size]; exact h1)] at hi
    cases hi
theorem rdyFrom_mem {listed : List Nat} : ∀ (os : List Oper) (k i : Nat) (o : Oper), os[i]? = some o → rdyB listed (k + i) o = true → k + i ∈ rdyFrom listed os k
  | o' :: os, k, i, o, ho, hr => by
    rw [rdyFrom_cons]
    cases i with
    | zero =>
      obtain rfl : o' = o := by simpa using ho
      rw [Nat.add_zero] at hr
      rw [hr]; exact List.mem_cons_self ..
    | succ i =>
      have := rdyFrom_mem os (k + 1) i o (by simpa using ho) (by rw [show k + 1 + i = k + (i + 1) by omega]; exact hr)
      rw [show k + 1 + i = k + (i + 1) by omega] at this
      split
      · exact List.mem_cons_of_mem _ this
      · exact this
  | [], _, _, _, ho, _ => by simp at ho
theorem rdyFrom_of {listed : List Nat} : ∀ (os : List Oper) (k i : Nat), i ∈ rdyFrom listed os k → ∃ j o, i = k + j ∧ os[j]? = some o ∧ rdyB listed i o = true
  | o' :: os, k, i, h => by
    rw [rdyFrom_cons] at h
    split at h
    · rename_i hr
      rcases List.mem_cons.1 h with rfl | h
      · exact ⟨0, o', rfl, rfl, hr⟩
      · obtain ⟨j, o, e, ho, hr⟩ := rdyFrom_of os (k + 1) i h
        exact ⟨j + 1, o, by omega, by simpa using ho, hr⟩
    · obtain ⟨j, o, e, ho, hr⟩ := rdyFrom_of os (k + 1) i h
      exact ⟨j + 1, o, by omega, by simpa using ho, hr⟩
  | [], _, _, h => by cases h
theorem ready_in {ops : List Oper} {arr : Array Bool} {l : List Nat} (h : LOk ops.length arr l) {i : Nat} : i ∈ Region.ready .any ops.toArray arr ↔ i ∈ rdyFrom l ops 0 := by
  constructor
  · intro hi
    obtain ⟨hun, o, ho, hr⟩ := ready_spec hi
    have hlt := (List.getElem?_eq_some_iff.1 ho).1
    have := rdyFrom_mem (listed := l) ops 0 i o ho (by
      rw [Nat.zero_add]
      unfold rdyB
      rw [← h.mem i hlt, getD_both hun]
      simp only []
      rw [List.all_eq_true]
      intro e he
      rw [Bool.or_eq_true]
      cases hb : Region.binds .any e with
      | false => exact .inl rfl
      | true => exact .inr (memN_lt h (hr e (by simpa using he) hb)))
    rwa [Nat.zero_add] at this
  · intro hi
    obtain ⟨j, o, e, ho, hr⟩ := rdyFrom_of ops 0 i hi
    obtain rfl : i = j := by omega
    have hlt := (List.getElem?_eq_some_iff.1 ho).1
    unfold rdyB at hr
    split at hr
    · cases hr
    · rename_i hm
      rw [mem_ready]
      refine ⟨getD_in (by rw [h.size]; exact hlt) (by rw [h.mem i hlt, hm]), o, (by rw [List.getElem?_toArray]; exact ho), fun e he hb => ?_⟩
      have := List.all_eq_true.1 hr e (by simpa using he)
      rw [hb] at this
      have h1 : memN e.on l = true := by simpa using this
      have h2 : e.on ∈ l := memN_mem.1 h1
      rw [h.mem _ (h.low _ h2)]; exact h1
section
variable {P : Program} {G : World → Prop} {B : Bd} {w0 : World} {L : Nat} {ops : List Oper}
theorem Rel.drew {ρ : Val} {F : List SV} {M : List Blk} {a : Act} {w : World} (hR : Rel B w0 L ρ F M a w) : Rel B w0 L ρ F M a { w with drawn := w.drawn + 1 } :=
  ⟨hR.marks, hR.len, hR.size, hR.slot, hR.scF, hR.scM, ⟨hR.mem.size, fun n b hb => b.ok_same (w := w) (hR.mem.ok n b hb) (fun _ _ => rfl) (fun _ _ => rfl) (fun _ _ _ => rfl), hR.mem.apart, hR.mem.zb, hR.mem.zlo, hR.mem.zhi, hR.mem.zown, hR.mem.zc⟩, hR.below.drew⟩
theorem tree_any {Q : Exit → Act → World → Prop} {ro : Option Nat} (hG : ∀ w, Kept B w0 w → G w) {Γ : Env} (hΓ : EnvOk P G Γ) {Y : YH} (hY : YOk P G B ro Y) {gs : List Nat} (hsel : Region.noSelect ops.toArray = true) (hnd : (ops.all fun o => !isDef o) = true) (hQp : ∀ c a w, ¬ Q (.panic c) a w)
    {K : List SV → List Blk → Prop} {z : Nat} {ρ0 : Val} (hQ : ∀ F' M' ρ' a' w', Rel B w0 L ρ' F' M' a' w' → z ≤ M'.length → (∀ n, n < z → ρ' n = ρ0 n) → K F' M' → Q .normal a' w') :
    ∀ (fuel : List Oper) (arr : Array Bool) (l : List Nat) (F : List SV) (M : List Blk) (ρ : Val) (a : Act) (w : World), LOk ops.length arr l → z ≤ M.length → (∀ n, n < z → ρ n = ρ0 n) → runTree P Γ Y ops gs fuel l F M K → Rel B w0 L ρ F M a w → wpAnyIn (Fe ro) 0 P .any ops.toArray Q fuel.length arr a w := by
  have hnd' : ∀ (j : Nat) (o : Oper), ops[j]? = some o → isDef o = false := fun j o hj => by
    have := (List.all_eq_true.1 hnd) o (List.mem_of_getElem? hj)
    simpa using this
  have nil : ∀ {arr l}, LOk ops.length arr l → (Region.ready .any ops.toArray arr = [] ↔ rdyFrom l ops 0 = []) := fun {arr l} h => by
    constructor
    · intro e
      cases hq : rdyFrom l ops 0 with
      | nil => rfl
      | cons i r =>
        have := (ready_in h).2 (by rw [hq]; exact List.mem_cons_self .. : i ∈ rdyFrom l ops 0)
        rw [e] at this; cases this
    · intro e
      cases hq : Region.ready .any ops.toArray arr with
      | nil => rfl
      | cons i r =>
        have := (ready_in h).1 (by rw [hq]; exact List.mem_cons_self .. : i ∈ Region.ready .any ops.toArray arr)
        rw [e] at this; cases this
  intro fuel
  induction fuel with
  | nil =>
    intro arr l F M ρ a w hL hz hρz h hR
    rw [runTree_nil] at h
    split at h
    · rename_i he
      exact ⟨(nil hL).2 he, hQ F M ρ a w hR hz hρz h⟩
    · exact h.elim
  | cons o0 fuel ih =>
    intro arr l F M ρ a w hL hz hρz h hR
    rw [runTree_cons] at h
    split at h
    · rename_i he
      exact ⟨fun _ => hQ F M ρ a w hR hz hρz h, fun i hi => by rw [(nil hL).2 he] at hi; cases hi⟩
    · rename_i he
      split at h
      · -- one that only reads slots is taken at once
        rename_i i hf
        obtain ⟨hil, hlate⟩ := findL_some hf
        have hir := (ready_in hL).2 hil
        obtain ⟨hun, o, ho, hready⟩ := ready_spec hir
        have hlt := (List.getElem?_eq_some_iff.1 ho).1
        unfold oneT at h
        rw [nth_eq, ho] at h
        simp only at h
        unfold lateT at hlate
        rw [nth_eq, ho] at hlate
        simp only at hlate
        split at hlate
        · rename_i hl
          split at hlate
          · rename_i hcall hbar hls
            have hfree : ∀ j oj, ops.toArray[j]? = some oj → j ≠ i → arr.getD j true = false → (∀ e ∈ oj.after, Region.binds .any e = true → e.on ≠ i) → o.apart ops.toArray oj = true := by
              intro j oj hoj hne hju hno
              rw [List.getElem?_toArray] at hoj
              have hjl := (List.getElem?_eq_some_iff.1 hoj).1
              have := List.all_eq_true.1 hlate j (List.mem_range.2 hjl)
              rw [nth_eq, hoj] at this
              simp only [Bool.or_eq_true] at this
              rcases this with h1 | h1 | h1 | h1
              · exact absurd (Nat.eq_of_beq_eq_true h1) hne
              · rw [← hL.mem j hjl, getD_both hju] at h1; cases h1
              · obtain ⟨e, he', hb⟩ := List.any_eq_true.1 h1
                rw [Bool.and_eq_true] at hb
                exact absurd (Nat.eq_of_beq_eq_true hb.2) (hno e (by simpa using he') hb.1)
              · exact h1
            have hnd2 : ∀ (j : Nat) (o : Oper), ops.toArray[j]? = some o → isDef o = false := fun j o hj => hnd' j o (by rw [List.getElem?_toArray] at hj; exact hj)
            unfold stepOp at h
            simp only [force3_eq, forceM_eq, addM_eq, setFF_eq, spine_eq] at h
            split at h
            · exact h.elim
            · rename_i hw
              refine first_in (v := undef) (by rw [List.getElem?_toArray]; exact ho) hsel hnd2 hQp fuel.length arr a w hfree hir (.inr ⟨wants_spec hR hw, rfl⟩) ?_
              exact ih _ _ _ _ ρ _ w (hL.put hlt) hz hρz h (hR.put (Nat.le_refl _) (fun _ _ _ _ => rfl) (fun _ => rfl) rfl hR.mem hR.scM (Kept.refl _ _))
            · rename_i hw
              rw [hcall, hbar] at h
              simp only at h
              obtain ⟨sv, nb, hK, hO⟩ := Res.good_run _ h (stepH_good hΓ)
              split at hK
              · exact hK.elim
              · rename_i hc
                obtain ⟨hc1, hc2⟩ := chk_spec hc hR.scM
                have hev : ∀ x ∈ o.op.operands, evS F x ≠ .junk → a.eval x = (evS F x).den ρ := fun x _ hx => hR.ev x hx
                have hwp := hO B ρ a w (fun a' w' => ∃ (ρ' : Val) (v : Value), a' = a.put o.dst v ∧ (sv ≠ .junk → v = sv.den ρ') ∧ Val.Ext w.heap.size (fun n => ¬ (M.length ≤ n ∧ n < M.length + nb.length)) ρ ρ' ∧ Below w.heap.size w w' ∧ New B w.heap.size ρ' M.length nb w') (fun _ _ _ => False) hev hR.mem (hG w hR.below) (fun ρ' w' v hv hρ hb hn => ⟨ρ', v, rfl, hv, hρ, hb, hn⟩)
                obtain ⟨v0, hv0, ρ', v, hav, hv, hρ, hb, hn⟩ := late_run hls ρ a hev hwp
                refine first_in (v := v0) (by rw [List.getElem?_toArray]; exact ho) hsel hnd2 hQp fuel.length arr a w hfree hir (.inl ⟨wants_spec hR hw, hv0⟩) ?_
                rw [hav]
                have hold' : Val.Ext w.heap.size (fun n => n < M.length) ρ ρ' := hρ.mono (fun n hn' => by omega) (Nat.le_refl _)
                have hold : ∀ n, n < M.length → ρ' n = ρ n := hold'.eq
                have hz' : z ≤ (M ++ nb).length := by simp; omega
                have hρz' : ∀ n, n < z → ρ' n = ρ0 n := fun n hn => by rw [hold n (by omega), hρz n hn]
                have next : ∀ sv', (sv' ≠ .junk → v = sv'.den ρ') → sv'.sc (fun n => decide (n < (M ++ nb).length)) = true → Rel B w0 L ρ' (setF F o.dst sv') (M ++ nb) (a.put o.dst v) w := fun sv' hv' hs' =>
                  hR.put (by simp) (hR.keepρ hold) hv' hs' (hR.mem.grown hR.scM hold' hb hn) hc2 (Kept.of_below hR.mem.size hb)
                split at hK
                · exact ih _ _ _ _ ρ' _ w (hL.put hlt) hz' hρz' hK (next sv hv hc1)
                · split at hK
                  · exact ih _ _ _ _ ρ' _ w (hL.put hlt) hz' hρz' hK (next _ hv rfl)
                  · exact ih _ _ _ _ ρ' _ w (hL.put hlt) hz' hρz' hK (next _ hv rfl)
                  · rename_i b
                    cases b
                    · exact ih _ _ _ _ ρ' _ w (hL.put hlt) hz' hρz' (hK.2 rfl) (next _ (fun _ => hv (by simp)) rfl)
                    · exact ih _ _ _ _ ρ' _ w (hL.put hlt) hz' hρz' (hK.1 rfl) (next _ (fun _ => hv (by simp)) rfl)
                  · exact hK.elim
          · cases hlate
        · cases hlate
      · refine ⟨fun e => absurd ((nil hL).1 e) he, fun i hir => ?_⟩
        have h1 := allT_mem h i ((ready_in hL).1 hir)
        obtain ⟨hun, o, ho, hready⟩ := ready_spec hir
        have hlt := (List.getElem?_eq_some_iff.1 ho).1
        unfold oneT at h1
        rw [nth_eq, ho] at h1
        simp only at h1
        unfold wpOpIn
        rw [show ops.toArray[i]? = some o by simpa using ho]
        exact stepOp_sound (W := wpAnyIn (Fe ro) 0 P .any ops.toArray Q fuel.length (arr.setIfInBounds i true)) hG hΓ hY (fun i' F' M' ρ' a' w' hz' hρz' hK hR' => ih _ _ F' M' ρ' a' w' (hL.put hlt) hz' hρz' hK hR') i F M ρ a w (hnd' i o ho) hz hρz h1 hR
theorem tree_sound {Q : Exit → Act → World → Prop} {ro : Option Nat} (hm : P.follows .mixedOrders = true) (hG : ∀ w, Kept B w0 w → G w) {Γ : Env} (hΓ : EnvOk P G Γ) {Y : YH} (hY : YOk P G B ro Y) {gs : List Nat} (hsel : Region.noSelect ops.toArray = true) (hnd : (ops.all fun o => !isDef o) = true) (hQp : ∀ c a w, ¬ Q (.panic c) a w)
    {K : List SV → List Blk → Prop} {z : Nat} {ρ0 : Val} {F : List SV} {M : List Blk} {ρ : Val} (hz : z ≤ M.length) (hρz : ∀ n, n < z → ρ n = ρ0 n) (hQ : ∀ F' M' ρ' a' w', Rel B w0 L ρ' F' M' a' w' → z ≤ M'.length → (∀ n, n < z → ρ' n = ρ0 n) → K F' M' → Q .normal a' w') {id : Nat} {a : Act} {w : World}
    (hr : runTree P Γ Y ops gs ops [] F M K) (hR : Rel B w0 L ρ F M a w) : (Code.region id ops.toArray true).wpIn (Fe ro) 0 P Q a w := by
  refine wpIn_region_any hm ?_
  have := tree_any (B := B) (w0 := w0) (L := L) (ro := ro) hG hΓ hY (gs := gs) hsel hnd hQp (K := K) (z := z) (ρ0 := ρ0) hQ ops (Array.replicate ops.length false) [] F M ρ a { w with drawn := w.drawn + 1 } ⟨by simp, fun i hi => by rw [getD_replicate_false]; rfl, fun i hi => by cases hi⟩ hz hρz hr hR.drew
  simpa using this
end
end Go.Sx
