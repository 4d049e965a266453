/- The symbolic executor: slices, maps; all operations together. -/
import Derived.Test.YtaickooakoikaaaDoorSx5
namespace Go.Sx
open Go.RowKit Go.Proofs.YtaickooakoikaaaDoor
set_option linter.unusedSimpArgs false
set_option linter.unusedVariables false

section
variable {P : Program} {G : World → Prop} {ev : Operand → SV} {M : List Blk} {o : Oper}

def nilCheckS (M : List Blk) (x : SV) : Res := match x with
  | .ptr n off => match nth M n with
    | some (.cells _ _) => .ok (.ptr n off) []
    | _ => .fail
  | .fn (.func f) a b => .ok (.fn (.func f) a b) []
  | _ => .fail
theorem good_nilCheck {x : Operand} (ho : o.op = .nilCheck x) : (nilCheckS M (ev x)).good (OpOk P G ev M o) := by
  have hin : x ∈ o.op.operands := by simp [ho, Op.operands]
  unfold nilCheckS
  split
  · rename_i n off hx
    split
    · rename_i ty xs hn
      refine OpOk.same fun B ρ a w he hM => ⟨_, fun _ => rfl, ?_⟩
      obtain ⟨l, hl, h0, _⟩ := hM.ok n _ (by rw [← nth_eq]; exact hn)
      have h1 := he x hin (by rw [hx]; simp)
      rw [hx] at h1
      simp [execOp, ho, h1, SV.den, hl]
    · trivial
  · rename_i f c d hx
    refine OpOk.same fun B ρ a w he hM => ⟨_, fun _ => rfl, ?_⟩
    have h1 := he x hin (by rw [hx]; simp)
    rw [hx] at h1
    simp [execOp, ho, h1, SV.den]
  · trivial

/-! ### Maps -/
def keyEqS : SV → SV → Option Bool
  | .u64 a, .u64 b => some (a == b)
  | .int k a, .int k' b => match kEq k k' with
    | true => some (a == b)
    | false => none
  | _, _ => none
theorem keyEqS_den {x y : SV} {b : Bool} (h : keyEqS x y = some b) (ρ : Val) (kk : IntKind) : Instr.sameNow (.int kk) (x.den ρ) (y.den ρ) = some b := by
  unfold keyEqS at h
  split at h
  · obtain rfl := Option.some.inj h; simp [SV.den, Instr.sameNow, eq_uv]
  · split at h
    · rename_i hk
      simp only [kEq, decide_eq_true_eq] at hk
      subst hk
      obtain rfl := Option.some.inj h
      simp [SV.den, Instr.sameNow]
    · cases h
  · cases h
def lookR (ok : Bool) (z : SV) (key : SV) : List (SV × SV) → Res
  | [] => .ok (match ok with | true => .tup [z, .ff] | false => z) []
  | (k, v) :: es => match keyEqS key k with
    | some b => .split b (.ok (match ok with | true => .tup [v, .tt] | false => v) []) (lookR ok z key es)
    | none => .fail
def zeroV (P : Program) (t : TypeId) : Option SV := match P.info? t with
  | some i => match i.zero with
    | some (.agg cs) => some (.agg (cs.toList.map SV.ofV))
    | some v => some (.ofV v)
    | none => none
  | none => none
theorem zeroV_den {t : TypeId} {z : SV} (h : zeroV P t = some z) (ρ : Val) (w : World) : (zeroValue t).run P w = .ok (z.den ρ) w := by
  unfold zeroV at h
  split at h
  · rename_i i hi
    split at h
    · rename_i cs hz
      obtain rfl := Option.some.inj h
      have e : (denL ρ (cs.toList.map SV.ofV)).toArray = cs := by apply Array.ext'; simp [denL_eq, Function.comp_def, SV.ofV_den]
      simp [zeroValue, typeInfo, hi, hz, SV.den, e]
    · rename_i v _ hz
      obtain rfl := Option.some.inj h
      simp [zeroValue, typeInfo, hi, hz, SV.ofV_den]
    · cases h
  · cases h
/-- What is found. -/
def outS (ok : Bool) (v : SV) (b : SV) : SV := match ok with
  | true => .tup [v, b]
  | false => v
theorem lookR_good {key : SV} (kk : IntKind) (ok : Bool) (z : SV) : ∀ (es : List (SV × SV)),
    (lookR ok z key es).good fun sv nb => nb = [] ∧ ∃ (v : SV) (b : Bool), sv = outS ok v (if b then .tt else .ff) ∧ ∀ (ρ : Val) (n i : Nat), (if b then ∃ j, Instr.findNow (.int kk) (key.den ρ) (esOf ρ es n) i = some (some (j, v.den ρ)) else v = z ∧ Instr.findNow (.int kk) (key.den ρ) (esOf ρ es n) i = some none)
  | [] => ⟨rfl, z, false, by cases ok <;> rfl, fun ρ n i => ⟨rfl, rfl⟩⟩
  | (k, v) :: es => by
    unfold lookR
    split
    · rename_i b hb
      refine ⟨fun ht => ⟨rfl, v, true, by cases ok <;> rfl, fun ρ n i => ⟨i, ?_⟩⟩, fun hf => Res.good_mono (fun sv nb h => ?_) _ (lookR_good kk ok z es)⟩
      · simp only [esOf, Instr.findNow, keyEqS_den hb ρ kk, ht]
      · obtain ⟨hnb, v', b', hsv, h⟩ := h
        refine ⟨hnb, v', b', hsv, fun ρ n i => ?_⟩
        have := h ρ (n + 1) (i + 1)
        simp only [esOf, Instr.findNow, keyEqS_den hb ρ kk, hf]
        exact this
    · trivial
def isKey : SV → Bool
  | .u64 _ => true
  | .int _ _ => true
  | _ => false
def lookupS (P : Program) (M : List Blk) (t : TypeId) (ok : Bool) (x key : SV) : Res := match P.underlying t with
  | some (.map kt et) => match P.underlying kt with
    | some (.int kk) => match zeroV P et with
      | some z => match x with
        | .mp n => match nth M n with
          | some (.map es) => match isKey key with
            | true => lookR ok z key es
            | false => .fail
          | _ => .fail
        | _ => .fail
      | none => .fail
    | _ => .fail
  | _ => .fail
theorem run_checkKey_int {kt : TypeId} {kk : IntKind} (h : P.underlying kt = some (.int kk)) (e : Bool) (v : Value) (w : World) : (Instr.checkKey e 10000 kt v).run P w = .ok () w := by
  have : ∀ n, (Instr.checkKey e (n + 1) kt v).run P w = .ok () w := fun n => by
    unfold Instr.checkKey
    rw [Sem.run_bind, run_underlying h w]
    rfl
  exact this 9999
theorem good_lookup {t : TypeId} {x ix : Operand} {ok : Bool} (ho : o.op = .lookup t x ix ok) : (lookupS P M t ok (ev x) (ev ix)).good (OpOk P G ev M o) := by
  unfold lookupS
  split
  · rename_i kt et hu
    split
    · rename_i kk hk
      split
      · rename_i z hz
        split
        · rename_i n hx
          split
          · rename_i es hn
            split
            · rename_i hkey
              refine Res.good_mono (fun sv nb h => ?_) _ (lookR_good kk ok z es)
              obtain ⟨rfl, v, b, rfl, h⟩ := h
              refine OpOk.same fun B ρ a w he hM => ?_
              obtain ⟨l, hl, hB, hh⟩ := hM.ok n _ (by rw [← nth_eq]; exact hn)
              have h1 := he x (by simp [ho, Op.operands]) (by rw [hx]; simp)
              rw [hx] at h1
              have h2 := he ix (by simp [ho, Op.operands]) (by cases hki : ev ix <;> simp_all [isKey])
              have h3 := h ρ 0 0
              have hgo : (getObj l.blk).run P w = .ok (.map (esOf ρ es 0).toArray es.length) w := by simp [getObj, Sem.run, hh]
              have hz' := zeroV_den hz ρ w
              refine ⟨_, fun _ => rfl, ?_⟩
              cases b
              · simp only [Bool.false_eq_true, if_false] at h3
                obtain ⟨rfl, h3⟩ := h3
                cases ok <;> simp [execOp, ho, h1, h2, SV.den, hl, Instr.lookup, run_underlying hu, hgo, run_checkKey_int hk, Instr.findKey, run_underlying hk, h3, hz', outS, denL]
              · simp only [if_true] at h3
                obtain ⟨j, h3⟩ := h3
                cases ok <;> simp [execOp, ho, h1, h2, SV.den, hl, Instr.lookup, run_underlying hu, hgo, run_checkKey_int hk, Instr.findKey, run_underlying hk, h3, outS, denL]
            · trivial
          · trivial
        · trivial
      · trivial
    · trivial
  · trivial
theorem ok_makeMap {t : TypeId} (ho : o.op = .makeMap t none) : OpOk P G ev M o (.mp M.length) [.map []] := by
  intro B ρ a w next Q hx hM hGw hn
  have hr : (execOp a.eval o).run P w = .ok (.value (.map (some w.heap.size))) (w.alloc (.map #[] 0)) := by
    simp only [execOp, ho, Option.map_none, Instr.makeMap, newObj, Sem.run_bind, Sem.run_pure, Result.andThen_ok]
    rfl
  refine wp_of_run hr (hn (setρ ρ M.length (some ⟨w.heap.size, 0, 0⟩)) _ _ (fun _ => ?_) (fun n hn' => setρ_other ?_) ((Below.refl _ _).alloc (Nat.le_refl _) _) (new_one (l := ⟨w.heap.size, 0, 0⟩) ?_ ?_))
  · simp [SV.den, setρ_self]
  · intro e; subst e; exact hn' ⟨Nat.le_refl _, by simp⟩
  · refine ⟨⟨w.heap.size, 0, 0⟩, setρ_self .., Or.inr hM.size, ?_⟩
    rw [heap_alloc, if_pos rfl]; rfl
  · intro _ l hl
    rw [setρ_self] at hl; obtain rfl := Option.some.inj hl; exact Nat.le_refl _

/-! ### Slices -/
def fvS : SV → Option FV
  | .tt => some (.bool true)
  | .ff => some (.bool false)
  | .val v => some (.val v)
  | .bool b => some (.bool b)
  | .int k n => some (.int k n)
  | .u64 x => some (.u64 x)
  | _ => none
theorem fvS_den {x : SV} {y : FV} (h : fvS x = some y) (ρ : Val) : x.den ρ = y.den := by
  cases x <;> first | (obtain rfl := Option.some.inj h; rfl) | (cases h)
def fvL : List SV → Option (List FV)
  | [] => some []
  | x :: l => match fvS x, fvL l with
    | some y, some m => some (y :: m)
    | _, _ => none
theorem fvL_den : ∀ {l : List SV} {m : List FV}, fvL l = some m → ∀ ρ, denL ρ l = m.map FV.den
  | [], m, h, ρ => by obtain rfl := Option.some.inj h; rfl
  | x :: l, m, h, ρ => by
    simp only [fvL] at h
    split at h
    · rename_i y m' h1 h2
      obtain rfl := Option.some.inj h
      simp [denL, fvS_den h1, fvL_den h2]
    · cases h
def oneL : List SV → Bool
  | [] => true
  | x :: l => x.one && oneL l
theorem oneL_den {ρ : Val} : ∀ {l : List SV}, oneL l = true → ∀ v ∈ denL ρ l, v.oneCell' = true
  | [], _, v, hv => by simp [denL] at hv
  | x :: l, h, v, hv => by
    simp only [oneL, Bool.and_eq_true] at h
    simp only [denL, List.mem_cons] at hv
    rcases hv with rfl | hv
    · exact SV.one_den h.1
    · exact oneL_den h.2 v hv
def repL (z : List SV) : Nat → List SV
  | 0 => []
  | n + 1 => z ++ repL z n
def buildSliceS (P : Program) (M : List Blk) (t : TypeId) (len : Nat) (parts : List (Nat × SV)) : Res := match P.underlying t with
  | some (.slice e) => match sizeS P e, zeroS P e with
    | some sz, some z => match njP parts, Nat.ble (len * sz) 16777216, Nat.ble 1 sz, Nat.beq z.length sz with
      | true, true, true, true => match fillS (fun i => some (i * sz, sz)) (repL z len) parts with
        | some xs => match fvL xs, Nat.beq xs.length (len * sz) && oneL xs with
          | some l, true => .ok (.sl M.length sz 0 len) [.own e sz len (fun i => (l.drop (i * sz)).take sz)]
          | _, _ => .fail
        | none => .fail
      | _, _, _, _ => .fail
    | _, _ => .fail
  | _ => .fail
theorem repL_den (ρ : Val) (z : List SV) (v : Value) (hv : v.cells = (denL ρ z).toArray) (hz : 1 ≤ z.length) : ∀ n, (denL ρ (repL z n)).toArray = (Array.range (n * z.length)).map fun i => v.cells[i % v.cells.size]! := by
  intro n
  have hsz : v.cells.size = z.length := by rw [hv]; simp [denL_eq]
  have hlen : (denL ρ (repL z n)).length = n * z.length := by
    induction n with
    | zero => simp [repL, denL]
    | succ n ih => simp only [repL, denL_append, List.length_append, ih, Nat.succ_mul]; simp [denL_eq]; omega
  have get : ∀ n i, i < n * z.length → (denL ρ (repL z n))[i]? = (denL ρ z)[i % z.length]? := by
    intro n
    induction n with
    | zero => intro i hi; simp at hi
    | succ n ih =>
      intro i hi
      rw [Nat.succ_mul] at hi
      have hl : (denL ρ z).length = z.length := by simp [denL_eq]
      simp only [repL, denL_append]
      rw [List.getElem?_append, hl]
      split
      · rename_i h; rw [Nat.mod_eq_of_lt h]
      · rename_i h
        rw [ih _ (by omega), ← Nat.mod_eq_sub_mod (by omega)]
  apply Array.ext
  · simp [hlen]
  · intro i h1 h2
    simp only [List.size_toArray] at h1
    have hi : i < n * z.length := by omega
    have hm : i % z.length < z.length := Nat.mod_lt _ hz
    have g := get n i hi
    rw [List.getElem?_eq_getElem h1, List.getElem?_eq_getElem (by simp [denL_eq]; omega)] at g
    simp only [Array.getElem_map, Array.getElem_range, hsz]
    rw [getElem!_pos v.cells (i % z.length) (by omega)]
    simp only [hv]
    simpa using Option.some.inj g
theorem flatG_take (l : List FV) (sz : Nat) : ∀ n, flatG n (fun i => (l.drop (i * sz)).take sz) = (l.take (n * sz)).map FV.den := by
  intro n
  induction n with
  | zero => simp [flatG]
  | succ n ih =>
    have e : flatG (n + 1) (fun i => (l.drop (i * sz)).take sz) = flatG n (fun i => (l.drop (i * sz)).take sz) ++ ((l.drop (n * sz)).take sz).map FV.den := by simp [flatG, List.range_succ]
    rw [e, ih, ← List.map_append, Nat.succ_mul, List.take_add]
theorem good_buildSlice {t : TypeId} {len : Nat} {parts : Array (Nat × Operand)} (ho : o.op = .buildSlice t len parts) : (buildSliceS P M t len (evP ev parts.toList)).good (OpOk P G ev M o) := by
  unfold buildSliceS
  split
  · rename_i e hu
    split
    · rename_i sz z hsz hz
      split
      · rename_i hnj hle h1 hzl
        split
        · rename_i xs hf
          split
          · rename_i l hl hlen
            intro B ρ a w next Q hx hM hGw hn
            have hle' : len * sz ≤ 16777216 := Nat.le_of_ble_eq_true hle
            have h1' : 1 ≤ sz := Nat.le_of_ble_eq_true h1
            have hzl' : z.length = sz := Nat.eq_of_beq_eq_true hzl
            simp only [Bool.and_eq_true] at hlen
            have hlen' : xs.length = len * sz := Nat.eq_of_beq_eq_true hlen.1
            obtain ⟨it, v, hi, hv, hc⟩ := zeroS_den hz
            obtain ⟨it', hi', hs'⟩ := sizeS_info hsz
            obtain rfl : it = it' := by rw [hi] at hi'; exact Option.some.inj hi'
            have he := evP_eval (a := a) (ρ := ρ) parts.toList (fun p hp => hx p.2 (by simp [ho, Op.operands]; exact ⟨p.1, by simpa using hp⟩)) hnj
            have hfill := fill_of (ρ := ρ) _ _ _ hf
            rw [repL_den ρ z v (hc ρ) (by omega) len, hzl', ← he] at hfill
            have hvs : v.cells.size = sz := by rw [hc ρ]; simp [denL_eq, hzl']
            have hr : (execOp a.eval o).run P w = .ok (.value (.slice (some ⟨w.heap.size, 0, none⟩) len len)) (w.alloc (.cells (denL ρ xs).toArray e)) := by
              have hzv : (zeroValue e).run P w = .ok v w := by simp [zeroValue, typeInfo, hi, hv]
              have hszv : (sizeOf e).run P w = .ok sz w := by simp [sizeOf, typeInfo, hi, hs']
              have hne : ¬ len * sz > 2 ^ 24 := by omega
              by_cases hz0 : len * sz = 0
              · have hfill' : Instr.fill (fun i => some (i * sz, sz)) ((Array.range (len * sz)).map fun i => (#[] : Array Value)[i % (#[] : Array Value).size]!) (parts.map fun (i, x) => (i, a.eval x)).toList = some (denL ρ xs).toArray := by
                  rw [← hfill, hz0, Array.range_zero']; simp
                simp only [execOp, ho, Instr.buildSlice, Sem.run_bind, run_underlying hu, Result.andThen_ok, hszv]
                rw [if_neg hne, if_pos hz0]
                simp only [Sem.run_bind, Sem.run_pure, Result.andThen_ok, hfill', newRow, newObj]
                rfl
              · have hfill' : Instr.fill (fun i => some (i * sz, sz)) ((Array.range (len * sz)).map fun i => v.cells[i % v.cells.size]!) (parts.map fun (i, x) => (i, a.eval x)).toList = some (denL ρ xs).toArray := by
                  rw [← hfill]; simp
                simp only [execOp, ho, Instr.buildSlice, Sem.run_bind, run_underlying hu, Result.andThen_ok, hszv]
                rw [if_neg hne, if_neg hz0]
                simp only [Sem.run_bind, Sem.run_pure, Result.andThen_ok, hzv, hfill', newRow, newObj]
                rfl
            have hll : l.length = len * sz := by
              have := congrArg List.length (fvL_den hl ρ)
              simp [denL_eq] at this; omega
            refine wp_of_run hr (hn (setρ ρ M.length (some ⟨w.heap.size, 0, len⟩)) _ _ (fun _ => ?_) (fun n hn' => setρ_other ?_) ((Below.refl _ _).alloc (Nat.le_refl _) _) (new_one (l := ⟨w.heap.size, 0, len⟩) ?_ ?_))
            · simp [SV.den, setρ_self]
            · intro e; subst e; exact hn' ⟨Nat.le_refl _, by simp⟩
            · refine ⟨fun i hi => ?_, .inr ⟨⟨w.heap.size, 0, len⟩, (denL ρ xs).toArray, setρ_self .., rfl, Or.inr hM.size, ?_, Nat.le_refl _, ?_, ?_, ?_⟩⟩
              · refine ⟨?_, fun x hx => ?_⟩
                · simp only [List.length_take, List.length_drop, hll]
                  have : (i + 1) * sz ≤ len * sz := Nat.mul_le_mul_right _ hi
                  rw [Nat.succ_mul] at this; omega
                · have hxl : x ∈ l := List.mem_of_mem_drop (List.mem_of_mem_take hx)
                  exact oneL_den (ρ := ρ) hlen.2 _ (by rw [fvL_den hl ρ]; exact List.mem_map_of_mem hxl)
              · rw [heap_alloc, if_pos rfl]
              · unfold maxLen
                have : len * 1 ≤ len * sz := Nat.mul_le_mul_left _ h1'
                show len ≤ 9223372036854775807
                omega
              · simp [denL_eq, hlen']
              · show (denL ρ xs).toArray.toList.take (len * sz) = _
                rw [flatG_take, fvL_den hl ρ, ← hll, List.take_of_length_le (by simp), List.take_of_length_le (Nat.le_refl _)]
            · intro _ l' hl'
              rw [setρ_self] at hl'; obtain rfl := Option.some.inj hl'; exact Nat.le_refl _
          · trivial
        · trivial
      · trivial
    · trivial
  · trivial
end
end Go.Sx
