/- The symbolic executor: its steps, one operation each. -/
import Derived.Test.YtnbcemeofhaogaaSx1
namespace Go.Sx
open Go.RowKit Go.Proofs.Ytnbcemeofhaogaa
set_option linter.unusedSimpArgs false
set_option linter.unusedVariables false

/-- Cells that may be read. -/
def celB : Option Blk → Option (List SV)
  | some (.cells _ xs) => some xs
  | some (.rc _ xs) => some xs
  | _ => none
theorem celB_ok {B : Bd} {ρ : Val} {M : List Blk} {w : World} {n : Nat} {xs : List SV} (hM : MRel B ρ M w) (h : celB (nth M n) = some xs) : ∃ l ty, ρ n = some l ∧ l.off = 0 ∧ w.heap[l.blk]? = some (.cells (denL ρ xs).toArray ty (0, 0)) := by
  unfold celB at h
  split at h
  · rename_i ty ys hn
    obtain rfl := Option.some.inj h
    obtain ⟨l, hl, h0, _, hh⟩ := hM.ok n _ (by rw [← nth_eq]; exact hn)
    exact ⟨l, ty, hl, h0, hh⟩
  · rename_i ty ys hn
    obtain rfl := Option.some.inj h
    obtain ⟨l, hl, h0, _, hh⟩ := hM.ok n _ (by rw [← nth_eq]; exact hn)
    exact ⟨l, ty, hl, h0, hh⟩
  · cases h

/-- What a step comes to: its value, and the blocks that it makes; test: what must be so; split: both ways. -/
inductive Res where
  | fail
  | ok (sv : SV) (nb : List Blk)
  | test (b : Bool) (r : Res)
  | split (b : Bool) (r s : Res)
def Res.run (r : Res) : (SV → List Blk → Prop) → Prop :=
  Res.rec (motive := fun _ => (SV → List Blk → Prop) → Prop) (fun _ => False) (fun sv nb K => K sv nb) (fun b _ ih K => b = true ∧ ih K) (fun b _ _ ih jh K => (b = true → ih K) ∧ (b = false → jh K)) r

/-- A result's goodness, whichever way it goes. -/
theorem Res.run_ok {G : SV → List Blk → Prop} {K : SV → List Blk → Prop} : ∀ (r : Res), r.run K → (r.run fun sv nb => G sv nb) → ∃ sv nb, K sv nb ∧ G sv nb
  | .fail, h, _ => h.elim
  | .ok sv nb, h, g => ⟨sv, nb, h, g⟩
  | .test _ r, h, g => Res.run_ok r h.2 g.2
  | .split true r _, h, g => Res.run_ok r (h.1 rfl) (g.1 rfl)
  | .split false _ s, h, g => Res.run_ok s (h.2 rfl) (g.2 rfl)

/-- Constants. -/
def SV.ofU (n : Int) : SV := match decide (0 ≤ n), decide (n < 18446744073709551616) with
    | true, true => .u64 (BitVec.ofInt 64 n)
    | _, _ => .val (.int .u64 n)
def SV.ofW : Value → SV
  | .bool true => .tt
  | .bool false => .ff
  | .int .u64 n => SV.ofU n
  | .int k n => .int k n
  | v => .val v
def SV.ofV : Value → SV
  | .agg vs => .agg (vs.toList.map SV.ofW)
  | v => SV.ofW v
theorem SV.ofU_den (ρ : Val) (n : Int) : (SV.ofU n).den ρ = .int .u64 n := by
  unfold SV.ofU
  split
  · rename_i h1 h2
    simp only [decide_eq_true_eq] at h1 h2
    simp only [SV.den]; rw [uv_of 64 n h1 (by simpa using h2)]
  · rfl
theorem SV.ofW_den (ρ : Val) (v : Value) : (SV.ofW v).den ρ = v := by
  cases v with
  | bool b => cases b <;> rfl
  | int k n => cases k <;> first | rfl | exact SV.ofU_den ρ n
  | _ => rfl
theorem SV.ofV_den (ρ : Val) (v : Value) : (SV.ofV v).den ρ = v := by
  unfold SV.ofV
  split
  · rename_i vs
    simp only [SV.den, denL_eq, List.map_map]
    congr 1
    apply Array.ext'
    rw [show (SV.den ρ ∘ SV.ofW) = id from funext fun v => SV.ofW_den ρ v]
    simp
  · exact SV.ofW_den ρ _
theorem SV.ofU_sc (p : Nat → Bool) (n : Int) : (SV.ofU n).sc p = true := by unfold SV.ofU; split <;> rfl
theorem SV.ofW_sc (p : Nat → Bool) (v : Value) : (SV.ofW v).sc p = true := by
  cases v with
  | bool b => cases b <;> rfl
  | int k n => cases k <;> first | rfl | exact SV.ofU_sc p n
  | _ => rfl
theorem SV.ofV_sc (p : Nat → Bool) (v : Value) : (SV.ofV v).sc p = true := by
  unfold SV.ofV
  split
  · rename_i vs
    simp only [SV.sc, scL_eq, List.all_eq_true, List.mem_map]
    rintro x ⟨y, _, rfl⟩
    exact SV.ofW_sc p y
  · exact SV.ofW_sc p _

/-- An operand. -/
def evS (F : List SV) : Operand → SV
  | .tmp t => match nth F t with
    | some x => x
    | none => .junk
  | .const v => .ofV v
  | .global g => .val (.pointer (some ⟨g, 0, none⟩))
  | .func f => .fn (.func f) [] []

def SV.nj : SV → Bool
  | .junk => false
  | _ => true
theorem SV.nj_ne {x : SV} (h : x.nj = true) : x ≠ .junk := by rintro rfl; cases h

/-- A value's cells. -/
def cellsS : SV → Option (List SV)
  | .agg xs => some xs
  | .junk => none
  | .tup _ => none
  | .val (.agg _) => none
  | .val (.tuple _) => none
  | .arr .. => none
  | .mix _ => none
  | x => some [x]
theorem cellsS_den {ρ : Val} {x : SV} {xs : List SV} (h : cellsS x = some xs) : (x.den ρ).cells = (denL ρ xs).toArray ∧ x ≠ .junk := by
  cases x with
  | junk => cases h
  | tup => cases h
  | arr => cases h
  | mix => cases h
  | agg ys => obtain rfl : ys = xs := Option.some.inj h; exact ⟨rfl, by simp⟩
  | val v => cases v <;> first | (obtain rfl := Option.some.inj h; exact ⟨rfl, by simp⟩) | (cases h)
  | _ => obtain rfl := Option.some.inj h; exact ⟨rfl, by simp⟩

/-- One cell, that may be stored. -/
def SV.one : SV → Bool
  | .agg _ => false
  | .junk => false
  | .tup _ => false
  | .arr .. => false
  | .mix _ => false
  | .val (.agg _) => false
  | .val (.tuple _) => false
  | _ => true
theorem SV.one_den {ρ : Val} {x : SV} (h : x.one = true) : (x.den ρ).oneCell' = true := by
  cases x with
  | junk => cases h
  | tup => cases h
  | agg ys => cases h
  | arr => cases h
  | mix => cases h
  | val v => cases v <;> first | rfl | (cases h)
  | _ => rfl

section
variable (P : Program)
def sizeS (t : TypeId) : Option Nat := match P.info? t with
  | some i => some i.size
  | none => none
def zeroS (t : TypeId) : Option (List SV) := match P.info? t with
  | some i => match i.zero with
    | some z => some (z.cells.toList.map SV.ofV)
    | none => none
  | none => none
def aggS (t : TypeId) : Option Bool := match P.underlying t with
  | some (.struct _) => some true
  | some (.array _ _) => some true
  | some _ => some false
  | none => none
/-- A part of cells. -/
def partS (t : TypeId) (xs : List SV) (off : Nat) : Option SV := match aggS P t with
  | some true => match sizeS P t with
    | some n => match Nat.ble (off + n) xs.length with
      | true => some (.agg ((xs.drop off).take n))
      | false => none
    | none => none
  | some false => match nth xs off with
    | some x => match x.nj with
      | true => some x
      | false => none
    | none => none
  | none => none
def fieldS (t : TypeId) (f : Nat) : Option Field := match P.underlying t with
  | some (.struct fs) => nth fs.toList f
  | _ => none
def placesS : List Field → Option (List (Nat × Nat))
  | [] => some []
  | f :: fs => match sizeS P f.type, placesS fs with
    | some n, some l => some ((f.offset, n) :: l)
    | _, _ => none
end

/-- Parts put into cells. -/
def fillS (place : Nat → Option (Nat × Nat)) (cells : List SV) : List (Nat × SV) → Option (List SV)
  | [] => some cells
  | (i, v) :: rest => match place i, cellsS v with
    | some (off, n), some cs => match Nat.beq cs.length n, Nat.ble (off + n) cells.length with
      | true, true => fillS place (cells.take off ++ cs ++ cells.drop (off + n)) rest
      | _, _ => none
    | _, _ => none

theorem foldl_set (off : Nat) : ∀ (cs : List Value) (k : Nat) (cells : Array Value), off + k + cs.length ≤ cells.size →
    ((cs.zipIdx k).foldl (fun a (p : Value × Nat) => a.setIfInBounds (off + p.2) p.1) cells).toList = cells.toList.take (off + k) ++ cs ++ cells.toList.drop (off + k + cs.length)
  | [], k, cells, h => by simp
  | c :: cs, k, cells, h => by
    simp only [List.zipIdx_cons, List.foldl_cons]
    rw [foldl_set off cs (k + 1) _ (by simp at h ⊢; omega)]
    apply List.ext_getElem?
    intro i
    simp only [List.length_cons] at h
    simp only [Array.toList_setIfInBounds, List.getElem?_append, List.length_take, List.length_set, Array.length_toList, List.getElem?_take, List.getElem?_drop, List.getElem?_set, List.length_append, List.length_cons]
    rcases Nat.lt_trichotomy i (off + k) with hi | hi | hi
    · simp [show i < off + (k + 1) by omega, show i < min (off + (k + 1)) cells.size + cs.length by omega, show i < min (off + (k+1)) cells.size by omega, hi, show i < min (off + k) cells.size + (cs.length + 1) by omega, show i < min (off + k) cells.size by omega, show off + k ≠ i by omega]
    · subst hi
      simp [show off + k < off + (k + 1) by omega, show off + k < min (off + (k + 1)) cells.size by omega, show ¬ off + k < min (off + k) cells.size by omega, show off + k < min (off + (k + 1)) cells.size + cs.length by omega, show off + k < min (off + k) cells.size + (cs.length + 1) by omega, show off + k - min (off + k) cells.size = 0 by omega, show off + k < cells.size by omega]
    · rw [show min (off + (k + 1)) cells.size = off + k + 1 by omega, show min (off + k) cells.size = off + k by omega]
      simp only [show ¬ i < off + k + 1 by omega, show ¬ i < off + k by omega, if_false]
      rw [show i - (off + k) = (i - (off + k + 1)) + 1 by omega, List.getElem?_cons_succ]
      by_cases h2 : i < off + k + 1 + cs.length
      · simp [h2, show i < off + k + (cs.length + 1) by omega]
      · simp only [h2, show ¬ i < off + k + (cs.length + 1) by omega, if_false]
        rw [if_neg (by omega)]
        congr 1; omega

theorem fill_of {ρ : Val} {place : Nat → Option (Nat × Nat)} : ∀ (parts : List (Nat × SV)) (cells out : List SV), fillS place cells parts = some out →
    Instr.fill place (denL ρ cells).toArray (parts.map fun p => (p.1, p.2.den ρ)) = some (denL ρ out).toArray
  | [], cells, out, h => by obtain rfl := Option.some.inj h; rfl
  | (i, v) :: rest, cells, out, h => by
    simp only [fillS] at h
    split at h
    · rename_i off n cs hp hc
      split at h
      · rename_i h1 h2
        have h1' : cs.length = n := by simpa using h1
        have h2' : off + n ≤ cells.length := by simpa using h2
        have ih := fill_of (ρ := ρ) rest _ out h
        simp only [List.map_cons, Instr.fill, hp, (cellsS_den (ρ := ρ) hc).1]
        rw [if_neg (by simp [denL_eq]; omega)]
        rw [← ih]
        congr 1
        apply Array.ext'
        have hz : ((denL ρ cs).toArray.zipIdx).toList = (denL ρ cs).zipIdx 0 := by simp
        rw [← Array.foldl_toList, hz, foldl_set off (denL ρ cs) 0 _ (by simp [denL_eq]; omega)]
        simp [denL_eq, List.map_take, List.map_drop, h1']
      · cases h
    · cases h

def buildS (P : Program) (t : TypeId) (parts : List (Nat × SV)) : Option (List SV) := match zeroS P t with
  | none => none
  | some z => match P.underlying t with
    | some (.array _ e) => match sizeS P e with
      | some n => fillS (fun i => some (i * n, n)) z parts
      | none => none
    | some (.struct fs) => match placesS P fs.toList with
      | some l => fillS (nth l) z parts
      | none => none
    | _ => none

theorem zeroS_den {P : Program} {t : TypeId} {z : List SV} (h : zeroS P t = some z) : ∃ it v, P.info? t = some it ∧ it.zero = some v ∧ ∀ ρ, v.cells = (denL ρ z).toArray := by
  unfold zeroS at h
  split at h
  · rename_i i hi
    split at h
    · rename_i v hv
      obtain rfl := Option.some.inj h
      refine ⟨i, v, hi, hv, fun ρ => ?_⟩
      apply Array.ext'
      simp [denL_eq, Function.comp_def, SV.ofV_den]
    · cases h
  · cases h
theorem zeroS_sc {P : Program} {t : TypeId} {z : List SV} (p : Nat → Bool) (h : zeroS P t = some z) : scL p z = true := by
  unfold zeroS at h
  split at h
  · split at h
    · obtain rfl := Option.some.inj h
      simp [scL_eq, SV.ofV_sc]
    · cases h
  · cases h
theorem sizeS_info {P : Program} {t : TypeId} {n : Nat} (h : sizeS P t = some n) : ∃ it, P.info? t = some it ∧ it.size = n := by
  unfold sizeS at h
  split at h
  · rename_i i hi; exact ⟨i, hi, Option.some.inj h⟩
  · cases h
theorem placesS_mapM {P : Program} : ∀ (fs : List Field) (l : List (Nat × Nat)), placesS P fs = some l → fs.mapM (fun f => (P.info? f.type).map fun i => (f.offset, i.size)) = some l
  | [], l, h => by obtain rfl := Option.some.inj h; simp
  | f :: fs, l, h => by
    simp only [placesS] at h
    split at h
    · rename_i n l' h1 h2
      obtain ⟨it, hi, hs⟩ := sizeS_info h1
      obtain rfl := Option.some.inj h
      simp [List.mapM_cons, hi, hs, placesS_mapM fs l' h2]
    · cases h
theorem buildS_built {P : Program} {ρ : Val} {t : TypeId} {parts : List (Nat × SV)} {out : List SV} (h : buildS P t parts = some out) : P.built t (parts.map fun p => (p.1, p.2.den ρ)) = some (denL ρ out).toArray := by
  unfold buildS at h
  split at h
  · cases h
  · rename_i z hz
    obtain ⟨it, v, hi, hv, hc⟩ := zeroS_den hz
    unfold Program.built
    split at h
    · rename_i k e hu
      split at h
      · rename_i n hn
        obtain ⟨ie, hie, hs⟩ := sizeS_info hn
        simp only [hi, hu, hv, hie, hs, hc ρ]
        exact fill_of parts z out h
      · cases h
    · rename_i fs hu
      split at h
      · rename_i l hl
        simp only [hi, hu, hv, placesS_mapM fs.toList l hl, hc ρ]
        rw [← fill_of parts z out h]
        congr 1
        funext i; simp [nth_eq]
      · cases h
    · cases h
end Go.Sx
