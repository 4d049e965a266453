import Derived.Test.YtddcaklgflfkeaaGreatDoorX39
import Derived.Test.YtddcaklgflfkeaaGreatDoorX37
namespace Go.Proofs.YtddcaklgflfkeaaGreatDoor
open Go.RowKit Go.Sx
set_option linter.unusedSimpArgs false
set_option linter.unusedVariables false
set_option linter.unnecessarySimpa false
set_option maxRecDepth 100000
set_option maxHeartbeats 4000000
namespace A
theorem does_ins {op off : Int} {w : Bool} {a b : Sc} (ha : R.inS a.s = true) (hb : R.inS b.s = true) : R.inS (does op off w a b).1.s = true := by
  unfold does
  split
  · split
    · split
      · show R.inS (if w = true then made op off true a b else low4 (made op off false (low4 a) (low4 b))).s = true
        split
        · exact made_in ha hb
        · exact low4_in (made_in (low4_in ha) (low4_in hb))
      · rfl
    · rfl
  · rfl
end A
namespace V
section
variable {p : Ab} {n : Sc} {minus : Bool} {id : Int}
/-- What is told with an error is nought. -/
theorem add_err (h : (add p n minus id).2 ≠ 0) : (add p n minus id).1 = zero := by
  unfold add at h ⊢
  cases h1 : right p && (C.right n && !decide (id < 1)) with
  | false => rfl
  | true =>
    cases h2 : pointer p with
    | false => rfl
    | true =>
      cases h3 : (C.one n).2 with
      | true =>
        rw [h1, h2, h3] at h
        unfold further at h ⊢
        cases h4 : near (sv (C.one n).1) with
        | false => rfl
        | true =>
          cases h5 : near (wr (p.of + (if minus then wr (0 - sv (C.one n).1) else sv (C.one n).1))) with
          | false => rfl
          | true => rw [h4, h5] at h; exact absurd rfl h
      | false =>
        cases h4 : minus || (p.k == 2 || p.k == 3) with
        | true => rfl
        | false =>
          cases h5 : far p n with
          | true => rfl
          | false =>
            rw [h1, h2, h3, h4, h5] at h
            cases h6 : p.k == 4 with
            | true => rw [h6] at h; exact absurd rfl h
            | false => rw [h6] at h; exact absurd rfl h
theorem add_good (h : (add p n minus id).2 = 0) : right p = true ∧ C.right n = true ∧ 1 ≤ id ∧ pointer p = true ∧ (((C.one n).2 = true ∧ (further p (sv (C.one n).1) minus).2 = 0 ∧ add p n minus id = further p (sv (C.one n).1) minus) ∨
    ((C.one n).2 = false ∧ minus = false ∧ p.k ≠ 2 ∧ p.k ≠ 3 ∧ far p n = false ∧ (p.k = 4 → add p n minus id = (⟨p.k, sum p n, p.of, p.mp, id, 0, p.nu⟩, 0)) ∧ (p.k ≠ 4 → add p n minus id = (⟨p.k, sum p n, p.of, p.mp, p.id, p.rm, p.nu⟩, 0)))) := by
  unfold add at h ⊢
  cases h1 : right p && (C.right n && !decide (id < 1)) with
  | false => rw [h1] at h; cases h
  | true =>
    have g1 := h1
    simp only [Bool.and_eq_true, Bool.not_eq_true', decide_eq_false_iff_not] at g1
    refine ⟨g1.1, g1.2.1, by omega, ?_⟩
    cases h2 : pointer p with
    | false => rw [h1, h2] at h; cases h
    | true =>
      refine ⟨rfl, ?_⟩
      cases h3 : (C.one n).2 with
      | true => rw [h1, h2, h3] at h; exact .inl ⟨rfl, h, rfl⟩
      | false =>
        cases h4 : minus || (p.k == 2 || p.k == 3) with
        | true => rw [h1, h2, h3, h4] at h; cases h
        | false =>
          cases h5 : far p n with
          | true => rw [h1, h2, h3, h4, h5] at h; cases h
          | false =>
            have g4 := h4
            simp only [Bool.or_eq_false_iff, beq_eq_false_iff_ne, ne_eq] at g4
            refine .inr ⟨rfl, g4.1, g4.2.1, g4.2.2, rfl, fun hk => ?_, fun hk => ?_⟩
            · rw [show (p.k == 4) = true from beq_iff_eq.2 hk]; rfl
            · rw [show (p.k == 4) = false from beq_eq_false_iff_ne.2 hk]; rfl
theorem one_in {x : Sc} {w : BitVec 64} (h : (C.one x).2 = true) (hw : C.hasb x w = true) : (C.one x).1 = w := by
  obtain ⟨h1, h2, _, _⟩ := hasb_in hw
  unfold C.one at h ⊢
  split at h
  · rename_i hc
    rw [if_pos hc]
    simp only [Bool.and_eq_true, beq_iff_eq] at hc
    have h1 := le_n h1
    have h2 := le_n h2
    rw [hc.2] at h1
    show x.s.lo = w
    rw [hc.2]
    exact BitVec.eq_of_toNat_eq (by omega)
  · cases h
theorem ofI_wr (z : Int) : BitVec.ofInt 64 (IntKind.i64.wrap z) = BitVec.ofInt 64 z := by rw [i64_eq, ofInt_sv]
theorem ofI_back (w : BitVec 64) (o : Int) : BitVec.ofInt 64 (IntKind.i64.wrap (IntKind.i64.wrap (sv w + o) - o)) = w := by
  have e : BitVec.ofInt 64 (IntKind.i64.wrap (sv w + o)) = BitVec.ofInt 64 (sv w + o) := ofI_wr _
  rw [ofI_wr, show IntKind.i64.wrap (sv w + o) - o = IntKind.i64.wrap (sv w + o) + -o by omega, BitVec.ofInt_add, e, ← BitVec.ofInt_add, show sv w + o + -o = sv w by omega, ofInt_sv]
theorem max_n {long : Int} (h : -9223372036854775808 ≤ long) (h' : long ≤ 9223372036854775807) : ((BitVec.ofInt 64 (if long < 0 then 0 else long)).toNat : Int) = if long < 0 then 0 else long := by
  rw [BitVec.toNat_ofInt]; split <;> omega
section
variable (ha : R.inS p.n.s = true) (hb : R.inS n.s = true) (h : (add p n minus id).2 = 0)
include ha hb h
theorem add_right : right (add p n minus id).1 = true ∧ (add p n minus id).1.k = p.k ∧ (add p n minus id).1.mp = p.mp ∧ (add p n minus id).1.nu = false := by
  obtain ⟨h1, h2, h3, h4, h5⟩ := add_good h
  obtain ⟨hk, hn⟩ := pointer_iff.1 h4
  rcases h5 with ⟨_, g1, g2⟩ | ⟨_, _, k2, k3, hf, e4, e5⟩
  · obtain ⟨d1, d2, d3⟩ := further_ok g1
    rw [g2, d3]
    exact ⟨right_moved h1 h4 d2, rfl, rfl, hn⟩
  · have hr : C.right (sum p n) = true := by
      have hp : C.right p.n = true := by
        rcases hk with hk | hk | hk | hk | hk
        · exact absurd hk k2
        · exact absurd hk k3
        · have := (right_4 h1 hk).2.1; simp only [added, numbered, Bool.and_eq_true] at this; exact this.1
        · have := (right_7 h1 hk).2.1; simp only [added, numbered, Bool.and_eq_true] at this; exact this.1
        · have := (right_8 h1 hk).2.1; simp only [added, numbered, Bool.and_eq_true] at this; exact this.1
      exact A.does_right ha hb (by rw [A.does_told 0 0 true p.n n 0 0, hp, h2]; rfl)
    have hs : decide ((sum p n).s.hi ≤ BitVec.ofInt 64 1048576) = true ∧ decide (0 ≤ (sum p n).s.sl) = true := by
      simp only [far, Bool.or_eq_false_iff, decide_eq_false_iff_not] at hf
      refine ⟨decide_eq_true ?_, decide_eq_true (by omega)⟩
      have := hf.2.2.2
      exact Nat.le_of_not_lt this
    rcases hk with hk | hk | hk | hk | hk
    · exact absurd hk k2
    · exact absurd hk k3
    · rw [e4 hk]
      refine ⟨?_, rfl, rfl, hn⟩
      have R := right_4 h1 hk
      have hp : near p.of = true := R.1
      simp [right, placed, added, numbered, named, roomy, hk, hr, hs, hp, hn, R.2.2.2.2.1]
      exact ⟨of_decide_eq_true hs.1, .inl (by omega)⟩
    · rw [e5 (by omega)]
      refine ⟨?_, rfl, rfl, hn⟩
      have R := right_7 h1 hk
      have hp : near p.of = true := R.1
      have hm := R.2.2.1
      have hu := R.2.2.2.1
      simp only [nulled, hn] at hu
      simp at hu
      simp only [mapped] at hm
      simp [right, placed, added, numbered, mapped, nulled, hk, hr, hs, hp, hn, R.2.2.2.2, hu]
      simp at hm
      exact ⟨of_decide_eq_true hs.1, hm⟩
    · rw [e5 (by omega)]
      refine ⟨?_, rfl, rfl, hn⟩
      have R := right_8 h1 hk
      have hp : near p.of = true := R.1
      have hm := R.2.2.1
      have hu := R.2.2.2.1
      simp only [nulled, hn] at hu
      simp at hu
      simp only [sized] at hm
      simp [right, placed, added, numbered, sized, nulled, hk, hr, hs, hp, hn, R.2.2.2.2, hu]
      simp at hm
      exact ⟨of_decide_eq_true hs.1, hm⟩
omit h in
theorem add_ins : R.inS (add p n minus id).1.n.s = true := by
  by_cases h : (add p n minus id).2 = 0
  · obtain ⟨_, _, _, _, h5⟩ := add_good h
    rcases h5 with ⟨_, g1, g2⟩ | ⟨_, _, _, _, _, e4, e5⟩
    · rw [g2, (further_ok g1).2.2]; exact ha
    · by_cases hk : p.k = 4
      · rw [e4 hk]; exact A.does_ins ha hb
      · rw [e5 hk]; exact A.does_ins ha hb
  · rw [add_err h]; rfl
/-- The stage's law of sums. -/
theorem adds {v w : BitVec 64} {long : Int} (hl : -9223372036854775808 ≤ long) (hl' : long ≤ 9223372036854775807) (hs : stands p v long = true) (hw : C.hasb n w = true) {r : BitVec 64} (hr : r = BitVec.ofInt 64 (IntKind.i64.wrap (IntKind.i64.wrap ((if minus then IntKind.i64.wrap (0 - sv w) else sv w) + p.of) - (add p n minus id).1.of))) :
    (p.k = 2 ∨ p.k = 3 → r = BitVec.ofInt 64 0) ∧ (p.k = 4 → BitVec.ofInt 64 (if long < 0 then 0 else long) < r + v → C.hasb (add p n minus id).1.n (v + r) = true ∧ (add p n minus id).1.rm = 0) ∧ (p.k ≠ 2 → p.k ≠ 3 → ¬ (p.k = 4 ∧ BitVec.ofInt 64 (if long < 0 then 0 else long) < r + v) → stands (add p n minus id).1 (v + r) long = true) := by
  obtain ⟨h1, h2, h3, h4, h5⟩ := add_good h
  obtain ⟨hk, hn⟩ := pointer_iff.1 h4
  -- a packet's place lies within it
  have pk : p.k = 4 → C.hasb p.n v = true ∧ v.toNat ≤ 1048576 ∧ (v.toNat : Int) + p.rm ≤ long ∧ 0 ≤ p.rm ∧ p.rm ≤ 4096 := fun hk => by
    have R := right_4 h1 hk
    simp only [stands, hk] at hs
    simp only [show ((4 : Int) == 1) = false from rfl, show ((4 : Int) == 7) = false from rfl, show ((4 : Int) == 8) = false from rfl, Bool.or_false, if_false, Bool.false_eq_true, show ((4 : Int) == 4) = true from rfl, if_true, Bool.and_eq_true, decide_eq_true_eq] at hs
    have A := added_in R.2.1 hs.1
    have hrm : 0 ≤ p.rm ∧ p.rm ≤ 4096 := by simpa [roomy] using R.2.2.2.1
    have hw := hs.2
    rw [wr, small A.1, wr_id (by omega) (by omega)] at hw
    exact ⟨hs.1, A.1, hw, hrm⟩
  rcases h5 with ⟨g0, g1, g2⟩ | ⟨_, hmi, k2, k3, hf, e4, e5⟩
  · obtain ⟨d1, d2, d3⟩ := further_ok g1
    have ho := near_iff.1 (near_of h1 h4)
    have hc := near_iff.1 d1
    have ew : (C.one n).1 = w := one_in g0 hw
    rw [g2, d3] at hr ⊢
    rw [ew] at hr hc d2
    have er : r = BitVec.ofInt 64 0 := by
      rw [hr]
      simp only [moved, wr]
      congr 1
      have : IntKind.i64.wrap (p.of + (if minus then IntKind.i64.wrap (0 - sv w) else sv w)) = (if minus then IntKind.i64.wrap (0 - sv w) else sv w) + p.of := by
        rw [wr_id (n := 0 - sv w) (by omega) (by omega)]
        rw [wr_id (by split <;> omega) (by split <;> omega), Int.add_comm]
      rw [this, ← this, wr_id (n := IntKind.i64.wrap _) (C.wrap_in _).1 (C.wrap_in _).2, Int.sub_self]; rfl
    have ev : v + r = v := by rw [er]; simp
    refine ⟨fun _ => er, fun hk hlt => ?_, fun _ _ _ => ?_⟩
    · exfalso
      obtain ⟨_, q2, q3, q4, _⟩ := pk hk
      have e := max_n hl hl'
      have hlt : (BitVec.ofInt 64 (if long < 0 then 0 else long)).toNat < (r + v).toNat := hlt
      rw [er, show BitVec.ofInt 64 0 + v = v by simp] at hlt
      have hz : ¬ long < 0 := by omega
      simp only [if_neg hz] at e hlt
      omega
    · rw [ev]; exact hs
  · have er : r = w := by
      rw [hr, hmi]
      have : (add p n minus id).1.of = p.of := by
        rcases Decidable.em (p.k = 4) with hk | hk
        · rw [e4 hk]
        · rw [e5 hk]
      simp only [Bool.false_eq_true, if_false]
      rw [← hmi, this, ofI_back]
    have hp : C.hasb p.n v = true := by
      rcases hk with hk | hk | hk | hk | hk
      · exact absurd hk k2
      · exact absurd hk k3
      · exact (pk hk).1
      · simp only [stands, hk] at hs; simpa using hs
      · simp only [stands, hk] at hs; simpa using hs
    have hsum : C.hasb (sum p n) (v + w) = true := A.does_has ha hb hp hw (op := 0) (off := 0) (w := true) rfl
    rw [er]
    refine ⟨fun h => by omega, fun hk _ => ?_, fun _ _ hno => ?_⟩
    · rw [e4 hk]; exact ⟨hsum, rfl⟩
    · rcases hk with hk | hk | hk | hk | hk
      · exact absurd hk k2
      · exact absurd hk k3
      · rw [e4 hk]
        have e := max_n hl hl'
        have hno : ¬ (BitVec.ofInt 64 (if long < 0 then 0 else long)).toNat < (w + v).toNat := fun hh => hno ⟨hk, hh⟩
        obtain ⟨_, q2, q3, q4, _⟩ := pk hk
        have hbig : (sum p n).s.hi.toNat ≤ 1048576 := by
          simp only [far, Bool.or_eq_false_iff, decide_eq_false_iff_not] at hf
          exact Nat.le_of_not_lt hf.2.2.2
        have hle := le_n (hasb_in hsum).2.1
        have hsm := small (n := v + w) (by omega)
        have hcm : (w + v).toNat = (v + w).toNat := by rw [BitVec.add_comm]
        simp only [stands, hk, hsum]
        simp only [show ((4 : Int) == 1) = false from rfl, show ((4 : Int) == 7) = false from rfl, show ((4 : Int) == 8) = false from rfl, Bool.or_false, if_false, Bool.false_eq_true, show ((4 : Int) == 4) = true from rfl, if_true, Bool.true_and, decide_eq_true_eq]
        have hz : ¬ long < 0 := by omega
        simp only [if_neg hz] at e hno
        rw [wr, hsm, wr_id (by omega) (by omega)]
        omega
      · rw [e5 (by omega)]; simp only [stands, hk]; simpa using hsum
      · rw [e5 (by omega)]; simp only [stands, hk]; simpa using hsum
end
section
variable (ha : R.inS p.n.s = true) (hb : R.inS n.s = true)
theorem a_e (e0 : ((add p n minus id).2 == 0) = false) : eqa (add p n minus id).1 ⟨0, ⟨⟨BitVec.ofInt 64 0, BitVec.ofInt 64 0⟩, ⟨BitVec.ofInt 64 0, BitVec.ofInt 64 0, 0, 0⟩⟩, 0, 0, 0, 0, false⟩ = true := by
  rw [add_err (beq_eq_false_iff_ne.1 e0)]; exact eqa_self zero
variable (e0 : ((add p n minus id).2 == 0) = true)
include ha hb e0
theorem a_r : right (add p n minus id).1 = true := (add_right ha hb (beq_iff_eq.1 e0)).1
theorem a_k : ((add p n minus id).1.k == p.k) = true := beq_iff_eq.2 (add_right ha hb (beq_iff_eq.1 e0)).2.1
theorem a_m : ((add p n minus id).1.mp == p.mp) = true := beq_iff_eq.2 (add_right ha hb (beq_iff_eq.1 e0)).2.2.1
theorem a_n (e : (add p n minus id).1.nu = true) : False := by rw [(add_right ha hb (beq_iff_eq.1 e0)).2.2.2] at e; cases e
variable {v w : BitVec 64} {long : Int} (hl : R.inI long = true) (s1 : stands p v long = true) (s2 : C.hasb n w = true) {b : Int} (hby : b = (if minus then IntKind.i64.wrap (0 - sv w) else sv w))
include hl s1 s2 hby
theorem a_all : (p.k = 2 ∨ p.k = 3 → (BitVec.ofInt 64 (IntKind.i64.wrap (IntKind.i64.wrap (b + p.of) - (add p n minus id).1.of))) = BitVec.ofInt 64 0) ∧ (p.k = 4 → BitVec.ofInt 64 (if long < 0 then 0 else long) < (BitVec.ofInt 64 (IntKind.i64.wrap (IntKind.i64.wrap (b + p.of) - (add p n minus id).1.of))) + v → C.hasb (add p n minus id).1.n (v + (BitVec.ofInt 64 (IntKind.i64.wrap (IntKind.i64.wrap (b + p.of) - (add p n minus id).1.of)))) = true ∧ (add p n minus id).1.rm = 0) ∧ (p.k ≠ 2 → p.k ≠ 3 → ¬ (p.k = 4 ∧ BitVec.ofInt 64 (if long < 0 then 0 else long) < (BitVec.ofInt 64 (IntKind.i64.wrap (IntKind.i64.wrap (b + p.of) - (add p n minus id).1.of))) + v) → stands (add p n minus id).1 (v + (BitVec.ofInt 64 (IntKind.i64.wrap (IntKind.i64.wrap (b + p.of) - (add p n minus id).1.of)))) long = true) := by
  have hl2 : -9223372036854775808 ≤ long ∧ long ≤ 9223372036854775807 := by simpa [R.inI] using hl
  exact adds ha hb (beq_iff_eq.1 e0) hl2.1 hl2.2 s1 s2 (by rw [hby])
theorem a_2 (k2 : (p.k == 2) = true) : (BitVec.ofInt 64 (IntKind.i64.wrap (IntKind.i64.wrap (b + p.of) - (add p n minus id).1.of)) == BitVec.ofInt 64 0) = true :=
  beq_iff_eq.2 ((a_all ha hb e0 hl s1 s2 hby).1 (.inl (beq_iff_eq.1 k2)))
theorem a_3 (k3 : (p.k == 3) = true) : (BitVec.ofInt 64 (IntKind.i64.wrap (IntKind.i64.wrap (b + p.of) - (add p n minus id).1.of)) == BitVec.ofInt 64 0) = true :=
  beq_iff_eq.2 ((a_all ha hb e0 hl s1 s2 hby).1 (.inr (beq_iff_eq.1 k3)))
theorem a_4 (k4 : (p.k == 4) = true) (g : decide (BitVec.ofInt 64 (if long < 0 then 0 else long) < BitVec.ofInt 64 (IntKind.i64.wrap (IntKind.i64.wrap (b + p.of) - (add p n minus id).1.of)) + v) = true) : C.hasb (add p n minus id).1.n (v + BitVec.ofInt 64 (IntKind.i64.wrap (IntKind.i64.wrap (b + p.of) - (add p n minus id).1.of))) = true :=
  ((a_all ha hb e0 hl s1 s2 hby).2.1 (beq_iff_eq.1 k4) (of_decide_eq_true g)).1
theorem a_4r (k4 : (p.k == 4) = true) (g : decide (BitVec.ofInt 64 (if long < 0 then 0 else long) < BitVec.ofInt 64 (IntKind.i64.wrap (IntKind.i64.wrap (b + p.of) - (add p n minus id).1.of)) + v) = true) : ((add p n minus id).1.rm == 0) = true :=
  beq_iff_eq.2 ((a_all ha hb e0 hl s1 s2 hby).2.1 (beq_iff_eq.1 k4) (of_decide_eq_true g)).2
theorem a_5 (k2 : (p.k == 2) = false) (k3 : (p.k == 3) = false) (g : decide (BitVec.ofInt 64 (if long < 0 then 0 else long) < BitVec.ofInt 64 (IntKind.i64.wrap (IntKind.i64.wrap (b + p.of) - (add p n minus id).1.of)) + v) = false) : stands (add p n minus id).1 (v + BitVec.ofInt 64 (IntKind.i64.wrap (IntKind.i64.wrap (b + p.of) - (add p n minus id).1.of))) long = true :=
  (a_all ha hb e0 hl s1 s2 hby).2.2 (beq_eq_false_iff_ne.1 k2) (beq_eq_false_iff_ne.1 k3) fun h => of_decide_eq_false g h.2
theorem a_6 (k2 : (p.k == 2) = false) (k3 : (p.k == 3) = false) (k4 : (p.k == 4) = false) : stands (add p n minus id).1 (v + BitVec.ofInt 64 (IntKind.i64.wrap (IntKind.i64.wrap (b + p.of) - (add p n minus id).1.of))) long = true :=
  (a_all ha hb e0 hl s1 s2 hby).2.2 (beq_eq_false_iff_ne.1 k2) (beq_eq_false_iff_ne.1 k3) fun h => beq_eq_false_iff_ne.1 k4 h.1
end
end
end V
end Go.Proofs.YtddcaklgflfkeaaGreatDoor
