import Derived.Test.YtmdkihggeodjfaaXP
import Derived.Test.YtmdkihggeodjfaaXI
import Derived.Test.YtmdkihggeodjfaaSxY
import Derived.Test.YtmdkihggeodjfaaCelO
namespace Go.Proofs.Ytmdkihggeodjfaa
open Go.RowKit Go.Sx
set_option linter.unusedSimpArgs false
set_option linter.unusedVariables false
set_option linter.unnecessarySimpa false
set_option maxRecDepth 100000
set_option maxHeartbeats 4000000
end Go.Proofs.Ytmdkihggeodjfaa
namespace Go.Sx
open Go.RowKit Go.Proofs.Ytmdkihggeodjfaa
set_option linter.unusedSimpArgs false
set_option linter.unusedVariables false
set_option maxRecDepth 100000
set_option maxHeartbeats 4000000
theorem bl_lo (x : Nat) (h0 : x ≠ 0) (h : x < 2 ^ 64) : 2 ^ (Lib.bitLen x - 1) ≤ x := by
  have : ∀ (n x : Nat), x ≤ n → x ≠ 0 → x < 2 ^ 64 → 2 ^ (Lib.bitLen x - 1) ≤ x := by
    intro n
    induction n with
    | zero => intro x hx h0 _; omega
    | succ n ih =>
      intro x hx h0 hl
      rw [Lib.bitLen_half x h0 hl]
      by_cases h2 : x / 2 = 0
      · have hb : Lib.bitLen (x / 2) = 0 := by rw [h2]; rfl
        rw [hb]; simp; omega
      · have := ih (x / 2) (by omega) h2 (by omega)
        have hp := bl_spec (x / 2) (by omega)
        have hb : 1 ≤ Lib.bitLen (x / 2) := by
          rcases Nat.eq_zero_or_pos (Lib.bitLen (x / 2)) with e | e
          · rw [e] at hp; simp at hp; omega
          · exact e
        have e : 1 + Lib.bitLen (x / 2) - 1 = (Lib.bitLen (x / 2) - 1) + 1 := by omega
        first
          | rw [e, Nat.pow_succ]; omega
          | rw [show Lib.bitLen (x / 2) + 1 - 1 = (Lib.bitLen (x / 2) - 1) + 1 by omega, Nat.pow_succ]; omega
  exact this x x (Nat.le_refl _) h0 h
namespace Tr
/-- Bytes. -/
@[reducible] def Bts (l : List Int) : Prop := ∀ x, x ∈ l → 0 ≤ x ∧ x < 256
/-- The number that bytes are. -/
def val : List Int → Nat
  | [] => 0
  | x :: l => x.toNat * 256 ^ l.length + val l
theorem val_lt : ∀ (l : List Int), Bts l → val l < 256 ^ l.length
  | [], _ => by simp [val]
  | x :: l, h => by
    have := val_lt l fun y hy => h y (List.mem_cons_of_mem _ hy)
    have hx := h x (List.mem_cons_self ..)
    rw [val, List.length_cons, Nat.pow_succ]
    have : x.toNat ≤ 255 := by omega
    have := Nat.mul_le_mul_right (256 ^ l.length) this
    omega
theorem val_low (v : BitVec 64) : ∀ m, val (low v m) = v.toNat % 256 ^ m
  | 0 => by simp [low, val, Nat.mod_one]
  | m + 1 => by
    rw [low, val, low_length, val_low v m, wrap8_mod]
    unfold uv
    rw [BitVec.toNat_ushiftRight, Nat.shiftRight_eq_div_pow, Nat.pow_succ, Nat.mod_mul, show 2 ^ (8 * m) = 256 ^ m by rw [Nat.pow_mul]]
    have : ((v.toNat / 256 ^ m : Nat) : Int) % 256 = ((v.toNat / 256 ^ m % 256 : Nat) : Int) := by omega
    rw [this, Int.toNat_natCast, Nat.mul_comm]
    omega
theorem low_bts (v : BitVec 64) : ∀ m, Bts (low v m)
  | 0, x, h => by simp [low] at h
  | m + 1, x, h => by
    rw [low] at h
    rcases List.mem_cons.1 h with rfl | h
    · rw [wrap8_mod]; omega
    · exact low_bts v m x h
theorem val_inj : ∀ (l m : List Int), Bts l → Bts m → l.length = m.length → val l = val m → l = m
  | [], [], _, _, _, _ => rfl
  | x :: l, y :: m, hl, hm, hn, h => by
    have hn' : l.length = m.length := by simpa using hn
    have h1 := val_lt l fun z hz => hl z (List.mem_cons_of_mem _ hz)
    have h2 := val_lt m fun z hz => hm z (List.mem_cons_of_mem _ hz)
    rw [val, val, hn'] at h
    rw [hn'] at h1
    have hx := hl x (List.mem_cons_self ..)
    have hy := hm y (List.mem_cons_self ..)
    have e : x.toNat = y.toNat := by
      have a : (x.toNat * 256 ^ m.length + val l) / 256 ^ m.length = x.toNat := by
        rw [Nat.add_comm, Nat.add_mul_div_right _ _ (Nat.pow_pos (by omega)), Nat.div_eq_of_lt h1, Nat.zero_add]
      have b : (y.toNat * 256 ^ m.length + val m) / 256 ^ m.length = y.toNat := by
        rw [Nat.add_comm, Nat.add_mul_div_right _ _ (Nat.pow_pos (by omega)), Nat.div_eq_of_lt h2, Nat.zero_add]
      rw [← a, ← b, h]
    rw [e] at h
    have := val_inj l m (fun z hz => hl z (List.mem_cons_of_mem _ hz)) (fun z hz => hm z (List.mem_cons_of_mem _ hz)) hn' (by omega)
    rw [this, show x = y by omega]
/-- How many bytes a number has. -/
theorem many_eq {v : BitVec 64} {m : Nat} (h1 : 256 ^ m ≤ v.toNat) (h2 : v.toNat < 256 ^ (m + 1)) : many v = m + 1 := by
  have a := bl_spec v.toNat v.isLt
  have h0 : v.toNat ≠ 0 := by have := Nat.pow_pos (n := m) (show 0 < 256 by omega); omega
  have b := bl_lo v.toNat h0 v.isLt
  have e : ∀ k, (256 : Nat) ^ k = 2 ^ (8 * k) := fun k => by rw [Nat.pow_mul]
  rw [e] at h1 h2
  have c1 : 8 * m < Lib.bitLen v.toNat := (Nat.pow_lt_pow_iff_right (show 1 < 2 by omega)).1 (Nat.lt_of_le_of_lt h1 a)
  have c2 : Lib.bitLen v.toNat - 1 < 8 * (m + 1) := (Nat.pow_lt_pow_iff_right (show 1 < 2 by omega)).1 (Nat.lt_of_le_of_lt b h2)
  unfold many bl
  omega
/-- A head, read. -/
def headP : List Int → Option (Int × BitVec 64 × List Int)
  | [] => none
  | c :: r => if c % 64 < 56 then some (c / 64 + 1, BitVec.ofInt 64 (c % 64), r) else
    if (c % 64 - 55).toNat ≤ r.length ∧ 56 ≤ val (r.take (c % 64 - 55).toNat) ∧ r.headD 0 ≠ 0 then some (c / 64 + 1, BitVec.ofNat 64 (val (r.take (c % 64 - 55).toNat)), r.drop (c % 64 - 55).toNat) else none
theorem headP_head (k : Nat) (hk : k < 3) (v : BitVec 64) (r : List Int) : headP (head ((k : Int) + 1) v ++ r) = some ((k : Int) + 1, v, r) := by
  rcases head_form k hk v with ⟨h, e⟩ | ⟨h1, h8, e⟩
  · rw [e]
    show headP (((64 * k + v.toNat : Nat) : Int) :: r) = _
    rw [headP, if_pos (by omega)]
    congr 2
    · omega
    · congr 1
      rw [show ((64 * k + v.toNat : Nat) : Int) % 64 = (v.toNat : Int) by omega]
      exact BitVec.eq_of_toNat_eq (by rw [BitVec.toNat_ofInt]; have := v.isLt; omega)
  · rw [e]
    show headP (((64 * k + (55 + many v) : Nat) : Int) :: (low v (many v) ++ r)) = _
    have hlen := low_length v (many v)
    have hm : (((64 * k + (55 + many v) : Nat) : Int) % 64 - 55).toNat = many v := by omega
    have hv : val (low v (many v)) = v.toNat := by
      rw [val_low, Nat.mod_eq_of_lt]
      have := many_spec v
      rwa [Nat.pow_mul] at this
    have hbig : 56 ≤ v.toNat := by
      apply Nat.le_of_not_lt
      intro hlt
      have := head_form k hk v
      have e2 : (v < BitVec.ofInt 64 56) ↔ (v.toNat < 56) := by rw [BitVec.lt_def]; exact Iff.rfl
      have e3 : head ((k : Int) + 1) v = [top ((k : Int) + 1) (uv v)] := by unfold head; rw [decide_eq_true (e2.2 hlt), if_pos rfl]
      rw [e3] at e
      have := congrArg List.length e
      simp [hlen] at this
      omega
    have h0 : (low v (many v) ++ r).headD 0 ≠ 0 := by
      obtain ⟨q, hq⟩ : ∃ q, many v = q + 1 := ⟨many v - 1, by omega⟩
      rw [hq, low]
      show IntKind.u8.wrap (uv (v >>> (8 * q))) ≠ 0
      rw [wrap8_mod]
      unfold uv
      rw [BitVec.toNat_ushiftRight, Nat.shiftRight_eq_div_pow]
      have b := bl_lo v.toNat (by omega) v.isLt
      have a := many_spec v
      rw [hq] at a
      have hlo : 2 ^ (8 * q) ≤ v.toNat := by
        refine Nat.le_trans (Nat.pow_le_pow_right (by omega) ?_) b
        unfold many bl at hq; omega
      have h1 : v.toNat / 2 ^ (8 * q) < 256 := by
        rw [Nat.div_lt_iff_lt_mul (Nat.two_pow_pos _), show (256 : Nat) = 2 ^ 8 from rfl, ← Nat.pow_add, show 8 + 8 * q = 8 * (q + 1) by omega]; exact a
      have h2 : 0 < v.toNat / 2 ^ (8 * q) := Nat.div_pos hlo (Nat.two_pow_pos _)
      omega
    have hv' : BitVec.ofNat 64 v.toNat = v := BitVec.eq_of_toNat_eq (by rw [BitVec.toNat_ofNat]; have := v.isLt; omega)
    rw [headP, if_neg (by omega), hm, List.take_left' hlen, List.drop_left' hlen, hv, if_pos ⟨by rw [List.length_append]; omega, hbig, h0⟩, hv', show ((64 * k + (55 + many v) : Nat) : Int) / 64 + 1 = (k : Int) + 1 by omega]
/-- What a head was read of. -/
theorem headP_is {b : List Int} {k : Int} {v : BitVec 64} {r : List Int} (hb : Bts b) (h : headP b = some (k, v, r)) : ∃ j : Nat, j < 4 ∧ k = (j : Int) + 1 ∧ (j < 3 → b = head k v ++ r) ∧ r.length < b.length ∧ Bts r := by
  cases b with
  | nil => cases h
  | cons c l =>
    have hc := hb c (List.mem_cons_self ..)
    have hl : Bts l := fun x hx => hb x (List.mem_cons_of_mem _ hx)
    obtain ⟨j, hj⟩ : ∃ j : Nat, c / 64 = j := ⟨(c / 64).toNat, by omega⟩
    rw [headP] at h
    split at h
    · rename_i h56
      simp only [Option.some.injEq, Prod.mk.injEq] at h
      obtain ⟨rfl, rfl, rfl⟩ := h
      refine ⟨j, by omega, by omega, fun h3 => ?_, by simp, hl⟩
      have hn : (BitVec.ofInt 64 (c % 64)).toNat = (c % 64).toNat := by rw [BitVec.toNat_ofInt]; omega
      rw [hj]
      rcases head_form j h3 (BitVec.ofInt 64 (c % 64)) with ⟨h, e⟩ | ⟨h1, h8, e⟩
      · rw [e, hn, List.singleton_append]; congr 1; omega
      · exfalso
        have := many_spec (BitVec.ofInt 64 (c % 64))
        have e2 : (BitVec.ofInt 64 (c % 64) < BitVec.ofInt 64 56) ↔ ((BitVec.ofInt 64 (c % 64)).toNat < 56) := by rw [BitVec.lt_def]; exact Iff.rfl
        have e3 : head ((j : Int) + 1) (BitVec.ofInt 64 (c % 64)) = [top ((j : Int) + 1) (uv (BitVec.ofInt 64 (c % 64)))] := by unfold head; rw [decide_eq_true (e2.2 (by omega)), if_pos rfl]
        rw [e3] at e
        have := congrArg List.length e
        simp [low_length] at this
        omega
    · rename_i h56
      split at h
      · rename_i hh
        obtain ⟨h1, h2, h3⟩ := hh
        simp only [Option.some.injEq, Prod.mk.injEq] at h
        obtain ⟨rfl, rfl, rfl⟩ := h
        obtain ⟨m, hm⟩ : ∃ m, (c % 64 - 55).toNat = m + 1 := ⟨(c % 64 - 55).toNat - 1, by omega⟩
        rw [hm] at h1 h2 ⊢
        refine ⟨j, by omega, by omega, fun hj3 => ?_, by simp; omega, fun x hx => hl x (List.mem_of_mem_drop hx)⟩
        cases l with
        | nil => simp at h1
        | cons d l =>
          have hd := hl d (List.mem_cons_self ..)
          have hl' : Bts l := fun x hx => hl x (List.mem_cons_of_mem _ hx)
          have hd0 : d ≠ 0 := h3
          simp only [List.length_cons] at h1
          have ht : Bts (l.take m) := fun x hx => hl' x (List.mem_of_mem_take hx)
          have hlen : (l.take m).length = m := by rw [List.length_take]; omega
          have hvl := val_lt _ ht
          rw [hlen] at hvl
          have hval : val ((d :: l).take (m + 1)) = d.toNat * 256 ^ m + val (l.take m) := by rw [List.take_succ_cons, val, hlen]
          have hlt : val ((d :: l).take (m + 1)) < 256 ^ (m + 1) := by
            have := val_lt ((d :: l).take (m + 1)) fun x hx => hl x (List.mem_of_mem_take hx)
            rwa [List.length_take, List.length_cons, Nat.min_eq_left (by omega)] at this
          have hge : 256 ^ m ≤ val ((d :: l).take (m + 1)) := by
            rw [hval]
            have := Nat.mul_le_mul_right (256 ^ m) (show 1 ≤ d.toNat by omega)
            omega
          have h64 : val ((d :: l).take (m + 1)) < 2 ^ 64 := Nat.lt_of_lt_of_le hlt (by
            rw [show (256 : Nat) = 2 ^ 8 from rfl, ← Nat.pow_mul]
            exact Nat.pow_le_pow_right (by omega) (by omega))
          have hn : (BitVec.ofNat 64 (val ((d :: l).take (m + 1)))).toNat = val ((d :: l).take (m + 1)) := by rw [BitVec.toNat_ofNat]; exact Nat.mod_eq_of_lt h64
          generalize hV : BitVec.ofNat 64 (val ((d :: l).take (m + 1))) = V at hn
          rw [← hn] at hlt hge h2
          have hmany : many V = m + 1 := many_eq hge hlt
          have hlow : low V (m + 1) = (d :: l).take (m + 1) := by
            refine val_inj _ _ (low_bts V _) (fun x hx => hl x (List.mem_of_mem_take hx)) (by rw [low_length, List.length_take, List.length_cons]; omega) ?_
            rw [val_low, Nat.mod_eq_of_lt hlt, hn]
          rw [hj]
          rcases head_form j hj3 V with ⟨h, e⟩ | ⟨h1', h8, e⟩
          · omega
          · rw [e, hmany, hlow, List.cons_append, List.take_append_drop]; congr 1; omega
      · cases h
/-- A number, of its word. -/
def unzig (v : BitVec 64) : Int := if v.toNat % 2 = 0 then ((v.toNat / 2 : Nat) : Int) else -1 - ((v.toNat / 2 : Nat) : Int)
theorem unzig_zig {n : Int} (h0 : -9223372036854775808 ≤ n) (h1 : n ≤ 9223372036854775807) : unzig (zig n) = n := by
  by_cases hc : 0 ≤ n
  · obtain ⟨m, rfl⟩ := Int.eq_ofNat_of_zero_le hc
    rw [zig_pos m (by omega)]
    unfold unzig
    rw [show (BitVec.ofNat 64 (2 * m)).toNat = 2 * m by rw [BitVec.toNat_ofNat]; omega, if_pos (by omega)]; omega
  · obtain ⟨m, hm⟩ := Int.eq_ofNat_of_zero_le (show 0 ≤ -1 - n by omega)
    obtain rfl : n = -1 - (m : Int) := by omega
    rw [zig_neg m (by omega)]
    unfold unzig
    rw [show (BitVec.ofNat 64 (2 * m + 1)).toNat = 2 * m + 1 by rw [BitVec.toNat_ofNat]; omega, if_neg (by omega)]; omega
theorem zig_unzig (v : BitVec 64) : zig (unzig v) = v ∧ -9223372036854775808 ≤ unzig v ∧ unzig v ≤ 9223372036854775807 := by
  have hv := v.isLt
  unfold unzig
  split
  · rw [zig_pos _ (by omega)]
    exact ⟨BitVec.eq_of_toNat_eq (by rw [BitVec.toNat_ofNat]; omega), by omega, by omega⟩
  · rw [zig_neg _ (by omega)]
    exact ⟨BitVec.eq_of_toNat_eq (by rw [BitVec.toNat_ofNat]; omega), by omega, by omega⟩
/-- So many kids, one behind the other. -/
def kidsP (p : List Int → Option (Tr × List Int)) : Nat → List Int → Option (List Tr × List Int)
  | 0, b => some ([], b)
  | n + 1, b => match p b with
    | none => none
    | some (t, r) => match kidsP p n r with
      | none => none
      | some (l, r') => some (t :: l, r')
/-- A tree behind its head. -/
def bodyP (kid : Option (List Int → Option (Tr × List Int))) : Option (Int × BitVec 64 × List Int) → Option (Tr × List Int)
  | none => none
  | some (k, v, r) => if k = 1 then some (mk 1 (unzig v) [] [], r) else if k = 2 then (if v.toNat ≤ r.length then some (mk 2 0 (r.take v.toNat) [], r.drop v.toNat) else none)
    else if k = 3 then match kid with
      | none => none
      | some p => match kidsP p v.toNat r with
        | none => none
        | some (l, r') => some (mk 3 0 [] l, r')
    else none
/-- A TREE, READ. -/
def parse : Nat → List Int → Option (Tr × List Int)
  | 0, b => bodyP none (headP b)
  | d + 1, b => bodyP (some (parse d)) (headP b)
/-- What was read: put again it is the bytes. -/
@[reducible] def Sound (d : Nat) (t : Tr) (b r : List Int) : Prop := t.put ++ r = b ∧ t.right = true ∧ t.within d = true ∧ t.fit = true ∧ Bts r ∧ r.length < b.length
theorem kidsP_sound {d : Nat} {p : List Int → Option (Tr × List Int)} (hp : ∀ b t r, Bts b → p b = some (t, r) → Sound d t b r) : ∀ (n : Nat) (b : List Int) (l : List Tr) (r : List Int), Bts b → kidsP p n b = some (l, r) → l.length = n ∧ putL l ++ r = b ∧ rightL l = true ∧ withinL l d = true ∧ fitL l = true ∧ Bts r ∧ r.length ≤ b.length
  | 0, b, l, r, hb, h => by
    simp only [kidsP, Option.some.injEq, Prod.mk.injEq] at h
    obtain ⟨rfl, rfl⟩ := h
    exact ⟨rfl, by simp [putL], by simp [rightL], by simp [withinL], by simp [fitL], hb, Nat.le_refl _⟩
  | n + 1, b, l, r, hb, h => by
    rw [kidsP] at h
    split at h
    · cases h
    · rename_i t r1 h1
      obtain ⟨a1, a2, a3, a4, a5, a6⟩ := hp b t r1 hb h1
      split at h
      · cases h
      · rename_i l' r' h2
        obtain ⟨b1, b2, b3, b4, b5, b6, b7⟩ := kidsP_sound hp n r1 l' r' a5 h2
        simp only [Option.some.injEq, Prod.mk.injEq] at h
        obtain ⟨rfl, rfl⟩ := h
        exact ⟨by simp [b1], by rw [putL, List.append_assoc, b2, a1], by rw [rightL, a2, b3]; rfl, by rw [withinL, a3, b4]; rfl, by rw [fitL, a4, b5]; rfl, b6, by omega⟩
theorem bodyP_sound {d : Nat} {kid : Option (List Int → Option (Tr × List Int))} (hk : ∀ p, kid = some p → ∃ d', d = d' + 1 ∧ d' < 1000 ∧ ∀ b t r, Bts b → p b = some (t, r) → Sound d' t b r) {b : List Int} {t : Tr} {r : List Int} (hb : Bts b) (h : bodyP kid (headP b) = some (t, r)) : Sound d t b r := by
  cases hh : headP b with
  | none => rw [hh] at h; cases h
  | some q =>
    obtain ⟨k, v, r1⟩ := q
    rw [hh] at h
    obtain ⟨j, hj, rfl, hbe, hlt, hr1⟩ := headP_is hb hh
    rw [bodyP.eq_def] at h
    simp only at h
    split at h
    · rename_i h1
      obtain rfl : j = 0 := by omega
      simp only [Option.some.injEq, Prod.mk.injEq] at h
      obtain ⟨rfl, rfl⟩ := h
      obtain ⟨z1, z2, z3⟩ := zig_unzig v
      refine ⟨?_, by simp [right, rightL], by simp [within], by simp [fit, fitL, z2, z3], hr1, hlt⟩
      rw [put1 rfl]
      show head ((0 : Nat) + 1) (zig (unzig v)) ++ r1 = b
      rw [z1]; exact (hbe (by omega)).symm
    · split at h
      · rename_i h1 h2
        obtain rfl : j = 1 := by omega
        split at h
        · rename_i hlen
          simp only [Option.some.injEq, Prod.mk.injEq] at h
          obtain ⟨rfl, rfl⟩ := h
          refine ⟨?_, by simp [right, rightL], by simp [within], by simp [fit, fitL], fun x hx => hr1 x (List.mem_of_mem_drop hx), by rw [List.length_drop]; omega⟩
          rw [put2 rfl]
          show head ((1 : Nat) + 1) (BitVec.ofInt 64 ((r1.take v.toNat).length : Int)) ++ r1.take v.toNat ++ r1.drop v.toNat = b
          rw [List.append_assoc, List.take_append_drop, List.length_take, Nat.min_eq_left hlen]
          rw [show BitVec.ofInt 64 (v.toNat : Int) = v from BitVec.eq_of_toNat_eq (by rw [BitVec.toNat_ofInt]; have := v.isLt; omega)]
          exact (hbe (by omega)).symm
        · cases h
      · split at h
        · rename_i h1 h2 h3
          obtain rfl : j = 2 := by omega
          cases kid with
          | none => cases h
          | some p =>
            obtain ⟨d', rfl, hd', hp⟩ := hk p rfl
            simp only at h
            split at h
            · cases h
            · rename_i l r' hkid
              obtain ⟨b1, b2, b3, b4, b5, b6, b7⟩ := kidsP_sound hp _ _ _ _ hr1 hkid
              simp only [Option.some.injEq, Prod.mk.injEq] at h
              obtain ⟨rfl, rfl⟩ := h
              refine ⟨?_, by simp [right, b3], ?_, by simp [fit, b5], b6, by omega⟩
              · rw [put3 rfl]
                show head ((2 : Nat) + 1) (BitVec.ofInt 64 (l.length : Int)) ++ putL l ++ r' = b
                rw [List.append_assoc, b2, b1]
                rw [show BitVec.ofInt 64 (v.toNat : Int) = v from BitVec.eq_of_toNat_eq (by rw [BitVec.toNat_ofInt]; have := v.isLt; omega)]
                exact (hbe (by omega)).symm
              · rw [within]
                have : IntKind.i64.wrap (((d' + 1 : Nat) : Int) - 1) = (d' : Int) := by rw [IntWalk.i64_in _ (by omega)]; omega
                rw [this, b4]
                simp
        · cases h
theorem parse_sound : ∀ (d : Nat), d ≤ 1000 → ∀ (b : List Int) (t : Tr) (r : List Int), Bts b → parse d b = some (t, r) → Sound d t b r
  | 0, _, b, t, r, hb, h => bodyP_sound (d := 0) (kid := none) (fun p e => by cases e) hb h
  | d + 1, hd, b, t, r, hb, h => bodyP_sound (d := d + 1) (kid := some (parse d)) (fun p e => by obtain rfl := Option.some.inj e; exact ⟨d, rfl, by omega, fun b t r => parse_sound d (by omega) b t r⟩) hb h
theorem kidsP_put {p : List Int → Option (Tr × List Int)} : ∀ (l : List Tr) (r : List Int), (∀ t, t ∈ l → ∀ r, p (t.put ++ r) = some (t, r)) → kidsP p l.length (putL l ++ r) = some (l, r)
  | [], r, _ => by simp [kidsP, putL]
  | t :: l, r, h => by
    rw [List.length_cons, kidsP, putL, List.append_assoc, h t (List.mem_cons_self ..)]
    simp only [kidsP_put l r fun t' h' => h t' (List.mem_cons_of_mem _ h')]
/-- What was put is read. -/
theorem parse_put : ∀ (d : Nat), d ≤ 1000 → ∀ (t : Tr) (r : List Int), t.right = true → t.within d = true → t.fit = true → t.put.length < 4611686018427387904 → parse d (t.put ++ r) = some (t, r) := by
  intro d
  induction d with
  | zero =>
    intro _ t r hr hw hf hn
    rw [fit_eq] at hf
    simp only [Bool.and_eq_true, decide_eq_true_eq] at hf
    rcases right_cases hr with ⟨a1, a2, a3⟩ | ⟨a1, a2, a3⟩ | ⟨a1, a2, a3, a4⟩
    · rw [put1 a1, parse, headP_head 0 (by omega)]
      simp only [bodyP]
      rw [if_pos (by omega), unzig_zig hf.1.1 hf.1.2]
      exact congrArg (fun q => some (q, r)) (by rw [t.eta, a1, a2, a3]; rfl)
    · rw [put2 a1, List.length_append] at hn
      rw [put2 a1, List.append_assoc, parse, headP_head 1 (by omega)]
      have e : (BitVec.ofInt 64 (t.bs.length : Int)).toNat = t.bs.length := by rw [BitVec.toNat_ofInt]; omega
      simp only [bodyP]
      rw [if_neg (by omega), if_pos (by omega), e, if_pos (by rw [List.length_append]; omega), List.take_left' rfl, List.drop_left' rfl]
      exact congrArg (fun q => some (q, r)) (by rw [t.eta, a1, a2, a3]; rfl)
    · exfalso
      rw [within_eq, a1] at hw
      simp at hw
  | succ d ih =>
    intro hd t r hr hw hf hn
    rw [fit_eq] at hf
    simp only [Bool.and_eq_true, decide_eq_true_eq] at hf
    rcases right_cases hr with ⟨a1, a2, a3⟩ | ⟨a1, a2, a3⟩ | ⟨a1, a2, a3, a4⟩
    · rw [put1 a1, parse, headP_head 0 (by omega)]
      simp only [bodyP]
      rw [if_pos (by omega), unzig_zig hf.1.1 hf.1.2]
      exact congrArg (fun q => some (q, r)) (by rw [t.eta, a1, a2, a3]; rfl)
    · rw [put2 a1, List.length_append] at hn
      rw [put2 a1, List.append_assoc, parse, headP_head 1 (by omega)]
      have e : (BitVec.ofInt 64 (t.bs.length : Int)).toNat = t.bs.length := by rw [BitVec.toNat_ofInt]; omega
      simp only [bodyP]
      rw [if_neg (by omega), if_pos (by omega), e, if_pos (by rw [List.length_append]; omega), List.take_left' rfl, List.drop_left' rfl]
      exact congrArg (fun q => some (q, r)) (by rw [t.eta, a1, a2, a3]; rfl)
    · rw [put3 a1, List.length_append] at hn
      have hl := putL_len t.kids
      rw [put3 a1, List.append_assoc, parse, headP_head 2 (by omega)]
      have e : (BitVec.ofInt 64 (t.kids.length : Int)).toNat = t.kids.length := by rw [BitVec.toNat_ofInt]; omega
      have hwd : withinL t.kids (d : Int) = true := by
        rw [within_eq, a1] at hw
        have : IntKind.i64.wrap (((d + 1 : Nat) : Int) - 1) = (d : Int) := by rw [IntWalk.i64_in _ (by omega)]; omega
        rw [this] at hw
        simp only [Bool.or_eq_true, Bool.and_eq_true] at hw
        rcases hw with hw | hw
        · exact absurd hw (by decide)
        · exact hw.2
      simp only [bodyP]
      rw [if_neg (by omega), if_neg (by omega), if_pos (by omega), e, kidsP_put t.kids r fun t' h' r' => by
        rw [rightL_all, List.all_eq_true] at a4
        rw [withinL_all, List.all_eq_true] at hwd
        have f2 := hf.2
        rw [fitL_all, List.all_eq_true] at f2
        exact ih (by omega) t' r' (a4 t' h') (hwd t' h') (f2 t' h') (by have := put_le_putL h'; omega)]
      exact congrArg (fun q => some (q, r)) (by rw [t.eta, a1, a2, a3]; rfl)
end Tr
/-- Are they bytes? -/
def btsB (l : List Int) : Bool := l.all fun x => decide (0 ≤ x) && decide (x < 256)
theorem btsB_iff {l : List Int} : btsB l = true ↔ Tr.Bts l := by
  unfold btsB Tr.Bts
  simp only [List.all_eq_true, Bool.and_eq_true, decide_eq_true_eq]
/-- That bytes are no tree's. -/
def errV : Value := .iface 29 (.int .i64 4)
/-- A reader that has read: what is left is r. -/
def RdEnd (ty : TypeId) (L r : List Int) (d : Int) (tp : Bool) (as0 : List AV) (x : SV) (M1 : List Blk) : Prop :=
  ∃ e o2, nth M1 0 = some (.cells ty [.sl e 1 o2 r.length, .int .i64 d]) ∧ ((e = 1 ∧ o2 + r.length = L.length) ∨ r.length = 0) ∧ TellsC tp as0 x M1
/-- What a head comes to. -/
@[irreducible] def RH (o : Option (Int × BitVec 64 × List Int)) (f : Int → BitVec 64 → List Int → Prop) (g : Prop) : Prop := (∀ k v r, o = some (k, v, r) → f k v r) ∧ (o = none → g)
theorem RH_in {o : Option (Int × BitVec 64 × List Int)} {f : Int → BitVec 64 → List Int → Prop} {g : Prop} (h1 : ∀ k v r, o = some (k, v, r) → f k v r) (h2 : o = none → g) : RH o f g := by unfold RH; exact ⟨h1, h2⟩
theorem RH_is {o : Option (Int × BitVec 64 × List Int)} {f : Int → BitVec 64 → List Int → Prop} {g : Prop} (h : RH o f g) : (∀ k v r, o = some (k, v, r) → f k v r) ∧ (o = none → g) := by unfold RH at h; exact h
/-- What a tree comes to. -/
@[irreducible] def RTr (o : Option (Tr × List Int)) (f : Tr → List Int → Prop) (g : Prop) : Prop := (∀ t r, o = some (t, r) → f t r) ∧ (o = none → g)
theorem RTr_in {o : Option (Tr × List Int)} {f : Tr → List Int → Prop} {g : Prop} (h1 : ∀ t r, o = some (t, r) → f t r) (h2 : o = none → g) : RTr o f g := by unfold RTr; exact ⟨h1, h2⟩
theorem RTr_is {o : Option (Tr × List Int)} {f : Tr → List Int → Prop} {g : Prop} (h : RTr o f g) : (∀ t r, o = some (t, r) → f t r) ∧ (o = none → g) := by unfold RTr at h; exact h
/-! ### Bytes, read -/
theorem byte_facts {c : Int} (h0 : 0 ≤ c) (h1 : c < 256) : Go.bits .and .u8 c 63 = c % 64 ∧ IntKind.u8.wrap (c.fdiv (2 ^ min (BitVec.ofInt 64 6).toNat IntKind.u8.bits) + 1) = c / 64 + 1 := by
  have key : ∀ n : Fin 256, Go.bits .and .u8 ((n.1 : Nat) : Int) 63 = ((n.1 : Nat) : Int) % 64 ∧ IntKind.u8.wrap (((n.1 : Nat) : Int).fdiv (2 ^ min (BitVec.ofInt 64 6).toNat IntKind.u8.bits) + 1) = ((n.1 : Nat) : Int) / 64 + 1 := by decide +kernel
  have := key ⟨c.toNat, by omega⟩
  rwa [show ((c.toNat : Nat) : Int) = c by omega] at this
theorem le_u64 (a : BitVec 64) {n : Nat} (h : n < 18446744073709551616) : decide (a ≤ BitVec.ofInt 64 (n : Int)) = decide (a.toNat ≤ n) := by
  have e : (BitVec.ofInt 64 (n : Int)).toNat = n := by rw [BitVec.toNat_ofInt]; omega
  exact decide_eq_decide.2 (by rw [BitVec.le_def, e])
theorem lt56 (a : BitVec 64) : decide (a < BitVec.ofInt 64 56) = decide (a.toNat < 56) := by
  exact decide_eq_decide.2 (by rw [BitVec.lt_def]; exact Iff.rfl)
theorem ge56 (a : BitVec 64) : decide (BitVec.ofInt 64 56 ≤ a) = decide (56 ≤ a.toNat) := by
  exact decide_eq_decide.2 (by rw [BitVec.le_def]; exact Iff.rfl)
theorem u_small {x : Int} (h0 : 0 ≤ x) (h1 : x < 256) : (BitVec.ofInt 64 x).toNat = x.toNat := by rw [BitVec.toNat_ofInt]; omega
theorem many_of {x : Int} (h0 : 56 ≤ x) (h1 : x < 64) : (BitVec.ofInt 64 x - BitVec.ofInt 64 56 + BitVec.ofInt 64 1).toNat = (x - 55).toNat := by
  have key : ∀ n : Fin 8, (BitVec.ofInt 64 (((n.1 + 56 : Nat)) : Int) - BitVec.ofInt 64 56 + BitVec.ofInt 64 1).toNat = (((n.1 + 56 : Nat) : Int) - 55).toNat := by decide +kernel
  have := key ⟨(x - 56).toNat, by omega⟩
  rwa [show (((x - 56).toNat + 56 : Nat) : Int) = x by omega] at this
theorem val_snoc : ∀ (l : List Int) (x : Int), Tr.val (l ++ [x]) = Tr.val l * 256 + x.toNat
  | [], x => by simp [Tr.val]
  | y :: l, x => by
    rw [List.cons_append, Tr.val, Tr.val, val_snoc l x, List.length_append, List.length_singleton, Nat.pow_succ, ← Nat.mul_assoc, Nat.add_mul]
    omega
theorem shl_or (a : Nat) {x : Int} (h0 : 0 ≤ x) (h1 : x < 256) : (BitVec.ofNat 64 a <<< (BitVec.ofInt 64 8).toNat) ||| BitVec.ofInt 64 x = BitVec.ofNat 64 (a * 256 + x.toNat) := by
  have e8 : (BitVec.ofInt 64 8).toNat = 8 := by decide
  have hx : (BitVec.ofInt 64 x).toNat = x.toNat := u_small h0 h1
  have hand : (BitVec.ofNat 64 a <<< 8) &&& BitVec.ofInt 64 x = 0#64 := by
    apply BitVec.eq_of_getLsbD_eq
    intro i hi
    rw [BitVec.getLsbD_and, BitVec.getLsbD_shiftLeft]
    rcases Nat.lt_or_ge i 8 with h | h
    · simp [h]
    · have : (BitVec.ofInt 64 x).getLsbD i = false := by
        rw [← BitVec.testBit_toNat, hx]
        exact Nat.testBit_lt_two_pow (Nat.lt_of_lt_of_le (show x.toNat < 2 ^ 8 by omega) (Nat.pow_le_pow_right (by omega) h))
      rw [this]; simp
  rw [e8, ← BitVec.add_eq_or_of_and_eq_zero _ _ hand]
  apply BitVec.eq_of_toNat_eq
  rw [BitVec.toNat_add, BitVec.toNat_shiftLeft, hx, BitVec.toNat_ofNat, BitVec.toNat_ofNat, Nat.shiftLeft_eq]
  omega
theorem bts_cons {c : Int} {R : List Int} (h : btsB (c :: R) = true) : 0 ≤ c ∧ c < 256 ∧ btsB R = true := by
  unfold btsB at *
  simp only [List.all_cons, Bool.and_eq_true, decide_eq_true_eq] at h
  exact ⟨h.1.1, h.1.2, h.2⟩
theorem bts_get {R : List Int} (h : btsB R = true) {j : Nat} (hj : j < R.length) {d : Int} : 0 ≤ R.getD j d ∧ R.getD j d < 256 := by
  rw [btsB_iff] at h
  rw [List.getD_eq_getElem?_getD, List.getElem?_eq_getElem hj]
  exact h _ (List.getElem_mem hj)
theorem val_next {R : List Int} {j : Nat} (hj : j < R.length) {d : Int} : Tr.val (R.take (j + 1)) = Tr.val (R.take j) * 256 + (R.getD j d).toNat := by
  rw [List.take_succ_eq_append_getElem hj, val_snoc, List.getD_eq_getElem?_getD, List.getElem?_eq_getElem hj]; rfl
theorem gOf_drop (L : List Int) (o i : Nat) : gOf eB (L.drop o) i = gOf eB L (o + i) := by
  show eB.enc ((L.drop o).getD i eB.dft) = eB.enc (L.getD (o + i) eB.dft)
  rw [List.getD_eq_getElem?_getD, List.getD_eq_getElem?_getD, List.getElem?_drop]
/-- What is left is the end. -/
theorem headP_drop {L : List Int} {k : Int} {v : BitVec 64} {r : List Int} (h : Tr.headP L = some (k, v, r)) : r = L.drop (L.length - r.length) ∧ r.length < L.length := by
  cases L with
  | nil => cases h
  | cons c R =>
    rw [Tr.headP] at h
    split at h
    · simp only [Option.some.injEq, Prod.mk.injEq] at h
      obtain ⟨_, _, rfl⟩ := h
      rw [List.length_cons, Nat.add_sub_cancel_left]; exact ⟨rfl, Nat.lt_succ_self _⟩
    · split at h
      · rename_i hq
        simp only [Option.some.injEq, Prod.mk.injEq] at h
        obtain ⟨_, _, rfl⟩ := h
        rw [List.length_cons, List.length_drop, show R.length + 1 - (R.length - (c % 64 - 55).toNat) = (c % 64 - 55).toNat + 1 by omega, List.drop_succ_cons]
        exact ⟨rfl, by omega⟩
      · cases h
theorem parse_drop {d : Nat} (hd : d ≤ 1000) {L : List Int} (hB : btsB L = true) {t : Tr} {r : List Int} (h : Tr.parse d L = some (t, r)) : r = L.drop (L.length - r.length) ∧ r.length < L.length := by
  obtain ⟨h1, _, _, _, _, h2⟩ := Tr.parse_sound d hd L t r (btsB_iff.1 hB) h
  refine ⟨?_, h2⟩
  have hl := congrArg List.length h1
  rw [List.length_append] at hl
  rw [show L.length - r.length = t.put.length by omega, ← h1, List.drop_left]
theorem bts_drop {L : List Int} (h : btsB L = true) (n : Nat) : btsB (L.drop n) = true := by
  rw [btsB_iff] at *
  exact fun x hx => h x (List.mem_of_mem_drop hx)
theorem elts_from {L : List Int} {off len : Nat} (h : off + len = L.length) : elts eB off len (gOf eB L) = L.drop off := by
  rw [elts_gOf eB (by omega), List.take_of_length_le (by rw [List.length_drop]; omega)]
/-- A tree's cells, as a reader tells them: one level open. -/
@[reducible] def celG (t : Tr) : List FV := [.int .u8 t.k, .int .i64 t.n, .row 1 t.bs.length (gOf eB t.bs), .row 4 t.kids.length (gK t.kids)]
theorem fvl_cons {x y : FV} {l m : List FV} (h : FVEq x y) (k : FVEqL l m) : FVEqL (x :: l) (y :: m) := by
  refine ⟨by simp [k.1], fun j a b ha hb => ?_⟩
  cases j with
  | zero => simp at ha hb; subst ha hb; exact h
  | succ j => exact k.2 j a b (by simpa using ha) (by simpa using hb)
theorem rd_end {ty : TypeId} {L r : List Int} {d d' : Int} {tp : Bool} {as0 : List AV} {x : SV} {M1 : List Blk} {e o2 l2 : Nat} (h0 : nth M1 0 = some (.cells ty [.sl e 1 o2 l2, .int .i64 d'])) (hl : l2 = r.length) (hd : d' = d) (h1 : (e = 1 ∧ o2 + l2 = L.length) ∨ l2 = 0) (hT : TellsC tp as0 x M1) : RdEnd ty L r d tp as0 x M1 := by
  subst hl hd
  exact ⟨e, o2, h0, h1, hT⟩
theorem tells_T {t : Tr} {x : SV} {M1 : List Blk} {b : Bool} {fs : List FV} (h : topA eltZ M1 [x] = some (b, [.agg fs])) (hb : b = true) (he : FVEqL fs (celG t)) : TellsC false [.agg (celG t)] x M1 := by
  unfold TellsC
  exact ⟨[x], b, _, rfl, .inr rfl, h, hb, he, trivial⟩
theorem row_bytes {n sz : Nat} {g : Nat → List FV} {l : List Int} (hs : sz = 1) (hn : n = l.length) (hg : ∀ i, i < n → g i = gOf eB l i) : FVEq (.row sz n g) (.row 1 l.length (gOf eB l)) := by
  subst hs hn
  exact FVEq.of_rows hg
theorem gOf_take {l : List Int} {n i : Nat} (h : i < n) : gOf eB (l.take n) i = gOf eB l i := by
  show eB.enc ((l.take n).getD i eB.dft) = eB.enc (l.getD i eB.dft)
  rw [List.getD_eq_getElem?_getD, List.getD_eq_getElem?_getD, List.getElem?_take, if_pos h]
theorem xor_i64 (x y : Int) : Go.bits .xor .i64 x y = IntKind.i64.wrap ((BitVec.ofInt 64 x ^^^ BitVec.ofInt 64 y).toNat : Int) := rfl
theorem wrap_hi {n : Int} (h0 : 9223372036854775808 ≤ n) (h1 : n < 18446744073709551616) : IntKind.i64.wrap n = n - 18446744073709551616 := by
  unfold IntKind.wrap
  simp [IntKind.bits, IntKind.signed]
  omega
theorem and_one (v : BitVec 64) : v &&& BitVec.ofInt 64 1 = if v.toNat % 2 = 0 then 0#64 else 1#64 := by
  apply BitVec.eq_of_toNat_eq
  rw [BitVec.toNat_and, show (BitVec.ofInt 64 1).toNat = 1 by decide, Nat.and_one_is_mod]
  split
  · rename_i h; rw [h]; rfl
  · rename_i h; rw [show v.toNat % 2 = 1 by omega]; rfl
theorem shr_one (v : BitVec 64) : sv (v >>> (BitVec.ofInt 64 1).toNat) = ((v.toNat / 2 : Nat) : Int) := by
  have h : (v >>> (BitVec.ofInt 64 1).toNat).toNat = v.toNat / 2 := by
    rw [BitVec.toNat_ushiftRight, show (BitVec.ofInt 64 1).toNat = 1 by decide, Nat.shiftRight_eq_div_pow]
  have hv := v.isLt
  unfold sv
  rw [BitVec.toInt_eq_toNat_of_lt (by rw [h]; omega), h]
theorem sv_xor (v : BitVec 64) : Go.bits .xor .i64 (sv (v >>> (BitVec.ofInt 64 1).toNat)) (IntKind.i64.wrap (0 - sv (v &&& BitVec.ofInt 64 1))) = Tr.unzig v := by
  have hv := v.isLt
  rw [and_one, shr_one, xor_i64]
  unfold Tr.unzig
  split
  · rw [show IntKind.i64.wrap (0 - sv (0#64)) = 0 by decide, show BitVec.ofInt 64 0 = 0#64 from rfl, BitVec.xor_zero, BitVec.toNat_ofInt]
    rw [show (((v.toNat / 2 : Nat) : Int) % ((2 ^ 64 : Nat) : Int)).toNat = v.toNat / 2 by omega]
    exact IntWalk.i64_in _ (by omega)
  · rw [show IntKind.i64.wrap (0 - sv (1#64)) = -1 by decide, show BitVec.ofInt 64 (-1) = BitVec.allOnes 64 from rfl, BitVec.xor_allOnes, BitVec.toNat_not, BitVec.toNat_ofInt]
    rw [show (((v.toNat / 2 : Nat) : Int) % ((2 ^ 64 : Nat) : Int)).toNat = v.toNat / 2 by omega, wrap_hi (by omega) (by omega)]
    omega
/-- A tree behind a head of each kind. -/
theorem parse_head {d : Nat} {L : List Int} {kd : Int} {v : BitVec 64} {r : List Int} (h : Tr.headP L = some (kd, v, r)) : Tr.parse (d + 1) L = Tr.bodyP (some (Tr.parse d)) (some (kd, v, r)) := by
  rw [Tr.parse, h]
theorem parse_1 {d : Nat} {L : List Int} {kd : Int} {v : BitVec 64} {r : List Int} (h : Tr.headP L = some (kd, v, r)) (h1 : (kd == 1) = true) : Tr.parse (d + 1) L = some (.mk 1 (Tr.unzig v) [] [], r) := by
  rw [parse_head h]; simp only [Tr.bodyP]; rw [if_pos (by simpa using h1)]
theorem parse_2 {d : Nat} {L : List Int} {kd : Int} {v : BitVec 64} {r : List Int} (h : Tr.headP L = some (kd, v, r)) (h2 : (kd == 2) = true) : Tr.parse (d + 1) L = if v.toNat ≤ r.length then some (.mk 2 0 (r.take v.toNat) [], r.drop v.toNat) else none := by
  have e : kd = 2 := by simpa using h2
  subst e
  rw [parse_head h, Tr.bodyP.eq_def]; simp only; rw [if_neg (by omega), if_pos trivial]
theorem parse_3 {d : Nat} {L : List Int} {kd : Int} {v : BitVec 64} {r : List Int} (h : Tr.headP L = some (kd, v, r)) (h3 : (kd == 3) = true) : Tr.parse (d + 1) L = (match Tr.kidsP (Tr.parse d) v.toNat r with
    | none => none
    | some (l, r') => some (.mk 3 0 [] l, r')) := by
  have e : kd = 3 := by simpa using h3
  subst e
  rw [parse_head h, Tr.bodyP.eq_def]; simp only; rw [if_neg (by omega), if_neg (by omega), if_pos trivial]
theorem parse_4 {d : Nat} {L : List Int} {kd : Int} {v : BitVec 64} {r : List Int} (h : Tr.headP L = some (kd, v, r)) (h1 : (kd == 1) = false) (h2 : (kd == 2) = false) (h3 : (kd == 3) = false) : Tr.parse (d + 1) L = none := by
  rw [parse_head h]; simp only [Tr.bodyP]; rw [if_neg (by simpa using h1), if_neg (by simpa using h2), if_neg (by simpa using h3)]
theorem parse_5 {d : Nat} {L : List Int} (h : Tr.headP L = none) : Tr.parse (d + 1) L = none := by
  rw [Tr.parse, h, Tr.bodyP]
def rfOf : Code → Option (Array Nat × Code × Code)
  | .rangeFunc _ ps a b => some (ps, a, b)
  | .seq a b => match rfOf a with
    | some r => some r
    | none => rfOf b
  | .cond _ a b => match rfOf a with
    | some r => some r
    | none => rfOf b
  | .block _ c => rfOf c
  | .loop c => rfOf c
  | _ => none
/-- The block of a range over a function, while it is gone through. -/
def lpOf (T : Tbl) (c : Code) (fr : List SV) : Blk := match rfOf c with
  | some (ps, a, b) => .lp T fr ps a b .ready
  | none => .dead
theorem RTr_no {o : Option (Tr × List Int)} {f : Tr → List Int → Prop} {g : Prop} (h : o = none) (hg : g) : RTr o f g := RTr_in (fun t r h' => by rw [h] at h'; cases h') fun _ => hg
theorem parse_nil (d : Nat) : Tr.parse d [] = none := by cases d <;> rfl
theorem kids_snoc {p : List Int → Option (Tr × List Int)} : ∀ (j : Nat) (b : List Int) (l : List Tr) (q : List Int) (t : Tr) (q' : List Int), Tr.kidsP p j b = some (l, q) → p q = some (t, q') → Tr.kidsP p (j + 1) b = some (l ++ [t], q')
  | 0, b, l, q, t, q', h, ht => by
    simp only [Tr.kidsP, Option.some.injEq, Prod.mk.injEq] at h
    obtain ⟨rfl, rfl⟩ := h
    simp only [Tr.kidsP, ht, List.nil_append]
  | j + 1, b, l, q, t, q', h, ht => by
    rw [Tr.kidsP] at h
    rw [Tr.kidsP]
    cases hp : p b with
    | none => rw [hp] at h; cases h
    | some a =>
      obtain ⟨u, r⟩ := a
      rw [hp] at h
      simp only at h ⊢
      cases hk : Tr.kidsP p j r with
      | none => rw [hk] at h; cases h
      | some a =>
        obtain ⟨l', r'⟩ := a
        rw [hk] at h
        simp only [Option.some.injEq, Prod.mk.injEq] at h
        obtain ⟨rfl, rfl⟩ := h
        rw [kids_snoc j r l' r' t q' hk ht]; rfl
theorem kids_none {p : List Int → Option (Tr × List Int)} : ∀ (j n : Nat) (b : List Int) (l : List Tr) (q : List Int), Tr.kidsP p j b = some (l, q) → p q = none → j < n → Tr.kidsP p n b = none
  | 0, n + 1, b, l, q, h, hn, _ => by
    simp only [Tr.kidsP, Option.some.injEq, Prod.mk.injEq] at h
    obtain ⟨rfl, rfl⟩ := h
    simp only [Tr.kidsP, hn]
  | j + 1, n + 1, b, l, q, h, hn, hj => by
    rw [Tr.kidsP] at h
    rw [Tr.kidsP]
    cases hp : p b with
    | none => rfl
    | some a =>
      obtain ⟨u, r⟩ := a
      rw [hp] at h
      simp only at h ⊢
      cases hk : Tr.kidsP p j r with
      | none => rw [hk] at h; cases h
      | some a =>
        obtain ⟨l', r'⟩ := a
        rw [hk] at h
        simp only [Option.some.injEq, Prod.mk.injEq] at h
        obtain ⟨rfl, rfl⟩ := h
        rw [kids_none j n r l' r' hk hn (by omega)]
theorem kids_len {p : List Int → Option (Tr × List Int)} : ∀ (j : Nat) (b : List Int) (l : List Tr) (q : List Int), Tr.kidsP p j b = some (l, q) → l.length = j
  | 0, b, l, q, h => by
    simp only [Tr.kidsP, Option.some.injEq, Prod.mk.injEq] at h
    obtain ⟨rfl, rfl⟩ := h; rfl
  | j + 1, b, l, q, h => by
    rw [Tr.kidsP] at h
    cases hp : p b with
    | none => rw [hp] at h; cases h
    | some a =>
      obtain ⟨u, r⟩ := a
      rw [hp] at h
      simp only at h
      cases hk : Tr.kidsP p j r with
      | none => rw [hk] at h; cases h
      | some a =>
        obtain ⟨l', r'⟩ := a
        rw [hk] at h
        simp only [Option.some.injEq, Prod.mk.injEq] at h
        obtain ⟨rfl, rfl⟩ := h
        rw [List.length_cons, kids_len j r l' r' hk]
theorem bytes_at {L r : List Int} {v i : Nat} (hd : r = L.drop (L.length - r.length)) (hi : i < v) : gOf eB L (0 + (L.length - r.length) + 0 + i) = gOf eB (r.take v) i := by
  rw [gOf_take hi, Nat.zero_add, Nat.add_zero]
  generalize L.length - r.length = n at hd
  rw [hd, gOf_drop]
theorem nil_bytes {l : List Int} (h : l = []) : FVEq (.val (.slice none 0 0)) (.row 1 l.length (gOf eB l)) := by subst h; exact FVEq.nil
theorem gApp0 (f h : Nat → List FV) (i : Nat) : gApp 0 f h i = h i := by
  unfold gApp
  rw [decide_eq_false (Nat.not_lt_zero i)]
  rw [Nat.sub_zero]
/-- A tree of bytes, as it was read. -/
theorem tell_2 {x : FV} {l : List Int} (h : FVEq x (.row 1 l.length (gOf eB l))) : FVEqL [.int .u8 2, .int .i64 0, x, .val (.slice none 0 0)] (celG (.mk 2 0 l [])) :=
  fvl_cons (FVEq.refl _) (fvl_cons (FVEq.refl _) (fvl_cons h (fvl_cons FVEq.nil (FVEqL.refl _))))
theorem tell_3 {x : FV} {l : List Tr} (h : FVEq x (.row 4 l.length (gK l))) : FVEqL [.int .u8 3, .int .i64 0, .val (.slice none 0 0), x] (celG (.mk 3 0 [] l)) :=
  fvl_cons (FVEq.refl _) (fvl_cons (FVEq.refl _) (fvl_cons FVEq.nil (fvl_cons h (FVEqL.refl _))))
theorem row_app {n sz : Nat} {f h : Nat → List FV} {l : List Int} (hs : sz = 1) (hn : n = l.length) (hg : ∀ i, i < n → h i = gOf eB l i) : FVEq (.row sz n (shiftG 0 (gApp 0 f h))) (.row 1 l.length (gOf eB l)) :=
  row_bytes hs hn fun i hi => by
    show gApp 0 f h i = _
    rw [gApp0]; exact hg i hi
theorem cel_0 (t : Tr) : FVEqL [.int .u8 t.k, .int .i64 t.n, .row 1 t.bs.length (fun i => gOf eB t.bs (0 + i)), .row 4 t.kids.length (fun i => gK t.kids (0 + i))] (celT t) := by
  simp only [Nat.zero_add]
  exact isT_gK t
/-- A row of trees with one more. -/
theorem set_snoc {l : List Tr} {t : Tr} {j k : Nat} {f h : Nat → List FV} {fs : List FV} (hj : j = l.length) (hk : k = j) (hg : ∀ i, i < j → f i = gK l i) (hz : (h 0).length ≤ fs.length) (hf : FVEqL fs (celT t)) : ∀ i, i < j + 1 → FVEqL (gSet (gApp j f h) k 0 fs i) (gK (l ++ [t]) i) := by
  intro i hi
  subst hk
  unfold gSet
  by_cases he : i = k
  · subst he
    rw [decide_eq_true rfl]
    have e : gApp i f h i = h 0 := by unfold gApp; rw [decide_eq_false (Nat.lt_irrefl i)]; simp
    show FVEqL ((gApp i f h i).take 0 ++ fs ++ (gApp i f h i).drop (0 + fs.length)) _
    rw [e, List.take_zero, List.nil_append, List.drop_eq_nil_of_le (by omega), List.append_nil]
    have : (l ++ [t]).getD i .no = t := by subst hj; simp [List.getD_eq_getElem?_getD]
    show FVEqL fs (celT _)
    rw [this]; exact hf
  · rw [decide_eq_false he]
    have hlt : i < k := by omega
    show FVEqL (gApp k f h i) _
    have e : gApp k f h i = f i := by unfold gApp; rw [decide_eq_true hlt]
    rw [e, hg i hlt]
    have : (l ++ [t]).getD i .no = l.getD i .no := by subst hj; simp [List.getD_eq_getElem?_getD, List.getElem?_append_left hlt]
    show FVEqL (celT _) (celT _)
    rw [this]; exact FVEqL.refl _
theorem set_one {t : Tr} {k : Nat} {f : Nat → List FV} {fs : List FV} (hk : k = 0) (hz : (f 0).length ≤ fs.length) (hf : FVEqL fs (celT t)) : ∀ i, i < 0 + 1 → FVEqL (gSet f k 0 fs i) (gK ([] ++ [t]) i) := by
  intro i hi
  obtain rfl : i = 0 := by omega
  subst hk
  show FVEqL ((f 0).take 0 ++ fs ++ (f 0).drop (0 + fs.length)) (celT t)
  rw [List.take_zero, List.nil_append, List.drop_eq_nil_of_le (by omega), List.append_nil]; exact hf
theorem lt_u {v : BitVec 64} {j : Nat} (hj : j ≤ v.toNat) {b : Bool} (h : decide (BitVec.ofNat 64 j < v) = b) : decide (j < v.toNat) = b := by
  rw [← h]
  refine decide_eq_decide.2 ?_
  have := v.isLt
  rw [BitVec.lt_def, BitVec.toNat_ofNat, Nat.mod_eq_of_lt (by omega)]
theorem u_succ (j : Nat) : BitVec.ofNat 64 j + BitVec.ofInt 64 1 = BitVec.ofNat 64 (j + 1) := by
  apply BitVec.eq_of_toNat_eq
  rw [BitVec.toNat_add, BitVec.toNat_ofNat, BitVec.toNat_ofNat, show (BitVec.ofInt 64 1).toNat = 1 by decide]
  omega
theorem drop_more {L q r : List Int} {o n : Nat} (hq : q = L.drop o) (hr : r = q.drop n) : r = L.drop (o + n) := by rw [hr, hq, List.drop_drop]
theorem row_kids {j : Nat} {l : List Tr} (h : j = l.length) : FVEq (.row 4 j (shiftG 0 (gK l))) (.row 4 l.length (gK l)) := by subst h; exact FVEq.refl _
theorem nil_kids {l : List Tr} (h : l = []) : FVEq (.val (.slice none 0 0)) (.row 4 l.length (gK l)) := by subst h; exact FVEq.nil
/-- Each kid has a byte at least. -/
theorem kids_use {d : Nat} (hd : d ≤ 1000) : ∀ (j : Nat) (b : List Int) (l : List Tr) (q : List Int), btsB b = true → Tr.kidsP (Tr.parse d) j b = some (l, q) → j + q.length ≤ b.length
  | 0, b, l, q, _, h => by
    simp only [Tr.kidsP, Option.some.injEq, Prod.mk.injEq] at h
    obtain ⟨rfl, rfl⟩ := h; omega
  | j + 1, b, l, q, hb, h => by
    rw [Tr.kidsP] at h
    cases hp : Tr.parse d b with
    | none => rw [hp] at h; cases h
    | some a =>
      obtain ⟨u, r⟩ := a
      rw [hp] at h
      simp only at h
      cases hk : Tr.kidsP (Tr.parse d) j r with
      | none => rw [hk] at h; cases h
      | some a =>
        obtain ⟨l', r'⟩ := a
        rw [hk] at h
        simp only [Option.some.injEq, Prod.mk.injEq] at h
        obtain ⟨rfl, rfl⟩ := h
        obtain ⟨h1, h2⟩ := parse_drop hd hb hp
        have := kids_use hd j r l' r' (by rw [h1]; exact bts_drop hb _) hk
        omega
theorem parse0_1 {L : List Int} {kd : Int} {v : BitVec 64} {r : List Int} (h : Tr.headP L = some (kd, v, r)) (h1 : (kd == 1) = true) : Tr.parse 0 L = some (.mk 1 (Tr.unzig v) [] [], r) := by
  rw [Tr.parse, h]; simp only [Tr.bodyP]; rw [if_pos (by simpa using h1)]
theorem parse0_2 {L : List Int} {kd : Int} {v : BitVec 64} {r : List Int} (h : Tr.headP L = some (kd, v, r)) (h2 : (kd == 2) = true) : Tr.parse 0 L = if v.toNat ≤ r.length then some (.mk 2 0 (r.take v.toNat) [], r.drop v.toNat) else none := by
  have e : kd = 2 := by simpa using h2
  subst e
  rw [Tr.parse, h, Tr.bodyP.eq_def]; simp only; rw [if_neg (by omega), if_pos trivial]
theorem parse0_4 {L : List Int} {kd : Int} {v : BitVec 64} {r : List Int} (h : Tr.headP L = some (kd, v, r)) (h1 : (kd == 1) = false) (h2 : (kd == 2) = false) : Tr.parse 0 L = none := by
  rw [Tr.parse, h]; simp only [Tr.bodyP]; rw [if_neg (by simpa using h1), if_neg (by simpa using h2)]
  split <;> rfl
theorem parse0_5 {L : List Int} (h : Tr.headP L = none) : Tr.parse 0 L = none := by
  rw [Tr.parse, h, Tr.bodyP]
end Go.Sx
namespace Go.Proofs.Ytmdkihggeodjfaa
open Go.RowKit Go.Sx
set_option linter.unusedSimpArgs false
set_option linter.unusedVariables false
set_option maxRecDepth 100000
set_option maxHeartbeats 4000000
end Go.Proofs.Ytmdkihggeodjfaa
