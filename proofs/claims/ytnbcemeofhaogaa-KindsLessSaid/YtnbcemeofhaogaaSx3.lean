/- The symbolic executor: numbers. -/
import Derived.Test.YtnbcemeofhaogaaSx2
namespace Go.Sx
open Go.RowKit Go.Proofs.Ytnbcemeofhaogaa
set_option linter.unusedSimpArgs false
set_option linter.unusedVariables false

def Res.good (G : SV → List Blk → Prop) : Res → Prop
  | .fail => True
  | .ok sv nb => G sv nb
  | .test b r => b = true → r.good G
  | .split b r s => (b = true → r.good G) ∧ (b = false → s.good G)
theorem Res.good_run {G K : SV → List Blk → Prop} : ∀ (r : Res), r.run K → r.good G → ∃ sv nb, K sv nb ∧ G sv nb
  | .fail, h, _ => h.elim
  | .ok sv nb, h, g => ⟨sv, nb, h, g⟩
  | .test _ r, h, g => Res.good_run r h.2 (g h.1)
  | .split true r _, h, g => Res.good_run r (h.1 rfl) (g.1 rfl)
  | .split false _ s, h, g => Res.good_run s (h.2 rfl) (g.2 rfl)
theorem Res.good_mono {G H : SV → List Blk → Prop} (h : ∀ sv nb, G sv nb → H sv nb) : ∀ (r : Res), r.good G → r.good H
  | .fail, _ => trivial
  | .ok sv nb, g => h sv nb g
  | .test _ r, g => fun hb => Res.good_mono h r (g hb)
  | .split _ r s, g => ⟨fun hb => Res.good_mono h r (g.1 hb), fun hb => Res.good_mono h s (g.2 hb)⟩

def kEq (k k' : IntKind) : Bool := decide (k = k')

/-- Words. -/
def binU : BinOp → BitVec 64 → BitVec 64 → Res
  | .add, a, b => .ok (.u64 (a + b)) []
  | .sub, a, b => .ok (.u64 (a - b)) []
  | .mul, a, b => .ok (.u64 (a * b)) []
  | .and, a, b => .ok (.u64 (a &&& b)) []
  | .or, a, b => .ok (.u64 (a ||| b)) []
  | .xor, a, b => .ok (.u64 (a ^^^ b)) []
  | .andNot, a, b => .ok (.u64 (a &&& ~~~b)) []
  | .quo, a, b => .test (b != 0#64) (.ok (.u64 (a / b)) [])
  | .rem, a, b => .test (b != 0#64) (.ok (.u64 (a % b)) [])
  | .eql, a, b => .ok (.bool (a == b)) []
  | .neq, a, b => .ok (.bool (a != b)) []
  | .lss, a, b => .ok (.bool (decide (a < b))) []
  | .leq, a, b => .ok (.bool (decide (a ≤ b))) []
  | .gtr, a, b => .ok (.bool (decide (b < a))) []
  | .geq, a, b => .ok (.bool (decide (b ≤ a))) []
  | .shl, a, b => .ok (.u64 (a <<< b.toNat)) []
  | .shr, a, b => .ok (.u64 (a >>> b.toNat)) []
/-- Other numbers. -/
def binI (k : IntKind) : BinOp → Int → Int → Res
  | .add, a, b => .ok (.int k (k.wrap (a + b))) []
  | .sub, a, b => .ok (.int k (k.wrap (a - b))) []
  | .mul, a, b => .ok (.int k (k.wrap (a * b))) []
  | .and, a, b => .ok (.int k (Go.bits .and k a b)) []
  | .or, a, b => .ok (.int k (Go.bits .or k a b)) []
  | .xor, a, b => .ok (.int k (Go.bits .xor k a b)) []
  | .andNot, a, b => .ok (.int k (Go.bits .andNot k a b)) []
  | .quo, a, b => .test (b != 0) (.ok (.int k (k.wrap (a.tdiv b))) [])
  | .rem, a, b => .test (b != 0) (.ok (.int k (a.tmod b)) [])
  | .eql, a, b => .ok (.bool (a == b)) []
  | .neq, a, b => .ok (.bool (a != b)) []
  | .lss, a, b => .ok (.bool (decide (a < b))) []
  | .leq, a, b => .ok (.bool (decide (a ≤ b))) []
  | .gtr, a, b => .ok (.bool (decide (b < a))) []
  | .geq, a, b => .ok (.bool (decide (b ≤ a))) []
  | _, _, _ => .fail
def shU : BinOp → BitVec 64 → Nat → Res
  | .shl, a, n => .ok (.u64 (a <<< n)) []
  | .shr, a, n => .ok (.u64 (a >>> n)) []
  | _, _, _ => .fail
def shI (k : IntKind) : BinOp → Int → Nat → Res
  | .shl, a, n => .ok (.int k (k.wrap (a * 2 ^ min n k.bits))) []
  | .shr, a, n => .ok (.int k (a.fdiv (2 ^ min n k.bits))) []
  | _, _, _ => .fail
def isSh : BinOp → Bool
  | .shl => true
  | .shr => true
  | _ => false
def binB : BinOp → Bool → Bool → Res
  | .eql, a, b => .ok (.bool (a == b)) []
  | .neq, a, b => .ok (.bool (a != b)) []
  | _, _, _ => .fail
def boolS : SV → Option Bool
  | .tt => some true
  | .ff => some false
  | .bool b => some b
  | _ => none
theorem boolS_den {ρ : Val} {x : SV} {b : Bool} (h : boolS x = some b) : x.den ρ = .bool b ∧ x ≠ .junk := by
  cases x <;> first | (obtain rfl := Option.some.inj h; exact ⟨rfl, by simp⟩) | (cases h)
def binS (op : BinOp) (x y : SV) : Res := match x, y with
  | .u64 a, .u64 b => binU op a b
  | .u64 a, .int _ n => .test (decide (0 ≤ n)) (shU op a n.toNat)
  | .int k a, .u64 b => shI k op a b.toNat
  | .int k a, .int k' b => match isSh op with
    | true => .test (decide (0 ≤ b)) (shI k op a b.toNat)
    | false => match kEq k k' with
      | true => binI k op a b
      | false => .fail
  | x, y => match boolS x, boolS y with
    | some a, some b => binB op a b
    | _, _ => .fail

/-- What a pure operation on values comes to. -/
abbrev Pure (P : Program) (s : Val → Sem Value) (sv : SV) (nb : List Blk) : Prop := nb = [] ∧ ∀ ρ w, (s ρ).run P w = .ok (sv.den ρ) w

theorem binU_good (P : Program) (op : BinOp) (t : TypeId) (x y : Operand) (a b : BitVec 64) :
    (binU op a b).good (Pure P fun _ => do eqGuard op t x y (.int .u64 (uv a)) (.int .u64 (uv b)); binOp op t (.int .u64 (uv a)) (.int .u64 (uv b))) := by
  cases op
  case quo =>
    intro hb; refine ⟨rfl, fun ρ w => ?_⟩
    have hb' : b ≠ 0#64 := by simpa using hb
    have hne : uv b ≠ 0 := by rw [← uv_zero 64]; exact fun h => hb' (uv_inj.1 h)
    simp only [eqGuard_at_int, binOp_quo, Op.intDiv, hne, if_false, SV.den, Sem.run_bind, Sem.run_pure, Result.andThen_ok]
    rw [show (uv a).tdiv (uv b) = uv (a / b) from rfl, u64_uv]
  case rem =>
    intro hb; refine ⟨rfl, fun ρ w => ?_⟩
    have hb' : b ≠ 0#64 := by simpa using hb
    have hne : uv b ≠ 0 := by rw [← uv_zero 64]; exact fun h => hb' (uv_inj.1 h)
    simp only [eqGuard_at_int, binOp_rem, Op.intDiv, hne, if_false, SV.den, Sem.run_bind, Sem.run_pure, Result.andThen_ok]
    congr 2
  case shl =>
    refine ⟨rfl, fun ρ w => ?_⟩
    simp only [eqGuard_at_int, binOp_shl, SV.den, Sem.run_bind, Sem.run_pure, Result.andThen_ok]
    rw [shl_uv _ _ _ (uv_nonneg b)]; simp [ofInt_uv, uv_toNat]
  case shr =>
    refine ⟨rfl, fun ρ w => ?_⟩
    simp only [eqGuard_at_int, binOp_shr, SV.den, Sem.run_bind, Sem.run_pure, Result.andThen_ok]
    rw [shr_uv _ _ _ (uv_nonneg b) (uv_nonneg a) (uv_lt a)]; simp [ofInt_uv, uv_toNat]
  all_goals
    refine ⟨rfl, fun ρ w => ?_⟩
    simp [SV.den, eqGuard_at_int, binOp_add, binOp_sub, binOp_mul, binOp_and, binOp_or, binOp_xor, binOp_andNot, binOp_eql, binOp_neq, binOp_lss, binOp_leq, binOp_gtr, binOp_geq, Op.intArith, intBits_and, intBits_or, intBits_xor, intBits_andNot, bits_and_uv, bits_or_uv, bits_xor_uv, bits_andNot_uv, ofInt_uv, add_uv, sub_uv, mul_uv, eq_uv, ne_uv, lt_uv, le_uv]

theorem shU_good (P : Program) (op : BinOp) (t : TypeId) (x y : Operand) (a : BitVec 64) (k : IntKind) (n : Int) (h : 0 ≤ n) :
    (shU op a n.toNat).good (Pure P fun _ => do eqGuard op t x y (.int .u64 (uv a)) (.int k n); binOp op t (.int .u64 (uv a)) (.int k n)) := by
  cases op <;> try trivial
  · refine ⟨rfl, fun ρ w => ?_⟩
    simp only [eqGuard_at_int, binOp_shl, SV.den, Sem.run_bind, Sem.run_pure, Result.andThen_ok]
    rw [shl_uv _ _ _ h]; simp [ofInt_uv]
  · refine ⟨rfl, fun ρ w => ?_⟩
    simp only [eqGuard_at_int, binOp_shr, SV.den, Sem.run_bind, Sem.run_pure, Result.andThen_ok]
    rw [shr_uv _ _ _ h (uv_nonneg a) (uv_lt a)]; simp [ofInt_uv]
theorem shI_good (P : Program) (op : BinOp) (t : TypeId) (x y : Operand) (k : IntKind) (a : Int) (k' : IntKind) (n : Int) (h : 0 ≤ n) :
    (shI k op a n.toNat).good (Pure P fun _ => do eqGuard op t x y (.int k a) (.int k' n); binOp op t (.int k a) (.int k' n)) := by
  cases op <;> try trivial
  · refine ⟨rfl, fun ρ w => ?_⟩
    simp [eqGuard_at_int, binOp_shl, SV.den, Op.shift, show ¬ n < 0 by omega]
  · refine ⟨rfl, fun ρ w => ?_⟩
    simp [eqGuard_at_int, binOp_shr, SV.den, Op.shift, show ¬ n < 0 by omega]
theorem binI_good (P : Program) (op : BinOp) (t : TypeId) (x y : Operand) (k : IntKind) (a b : Int) :
    (binI k op a b).good (Pure P fun _ => do eqGuard op t x y (.int k a) (.int k b); binOp op t (.int k a) (.int k b)) := by
  cases op
  case quo =>
    intro hb; refine ⟨rfl, fun ρ w => ?_⟩
    have hb' : b ≠ 0 := by simpa using hb
    simp [SV.den, eqGuard_at_int, binOp_quo, Op.intDiv, hb']
  case rem =>
    intro hb; refine ⟨rfl, fun ρ w => ?_⟩
    have hb' : b ≠ 0 := by simpa using hb
    simp [SV.den, eqGuard_at_int, binOp_rem, Op.intDiv, hb']
  case shl => trivial
  case shr => trivial
  all_goals
    refine ⟨rfl, fun ρ w => ?_⟩
    simp [SV.den, eqGuard_at_int, binOp_add, binOp_sub, binOp_mul, binOp_and, binOp_or, binOp_xor, binOp_andNot, binOp_eql, binOp_neq, binOp_lss, binOp_leq, binOp_gtr, binOp_geq, Op.intArith, intBits_and, intBits_or, intBits_xor, intBits_andNot]
theorem equal_bool {P : Program} {t : TypeId} (ht : P.underlying t = some .bool) (a b : Bool) (w : World) : (Op.equal t (.bool a) (.bool b)).run P w = .ok (a == b) w := by
  have h : ∀ d, (Op.equalIn (d + 1) t (.bool a) (.bool b)).run P w = .ok (a == b) w := fun d => by simp [Op.equalIn, run_underlying ht]
  exact h 9999
theorem binB_good {P : Program} (op : BinOp) {t : TypeId} (ht : P.underlying t = some .bool) (x y : Operand) (a b : Bool) :
    (binB op a b).good (Pure P fun _ => do eqGuard op t x y (.bool a) (.bool b); binOp op t (.bool a) (.bool b)) := by
  cases op <;> try trivial
  · refine ⟨rfl, fun ρ w => ?_⟩
    have e : binOp .eql t (.bool a) (.bool b) = (do pure (.bool (← Op.equal t (.bool a) (.bool b)))) := rfl
    rw [e]
    simp only [eqGuard_at_bool, SV.den, Sem.run_bind, Sem.run_pure, Result.andThen_ok, equal_bool ht]
  · refine ⟨rfl, fun ρ w => ?_⟩
    have e : binOp .neq t (.bool a) (.bool b) = (do pure (.bool (!(← Op.equal t (.bool a) (.bool b))))) := rfl
    rw [e]
    simp only [eqGuard_at_bool, SV.den, Sem.run_bind, Sem.run_pure, Result.andThen_ok, equal_bool ht]
    rfl

/-- One operand. -/
def unS (op : UnOp) (x : SV) : Res := match op, x with
  | .not, .tt => .ok .ff []
  | .not, .ff => .ok .tt []
  | .not, .bool b => .ok (.bool (!b)) []
  | .neg, .u64 a => .ok (.u64 (-a)) []
  | .neg, .int k n => .ok (.int k (k.wrap (0 - n))) []
  | .xor, .u64 a => .ok (.u64 (~~~a)) []
  | .xor, .int k n => .ok (.int k (Go.bits .xor k (if k.signed then -1 else k.max) n)) []
  | _, _ => .fail
theorem bits_not (x : BitVec 64) : Go.bits .xor .u64 (if IntKind.u64.signed = true then -1 else IntKind.u64.max) (uv x) = uv (~~~x) := by
  rw [bits_xor_uv, ofInt_uv, show BitVec.ofInt 64 (if IntKind.u64.signed = true then -1 else IntKind.u64.max) = BitVec.allOnes 64 by decide, BitVec.allOnes_xor]
theorem unS_good (P : Program) (op : UnOp) (x : SV) : (unS op x).good (Pure P fun ρ => Op.unary op (x.den ρ)) := by
  cases op <;> cases x <;> try trivial
  all_goals refine ⟨rfl, fun ρ w => ?_⟩
  case xor.u64 =>
    simp only [SV.den, Op.unary, intBits_xor, Sem.run_pure]
    rw [bits_not]
  case neg.u64 => simp only [SV.den, Op.unary, Op.intArith, Int.zero_sub, Sem.run_pure]; rw [neg_uv]
  all_goals simp [SV.den, Op.unary, Op.intArith, intBits_xor]

/-- Numbers of one kind as numbers of another one. -/
def convS (P : Program) (src dst : TypeId) (x : SV) : Res := match P.underlying src with
  | none => .fail
  | some _ => match P.underlying dst with
    | some (.int .u64) => match x with
      | .u64 a => .ok (.u64 a) []
      | .int _ n => .ok (.u64 (BitVec.ofInt 64 n)) []
      | _ => .fail
    | some (.int .i64) => match x with
      | .u64 a => .ok (.int .i64 (sv a)) []
      | .int _ n => .ok (.int .i64 (IntKind.i64.wrap n)) []
      | _ => .fail
    | some (.int k) => match x with
      | .u64 a => .ok (.int k (k.wrap (uv a))) []
      | .int _ n => .ok (.int k (k.wrap n)) []
      | _ => .fail
    | _ => .fail
theorem convert_int {P : Program} {src dst : TypeId} {d : TypeDesc} {k : IntKind} (hs : P.underlying src = some d) (hd : P.underlying dst = some (.int k)) (k' : IntKind) (n : Int) (w : World) :
    (convert src dst (.int k' n)).run P w = .ok (.int k (k.wrap n)) w := by
  simp [convert, run_underlying hs, run_underlying hd, Conv.intToInt]
theorem convS_good (P : Program) (src dst : TypeId) (x : SV) : (convS P src dst x).good (Pure P fun ρ => convert src dst (x.den ρ)) := by
  unfold convS
  split
  · trivial
  · rename_i d hs
    split
    · rename_i hd
      split <;> try trivial
      · refine ⟨rfl, fun ρ w => ?_⟩; simp only [SV.den]; rw [convert_int hs hd, u64_uv]
      · refine ⟨rfl, fun ρ w => ?_⟩; simp only [SV.den]; rw [convert_int hs hd, wrap_ofInt]
    · rename_i hd
      split <;> try trivial
      · refine ⟨rfl, fun ρ w => ?_⟩; simp only [SV.den]; rw [convert_int hs hd, i64_uv]
      · refine ⟨rfl, fun ρ w => ?_⟩; simp only [SV.den]; rw [convert_int hs hd]
    · rename_i k _ _ hd
      split <;> try trivial
      · refine ⟨rfl, fun ρ w => ?_⟩; simp only [SV.den]; rw [convert_int hs hd]
      · refine ⟨rfl, fun ρ w => ?_⟩; simp only [SV.den]; rw [convert_int hs hd]
    · trivial
end Go.Sx
