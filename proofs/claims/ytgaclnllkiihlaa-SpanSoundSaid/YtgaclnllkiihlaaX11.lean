import Derived.Test.YtgaclnllkiihlaaX10
namespace Go.Proofs.Ytgaclnllkiihlaa
open Go.RowKit Go.Sx
set_option linter.unusedSimpArgs false
set_option linter.unusedVariables false
set_option linter.unnecessarySimpa false
set_option maxRecDepth 100000
set_option maxHeartbeats 4000000
theorem sshr (x : BitVec 64) (n : Nat) : BitVec.ofInt 64 ((sv x).fdiv (2 ^ min n IntKind.i64.bits)) = x.sshiftRight (min n 64) := by
  unfold BitVec.sshiftRight
  rw [show IntKind.i64.bits = 64 from rfl, Int.fdiv_eq_ediv_of_nonneg _ (Int.le_of_lt (Int.pow_pos (by decide))), Int.shiftRight_eq_div_pow]
  simp [sv]
namespace W
def divU (a b : BitVec 64) : BitVec 64 := if b == 0#64 then 0 else a / b
def modU (a b : BitVec 64) : BitVec 64 := if b == 0#64 then a else a % b
def divS (a b : Int) : Int := if b == 0 then 0 else IntKind.i64.wrap (a.tdiv b)
def modS (a b : Int) : Int := if b == 0 then a else a.tmod b
/-- What an operation makes of two wide words. -/
def alu (op off : Int) (a b : BitVec 64) : BitVec 64 × Bool :=
  if op == 0 && (off == 0 && true) then (a + b, true) else if op == 16 && (off == 0 && true) then (a - b, true) else if op == 32 && (off == 0 && true) then (a * b, true) else if op == 48 && (off == 0 && true) then (divU a b, true) else if op == 48 && (off == 1 && true) then (BitVec.ofInt 64 (divS (sv a) (sv b)), true) else if op == 144 && (off == 0 && true) then (modU a b, true) else if op == 144 && (off == 1 && true) then (BitVec.ofInt 64 (modS (sv a) (sv b)), true) else if op == 64 && (off == 0 && true) then (a ||| b, true) else if op == 80 && (off == 0 && true) then (a &&& b, true) else if op == 160 && (off == 0 && true) then (a ^^^ b, true) else if op == 96 && (off == 0 && true) then (a <<< (b % 64#64).toNat, true) else if op == 112 && (off == 0 && true) then (a >>> (b % 64#64).toNat, true) else if op == 192 && (off == 0 && true) then (a.sshiftRight (min (b % 64#64).toNat 64), true) else if op == 128 && (off == 0 && true) then (-a, true) else if op == 176 && (off == 0 && true) then (b, true) else if op == 176 && (off == 8 && true) then (BitVec.ofInt 64 (IntKind.i8.wrap (uv b)), true) else if op == 176 && (off == 16 && true) then (BitVec.ofInt 64 (IntKind.i16.wrap (uv b)), true) else (0, false)
/-- The lowest bytes. -/
def ext (a : BitVec 64) (n : Int) : BitVec 64 × Bool := if n == 1 then (BitVec.ofInt 64 (IntKind.u8.wrap (uv a)), true) else if n == 2 then (BitVec.ofInt 64 (IntKind.u16.wrap (uv a)), true) else if n == 4 then (BitVec.ofInt 64 (IntKind.u32.wrap (uv a)), true) else if n == 8 then (a, true) else (0, false)
def aluW (op off : Int) (a b : BitVec 64) : BitVec 64 × Bool := if op == 176 && off == 32 then (BitVec.ofInt 64 (IntKind.i32.wrap (uv b)), true) else alu op off a b
end W
def k_divU : List SV → List Blk → Res := fun args _ => match args with
  | [.u64 a, .u64 b] => .ok (.u64 (W.divU a b)) []
  | _ => .fail
theorem k_divU_ok : CtrOk Try.prog Gw 88 k_divU := by
  refine ⟨fun _ _ => by kernel_rfl, fun args M => ?_⟩
  unfold k_divU
  split
  · rename_i a b
    refine ctr_flat (Γ := ⟨[], eqs, [], [], []⟩) (sv := .u64 (W.divU a b)) st_Gw ⟨okNil, eqs_ok, okNilB, okNilI, okNilP⟩ Try.func88 rfl mixed [] (by kernel_rfl) 10000 (by rfl) ?_
    (conv => whnf)
    (repeat' (first | (refine And.intro (fun hb => ?_) (fun hb => ?_) <;> (first | contradiction | (conv => whnf))) | (refine And.intro ?_ ?_; rotate_left 1; (conv => whnf))))
    all_goals (first | rfl | trivial | (simp_all [eqv, eqv1, eqv2, eqvL1, eqvL2, W.divU]))
  · trivial
def k_modU : List SV → List Blk → Res := fun args _ => match args with
  | [.u64 a, .u64 b] => .ok (.u64 (W.modU a b)) []
  | _ => .fail
theorem k_modU_ok : CtrOk Try.prog Gw 92 k_modU := by
  refine ⟨fun _ _ => by kernel_rfl, fun args M => ?_⟩
  unfold k_modU
  split
  · rename_i a b
    refine ctr_flat (Γ := ⟨[], eqs, [], [], []⟩) (sv := .u64 (W.modU a b)) st_Gw ⟨okNil, eqs_ok, okNilB, okNilI, okNilP⟩ Try.func92 rfl mixed [] (by kernel_rfl) 10000 (by rfl) ?_
    (conv => whnf)
    (repeat' (first | (refine And.intro (fun hb => ?_) (fun hb => ?_) <;> (first | contradiction | (conv => whnf))) | (refine And.intro ?_ ?_; rotate_left 1; (conv => whnf))))
    all_goals (first | rfl | trivial | (simp_all [eqv, eqv1, eqv2, eqvL1, eqvL2, W.modU]))
  · trivial
def k_divS : List SV → List Blk → Res := fun args _ => match args with
  | [.int .i64 a, .int .i64 b] => .ok (.int .i64 (W.divS a b)) []
  | _ => .fail
theorem k_divS_ok : CtrOk Try.prog Gw 90 k_divS := by
  refine ⟨fun _ _ => by kernel_rfl, fun args M => ?_⟩
  unfold k_divS
  split
  · rename_i a b
    refine ctr_flat (Γ := ⟨[], eqs, [], [], []⟩) (sv := .int .i64 (W.divS a b)) st_Gw ⟨okNil, eqs_ok, okNilB, okNilI, okNilP⟩ Try.func90 rfl mixed [] (by kernel_rfl) 10000 (by rfl) ?_
    (conv => whnf)
    (repeat' (first | (refine And.intro (fun hb => ?_) (fun hb => ?_) <;> (first | contradiction | (conv => whnf))) | (refine And.intro ?_ ?_; rotate_left 1; (conv => whnf))))
    all_goals (first | rfl | trivial | (simp_all [eqv, eqv1, eqv2, eqvL1, eqvL2, W.divS]))
  · trivial
def k_modS : List SV → List Blk → Res := fun args _ => match args with
  | [.int .i64 a, .int .i64 b] => .ok (.int .i64 (W.modS a b)) []
  | _ => .fail
theorem k_modS_ok : CtrOk Try.prog Gw 94 k_modS := by
  refine ⟨fun _ _ => by kernel_rfl, fun args M => ?_⟩
  unfold k_modS
  split
  · rename_i a b
    refine ctr_flat (Γ := ⟨[], eqs, [], [], []⟩) (sv := .int .i64 (W.modS a b)) st_Gw ⟨okNil, eqs_ok, okNilB, okNilI, okNilP⟩ Try.func94 rfl mixed [] (by kernel_rfl) 10000 (by rfl) ?_
    (conv => whnf)
    (repeat' (first | (refine And.intro (fun hb => ?_) (fun hb => ?_) <;> (first | contradiction | (conv => whnf))) | (refine And.intro ?_ ?_; rotate_left 1; (conv => whnf))))
    all_goals (first | rfl | trivial | (simp_all [eqv, eqv1, eqv2, eqvL1, eqvL2, W.modS]))
  · trivial
def k_alu : List SV → List Blk → Res := fun args _ => match args with
  | [.int .u8 op, .int .i16 off, .u64 a, .u64 b, .int .i64 64] => .ok (.tup [.u64 (W.alu op off a b).1, .bool (W.alu op off a b).2]) []
  | _ => .fail
theorem k_alu_ok : CtrOk Try.prog Gw 45 k_alu := by
  refine ⟨fun _ _ => by kernel_rfl, fun args M => ?_⟩
  unfold k_alu
  split
  · rename_i op off a b
    refine ctr_flat (Γ := ⟨[(88, k_divU), (92, k_modU), (90, k_divS), (94, k_modS)], eqs, [], [(84, Try.f84, []), (85, Try.f85, []), (86, Try.f86, []), (87, Try.f87, []), (89, Try.f89, []), (91, Try.f91, []), (93, Try.f93, []), (95, Try.f95, []), (96, Try.f96, []), (97, Try.f97, []), (98, Try.f98, []), (99, Try.f99, []), (100, Try.f100, []), (101, Try.f101, []), (102, Try.f102, []), (103, Try.f103, []), (104, Try.f104, [])], []⟩) (sv := .tup [.u64 (W.alu op off a b).1, .bool (W.alu op off a b).2]) st_Gw ⟨(okCons k_divU_ok (okCons k_modU_ok (okCons k_divS_ok (okCons k_modS_ok okNil)))), eqs_ok, okNilB, (okConsI Try.func84 rfl (by kernel_rfl) (fun _ _ => by kernel_rfl) (okConsI Try.func85 rfl (by kernel_rfl) (fun _ _ => by kernel_rfl) (okConsI Try.func86 rfl (by kernel_rfl) (fun _ _ => by kernel_rfl) (okConsI Try.func87 rfl (by kernel_rfl) (fun _ _ => by kernel_rfl) (okConsI Try.func89 rfl (by kernel_rfl) (fun _ _ => by kernel_rfl) (okConsI Try.func91 rfl (by kernel_rfl) (fun _ _ => by kernel_rfl) (okConsI Try.func93 rfl (by kernel_rfl) (fun _ _ => by kernel_rfl) (okConsI Try.func95 rfl (by kernel_rfl) (fun _ _ => by kernel_rfl) (okConsI Try.func96 rfl (by kernel_rfl) (fun _ _ => by kernel_rfl) (okConsI Try.func97 rfl (by kernel_rfl) (fun _ _ => by kernel_rfl) (okConsI Try.func98 rfl (by kernel_rfl) (fun _ _ => by kernel_rfl) (okConsI Try.func99 rfl (by kernel_rfl) (fun _ _ => by kernel_rfl) (okConsI Try.func100 rfl (by kernel_rfl) (fun _ _ => by kernel_rfl) (okConsI Try.func101 rfl (by kernel_rfl) (fun _ _ => by kernel_rfl) (okConsI Try.func102 rfl (by kernel_rfl) (fun _ _ => by kernel_rfl) (okConsI Try.func103 rfl (by kernel_rfl) (fun _ _ => by kernel_rfl) (okConsI Try.func104 rfl (by kernel_rfl) (fun _ _ => by kernel_rfl) okNilI))))))))))))))))), okNilP⟩ Try.func45 rfl mixed [(2, 52, [0, 0, 0, 7, 0, 0, 49, 0, 0, 385, 0, 0, 3073, 0, 0, 24577, 0, 0, 196609, 0, 0, 1572865, 0, 0, 12582913, 0, 0, 100663297, 0, 0, 805306369, 0, 0, 6442450945, 0, 0, 51539607553, 0, 0, 412316860417, 0, 0, 3298534883329, 0, 0, 26388279066625, 0, 0, 211106232532993, 0, 0, 1688849860263937, 4503599627370495, 9007199254740991])] (by kernel_rfl) 10000 (by rfl) ?_
    (conv => whnf)
    (repeat' (first | (refine And.intro (fun hb => ?_) (fun hb => ?_) <;> (first | contradiction | (conv => whnf))) | (refine And.intro ?_ ?_; rotate_left 1; (conv => whnf))))
    all_goals (first | rfl | trivial | (simp only [eqv, eqv1, eqv2, W.alu, *, if_true, if_false, Bool.false_eq_true]; done) | (simp only [eqv, eqv1, eqv2, W.alu, *, if_true, if_false, Bool.false_eq_true]; rfl) | (simp only [eqv, eqv1, eqv2, W.alu, *, if_true, if_false, Bool.false_eq_true]; exact sshr _ _))
  · trivial
def k_Alu : List SV → List Blk → Res := fun args _ => match args with
  | [.int .u8 op, .int .i16 off, .tt, .u64 a, .u64 b] => .ok (.tup [.u64 (W.aluW op off a b).1, .bool (W.aluW op off a b).2]) []
  | _ => .fail
theorem k_Alu_ok : CtrOk Try.prog Gw 15 k_Alu := by
  refine ⟨fun _ _ => by kernel_rfl, fun args M => ?_⟩
  unfold k_Alu
  split
  · rename_i op off a b
    refine ctr_flat (Γ := ⟨[(45, k_alu)], eqs, [], [], []⟩) (sv := .tup [.u64 (W.aluW op off a b).1, .bool (W.aluW op off a b).2]) st_Gw ⟨(okCons k_alu_ok okNil), eqs_ok, okNilB, okNilI, okNilP⟩ Try.func15 rfl mixed [] (by kernel_rfl) 10000 (by rfl) ?_
    (conv => whnf)
    (repeat' (first | (refine And.intro (fun hb => ?_) (fun hb => ?_) <;> (first | contradiction | (conv => whnf))) | (refine And.intro ?_ ?_; rotate_left 1; (conv => whnf))))
    all_goals (first | rfl | trivial | (simp_all [eqv, eqv1, eqv2, W.aluW]; done))
  · trivial
namespace S
theorem so {op : Int} {f : Sp → Sp → Sp} (hw : way op = some f) {x y : BitVec 64} (h0 : (W.aluW op 0 x y).2 = true) (h1 : Le (one (W.aluW op 0 x y).1) (f (one x) (one y))) {a b : Sp} (ha : has a x = true) (hb : has b y = true) (ia : R.inS a = true) (ib : R.inS b = true) :
    (does op a b).2 = true ∧ (W.aluW op 0 x y).2 = true ∧ has (does op a b).1 (W.aluW op 0 x y).1 = true := ⟨(does_sound hw h1 ha hb ia ib).1, h0, (does_sound hw h1 ha hb ia ib).2⟩
theorem and63 (k : Int) : ∃ n : Nat, n < 64 ∧ Go.bits .and .i64 k 63 = (n : Int) := by
  refine ⟨(BitVec.ofInt 64 k &&& BitVec.ofInt 64 63).toNat, ?_, ?_⟩
  · rw [BitVec.toNat_and]; exact Nat.lt_of_le_of_lt Nat.and_le_right (by decide)
  · have h : (BitVec.ofInt 64 k &&& BitVec.ofInt 64 63).toNat ≤ 63 := by rw [BitVec.toNat_and]; exact Nat.le_trans Nat.and_le_right (by decide)
    show IntKind.i64.wrap (((BitVec.ofInt 64 k &&& BitVec.ofInt 64 63).toNat : Nat) : Int) = _
    rw [IntWalk.i64_in _ (by omega)]
theorem mod64 {n : Nat} (hn : n < 64) : (BitVec.ofInt 64 (n : Int) % 64#64).toNat = n := by
  have h := R.ofInt_nat (n : Int)
  have h2 : (BitVec.ofInt 64 (n : Int)).toNat = n := by omega
  rw [BitVec.toNat_umod, h2, show (64#64 : BitVec 64).toNat = 64 from rfl, Nat.mod_eq_of_lt hn]
theorem ss_96 {a : Sp} {x : BitVec 64} (ha : has a x = true) (ia : R.inS a = true) (k : Int) : (shift 96 a (Go.bits .and .i64 k 63)).2 = true ∧ (W.aluW 96 0 x (BitVec.ofInt 64 (Go.bits .and .i64 k 63))).2 = true ∧ has (shift 96 a (Go.bits .and .i64 k 63)).1 (W.aluW 96 0 x (BitVec.ofInt 64 (Go.bits .and .i64 k 63))).1 = true := by
  obtain ⟨n, hn, e⟩ := and63 k
  rw [e]
  have f : W.aluW 96 0 x (BitVec.ofInt 64 n) = (x <<< (BitVec.ofInt 64 (n : Int) % 64#64).toNat, true) := rfl
  rw [f, mod64 hn]
  obtain ⟨h1, h2⟩ := shift_sound (.inl rfl) hn (shl_one hn) ha ia
  exact ⟨h1, rfl, h2⟩
theorem ss_112 {a : Sp} {x : BitVec 64} (ha : has a x = true) (ia : R.inS a = true) (k : Int) : (shift 112 a (Go.bits .and .i64 k 63)).2 = true ∧ (W.aluW 112 0 x (BitVec.ofInt 64 (Go.bits .and .i64 k 63))).2 = true ∧ has (shift 112 a (Go.bits .and .i64 k 63)).1 (W.aluW 112 0 x (BitVec.ofInt 64 (Go.bits .and .i64 k 63))).1 = true := by
  obtain ⟨n, hn, e⟩ := and63 k
  rw [e]
  have f : W.aluW 112 0 x (BitVec.ofInt 64 n) = (x >>> (BitVec.ofInt 64 (n : Int) % 64#64).toNat, true) := rfl
  rw [f, mod64 hn]
  obtain ⟨h1, h2⟩ := shift_sound (.inr (.inl rfl)) hn (shr_one hn) ha ia
  exact ⟨h1, rfl, h2⟩
theorem ss_192 {a : Sp} {x : BitVec 64} (ha : has a x = true) (ia : R.inS a = true) (k : Int) : (shift 192 a (Go.bits .and .i64 k 63)).2 = true ∧ (W.aluW 192 0 x (BitVec.ofInt 64 (Go.bits .and .i64 k 63))).2 = true ∧ has (shift 192 a (Go.bits .and .i64 k 63)).1 (W.aluW 192 0 x (BitVec.ofInt 64 (Go.bits .and .i64 k 63))).1 = true := by
  obtain ⟨n, hn, e⟩ := and63 k
  rw [e]
  have f : W.aluW 192 0 x (BitVec.ofInt 64 n) = (x.sshiftRight (min (BitVec.ofInt 64 (n : Int) % 64#64).toNat 64), true) := rfl
  rw [f, mod64 hn]
  obtain ⟨h1, h2⟩ := shift_sound (.inr (.inr rfl)) hn (sar_one hn) ha ia
  exact ⟨h1, rfl, h2⟩
theorem so_last (x y : BitVec 64) : good (does 0 (one x) (one y)).1 = true ∧ (decide (x + y < x) = false → ((does 0 (one x) (one y)).1.lo == x + y) = true ∧ ((does 0 (one x) (one y)).1.hi == x + y) = true) := by
  rw [does_good (one_good x) (one_good y), show way 0 = some add from rfl]
  refine ⟨(add_one x y).good2, fun h => ?_⟩
  have h := of_decide_eq_false h
  rw [BitVec.lt_def, BitVec.toNat_add] at h
  have hx := x.isLt; have hy := y.isLt
  have hc : sum ⟨x, x⟩ ⟨y, y⟩ = ⟨x + y, x + y⟩ := by
    unfold sum; simp only [carry_zero]; rw [if_pos (by rw [decide_eq_true_eq]; omega)]
  have e1 : (add (one x) (one y)).lo = x + y := by show (sum ⟨x, x⟩ ⟨y, y⟩).lo = _; rw [hc]
  have e2 : (add (one x) (one y)).hi = x + y := by show (sum ⟨x, x⟩ ⟨y, y⟩).hi = _; rw [hc]
  exact ⟨by rw [e1]; simp, by rw [e2]; simp⟩
theorem so_0 {x y : BitVec 64} {a b : Sp} (ha : has a x = true) (hb : has b y = true) (ia : R.inS a = true) (ib : R.inS b = true) : (does 0 a b).2 = true ∧ (W.aluW 0 0 x y).2 = true ∧ has (does 0 a b).1 (W.aluW 0 0 x y).1 = true := so (op := 0) rfl rfl (add_one x y) ha hb ia ib
theorem so_16 {x y : BitVec 64} {a b : Sp} (ha : has a x = true) (hb : has b y = true) (ia : R.inS a = true) (ib : R.inS b = true) : (does 16 a b).2 = true ∧ (W.aluW 16 0 x y).2 = true ∧ has (does 16 a b).1 (W.aluW 16 0 x y).1 = true := so (op := 16) rfl rfl (less_one x y) ha hb ia ib
theorem so_32 {x y : BitVec 64} {a b : Sp} (ha : has a x = true) (hb : has b y = true) (ia : R.inS a = true) (ib : R.inS b = true) : (does 32 a b).2 = true ∧ (W.aluW 32 0 x y).2 = true ∧ has (does 32 a b).1 (W.aluW 32 0 x y).1 = true := so (op := 32) rfl rfl (times_one x y) ha hb ia ib
theorem so_48 {x y : BitVec 64} {a b : Sp} (ha : has a x = true) (hb : has b y = true) (ia : R.inS a = true) (ib : R.inS b = true) : (does 48 a b).2 = true ∧ (W.aluW 48 0 x y).2 = true ∧ has (does 48 a b).1 (W.aluW 48 0 x y).1 = true := so (op := 48) rfl rfl (quo_one x y) ha hb ia ib
theorem so_64 {x y : BitVec 64} {a b : Sp} (ha : has a x = true) (hb : has b y = true) (ia : R.inS a = true) (ib : R.inS b = true) : (does 64 a b).2 = true ∧ (W.aluW 64 0 x y).2 = true ∧ has (does 64 a b).1 (W.aluW 64 0 x y).1 = true := so (op := 64) rfl rfl (or2_one x y) ha hb ia ib
theorem so_80 {x y : BitVec 64} {a b : Sp} (ha : has a x = true) (hb : has b y = true) (ia : R.inS a = true) (ib : R.inS b = true) : (does 80 a b).2 = true ∧ (W.aluW 80 0 x y).2 = true ∧ has (does 80 a b).1 (W.aluW 80 0 x y).1 = true := so (op := 80) rfl rfl (and_one x y) ha hb ia ib
theorem so_144 {x y : BitVec 64} {a b : Sp} (ha : has a x = true) (hb : has b y = true) (ia : R.inS a = true) (ib : R.inS b = true) : (does 144 a b).2 = true ∧ (W.aluW 144 0 x y).2 = true ∧ has (does 144 a b).1 (W.aluW 144 0 x y).1 = true := so (op := 144) rfl rfl (res_one x y) ha hb ia ib
theorem so_160 {x y : BitVec 64} {a b : Sp} (ha : has a x = true) (hb : has b y = true) (ia : R.inS a = true) (ib : R.inS b = true) : (does 160 a b).2 = true ∧ (W.aluW 160 0 x y).2 = true ∧ has (does 160 a b).1 (W.aluW 160 0 x y).1 = true := so (op := 160) rfl rfl (xor_one x y) ha hb ia ib
end S
attribute [local irreducible] S.does W.aluW S.has S.good S.shift S.one
theorem sound_run (alo ahi : BitVec 64) (asl ash : Int) (blo bhi : BitVec 64) (bsl bsh : Int) (x y : BitVec 64) (k : Int) (ia : R.inS (⟨alo, ahi, asl, ash⟩ : Sp) = true) (ib : R.inS (⟨blo, bhi, bsl, bsh⟩ : Sp) = true) : run Try.prog ⟨[(9, k_awake), (14, k_Has), (15, k_Alu), (7, k_Do), (10, k_Shift), (16, k_Const), (13, k_Right)], eqs, [], [], []⟩ 10000 [(10, 11, [0, 0, 3, 7, 0, 0, 63, 127, 255, 255, 0, 1535, 4095]), (19, 11, [0, 0, 3, 7, 0, 0, 63, 127, 255, 255, 0, 1535, 4095])] 0 (bodyOf Try.f6) (initF Try.f6 [.agg [.u64 alo, .u64 ahi, .int .i64 asl, .int .i64 ash], .agg [.u64 blo, .u64 bhi, .int .i64 bsl, .int .i64 bsh], .u64 x, .u64 y, .int .i64 k]) [] (retK Try.prog Try.f6 fun x _ => eqv x (.bool true)) := by
  cases hA : S.has (⟨alo, ahi, asl, ash⟩ : Sp) x
  · (conv => whnf)
    (repeat' (first | (refine step_t (by first | rfl | assumption) ?_; (conv => whnf)) | (refine step_f (by first | rfl | assumption) ?_; (conv => whnf)) | (refine step_nt (by assumption) ?_; (conv => whnf)) | (refine step_nf (by assumption) ?_; (conv => whnf)) | (refine step_n (fun hb => ?_) (fun hb => ?_) <;> (first | contradiction | (conv => whnf))) | (refine And.intro (fun hb => ?_) (fun hb => ?_) <;> (first | contradiction | (conv => whnf))) | (refine And.intro ?_ ?_; rotate_left 1; (conv => whnf))))
    all_goals first | rfl | trivial | (simp_all; done)
  cases hB : S.has (⟨blo, bhi, bsl, bsh⟩ : Sp) y
  · (conv => whnf)
    (repeat' (first | (refine step_t (by first | rfl | assumption) ?_; (conv => whnf)) | (refine step_f (by first | rfl | assumption) ?_; (conv => whnf)) | (refine step_nt (by assumption) ?_; (conv => whnf)) | (refine step_nf (by assumption) ?_; (conv => whnf)) | (refine step_n (fun hb => ?_) (fun hb => ?_) <;> (first | contradiction | (conv => whnf))) | (refine And.intro (fun hb => ?_) (fun hb => ?_) <;> (first | contradiction | (conv => whnf))) | (refine And.intro ?_ ?_; rotate_left 1; (conv => whnf))))
    all_goals first | rfl | trivial | (simp_all; done)
  obtain ⟨d0, f0, g0⟩ := S.so_0 hA hB ia ib
  obtain ⟨d16, f16, g16⟩ := S.so_16 hA hB ia ib
  obtain ⟨d32, f32, g32⟩ := S.so_32 hA hB ia ib
  obtain ⟨d48, f48, g48⟩ := S.so_48 hA hB ia ib
  obtain ⟨d64, f64, g64⟩ := S.so_64 hA hB ia ib
  obtain ⟨d80, f80, g80⟩ := S.so_80 hA hB ia ib
  obtain ⟨d144, f144, g144⟩ := S.so_144 hA hB ia ib
  obtain ⟨d160, f160, g160⟩ := S.so_160 hA hB ia ib
  obtain ⟨d96, f96, g96⟩ := S.ss_96 hA ia k
  obtain ⟨d112, f112, g112⟩ := S.ss_112 hA ia k
  obtain ⟨d192, f192, g192⟩ := S.ss_192 hA ia k
  obtain ⟨l1, l2⟩ := S.so_last x y
  (conv => whnf)
  (repeat' (first | (refine .inl ⟨20, ?_⟩; (conv => whnf)) | (refine step_t (by first | rfl | assumption) ?_; (conv => whnf)) | (refine step_f (by first | rfl | assumption) ?_; (conv => whnf)) | (refine step_nt (by assumption) ?_; (conv => whnf)) | (refine step_nf (by assumption) ?_; (conv => whnf)) | (refine step_n (fun hb => ?_) (fun hb => ?_) <;> (first | contradiction | (conv => whnf))) | (refine And.intro (fun hb => ?_) (fun hb => ?_) <;> (first | contradiction | (conv => whnf))) | (refine And.intro ?_ ?_; rotate_left 1; (conv => whnf))))
  all_goals first | rfl | trivial | exact (l2 (by assumption)).1 | exact (l2 (by assumption)).2 | (have l3 := l2 (by assumption); simp_all [eqv, eqv1]; done)
def k_SpanSound : List SV → List Blk → Res := fun args _ => match args with
  | [.agg [.u64 alo, .u64 ahi, .int .i64 asl, .int .i64 ash], .agg [.u64 blo, .u64 bhi, .int .i64 bsl, .int .i64 bsh], .u64 x, .u64 y, .int .i64 k] => .test (R.inS (⟨alo, ahi, asl, ash⟩ : Sp) && R.inS (⟨blo, bhi, bsl, bsh⟩ : Sp)) (.ok (.bool true) [])
  | _ => .fail
theorem k_SpanSound_ok : CtrOk Try.prog Gw 6 k_SpanSound := by
  refine ⟨fun _ _ => by kernel_rfl, fun args M => ?_⟩
  unfold k_SpanSound
  split
  · rename_i alo ahi asl ash blo bhi bsl bsh x y k
    intro ht
    exact ctr_flat (Γ := ⟨[(9, k_awake), (14, k_Has), (15, k_Alu), (7, k_Do), (10, k_Shift), (16, k_Const), (13, k_Right)], eqs, [], [], []⟩) (sv := .bool true) st_Gw ⟨(okCons k_awake_ok (okCons k_Has_ok (okCons k_Alu_ok (okCons k_Do_ok (okCons k_Shift_ok (okCons k_Const_ok (okCons k_Right_ok okNil))))))), eqs_ok, okNilB, okNilI, okNilP⟩ Try.func6 rfl mixed [(10, 11, [0, 0, 3, 7, 0, 0, 63, 127, 255, 255, 0, 1535, 4095]), (19, 11, [0, 0, 3, 7, 0, 0, 63, 127, 255, 255, 0, 1535, 4095])] (by kernel_rfl) 10000 (by rfl) (by
      rw [Bool.and_eq_true] at ht
      exact sound_run alo ahi asl ash blo bhi bsl bsh x y k ht.1 ht.2)
  · trivial
end Go.Proofs.Ytgaclnllkiihlaa
