import Derived.Test.YtddcaklgflfkeaaGreatDoorXA
namespace Go.Proofs.YtddcaklgflfkeaaGreatDoor
open Go.RowKit Go.Sx
set_option linter.unusedSimpArgs false
set_option linter.unusedVariables false
set_option linter.unnecessarySimpa false
set_option maxRecDepth 100000
set_option maxHeartbeats 4000000
namespace W
/-- What an operation makes of two narrow words. -/
def alu32 (op off a b : Int) : Int × Bool :=
  if op == 0 && (off == 0 && true) then (IntKind.u32.wrap (a + b), true) else if op == 16 && (off == 0 && true) then (IntKind.u32.wrap (a - b), true) else if op == 32 && (off == 0 && true) then (IntKind.u32.wrap (a * b), true) else if op == 48 && (off == 0 && true) then ((if b == 0 then 0 else IntKind.u32.wrap (a.tdiv b)), true) else if op == 48 && (off == 1 && true) then ((if IntKind.i32.wrap b == 0 then IntKind.u32.wrap 0 else IntKind.u32.wrap (IntKind.i32.wrap ((IntKind.i32.wrap a).tdiv (IntKind.i32.wrap b)))), true) else if op == 144 && (off == 0 && true) then ((if b == 0 then a else a.tmod b), true) else if op == 144 && (off == 1 && true) then ((if IntKind.i32.wrap b == 0 then IntKind.u32.wrap (IntKind.i32.wrap a) else IntKind.u32.wrap ((IntKind.i32.wrap a).tmod (IntKind.i32.wrap b))), true) else if op == 64 && (off == 0 && true) then (Go.bits .or .u32 a b, true) else if op == 80 && (off == 0 && true) then (Go.bits .and .u32 a b, true) else if op == 160 && (off == 0 && true) then (Go.bits .xor .u32 a b, true) else if op == 96 && (off == 0 && true) then (IntKind.u32.wrap (a * 2 ^ min (BitVec.ofInt 64 b % BitVec.ofInt 64 32).toNat IntKind.u32.bits), true) else if op == 112 && (off == 0 && true) then (a.fdiv (2 ^ min (BitVec.ofInt 64 b % BitVec.ofInt 64 32).toNat IntKind.u32.bits), true) else if op == 192 && (off == 0 && true) then (IntKind.u32.wrap ((IntKind.i32.wrap a).fdiv (2 ^ min (BitVec.ofInt 64 b % BitVec.ofInt 64 32).toNat IntKind.i32.bits)), true) else if op == 128 && (off == 0 && true) then (IntKind.u32.wrap (0 - a), true) else if op == 176 && (off == 0 && true) then (b, true) else if op == 176 && (off == 8 && true) then (IntKind.u32.wrap (IntKind.i8.wrap b), true) else if op == 176 && (off == 16 && true) then (IntKind.u32.wrap (IntKind.i16.wrap b), true) else (0, false)
def aluN (op off : Int) (a b : BitVec 64) : BitVec 64 × Bool := (BitVec.ofInt 64 (alu32 op off (IntKind.u32.wrap (uv a)) (IntKind.u32.wrap (uv b))).1, (alu32 op off (IntKind.u32.wrap (uv a)) (IntKind.u32.wrap (uv b))).2)
/-- What an operation makes of two words. -/
def aluG (op off : Int) (w : Bool) (a b : BitVec 64) : BitVec 64 × Bool := if w then aluW op off a b else aluN op off a b
end W
def k_alun : List SV → List Blk → Res := fun args _ => match args with
  | [.int .u8 op, .int .i16 off, .int .u32 a, .int .u32 b, .int .i64 32] => .ok (.tup [.int .u32 (W.alu32 op off a b).1, .bool (W.alu32 op off a b).2]) []
  | _ => .fail
theorem k_alun_ok : CtrOk Tryz.prog Gw 92 k_alun := by
  refine ⟨fun _ _ => by kernel_rfl, fun args M => ?_⟩
  unfold k_alun
  split
  · rename_i op off a b
    refine ctr_flat (Γ := ⟨[], eqs, [], [(130, Tryz.f130, []), (134, Tryz.f134, []), (132, Tryz.f132, []), (136, Tryz.f136, []), (126, Tryz.f126, []), (127, Tryz.f127, []), (128, Tryz.f128, []), (129, Tryz.f129, []), (131, Tryz.f131, []), (133, Tryz.f133, []), (135, Tryz.f135, []), (137, Tryz.f137, []), (138, Tryz.f138, []), (139, Tryz.f139, []), (140, Tryz.f140, []), (141, Tryz.f141, []), (142, Tryz.f142, []), (143, Tryz.f143, []), (144, Tryz.f144, []), (145, Tryz.f145, []), (146, Tryz.f146, [])], []⟩) (sv := .tup [.int .u32 (W.alu32 op off a b).1, .bool (W.alu32 op off a b).2]) st_Gw ⟨okNil, eqs_ok, okNilB, (okConsI Tryz.func130 rfl (by kernel_rfl) (fun _ _ => by kernel_rfl) (okConsI Tryz.func134 rfl (by kernel_rfl) (fun _ _ => by kernel_rfl) (okConsI Tryz.func132 rfl (by kernel_rfl) (fun _ _ => by kernel_rfl) (okConsI Tryz.func136 rfl (by kernel_rfl) (fun _ _ => by kernel_rfl) (okConsI Tryz.func126 rfl (by kernel_rfl) (fun _ _ => by kernel_rfl) (okConsI Tryz.func127 rfl (by kernel_rfl) (fun _ _ => by kernel_rfl) (okConsI Tryz.func128 rfl (by kernel_rfl) (fun _ _ => by kernel_rfl) (okConsI Tryz.func129 rfl (by kernel_rfl) (fun _ _ => by kernel_rfl) (okConsI Tryz.func131 rfl (by kernel_rfl) (fun _ _ => by kernel_rfl) (okConsI Tryz.func133 rfl (by kernel_rfl) (fun _ _ => by kernel_rfl) (okConsI Tryz.func135 rfl (by kernel_rfl) (fun _ _ => by kernel_rfl) (okConsI Tryz.func137 rfl (by kernel_rfl) (fun _ _ => by kernel_rfl) (okConsI Tryz.func138 rfl (by kernel_rfl) (fun _ _ => by kernel_rfl) (okConsI Tryz.func139 rfl (by kernel_rfl) (fun _ _ => by kernel_rfl) (okConsI Tryz.func140 rfl (by kernel_rfl) (fun _ _ => by kernel_rfl) (okConsI Tryz.func141 rfl (by kernel_rfl) (fun _ _ => by kernel_rfl) (okConsI Tryz.func142 rfl (by kernel_rfl) (fun _ _ => by kernel_rfl) (okConsI Tryz.func143 rfl (by kernel_rfl) (fun _ _ => by kernel_rfl) (okConsI Tryz.func144 rfl (by kernel_rfl) (fun _ _ => by kernel_rfl) (okConsI Tryz.func145 rfl (by kernel_rfl) (fun _ _ => by kernel_rfl) (okConsI Tryz.func146 rfl (by kernel_rfl) (fun _ _ => by kernel_rfl) okNilI))))))))))))))))))))), okNilP⟩ Tryz.func92 rfl mixed [(2, 52, [0, 0, 0, 7, 0, 0, 49, 0, 0, 385, 0, 0, 3073, 0, 0, 24577, 0, 0, 196609, 0, 0, 1572865, 0, 0, 12582913, 0, 0, 100663297, 0, 0, 805306369, 0, 0, 6442450945, 0, 0, 51539607553, 0, 0, 412316860417, 0, 0, 3298534883329, 0, 0, 26388279066625, 0, 0, 211106232532993, 0, 0, 1688849860263937, 4503599627370495, 9007199254740991])] (by kernel_rfl) 10000 (by rfl) ?_
    (conv => whnf)
    (repeat' (first | (refine And.intro (fun hb => ?_) (fun hb => ?_) <;> (first | contradiction | (conv => whnf))) | (refine And.intro (a := (_ : Bool) = true) ?_ ?_; rotate_left 1; (conv => whnf))))
    all_goals (first | rfl | trivial | (simp only [bne, *]; rfl) | (simp only [eqv, eqv1, eqv2, W.alu32, *, if_true, if_false, Bool.false_eq_true]; done) | (simp only [eqv, eqv1, eqv2, W.alu32, *, if_true, if_false, Bool.false_eq_true]; first | rfl | exact ⟨rfl, rfl⟩ | exact ⟨⟨rfl, rfl⟩, rfl⟩ | (refine ⟨?_, ?_⟩ <;> first | rfl | trivial | exact ⟨rfl, rfl⟩)))
  · trivial
def k_AluG : List SV → List Blk → Res := fun args _ => match args with
  | [.int .u8 op, .int .i16 off, .tt, .u64 a, .u64 b] => .ok (.tup [.u64 (W.aluG op off true a b).1, .bool (W.aluG op off true a b).2]) []
  | [.int .u8 op, .int .i16 off, .ff, .u64 a, .u64 b] => .ok (.tup [.u64 (W.aluG op off false a b).1, .bool (W.aluG op off false a b).2]) []
  | [.int .u8 op, .int .i16 off, .bool w, .u64 a, .u64 b] => .ok (.tup [.u64 (W.aluG op off w a b).1, .bool (W.aluG op off w a b).2]) []
  | _ => .fail
theorem k_AluG_ok : CtrOk Tryz.prog Gw 50 k_AluG := by
  refine ⟨fun _ _ => by kernel_rfl, fun args M => ?_⟩
  unfold k_AluG
  split
  · rename_i op off a b
    refine ctr_flat (Γ := ⟨[(93, k_alu), (92, k_alun)], eqs, [], [], []⟩) (sv := .tup [.u64 (W.aluG op off true a b).1, .bool (W.aluG op off true a b).2]) st_Gw ⟨(okCons k_alu_ok (okCons k_alun_ok okNil)), eqs_ok, okNilB, okNilI, okNilP⟩ Tryz.func50 rfl mixed [] (by kernel_rfl) 10000 (by rfl) ?_
    (conv => whnf)
    (repeat' (first | (refine And.intro (fun hb => ?_) (fun hb => ?_) <;> (first | contradiction | (conv => whnf))) | (refine And.intro ?_ ?_; rotate_left 1; (conv => whnf))))
    all_goals (first | rfl | trivial | (simp_all [eqv, eqv1, eqv2, W.aluG, W.aluN, W.aluW]; done))
  · rename_i op off a b
    refine ctr_flat (Γ := ⟨[(93, k_alu), (92, k_alun)], eqs, [], [], []⟩) (sv := .tup [.u64 (W.aluG op off false a b).1, .bool (W.aluG op off false a b).2]) st_Gw ⟨(okCons k_alu_ok (okCons k_alun_ok okNil)), eqs_ok, okNilB, okNilI, okNilP⟩ Tryz.func50 rfl mixed [] (by kernel_rfl) 10000 (by rfl) ?_
    (conv => whnf)
    (repeat' (first | (refine And.intro (fun hb => ?_) (fun hb => ?_) <;> (first | contradiction | (conv => whnf))) | (refine And.intro ?_ ?_; rotate_left 1; (conv => whnf))))
    all_goals (first | rfl | trivial | (simp_all [eqv, eqv1, eqv2, W.aluG, W.aluN, W.aluW]; done))
  · rename_i op off w a b
    refine ctr_flat (Γ := ⟨[(93, k_alu), (92, k_alun)], eqs, [], [], []⟩) (sv := .tup [.u64 (W.aluG op off w a b).1, .bool (W.aluG op off w a b).2]) st_Gw ⟨(okCons k_alu_ok (okCons k_alun_ok okNil)), eqs_ok, okNilB, okNilI, okNilP⟩ Tryz.func50 rfl mixed [] (by kernel_rfl) 10000 (by rfl) ?_
    (conv => whnf)
    (repeat' (first | (refine And.intro (fun hb => ?_) (fun hb => ?_) <;> (first | contradiction | (conv => whnf))) | (refine And.intro ?_ ?_; rotate_left 1; (conv => whnf))))
    all_goals (first | rfl | trivial | (simp_all [eqv, eqv1, eqv2, W.aluG, W.aluN, W.aluW]; done))
  · trivial
namespace A
def pickT (b : Bool) (x y : Tn) : Tn := if b then x else y
def pickS (b : Bool) (x y : Sp) : Sp := if b then x else y
def pickC (b : Bool) (x y : Sc) : Sc := if b then x else y
end A
theorem eqv_s (y : Sc) : eqv (scv y) (scv y) := ⟨rfl, rfl, rfl, rfl, ⟨rfl, rfl⟩, ⟨rfl, rfl⟩, trivial⟩
theorem eqv_of {x y : Sc} (h : y = x) : eqv (scv x) (scv y) := h ▸ eqv_s x
namespace A
def moved (off : Int) (b : Sc) : Sc := if off == 0 then b else pickC (C.low b (IntKind.i64.wrap ((IntKind.i64.wrap off).tdiv 8)) true).2 (C.low b (IntKind.i64.wrap ((IntKind.i64.wrap off).tdiv 8)) true).1 C.unknown
def quot (op off : Int) (a b : Sc) : Sc := if off == 0 then (if (C.one b).2 then (if (C.one b).1 == BitVec.ofInt 64 0 then upTo a.s.hi else ofm any (sdo op a.s b.s)) else upTo a.s.hi) else C.unknown
def rem (off : Int) (a b : Sc) : Sc := if off == 0 then (if (C.one b).2 then (if (C.one b).1 == BitVec.ofInt 64 0 then upTo a.s.hi else if decide (a.s.hi < (C.one b).1) then a else upTo ((C.one b).1 - BitVec.ofInt 64 1)) else upTo a.s.hi) else C.unknown
def width (w : Bool) : BitVec 64 := if w then BitVec.ofInt 64 64 else BitVec.ofInt 64 32
def sby (w : Bool) (b : Sc) : Int := sv ((C.one b).1 % width w)
def shiftA (op : Int) (w : Bool) (a b : Sc) : Sc := if (C.one b).2 then (if w then shifted op a (sby w b) else if op == 192 then (if decide (a.s.hi < BitVec.ofInt 64 2147483648) then shifted 112 a (sby w b) else C.unknown) else shifted op a (sby w b)) else C.unknown
def exactB (op off : Int) (w : Bool) (a b : Sc) : Bool := (C.one a).2 && ((C.one b).2 && (W.aluG op off w (C.one a).1 (C.one b).1).2)
def exactV (op off : Int) (w : Bool) (a b : Sc) : Sc := C.const (W.aluG op off w (C.one a).1 (C.one b).1).1
section
variable {op off : Int} {a b : Sc} {w : Bool}
theorem mov_0 (h : (off == 0) = true) : moved off b = b := by unfold moved; rw [if_pos h]
theorem mov_1 (h : (off == 0) = false) : moved off b = pickC (C.low b (IntKind.i64.wrap ((IntKind.i64.wrap off).tdiv 8)) true).2 (C.low b (IntKind.i64.wrap ((IntKind.i64.wrap off).tdiv 8)) true).1 C.unknown := by unfold moved; rw [if_neg (by rw [h]; decide)]
theorem quo_u (h : (off == 0) = false) : quot op off a b = C.unknown := by unfold quot; rw [if_neg (by rw [h]; decide)]
theorem quo_1 (h : (off == 0) = true) (h1 : (C.one b).2 = true) (h2 : ((C.one b).1 == BitVec.ofInt 64 0) = false) : quot op off a b = ofm any (sdo op a.s b.s) := by unfold quot; rw [if_pos h, if_pos h1, if_neg (by rw [h2]; decide)]
theorem quo_2 (h : (off == 0) = true) (h1 : (C.one b).2 = true) (h2 : ((C.one b).1 == BitVec.ofInt 64 0) = true) : quot op off a b = upTo a.s.hi := by unfold quot; rw [if_pos h, if_pos h1, if_pos h2]
theorem quo_3 (h : (off == 0) = true) (h1 : (C.one b).2 = false) : quot op off a b = upTo a.s.hi := by unfold quot; rw [if_pos h, if_neg (by rw [h1]; decide)]
theorem rem_u (h : (off == 0) = false) : rem off a b = C.unknown := by unfold rem; rw [if_neg (by rw [h]; decide)]
theorem rem_1 (h : (off == 0) = true) (h1 : (C.one b).2 = true) (h2 : ((C.one b).1 == BitVec.ofInt 64 0) = false) (h3 : decide (a.s.hi < (C.one b).1) = true) : rem off a b = a := by unfold rem; rw [if_pos h, if_pos h1, if_neg (by rw [h2]; decide), if_pos h3]
theorem rem_2 (h : (off == 0) = true) (h1 : (C.one b).2 = true) (h2 : ((C.one b).1 == BitVec.ofInt 64 0) = false) (h3 : decide (a.s.hi < (C.one b).1) = false) : rem off a b = upTo ((C.one b).1 - BitVec.ofInt 64 1) := by unfold rem; rw [if_pos h, if_pos h1, if_neg (by rw [h2]; decide), if_neg (by rw [h3]; decide)]
theorem rem_3 (h : (off == 0) = true) (h1 : (C.one b).2 = true) (h2 : ((C.one b).1 == BitVec.ofInt 64 0) = true) : rem off a b = upTo a.s.hi := by unfold rem; rw [if_pos h, if_pos h1, if_pos h2]
theorem rem_4 (h : (off == 0) = true) (h1 : (C.one b).2 = false) : rem off a b = upTo a.s.hi := by unfold rem; rw [if_pos h, if_neg (by rw [h1]; decide)]
theorem shi_u (h1 : (C.one b).2 = false) : shiftA op w a b = C.unknown := by unfold shiftA; rw [if_neg (by rw [h1]; decide)]
theorem shi_w (h1 : (C.one b).2 = true) : shiftA op true a b = shifted op a (sby true b) := by unfold shiftA; rw [if_pos h1, if_pos rfl]
theorem shi_n (h1 : (C.one b).2 = true) (h2 : (op == 192) = false) : shiftA op false a b = shifted op a (sby false b) := by unfold shiftA; rw [if_pos h1, if_neg (by decide), if_neg (by rw [h2]; decide)]
theorem shi_a (h1 : (C.one b).2 = true) (h2 : (op == 192) = true) (h3 : decide (a.s.hi < BitVec.ofInt 64 2147483648) = true) : shiftA op false a b = shifted 112 a (sby false b) := by unfold shiftA; rw [if_pos h1, if_neg (by decide), if_pos h2, if_pos h3]
theorem shi_b (h1 : (C.one b).2 = true) (h2 : (op == 192) = true) (h3 : decide (a.s.hi < BitVec.ofInt 64 2147483648) = false) : shiftA op false a b = C.unknown := by unfold shiftA; rw [if_pos h1, if_neg (by decide), if_pos h2, if_neg (by rw [h3]; decide)]
end
end A
namespace A
/-- What is made of two scalars. -/
def made (op off : Int) (w : Bool) (a b : Sc) : Sc :=
  if exactB op off w a b then exactV op off w a b else if op == 128 then both 16 (C.const (BitVec.ofInt 64 0)) a else if op == 176 then moved off b else if op == 48 then quot op off a b else if op == 144 then rem off a b else if op == 96 then shiftA op w a b else if op == 112 then shiftA op w a b else if op == 192 then shiftA op w a b else both op a b
section
variable {op off : Int} {a b : Sc} {w : Bool}
theorem mk_e (h : exactB op off w a b = true) : made op off w a b = exactV op off w a b := by unfold made; rw [if_pos h]
variable (h : exactB op off w a b = false)
include h
theorem mk_neg (h1 : (op == 128) = true) : made op off w a b = both 16 (C.const (BitVec.ofInt 64 0)) a := by unfold made; simp [h, h1]
theorem mk_mov (h1 : (op == 128) = false) (h2 : (op == 176) = true) : made op off w a b = moved off b := by unfold made; simp [h, h1, h2]
theorem mk_div (h1 : (op == 128) = false) (h2 : (op == 176) = false) (h3 : (op == 48) = true) : made op off w a b = quot op off a b := by unfold made; simp [h, h1, h2, h3]
theorem mk_mod (h1 : (op == 128) = false) (h2 : (op == 176) = false) (h3 : (op == 48) = false) (h4 : (op == 144) = true) : made op off w a b = rem off a b := by unfold made; simp [h, h1, h2, h3, h4]
theorem mk_lsh (h1 : (op == 128) = false) (h2 : (op == 176) = false) (h3 : (op == 48) = false) (h4 : (op == 144) = false) (h5 : (op == 96) = true) : made op off w a b = shiftA op w a b := by unfold made; simp [h, h1, h2, h3, h4, h5]
theorem mk_rsh (h1 : (op == 128) = false) (h2 : (op == 176) = false) (h3 : (op == 48) = false) (h4 : (op == 144) = false) (h5 : (op == 96) = false) (h6 : (op == 112) = true) : made op off w a b = shiftA op w a b := by unfold made; simp [h, h1, h2, h3, h4, h5, h6]
theorem mk_ars (h1 : (op == 128) = false) (h2 : (op == 176) = false) (h3 : (op == 48) = false) (h4 : (op == 144) = false) (h5 : (op == 96) = false) (h6 : (op == 112) = false) (h7 : (op == 192) = true) : made op off w a b = shiftA op w a b := by unfold made; simp [h, h1, h2, h3, h4, h5, h6, h7]
theorem mk_two (h1 : (op == 128) = false) (h2 : (op == 176) = false) (h3 : (op == 48) = false) (h4 : (op == 144) = false) (h5 : (op == 96) = false) (h6 : (op == 112) = false) (h7 : (op == 192) = false) : made op off w a b = both op a b := by unfold made; simp [h, h1, h2, h3, h4, h5, h6, h7]
end
end A
def k_gotC : List SV → List Blk → Res := fun args _ => match args with
  | [.agg [.u64 av, .u64 am, .u64 alo, .u64 ahi, .int .i64 asl, .int .i64 ash], .bool b] => .ok (.agg [.u64 av, .u64 am, .u64 alo, .u64 ahi, .int .i64 asl, .int .i64 ash, .bool b]) []
  | [.agg [.u64 av, .u64 am, .u64 alo, .u64 ahi, .int .i64 asl, .int .i64 ash], .tt] => .ok (.agg [.u64 av, .u64 am, .u64 alo, .u64 ahi, .int .i64 asl, .int .i64 ash, .tt]) []
  | [.agg [.u64 av, .u64 am, .u64 alo, .u64 ahi, .int .i64 asl, .int .i64 ash], .ff] => .ok (.agg [.u64 av, .u64 am, .u64 alo, .u64 ahi, .int .i64 asl, .int .i64 ash, .ff]) []
  | _ => .fail
theorem k_gotC_ok : CtrOk Tryz.prog Gw 95 k_gotC := by
  refine ⟨fun _ _ => by kernel_rfl, fun args M => ?_⟩
  unfold k_gotC
  split
  · rename_i av am alo ahi asl ash b
    refine ctr_flat (Γ := ⟨[], eqs, [], [], []⟩) (sv := .agg [.u64 av, .u64 am, .u64 alo, .u64 ahi, .int .i64 asl, .int .i64 ash, .bool b]) st_Gw ⟨okNil, eqs_ok, okNilB, okNilI, okNilP⟩ Tryz.func95 rfl mixed [] (by kernel_rfl) 10000 (by rfl) ?_
    (conv => whnf)
    (repeat' (first | (refine step_t (by first | rfl | assumption) ?_; (conv => whnf)) | (refine step_f (by first | rfl | assumption) ?_; (conv => whnf)) | (refine step_nt (by assumption) ?_; (conv => whnf)) | (refine step_nf (by assumption) ?_; (conv => whnf)) | (refine step_n (fun hb => ?_) (fun hb => ?_) <;> (first | contradiction | (conv => whnf))) | (refine And.intro (fun hb => ?_) (fun hb => ?_) <;> (first | contradiction | (conv => whnf))) | (refine And.intro (a := (_ : Bool) = true) ?_ ?_; rotate_left 1; (conv => whnf))))
    all_goals (first | rfl | trivial | assumption | exact ⟨rfl, rfl, trivial⟩ | (simp only [eqv, eqv1, eqv2, eqvL1, eqvL2, and_self]; done))
  · rename_i av am alo ahi asl ash
    refine ctr_flat (Γ := ⟨[], eqs, [], [], []⟩) (sv := .agg [.u64 av, .u64 am, .u64 alo, .u64 ahi, .int .i64 asl, .int .i64 ash, .tt]) st_Gw ⟨okNil, eqs_ok, okNilB, okNilI, okNilP⟩ Tryz.func95 rfl mixed [] (by kernel_rfl) 10000 (by rfl) ?_
    (conv => whnf)
    (repeat' (first | (refine step_t (by first | rfl | assumption) ?_; (conv => whnf)) | (refine step_f (by first | rfl | assumption) ?_; (conv => whnf)) | (refine step_nt (by assumption) ?_; (conv => whnf)) | (refine step_nf (by assumption) ?_; (conv => whnf)) | (refine step_n (fun hb => ?_) (fun hb => ?_) <;> (first | contradiction | (conv => whnf))) | (refine And.intro (fun hb => ?_) (fun hb => ?_) <;> (first | contradiction | (conv => whnf))) | (refine And.intro (a := (_ : Bool) = true) ?_ ?_; rotate_left 1; (conv => whnf))))
    all_goals (first | rfl | trivial | assumption | exact ⟨rfl, rfl, trivial⟩ | (simp only [eqv, eqv1, eqv2, eqvL1, eqvL2, and_self]; done))
  · rename_i av am alo ahi asl ash
    refine ctr_flat (Γ := ⟨[], eqs, [], [], []⟩) (sv := .agg [.u64 av, .u64 am, .u64 alo, .u64 ahi, .int .i64 asl, .int .i64 ash, .ff]) st_Gw ⟨okNil, eqs_ok, okNilB, okNilI, okNilP⟩ Tryz.func95 rfl mixed [] (by kernel_rfl) 10000 (by rfl) ?_
    (conv => whnf)
    (repeat' (first | (refine step_t (by first | rfl | assumption) ?_; (conv => whnf)) | (refine step_f (by first | rfl | assumption) ?_; (conv => whnf)) | (refine step_nt (by assumption) ?_; (conv => whnf)) | (refine step_nf (by assumption) ?_; (conv => whnf)) | (refine step_n (fun hb => ?_) (fun hb => ?_) <;> (first | contradiction | (conv => whnf))) | (refine And.intro (fun hb => ?_) (fun hb => ?_) <;> (first | contradiction | (conv => whnf))) | (refine And.intro (a := (_ : Bool) = true) ?_ ?_; rotate_left 1; (conv => whnf))))
    all_goals (first | rfl | trivial | assumption | exact ⟨rfl, rfl, trivial⟩ | (simp only [eqv, eqv1, eqv2, eqvL1, eqvL2, and_self]; done))
  · trivial
def k_orC : List SV → List Blk → Res := fun args _ => match args with
  | [.agg [.u64 av, .u64 am, .u64 alo, .u64 ahi, .int .i64 asl, .int .i64 ash, .bool b], .agg [.u64 cv, .u64 cm, .u64 clo, .u64 chi, .int .i64 csl, .int .i64 csh]] => .ok (scv (A.pickC b (⟨⟨av, am⟩, ⟨alo, ahi, asl, ash⟩⟩ : Sc) (⟨⟨cv, cm⟩, ⟨clo, chi, csl, csh⟩⟩ : Sc))) []
  | [.agg [.u64 av, .u64 am, .u64 alo, .u64 ahi, .int .i64 asl, .int .i64 ash, .tt], .agg [.u64 cv, .u64 cm, .u64 clo, .u64 chi, .int .i64 csl, .int .i64 csh]] => .ok (scv (A.pickC true (⟨⟨av, am⟩, ⟨alo, ahi, asl, ash⟩⟩ : Sc) (⟨⟨cv, cm⟩, ⟨clo, chi, csl, csh⟩⟩ : Sc))) []
  | [.agg [.u64 av, .u64 am, .u64 alo, .u64 ahi, .int .i64 asl, .int .i64 ash, .ff], .agg [.u64 cv, .u64 cm, .u64 clo, .u64 chi, .int .i64 csl, .int .i64 csh]] => .ok (scv (A.pickC false (⟨⟨av, am⟩, ⟨alo, ahi, asl, ash⟩⟩ : Sc) (⟨⟨cv, cm⟩, ⟨clo, chi, csl, csh⟩⟩ : Sc))) []
  | _ => .fail
theorem k_orC_ok : CtrOk Tryz.prog Gw 97 k_orC := by
  refine ⟨fun _ _ => by kernel_rfl, fun args M => ?_⟩
  unfold k_orC
  split
  · rename_i av am alo ahi asl ash b cv cm clo chi csl csh
    refine ctr_flat (Γ := ⟨[], eqs, [], [], []⟩) (sv := scv (A.pickC b (⟨⟨av, am⟩, ⟨alo, ahi, asl, ash⟩⟩ : Sc) (⟨⟨cv, cm⟩, ⟨clo, chi, csl, csh⟩⟩ : Sc))) st_Gw ⟨okNil, eqs_ok, okNilB, okNilI, okNilP⟩ Tryz.func97 rfl mixed [] (by kernel_rfl) 10000 (by rfl) ?_
    (conv => whnf)
    (repeat' (first | (refine step_t (by first | rfl | assumption) ?_; (conv => whnf)) | (refine step_f (by first | rfl | assumption) ?_; (conv => whnf)) | (refine step_nt (by assumption) ?_; (conv => whnf)) | (refine step_nf (by assumption) ?_; (conv => whnf)) | (refine step_n (fun hb => ?_) (fun hb => ?_) <;> (first | contradiction | (conv => whnf))) | (refine And.intro (fun hb => ?_) (fun hb => ?_) <;> (first | contradiction | (conv => whnf))) | (refine And.intro (a := (_ : Bool) = true) ?_ ?_; rotate_left 1; (conv => whnf))))
    all_goals (first | rfl | trivial | assumption | (simp only [eqv, eqv1, eqv2, eqvL1, eqvL2, A.pickC, *, if_true, if_false, Bool.false_eq_true, and_self]; done))
  · rename_i av am alo ahi asl ash cv cm clo chi csl csh
    refine ctr_flat (Γ := ⟨[], eqs, [], [], []⟩) (sv := scv (A.pickC true (⟨⟨av, am⟩, ⟨alo, ahi, asl, ash⟩⟩ : Sc) (⟨⟨cv, cm⟩, ⟨clo, chi, csl, csh⟩⟩ : Sc))) st_Gw ⟨okNil, eqs_ok, okNilB, okNilI, okNilP⟩ Tryz.func97 rfl mixed [] (by kernel_rfl) 10000 (by rfl) ?_
    (conv => whnf)
    (repeat' (first | (refine step_t (by first | rfl | assumption) ?_; (conv => whnf)) | (refine step_f (by first | rfl | assumption) ?_; (conv => whnf)) | (refine step_nt (by assumption) ?_; (conv => whnf)) | (refine step_nf (by assumption) ?_; (conv => whnf)) | (refine step_n (fun hb => ?_) (fun hb => ?_) <;> (first | contradiction | (conv => whnf))) | (refine And.intro (fun hb => ?_) (fun hb => ?_) <;> (first | contradiction | (conv => whnf))) | (refine And.intro (a := (_ : Bool) = true) ?_ ?_; rotate_left 1; (conv => whnf))))
    all_goals (first | rfl | trivial | assumption | (simp only [eqv, eqv1, eqv2, eqvL1, eqvL2, A.pickC, *, if_true, if_false, Bool.false_eq_true, and_self]; done))
  · rename_i av am alo ahi asl ash cv cm clo chi csl csh
    refine ctr_flat (Γ := ⟨[], eqs, [], [], []⟩) (sv := scv (A.pickC false (⟨⟨av, am⟩, ⟨alo, ahi, asl, ash⟩⟩ : Sc) (⟨⟨cv, cm⟩, ⟨clo, chi, csl, csh⟩⟩ : Sc))) st_Gw ⟨okNil, eqs_ok, okNilB, okNilI, okNilP⟩ Tryz.func97 rfl mixed [] (by kernel_rfl) 10000 (by rfl) ?_
    (conv => whnf)
    (repeat' (first | (refine step_t (by first | rfl | assumption) ?_; (conv => whnf)) | (refine step_f (by first | rfl | assumption) ?_; (conv => whnf)) | (refine step_nt (by assumption) ?_; (conv => whnf)) | (refine step_nf (by assumption) ?_; (conv => whnf)) | (refine step_n (fun hb => ?_) (fun hb => ?_) <;> (first | contradiction | (conv => whnf))) | (refine And.intro (fun hb => ?_) (fun hb => ?_) <;> (first | contradiction | (conv => whnf))) | (refine And.intro (a := (_ : Bool) = true) ?_ ?_; rotate_left 1; (conv => whnf))))
    all_goals (first | rfl | trivial | assumption | (simp only [eqv, eqv1, eqv2, eqvL1, eqvL2, A.pickC, *, if_true, if_false, Bool.false_eq_true, and_self]; done))
  · trivial
def k_gotT : List SV → List Blk → Res := fun args _ => match args with
  | [.agg [.u64 av, .u64 am], .bool b] => .ok (.agg [.u64 av, .u64 am, .bool b]) []
  | [.agg [.u64 av, .u64 am], .tt] => .ok (.agg [.u64 av, .u64 am, .tt]) []
  | [.agg [.u64 av, .u64 am], .ff] => .ok (.agg [.u64 av, .u64 am, .ff]) []
  | _ => .fail
theorem k_gotT_ok : CtrOk Tryz.prog Gw 203 k_gotT := by
  refine ⟨fun _ _ => by kernel_rfl, fun args M => ?_⟩
  unfold k_gotT
  split
  · rename_i av am b
    refine ctr_flat (Γ := ⟨[], eqs, [], [], []⟩) (sv := .agg [.u64 av, .u64 am, .bool b]) st_Gw ⟨okNil, eqs_ok, okNilB, okNilI, okNilP⟩ Tryz.func203 rfl mixed [] (by kernel_rfl) 10000 (by rfl) ?_
    (conv => whnf)
    (repeat' (first | (refine step_t (by first | rfl | assumption) ?_; (conv => whnf)) | (refine step_f (by first | rfl | assumption) ?_; (conv => whnf)) | (refine step_nt (by assumption) ?_; (conv => whnf)) | (refine step_nf (by assumption) ?_; (conv => whnf)) | (refine step_n (fun hb => ?_) (fun hb => ?_) <;> (first | contradiction | (conv => whnf))) | (refine And.intro (fun hb => ?_) (fun hb => ?_) <;> (first | contradiction | (conv => whnf))) | (refine And.intro (a := (_ : Bool) = true) ?_ ?_; rotate_left 1; (conv => whnf))))
    all_goals (first | rfl | trivial | assumption | exact ⟨rfl, rfl, trivial⟩ | (simp only [eqv, eqv1, eqv2, eqvL1, eqvL2, and_self]; done))
  · rename_i av am
    refine ctr_flat (Γ := ⟨[], eqs, [], [], []⟩) (sv := .agg [.u64 av, .u64 am, .tt]) st_Gw ⟨okNil, eqs_ok, okNilB, okNilI, okNilP⟩ Tryz.func203 rfl mixed [] (by kernel_rfl) 10000 (by rfl) ?_
    (conv => whnf)
    (repeat' (first | (refine step_t (by first | rfl | assumption) ?_; (conv => whnf)) | (refine step_f (by first | rfl | assumption) ?_; (conv => whnf)) | (refine step_nt (by assumption) ?_; (conv => whnf)) | (refine step_nf (by assumption) ?_; (conv => whnf)) | (refine step_n (fun hb => ?_) (fun hb => ?_) <;> (first | contradiction | (conv => whnf))) | (refine And.intro (fun hb => ?_) (fun hb => ?_) <;> (first | contradiction | (conv => whnf))) | (refine And.intro (a := (_ : Bool) = true) ?_ ?_; rotate_left 1; (conv => whnf))))
    all_goals (first | rfl | trivial | assumption | exact ⟨rfl, rfl, trivial⟩ | (simp only [eqv, eqv1, eqv2, eqvL1, eqvL2, and_self]; done))
  · rename_i av am
    refine ctr_flat (Γ := ⟨[], eqs, [], [], []⟩) (sv := .agg [.u64 av, .u64 am, .ff]) st_Gw ⟨okNil, eqs_ok, okNilB, okNilI, okNilP⟩ Tryz.func203 rfl mixed [] (by kernel_rfl) 10000 (by rfl) ?_
    (conv => whnf)
    (repeat' (first | (refine step_t (by first | rfl | assumption) ?_; (conv => whnf)) | (refine step_f (by first | rfl | assumption) ?_; (conv => whnf)) | (refine step_nt (by assumption) ?_; (conv => whnf)) | (refine step_nf (by assumption) ?_; (conv => whnf)) | (refine step_n (fun hb => ?_) (fun hb => ?_) <;> (first | contradiction | (conv => whnf))) | (refine And.intro (fun hb => ?_) (fun hb => ?_) <;> (first | contradiction | (conv => whnf))) | (refine And.intro (a := (_ : Bool) = true) ?_ ?_; rotate_left 1; (conv => whnf))))
    all_goals (first | rfl | trivial | assumption | exact ⟨rfl, rfl, trivial⟩ | (simp only [eqv, eqv1, eqv2, eqvL1, eqvL2, and_self]; done))
  · trivial
def k_orT : List SV → List Blk → Res := fun args _ => match args with
  | [.agg [.u64 av, .u64 am, .bool b], .agg [.u64 cv, .u64 cm]] => .ok (tsv (A.pickT b (⟨av, am⟩ : Tn) (⟨cv, cm⟩ : Tn))) []
  | [.agg [.u64 av, .u64 am, .tt], .agg [.u64 cv, .u64 cm]] => .ok (tsv (A.pickT true (⟨av, am⟩ : Tn) (⟨cv, cm⟩ : Tn))) []
  | [.agg [.u64 av, .u64 am, .ff], .agg [.u64 cv, .u64 cm]] => .ok (tsv (A.pickT false (⟨av, am⟩ : Tn) (⟨cv, cm⟩ : Tn))) []
  | _ => .fail
theorem k_orT_ok : CtrOk Tryz.prog Gw 205 k_orT := by
  refine ⟨fun _ _ => by kernel_rfl, fun args M => ?_⟩
  unfold k_orT
  split
  · rename_i av am b cv cm
    refine ctr_flat (Γ := ⟨[], eqs, [], [], []⟩) (sv := tsv (A.pickT b (⟨av, am⟩ : Tn) (⟨cv, cm⟩ : Tn))) st_Gw ⟨okNil, eqs_ok, okNilB, okNilI, okNilP⟩ Tryz.func205 rfl mixed [] (by kernel_rfl) 10000 (by rfl) ?_
    (conv => whnf)
    (repeat' (first | (refine step_t (by first | rfl | assumption) ?_; (conv => whnf)) | (refine step_f (by first | rfl | assumption) ?_; (conv => whnf)) | (refine step_nt (by assumption) ?_; (conv => whnf)) | (refine step_nf (by assumption) ?_; (conv => whnf)) | (refine step_n (fun hb => ?_) (fun hb => ?_) <;> (first | contradiction | (conv => whnf))) | (refine And.intro (fun hb => ?_) (fun hb => ?_) <;> (first | contradiction | (conv => whnf))) | (refine And.intro (a := (_ : Bool) = true) ?_ ?_; rotate_left 1; (conv => whnf))))
    all_goals (first | rfl | trivial | assumption | (simp only [eqv, eqv1, eqv2, eqvL1, eqvL2, A.pickT, *, if_true, if_false, Bool.false_eq_true, and_self]; done))
  · rename_i av am cv cm
    refine ctr_flat (Γ := ⟨[], eqs, [], [], []⟩) (sv := tsv (A.pickT true (⟨av, am⟩ : Tn) (⟨cv, cm⟩ : Tn))) st_Gw ⟨okNil, eqs_ok, okNilB, okNilI, okNilP⟩ Tryz.func205 rfl mixed [] (by kernel_rfl) 10000 (by rfl) ?_
    (conv => whnf)
    (repeat' (first | (refine step_t (by first | rfl | assumption) ?_; (conv => whnf)) | (refine step_f (by first | rfl | assumption) ?_; (conv => whnf)) | (refine step_nt (by assumption) ?_; (conv => whnf)) | (refine step_nf (by assumption) ?_; (conv => whnf)) | (refine step_n (fun hb => ?_) (fun hb => ?_) <;> (first | contradiction | (conv => whnf))) | (refine And.intro (fun hb => ?_) (fun hb => ?_) <;> (first | contradiction | (conv => whnf))) | (refine And.intro (a := (_ : Bool) = true) ?_ ?_; rotate_left 1; (conv => whnf))))
    all_goals (first | rfl | trivial | assumption | (simp only [eqv, eqv1, eqv2, eqvL1, eqvL2, A.pickT, *, if_true, if_false, Bool.false_eq_true, and_self]; done))
  · rename_i av am cv cm
    refine ctr_flat (Γ := ⟨[], eqs, [], [], []⟩) (sv := tsv (A.pickT false (⟨av, am⟩ : Tn) (⟨cv, cm⟩ : Tn))) st_Gw ⟨okNil, eqs_ok, okNilB, okNilI, okNilP⟩ Tryz.func205 rfl mixed [] (by kernel_rfl) 10000 (by rfl) ?_
    (conv => whnf)
    (repeat' (first | (refine step_t (by first | rfl | assumption) ?_; (conv => whnf)) | (refine step_f (by first | rfl | assumption) ?_; (conv => whnf)) | (refine step_nt (by assumption) ?_; (conv => whnf)) | (refine step_nf (by assumption) ?_; (conv => whnf)) | (refine step_n (fun hb => ?_) (fun hb => ?_) <;> (first | contradiction | (conv => whnf))) | (refine And.intro (fun hb => ?_) (fun hb => ?_) <;> (first | contradiction | (conv => whnf))) | (refine And.intro (a := (_ : Bool) = true) ?_ ?_; rotate_left 1; (conv => whnf))))
    all_goals (first | rfl | trivial | assumption | (simp only [eqv, eqv1, eqv2, eqvL1, eqvL2, A.pickT, *, if_true, if_false, Bool.false_eq_true, and_self]; done))
  · trivial
def k_gotS : List SV → List Blk → Res := fun args _ => match args with
  | [.agg [.u64 alo, .u64 ahi, .int .i64 asl, .int .i64 ash], .bool b] => .ok (.agg [.u64 alo, .u64 ahi, .int .i64 asl, .int .i64 ash, .bool b]) []
  | [.agg [.u64 alo, .u64 ahi, .int .i64 asl, .int .i64 ash], .tt] => .ok (.agg [.u64 alo, .u64 ahi, .int .i64 asl, .int .i64 ash, .tt]) []
  | [.agg [.u64 alo, .u64 ahi, .int .i64 asl, .int .i64 ash], .ff] => .ok (.agg [.u64 alo, .u64 ahi, .int .i64 asl, .int .i64 ash, .ff]) []
  | _ => .fail
theorem k_gotS_ok : CtrOk Tryz.prog Gw 206 k_gotS := by
  refine ⟨fun _ _ => by kernel_rfl, fun args M => ?_⟩
  unfold k_gotS
  split
  · rename_i alo ahi asl ash b
    refine ctr_flat (Γ := ⟨[], eqs, [], [], []⟩) (sv := .agg [.u64 alo, .u64 ahi, .int .i64 asl, .int .i64 ash, .bool b]) st_Gw ⟨okNil, eqs_ok, okNilB, okNilI, okNilP⟩ Tryz.func206 rfl mixed [] (by kernel_rfl) 10000 (by rfl) ?_
    (conv => whnf)
    (repeat' (first | (refine step_t (by first | rfl | assumption) ?_; (conv => whnf)) | (refine step_f (by first | rfl | assumption) ?_; (conv => whnf)) | (refine step_nt (by assumption) ?_; (conv => whnf)) | (refine step_nf (by assumption) ?_; (conv => whnf)) | (refine step_n (fun hb => ?_) (fun hb => ?_) <;> (first | contradiction | (conv => whnf))) | (refine And.intro (fun hb => ?_) (fun hb => ?_) <;> (first | contradiction | (conv => whnf))) | (refine And.intro (a := (_ : Bool) = true) ?_ ?_; rotate_left 1; (conv => whnf))))
    all_goals (first | rfl | trivial | assumption | exact ⟨rfl, rfl, trivial⟩ | (simp only [eqv, eqv1, eqv2, eqvL1, eqvL2, and_self]; done))
  · rename_i alo ahi asl ash
    refine ctr_flat (Γ := ⟨[], eqs, [], [], []⟩) (sv := .agg [.u64 alo, .u64 ahi, .int .i64 asl, .int .i64 ash, .tt]) st_Gw ⟨okNil, eqs_ok, okNilB, okNilI, okNilP⟩ Tryz.func206 rfl mixed [] (by kernel_rfl) 10000 (by rfl) ?_
    (conv => whnf)
    (repeat' (first | (refine step_t (by first | rfl | assumption) ?_; (conv => whnf)) | (refine step_f (by first | rfl | assumption) ?_; (conv => whnf)) | (refine step_nt (by assumption) ?_; (conv => whnf)) | (refine step_nf (by assumption) ?_; (conv => whnf)) | (refine step_n (fun hb => ?_) (fun hb => ?_) <;> (first | contradiction | (conv => whnf))) | (refine And.intro (fun hb => ?_) (fun hb => ?_) <;> (first | contradiction | (conv => whnf))) | (refine And.intro (a := (_ : Bool) = true) ?_ ?_; rotate_left 1; (conv => whnf))))
    all_goals (first | rfl | trivial | assumption | exact ⟨rfl, rfl, trivial⟩ | (simp only [eqv, eqv1, eqv2, eqvL1, eqvL2, and_self]; done))
  · rename_i alo ahi asl ash
    refine ctr_flat (Γ := ⟨[], eqs, [], [], []⟩) (sv := .agg [.u64 alo, .u64 ahi, .int .i64 asl, .int .i64 ash, .ff]) st_Gw ⟨okNil, eqs_ok, okNilB, okNilI, okNilP⟩ Tryz.func206 rfl mixed [] (by kernel_rfl) 10000 (by rfl) ?_
    (conv => whnf)
    (repeat' (first | (refine step_t (by first | rfl | assumption) ?_; (conv => whnf)) | (refine step_f (by first | rfl | assumption) ?_; (conv => whnf)) | (refine step_nt (by assumption) ?_; (conv => whnf)) | (refine step_nf (by assumption) ?_; (conv => whnf)) | (refine step_n (fun hb => ?_) (fun hb => ?_) <;> (first | contradiction | (conv => whnf))) | (refine And.intro (fun hb => ?_) (fun hb => ?_) <;> (first | contradiction | (conv => whnf))) | (refine And.intro (a := (_ : Bool) = true) ?_ ?_; rotate_left 1; (conv => whnf))))
    all_goals (first | rfl | trivial | assumption | exact ⟨rfl, rfl, trivial⟩ | (simp only [eqv, eqv1, eqv2, eqvL1, eqvL2, and_self]; done))
  · trivial
def k_orS : List SV → List Blk → Res := fun args _ => match args with
  | [.agg [.u64 alo, .u64 ahi, .int .i64 asl, .int .i64 ash, .bool b], .agg [.u64 clo, .u64 chi, .int .i64 csl, .int .i64 csh]] => .ok (spv (A.pickS b (⟨alo, ahi, asl, ash⟩ : Sp) (⟨clo, chi, csl, csh⟩ : Sp))) []
  | [.agg [.u64 alo, .u64 ahi, .int .i64 asl, .int .i64 ash, .tt], .agg [.u64 clo, .u64 chi, .int .i64 csl, .int .i64 csh]] => .ok (spv (A.pickS true (⟨alo, ahi, asl, ash⟩ : Sp) (⟨clo, chi, csl, csh⟩ : Sp))) []
  | [.agg [.u64 alo, .u64 ahi, .int .i64 asl, .int .i64 ash, .ff], .agg [.u64 clo, .u64 chi, .int .i64 csl, .int .i64 csh]] => .ok (spv (A.pickS false (⟨alo, ahi, asl, ash⟩ : Sp) (⟨clo, chi, csl, csh⟩ : Sp))) []
  | _ => .fail
theorem k_orS_ok : CtrOk Tryz.prog Gw 208 k_orS := by
  refine ⟨fun _ _ => by kernel_rfl, fun args M => ?_⟩
  unfold k_orS
  split
  · rename_i alo ahi asl ash b clo chi csl csh
    refine ctr_flat (Γ := ⟨[], eqs, [], [], []⟩) (sv := spv (A.pickS b (⟨alo, ahi, asl, ash⟩ : Sp) (⟨clo, chi, csl, csh⟩ : Sp))) st_Gw ⟨okNil, eqs_ok, okNilB, okNilI, okNilP⟩ Tryz.func208 rfl mixed [] (by kernel_rfl) 10000 (by rfl) ?_
    (conv => whnf)
    (repeat' (first | (refine step_t (by first | rfl | assumption) ?_; (conv => whnf)) | (refine step_f (by first | rfl | assumption) ?_; (conv => whnf)) | (refine step_nt (by assumption) ?_; (conv => whnf)) | (refine step_nf (by assumption) ?_; (conv => whnf)) | (refine step_n (fun hb => ?_) (fun hb => ?_) <;> (first | contradiction | (conv => whnf))) | (refine And.intro (fun hb => ?_) (fun hb => ?_) <;> (first | contradiction | (conv => whnf))) | (refine And.intro (a := (_ : Bool) = true) ?_ ?_; rotate_left 1; (conv => whnf))))
    all_goals (first | rfl | trivial | assumption | (simp only [eqv, eqv1, eqv2, eqvL1, eqvL2, A.pickS, *, if_true, if_false, Bool.false_eq_true, and_self]; done))
  · rename_i alo ahi asl ash clo chi csl csh
    refine ctr_flat (Γ := ⟨[], eqs, [], [], []⟩) (sv := spv (A.pickS true (⟨alo, ahi, asl, ash⟩ : Sp) (⟨clo, chi, csl, csh⟩ : Sp))) st_Gw ⟨okNil, eqs_ok, okNilB, okNilI, okNilP⟩ Tryz.func208 rfl mixed [] (by kernel_rfl) 10000 (by rfl) ?_
    (conv => whnf)
    (repeat' (first | (refine step_t (by first | rfl | assumption) ?_; (conv => whnf)) | (refine step_f (by first | rfl | assumption) ?_; (conv => whnf)) | (refine step_nt (by assumption) ?_; (conv => whnf)) | (refine step_nf (by assumption) ?_; (conv => whnf)) | (refine step_n (fun hb => ?_) (fun hb => ?_) <;> (first | contradiction | (conv => whnf))) | (refine And.intro (fun hb => ?_) (fun hb => ?_) <;> (first | contradiction | (conv => whnf))) | (refine And.intro (a := (_ : Bool) = true) ?_ ?_; rotate_left 1; (conv => whnf))))
    all_goals (first | rfl | trivial | assumption | (simp only [eqv, eqv1, eqv2, eqvL1, eqvL2, A.pickS, *, if_true, if_false, Bool.false_eq_true, and_self]; done))
  · rename_i alo ahi asl ash clo chi csl csh
    refine ctr_flat (Γ := ⟨[], eqs, [], [], []⟩) (sv := spv (A.pickS false (⟨alo, ahi, asl, ash⟩ : Sp) (⟨clo, chi, csl, csh⟩ : Sp))) st_Gw ⟨okNil, eqs_ok, okNilB, okNilI, okNilP⟩ Tryz.func208 rfl mixed [] (by kernel_rfl) 10000 (by rfl) ?_
    (conv => whnf)
    (repeat' (first | (refine step_t (by first | rfl | assumption) ?_; (conv => whnf)) | (refine step_f (by first | rfl | assumption) ?_; (conv => whnf)) | (refine step_nt (by assumption) ?_; (conv => whnf)) | (refine step_nf (by assumption) ?_; (conv => whnf)) | (refine step_n (fun hb => ?_) (fun hb => ?_) <;> (first | contradiction | (conv => whnf))) | (refine And.intro (fun hb => ?_) (fun hb => ?_) <;> (first | contradiction | (conv => whnf))) | (refine And.intro (a := (_ : Bool) = true) ?_ ?_; rotate_left 1; (conv => whnf))))
    all_goals (first | rfl | trivial | assumption | (simp only [eqv, eqv1, eqv2, eqvL1, eqvL2, A.pickS, *, if_true, if_false, Bool.false_eq_true, and_self]; done))
  · trivial
def k_aof : List SV → List Blk → Res := fun args _ => match args with
  | [.agg [.u64 av, .u64 am], .agg [.u64 alo, .u64 ahi, .int .i64 asl, .int .i64 ash]] => .test (R.inS ⟨alo, ahi, asl, ash⟩) (.ok (scv (A.ofm ⟨av, am⟩ ⟨alo, ahi, asl, ash⟩)) [])
  | _ => .fail
theorem k_aof_ok : CtrOk Tryz.prog Gw 202 k_aof := by
  refine ⟨fun _ _ => by kernel_rfl, fun args M => ?_⟩
  unfold k_aof
  split
  · rename_i av am alo ahi asl ash
    intro ht
    refine ctr_flat (Γ := ⟨[(14, k_Of), (15, k_cUnknown), (95, k_gotC), (97, k_orC)], eqs, [], [], []⟩) (sv := scv (A.ofm ⟨av, am⟩ ⟨alo, ahi, asl, ash⟩)) st_Gw ⟨(okCons k_Of_ok (okCons k_cUnknown_ok (okCons k_gotC_ok (okCons k_orC_ok okNil)))), eqs_ok, okNilB, okNilI, okNilP⟩ Tryz.func202 rfl mixed [] (by kernel_rfl) 10000 (by rfl) ?_
    (conv => whnf)
    (repeat' (first | (refine step_t (by first | rfl | assumption) ?_; (conv => whnf)) | (refine step_f (by first | rfl | assumption) ?_; (conv => whnf)) | (refine step_nt (by assumption) ?_; (conv => whnf)) | (refine step_nf (by assumption) ?_; (conv => whnf)) | (refine step_n (fun hb => ?_) (fun hb => ?_) <;> (first | contradiction | (conv => whnf))) | (refine And.intro (fun hb => ?_) (fun hb => ?_) <;> (first | contradiction | (conv => whnf))) | (refine And.intro (a := (_ : Bool) = true) ?_ ?_; rotate_left 1; (conv => whnf))))
    all_goals (first | rfl | trivial | assumption | exact eqv_s (A.ofm _ _))
  · trivial
def k_aup : List SV → List Blk → Res := fun args _ => match args with
  | [.u64 h] => .ok (scv (A.upTo h)) []
  | _ => .fail
theorem k_aup_ok : CtrOk Tryz.prog Gw 209 k_aup := by
  refine ⟨fun _ _ => by kernel_rfl, fun args M => ?_⟩
  unfold k_aup
  split
  · rename_i h
    refine ctr_flat (Γ := ⟨[(202, k_aof), (35, k_Unknown)], eqs, [], [], []⟩) (sv := scv (A.upTo h)) st_Gw ⟨(okCons k_aof_ok (okCons k_Unknown_ok okNil)), eqs_ok, okNilB, okNilI, okNilP⟩ Tryz.func209 rfl mixed [] (by kernel_rfl) 10000 (by rfl) ?_
    (conv => whnf)
    (repeat' (first | (refine step_t (by first | rfl | assumption) ?_; (conv => whnf)) | (refine step_f (by first | rfl | assumption) ?_; (conv => whnf)) | (refine step_nt (by assumption) ?_; (conv => whnf)) | (refine step_nf (by assumption) ?_; (conv => whnf)) | (refine step_n (fun hb => ?_) (fun hb => ?_) <;> (first | contradiction | (conv => whnf))) | (refine And.intro (fun hb => ?_) (fun hb => ?_) <;> (first | contradiction | (conv => whnf))) | (refine And.intro (a := (_ : Bool) = true) ?_ ?_; rotate_left 1; (conv => whnf))))
    all_goals (first | rfl | trivial | assumption | exact A.upTo_in h | exact eqv_s (A.upTo h))
  · trivial
def k_alow : List SV → List Blk → Res := fun args _ => match args with
  | [.agg [.u64 av, .u64 am, .u64 alo, .u64 ahi, .int .i64 asl, .int .i64 ash]] => .test (R.inS ⟨alo, ahi, asl, ash⟩) (.ok (scv (A.low4 (⟨⟨av, am⟩, ⟨alo, ahi, asl, ash⟩⟩ : Sc))) [])
  | _ => .fail
theorem k_alow_ok : CtrOk Tryz.prog Gw 52 k_alow := by
  refine ⟨fun _ _ => by kernel_rfl, fun args M => ?_⟩
  unfold k_alow
  split
  · rename_i av am alo ahi asl ash
    intro ht
    refine ctr_flat (Γ := ⟨[(96, k_cLow), (15, k_cUnknown), (95, k_gotC), (97, k_orC)], eqs, [], [], []⟩) (sv := scv (A.low4 (⟨⟨av, am⟩, ⟨alo, ahi, asl, ash⟩⟩ : Sc))) st_Gw ⟨(okCons k_cLow_ok (okCons k_cUnknown_ok (okCons k_gotC_ok (okCons k_orC_ok okNil)))), eqs_ok, okNilB, okNilI, okNilP⟩ Tryz.func52 rfl mixed [] (by kernel_rfl) 10000 (by rfl) ?_
    (conv => whnf)
    (repeat' (first | (refine step_t (by first | rfl | assumption) ?_; (conv => whnf)) | (refine step_f (by first | rfl | assumption) ?_; (conv => whnf)) | (refine step_nt (by assumption) ?_; (conv => whnf)) | (refine step_nf (by assumption) ?_; (conv => whnf)) | (refine step_n (fun hb => ?_) (fun hb => ?_) <;> (first | contradiction | (conv => whnf))) | (refine And.intro (fun hb => ?_) (fun hb => ?_) <;> (first | contradiction | (conv => whnf))) | (refine And.intro (a := (_ : Bool) = true) ?_ ?_; rotate_left 1; (conv => whnf))))
    all_goals (first | rfl | trivial | assumption | exact eqv_s (A.low4 (⟨⟨av, am⟩, ⟨alo, ahi, asl, ash⟩⟩ : Sc)))
  · trivial
def k_aboth : List SV → List Blk → Res := fun args _ => match args with
  | [.int .u8 op, .agg [.u64 av, .u64 am, .u64 alo, .u64 ahi, .int .i64 asl, .int .i64 ash], .agg [.u64 bv, .u64 bm, .u64 blo, .u64 bhi, .int .i64 bsl, .int .i64 bsh]] => .test (R.inS ⟨alo, ahi, asl, ash⟩ && R.inS ⟨blo, bhi, bsl, bsh⟩) (.ok (scv (A.both op (⟨⟨av, am⟩, ⟨alo, ahi, asl, ash⟩⟩ : Sc) (⟨⟨bv, bm⟩, ⟨blo, bhi, bsl, bsh⟩⟩ : Sc))) [])
  | _ => .fail
theorem k_aboth_ok : CtrOk Tryz.prog Gw 169 k_aboth := by
  refine ⟨fun _ _ => by kernel_rfl, fun args M => ?_⟩
  unfold k_aboth
  split
  · rename_i op av am alo ahi asl ash bv bm blo bhi bsl bsh
    intro ht
    have hq := S.and_true2 ht
    have hs : R.inS (A.sdo op (⟨alo, ahi, asl, ash⟩ : Sp) (⟨blo, bhi, bsl, bsh⟩ : Sp)) = true := A.sdo_in hq.1 hq.2
    refine ctr_flat (Γ := ⟨[(204, k_Do), (207, k_sDo), (35, k_Unknown), (36, k_sFull), (202, k_aof), (203, k_gotT), (205, k_orT), (206, k_gotS), (208, k_orS)], eqs, [], [], []⟩) (sv := scv (A.both op (⟨⟨av, am⟩, ⟨alo, ahi, asl, ash⟩⟩ : Sc) (⟨⟨bv, bm⟩, ⟨blo, bhi, bsl, bsh⟩⟩ : Sc))) st_Gw ⟨(okCons k_Do_ok (okCons k_sDo_ok (okCons k_Unknown_ok (okCons k_sFull_ok (okCons k_aof_ok (okCons k_gotT_ok (okCons k_orT_ok (okCons k_gotS_ok (okCons k_orS_ok okNil))))))))), eqs_ok, okNilB, okNilI, okNilP⟩ Tryz.func169 rfl mixed [(1, 18, [0, 0, 2, 0, 8, 31, 63, 63, 255, 511, 1023, 0, 0, 4096, 0, 16384, 65535, 131071, 131071, 524287, 1048575, 2097151, 4194303, 8388607])] (by kernel_rfl) 10000 (by rfl) ?_
    (conv => whnf)
    (repeat' (first | (refine step_t (by first | rfl | assumption) ?_; (conv => whnf)) | (refine step_f (by first | rfl | assumption) ?_; (conv => whnf)) | (refine step_nt (by assumption) ?_; (conv => whnf)) | (refine step_nf (by assumption) ?_; (conv => whnf)) | (refine step_n (fun hb => ?_) (fun hb => ?_) <;> (first | contradiction | (conv => whnf))) | (refine And.intro (fun hb => ?_) (fun hb => ?_) <;> (first | contradiction | (conv => whnf))) | (refine And.intro (a := (_ : Bool) = true) ?_ ?_; rotate_left 1; (conv => whnf))))
    all_goals (first | rfl | trivial | assumption | exact hs | exact eqv_s (A.both op (⟨⟨av, am⟩, ⟨alo, ahi, asl, ash⟩⟩ : Sc) (⟨⟨bv, bm⟩, ⟨blo, bhi, bsl, bsh⟩⟩ : Sc)))
  · trivial
def k_ashifted : List SV → List Blk → Res := fun args _ => match args with
  | [.int .u8 op, .agg [.u64 av, .u64 am, .u64 alo, .u64 ahi, .int .i64 asl, .int .i64 ash], .int .i64 k] => .test (R.inS ⟨alo, ahi, asl, ash⟩) (.ok (scv (A.shifted op (⟨⟨av, am⟩, ⟨alo, ahi, asl, ash⟩⟩ : Sc) k)) [])
  | _ => .fail
theorem k_ashifted_ok : CtrOk Tryz.prog Gw 211 k_ashifted := by
  refine ⟨fun _ _ => by kernel_rfl, fun args M => ?_⟩
  unfold k_ashifted
  split
  · rename_i op av am alo ahi asl ash k
    intro ht
    have hs : R.inS (A.ssh op (⟨alo, ahi, asl, ash⟩ : Sp) k) = true := A.ssh_in ht
    refine ctr_flat (Γ := ⟨[(245, k_Shift), (246, k_sShift), (35, k_Unknown), (36, k_sFull), (202, k_aof), (203, k_gotT), (205, k_orT), (206, k_gotS), (208, k_orS)], eqs, [], [], []⟩) (sv := scv (A.shifted op (⟨⟨av, am⟩, ⟨alo, ahi, asl, ash⟩⟩ : Sc) k)) st_Gw ⟨(okCons k_Shift_ok (okCons k_sShift_ok (okCons k_Unknown_ok (okCons k_sFull_ok (okCons k_aof_ok (okCons k_gotT_ok (okCons k_orT_ok (okCons k_gotS_ok (okCons k_orS_ok okNil))))))))), eqs_ok, okNilB, okNilI, okNilP⟩ Tryz.func211 rfl mixed [(1, 16, [0, 0, 2, 0, 15, 31, 31, 127, 255, 511, 0, 0, 2048, 0, 16383, 32767, 32767, 131071, 262143, 524287, 1048575, 2097151])] (by kernel_rfl) 10000 (by rfl) ?_
    (conv => whnf)
    (repeat' (first | (refine step_t (by first | rfl | assumption) ?_; (conv => whnf)) | (refine step_f (by first | rfl | assumption) ?_; (conv => whnf)) | (refine step_nt (by assumption) ?_; (conv => whnf)) | (refine step_nf (by assumption) ?_; (conv => whnf)) | (refine step_n (fun hb => ?_) (fun hb => ?_) <;> (first | contradiction | (conv => whnf))) | (refine And.intro (fun hb => ?_) (fun hb => ?_) <;> (first | contradiction | (conv => whnf))) | (refine And.intro (a := (_ : Bool) = true) ?_ ?_; rotate_left 1; (conv => whnf))))
    all_goals (first | rfl | trivial | assumption | exact hs | exact eqv_s (A.shifted op (⟨⟨av, am⟩, ⟨alo, ahi, asl, ash⟩⟩ : Sc) k))
  · trivial
end Go.Proofs.YtddcaklgflfkeaaGreatDoor
