import Derived.Test.YtaickooakoikaaaDoorX12
namespace Go.Proofs.YtaickooakoikaaaDoor
open Go.RowKit Go.Sx
set_option linter.unusedSimpArgs false
set_option linter.unusedVariables false
set_option linter.unnecessarySimpa false
set_option maxRecDepth 100000
set_option maxHeartbeats 4000000
namespace T
def low (a : Tn) (n : Int) : Tn × Bool := if right a then (if n == 1 then (⟨a.v &&& 255#64, a.m &&& 255#64⟩, true) else if n == 2 then (⟨a.v &&& 65535#64, a.m &&& 65535#64⟩, true) else if n == 4 then (⟨a.v &&& 4294967295#64, a.m &&& 4294967295#64⟩, true) else if n == 8 then (⟨a.v &&& 18446744073709551615#64, a.m &&& 18446744073709551615#64⟩, true) else (⟨0, 0⟩, false)) else (⟨0, 0⟩, false)
end T
def k_Low : List SV → List Blk → Res := fun args _ => match args with
  | [.agg [.u64 av, .u64 am], .int .i64 n] => .ok (.tup [tsv (T.low ⟨av, am⟩ n).1, .bool (T.low ⟨av, am⟩ n).2]) []
  | _ => .fail
theorem k_Low_ok : CtrOk Tryd.prog Gw 25 k_Low := by
  refine ⟨fun _ _ => by kernel_rfl, fun args M => ?_⟩
  unfold k_Low
  split
  · rename_i av am n
    refine ctr_flat (Γ := ⟨[(12, k_Right), (58, k_low1)], eqs, [], [(56, Tryd.f56, [(4, 5, [0, 0, 0, 6, 14, 31, 63]), (5, 6, [0, 1, 3, 0, 8, 24, 63, 127])]), (64, Tryd.f64, []), (107, Tryd.f107, [])], []⟩) (sv := .tup [tsv (T.low ⟨av, am⟩ n).1, .bool (T.low ⟨av, am⟩ n).2]) st_Gw ⟨(okCons k_Right_ok (okCons k_low1_ok okNil)), eqs_ok, okNilB, (okConsI Tryd.func56 rfl (by kernel_rfl) (fun _ _ => by kernel_rfl) (okConsI Tryd.func64 rfl (by kernel_rfl) (fun _ _ => by kernel_rfl) (okConsI Tryd.func107 rfl (by kernel_rfl) (fun _ _ => by kernel_rfl) okNilI))), okNilP⟩ Tryd.func25 rfl mixed [] (by kernel_rfl) 10000 (by rfl) ?_
    (conv => whnf)
    (repeat' (first | (refine And.intro (fun hb => ?_) (fun hb => ?_) <;> (first | contradiction | (conv => whnf))) | (refine And.intro ?_ ?_; rotate_left 1; (conv => whnf))))
    all_goals (first | rfl | trivial | (simp_all [eqv, eqv1, eqv2, T.low]; done) | (simp_all [eqv, eqv1, eqv2, T.low]; rfl))
  · trivial
namespace W
def divU (a b : BitVec 64) : BitVec 64 := if b == 0#64 then 0 else a / b
def modU (a b : BitVec 64) : BitVec 64 := if b == 0#64 then a else a % b
def divS (a b : Int) : Int := if b == 0 then 0 else IntKind.i64.wrap (a.tdiv b)
def modS (a b : Int) : Int := if b == 0 then a else a.tmod b
/-- What an operation makes of two wide words. -/
def alu (op off : Int) (a b : BitVec 64) : BitVec 64 × Bool :=
  if op == 0 && (off == 0 && true) then (a + b, true) else if op == 16 && (off == 0 && true) then (a - b, true) else if op == 32 && (off == 0 && true) then (a * b, true) else if op == 48 && (off == 0 && true) then (divU a b, true) else if op == 48 && (off == 1 && true) then (BitVec.ofInt 64 (divS (sv a) (sv b)), true) else if op == 144 && (off == 0 && true) then (modU a b, true) else if op == 144 && (off == 1 && true) then (BitVec.ofInt 64 (modS (sv a) (sv b)), true) else if op == 64 && (off == 0 && true) then (a ||| b, true) else if op == 80 && (off == 0 && true) then (a &&& b, true) else if op == 160 && (off == 0 && true) then (a ^^^ b, true) else if op == 96 && (off == 0 && true) then (a <<< (b % 64#64).toNat, true) else if op == 112 && (off == 0 && true) then (a >>> (b % 64#64).toNat, true) else if op == 192 && (off == 0 && true) then (a.sshiftRight (min (b % 64#64).toNat 64), true) else if op == 128 && (off == 0 && true) then (-a, true) else if op == 176 && (off == 0 && true) then (b, true) else if op == 176 && (off == 8 && true) then (BitVec.ofInt 64 (IntKind.i8.wrap (uv b)), true) else if op == 176 && (off == 16 && true) then (BitVec.ofInt 64 (IntKind.i16.wrap (uv b)), true) else (0, false)
/-- The lowest bytes. -/
def ext (a : BitVec 64) (n : Int) : BitVec 64 × Bool := if n == 1 then (BitVec.ofInt 64 (IntKind.u8.wrap (uv a)), true) else if n == 2 then (BitVec.ofInt 64 (IntKind.u16.wrap (uv a)), true) else if n == 4 then (BitVec.ofInt 64 (IntKind.u32.wrap (uv a)), true) else if n == 8 then (a, true) else (0, false)
def aluW (op off : Int) (a b : BitVec 64) : BitVec 64 × Bool := if op == 176 && off == 32 then (BitVec.ofInt 64 (IntKind.i32.wrap (uv b)), true) else alu op off a b
end W
def k_divU : List SV → List Blk → Res := fun args _ => match args with
  | [.u64 a, .u64 b] => .ok (.u64 (W.divU a b)) []
  | _ => .fail
theorem k_divU_ok : CtrOk Tryd.prog Gw 90 k_divU := by
  refine ⟨fun _ _ => by kernel_rfl, fun args M => ?_⟩
  unfold k_divU
  split
  · rename_i a b
    refine ctr_flat (Γ := ⟨[], eqs, [], [], []⟩) (sv := .u64 (W.divU a b)) st_Gw ⟨okNil, eqs_ok, okNilB, okNilI, okNilP⟩ Tryd.func90 rfl mixed [] (by kernel_rfl) 10000 (by rfl) ?_
    (conv => whnf)
    (repeat' (first | (refine And.intro (fun hb => ?_) (fun hb => ?_) <;> (first | contradiction | (conv => whnf))) | (refine And.intro ?_ ?_; rotate_left 1; (conv => whnf))))
    all_goals (first | rfl | trivial | (simp_all [eqv, eqv1, eqv2, eqvL1, eqvL2, W.divU]))
  · trivial
def k_modU : List SV → List Blk → Res := fun args _ => match args with
  | [.u64 a, .u64 b] => .ok (.u64 (W.modU a b)) []
  | _ => .fail
theorem k_modU_ok : CtrOk Tryd.prog Gw 94 k_modU := by
  refine ⟨fun _ _ => by kernel_rfl, fun args M => ?_⟩
  unfold k_modU
  split
  · rename_i a b
    refine ctr_flat (Γ := ⟨[], eqs, [], [], []⟩) (sv := .u64 (W.modU a b)) st_Gw ⟨okNil, eqs_ok, okNilB, okNilI, okNilP⟩ Tryd.func94 rfl mixed [] (by kernel_rfl) 10000 (by rfl) ?_
    (conv => whnf)
    (repeat' (first | (refine And.intro (fun hb => ?_) (fun hb => ?_) <;> (first | contradiction | (conv => whnf))) | (refine And.intro ?_ ?_; rotate_left 1; (conv => whnf))))
    all_goals (first | rfl | trivial | (simp_all [eqv, eqv1, eqv2, eqvL1, eqvL2, W.modU]))
  · trivial
def k_divS : List SV → List Blk → Res := fun args _ => match args with
  | [.int .i64 a, .int .i64 b] => .ok (.int .i64 (W.divS a b)) []
  | _ => .fail
theorem k_divS_ok : CtrOk Tryd.prog Gw 92 k_divS := by
  refine ⟨fun _ _ => by kernel_rfl, fun args M => ?_⟩
  unfold k_divS
  split
  · rename_i a b
    refine ctr_flat (Γ := ⟨[], eqs, [], [], []⟩) (sv := .int .i64 (W.divS a b)) st_Gw ⟨okNil, eqs_ok, okNilB, okNilI, okNilP⟩ Tryd.func92 rfl mixed [] (by kernel_rfl) 10000 (by rfl) ?_
    (conv => whnf)
    (repeat' (first | (refine And.intro (fun hb => ?_) (fun hb => ?_) <;> (first | contradiction | (conv => whnf))) | (refine And.intro ?_ ?_; rotate_left 1; (conv => whnf))))
    all_goals (first | rfl | trivial | (simp_all [eqv, eqv1, eqv2, eqvL1, eqvL2, W.divS]))
  · trivial
def k_modS : List SV → List Blk → Res := fun args _ => match args with
  | [.int .i64 a, .int .i64 b] => .ok (.int .i64 (W.modS a b)) []
  | _ => .fail
theorem k_modS_ok : CtrOk Tryd.prog Gw 96 k_modS := by
  refine ⟨fun _ _ => by kernel_rfl, fun args M => ?_⟩
  unfold k_modS
  split
  · rename_i a b
    refine ctr_flat (Γ := ⟨[], eqs, [], [], []⟩) (sv := .int .i64 (W.modS a b)) st_Gw ⟨okNil, eqs_ok, okNilB, okNilI, okNilP⟩ Tryd.func96 rfl mixed [] (by kernel_rfl) 10000 (by rfl) ?_
    (conv => whnf)
    (repeat' (first | (refine And.intro (fun hb => ?_) (fun hb => ?_) <;> (first | contradiction | (conv => whnf))) | (refine And.intro ?_ ?_; rotate_left 1; (conv => whnf))))
    all_goals (first | rfl | trivial | (simp_all [eqv, eqv1, eqv2, eqvL1, eqvL2, W.modS]))
  · trivial
def k_alu : List SV → List Blk → Res := fun args _ => match args with
  | [.int .u8 op, .int .i16 off, .u64 a, .u64 b, .int .i64 64] => .ok (.tup [.u64 (W.alu op off a b).1, .bool (W.alu op off a b).2]) []
  | _ => .fail
theorem k_alu_ok : CtrOk Tryd.prog Gw 61 k_alu := by
  refine ⟨fun _ _ => by kernel_rfl, fun args M => ?_⟩
  unfold k_alu
  split
  · rename_i op off a b
    refine ctr_flat (Γ := ⟨[(90, k_divU), (94, k_modU), (92, k_divS), (96, k_modS)], eqs, [], [(86, Tryd.f86, []), (87, Tryd.f87, []), (88, Tryd.f88, []), (89, Tryd.f89, []), (91, Tryd.f91, []), (93, Tryd.f93, []), (95, Tryd.f95, []), (97, Tryd.f97, []), (98, Tryd.f98, []), (99, Tryd.f99, []), (100, Tryd.f100, []), (101, Tryd.f101, []), (102, Tryd.f102, []), (103, Tryd.f103, []), (104, Tryd.f104, []), (105, Tryd.f105, []), (106, Tryd.f106, [])], []⟩) (sv := .tup [.u64 (W.alu op off a b).1, .bool (W.alu op off a b).2]) st_Gw ⟨(okCons k_divU_ok (okCons k_modU_ok (okCons k_divS_ok (okCons k_modS_ok okNil)))), eqs_ok, okNilB, (okConsI Tryd.func86 rfl (by kernel_rfl) (fun _ _ => by kernel_rfl) (okConsI Tryd.func87 rfl (by kernel_rfl) (fun _ _ => by kernel_rfl) (okConsI Tryd.func88 rfl (by kernel_rfl) (fun _ _ => by kernel_rfl) (okConsI Tryd.func89 rfl (by kernel_rfl) (fun _ _ => by kernel_rfl) (okConsI Tryd.func91 rfl (by kernel_rfl) (fun _ _ => by kernel_rfl) (okConsI Tryd.func93 rfl (by kernel_rfl) (fun _ _ => by kernel_rfl) (okConsI Tryd.func95 rfl (by kernel_rfl) (fun _ _ => by kernel_rfl) (okConsI Tryd.func97 rfl (by kernel_rfl) (fun _ _ => by kernel_rfl) (okConsI Tryd.func98 rfl (by kernel_rfl) (fun _ _ => by kernel_rfl) (okConsI Tryd.func99 rfl (by kernel_rfl) (fun _ _ => by kernel_rfl) (okConsI Tryd.func100 rfl (by kernel_rfl) (fun _ _ => by kernel_rfl) (okConsI Tryd.func101 rfl (by kernel_rfl) (fun _ _ => by kernel_rfl) (okConsI Tryd.func102 rfl (by kernel_rfl) (fun _ _ => by kernel_rfl) (okConsI Tryd.func103 rfl (by kernel_rfl) (fun _ _ => by kernel_rfl) (okConsI Tryd.func104 rfl (by kernel_rfl) (fun _ _ => by kernel_rfl) (okConsI Tryd.func105 rfl (by kernel_rfl) (fun _ _ => by kernel_rfl) (okConsI Tryd.func106 rfl (by kernel_rfl) (fun _ _ => by kernel_rfl) okNilI))))))))))))))))), okNilP⟩ Tryd.func61 rfl mixed [(2, 52, [0, 0, 0, 7, 0, 0, 49, 0, 0, 385, 0, 0, 3073, 0, 0, 24577, 0, 0, 196609, 0, 0, 1572865, 0, 0, 12582913, 0, 0, 100663297, 0, 0, 805306369, 0, 0, 6442450945, 0, 0, 51539607553, 0, 0, 412316860417, 0, 0, 3298534883329, 0, 0, 26388279066625, 0, 0, 211106232532993, 0, 0, 1688849860263937, 4503599627370495, 9007199254740991])] (by kernel_rfl) 10000 (by rfl) ?_
    (conv => whnf)
    (repeat' (first | (refine And.intro (fun hb => ?_) (fun hb => ?_) <;> (first | contradiction | (conv => whnf))) | (refine And.intro ?_ ?_; rotate_left 1; (conv => whnf))))
    all_goals (first | rfl | trivial | (simp only [eqv, eqv1, eqv2, W.alu, *, if_true, if_false, Bool.false_eq_true]; done) | (simp only [eqv, eqv1, eqv2, W.alu, *, if_true, if_false, Bool.false_eq_true]; rfl) | (simp only [eqv, eqv1, eqv2, W.alu, *, if_true, if_false, Bool.false_eq_true]; exact sshr _ _))
  · trivial
def k_Alu : List SV → List Blk → Res := fun args _ => match args with
  | [.int .u8 op, .int .i16 off, .tt, .u64 a, .u64 b] => .ok (.tup [.u64 (W.aluW op off a b).1, .bool (W.aluW op off a b).2]) []
  | _ => .fail
theorem k_Alu_ok : CtrOk Tryd.prog Gw 35 k_Alu := by
  refine ⟨fun _ _ => by kernel_rfl, fun args M => ?_⟩
  unfold k_Alu
  split
  · rename_i op off a b
    refine ctr_flat (Γ := ⟨[(61, k_alu)], eqs, [], [], []⟩) (sv := .tup [.u64 (W.aluW op off a b).1, .bool (W.aluW op off a b).2]) st_Gw ⟨(okCons k_alu_ok okNil), eqs_ok, okNilB, okNilI, okNilP⟩ Tryd.func35 rfl mixed [] (by kernel_rfl) 10000 (by rfl) ?_
    (conv => whnf)
    (repeat' (first | (refine And.intro (fun hb => ?_) (fun hb => ?_) <;> (first | contradiction | (conv => whnf))) | (refine And.intro ?_ ?_; rotate_left 1; (conv => whnf))))
    all_goals (first | rfl | trivial | (simp_all [eqv, eqv1, eqv2, W.aluW]; done))
  · trivial
def k_Extend : List SV → List Blk → Res := fun args _ => match args with
  | [.u64 a, .int .i64 n, .ff] => .ok (.tup [.u64 (W.ext a n).1, .bool (W.ext a n).2]) []
  | _ => .fail
theorem k_Extend_ok : CtrOk Tryd.prog Gw 36 k_Extend := by
  refine ⟨fun _ _ => by kernel_rfl, fun args M => ?_⟩
  unfold k_Extend
  split
  · rename_i a n
    refine ctr_flat (Γ := ⟨[], eqs, [], [], []⟩) (sv := .tup [.u64 (W.ext a n).1, .bool (W.ext a n).2]) st_Gw ⟨okNil, eqs_ok, okNilB, okNilI, okNilP⟩ Tryd.func36 rfl mixed [] (by kernel_rfl) 10000 (by rfl) ?_
    (conv => whnf)
    (repeat' (first | (refine And.intro (fun hb => ?_) (fun hb => ?_) <;> (first | contradiction | (conv => whnf))) | (refine And.intro ?_ ?_; rotate_left 1; (conv => whnf))))
    all_goals (first | rfl | trivial | (simp_all [eqv, eqv1, eqv2, W.ext]; done))
  · trivial
end Go.Proofs.YtaickooakoikaaaDoor
