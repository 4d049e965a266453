import Derived.Test.YtobednfbejcaeaaTX12
namespace Go.Proofs.Ytobednfbejcaeaa
open Go.RowKit Go.Sx
set_option linter.unusedSimpArgs false
set_option linter.unusedVariables false
set_option linter.unnecessarySimpa false
set_option maxRecDepth 100000
set_option maxHeartbeats 4000000
namespace T
def low (a : Tn) (n : Int) : Tn × Bool := if right a then (if n == 1 then (⟨a.v &&& 255#64, a.m &&& 255#64⟩, true) else if n == 2 then (⟨a.v &&& 65535#64, a.m &&& 65535#64⟩, true) else if n == 4 then (⟨a.v &&& 4294967295#64, a.m &&& 4294967295#64⟩, true) else if n == 8 then (⟨a.v &&& 18446744073709551615#64, a.m &&& 18446744073709551615#64⟩, true) else (⟨0, 0⟩, false)) else (⟨0, 0⟩, false)
end T
def k_Low : List SV → List Blk → Res := fun args _ => match args with
  | [.agg [.u64 av, .u64 am], .int .i64 n] => .ok (.tup [tsv (T.low ⟨av, am⟩ n).1, .bool (T.low ⟨av, am⟩ n).2]) []
  | _ => .fail
theorem k_Low_ok : CtrOk Try.prog Gw 79 k_Low := by
  refine ⟨fun _ _ => by kernel_rfl, fun args M => ?_⟩
  unfold k_Low
  split
  · rename_i av am n
    refine ctr_flat (Γ := ⟨[(34, k_Right), (102, k_low1)], eqs, [], [(101, Try.f101, [(4, 5, [0, 0, 0, 6, 14, 31, 63]), (5, 6, [0, 1, 3, 0, 8, 24, 63, 127])]), (105, Try.f105, []), (107, Try.f107, [])], []⟩) (sv := .tup [tsv (T.low ⟨av, am⟩ n).1, .bool (T.low ⟨av, am⟩ n).2]) st_Gw ⟨(okCons k_Right_ok (okCons k_low1_ok okNil)), eqs_ok, okNilB, (okConsI Try.func101 rfl (by kernel_rfl) (fun _ _ => by kernel_rfl) (okConsI Try.func105 rfl (by kernel_rfl) (fun _ _ => by kernel_rfl) (okConsI Try.func107 rfl (by kernel_rfl) (fun _ _ => by kernel_rfl) okNilI))), okNilP⟩ Try.func79 rfl mixed [] (by kernel_rfl) 10000 (by rfl) ?_
    (conv => whnf)
    (repeat' (first | (refine And.intro (fun hb => ?_) (fun hb => ?_) <;> (first | contradiction | (conv => whnf))) | (refine And.intro ?_ ?_; rotate_left 1; (conv => whnf))))
    all_goals (first | rfl | trivial | (simp_all [eqv, eqv1, eqv2, T.low]; done) | (simp_all [eqv, eqv1, eqv2, T.low]; rfl))
  · trivial
namespace W
def divU (a b : BitVec 64) : BitVec 64 := if b == 0#64 then 0 else a / b
def modU (a b : BitVec 64) : BitVec 64 := if b == 0#64 then a else a % b
def divS (a b : Int) : Int := if b == 0 then 0 else IntKind.i64.wrap (a.tdiv b)
def modS (a b : Int) : Int := if b == 0 then a else a.tmod b
/-- What an operation makes of two wide words. -/
def alu (op off : Int) (a b : BitVec 64) : BitVec 64 × Bool :=
  if op == 0 && (off == 0 && true) then (a + b, true) else if op == 16 && (off == 0 && true) then (a - b, true) else if op == 32 && (off == 0 && true) then (a * b, true) else if op == 48 && (off == 0 && true) then (divU a b, true) else if op == 48 && (off == 1 && true) then (BitVec.ofInt 64 (divS (sv a) (sv b)), true) else if op == 144 && (off == 0 && true) then (modU a b, true) else if op == 144 && (off == 1 && true) then (BitVec.ofInt 64 (modS (sv a) (sv b)), true) else if op == 64 && (off == 0 && true) then (a ||| b, true) else if op == 80 && (off == 0 && true) then (a &&& b, true) else if op == 160 && (off == 0 && true) then (a ^^^ b, true) else if op == 96 && (off == 0 && true) then (a <<< (b % 64#64).toNat, true) else if op == 112 && (off == 0 && true) then (a >>> (b % 64#64).toNat, true) else if op == 192 && (off == 0 && true) then (a.sshiftRight (min (b % 64#64).toNat 64), true) else if op == 128 && (off == 0 && true) then (-a, true) else if op == 176 && (off == 0 && true) then (b, true) else if op == 176 && (off == 8 && true) then (BitVec.ofInt 64 (IntKind.i8.wrap (uv b)), true) else if op == 176 && (off == 16 && true) then (BitVec.ofInt 64 (IntKind.i16.wrap (uv b)), true) else (0, false)
/-- The lowest bytes. -/
def ext (a : BitVec 64) (n : Int) : BitVec 64 × Bool := if n == 1 then (BitVec.ofInt 64 (IntKind.u8.wrap (uv a)), true) else if n == 2 then (BitVec.ofInt 64 (IntKind.u16.wrap (uv a)), true) else if n == 4 then (BitVec.ofInt 64 (IntKind.u32.wrap (uv a)), true) else if n == 8 then (a, true) else (0, false)
def aluW (op off : Int) (a b : BitVec 64) : BitVec 64 × Bool := if op == 176 && off == 32 then (BitVec.ofInt 64 (IntKind.i32.wrap (uv b)), true) else alu op off a b
end W
def k_Extend : List SV → List Blk → Res := fun args _ => match args with
  | [.u64 a, .int .i64 n, .ff] => .ok (.tup [.u64 (W.ext a n).1, .bool (W.ext a n).2]) []
  | _ => .fail
theorem k_Extend_ok : CtrOk Try.prog Gw 33 k_Extend := by
  refine ⟨fun _ _ => by kernel_rfl, fun args M => ?_⟩
  unfold k_Extend
  split
  · rename_i a n
    refine ctr_flat (Γ := ⟨[], eqs, [], [], []⟩) (sv := .tup [.u64 (W.ext a n).1, .bool (W.ext a n).2]) st_Gw ⟨okNil, eqs_ok, okNilB, okNilI, okNilP⟩ Try.func33 rfl mixed [] (by kernel_rfl) 10000 (by rfl) ?_
    (conv => whnf)
    (repeat' (first | (refine And.intro (fun hb => ?_) (fun hb => ?_) <;> (first | contradiction | (conv => whnf))) | (refine And.intro ?_ ?_; rotate_left 1; (conv => whnf))))
    all_goals (first | rfl | trivial | (simp_all [eqv, eqv1, eqv2, W.ext]; done))
  · trivial
end Go.Proofs.Ytobednfbejcaeaa
