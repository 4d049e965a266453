import Derived.Test.YtkfbjnikkmoanaaGreatDoorXA
namespace Go.Proofs.YtkfbjnikkmoanaaGreatDoor
open Go.RowKit Go.Sx
set_option linter.unusedSimpArgs false
set_option linter.unusedVariables false
set_option linter.unnecessarySimpa false
set_option maxRecDepth 100000
set_option maxHeartbeats 4000000
namespace W
def r8 (k : IntKind) (x : Int) (n : Int) : Int := x.fdiv (2 ^ min (BitVec.ofInt 64 n).toNat k.bits)
def l8 (k : IntKind) (x : Int) (n : Int) : Int := k.wrap (x * 2 ^ min (BitVec.ofInt 64 n).toNat k.bits)
/-- Bytes turned round. -/
def rb16 (x : Int) : Int := Go.bits .or .u16 (r8 .u16 x 8) (l8 .u16 x 8)
def rb32a (x : Int) : Int := Go.bits .or .u32 (Go.bits .and .u32 (r8 .u32 x 8) 16711935) (l8 .u32 (Go.bits .and .u32 x 16711935) 8)
def rb32 (x : Int) : Int := Go.bits .or .u32 (r8 .u32 (rb32a x) 16) (l8 .u32 (rb32a x) 16)
def rb64a (x : BitVec 64) : BitVec 64 := x >>> 8 &&& BitVec.ofInt 64 71777214294589695 ||| (x &&& BitVec.ofInt 64 71777214294589695) <<< 8
def rb64b (x : BitVec 64) : BitVec 64 := x >>> 16 &&& BitVec.ofInt 64 281470681808895 ||| (x &&& BitVec.ofInt 64 281470681808895) <<< 16
def rb64 (x : BitVec 64) : BitVec 64 := rb64b (rb64a x) >>> 32 ||| rb64b (rb64a x) <<< 32
def swpA (o : Int) (x y : BitVec 64) : BitVec 64 × Bool := if o == 0 then (x, true) else (y, true)
/-- What bytes turned round, or cut off, come to. -/
def swp (o k : Int) (n : BitVec 64) : BitVec 64 × Bool := if decide (o < 0) then (0, false) else if decide (2 < o) then (0, false) else if k == 16 then swpA o (BitVec.ofInt 64 (IntKind.u16.wrap (uv n))) (BitVec.ofInt 64 (rb16 (IntKind.u16.wrap (uv n)))) else if k == 32 then swpA o (BitVec.ofInt 64 (IntKind.u32.wrap (uv n))) (BitVec.ofInt 64 (rb32 (IntKind.u32.wrap (uv n)))) else if k == 64 then swpA o n (rb64 n) else (0, false)
end W
def k_rb16 : List SV → List Blk → Res := fun args _ => match args with
  | [.int .u16 x] => .ok (.int .u16 (W.rb16 x)) []
  | _ => .fail
theorem k_rb16_ok : CtrOk Tryz.prog Gw 47 k_rb16 := by
  refine ⟨fun _ _ => by kernel_rfl, fun args M => ?_⟩
  unfold k_rb16
  split
  · rename_i x
    refine ctr_flat (Γ := ⟨[], eqs, [], [], []⟩) (sv := .int .u16 (W.rb16 x)) st_Gw ⟨okNil, eqs_ok, okNilB, okNilI, okNilP⟩ Tryz.func47 rfl mixed [] (by kernel_rfl) 10000 (by rfl) ?_
    (conv => whnf)
    (repeat' (first | (refine And.intro (fun hb => ?_) (fun hb => ?_) <;> (first | contradiction | (conv => whnf))) | (refine And.intro ?_ ?_; rotate_left 1; (conv => whnf))))
    all_goals (first | rfl | exact ⟨rfl, rfl⟩)
  · trivial
def k_rb32 : List SV → List Blk → Res := fun args _ => match args with
  | [.int .u32 x] => .ok (.int .u32 (W.rb32 x)) []
  | _ => .fail
theorem k_rb32_ok : CtrOk Tryz.prog Gw 49 k_rb32 := by
  refine ⟨fun _ _ => by kernel_rfl, fun args M => ?_⟩
  unfold k_rb32
  split
  · rename_i x
    refine ctr_flat (Γ := ⟨[], eqs, [], [], []⟩) (sv := .int .u32 (W.rb32 x)) st_Gw ⟨okNil, eqs_ok, okNilB, okNilI, okNilP⟩ Tryz.func49 rfl mixed [] (by kernel_rfl) 10000 (by rfl) ?_
    (conv => whnf)
    (repeat' (first | (refine And.intro (fun hb => ?_) (fun hb => ?_) <;> (first | contradiction | (conv => whnf))) | (refine And.intro ?_ ?_; rotate_left 1; (conv => whnf))))
    all_goals (first | rfl | exact ⟨rfl, rfl⟩)
  · trivial
def k_rb64 : List SV → List Blk → Res := fun args _ => match args with
  | [.u64 x] => .ok (.u64 (W.rb64 x)) []
  | _ => .fail
theorem k_rb64_ok : CtrOk Tryz.prog Gw 51 k_rb64 := by
  refine ⟨fun _ _ => by kernel_rfl, fun args M => ?_⟩
  unfold k_rb64
  split
  · rename_i x
    refine ctr_flat (Γ := ⟨[], eqs, [], [], []⟩) (sv := .u64 (W.rb64 x)) st_Gw ⟨okNil, eqs_ok, okNilB, okNilI, okNilP⟩ Tryz.func51 rfl mixed [] (by kernel_rfl) 10000 (by rfl) ?_
    (conv => whnf)
    (repeat' (first | (refine And.intro (fun hb => ?_) (fun hb => ?_) <;> (first | contradiction | (conv => whnf))) | (refine And.intro ?_ ?_; rotate_left 1; (conv => whnf))))
    all_goals (first | rfl | exact ⟨rfl, rfl⟩)
  · trivial
attribute [local irreducible] W.rb16 W.rb32 W.rb64
def k_swp : List SV → List Blk → Res := fun args _ => match args with
  | [.int .i64 o, .int .i64 k, .u64 n] => .ok (.tup [.u64 (W.swp o k n).1, .bool (W.swp o k n).2]) []
  | _ => .fail
theorem k_swp_ok : CtrOk Tryz.prog Gw 21 k_swp := by
  refine ⟨fun _ _ => by kernel_rfl, fun args M => ?_⟩
  unfold k_swp
  split
  · rename_i o k n
    refine ctr_flat (Γ := ⟨[(47, k_rb16), (49, k_rb32), (51, k_rb64)], eqs, [], [(46, Tryz.f46, [(1, 8, [0, 1, 3, 0, 8, 24, 56, 63, 255])]), (48, Tryz.f48, [(1, 8, [0, 1, 3, 0, 8, 24, 56, 63, 255])]), (50, Tryz.f50, [(1, 3, [0, 0, 2, 7, 15])])], []⟩) (sv := .tup [.u64 (W.swp o k n).1, .bool (W.swp o k n).2]) st_Gw ⟨(okCons k_rb16_ok (okCons k_rb32_ok (okCons k_rb64_ok okNil))), eqs_ok, okNilB, (okConsI Tryz.func46 rfl (by kernel_rfl) (fun _ _ => by kernel_rfl) (okConsI Tryz.func48 rfl (by kernel_rfl) (fun _ _ => by kernel_rfl) (okConsI Tryz.func50 rfl (by kernel_rfl) (fun _ _ => by kernel_rfl) okNilI))), okNilP⟩ Tryz.func21 rfl mixed [] (by kernel_rfl) 10000 (by rfl) ?_
    (conv => whnf)
    (repeat' (first | (refine step_t (by first | rfl | assumption) ?_; (conv => whnf)) | (refine step_f (by first | rfl | assumption) ?_; (conv => whnf)) | (refine step_nt (by assumption) ?_; (conv => whnf)) | (refine step_nf (by assumption) ?_; (conv => whnf)) | (refine step_n (fun hb => ?_) (fun hb => ?_) <;> (first | contradiction | (conv => whnf))) | (refine And.intro (fun hb => ?_) (fun hb => ?_) <;> (first | contradiction | (conv => whnf))) | (refine And.intro (a := (_ : Bool) = true) ?_ ?_; rotate_left 1; (conv => whnf))))
    all_goals (first | rfl | trivial | (simp only [eqv, eqv1, eqv2, eqvL1, eqvL2, W.swp, W.swpA, *, if_true, if_false, Bool.false_eq_true]; done) | (simp only [eqv, eqv1, eqv2, W.swp, W.swpA, *, if_true, if_false, Bool.false_eq_true]; first | rfl | exact ⟨rfl, rfl⟩ | exact ⟨⟨rfl, rfl⟩, rfl⟩ | (refine ⟨?_, ?_⟩ <;> first | rfl | trivial | exact ⟨rfl, rfl⟩)))
  · trivial
end Go.Proofs.YtkfbjnikkmoanaaGreatDoor
