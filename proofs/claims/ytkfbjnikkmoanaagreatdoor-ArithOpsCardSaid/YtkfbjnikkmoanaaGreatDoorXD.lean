import Derived.Test.YtkfbjnikkmoanaaGreatDoorXA
import Derived.Test.YtkfbjnikkmoanaaGreatDoorXC
import Derived.Test.YtkfbjnikkmoanaaGreatDoorX13
namespace Go.Proofs.YtkfbjnikkmoanaaGreatDoor
open Go.RowKit Go.Sx
set_option linter.unusedSimpArgs false
set_option linter.unusedVariables false
set_option linter.unnecessarySimpa false
set_option maxRecDepth 100000
set_option maxHeartbeats 4000000
namespace W
def r8 (k : IntKind) (x : Int) (n : Int) : Int := x.fdiv (2 ^ min (BitVec.ofInt 64 n).toNat k.bits)
def l8 (k : IntKind) (x : Int) (n : Int) : Int := k.wrap (x * 2 ^ min (BitVec.ofInt 64 n).toNat k.bits)
/-- Bytes turned round. -/
def rb16 (x : Int) : Int := Go.bits .or .u16 (r8 .u16 x 8) (l8 .u16 x 8)
def rb32a (x : Int) : Int := Go.bits .or .u32 (Go.bits .and .u32 (r8 .u32 x 8) 16711935) (l8 .u32 (Go.bits .and .u32 x 16711935) 8)
def rb32 (x : Int) : Int := Go.bits .or .u32 (r8 .u32 (rb32a x) 16) (l8 .u32 (rb32a x) 16)
def rb64a (x : BitVec 64) : BitVec 64 := x >>> 8 &&& BitVec.ofInt 64 71777214294589695 ||| (x &&& BitVec.ofInt 64 71777214294589695) <<< 8
def rb64b (x : BitVec 64) : BitVec 64 := x >>> 16 &&& BitVec.ofInt 64 281470681808895 ||| (x &&& BitVec.ofInt 64 281470681808895) <<< 16
def rb64 (x : BitVec 64) : BitVec 64 := rb64b (rb64a x) >>> 32 ||| rb64b (rb64a x) <<< 32
def swpA (o : Int) (x y : BitVec 64) : BitVec 64 × Bool := if o == 0 then (x, true) else (y, true)
/-- What bytes turned round, or cut off, come to. -/
def swp (o k : Int) (n : BitVec 64) : BitVec 64 × Bool := if decide (o < 0) then (0, false) else if decide (2 < o) then (0, false) else if k == 16 then swpA o (BitVec.ofInt 64 (IntKind.u16.wrap (uv n))) (BitVec.ofInt 64 (rb16 (IntKind.u16.wrap (uv n)))) else if k == 32 then swpA o (BitVec.ofInt 64 (IntKind.u32.wrap (uv n))) (BitVec.ofInt 64 (rb32 (IntKind.u32.wrap (uv n)))) else if k == 64 then swpA o n (rb64 n) else (0, false)
end W
def k_rb16 : List SV → List Blk → Res := fun args _ => match args with
  | [.int .u16 x] => .ok (.int .u16 (W.rb16 x)) []
  | _ => .fail
theorem k_rb16_ok : CtrOk Tryz.prog Gw 47 k_rb16 := by
  refine ⟨fun _ _ => by kernel_rfl, fun args M => ?_⟩
  unfold k_rb16
  split
  · rename_i x
    refine ctr_flat (Γ := ⟨[], eqs, [], [], []⟩) (sv := .int .u16 (W.rb16 x)) st_Gw ⟨okNil, eqs_ok, okNilB, okNilI, okNilP⟩ Tryz.func47 rfl mixed [] (by kernel_rfl) 10000 (by rfl) ?_
    (conv => whnf)
    (repeat' (first | (refine And.intro (fun hb => ?_) (fun hb => ?_) <;> (first | contradiction | (conv => whnf))) | (refine And.intro ?_ ?_; rotate_left 1; (conv => whnf))))
    all_goals (first | rfl | exact ⟨rfl, rfl⟩)
  · trivial
def k_rb32 : List SV → List Blk → Res := fun args _ => match args with
  | [.int .u32 x] => .ok (.int .u32 (W.rb32 x)) []
  | _ => .fail
theorem k_rb32_ok : CtrOk Tryz.prog Gw 49 k_rb32 := by
  refine ⟨fun _ _ => by kernel_rfl, fun args M => ?_⟩
  unfold k_rb32
  split
  · rename_i x
    refine ctr_flat (Γ := ⟨[], eqs, [], [], []⟩) (sv := .int .u32 (W.rb32 x)) st_Gw ⟨okNil, eqs_ok, okNilB, okNilI, okNilP⟩ Tryz.func49 rfl mixed [] (by kernel_rfl) 10000 (by rfl) ?_
    (conv => whnf)
    (repeat' (first | (refine And.intro (fun hb => ?_) (fun hb => ?_) <;> (first | contradiction | (conv => whnf))) | (refine And.intro ?_ ?_; rotate_left 1; (conv => whnf))))
    all_goals (first | rfl | exact ⟨rfl, rfl⟩)
  · trivial
def k_rb64 : List SV → List Blk → Res := fun args _ => match args with
  | [.u64 x] => .ok (.u64 (W.rb64 x)) []
  | _ => .fail
theorem k_rb64_ok : CtrOk Tryz.prog Gw 51 k_rb64 := by
  refine ⟨fun _ _ => by kernel_rfl, fun args M => ?_⟩
  unfold k_rb64
  split
  · rename_i x
    refine ctr_flat (Γ := ⟨[], eqs, [], [], []⟩) (sv := .u64 (W.rb64 x)) st_Gw ⟨okNil, eqs_ok, okNilB, okNilI, okNilP⟩ Tryz.func51 rfl mixed [] (by kernel_rfl) 10000 (by rfl) ?_
    (conv => whnf)
    (repeat' (first | (refine And.intro (fun hb => ?_) (fun hb => ?_) <;> (first | contradiction | (conv => whnf))) | (refine And.intro ?_ ?_; rotate_left 1; (conv => whnf))))
    all_goals (first | rfl | exact ⟨rfl, rfl⟩)
  · trivial
attribute [local irreducible] W.rb16 W.rb32 W.rb64
def k_swp : List SV → List Blk → Res := fun args _ => match args with
  | [.int .i64 o, .int .i64 k, .u64 n] => .ok (.tup [.u64 (W.swp o k n).1, .bool (W.swp o k n).2]) []
  | _ => .fail
theorem k_swp_ok : CtrOk Tryz.prog Gw 21 k_swp := by
  refine ⟨fun _ _ => by kernel_rfl, fun args M => ?_⟩
  unfold k_swp
  split
  · rename_i o k n
    refine ctr_flat (Γ := ⟨[(47, k_rb16), (49, k_rb32), (51, k_rb64)], eqs, [], [(46, Tryz.f46, [(1, 8, [0, 1, 3, 0, 8, 24, 56, 63, 255])]), (48, Tryz.f48, [(1, 8, [0, 1, 3, 0, 8, 24, 56, 63, 255])]), (50, Tryz.f50, [(1, 3, [0, 0, 2, 7, 15])])], []⟩) (sv := .tup [.u64 (W.swp o k n).1, .bool (W.swp o k n).2]) st_Gw ⟨(okCons k_rb16_ok (okCons k_rb32_ok (okCons k_rb64_ok okNil))), eqs_ok, okNilB, (okConsI Tryz.func46 rfl (by kernel_rfl) (fun _ _ => by kernel_rfl) (okConsI Tryz.func48 rfl (by kernel_rfl) (fun _ _ => by kernel_rfl) (okConsI Tryz.func50 rfl (by kernel_rfl) (fun _ _ => by kernel_rfl) okNilI))), okNilP⟩ Tryz.func21 rfl mixed [] (by kernel_rfl) 10000 (by rfl) ?_
    (conv => whnf)
    (repeat' (first | (refine step_t (by first | rfl | assumption) ?_; (conv => whnf)) | (refine step_f (by first | rfl | assumption) ?_; (conv => whnf)) | (refine step_nt (by assumption) ?_; (conv => whnf)) | (refine step_nf (by assumption) ?_; (conv => whnf)) | (refine step_n (fun hb => ?_) (fun hb => ?_) <;> (first | contradiction | (conv => whnf))) | (refine And.intro (fun hb => ?_) (fun hb => ?_) <;> (first | contradiction | (conv => whnf))) | (refine And.intro (a := (_ : Bool) = true) ?_ ?_; rotate_left 1; (conv => whnf))))
    all_goals (first | rfl | trivial | (simp only [eqv, eqv1, eqv2, eqvL1, eqvL2, W.swp, W.swpA, *, if_true, if_false, Bool.false_eq_true]; done) | (simp only [eqv, eqv1, eqv2, W.swp, W.swpA, *, if_true, if_false, Bool.false_eq_true]; first | rfl | exact ⟨rfl, rfl⟩ | exact ⟨⟨rfl, rfl⟩, rfl⟩ | (refine ⟨?_, ?_⟩ <;> first | rfl | trivial | exact ⟨rfl, rfl⟩)))
  · trivial
end Go.Proofs.YtkfbjnikkmoanaaGreatDoor
namespace Go.Proofs.YtkfbjnikkmoanaaGreatDoor
open Go.RowKit Go.Sx
set_option linter.unusedSimpArgs false
set_option linter.unusedVariables false
set_option linter.unnecessarySimpa false
set_option maxRecDepth 100000
set_option maxHeartbeats 4000000
namespace A
/-- What arith.Swap tells. -/
def swap (o k : Int) (a : Sc) : Sc × Bool := if (W.swp o k (C.one a).1).2 then (if C.right a then (if (C.one a).2 then (C.const (W.swp o k (C.one a).1).1, true) else if o == 0 then C.low a (IntKind.i64.wrap (k.tdiv 8)) false else C.low C.unknown (IntKind.i64.wrap (k.tdiv 8)) false) else (zeroC, false)) else (zeroC, false)
section
variable {o k : Int} {a : Sc}
theorem sw_0 (h : (W.swp o k (C.one a).1).2 = false) : swap o k a = (zeroC, false) := by unfold swap; rw [if_neg (by rw [h]; decide)]
variable (h : (W.swp o k (C.one a).1).2 = true)
include h
theorem sw_1 (h1 : C.right a = false) : swap o k a = (zeroC, false) := by unfold swap; rw [if_pos h, if_neg (by rw [h1]; decide)]
theorem sw_2 (h1 : C.right a = true) (h2 : (C.one a).2 = true) : swap o k a = (C.const (W.swp o k (C.one a).1).1, true) := by unfold swap; rw [if_pos h, if_pos h1, if_pos h2]
theorem sw_3 (h1 : C.right a = true) (h2 : (C.one a).2 = false) (h3 : (o == 0) = true) : swap o k a = C.low a (IntKind.i64.wrap (k.tdiv 8)) false := by unfold swap; rw [if_pos h, if_pos h1, if_neg (by rw [h2]; decide), if_pos h3]
theorem sw_4 (h1 : C.right a = true) (h2 : (C.one a).2 = false) (h3 : (o == 0) = false) : swap o k a = C.low C.unknown (IntKind.i64.wrap (k.tdiv 8)) false := by unfold swap; rw [if_pos h, if_pos h1, if_neg (by rw [h2]; decide), if_neg (by rw [h3]; decide)]
end
theorem eqv_p {x p : Sc × Bool} (h : p = x) : eqv (.tup [scv x.1, .bool x.2]) (.tup [scv p.1, .bool p.2]) := by
  subst h; exact ⟨eqv_s _, rfl, trivial⟩
end A
namespace W
theorem swpA_is (o : Int) (x y p q : BitVec 64) : (swpA o x y).2 = (swpA o p q).2 := by unfold swpA; split <;> rfl
theorem swp_is (o k : Int) (n m : BitVec 64) : (swp o k n).2 = (swp o k m).2 := by
  unfold swp
  simp only [apply_ite Prod.snd, swpA_is o _ _ 0#64 0#64]
theorem swp_cases {o k : Int} {n : BitVec 64} (h : (swp o k n).2 = true) : 0 ≤ o ∧ o ≤ 2 ∧ (k = 16 ∨ k = 32 ∨ k = 64) := by
  unfold swp at h
  split at h
  · cases h
  split at h
  · cases h
  rename_i h1 h2
  have h1 : ¬ o < 0 := fun c => h1 (decide_eq_true c)
  have h2 : ¬ 2 < o := fun c => h2 (decide_eq_true c)
  refine ⟨by omega, by omega, ?_⟩
  split at h
  · rename_i h3; exact .inl (by simpa using h3)
  split at h
  · rename_i h3; exact .inr (.inl (by simpa using h3))
  split at h
  · rename_i h3; exact .inr (.inr (by simpa using h3))
  · cases h
theorem swp_form {o k : Int} (n : BitVec 64) (h1 : 0 ≤ o) (h2 : o ≤ 2) : swp o k n = if k == 16 then swpA o (BitVec.ofInt 64 (IntKind.u16.wrap (uv n))) (BitVec.ofInt 64 (rb16 (IntKind.u16.wrap (uv n)))) else if k == 32 then swpA o (BitVec.ofInt 64 (IntKind.u32.wrap (uv n))) (BitVec.ofInt 64 (rb32 (IntKind.u32.wrap (uv n)))) else if k == 64 then swpA o n (rb64 n) else (0, false) := by
  unfold swp
  rw [if_neg (by simp; omega), if_neg (by simp; omega)]
theorem u16_xt (z : Int) : xt (BitVec.ofInt 64 (IntKind.u16.wrap z)) 16 false = BitVec.ofInt 64 (IntKind.u16.wrap z) := by
  have e : IntKind.u16.wrap z = z % 65536 := by simp [IntKind.wrap, IntKind.signed, IntKind.bits]
  rw [e]
  refine S.eq_toNat.2 ?_
  rw [C.xt_f _ 16 (by decide), BitVec.toNat_ofInt]
  omega
theorem u32_xt (z : Int) : xt (BitVec.ofInt 64 (IntKind.u32.wrap z)) 32 false = BitVec.ofInt 64 (IntKind.u32.wrap z) := by
  rw [uwrap]
  refine S.eq_toNat.2 ?_
  rw [C.xt_f _ 32 (by decide), BitVec.toNat_ofInt]
  omega
theorem rb16_u (x : Int) : ∃ z, rb16 x = IntKind.u16.wrap z := ⟨_, rfl⟩
theorem rb32_u (x : Int) : ∃ z, rb32 x = IntKind.u32.wrap z := ⟨_, rfl⟩
/-- What is turned has no more bytes. -/
theorem swp_fix {o k : Int} {n : BitVec 64} (h : (swp o k n).2 = true) : (extB (swp o k n).1 (IntKind.i64.wrap (k.tdiv 8)) false) = ((swp o k n).1, true) := by
  obtain ⟨h1, h2, h3⟩ := swp_cases h
  rw [swp_form n h1 h2]
  rcases h3 with rfl | rfl | rfl
  · rw [if_pos (by rfl)]
    show (xt (swpA o _ _).1 16 false, true) = _
    unfold swpA
    split
    · rw [u16_xt]
    · obtain ⟨z, e⟩ := rb16_u (IntKind.u16.wrap (uv n)); rw [e, u16_xt]
  · rw [if_neg (by decide), if_pos (by rfl)]
    show (xt (swpA o _ _).1 32 false, true) = _
    unfold swpA
    split
    · rw [u32_xt]
    · obtain ⟨z, e⟩ := rb32_u (IntKind.u32.wrap (uv n)); rw [e, u32_xt]
  · rw [if_neg (by decide), if_neg (by decide), if_pos (by rfl)]
    rfl
theorem swp_0 {o k : Int} {n : BitVec 64} (h : (swp o k n).2 = true) (h0 : (o == 0) = true) : extB n (IntKind.i64.wrap (k.tdiv 8)) false = ((swp o k n).1, true) := by
  obtain ⟨h1, h2, h3⟩ := swp_cases h
  have h0 : o = 0 := by simpa using h0
  subst h0
  rw [swp_form n h1 h2]
  rcases h3 with rfl | rfl | rfl
  · rw [if_pos (by rfl)]
    show (xt n 16 false, true) = (BitVec.ofInt 64 (IntKind.u16.wrap (uv n)), true)
    rw [x_f16]
  · rw [if_neg (by decide), if_pos (by rfl)]
    show (xt n 32 false, true) = (BitVec.ofInt 64 (IntKind.u32.wrap (uv n)), true)
    rw [x_f32]
  · rw [if_neg (by decide), if_neg (by decide), if_pos (by rfl)]
    rfl
end W
namespace A
open C
section
variable {o k : Int} {a : Sc} (n : BitVec 64) (ha : R.inS a.s = true)
include ha
theorem swap_told : (swap o k a).2 = ((W.swp o k n).2 && C.right a) := by
  rw [W.swp_is o k n (C.one a).1]
  cases h : (W.swp o k (C.one a).1).2 with
  | false => rw [sw_0 h]; rfl
  | true =>
    cases h1 : C.right a with
    | false => rw [sw_1 h h1]; rfl
    | true =>
      cases h2 : (C.one a).2 with
      | true => rw [sw_2 h h1 h2]; rfl
      | false =>
        cases h3 : (o == 0) with
        | true => rw [sw_3 h h1 h2 h3, (low_law ha _ false (C.one a).1).1, W.swp_0 h h3, h1]
        | false => rw [sw_4 h h1 h2 h3, (low_law unknown_in _ false (W.swp o k (C.one a).1).1).1, W.swp_fix h, C.unknown_right]
theorem swap_in : R.inS (swap o k a).1.s = true := by
  unfold swap
  split
  · split
    · split
      · exact C.const_ins _
      · split
        · exact low_in ha _ _
        · exact low_in unknown_in _ _
    · rfl
  · rfl
end
end A
attribute [local irreducible] W.swp C.low C.one C.right C.const A.swap R.inS
def k_aswap : List SV → List Blk → Res := fun args _ => match args with
  | [.int .i64 o, .int .i64 k, .agg [.u64 av, .u64 am, .u64 alo, .u64 ahi, .int .i64 asl, .int .i64 ash]] => .test (R.inS ⟨alo, ahi, asl, ash⟩) (.ok (.tup [scv (A.swap o k (⟨⟨av, am⟩, ⟨alo, ahi, asl, ash⟩⟩ : Sc)).1, .bool (A.swap o k (⟨⟨av, am⟩, ⟨alo, ahi, asl, ash⟩⟩ : Sc)).2]) [])
  | _ => .fail
theorem k_aswap_ok : CtrOk Tryz.prog Gw 17 k_aswap := by
  refine ⟨fun _ _ => by kernel_rfl, fun args M => ?_⟩
  unfold k_aswap
  split
  · rename_i o k av am alo ahi asl ash
    intro ht
    have hu : R.inS C.unknown.s = true := A.unknown_in
    refine ctr_flat (Γ := ⟨[(37, k_cOne), (21, k_swp), (14, k_cRight), (11, k_cConst), (20, k_cUnknown), (38, k_cLow)], eqs, [], [], []⟩) (sv := .tup [scv (A.swap o k (⟨⟨av, am⟩, ⟨alo, ahi, asl, ash⟩⟩ : Sc)).1, .bool (A.swap o k (⟨⟨av, am⟩, ⟨alo, ahi, asl, ash⟩⟩ : Sc)).2]) st_Gw ⟨(okCons k_cOne_ok (okCons k_swp_ok (okCons k_cRight_ok (okCons k_cConst_ok (okCons k_cUnknown_ok (okCons k_cLow_ok okNil)))))), eqs_ok, okNilB, okNilI, okNilP⟩ Tryz.func17 rfl mixed [] (by kernel_rfl) 10000 (by rfl) ?_
    (conv => whnf)
    (repeat' (first | (refine step_t (by first | rfl | assumption) ?_; (conv => whnf)) | (refine step_f (by first | rfl | assumption) ?_; (conv => whnf)) | (refine step_nt (by assumption) ?_; (conv => whnf)) | (refine step_nf (by assumption) ?_; (conv => whnf)) | (refine step_n (fun hb => ?_) (fun hb => ?_) <;> (first | contradiction | (conv => whnf))) | (refine And.intro (fun hb => ?_) (fun hb => ?_) <;> (first | contradiction | (conv => whnf))) | (refine And.intro (a := (_ : Bool) = true) ?_ ?_; rotate_left 1; (conv => whnf))))
    all_goals (first | rfl | trivial | assumption | exact hu | exact A.eqv_pf (A.sw_0 (by assumption)) | exact A.eqv_pf (A.sw_1 (by assumption) (by assumption)) | exact A.eqv_pt (A.sw_2 (by assumption) (by assumption) (by assumption)) | exact A.eqv_p (A.sw_3 (by assumption) (by assumption) (by assumption) (by assumption)) | exact A.eqv_p (A.sw_4 (by assumption) (by assumption) (by assumption) (by assumption)))
  · trivial
end Go.Proofs.YtkfbjnikkmoanaaGreatDoor
