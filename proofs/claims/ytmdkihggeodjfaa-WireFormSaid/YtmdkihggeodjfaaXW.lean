import Derived.Test.YtmdkihggeodjfaaXE
namespace Go.Proofs.Ytmdkihggeodjfaa
open Go.RowKit Go.Sx
set_option linter.unusedSimpArgs false
set_option linter.unusedVariables false
set_option linter.unnecessarySimpa false
set_option maxRecDepth 100000
set_option maxHeartbeats 4000000
theorem rows2 {sz : Nat} {g h : Nat → List FV} (h0 : g 0 = h 0) (h1 : g 1 = h 1) : FVEq (.row sz 2 g) (.row sz 2 h) := FVEq.of_rows fun i hi => by
  match i, hi with
  | 0, _ => exact h0
  | 1, _ => exact h1
  | i + 2, hi => omega
theorem rows0 {sz sz' : Nat} {g h : Nat → List FV} : FVEq (.row sz 0 g) (.row sz' 0 h) := .row (fun h => absurd h (Nat.lt_irrefl 0)) (fun i hi => absurd hi (Nat.not_lt_zero i)) fun i _ _ _ hi => absurd hi (Nat.not_lt_zero i)
def tA (n : Int) : Tr := .mk 1 n [] []
def tB : Tr := .mk 2 0 [97, 98] []
def tC : Tr := .mk 2 0 [] []
def tD : Tr := .mk 3 0 [] [tA 0, tC]
theorem isA (n : Int) : IsT [.int .u8 1, .int .i64 n, .val (.slice none 0 0), .val (.slice none 0 0)] (tA n) := isT_mk (t := tA n) .nil .nil
theorem isB : IsT [.int .u8 2, .int .i64 0, .row 1 (ByteArray.size ⟨#[97, 98]⟩) (shiftG 0 (txtG ⟨#[97, 98]⟩)), .val (.slice none 0 0)] tB := isT_mk (t := tB) (rows2 rfl rfl) .nil
theorem isC_ {g : Nat → List FV} : IsT [.int .u8 2, .int .i64 0, .row 1 0 g, .val (.slice none 0 0)] tC := isT_mk (t := tC) rows0 .nil
theorem isD {g : Nat → List FV} (h0 : IsT (g 0) (tA 0)) (h1 : IsT (g 1) tC) : IsT [.int .u8 3, .int .i64 0, .val (.slice none 0 0), .row 4 2 g] tD := isT_mk (t := tD) .nil (.row (fun _ => rfl) (fun i hi => by
  match i, hi with
  | 0, _ => exact h0.1
  | 1, _ => exact h1.1
  | i + 2, hi => omega) fun i j x y hi hx hy => by
  match i, hi with
  | 0, _ => exact h0.2 j x y hx hy
  | 1, _ => exact h1.2 j x y hx hy
  | i + 2, hi => omega)
attribute [local irreducible] Tr.put elts gOf allIs
def k_awake : List SV → List Blk → Res := fun args _ => match args with
  | [] => .ok (.bool true) []
  | _ => .fail
theorem k_awake_ok : CtrOk Try.prog Gw 7 k_awake := by
  refine ⟨fun _ _ => by kernel_rfl, fun args M => ?_⟩
  unfold k_awake
  split
  · refine ctr_flat (Γ := ⟨[(12, k_same)], eqs, [(27, k_put)], [(11, Try.f11, []), (25, Try.f25, []), (10, Try.f10, []), (28, Try.f28, []), (9, Try.f9, []), (18, Try.f18, [(1, 7, [0, 1, 3, 0, 8, 24, 7, 127])]), (26, Try.f26, []), (32, Try.f32, []), (44, Try.f44, []), (33, Try.f33, []), (40, Try.f40, [])], [], mixs, meqs, []⟩) (sv := .bool true) st_Gw ⟨(okCons k_same_ok okNil), eqs_ok, (okConsB k_put_ok okNilB), (okConsI Try.func11 rfl (by kernel_rfl) (fun _ _ => by kernel_rfl) (okConsI Try.func25 rfl (by kernel_rfl) (fun _ _ => by kernel_rfl) (okConsI Try.func10 rfl (by kernel_rfl) (fun _ _ => by kernel_rfl) (okConsI Try.func28 rfl (by kernel_rfl) (fun _ _ => by kernel_rfl) (okConsI Try.func9 rfl (by kernel_rfl) (fun _ _ => by kernel_rfl) (okConsI Try.func18 rfl (by kernel_rfl) (fun _ _ => by kernel_rfl) (okConsI Try.func26 rfl (by kernel_rfl) (fun _ _ => by kernel_rfl) (okConsI Try.func32 rfl (by kernel_rfl) (fun _ _ => by kernel_rfl) (okConsI Try.func44 rfl (by kernel_rfl) (fun _ _ => by kernel_rfl) (okConsI Try.func33 rfl (by kernel_rfl) (fun _ _ => by kernel_rfl) (okConsI Try.func40 rfl (by kernel_rfl) (fun _ _ => by kernel_rfl) okNilI))))))))))), okNilP, mixs_ok, meqs_ok, okNilY⟩ Try.func7 rfl mixed [] (by kernel_rfl) 10000 (by rfl) ?_
    (conv => whnf)
    (repeat' (first | (refine .inl ⟨20, ?_⟩; (conv => whnf)) | (refine step_t (by rfl) ?_; (conv => whnf)) | (refine step_f (by rfl) ?_; (conv => whnf)) | (refine step_nt (by assumption) ?_; (conv => whnf)) | (refine step_nf (by assumption) ?_; (conv => whnf)) | (refine step_n (fun hb => ?_) (fun hb => ?_) <;> (first | contradiction | (conv => whnf))) | (refine And.intro (fun hb => ?_) (fun hb => ?_) <;> (first | contradiction | (conv => whnf))) | (refine And.intro ?_ ?_; rotate_left 1; (conv => whnf))))
    all_goals (first | (rw [(decT_of (isA 3))] at hb; exact Eq.trans (show true = _ from by kernel_rfl) hb) | (rw [(decT_of (isA (-3)))] at hb; exact Eq.trans (show true = _ from by kernel_rfl) hb) | (rw [(decT_of (isA 28))] at hb; exact Eq.trans (show true = _ from by kernel_rfl) hb) | (rw [(decT_of isB)] at hb; exact Eq.trans (show true = _ from by kernel_rfl) hb) | (rw [decT_of (t := tD)] at hb; (exact Eq.trans (show true = _ from by kernel_rfl) hb); exact isD (isA 0) isC_) | exact isT_of (isA 3) | exact isT_of (isA (-3)) | exact isT_of (isA 28) | exact isT_of isB | exact isT_of (isD (isA 0) isC_) | (show _ = true; rw [(decT_of (isA 3))]; kernel_rfl) | (show _ = true; rw [(decT_of (isA (-3)))]; kernel_rfl) | (show _ = true; rw [(decT_of (isA 28))]; kernel_rfl) | (show _ = true; rw [(decT_of isB)]; kernel_rfl) | (show _ = true; rw [decT_of (t := tD)]; (kernel_rfl); exact isD (isA 0) isC_) | (show _ = true; kernel_rfl))
  · trivial
end Go.Proofs.Ytmdkihggeodjfaa
