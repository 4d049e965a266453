import Derived.Test.YtddcaklgflfkeaaGreatDoorX0
import Derived.Test.YtddcaklgflfkeaaGreatDoorShelf
namespace Go.Proofs.YtddcaklgflfkeaaGreatDoor
open Go.RowKit Go.Sx
set_option linter.unusedSimpArgs false
set_option linter.unusedVariables false
set_option linter.unnecessarySimpa false
set_option maxRecDepth 100000
set_option maxHeartbeats 4000000
set_option maxHeartbeats 1000000 in
theorem tz_core (x : BitVec 64) (k idx : Nat) (w : World) (hx0 : (x == 0#64) = false)
    (key : uv (((x &&& -x) * 285870213051353865#64) >>> 58) = (idx : Int))
    (hi : idx < 64) (hk : k < 64) (hcell : w.cell? ⟨0, idx, none⟩ = some (.int .u8 k)) :
    Calls Tryz.prog 259 #[.int .u64 (uv x)] w fun e w' => e = .returned (.int .i64 k) ∧ w' = w := by
  have H := Lib.hid key; clear key
  go_enter Tryz.func259, Tryz.ntmps259
  go_wp2_with (simp only [H.out])
  go_ret
  exact ⟨rfl, rfl⟩
theorem tz_key (x : BitVec 64) (h : x ≠ 0#64) : uv (((x &&& -x) * 285870213051353865#64) >>> 58) = ((2 ^ Lib.ctz 64 x.toNat * 285870213051353865 % 18446744073709551616 / 288230376151711744 : Nat) : Int) := by
  have hx0 : x.toNat ≠ 0 := fun e => h (BitVec.eq_of_toNat_eq (by simpa using e))
  obtain ⟨hlow, _⟩ := Lib.lowest_bit 64 x.toNat hx0 x.isLt
  unfold uv; congr 1
  rw [BitVec.toNat_ushiftRight, BitVec.toNat_mul, BitVec.toNat_and, BitVec.toNat_neg, Nat.mod_eq_of_lt (show 2 ^ 64 - x.toNat < 2 ^ 64 by omega), hlow, Nat.shiftRight_eq_div_pow]
  rfl
theorem tz_zero (w : World) : Calls Tryz.prog 259 #[.int .u64 0] w fun e w' => e = .returned (.int .i64 64) ∧ w' = w := by
  go_enter Tryz.func259, Tryz.ntmps259
  go_wp2
  go_ret
  exact ⟨rfl, rfl⟩
theorem c_tz (x : BitVec 64) (w : World) (hT : Tab w) : Calls Tryz.prog 259 #[.int .u64 (uv x)] w (Ret w (.int .i64 (tz x : Nat))) := by
  by_cases h : x = 0#64
  · subst h
    exact (tz_zero w).mono fun e w' ⟨he, hw⟩ => ⟨he, grow_mk (hw ▸ up_refl w)⟩
  · have hx0 : x.toNat ≠ 0 := fun e => h (BitVec.eq_of_toNat_eq (by simpa using e))
    obtain ⟨_, hk⟩ := Lib.lowest_bit 64 x.toNat hx0 x.isLt
    obtain ⟨hi, htab⟩ := Lib.deBruijn64_at _ hk
    have hcell := hT _ hi
    rw [htab] at hcell
    exact (tz_core x _ _ w (by simpa using h) (tz_key x h) hi hk hcell).mono fun e w' ⟨he, hw⟩ => ⟨he, grow_mk (hw ▸ up_refl w)⟩
theorem c_lz (x : BitVec 64) (w : World) : Calls Tryz.prog 178 #[.int .u64 (uv x)] w (Ret w (.int .i64 (64 - (bl x : Int)))) :=
  (Tryz.bits_LeadingZeros64 (uv x) w (uv_nonneg x) (by have := uv_lt x; omega)).mono fun e w' ⟨he, hw⟩ => ⟨he, grow_mk (hw ▸ up_refl w)⟩
def k_lz : List SV → List Blk → Res := fun args _ => match args with
  | [.u64 x] => .ok (.int .i64 (64 - (bl x : Int))) []
  | _ => .fail
theorem k_lz_ok : CtrOk Tryz.prog Gw 178 k_lz := by
  refine ⟨fun _ _ => by kernel_rfl, fun args M => ?_⟩
  unfold k_lz
  split
  · rename_i x
    exact fun B ρ w hG hM => ctr_ret hM (sv := .int .i64 (64 - (bl x : Int))) (args := [.u64 x]) (fun _ => rfl) (c_lz x w)
  · trivial
def k_tz : List SV → List Blk → Res := fun args _ => match args with
  | [.u64 x] => .ok (.int .i64 (tz x : Nat)) []
  | _ => .fail
theorem k_tz_ok : CtrOk Tryz.prog Gw 259 k_tz := by
  refine ⟨fun _ _ => by kernel_rfl, fun args M => ?_⟩
  unfold k_tz
  split
  · rename_i x
    exact fun B ρ w hG hM => ctr_ret hM (sv := .int .i64 (tz x : Nat)) (args := [.u64 x]) (fun _ => rfl) (c_tz x w hG)
  · trivial
end Go.Proofs.YtddcaklgflfkeaaGreatDoor
namespace Go.Proofs.YtddcaklgflfkeaaGreatDoor
open Go.RowKit Go.Sx
set_option linter.unusedSimpArgs false
set_option linter.unusedVariables false
set_option linter.unnecessarySimpa false
set_option maxRecDepth 100000
set_option maxHeartbeats 4000000
theorem ite_min (a b : Nat) : (if (b : Int) < (a : Int) then (b : Int) else (a : Int)) = ((min a b : Nat) : Int) := by split <;> omega
theorem allOnes64 : (18446744073709551615#64 : BitVec 64) = BitVec.allOnes 64 := by decide
def k_known : List SV → List Blk → Res := fun args _ => match args with
  | [.agg [.u64 av, .u64 am]] => .ok (.bool (T.right ⟨av, am⟩)) []
  | _ => .fail
theorem k_known_ok : CtrOk Tryz.prog Gw 74 k_known := by
  refine ⟨fun _ _ => by kernel_rfl, fun args M => ?_⟩
  unfold k_known
  split
  · rename_i av am
    refine ctr_flat (Γ := ⟨[], eqs, [], [], []⟩) (sv := .bool (T.right ⟨av, am⟩)) st_Gw ⟨okNil, eqs_ok, okNilB, okNilI, okNilP⟩ Tryz.func74 rfl mixed [] (by kernel_rfl) 10000 (by rfl) ?_
    (conv => whnf)
    (repeat' (first | (refine And.intro (fun hb => ?_) (fun hb => ?_) <;> (first | contradiction | (conv => whnf))) | (refine And.intro ?_ ?_; rotate_left 1; (conv => whnf))))
    all_goals (first | rfl | trivial | (simp_all [eqv, eqv1, eqv2, eqvL1, eqvL2]))
  · trivial
def k_Right : List SV → List Blk → Res := fun args _ => match args with
  | [.agg [.u64 av, .u64 am]] => .ok (.bool (T.right ⟨av, am⟩)) []
  | _ => .fail
theorem k_Right_ok : CtrOk Tryz.prog Gw 32 k_Right := by
  refine ⟨fun _ _ => by kernel_rfl, fun args M => ?_⟩
  unfold k_Right
  split
  · rename_i av am
    refine ctr_flat (Γ := ⟨[(74, k_known)], eqs, [], [], []⟩) (sv := .bool (T.right ⟨av, am⟩)) st_Gw ⟨(okCons k_known_ok okNil), eqs_ok, okNilB, okNilI, okNilP⟩ Tryz.func32 rfl mixed [] (by kernel_rfl) 10000 (by rfl) ?_
    (conv => whnf)
    (repeat' (first | (refine And.intro (fun hb => ?_) (fun hb => ?_) <;> (first | contradiction | (conv => whnf))) | (refine And.intro ?_ ?_; rotate_left 1; (conv => whnf))))
    all_goals (first | rfl | trivial | (simp_all [eqv, eqv1, eqv2, eqvL1, eqvL2]))
  · trivial
def k_Const : List SV → List Blk → Res := fun args _ => match args with
  | [.u64 n] => .ok (tsv ⟨n, 0⟩) []
  | _ => .fail
theorem k_Const_ok : CtrOk Tryz.prog Gw 24 k_Const := by
  refine ⟨fun _ _ => by kernel_rfl, fun args M => ?_⟩
  unfold k_Const
  split
  · rename_i n
    refine ctr_flat (Γ := ⟨[], eqs, [], [], []⟩) (sv := tsv ⟨n, 0⟩) st_Gw ⟨okNil, eqs_ok, okNilB, okNilI, okNilP⟩ Tryz.func24 rfl mixed [] (by kernel_rfl) 10000 (by rfl) ?_
    (conv => whnf)
    (repeat' (first | (refine And.intro (fun hb => ?_) (fun hb => ?_) <;> (first | contradiction | (conv => whnf))) | (refine And.intro ?_ ?_; rotate_left 1; (conv => whnf))))
    all_goals (first | rfl | trivial | (simp_all [eqv, eqv1, eqv2, eqvL1, eqvL2]))
  · trivial
def k_Unknown : List SV → List Blk → Res := fun args _ => match args with
  | [] => .ok (tsv ⟨0, BitVec.allOnes 64⟩) []
  | _ => .fail
theorem k_Unknown_ok : CtrOk Tryz.prog Gw 35 k_Unknown := by
  refine ⟨fun _ _ => by kernel_rfl, fun args M => ?_⟩
  unfold k_Unknown
  split
  · refine ctr_flat (Γ := ⟨[], eqs, [], [], []⟩) (sv := tsv ⟨0, BitVec.allOnes 64⟩) st_Gw ⟨okNil, eqs_ok, okNilB, okNilI, okNilP⟩ Tryz.func35 rfl mixed [] (by kernel_rfl) 10000 (by rfl) ?_
    (conv => whnf)
    (repeat' (first | (refine And.intro (fun hb => ?_) (fun hb => ?_) <;> (first | contradiction | (conv => whnf))) | (refine And.intro ?_ ?_; rotate_left 1; (conv => whnf))))
    all_goals (first | rfl | trivial | (simp_all [eqv, eqv1, eqv2, eqvL1, eqvL2]))
  · trivial
def k_Has : List SV → List Blk → Res := fun args _ => match args with
  | [.agg [.u64 av, .u64 am], .u64 n] => .ok (.bool (T.has ⟨av, am⟩ n)) []
  | _ => .fail
theorem k_Has_ok : CtrOk Tryz.prog Gw 30 k_Has := by
  refine ⟨fun _ _ => by kernel_rfl, fun args M => ?_⟩
  unfold k_Has
  split
  · rename_i av am n
    refine ctr_flat (Γ := ⟨[(32, k_Right)], eqs, [], [], []⟩) (sv := .bool (T.has ⟨av, am⟩ n)) st_Gw ⟨(okCons k_Right_ok okNil), eqs_ok, okNilB, okNilI, okNilP⟩ Tryz.func30 rfl mixed [] (by kernel_rfl) 10000 (by rfl) ?_
    (conv => whnf)
    (repeat' (first | (refine And.intro (fun hb => ?_) (fun hb => ?_) <;> (first | contradiction | (conv => whnf))) | (refine And.intro ?_ ?_; rotate_left 1; (conv => whnf))))
    all_goals (first | rfl | trivial | (simp_all [eqv, eqv1, eqv2, eqvL1, eqvL2, T.has]))
  · trivial
def k_Leq : List SV → List Blk → Res := fun args _ => match args with
  | [.agg [.u64 av, .u64 am], .agg [.u64 bv, .u64 bm]] => .ok (.bool (T.leq ⟨av, am⟩ ⟨bv, bm⟩)) []
  | _ => .fail
theorem k_Leq_ok : CtrOk Tryz.prog Gw 119 k_Leq := by
  refine ⟨fun _ _ => by kernel_rfl, fun args M => ?_⟩
  unfold k_Leq
  split
  · rename_i av am bv bm
    refine ctr_flat (Γ := ⟨[(32, k_Right)], eqs, [], [], []⟩) (sv := .bool (T.leq ⟨av, am⟩ ⟨bv, bm⟩)) st_Gw ⟨(okCons k_Right_ok okNil), eqs_ok, okNilB, okNilI, okNilP⟩ Tryz.func119 rfl mixed [] (by kernel_rfl) 10000 (by rfl) ?_
    (conv => whnf)
    (repeat' (first | (refine And.intro (fun hb => ?_) (fun hb => ?_) <;> (first | contradiction | (conv => whnf))) | (refine And.intro ?_ ?_; rotate_left 1; (conv => whnf))))
    all_goals (first | rfl | trivial | (simp_all [eqv, eqv1, eqv2, eqvL1, eqvL2, T.leq]))
  · trivial
def k_Meet : List SV → List Blk → Res := fun args _ => match args with
  | [.agg [.u64 av, .u64 am], .agg [.u64 bv, .u64 bm]] => .ok (.tup [tsv (T.meet ⟨av, am⟩ ⟨bv, bm⟩).1, .bool (T.meet ⟨av, am⟩ ⟨bv, bm⟩).2]) []
  | _ => .fail
theorem k_Meet_ok : CtrOk Tryz.prog Gw 105 k_Meet := by
  refine ⟨fun _ _ => by kernel_rfl, fun args M => ?_⟩
  unfold k_Meet
  split
  · rename_i av am bv bm
    refine ctr_flat (Γ := ⟨[(32, k_Right)], eqs, [], [], []⟩) (sv := .tup [tsv (T.meet ⟨av, am⟩ ⟨bv, bm⟩).1, .bool (T.meet ⟨av, am⟩ ⟨bv, bm⟩).2]) st_Gw ⟨(okCons k_Right_ok okNil), eqs_ok, okNilB, okNilI, okNilP⟩ Tryz.func105 rfl mixed [] (by kernel_rfl) 10000 (by rfl) ?_
    (conv => whnf)
    (repeat' (first | (refine And.intro (fun hb => ?_) (fun hb => ?_) <;> (first | contradiction | (conv => whnf))) | (refine And.intro ?_ ?_; rotate_left 1; (conv => whnf))))
    all_goals (first | rfl | trivial | (simp_all [eqv, eqv1, eqv2, eqvL1, eqvL2, T.meet]))
  · trivial
def k_sum : List SV → List Blk → Res := fun args _ => match args with
  | [.agg [.u64 av, .u64 am, .u64 bv, .u64 bm]] => .ok (tsv (T.sum ⟨av, am⟩ ⟨bv, bm⟩)) []
  | _ => .fail
theorem k_sum_ok : CtrOk Tryz.prog Gw 238 k_sum := by
  refine ⟨fun _ _ => by kernel_rfl, fun args M => ?_⟩
  unfold k_sum
  split
  · rename_i av am bv bm
    refine ctr_flat (Γ := ⟨[], eqs, [], [], []⟩) (sv := tsv (T.sum ⟨av, am⟩ ⟨bv, bm⟩)) st_Gw ⟨okNil, eqs_ok, okNilB, okNilI, okNilP⟩ Tryz.func238 rfl mixed [] (by kernel_rfl) 10000 (by rfl) ?_
    (conv => whnf)
    (repeat' (first | (refine And.intro (fun hb => ?_) (fun hb => ?_) <;> (first | contradiction | (conv => whnf))) | (refine And.intro ?_ ?_; rotate_left 1; (conv => whnf))))
    all_goals (first | rfl | trivial | (simp_all [eqv, eqv1, eqv2, eqvL1, eqvL2, T.sum]))
  · trivial
def k_difference : List SV → List Blk → Res := fun args _ => match args with
  | [.agg [.u64 av, .u64 am, .u64 bv, .u64 bm]] => .ok (tsv (T.difference ⟨av, am⟩ ⟨bv, bm⟩)) []
  | _ => .fail
theorem k_difference_ok : CtrOk Tryz.prog Gw 239 k_difference := by
  refine ⟨fun _ _ => by kernel_rfl, fun args M => ?_⟩
  unfold k_difference
  split
  · rename_i av am bv bm
    refine ctr_flat (Γ := ⟨[], eqs, [], [], []⟩) (sv := tsv (T.difference ⟨av, am⟩ ⟨bv, bm⟩)) st_Gw ⟨okNil, eqs_ok, okNilB, okNilI, okNilP⟩ Tryz.func239 rfl mixed [] (by kernel_rfl) 10000 (by rfl) ?_
    (conv => whnf)
    (repeat' (first | (refine And.intro (fun hb => ?_) (fun hb => ?_) <;> (first | contradiction | (conv => whnf))) | (refine And.intro ?_ ?_; rotate_left 1; (conv => whnf))))
    all_goals (first | rfl | trivial | (simp_all [eqv, eqv1, eqv2, eqvL1, eqvL2, T.difference]))
  · trivial
def k_and : List SV → List Blk → Res := fun args _ => match args with
  | [.agg [.u64 av, .u64 am, .u64 bv, .u64 bm]] => .ok (tsv (T.and ⟨av, am⟩ ⟨bv, bm⟩)) []
  | _ => .fail
theorem k_and_ok : CtrOk Tryz.prog Gw 240 k_and := by
  refine ⟨fun _ _ => by kernel_rfl, fun args M => ?_⟩
  unfold k_and
  split
  · rename_i av am bv bm
    refine ctr_flat (Γ := ⟨[], eqs, [], [], []⟩) (sv := tsv (T.and ⟨av, am⟩ ⟨bv, bm⟩)) st_Gw ⟨okNil, eqs_ok, okNilB, okNilI, okNilP⟩ Tryz.func240 rfl mixed [] (by kernel_rfl) 10000 (by rfl) ?_
    (conv => whnf)
    (repeat' (first | (refine And.intro (fun hb => ?_) (fun hb => ?_) <;> (first | contradiction | (conv => whnf))) | (refine And.intro ?_ ?_; rotate_left 1; (conv => whnf))))
    all_goals (first | rfl | trivial | (simp_all [eqv, eqv1, eqv2, eqvL1, eqvL2, T.and]))
  · trivial
def k_or : List SV → List Blk → Res := fun args _ => match args with
  | [.agg [.u64 av, .u64 am, .u64 bv, .u64 bm]] => .ok (tsv (T.or ⟨av, am⟩ ⟨bv, bm⟩)) []
  | _ => .fail
theorem k_or_ok : CtrOk Tryz.prog Gw 241 k_or := by
  refine ⟨fun _ _ => by kernel_rfl, fun args M => ?_⟩
  unfold k_or
  split
  · rename_i av am bv bm
    refine ctr_flat (Γ := ⟨[], eqs, [], [], []⟩) (sv := tsv (T.or ⟨av, am⟩ ⟨bv, bm⟩)) st_Gw ⟨okNil, eqs_ok, okNilB, okNilI, okNilP⟩ Tryz.func241 rfl mixed [] (by kernel_rfl) 10000 (by rfl) ?_
    (conv => whnf)
    (repeat' (first | (refine And.intro (fun hb => ?_) (fun hb => ?_) <;> (first | contradiction | (conv => whnf))) | (refine And.intro ?_ ?_; rotate_left 1; (conv => whnf))))
    all_goals (first | rfl | trivial | (simp_all [eqv, eqv1, eqv2, eqvL1, eqvL2, T.or]))
  · trivial
def k_xor : List SV → List Blk → Res := fun args _ => match args with
  | [.agg [.u64 av, .u64 am, .u64 bv, .u64 bm]] => .ok (tsv (T.xor ⟨av, am⟩ ⟨bv, bm⟩)) []
  | _ => .fail
theorem k_xor_ok : CtrOk Tryz.prog Gw 242 k_xor := by
  refine ⟨fun _ _ => by kernel_rfl, fun args M => ?_⟩
  unfold k_xor
  split
  · rename_i av am bv bm
    refine ctr_flat (Γ := ⟨[], eqs, [], [], []⟩) (sv := tsv (T.xor ⟨av, am⟩ ⟨bv, bm⟩)) st_Gw ⟨okNil, eqs_ok, okNilB, okNilI, okNilP⟩ Tryz.func242 rfl mixed [] (by kernel_rfl) 10000 (by rfl) ?_
    (conv => whnf)
    (repeat' (first | (refine And.intro (fun hb => ?_) (fun hb => ?_) <;> (first | contradiction | (conv => whnf))) | (refine And.intro ?_ ?_; rotate_left 1; (conv => whnf))))
    all_goals (first | rfl | trivial | (simp_all [eqv, eqv1, eqv2, eqvL1, eqvL2, T.xor]))
  · trivial
def k_join2 : List SV → List Blk → Res := fun args _ => match args with
  | [.agg [.u64 av, .u64 am], .agg [.u64 bv, .u64 bm]] => .ok (tsv (T.join2 ⟨av, am⟩ ⟨bv, bm⟩)) []
  | _ => .fail
theorem k_join2_ok : CtrOk Tryz.prog Gw 198 k_join2 := by
  refine ⟨fun _ _ => by kernel_rfl, fun args M => ?_⟩
  unfold k_join2
  split
  · rename_i av am bv bm
    refine ctr_flat (Γ := ⟨[], eqs, [], [], []⟩) (sv := tsv (T.join2 ⟨av, am⟩ ⟨bv, bm⟩)) st_Gw ⟨okNil, eqs_ok, okNilB, okNilI, okNilP⟩ Tryz.func198 rfl mixed [] (by kernel_rfl) 10000 (by rfl) ?_
    (conv => whnf)
    (repeat' (first | (refine And.intro (fun hb => ?_) (fun hb => ?_) <;> (first | contradiction | (conv => whnf))) | (refine And.intro ?_ ?_; rotate_left 1; (conv => whnf))))
    all_goals (first | rfl | trivial | (simp_all [eqv, eqv1, eqv2, eqvL1, eqvL2, T.join2]))
  · trivial
def k_product : List SV → List Blk → Res := fun args _ => match args with
  | [.agg [.u64 av, .u64 am, .u64 bv, .u64 bm]] => .ok (tsv (T.product ⟨av, am⟩ ⟨bv, bm⟩)) []
  | _ => .fail
theorem k_product_ok : CtrOk Tryz.prog Gw 243 k_product := by
  refine ⟨fun _ _ => by kernel_rfl, fun args M => ?_⟩
  unfold k_product
  split
  · rename_i av am bv bm
    refine ctr_flat (Γ := ⟨[(259, k_tz)], eqs, [], [], []⟩) (sv := tsv (T.product ⟨av, am⟩ ⟨bv, bm⟩)) st_Gw ⟨(okCons k_tz_ok okNil), eqs_ok, okNilB, okNilI, okNilP⟩ Tryz.func243 rfl mixed [(1, 7, [0, 1, 3, 7, 0, 16, 48, 127, 255, 511])] (by kernel_rfl) 10000 (by rfl) ?_
    (conv => whnf)
    (repeat' (first | (refine And.intro (fun hb => ?_) (fun hb => ?_) <;> (first | contradiction | (conv => whnf))) | (refine And.intro ?_ ?_; rotate_left 1; (conv => whnf))))
    all_goals (first | trivial | (simp only [ite_min]; exact decide_eq_true (by omega)) | (simp only [eqv1, T.product, ite_min, Int.toNat_natCast]; rfl))
  · trivial
def k_Range : List SV → List Blk → Res := fun args _ => match args with
  | [.u64 lo, .u64 hi] => .ok (tsv (T.range lo hi)) []
  | _ => .fail
theorem k_Range_ok : CtrOk Tryz.prog Gw 106 k_Range := by
  refine ⟨fun _ _ => by kernel_rfl, fun args M => ?_⟩
  unfold k_Range
  split
  · rename_i lo hi
    refine ctr_flat (Γ := ⟨[(178, k_lz), (35, k_Unknown)], eqs, [], [], []⟩) (sv := tsv (T.range lo hi)) st_Gw ⟨(okCons k_lz_ok (okCons k_Unknown_ok okNil)), eqs_ok, okNilB, okNilI, okNilP⟩ Tryz.func106 rfl mixed [] (by kernel_rfl) 10000 (by rfl) ?_
    (conv => whnf)
    (repeat' (first | (refine And.intro (fun hb => ?_) (fun hb => ?_) <;> (first | contradiction | (conv => whnf))) | (refine And.intro ?_ ?_; rotate_left 1; (conv => whnf))))
    all_goals (first | trivial | (simp only [lz_nonneg, decide_true]; done) | (simp only [decide_eq_true_eq, decide_eq_false_iff_not, beq_iff_eq, beq_eq_false_iff_ne, ne_eq] at *; simp only [eqv1, T.range, lz_toNat]; first | (rw [if_pos (by assumption)]; done) | (rw [if_pos (by assumption)]; rfl) | (rw [if_neg (by assumption), if_pos (by assumption)]; rfl) | (rw [if_neg (by assumption), if_neg (by assumption)]; rfl)))
  · trivial
end Go.Proofs.YtddcaklgflfkeaaGreatDoor
namespace Go.Proofs.YtddcaklgflfkeaaGreatDoor
open Go.RowKit Go.Sx
set_option linter.unusedSimpArgs false
set_option linter.unusedVariables false
set_option linter.unnecessarySimpa false
set_option maxRecDepth 100000
set_option maxHeartbeats 4000000
namespace T
/-- What an operation of two comes to, by its number. -/
def opI (op : Int) (a b : Tn) : Tn × Bool := if op == 0 then (T.sum a b, true) else if op == 16 then (T.difference a b, true) else if op == 80 then (T.and a b, true) else if op == 64 then (T.or a b, true) else if op == 160 then (T.xor a b, true) else if op == 32 then (T.product a b, true) else (⟨0, 0⟩, false)
def doesI (op : Int) (a b : Tn) : Tn × Bool := if right a && right b then opI op a b else (⟨0, 0⟩, false)
end T
def k_Do : List SV → List Blk → Res := fun args _ => match args with
  | [.int .u8 op, .agg [.u64 av, .u64 am], .agg [.u64 bv, .u64 bm]] => .ok (.tup [tsv (T.doesI op ⟨av, am⟩ ⟨bv, bm⟩).1, .bool (T.doesI op ⟨av, am⟩ ⟨bv, bm⟩).2]) []
  | _ => .fail
theorem k_Do_ok : CtrOk Tryz.prog Gw 204 k_Do := by
  refine ⟨fun _ _ => by kernel_rfl, fun args M => ?_⟩
  unfold k_Do
  split
  · rename_i op av am bv bm
    refine ctr_flat (Γ := ⟨[(32, k_Right), (238, k_sum), (239, k_difference), (240, k_and), (241, k_or), (242, k_xor), (243, k_product)], eqs, [], [], []⟩) (sv := .tup [tsv (T.doesI op ⟨av, am⟩ ⟨bv, bm⟩).1, .bool (T.doesI op ⟨av, am⟩ ⟨bv, bm⟩).2]) st_Gw ⟨(okCons k_Right_ok (okCons k_sum_ok (okCons k_difference_ok (okCons k_and_ok (okCons k_or_ok (okCons k_xor_ok (okCons k_product_ok okNil))))))), eqs_ok, okNilB, okNilI, okNilP⟩ Tryz.func204 rfl mixed [] (by kernel_rfl) 10000 (by rfl) ?_
    (conv => whnf)
    (repeat' (first | (refine And.intro (fun hb => ?_) (fun hb => ?_) <;> (first | contradiction | (conv => whnf))) | (refine And.intro ?_ ?_; rotate_left 1; (conv => whnf))))
    all_goals (first | rfl | trivial | (simp_all [eqv, eqv1, eqv2, eqvL1, eqvL2, T.doesI, T.opI]))
  · trivial
end Go.Proofs.YtddcaklgflfkeaaGreatDoor
namespace Go.Proofs.YtddcaklgflfkeaaGreatDoor
open Go.RowKit Go.Sx
set_option linter.unusedSimpArgs false
set_option linter.unusedVariables false
set_option linter.unnecessarySimpa false
set_option maxRecDepth 100000
set_option maxHeartbeats 4000000
end Go.Proofs.YtddcaklgflfkeaaGreatDoor
namespace Go.Proofs.YtddcaklgflfkeaaGreatDoor
open Go.RowKit Go.Sx
set_option linter.unusedSimpArgs false
set_option linter.unusedVariables false
set_option linter.unnecessarySimpa false
set_option maxRecDepth 100000
set_option maxHeartbeats 4000000
namespace T
/-- A word shifted. -/
def sh (op : Int) (x : BitVec 64) (n : Nat) : BitVec 64 := if op == 96 then x <<< n else if op == 112 then x >>> n else x.sshiftRight (min n 64)
def shift (op : Int) (a : Tn) (n : Int) : Tn × Bool := if (op == 96 || op == 112 || op == 192) && right a && !decide (n < 0) && !decide (63 < n) then (⟨sh op a.v n.toNat, sh op a.m n.toNat⟩, true) else (⟨0, 0⟩, false)
end T
theorem sshr (x : BitVec 64) (n : Nat) : BitVec.ofInt 64 ((sv x).fdiv (2 ^ min n IntKind.i64.bits)) = x.sshiftRight (min n 64) := by
  unfold BitVec.sshiftRight
  rw [show IntKind.i64.bits = 64 from rfl, Int.fdiv_eq_ediv_of_nonneg _ (Int.le_of_lt (Int.pow_pos (by decide))), Int.shiftRight_eq_div_pow]
  simp [sv]
def k_sh1 : List SV → List Blk → Res := fun args M => match args with
  | [.u64 x, .ptr b 0] => match nth M b with
    | some (.cells ty [.int .i64 n]) => .test (decide (0 ≤ n)) (.ok (.u64 (T.sh 96 x n.toNat)) [])
    | _ => .fail
  | _ => .fail
theorem k_sh1_ok : CtrOk Tryz.prog Gw 271 k_sh1 := by
  refine ⟨fun _ _ => by kernel_rfl, fun args M => ?_⟩
  unfold k_sh1
  split
  · split
    · rename_i x b _ ty n hm0
      simp only [nth_eq] at hm0
      intro ht
      refine ctr_sel (Γ := ⟨[], eqs, [], [], []⟩) (sv := .u64 (T.sh 96 x n.toNat)) st_Gw ⟨okNil, eqs_ok, okNilB, okNilI, okNilP⟩ Tryz.func271 rfl mixed [] (by kernel_rfl) 10000 [b] [.u64 x, .ptr 0 0] [.rc ty [.int .i64 n]] (fun ρ => rfl) rfl ⟨⟨_, hm0, ⟨_, .inl rfl, fun _ => rfl⟩⟩, trivial⟩ ?_
      (conv => whnf)
      (repeat' (first | (refine And.intro (fun hb => ?_) (fun hb => ?_) <;> (first | contradiction | (conv => whnf))) | (refine And.intro ?_ ?_; rotate_left 1; (conv => whnf))))
      all_goals (first | exact ht | trivial | rfl | exact sshr _ _)
    · trivial
  · trivial
def k_sh2 : List SV → List Blk → Res := fun args M => match args with
  | [.u64 x, .ptr b 0] => match nth M b with
    | some (.cells ty [.int .i64 n]) => .test (decide (0 ≤ n)) (.ok (.u64 (T.sh 112 x n.toNat)) [])
    | _ => .fail
  | _ => .fail
theorem k_sh2_ok : CtrOk Tryz.prog Gw 272 k_sh2 := by
  refine ⟨fun _ _ => by kernel_rfl, fun args M => ?_⟩
  unfold k_sh2
  split
  · split
    · rename_i x b _ ty n hm0
      simp only [nth_eq] at hm0
      intro ht
      refine ctr_sel (Γ := ⟨[], eqs, [], [], []⟩) (sv := .u64 (T.sh 112 x n.toNat)) st_Gw ⟨okNil, eqs_ok, okNilB, okNilI, okNilP⟩ Tryz.func272 rfl mixed [] (by kernel_rfl) 10000 [b] [.u64 x, .ptr 0 0] [.rc ty [.int .i64 n]] (fun ρ => rfl) rfl ⟨⟨_, hm0, ⟨_, .inl rfl, fun _ => rfl⟩⟩, trivial⟩ ?_
      (conv => whnf)
      (repeat' (first | (refine And.intro (fun hb => ?_) (fun hb => ?_) <;> (first | contradiction | (conv => whnf))) | (refine And.intro ?_ ?_; rotate_left 1; (conv => whnf))))
      all_goals (first | exact ht | trivial | rfl | exact sshr _ _)
    · trivial
  · trivial
def k_sh3 : List SV → List Blk → Res := fun args M => match args with
  | [.u64 x, .ptr b 0] => match nth M b with
    | some (.cells ty [.int .i64 n]) => .test (decide (0 ≤ n)) (.ok (.u64 (T.sh 192 x n.toNat)) [])
    | _ => .fail
  | _ => .fail
theorem k_sh3_ok : CtrOk Tryz.prog Gw 273 k_sh3 := by
  refine ⟨fun _ _ => by kernel_rfl, fun args M => ?_⟩
  unfold k_sh3
  split
  · split
    · rename_i x b _ ty n hm0
      simp only [nth_eq] at hm0
      intro ht
      refine ctr_sel (Γ := ⟨[], eqs, [], [], []⟩) (sv := .u64 (T.sh 192 x n.toNat)) st_Gw ⟨okNil, eqs_ok, okNilB, okNilI, okNilP⟩ Tryz.func273 rfl mixed [] (by kernel_rfl) 10000 [b] [.u64 x, .ptr 0 0] [.rc ty [.int .i64 n]] (fun ρ => rfl) rfl ⟨⟨_, hm0, ⟨_, .inl rfl, fun _ => rfl⟩⟩, trivial⟩ ?_
      (conv => whnf)
      (repeat' (first | (refine And.intro (fun hb => ?_) (fun hb => ?_) <;> (first | contradiction | (conv => whnf))) | (refine And.intro ?_ ?_; rotate_left 1; (conv => whnf))))
      all_goals (first | exact ht | trivial | rfl | exact sshr _ _)
    · trivial
  · trivial
def k_low1 : List SV → List Blk → Res := fun args M => match args with
  | [.u64 x, .ptr b 0] => match nth M b with
    | some (.cells ty [.u64 n]) => .ok (.u64 (x &&& n)) []
    | _ => .fail
  | _ => .fail
theorem k_low1_ok : CtrOk Tryz.prog Gw 248 k_low1 := by
  refine ⟨fun _ _ => by kernel_rfl, fun args M => ?_⟩
  unfold k_low1
  split
  · split
    · rename_i x b _ ty n hm0
      simp only [nth_eq] at hm0
      refine ctr_sel (Γ := ⟨[], eqs, [], [], []⟩) (sv := .u64 (x &&& n)) st_Gw ⟨okNil, eqs_ok, okNilB, okNilI, okNilP⟩ Tryz.func248 rfl mixed [] (by kernel_rfl) 10000 [b] [.u64 x, .ptr 0 0] [.rc ty [.u64 n]] (fun ρ => rfl) rfl ⟨⟨_, hm0, ⟨_, .inl rfl, fun _ => rfl⟩⟩, trivial⟩ ?_
      (conv => whnf)
      (repeat' (first | (refine And.intro (fun hb => ?_) (fun hb => ?_) <;> (first | contradiction | (conv => whnf))) | (refine And.intro ?_ ?_; rotate_left 1; (conv => whnf))))
      all_goals (first | rfl | trivial | (simp_all [eqv, eqv1, eqv2, eqvL1, eqvL2]))
    · trivial
  · trivial
def k_Shift : List SV → List Blk → Res := fun args _ => match args with
  | [.int .u8 op, .agg [.u64 av, .u64 am], .int .i64 n] => .ok (.tup [tsv (T.shift op ⟨av, am⟩ n).1, .bool (T.shift op ⟨av, am⟩ n).2]) []
  | _ => .fail
theorem k_Shift_ok : CtrOk Tryz.prog Gw 245 k_Shift := by
  refine ⟨fun _ _ => by kernel_rfl, fun args M => ?_⟩
  unfold k_Shift
  split
  · rename_i op av am n
    refine ctr_flat (Γ := ⟨[(32, k_Right), (271, k_sh1), (272, k_sh2), (273, k_sh3)], eqs, [], [(247, Tryz.f247, [(4, 5, [0, 0, 0, 6, 14, 31, 63]), (5, 6, [0, 1, 3, 0, 8, 24, 63, 127])]), (276, Tryz.f276, []), (282, Tryz.f282, [])], []⟩) (sv := .tup [tsv (T.shift op ⟨av, am⟩ n).1, .bool (T.shift op ⟨av, am⟩ n).2]) st_Gw ⟨(okCons k_Right_ok (okCons k_sh1_ok (okCons k_sh2_ok (okCons k_sh3_ok okNil)))), eqs_ok, okNilB, (okConsI Tryz.func247 rfl (by kernel_rfl) (fun _ _ => by kernel_rfl) (okConsI Tryz.func276 rfl (by kernel_rfl) (fun _ _ => by kernel_rfl) (okConsI Tryz.func282 rfl (by kernel_rfl) (fun _ _ => by kernel_rfl) okNilI))), okNilP⟩ Tryz.func245 rfl mixed [] (by kernel_rfl) 10000 (by rfl) ?_
    (conv => whnf)
    (repeat' (first | (refine And.intro (fun hb => ?_) (fun hb => ?_) <;> (first | contradiction | (conv => whnf))) | (refine And.intro ?_ ?_; rotate_left 1; (conv => whnf))))
    all_goals (first | rfl | trivial | (simp only [decide_eq_true_eq, decide_eq_false_iff_not] at *; omega) | (simp_all [eqv, eqv1, eqv2, T.shift]; done) | (simp_all [eqv, eqv1, eqv2, T.shift]; omega))
  · trivial
end Go.Proofs.YtddcaklgflfkeaaGreatDoor
namespace Go.Proofs.YtddcaklgflfkeaaGreatDoor
open Go.RowKit Go.Sx
set_option linter.unusedSimpArgs false
set_option linter.unusedVariables false
set_option linter.unnecessarySimpa false
set_option maxRecDepth 100000
set_option maxHeartbeats 4000000
namespace T
def low (a : Tn) (n : Int) : Tn × Bool := if right a then (if n == 1 then (⟨a.v &&& 255#64, a.m &&& 255#64⟩, true) else if n == 2 then (⟨a.v &&& 65535#64, a.m &&& 65535#64⟩, true) else if n == 4 then (⟨a.v &&& 4294967295#64, a.m &&& 4294967295#64⟩, true) else if n == 8 then (⟨a.v &&& 18446744073709551615#64, a.m &&& 18446744073709551615#64⟩, true) else (⟨0, 0⟩, false)) else (⟨0, 0⟩, false)
end T
def k_Low : List SV → List Blk → Res := fun args _ => match args with
  | [.agg [.u64 av, .u64 am], .int .i64 n] => .ok (.tup [tsv (T.low ⟨av, am⟩ n).1, .bool (T.low ⟨av, am⟩ n).2]) []
  | _ => .fail
theorem k_Low_ok : CtrOk Tryz.prog Gw 212 k_Low := by
  refine ⟨fun _ _ => by kernel_rfl, fun args M => ?_⟩
  unfold k_Low
  split
  · rename_i av am n
    refine ctr_flat (Γ := ⟨[(32, k_Right), (248, k_low1)], eqs, [], [(247, Tryz.f247, [(4, 5, [0, 0, 0, 6, 14, 31, 63]), (5, 6, [0, 1, 3, 0, 8, 24, 63, 127])]), (276, Tryz.f276, []), (282, Tryz.f282, [])], []⟩) (sv := .tup [tsv (T.low ⟨av, am⟩ n).1, .bool (T.low ⟨av, am⟩ n).2]) st_Gw ⟨(okCons k_Right_ok (okCons k_low1_ok okNil)), eqs_ok, okNilB, (okConsI Tryz.func247 rfl (by kernel_rfl) (fun _ _ => by kernel_rfl) (okConsI Tryz.func276 rfl (by kernel_rfl) (fun _ _ => by kernel_rfl) (okConsI Tryz.func282 rfl (by kernel_rfl) (fun _ _ => by kernel_rfl) okNilI))), okNilP⟩ Tryz.func212 rfl mixed [] (by kernel_rfl) 10000 (by rfl) ?_
    (conv => whnf)
    (repeat' (first | (refine And.intro (fun hb => ?_) (fun hb => ?_) <;> (first | contradiction | (conv => whnf))) | (refine And.intro ?_ ?_; rotate_left 1; (conv => whnf))))
    all_goals (first | rfl | trivial | (simp_all [eqv, eqv1, eqv2, T.low]; done) | (simp_all [eqv, eqv1, eqv2, T.low]; rfl))
  · trivial
namespace W
def divU (a b : BitVec 64) : BitVec 64 := if b == 0#64 then 0 else a / b
def modU (a b : BitVec 64) : BitVec 64 := if b == 0#64 then a else a % b
def divS (a b : Int) : Int := if b == 0 then 0 else IntKind.i64.wrap (a.tdiv b)
def modS (a b : Int) : Int := if b == 0 then a else a.tmod b
/-- What an operation makes of two wide words. -/
def alu (op off : Int) (a b : BitVec 64) : BitVec 64 × Bool :=
  if op == 0 && (off == 0 && true) then (a + b, true) else if op == 16 && (off == 0 && true) then (a - b, true) else if op == 32 && (off == 0 && true) then (a * b, true) else if op == 48 && (off == 0 && true) then (divU a b, true) else if op == 48 && (off == 1 && true) then (BitVec.ofInt 64 (divS (sv a) (sv b)), true) else if op == 144 && (off == 0 && true) then (modU a b, true) else if op == 144 && (off == 1 && true) then (BitVec.ofInt 64 (modS (sv a) (sv b)), true) else if op == 64 && (off == 0 && true) then (a ||| b, true) else if op == 80 && (off == 0 && true) then (a &&& b, true) else if op == 160 && (off == 0 && true) then (a ^^^ b, true) else if op == 96 && (off == 0 && true) then (a <<< (b % 64#64).toNat, true) else if op == 112 && (off == 0 && true) then (a >>> (b % 64#64).toNat, true) else if op == 192 && (off == 0 && true) then (a.sshiftRight (min (b % 64#64).toNat 64), true) else if op == 128 && (off == 0 && true) then (-a, true) else if op == 176 && (off == 0 && true) then (b, true) else if op == 176 && (off == 8 && true) then (BitVec.ofInt 64 (IntKind.i8.wrap (uv b)), true) else if op == 176 && (off == 16 && true) then (BitVec.ofInt 64 (IntKind.i16.wrap (uv b)), true) else (0, false)
/-- The lowest bytes. -/
def ext (a : BitVec 64) (n : Int) : BitVec 64 × Bool := if n == 1 then (BitVec.ofInt 64 (IntKind.u8.wrap (uv a)), true) else if n == 2 then (BitVec.ofInt 64 (IntKind.u16.wrap (uv a)), true) else if n == 4 then (BitVec.ofInt 64 (IntKind.u32.wrap (uv a)), true) else if n == 8 then (a, true) else (0, false)
def aluW (op off : Int) (a b : BitVec 64) : BitVec 64 × Bool := if op == 176 && off == 32 then (BitVec.ofInt 64 (IntKind.i32.wrap (uv b)), true) else alu op off a b
end W
def k_divU : List SV → List Blk → Res := fun args _ => match args with
  | [.u64 a, .u64 b] => .ok (.u64 (W.divU a b)) []
  | _ => .fail
theorem k_divU_ok : CtrOk Tryz.prog Gw 151 k_divU := by
  refine ⟨fun _ _ => by kernel_rfl, fun args M => ?_⟩
  unfold k_divU
  split
  · rename_i a b
    refine ctr_flat (Γ := ⟨[], eqs, [], [], []⟩) (sv := .u64 (W.divU a b)) st_Gw ⟨okNil, eqs_ok, okNilB, okNilI, okNilP⟩ Tryz.func151 rfl mixed [] (by kernel_rfl) 10000 (by rfl) ?_
    (conv => whnf)
    (repeat' (first | (refine And.intro (fun hb => ?_) (fun hb => ?_) <;> (first | contradiction | (conv => whnf))) | (refine And.intro ?_ ?_; rotate_left 1; (conv => whnf))))
    all_goals (first | rfl | trivial | (simp_all [eqv, eqv1, eqv2, eqvL1, eqvL2, W.divU]))
  · trivial
def k_modU : List SV → List Blk → Res := fun args _ => match args with
  | [.u64 a, .u64 b] => .ok (.u64 (W.modU a b)) []
  | _ => .fail
theorem k_modU_ok : CtrOk Tryz.prog Gw 155 k_modU := by
  refine ⟨fun _ _ => by kernel_rfl, fun args M => ?_⟩
  unfold k_modU
  split
  · rename_i a b
    refine ctr_flat (Γ := ⟨[], eqs, [], [], []⟩) (sv := .u64 (W.modU a b)) st_Gw ⟨okNil, eqs_ok, okNilB, okNilI, okNilP⟩ Tryz.func155 rfl mixed [] (by kernel_rfl) 10000 (by rfl) ?_
    (conv => whnf)
    (repeat' (first | (refine And.intro (fun hb => ?_) (fun hb => ?_) <;> (first | contradiction | (conv => whnf))) | (refine And.intro ?_ ?_; rotate_left 1; (conv => whnf))))
    all_goals (first | rfl | trivial | (simp_all [eqv, eqv1, eqv2, eqvL1, eqvL2, W.modU]))
  · trivial
def k_divS : List SV → List Blk → Res := fun args _ => match args with
  | [.int .i64 a, .int .i64 b] => .ok (.int .i64 (W.divS a b)) []
  | _ => .fail
theorem k_divS_ok : CtrOk Tryz.prog Gw 153 k_divS := by
  refine ⟨fun _ _ => by kernel_rfl, fun args M => ?_⟩
  unfold k_divS
  split
  · rename_i a b
    refine ctr_flat (Γ := ⟨[], eqs, [], [], []⟩) (sv := .int .i64 (W.divS a b)) st_Gw ⟨okNil, eqs_ok, okNilB, okNilI, okNilP⟩ Tryz.func153 rfl mixed [] (by kernel_rfl) 10000 (by rfl) ?_
    (conv => whnf)
    (repeat' (first | (refine And.intro (fun hb => ?_) (fun hb => ?_) <;> (first | contradiction | (conv => whnf))) | (refine And.intro ?_ ?_; rotate_left 1; (conv => whnf))))
    all_goals (first | rfl | trivial | (simp_all [eqv, eqv1, eqv2, eqvL1, eqvL2, W.divS]))
  · trivial
def k_modS : List SV → List Blk → Res := fun args _ => match args with
  | [.int .i64 a, .int .i64 b] => .ok (.int .i64 (W.modS a b)) []
  | _ => .fail
theorem k_modS_ok : CtrOk Tryz.prog Gw 157 k_modS := by
  refine ⟨fun _ _ => by kernel_rfl, fun args M => ?_⟩
  unfold k_modS
  split
  · rename_i a b
    refine ctr_flat (Γ := ⟨[], eqs, [], [], []⟩) (sv := .int .i64 (W.modS a b)) st_Gw ⟨okNil, eqs_ok, okNilB, okNilI, okNilP⟩ Tryz.func157 rfl mixed [] (by kernel_rfl) 10000 (by rfl) ?_
    (conv => whnf)
    (repeat' (first | (refine And.intro (fun hb => ?_) (fun hb => ?_) <;> (first | contradiction | (conv => whnf))) | (refine And.intro ?_ ?_; rotate_left 1; (conv => whnf))))
    all_goals (first | rfl | trivial | (simp_all [eqv, eqv1, eqv2, eqvL1, eqvL2, W.modS]))
  · trivial
def k_alu : List SV → List Blk → Res := fun args _ => match args with
  | [.int .u8 op, .int .i16 off, .u64 a, .u64 b, .int .i64 64] => .ok (.tup [.u64 (W.alu op off a b).1, .bool (W.alu op off a b).2]) []
  | _ => .fail
theorem k_alu_ok : CtrOk Tryz.prog Gw 93 k_alu := by
  refine ⟨fun _ _ => by kernel_rfl, fun args M => ?_⟩
  unfold k_alu
  split
  · rename_i op off a b
    refine ctr_flat (Γ := ⟨[(151, k_divU), (155, k_modU), (153, k_divS), (157, k_modS)], eqs, [], [(147, Tryz.f147, []), (148, Tryz.f148, []), (149, Tryz.f149, []), (150, Tryz.f150, []), (152, Tryz.f152, []), (154, Tryz.f154, []), (156, Tryz.f156, []), (158, Tryz.f158, []), (159, Tryz.f159, []), (160, Tryz.f160, []), (161, Tryz.f161, []), (162, Tryz.f162, []), (163, Tryz.f163, []), (164, Tryz.f164, []), (165, Tryz.f165, []), (166, Tryz.f166, []), (167, Tryz.f167, [])], []⟩) (sv := .tup [.u64 (W.alu op off a b).1, .bool (W.alu op off a b).2]) st_Gw ⟨(okCons k_divU_ok (okCons k_modU_ok (okCons k_divS_ok (okCons k_modS_ok okNil)))), eqs_ok, okNilB, (okConsI Tryz.func147 rfl (by kernel_rfl) (fun _ _ => by kernel_rfl) (okConsI Tryz.func148 rfl (by kernel_rfl) (fun _ _ => by kernel_rfl) (okConsI Tryz.func149 rfl (by kernel_rfl) (fun _ _ => by kernel_rfl) (okConsI Tryz.func150 rfl (by kernel_rfl) (fun _ _ => by kernel_rfl) (okConsI Tryz.func152 rfl (by kernel_rfl) (fun _ _ => by kernel_rfl) (okConsI Tryz.func154 rfl (by kernel_rfl) (fun _ _ => by kernel_rfl) (okConsI Tryz.func156 rfl (by kernel_rfl) (fun _ _ => by kernel_rfl) (okConsI Tryz.func158 rfl (by kernel_rfl) (fun _ _ => by kernel_rfl) (okConsI Tryz.func159 rfl (by kernel_rfl) (fun _ _ => by kernel_rfl) (okConsI Tryz.func160 rfl (by kernel_rfl) (fun _ _ => by kernel_rfl) (okConsI Tryz.func161 rfl (by kernel_rfl) (fun _ _ => by kernel_rfl) (okConsI Tryz.func162 rfl (by kernel_rfl) (fun _ _ => by kernel_rfl) (okConsI Tryz.func163 rfl (by kernel_rfl) (fun _ _ => by kernel_rfl) (okConsI Tryz.func164 rfl (by kernel_rfl) (fun _ _ => by kernel_rfl) (okConsI Tryz.func165 rfl (by kernel_rfl) (fun _ _ => by kernel_rfl) (okConsI Tryz.func166 rfl (by kernel_rfl) (fun _ _ => by kernel_rfl) (okConsI Tryz.func167 rfl (by kernel_rfl) (fun _ _ => by kernel_rfl) okNilI))))))))))))))))), okNilP⟩ Tryz.func93 rfl mixed [(2, 52, [0, 0, 0, 7, 0, 0, 49, 0, 0, 385, 0, 0, 3073, 0, 0, 24577, 0, 0, 196609, 0, 0, 1572865, 0, 0, 12582913, 0, 0, 100663297, 0, 0, 805306369, 0, 0, 6442450945, 0, 0, 51539607553, 0, 0, 412316860417, 0, 0, 3298534883329, 0, 0, 26388279066625, 0, 0, 211106232532993, 0, 0, 1688849860263937, 4503599627370495, 9007199254740991])] (by kernel_rfl) 10000 (by rfl) ?_
    (conv => whnf)
    (repeat' (first | (refine And.intro (fun hb => ?_) (fun hb => ?_) <;> (first | contradiction | (conv => whnf))) | (refine And.intro ?_ ?_; rotate_left 1; (conv => whnf))))
    all_goals (first | rfl | trivial | (simp only [eqv, eqv1, eqv2, W.alu, *, if_true, if_false, Bool.false_eq_true]; done) | (simp only [eqv, eqv1, eqv2, W.alu, *, if_true, if_false, Bool.false_eq_true]; rfl) | (simp only [eqv, eqv1, eqv2, W.alu, *, if_true, if_false, Bool.false_eq_true]; exact sshr _ _))
  · trivial
def k_Alu : List SV → List Blk → Res := fun args _ => match args with
  | [.int .u8 op, .int .i16 off, .tt, .u64 a, .u64 b] => .ok (.tup [.u64 (W.aluW op off a b).1, .bool (W.aluW op off a b).2]) []
  | _ => .fail
theorem k_Alu_ok : CtrOk Tryz.prog Gw 50 k_Alu := by
  refine ⟨fun _ _ => by kernel_rfl, fun args M => ?_⟩
  unfold k_Alu
  split
  · rename_i op off a b
    refine ctr_flat (Γ := ⟨[(93, k_alu)], eqs, [], [], []⟩) (sv := .tup [.u64 (W.aluW op off a b).1, .bool (W.aluW op off a b).2]) st_Gw ⟨(okCons k_alu_ok okNil), eqs_ok, okNilB, okNilI, okNilP⟩ Tryz.func50 rfl mixed [] (by kernel_rfl) 10000 (by rfl) ?_
    (conv => whnf)
    (repeat' (first | (refine And.intro (fun hb => ?_) (fun hb => ?_) <;> (first | contradiction | (conv => whnf))) | (refine And.intro ?_ ?_; rotate_left 1; (conv => whnf))))
    all_goals (first | rfl | trivial | (simp_all [eqv, eqv1, eqv2, W.aluW]; done))
  · trivial
def k_Extend : List SV → List Blk → Res := fun args _ => match args with
  | [.u64 a, .int .i64 n, .ff] => .ok (.tup [.u64 (W.ext a n).1, .bool (W.ext a n).2]) []
  | _ => .fail
theorem k_Extend_ok : CtrOk Tryz.prog Gw 176 k_Extend := by
  refine ⟨fun _ _ => by kernel_rfl, fun args M => ?_⟩
  unfold k_Extend
  split
  · rename_i a n
    refine ctr_flat (Γ := ⟨[], eqs, [], [], []⟩) (sv := .tup [.u64 (W.ext a n).1, .bool (W.ext a n).2]) st_Gw ⟨okNil, eqs_ok, okNilB, okNilI, okNilP⟩ Tryz.func176 rfl mixed [] (by kernel_rfl) 10000 (by rfl) ?_
    (conv => whnf)
    (repeat' (first | (refine And.intro (fun hb => ?_) (fun hb => ?_) <;> (first | contradiction | (conv => whnf))) | (refine And.intro ?_ ?_; rotate_left 1; (conv => whnf))))
    all_goals (first | rfl | trivial | (simp_all [eqv, eqv1, eqv2, W.ext]; done))
  · trivial
end Go.Proofs.YtddcaklgflfkeaaGreatDoor
