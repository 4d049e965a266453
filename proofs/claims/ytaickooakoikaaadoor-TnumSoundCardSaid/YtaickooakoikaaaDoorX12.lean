import Derived.Test.YtaickooakoikaaaDoorX5
namespace Go.Proofs.YtaickooakoikaaaDoor
open Go.RowKit Go.Sx
set_option linter.unusedSimpArgs false
set_option linter.unusedVariables false
set_option linter.unnecessarySimpa false
set_option maxRecDepth 100000
set_option maxHeartbeats 4000000
namespace T
/-- A word shifted. -/
def sh (op : Int) (x : BitVec 64) (n : Nat) : BitVec 64 := if op == 96 then x <<< n else if op == 112 then x >>> n else x.sshiftRight (min n 64)
def shift (op : Int) (a : Tn) (n : Int) : Tn × Bool := if (op == 96 || op == 112 || op == 192) && right a && !decide (n < 0) && !decide (63 < n) then (⟨sh op a.v n.toNat, sh op a.m n.toNat⟩, true) else (⟨0, 0⟩, false)
end T
theorem sshr (x : BitVec 64) (n : Nat) : BitVec.ofInt 64 ((sv x).fdiv (2 ^ min n IntKind.i64.bits)) = x.sshiftRight (min n 64) := by
  unfold BitVec.sshiftRight
  rw [show IntKind.i64.bits = 64 from rfl, Int.fdiv_eq_ediv_of_nonneg _ (Int.le_of_lt (Int.pow_pos (by decide))), Int.shiftRight_eq_div_pow]
  simp [sv]
def k_sh1 : List SV → List Blk → Res := fun args M => match args with
  | [.u64 x, .ptr b 0] => match nth M b with
    | some (.cells ty [.int .i64 n]) => .test (decide (0 ≤ n)) (.ok (.u64 (T.sh 96 x n.toNat)) [])
    | _ => .fail
  | _ => .fail
theorem k_sh1_ok : CtrOk Tryd.prog Gw 53 k_sh1 := by
  refine ⟨fun _ _ => by kernel_rfl, fun args M => ?_⟩
  unfold k_sh1
  split
  · split
    · rename_i x b _ ty n hm0
      simp only [nth_eq] at hm0
      intro ht
      refine ctr_sel (Γ := ⟨[], eqs, [], [], []⟩) (sv := .u64 (T.sh 96 x n.toNat)) st_Gw ⟨okNil, eqs_ok, okNilB, okNilI, okNilP⟩ Tryd.func53 rfl mixed [] (by kernel_rfl) 10000 [b] [.u64 x, .ptr 0 0] [.rc ty [.int .i64 n]] (fun ρ => rfl) rfl ⟨⟨_, hm0, ⟨_, .inl rfl, fun _ => rfl⟩⟩, trivial⟩ ?_
      (conv => whnf)
      (repeat' (first | (refine And.intro (fun hb => ?_) (fun hb => ?_) <;> (first | contradiction | (conv => whnf))) | (refine And.intro ?_ ?_; rotate_left 1; (conv => whnf))))
      all_goals (first | exact ht | trivial | rfl | exact sshr _ _)
    · trivial
  · trivial
def k_sh2 : List SV → List Blk → Res := fun args M => match args with
  | [.u64 x, .ptr b 0] => match nth M b with
    | some (.cells ty [.int .i64 n]) => .test (decide (0 ≤ n)) (.ok (.u64 (T.sh 112 x n.toNat)) [])
    | _ => .fail
  | _ => .fail
theorem k_sh2_ok : CtrOk Tryd.prog Gw 54 k_sh2 := by
  refine ⟨fun _ _ => by kernel_rfl, fun args M => ?_⟩
  unfold k_sh2
  split
  · split
    · rename_i x b _ ty n hm0
      simp only [nth_eq] at hm0
      intro ht
      refine ctr_sel (Γ := ⟨[], eqs, [], [], []⟩) (sv := .u64 (T.sh 112 x n.toNat)) st_Gw ⟨okNil, eqs_ok, okNilB, okNilI, okNilP⟩ Tryd.func54 rfl mixed [] (by kernel_rfl) 10000 [b] [.u64 x, .ptr 0 0] [.rc ty [.int .i64 n]] (fun ρ => rfl) rfl ⟨⟨_, hm0, ⟨_, .inl rfl, fun _ => rfl⟩⟩, trivial⟩ ?_
      (conv => whnf)
      (repeat' (first | (refine And.intro (fun hb => ?_) (fun hb => ?_) <;> (first | contradiction | (conv => whnf))) | (refine And.intro ?_ ?_; rotate_left 1; (conv => whnf))))
      all_goals (first | exact ht | trivial | rfl | exact sshr _ _)
    · trivial
  · trivial
def k_sh3 : List SV → List Blk → Res := fun args M => match args with
  | [.u64 x, .ptr b 0] => match nth M b with
    | some (.cells ty [.int .i64 n]) => .test (decide (0 ≤ n)) (.ok (.u64 (T.sh 192 x n.toNat)) [])
    | _ => .fail
  | _ => .fail
theorem k_sh3_ok : CtrOk Tryd.prog Gw 55 k_sh3 := by
  refine ⟨fun _ _ => by kernel_rfl, fun args M => ?_⟩
  unfold k_sh3
  split
  · split
    · rename_i x b _ ty n hm0
      simp only [nth_eq] at hm0
      intro ht
      refine ctr_sel (Γ := ⟨[], eqs, [], [], []⟩) (sv := .u64 (T.sh 192 x n.toNat)) st_Gw ⟨okNil, eqs_ok, okNilB, okNilI, okNilP⟩ Tryd.func55 rfl mixed [] (by kernel_rfl) 10000 [b] [.u64 x, .ptr 0 0] [.rc ty [.int .i64 n]] (fun ρ => rfl) rfl ⟨⟨_, hm0, ⟨_, .inl rfl, fun _ => rfl⟩⟩, trivial⟩ ?_
      (conv => whnf)
      (repeat' (first | (refine And.intro (fun hb => ?_) (fun hb => ?_) <;> (first | contradiction | (conv => whnf))) | (refine And.intro ?_ ?_; rotate_left 1; (conv => whnf))))
      all_goals (first | exact ht | trivial | rfl | exact sshr _ _)
    · trivial
  · trivial
def k_low1 : List SV → List Blk → Res := fun args M => match args with
  | [.u64 x, .ptr b 0] => match nth M b with
    | some (.cells ty [.u64 n]) => .ok (.u64 (x &&& n)) []
    | _ => .fail
  | _ => .fail
theorem k_low1_ok : CtrOk Tryd.prog Gw 58 k_low1 := by
  refine ⟨fun _ _ => by kernel_rfl, fun args M => ?_⟩
  unfold k_low1
  split
  · split
    · rename_i x b _ ty n hm0
      simp only [nth_eq] at hm0
      refine ctr_sel (Γ := ⟨[], eqs, [], [], []⟩) (sv := .u64 (x &&& n)) st_Gw ⟨okNil, eqs_ok, okNilB, okNilI, okNilP⟩ Tryd.func58 rfl mixed [] (by kernel_rfl) 10000 [b] [.u64 x, .ptr 0 0] [.rc ty [.u64 n]] (fun ρ => rfl) rfl ⟨⟨_, hm0, ⟨_, .inl rfl, fun _ => rfl⟩⟩, trivial⟩ ?_
      (conv => whnf)
      (repeat' (first | (refine And.intro (fun hb => ?_) (fun hb => ?_) <;> (first | contradiction | (conv => whnf))) | (refine And.intro ?_ ?_; rotate_left 1; (conv => whnf))))
      all_goals (first | rfl | trivial | (simp_all [eqv, eqv1, eqv2, eqvL1, eqvL2]))
    · trivial
  · trivial
def k_Shift : List SV → List Blk → Res := fun args _ => match args with
  | [.int .u8 op, .agg [.u64 av, .u64 am], .int .i64 n] => .ok (.tup [tsv (T.shift op ⟨av, am⟩ n).1, .bool (T.shift op ⟨av, am⟩ n).2]) []
  | _ => .fail
theorem k_Shift_ok : CtrOk Tryd.prog Gw 22 k_Shift := by
  refine ⟨fun _ _ => by kernel_rfl, fun args M => ?_⟩
  unfold k_Shift
  split
  · rename_i op av am n
    refine ctr_flat (Γ := ⟨[(12, k_Right), (53, k_sh1), (54, k_sh2), (55, k_sh3)], eqs, [], [(56, Tryd.f56, [(4, 5, [0, 0, 0, 6, 14, 31, 63]), (5, 6, [0, 1, 3, 0, 8, 24, 63, 127])]), (64, Tryd.f64, []), (107, Tryd.f107, [])], []⟩) (sv := .tup [tsv (T.shift op ⟨av, am⟩ n).1, .bool (T.shift op ⟨av, am⟩ n).2]) st_Gw ⟨(okCons k_Right_ok (okCons k_sh1_ok (okCons k_sh2_ok (okCons k_sh3_ok okNil)))), eqs_ok, okNilB, (okConsI Tryd.func56 rfl (by kernel_rfl) (fun _ _ => by kernel_rfl) (okConsI Tryd.func64 rfl (by kernel_rfl) (fun _ _ => by kernel_rfl) (okConsI Tryd.func107 rfl (by kernel_rfl) (fun _ _ => by kernel_rfl) okNilI))), okNilP⟩ Tryd.func22 rfl mixed [] (by kernel_rfl) 10000 (by rfl) ?_
    (conv => whnf)
    (repeat' (first | (refine And.intro (fun hb => ?_) (fun hb => ?_) <;> (first | contradiction | (conv => whnf))) | (refine And.intro ?_ ?_; rotate_left 1; (conv => whnf))))
    all_goals (first | rfl | trivial | (simp only [decide_eq_true_eq, decide_eq_false_iff_not] at *; omega) | (simp_all [eqv, eqv1, eqv2, T.shift]; done) | (simp_all [eqv, eqv1, eqv2, T.shift]; omega))
  · trivial
end Go.Proofs.YtaickooakoikaaaDoor
