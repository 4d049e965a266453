import Derived.Test.YtobednfbejcaeaaTX5
namespace Go.Proofs.Ytobednfbejcaeaa
open Go.RowKit Go.Sx
set_option linter.unusedSimpArgs false
set_option linter.unusedVariables false
set_option linter.unnecessarySimpa false
set_option maxRecDepth 100000
set_option maxHeartbeats 4000000
namespace T
/-- A word shifted. -/
def sh (op : Int) (x : BitVec 64) (n : Nat) : BitVec 64 := if op == 96 then x <<< n else if op == 112 then x >>> n else x.sshiftRight (min n 64)
def shift (op : Int) (a : Tn) (n : Int) : Tn × Bool := if (op == 96 || op == 112 || op == 192) && right a && !decide (n < 0) && !decide (63 < n) then (⟨sh op a.v n.toNat, sh op a.m n.toNat⟩, true) else (⟨0, 0⟩, false)
end T
theorem sshr (x : BitVec 64) (n : Nat) : BitVec.ofInt 64 ((sv x).fdiv (2 ^ min n IntKind.i64.bits)) = x.sshiftRight (min n 64) := by
  unfold BitVec.sshiftRight
  rw [show IntKind.i64.bits = 64 from rfl, Int.fdiv_eq_ediv_of_nonneg _ (Int.le_of_lt (Int.pow_pos (by decide))), Int.shiftRight_eq_div_pow]
  simp [sv]
def k_low1 : List SV → List Blk → Res := fun args M => match args with
  | [.u64 x, .ptr b 0] => match nth M b with
    | some (.cells ty [.u64 n]) => .ok (.u64 (x &&& n)) []
    | _ => .fail
  | _ => .fail
theorem k_low1_ok : CtrOk Try.prog Gw 102 k_low1 := by
  refine ⟨fun _ _ => by kernel_rfl, fun args M => ?_⟩
  unfold k_low1
  split
  · split
    · rename_i x b _ ty n hm0
      simp only [nth_eq] at hm0
      refine ctr_sel (Γ := ⟨[], eqs, [], [], []⟩) (sv := .u64 (x &&& n)) st_Gw ⟨okNil, eqs_ok, okNilB, okNilI, okNilP⟩ Try.func102 rfl mixed [] (by kernel_rfl) 10000 [b] [.u64 x, .ptr 0 0] [.rc ty [.u64 n]] (fun ρ => rfl) rfl ⟨⟨_, hm0, ⟨_, .inl rfl, fun _ => rfl⟩⟩, trivial⟩ ?_
      (conv => whnf)
      (repeat' (first | (refine And.intro (fun hb => ?_) (fun hb => ?_) <;> (first | contradiction | (conv => whnf))) | (refine And.intro ?_ ?_; rotate_left 1; (conv => whnf))))
      all_goals (first | rfl | trivial | (simp_all [eqv, eqv1, eqv2, eqvL1, eqvL2]))
    · trivial
  · trivial
end Go.Proofs.Ytobednfbejcaeaa
