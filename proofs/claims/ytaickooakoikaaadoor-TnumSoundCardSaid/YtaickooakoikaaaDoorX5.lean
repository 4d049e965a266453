import Derived.Test.YtaickooakoikaaaDoorX4
namespace Go.Proofs.YtaickooakoikaaaDoor
open Go.RowKit Go.Sx
set_option linter.unusedSimpArgs false
set_option linter.unusedVariables false
set_option linter.unnecessarySimpa false
set_option maxRecDepth 100000
set_option maxHeartbeats 4000000
namespace T
def rt (v m : BitVec 64) : Tn := ⟨v &&& ~~~m, m⟩
theorem right_rt (v m : BitVec 64) : right (rt v m) = true := by unfold right rt; simp [BitVec.and_assoc]
end T
def k_right17 : List SV → List Blk → Res := fun args _ => match args with
  | [.u64 v, .u64 m] => .ok (tsv (T.rt v m)) []
  | _ => .fail
theorem k_right17_ok : CtrOk Tryd.prog Gw 18 k_right17 := by
  refine ⟨fun _ _ => by kernel_rfl, fun args M => ?_⟩
  unfold k_right17
  split
  · rename_i v m
    refine ctr_flat (Γ := ⟨[], eqs, [], [], []⟩) (sv := tsv (T.rt v m)) st_Gw ⟨okNil, eqs_ok, okNilB, okNilI, okNilP⟩ Tryd.func18 rfl mixed [] (by kernel_rfl) 10000 (by rfl) ?_
    (conv => whnf)
    (repeat' (first | (refine And.intro (fun hb => ?_) (fun hb => ?_) <;> (first | contradiction | (conv => whnf))) | (refine And.intro ?_ ?_; rotate_left 1; (conv => whnf))))
    all_goals (first | rfl | trivial | (simp_all [eqv, eqv1, eqv2, eqvL1, eqvL2]))
  · trivial
def k_awake : List SV → List Blk → Res := fun args _ => match args with
  | [] => .ok (.bool true) []
  | _ => .fail
theorem k_awake_ok : CtrOk Tryd.prog Gw 9 k_awake := by
  refine ⟨fun _ _ => by kernel_rfl, fun args M => ?_⟩
  unfold k_awake
  split
  · refine ctr_flat (Γ := ⟨[(15, k_Do), (14, k_Const), (16, k_Range), (10, k_Join)], eqs, [], [], []⟩) (sv := .bool true) st_Gw ⟨(okCons k_Do_ok (okCons k_Const_ok (okCons k_Range_ok (okCons k_Join_ok okNil)))), eqs_ok, okNilB, okNilI, okNilP⟩ Tryd.func9 rfl mixed [] (by kernel_rfl) 10000 (by rfl) ?_
    (conv => whnf)
    (repeat' (first | (refine And.intro (fun hb => ?_) (fun hb => ?_) <;> (first | contradiction | (conv => whnf))) | (refine And.intro ?_ ?_; rotate_left 1; (conv => whnf))))
    all_goals (first | kernel_rfl | trivial | (simp (decide := true) at hb; done))
  · trivial
end Go.Proofs.YtaickooakoikaaaDoor
