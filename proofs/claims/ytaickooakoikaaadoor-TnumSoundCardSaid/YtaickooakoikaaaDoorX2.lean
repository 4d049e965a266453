import Derived.Test.YtaickooakoikaaaDoorX1
namespace Go.Proofs.YtaickooakoikaaaDoor
open Go.RowKit Go.Sx
set_option linter.unusedSimpArgs false
set_option linter.unusedVariables false
set_option linter.unnecessarySimpa false
set_option maxRecDepth 100000
set_option maxHeartbeats 4000000
namespace T
/-- What an operation of two comes to, by its number. -/
def opI (op : Int) (a b : Tn) : Tn × Bool := if op == 0 then (T.sum a b, true) else if op == 16 then (T.difference a b, true) else if op == 80 then (T.and a b, true) else if op == 64 then (T.or a b, true) else if op == 160 then (T.xor a b, true) else if op == 32 then (T.product a b, true) else (⟨0, 0⟩, false)
def doesI (op : Int) (a b : Tn) : Tn × Bool := if right a && right b then opI op a b else (⟨0, 0⟩, false)
end T
def k_Do : List SV → List Blk → Res := fun args _ => match args with
  | [.int .u8 op, .agg [.u64 av, .u64 am], .agg [.u64 bv, .u64 bm]] => .ok (.tup [tsv (T.doesI op ⟨av, am⟩ ⟨bv, bm⟩).1, .bool (T.doesI op ⟨av, am⟩ ⟨bv, bm⟩).2]) []
  | _ => .fail
theorem k_Do_ok : CtrOk Tryd.prog Gw 15 k_Do := by
  refine ⟨fun _ _ => by kernel_rfl, fun args M => ?_⟩
  unfold k_Do
  split
  · rename_i op av am bv bm
    refine ctr_flat (Γ := ⟨[(12, k_Right), (43, k_sum), (44, k_difference), (45, k_and), (46, k_or), (47, k_xor), (48, k_product)], eqs, [], [], []⟩) (sv := .tup [tsv (T.doesI op ⟨av, am⟩ ⟨bv, bm⟩).1, .bool (T.doesI op ⟨av, am⟩ ⟨bv, bm⟩).2]) st_Gw ⟨(okCons k_Right_ok (okCons k_sum_ok (okCons k_difference_ok (okCons k_and_ok (okCons k_or_ok (okCons k_xor_ok (okCons k_product_ok okNil))))))), eqs_ok, okNilB, okNilI, okNilP⟩ Tryd.func15 rfl mixed [] (by kernel_rfl) 10000 (by rfl) ?_
    (conv => whnf)
    (repeat' (first | (refine And.intro (fun hb => ?_) (fun hb => ?_) <;> (first | contradiction | (conv => whnf))) | (refine And.intro ?_ ?_; rotate_left 1; (conv => whnf))))
    all_goals (first | rfl | trivial | (simp_all [eqv, eqv1, eqv2, eqvL1, eqvL2, T.doesI, T.opI]))
  · trivial
end Go.Proofs.YtaickooakoikaaaDoor
