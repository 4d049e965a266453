import Derived.Test.YtddcaklgflfkeaaGreatDoorX30
namespace Go.Proofs.YtddcaklgflfkeaaGreatDoor
open Go.RowKit Go.Sx
set_option linter.unusedSimpArgs false
set_option linter.unusedVariables false
set_option linter.unnecessarySimpa false
set_option maxRecDepth 100000
set_option maxHeartbeats 4000000
def nb_vkinds : List Blk := [.map [(.int .u8 0, .agg [.fn (.func 57) [] [], .val (.slice none 0 0)]), (.int .u8 5, .agg [.fn (.func 57) [] [], .val (.slice none 0 0)]), (.int .u8 1, .agg [.fn (.func 58) [] [], .sl 1 1 0 1]), (.int .u8 2, .agg [.fn (.func 60) [] [], .sl 2 1 0 1]), (.int .u8 3, .agg [.fn (.func 62) [] [], .sl 3 1 0 1]), (.int .u8 4, .agg [.fn (.func 63) [] [], .sl 4 1 0 4]), (.int .u8 6, .agg [.fn (.func 67) [] [], .sl 5 1 0 1]), (.int .u8 7, .agg [.fn (.func 69) [] [], .sl 6 1 0 4]), (.int .u8 8, .agg [.fn (.func 71) [] [], .sl 7 1 0 4])], .cells 44 [.fn (.func 59) [] []], .cells 44 [.fn (.func 61) [] []], .cells 44 [.fn (.func 61) [] []], .cells 44 [.fn (.func 61) [] [], .fn (.func 64) [] [], .fn (.func 65) [] [], .fn (.func 66) [] []], .cells 44 [.fn (.func 68) [] []], .cells 44 [.fn (.func 61) [] [], .fn (.func 64) [] [], .fn (.func 68) [] [], .fn (.func 70) [] []], .cells 44 [.fn (.func 61) [] [], .fn (.func 64) [] [], .fn (.func 72) [] [], .fn (.func 70) [] []]]
def k_vkinds : List SV → List Blk → Res := fun args M => match args with
  | [] => .ok (shS M.length (.mp 0)) (nb_vkinds.map (shB M.length))
  | _ => .fail
theorem k_vkinds_ok : CtrOk Tryz.prog Gw 28 k_vkinds := by
  refine ⟨fun _ _ => by kernel_rfl, fun args M => ?_⟩
  unfold k_vkinds
  split
  · refine ctr_gen (Γ := ⟨[], eqs, [], [], []⟩) st_Gw ⟨okNil, eqs_ok, okNilB, okNilI, okNilP⟩ Tryz.func28 rfl mixed [] (by kernel_rfl) 10000 [] [] [] (.mp 0) nb_vkinds (fun ρ => rfl) (by rfl) trivial rfl rfl (by rfl) (by rfl) ?_
    (conv => whnf)
    (repeat' (first | (refine And.intro (fun hb => ?_) (fun hb => ?_) <;> (first | contradiction | (conv => whnf))) | (refine And.intro ?_ ?_; rotate_left 1; (conv => whnf))))
    all_goals (first | rfl | exact ⟨[0, 1, 2, 3, 4, 5, 6, 7], rfl, (mle_cons ble_refl (mle_cons ble_refl (mle_cons ble_refl (mle_cons ble_refl (mle_cons ble_refl (mle_cons ble_refl (mle_cons ble_refl (mle_cons ble_refl mle_nil)))))))), _, rfl, fun _ => rfl⟩)
  · trivial
attribute [local irreducible] V.numbered V.placed V.added V.mapped V.named V.roomy V.sized V.nulled
def k_vRight : List SV → List Blk → Res := fun args _ => match args with
  | [.agg [.int .u8 ak, .u64 av, .u64 am, .u64 alo, .u64 ahi, .int .i64 asl, .int .i64 ash, .int .i64 aof, .int .i64 amp, .int .i64 aid, .int .i64 arm, .bool anu]] => .test (R.inS ⟨alo, ahi, asl, ash⟩) (.ok (.bool (V.right (⟨ak, (⟨⟨av, am⟩, ⟨alo, ahi, asl, ash⟩⟩ : Sc), aof, amp, aid, arm, anu⟩ : Ab))) [])
  | _ => .fail
theorem k_vRight_ok : CtrOk Tryz.prog Gw 12 k_vRight := by
  refine ⟨fun _ _ => by kernel_rfl, fun args M => ?_⟩
  unfold k_vRight
  split
  · rename_i ak av am alo ahi asl ash aof amp aid arm anu
    intro ht
    refine ctr_flat (Γ := ⟨[(59, k_vnumbered), (61, k_vplaced), (64, k_vadded), (68, k_vmapped), (65, k_vnamed), (66, k_vroomy), (72, k_vsized), (70, k_vnulled), (28, k_vkinds)], eqs, [], [(29, Tryz.f29, []), (57, Tryz.f57, []), (58, Tryz.f58, []), (60, Tryz.f60, []), (62, Tryz.f62, []), (63, Tryz.f63, []), (67, Tryz.f67, []), (69, Tryz.f69, []), (71, Tryz.f71, [])], []⟩) (sv := .bool (V.right (⟨ak, (⟨⟨av, am⟩, ⟨alo, ahi, asl, ash⟩⟩ : Sc), aof, amp, aid, arm, anu⟩ : Ab))) st_Gw ⟨(okCons k_vnumbered_ok (okCons k_vplaced_ok (okCons k_vadded_ok (okCons k_vmapped_ok (okCons k_vnamed_ok (okCons k_vroomy_ok (okCons k_vsized_ok (okCons k_vnulled_ok (okCons k_vkinds_ok okNil))))))))), eqs_ok, okNilB, (okConsI Tryz.func29 rfl (by kernel_rfl) (fun _ _ => by kernel_rfl) (okConsI Tryz.func57 rfl (by kernel_rfl) (fun _ _ => by kernel_rfl) (okConsI Tryz.func58 rfl (by kernel_rfl) (fun _ _ => by kernel_rfl) (okConsI Tryz.func60 rfl (by kernel_rfl) (fun _ _ => by kernel_rfl) (okConsI Tryz.func62 rfl (by kernel_rfl) (fun _ _ => by kernel_rfl) (okConsI Tryz.func63 rfl (by kernel_rfl) (fun _ _ => by kernel_rfl) (okConsI Tryz.func67 rfl (by kernel_rfl) (fun _ _ => by kernel_rfl) (okConsI Tryz.func69 rfl (by kernel_rfl) (fun _ _ => by kernel_rfl) (okConsI Tryz.func71 rfl (by kernel_rfl) (fun _ _ => by kernel_rfl) okNilI))))))))), okNilP⟩ Tryz.func12 rfl mixed [(1, 8, [0, 0, 2, 7, 15, 31, 31, 0, 191, 511])] (by kernel_rfl) 10000 (by rfl) ?_
    (conv => whnf)
    (repeat' (first | (refine .inl ⟨20, ?_⟩; (conv => whnf)) | (refine step_t (by first | rfl | assumption) ?_; (conv => whnf)) | (refine step_f (by first | rfl | assumption) ?_; (conv => whnf)) | (refine step_nt (by assumption) ?_; (conv => whnf)) | (refine step_nf (by assumption) ?_; (conv => whnf)) | (refine step_n (fun hb => ?_) (fun hb => ?_) <;> (first | contradiction | (conv => whnf))) | (refine And.intro (fun hb => ?_) (fun hb => ?_) <;> (first | contradiction | (conv => whnf))) | (refine And.intro (a := (_ : Bool) = true) ?_ ?_; rotate_left 1; (conv => whnf))))
    all_goals (first | rfl | trivial | assumption | (simp_all [V.right, V.zeroB, Bool.and_assoc]; done))
  · trivial
end Go.Proofs.YtddcaklgflfkeaaGreatDoor
