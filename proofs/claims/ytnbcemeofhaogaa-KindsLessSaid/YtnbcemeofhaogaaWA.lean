import Derived.Test.YtnbcemeofhaogaaZN
import Derived.Test.YtnbcemeofhaogaaZZ
namespace Go.Proofs.Ytnbcemeofhaogaa
open Go.RowKit Go.Sx
set_option linter.unusedSimpArgs false
set_option linter.unusedVariables false
set_option linter.unnecessarySimpa false
set_option maxRecDepth 100000
set_option maxHeartbeats 4000000
def hp0 : Hp := ⟨1, 0, 0, 0, [K.argA 4 0 0], 1, 0, 0, 0⟩
theorem hp0_35 : K.helper hp0 = 35 := K.helper_e rfl rfl (by decide) (by rfl) (by decide)
theorem awake_run : run Try.prog ⟨[(25, k_numbered), (26, k_versioned), (38, k_has), (14, k_name), (11, k_helper)], eqs, [], [(21, Try.f21, []), (56, Try.f56, [(8, 10, [0, 0, 3, 7, 15, 0, 0, 96, 224, 480, 1023, 2047])]), (52, Try.f52, [(4, 13, [0, 1, 3, 7, 7, 7, 39, 119, 247, 7, 7, 1543, 3591, 8191, 16383, 32767])]), (53, Try.f53, []), (55, Try.f55, []), (51, Try.f51, []), (78, Try.f78, []), (54, Try.f54, []), (79, Try.f79, []), (80, Try.f80, []), (90, Try.f90, [(3, 5, [0, 0, 0, 6, 0, 31, 63])]), (81, Try.f81, []), (91, Try.f91, [])], [], mixz, meqs, []⟩ 10000 [] 0 (bodyOf Try.f7) (initF Try.f7 []) [] (retK Try.prog Try.f7 fun x _ => eqv x (.bool true)) := by
  (conv => whnf)
  (repeat' (first | (refine .inl ⟨6, ?_⟩; (conv => whnf)) | (refine step_t (by first | rfl | assumption) ?_; (conv => whnf)) | (refine step_f (by first | rfl | assumption) ?_; (conv => whnf)) | (refine step_nt (by assumption) ?_; (conv => whnf)) | (refine step_nf (by assumption) ?_; (conv => whnf)) | (refine step_n (fun hb => ?_) (fun hb => ?_) <;> (first | contradiction | (conv => whnf))) | (refine And.intro (fun hb => ?_) (fun hb => ?_) <;> (first | contradiction | (conv => whnf))) | (refine And.intro ?_ ?_; rotate_left 1; (conv => whnf))))
  all_goals first
  | rfl
  | (exfalso
     revert hb
     rw [Cel.dec_of (c := cH) (a := hp0) (fvLB_ok (d := 4) ?_), hp0_35]
     · decide
     · kernel_rfl)
  | (rw [Cel.dec_of (c := cH) (a := hp0) (fvLB_ok (d := 4) ?_)]
     · rfl
     · kernel_rfl)
  | exact Cel.is_of (c := cH) (a := hp0) (fvLB_ok (d := 4) (by kernel_rfl))

def k_awake : List SV → List Blk → Res := fun args _ => match args with
  | [] => .ok (.bool true) []
  | _ => .fail
theorem k_awake_ok : CtrOk Try.prog Gw 7 k_awake := by
  refine ⟨fun _ _ => by kernel_rfl, fun args M => ?_⟩
  unfold k_awake
  split
  · exact ctr_flat (Γ := ⟨[(25, k_numbered), (26, k_versioned), (38, k_has), (14, k_name), (11, k_helper)], eqs, [], [(21, Try.f21, []), (56, Try.f56, [(8, 10, [0, 0, 3, 7, 15, 0, 0, 96, 224, 480, 1023, 2047])]), (52, Try.f52, [(4, 13, [0, 1, 3, 7, 7, 7, 39, 119, 247, 7, 7, 1543, 3591, 8191, 16383, 32767])]), (53, Try.f53, []), (55, Try.f55, []), (51, Try.f51, []), (78, Try.f78, []), (54, Try.f54, []), (79, Try.f79, []), (80, Try.f80, []), (90, Try.f90, [(3, 5, [0, 0, 0, 6, 0, 31, 63])]), (81, Try.f81, []), (91, Try.f91, [])], [], mixz, meqs, []⟩) (sv := .bool true) st_Gw ⟨(okCons k_numbered_ok (okCons k_versioned_ok (okCons k_has_ok (okCons k_name_ok (okCons k_helper_ok okNil))))), eqs_ok, okNilB, (okConsI Try.func21 rfl (by kernel_rfl) (fun _ _ => by kernel_rfl) (okConsI Try.func56 rfl (by kernel_rfl) (fun _ _ => by kernel_rfl) (okConsI Try.func52 rfl (by kernel_rfl) (fun _ _ => by kernel_rfl) (okConsI Try.func53 rfl (by kernel_rfl) (fun _ _ => by kernel_rfl) (okConsI Try.func55 rfl (by kernel_rfl) (fun _ _ => by kernel_rfl) (okConsI Try.func51 rfl (by kernel_rfl) (fun _ _ => by kernel_rfl) (okConsI Try.func78 rfl (by kernel_rfl) (fun _ _ => by kernel_rfl) (okConsI Try.func54 rfl (by kernel_rfl) (fun _ _ => by kernel_rfl) (okConsI Try.func79 rfl (by kernel_rfl) (fun _ _ => by kernel_rfl) (okConsI Try.func80 rfl (by kernel_rfl) (fun _ _ => by kernel_rfl) (okConsI Try.func90 rfl (by kernel_rfl) (fun _ _ => by kernel_rfl) (okConsI Try.func81 rfl (by kernel_rfl) (fun _ _ => by kernel_rfl) (okConsI Try.func91 rfl (by kernel_rfl) (fun _ _ => by kernel_rfl) okNilI))))))))))))), okNilP, mixz_ok, meqs_ok, okNilY⟩ Try.func7 rfl mixed [] (by kernel_rfl) 10000 (by rfl) awake_run
  · trivial
end Go.Proofs.Ytnbcemeofhaogaa
