import Derived.Test.YtldlbkkcjphjoaaXN
namespace Go.Proofs.Ytldlbkkcjphjoaa
open Go.RowKit Go.Sx
set_option linter.unusedSimpArgs false
set_option linter.unusedVariables false
set_option linter.unnecessarySimpa false
set_option maxRecDepth 100000
set_option maxHeartbeats 4000000
def hN (a b c : Int) : Hp := ⟨a, b, c, 0, [], 0, 0, 0, 0⟩
def AW : List Hp := [hN 7 1 0, hN 7 1 2, hN 7 2 0]
theorem hN_cel (a b c : Int) : FVEqL [.int .i64 a, .int .i64 b, .int .i64 c, .int .u8 0, .val (.slice none 0 0), .int .u8 0, .int .i64 0, .int .i64 0, .int .i64 0] (celH (hN a b c)) := by
  refine fvl_cons (FVEq.refl _) (fvl_cons (FVEq.refl _) (fvl_cons (FVEq.refl _) (fvl_cons (FVEq.refl _) (fvl_cons ?_ (FVEqL.refl _)))))
  exact FVEq.nil
theorem aw_row {sz : Nat} (hs : sz = 9) : FVEq (.row 9 3 (shiftG 0 fun i => List.take sz (List.drop (i * sz) [.int .i64 7, .int .i64 1, .int .i64 0, .int .u8 0, .val (.slice none 0 0), .int .u8 0, .int .i64 0, .int .i64 0, .int .i64 0, .int .i64 7, .int .i64 1, .int .i64 2, .int .u8 0, .val (.slice none 0 0), .int .u8 0, .int .i64 0, .int .i64 0, .int .i64 0, .int .i64 7, .int .i64 2, .int .i64 0, .int .u8 0, .val (.slice none 0 0), .int .u8 0, .int .i64 0, .int .i64 0, .int .i64 0]))) (.row 9 AW.length (cH.g AW)) := by
  subst hs
  refine Cel.row_of rfl fun i hi => ?_
  match i, hi with
  | 0, _ => exact hN_cel 7 1 0
  | 1, _ => exact hN_cel 7 1 2
  | 2, _ => exact hN_cel 7 2 0
  | i + 3, hi => omega
theorem aw_is {sz : Nat} (hs : sz = 9) : cH.isR 9 (.row 9 3 (shiftG 0 fun i => List.take sz (List.drop (i * sz) [.int .i64 7, .int .i64 1, .int .i64 0, .int .u8 0, .val (.slice none 0 0), .int .u8 0, .int .i64 0, .int .i64 0, .int .i64 0, .int .i64 7, .int .i64 1, .int .i64 2, .int .u8 0, .val (.slice none 0 0), .int .u8 0, .int .i64 0, .int .i64 0, .int .i64 0, .int .i64 7, .int .i64 2, .int .i64 0, .int .u8 0, .val (.slice none 0 0), .int .u8 0, .int .i64 0, .int .i64 0, .int .i64 0]))) = true := Cel.isR_of (aw_row hs)
theorem aw_dec {sz : Nat} (hs : sz = 9) : cH.decR 9 (.row 9 3 (shiftG 0 fun i => List.take sz (List.drop (i * sz) [.int .i64 7, .int .i64 1, .int .i64 0, .int .u8 0, .val (.slice none 0 0), .int .u8 0, .int .i64 0, .int .i64 0, .int .i64 0, .int .i64 7, .int .i64 1, .int .i64 2, .int .u8 0, .val (.slice none 0 0), .int .u8 0, .int .i64 0, .int .i64 0, .int .i64 0, .int .i64 7, .int .i64 2, .int .i64 0, .int .u8 0, .val (.slice none 0 0), .int .u8 0, .int .i64 0, .int .i64 0, .int .i64 0]))) = AW := Cel.decR_of (aw_row hs)
theorem aw1 : (findH ⟨7, 1, 1⟩ AW).isSome = true := rfl
theorem aw2 : ((findH ⟨7, 1, 1⟩ AW).getD Hp.no).mn = 2 := rfl
theorem aw3 : (findH ⟨7, 1, 3⟩ AW).isSome = false := rfl
theorem aw4 : (findH ⟨7, 2, 0⟩ AW).isSome = true := rfl
theorem aw5 : ((findH ⟨7, 2, 0⟩ AW).getD Hp.no).mj = 2 := rfl
theorem awake_run : run Try.prog ⟨[(7, k_find)], eqs, [], [(10, Try.f10, [])], [], mixs, meqs, []⟩ 10000 [] 0 (bodyOf Try.f4) (initF Try.f4 []) [] (retK Try.prog Try.f4 fun x _ => eqv x (.bool true)) := by
  have hsz : Try.prog.types[29].size = 9 := by kernel_rfl
  (conv => whnf)
  (repeat' (first | (refine step_t (by first | rfl | assumption) ?_; (conv => whnf)) | (refine step_f (by first | rfl | assumption) ?_; (conv => whnf)) | (refine step_nt (by assumption) ?_; (conv => whnf)) | (refine step_nf (by assumption) ?_; (conv => whnf)) | (refine step_n (fun hb => ?_) (fun hb => ?_) <;> (first | contradiction | (conv => whnf))) | (refine And.intro (fun hb => ?_) (fun hb => ?_) <;> (first | contradiction | (conv => whnf))) | (refine And.intro ?_ ?_; rotate_left 1; (conv => whnf))))
  all_goals first
  | (simp only [aw_dec hsz, aw_is hsz, aw1, aw2, aw3, aw4, aw5, beq_self_eq_true, Bool.true_eq_false, Bool.false_eq_true] at *; done)
  | (simp only [aw_dec hsz, aw_is hsz, aw1, aw2, aw3, aw4, aw5, beq_self_eq_true, Bool.true_eq_false, Bool.false_eq_true] at *; first | rfl | decide)
  | decide

def k_awake : List SV → List Blk → Res := fun args _ => match args with
  | [] => .ok (.bool true) []
  | _ => .fail
theorem k_awake_ok : CtrOk Try.prog Gw 4 k_awake := by
  refine ⟨fun _ _ => by kernel_rfl, fun args M => ?_⟩
  unfold k_awake
  split
  · exact ctr_flat (Γ := ⟨[(7, k_find)], eqs, [], [(10, Try.f10, [])], [], mixs, meqs, []⟩) (sv := .bool true) st_Gw ⟨(okCons k_find_ok okNil), eqs_ok, okNilB, (okConsI Try.func10 rfl (by kernel_rfl) (fun _ _ => by kernel_rfl) okNilI), okNilP, mixs_ok, meqs_ok, okNilY⟩ Try.func4 rfl mixed [] (by kernel_rfl) 10000 (by rfl) awake_run
  · trivial
end Go.Proofs.Ytldlbkkcjphjoaa
