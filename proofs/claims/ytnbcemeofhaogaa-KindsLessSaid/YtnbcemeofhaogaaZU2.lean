import Derived.Test.YtnbcemeofhaogaaZS
import Derived.Test.YtnbcemeofhaogaaZM
import Derived.Test.YtnbcemeofhaogaaZP
namespace Go.Proofs.Ytnbcemeofhaogaa
open Go.RowKit Go.Sx
set_option linter.unusedSimpArgs false
set_option linter.unusedVariables false
set_option linter.unnecessarySimpa false
set_option maxRecDepth 100000
set_option maxHeartbeats 4000000
theorem numbered_w (n : Int) : K.numbered n = K.within n 1 1073741824 := rfl
theorem versioned_w (a b : Int) : K.versioned a b = (K.within a 0 65535 && K.within b 0 65535) := rfl
def k_numbered : List SV → List Blk → Res := fun args _ => match args with
  | [.int .i64 n] => .ok (.bool (K.numbered n)) []
  | _ => .fail
theorem k_numbered_ok : CtrOk Try.prog Gw 25 k_numbered := by
  refine ⟨fun _ _ => by kernel_rfl, fun args M => ?_⟩
  unfold k_numbered
  split
  · rename_i n
    refine ctr_flat (Γ := ⟨[(38, k_has), (39, k_within)], eqs, [], [], [], mixs, meqs, []⟩) (sv := .bool (K.numbered n)) st_Gw ⟨(okCons k_has_ok (okCons k_within_ok okNil)), eqs_ok, okNilB, okNilI, okNilP, mixs_ok, meqs_ok, okNilY⟩ Try.func25 rfl mixed [] (by kernel_rfl) 10000 (by rfl) ?_
    (conv => whnf)
    (repeat' (first | (refine step_t (by first | rfl | assumption) ?_; (conv => whnf)) | (refine step_f (by first | rfl | assumption) ?_; (conv => whnf)) | (refine step_nt (by assumption) ?_; (conv => whnf)) | (refine step_nf (by assumption) ?_; (conv => whnf)) | (refine step_n (fun hb => ?_) (fun hb => ?_) <;> (first | contradiction | (conv => whnf))) | (refine And.intro (fun hb => ?_) (fun hb => ?_) <;> (first | contradiction | (conv => whnf))) | (refine And.intro (a := (_ : Bool) = true) ?_ ?_; rotate_left 1; (conv => whnf))))
    all_goals (first | rfl | trivial | (simp_all [eqv, eqv1, numbered_w]; done))
  · trivial
def k_rnumber : List SV → List Blk → Res := fun args _ => match args with
  | [.int .i64 n] => .ok (.bool (K.numbered n)) []
  | _ => .fail
theorem k_rnumber_ok : CtrOk Try.prog Gw 40 k_rnumber := by
  refine ⟨fun _ _ => by kernel_rfl, fun args M => ?_⟩
  unfold k_rnumber
  split
  · rename_i n
    refine ctr_flat (Γ := ⟨[(38, k_has), (39, k_within)], eqs, [], [], [], mixs, meqs, []⟩) (sv := .bool (K.numbered n)) st_Gw ⟨(okCons k_has_ok (okCons k_within_ok okNil)), eqs_ok, okNilB, okNilI, okNilP, mixs_ok, meqs_ok, okNilY⟩ Try.func40 rfl mixed [] (by kernel_rfl) 10000 (by rfl) ?_
    (conv => whnf)
    (repeat' (first | (refine step_t (by first | rfl | assumption) ?_; (conv => whnf)) | (refine step_f (by first | rfl | assumption) ?_; (conv => whnf)) | (refine step_nt (by assumption) ?_; (conv => whnf)) | (refine step_nf (by assumption) ?_; (conv => whnf)) | (refine step_n (fun hb => ?_) (fun hb => ?_) <;> (first | contradiction | (conv => whnf))) | (refine And.intro (fun hb => ?_) (fun hb => ?_) <;> (first | contradiction | (conv => whnf))) | (refine And.intro (a := (_ : Bool) = true) ?_ ?_; rotate_left 1; (conv => whnf))))
    all_goals (first | rfl | trivial | (simp_all [eqv, eqv1, numbered_w]; done))
  · trivial
def k_versioned : List SV → List Blk → Res := fun args _ => match args with
  | [.int .i64 a, .int .i64 b] => .ok (.bool (K.versioned a b)) []
  | _ => .fail
theorem k_versioned_ok : CtrOk Try.prog Gw 26 k_versioned := by
  refine ⟨fun _ _ => by kernel_rfl, fun args M => ?_⟩
  unfold k_versioned
  split
  · rename_i a b
    refine ctr_flat (Γ := ⟨[(38, k_has), (39, k_within)], eqs, [], [], [], mixs, meqs, []⟩) (sv := .bool (K.versioned a b)) st_Gw ⟨(okCons k_has_ok (okCons k_within_ok okNil)), eqs_ok, okNilB, okNilI, okNilP, mixs_ok, meqs_ok, okNilY⟩ Try.func26 rfl mixed [] (by kernel_rfl) 10000 (by rfl) ?_
    (conv => whnf)
    (repeat' (first | (refine step_t (by first | rfl | assumption) ?_; (conv => whnf)) | (refine step_f (by first | rfl | assumption) ?_; (conv => whnf)) | (refine step_nt (by assumption) ?_; (conv => whnf)) | (refine step_nf (by assumption) ?_; (conv => whnf)) | (refine step_n (fun hb => ?_) (fun hb => ?_) <;> (first | contradiction | (conv => whnf))) | (refine And.intro (fun hb => ?_) (fun hb => ?_) <;> (first | contradiction | (conv => whnf))) | (refine And.intro (a := (_ : Bool) = true) ?_ ?_; rotate_left 1; (conv => whnf))))
    all_goals (first | rfl | trivial | (simp_all [eqv, eqv1, versioned_w]; done))
  · trivial
def k_rversion : List SV → List Blk → Res := fun args _ => match args with
  | [.int .i64 a, .int .i64 b] => .ok (.bool (K.versioned a b)) []
  | _ => .fail
theorem k_rversion_ok : CtrOk Try.prog Gw 41 k_rversion := by
  refine ⟨fun _ _ => by kernel_rfl, fun args M => ?_⟩
  unfold k_rversion
  split
  · rename_i a b
    refine ctr_flat (Γ := ⟨[(38, k_has), (39, k_within)], eqs, [], [], [], mixs, meqs, []⟩) (sv := .bool (K.versioned a b)) st_Gw ⟨(okCons k_has_ok (okCons k_within_ok okNil)), eqs_ok, okNilB, okNilI, okNilP, mixs_ok, meqs_ok, okNilY⟩ Try.func41 rfl mixed [] (by kernel_rfl) 10000 (by rfl) ?_
    (conv => whnf)
    (repeat' (first | (refine step_t (by first | rfl | assumption) ?_; (conv => whnf)) | (refine step_f (by first | rfl | assumption) ?_; (conv => whnf)) | (refine step_nt (by assumption) ?_; (conv => whnf)) | (refine step_nf (by assumption) ?_; (conv => whnf)) | (refine step_n (fun hb => ?_) (fun hb => ?_) <;> (first | contradiction | (conv => whnf))) | (refine And.intro (fun hb => ?_) (fun hb => ?_) <;> (first | contradiction | (conv => whnf))) | (refine And.intro (a := (_ : Bool) = true) ?_ ?_; rotate_left 1; (conv => whnf))))
    all_goals (first | rfl | trivial | (simp_all [eqv, eqv1, versioned_w]; done))
  · trivial
theorem memory_run (a : Ag) : run Try.prog ⟨[], eqs, [], [], [], mixs, meqs, []⟩ 10000 [] 0 (bodyOf Try.f62) (initF Try.f62 [.agg [.int .u8 a.k, .int .i64 a.lo, .int .i64 a.hi, .sl 0 1 0 a.maps.length]]) [.ro 1 a.maps.length (gOf eB a.maps)] (retK Try.prog Try.f62 (fun x _ => eqv x (.bool (K.mem a.k)))) := by
  (conv => whnf)
  (repeat' (first | (refine step_t (by first | rfl | assumption) ?_; (conv => whnf)) | (refine step_f (by first | rfl | assumption) ?_; (conv => whnf)) | (refine step_nt (by assumption) ?_; (conv => whnf)) | (refine step_nf (by assumption) ?_; (conv => whnf)) | (refine step_n (fun hb => ?_) (fun hb => ?_) <;> (first | contradiction | (conv => whnf))) | (refine And.intro (fun hb => ?_) (fun hb => ?_) <;> (first | contradiction | (conv => whnf))) | (refine And.intro (a := (_ : Bool) = true) ?_ ?_; rotate_left 1; (conv => whnf))))
  all_goals (first | rfl | trivial | (simp_all [eqv, eqv1, K.mem]; done))
noncomputable def k_memory : List SV → List Blk → Res := fun args M => match topA eltB M args with
  | some (b, [.agg v0]) => .test b (.test (cA.is v0) (.ok (.bool (K.mem (cA.dec v0).k)) []))
  | _ => .fail
theorem k_memory_ok : CtrOk Try.prog Gw 62 k_memory := by
  refine ⟨fun _ _ => by kernel_rfl, fun args M => ?_⟩
  unfold k_memory
  split
  · rename_i b v0 hv
    intro hb hi
    exact ctr_top (Γ := ⟨[], eqs, [], [], [], mixs, meqs, []⟩) st_Gw ⟨okNil, eqs_ok, okNilB, okNilI, okNilP, mixs_ok, meqs_ok, okNilY⟩ Try.func62 rfl mixed [] (by kernel_rfl) 10000 [.agg (celA (cA.dec v0))] hv hb ⟨Cel.is_dec (hi), trivial⟩ rfl (memory_run (cA.dec v0))
  · trivial
def k_cmpM : List SV → List Blk → Res := fun args _ => match args with
  | [.int .u8 a, .int .u8 b] => .ok (.int .i64 (K.cmp a b)) []
  | _ => .fail
theorem k_cmpM_ok : CtrOk Try.prog Gw 64 k_cmpM := by
  refine ⟨fun _ _ => by kernel_rfl, fun args M => ?_⟩
  unfold k_cmpM
  split
  · rename_i a b
    refine ctr_flat (Γ := ⟨[], eqs, [], [(83, Try.f83, [])], [], mixs, meqs, []⟩) (sv := .int .i64 (K.cmp a b)) st_Gw ⟨okNil, eqs_ok, okNilB, (okConsI Try.func83 rfl (by kernel_rfl) (fun _ _ => by kernel_rfl) okNilI), okNilP, mixs_ok, meqs_ok, okNilY⟩ Try.func64 rfl mixed [] (by kernel_rfl) 10000 (by rfl) ?_
    (conv => whnf)
    (repeat' (first | (refine step_t (by first | rfl | assumption) ?_; (conv => whnf)) | (refine step_f (by first | rfl | assumption) ?_; (conv => whnf)) | (refine step_nt (by assumption) ?_; (conv => whnf)) | (refine step_nf (by assumption) ?_; (conv => whnf)) | (refine step_n (fun hb => ?_) (fun hb => ?_) <;> (first | contradiction | (conv => whnf))) | (refine And.intro (fun hb => ?_) (fun hb => ?_) <;> (first | contradiction | (conv => whnf))) | (refine And.intro (a := (_ : Bool) = true) ?_ ?_; rotate_left 1; (conv => whnf))))
    all_goals (first | rfl | trivial | (simp_all [eqv, eqv1, K.cmp]; done) | (simp_all [eqv, eqv1, K.cmp]; omega))
  · trivial
end Go.Proofs.Ytnbcemeofhaogaa
namespace Go.Proofs.Ytnbcemeofhaogaa
open Go.RowKit Go.Sx
set_option linter.unusedSimpArgs false
set_option linter.unusedVariables false
set_option linter.unnecessarySimpa false
set_option maxRecDepth 100000
set_option maxHeartbeats 4000000
theorem mapOf_run (L : List Ag) (hw : (decide (L.length ≤ 1099511627776)) = true) : run Try.prog ⟨[], eqs, [], [], [], mixs, meqs, []⟩ 10000 [] 0 (bodyOf Try.f65) (initF Try.f65 [.sl 0 4 0 L.length]) [.ro 4 L.length (cA.g L)] (retK Try.prog Try.f65 (TellsC false [.one (.row 1 (K.mapOf L).length (gOf eB (K.mapOf L)))])) := by
  (conv => whnf)
  (repeat' (first | (refine And.intro (fun hb => ?_) (fun hb => ?_) <;> (first | contradiction | (conv => whnf))) | (refine And.intro ?_ ?_; rotate_left 1; (conv => whnf))))
  refine .inr ⟨[], [5, 6, 7], fun k vals M => ∃ j : Nat, j ≤ L.length ∧ k = L.length - j ∧ K.mapOf (L.drop j) = K.mapOf L ∧ vals = [.sl 0 4 0 L.length, .int .i64 (L.length : Int), .int .i64 (j : Int)] ∧ M = [.ro 4 L.length (cA.g L)], ?_⟩
  conv => whnf
  refine And.intro ⟨L.length, [.ro 4 L.length (cA.g L)], mle_cons ble_refl mle_nil, rfl, rfl, 0, by omega, by omega, rfl, rfl, rfl⟩ ?_
  rintro k vals M1 ⟨j, hj, rfl, he, rfl, rfl⟩
  have hz : 0 + ((j : Int)).toNat = j := by omega
  (conv => whnf)
  (repeat' (first | (refine And.intro (fun hb => ?_) (fun hb => ?_) <;> (first | contradiction | (conv => whnf))) | (refine And.intro ?_ ?_; rotate_left 1; (conv => whnf))))
  all_goals try (simp only [hz, decide_eq_true_eq, decide_eq_false_iff_not, beq_iff_eq, beq_eq_false_iff_ne, ne_eq] at *)
  all_goals try (have hlt : j < L.length := by omega)
  all_goals try (first | exact hlt | exact decide_eq_true (by omega) | (rw [Bool.and_eq_true]; exact ⟨decide_eq_true (by omega), decide_eq_true (by omega)⟩))
  · refine ⟨[_], _, _, rfl, .inr rfl, rfl, by simp, ?_⟩
    rw [← he, K.mapOf_at hlt hb]
    exact AVEqL.refl _
  · refine ⟨L.length - (j + 1), [.ro 4 L.length (cA.g L)], [0], by omega, rfl, mle_cons ble_refl mle_nil, rfl, rfl, j + 1, by omega, rfl, by rw [← he, K.mapOf_go hlt hb], ?_, rfl⟩
    show [SV.sl 0 4 0 L.length, .int .i64 (L.length : Int), .int .i64 (IntKind.i64.wrap ((j : Int) + 1))] = _
    rw [i64_of (n := (j : Int) + 1) (by omega) (by omega)]; rfl
  · obtain rfl : j = L.length := by omega
    refine ⟨[_], _, _, rfl, .inr rfl, rfl, rfl, ?_⟩
    rw [← he, List.drop_length]
    exact avcons .nil (AVEqL.refl [])
noncomputable def k_mapOf : List SV → List Blk → Res := fun args M => match topA eltB M args with
  | some (b, [.one v0]) => .test b (.test (cA.isR 4 v0) (.test (decide ((cA.decR 4 v0).length ≤ 1099511627776)) (.ok (outA false (namA true M.length [.one (.row 1 (K.mapOf (cA.decR 4 v0)).length (gOf eB (K.mapOf (cA.decR 4 v0))))]).1) (namA true M.length [.one (.row 1 (K.mapOf (cA.decR 4 v0)).length (gOf eB (K.mapOf (cA.decR 4 v0))))]).2)))
  | _ => .fail
theorem k_mapOf_ok : CtrOk Try.prog Gw 65 k_mapOf := by
  refine ⟨fun _ _ => by kernel_rfl, fun args M => ?_⟩
  unfold k_mapOf
  split
  · rename_i b v0 hv
    intro hb hi hw
    exact ctr_topc (Γ := ⟨[], eqs, [], [], [], mixs, meqs, []⟩) st_Gw ⟨okNil, eqs_ok, okNilB, okNilI, okNilP, mixs_ok, meqs_ok, okNilY⟩ Try.func65 rfl mixed [] (by kernel_rfl) 10000 [.one (.row 4 (cA.decR 4 v0).length (cA.g (cA.decR 4 v0)))] hv hb ⟨Cel.isR_dec (hi), trivial⟩ rfl false _ (mapOf_run (cA.decR 4 v0) hw)
  · trivial
end Go.Proofs.Ytnbcemeofhaogaa
namespace Go.Proofs.Ytnbcemeofhaogaa
open Go.RowKit Go.Sx
set_option linter.unusedSimpArgs false
set_option linter.unusedVariables false
set_option linter.unnecessarySimpa false
set_option maxRecDepth 100000
set_option maxHeartbeats 4000000
theorem cA_dft : cA.dft = Ag.no := rfl
theorem eB_dft : eB.dft = 0 := rfl
theorem isA_at (a : Ag) : cA.is [.int .u8 a.k, .int .i64 a.lo, .int .i64 a.hi, .row 1 a.maps.length (shiftG 0 (gOf eB a.maps))] = true := Cel.is_of (a := a) (FVEqL.refl _)
theorem decA_at (a : Ag) : cA.dec [.int .u8 a.k, .int .i64 a.lo, .int .i64 a.hi, .row 1 a.maps.length (shiftG 0 (gOf eB a.maps))] = a := Cel.dec_of (c := cA) (a := a) (FVEqL.refl _)
theorem isB_at (L : List Int) : cB.isR 1 (.row 1 L.length (shiftG 0 (gOf eB L))) = true := Cel.isR_of (Cel.row_refl (c := cB) 1 L)
theorem decB_at (L : List Int) : cB.decR 1 (.row 1 L.length (shiftG 0 (gOf eB L))) = L := Cel.decR_of (Cel.row_refl (c := cB) 1 L)
theorem wr1 : IntKind.i64.wrap (0 + 1) = 1 := i64_of (n := 0 + 1) (by omega) (by omega)
theorem wr2 : IntKind.i64.wrap (1 + 1) = 2 := i64_of (n := 1 + 1) (by omega) (by omega)
theorem wr3 : IntKind.i64.wrap (2 + 1) = 3 := i64_of (n := 2 + 1) (by omega) (by omega)
theorem isLA (L : List Ag) : cA.isR 4 (.row 4 L.length (shiftG 0 (cA.g L))) = true := Cel.isR_of (Cel.row_refl 4 L)
theorem decLA (L : List Ag) : cA.decR 4 (.row 4 L.length (shiftG 0 (cA.g L))) = L := Cel.decR_of (Cel.row_refl 4 L)
theorem ris_run (L : List Int) (hw : L.length ≤ 1099511627776) : run Try.prog ⟨[(64, k_cmpM)], eqs, [], [], [], mixs, meqs, []⟩ 10000 [(4, 13, [0, 1, 3, 7, 7, 7, 39, 119, 247, 7, 7, 1543, 3591, 8191, 16383, 32767])] 0 (bodyOf Try.f63) (initF Try.f63 [.sl 0 1 0 L.length, .fn (.func 64) [] []]) [.ro 1 L.length (gOf eB L)] (retK Try.prog Try.f63 fun x _ => eqv x (.bool (K.rising L))) := by
  (conv => whnf)
  (repeat' (first | (refine step_t (by first | rfl | assumption) ?_; (conv => whnf)) | (refine step_f (by first | rfl | assumption) ?_; (conv => whnf)) | (refine step_nt (by assumption) ?_; (conv => whnf)) | (refine step_nf (by assumption) ?_; (conv => whnf)) | (refine step_n (fun hb => ?_) (fun hb => ?_) <;> (first | contradiction | (conv => whnf))) | (refine And.intro (fun hb => ?_) (fun hb => ?_) <;> (first | contradiction | (conv => whnf))) | (refine And.intro ?_ ?_; rotate_left 1; (conv => whnf))))
  refine .inr ⟨[], [0, 1, 7, 8], fun k vals M => ∃ j : Nat, j ≤ L.length ∧ k = L.length - j ∧ K.upto (K.risesAt L) j = true ∧ vals = [.sl 0 1 0 L.length, .fn (.func 64) [] [], .int .i64 (L.length : Int), .int .i64 (j : Int)] ∧ M = [.ro 1 L.length (gOf eB L)], ?_⟩
  conv => whnf
  refine And.intro ⟨L.length, [.ro 1 L.length (gOf eB L)], mle_cons ble_refl mle_nil, rfl, rfl, 0, by omega, by omega, rfl, rfl, rfl⟩ ?_
  rintro k vals M1 ⟨j, hj, rfl, he, rfl, rfl⟩
  have hz : 0 + ((j : Int)).toNat = j := by omega
  (conv => whnf)
  (repeat' (first | (refine step_t (by first | rfl | assumption) ?_; (conv => whnf)) | (refine step_f (by first | rfl | assumption) ?_; (conv => whnf)) | (refine step_nt (by assumption) ?_; (conv => whnf)) | (refine step_nf (by assumption) ?_; (conv => whnf)) | (refine step_n (fun hb => ?_) (fun hb => ?_) <;> (first | contradiction | (conv => whnf))) | (refine And.intro (fun hb => ?_) (fun hb => ?_) <;> (first | contradiction | (conv => whnf))) | (refine And.intro ?_ ?_; rotate_left 1; (conv => whnf))))
  all_goals try (have hlt : j < L.length := by simp only [decide_eq_true_eq] at *; omega)
  all_goals try (have hp : 0 < j := (by simp only [decide_eq_true_eq] at *; omega); have hwr : IntKind.i64.wrap ((j : Int) - 1) = ((j - 1 : Nat) : Int) := (by rw [i64_of (n := (j : Int) - 1) (by omega) (by omega)]; omega); simp only [hwr, Int.toNat_natCast, Nat.zero_add] at *)
  all_goals try (simp only [hz] at *)
  all_goals try (first | exact decide_eq_true (by omega) | (rw [Bool.and_eq_true]; exact ⟨decide_eq_true (by omega), decide_eq_true (by omega)⟩))
  · exact K.upto_no hlt (K.rises_no hp hb)
  · refine ⟨L.length - (j + 1), [.ro 1 L.length (gOf eB L)], [0], by omega, rfl, mle_cons ble_refl mle_nil, rfl, rfl, j + 1, by omega, rfl, ?_, ?_, rfl⟩
    · exact K.upto_next he (K.rises_ok hb)
    · show [SV.sl 0 1 0 L.length, .fn (.func 64) [] [], .int .i64 (L.length : Int), .int .i64 (IntKind.i64.wrap ((j : Int) + 1))] = _
      rw [i64_of (n := (j : Int) + 1) (by omega) (by omega)]; rfl
  · refine ⟨L.length - (j + 1), [.ro 1 L.length (gOf eB L)], [0], by omega, rfl, mle_cons ble_refl mle_nil, rfl, rfl, j + 1, by omega, rfl, ?_, ?_, rfl⟩
    · exact K.upto_next he (K.rises_0 (by have := of_decide_eq_false hb; omega))
    · show [SV.sl 0 1 0 L.length, .fn (.func 64) [] [], .int .i64 (L.length : Int), .int .i64 (IntKind.i64.wrap ((j : Int) + 1))] = _
      rw [i64_of (n := (j : Int) + 1) (by omega) (by omega)]; rfl
  · obtain rfl : j = L.length := by have := of_decide_eq_false hb; omega
    exact he
noncomputable def k_ris : List SV → List Blk → Res := fun args M => match args with
  | [x, .fn (.func g) [] []] => match Nat.beq g 64 with
    | true => match topA eltB M [x] with
      | some (b, [.one v]) => .test b (.test (cB.isR 1 v) (.test (decide ((cB.decR 1 v).length ≤ 1099511627776)) (.ok (.bool (K.rising (cB.decR 1 v))) [])))
      | _ => .fail
    | false => .fail
  | _ => .fail
theorem k_ris_ok : CtrOk Try.prog Gw 63 k_ris := by
  refine ⟨fun _ _ => by kernel_rfl, fun args M => ?_⟩
  unfold k_ris
  split
  · rename_i x g
    split
    · rename_i hg
      obtain rfl := Nat.eq_of_beq_eq_true hg
      split
      · rename_i b v hv
        intro hb hi hw
        exact ctr_topx (Γ := ⟨[(64, k_cmpM)], eqs, [], [], [], mixs, meqs, []⟩) (args := [x]) (M := M) (post := [.fn (.func 64) [] []]) (post0 := [.fn (.func 64) [] []]) st_Gw ⟨(okCons k_cmpM_ok okNil), eqs_ok, okNilB, okNilI, okNilP, mixs_ok, meqs_ok, okNilY⟩ Try.func63 rfl mixed [(4, 13, [0, 1, 3, 7, 7, 7, 39, 119, 247, 7, 7, 1543, 3591, 8191, 16383, 32767])] (by kernel_rfl) 10000 [.one (.row 1 (cB.decR 1 v).length (cB.g (cB.decR 1 v)))] (fun _ _ => rfl) rfl hv hb ⟨Cel.isR_dec hi, trivial⟩ rfl (ris_run _ (of_decide_eq_true hw))
      · trivial
    · trivial
  · trivial
end Go.Proofs.Ytnbcemeofhaogaa
