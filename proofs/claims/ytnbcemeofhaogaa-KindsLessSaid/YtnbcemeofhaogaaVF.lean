import Derived.Test.YtnbcemeofhaogaaVA2
import Derived.Test.YtnbcemeofhaogaaShelf
import Derived.Test.YtnbcemeofhaogaaVB
import Derived.Test.YtnbcemeofhaogaaZU2
namespace Go.Proofs.Ytnbcemeofhaogaa
open Go.RowKit Go.Sx
set_option linter.unusedSimpArgs false
set_option linter.unusedVariables false
set_option linter.unnecessarySimpa false
set_option maxRecDepth 100000
set_option maxHeartbeats 4000000
def k_cmpI : List SV → List Blk → Res := fun args _ => match args with
  | [.int .i64 a, .int .i64 b] => .ok (.int .i64 (K.cmp a b)) []
  | _ => .fail
theorem k_cmpI_ok : CtrOk Try.prog Gw 51 k_cmpI := by
  refine ⟨fun _ _ => by kernel_rfl, fun args M => ?_⟩
  unfold k_cmpI
  split
  · rename_i a b
    refine ctr_flat (Γ := ⟨[], eqs, [], [(78, Try.f78, [])], [], mixs, meqs, []⟩) (sv := .int .i64 (K.cmp a b)) st_Gw ⟨okNil, eqs_ok, okNilB, (okConsI Try.func78 rfl (by kernel_rfl) (fun _ _ => by kernel_rfl) okNilI), okNilP, mixs_ok, meqs_ok, okNilY⟩ Try.func51 rfl mixed [] (by kernel_rfl) 10000 (by rfl) ?_
    (conv => whnf)
    (repeat' (first | (refine step_t (by first | rfl | assumption) ?_; (conv => whnf)) | (refine step_f (by first | rfl | assumption) ?_; (conv => whnf)) | (refine step_nt (by assumption) ?_; (conv => whnf)) | (refine step_nf (by assumption) ?_; (conv => whnf)) | (refine step_n (fun hb => ?_) (fun hb => ?_) <;> (first | contradiction | (conv => whnf))) | (refine And.intro (fun hb => ?_) (fun hb => ?_) <;> (first | contradiction | (conv => whnf))) | (refine And.intro (a := (_ : Bool) = true) ?_ ?_; rotate_left 1; (conv => whnf))))
    all_goals (first | rfl | trivial | (simp_all [eqv, eqv1, K.cmp]; done) | (simp_all [eqv, eqv1, K.cmp]; omega))
  · trivial
end Go.Proofs.Ytnbcemeofhaogaa
namespace Go.Proofs.Ytnbcemeofhaogaa
open Go.RowKit Go.Sx
set_option linter.unusedSimpArgs false
set_option linter.unusedVariables false
set_option linter.unnecessarySimpa false
set_option maxRecDepth 100000
set_option maxHeartbeats 4000000
theorem c_scmp (a b : ByteArray) (w : World) : Calls Try.prog 47 #[.string a, .string b] w (Ret w (.int .i64 (K.cmpS a b))) :=
  (Try.strings_Compare a b w).mono fun e w' ⟨h1, h2⟩ => ⟨h1, grow_mk (h2 ▸ up_refl w)⟩
def k_scmp : List SV → List Blk → Res := fun args _ => match args with
  | [.val (.string a), .val (.string b)] => .ok (.int .i64 (K.cmpS a b)) []
  | _ => .fail
theorem k_scmp_ok : CtrOk Try.prog Gw 47 k_scmp := by
  refine ⟨fun _ _ => by kernel_rfl, fun args M => ?_⟩
  unfold k_scmp
  split
  · rename_i a b
    exact fun B ρ w hG hM => ctr_ret hM (sv := .int .i64 (K.cmpS a b)) (args := [.val (.string a), .val (.string b)]) (fun _ => rfl) (c_scmp a b w)
  · trivial
end Go.Proofs.Ytnbcemeofhaogaa
namespace Go.Proofs.Ytnbcemeofhaogaa
open Go.RowKit Go.Sx
set_option linter.unusedSimpArgs false
set_option linter.unusedVariables false
set_option linter.unnecessarySimpa false
set_option maxRecDepth 100000
set_option maxHeartbeats 4000000
attribute [local irreducible] K.cmpS K.cmp
theorem cmpT_run (a : Ty) (b : Ty) : run Try.prog ⟨[(47, k_scmp)], eqs, [], [], [], mixs, meqs, []⟩ 10000 [] 0 (bodyOf Try.f46) (initF Try.f46 [.agg [.val (.string a.nm), .int .i64 a.cx, .sl 0 4 0 a.fs.length, .sl 1 3 0 a.ns.length, .int .i64 a.lo, .int .i64 a.hi], .agg [.val (.string b.nm), .int .i64 b.cx, .sl 2 4 0 b.fs.length, .sl 3 3 0 b.ns.length, .int .i64 b.lo, .int .i64 b.hi]]) [.ro 4 a.fs.length (gOf eF a.fs), .ro 3 a.ns.length (gOf eN a.ns), .ro 4 b.fs.length (gOf eF b.fs), .ro 3 b.ns.length (gOf eN b.ns)] (retK Try.prog Try.f46 (fun x _ => eqv x (.int .i64 (K.cmpT a b)))) := by
  (conv => whnf)
  (repeat' (first | (refine step_t (by first | rfl | assumption) ?_; (conv => whnf)) | (refine step_f (by first | rfl | assumption) ?_; (conv => whnf)) | (refine step_nt (by assumption) ?_; (conv => whnf)) | (refine step_nf (by assumption) ?_; (conv => whnf)) | (refine step_n (fun hb => ?_) (fun hb => ?_) <;> (first | contradiction | (conv => whnf))) | (refine And.intro (fun hb => ?_) (fun hb => ?_) <;> (first | contradiction | (conv => whnf))) | (refine And.intro (a := (_ : Bool) = true) ?_ ?_; rotate_left 1; (conv => whnf))))
  all_goals exact ⟨rfl, rfl⟩
noncomputable def k_cmpT : List SV → List Blk → Res := fun args M => match topA eltB M args with
  | some (b, [.agg v0, .agg v1]) => .test b (.test (cY.is v0 && cY.is v1) (.ok (.int .i64 (K.cmpT (cY.dec v0) (cY.dec v1))) []))
  | _ => .fail
theorem k_cmpT_ok : CtrOk Try.prog Gw 46 k_cmpT := by
  refine ⟨fun _ _ => by kernel_rfl, fun args M => ?_⟩
  unfold k_cmpT
  split
  · rename_i b v0 v1 hv
    intro hb hi
    simp only [Bool.and_eq_true] at hi
    exact ctr_top (Γ := ⟨[(47, k_scmp)], eqs, [], [], [], mixs, meqs, []⟩) st_Gw ⟨(okCons k_scmp_ok okNil), eqs_ok, okNilB, okNilI, okNilP, mixs_ok, meqs_ok, okNilY⟩ Try.func46 rfl mixed [] (by kernel_rfl) 10000 [.agg (celY (cY.dec v0)), .agg (celY (cY.dec v1))] hv hb ⟨Cel.is_dec (hi.1), ⟨Cel.is_dec (hi.2), trivial⟩⟩ rfl (cmpT_run (cY.dec v0) (cY.dec v1))
  · trivial
theorem cmpH_run (a : Hp) (b : Hp) : run Try.prog ⟨[(51, k_cmpI)], eqs, [], [(50, Try.f50, [])], [], mixs, meqs, []⟩ 10000 [(1, 14, [0, 1, 0, 4, 15, 0, 32, 0, 128, 511, 0, 1024, 0, 4096, 16383, 32767, 65535, 131071])] 0 (bodyOf Try.f49) (initF Try.f49 [.agg [.int .i64 a.id, .int .i64 a.mj, .int .i64 a.mn, .int .u8 a.core, .sl 0 4 0 a.args.length, .int .u8 a.rk, .int .i64 a.rlo, .int .i64 a.rhi, .int .i64 a.rsz], .agg [.int .i64 b.id, .int .i64 b.mj, .int .i64 b.mn, .int .u8 b.core, .sl 1 4 0 b.args.length, .int .u8 b.rk, .int .i64 b.rlo, .int .i64 b.rhi, .int .i64 b.rsz]]) [.ro 4 a.args.length (cA.g a.args), .ro 4 b.args.length (cA.g b.args)] (retK Try.prog Try.f49 (fun x _ => eqv x (.int .i64 (K.cmpH a b)))) := by
  (conv => whnf)
  (repeat' (first | (refine .inl ⟨4, ?_⟩; (conv => whnf)) | (refine step_t (by first | rfl | assumption) ?_; (conv => whnf)) | (refine step_f (by first | rfl | assumption) ?_; (conv => whnf)) | (refine step_nt (by assumption) ?_; (conv => whnf)) | (refine step_nf (by assumption) ?_; (conv => whnf)) | (refine step_n (fun hb => ?_) (fun hb => ?_) <;> (first | contradiction | (conv => whnf))) | (refine And.intro (fun hb => ?_) (fun hb => ?_) <;> (first | contradiction | (conv => whnf))) | (refine And.intro (a := (_ : Bool) = true) ?_ ?_; rotate_left 1; (conv => whnf))))
  all_goals first
  | rfl
  | (simp; done)
  | (unfold K.cmpH K.or3; simp_all; done)
noncomputable def k_cmpH : List SV → List Blk → Res := fun args M => match topA eltB M args with
  | some (b, [.agg v0, .agg v1]) => .test b (.test (cH.is v0 && cH.is v1) (.ok (.int .i64 (K.cmpH (cH.dec v0) (cH.dec v1))) []))
  | _ => .fail
theorem k_cmpH_ok : CtrOk Try.prog Gw 49 k_cmpH := by
  refine ⟨fun _ _ => by kernel_rfl, fun args M => ?_⟩
  unfold k_cmpH
  split
  · rename_i b v0 v1 hv
    intro hb hi
    simp only [Bool.and_eq_true] at hi
    exact ctr_top (Γ := ⟨[(51, k_cmpI)], eqs, [], [(50, Try.f50, [])], [], mixs, meqs, []⟩) st_Gw ⟨(okCons k_cmpI_ok okNil), eqs_ok, okNilB, (okConsI Try.func50 rfl (by kernel_rfl) (fun _ _ => by kernel_rfl) okNilI), okNilP, mixs_ok, meqs_ok, okNilY⟩ Try.func49 rfl mixed [(1, 14, [0, 1, 0, 4, 15, 0, 32, 0, 128, 511, 0, 1024, 0, 4096, 16383, 32767, 65535, 131071])] (by kernel_rfl) 10000 [.agg (celH (cH.dec v0)), .agg (celH (cH.dec v1))] hv hb ⟨Cel.is_dec (hi.1), ⟨Cel.is_dec (hi.2), trivial⟩⟩ rfl (cmpH_run (cH.dec v0) (cH.dec v1))
  · trivial
end Go.Proofs.Ytnbcemeofhaogaa
namespace Go.Proofs.Ytnbcemeofhaogaa
open Go.RowKit Go.Sx
set_option linter.unusedSimpArgs false
set_option linter.unusedVariables false
set_option linter.unnecessarySimpa false
set_option maxRecDepth 100000
set_option maxHeartbeats 4000000
attribute [local irreducible] K.name K.fields K.needs K.within K.upto K.numbered K.versioned K.cmp
theorem type_run (t : Ty) (hw : (t.atMost 1099511627776) = true) : run Try.prog ⟨[(14, k_name), (56, k_fields), (51, k_cmpI), (25, k_numbered), (26, k_versioned), (38, k_has)], eqs, [], [(52, Try.f52, [(4, 13, [0, 1, 3, 7, 7, 7, 39, 119, 247, 7, 7, 1543, 3591, 8191, 16383, 32767])]), (53, Try.f53, []), (55, Try.f55, []), (54, Try.f54, []), (79, Try.f79, [])], [], mixs, meqs, []⟩ 10000 [] 0 (bodyOf Try.f21) (initF Try.f21 [.agg [.val (.string t.nm), .int .i64 t.cx, .sl 0 4 0 t.fs.length, .sl 1 3 0 t.ns.length, .int .i64 t.lo, .int .i64 t.hi]]) [.ro 4 t.fs.length (gOf eF t.fs), .ro 3 t.ns.length (gOf eN t.ns)] (retK Try.prog Try.f21 (fun x _ => eqv x (.int .i64 (K.type t)))) := by
  simp only [Ty.atMost, Bool.and_eq_true, decide_eq_true_eq] at hw
  obtain ⟨hs, hl, hn⟩ := hw
  (conv => whnf)
  (repeat' (first | (refine step_t (by first | rfl | assumption) ?_; (conv => whnf)) | (refine step_f (by first | rfl | assumption) ?_; (conv => whnf)) | (refine step_nt (by assumption) ?_; (conv => whnf)) | (refine step_nf (by assumption) ?_; (conv => whnf)) | (refine step_n (fun hb => ?_) (fun hb => ?_) <;> (first | contradiction | (conv => whnf))) | (refine And.intro (fun hb => ?_) (fun hb => ?_) <;> (first | contradiction | (conv => whnf))) | (refine And.intro ?_ ?_; rotate_left 1; (conv => whnf))))
  refine .inr ⟨[], [0, 1, 7, 8], fun k vals M => ∃ j : Nat, j ≤ t.ns.length ∧ k = t.ns.length - j ∧ K.upto (K.riseAt t.ns) j = true ∧ vals = [.sl 1 3 0 t.ns.length, .fn (.func 53) [] [], .int .i64 (t.ns.length : Int), .int .i64 (j : Int)] ∧ M = [.ro 4 t.fs.length (gOf eF t.fs), .ro 3 t.ns.length (gOf eN t.ns), .cells 62 [.val (.string t.nm), .int .i64 t.cx, .sl 0 4 0 t.fs.length, .sl 1 3 0 t.ns.length, .int .i64 t.lo, .int .i64 t.hi]], ?_⟩
  conv => whnf
  refine And.intro ⟨t.ns.length, [.ro 4 t.fs.length (gOf eF t.fs), .ro 3 t.ns.length (gOf eN t.ns), .cells 62 [.val (.string t.nm), .int .i64 t.cx, .sl 0 4 0 t.fs.length, .sl 1 3 0 t.ns.length, .int .i64 t.lo, .int .i64 t.hi]], mle_cons ble_refl (mle_cons ble_refl (mle_cons ble_refl mle_nil)), rfl, rfl, 0, by omega, by omega, K.upto_0, rfl, rfl⟩ ?_
  rintro k vals M1 ⟨j, hj, rfl, he, rfl, rfl⟩
  (conv => whnf)
  (repeat' (first | (refine step_t (by first | rfl | assumption) ?_; (conv => whnf)) | (refine step_f (by first | rfl | assumption) ?_; (conv => whnf)) | (refine step_nt (by assumption) ?_; (conv => whnf)) | (refine step_nf (by assumption) ?_; (conv => whnf)) | (refine step_n (fun hb => ?_) (fun hb => ?_) <;> (first | contradiction | (conv => whnf))) | (refine And.intro (fun hb => ?_) (fun hb => ?_) <;> (first | contradiction | (conv => whnf))) | (refine And.intro ?_ ?_; rotate_left 1; (conv => whnf))))
  all_goals (first | rfl | exact decide_eq_true hs | skip)
  all_goals have hz : ((j : Int)).toNat = j := by omega
  all_goals have hwj : IntKind.i64.wrap ((j : Int) - 1) = (j : Int) - 1 := i64_of (by omega) (by omega)
  all_goals have hzj : ((j : Int) - 1).toNat = j - 1 := by omega
  all_goals try (fail_if_success (refine Or.inr ?_)
                 simp only [isY_at, decY_at, hz, Nat.zero_add, Nat.sub_zero, hwj, hzj, Bool.and_eq_true, Bool.or_eq_true, Bool.or_eq_false_iff, decide_eq_true_eq, decide_eq_false_iff_not, beq_iff_eq, beq_eq_false_iff_ne, bne_iff_ne, ne_eq, true_and] at *)
  all_goals try (have hcx : 8 ≤ t.cx ∧ t.cx ≤ 256 := K.within_is (by assumption))
  all_goals try (have hlt : j < t.ns.length := (by omega)
                 have hp : 0 < j := (by omega)
                 have hnd : K.needs t.ns = false := K.riseN_no hlt hp (by assumption))
  all_goals first
  | trivial
  | omega
  | (refine ⟨⟨?_, ?_, ?_⟩, ?_⟩ <;> first | trivial | omega)
  | (refine ⟨?_, ?_⟩ <;> omega)
  | (refine ⟨?_, ?_, ?_⟩ <;> omega)
  | exact K.type_2 (by assumption)
  | exact K.type_3w (by assumption) (by assumption)
  | exact K.type_3l (by assumption) (by omega)
  | exact K.type_22 (by assumption) (by assumption) (by omega) (by omega) (by assumption)
  | exact K.type_34 (by assumption) (by assumption) (by omega) (by omega) (by assumption) (by assumption)
  | exact K.type_36 (by assumption) (by assumption) (by omega) (by omega) (by assumption) (by assumption) (by omega)
  | exact K.type_0 (by assumption) (by assumption) (by omega) (by omega) (by assumption) (by assumption) (by omega)
  | (refine ⟨t.ns.length - (j + 1), [.ro 4 t.fs.length (gOf eF t.fs), .ro 3 t.ns.length (gOf eN t.ns), .cells 62 [.val (.string t.nm), .int .i64 t.cx, .sl 0 4 0 t.fs.length, .sl 1 3 0 t.ns.length, .int .i64 t.lo, .int .i64 t.hi]], [0, 1, 2], by omega, ⟨rfl, rfl⟩, mle_cons ble_refl (mle_cons ble_refl (mle_cons ble_refl mle_nil)), rfl, rfl, j + 1, by omega, rfl, K.riseN_next he (by first | exact .inr (by assumption) | exact .inl (by omega)), ?_, rfl⟩
     show [SV.sl 1 3 0 t.ns.length, .fn (.func 53) [] [], .int .i64 (t.ns.length : Int), .int .i64 (IntKind.i64.wrap ((j : Int) + 1))] = _
     rw [i64_of (n := (j : Int) + 1) (by omega) (by omega)]; rfl)
  | skip
  clear hz hwj hzj
  obtain rfl : j = t.ns.length := by
    have h9 : decide ((j : Int) < (t.ns.length : Int)) = false := by assumption
    have h8 := of_decide_eq_false h9
    omega
  clear hj
  refine .inr ⟨[], [0, 1, 7, 8], fun k vals M => ∃ j : Nat, j ≤ t.ns.length ∧ k = t.ns.length - j ∧ K.upto (fun i => K.needOk (t.ns.getD i eN.dft)) j = true ∧ vals = [.sl 1 3 0 t.ns.length, .fn (.func 55) [] [], .int .i64 (t.ns.length : Int), .int .i64 (j : Int)] ∧ M = [.ro 4 t.fs.length (gOf eF t.fs), .ro 3 t.ns.length (gOf eN t.ns), .cells 62 [.val (.string t.nm), .int .i64 t.cx, .sl 0 4 0 t.fs.length, .sl 1 3 0 t.ns.length, .int .i64 t.lo, .int .i64 t.hi]], ?_⟩
  conv => whnf
  refine And.intro ⟨t.ns.length, [.ro 4 t.fs.length (gOf eF t.fs), .ro 3 t.ns.length (gOf eN t.ns), .cells 62 [.val (.string t.nm), .int .i64 t.cx, .sl 0 4 0 t.fs.length, .sl 1 3 0 t.ns.length, .int .i64 t.lo, .int .i64 t.hi]], mle_cons ble_refl (mle_cons ble_refl (mle_cons ble_refl mle_nil)), rfl, rfl, 0, by omega, by omega, K.upto_0, rfl, rfl⟩ ?_
  rintro k vals M1 ⟨j, hj, rfl, he2, rfl, rfl⟩
  (conv => whnf)
  (repeat' (first | (refine step_t (by first | rfl | assumption) ?_; (conv => whnf)) | (refine step_f (by first | rfl | assumption) ?_; (conv => whnf)) | (refine step_nt (by assumption) ?_; (conv => whnf)) | (refine step_nf (by assumption) ?_; (conv => whnf)) | (refine step_n (fun hb => ?_) (fun hb => ?_) <;> (first | contradiction | (conv => whnf))) | (refine And.intro (fun hb => ?_) (fun hb => ?_) <;> (first | contradiction | (conv => whnf))) | (refine And.intro ?_ ?_; rotate_left 1; (conv => whnf))))
  all_goals (first | rfl | exact decide_eq_true hs | skip)
  all_goals have hz : ((j : Int)).toNat = j := by omega
  all_goals have hwj : IntKind.i64.wrap ((j : Int) - 1) = (j : Int) - 1 := i64_of (by omega) (by omega)
  all_goals have hzj : ((j : Int) - 1).toNat = j - 1 := by omega
  all_goals try (fail_if_success (refine Or.inr ?_)
                 simp only [isY_at, decY_at, hz, Nat.zero_add, Nat.sub_zero, hwj, hzj, Bool.and_eq_true, Bool.or_eq_true, Bool.or_eq_false_iff, decide_eq_true_eq, decide_eq_false_iff_not, beq_iff_eq, beq_eq_false_iff_ne, bne_iff_ne, ne_eq, true_and] at *)
  all_goals try (have hcx : 8 ≤ t.cx ∧ t.cx ≤ 256 := K.within_is (by assumption))
  all_goals try (have hlt : j < t.ns.length := (by omega)
                 have hnd : K.needs t.ns = false := K.needs_no hlt (by first | exact .inl (by assumption) | exact .inr (by assumption)))
  all_goals try (have hjl : j = t.ns.length := (by omega)
                 have hnd : K.needs t.ns = true := K.needs_yes he (by rw [← hjl]; exact he2))
  all_goals first
  | trivial
  | omega
  | (refine ⟨⟨?_, ?_, ?_⟩, ?_⟩ <;> first | trivial | omega)
  | (refine ⟨?_, ?_⟩ <;> omega)
  | (refine ⟨?_, ?_, ?_⟩ <;> omega)
  | exact K.type_2 (by assumption)
  | exact K.type_3w (by assumption) (by assumption)
  | exact K.type_3l (by assumption) (by omega)
  | exact K.type_22 (by assumption) (by assumption) (by omega) (by omega) (by assumption)
  | exact K.type_34 (by assumption) (by assumption) (by omega) (by omega) (by assumption) (by assumption)
  | exact K.type_36 (by assumption) (by assumption) (by omega) (by omega) (by assumption) (by assumption) (by omega)
  | exact K.type_0 (by assumption) (by assumption) (by omega) (by omega) (by assumption) (by assumption) (by omega)
  | (refine ⟨t.ns.length - (j + 1), [.ro 4 t.fs.length (gOf eF t.fs), .ro 3 t.ns.length (gOf eN t.ns), .cells 62 [.val (.string t.nm), .int .i64 t.cx, .sl 0 4 0 t.fs.length, .sl 1 3 0 t.ns.length, .int .i64 t.lo, .int .i64 t.hi]], [0, 1, 2], by omega, ⟨rfl, rfl⟩, mle_cons ble_refl (mle_cons ble_refl (mle_cons ble_refl mle_nil)), rfl, rfl, j + 1, by omega, rfl, K.needs_next he2 (by assumption) (by assumption), ?_, rfl⟩
     show [SV.sl 1 3 0 t.ns.length, .fn (.func 55) [] [], .int .i64 (t.ns.length : Int), .int .i64 (IntKind.i64.wrap ((j : Int) + 1))] = _
     rw [i64_of (n := (j : Int) + 1) (by omega) (by omega)]; rfl)
  | skip

noncomputable def k_type : List SV → List Blk → Res := fun args M => match topA eltB M args with
  | some (b, [.agg v0]) => .test b (.test (cY.is v0) (.test ((cY.dec v0).atMost 1099511627776) (.ok (.int .i64 (K.type (cY.dec v0))) [])))
  | _ => .fail
theorem k_type_ok : CtrOk Try.prog Gw 21 k_type := by
  refine ⟨fun _ _ => by kernel_rfl, fun args M => ?_⟩
  unfold k_type
  split
  · rename_i b v0 hv
    intro hb hi hw
    exact ctr_top (Γ := ⟨[(14, k_name), (56, k_fields), (51, k_cmpI), (25, k_numbered), (26, k_versioned), (38, k_has)], eqs, [], [(52, Try.f52, [(4, 13, [0, 1, 3, 7, 7, 7, 39, 119, 247, 7, 7, 1543, 3591, 8191, 16383, 32767])]), (53, Try.f53, []), (55, Try.f55, []), (54, Try.f54, []), (79, Try.f79, [])], [], mixs, meqs, []⟩) st_Gw ⟨(okCons k_name_ok (okCons k_fields_ok (okCons k_cmpI_ok (okCons k_numbered_ok (okCons k_versioned_ok (okCons k_has_ok okNil)))))), eqs_ok, okNilB, (okConsI Try.func52 rfl (by kernel_rfl) (fun _ _ => by kernel_rfl) (okConsI Try.func53 rfl (by kernel_rfl) (fun _ _ => by kernel_rfl) (okConsI Try.func55 rfl (by kernel_rfl) (fun _ _ => by kernel_rfl) (okConsI Try.func54 rfl (by kernel_rfl) (fun _ _ => by kernel_rfl) (okConsI Try.func79 rfl (by kernel_rfl) (fun _ _ => by kernel_rfl) okNilI))))), okNilP, mixs_ok, meqs_ok, okNilY⟩ Try.func21 rfl mixed [] (by kernel_rfl) 10000 [.agg (celY (cY.dec v0))] hv hb ⟨Cel.is_dec (hi), trivial⟩ rfl (type_run (cY.dec v0) hw)
  · trivial
end Go.Proofs.Ytnbcemeofhaogaa
