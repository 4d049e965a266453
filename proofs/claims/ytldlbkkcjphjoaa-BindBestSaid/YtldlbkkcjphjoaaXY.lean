import Derived.Test.YtldlbkkcjphjoaaXU
import Derived.Test.YtldlbkkcjphjoaaXW
namespace Go.Proofs.Ytldlbkkcjphjoaa
open Go.RowKit Go.Sx
set_option linter.unusedSimpArgs false
set_option linter.unusedVariables false
set_option linter.unnecessarySimpa false
set_option maxRecDepth 100000
set_option maxHeartbeats 4000000
theorem dropC_drop : ∀ (b a : Nat) (c : Code), dropC a (dropC b c) = dropC (b + a) c
  | 0, a, c => by rw [Nat.zero_add]; rfl
  | b + 1, a, c => by
    cases c with
    | seq x y => rw [Nat.add_right_comm]; exact dropC_drop b a y
    | _ => rw [Nat.add_right_comm]; cases a <;> rfl
theorem ret_slot {P : Program} {fn : Func} {Φ : SV → List Blk → Prop} {F : List SV} {M : List Blk} {n : Nat} (hr : fn.results = #[.tmp n]) {x : SV} (h : nth F n = some x) (hj : x.nj = true) (hx : Φ x M) : retK P fn Φ .ret F M := by
  have e : retS P fn F M = some x := by simp [retS, hr, retL, retOne, h, hj]
  show (match retS P fn F M with | some x => force3 x fun x => Φ x M | none => False)
  rw [e]
  show force3 x (fun x => Φ x M)
  rw [force3_eq]; exact hx
theorem runs_cut {P : Program} {Γ : Env} {T : Tbl} {c : Code} {F : List SV} {M : List Blk} {K : X → List SV → List Blk → Prop} {l : List (Nat × Nat × List Nat)} (b k n : Nat) (keep : List Nat) {N : Nat} (hN : N = n + k + 1) (hc : chainB k (dropC b c) = true)
    (h : run P Γ N T 0 (takeC k (dropC b c)) F M (forgetK keep (fun F1 M1 => runs P Γ l T 0 (dropC (b + k) c) F1 M1 K) K)) : runs P Γ ((k, n, keep) :: l) T 0 (dropC b c) F M K := by
  subst hN
  refine ⟨rfl, hc, ?_⟩
  rw [dropC_drop]
  exact h
theorem best_all (L : List Hp) (m : Hp) (n : Nd) (nm : ByteArray) (cx lo hi : Int) (fl : List Fd) (ns : List Nd) (hL : L.length ≤ 140737488355328) (hLw : L.all (Hp.atMost 140737488355328) = true) (hmw : m.atMost 140737488355328 = true) (hnm : nm.size ≤ 140737488355328) (hfl : fl.length ≤ 140737488355328) (hns : ns.length ≤ 140737488355328) :
    runs Try.prog ⟨[(4, k_awake), (5, k_hof), (6, k_tof), (7, k_find), (8, k_shelp)], eqs, [], [], [], mixs, meqs, [(9, k_all)]⟩ [(3, 9996, [0, 5, 6, 7]), (4, 9995, [0, 5, 6, 7, 9, 10]), (1, 9998, [0, 5, 6, 7, 9, 10, 14, 15]), (2, 9997, [0, 7])] [(10, 26, [0, 0, 3, 7, 15, 0, 32, 127, 255, 511, 511, 2047, 4095, 8191, 511, 16895, 65535, 131071, 262143, 524287, 524287, 2097151, 4194303, 8388607, 524287, 17301503, 67108863, 134217727]), (12, 7, [0, 1, 3, 3, 15, 31, 3, 127, 255, 511]), (13, 7, [0, 0, 3, 7, 15, 0, 32, 127]), (33, 8, [0, 1, 3, 7, 7, 7, 55, 119, 255, 511, 1023]), (17, 1000, [4, 5])] 0 (bodyOf Try.f3) (initF Try.f3 [.sl 0 9 0 L.length, .agg [.int .i64 m.id, .int .i64 m.mj, .int .i64 m.mn, .int .u8 m.core, .sl 1 4 0 m.args.length, .int .u8 m.rk, .int .i64 m.rlo, .int .i64 m.rhi, .int .i64 m.rsz], .agg [.int .i64 n.a, .int .i64 n.b, .int .i64 n.c], .agg [.val (.string nm), .int .i64 cx, .sl 2 4 0 fl.length, .sl 3 3 0 ns.length, .int .i64 lo, .int .i64 hi]]) [.fz 9 L.length (cH.g L), .fz 4 m.args.length (cA.g m.args), .fz 4 fl.length (gOf eF fl), .fz 3 ns.length (gOf eN ns)] (retK Try.prog Try.f3 fun x _ => eqv x (.bool true)) := by
  have hR : ∀ F M, nth F 8 = some .tt → (retK Try.prog Try.f3 fun x _ => eqv x (.bool true)) .ret F M := fun F M h => ret_slot rfl h rfl rfl
  have hB : ∀ F M b, b = true → nth F 8 = some (.bool b) → (retK Try.prog Try.f3 fun x _ => eqv x (.bool true)) .ret F M := fun F M b hb h => ret_slot rfl h rfl hb
  generalize (retK Try.prog Try.f3 fun x _ => eqv x (.bool true)) = K at hR hB ⊢
  refine runs_cut 0 3 9996 _ rfl rfl (bb_0 L m n nm cx lo hi fl ns hL hLw hmw hnm hfl hns hR hB fun a1 a2 a3 a4 a5 a6 => ?_)
  refine runs_cut 3 4 9995 _ rfl rfl (bb_3 L m n nm cx lo hi fl ns a1 a2 a3 a4 a5 a6 hR hB ?_)
  refine runs_cut 7 1 9998 _ rfl rfl (bb_7 L m n nm cx lo hi fl ns a1 a2 a3 a4 a5 a6 ?_)
  refine runs_cut 8 2 9997 _ rfl rfl (bb_8 L m n nm cx lo hi fl ns a1 a2 a3 a4 a5 a6 hR hB ?_)
  exact ⟨rfl, bb_10 L nm cx lo hi fl ns a1 a2 a4 a5 a6 hR hB⟩
/-- What BindBest answers. -/
theorem best_calls {w : World} (ρ : Val) (L : List Hp) (m : Hp) (n : Nd) (nm : ByteArray) (cx lo hi : Int) (fl : List Fd) (ns : List Nd) (hL : L.length ≤ 140737488355328) (hLw : L.all (Hp.atMost 140737488355328) = true) (hmw : m.atMost 140737488355328 = true) (hnm : nm.size ≤ 140737488355328) (hfl : fl.length ≤ 140737488355328) (hns : ns.length ≤ 140737488355328) (hM : MRel ⟨w.heap.size, [], ρ.z⟩ ρ [.fz 9 L.length (cH.g L), .fz 4 m.args.length (cA.g m.args), .fz 4 fl.length (gOf eF fl), .fz 3 ns.length (gOf eN ns)] w) :
    Calls Try.prog 3 (denL ρ [.sl 0 9 0 L.length, .agg [.int .i64 m.id, .int .i64 m.mj, .int .i64 m.mn, .int .u8 m.core, .sl 1 4 0 m.args.length, .int .u8 m.rk, .int .i64 m.rlo, .int .i64 m.rhi, .int .i64 m.rsz], .agg [.int .i64 n.a, .int .i64 n.b, .int .i64 n.c], .agg [.val (.string nm), .int .i64 cx, .sl 2 4 0 fl.length, .sl 3 3 0 ns.length, .int .i64 lo, .int .i64 hi]]).toArray w (Ret w (.bool true)) := by
  have h := calls_runs (G := Gw) (w := w) (ρ0 := ρ) (z := ρ.z) (Γ := ⟨[(4, k_awake), (5, k_hof), (6, k_tof), (7, k_find), (8, k_shelp)], eqs, [], [], [], mixs, meqs, [(9, k_all)]⟩) (args := [.sl 0 9 0 L.length, .agg [.int .i64 m.id, .int .i64 m.mj, .int .i64 m.mn, .int .u8 m.core, .sl 1 4 0 m.args.length, .int .u8 m.rk, .int .i64 m.rlo, .int .i64 m.rhi, .int .i64 m.rsz], .agg [.int .i64 n.a, .int .i64 n.b, .int .i64 n.c], .agg [.val (.string nm), .int .i64 cx, .sl 2 4 0 fl.length, .sl 3 3 0 ns.length, .int .i64 lo, .int .i64 hi]]) st_Gw ⟨(okCons k_awake_ok (okCons k_hof_ok (okCons k_tof_ok (okCons k_find_ok (okCons k_shelp_ok okNil))))), eqs_ok, okNilB, okNilI, okNilP, mixs_ok, meqs_ok, (okConsY k_all_ok okNilY)⟩ Try.func3 rfl mixed [(10, 26, [0, 0, 3, 7, 15, 0, 32, 127, 255, 511, 511, 2047, 4095, 8191, 511, 16895, 65535, 131071, 262143, 524287, 524287, 2097151, 4194303, 8388607, 524287, 17301503, 67108863, 134217727]), (12, 7, [0, 1, 3, 3, 15, 31, 3, 127, 255, 511]), (13, 7, [0, 0, 3, 7, 15, 0, 32, 127]), (33, 8, [0, 1, 3, 7, 7, 7, 55, 119, 255, 511, 1023]), (17, 1000, [4, 5])] (by kernel_rfl) [(3, 9996, [0, 5, 6, 7]), (4, 9995, [0, 5, 6, 7, 9, 10]), (1, 9998, [0, 5, 6, 7, 9, 10, 14, 15]), (2, 9997, [0, 7])] trivial rfl hM (best_all L m n nm cx lo hi fl ns hL hLw hmw hnm hfl hns)
  refine h.mono ?_
  rintro e w' ⟨ρ', sv, M, rfl, hsv, _, hbel⟩
  exact ⟨by rw [eqv_den hsv ρ' ρ']; rfl, grow_mk hbel⟩
end Go.Proofs.Ytldlbkkcjphjoaa
