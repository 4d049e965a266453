import Derived.Test.YtmdkihggeodjfaaXRW
namespace Go.Proofs.Ytmdkihggeodjfaa
open Go.RowKit Go.Sx
set_option linter.unusedSimpArgs false
set_option linter.unusedVariables false
set_option linter.unnecessarySimpa false
set_option maxRecDepth 100000
set_option maxHeartbeats 4000000
theorem form_calls {w : World} (ρ : Val) (t : Tr) (L : List Int) (cut : Int) (hw : t.wide = true) (hf : t.fit2 = true) (hB : btsB L = true) (hl : L.length ≤ 140737488355328) (hc : -9223372036854775808 ≤ cut ∧ cut ≤ 9223372036854775807) (hM : MRel ⟨w.heap.size, [], ρ.z⟩ ρ [.fz 1 t.bs.length (gOf eB t.bs), .fz 4 t.kids.length (gK t.kids), .fz 1 L.length (gOf eB L)] w) :
    Calls Try.prog 6 (denL ρ [.agg [.int .u8 t.k, .int .i64 t.n, .sl 0 1 0 t.bs.length, .sl 1 4 0 t.kids.length], .sl 2 1 0 L.length, .int .i64 cut]).toArray w (Ret w (.bool true)) := by
  have h := calls_run (G := Gw) (w := w) (ρ0 := ρ) (z := ρ.z) (Γ := ⟨[(7, k_awake), (8, k_weight), (9, k_Put), (18, k_Right), (20, k_Size), (12, k_same), (14, k_sameT), (13, k_Pick)], eqs, [], [(24, Try.f24, [])], [], mixs, meqs, [(23, k_Get)]⟩) (args := [.agg [.int .u8 t.k, .int .i64 t.n, .sl 0 1 0 t.bs.length, .sl 1 4 0 t.kids.length], .sl 2 1 0 L.length, .int .i64 cut]) st_Gw ⟨(okCons k_awake_ok (okCons k_weight_ok (okCons k_Put_ok (okCons k_Right_ok (okCons k_Size_ok (okCons k_same_ok (okCons k_sameT_ok (okCons k_Pick_ok okNil)))))))), eqs_ok, okNilB, (okConsI Try.func24 rfl (by kernel_rfl) (fun _ _ => by kernel_rfl) okNilI), okNilP, mixs_ok, meqs_ok, (okConsY k_Get_ok okNilY)⟩ Try.func6 rfl mixed [] (by kernel_rfl) 10000 trivial rfl hM (form_run t L cut hw hf hB hl hc)
  refine h.mono ?_
  rintro e w' ⟨ρ', sv, M, rfl, hsv, _, hbel⟩
  exact ⟨by rw [eqv_den hsv ρ' ρ']; rfl, grow_mk hbel⟩
end Go.Proofs.Ytmdkihggeodjfaa
