import Derived.Test.YtldlbkkcjphjoaaXP
import Derived.Test.YtldlbkkcjphjoaaXI
import Derived.Test.YtldlbkkcjphjoaaXJ
import Derived.Test.YtldlbkkcjphjoaaXQ
import Derived.Test.YtldlbkkcjphjoaaXR
import Derived.Test.YtldlbkkcjphjoaaSxC
namespace Go.Proofs.Ytldlbkkcjphjoaa
open Go.RowKit Go.Sx
set_option linter.unusedSimpArgs false
set_option linter.unusedVariables false
set_option linter.unnecessarySimpa false
set_option maxRecDepth 100000
set_option maxHeartbeats 4000000
theorem hp_eta (m : Hp) : (⟨m.id, m.mj, m.mn, m.core, m.args, m.rk, m.rlo, m.rhi, m.rsz⟩ : Hp) = m := rfl
theorem bb_0 {K : X → List SV → List Blk → Prop} {Q : List SV → List Blk → Prop} (L : List Hp) (m : Hp) (n : Nd) (nm : ByteArray) (cx lo hi : Int) (fl : List Fd) (ns : List Nd) (hL : L.length ≤ 140737488355328) (hLw : L.all (Hp.atMost 140737488355328) = true) (hmw : m.atMost 140737488355328 = true) (hnm : nm.size ≤ 140737488355328) (hfl : fl.length ≤ 140737488355328) (hns : ns.length ≤ 140737488355328) (hR : ∀ F M, nth F 8 = some .tt → K .ret F M) (hB : ∀ F M b, b = true → nth F 8 = some (.bool b) → K .ret F M) (hQ : L.length ≤ 2000 → L.all (Hp.atMost 2000) = true → m.atMost 2000 = true → nm.size ≤ 16000 → fl.length ≤ 2000 → ns.length ≤ 2000 → Q (mkFrom [(0, .sl 0 9 0 L.length), (5, .ptr 4 0), (6, .ptr 5 0), (7, .ptr 6 0)] (fun _ => .junk) 219 0) [.fz 9 L.length (cH.g L), .fz 4 m.args.length (cA.g m.args), .fz 4 fl.length (gOf eF fl), .fz 3 ns.length (gOf eN ns), .cells 29 [.int .i64 m.id, .int .i64 m.mj, .int .i64 m.mn, .int .u8 m.core, .sl 1 4 0 m.args.length, .int .u8 m.rk, .int .i64 m.rlo, .int .i64 m.rhi, .int .i64 m.rsz], .cells 31 [.int .i64 n.a, .int .i64 n.b, .int .i64 n.c], .cells 35 [.val (.string nm), .int .i64 cx, .sl 2 4 0 fl.length, .sl 3 3 0 ns.length, .int .i64 lo, .int .i64 hi]]) : run Try.prog ⟨[(4, k_awake), (5, k_hof), (6, k_tof), (7, k_find), (8, k_shelp)], eqs, [], [], [], mixs, meqs, [(9, k_all)]⟩ 10000 [(10, 26, [0, 0, 3, 7, 15, 0, 32, 127, 255, 511, 511, 2047, 4095, 8191, 511, 16895, 65535, 131071, 262143, 524287, 524287, 2097151, 4194303, 8388607, 524287, 17301503, 67108863, 134217727]), (12, 7, [0, 1, 3, 3, 15, 31, 3, 127, 255, 511]), (13, 7, [0, 0, 3, 7, 15, 0, 32, 127]), (33, 8, [0, 1, 3, 7, 7, 7, 55, 119, 255, 511, 1023]), (17, 1000, [4, 5])] 0 (takeC 3 (bodyOf Try.f3)) (initF Try.f3 [.sl 0 9 0 L.length, .agg [.int .i64 m.id, .int .i64 m.mj, .int .i64 m.mn, .int .u8 m.core, .sl 1 4 0 m.args.length, .int .u8 m.rk, .int .i64 m.rlo, .int .i64 m.rhi, .int .i64 m.rsz], .agg [.int .i64 n.a, .int .i64 n.b, .int .i64 n.c], .agg [.val (.string nm), .int .i64 cx, .sl 2 4 0 fl.length, .sl 3 3 0 ns.length, .int .i64 lo, .int .i64 hi]]) [.fz 9 L.length (cH.g L), .fz 4 m.args.length (cA.g m.args), .fz 4 fl.length (gOf eF fl), .fz 3 ns.length (gOf eN ns)] (forgetK [0, 5, 6, 7] Q K) := by
  generalize hKQ : forgetK [0, 5, 6, 7] Q K = KQ
  (conv => whnf)
  (repeat' (first | (refine step_t (by first | rfl | assumption) ?_; (conv => whnf)) | (refine step_f (by first | rfl | assumption) ?_; (conv => whnf)) | (refine step_nt (by assumption) ?_; (conv => whnf)) | (refine step_nf (by assumption) ?_; (conv => whnf)) | (refine step_n (fun hb => ?_) (fun hb => ?_) <;> (first | contradiction | (conv => whnf))) | (refine And.intro (fun hb => ?_) (fun hb => ?_) <;> (first | contradiction | (conv => whnf))) | (refine And.intro ?_ ?_; rotate_left 1; (conv => whnf)) | (intro hb; (conv => whnf))))
  all_goals try (subst hKQ; exact hR _ _ rfl)
  all_goals try (simp only [sh0, isH_row, decH_row, isA_row, decA_row, hp_eta] at *)
  all_goals first
  | rfl
  | exact hmw
  | exact holds_t (fun _ _ => rfl)
  | exact holds_t (fun _ _ => trivial)
  | (rw [Bool.and_eq_true]; exact ⟨decide_eq_true hL, hLw⟩)
  | (simp only [Bool.and_eq_true, decide_eq_true_eq]; refine ⟨?_, ?_⟩ <;> first | omega | (refine ⟨?_, ?_⟩ <;> omega))
  | (simp; done)
  | (subst hKQ
     have h1 : hpsOf 2000 L (L.length : Int) ≤ 2000 := (by
       have h9 : decide (2000 < hpsOf 2000 L (L.length : Int)) = false := (by assumption)
       have := of_decide_eq_false h9
       omega)
     have h2 : hpsOf 2000 [m] 1 ≤ 2000 := (by
       have h9 : decide (2000 < hpsOf 2000 [m] 1) = false := (by assumption)
       have := of_decide_eq_false h9
       omega)
     have h3 : tyOf 2000 nm.size fl.length ns.length ≤ 2000 := (by
       have h9 : decide (2000 < tyOf 2000 nm.size fl.length ns.length) = false := (by assumption)
       have := of_decide_eq_false h9
       omega)
     obtain ⟨a1, a2, a3⟩ := hpsOf_le L (L.length : Int) hLw (by omega) (by omega) h1
     obtain ⟨_, _, b3⟩ := hpsOf_le [m] 1 (by simpa using hmw) (by omega) (by omega) h2
     obtain ⟨c1, c2, c3⟩ := tyOf_le h3
     refine use_forget [0, 1, 2, 3, 4, 5, 6] rfl (mle_cons ble_refl (mle_cons ble_refl (mle_cons ble_refl (mle_cons ble_refl (mle_cons ble_refl (mle_cons ble_refl (mle_cons ble_refl mle_nil))))))) rfl (vals := [.sl 0 9 0 L.length, .ptr 4 0, .ptr 5 0, .ptr 6 0]) rfl rfl (hQ (by omega) a3 (by simpa using b3) c1 c2 c3))

end Go.Proofs.Ytldlbkkcjphjoaa
