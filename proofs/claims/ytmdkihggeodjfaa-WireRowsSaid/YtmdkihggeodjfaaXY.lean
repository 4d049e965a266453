import Derived.Test.YtmdkihggeodjfaaXO
import Derived.Test.YtmdkihggeodjfaaXL
namespace Go.Proofs.Ytmdkihggeodjfaa
open Go.RowKit Go.Sx
set_option linter.unusedSimpArgs false
set_option linter.unusedVariables false
set_option linter.unnecessarySimpa false
set_option maxRecDepth 100000
set_option maxHeartbeats 4000000
theorem dropC_drop : ∀ (b a : Nat) (c : Code), dropC a (dropC b c) = dropC (b + a) c
  | 0, a, c => by rw [Nat.zero_add]; rfl
  | b + 1, a, c => by
    cases c with
    | seq x y => rw [Nat.add_right_comm]; exact dropC_drop b a y
    | _ => rw [Nat.add_right_comm]; cases a <;> rfl
theorem ret_slot {P : Program} {fn : Func} {Φ : SV → List Blk → Prop} {F : List SV} {M : List Blk} {n : Nat} (hr : fn.results = #[.tmp n]) {x : SV} (h : nth F n = some x) (hj : x.nj = true) (hx : Φ x M) : retK P fn Φ .ret F M := by
  have e : retS P fn F M = some x := by simp [retS, hr, retL, retOne, h, hj]
  show (match retS P fn F M with | some x => force3 x fun x => Φ x M | none => False)
  rw [e]
  show force3 x (fun x => Φ x M)
  rw [force3_eq]; exact hx
theorem runs_cut {P : Program} {Γ : Env} {T : Tbl} {c : Code} {F : List SV} {M : List Blk} {K : X → List SV → List Blk → Prop} {l : List (Nat × Nat × List Nat)} (b k n : Nat) (keep : List Nat) {N : Nat} (hN : N = n + k + 1) (hc : chainB k (dropC b c) = true)
    (h : run P Γ N T 0 (takeC k (dropC b c)) F M (forgetK keep (fun F1 M1 => runs P Γ l T 0 (dropC (b + k) c) F1 M1 K) K)) : runs P Γ ((k, n, keep) :: l) T 0 (dropC b c) F M K := by
  subst hN
  refine ⟨rfl, hc, ?_⟩
  rw [dropC_drop]
  exact h
theorem rows_run (L : List Tr) (turn : Int) (ht : -9223372036854775808 ≤ turn ∧ turn ≤ 9223372036854775807) (hf : Tr.fitL L = true) (hw : Tr.wideL L = true) (hl : L.length ≤ 140737488355328) :
    runs Try.prog ⟨[(7, k_awake), (8, k_weight), (9, k_Put), (10, k_Row), (11, k_Of), (12, k_same), (13, k_Pick), (14, k_sameT)], eqs, [], [], [], mixs, meqs⟩ [(6, 9993, [0, 1, 6]), (4, 9989, [0, 1, 6, 11, 13]), (2, 9987, [0, 1, 6, 11, 13, 14]), (2, 9985, [0, 1, 11]), (1, 9984, [0, 11, 18]), (1, 9983, [0, 11, 18, 19]), (1, 9982, [0, 11, 18, 19, 21])] [(28, 30, [0, 1, 3, 7, 15, 31, 63, 127, 255, 127, 639, 2047, 127, 8191, 16383, 32767, 65535, 65535, 262143, 65535, 65535, 1638399, 4194303, 8388607, 16777215, 33554431, 67108863, 67108863, 268435455, 67108863, 1073741823, 2147483647, 4294967295]), (37, 15, [0, 1, 3, 3, 15, 31, 3, 3, 3, 387, 3, 1027, 3971, 8131, 16323, 32767, 65535, 131071, 262143])] 0 (bodyOf Try.f3) (initF Try.f3 [.sl 0 4 0 L.length, .int .i64 turn]) [.ro 4 L.length (gK L)] (retK Try.prog Try.f3 fun x _ => eqv x (.bool true)) := by
  have hR : ∀ F M, nth F 4 = some .tt → (retK Try.prog Try.f3 fun x _ => eqv x (.bool true)) .ret F M := fun F M h => ret_slot rfl h rfl rfl
  have hB : ∀ F M b, b = true → nth F 4 = some (.bool b) → (retK Try.prog Try.f3 fun x _ => eqv x (.bool true)) .ret F M := fun F M b hb h => ret_slot rfl h rfl hb
  generalize (retK Try.prog Try.f3 fun x _ => eqv x (.bool true)) = K at hR hB ⊢
  refine runs_cut 0 6 9993 _ rfl rfl (rows_0 L turn ht hf hw hl hR hB fun d hm0 => ?_)
  have hm : Tr.massL L ≤ 1048576 := by omega
  refine use_forget [0] rfl (mle_cons ble_refl mle_nil) rfl (vals := [.sl 0 4 0 L.length, .int .i64 turn, .val (.slice none 0 0)]) rfl rfl ?_
  refine runs_cut 6 4 9989 _ rfl rfl (rows_6 L turn ht hf hm (fun _ => .junk) hR hB fun d b2 b3 hall q1 => ?_)
  refine use_forget [0, 1, 2, 3, 4] rfl (mle_cons ble_refl (mle_cons ble_refl (mle_cons ble_dead (mle_cons ble_dead (mle_cons ble_refl mle_nil))))) rfl (M1 := [.ro 4 L.length (gK L), .own 5 1 (Tr.putL L).length (gOf eB (Tr.putL L)), .dead, .dead, .fz 1 (Tr.row L).put.length (gOf eB (Tr.row L).put)]) (vals := [.sl 0 4 0 L.length, .int .i64 turn, .sl 1 1 0 (Tr.putL L).length, .sl 4 1 0 (Tr.row L).put.length, .int .i64 (Tr.head 3 (BitVec.ofInt 64 L.length)).length]) rfl rfl ?_
  refine runs_cut 10 2 9987 _ rfl rfl (rows_10 L turn ht hf hm hall q1 .dead .dead (fun _ => .junk) hR hB fun d hall q1 => ?_)
  refine use_forget [0, 1, 2, 3, 4, 5] rfl (mle_cons ble_refl (mle_cons ble_refl (mle_cons ble_refl (mle_cons ble_refl (mle_cons ble_refl (mle_cons ble_refl mle_nil)))))) rfl (vals := [.sl 0 4 0 L.length, .int .i64 turn, .sl 1 1 0 (Tr.putL L).length, .sl 4 1 0 (Tr.row L).put.length, .int .i64 (Tr.head 3 (BitVec.ofInt 64 L.length)).length, .sl 5 4 0 L.length]) rfl rfl ?_
  refine runs_cut 12 2 9985 _ rfl rfl ?_
  have next : ∀ d, runs Try.prog ⟨[(7, k_awake), (8, k_weight), (9, k_Put), (10, k_Row), (11, k_Of), (12, k_same), (13, k_Pick), (14, k_sameT)], eqs, [], [], [], mixs, meqs⟩ [(1, 9984, [0, 11, 18]), (1, 9983, [0, 11, 18, 19]), (1, 9982, [0, 11, 18, 19, 21])] [(28, 30, [0, 1, 3, 7, 15, 31, 63, 127, 255, 127, 639, 2047, 127, 8191, 16383, 32767, 65535, 65535, 262143, 65535, 65535, 1638399, 4194303, 8388607, 16777215, 33554431, 67108863, 67108863, 268435455, 67108863, 1073741823, 2147483647, 4294967295]), (37, 15, [0, 1, 3, 3, 15, 31, 3, 3, 3, 387, 3, 1027, 3971, 8131, 16323, 32767, 65535, 131071, 262143])] 0 (dropC 14 (bodyOf Try.f3)) (mkFrom [(0, .sl 0 4 0 L.length), (1, .int .i64 turn), (11, .sl 1 1 0 (Tr.row L).put.length)] d 197 0) [.ro 4 L.length (gK L), .fz 1 (Tr.row L).put.length (gOf eB (Tr.row L).put)] K := fun d => by
    refine runs_cut 14 1 9984 _ rfl rfl (rowf_14 L turn ht hf hm hall q1 _ fun c hc => ?_)
    refine runs_cut 15 1 9983 _ rfl rfl (rowf_15 L turn ht hf hm hall q1 c hc _ ?_)
    refine runs_cut 16 1 9982 _ rfl rfl (rowf_16 L turn ht hf hm hall q1 c hc _ ?_)
    exact ⟨rfl, rowf_17 L hf hm hall q1 c hc _ hR hB⟩
  refine rows_12 L turn ht hf hm hall q1 (fun _ => .junk) hR hB (fun d m6 m7 m8 g6 g7 g8 hall q1 => ?_) (fun d m6 m7 m8 g6 g7 g8 hall q1 => ?_) fun d m6 m7 m8 g6 g7 g8 hall q1 => ?_
  all_goals
    exact use_forget [0, 4] rfl (mle_cons ble_refl (mle_cons ble_refl mle_nil)) rfl (vals := [.sl 0 4 0 L.length, .int .i64 turn, .sl 1 1 0 (Tr.row L).put.length]) rfl rfl (next fun _ => .junk)
/-- What WireRows answers. -/
theorem rows_calls {w : World} (ρ : Val) (L : List Tr) (turn : Int) (ht : -9223372036854775808 ≤ turn ∧ turn ≤ 9223372036854775807) (hf : Tr.fitL L = true) (hw : Tr.wideL L = true) (hl : L.length ≤ 140737488355328) (hM : MRel ⟨w.heap.size, [], ρ.z⟩ ρ [.ro 4 L.length (gK L)] w) :
    Calls Try.prog 3 #[(SV.sl 0 4 0 L.length).den ρ, .int .i64 turn] w (Ret w (.bool true)) := by
  have h := calls_runs (G := Gw) (w := w) (ρ0 := ρ) (z := ρ.z) (Γ := ⟨[(7, k_awake), (8, k_weight), (9, k_Put), (10, k_Row), (11, k_Of), (12, k_same), (13, k_Pick), (14, k_sameT)], eqs, [], [], [], mixs, meqs⟩) (args := [.sl 0 4 0 L.length, .int .i64 turn]) st_Gw ⟨(okCons k_awake_ok (okCons k_weight_ok (okCons k_Put_ok (okCons k_Row_ok (okCons k_Of_ok (okCons k_same_ok (okCons k_Pick_ok (okCons k_sameT_ok okNil)))))))), eqs_ok, okNilB, okNilI, okNilP, mixs_ok, meqs_ok⟩ Try.func3 rfl mixed [(28, 30, [0, 1, 3, 7, 15, 31, 63, 127, 255, 127, 639, 2047, 127, 8191, 16383, 32767, 65535, 65535, 262143, 65535, 65535, 1638399, 4194303, 8388607, 16777215, 33554431, 67108863, 67108863, 268435455, 67108863, 1073741823, 2147483647, 4294967295]), (37, 15, [0, 1, 3, 3, 15, 31, 3, 3, 3, 387, 3, 1027, 3971, 8131, 16323, 32767, 65535, 131071, 262143])] (by kernel_rfl) [(6, 9993, [0, 1, 6]), (4, 9989, [0, 1, 6, 11, 13]), (2, 9987, [0, 1, 6, 11, 13, 14]), (2, 9985, [0, 1, 11]), (1, 9984, [0, 11, 18]), (1, 9983, [0, 11, 18, 19]), (1, 9982, [0, 11, 18, 19, 21])] trivial rfl hM (rows_run L turn ht hf hw hl)
  refine h.mono ?_
  rintro e w' ⟨ρ', sv, M, rfl, hsv, _, hbel⟩
  exact ⟨by rw [eqv_den hsv ρ' ρ']; rfl, grow_mk hbel⟩
end Go.Proofs.Ytmdkihggeodjfaa
