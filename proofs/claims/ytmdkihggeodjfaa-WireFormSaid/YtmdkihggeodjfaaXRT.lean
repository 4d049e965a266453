import Derived.Test.YtmdkihggeodjfaaXRH
import Derived.Test.YtmdkihggeodjfaaXF
namespace Go.Proofs.Ytmdkihggeodjfaa
open Go.RowKit Go.Sx
set_option linter.unusedSimpArgs false
set_option linter.unusedVariables false
set_option linter.unnecessarySimpa false
set_option maxRecDepth 100000
set_option maxHeartbeats 4000000
noncomputable def k_treeN (D : Nat) : YC := fun args M K => match args with
  | [.ptr k 0] => match nth M k with
    | some (.cells ty [.sl n 1 off len, .int .i64 d]) => match nth M n with
      | some (.ro 1 m g) => (Nat.beq ty 93) = true ∧ (decide (d = (D : Int)) = true) ∧ (decide (off + len ≤ m)) = true ∧ (allIs eB off len g && (btsB (elts eB off len g) && decide (len ≤ 1099511627776))) = true ∧
          RTr (Tr.parse D (elts eB off len g)) (fun t r => (decide (0 < r.length) = true → forceM (M.set k (.cells 93 [.sl n 1 (off + (len - r.length)) r.length, .int .i64 (D : Int)]) ++ [.fz 1 t.bs.length (gOf eB t.bs), .fz 4 t.kids.length (gK t.kids), .ro 1 0 (fun _ => [])]) fun M' => K none (.agg [.int .u8 t.k, .int .i64 t.n, .sl M.length 1 0 t.bs.length, .sl (M.length + 1) 4 0 t.kids.length]) M') ∧
            (decide (0 < r.length) = false → forceM (M.set k (.cells 93 [.sl (M.length + 2) 1 0 0, .int .i64 (D : Int)]) ++ [.fz 1 t.bs.length (gOf eB t.bs), .fz 4 t.kids.length (gK t.kids), .ro 1 0 (fun _ => [])]) fun M' => K none (.agg [.int .u8 t.k, .int .i64 t.n, .sl M.length 1 0 t.bs.length, .sl (M.length + 1) 4 0 t.kids.length]) M')) (K (some errV) .junk (M.set k .dead))
      | _ => False
    | _ => False
  | _ => False
theorem tree_run (D : Nat) (ih : YCtrOk Try.prog Gw 38 (k_treeN D)) (hD : D < 1000) (L : List Int) (hB : btsB L = true) (hl : L.length ≤ 1099511627776) (Φ : Option Value → SV → List Blk → Prop)
    (hN : Tr.parse (D + 1) L = none → ∀ M1, Φ (some errV) .junk M1) (hS : ∀ t r, Tr.parse (D + 1) L = some (t, r) → ∀ x M1, RdEnd 93 L r ((D + 1 : Nat) : Int) false [.agg (celG t)] x M1 → Φ none x M1) :
    run Try.prog ⟨[(11, k_Of)], eqs, [], [(71, Try.f71, []), (39, Try.f39, []), (70, Try.f70, []), (72, Try.f72, [(3, 1000, [4])]), (101, Try.f101, []), (114, Try.f114, [])], [], mixs, meqs, [(69, k_lhead), (38, k_treeN D)]⟩ 10000 [] 2 (bodyOf Try.f38) (initF Try.f38 [.ptr 0 0]) [.cells 93 [.sl 1 1 0 L.length, .int .i64 ((D + 1 : Nat) : Int)], .ro 1 L.length (gOf eB L)] (retKP Try.prog Try.f38 Φ) := by
  have w0 : allIs eB 0 L.length (gOf eB L) = true := allIs_gOf ..
  have w1 : elts eB 0 L.length (gOf eB L) = L := elts_all eB L
  have by1 : Try.prog.types[5].bytes = 1 := by kernel_rfl
  have hz28 : Try.prog.types[28].bytes = 64 := by kernel_rfl
  have hs28 : Try.prog.types[28].size = 4 := by kernel_rfl
  have hwU : IntKind.i64.wrap ((D : Int) + 1) = ((D + 1 : Nat) : Int) := by rw [IntWalk.i64_in _ (by omega)]; omega
  have hwD : IntKind.i64.wrap (((D + 1 : Nat) : Int) - 1) = (D : Int) := by rw [IntWalk.i64_in _ (by omega)]; omega
  (conv => whnf)
  (repeat' (first | (refine RH_in (fun kd v r hr => ?_) (fun hr => ?_) <;> (conv => whnf)) | (refine RTr_in (fun t r ht => ?_) (fun ht => ?_) <;> (conv => whnf)) | (first | (refine step_t (by first | rfl | assumption) ?_; (conv => whnf)) | (refine step_f (by first | rfl | assumption) ?_; (conv => whnf)) | (refine step_nt (by assumption) ?_; (conv => whnf)) | (refine step_nf (by assumption) ?_; (conv => whnf)) | (refine step_n (fun hb => ?_) (fun hb => ?_) <;> (first | contradiction | (conv => whnf))) | (refine And.intro (fun hb => ?_) (fun hb => ?_) <;> (first | contradiction | (conv => whnf))) | (refine And.intro ?_ ?_; rotate_left 1; (conv => whnf)))))
  all_goals first
  | (show (_ ∨ _)
     refine Or.inr ?_
     rw [w1] at hr
     have hd := headP_drop hr
     have h3 : (kd == 3) = true := (by assumption)
     have hp := parse_3 (d := D) hr h3
     have hvb := v.isLt
     have hpn : Tr.kidsP (Tr.parse D) v.toNat r = none → Tr.parse (D + 1) L = none := fun h => (by rw [hp, h])
     have hps : ∀ l q, Tr.kidsP (Tr.parse D) v.toNat r = some (l, q) → Tr.parse (D + 1) L = some (.mk 3 0 [] l, q) := fun l q h => (by rw [hp, h])
     clear hp
     have hno : Tr.parse D (elts eB 0 0 fun _ => []) = none := parse_nil D
     (first | (have q3 : decide (0 < r.length) = true := (by assumption); have q3 := of_decide_eq_true q3) | (have q3 : decide (0 < r.length) = false := (by assumption); have q3 := of_decide_eq_false q3) | skip)
     first
     | (have hrn : r = [] := List.eq_nil_of_length_eq_zero (by omega)
        subst hrn
        refine ⟨[], [0, 1, 3], fun k vals M => vals = [.yld 7, .ptr 6 0, .u64 (BitVec.ofNat 64 0)] ∧ M = [.cells 93 [.sl 3 1 0 0, .int .i64 (D : Int)], .ro 1 L.length (gOf eB L), .cells 28 [.int .u8 0, .int .i64 0, .val (.slice none 0 0), .val (.slice none 0 0)], .ro 1 0 (fun _ => []), .cells 94 [.fn (.func 38) [.ptr 0 0] []], .cells 22 [.val (.slice none 0 0)], .cells 97 [.u64 v], lpOf [(3, 1000, [4])] (bodyOf Try.f72) [.u64 v, .fn (.func 38) [.ptr 0 0] [], .tup [], .ptr 4 0, .val (.slice none 0 0), .ptr 5 0, .u64 v, .fn (.func 114) [] [.ptr 6 0], .tup [], .tup [], .tup [], .tup [], .tup [], .tup [], .tup [], .tup [], .tup []]], ?_⟩
        conv => whnf
        refine And.intro ⟨0, [.cells 93 [.sl 3 1 0 0, .int .i64 (D : Int)], .ro 1 L.length (gOf eB L), .cells 28 [.int .u8 0, .int .i64 0, .val (.slice none 0 0), .val (.slice none 0 0)], .ro 1 0 (fun _ => []), .cells 94 [.fn (.func 38) [.ptr 0 0] []], .cells 22 [.val (.slice none 0 0)], .cells 97 [.u64 v], lpOf [(3, 1000, [4])] (bodyOf Try.f72) [.u64 v, .fn (.func 38) [.ptr 0 0] [], .tup [], .ptr 4 0, .val (.slice none 0 0), .ptr 5 0, .u64 v, .fn (.func 114) [] [.ptr 6 0], .tup [], .tup [], .tup [], .tup [], .tup [], .tup [], .tup [], .tup [], .tup []]], mle_cons (ble_cells (by rw [hwD])) (mle_cons ble_refl (mle_cons ble_refl (mle_cons ble_refl (mle_cons ble_refl (mle_cons ble_refl (mle_cons ble_refl (mle_cons ble_refl mle_nil))))))), rfl, rfl, rfl, rfl⟩ ?_
        rintro k vals M1 ⟨rfl, rfl⟩
        have hj : 0 ≤ v.toNat := Nat.zero_le _
        (conv => whnf)
        (repeat' (first | (refine RTr_no (by assumption) ?_; (conv => whnf)) | (first | (refine step_t (by first | rfl | assumption) ?_; (conv => whnf)) | (refine step_f (by first | rfl | assumption) ?_; (conv => whnf)) | (refine step_nt (by assumption) ?_; (conv => whnf)) | (refine step_nf (by assumption) ?_; (conv => whnf)) | (refine step_n (fun hb => ?_) (fun hb => ?_) <;> (first | contradiction | (conv => whnf))) | (refine And.intro (fun hb => ?_) (fun hb => ?_) <;> (first | contradiction | (conv => whnf))) | (refine And.intro ?_ ?_; rotate_left 1; (conv => whnf)))))
        all_goals first
        | rfl
        | trivial
        | exact decide_eq_true rfl
        | (have hlt := of_decide_eq_true (lt_u hj (by assumption))
           exact hN (hpn (kids_none 0 v.toNat [] [] [] rfl (parse_nil D) hlt)) _)
        | (have hge := of_decide_eq_false (lt_u hj (by assumption))
           refine hS _ _ (hps [] [] (by rw [show v.toNat = 0 by omega]; rfl)) _ _ (rd_end (by rfl) rfl hwU (.inr rfl) (tells_T rfl rfl (tell_3 (nil_kids rfl)))))
        | skip
        )
     | (refine ⟨[], [0, 1, 3], fun k vals M => ∃ (j : Nat) (l : List Tr) (q : List Int), j ≤ v.toNat ∧ k = v.toNat - j ∧ Tr.kidsP (Tr.parse D) j r = some (l, q) ∧ vals = [.yld 7, .ptr 6 0, .u64 (BitVec.ofNat 64 j)] ∧ ((∃ o, 0 < q.length ∧ o + q.length = L.length ∧ q = L.drop o ∧ ((j = 0 ∧ M = [.cells 93 [.sl 1 1 o q.length, .int .i64 (D : Int)], .ro 1 L.length (gOf eB L), .cells 28 [.int .u8 0, .int .i64 0, .val (.slice none 0 0), .val (.slice none 0 0)], .ro 1 0 (fun _ => []), .cells 94 [.fn (.func 38) [.ptr 0 0] []], .cells 22 [.val (.slice none 0 0)], .cells 97 [.u64 v], lpOf [(3, 1000, [4])] (bodyOf Try.f72) [.u64 v, .fn (.func 38) [.ptr 0 0] [], .tup [], .ptr 4 0, .val (.slice none 0 0), .ptr 5 0, .u64 v, .fn (.func 114) [] [.ptr 6 0], .tup [], .tup [], .tup [], .tup [], .tup [], .tup [], .tup [], .tup [], .tup []]]) ∨ (0 < j ∧ M = [.cells 93 [.sl 1 1 o q.length, .int .i64 (D : Int)], .ro 1 L.length (gOf eB L), .cells 28 [.int .u8 0, .int .i64 0, .val (.slice none 0 0), .val (.slice none 0 0)], .ro 1 0 (fun _ => []), .cells 94 [.fn (.func 38) [.ptr 0 0] []], .cells 22 [.sl 8 4 0 j], .cells 97 [.u64 v], lpOf [(3, 1000, [4])] (bodyOf Try.f72) [.u64 v, .fn (.func 38) [.ptr 0 0] [], .tup [], .ptr 4 0, .val (.slice none 0 0), .ptr 5 0, .u64 v, .fn (.func 114) [] [.ptr 6 0], .tup [], .tup [], .tup [], .tup [], .tup [], .tup [], .tup [], .tup [], .tup []], .own 28 4 j (gK l)]))) ∨ (q = [] ∧ 0 < j ∧ M = [.cells 93 [.sl 9 1 0 0, .int .i64 (D : Int)], .ro 1 L.length (gOf eB L), .cells 28 [.int .u8 0, .int .i64 0, .val (.slice none 0 0), .val (.slice none 0 0)], .ro 1 0 (fun _ => []), .cells 94 [.fn (.func 38) [.ptr 0 0] []], .cells 22 [.sl 8 4 0 j], .cells 97 [.u64 v], lpOf [(3, 1000, [4])] (bodyOf Try.f72) [.u64 v, .fn (.func 38) [.ptr 0 0] [], .tup [], .ptr 4 0, .val (.slice none 0 0), .ptr 5 0, .u64 v, .fn (.func 114) [] [.ptr 6 0], .tup [], .tup [], .tup [], .tup [], .tup [], .tup [], .tup [], .tup [], .tup []], .own 28 4 j (gK l), .ro 1 0 (fun _ => [])])), ?_⟩
        conv => whnf
        refine And.intro ⟨v.toNat, [.cells 93 [.sl 1 1 (L.length - r.length) r.length, .int .i64 (D : Int)], .ro 1 L.length (gOf eB L), .cells 28 [.int .u8 0, .int .i64 0, .val (.slice none 0 0), .val (.slice none 0 0)], .ro 1 0 (fun _ => []), .cells 94 [.fn (.func 38) [.ptr 0 0] []], .cells 22 [.val (.slice none 0 0)], .cells 97 [.u64 v], lpOf [(3, 1000, [4])] (bodyOf Try.f72) [.u64 v, .fn (.func 38) [.ptr 0 0] [], .tup [], .ptr 4 0, .val (.slice none 0 0), .ptr 5 0, .u64 v, .fn (.func 114) [] [.ptr 6 0], .tup [], .tup [], .tup [], .tup [], .tup [], .tup [], .tup [], .tup [], .tup []]], mle_cons (ble_cells (by rw [hwD, Nat.zero_add])) (mle_cons ble_refl (mle_cons ble_refl (mle_cons ble_refl (mle_cons ble_refl (mle_cons ble_refl (mle_cons ble_refl (mle_cons ble_refl mle_nil))))))), rfl, rfl, 0, [], r, Nat.zero_le _, rfl, rfl, rfl, .inl ⟨L.length - r.length, q3, by omega, hd.1, .inl ⟨rfl, rfl⟩⟩⟩ ?_
        clear q3
        rintro k vals M1 ⟨j, l, q, hj, rfl, hk, rfl, (⟨o, hq, ho, hqo, (⟨hj0, rfl⟩ | ⟨hj0, rfl⟩)⟩ | ⟨rfl, hj0, rfl⟩)⟩
        · subst hj0
          have hll := kids_len _ _ _ _ hk
          have huse := kids_use (by omega) _ _ _ _ (by rw [hd.1]; exact bts_drop hB _) hk
          obtain rfl : l = [] := List.eq_nil_of_length_eq_zero hll
          have hel : elts eB o q.length (gOf eB L) = q := (elts_from ho).trans hqo.symm
          have hBq : btsB q = true := (by rw [hqo]; exact bts_drop hB o)
          (conv => whnf)
          (repeat' (first | (refine RH_in (fun kd v r hr => ?_) (fun hr => ?_) <;> (conv => whnf)) | (refine RTr_in (fun t r ht => ?_) (fun ht => ?_) <;> (conv => whnf)) | (first | (refine step_t (by first | rfl | assumption) ?_; (conv => whnf)) | (refine step_f (by first | rfl | assumption) ?_; (conv => whnf)) | (refine step_nt (by assumption) ?_; (conv => whnf)) | (refine step_nf (by assumption) ?_; (conv => whnf)) | (refine step_n (fun hb => ?_) (fun hb => ?_) <;> (first | contradiction | (conv => whnf))) | (refine And.intro (fun hb => ?_) (fun hb => ?_) <;> (first | contradiction | (conv => whnf))) | (refine And.intro ?_ ?_; rotate_left 1; (conv => whnf)))))
          all_goals first
          | rfl
          | trivial
          | (simp only [hz28, hs28, hel, hBq, Nat.zero_add, Int.toNat_natCast, Nat.le_refl, allIs_gOf, Bool.true_and, Bool.and_true, Bool.and_eq_true, decide_eq_true_eq, decide_true]; (first | omega | done); done)
          | (have hlt := of_decide_eq_true (lt_u hj (by assumption))
             first
             | (simp only [hz28, hs28, Int.toNat_natCast, Bool.true_and, Bool.and_true, Bool.and_eq_true, decide_eq_true_eq]; omega)
             | (have ht0 : Tr.parse D (elts eB o q.length (gOf eB L)) = none := (by assumption)
                rw [hel] at ht0
                exact hN (hpn (kids_none _ _ _ _ _ hk ht0 hlt)) _)
             | (rename_i t r' ht0 _ _
                skip)
             | skip)
          | (have hge := of_decide_eq_false (lt_u hj (by assumption))
             have hje : 0 = v.toNat := (by omega)
             refine hS _ _ (hps [] q (by rw [← hje]; exact hk)) _ _ (rd_end (by rfl) rfl hwU (.inl ⟨rfl, ho⟩) (tells_T rfl (by simp) (tell_3 (nil_kids rfl)))))
          | skip
          all_goals first
          | (have ht' : Tr.parse D q = some (t, r) := (by rw [hel] at ht; exact ht)
             have hlt := of_decide_eq_true (lt_u hj (by assumption))
             have hdr := parse_drop (by omega) hBq ht'
             first
             | (have hb' : decide (0 < r.length) = true := (by assumption)
                refine ⟨v.toNat - (0 + 1), [.cells 93 [.sl 1 1 (o + (q.length - r.length)) r.length, .int .i64 (D : Int)], .ro 1 L.length (gOf eB L), .cells 28 [.int .u8 0, .int .i64 0, .val (.slice none 0 0), .val (.slice none 0 0)], .ro 1 0 (fun _ => []), .cells 94 [.fn (.func 38) [.ptr 0 0] []], .cells 22 [.sl 8 4 0 (0 + 1)], .cells 97 [.u64 v], lpOf [(3, 1000, [4])] (bodyOf Try.f72) [.u64 v, .fn (.func 38) [.ptr 0 0] [], .tup [], .ptr 4 0, .val (.slice none 0 0), .ptr 5 0, .u64 v, .fn (.func 114) [] [.ptr 6 0], .tup [], .tup [], .tup [], .tup [], .tup [], .tup [], .tup [], .tup [], .tup []], .own 28 4 (0 + 1) (gK ([] ++ [t]))], [0, 1, 2, 3, 4, 5, 6, 7, 12], by omega, rfl, (mle_cons ble_refl (mle_cons ble_refl (mle_cons ble_refl (mle_cons ble_refl (mle_cons ble_refl (mle_cons ble_refl (mle_cons ble_refl (mle_cons ble_refl (mle_cons (ble_own_e rfl (set_one rfl (Nat.le_refl _) (cel_0 t))) mle_nil))))))))), rfl, rfl, 0 + 1, [] ++ [t], r, by omega, rfl, kids_snoc _ _ _ _ _ _ hk ht', ?_, .inl ⟨o + (q.length - r.length), of_decide_eq_true hb', by omega, drop_more hqo hdr.1, .inr ⟨by omega, rfl⟩⟩⟩
                show [SV.yld 7, .ptr 6 0, .u64 (BitVec.ofNat 64 0 + BitVec.ofInt 64 1)] = _
                rw [u_succ])
             | (have hb' : decide (0 < r.length) = false := (by assumption)
                obtain rfl : r = [] := List.eq_nil_of_length_eq_zero (by have := of_decide_eq_false hb'; omega)
                first
                | (refine ⟨v.toNat - (0 + 1), [.cells 93 [.sl 9 1 0 0, .int .i64 (D : Int)], .ro 1 L.length (gOf eB L), .cells 28 [.int .u8 0, .int .i64 0, .val (.slice none 0 0), .val (.slice none 0 0)], .ro 1 0 (fun _ => []), .cells 94 [.fn (.func 38) [.ptr 0 0] []], .cells 22 [.sl 8 4 0 (0 + 1)], .cells 97 [.u64 v], lpOf [(3, 1000, [4])] (bodyOf Try.f72) [.u64 v, .fn (.func 38) [.ptr 0 0] [], .tup [], .ptr 4 0, .val (.slice none 0 0), .ptr 5 0, .u64 v, .fn (.func 114) [] [.ptr 6 0], .tup [], .tup [], .tup [], .tup [], .tup [], .tup [], .tup [], .tup [], .tup []], .own 28 4 (0 + 1) (gK ([] ++ [t])), .ro 1 0 (fun _ => [])], [0, 1, 2, 3, 4, 5, 6, 7, 12, 10], by omega, rfl, (mle_cons ble_refl (mle_cons ble_refl (mle_cons ble_refl (mle_cons ble_refl (mle_cons ble_refl (mle_cons ble_refl (mle_cons ble_refl (mle_cons ble_refl (mle_cons (ble_own_e rfl (set_one rfl (Nat.le_refl _) (cel_0 t))) (mle_cons ble_refl mle_nil)))))))))), rfl, rfl, 0 + 1, [] ++ [t], [], by omega, rfl, kids_snoc _ _ _ _ _ _ hk ht', ?_, .inr ⟨rfl, by omega, rfl⟩⟩
                   show [SV.yld 7, .ptr 6 0, .u64 (BitVec.ofNat 64 0 + BitVec.ofInt 64 1)] = _
                   rw [u_succ])
                | (refine ⟨v.toNat - (0 + 1), [.cells 93 [.sl 9 1 0 0, .int .i64 (D : Int)], .ro 1 L.length (gOf eB L), .cells 28 [.int .u8 0, .int .i64 0, .val (.slice none 0 0), .val (.slice none 0 0)], .ro 1 0 (fun _ => []), .cells 94 [.fn (.func 38) [.ptr 0 0] []], .cells 22 [.sl 8 4 0 (0 + 1)], .cells 97 [.u64 v], lpOf [(3, 1000, [4])] (bodyOf Try.f72) [.u64 v, .fn (.func 38) [.ptr 0 0] [], .tup [], .ptr 4 0, .val (.slice none 0 0), .ptr 5 0, .u64 v, .fn (.func 114) [] [.ptr 6 0], .tup [], .tup [], .tup [], .tup [], .tup [], .tup [], .tup [], .tup [], .tup []], .own 28 4 (0 + 1) (gK ([] ++ [t])), .ro 1 0 (fun _ => [])], [0, 1, 2, 3, 4, 5, 6, 7, 12, 11], by omega, rfl, (mle_cons ble_refl (mle_cons ble_refl (mle_cons ble_refl (mle_cons ble_refl (mle_cons ble_refl (mle_cons ble_refl (mle_cons ble_refl (mle_cons ble_refl (mle_cons (ble_own_e rfl (set_one rfl (Nat.le_refl _) (cel_0 t))) (mle_cons ble_refl mle_nil)))))))))), rfl, rfl, 0 + 1, [] ++ [t], [], by omega, rfl, kids_snoc _ _ _ _ _ _ hk ht', ?_, .inr ⟨rfl, by omega, rfl⟩⟩
                   show [SV.yld 7, .ptr 6 0, .u64 (BitVec.ofNat 64 0 + BitVec.ofInt 64 1)] = _
                   rw [u_succ])))
          | skip
          
        · have hll := kids_len _ _ _ _ hk
          have huse := kids_use (by omega) _ _ _ _ (by rw [hd.1]; exact bts_drop hB _) hk
          have hdl := hd.2
          have hel : elts eB o q.length (gOf eB L) = q := (elts_from ho).trans hqo.symm
          have hBq : btsB q = true := (by rw [hqo]; exact bts_drop hB o)
          (conv => whnf)
          (repeat' (first | (refine RH_in (fun kd v r hr => ?_) (fun hr => ?_) <;> (conv => whnf)) | (refine RTr_in (fun t r ht => ?_) (fun ht => ?_) <;> (conv => whnf)) | (first | (refine step_t (by first | rfl | assumption) ?_; (conv => whnf)) | (refine step_f (by first | rfl | assumption) ?_; (conv => whnf)) | (refine step_nt (by assumption) ?_; (conv => whnf)) | (refine step_nf (by assumption) ?_; (conv => whnf)) | (refine step_n (fun hb => ?_) (fun hb => ?_) <;> (first | contradiction | (conv => whnf))) | (refine And.intro (fun hb => ?_) (fun hb => ?_) <;> (first | contradiction | (conv => whnf))) | (refine And.intro ?_ ?_; rotate_left 1; (conv => whnf)))))
          all_goals first
          | rfl
          | trivial
          | (simp only [hz28, hs28, hel, hBq, Nat.zero_add, Int.toNat_natCast, Nat.le_refl, allIs_gOf, Bool.true_and, Bool.and_true, Bool.and_eq_true, decide_eq_true_eq, decide_true]; (first | omega | done); done)
          | (have hlt := of_decide_eq_true (lt_u hj (by assumption))
             first
             | (simp only [hz28, hs28, Int.toNat_natCast, Bool.true_and, Bool.and_true, Bool.and_eq_true, decide_eq_true_eq]; omega)
             | (have ht0 : Tr.parse D (elts eB o q.length (gOf eB L)) = none := (by assumption)
                rw [hel] at ht0
                exact hN (hpn (kids_none _ _ _ _ _ hk ht0 hlt)) _)
             | (rename_i t r' ht0 _ _
                skip)
             | skip)
          | (have hge := of_decide_eq_false (lt_u hj (by assumption))
             have hje : j = v.toNat := (by omega)
             refine hS _ _ (hps l q (by rw [← hje]; exact hk)) _ _ (rd_end (by rfl) rfl hwU (.inl ⟨rfl, ho⟩) (tells_T rfl (by simp) (tell_3 (row_kids hll.symm)))))
          | skip
          all_goals first
          | (have ht' : Tr.parse D q = some (t, r) := (by rw [hel] at ht; exact ht)
             have hlt := of_decide_eq_true (lt_u hj (by assumption))
             have hdr := parse_drop (by omega) hBq ht'
             first
             | (have hb' : decide (0 < r.length) = true := (by assumption)
                refine ⟨v.toNat - (j + 1), [.cells 93 [.sl 1 1 (o + (q.length - r.length)) r.length, .int .i64 (D : Int)], .ro 1 L.length (gOf eB L), .cells 28 [.int .u8 0, .int .i64 0, .val (.slice none 0 0), .val (.slice none 0 0)], .ro 1 0 (fun _ => []), .cells 94 [.fn (.func 38) [.ptr 0 0] []], .cells 22 [.sl 8 4 0 (j + 1)], .cells 97 [.u64 v], lpOf [(3, 1000, [4])] (bodyOf Try.f72) [.u64 v, .fn (.func 38) [.ptr 0 0] [], .tup [], .ptr 4 0, .val (.slice none 0 0), .ptr 5 0, .u64 v, .fn (.func 114) [] [.ptr 6 0], .tup [], .tup [], .tup [], .tup [], .tup [], .tup [], .tup [], .tup [], .tup []], .own 28 4 (j + 1) (gK (l ++ [t]))], [0, 1, 2, 3, 4, 5, 6, 7, 13], by omega, rfl, (mle_cons ble_refl (mle_cons ble_refl (mle_cons ble_refl (mle_cons ble_refl (mle_cons ble_refl (mle_cons ble_refl (mle_cons ble_refl (mle_cons ble_refl (mle_cons (ble_own_e rfl (set_snoc hll.symm (by omega) (fun i _ => rfl) (Nat.le_refl _) (cel_0 t))) mle_nil))))))))), rfl, rfl, j + 1, l ++ [t], r, by omega, rfl, kids_snoc _ _ _ _ _ _ hk ht', ?_, .inl ⟨o + (q.length - r.length), of_decide_eq_true hb', by omega, drop_more hqo hdr.1, .inr ⟨by omega, rfl⟩⟩⟩
                show [SV.yld 7, .ptr 6 0, .u64 (BitVec.ofNat 64 j + BitVec.ofInt 64 1)] = _
                rw [u_succ])
             | (have hb' : decide (0 < r.length) = false := (by assumption)
                obtain rfl : r = [] := List.eq_nil_of_length_eq_zero (by have := of_decide_eq_false hb'; omega)
                first
                | (refine ⟨v.toNat - (j + 1), [.cells 93 [.sl 9 1 0 0, .int .i64 (D : Int)], .ro 1 L.length (gOf eB L), .cells 28 [.int .u8 0, .int .i64 0, .val (.slice none 0 0), .val (.slice none 0 0)], .ro 1 0 (fun _ => []), .cells 94 [.fn (.func 38) [.ptr 0 0] []], .cells 22 [.sl 8 4 0 (j + 1)], .cells 97 [.u64 v], lpOf [(3, 1000, [4])] (bodyOf Try.f72) [.u64 v, .fn (.func 38) [.ptr 0 0] [], .tup [], .ptr 4 0, .val (.slice none 0 0), .ptr 5 0, .u64 v, .fn (.func 114) [] [.ptr 6 0], .tup [], .tup [], .tup [], .tup [], .tup [], .tup [], .tup [], .tup [], .tup []], .own 28 4 (j + 1) (gK (l ++ [t])), .ro 1 0 (fun _ => [])], [0, 1, 2, 3, 4, 5, 6, 7, 13, 11], by omega, rfl, (mle_cons ble_refl (mle_cons ble_refl (mle_cons ble_refl (mle_cons ble_refl (mle_cons ble_refl (mle_cons ble_refl (mle_cons ble_refl (mle_cons ble_refl (mle_cons (ble_own_e rfl (set_snoc hll.symm (by omega) (fun i _ => rfl) (Nat.le_refl _) (cel_0 t))) (mle_cons ble_refl mle_nil)))))))))), rfl, rfl, j + 1, l ++ [t], [], by omega, rfl, kids_snoc _ _ _ _ _ _ hk ht', ?_, .inr ⟨rfl, by omega, rfl⟩⟩
                   show [SV.yld 7, .ptr 6 0, .u64 (BitVec.ofNat 64 j + BitVec.ofInt 64 1)] = _
                   rw [u_succ])
                | (refine ⟨v.toNat - (j + 1), [.cells 93 [.sl 9 1 0 0, .int .i64 (D : Int)], .ro 1 L.length (gOf eB L), .cells 28 [.int .u8 0, .int .i64 0, .val (.slice none 0 0), .val (.slice none 0 0)], .ro 1 0 (fun _ => []), .cells 94 [.fn (.func 38) [.ptr 0 0] []], .cells 22 [.sl 8 4 0 (j + 1)], .cells 97 [.u64 v], lpOf [(3, 1000, [4])] (bodyOf Try.f72) [.u64 v, .fn (.func 38) [.ptr 0 0] [], .tup [], .ptr 4 0, .val (.slice none 0 0), .ptr 5 0, .u64 v, .fn (.func 114) [] [.ptr 6 0], .tup [], .tup [], .tup [], .tup [], .tup [], .tup [], .tup [], .tup [], .tup []], .own 28 4 (j + 1) (gK (l ++ [t])), .ro 1 0 (fun _ => [])], [0, 1, 2, 3, 4, 5, 6, 7, 13, 12], by omega, rfl, (mle_cons ble_refl (mle_cons ble_refl (mle_cons ble_refl (mle_cons ble_refl (mle_cons ble_refl (mle_cons ble_refl (mle_cons ble_refl (mle_cons ble_refl (mle_cons (ble_own_e rfl (set_snoc hll.symm (by omega) (fun i _ => rfl) (Nat.le_refl _) (cel_0 t))) (mle_cons ble_refl mle_nil)))))))))), rfl, rfl, j + 1, l ++ [t], [], by omega, rfl, kids_snoc _ _ _ _ _ _ hk ht', ?_, .inr ⟨rfl, by omega, rfl⟩⟩
                   show [SV.yld 7, .ptr 6 0, .u64 (BitVec.ofNat 64 j + BitVec.ofInt 64 1)] = _
                   rw [u_succ])))
          | skip
          
        · have hll := kids_len _ _ _ _ hk
          have huse := kids_use (by omega) _ _ _ _ (by rw [hd.1]; exact bts_drop hB _) hk
          have hdl := hd.2
          (conv => whnf)
          (repeat' (first | (refine RTr_no (by assumption) ?_; (conv => whnf)) | (first | (refine step_t (by first | rfl | assumption) ?_; (conv => whnf)) | (refine step_f (by first | rfl | assumption) ?_; (conv => whnf)) | (refine step_nt (by assumption) ?_; (conv => whnf)) | (refine step_nf (by assumption) ?_; (conv => whnf)) | (refine step_n (fun hb => ?_) (fun hb => ?_) <;> (first | contradiction | (conv => whnf))) | (refine And.intro (fun hb => ?_) (fun hb => ?_) <;> (first | contradiction | (conv => whnf))) | (refine And.intro ?_ ?_; rotate_left 1; (conv => whnf)))))
          all_goals first
          | rfl
          | trivial
          | exact decide_eq_true rfl
          | (have hlt := of_decide_eq_true (lt_u hj (by assumption))
             first
             | exact hN (hpn (kids_none _ _ _ _ _ hk (parse_nil D) hlt)) _
             | (simp only [hz28, hs28, Bool.and_eq_true, decide_eq_true_eq]; omega))
          | (have hge := of_decide_eq_false (lt_u hj (by assumption))
             have hje : j = v.toNat := (by omega)
             refine hS _ _ (hps l [] (by rw [← hje]; exact hk)) _ _ (rd_end (by rfl) rfl hwU (.inr rfl) (tells_T rfl (by simp) (tell_3 (row_kids hll.symm)))))
          | skip
          ))
  | skip
  all_goals try (simp only [w0, w1] at *)
  all_goals first
  | rfl
  | (refine hN (parse_5 (by assumption)) _)
  | (simp only [Bool.true_and, Bool.and_eq_true, decide_eq_true_eq]; (first | omega | exact ⟨hB, hl⟩); done)
  | (have h1 : (kd == 1) = true := (by assumption)
     have hd := headP_drop hr
     refine hS _ _ (parse_1 hr h1) _ _ ?_
     rw [sv_xor]
     (first | (have q3 : decide (0 < r.length) = true := (by assumption); have q3 := of_decide_eq_true q3) | (have q3 : decide (0 < r.length) = false := (by assumption); have q3 := of_decide_eq_false q3) | skip)
     first
     | exact rd_end (by rfl) rfl rfl (.inl ⟨rfl, by omega⟩) (tells_T rfl rfl (fvl_cons (FVEq.refl _) (fvl_cons (FVEq.refl _) (fvl_cons FVEq.nil (fvl_cons FVEq.nil (FVEqL.refl _))))))
     | exact rd_end (by rfl) (by omega) rfl (.inr rfl) (tells_T rfl rfl (fvl_cons (FVEq.refl _) (fvl_cons (FVEq.refl _) (fvl_cons FVEq.nil (fvl_cons FVEq.nil (FVEqL.refl _)))))))
  | (refine hN (parse_4 hr (by assumption) (by assumption) (by assumption)) _)
  | (exfalso
     have h0 : decide (0 < ((D + 1 : Nat) : Int)) = false := (by assumption)
     have := of_decide_eq_false h0
     omega)
  | (have h2 : (kd == 2) = true := (by assumption)
     have hd := headP_drop hr
     have u1 := le_u64 v (n := r.length) (by omega)
     have u0 := le_u64 v (n := 0) (by omega)
     (first | (have q3 : decide (0 < r.length) = true := (by assumption); have q3 := of_decide_eq_true q3) | (have q3 : decide (0 < r.length) = false := (by assumption); have q3 := of_decide_eq_false q3) | skip)
     (first | (have q1 : decide (v.toNat < r.length) = true := (by assumption); have q1 := of_decide_eq_true q1) | (have q1 : decide (v.toNat < r.length) = false := (by assumption); have q1 := of_decide_eq_false q1) | skip)
     (first | (have q2 : decide (0 < v.toNat - 0) = true := (by assumption); have q2 := of_decide_eq_true q2) | (have q2 : decide (0 < v.toNat - 0) = false := (by assumption); have q2 := of_decide_eq_false q2) | skip)
     first
     | (have hv : decide (v ≤ BitVec.ofInt 64 ((r.length : Nat) : Int)) = false := (by assumption)
        have hv := of_decide_eq_false (u1.symm.trans hv)
        refine hN ?_ _
        rw [parse_2 hr h2, if_neg hv])
     | (have hv : decide (v ≤ BitVec.ofInt 64 ((0 : Nat) : Int)) = false := (by assumption)
        have hv := of_decide_eq_false (u0.symm.trans hv)
        refine hN ?_ _
        rw [parse_2 hr h2, if_neg (by omega)])
     | (have hv : v.toNat ≤ r.length := (by
          first
          | (have hv : decide (v ≤ BitVec.ofInt 64 ((r.length : Nat) : Int)) = true := (by assumption)
             exact of_decide_eq_true (u1.symm.trans hv))
          | (have hv : decide (v ≤ BitVec.ofInt 64 ((0 : Nat) : Int)) = true := (by assumption)
             have hv := of_decide_eq_true (u0.symm.trans hv)
             omega))
        first
        | (simp only [by1, Bool.true_and, Bool.and_eq_true, decide_eq_true_eq]; omega)
        | (have v0 : v.toNat ≤ 0 := (by
             have hv : decide (v ≤ BitVec.ofInt 64 ((0 : Nat) : Int)) = true := (by assumption)
             exact of_decide_eq_true (u0.symm.trans hv))
           simp only [by1, Bool.true_and, Bool.and_eq_true, decide_eq_true_eq]; omega)
        | (refine hS (.mk 2 0 (r.take v.toNat) []) (r.drop v.toNat) (by rw [parse_2 hr h2, if_pos hv]) _ _ (rd_end (by rfl) ?_ rfl ?_ (tells_T rfl ?_ (tell_2 ?_)))
           · first | (rw [List.length_drop]; done) | (rw [List.length_drop]; omega)
           · first | exact .inr rfl | (refine Or.inl (And.intro rfl ?_); omega)
           · first | rfl | (simp; done)
           · first
             | exact nil_bytes (List.eq_nil_of_length_eq_zero (by rw [List.length_take]; omega))
             | exact row_app rfl (by rw [List.length_take]; omega) (fun i hi => bytes_at hd.1 (by omega))
             | exact row_bytes rfl (by rw [List.length_take]; omega) (fun i hi => by omega))))
  | skip

end Go.Proofs.Ytmdkihggeodjfaa
