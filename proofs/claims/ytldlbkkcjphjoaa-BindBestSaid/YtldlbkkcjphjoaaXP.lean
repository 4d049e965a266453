import Derived.Test.YtldlbkkcjphjoaaXN
import Derived.Test.YtldlbkkcjphjoaaXD
namespace Go.Proofs.Ytldlbkkcjphjoaa
open Go.RowKit Go.Sx
set_option linter.unusedSimpArgs false
set_option linter.unusedVariables false
set_option linter.unnecessarySimpa false
set_option maxRecDepth 100000
set_option maxHeartbeats 4000000
theorem rec_all : RecOk Try.prog 17 Try.f17 [] (dropC 1 (bodyOf Try.f17)) 4 (some 2) :=
  ⟨⟨rfl, by kernel_rfl, by kernel_rfl, fun _ _ => by kernel_rfl⟩, rfl, ⟨_, _, _, _, rfl, rfl, rfl, rfl, rfl, rfl, rfl⟩⟩
theorem def_all : DefOk Try.prog 9 Try.f9 [] 2 17 [.tmp 5, .tmp 4] 16 (dropC 3 (bodyOf Try.f9)) :=
  ⟨rfl, by kernel_rfl, by kernel_rfl, by kernel_rfl, by kernel_rfl, ⟨_, _, _, _, _, rfl, rfl, rfl, rfl, rfl, rfl, rfl, rfl⟩⟩
noncomputable def getF (L : List Hp) (n : Nd) : Hp := (findH n L).getD Hp.no
noncomputable def met (L : List Hp) (n : Nd) : Bool := (findH n L).isSome
def asAll (X : List Hp) (e : Int) : List AV := [.one (.row 9 X.length (cH.g X)), .one (.int .i64 e)]
theorem map_next {α β : Type} {f : α → β} {L : List α} {j : Nat} (h : j < L.length) {d : α} : (L.take (j + 1)).map f = (L.take j).map f ++ [f (L.getD j d)] := by
  rw [List.take_succ_eq_append_getElem h, List.map_append]
  simp [List.getD_eq_getElem?_getD, h]
theorem cells_H (a : Hp) : FVEqL (List.take 9 (List.drop ((0 + 0) * 9) [.int .i64 a.id, .int .i64 a.mj, .int .i64 a.mn, .int .u8 a.core, .row 4 a.args.length (fun i => cA.g a.args (0 + i)), .int .u8 a.rk, .int .i64 a.rlo, .int .i64 a.rhi, .int .i64 a.rsz])) (cH.cel a) := by
  simp only [Nat.zero_add]
  exact FVEqL.refl _
theorem nd_eta (t : Nd) : (⟨t.a, t.b, t.c⟩ : Nd) = t := rfl
theorem getF_eq (L : List Hp) (n : Nd) : (findH n L).getD Hp.no = getF L n := rfl
theorem met_eq (L : List Hp) (n : Nd) : (findH n L).isSome = met L n := rfl
theorem all_next {α : Type} {p : α → Bool} {L : List α} {j : Nat} (h : j < L.length) {d : α} : (L.take (j + 1)).all p = ((L.take j).all p && p (L.getD j d)) := by
  rw [List.take_succ_eq_append_getElem h, List.all_append]
  simp [List.getD_eq_getElem?_getD, h]
theorem tells_nil (e : Int) (M1 : List Blk) : TellsC true (asAll [] e) (.tup [.val (.slice none 0 0), .int .i64 e]) M1 := by
  unfold TellsC
  exact ⟨[_, _], _, _, rfl, .inl (by trivial), rfl, rfl, ⟨.nil, FVEq.refl _, trivial⟩⟩
theorem tells_list {X : List Hp} {e : Int} {M1 : List Blk} {k n ty : Nat} {g : Nat → List FV} (hk : nth M1 k = some (.own ty 9 n g)) (hn : n = X.length) (hg : ∀ i, i < n → FVEqL (g i) (cH.g X i)) : TellsC true (asAll X e) (.tup [.sl k 9 0 n, .int .i64 e]) M1 := by
  unfold TellsC
  refine ⟨[.sl k 9 0 n, .int .i64 e], decide (0 + n ≤ n) && (true && true), [.one (.row 9 n g), .one (.int .i64 e)], rfl, .inl (by trivial), ?_, ?_, ⟨Cel.row_of hn hg, FVEq.refl _, trivial⟩⟩
  · simp only [topA, topS, hk, eltZ, fvS]; rfl
  · simp
theorem all_run (nm : ByteArray) (cx lo hi : Int) (l : List Fd) (ns : List Nd) (L : List Hp) (hs : nm.size ≤ 1099511627776) (hl : l.length ≤ 1099511627776) (hn : ns.length ≤ 1099511627776) (hL : L.length ≤ 1099511627776) (hW : L.all (Hp.atMost 1099511627776) = true) (Φ : SV → List Blk → Prop)
    (hE : ∀ (e : Int) (x : SV) (M1 : List Blk), e ≠ 0 → TellsC true (asAll [] e) x M1 → Φ x M1) (hK : ∀ (x : SV) (M1 : List Blk), ns.all (met L) = true → TellsC true (asAll (ns.map (getF L)) 0) x M1 → Φ x M1) :
    run Try.prog ⟨[(7, k_find)], eqs, [], [], [], mixs, meqs, [(16, k_type)]⟩ 10000 [] 0 (takeC 2 (bodyOf Try.f9)) (initF Try.f9 [.sl 0 9 0 L.length, .agg [.val (.string nm), .int .i64 cx, .sl 1 4 0 l.length, .sl 2 3 0 ns.length, .int .i64 lo, .int .i64 hi]]) [.ro 9 L.length (cH.g L), .ro 4 l.length (gOf eF l), .ro 3 ns.length (gOf eN ns)]
      (guardK Try.prog ⟨[(7, k_find)], eqs, [], [], [], mixs, meqs, [(16, k_type)]⟩ 9000 8000 [] (dropC 3 (bodyOf Try.f9)) 16 [.tmp 5, .tmp 4] Try.f17 [] (dropC 1 (bodyOf Try.f17)) 4 (some 2) Try.f9 Φ) := by
  have hby : Try.prog.types[29].bytes = 88 := by kernel_rfl
  have hsz : Try.prog.types[29].size = 9 := by kernel_rfl
  (conv => whnf)
  (repeat' (first | (refine step_t (by first | rfl | assumption) ?_; (conv => whnf)) | (refine step_f (by first | rfl | assumption) ?_; (conv => whnf)) | (refine step_nt (by assumption) ?_; (conv => whnf)) | (refine step_nf (by assumption) ?_; (conv => whnf)) | (refine step_n (fun hb => ?_) (fun hb => ?_) <;> (first | contradiction | (conv => whnf))) | (refine And.intro (fun hb => ?_) (fun hb => ?_) <;> (first | contradiction | (conv => whnf))) | (refine And.intro ?_ ?_; rotate_left 1; (conv => whnf))))
  all_goals try exact hE _ _ _ (by decide) (tells_nil _ _)
  all_goals first
  | (simp only [sh0, allIs_gOf, elts_all, Bool.true_and, Bool.and_true, Bool.and_eq_true, decide_eq_true_eq]; first | (refine ⟨by omega, by omega⟩; done) | exact ⟨hs, hl, hn⟩)
  | skip
  refine .inr ⟨[], [0, 3, 4, 5, 18, 19, 20], fun k vals M => ∃ j : Nat, j ≤ ns.length ∧ k = ns.length - j ∧ (ns.take j).all (met L) = true ∧ vals = [.sl 0 9 0 L.length, .ptr 3 0, .ptr 4 0, .ptr 5 0, .sl 2 3 0 ns.length, .int .i64 (ns.length : Int), .int .i64 (j : Int)] ∧ ((j = 0 ∧ M = [.ro 9 L.length (cH.g L), .ro 4 l.length (gOf eF l), .ro 3 ns.length (gOf eN ns), .cells 35 [.val (.string nm), .int .i64 cx, .sl 1 4 0 l.length, .sl 2 3 0 ns.length, .int .i64 lo, .int .i64 hi], .cells 22 [.val (.slice none 0 0)], .cells 43 [.int .i64 0]]) ∨ (0 < j ∧ M = [.ro 9 L.length (cH.g L), .ro 4 l.length (gOf eF l), .ro 3 ns.length (gOf eN ns), .cells 35 [.val (.string nm), .int .i64 cx, .sl 1 4 0 l.length, .sl 2 3 0 ns.length, .int .i64 lo, .int .i64 hi], .cells 22 [.sl 6 9 0 j], .cells 43 [.int .i64 0], .own 29 9 j (cH.g ((ns.take j).map (getF L)))])), ?_⟩
  conv => whnf
  refine And.intro ⟨ns.length, [.ro 9 L.length (cH.g L), .ro 4 l.length (gOf eF l), .ro 3 ns.length (gOf eN ns), .cells 35 [.val (.string nm), .int .i64 cx, .sl 1 4 0 l.length, .sl 2 3 0 ns.length, .int .i64 lo, .int .i64 hi], .cells 22 [.val (.slice none 0 0)], .cells 43 [.int .i64 0]], (mle_cons ble_refl (mle_cons ble_refl (mle_cons ble_refl (mle_cons ble_refl (mle_cons ble_refl (mle_cons ble_refl mle_nil)))))), rfl, rfl, 0, by omega, by omega, rfl, rfl, .inl ⟨rfl, rfl⟩⟩ ?_
  rintro k vals M1 ⟨j, hj, rfl, hm, rfl, (⟨hj0, rfl⟩ | ⟨hj0, rfl⟩)⟩
  · have hz : 0 + ((j : Int)).toNat = j := by omega
    (conv => whnf)
    (repeat' (first | (refine step_t (by first | rfl | assumption) ?_; (conv => whnf)) | (refine step_f (by first | rfl | assumption) ?_; (conv => whnf)) | (refine step_nt (by assumption) ?_; (conv => whnf)) | (refine step_nf (by assumption) ?_; (conv => whnf)) | (refine step_n (fun hb => ?_) (fun hb => ?_) <;> (first | contradiction | (conv => whnf))) | (refine And.intro (fun hb => ?_) (fun hb => ?_) <;> (first | contradiction | (conv => whnf))) | (refine And.intro ?_ ?_; rotate_left 1; (conv => whnf))))
    all_goals try exact hE _ _ _ (by decide) (tells_nil _ _)
    all_goals try (simp only [hz, sh0, isH_row, decH_row, nd_eta, getF_eq, met_eq] at *)
    all_goals (subst hj0)
    all_goals first
    | rfl
    | (have hlt : 0 < ns.length := (by
         have h9 : decide (((0 : Nat) : Int) < (ns.length : Int)) = true := (by assumption)
         have := of_decide_eq_true h9
         omega)
       first
       | exact decide_eq_true hlt
       | exact decide_eq_true (by omega)
       | (rw [Bool.and_eq_true]; exact ⟨decide_eq_true (by omega), decide_eq_true (by omega)⟩)
       | (rw [Bool.and_eq_true]; exact ⟨decide_eq_true hL, hW⟩)
       | (refine decide_eq_true ?_; rw [hby]; omega)
       | (refine decide_eq_true ?_; rw [hsz]; simp; done)
       | (simp; done)
       | (refine ⟨ns.length - (0 + 1), [.ro 9 L.length (cH.g L), .ro 4 l.length (gOf eF l), .ro 3 ns.length (gOf eN ns), .cells 35 [.val (.string nm), .int .i64 cx, .sl 1 4 0 l.length, .sl 2 3 0 ns.length, .int .i64 lo, .int .i64 hi], .cells 22 [.sl 6 9 0 (0 + 1)], .cells 43 [.int .i64 0], .own 29 9 (0 + 1) (cH.g ((ns.take (0 + 1)).map (getF L)))], [0, 1, 2, 3, 4, 5, 10], by omega, rfl, (mle_cons ble_refl (mle_cons ble_refl (mle_cons ble_refl (mle_cons ble_refl (mle_cons ble_refl (mle_cons ble_refl (mle_cons (ble_own_e ?_ ?_) mle_nil))))))), rfl, rfl, 0 + 1, by omega, rfl, ?_, ?_, .inr ⟨by omega, rfl⟩⟩
          · omega
          · intro i hi
            rw [map_next hlt (d := eN.dft)]
            simp only [hsz]
            obtain rfl : i = 0 := by omega
            exact cells_H _
          · rw [all_next hlt, hm]; assumption
          · (show [SV.sl 0 9 0 L.length, .ptr 3 0, .ptr 4 0, .ptr 5 0, .sl 2 3 0 ns.length, .int .i64 (ns.length : Int), .int .i64 (IntKind.i64.wrap (((0 : Nat) : Int) + 1))] = _; rw [i64_of (n := ((0 : Nat) : Int) + 1) (by omega) (by omega)]; rfl)))
    | (have h9 : decide (((0 : Nat) : Int) < (ns.length : Int)) = false := (by assumption)
       have hje : 0 = ns.length := (by
         have := of_decide_eq_false h9
         omega)
       rw [hje, List.take_length] at hm
       have he : ns = [] := List.eq_nil_of_length_eq_zero hje.symm
       refine hK _ _ hm ?_
       rw [he]
       exact tells_nil 0 _)
    | skip
  · have hz : 0 + ((j : Int)).toNat = j := by omega
    (conv => whnf)
    (repeat' (first | (refine step_t (by first | rfl | assumption) ?_; (conv => whnf)) | (refine step_f (by first | rfl | assumption) ?_; (conv => whnf)) | (refine step_nt (by assumption) ?_; (conv => whnf)) | (refine step_nf (by assumption) ?_; (conv => whnf)) | (refine step_n (fun hb => ?_) (fun hb => ?_) <;> (first | contradiction | (conv => whnf))) | (refine And.intro (fun hb => ?_) (fun hb => ?_) <;> (first | contradiction | (conv => whnf))) | (refine And.intro ?_ ?_; rotate_left 1; (conv => whnf))))
    all_goals try exact hE _ _ _ (by decide) (tells_nil _ _)
    all_goals try (simp only [hz, sh0, isH_row, decH_row, nd_eta, getF_eq, met_eq] at *)
    all_goals first
    | rfl
    | (have hlt : j < ns.length := (by
         have h9 : decide ((j : Int) < (ns.length : Int)) = true := (by assumption)
         have := of_decide_eq_true h9
         omega)
       first
       | exact decide_eq_true hlt
       | exact decide_eq_true (by omega)
       | (rw [Bool.and_eq_true]; exact ⟨decide_eq_true (by omega), decide_eq_true (by omega)⟩)
       | (rw [Bool.and_eq_true]; exact ⟨decide_eq_true hL, hW⟩)
       | (refine decide_eq_true ?_; rw [hby]; omega)
       | (refine decide_eq_true ?_; rw [hsz]; simp; done)
       | (simp; done)
       | (refine ⟨ns.length - (j + 1), [.ro 9 L.length (cH.g L), .ro 4 l.length (gOf eF l), .ro 3 ns.length (gOf eN ns), .cells 35 [.val (.string nm), .int .i64 cx, .sl 1 4 0 l.length, .sl 2 3 0 ns.length, .int .i64 lo, .int .i64 hi], .cells 22 [.sl 6 9 0 (j + 1)], .cells 43 [.int .i64 0], .own 29 9 (j + 1) (cH.g ((ns.take (j + 1)).map (getF L)))], [0, 1, 2, 3, 4, 5, 11], by omega, rfl, (mle_cons ble_refl (mle_cons ble_refl (mle_cons ble_refl (mle_cons ble_refl (mle_cons ble_refl (mle_cons ble_refl (mle_cons (ble_own_e ?_ ?_) mle_nil))))))), rfl, rfl, j + 1, by omega, rfl, ?_, ?_, .inr ⟨by omega, rfl⟩⟩
          · omega
          · intro i hi
            rw [map_next hlt (d := eN.dft)]
            simp only [hsz]
            exact Cel.row_snoc (sz := 9) (c := cH) (by rw [List.length_map, List.length_take]; omega) (fun i hi => FVEqL.refl _) (cells_H _) i hi
          · rw [all_next hlt, hm]; assumption
          · (show [SV.sl 0 9 0 L.length, .ptr 3 0, .ptr 4 0, .ptr 5 0, .sl 2 3 0 ns.length, .int .i64 (ns.length : Int), .int .i64 (IntKind.i64.wrap ((j : Int) + 1))] = _; rw [i64_of (n := (j : Int) + 1) (by omega) (by omega)]; rfl)))
    | (have h9 : decide ((j : Int) < (ns.length : Int)) = false := (by assumption)
       have hje : j = ns.length := (by
         have := of_decide_eq_false h9
         omega)
       rw [hje, List.take_length] at hm
       refine hK _ _ hm (tells_list rfl (by rw [List.length_map]; omega) fun i hi => ?_)
       rw [hje, List.take_length]
       exact FVEqL.refl _)
    | skip

/-- bind.All: an error, and nothing; or what is bound to each need. -/
noncomputable def k_all : YC := fun args M K => match topA eltB M args with
  | some (b, [.one x, .agg [.val (.string nm), .int .i64 cx, y, z, .int .i64 lo, .int .i64 hi]]) => match rowA eF 4 y, rowA eN 3 z with
    | some (c, l), some (d, ns) => b = true ∧ (cH.isR 9 x && (c && d)) = true ∧ (decide (nm.size ≤ 1099511627776) && (decide (l.length ≤ 1099511627776) && decide (ns.length ≤ 1099511627776))) = true ∧ (decide ((cH.decR 9 x).length ≤ 1099511627776) && (cH.decR 9 x).all (Hp.atMost 1099511627776)) = true ∧
      (∀ e : Int, (e != 0) = true → K none (outA true (namA true M.length (asAll [] e)).1) (M ++ (namA true M.length (asAll [] e)).2)) ∧ (ns.all (met (cH.decR 9 x)) = true → K none (outA true (namA true M.length (asAll (ns.map (getF (cH.decR 9 x))) 0)).1) (M ++ (namA true M.length (asAll (ns.map (getF (cH.decR 9 x))) 0)).2))
    | _, _ => False
  | _ => False
theorem k_all_ok : YCtrOk Try.prog Gw 9 k_all := by
  refine ⟨fun _ _ => by kernel_rfl, fun args M K h hsc hwf => ?_⟩
  unfold k_all at h
  split at h
  · rename_i b x nm cx y z lo hi hv
    split at h
    · rename_i c l d ns h1 h2
      obtain ⟨hb, hi1, hs, hL, hE, hK⟩ := h
      simp only [Bool.and_eq_true, decide_eq_true_eq] at hi1 hs hL
      have he : AVEqL [.one x, .agg [.val (.string nm), .int .i64 cx, y, z, .int .i64 lo, .int .i64 hi]] [.one (.row 9 (cH.decR 9 x).length (cH.g (cH.decR 9 x))), .agg [.val (.string nm), .int .i64 cx, .row 4 l.length (gOf eF l), .row 3 ns.length (gOf eN ns), .int .i64 lo, .int .i64 hi]] :=
        ⟨Cel.isR_dec hi1.1, fvl_cons (FVEq.refl _) (fvl_cons (FVEq.refl _) (fvl_cons (rowA_eq h1 hi1.2.1) (fvl_cons (rowA_eq h2 hi1.2.2) (FVEqL.refl _)))), trivial⟩
      exact yctr_guardc (Γ := ⟨[(7, k_find)], eqs, [], [], [], mixs, meqs, [(16, k_type)]⟩) mixed st_Gw ⟨(okCons k_find_ok okNil), eqs_ok, okNilB, okNilI, okNilP, mixs_ok, meqs_ok, (okConsY k_type_ok okNilY)⟩ def_all rec_all _ hv hb he rfl (all_run nm cx lo hi l ns _ hs.1 hs.2.1 hs.2.2 hL.1 hL.2 _ (fun e x1 M1 hne ht => ⟨true, _, ht, hE e (by simpa using hne)⟩) (fun x1 M1 hm ht => ⟨true, _, ht, hK hm⟩)) hwf
    · exact h.elim
  · exact h.elim
end Go.Proofs.Ytldlbkkcjphjoaa
