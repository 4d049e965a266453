import Derived.Test.YtbiebicooaepfaaDoorTnumC
import Derived.Maps.AppendAt
namespace Go.Proofs.YtbiebicooaepfaaDoor
open Go.RowKit
set_option linter.unusedSimpArgs false
set_option linter.unusedVariables false

theorem owns_grow {w : World} {base : Nat} {e : TypeId} {size : Nat} {v : Value} {n : Nat} {xs : List Value} (h : w.ownsRow base e size v n xs) (g : Ext w) : (grow w g).ownsRow base e size v n xs := by
  refine ⟨h.1, ?_⟩
  rcases h.2 with h2 | ⟨b, cap, cur, hv, hb, hh, r⟩
  · exact Or.inl h2
  · exact Or.inr ⟨b, cap, cur, hv, hb, by rw [(grow_below w g).block b (Array.getElem?_eq_some_iff.1 hh).1]; exact hh, r⟩
theorem new_cells (W : World) (c : List Value) (t : TypeId) : ∀ j u, c[j]? = some u → (W.alloc (.cells c.toArray t)).cell? ((⟨W.heap.size, 0, none⟩ : Addr).add j) = some u := by
  intro j u h
  have e : ((⟨W.heap.size, 0, none⟩ : Addr).add j) = ⟨W.heap.size, j, none⟩ := by
    unfold Addr.add; split
    · rename_i h0; rw [h0]
    · simp
  rw [e, cell_alloc, cell_new, if_pos rfl]
  simpa using h
theorem after_append {w W W' w1 : World} {e : TypeId} {sz : Nat} {v : Value} {n : Nat} {xs : List Value} {c0 c1 : Value} (hb : Below w.heap.size w W) (hown : W'.ownsRow (w.heap.size + 1) e sz v n xs) (hg : W.grownBy w1 v.ownBlock)
    (h0 : W.cell? ⟨w.heap.size, 0, none⟩ = some c0) (h1 : W.cell? ⟨w.heap.size, 1, none⟩ = some c1) (f0 : W.frozen? ⟨w.heap.size, 0, none⟩ = false) (f1 : W.frozen? ⟨w.heap.size, 1, none⟩ = false) :
    Below w.heap.size w w1 ∧ w1.cell? ⟨w.heap.size, 0, none⟩ = some c0 ∧ w1.cell? ⟨w.heap.size, 1, none⟩ = some c1 ∧ w1.frozen? ⟨w.heap.size, 0, none⟩ = false ∧ w1.frozen? ⟨w.heap.size, 1, none⟩ = false := by
  have hne : some w.heap.size ≠ v.ownBlock := fun e => by have := (hown.lt _ e.symm).1; omega
  have hlt : w.heap.size < W.heap.size := World.block_lt_of_cell? W _ h0
  have hk := hg.block w.heap.size hlt hne
  refine ⟨hb.grown hg hb.size (fun k e => by have := (hown.lt _ e).1; omega), hg.cell h0 hne, hg.cell h1 hne, ?_, ?_⟩
  · exact (World.frozen?_of_block (w := W) hk).trans f0
  · exact (World.frozen?_of_block (w := W) hk).trans f1
theorem alloc_size (W : World) (o : Obj) : W.heap.size ≤ (W.alloc o).heap.size := by simp
theorem infoTn : (Tryd.prog.info? 26).map (fun i => (i.zero, i.size, i.bytes)) = some (some (.agg #[.int .u64 0, .int .u64 0]), 2, 16) := by kernel_rfl
set_option maxRecDepth 100000 in
theorem c_fold_nil (nv nm : BitVec 64) (w : World) :
    Calls Tryd.prog 37 #[.slice none 0 0, .func (.func 38) #[] #[], .agg #[.int .u64 (uv nv), .int .u64 (uv nm)]] w (Ret w (.agg #[.int .u64 (uv nv), .int .u64 (uv nm)])) := by
  go_enter Tryd.func37, Tryd.ntmps37
  go_wp2
  exact bodyPost_ret (v := .agg #[.int .u64 (uv nv), .int .u64 (uv nm)]) (by simp [results, Tryd.results37, go_sem]) rfl (ret_of rfl (by repeat first | exact up_refl _ | refine up_alloc ?_ _ | refine up_grow ?_ _ | refine up_drew ?_ | refine up_set ?_ (by simp) _))
theorem own_facts {wr : World} {base : Nat} {v : Value} {t : Tn} {r : List Tn} {e : TypeId} (h : wr.ownsRow base e 2 v (t :: r).length (cellsT (t :: r))) :
    ∃ g cap, v = .slice (some ⟨g, 0, none⟩) (r.length + 1) cap ∧ r.length + 1 ≤ cap ∧ base ≤ g ∧ g < wr.heap.size ∧ wr.cell? ⟨g, 0, none⟩ = some (.int .u64 (uv t.v)) ∧ wr.cell? ⟨g, 1, none⟩ = some (.int .u64 (uv t.m)) ∧
      (∀ i (h : i < r.length), wr.cell? ⟨g, 2 + i * 2, none⟩ = some (.int .u64 (uv r[i].v))) ∧ (∀ i (h : i < r.length), wr.cell? ⟨g, 2 + i * 2 + 1, none⟩ = some (.int .u64 (uv r[i].m))) ∧ ∀ o, wr.frozen? ⟨g, o, none⟩ = false := by
  have hc := h
  obtain ⟨h1, h2⟩ := h
  rcases h2 with ⟨rfl, h3⟩ | ⟨g, cap, cur, rfl, hb, hh, hn, hm, hs, ht⟩
  · simp at h3
  · have hlt : g < wr.heap.size := (Array.getElem?_eq_some_iff.1 hh).1
    have cells : ∀ j u, (cellsT (t :: r))[j]? = some u → wr.cell? ⟨g, j, none⟩ = some u := fun j u hj => by
      have := hc.cells (g := g) rfl j u hj
      have e : ((⟨g, 0, none⟩ : Addr).add j) = ⟨g, j, none⟩ := by
        unfold Addr.add; split
        · rename_i h0; rw [h0]
        · simp
      rwa [e] at this
    refine ⟨g, cap, rfl, hn, hb, hlt, cells 0 _ rfl, cells 1 _ rfl, fun i hi => cells _ _ ?_, fun i hi => cells _ _ ?_, fun o => ?_⟩
    · have := cellsT_v (t :: r) (i + 1) (by simpa using hi)
      rw [show 2 + i * 2 = 2 * (i + 1) by omega, this]; rfl
    · have := cellsT_m (t :: r) (i + 1) (by simpa using hi)
      rw [show 2 + i * 2 + 1 = 2 * (i + 1) + 1 by omega, this]; rfl
    · unfold World.frozen?; simp only [hh]; simp
theorem filter_snoc (L : List Tn) (k : Nat) (h : k < L.length) : (L.take (k + 1)).filter T.right = (L.take k).filter T.right ++ if T.right L[k] then [L[k]] else [] := by
  rw [List.take_succ_eq_append_getElem h, List.filter_append]
  congr 1
  by_cases hr : T.right L[k] <;> simp [hr]

set_option maxRecDepth 100000 in
set_option maxHeartbeats 1000000 in
theorem c_Join_some (b o cap : Nat) (L : List Tn) (w : World) (hL : L.length < 1000000) (hne : 0 < L.length) (hb : b < w.heap.size)
    (hv : ∀ i (h : i < L.length), w.cell? ⟨b, o + i * 2, none⟩ = some (.int .u64 (uv L[i].v)))
    (hm : ∀ i (h : i < L.length), w.cell? ⟨b, o + i * 2 + 1, none⟩ = some (.int .u64 (uv L[i].m))) :
    Calls Tryd.prog 10 #[.slice (some ⟨b, o, none⟩) L.length cap] w (Ret w (tnv (T.join L))) := by
  obtain ⟨i0, hi, hz0, hz1, hz2⟩ := info_parts infoTn
  have HL := Lib.hid hL
  go_enter Tryd.func10, Tryd.ntmps10
  go_wp2
  go_loopw [3, 8] (fun v i wr => ∃ k : Nat, k ≤ L.length ∧ i = .int .i64 k ∧ wr.ownsRow (w.heap.size + 1) 26 2 v ((L.take k).filter T.right).length (cellsT ((L.take k).filter T.right)) ∧ ((L.take k).filter T.right = [] → v = .slice none 0 0) ∧ Below w.heap.size w wr ∧
      wr.cell? ⟨w.heap.size, 0, none⟩ = some (.int .u64 0) ∧ wr.cell? ⟨w.heap.size, 1, none⟩ = some (.int .u64 0) ∧ wr.frozen? ⟨w.heap.size, 0, none⟩ = false ∧ wr.frozen? ⟨w.heap.size, 1, none⟩ = false) (fun _ i _ => L.length - (intOf i).toNat)
  case atStart => exact ⟨0, Nat.zero_le _, rfl, World.ownsRow_nil _ _ _ _, fun _ => rfl, up_alloc (up_refl _) _, by simp [go_sem], by simp [go_sem], by simp [go_sem], by simp [go_sem]⟩
  case round =>
    obtain ⟨k, hk, rfl, hown, hnil, hbl, r0, r1, q0, q1⟩ := hrel
    by_cases hlt : k < L.length
    · have v1 : wr.cell? ⟨b, o + k * 2, none⟩ = some (.int .u64 (uv L[k].v)) := (hbl.cell (p := ⟨b, o + k * 2, none⟩) hb).trans (hv k hlt)
      have m1 : wr.cell? ⟨b, o + k * 2 + 1, none⟩ = some (.int .u64 (uv L[k].m)) := (hbl.cell (p := ⟨b, o + k * 2 + 1, none⟩) hb).trans (hm k hlt)
      have Hlen := Lib.hid (show ((L.take k).filter T.right).length ≤ k from Nat.le_trans (List.length_filter_le _ _) (List.length_take_le _ _))
      have hz : w.heap.size + 1 ≤ wr.heap.size := World.block_lt_of_cell? wr _ r0
      have Hown := Lib.hid hown; have Hnil := Lib.hid hnil; have Hbl := Lib.hid hbl
      clear hown hnil hbl hv hm
      repeat' (first | (go_at_call 12; refine (c_Right _ _ _).mono ?_; rintro e w_ ⟨rfl, g_, rfl⟩; dsimp only) | (at_builtin; refine wpList_append_own _ rfl _ _ 22 rfl (w.heap.size + 1) 26 i0 _ 2 16 Tryd.underlying22 hi hz0 hz1 hz2 rfl (by decide) _ ((L.take k).filter T.right).length (cellsT ((L.take k).filter T.right)) rfl ?c0 _ 1 1 [.int .u64 (uv L[k].v), .int .u64 (uv L[k].m)] rfl rfl ?c1 ?c2 ?c3 ?c4 ?c5 ?c6; (case c0 => repeat first | exact Hown.out | refine owns_grow ?_ _ | refine World.ownsRow.alloc ?_ _); (case c1 => exact new_cells _ [.int .u64 (uv L[k].v), .int .u64 (uv L[k].m)] _); (case c2 => simp [Value.oneCell']); (case c3 => have := Hlen.out; have := HL.out; unfold maxLen; omega); (case c4 => have := Hlen.out; have := HL.out; omega); (case c5 => repeat first | exact hz | refine Nat.le_trans ?_ (grow_size _ _) | refine Nat.le_trans ?_ (alloc_size _ _)); intro v_ w1 hown1 hgrow1 _; obtain ⟨hbl1, a0, a1, b0, b1⟩ := after_append (by repeat first | exact Hbl.out | refine up_alloc ?_ _ | refine up_grow ?_ _) Hown.out hgrow1 (c0 := .int .u64 0) (c1 := .int .u64 0) (by simp [go_sem, r0]) (by simp [go_sem, r1]) (by simp [go_sem, r0, q0]) (by simp [go_sem, r1, q1]); have Hown1 := Lib.hid hown1; have Hbl1 := Lib.hid hbl1; clear hown1 hbl1 hgrow1) | ((with_reducible refine wp_region_pure ?hm ?hB ?hq); (case hm => kernel_rfl); (case hB => kernel_rfl); (repeat (first | go_big_quiet_step ((first | (go_at_call 12; exact grow_of (c_Right _ _ _)))) | ((first | refine gsym_t _ rfl rfl (fun K hb hK => (by (try simp only [Bool.and_eq_true, Bool.or_eq_true, Bool.or_eq_false_iff, Bool.not_eq_true', Bool.not_eq_false'] at hb); go_big_quiet_op; first | exact hK | (apply Exists.intro; refine ⟨fun _ => ?hc, ?hd⟩; (case hc => (first | (go_at_call 12; exact grow_of (c_Right _ _ _)))); exact hK))) ?_ | refine gsym_f _ rfl rfl (fun K hb hK => (by (try simp only [Bool.and_eq_true, Bool.or_eq_true, Bool.or_eq_false_iff, Bool.not_eq_true', Bool.not_eq_false'] at hb); go_big_quiet_op; first | exact hK | (apply Exists.intro; refine ⟨fun _ => ?hc, ?hd⟩; (case hc => (first | (go_at_call 12; exact grow_of (c_Right _ _ _)))); exact hK))) ?_ | refine gsym2_t _ rfl rfl (fun K hb hK => (by (try simp only [Bool.and_eq_true, Bool.or_eq_true, Bool.or_eq_false_iff, Bool.not_eq_true', Bool.not_eq_false'] at hb); go_big_quiet_op; first | exact hK | (apply Exists.intro; refine ⟨fun _ => ?hc, ?hd⟩; (case hc => (first | (go_at_call 12; exact grow_of (c_Right _ _ _)))); exact hK))) ?_ | refine gsym2_f _ rfl rfl (fun K hb hK => (by (try simp only [Bool.and_eq_true, Bool.or_eq_true, Bool.or_eq_false_iff, Bool.not_eq_true', Bool.not_eq_false'] at hb); go_big_quiet_op; first | exact hK | (apply Exists.intro; refine ⟨fun _ => ?hc, ?hd⟩; (case hc => (first | (go_at_call 12; exact grow_of (c_Right _ _ _)))); exact hK))) ?_); simp only [Act.put, List.setIfInBounds_toArray, List.set_cons_zero, List.set_cons_succ, Bool.not_not, gv_gv, gv_gv_and, gv_gv_and']))); (with_reducible refine wpQuiet_nil ?_); rintro _ ⟨g_, rfl⟩) | ((with_reducible refine wp_region_plain ?_); (repeat (first | go_big_quiet_step ((first | (go_at_call 12; exact grow_of (c_Right _ _ _)))) | ((first | refine gsym_t _ rfl rfl (fun K hb hK => (by (try simp only [Bool.and_eq_true, Bool.or_eq_true, Bool.or_eq_false_iff, Bool.not_eq_true', Bool.not_eq_false'] at hb); go_big_quiet_op; first | exact hK | (apply Exists.intro; refine ⟨fun _ => ?hc, ?hd⟩; (case hc => (first | (go_at_call 12; exact grow_of (c_Right _ _ _)))); exact hK))) ?_ | refine gsym_f _ rfl rfl (fun K hb hK => (by (try simp only [Bool.and_eq_true, Bool.or_eq_true, Bool.or_eq_false_iff, Bool.not_eq_true', Bool.not_eq_false'] at hb); go_big_quiet_op; first | exact hK | (apply Exists.intro; refine ⟨fun _ => ?hc, ?hd⟩; (case hc => (first | (go_at_call 12; exact grow_of (c_Right _ _ _)))); exact hK))) ?_ | refine gsym2_t _ rfl rfl (fun K hb hK => (by (try simp only [Bool.and_eq_true, Bool.or_eq_true, Bool.or_eq_false_iff, Bool.not_eq_true', Bool.not_eq_false'] at hb); go_big_quiet_op; first | exact hK | (apply Exists.intro; refine ⟨fun _ => ?hc, ?hd⟩; (case hc => (first | (go_at_call 12; exact grow_of (c_Right _ _ _)))); exact hK))) ?_ | refine gsym2_f _ rfl rfl (fun K hb hK => (by (try simp only [Bool.and_eq_true, Bool.or_eq_true, Bool.or_eq_false_iff, Bool.not_eq_true', Bool.not_eq_false'] at hb); go_big_quiet_op; first | exact hK | (apply Exists.intro; refine ⟨fun _ => ?hc, ?hd⟩; (case hc => (first | (go_at_call 12; exact grow_of (c_Right _ _ _)))); exact hK))) ?_); simp only [Act.put, List.setIfInBounds_toArray, List.set_cons_zero, List.set_cons_succ, Bool.not_not, gv_gv, gv_gv_and, gv_gv_and']))); (with_reducible refine wpQuiet_nil ?_); rintro _ ⟨g_, rfl⟩) | go_step)
      · have ht : T.right L[k] = true := by assumption
        have e := filter_snoc L k hlt
        rw [if_pos ht] at e
        have e2 : cellsT ((L.take (k + 1)).filter T.right) = cellsT ((L.take k).filter T.right) ++ [.int .u64 (uv L[k].v), .int .u64 (uv L[k].m)] := by rw [e, cellsT_append]; rfl
        have e3 : ((L.take (k + 1)).filter T.right).length = ((L.take k).filter T.right).length + 1 := by rw [e]; simp
        go_roundw
        case rel =>
          refine ⟨k + 1, by omega, by go_num, ?_, ?_, up_grow Hbl1.out _, by simp [go_sem, a0], by simp [go_sem, a1], by simp [go_sem, a0, b0], by simp [go_sem, a1, b1]⟩
          · rw [e3, e2]; exact owns_grow Hown1.out _
          · intro h; rw [h] at e3; simp at e3
        case measure => simp [intOf]; omega
      · have ht : T.right L[k] = false := by assumption
        have e := filter_snoc L k hlt
        rw [if_neg (by rw [ht]; simp), List.append_nil] at e
        go_roundw
        case rel =>
          refine ⟨k + 1, by omega, by go_num, ?_, ?_, (by repeat first | exact Hbl.out | refine up_alloc ?_ _ | refine up_grow ?_ _), by simp [go_sem, r0], by simp [go_sem, r1], by simp [go_sem, r0, q0], by simp [go_sem, r1, q1]⟩
          · rw [e]; repeat first | exact Hown.out | refine owns_grow ?_ _ | refine World.ownsRow.alloc ?_ _
          · rw [e]; exact Hnil.out
        case measure => simp [intOf]; omega
    · obtain rfl : k = L.length := by omega
      rw [List.take_length] at hown hnil
      cases hF : L.filter T.right with
      | nil =>
        obtain rfl := hnil hF
        have hj : T.join L = ⟨0, BitVec.allOnes 64⟩ := by unfold T.join; rw [hF]
        have Hj := Lib.hid hj
        clear hj hown hnil hv hm hF
        have Hbl := Lib.hid hbl; clear hbl
        go_wp2_with (first | (go_at_call 32; refine (c_Unknown _).mono ?_; rintro e w_ ⟨rfl, g_, rfl⟩) | (go_at_call 37; refine (c_fold_nil _ _ _).mono ?_; rintro e w_ ⟨rfl, g_, rfl⟩))
        exact bodyPost_ret (v := tnv ⟨0, BitVec.allOnes 64⟩) (by simp [results, Tryd.results10, go_sem, r0, r1] <;> (constructor <;> rfl)) rfl (ret_of (by rw [Hj.out]) (by repeat first | exact Hbl.out | refine up_alloc ?_ _ | refine up_grow ?_ _ | refine up_set ?_ (by simp) _))
      | cons t r =>
        rw [hF] at hown
        have hlen : (t :: r).length ≤ L.length := by rw [← hF]; exact List.length_filter_le _ _
        obtain ⟨g, cap', rfl, hcap, hgb, hgs, g0, g1, gv, gm, gf⟩ := own_facts hown
        have hj : T.join L = r.foldl T.join2 t := by unfold T.join; rw [hF]
        have hlen' : r.length + 1 < 1000000 := by simp only [List.length_cons] at hlen; omega
        have Hj := Lib.hid hj; have Hown := Lib.hid hown
        clear hj hown hnil hv hm hF hlen
        have Hbl := Lib.hid hbl; have Gv := Lib.hid gv; have Gm := Lib.hid gm; have Gf := Lib.hid gf; have Gb := Lib.hid hgb; have Gs := Lib.hid hgs
        clear hbl gv gm gf hgb hgs
        go_wp2_with (first | (go_at_call 32; refine (c_Unknown _).mono ?_; rintro e w_ ⟨rfl, g_, rfl⟩) | (go_at_call 37; refine (c_fold g cap' t r _ _ _ hlen' hcap (Nat.lt_of_lt_of_le Gs.out (grow_size _ _)) (fun i h => by rw [grow_cell _ _ _ (by rw [Gv.out i h]; rfl), Gv.out i h]) (fun i h => by rw [grow_cell _ _ _ (by rw [Gm.out i h]; rfl), Gm.out i h]) (by simp [go_sem, g0]) (by simp [go_sem, g1]) (by simp [go_sem, g0, Gf.out]) (by simp [go_sem, g1, Gf.out])).mono ?_; rintro e w2 ⟨rfl, hgr⟩; obtain ⟨hbl1, a0, a1, b0, b1⟩ := after_append (v := .slice (some ⟨g, 0, none⟩) (r.length + 1) cap') (by repeat first | exact Hbl.out | refine up_grow ?_ _) Hown.out hgr (c0 := .int .u64 0) (c1 := .int .u64 0) (by simp [go_sem, r0]) (by simp [go_sem, r1]) (by simp [go_sem, r0, q0]) (by simp [go_sem, r1, q1]); have Hbl1 := Lib.hid hbl1; clear hbl1 hgr))
        exact bodyPost_ret (v := tnv (r.foldl T.join2 t)) (by simp [results, Tryd.results10, go_sem, a0, a1]) rfl (ret_of (by rw [Hj.out]) (by repeat first | exact Hbl1.out | refine up_alloc ?_ _ | refine up_grow ?_ _ | refine up_set ?_ (by simp) _))
end Go.Proofs.YtbiebicooaepfaaDoor
