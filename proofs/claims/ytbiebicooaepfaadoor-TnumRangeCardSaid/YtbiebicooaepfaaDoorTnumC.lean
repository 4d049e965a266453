import Derived.Test.YtbiebicooaepfaaDoorTnumB
import Derived.Test.YtbiebicooaepfaaDoorTail
namespace Go.Proofs.YtbiebicooaepfaaDoor
open Go.RowKit
set_option linter.unusedSimpArgs false
set_option linter.unusedVariables false

/-- The cells of a row of tnums. -/
def cellsT : List Tn → List Value
  | [] => []
  | t :: r => .int .u64 (uv t.v) :: .int .u64 (uv t.m) :: cellsT r
theorem cellsT_length : ∀ L : List Tn, (cellsT L).length = L.length * 2
  | [] => rfl
  | t :: r => by simp [cellsT, cellsT_length r]; omega
theorem cellsT_append : ∀ L M : List Tn, cellsT (L ++ M) = cellsT L ++ cellsT M
  | [], _ => rfl
  | t :: r, M => by simp [cellsT, cellsT_append r M]
theorem cellsT_v : ∀ (L : List Tn) (i : Nat) (h : i < L.length), (cellsT L)[2 * i]? = some (.int .u64 (uv L[i].v))
  | [], i, h => by simp at h
  | t :: r, 0, h => rfl
  | t :: r, i + 1, h => by
    have := cellsT_v r i (by simpa using h)
    simpa [cellsT, Nat.mul_add] using this
theorem cellsT_m : ∀ (L : List Tn) (i : Nat) (h : i < L.length), (cellsT L)[2 * i + 1]? = some (.int .u64 (uv L[i].m))
  | [], i, h => by simp at h
  | t :: r, 0, h => rfl
  | t :: r, i + 1, h => by
    have := cellsT_m r i (by simpa using h)
    simpa [cellsT, Nat.mul_add] using this
/-- A world turned in block g alone, and grown. -/
structure Turned (g : Nat) (w w' : World) : Prop where
  by_ : w.grownBy w' (some g)
theorem turned_refl (g : Nat) (w : World) : w.grownBy w (some g) := ⟨rfl, rfl, rfl, Nat.le_refl _, fun _ _ _ => rfl⟩
theorem turned_grow {g : Nat} {w w' : World} (h : w.grownBy w' (some g)) (e : Ext w') : w.grownBy (grow w' e) (some g) :=
  have b := grow_below w' e
  ⟨b.os.trans h.os, b.tape.trans h.tape, b.output.trans h.output, Nat.le_trans h.size b.size, fun k hk hne => (b.block k (Nat.lt_of_lt_of_le hk h.size)).trans (h.block k hk hne)⟩
theorem turned_alloc {g : Nat} {w w' : World} (h : w.grownBy w' (some g)) (o : Obj) : w.grownBy (w'.alloc o) (some g) :=
  ⟨h.os, h.tape, h.output, by have := h.size; simp; omega, fun k hk hne => (Below.heap_alloc w' o k (Nat.lt_of_lt_of_le hk h.size)).trans (h.block k hk hne)⟩
theorem turned_set {g : Nat} {w w' : World} (h : w.grownBy w' (some g)) (o : Nat) (v : Value) : w.grownBy (w'.setCell ⟨g, o, none⟩ v) (some g) :=
  ⟨h.os, h.tape, h.output, by have := h.size; simp; omega, fun k hk hne => (Below.heap_setCell w' _ v k (fun e => hne (by rw [e]))).trans (h.block k hk hne)⟩
theorem turned_set' {g : Nat} {w w' : World} (h : w.grownBy w' (some g)) {p : Addr} (hp : w.heap.size ≤ p.block) (v : Value) : w.grownBy (w'.setCell p v) (some g) :=
  ⟨h.os, h.tape, h.output, by have := h.size; simp; omega, fun k hk hne => (Below.heap_setCell w' _ v k (by omega)).trans (h.block k hk hne)⟩

set_option maxRecDepth 100000 in
set_option maxHeartbeats 1000000 in
theorem c_fold (g cap : Nat) (t0 : Tn) (L : List Tn) (nv nm : BitVec 64) (w : World) (hL : L.length + 1 < 1000000) (hcap : L.length + 1 ≤ cap) (hg : g < w.heap.size)
    (hv : ∀ i (h : i < L.length), w.cell? ⟨g, 2 + i * 2, none⟩ = some (.int .u64 (uv L[i].v)))
    (hm : ∀ i (h : i < L.length), w.cell? ⟨g, 2 + i * 2 + 1, none⟩ = some (.int .u64 (uv L[i].m)))
    (h0 : w.cell? ⟨g, 0, none⟩ = some (.int .u64 (uv t0.v))) (h1 : w.cell? ⟨g, 1, none⟩ = some (.int .u64 (uv t0.m)))
    (f0 : w.frozen? ⟨g, 0, none⟩ = false) (f1 : w.frozen? ⟨g, 1, none⟩ = false) :
    Calls Tryd.prog 37 #[.slice (some ⟨g, 0, none⟩) (L.length + 1) cap, .func (.func 38) #[] #[], .agg #[.int .u64 (uv nv), .int .u64 (uv nm)]] w fun e w' =>
      e = .returned (tnv (L.foldl T.join2 t0)) ∧ w.grownBy w' (some g) := by
  have hc0 : (((L.length + 1 : Nat) : Int) == 0) = false := by simp; omega
  go_enter Tryd.func37, Tryd.ntmps37
  have HL := Lib.hid hL
  have hgn : ¬ g = w.heap.size + 1 := by omega
  by_cases hone : cap = 1
  · obtain rfl : L = [] := List.eq_nil_of_length_eq_zero (by omega)
    subst hone
    go_wp2
    go_loopw [16] (fun i wr => i = .int .i64 0 ∧ wr = (w.alloc (.cells #[.int .u64 (uv nv), .int .u64 (uv nm)] 26)).alloc (.cells #[.int .u64 0, .int .u64 0] 26)) (fun _ _ => 0)
    case atStart => exact ⟨rfl, rfl⟩
    case round =>
      obtain ⟨rfl, rfl⟩ := hrel
      go_wp2
      refine bodyPost_ret (v := tnv t0) (by simp [results, Tryd.results37, go_sem]) rfl ⟨rfl, ?_⟩
      repeat first | exact turned_refl _ _ | refine turned_alloc ?_ _ | refine turned_grow ?_ _ | refine turned_set ?_ _ _
  · have hone' : ((cap : Nat) == 1) = false := by simpa using hone
    go_wp2
    go_loopw [16] (fun i wr => ∃ k : Nat, k ≤ L.length ∧ i = .int .i64 k ∧ wr.cell? ⟨g, 0, none⟩ = some (.int .u64 (uv ((L.take k).foldl T.join2 t0).v)) ∧ wr.cell? ⟨g, 1, none⟩ = some (.int .u64 (uv ((L.take k).foldl T.join2 t0).m)) ∧
      wr.cell? ⟨w.heap.size + 1, 0, none⟩ = some (.int .u64 0) ∧ wr.cell? ⟨w.heap.size + 1, 1, none⟩ = some (.int .u64 0) ∧ wr.frozen? ⟨w.heap.size + 1, 0, none⟩ = false ∧ wr.frozen? ⟨w.heap.size + 1, 1, none⟩ = false ∧
      w.grownBy wr (some g) ∧ wr.frozen? ⟨g, 0, none⟩ = false ∧ wr.frozen? ⟨g, 1, none⟩ = false ∧
      (∀ i (h : i < L.length), wr.cell? ⟨g, 2 + i * 2, none⟩ = some (.int .u64 (uv L[i].v))) ∧ (∀ i (h : i < L.length), wr.cell? ⟨g, 2 + i * 2 + 1, none⟩ = some (.int .u64 (uv L[i].m)))) (fun i _ => L.length - (intOf i).toNat)
    case atStart => exact ⟨0, Nat.zero_le _, rfl, by simp [go_sem, h0], by simp [go_sem, h1], by simp [go_sem], by simp [go_sem], by simp [go_sem], by simp [go_sem], turned_alloc (turned_alloc (turned_refl _ _) _) _, by simp [go_sem, h0, f0], by simp [go_sem, h1, f1], fun i h => by simp [go_sem, hv i h], fun i h => by simp [go_sem, hm i h]⟩
    case round =>
      obtain ⟨k, hk, rfl, c0, c1, r0, r1, q0, q1, hgr, fr0, fr1, hv', hm'⟩ := hrel
      by_cases hlt : k < L.length
      · have v1 := hv' k hlt
        have m1 := hm' k hlt
        have Hv := Lib.hid hv'; have Hm := Lib.hid hm'; have Hg := Lib.hid hgr
        clear hv' hm' hv hm h0 h1 f0 f1 hgr
        repeat' (first | fail | ((with_reducible refine wp_region_tail 8 ?hm ?hB ?hq); (case hm => kernel_rfl); (case hB => kernel_rfl); simp only [List.take_succ_cons, List.take_zero, List.drop_succ_cons, List.drop_zero]; (repeat (first | go_big_quiet_step ((first | (go_at_call 38; exact grow_of (c_join2 _ _ _ _ _)))) | ((first | refine gsym_t _ rfl rfl (fun K hb hK => (by (try simp only [Bool.and_eq_true, Bool.or_eq_true, Bool.or_eq_false_iff, Bool.not_eq_true', Bool.not_eq_false'] at hb); go_big_quiet_op; first | exact hK | (apply Exists.intro; refine ⟨fun _ => ?hc, ?hd⟩; (case hc => (first | (go_at_call 38; exact grow_of (c_join2 _ _ _ _ _)))); exact hK))) ?_ | refine gsym_f _ rfl rfl (fun K hb hK => (by (try simp only [Bool.and_eq_true, Bool.or_eq_true, Bool.or_eq_false_iff, Bool.not_eq_true', Bool.not_eq_false'] at hb); go_big_quiet_op; first | exact hK | (apply Exists.intro; refine ⟨fun _ => ?hc, ?hd⟩; (case hc => (first | (go_at_call 38; exact grow_of (c_join2 _ _ _ _ _)))); exact hK))) ?_ | refine gsym2_t _ rfl rfl (fun K hb hK => (by (try simp only [Bool.and_eq_true, Bool.or_eq_true, Bool.or_eq_false_iff, Bool.not_eq_true', Bool.not_eq_false'] at hb); go_big_quiet_op; first | exact hK | (apply Exists.intro; refine ⟨fun _ => ?hc, ?hd⟩; (case hc => (first | (go_at_call 38; exact grow_of (c_join2 _ _ _ _ _)))); exact hK))) ?_ | refine gsym2_f _ rfl rfl (fun K hb hK => (by (try simp only [Bool.and_eq_true, Bool.or_eq_true, Bool.or_eq_false_iff, Bool.not_eq_true', Bool.not_eq_false'] at hb); go_big_quiet_op; first | exact hK | (apply Exists.intro; refine ⟨fun _ => ?hc, ?hd⟩; (case hc => (first | (go_at_call 38; exact grow_of (c_join2 _ _ _ _ _)))); exact hK))) ?_); simp only [Act.put, List.setIfInBounds_toArray, List.set_cons_zero, List.set_cons_succ, Bool.not_not, gv_gv, gv_gv_and, gv_gv_and']))); (with_reducible refine wpQuiet_nil ?_); rintro _ ⟨g_, rfl⟩) | ((with_reducible refine wp_region_pure ?hm ?hB ?hq); (case hm => kernel_rfl); (case hB => kernel_rfl); (repeat (first | go_big_quiet_step ((first | fail)) | ((first | refine gsym_t _ rfl rfl (fun K hb hK => (by (try simp only [Bool.and_eq_true, Bool.or_eq_true, Bool.or_eq_false_iff, Bool.not_eq_true', Bool.not_eq_false'] at hb); go_big_quiet_op; first | exact hK | (apply Exists.intro; refine ⟨fun _ => ?hc, ?hd⟩; (case hc => (first | fail)); exact hK))) ?_ | refine gsym_f _ rfl rfl (fun K hb hK => (by (try simp only [Bool.and_eq_true, Bool.or_eq_true, Bool.or_eq_false_iff, Bool.not_eq_true', Bool.not_eq_false'] at hb); go_big_quiet_op; first | exact hK | (apply Exists.intro; refine ⟨fun _ => ?hc, ?hd⟩; (case hc => (first | fail)); exact hK))) ?_ | refine gsym2_t _ rfl rfl (fun K hb hK => (by (try simp only [Bool.and_eq_true, Bool.or_eq_true, Bool.or_eq_false_iff, Bool.not_eq_true', Bool.not_eq_false'] at hb); go_big_quiet_op; first | exact hK | (apply Exists.intro; refine ⟨fun _ => ?hc, ?hd⟩; (case hc => (first | fail)); exact hK))) ?_ | refine gsym2_f _ rfl rfl (fun K hb hK => (by (try simp only [Bool.and_eq_true, Bool.or_eq_true, Bool.or_eq_false_iff, Bool.not_eq_true', Bool.not_eq_false'] at hb); go_big_quiet_op; first | exact hK | (apply Exists.intro; refine ⟨fun _ => ?hc, ?hd⟩; (case hc => (first | fail)); exact hK))) ?_); simp only [Act.put, List.setIfInBounds_toArray, List.set_cons_zero, List.set_cons_succ, Bool.not_not, gv_gv, gv_gv_and, gv_gv_and']))); (with_reducible refine wpQuiet_nil ?_); rintro _ ⟨g_, rfl⟩) | ((with_reducible refine wp_region_plain ?_); (repeat (first | go_big_quiet_step ((first | fail)) | ((first | refine gsym_t _ rfl rfl (fun K hb hK => (by (try simp only [Bool.and_eq_true, Bool.or_eq_true, Bool.or_eq_false_iff, Bool.not_eq_true', Bool.not_eq_false'] at hb); go_big_quiet_op; first | exact hK | (apply Exists.intro; refine ⟨fun _ => ?hc, ?hd⟩; (case hc => (first | fail)); exact hK))) ?_ | refine gsym_f _ rfl rfl (fun K hb hK => (by (try simp only [Bool.and_eq_true, Bool.or_eq_true, Bool.or_eq_false_iff, Bool.not_eq_true', Bool.not_eq_false'] at hb); go_big_quiet_op; first | exact hK | (apply Exists.intro; refine ⟨fun _ => ?hc, ?hd⟩; (case hc => (first | fail)); exact hK))) ?_ | refine gsym2_t _ rfl rfl (fun K hb hK => (by (try simp only [Bool.and_eq_true, Bool.or_eq_true, Bool.or_eq_false_iff, Bool.not_eq_true', Bool.not_eq_false'] at hb); go_big_quiet_op; first | exact hK | (apply Exists.intro; refine ⟨fun _ => ?hc, ?hd⟩; (case hc => (first | fail)); exact hK))) ?_ | refine gsym2_f _ rfl rfl (fun K hb hK => (by (try simp only [Bool.and_eq_true, Bool.or_eq_true, Bool.or_eq_false_iff, Bool.not_eq_true', Bool.not_eq_false'] at hb); go_big_quiet_op; first | exact hK | (apply Exists.intro; refine ⟨fun _ => ?hc, ?hd⟩; (case hc => (first | fail)); exact hK))) ?_); simp only [Act.put, List.setIfInBounds_toArray, List.set_cons_zero, List.set_cons_succ, Bool.not_not, gv_gv, gv_gv_and, gv_gv_and']))); (with_reducible refine wpQuiet_nil ?_); rintro _ ⟨g_, rfl⟩) | go_step)
        have e : (L.take (k + 1)).foldl T.join2 t0 = T.join2 ((L.take k).foldl T.join2 t0) L[k] := by rw [List.take_succ_eq_append_getElem hlt, List.foldl_append]; rfl
        go_roundw
        case rel =>
          refine ⟨k + 1, by omega, by go_num, ?_, ?_, ?_, ?_, ?_, ?_, ?_, ?_, ?_, ?_, ?_⟩
          · rw [e]; simp [go_sem, c0]
          · rw [e]; simp [go_sem, c1]
          · simp [go_sem, r0, hgn]
          · simp [go_sem, r1, hgn]
          · simp [go_sem, r0, q0]
          · simp [go_sem, r1, q1]
          · repeat first | exact Hg.out | refine turned_alloc ?_ _ | refine turned_grow ?_ _ | refine turned_set ?_ _ _
          · simp [go_sem, c0, fr0]
          · simp [go_sem, c1, fr1]
          · intro i h; have := Hv.out i h; simp [go_sem, this] <;> omega
          · intro i h; have := Hm.out i h; simp [go_sem, this] <;> omega
        case measure => simp [intOf]; omega
      · obtain rfl : k = L.length := by omega
        rw [List.take_length] at c0 c1
        clear hv' hm' hv hm h0 h1 f0 f1
        have Hg := Lib.hid hgr; clear hgr
        go_wp2
        refine bodyPost_ret (v := tnv (L.foldl T.join2 t0)) (by simp [results, Tryd.results37, go_sem, r0, r1, c0, c1]) rfl ⟨rfl, ?_⟩
        repeat first | exact Hg.out | refine turned_set' ?_ (by simp) _ | refine turned_alloc ?_ _ | refine turned_grow ?_ _ | refine turned_set ?_ _ _
end Go.Proofs.YtbiebicooaepfaaDoor
