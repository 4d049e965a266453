import Derived.Test.YtbiebicooaepfaaDoorTnumD
namespace Go.Proofs.YtbiebicooaepfaaDoor
open Go.RowKit
set_option linter.unusedSimpArgs false
set_option linter.unusedVariables false

set_option maxRecDepth 100000 in
set_option maxHeartbeats 1000000 in
theorem c_Join_none (a : Option Addr) (cap : Nat) (w : World) : Calls Tryd.prog 10 #[.slice a 0 cap] w (Ret w (tnv ⟨0, BitVec.allOnes 64⟩)) := by
  go_enter Tryd.func10, Tryd.ntmps10
  go_wp2
  go_loopw [3, 8] (fun v i wr => v = .slice none 0 0 ∧ i = .int .i64 0 ∧ wr = w.alloc (.cells #[.int .u64 0, .int .u64 0] 26)) (fun _ _ _ => 0)
  case atStart => exact ⟨rfl, rfl, rfl⟩
  case round =>
    obtain ⟨rfl, rfl, rfl⟩ := hrel
    go_wp2_with (first | (go_at_call 32; refine (c_Unknown _).mono ?_; rintro e w_ ⟨rfl, g_, rfl⟩) | (go_at_call 37; refine (c_fold_nil _ _ _).mono ?_; rintro e w_ ⟨rfl, g_, rfl⟩))
    exact bodyPost_ret (v := tnv ⟨0, BitVec.allOnes 64⟩) (by simp [results, Tryd.results10, go_sem] <;> (constructor <;> rfl)) rfl (ret_of rfl (by repeat first | exact up_refl _ | refine up_alloc ?_ _ | refine up_grow ?_ _ | refine up_drew ?_ | refine up_set ?_ (by simp) _))
/-- A slice of tnums, as it lies in memory. -/
def RdT (w : World) (v : Value) (L : List Tn) : Prop :=
  (L = [] ∧ ∃ a cap, v = .slice a 0 cap) ∨
  (0 < L.length ∧ ∃ b o cap, v = .slice (some ⟨b, o, none⟩) L.length cap ∧ b < w.heap.size ∧ (∀ i (h : i < L.length), w.cell? ⟨b, o + i * 2, none⟩ = some (.int .u64 (uv L[i].v))) ∧ (∀ i (h : i < L.length), w.cell? ⟨b, o + i * 2 + 1, none⟩ = some (.int .u64 (uv L[i].m))))
theorem RdT.grow {w : World} {v : Value} {L : List Tn} (h : RdT w v L) (g : Ext w) : RdT (grow w g) v L := by
  rcases h with h | ⟨h0, b, o, cap, hv, hb, h1, h2⟩
  · exact .inl h
  · exact .inr ⟨h0, b, o, cap, hv, Nat.lt_of_lt_of_le hb (grow_size _ _), fun i h => by rw [grow_cell _ _ _ (by rw [h1 i h]; rfl), h1 i h], fun i h => by rw [grow_cell _ _ _ (by rw [h2 i h]; rfl), h2 i h]⟩
theorem RdT.alloc {w : World} {v : Value} {L : List Tn} (h : RdT w v L) (ob : Obj) : RdT (w.alloc ob) v L := by
  rcases h with h | ⟨h0, b, o, cap, hv, hb, h1, h2⟩
  · exact .inl h
  · exact .inr ⟨h0, b, o, cap, hv, by simp; omega, fun i h => by rw [World.cell?_alloc_some _ _ _ (by rw [h1 i h]; rfl), h1 i h], fun i h => by rw [World.cell?_alloc_some _ _ _ (by rw [h2 i h]; rfl), h2 i h]⟩
theorem c_Join (L : List Tn) (v : Value) (w : World) (hL : L.length < 1000000) (h : RdT w v L) : Calls Tryd.prog 10 #[v] w (Ret w (tnv (T.join L))) := by
  rcases h with ⟨rfl, a, cap, rfl⟩ | ⟨h0, b, o, cap, rfl, hb, h1, h2⟩
  · exact c_Join_none a cap w
  · exact c_Join_some b o cap L w hL h0 hb h1 h2
/-- The cells of a row that has just been made. -/
theorem rdT_new (W : World) (L : List Tn) (cap : Nat) (t : TypeId) (hL : 0 < L.length) : RdT (W.alloc (.cells (cellsT L).toArray t)) (.slice (some ⟨W.heap.size, 0, none⟩) L.length cap) L :=
  .inr ⟨hL, W.heap.size, 0, cap, rfl, by simp, fun i h => by
    have := cellsT_v L i h
    rw [show 0 + i * 2 = 2 * i by omega, cell_alloc, cell_new, if_pos rfl]; simpa using this, fun i h => by
    have := cellsT_m L i h
    rw [show 0 + i * 2 + 1 = 2 * i + 1 by omega, cell_alloc, cell_new, if_pos rfl]; simpa using this⟩
/-- The join of two. -/
theorem c_Join_two (av am bv bm : BitVec 64) (W : World) (t : TypeId) (b : Nat) (hb : b = W.heap.size) : Calls Tryd.prog 10 #[.slice (some ⟨b, 0, none⟩) 2 2] (W.alloc (.cells #[.int .u64 (uv av), .int .u64 (uv am), .int .u64 (uv bv), .int .u64 (uv bm)] t))
    (Ret (W.alloc (.cells #[.int .u64 (uv av), .int .u64 (uv am), .int .u64 (uv bv), .int .u64 (uv bm)] t)) (tnv (T.join [⟨av, am⟩, ⟨bv, bm⟩]))) := by
  subst hb
  exact c_Join [⟨av, am⟩, ⟨bv, bm⟩] _ _ (by simp) (rdT_new W [⟨av, am⟩, ⟨bv, bm⟩] 2 t (by simp))

theorem c_Const_1 (w : World) : Calls Tryd.prog 14 #[.int .u64 1] w (Ret w (.agg #[.int .u64 1, .int .u64 0])) := by
  exact c_Const 1#64 w

theorem c_Const_5 (w : World) : Calls Tryd.prog 14 #[.int .u64 5] w (Ret w (.agg #[.int .u64 5, .int .u64 0])) := by
  exact c_Const 5#64 w

theorem c_Const_7 (w : World) : Calls Tryd.prog 14 #[.int .u64 7] w (Ret w (.agg #[.int .u64 7, .int .u64 0])) := by
  exact c_Const 7#64 w

theorem aw_do (w : World) (hT : Tab w) : Calls Tryd.prog 15 #[.int .u8 0, .agg #[.int .u64 0, .int .u64 1], .agg #[.int .u64 1, .int .u64 0]] w (Ret w (.tuple #[.agg #[.int .u64 0, .int .u64 3], .bool true])) := by
  exact c_Do_sum 0#64 1#64 1#64 0#64 w hT

theorem aw_range (w : World) : Calls Tryd.prog 16 #[.int .u64 4, .int .u64 7] w (Ret w (.agg #[.int .u64 4, .int .u64 3])) := by
  have h := c_Range 4#64 7#64 w
  rw [show T.range 4#64 7#64 = ⟨4#64, 3#64⟩ by decide +kernel] at h
  exact h

theorem aw_join (W : World) (t : TypeId) : Calls Tryd.prog 10 #[.slice (some ⟨W.heap.size, 0, none⟩) 2 2] (W.alloc (.cells #[.int .u64 5, .int .u64 0, .int .u64 7, .int .u64 0] t))
    (Ret (W.alloc (.cells #[.int .u64 5, .int .u64 0, .int .u64 7, .int .u64 0] t)) (.agg #[.int .u64 5, .int .u64 2])) := by
  have h := c_Join_two 5#64 0#64 7#64 0#64 W t _ rfl
  rw [show T.join [⟨5#64, 0#64⟩, ⟨7#64, 0#64⟩] = ⟨5#64, 2#64⟩ by decide +kernel] at h
  exact h

set_option maxRecDepth 100000 in
set_option maxHeartbeats 1000000 in
theorem c_awake (w : World) (hT : Tab w) : Calls Tryd.prog 9 #[] w (Ret w (.bool true)) := by
  go_enter Tryd.func9, Tryd.ntmps9
  go_wp2_with (first
    | (go_at_call 14; (first | (with_reducible refine (c_Const_1 _).mono ?_) | (with_reducible refine (c_Const_5 _).mono ?_) | (with_reducible refine (c_Const_7 _).mono ?_)); rintro e w_ ⟨rfl, g_, rfl⟩)
    | (go_at_call 15; refine (aw_do _ (by repeat first | assumption | refine tab_grow ?_ _ | refine tab_alloc ?_ _ | refine tab_drew ?_)).mono ?_; rintro e w_ ⟨rfl, g_, rfl⟩)
    | (go_at_call 16; refine (aw_range _).mono ?_; rintro e w_ ⟨rfl, g_, rfl⟩)
    | (go_at_call 10; refine (aw_join _ _).mono ?_; rintro e w_ ⟨rfl, g_, rfl⟩))
  go_ret
  exact ret_of (by first | rfl | simp) (by repeat first | exact up_refl _ | refine up_alloc ?_ _ | refine up_grow ?_ _ | refine up_drew ?_ | refine up_set ?_ (by simp) _)
end Go.Proofs.YtbiebicooaepfaaDoor
