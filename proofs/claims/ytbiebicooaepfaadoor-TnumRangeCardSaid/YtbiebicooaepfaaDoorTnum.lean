import Derived.Test.YtbiebicooaepfaaDoorTnumS
import Derived.Test.YtbiebicooaepfaaDoorShelf
namespace Go.Proofs.YtbiebicooaepfaaDoor
open Go.RowKit
set_option linter.unusedSimpArgs false
set_option linter.unusedVariables false

set_option maxRecDepth 100000 in
set_option maxHeartbeats 1000000 in
theorem c_Right (av am : BitVec 64) (w : World) :
    Calls Tryd.prog 12 #[.agg #[.int .u64 (uv av), .int .u64 (uv am)]] w (Ret w (.bool (T.right ⟨av, am⟩))) := by
  go_enter Tryd.func12, Tryd.ntmps12
  go_wp2
  go_ret
  exact ret_of (by first | rfl | (simp [go_sem]; done) | (simp [go_sem]; rfl)) (by repeat first | exact up_refl _ | refine up_alloc ?_ _ | refine up_grow ?_ _ | refine up_drew ?_ | refine up_set ?_ (by simp) _)

set_option maxRecDepth 100000 in
set_option maxHeartbeats 1000000 in
theorem c_Const (n : BitVec 64) (w : World) :
    Calls Tryd.prog 14 #[.int .u64 (uv n)] w (Ret w (.agg #[.int .u64 (uv (⟨n, 0⟩ : Tn).v), .int .u64 (uv (⟨n, 0⟩ : Tn).m)])) := by
  go_enter Tryd.func14, Tryd.ntmps14
  go_wp2
  exact bodyPost_ret (v := .agg #[.int .u64 (uv (⟨n, 0⟩ : Tn).v), .int .u64 (uv (⟨n, 0⟩ : Tn).m)]) (by simp [results, Tryd.results14, go_sem] <;> (constructor <;> rfl)) rfl (ret_of rfl (by repeat first | exact up_refl _ | refine up_alloc ?_ _ | refine up_grow ?_ _ | refine up_drew ?_ | refine up_set ?_ (by simp) _))

set_option maxRecDepth 100000 in
set_option maxHeartbeats 1000000 in
theorem c_Unknown  (w : World) :
    Calls Tryd.prog 32 #[] w (Ret w (.agg #[.int .u64 (uv (⟨0, BitVec.allOnes 64⟩ : Tn).v), .int .u64 (uv (⟨0, BitVec.allOnes 64⟩ : Tn).m)])) := by
  go_enter Tryd.func32, Tryd.ntmps32
  go_wp2
  exact bodyPost_ret (v := .agg #[.int .u64 (uv (⟨0, BitVec.allOnes 64⟩ : Tn).v), .int .u64 (uv (⟨0, BitVec.allOnes 64⟩ : Tn).m)]) (by simp [results, Tryd.results32, go_sem] <;> (constructor <;> rfl)) rfl (ret_of rfl (by repeat first | exact up_refl _ | refine up_alloc ?_ _ | refine up_grow ?_ _ | refine up_drew ?_ | refine up_set ?_ (by simp) _))

set_option maxRecDepth 100000 in
set_option maxHeartbeats 1000000 in
theorem c_Has (av am n : BitVec 64) (w : World) :
    Calls Tryd.prog 17 #[.agg #[.int .u64 (uv av), .int .u64 (uv am)], .int .u64 (uv n)] w (Ret w (.bool (T.has ⟨av, am⟩ n))) := by
  go_enter Tryd.func17, Tryd.ntmps17
  repeat' (first | (go_at_call 12; refine (c_Right _ _ _).mono ?_; rintro e w_ ⟨rfl, g_, rfl⟩; dsimp only) | ((with_reducible refine wp_region_pure ?hm ?hB ?hq); (case hm => kernel_rfl); (case hB => kernel_rfl); (repeat (first | go_big_quiet_step ((first | (go_at_call 12; exact grow_of (c_Right _ _ _)))) | ((first | refine gsym_t _ rfl rfl (fun K hb hK => (by (try simp only [Bool.and_eq_true, Bool.or_eq_true, Bool.or_eq_false_iff, Bool.not_eq_true', Bool.not_eq_false'] at hb); go_big_quiet_op; first | exact hK | (apply Exists.intro; refine ⟨fun _ => ?hc, ?hd⟩; (case hc => (first | (go_at_call 12; exact grow_of (c_Right _ _ _)))); exact hK))) ?_ | refine gsym_f _ rfl rfl (fun K hb hK => (by (try simp only [Bool.and_eq_true, Bool.or_eq_true, Bool.or_eq_false_iff, Bool.not_eq_true', Bool.not_eq_false'] at hb); go_big_quiet_op; first | exact hK | (apply Exists.intro; refine ⟨fun _ => ?hc, ?hd⟩; (case hc => (first | (go_at_call 12; exact grow_of (c_Right _ _ _)))); exact hK))) ?_ | refine gsym2_t _ rfl rfl (fun K hb hK => (by (try simp only [Bool.and_eq_true, Bool.or_eq_true, Bool.or_eq_false_iff, Bool.not_eq_true', Bool.not_eq_false'] at hb); go_big_quiet_op; first | exact hK | (apply Exists.intro; refine ⟨fun _ => ?hc, ?hd⟩; (case hc => (first | (go_at_call 12; exact grow_of (c_Right _ _ _)))); exact hK))) ?_ | refine gsym2_f _ rfl rfl (fun K hb hK => (by (try simp only [Bool.and_eq_true, Bool.or_eq_true, Bool.or_eq_false_iff, Bool.not_eq_true', Bool.not_eq_false'] at hb); go_big_quiet_op; first | exact hK | (apply Exists.intro; refine ⟨fun _ => ?hc, ?hd⟩; (case hc => (first | (go_at_call 12; exact grow_of (c_Right _ _ _)))); exact hK))) ?_); simp only [Act.put, List.setIfInBounds_toArray, List.set_cons_zero, List.set_cons_succ, Bool.not_not, gv_gv, gv_gv_and, gv_gv_and']))); (with_reducible refine wpQuiet_nil ?_); rintro _ ⟨g_, rfl⟩) | ((with_reducible refine wp_region_plain ?_); (repeat (first | go_big_quiet_step ((first | (go_at_call 12; exact grow_of (c_Right _ _ _)))) | ((first | refine gsym_t _ rfl rfl (fun K hb hK => (by (try simp only [Bool.and_eq_true, Bool.or_eq_true, Bool.or_eq_false_iff, Bool.not_eq_true', Bool.not_eq_false'] at hb); go_big_quiet_op; first | exact hK | (apply Exists.intro; refine ⟨fun _ => ?hc, ?hd⟩; (case hc => (first | (go_at_call 12; exact grow_of (c_Right _ _ _)))); exact hK))) ?_ | refine gsym_f _ rfl rfl (fun K hb hK => (by (try simp only [Bool.and_eq_true, Bool.or_eq_true, Bool.or_eq_false_iff, Bool.not_eq_true', Bool.not_eq_false'] at hb); go_big_quiet_op; first | exact hK | (apply Exists.intro; refine ⟨fun _ => ?hc, ?hd⟩; (case hc => (first | (go_at_call 12; exact grow_of (c_Right _ _ _)))); exact hK))) ?_ | refine gsym2_t _ rfl rfl (fun K hb hK => (by (try simp only [Bool.and_eq_true, Bool.or_eq_true, Bool.or_eq_false_iff, Bool.not_eq_true', Bool.not_eq_false'] at hb); go_big_quiet_op; first | exact hK | (apply Exists.intro; refine ⟨fun _ => ?hc, ?hd⟩; (case hc => (first | (go_at_call 12; exact grow_of (c_Right _ _ _)))); exact hK))) ?_ | refine gsym2_f _ rfl rfl (fun K hb hK => (by (try simp only [Bool.and_eq_true, Bool.or_eq_true, Bool.or_eq_false_iff, Bool.not_eq_true', Bool.not_eq_false'] at hb); go_big_quiet_op; first | exact hK | (apply Exists.intro; refine ⟨fun _ => ?hc, ?hd⟩; (case hc => (first | (go_at_call 12; exact grow_of (c_Right _ _ _)))); exact hK))) ?_); simp only [Act.put, List.setIfInBounds_toArray, List.set_cons_zero, List.set_cons_succ, Bool.not_not, gv_gv, gv_gv_and, gv_gv_and']))); (with_reducible refine wpQuiet_nil ?_); rintro _ ⟨g_, rfl⟩) | go_step)
  go_ret
  exact ret_of (by first | rfl | (simp [go_sem]; done) | (simp [go_sem]; rfl)) (by repeat first | exact up_refl _ | refine up_alloc ?_ _ | refine up_grow ?_ _ | refine up_drew ?_ | refine up_set ?_ (by simp) _)

set_option maxRecDepth 100000 in
set_option maxHeartbeats 1000000 in
theorem c_Leq (av am bv bm : BitVec 64) (w : World) :
    Calls Tryd.prog 19 #[.agg #[.int .u64 (uv av), .int .u64 (uv am)], .agg #[.int .u64 (uv bv), .int .u64 (uv bm)]] w (Ret w (.bool (T.leq ⟨av, am⟩ ⟨bv, bm⟩))) := by
  go_enter Tryd.func19, Tryd.ntmps19
  repeat' (first | (go_at_call 12; refine (c_Right _ _ _).mono ?_; rintro e w_ ⟨rfl, g_, rfl⟩; dsimp only) | ((with_reducible refine wp_region_pure ?hm ?hB ?hq); (case hm => kernel_rfl); (case hB => kernel_rfl); (repeat (first | go_big_quiet_step ((first | (go_at_call 12; exact grow_of (c_Right _ _ _)))) | ((first | refine gsym_t _ rfl rfl (fun K hb hK => (by (try simp only [Bool.and_eq_true, Bool.or_eq_true, Bool.or_eq_false_iff, Bool.not_eq_true', Bool.not_eq_false'] at hb); go_big_quiet_op; first | exact hK | (apply Exists.intro; refine ⟨fun _ => ?hc, ?hd⟩; (case hc => (first | (go_at_call 12; exact grow_of (c_Right _ _ _)))); exact hK))) ?_ | refine gsym_f _ rfl rfl (fun K hb hK => (by (try simp only [Bool.and_eq_true, Bool.or_eq_true, Bool.or_eq_false_iff, Bool.not_eq_true', Bool.not_eq_false'] at hb); go_big_quiet_op; first | exact hK | (apply Exists.intro; refine ⟨fun _ => ?hc, ?hd⟩; (case hc => (first | (go_at_call 12; exact grow_of (c_Right _ _ _)))); exact hK))) ?_ | refine gsym2_t _ rfl rfl (fun K hb hK => (by (try simp only [Bool.and_eq_true, Bool.or_eq_true, Bool.or_eq_false_iff, Bool.not_eq_true', Bool.not_eq_false'] at hb); go_big_quiet_op; first | exact hK | (apply Exists.intro; refine ⟨fun _ => ?hc, ?hd⟩; (case hc => (first | (go_at_call 12; exact grow_of (c_Right _ _ _)))); exact hK))) ?_ | refine gsym2_f _ rfl rfl (fun K hb hK => (by (try simp only [Bool.and_eq_true, Bool.or_eq_true, Bool.or_eq_false_iff, Bool.not_eq_true', Bool.not_eq_false'] at hb); go_big_quiet_op; first | exact hK | (apply Exists.intro; refine ⟨fun _ => ?hc, ?hd⟩; (case hc => (first | (go_at_call 12; exact grow_of (c_Right _ _ _)))); exact hK))) ?_); simp only [Act.put, List.setIfInBounds_toArray, List.set_cons_zero, List.set_cons_succ, Bool.not_not, gv_gv, gv_gv_and, gv_gv_and']))); (with_reducible refine wpQuiet_nil ?_); rintro _ ⟨g_, rfl⟩) | ((with_reducible refine wp_region_plain ?_); (repeat (first | go_big_quiet_step ((first | (go_at_call 12; exact grow_of (c_Right _ _ _)))) | ((first | refine gsym_t _ rfl rfl (fun K hb hK => (by (try simp only [Bool.and_eq_true, Bool.or_eq_true, Bool.or_eq_false_iff, Bool.not_eq_true', Bool.not_eq_false'] at hb); go_big_quiet_op; first | exact hK | (apply Exists.intro; refine ⟨fun _ => ?hc, ?hd⟩; (case hc => (first | (go_at_call 12; exact grow_of (c_Right _ _ _)))); exact hK))) ?_ | refine gsym_f _ rfl rfl (fun K hb hK => (by (try simp only [Bool.and_eq_true, Bool.or_eq_true, Bool.or_eq_false_iff, Bool.not_eq_true', Bool.not_eq_false'] at hb); go_big_quiet_op; first | exact hK | (apply Exists.intro; refine ⟨fun _ => ?hc, ?hd⟩; (case hc => (first | (go_at_call 12; exact grow_of (c_Right _ _ _)))); exact hK))) ?_ | refine gsym2_t _ rfl rfl (fun K hb hK => (by (try simp only [Bool.and_eq_true, Bool.or_eq_true, Bool.or_eq_false_iff, Bool.not_eq_true', Bool.not_eq_false'] at hb); go_big_quiet_op; first | exact hK | (apply Exists.intro; refine ⟨fun _ => ?hc, ?hd⟩; (case hc => (first | (go_at_call 12; exact grow_of (c_Right _ _ _)))); exact hK))) ?_ | refine gsym2_f _ rfl rfl (fun K hb hK => (by (try simp only [Bool.and_eq_true, Bool.or_eq_true, Bool.or_eq_false_iff, Bool.not_eq_true', Bool.not_eq_false'] at hb); go_big_quiet_op; first | exact hK | (apply Exists.intro; refine ⟨fun _ => ?hc, ?hd⟩; (case hc => (first | (go_at_call 12; exact grow_of (c_Right _ _ _)))); exact hK))) ?_); simp only [Act.put, List.setIfInBounds_toArray, List.set_cons_zero, List.set_cons_succ, Bool.not_not, gv_gv, gv_gv_and, gv_gv_and']))); (with_reducible refine wpQuiet_nil ?_); rintro _ ⟨g_, rfl⟩) | go_step)
  go_ret
  exact ret_of (by first | rfl | (simp [go_sem]; done) | (simp [go_sem]; rfl)) (by repeat first | exact up_refl _ | refine up_alloc ?_ _ | refine up_grow ?_ _ | refine up_drew ?_ | refine up_set ?_ (by simp) _)

set_option maxRecDepth 100000 in
set_option maxHeartbeats 1000000 in
theorem c_sum (av am bv bm : BitVec 64) (w : World) :
    Calls Tryd.prog 43 #[.agg #[.int .u64 (uv av), .int .u64 (uv am), .int .u64 (uv bv), .int .u64 (uv bm)]] w (Ret w (.agg #[.int .u64 (uv (T.sum ⟨av, am⟩ ⟨bv, bm⟩).v), .int .u64 (uv (T.sum ⟨av, am⟩ ⟨bv, bm⟩).m)])) := by
  go_enter Tryd.func43, Tryd.ntmps43
  go_wp2
  exact bodyPost_ret (v := .agg #[.int .u64 (uv (T.sum ⟨av, am⟩ ⟨bv, bm⟩).v), .int .u64 (uv (T.sum ⟨av, am⟩ ⟨bv, bm⟩).m)]) (by simp [results, Tryd.results43, go_sem] <;> (constructor <;> rfl)) rfl (ret_of rfl (by repeat first | exact up_refl _ | refine up_alloc ?_ _ | refine up_grow ?_ _ | refine up_drew ?_ | refine up_set ?_ (by simp) _))

set_option maxRecDepth 100000 in
set_option maxHeartbeats 1000000 in
theorem c_difference (av am bv bm : BitVec 64) (w : World) :
    Calls Tryd.prog 44 #[.agg #[.int .u64 (uv av), .int .u64 (uv am), .int .u64 (uv bv), .int .u64 (uv bm)]] w (Ret w (.agg #[.int .u64 (uv (T.difference ⟨av, am⟩ ⟨bv, bm⟩).v), .int .u64 (uv (T.difference ⟨av, am⟩ ⟨bv, bm⟩).m)])) := by
  go_enter Tryd.func44, Tryd.ntmps44
  go_wp2
  exact bodyPost_ret (v := .agg #[.int .u64 (uv (T.difference ⟨av, am⟩ ⟨bv, bm⟩).v), .int .u64 (uv (T.difference ⟨av, am⟩ ⟨bv, bm⟩).m)]) (by simp [results, Tryd.results44, go_sem] <;> (constructor <;> rfl)) rfl (ret_of rfl (by repeat first | exact up_refl _ | refine up_alloc ?_ _ | refine up_grow ?_ _ | refine up_drew ?_ | refine up_set ?_ (by simp) _))

set_option maxRecDepth 100000 in
set_option maxHeartbeats 1000000 in
theorem c_and (av am bv bm : BitVec 64) (w : World) :
    Calls Tryd.prog 45 #[.agg #[.int .u64 (uv av), .int .u64 (uv am), .int .u64 (uv bv), .int .u64 (uv bm)]] w (Ret w (.agg #[.int .u64 (uv (T.and ⟨av, am⟩ ⟨bv, bm⟩).v), .int .u64 (uv (T.and ⟨av, am⟩ ⟨bv, bm⟩).m)])) := by
  go_enter Tryd.func45, Tryd.ntmps45
  go_wp2
  exact bodyPost_ret (v := .agg #[.int .u64 (uv (T.and ⟨av, am⟩ ⟨bv, bm⟩).v), .int .u64 (uv (T.and ⟨av, am⟩ ⟨bv, bm⟩).m)]) (by simp [results, Tryd.results45, go_sem] <;> (constructor <;> rfl)) rfl (ret_of rfl (by repeat first | exact up_refl _ | refine up_alloc ?_ _ | refine up_grow ?_ _ | refine up_drew ?_ | refine up_set ?_ (by simp) _))

set_option maxRecDepth 100000 in
set_option maxHeartbeats 1000000 in
theorem c_or (av am bv bm : BitVec 64) (w : World) :
    Calls Tryd.prog 46 #[.agg #[.int .u64 (uv av), .int .u64 (uv am), .int .u64 (uv bv), .int .u64 (uv bm)]] w (Ret w (.agg #[.int .u64 (uv (T.or ⟨av, am⟩ ⟨bv, bm⟩).v), .int .u64 (uv (T.or ⟨av, am⟩ ⟨bv, bm⟩).m)])) := by
  go_enter Tryd.func46, Tryd.ntmps46
  go_wp2
  exact bodyPost_ret (v := .agg #[.int .u64 (uv (T.or ⟨av, am⟩ ⟨bv, bm⟩).v), .int .u64 (uv (T.or ⟨av, am⟩ ⟨bv, bm⟩).m)]) (by simp [results, Tryd.results46, go_sem] <;> (constructor <;> rfl)) rfl (ret_of rfl (by repeat first | exact up_refl _ | refine up_alloc ?_ _ | refine up_grow ?_ _ | refine up_drew ?_ | refine up_set ?_ (by simp) _))

set_option maxRecDepth 100000 in
set_option maxHeartbeats 1000000 in
theorem c_xor (av am bv bm : BitVec 64) (w : World) :
    Calls Tryd.prog 47 #[.agg #[.int .u64 (uv av), .int .u64 (uv am), .int .u64 (uv bv), .int .u64 (uv bm)]] w (Ret w (.agg #[.int .u64 (uv (T.xor ⟨av, am⟩ ⟨bv, bm⟩).v), .int .u64 (uv (T.xor ⟨av, am⟩ ⟨bv, bm⟩).m)])) := by
  go_enter Tryd.func47, Tryd.ntmps47
  go_wp2
  exact bodyPost_ret (v := .agg #[.int .u64 (uv (T.xor ⟨av, am⟩ ⟨bv, bm⟩).v), .int .u64 (uv (T.xor ⟨av, am⟩ ⟨bv, bm⟩).m)]) (by simp [results, Tryd.results47, go_sem] <;> (constructor <;> rfl)) rfl (ret_of rfl (by repeat first | exact up_refl _ | refine up_alloc ?_ _ | refine up_grow ?_ _ | refine up_drew ?_ | refine up_set ?_ (by simp) _))

end Go.Proofs.YtbiebicooaepfaaDoor
