import Derived.Test.YtddcaklgflfkeaaGreatDoorX31
import Derived.Test.YtddcaklgflfkeaaGreatDoorX9
namespace Go.Proofs.YtddcaklgflfkeaaGreatDoor
open Go.RowKit Go.Sx
set_option linter.unusedSimpArgs false
set_option linter.unusedVariables false
set_option linter.unnecessarySimpa false
set_option maxRecDepth 100000
set_option maxHeartbeats 4000000

namespace V
def sum (a : Ab) (n : Sc) : Sc := (A.does 0 0 true a.n n).1
def far (a : Ab) (n : Sc) : Bool := decide (n.s.sl < 0) || (decide (BitVec.ofInt 64 65536 < n.s.hi) || (decide ((sum a n).s.sl < 0) || decide (BitVec.ofInt 64 1048576 < (sum a n).s.hi)))
def add (a : Ab) (n : Sc) (minus : Bool) (id : Int) : Ab × Int :=
  if right a && (C.right n && !decide (id < 1)) then
    if pointer a then
      if (C.one n).2 then further a (sv (C.one n).1) minus
      else if minus || (a.k == 2 || a.k == 3) then (zero, 31)
      else if far a n then (zero, 32)
      else if a.k == 4 then (⟨a.k, sum a n, a.of, a.mp, id, 0, a.nu⟩, 0) else (⟨a.k, sum a n, a.of, a.mp, a.id, a.rm, a.nu⟩, 0)
    else (zero, 31)
  else (zero, 2)
section
variable {p : Ab} {n : Sc} {minus : Bool} {id : Int} (h1 : right p = true) (h2 : C.right n = true) (h3 : decide (id < 1) = false) (h4 : pointer p = true) (h5 : (C.one n).2 = false) (h6 : minus = false) (h7 : (p.k == 2) = false) (h8 : (p.k == 3) = false) (f1 : decide (n.s.sl < 0) = false) (f2 : decide (BitVec.ofInt 64 65536 < n.s.hi) = false) (f3 : decide ((A.does 0 0 true p.n n).1.s.sl < 0) = false) (f4 : decide (BitVec.ofInt 64 1048576 < (A.does 0 0 true p.n n).1.s.hi) = false)
include h1 h2 h3 h4 h5 h6 h7 h8 f1 f2 f3 f4
theorem add_6 (h : (p.k == 4) = true) : add p n minus id = (⟨p.k, (A.does 0 0 true p.n n).1, p.of, p.mp, id, 0, p.nu⟩, 0) := by
  unfold add far sum
  rw [h1, h2, h3, h4, h5, h6, h7, h8, f1, f2, f3, f4, h]; rfl
theorem add_7 (h : (p.k == 4) = false) : add p n minus id = (⟨p.k, (A.does 0 0 true p.n n).1, p.of, p.mp, p.id, p.rm, p.nu⟩, 0) := by
  unfold add far sum
  rw [h1, h2, h3, h4, h5, h6, h7, h8, f1, f2, f3, f4, h]; rfl
end
theorem eqv_r {x : Ab × Int} {k : Int} {v m lo hi : BitVec 64} {sl sh of mp id rm : Int} {nu : Bool} {e : Int} (h : x = (⟨k, ⟨⟨v, m⟩, ⟨lo, hi, sl, sh⟩⟩, of, mp, id, rm, nu⟩, e)) : eqv (.tup [.agg [.int .u8 k, .u64 v, .u64 m, .u64 lo, .u64 hi, .int .i64 sl, .int .i64 sh, .int .i64 of, .int .i64 mp, .int .i64 id, .int .i64 rm, .bool nu], .int .i64 e]) (.tup [abv x.1, .int .i64 x.2]) := by
  subst h; exact ⟨by simp [eqv2, eqvL1, eqv1], by simp [eqvL2, eqv2, eqv1]⟩
end V
attribute [local irreducible] V.near V.right V.pointer A.does C.one C.right R.inS
def k_vfurther : List SV → List Blk → Res := fun args _ => match args with
  | [.agg [.int .u8 ak, .u64 av, .u64 am, .u64 alo, .u64 ahi, .int .i64 asl, .int .i64 ash, .int .i64 aof, .int .i64 amp, .int .i64 aid, .int .i64 arm, .bool anu], .int .i64 c, .tt] => .ok (.tup [abv (V.further (⟨ak, (⟨⟨av, am⟩, ⟨alo, ahi, asl, ash⟩⟩ : Sc), aof, amp, aid, arm, anu⟩ : Ab) c true).1, .int .i64 (V.further (⟨ak, (⟨⟨av, am⟩, ⟨alo, ahi, asl, ash⟩⟩ : Sc), aof, amp, aid, arm, anu⟩ : Ab) c true).2]) []
  | [.agg [.int .u8 ak, .u64 av, .u64 am, .u64 alo, .u64 ahi, .int .i64 asl, .int .i64 ash, .int .i64 aof, .int .i64 amp, .int .i64 aid, .int .i64 arm, .bool anu], .int .i64 c, .ff] => .ok (.tup [abv (V.further (⟨ak, (⟨⟨av, am⟩, ⟨alo, ahi, asl, ash⟩⟩ : Sc), aof, amp, aid, arm, anu⟩ : Ab) c false).1, .int .i64 (V.further (⟨ak, (⟨⟨av, am⟩, ⟨alo, ahi, asl, ash⟩⟩ : Sc), aof, amp, aid, arm, anu⟩ : Ab) c false).2]) []
  | [.agg [.int .u8 ak, .u64 av, .u64 am, .u64 alo, .u64 ahi, .int .i64 asl, .int .i64 ash, .int .i64 aof, .int .i64 amp, .int .i64 aid, .int .i64 arm, .bool anu], .int .i64 c, .bool m] => .ok (.tup [abv (V.further (⟨ak, (⟨⟨av, am⟩, ⟨alo, ahi, asl, ash⟩⟩ : Sc), aof, amp, aid, arm, anu⟩ : Ab) c m).1, .int .i64 (V.further (⟨ak, (⟨⟨av, am⟩, ⟨alo, ahi, asl, ash⟩⟩ : Sc), aof, amp, aid, arm, anu⟩ : Ab) c m).2]) []
  | _ => .fail
theorem k_vfurther_ok : CtrOk Tryz.prog Gw 22 k_vfurther := by
  refine ⟨fun _ _ => by kernel_rfl, fun args M => ?_⟩
  unfold k_vfurther
  split
  · rename_i ak av am alo ahi asl ash aof amp aid arm anu c
    refine ctr_flat (Γ := ⟨[(26, k_vnear)], eqs, [], [], []⟩) (sv := .tup [abv (V.further (⟨ak, (⟨⟨av, am⟩, ⟨alo, ahi, asl, ash⟩⟩ : Sc), aof, amp, aid, arm, anu⟩ : Ab) c true).1, .int .i64 (V.further (⟨ak, (⟨⟨av, am⟩, ⟨alo, ahi, asl, ash⟩⟩ : Sc), aof, amp, aid, arm, anu⟩ : Ab) c true).2]) st_Gw ⟨(okCons k_vnear_ok okNil), eqs_ok, okNilB, okNilI, okNilP⟩ Tryz.func22 rfl mixed [] (by kernel_rfl) 10000 (by rfl) ?_
    (conv => whnf)
    (repeat' (first | (refine step_t (by first | rfl | assumption) ?_; (conv => whnf)) | (refine step_f (by first | rfl | assumption) ?_; (conv => whnf)) | (refine step_nt (by assumption) ?_; (conv => whnf)) | (refine step_nf (by assumption) ?_; (conv => whnf)) | (refine step_n (fun hb => ?_) (fun hb => ?_) <;> (first | contradiction | (conv => whnf))) | (refine And.intro (fun hb => ?_) (fun hb => ?_) <;> (first | contradiction | (conv => whnf))) | (refine And.intro (a := (_ : Bool) = true) ?_ ?_; rotate_left 1; (conv => whnf))))
    all_goals (first | rfl | trivial | assumption | (simp_all [eqv, eqv1, eqv2, eqvL1, eqvL2, V.further, V.zero, V.zs]; done) | (simp_all [eqv, eqv1, eqv2, eqvL1, eqvL2, V.further, V.zero, V.zs]; intros; omega) )
  · rename_i ak av am alo ahi asl ash aof amp aid arm anu c
    refine ctr_flat (Γ := ⟨[(26, k_vnear)], eqs, [], [], []⟩) (sv := .tup [abv (V.further (⟨ak, (⟨⟨av, am⟩, ⟨alo, ahi, asl, ash⟩⟩ : Sc), aof, amp, aid, arm, anu⟩ : Ab) c false).1, .int .i64 (V.further (⟨ak, (⟨⟨av, am⟩, ⟨alo, ahi, asl, ash⟩⟩ : Sc), aof, amp, aid, arm, anu⟩ : Ab) c false).2]) st_Gw ⟨(okCons k_vnear_ok okNil), eqs_ok, okNilB, okNilI, okNilP⟩ Tryz.func22 rfl mixed [] (by kernel_rfl) 10000 (by rfl) ?_
    (conv => whnf)
    (repeat' (first | (refine step_t (by first | rfl | assumption) ?_; (conv => whnf)) | (refine step_f (by first | rfl | assumption) ?_; (conv => whnf)) | (refine step_nt (by assumption) ?_; (conv => whnf)) | (refine step_nf (by assumption) ?_; (conv => whnf)) | (refine step_n (fun hb => ?_) (fun hb => ?_) <;> (first | contradiction | (conv => whnf))) | (refine And.intro (fun hb => ?_) (fun hb => ?_) <;> (first | contradiction | (conv => whnf))) | (refine And.intro (a := (_ : Bool) = true) ?_ ?_; rotate_left 1; (conv => whnf))))
    all_goals (first | rfl | trivial | assumption | (simp_all [eqv, eqv1, eqv2, eqvL1, eqvL2, V.further, V.zero, V.zs]; done) | (simp_all [eqv, eqv1, eqv2, eqvL1, eqvL2, V.further, V.zero, V.zs]; intros; omega) )
  · rename_i ak av am alo ahi asl ash aof amp aid arm anu c m
    refine ctr_flat (Γ := ⟨[(26, k_vnear)], eqs, [], [], []⟩) (sv := .tup [abv (V.further (⟨ak, (⟨⟨av, am⟩, ⟨alo, ahi, asl, ash⟩⟩ : Sc), aof, amp, aid, arm, anu⟩ : Ab) c m).1, .int .i64 (V.further (⟨ak, (⟨⟨av, am⟩, ⟨alo, ahi, asl, ash⟩⟩ : Sc), aof, amp, aid, arm, anu⟩ : Ab) c m).2]) st_Gw ⟨(okCons k_vnear_ok okNil), eqs_ok, okNilB, okNilI, okNilP⟩ Tryz.func22 rfl mixed [] (by kernel_rfl) 10000 (by rfl) ?_
    (conv => whnf)
    (repeat' (first | (refine step_t (by first | rfl | assumption) ?_; (conv => whnf)) | (refine step_f (by first | rfl | assumption) ?_; (conv => whnf)) | (refine step_nt (by assumption) ?_; (conv => whnf)) | (refine step_nf (by assumption) ?_; (conv => whnf)) | (refine step_n (fun hb => ?_) (fun hb => ?_) <;> (first | contradiction | (conv => whnf))) | (refine And.intro (fun hb => ?_) (fun hb => ?_) <;> (first | contradiction | (conv => whnf))) | (refine And.intro (a := (_ : Bool) = true) ?_ ?_; rotate_left 1; (conv => whnf))))
    all_goals (first | rfl | trivial | assumption | (simp_all [eqv, eqv1, eqv2, eqvL1, eqvL2, V.further, V.zero, V.zs]; done) | (simp_all [eqv, eqv1, eqv2, eqvL1, eqvL2, V.further, V.zero, V.zs]; intros; omega) )
  · trivial
def k_vAdd : List SV → List Blk → Res := fun args _ => match args with
  | [.agg [.int .u8 ak, .u64 av, .u64 am, .u64 alo, .u64 ahi, .int .i64 asl, .int .i64 ash, .int .i64 aof, .int .i64 amp, .int .i64 aid, .int .i64 arm, .bool anu], .agg [.u64 nv, .u64 nm, .u64 nlo, .u64 nhi, .int .i64 nsl, .int .i64 nsh], .tt, .int .i64 id] => .test (R.inS ⟨alo, ahi, asl, ash⟩ && R.inS ⟨nlo, nhi, nsl, nsh⟩) (.ok (.tup [abv (V.add (⟨ak, (⟨⟨av, am⟩, ⟨alo, ahi, asl, ash⟩⟩ : Sc), aof, amp, aid, arm, anu⟩ : Ab) (⟨⟨nv, nm⟩, ⟨nlo, nhi, nsl, nsh⟩⟩ : Sc) true id).1, .int .i64 (V.add (⟨ak, (⟨⟨av, am⟩, ⟨alo, ahi, asl, ash⟩⟩ : Sc), aof, amp, aid, arm, anu⟩ : Ab) (⟨⟨nv, nm⟩, ⟨nlo, nhi, nsl, nsh⟩⟩ : Sc) true id).2]) [])
  | [.agg [.int .u8 ak, .u64 av, .u64 am, .u64 alo, .u64 ahi, .int .i64 asl, .int .i64 ash, .int .i64 aof, .int .i64 amp, .int .i64 aid, .int .i64 arm, .bool anu], .agg [.u64 nv, .u64 nm, .u64 nlo, .u64 nhi, .int .i64 nsl, .int .i64 nsh], .ff, .int .i64 id] => .test (R.inS ⟨alo, ahi, asl, ash⟩ && R.inS ⟨nlo, nhi, nsl, nsh⟩) (.ok (.tup [abv (V.add (⟨ak, (⟨⟨av, am⟩, ⟨alo, ahi, asl, ash⟩⟩ : Sc), aof, amp, aid, arm, anu⟩ : Ab) (⟨⟨nv, nm⟩, ⟨nlo, nhi, nsl, nsh⟩⟩ : Sc) false id).1, .int .i64 (V.add (⟨ak, (⟨⟨av, am⟩, ⟨alo, ahi, asl, ash⟩⟩ : Sc), aof, amp, aid, arm, anu⟩ : Ab) (⟨⟨nv, nm⟩, ⟨nlo, nhi, nsl, nsh⟩⟩ : Sc) false id).2]) [])
  | [.agg [.int .u8 ak, .u64 av, .u64 am, .u64 alo, .u64 ahi, .int .i64 asl, .int .i64 ash, .int .i64 aof, .int .i64 amp, .int .i64 aid, .int .i64 arm, .bool anu], .agg [.u64 nv, .u64 nm, .u64 nlo, .u64 nhi, .int .i64 nsl, .int .i64 nsh], .bool m, .int .i64 id] => .test (R.inS ⟨alo, ahi, asl, ash⟩ && R.inS ⟨nlo, nhi, nsl, nsh⟩) (.ok (.tup [abv (V.add (⟨ak, (⟨⟨av, am⟩, ⟨alo, ahi, asl, ash⟩⟩ : Sc), aof, amp, aid, arm, anu⟩ : Ab) (⟨⟨nv, nm⟩, ⟨nlo, nhi, nsl, nsh⟩⟩ : Sc) m id).1, .int .i64 (V.add (⟨ak, (⟨⟨av, am⟩, ⟨alo, ahi, asl, ash⟩⟩ : Sc), aof, amp, aid, arm, anu⟩ : Ab) (⟨⟨nv, nm⟩, ⟨nlo, nhi, nsl, nsh⟩⟩ : Sc) m id).2]) [])
  | _ => .fail
theorem k_vAdd_ok : CtrOk Tryz.prog Gw 8 k_vAdd := by
  refine ⟨fun _ _ => by kernel_rfl, fun args M => ?_⟩
  unfold k_vAdd
  split
  · rename_i ak av am alo ahi asl ash aof amp aid arm anu nv nm nlo nhi nsl nsh id
    intro ht
    have hq := S.and_true2 ht
    have hq1 := hq.1
    have hq2 := hq.2
    refine ctr_flat (Γ := ⟨[(12, k_vRight), (19, k_cRight), (20, k_vpointer), (21, k_cOne), (22, k_vfurther), (23, k_ado)], eqs, [], [], []⟩) (sv := .tup [abv (V.add (⟨ak, (⟨⟨av, am⟩, ⟨alo, ahi, asl, ash⟩⟩ : Sc), aof, amp, aid, arm, anu⟩ : Ab) (⟨⟨nv, nm⟩, ⟨nlo, nhi, nsl, nsh⟩⟩ : Sc) true id).1, .int .i64 (V.add (⟨ak, (⟨⟨av, am⟩, ⟨alo, ahi, asl, ash⟩⟩ : Sc), aof, amp, aid, arm, anu⟩ : Ab) (⟨⟨nv, nm⟩, ⟨nlo, nhi, nsl, nsh⟩⟩ : Sc) true id).2]) st_Gw ⟨(okCons k_vRight_ok (okCons k_cRight_ok (okCons k_vpointer_ok (okCons k_cOne_ok (okCons k_vfurther_ok (okCons k_ado_ok okNil)))))), eqs_ok, okNilB, okNilI, okNilP⟩ Tryz.func8 rfl mixed [] (by kernel_rfl) 10000 (by rfl) ?_
    (conv => whnf)
    (repeat' (first | (refine step_t (by first | rfl | assumption) ?_; (conv => whnf)) | (refine step_f (by first | rfl | assumption) ?_; (conv => whnf)) | (refine step_nt (by assumption) ?_; (conv => whnf)) | (refine step_nf (by assumption) ?_; (conv => whnf)) | (refine step_n (fun hb => ?_) (fun hb => ?_) <;> (first | contradiction | (conv => whnf))) | (refine And.intro (fun hb => ?_) (fun hb => ?_) <;> (first | contradiction | (conv => whnf))) | (refine And.intro (a := (_ : Bool) = true) ?_ ?_; rotate_left 1; (conv => whnf))))
    all_goals (first | rfl | trivial | assumption | exact V.eqv_r (V.add_6 (by first | rfl | assumption) (by first | rfl | assumption) (by first | rfl | assumption) (by first | rfl | assumption) (by first | rfl | assumption) (by first | rfl | assumption) (by first | rfl | assumption) (by first | rfl | assumption) (by first | rfl | assumption) (by first | rfl | assumption) (by first | rfl | assumption) (by first | rfl | assumption) (by first | rfl | assumption)) | exact V.eqv_r (V.add_7 (by first | rfl | assumption) (by first | rfl | assumption) (by first | rfl | assumption) (by first | rfl | assumption) (by first | rfl | assumption) (by first | rfl | assumption) (by first | rfl | assumption) (by first | rfl | assumption) (by first | rfl | assumption) (by first | rfl | assumption) (by first | rfl | assumption) (by first | rfl | assumption) (by first | rfl | assumption)) | (simp_all [eqv, eqv1, eqv2, eqvL1, eqvL2, V.add, V.zero, V.zs, V.sum, V.far]; done) | (simp_all [eqv, eqv1, eqv2, eqvL1, eqvL2, V.add, V.zero, V.zs, V.sum, V.far]; intros; omega) )
  · rename_i ak av am alo ahi asl ash aof amp aid arm anu nv nm nlo nhi nsl nsh id
    intro ht
    have hq := S.and_true2 ht
    have hq1 := hq.1
    have hq2 := hq.2
    refine ctr_flat (Γ := ⟨[(12, k_vRight), (19, k_cRight), (20, k_vpointer), (21, k_cOne), (22, k_vfurther), (23, k_ado)], eqs, [], [], []⟩) (sv := .tup [abv (V.add (⟨ak, (⟨⟨av, am⟩, ⟨alo, ahi, asl, ash⟩⟩ : Sc), aof, amp, aid, arm, anu⟩ : Ab) (⟨⟨nv, nm⟩, ⟨nlo, nhi, nsl, nsh⟩⟩ : Sc) false id).1, .int .i64 (V.add (⟨ak, (⟨⟨av, am⟩, ⟨alo, ahi, asl, ash⟩⟩ : Sc), aof, amp, aid, arm, anu⟩ : Ab) (⟨⟨nv, nm⟩, ⟨nlo, nhi, nsl, nsh⟩⟩ : Sc) false id).2]) st_Gw ⟨(okCons k_vRight_ok (okCons k_cRight_ok (okCons k_vpointer_ok (okCons k_cOne_ok (okCons k_vfurther_ok (okCons k_ado_ok okNil)))))), eqs_ok, okNilB, okNilI, okNilP⟩ Tryz.func8 rfl mixed [] (by kernel_rfl) 10000 (by rfl) ?_
    (conv => whnf)
    (repeat' (first | (refine step_t (by first | rfl | assumption) ?_; (conv => whnf)) | (refine step_f (by first | rfl | assumption) ?_; (conv => whnf)) | (refine step_nt (by assumption) ?_; (conv => whnf)) | (refine step_nf (by assumption) ?_; (conv => whnf)) | (refine step_n (fun hb => ?_) (fun hb => ?_) <;> (first | contradiction | (conv => whnf))) | (refine And.intro (fun hb => ?_) (fun hb => ?_) <;> (first | contradiction | (conv => whnf))) | (refine And.intro (a := (_ : Bool) = true) ?_ ?_; rotate_left 1; (conv => whnf))))
    all_goals (first | rfl | trivial | assumption | exact V.eqv_r (V.add_6 (by first | rfl | assumption) (by first | rfl | assumption) (by first | rfl | assumption) (by first | rfl | assumption) (by first | rfl | assumption) (by first | rfl | assumption) (by first | rfl | assumption) (by first | rfl | assumption) (by first | rfl | assumption) (by first | rfl | assumption) (by first | rfl | assumption) (by first | rfl | assumption) (by first | rfl | assumption)) | exact V.eqv_r (V.add_7 (by first | rfl | assumption) (by first | rfl | assumption) (by first | rfl | assumption) (by first | rfl | assumption) (by first | rfl | assumption) (by first | rfl | assumption) (by first | rfl | assumption) (by first | rfl | assumption) (by first | rfl | assumption) (by first | rfl | assumption) (by first | rfl | assumption) (by first | rfl | assumption) (by first | rfl | assumption)) | (simp_all [eqv, eqv1, eqv2, eqvL1, eqvL2, V.add, V.zero, V.zs, V.sum, V.far]; done) | (simp_all [eqv, eqv1, eqv2, eqvL1, eqvL2, V.add, V.zero, V.zs, V.sum, V.far]; intros; omega) )
  · rename_i ak av am alo ahi asl ash aof amp aid arm anu nv nm nlo nhi nsl nsh m id
    intro ht
    have hq := S.and_true2 ht
    have hq1 := hq.1
    have hq2 := hq.2
    refine ctr_flat (Γ := ⟨[(12, k_vRight), (19, k_cRight), (20, k_vpointer), (21, k_cOne), (22, k_vfurther), (23, k_ado)], eqs, [], [], []⟩) (sv := .tup [abv (V.add (⟨ak, (⟨⟨av, am⟩, ⟨alo, ahi, asl, ash⟩⟩ : Sc), aof, amp, aid, arm, anu⟩ : Ab) (⟨⟨nv, nm⟩, ⟨nlo, nhi, nsl, nsh⟩⟩ : Sc) m id).1, .int .i64 (V.add (⟨ak, (⟨⟨av, am⟩, ⟨alo, ahi, asl, ash⟩⟩ : Sc), aof, amp, aid, arm, anu⟩ : Ab) (⟨⟨nv, nm⟩, ⟨nlo, nhi, nsl, nsh⟩⟩ : Sc) m id).2]) st_Gw ⟨(okCons k_vRight_ok (okCons k_cRight_ok (okCons k_vpointer_ok (okCons k_cOne_ok (okCons k_vfurther_ok (okCons k_ado_ok okNil)))))), eqs_ok, okNilB, okNilI, okNilP⟩ Tryz.func8 rfl mixed [] (by kernel_rfl) 10000 (by rfl) ?_
    (conv => whnf)
    (repeat' (first | (refine step_t (by first | rfl | assumption) ?_; (conv => whnf)) | (refine step_f (by first | rfl | assumption) ?_; (conv => whnf)) | (refine step_nt (by assumption) ?_; (conv => whnf)) | (refine step_nf (by assumption) ?_; (conv => whnf)) | (refine step_n (fun hb => ?_) (fun hb => ?_) <;> (first | contradiction | (conv => whnf))) | (refine And.intro (fun hb => ?_) (fun hb => ?_) <;> (first | contradiction | (conv => whnf))) | (refine And.intro (a := (_ : Bool) = true) ?_ ?_; rotate_left 1; (conv => whnf))))
    all_goals (first | rfl | trivial | assumption | exact V.eqv_r (V.add_6 (by first | rfl | assumption) (by first | rfl | assumption) (by first | rfl | assumption) (by first | rfl | assumption) (by first | rfl | assumption) (by first | rfl | assumption) (by first | rfl | assumption) (by first | rfl | assumption) (by first | rfl | assumption) (by first | rfl | assumption) (by first | rfl | assumption) (by first | rfl | assumption) (by first | rfl | assumption)) | exact V.eqv_r (V.add_7 (by first | rfl | assumption) (by first | rfl | assumption) (by first | rfl | assumption) (by first | rfl | assumption) (by first | rfl | assumption) (by first | rfl | assumption) (by first | rfl | assumption) (by first | rfl | assumption) (by first | rfl | assumption) (by first | rfl | assumption) (by first | rfl | assumption) (by first | rfl | assumption) (by first | rfl | assumption)) | (simp_all [eqv, eqv1, eqv2, eqvL1, eqvL2, V.add, V.zero, V.zs, V.sum, V.far]; done) | (simp_all [eqv, eqv1, eqv2, eqvL1, eqvL2, V.add, V.zero, V.zs, V.sum, V.far]; intros; omega) )
  · trivial
end Go.Proofs.YtddcaklgflfkeaaGreatDoor
namespace Go.Proofs.YtddcaklgflfkeaaGreatDoor
open Go.RowKit Go.Sx
set_option linter.unusedSimpArgs false
set_option linter.unusedVariables false
set_option linter.unnecessarySimpa false
set_option maxRecDepth 100000
set_option maxHeartbeats 4000000
attribute [local irreducible] V.near V.right R.inS
def k_vTouch : List SV → List Blk → Res := fun args _ => match args with
  | [.agg [.int .u8 ak, .u64 av, .u64 am, .u64 alo, .u64 ahi, .int .i64 asl, .int .i64 ash, .int .i64 aof, .int .i64 amp, .int .i64 aid, .int .i64 arm, .bool anu], .int .i64 off, .int .i64 size, .agg [.int .u8 mk, .int .i64 mkey, .int .i64 mval, .int .i64 mmax]] => .test (R.inS ⟨alo, ahi, asl, ash⟩) (.ok (.int .i64 (V.touch (⟨ak, (⟨⟨av, am⟩, ⟨alo, ahi, asl, ash⟩⟩ : Sc), aof, amp, aid, arm, anu⟩ : Ab) off size mval)) [])
  | _ => .fail
theorem k_vTouch_ok : CtrOk Tryz.prog Gw 10 k_vTouch := by
  refine ⟨fun _ _ => by kernel_rfl, fun args M => ?_⟩
  unfold k_vTouch
  split
  · rename_i ak av am alo ahi asl ash aof amp aid arm anu off size mk mkey mval mmax
    intro ht
    refine ctr_flat (Γ := ⟨[(12, k_vRight), (26, k_vnear), (27, k_vhas)], eqs, [], [], []⟩) (sv := .int .i64 (V.touch (⟨ak, (⟨⟨av, am⟩, ⟨alo, ahi, asl, ash⟩⟩ : Sc), aof, amp, aid, arm, anu⟩ : Ab) off size mval)) st_Gw ⟨(okCons k_vRight_ok (okCons k_vnear_ok (okCons k_vhas_ok okNil))), eqs_ok, okNilB, okNilI, okNilP⟩ Tryz.func10 rfl mixed [(6, 9, [0, 1, 0, 7, 0, 16, 0, 112, 15, 511]), (8, 15, [0, 0, 2, 6, 14, 30, 63, 0, 0, 256, 768, 1792, 3840, 8064, 127, 32767])] (by kernel_rfl) 10000 (by rfl) ?_
    (conv => whnf)
    (repeat' (first | (refine step_t (by first | rfl | assumption) ?_; (conv => whnf)) | (refine step_f (by first | rfl | assumption) ?_; (conv => whnf)) | (refine step_nt (by assumption) ?_; (conv => whnf)) | (refine step_nf (by assumption) ?_; (conv => whnf)) | (refine step_n (fun hb => ?_) (fun hb => ?_) <;> (first | contradiction | (conv => whnf))) | (refine And.intro (fun hb => ?_) (fun hb => ?_) <;> (first | contradiction | (conv => whnf))) | (refine And.intro (a := (_ : Bool) = true) ?_ ?_; rotate_left 1; (conv => whnf))))
    all_goals (first | rfl | trivial | assumption | (simp_all [eqv, eqv1, eqv2, eqvL1, eqvL2, V.touch, V.over]; done) | (simp_all [eqv, eqv1, eqv2, eqvL1, eqvL2, V.touch, V.over]; intros; omega) )
  · trivial
end Go.Proofs.YtddcaklgflfkeaaGreatDoor
namespace Go.Proofs.YtddcaklgflfkeaaGreatDoor
open Go.RowKit Go.Sx
set_option linter.unusedSimpArgs false
set_option linter.unusedVariables false
set_option linter.unnecessarySimpa false
set_option maxRecDepth 100000
set_option maxHeartbeats 4000000

namespace V
def stands (a : Ab) (v : BitVec 64) (long : Int) : Bool := if a.k == 1 || (a.k == 7 || a.k == 8) then C.hasb a.n v else if a.k == 4 then C.hasb a.n v && decide (wr (sv v + a.rm) ≤ long) else true
end V
def k_vpacket : List SV → List Blk → Res := fun args _ => match args with
  | [.int .i64 r] => .ok (abv ⟨4, C.const (BitVec.ofInt 64 0), 0, 0, 0, r, false⟩) []
  | _ => .fail
theorem k_vpacket_ok : CtrOk Tryz.prog Gw 18 k_vpacket := by
  refine ⟨fun _ _ => by kernel_rfl, fun args M => ?_⟩
  unfold k_vpacket
  split
  · rename_i r
    refine ctr_flat (Γ := ⟨[(9, k_cConst)], eqs, [], [], []⟩) (sv := abv ⟨4, C.const (BitVec.ofInt 64 0), 0, 0, 0, r, false⟩) st_Gw ⟨(okCons k_cConst_ok okNil), eqs_ok, okNilB, okNilI, okNilP⟩ Tryz.func18 rfl mixed [] (by kernel_rfl) 10000 (by rfl) ?_
    (conv => whnf)
    (repeat' (first | (refine step_t (by first | rfl | assumption) ?_; (conv => whnf)) | (refine step_f (by first | rfl | assumption) ?_; (conv => whnf)) | (refine step_nt (by assumption) ?_; (conv => whnf)) | (refine step_nf (by assumption) ?_; (conv => whnf)) | (refine step_n (fun hb => ?_) (fun hb => ?_) <;> (first | contradiction | (conv => whnf))) | (refine And.intro (fun hb => ?_) (fun hb => ?_) <;> (first | contradiction | (conv => whnf))) | (refine And.intro (a := (_ : Bool) = true) ?_ ?_; rotate_left 1; (conv => whnf))))
    all_goals (first | rfl | trivial | assumption | (simp_all [eqv, eqv1, eqv2, eqvL1, eqvL2, ]; done) | (simp_all [eqv, eqv1, eqv2, eqvL1, eqvL2, ]; intros; omega) )
  · trivial
def k_awake22 : List SV → List Blk → Res := fun args _ => match args with
  | [] => .ok (.bool true) []
  | _ => .fail
theorem k_awake22_ok : CtrOk Tryz.prog Gw 7 k_awake22 := by
  refine ⟨fun _ _ => by kernel_rfl, fun args M => ?_⟩
  unfold k_awake22
  split
  · refine ctr_flat (Γ := ⟨[(8, k_vAdd), (10, k_vTouch), (9, k_cConst), (14, k_Of), (18, k_vpacket)], eqs, [], [], []⟩) (sv := .bool true) st_Gw ⟨(okCons k_vAdd_ok (okCons k_vTouch_ok (okCons k_cConst_ok (okCons k_Of_ok (okCons k_vpacket_ok okNil))))), eqs_ok, okNilB, okNilI, okNilP⟩ Tryz.func7 rfl mixed [(3, 7, [0, 0, 3, 7, 15, 15, 0, 95, 255])] (by kernel_rfl) 10000 (by rfl) ?_
    (conv => whnf)
    (repeat' (first | (refine step_t (by kernel_rfl) ?_; (conv => whnf)) | (refine step_f (by kernel_rfl) ?_; (conv => whnf)) | (refine step_nt (by assumption) ?_; (conv => whnf)) | (refine step_nf (by assumption) ?_; (conv => whnf)) | (refine step_n (fun hb => ?_) (fun hb => ?_) <;> (first | contradiction | (conv => whnf))) | (refine And.intro (fun hb => ?_) (fun hb => ?_) <;> (first | contradiction | (conv => whnf))) | (refine And.intro ?_ ?_; rotate_left 1; (conv => whnf))))
    all_goals (first | kernel_rfl | trivial)
  · trivial
attribute [local irreducible] C.hasb R.inS
def k_vstands : List SV → List Blk → Res := fun args _ => match args with
  | [.agg [.int .u8 ak, .u64 av, .u64 am, .u64 alo, .u64 ahi, .int .i64 asl, .int .i64 ash, .int .i64 aof, .int .i64 amp, .int .i64 aid, .int .i64 arm, .bool anu], .u64 v, .ff, .int .i64 long] => .test (R.inS ⟨alo, ahi, asl, ash⟩) (.ok (.bool (V.stands (⟨ak, (⟨⟨av, am⟩, ⟨alo, ahi, asl, ash⟩⟩ : Sc), aof, amp, aid, arm, anu⟩ : Ab) v long)) [])
  | _ => .fail
theorem k_vstands_ok : CtrOk Tryz.prog Gw 11 k_vstands := by
  refine ⟨fun _ _ => by kernel_rfl, fun args M => ?_⟩
  unfold k_vstands
  split
  · rename_i ak av am alo ahi asl ash aof amp aid arm anu v long
    intro ht
    refine ctr_flat (Γ := ⟨[(13, k_cHas)], eqs, [], [], []⟩) (sv := .bool (V.stands (⟨ak, (⟨⟨av, am⟩, ⟨alo, ahi, asl, ash⟩⟩ : Sc), aof, amp, aid, arm, anu⟩ : Ab) v long)) st_Gw ⟨(okCons k_cHas_ok okNil), eqs_ok, okNilB, okNilI, okNilP⟩ Tryz.func11 rfl mixed [] (by kernel_rfl) 10000 (by rfl) ?_
    (conv => whnf)
    (repeat' (first | (refine step_t (by first | rfl | assumption) ?_; (conv => whnf)) | (refine step_f (by first | rfl | assumption) ?_; (conv => whnf)) | (refine step_nt (by assumption) ?_; (conv => whnf)) | (refine step_nf (by assumption) ?_; (conv => whnf)) | (refine step_n (fun hb => ?_) (fun hb => ?_) <;> (first | contradiction | (conv => whnf))) | (refine And.intro (fun hb => ?_) (fun hb => ?_) <;> (first | contradiction | (conv => whnf))) | (refine And.intro (a := (_ : Bool) = true) ?_ ?_; rotate_left 1; (conv => whnf))))
    all_goals (first | rfl | trivial | assumption | (simp_all [eqv, eqv1, eqv2, eqvL1, eqvL2, V.stands]; done) | (simp_all [eqv, eqv1, eqv2, eqvL1, eqvL2, V.stands]; intros; omega) )
  · trivial
end Go.Proofs.YtddcaklgflfkeaaGreatDoor
