import Derived.Test.YtnbcemeofhaogaaX1
namespace Go.Proofs.Ytnbcemeofhaogaa
open Go.RowKit Go.Sx
set_option linter.unusedSimpArgs false
set_option linter.unusedVariables false
set_option linter.unnecessarySimpa false
set_option maxRecDepth 100000
set_option maxHeartbeats 4000000
namespace K
def within (n lo hi : Int) : Bool := decide (lo ≤ n) && decide (n ≤ hi)
/-- Is a map's make right? -/
def spec (k key val max : Int) : Int :=
  if k == 1 then (if within key 4 4 && (within val 1 1024 && within max 1 1024) then 0 else 2)
  else if k == 2 then (if within key 1 64 && (within val 1 1024 && within max 1 1024) then 0 else 2)
  else if k == 3 then (if within key 1 64 && (within val 1 1024 && within max 1 1024) then 0 else 2)
  else if k == 4 then (if within key 5 36 && (within val 1 1024 && within max 1 1024) then 0 else 2)
  else if k == 5 then (if within key 0 0 && (within val 1 1024 && within max 1 1024) then 0 else 2)
  else if k == 6 then (if within key 0 0 && (within val 1 1024 && within max 1 1024) then 0 else 2)
  else if k == 7 then (if within key 0 0 && (within val 0 0 && within max 16 16384) then 0 else 2)
  else if k == 8 then (if within key 4 4 && (within val 8 8 && within max 1 64) then 0 else 2)
  else 9
end K
def k_has : List SV → List Blk → Res := fun args _ => match args with
  | [.agg [.int .i64 lo, .int .i64 hi], .int .i64 n] => .ok (.bool (K.within n lo hi)) []
  | _ => .fail
theorem k_has_ok : CtrOk Try.prog Gw 38 k_has := by
  refine ⟨fun _ _ => by kernel_rfl, fun args M => ?_⟩
  unfold k_has
  split
  · rename_i lo hi n
    refine ctr_flat (Γ := ⟨[], eqs, [], [], [], mixs, meqs, []⟩) (sv := .bool (K.within n lo hi)) st_Gw ⟨okNil, eqs_ok, okNilB, okNilI, okNilP, mixs_ok, meqs_ok, okNilY⟩ Try.func38 rfl mixed [] (by kernel_rfl) 10000 (by rfl) ?_
    (conv => whnf)
    (repeat' (first | (refine step_t (by first | rfl | assumption) ?_; (conv => whnf)) | (refine step_f (by first | rfl | assumption) ?_; (conv => whnf)) | (refine step_nt (by assumption) ?_; (conv => whnf)) | (refine step_nf (by assumption) ?_; (conv => whnf)) | (refine step_n (fun hb => ?_) (fun hb => ?_) <;> (first | contradiction | (conv => whnf))) | (refine And.intro (fun hb => ?_) (fun hb => ?_) <;> (first | contradiction | (conv => whnf))) | (refine And.intro (a := (_ : Bool) = true) ?_ ?_; rotate_left 1; (conv => whnf))))
    all_goals (first | rfl | trivial | (unfold K.within; simp only [*, Bool.true_and, Bool.false_and, Bool.and_true, Bool.and_false]; done))
  · trivial
def k_hasl : List SV → List Blk → Res := fun args _ => match args with
  | [.agg [.int .i64 lo, .int .i64 hi], .int .i64 n] => .ok (.bool (K.within n lo hi)) []
  | _ => .fail
theorem k_hasl_ok : CtrOk Try.prog Gw 61 k_hasl := by
  refine ⟨fun _ _ => by kernel_rfl, fun args M => ?_⟩
  unfold k_hasl
  split
  · rename_i lo hi n
    refine ctr_flat (Γ := ⟨[], eqs, [], [], [], mixs, meqs, []⟩) (sv := .bool (K.within n lo hi)) st_Gw ⟨okNil, eqs_ok, okNilB, okNilI, okNilP, mixs_ok, meqs_ok, okNilY⟩ Try.func61 rfl mixed [] (by kernel_rfl) 10000 (by rfl) ?_
    (conv => whnf)
    (repeat' (first | (refine step_t (by first | rfl | assumption) ?_; (conv => whnf)) | (refine step_f (by first | rfl | assumption) ?_; (conv => whnf)) | (refine step_nt (by assumption) ?_; (conv => whnf)) | (refine step_nf (by assumption) ?_; (conv => whnf)) | (refine step_n (fun hb => ?_) (fun hb => ?_) <;> (first | contradiction | (conv => whnf))) | (refine And.intro (fun hb => ?_) (fun hb => ?_) <;> (first | contradiction | (conv => whnf))) | (refine And.intro (a := (_ : Bool) = true) ?_ ?_; rotate_left 1; (conv => whnf))))
    all_goals (first | rfl | trivial | (unfold K.within; simp only [*, Bool.true_and, Bool.false_and, Bool.and_true, Bool.and_false]; done))
  · trivial
def k_within : List SV → List Blk → Res := fun args _ => match args with
  | [.int .i64 n, .int .i64 lo, .int .i64 hi] => .ok (.bool (K.within n lo hi)) []
  | _ => .fail
theorem k_within_ok : CtrOk Try.prog Gw 39 k_within := by
  refine ⟨fun _ _ => by kernel_rfl, fun args M => ?_⟩
  unfold k_within
  split
  · rename_i n lo hi
    refine ctr_flat (Γ := ⟨[], eqs, [], [], [], mixs, meqs, []⟩) (sv := .bool (K.within n lo hi)) st_Gw ⟨okNil, eqs_ok, okNilB, okNilI, okNilP, mixs_ok, meqs_ok, okNilY⟩ Try.func39 rfl mixed [] (by kernel_rfl) 10000 (by rfl) ?_
    (conv => whnf)
    (repeat' (first | (refine step_t (by first | rfl | assumption) ?_; (conv => whnf)) | (refine step_f (by first | rfl | assumption) ?_; (conv => whnf)) | (refine step_nt (by assumption) ?_; (conv => whnf)) | (refine step_nf (by assumption) ?_; (conv => whnf)) | (refine step_n (fun hb => ?_) (fun hb => ?_) <;> (first | contradiction | (conv => whnf))) | (refine And.intro (fun hb => ?_) (fun hb => ?_) <;> (first | contradiction | (conv => whnf))) | (refine And.intro (a := (_ : Bool) = true) ?_ ?_; rotate_left 1; (conv => whnf))))
    all_goals (first | rfl | trivial | (unfold K.within; simp only [*, Bool.true_and, Bool.false_and, Bool.and_true, Bool.and_false]; done))
  · trivial
attribute [local irreducible] K.within
def k_spec : List SV → List Blk → Res := fun args _ => match args with
  | [.agg [.int .u8 k, .int .i64 key, .int .i64 val, .int .i64 max]] => .ok (.int .i64 (K.spec k key val max)) []
  | _ => .fail
theorem k_spec_ok : CtrOk Try.prog Gw 16 k_spec := by
  refine ⟨fun _ _ => by kernel_rfl, fun args M => ?_⟩
  unfold k_spec
  split
  · rename_i k key val max
    refine ctr_flat (Γ := ⟨[(38, k_has)], eqs, [], [], [], mixs, meqs, []⟩) (sv := .int .i64 (K.spec k key val max)) st_Gw ⟨(okCons k_has_ok okNil), eqs_ok, okNilB, okNilI, okNilP, mixs_ok, meqs_ok, okNilY⟩ Try.func16 rfl mixed [] (by kernel_rfl) 10000 (by rfl) ?_
    (conv => whnf)
    (repeat' (first | (refine step_t (by first | rfl | assumption) ?_; (conv => whnf)) | (refine step_f (by first | rfl | assumption) ?_; (conv => whnf)) | (refine step_nt (by assumption) ?_; (conv => whnf)) | (refine step_nf (by assumption) ?_; (conv => whnf)) | (refine step_n (fun hb => ?_) (fun hb => ?_) <;> (first | contradiction | (conv => whnf))) | (refine And.intro (fun hb => ?_) (fun hb => ?_) <;> (first | contradiction | (conv => whnf))) | (refine And.intro (a := (_ : Bool) = true) ?_ ?_; rotate_left 1; (conv => whnf))))
    all_goals (first | rfl | trivial | (simp_all [eqv, eqv1, K.spec]; done) | (simp_all [eqv, eqv1, K.spec, K.within]; done) | (simp_all [eqv, eqv1, K.spec, K.within]; omega))
  · trivial
def k_rspec : List SV → List Blk → Res := fun args _ => match args with
  | [.agg [.int .u8 k, .int .i64 key, .int .i64 val, .int .i64 max]] => .ok (.int .i64 (K.spec k key val max)) []
  | _ => .fail
theorem k_rspec_ok : CtrOk Try.prog Gw 17 k_rspec := by
  refine ⟨fun _ _ => by kernel_rfl, fun args M => ?_⟩
  unfold k_rspec
  split
  · rename_i k key val max
    refine ctr_flat (Γ := ⟨[(39, k_within)], eqs, [], [], [], mixs, meqs, []⟩) (sv := .int .i64 (K.spec k key val max)) st_Gw ⟨(okCons k_within_ok okNil), eqs_ok, okNilB, okNilI, okNilP, mixs_ok, meqs_ok, okNilY⟩ Try.func17 rfl mixed [] (by kernel_rfl) 10000 (by rfl) ?_
    (conv => whnf)
    (repeat' (first | (refine step_t (by first | rfl | assumption) ?_; (conv => whnf)) | (refine step_f (by first | rfl | assumption) ?_; (conv => whnf)) | (refine step_nt (by assumption) ?_; (conv => whnf)) | (refine step_nf (by assumption) ?_; (conv => whnf)) | (refine step_n (fun hb => ?_) (fun hb => ?_) <;> (first | contradiction | (conv => whnf))) | (refine And.intro (fun hb => ?_) (fun hb => ?_) <;> (first | contradiction | (conv => whnf))) | (refine And.intro (a := (_ : Bool) = true) ?_ ?_; rotate_left 1; (conv => whnf))))
    all_goals (first | rfl | trivial | (simp_all [eqv, eqv1, K.spec]; done) | (simp_all [eqv, eqv1, K.spec, K.within]; done) | (simp_all [eqv, eqv1, K.spec, K.within]; omega))
  · trivial
end Go.Proofs.Ytnbcemeofhaogaa
