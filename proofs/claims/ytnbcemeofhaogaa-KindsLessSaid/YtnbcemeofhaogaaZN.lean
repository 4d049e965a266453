import Derived.Test.YtnbcemeofhaogaaX1
namespace Go.Proofs.Ytnbcemeofhaogaa
open Go.RowKit Go.Sx
set_option linter.unusedSimpArgs false
set_option linter.unusedVariables false
set_option linter.unnecessarySimpa false
set_option maxRecDepth 100000
set_option maxHeartbeats 4000000
namespace K
/-- A name's sign. -/
def good (c : Int) : Bool := (decide (97 ≤ c) && decide (c ≤ 122)) || ((decide (48 ≤ c) && decide (c ≤ 57)) || (c == 95 || c == 46))
def at_ (s : ByteArray) (j : Nat) : Int := ((s.data.getD j 0).toNat : Int)
/-- Are the first signs such? -/
def goods (s : ByteArray) (j : Nat) : Bool := (List.range j).all fun i => good (at_ s i)
/-- Is a text a name? -/
def name (s : ByteArray) : Bool := goods s s.size && (decide (1 ≤ (s.size : Int)) && decide ((s.size : Int) ≤ 24))
theorem goods_next {s : ByteArray} {j : Nat} (h : goods s j = true) (k : good ((s.data.getD j 0).toNat : Int) = true) : goods s (j + 1) = true := by
  unfold goods at *
  rw [List.range_succ, List.all_append, h]
  simpa [at_] using k
theorem name_no {s : ByteArray} {j : Nat} (h : j < s.size) (k : good ((s.data.getD j 0).toNat : Int) = false) : name s = false := by
  have : goods s s.size = false := by
    unfold goods
    rw [List.all_eq_false]
    exact ⟨j, List.mem_range.2 h, by simpa [at_] using k⟩
  unfold name
  rw [this]; rfl
end K
def k_good : List SV → List Blk → Res := fun args _ => match args with
  | [.int .u8 c] => .ok (.bool (K.good c)) []
  | _ => .fail
theorem k_good_ok : CtrOk Try.prog Gw 37 k_good := by
  refine ⟨fun _ _ => by kernel_rfl, fun args M => ?_⟩
  unfold k_good
  split
  · rename_i c
    refine ctr_flat (Γ := ⟨[], eqs, [], [], [], mixs, meqs, []⟩) (sv := .bool (K.good c)) st_Gw ⟨okNil, eqs_ok, okNilB, okNilI, okNilP, mixs_ok, meqs_ok, okNilY⟩ Try.func37 rfl mixed [] (by kernel_rfl) 10000 (by rfl) ?_
    (conv => whnf)
    (repeat' (first | (refine step_t (by first | rfl | assumption) ?_; (conv => whnf)) | (refine step_f (by first | rfl | assumption) ?_; (conv => whnf)) | (refine step_nt (by assumption) ?_; (conv => whnf)) | (refine step_nf (by assumption) ?_; (conv => whnf)) | (refine step_n (fun hb => ?_) (fun hb => ?_) <;> (first | contradiction | (conv => whnf))) | (refine And.intro (fun hb => ?_) (fun hb => ?_) <;> (first | contradiction | (conv => whnf))) | (refine And.intro (a := (_ : Bool) = true) ?_ ?_; rotate_left 1; (conv => whnf))))
    all_goals (first | rfl | trivial | (unfold K.good; simp only [*, Bool.true_and, Bool.and_false, Bool.false_and, Bool.false_or, Bool.or_false, Bool.true_or, Bool.and_true, Bool.and_self]; done))
  · trivial
attribute [local irreducible] K.good
theorem name_run (s : ByteArray) (hs : s.size ≤ 1099511627776) : run Try.prog ⟨[(37, k_good)], eqs, [], [], [], mixs, meqs, []⟩ 10000 [] 0 (bodyOf Try.f14) (initF Try.f14 [.val (.string s)]) [] (retK Try.prog Try.f14 fun x _ => eqv x (.bool (K.name s))) := by
  (conv => whnf)
  (repeat' (first | (refine step_t (by first | rfl | assumption) ?_; (conv => whnf)) | (refine step_f (by first | rfl | assumption) ?_; (conv => whnf)) | (refine step_nt (by assumption) ?_; (conv => whnf)) | (refine step_nf (by assumption) ?_; (conv => whnf)) | (refine step_n (fun hb => ?_) (fun hb => ?_) <;> (first | contradiction | (conv => whnf))) | (refine And.intro (fun hb => ?_) (fun hb => ?_) <;> (first | contradiction | (conv => whnf))) | (refine And.intro ?_ ?_; rotate_left 1; (conv => whnf))))
  refine .inr ⟨[], [0, 3, 6, 7], fun k vals M => ∃ j : Nat, j ≤ s.size ∧ k = s.size - j ∧ K.goods s j = true ∧ vals = [.val (.string s), .fn (.func 37) [] [], .int .i64 (s.size : Int), .int .i64 (j : Int)] ∧ M = [], ?_⟩
  conv => whnf
  refine And.intro ⟨s.size, [], mle_nil, rfl, rfl, 0, by omega, by omega, rfl, rfl, rfl⟩ ?_
  rintro k vals M1 ⟨j, hj, rfl, hg, rfl, rfl⟩
  (conv => whnf)
  (repeat' (first | (refine step_t (by first | rfl | assumption) ?_; (conv => whnf)) | (refine step_f (by first | rfl | assumption) ?_; (conv => whnf)) | (refine step_nt (by assumption) ?_; (conv => whnf)) | (refine step_nf (by assumption) ?_; (conv => whnf)) | (refine step_n (fun hb => ?_) (fun hb => ?_) <;> (first | contradiction | (conv => whnf))) | (refine And.intro (fun hb => ?_) (fun hb => ?_) <;> (first | contradiction | (conv => whnf))) | (refine And.intro ?_ ?_; rotate_left 1; (conv => whnf))))
  all_goals try (simp only [Int.toNat_natCast] at *)
  all_goals first
    | (refine decide_eq_true ?_; omega)
    | (have hlt : j < s.size := (by
         have h9 : decide ((j : Int) < (s.size : Int)) = true := (by assumption)
         have h8 := of_decide_eq_true h9
         omega)
       first
       | (rw [Bool.and_eq_true]; exact ⟨decide_eq_true (by omega), decide_eq_true hlt⟩)
       | exact K.name_no hlt (by assumption)
       | (refine ⟨s.size - (j + 1), [], [], by omega, rfl, mle_nil, rfl, rfl, j + 1, by omega, rfl, K.goods_next hg (by assumption), ?_, rfl⟩
          show ([.val (.string s), .fn (.func 37) [] [], .int .i64 (s.size : Int), .int .i64 (IntKind.i64.wrap ((j : Int) + 1))] : List SV) = _
          rw [i64_of (n := (j : Int) + 1) (by omega) (by omega)]; rfl))
    | (have hlt : j = s.size := (by
         have h9 : decide ((j : Int) < (s.size : Int)) = false := (by assumption)
         have h8 := of_decide_eq_false h9
         omega)
       subst hlt
       first | (simp_all [eqv, eqv1, K.name]; done) | (simp_all [eqv, eqv1, K.name]; intros; omega))
def k_name : List SV → List Blk → Res := fun args _ => match args with
  | [.val (.string s)] => .test (decide (s.size ≤ 1099511627776)) (.ok (.bool (K.name s)) [])
  | _ => .fail
theorem k_name_ok : CtrOk Try.prog Gw 14 k_name := by
  refine ⟨fun _ _ => by kernel_rfl, fun args M => ?_⟩
  unfold k_name
  split
  · rename_i s
    intro hs
    exact ctr_flat (Γ := ⟨[(37, k_good)], eqs, [], [], [], mixs, meqs, []⟩) (sv := .bool (K.name s)) st_Gw ⟨(okCons k_good_ok okNil), eqs_ok, okNilB, okNilI, okNilP, mixs_ok, meqs_ok, okNilY⟩ Try.func14 rfl mixed [] (by kernel_rfl) 10000 (by rfl) (name_run s (of_decide_eq_true hs))
  · trivial
end Go.Proofs.Ytnbcemeofhaogaa
