import Derived.Test.YtldlbkkcjphjoaaXG
namespace Go.Proofs.Ytldlbkkcjphjoaa
open Go.RowKit Go.Sx
set_option linter.unusedSimpArgs false
set_option linter.unusedVariables false
set_option linter.unnecessarySimpa false
set_option maxRecDepth 100000
set_option maxHeartbeats 4000000
/-- What TypesOf counts of one type. -/
def tyOf (most : Int) (s m q : Nat) : Int := if 1 ≤ most then 1 + (s : Int) / 8 + m + q else 1
theorem tyOf_le {s m q : Nat} (h : tyOf 2000 s m q ≤ 2000) : s ≤ 16000 ∧ m ≤ 2000 ∧ q ≤ 2000 := by
  unfold tyOf at h
  rw [if_pos (by decide)] at h
  omega
theorem tof_run (nm : ByteArray) (cx lo hi most : Int) (m q : Nat) (g g' : Nat → List FV) (hs : nm.size ≤ 140737488355328) (hm : m ≤ 140737488355328) (hq : q ≤ 140737488355328) : run Try.prog ⟨[], eqs, [], [], [], mixs, meqs, []⟩ 10000 [(5, 22, [0, 0, 0, 6, 14, 30, 62, 126, 255, 0, 0, 1536, 3584, 7680, 15872, 32767, 0, 0, 196608, 458752, 983040, 2031616, 4194303, 8388607])] 0 (bodyOf Try.f6) (initF Try.f6 [.sl 0 6 0 1, .int .i64 most]) [.rc 35 [.val (.string nm), .int .i64 cx, .sl 1 4 0 m, .sl 2 3 0 q, .int .i64 lo, .int .i64 hi], .ro 4 m g, .ro 3 q g'] (retK Try.prog Try.f6 fun x _ => eqv x (.int .i64 (tyOf most nm.size m q))) := by
  (conv => whnf)
  (repeat' (first | (refine And.intro (fun hb => ?_) (fun hb => ?_) <;> (first | contradiction | (conv => whnf))) | (refine And.intro ?_ ?_; rotate_left 1; (conv => whnf))))
  refine .inl ⟨2, ?_⟩
  (conv => whnf)
  (repeat' (first | (refine And.intro (fun hb => ?_) (fun hb => ?_) <;> (first | contradiction | (conv => whnf))) | (refine And.intro ?_ ?_; rotate_left 1; (conv => whnf))))
  all_goals first
  | rfl
  | decide
  | (have h1 : (1 : Int) ≤ most := of_decide_eq_true (by assumption)
     unfold tyOf
     rw [if_pos h1]
     have hd : ((nm.size : Nat) : Int).tdiv 8 = (nm.size : Int) / 8 := Int.tdiv_eq_ediv_of_nonneg (by omega)
     rw [hd, i64_of (n := (nm.size : Int) / 8) (by omega) (by omega)]
     show IntKind.i64.wrap (IntKind.i64.wrap (IntKind.i64.wrap (1 + (nm.size : Int) / 8) + m) + q) = _
     rw [i64_of (n := 1 + (nm.size : Int) / 8) (by omega) (by omega), i64_of (n := 1 + (nm.size : Int) / 8 + m) (by omega) (by omega), i64_of (by omega) (by omega)])
  | (have h1 : ¬ (1 : Int) ≤ most := of_decide_eq_false (by assumption)
     unfold tyOf
     rw [if_neg h1]; rfl)

def k_tof : List SV → List Blk → Res := fun args M => match args with
  | [.sl k 6 0 1, .int .i64 most] => match nth M k with
    | some (.cells 35 [.val (.string nm), .int .i64 cx, .sl a 4 0 m, .sl b 3 0 q, .int .i64 lo, .int .i64 hi]) => match eltB (nth M a), eltB (nth M b) with
      | some (4, m', g), some (3, q', g') => .test (decide (m ≤ m') && decide (q ≤ q')) (.test (decide (nm.size ≤ 140737488355328) && (decide (m ≤ 140737488355328) && decide (q ≤ 140737488355328))) (.ok (.int .i64 (tyOf most nm.size m q)) []))
      | _, _ => .fail
    | _ => .fail
  | _ => .fail
theorem k_tof_ok : CtrOk Try.prog Gw 6 k_tof := by
  refine ⟨fun _ _ => by kernel_rfl, fun args M => ?_⟩
  unfold k_tof
  split
  · rename_i k most
    split
    · rename_i nm cx a m b q lo hi hk
      split
      · rename_i m' g q' g' ha hb'
        intro h1 h2
        simp only [Bool.and_eq_true, decide_eq_true_eq] at h1 h2
        simp only [nth_eq] at hk ha hb'
        obtain ⟨ba, hba⟩ : ∃ ba, M[a]? = some ba := by
          cases hq : M[a]? with
          | none => rw [hq] at ha; cases ha
          | some ba => exact ⟨ba, rfl⟩
        obtain ⟨bb, hbb⟩ : ∃ bb, M[b]? = some bb := by
          cases hq : M[b]? with
          | none => rw [hq] at hb'; cases hb'
          | some bb => exact ⟨bb, rfl⟩
        rw [hba] at ha
        rw [hbb] at hb'
        exact ctr_sel (Γ := ⟨[], eqs, [], [], [], mixs, meqs, []⟩) st_Gw ⟨okNil, eqs_ok, okNilB, okNilI, okNilP, mixs_ok, meqs_ok, okNilY⟩ Try.func6 rfl mixed [(5, 22, [0, 0, 0, 6, 14, 30, 62, 126, 255, 0, 0, 1536, 3584, 7680, 15872, 32767, 0, 0, 196608, 458752, 983040, 2031616, 4194303, 8388607])] (by kernel_rfl) 10000 [k, a, b] [.sl 0 6 0 1, .int .i64 most] [.rc 35 [.val (.string nm), .int .i64 cx, .sl 1 4 0 m, .sl 2 3 0 q, .int .i64 lo, .int .i64 hi], .ro 4 m g, .ro 3 q g'] (fun ρ => rfl) rfl ⟨⟨_, hk, _, .inl rfl, fun ρ => rfl⟩, ⟨_, hba, _, _, ha, h1.1, fun _ _ => rfl⟩, ⟨_, hbb, _, _, hb', h1.2, fun _ _ => rfl⟩, trivial⟩ (tof_run nm cx lo hi most m q g g' h2.1 h2.2.1 h2.2.2)
      · trivial
    · trivial
  · trivial
end Go.Proofs.Ytldlbkkcjphjoaa
