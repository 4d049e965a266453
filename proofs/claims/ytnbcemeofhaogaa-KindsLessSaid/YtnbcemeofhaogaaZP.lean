import Derived.Test.YtnbcemeofhaogaaXI
import Derived.Test.YtnbcemeofhaogaaSxI
import Derived.Test.YtnbcemeofhaogaaZM
import Derived.Test.YtnbcemeofhaogaaSxQ
namespace Go.Proofs.Ytnbcemeofhaogaa
open Go.RowKit Go.Sx
set_option linter.unusedSimpArgs false
set_option linter.unusedVariables false
set_option linter.unnecessarySimpa false
set_option maxRecDepth 100000
set_option maxHeartbeats 4000000
def k_of : List SV → List Blk → Res := fun args M => match args with
  | [.sl n 1 0 len] => match nth M n with
    | some _ => .ok (.agg [.int .u8 3, .int .i64 0, .int .i64 0, .sl n 1 0 len]) []
    | none => .fail
  | _ => .fail
theorem k_of_ok : CtrOk Try.prog Gw 23 k_of := by
  refine ⟨fun _ _ => by kernel_rfl, fun args M => ?_⟩
  unfold k_of
  split
  · rename_i n len
    split
    · rename_i b hm0
      rw [nth_eq] at hm0
      refine ctr_back (Γ := ⟨[], eqs, [], [], [], mixs, meqs, []⟩) st_Gw ⟨okNil, eqs_ok, okNilB, okNilI, okNilP, mixs_ok, meqs_ok, okNilY⟩ Try.func23 rfl mixed [] (by kernel_rfl) 10000 [n] [.sl 0 1 0 len] [.dead] (.agg [.int .u8 3, .int .i64 0, .int .i64 0, .sl 0 1 0 len]) (fun ρ => rfl) (fun ρ => rfl) rfl ⟨⟨b, hm0, trivial⟩, trivial⟩ rfl ?_
      (conv => whnf)
      (repeat' (first | (refine And.intro (fun hb => ?_) (fun hb => ?_) <;> (first | contradiction | (conv => whnf))) | (refine And.intro ?_ ?_; rotate_left 1; (conv => whnf))))
      all_goals first | rfl | exact ⟨rfl, rfl⟩
    · trivial
  · trivial
def k_rof : List SV → List Blk → Res := fun args M => match args with
  | [.sl n 1 0 len] => match nth M n with
    | some _ => .ok (.agg [.int .u8 3, .int .i64 0, .int .i64 0, .sl n 1 0 len]) []
    | none => .fail
  | _ => .fail
theorem k_rof_ok : CtrOk Try.prog Gw 34 k_rof := by
  refine ⟨fun _ _ => by kernel_rfl, fun args M => ?_⟩
  unfold k_rof
  split
  · rename_i n len
    split
    · rename_i b hm0
      rw [nth_eq] at hm0
      refine ctr_back (Γ := ⟨[], eqs, [], [], [], mixs, meqs, []⟩) st_Gw ⟨okNil, eqs_ok, okNilB, okNilI, okNilP, mixs_ok, meqs_ok, okNilY⟩ Try.func34 rfl mixed [] (by kernel_rfl) 10000 [n] [.sl 0 1 0 len] [.dead] (.agg [.int .u8 3, .int .i64 0, .int .i64 0, .sl 0 1 0 len]) (fun ρ => rfl) (fun ρ => rfl) rfl ⟨⟨b, hm0, trivial⟩, trivial⟩ rfl ?_
      (conv => whnf)
      (repeat' (first | (refine And.intro (fun hb => ?_) (fun hb => ?_) <;> (first | contradiction | (conv => whnf))) | (refine And.intro ?_ ?_; rotate_left 1; (conv => whnf))))
      all_goals first | rfl | exact ⟨rfl, rfl⟩
    · trivial
  · trivial
def k_rplain : List SV → List Blk → Res := fun args _ => match args with
  | [.int .u8 k] => .ok (.agg [.int .u8 k, .int .i64 0, .int .i64 0, .val (.slice none 0 0)]) []
  | _ => .fail
theorem k_rplain_ok : CtrOk Try.prog Gw 35 k_rplain := by
  refine ⟨fun _ _ => by kernel_rfl, fun args M => ?_⟩
  unfold k_rplain
  split
  · rename_i k
    refine ctr_flat (Γ := ⟨[], eqs, [], [], [], mixs, meqs, []⟩) (sv := .agg [.int .u8 k, .int .i64 0, .int .i64 0, .val (.slice none 0 0)]) st_Gw ⟨okNil, eqs_ok, okNilB, okNilI, okNilP, mixs_ok, meqs_ok, okNilY⟩ Try.func35 rfl mixed [] (by kernel_rfl) 10000 (by rfl) ?_
    (conv => whnf)
    (repeat' (first | (refine step_t (by first | rfl | assumption) ?_; (conv => whnf)) | (refine step_f (by first | rfl | assumption) ?_; (conv => whnf)) | (refine step_nt (by assumption) ?_; (conv => whnf)) | (refine step_nf (by assumption) ?_; (conv => whnf)) | (refine step_n (fun hb => ?_) (fun hb => ?_) <;> (first | contradiction | (conv => whnf))) | (refine And.intro (fun hb => ?_) (fun hb => ?_) <;> (first | contradiction | (conv => whnf))) | (refine And.intro (a := (_ : Bool) = true) ?_ ?_; rotate_left 1; (conv => whnf))))
    all_goals (first | rfl | trivial | (simp_all [eqv, eqv1, eqv2, eqvL1, eqvL2]))
  · trivial
def k_rnum : List SV → List Blk → Res := fun args _ => match args with
  | [.int .i64 lo, .int .i64 hi] => .ok (.agg [.int .u8 1, .int .i64 lo, .int .i64 hi, .val (.slice none 0 0)]) []
  | _ => .fail
theorem k_rnum_ok : CtrOk Try.prog Gw 36 k_rnum := by
  refine ⟨fun _ _ => by kernel_rfl, fun args M => ?_⟩
  unfold k_rnum
  split
  · rename_i lo hi
    refine ctr_flat (Γ := ⟨[], eqs, [], [], [], mixs, meqs, []⟩) (sv := .agg [.int .u8 1, .int .i64 lo, .int .i64 hi, .val (.slice none 0 0)]) st_Gw ⟨okNil, eqs_ok, okNilB, okNilI, okNilP, mixs_ok, meqs_ok, okNilY⟩ Try.func36 rfl mixed [] (by kernel_rfl) 10000 (by rfl) ?_
    (conv => whnf)
    (repeat' (first | (refine step_t (by first | rfl | assumption) ?_; (conv => whnf)) | (refine step_f (by first | rfl | assumption) ?_; (conv => whnf)) | (refine step_nt (by assumption) ?_; (conv => whnf)) | (refine step_nf (by assumption) ?_; (conv => whnf)) | (refine step_n (fun hb => ?_) (fun hb => ?_) <;> (first | contradiction | (conv => whnf))) | (refine And.intro (fun hb => ?_) (fun hb => ?_) <;> (first | contradiction | (conv => whnf))) | (refine And.intro (a := (_ : Bool) = true) ?_ ?_; rotate_left 1; (conv => whnf))))
    all_goals (first | rfl | trivial | (simp_all [eqv, eqv1, eqv2, eqvL1, eqvL2]))
  · trivial
end Go.Proofs.Ytnbcemeofhaogaa
namespace Go.Proofs.Ytnbcemeofhaogaa
open Go.RowKit Go.Sx
set_option linter.unusedSimpArgs false
set_option linter.unusedVariables false
set_option linter.unnecessarySimpa false
set_option maxRecDepth 100000
set_option maxHeartbeats 4000000
/-- Slice types whose literals stay as they are from their birth. -/
def mixz : List (TypeId × List SV) := (38, [.val (.slice none 0 0)]) :: (24, [.val (.slice none 0 0)]) :: (49, [.val (.slice none 0 0)]) :: mixs
theorem mixz_ok : ∀ p ∈ mixz, MixOk Try.prog p.1 p.2 := by
  intro p hp
  rcases List.mem_cons.1 hp with rfl | hp
  · exact ⟨⟨_, _, rfl, rfl, fun ρ => rfl⟩, rfl⟩
  · rcases List.mem_cons.1 hp with rfl | hp
    · exact ⟨⟨_, _, rfl, rfl, fun ρ => rfl⟩, rfl⟩
    · rcases List.mem_cons.1 hp with rfl | hp
      · exact ⟨⟨_, _, rfl, rfl, fun ρ => rfl⟩, rfl⟩
      · exact mixs_ok p hp
theorem own_run (k : Int) : run Try.prog ⟨[(23, k_of)], eqs, [], [], [], mixz, meqs, []⟩ 10000 [(6, 83, [0, 0, 0, 6, 0, 30, 0, 126, 255, 0, 0, 1550, 0, 0, 0, 32270, 0, 130574, 261647, 0, 0, 1576462, 0, 7867918, 0, 33033742, 66588175, 0, 0, 406326798, 0, 0, 4164423182, 0, 17049325070, 34229194255, 0, 0, 207101627918, 0, 1031735348750, 0, 4330270232078, 8728316743183, 0, 0, 53258537668110, 0, 264364770201102, 0, 1108789700333070, 2234689607175695, 0, 0, 13634426163957262, 0, 0, 139735215730331150, 0, 572080779957898766, 1148541532261322255, 0, 0, 0, 13866706879955602958, 0, 71512782110297951758, 0, 292873710994812571150, 588021616174165397007, 0, 1180591620717411303424, 3541774862152233910273, 0, 9444732965739290427392, 28334198897217871282177, 75557863725914323419135, 0, 302231454903657293676543, 604462909807314587353087, 1208925819614629174706175, 1208925819614629174706175, 0, 7253554917687775048237055, 19342813113834066795298815])] 0 (bodyOf Try.f8) (initF Try.f8 [.int .u8 k]) [] (retK Try.prog Try.f8 (TellsC true [.agg (celH (K.own k)), .one (.bool (K.ownOk k))])) := by
  (conv => whnf)
  (repeat' (first | (refine step_t (by first | rfl | assumption) ?_; (conv => whnf)) | (refine step_f (by first | rfl | assumption) ?_; (conv => whnf)) | (refine step_nt (by assumption) ?_; (conv => whnf)) | (refine step_nf (by assumption) ?_; (conv => whnf)) | (refine step_n (fun hb => ?_) (fun hb => ?_) <;> (first | contradiction | (conv => whnf))) | (refine And.intro (fun hb => ?_) (fun hb => ?_) <;> (first | contradiction | (conv => whnf))) | (refine And.intro ?_ ?_; rotate_left 1; (conv => whnf))))
  all_goals first
  | rfl
  | (have hk' := eq_of_beq hb
     subst hk'
     exact ⟨_, _, _, rfl, .inl rfl, rfl, rfl, avB_ok (d := 4) (by kernel_rfl)⟩)
  | (refine ⟨_, _, _, rfl, .inl rfl, rfl, rfl, ?_⟩
     have h1 : K.own k = Hp.no := K.own_no (by simp_all)
     have h2 : K.ownOk k = false := K.ownOk_no (by simp_all)
     rw [h1, h2]
     exact avB_ok (d := 4) (by kernel_rfl))
noncomputable def k_own : List SV → List Blk → Res := fun args M => match args with
  | [.int .u8 k] => .ok (outA true (namA true M.length [.agg (celH (K.own k)), .one (.bool (K.ownOk k))]).1) (namA true M.length [.agg (celH (K.own k)), .one (.bool (K.ownOk k))]).2
  | _ => .fail
theorem k_own_ok : CtrOk Try.prog Gw 8 k_own := by
  refine ⟨fun _ _ => by kernel_rfl, fun args M => ?_⟩
  unfold k_own
  split
  · rename_i k
    exact ctr_topc (Γ := ⟨[(23, k_of)], eqs, [], [], [], mixz, meqs, []⟩) st_Gw ⟨(okCons k_of_ok okNil), eqs_ok, okNilB, okNilI, okNilP, mixz_ok, meqs_ok, okNilY⟩ Try.func8 rfl mixed [(6, 83, [0, 0, 0, 6, 0, 30, 0, 126, 255, 0, 0, 1550, 0, 0, 0, 32270, 0, 130574, 261647, 0, 0, 1576462, 0, 7867918, 0, 33033742, 66588175, 0, 0, 406326798, 0, 0, 4164423182, 0, 17049325070, 34229194255, 0, 0, 207101627918, 0, 1031735348750, 0, 4330270232078, 8728316743183, 0, 0, 53258537668110, 0, 264364770201102, 0, 1108789700333070, 2234689607175695, 0, 0, 13634426163957262, 0, 0, 139735215730331150, 0, 572080779957898766, 1148541532261322255, 0, 0, 0, 13866706879955602958, 0, 71512782110297951758, 0, 292873710994812571150, 588021616174165397007, 0, 1180591620717411303424, 3541774862152233910273, 0, 9444732965739290427392, 28334198897217871282177, 75557863725914323419135, 0, 302231454903657293676543, 604462909807314587353087, 1208925819614629174706175, 1208925819614629174706175, 0, 7253554917687775048237055, 19342813113834066795298815])] (by kernel_rfl) 10000 (M := M) (args := [.int .u8 k]) [.one (.int .u8 k)] rfl rfl (AVEqL.refl _) rfl true _ (own_run k)
  · trivial
end Go.Proofs.Ytnbcemeofhaogaa
