import Derived.Test.YtkfbjnikkmoanaaGreatDoorXE
namespace Go.Proofs.YtkfbjnikkmoanaaGreatDoor
open Go.RowKit Go.Sx
set_option linter.unusedSimpArgs false
set_option linter.unusedVariables false
set_option linter.unnecessarySimpa false
set_option maxRecDepth 100000
set_option maxHeartbeats 4000000
attribute [local irreducible] W.xt W.aluN W.divS W.modS W.divU W.modU W.sar32
theorem ralut_run (op off : Int) (a b : BitVec 64) : run Tryz.prog ⟨[(107, k_rknown), (108, k_rcut), (109, k_xTimes), (111, k_xArsh), (138, k_rquot), (139, k_rrest), (112, k_rwiden)], eqs, [], [(110, Tryz.f110, [])], []⟩ 10000 [] 0 (bodyOf Tryz.f33) (initF Tryz.f33 [.int .u8 op, .int .i16 off, .tt, .u64 a, .u64 b]) [] (retK Tryz.prog Tryz.f33 fun x _ => eqv x (.tup [.u64 (W.aluW op off a b).1, .bool (W.aluW op off a b).2])) := by
  by_cases h : (W.aluW op off a b).2 = true
  · have hk : W.know op off true = true := (W.know_eq op off true a b).trans h
    rcases W.aluW_cases h with ⟨rfl, rfl⟩ | ⟨rfl, rfl⟩ | ⟨rfl, rfl⟩ | ⟨rfl, rfl⟩ | ⟨rfl, rfl⟩ | ⟨rfl, rfl⟩ | ⟨rfl, rfl⟩ | ⟨rfl, rfl⟩ | ⟨rfl, rfl⟩ | ⟨rfl, rfl⟩ | ⟨rfl, rfl⟩ | ⟨rfl, rfl⟩ | ⟨rfl, rfl⟩ | ⟨rfl, rfl⟩ | ⟨rfl, rfl⟩ | ⟨rfl, rfl⟩ | ⟨rfl, rfl⟩ | ⟨rfl, rfl⟩
    · (conv => whnf)
      (repeat' (first | (refine step_t (by first | rfl | assumption) ?_; (conv => whnf)) | (refine step_f (by first | rfl | assumption) ?_; (conv => whnf)) | (refine step_nt (by assumption) ?_; (conv => whnf)) | (refine step_nf (by assumption) ?_; (conv => whnf)) | (refine step_n (fun hb => ?_) (fun hb => ?_) <;> (first | contradiction | (conv => whnf))) | (refine And.intro (fun hb => ?_) (fun hb => ?_) <;> (first | contradiction | (conv => whnf))) | (refine And.intro (a := (_ : Bool) = true) ?_ ?_; rotate_left 1; (conv => whnf))))
      all_goals first | rfl | trivial | assumption | decide | exact W.bne_z (by assumption) | exact W.nz (by assumption) | exact W.nz2 (by assumption) | exact W.at64_in _ | exact W.at32_in _ _ | exact W.eqv_yes h ((W.mov_32 b).symm) | exact W.eqv_yes h rfl
    · (conv => whnf)
      (repeat' (first | (refine step_t (by first | rfl | assumption) ?_; (conv => whnf)) | (refine step_f (by first | rfl | assumption) ?_; (conv => whnf)) | (refine step_nt (by assumption) ?_; (conv => whnf)) | (refine step_nf (by assumption) ?_; (conv => whnf)) | (refine step_n (fun hb => ?_) (fun hb => ?_) <;> (first | contradiction | (conv => whnf))) | (refine And.intro (fun hb => ?_) (fun hb => ?_) <;> (first | contradiction | (conv => whnf))) | (refine And.intro (a := (_ : Bool) = true) ?_ ?_; rotate_left 1; (conv => whnf))))
      all_goals first | rfl | trivial | assumption | decide | exact W.bne_z (by assumption) | exact W.nz (by assumption) | exact W.nz2 (by assumption) | exact W.at64_in _ | exact W.at32_in _ _ | exact W.eqv_yes h rfl
    · (conv => whnf)
      (repeat' (first | (refine step_t (by first | rfl | assumption) ?_; (conv => whnf)) | (refine step_f (by first | rfl | assumption) ?_; (conv => whnf)) | (refine step_nt (by assumption) ?_; (conv => whnf)) | (refine step_nf (by assumption) ?_; (conv => whnf)) | (refine step_n (fun hb => ?_) (fun hb => ?_) <;> (first | contradiction | (conv => whnf))) | (refine And.intro (fun hb => ?_) (fun hb => ?_) <;> (first | contradiction | (conv => whnf))) | (refine And.intro (a := (_ : Bool) = true) ?_ ?_; rotate_left 1; (conv => whnf))))
      all_goals first | rfl | trivial | assumption | decide | exact W.bne_z (by assumption) | exact W.nz (by assumption) | exact W.nz2 (by assumption) | exact W.at64_in _ | exact W.at32_in _ _ | exact W.eqv_yes h rfl
    · (conv => whnf)
      (repeat' (first | (refine step_t (by first | rfl | assumption) ?_; (conv => whnf)) | (refine step_f (by first | rfl | assumption) ?_; (conv => whnf)) | (refine step_nt (by assumption) ?_; (conv => whnf)) | (refine step_nf (by assumption) ?_; (conv => whnf)) | (refine step_n (fun hb => ?_) (fun hb => ?_) <;> (first | contradiction | (conv => whnf))) | (refine And.intro (fun hb => ?_) (fun hb => ?_) <;> (first | contradiction | (conv => whnf))) | (refine And.intro (a := (_ : Bool) = true) ?_ ?_; rotate_left 1; (conv => whnf))))
      all_goals first | rfl | trivial | assumption | decide | exact W.bne_z (by assumption) | exact W.nz (by assumption) | exact W.nz2 (by assumption) | exact W.at64_in _ | exact W.at32_in _ _ | exact W.eqv_yes h rfl
    · (conv => whnf)
      (repeat' (first | (refine step_t (by first | rfl | assumption) ?_; (conv => whnf)) | (refine step_f (by first | rfl | assumption) ?_; (conv => whnf)) | (refine step_nt (by assumption) ?_; (conv => whnf)) | (refine step_nf (by assumption) ?_; (conv => whnf)) | (refine step_n (fun hb => ?_) (fun hb => ?_) <;> (first | contradiction | (conv => whnf))) | (refine And.intro (fun hb => ?_) (fun hb => ?_) <;> (first | contradiction | (conv => whnf))) | (refine And.intro (a := (_ : Bool) = true) ?_ ?_; rotate_left 1; (conv => whnf))))
      all_goals first | rfl | trivial | assumption | decide | exact W.bne_z (by assumption) | exact W.nz (by assumption) | exact W.nz2 (by assumption) | exact W.at64_in _ | exact W.at32_in _ _ | exact W.eqv_yes h (W.divU_t (by assumption)) | exact W.eqv_yes h (W.divU_f (by assumption)) | exact W.eqv_yes h rfl
    · (conv => whnf)
      (repeat' (first | (refine step_t (by first | rfl | assumption) ?_; (conv => whnf)) | (refine step_f (by first | rfl | assumption) ?_; (conv => whnf)) | (refine step_nt (by assumption) ?_; (conv => whnf)) | (refine step_nf (by assumption) ?_; (conv => whnf)) | (refine step_n (fun hb => ?_) (fun hb => ?_) <;> (first | contradiction | (conv => whnf))) | (refine And.intro (fun hb => ?_) (fun hb => ?_) <;> (first | contradiction | (conv => whnf))) | (refine And.intro (a := (_ : Bool) = true) ?_ ?_; rotate_left 1; (conv => whnf))))
      all_goals first | rfl | trivial | assumption | decide | exact W.bne_z (by assumption) | exact W.nz (by assumption) | exact W.nz2 (by assumption) | exact W.at64_in _ | exact W.at32_in _ _ | exact W.eqv_yes h (W.divS_t (by assumption)) | exact W.eqv_yes h rfl
    · (conv => whnf)
      (repeat' (first | (refine step_t (by first | rfl | assumption) ?_; (conv => whnf)) | (refine step_f (by first | rfl | assumption) ?_; (conv => whnf)) | (refine step_nt (by assumption) ?_; (conv => whnf)) | (refine step_nf (by assumption) ?_; (conv => whnf)) | (refine step_n (fun hb => ?_) (fun hb => ?_) <;> (first | contradiction | (conv => whnf))) | (refine And.intro (fun hb => ?_) (fun hb => ?_) <;> (first | contradiction | (conv => whnf))) | (refine And.intro (a := (_ : Bool) = true) ?_ ?_; rotate_left 1; (conv => whnf))))
      all_goals first | rfl | trivial | assumption | decide | exact W.bne_z (by assumption) | exact W.nz (by assumption) | exact W.nz2 (by assumption) | exact W.at64_in _ | exact W.at32_in _ _ | exact W.eqv_yes h (W.modU_t (by assumption)) | exact W.eqv_yes h (W.modU_f (by assumption)) | exact W.eqv_yes h rfl
    · (conv => whnf)
      (repeat' (first | (refine step_t (by first | rfl | assumption) ?_; (conv => whnf)) | (refine step_f (by first | rfl | assumption) ?_; (conv => whnf)) | (refine step_nt (by assumption) ?_; (conv => whnf)) | (refine step_nf (by assumption) ?_; (conv => whnf)) | (refine step_n (fun hb => ?_) (fun hb => ?_) <;> (first | contradiction | (conv => whnf))) | (refine And.intro (fun hb => ?_) (fun hb => ?_) <;> (first | contradiction | (conv => whnf))) | (refine And.intro (a := (_ : Bool) = true) ?_ ?_; rotate_left 1; (conv => whnf))))
      all_goals first | rfl | trivial | assumption | decide | exact W.bne_z (by assumption) | exact W.nz (by assumption) | exact W.nz2 (by assumption) | exact W.at64_in _ | exact W.at32_in _ _ | exact W.eqv_yes h (W.modS_t (by assumption)) | exact W.eqv_yes h rfl
    · (conv => whnf)
      (repeat' (first | (refine step_t (by first | rfl | assumption) ?_; (conv => whnf)) | (refine step_f (by first | rfl | assumption) ?_; (conv => whnf)) | (refine step_nt (by assumption) ?_; (conv => whnf)) | (refine step_nf (by assumption) ?_; (conv => whnf)) | (refine step_n (fun hb => ?_) (fun hb => ?_) <;> (first | contradiction | (conv => whnf))) | (refine And.intro (fun hb => ?_) (fun hb => ?_) <;> (first | contradiction | (conv => whnf))) | (refine And.intro (a := (_ : Bool) = true) ?_ ?_; rotate_left 1; (conv => whnf))))
      all_goals first | rfl | trivial | assumption | decide | exact W.bne_z (by assumption) | exact W.nz (by assumption) | exact W.nz2 (by assumption) | exact W.at64_in _ | exact W.at32_in _ _ | exact W.eqv_yes h rfl
    · (conv => whnf)
      (repeat' (first | (refine step_t (by first | rfl | assumption) ?_; (conv => whnf)) | (refine step_f (by first | rfl | assumption) ?_; (conv => whnf)) | (refine step_nt (by assumption) ?_; (conv => whnf)) | (refine step_nf (by assumption) ?_; (conv => whnf)) | (refine step_n (fun hb => ?_) (fun hb => ?_) <;> (first | contradiction | (conv => whnf))) | (refine And.intro (fun hb => ?_) (fun hb => ?_) <;> (first | contradiction | (conv => whnf))) | (refine And.intro (a := (_ : Bool) = true) ?_ ?_; rotate_left 1; (conv => whnf))))
      all_goals first | rfl | trivial | assumption | decide | exact W.bne_z (by assumption) | exact W.nz (by assumption) | exact W.nz2 (by assumption) | exact W.at64_in _ | exact W.at32_in _ _ | exact W.eqv_yes h rfl
    · (conv => whnf)
      (repeat' (first | (refine step_t (by first | rfl | assumption) ?_; (conv => whnf)) | (refine step_f (by first | rfl | assumption) ?_; (conv => whnf)) | (refine step_nt (by assumption) ?_; (conv => whnf)) | (refine step_nf (by assumption) ?_; (conv => whnf)) | (refine step_n (fun hb => ?_) (fun hb => ?_) <;> (first | contradiction | (conv => whnf))) | (refine And.intro (fun hb => ?_) (fun hb => ?_) <;> (first | contradiction | (conv => whnf))) | (refine And.intro (a := (_ : Bool) = true) ?_ ?_; rotate_left 1; (conv => whnf))))
      all_goals first | rfl | trivial | assumption | decide | exact W.bne_z (by assumption) | exact W.nz (by assumption) | exact W.nz2 (by assumption) | exact W.at64_in _ | exact W.at32_in _ _ | exact W.eqv_yes h rfl
    · (conv => whnf)
      (repeat' (first | (refine step_t (by first | rfl | assumption) ?_; (conv => whnf)) | (refine step_f (by first | rfl | assumption) ?_; (conv => whnf)) | (refine step_nt (by assumption) ?_; (conv => whnf)) | (refine step_nf (by assumption) ?_; (conv => whnf)) | (refine step_n (fun hb => ?_) (fun hb => ?_) <;> (first | contradiction | (conv => whnf))) | (refine And.intro (fun hb => ?_) (fun hb => ?_) <;> (first | contradiction | (conv => whnf))) | (refine And.intro (a := (_ : Bool) = true) ?_ ?_; rotate_left 1; (conv => whnf))))
      all_goals first | rfl | trivial | assumption | decide | exact W.bne_z (by assumption) | exact W.nz (by assumption) | exact W.nz2 (by assumption) | exact W.at64_in _ | exact W.at32_in _ _ | exact W.eqv_yes h (by rw [W.at_64]; rfl) | exact W.eqv_yes h rfl
    · (conv => whnf)
      (repeat' (first | (refine step_t (by first | rfl | assumption) ?_; (conv => whnf)) | (refine step_f (by first | rfl | assumption) ?_; (conv => whnf)) | (refine step_nt (by assumption) ?_; (conv => whnf)) | (refine step_nf (by assumption) ?_; (conv => whnf)) | (refine step_n (fun hb => ?_) (fun hb => ?_) <;> (first | contradiction | (conv => whnf))) | (refine And.intro (fun hb => ?_) (fun hb => ?_) <;> (first | contradiction | (conv => whnf))) | (refine And.intro (a := (_ : Bool) = true) ?_ ?_; rotate_left 1; (conv => whnf))))
      all_goals first | rfl | trivial | assumption | decide | exact W.bne_z (by assumption) | exact W.nz (by assumption) | exact W.nz2 (by assumption) | exact W.at64_in _ | exact W.at32_in _ _ | exact W.eqv_yes h (by rw [W.at_64]; rfl) | exact W.eqv_yes h rfl
    · (conv => whnf)
      (repeat' (first | (refine step_t (by first | rfl | assumption) ?_; (conv => whnf)) | (refine step_f (by first | rfl | assumption) ?_; (conv => whnf)) | (refine step_nt (by assumption) ?_; (conv => whnf)) | (refine step_nf (by assumption) ?_; (conv => whnf)) | (refine step_n (fun hb => ?_) (fun hb => ?_) <;> (first | contradiction | (conv => whnf))) | (refine And.intro (fun hb => ?_) (fun hb => ?_) <;> (first | contradiction | (conv => whnf))) | (refine And.intro (a := (_ : Bool) = true) ?_ ?_; rotate_left 1; (conv => whnf))))
      all_goals first | rfl | trivial | assumption | decide | exact W.bne_z (by assumption) | exact W.nz (by assumption) | exact W.nz2 (by assumption) | exact W.at64_in _ | exact W.at32_in _ _ | exact W.eqv_yes h (W.sar_at a b) | exact W.eqv_yes h rfl
    · (conv => whnf)
      (repeat' (first | (refine step_t (by first | rfl | assumption) ?_; (conv => whnf)) | (refine step_f (by first | rfl | assumption) ?_; (conv => whnf)) | (refine step_nt (by assumption) ?_; (conv => whnf)) | (refine step_nf (by assumption) ?_; (conv => whnf)) | (refine step_n (fun hb => ?_) (fun hb => ?_) <;> (first | contradiction | (conv => whnf))) | (refine And.intro (fun hb => ?_) (fun hb => ?_) <;> (first | contradiction | (conv => whnf))) | (refine And.intro (a := (_ : Bool) = true) ?_ ?_; rotate_left 1; (conv => whnf))))
      all_goals first | rfl | trivial | assumption | decide | exact W.bne_z (by assumption) | exact W.nz (by assumption) | exact W.nz2 (by assumption) | exact W.at64_in _ | exact W.at32_in _ _ | exact W.eqv_yes h rfl
    · (conv => whnf)
      (repeat' (first | (refine step_t (by first | rfl | assumption) ?_; (conv => whnf)) | (refine step_f (by first | rfl | assumption) ?_; (conv => whnf)) | (refine step_nt (by assumption) ?_; (conv => whnf)) | (refine step_nf (by assumption) ?_; (conv => whnf)) | (refine step_n (fun hb => ?_) (fun hb => ?_) <;> (first | contradiction | (conv => whnf))) | (refine And.intro (fun hb => ?_) (fun hb => ?_) <;> (first | contradiction | (conv => whnf))) | (refine And.intro (a := (_ : Bool) = true) ?_ ?_; rotate_left 1; (conv => whnf))))
      all_goals first | rfl | trivial | assumption | decide | exact W.bne_z (by assumption) | exact W.nz (by assumption) | exact W.nz2 (by assumption) | exact W.at64_in _ | exact W.at32_in _ _ | exact W.eqv_yes h rfl
    · (conv => whnf)
      (repeat' (first | (refine step_t (by first | rfl | assumption) ?_; (conv => whnf)) | (refine step_f (by first | rfl | assumption) ?_; (conv => whnf)) | (refine step_nt (by assumption) ?_; (conv => whnf)) | (refine step_nf (by assumption) ?_; (conv => whnf)) | (refine step_n (fun hb => ?_) (fun hb => ?_) <;> (first | contradiction | (conv => whnf))) | (refine And.intro (fun hb => ?_) (fun hb => ?_) <;> (first | contradiction | (conv => whnf))) | (refine And.intro (a := (_ : Bool) = true) ?_ ?_; rotate_left 1; (conv => whnf))))
      all_goals first | rfl | trivial | assumption | decide | exact W.bne_z (by assumption) | exact W.nz (by assumption) | exact W.nz2 (by assumption) | exact W.at64_in _ | exact W.at32_in _ _ | exact W.eqv_yes h ((W.mov_8 b).symm) | exact W.eqv_yes h rfl
    · (conv => whnf)
      (repeat' (first | (refine step_t (by first | rfl | assumption) ?_; (conv => whnf)) | (refine step_f (by first | rfl | assumption) ?_; (conv => whnf)) | (refine step_nt (by assumption) ?_; (conv => whnf)) | (refine step_nf (by assumption) ?_; (conv => whnf)) | (refine step_n (fun hb => ?_) (fun hb => ?_) <;> (first | contradiction | (conv => whnf))) | (refine And.intro (fun hb => ?_) (fun hb => ?_) <;> (first | contradiction | (conv => whnf))) | (refine And.intro (a := (_ : Bool) = true) ?_ ?_; rotate_left 1; (conv => whnf))))
      all_goals first | rfl | trivial | assumption | decide | exact W.bne_z (by assumption) | exact W.nz (by assumption) | exact W.nz2 (by assumption) | exact W.at64_in _ | exact W.at32_in _ _ | exact W.eqv_yes h ((W.mov_16 b).symm) | exact W.eqv_yes h rfl
  · have h : (W.aluW op off a b).2 = false := by revert h; cases (W.aluW op off a b).2 <;> simp
    have hk : W.know op off true = false := (W.know_eq op off true a b).trans h
    (conv => whnf)
    (repeat' (first | (refine step_t (by first | rfl | assumption) ?_; (conv => whnf)) | (refine step_f (by first | rfl | assumption) ?_; (conv => whnf)) | (refine step_nt (by assumption) ?_; (conv => whnf)) | (refine step_nf (by assumption) ?_; (conv => whnf)) | (refine step_n (fun hb => ?_) (fun hb => ?_) <;> (first | contradiction | (conv => whnf))) | (refine And.intro (fun hb => ?_) (fun hb => ?_) <;> (first | contradiction | (conv => whnf))) | (refine And.intro (a := (_ : Bool) = true) ?_ ?_; rotate_left 1; (conv => whnf))))
    all_goals first | rfl | trivial | assumption | exact W.eqv_no (W.aluW_no h)
theorem raluf_run (op off : Int) (a b : BitVec 64) : run Tryz.prog ⟨[(107, k_rknown), (108, k_rcut), (109, k_xTimes), (111, k_xArsh), (138, k_rquot), (139, k_rrest), (112, k_rwiden)], eqs, [], [(110, Tryz.f110, [])], []⟩ 10000 [] 0 (bodyOf Tryz.f33) (initF Tryz.f33 [.int .u8 op, .int .i16 off, .ff, .u64 a, .u64 b]) [] (retK Tryz.prog Tryz.f33 fun x _ => eqv x (.tup [.u64 (W.aluN op off a b).1, .bool (W.aluN op off a b).2])) := by
  by_cases h : (W.aluN op off a b).2 = true
  · have hk : W.know op off false = true := (W.know_eq op off false a b).trans h
    have sa := W.xt_lt a
    have sb := W.xt_lt b
    have hx := (W.is_xt op off a b).trans h
    rcases W.alu32_cases (W.aluN_2 h) with ⟨rfl, rfl⟩ | ⟨rfl, rfl⟩ | ⟨rfl, rfl⟩ | ⟨rfl, rfl⟩ | ⟨rfl, rfl⟩ | ⟨rfl, rfl⟩ | ⟨rfl, rfl⟩ | ⟨rfl, rfl⟩ | ⟨rfl, rfl⟩ | ⟨rfl, rfl⟩ | ⟨rfl, rfl⟩ | ⟨rfl, rfl⟩ | ⟨rfl, rfl⟩ | ⟨rfl, rfl⟩ | ⟨rfl, rfl⟩ | ⟨rfl, rfl⟩ | ⟨rfl, rfl⟩
    · (conv => whnf)
      (repeat' (first | (refine step_t (by first | rfl | assumption) ?_; (conv => whnf)) | (refine step_f (by first | rfl | assumption) ?_; (conv => whnf)) | (refine step_nt (by assumption) ?_; (conv => whnf)) | (refine step_nf (by assumption) ?_; (conv => whnf)) | (refine step_n (fun hb => ?_) (fun hb => ?_) <;> (first | contradiction | (conv => whnf))) | (refine And.intro (fun hb => ?_) (fun hb => ?_) <;> (first | contradiction | (conv => whnf))) | (refine And.intro (a := (_ : Bool) = true) ?_ ?_; rotate_left 1; (conv => whnf))))
      all_goals first | rfl | trivial | assumption | decide | exact W.bne_z (by assumption) | exact W.nz (by assumption) | exact W.nz2 (by assumption) | exact W.at64_in _ | exact W.at32_in _ _ | exact W.eqv_yes h (W.cl (W.n_0 sa sb)) | exact W.eqv_yes h rfl
    · (conv => whnf)
      (repeat' (first | (refine step_t (by first | rfl | assumption) ?_; (conv => whnf)) | (refine step_f (by first | rfl | assumption) ?_; (conv => whnf)) | (refine step_nt (by assumption) ?_; (conv => whnf)) | (refine step_nf (by assumption) ?_; (conv => whnf)) | (refine step_n (fun hb => ?_) (fun hb => ?_) <;> (first | contradiction | (conv => whnf))) | (refine And.intro (fun hb => ?_) (fun hb => ?_) <;> (first | contradiction | (conv => whnf))) | (refine And.intro (a := (_ : Bool) = true) ?_ ?_; rotate_left 1; (conv => whnf))))
      all_goals first | rfl | trivial | assumption | decide | exact W.bne_z (by assumption) | exact W.nz (by assumption) | exact W.nz2 (by assumption) | exact W.at64_in _ | exact W.at32_in _ _ | exact W.eqv_yes h (W.cl (W.n_16 sa sb)) | exact W.eqv_yes h rfl
    · (conv => whnf)
      (repeat' (first | (refine step_t (by first | rfl | assumption) ?_; (conv => whnf)) | (refine step_f (by first | rfl | assumption) ?_; (conv => whnf)) | (refine step_nt (by assumption) ?_; (conv => whnf)) | (refine step_nf (by assumption) ?_; (conv => whnf)) | (refine step_n (fun hb => ?_) (fun hb => ?_) <;> (first | contradiction | (conv => whnf))) | (refine And.intro (fun hb => ?_) (fun hb => ?_) <;> (first | contradiction | (conv => whnf))) | (refine And.intro (a := (_ : Bool) = true) ?_ ?_; rotate_left 1; (conv => whnf))))
      all_goals first | rfl | trivial | assumption | decide | exact W.bne_z (by assumption) | exact W.nz (by assumption) | exact W.nz2 (by assumption) | exact W.at64_in _ | exact W.at32_in _ _ | exact W.eqv_yes h (W.cl (W.n_32 sa sb)) | exact W.eqv_yes h rfl
    · (conv => whnf)
      (repeat' (first | (refine step_t (by first | rfl | assumption) ?_; (conv => whnf)) | (refine step_f (by first | rfl | assumption) ?_; (conv => whnf)) | (refine step_nt (by assumption) ?_; (conv => whnf)) | (refine step_nf (by assumption) ?_; (conv => whnf)) | (refine step_n (fun hb => ?_) (fun hb => ?_) <;> (first | contradiction | (conv => whnf))) | (refine And.intro (fun hb => ?_) (fun hb => ?_) <;> (first | contradiction | (conv => whnf))) | (refine And.intro (a := (_ : Bool) = true) ?_ ?_; rotate_left 1; (conv => whnf))))
      all_goals first | rfl | trivial | assumption | decide | exact W.bne_z (by assumption) | exact W.nz (by assumption) | exact W.nz2 (by assumption) | exact W.at64_in _ | exact W.at32_in _ _ | exact W.eqv_yes h ((congrArg (fun q => W.xt q 32 false) (W.divU_t (by assumption))).trans (W.cl (W.n_48 sa sb))) | exact W.eqv_yes h ((congrArg (fun q => W.xt q 32 false) (W.divU_f (by assumption))).trans (W.cl (W.n_48 sa sb))) | exact W.eqv_yes h rfl
    · (conv => whnf)
      (repeat' (first | (refine step_t (by first | rfl | assumption) ?_; (conv => whnf)) | (refine step_f (by first | rfl | assumption) ?_; (conv => whnf)) | (refine step_nt (by assumption) ?_; (conv => whnf)) | (refine step_nf (by assumption) ?_; (conv => whnf)) | (refine step_n (fun hb => ?_) (fun hb => ?_) <;> (first | contradiction | (conv => whnf))) | (refine And.intro (fun hb => ?_) (fun hb => ?_) <;> (first | contradiction | (conv => whnf))) | (refine And.intro (a := (_ : Bool) = true) ?_ ?_; rotate_left 1; (conv => whnf))))
      all_goals first | rfl | trivial | assumption | decide | exact W.bne_z (by assumption) | exact W.nz (by assumption) | exact W.nz2 (by assumption) | exact W.at64_in _ | exact W.at32_in _ _ | exact W.eqv_yes h (W.xt0.trans (W.cl (W.n_48_z sa sb (by assumption)))) | exact W.eqv_yes h ((W.nar_fix sa sb hx).trans (W.nar_xt 48 1 a b)) | exact W.eqv_yes h rfl
    · (conv => whnf)
      (repeat' (first | (refine step_t (by first | rfl | assumption) ?_; (conv => whnf)) | (refine step_f (by first | rfl | assumption) ?_; (conv => whnf)) | (refine step_nt (by assumption) ?_; (conv => whnf)) | (refine step_nf (by assumption) ?_; (conv => whnf)) | (refine step_n (fun hb => ?_) (fun hb => ?_) <;> (first | contradiction | (conv => whnf))) | (refine And.intro (fun hb => ?_) (fun hb => ?_) <;> (first | contradiction | (conv => whnf))) | (refine And.intro (a := (_ : Bool) = true) ?_ ?_; rotate_left 1; (conv => whnf))))
      all_goals first | rfl | trivial | assumption | decide | exact W.bne_z (by assumption) | exact W.nz (by assumption) | exact W.nz2 (by assumption) | exact W.at64_in _ | exact W.at32_in _ _ | exact W.eqv_yes h ((congrArg (fun q => W.xt q 32 false) (W.modU_t (by assumption))).trans (W.cl (W.n_144 sa sb))) | exact W.eqv_yes h ((congrArg (fun q => W.xt q 32 false) (W.modU_f (by assumption))).trans (W.cl (W.n_144 sa sb))) | exact W.eqv_yes h rfl
    · (conv => whnf)
      (repeat' (first | (refine step_t (by first | rfl | assumption) ?_; (conv => whnf)) | (refine step_f (by first | rfl | assumption) ?_; (conv => whnf)) | (refine step_nt (by assumption) ?_; (conv => whnf)) | (refine step_nf (by assumption) ?_; (conv => whnf)) | (refine step_n (fun hb => ?_) (fun hb => ?_) <;> (first | contradiction | (conv => whnf))) | (refine And.intro (fun hb => ?_) (fun hb => ?_) <;> (first | contradiction | (conv => whnf))) | (refine And.intro (a := (_ : Bool) = true) ?_ ?_; rotate_left 1; (conv => whnf))))
      all_goals first | rfl | trivial | assumption | decide | exact W.bne_z (by assumption) | exact W.nz (by assumption) | exact W.nz2 (by assumption) | exact W.at64_in _ | exact W.at32_in _ _ | exact W.eqv_yes h ((C.xt_idem a (by decide) false).trans (W.cl (W.n_144_z sa sb (by assumption)))) | exact W.eqv_yes h ((W.nar_fix sa sb hx).trans (W.nar_xt 144 1 a b)) | exact W.eqv_yes h rfl
    · (conv => whnf)
      (repeat' (first | (refine step_t (by first | rfl | assumption) ?_; (conv => whnf)) | (refine step_f (by first | rfl | assumption) ?_; (conv => whnf)) | (refine step_nt (by assumption) ?_; (conv => whnf)) | (refine step_nf (by assumption) ?_; (conv => whnf)) | (refine step_n (fun hb => ?_) (fun hb => ?_) <;> (first | contradiction | (conv => whnf))) | (refine And.intro (fun hb => ?_) (fun hb => ?_) <;> (first | contradiction | (conv => whnf))) | (refine And.intro (a := (_ : Bool) = true) ?_ ?_; rotate_left 1; (conv => whnf))))
      all_goals first | rfl | trivial | assumption | decide | exact W.bne_z (by assumption) | exact W.nz (by assumption) | exact W.nz2 (by assumption) | exact W.at64_in _ | exact W.at32_in _ _ | exact W.eqv_yes h (W.cl (W.n_64 sa sb)) | exact W.eqv_yes h rfl
    · (conv => whnf)
      (repeat' (first | (refine step_t (by first | rfl | assumption) ?_; (conv => whnf)) | (refine step_f (by first | rfl | assumption) ?_; (conv => whnf)) | (refine step_nt (by assumption) ?_; (conv => whnf)) | (refine step_nf (by assumption) ?_; (conv => whnf)) | (refine step_n (fun hb => ?_) (fun hb => ?_) <;> (first | contradiction | (conv => whnf))) | (refine And.intro (fun hb => ?_) (fun hb => ?_) <;> (first | contradiction | (conv => whnf))) | (refine And.intro (a := (_ : Bool) = true) ?_ ?_; rotate_left 1; (conv => whnf))))
      all_goals first | rfl | trivial | assumption | decide | exact W.bne_z (by assumption) | exact W.nz (by assumption) | exact W.nz2 (by assumption) | exact W.at64_in _ | exact W.at32_in _ _ | exact W.eqv_yes h (W.cl (W.n_80 sa sb)) | exact W.eqv_yes h rfl
    · (conv => whnf)
      (repeat' (first | (refine step_t (by first | rfl | assumption) ?_; (conv => whnf)) | (refine step_f (by first | rfl | assumption) ?_; (conv => whnf)) | (refine step_nt (by assumption) ?_; (conv => whnf)) | (refine step_nf (by assumption) ?_; (conv => whnf)) | (refine step_n (fun hb => ?_) (fun hb => ?_) <;> (first | contradiction | (conv => whnf))) | (refine And.intro (fun hb => ?_) (fun hb => ?_) <;> (first | contradiction | (conv => whnf))) | (refine And.intro (a := (_ : Bool) = true) ?_ ?_; rotate_left 1; (conv => whnf))))
      all_goals first | rfl | trivial | assumption | decide | exact W.bne_z (by assumption) | exact W.nz (by assumption) | exact W.nz2 (by assumption) | exact W.at64_in _ | exact W.at32_in _ _ | exact W.eqv_yes h (W.cl (W.n_160 sa sb)) | exact W.eqv_yes h rfl
    · (conv => whnf)
      (repeat' (first | (refine step_t (by first | rfl | assumption) ?_; (conv => whnf)) | (refine step_f (by first | rfl | assumption) ?_; (conv => whnf)) | (refine step_nt (by assumption) ?_; (conv => whnf)) | (refine step_nf (by assumption) ?_; (conv => whnf)) | (refine step_n (fun hb => ?_) (fun hb => ?_) <;> (first | contradiction | (conv => whnf))) | (refine And.intro (fun hb => ?_) (fun hb => ?_) <;> (first | contradiction | (conv => whnf))) | (refine And.intro (a := (_ : Bool) = true) ?_ ?_; rotate_left 1; (conv => whnf))))
      all_goals first | rfl | trivial | assumption | decide | exact W.bne_z (by assumption) | exact W.nz (by assumption) | exact W.nz2 (by assumption) | exact W.at64_in _ | exact W.at32_in _ _ | exact W.eqv_yes h ((congrArg (fun q => W.xt (W.xt a 32 false <<< q) 32 false) (W.at_32 _)).trans (W.cl (W.n_96 sa sb))) | exact W.eqv_yes h rfl
    · (conv => whnf)
      (repeat' (first | (refine step_t (by first | rfl | assumption) ?_; (conv => whnf)) | (refine step_f (by first | rfl | assumption) ?_; (conv => whnf)) | (refine step_nt (by assumption) ?_; (conv => whnf)) | (refine step_nf (by assumption) ?_; (conv => whnf)) | (refine step_n (fun hb => ?_) (fun hb => ?_) <;> (first | contradiction | (conv => whnf))) | (refine And.intro (fun hb => ?_) (fun hb => ?_) <;> (first | contradiction | (conv => whnf))) | (refine And.intro (a := (_ : Bool) = true) ?_ ?_; rotate_left 1; (conv => whnf))))
      all_goals first | rfl | trivial | assumption | decide | exact W.bne_z (by assumption) | exact W.nz (by assumption) | exact W.nz2 (by assumption) | exact W.at64_in _ | exact W.at32_in _ _ | exact W.eqv_yes h ((congrArg (fun q => W.xt (W.xt a 32 false >>> q) 32 false) (W.at_32 _)).trans (W.cl (W.n_112 sa sb))) | exact W.eqv_yes h rfl
    · (conv => whnf)
      (repeat' (first | (refine step_t (by first | rfl | assumption) ?_; (conv => whnf)) | (refine step_f (by first | rfl | assumption) ?_; (conv => whnf)) | (refine step_nt (by assumption) ?_; (conv => whnf)) | (refine step_nf (by assumption) ?_; (conv => whnf)) | (refine step_n (fun hb => ?_) (fun hb => ?_) <;> (first | contradiction | (conv => whnf))) | (refine And.intro (fun hb => ?_) (fun hb => ?_) <;> (first | contradiction | (conv => whnf))) | (refine And.intro (a := (_ : Bool) = true) ?_ ?_; rotate_left 1; (conv => whnf))))
      all_goals first | rfl | trivial | assumption | decide | exact W.bne_z (by assumption) | exact W.nz (by assumption) | exact W.nz2 (by assumption) | exact W.at64_in _ | exact W.at32_in _ _ | exact W.eqv_yes h ((W.sar32_at sa sb).trans (W.nar_xt 192 0 a b)) | exact W.eqv_yes h rfl
    · (conv => whnf)
      (repeat' (first | (refine step_t (by first | rfl | assumption) ?_; (conv => whnf)) | (refine step_f (by first | rfl | assumption) ?_; (conv => whnf)) | (refine step_nt (by assumption) ?_; (conv => whnf)) | (refine step_nf (by assumption) ?_; (conv => whnf)) | (refine step_n (fun hb => ?_) (fun hb => ?_) <;> (first | contradiction | (conv => whnf))) | (refine And.intro (fun hb => ?_) (fun hb => ?_) <;> (first | contradiction | (conv => whnf))) | (refine And.intro (a := (_ : Bool) = true) ?_ ?_; rotate_left 1; (conv => whnf))))
      all_goals first | rfl | trivial | assumption | decide | exact W.bne_z (by assumption) | exact W.nz (by assumption) | exact W.nz2 (by assumption) | exact W.at64_in _ | exact W.at32_in _ _ | exact W.eqv_yes h (W.cl (W.n_128 sa sb)) | exact W.eqv_yes h rfl
    · (conv => whnf)
      (repeat' (first | (refine step_t (by first | rfl | assumption) ?_; (conv => whnf)) | (refine step_f (by first | rfl | assumption) ?_; (conv => whnf)) | (refine step_nt (by assumption) ?_; (conv => whnf)) | (refine step_nf (by assumption) ?_; (conv => whnf)) | (refine step_n (fun hb => ?_) (fun hb => ?_) <;> (first | contradiction | (conv => whnf))) | (refine And.intro (fun hb => ?_) (fun hb => ?_) <;> (first | contradiction | (conv => whnf))) | (refine And.intro (a := (_ : Bool) = true) ?_ ?_; rotate_left 1; (conv => whnf))))
      all_goals first | rfl | trivial | assumption | decide | exact W.bne_z (by assumption) | exact W.nz (by assumption) | exact W.nz2 (by assumption) | exact W.at64_in _ | exact W.at32_in _ _ | exact W.eqv_yes h (W.cl (W.n_176 sa sb)) | exact W.eqv_yes h rfl
    · (conv => whnf)
      (repeat' (first | (refine step_t (by first | rfl | assumption) ?_; (conv => whnf)) | (refine step_f (by first | rfl | assumption) ?_; (conv => whnf)) | (refine step_nt (by assumption) ?_; (conv => whnf)) | (refine step_nf (by assumption) ?_; (conv => whnf)) | (refine step_n (fun hb => ?_) (fun hb => ?_) <;> (first | contradiction | (conv => whnf))) | (refine And.intro (fun hb => ?_) (fun hb => ?_) <;> (first | contradiction | (conv => whnf))) | (refine And.intro (a := (_ : Bool) = true) ?_ ?_; rotate_left 1; (conv => whnf))))
      all_goals first | rfl | trivial | assumption | decide | exact W.bne_z (by assumption) | exact W.nz (by assumption) | exact W.nz2 (by assumption) | exact W.at64_in _ | exact W.at32_in _ _ | exact W.eqv_yes h (W.cl (W.n_176_8 sa sb)) | exact W.eqv_yes h rfl
    · (conv => whnf)
      (repeat' (first | (refine step_t (by first | rfl | assumption) ?_; (conv => whnf)) | (refine step_f (by first | rfl | assumption) ?_; (conv => whnf)) | (refine step_nt (by assumption) ?_; (conv => whnf)) | (refine step_nf (by assumption) ?_; (conv => whnf)) | (refine step_n (fun hb => ?_) (fun hb => ?_) <;> (first | contradiction | (conv => whnf))) | (refine And.intro (fun hb => ?_) (fun hb => ?_) <;> (first | contradiction | (conv => whnf))) | (refine And.intro (a := (_ : Bool) = true) ?_ ?_; rotate_left 1; (conv => whnf))))
      all_goals first | rfl | trivial | assumption | decide | exact W.bne_z (by assumption) | exact W.nz (by assumption) | exact W.nz2 (by assumption) | exact W.at64_in _ | exact W.at32_in _ _ | exact W.eqv_yes h (W.cl (W.n_176_16 sa sb)) | exact W.eqv_yes h rfl
  · have h : (W.aluN op off a b).2 = false := by revert h; cases (W.aluN op off a b).2 <;> simp
    have hk : W.know op off false = false := (W.know_eq op off false a b).trans h
    (conv => whnf)
    (repeat' (first | (refine step_t (by first | rfl | assumption) ?_; (conv => whnf)) | (refine step_f (by first | rfl | assumption) ?_; (conv => whnf)) | (refine step_nt (by assumption) ?_; (conv => whnf)) | (refine step_nf (by assumption) ?_; (conv => whnf)) | (refine step_n (fun hb => ?_) (fun hb => ?_) <;> (first | contradiction | (conv => whnf))) | (refine And.intro (fun hb => ?_) (fun hb => ?_) <;> (first | contradiction | (conv => whnf))) | (refine And.intro (a := (_ : Bool) = true) ?_ ?_; rotate_left 1; (conv => whnf))))
    all_goals first | rfl | trivial | assumption | exact W.eqv_no (W.aluN_no h)
def k_rAlu : List SV → List Blk → Res := fun args _ => match args with
  | [.int .u8 op, .int .i16 off, .tt, .u64 a, .u64 b] => .ok (.tup [.u64 (W.aluG op off true a b).1, .bool (W.aluG op off true a b).2]) []
  | [.int .u8 op, .int .i16 off, .ff, .u64 a, .u64 b] => .ok (.tup [.u64 (W.aluG op off false a b).1, .bool (W.aluG op off false a b).2]) []
  | _ => .fail
theorem k_rAlu_ok : CtrOk Tryz.prog Gw 33 k_rAlu := by
  refine ⟨fun _ _ => by kernel_rfl, fun args M => ?_⟩
  unfold k_rAlu
  split
  · rename_i op off a b
    exact ctr_flat (Γ := ⟨[(107, k_rknown), (108, k_rcut), (109, k_xTimes), (111, k_xArsh), (138, k_rquot), (139, k_rrest), (112, k_rwiden)], eqs, [], [(110, Tryz.f110, [])], []⟩) (sv := .tup [.u64 (W.aluG op off true a b).1, .bool (W.aluG op off true a b).2]) st_Gw ⟨(okCons k_rknown_ok (okCons k_rcut_ok (okCons k_xTimes_ok (okCons k_xArsh_ok (okCons k_rquot_ok (okCons k_rrest_ok (okCons k_rwiden_ok okNil))))))), eqs_ok, okNilB, (okConsI Tryz.func110 rfl (by kernel_rfl) (fun _ _ => by kernel_rfl) okNilI), okNilP⟩ Tryz.func33 rfl mixed [] (by kernel_rfl) 10000 (by rfl) (ralut_run op off a b)
  · rename_i op off a b
    exact ctr_flat (Γ := ⟨[(107, k_rknown), (108, k_rcut), (109, k_xTimes), (111, k_xArsh), (138, k_rquot), (139, k_rrest), (112, k_rwiden)], eqs, [], [(110, Tryz.f110, [])], []⟩) (sv := .tup [.u64 (W.aluG op off false a b).1, .bool (W.aluG op off false a b).2]) st_Gw ⟨(okCons k_rknown_ok (okCons k_rcut_ok (okCons k_xTimes_ok (okCons k_xArsh_ok (okCons k_rquot_ok (okCons k_rrest_ok (okCons k_rwiden_ok okNil))))))), eqs_ok, okNilB, (okConsI Tryz.func110 rfl (by kernel_rfl) (fun _ _ => by kernel_rfl) okNilI), okNilP⟩ Tryz.func33 rfl mixed [] (by kernel_rfl) 10000 (by rfl) (raluf_run op off a b)
  · trivial
end Go.Proofs.YtkfbjnikkmoanaaGreatDoor
namespace Go.Proofs.YtkfbjnikkmoanaaGreatDoor
open Go.RowKit Go.Sx
set_option linter.unusedSimpArgs false
set_option linter.unusedVariables false
set_option linter.unnecessarySimpa false
set_option maxRecDepth 100000
set_option maxHeartbeats 4000000
namespace W
theorem lt64 {p : Nat → Prop} (h : p 0 ∧ p 1 ∧ p 2 ∧ p 3 ∧ p 4 ∧ p 5 ∧ p 6 ∧ p 7 ∧ p 8 ∧ p 9 ∧ p 10 ∧ p 11 ∧ p 12 ∧ p 13 ∧ p 14 ∧ p 15 ∧ p 16 ∧ p 17 ∧ p 18 ∧ p 19 ∧ p 20 ∧ p 21 ∧ p 22 ∧ p 23 ∧ p 24 ∧ p 25 ∧ p 26 ∧ p 27 ∧ p 28 ∧ p 29 ∧ p 30 ∧ p 31 ∧ p 32 ∧ p 33 ∧ p 34 ∧ p 35 ∧ p 36 ∧ p 37 ∧ p 38 ∧ p 39 ∧ p 40 ∧ p 41 ∧ p 42 ∧ p 43 ∧ p 44 ∧ p 45 ∧ p 46 ∧ p 47 ∧ p 48 ∧ p 49 ∧ p 50 ∧ p 51 ∧ p 52 ∧ p 53 ∧ p 54 ∧ p 55 ∧ p 56 ∧ p 57 ∧ p 58 ∧ p 59 ∧ p 60 ∧ p 61 ∧ p 62 ∧ p 63) (i : Nat) (hi : i < 64) : p i := match i, hi with
  | 0, _ => h.1
  | 1, _ => h.2.1
  | 2, _ => h.2.2.1
  | 3, _ => h.2.2.2.1
  | 4, _ => h.2.2.2.2.1
  | 5, _ => h.2.2.2.2.2.1
  | 6, _ => h.2.2.2.2.2.2.1
  | 7, _ => h.2.2.2.2.2.2.2.1
  | 8, _ => h.2.2.2.2.2.2.2.2.1
  | 9, _ => h.2.2.2.2.2.2.2.2.2.1
  | 10, _ => h.2.2.2.2.2.2.2.2.2.2.1
  | 11, _ => h.2.2.2.2.2.2.2.2.2.2.2.1
  | 12, _ => h.2.2.2.2.2.2.2.2.2.2.2.2.1
  | 13, _ => h.2.2.2.2.2.2.2.2.2.2.2.2.2.1
  | 14, _ => h.2.2.2.2.2.2.2.2.2.2.2.2.2.2.1
  | 15, _ => h.2.2.2.2.2.2.2.2.2.2.2.2.2.2.2.1
  | 16, _ => h.2.2.2.2.2.2.2.2.2.2.2.2.2.2.2.2.1
  | 17, _ => h.2.2.2.2.2.2.2.2.2.2.2.2.2.2.2.2.2.1
  | 18, _ => h.2.2.2.2.2.2.2.2.2.2.2.2.2.2.2.2.2.2.1
  | 19, _ => h.2.2.2.2.2.2.2.2.2.2.2.2.2.2.2.2.2.2.2.1
  | 20, _ => h.2.2.2.2.2.2.2.2.2.2.2.2.2.2.2.2.2.2.2.2.1
  | 21, _ => h.2.2.2.2.2.2.2.2.2.2.2.2.2.2.2.2.2.2.2.2.2.1
  | 22, _ => h.2.2.2.2.2.2.2.2.2.2.2.2.2.2.2.2.2.2.2.2.2.2.1
  | 23, _ => h.2.2.2.2.2.2.2.2.2.2.2.2.2.2.2.2.2.2.2.2.2.2.2.1
  | 24, _ => h.2.2.2.2.2.2.2.2.2.2.2.2.2.2.2.2.2.2.2.2.2.2.2.2.1
  | 25, _ => h.2.2.2.2.2.2.2.2.2.2.2.2.2.2.2.2.2.2.2.2.2.2.2.2.2.1
  | 26, _ => h.2.2.2.2.2.2.2.2.2.2.2.2.2.2.2.2.2.2.2.2.2.2.2.2.2.2.1
  | 27, _ => h.2.2.2.2.2.2.2.2.2.2.2.2.2.2.2.2.2.2.2.2.2.2.2.2.2.2.2.1
  | 28, _ => h.2.2.2.2.2.2.2.2.2.2.2.2.2.2.2.2.2.2.2.2.2.2.2.2.2.2.2.2.1
  | 29, _ => h.2.2.2.2.2.2.2.2.2.2.2.2.2.2.2.2.2.2.2.2.2.2.2.2.2.2.2.2.2.1
  | 30, _ => h.2.2.2.2.2.2.2.2.2.2.2.2.2.2.2.2.2.2.2.2.2.2.2.2.2.2.2.2.2.2.1
  | 31, _ => h.2.2.2.2.2.2.2.2.2.2.2.2.2.2.2.2.2.2.2.2.2.2.2.2.2.2.2.2.2.2.2.1
  | 32, _ => h.2.2.2.2.2.2.2.2.2.2.2.2.2.2.2.2.2.2.2.2.2.2.2.2.2.2.2.2.2.2.2.2.1
  | 33, _ => h.2.2.2.2.2.2.2.2.2.2.2.2.2.2.2.2.2.2.2.2.2.2.2.2.2.2.2.2.2.2.2.2.2.1
  | 34, _ => h.2.2.2.2.2.2.2.2.2.2.2.2.2.2.2.2.2.2.2.2.2.2.2.2.2.2.2.2.2.2.2.2.2.2.1
  | 35, _ => h.2.2.2.2.2.2.2.2.2.2.2.2.2.2.2.2.2.2.2.2.2.2.2.2.2.2.2.2.2.2.2.2.2.2.2.1
  | 36, _ => h.2.2.2.2.2.2.2.2.2.2.2.2.2.2.2.2.2.2.2.2.2.2.2.2.2.2.2.2.2.2.2.2.2.2.2.2.1
  | 37, _ => h.2.2.2.2.2.2.2.2.2.2.2.2.2.2.2.2.2.2.2.2.2.2.2.2.2.2.2.2.2.2.2.2.2.2.2.2.2.1
  | 38, _ => h.2.2.2.2.2.2.2.2.2.2.2.2.2.2.2.2.2.2.2.2.2.2.2.2.2.2.2.2.2.2.2.2.2.2.2.2.2.2.1
  | 39, _ => h.2.2.2.2.2.2.2.2.2.2.2.2.2.2.2.2.2.2.2.2.2.2.2.2.2.2.2.2.2.2.2.2.2.2.2.2.2.2.2.1
  | 40, _ => h.2.2.2.2.2.2.2.2.2.2.2.2.2.2.2.2.2.2.2.2.2.2.2.2.2.2.2.2.2.2.2.2.2.2.2.2.2.2.2.2.1
  | 41, _ => h.2.2.2.2.2.2.2.2.2.2.2.2.2.2.2.2.2.2.2.2.2.2.2.2.2.2.2.2.2.2.2.2.2.2.2.2.2.2.2.2.2.1
  | 42, _ => h.2.2.2.2.2.2.2.2.2.2.2.2.2.2.2.2.2.2.2.2.2.2.2.2.2.2.2.2.2.2.2.2.2.2.2.2.2.2.2.2.2.2.1
  | 43, _ => h.2.2.2.2.2.2.2.2.2.2.2.2.2.2.2.2.2.2.2.2.2.2.2.2.2.2.2.2.2.2.2.2.2.2.2.2.2.2.2.2.2.2.2.1
  | 44, _ => h.2.2.2.2.2.2.2.2.2.2.2.2.2.2.2.2.2.2.2.2.2.2.2.2.2.2.2.2.2.2.2.2.2.2.2.2.2.2.2.2.2.2.2.2.1
  | 45, _ => h.2.2.2.2.2.2.2.2.2.2.2.2.2.2.2.2.2.2.2.2.2.2.2.2.2.2.2.2.2.2.2.2.2.2.2.2.2.2.2.2.2.2.2.2.2.1
  | 46, _ => h.2.2.2.2.2.2.2.2.2.2.2.2.2.2.2.2.2.2.2.2.2.2.2.2.2.2.2.2.2.2.2.2.2.2.2.2.2.2.2.2.2.2.2.2.2.2.1
  | 47, _ => h.2.2.2.2.2.2.2.2.2.2.2.2.2.2.2.2.2.2.2.2.2.2.2.2.2.2.2.2.2.2.2.2.2.2.2.2.2.2.2.2.2.2.2.2.2.2.2.1
  | 48, _ => h.2.2.2.2.2.2.2.2.2.2.2.2.2.2.2.2.2.2.2.2.2.2.2.2.2.2.2.2.2.2.2.2.2.2.2.2.2.2.2.2.2.2.2.2.2.2.2.2.1
  | 49, _ => h.2.2.2.2.2.2.2.2.2.2.2.2.2.2.2.2.2.2.2.2.2.2.2.2.2.2.2.2.2.2.2.2.2.2.2.2.2.2.2.2.2.2.2.2.2.2.2.2.2.1
  | 50, _ => h.2.2.2.2.2.2.2.2.2.2.2.2.2.2.2.2.2.2.2.2.2.2.2.2.2.2.2.2.2.2.2.2.2.2.2.2.2.2.2.2.2.2.2.2.2.2.2.2.2.2.1
  | 51, _ => h.2.2.2.2.2.2.2.2.2.2.2.2.2.2.2.2.2.2.2.2.2.2.2.2.2.2.2.2.2.2.2.2.2.2.2.2.2.2.2.2.2.2.2.2.2.2.2.2.2.2.2.1
  | 52, _ => h.2.2.2.2.2.2.2.2.2.2.2.2.2.2.2.2.2.2.2.2.2.2.2.2.2.2.2.2.2.2.2.2.2.2.2.2.2.2.2.2.2.2.2.2.2.2.2.2.2.2.2.2.1
  | 53, _ => h.2.2.2.2.2.2.2.2.2.2.2.2.2.2.2.2.2.2.2.2.2.2.2.2.2.2.2.2.2.2.2.2.2.2.2.2.2.2.2.2.2.2.2.2.2.2.2.2.2.2.2.2.2.1
  | 54, _ => h.2.2.2.2.2.2.2.2.2.2.2.2.2.2.2.2.2.2.2.2.2.2.2.2.2.2.2.2.2.2.2.2.2.2.2.2.2.2.2.2.2.2.2.2.2.2.2.2.2.2.2.2.2.2.1
  | 55, _ => h.2.2.2.2.2.2.2.2.2.2.2.2.2.2.2.2.2.2.2.2.2.2.2.2.2.2.2.2.2.2.2.2.2.2.2.2.2.2.2.2.2.2.2.2.2.2.2.2.2.2.2.2.2.2.2.1
  | 56, _ => h.2.2.2.2.2.2.2.2.2.2.2.2.2.2.2.2.2.2.2.2.2.2.2.2.2.2.2.2.2.2.2.2.2.2.2.2.2.2.2.2.2.2.2.2.2.2.2.2.2.2.2.2.2.2.2.2.1
  | 57, _ => h.2.2.2.2.2.2.2.2.2.2.2.2.2.2.2.2.2.2.2.2.2.2.2.2.2.2.2.2.2.2.2.2.2.2.2.2.2.2.2.2.2.2.2.2.2.2.2.2.2.2.2.2.2.2.2.2.2.1
  | 58, _ => h.2.2.2.2.2.2.2.2.2.2.2.2.2.2.2.2.2.2.2.2.2.2.2.2.2.2.2.2.2.2.2.2.2.2.2.2.2.2.2.2.2.2.2.2.2.2.2.2.2.2.2.2.2.2.2.2.2.2.1
  | 59, _ => h.2.2.2.2.2.2.2.2.2.2.2.2.2.2.2.2.2.2.2.2.2.2.2.2.2.2.2.2.2.2.2.2.2.2.2.2.2.2.2.2.2.2.2.2.2.2.2.2.2.2.2.2.2.2.2.2.2.2.2.1
  | 60, _ => h.2.2.2.2.2.2.2.2.2.2.2.2.2.2.2.2.2.2.2.2.2.2.2.2.2.2.2.2.2.2.2.2.2.2.2.2.2.2.2.2.2.2.2.2.2.2.2.2.2.2.2.2.2.2.2.2.2.2.2.2.1
  | 61, _ => h.2.2.2.2.2.2.2.2.2.2.2.2.2.2.2.2.2.2.2.2.2.2.2.2.2.2.2.2.2.2.2.2.2.2.2.2.2.2.2.2.2.2.2.2.2.2.2.2.2.2.2.2.2.2.2.2.2.2.2.2.2.1
  | 62, _ => h.2.2.2.2.2.2.2.2.2.2.2.2.2.2.2.2.2.2.2.2.2.2.2.2.2.2.2.2.2.2.2.2.2.2.2.2.2.2.2.2.2.2.2.2.2.2.2.2.2.2.2.2.2.2.2.2.2.2.2.2.2.2.1
  | 63, _ => h.2.2.2.2.2.2.2.2.2.2.2.2.2.2.2.2.2.2.2.2.2.2.2.2.2.2.2.2.2.2.2.2.2.2.2.2.2.2.2.2.2.2.2.2.2.2.2.2.2.2.2.2.2.2.2.2.2.2.2.2.2.2.2
  | n + 64, h => absurd h (by omega)

theorem u16w (z : Int) : IntKind.u16.wrap z = z % 65536 := by simp [IntKind.wrap, IntKind.signed, IntKind.bits]
theorem uv16 (n : BitVec 64) : IntKind.u16.wrap (uv n) = (((n.setWidth 16).toNat : Nat) : Int) := by
  rw [u16w, BitVec.toNat_setWidth]; unfold uv; omega
theorem uv32 (n : BitVec 64) : IntKind.u32.wrap (uv n) = (((n.setWidth 32).toNat : Nat) : Int) := by
  rw [uwrap, BitVec.toNat_setWidth]; unfold uv; omega
theorem xt16 (n : BitVec 64) : xt n 16 false = (n.setWidth 16).setWidth 64 := by
  refine S.eq_toNat.2 ?_
  rw [C.xt_f n 16 (by decide), BitVec.toNat_setWidth, BitVec.toNat_setWidth]; omega
theorem xt32 (n : BitVec 64) : xt n 32 false = (n.setWidth 32).setWidth 64 := by
  refine S.eq_toNat.2 ?_
  rw [C.xt_f n 32 (by decide), BitVec.toNat_setWidth, BitVec.toNat_setWidth]; omega
section
variable (v w : BitVec 16)
theorem or16 : Go.bits .or .u16 (v.toNat : Int) (w.toNat : Int) = (((v ||| w).toNat : Nat) : Int) := by
  show IntKind.u16.wrap (((BitVec.ofInt 16 (v.toNat : Int) ||| BitVec.ofInt 16 (w.toNat : Int)).toNat : Nat) : Int) = _
  rw [BitVec.ofInt_natCast, BitVec.ofInt_natCast, BitVec.ofNat_toNat, BitVec.ofNat_toNat, BitVec.setWidth_eq, BitVec.setWidth_eq, u16w]
  have := (v ||| w).isLt; omega
theorem r16 : r8 .u16 (v.toNat : Int) 8 = (((v >>> 8).toNat : Nat) : Int) := by
  show Int.fdiv (v.toNat : Int) (2 ^ 8) = _
  rw [BitVec.toNat_ushiftRight, Nat.shiftRight_eq_div_pow, Int.fdiv_eq_ediv_of_nonneg _ (by decide)]; omega
theorem l16 : l8 .u16 (v.toNat : Int) 8 = (((v <<< 8).toNat : Nat) : Int) := by
  show IntKind.u16.wrap ((v.toNat : Int) * 2 ^ 8) = _
  rw [u16w, BitVec.toNat_shiftLeft, Nat.shiftLeft_eq]; omega
theorem rb16_v : rb16 (v.toNat : Int) = (((v >>> 8 ||| v <<< 8).toNat : Nat) : Int) := by
  unfold rb16; rw [r16, l16, or16]
end
section
variable (v w : BitVec 32)
theorem or32 : Go.bits .or .u32 (v.toNat : Int) (w.toNat : Int) = (((v ||| w).toNat : Nat) : Int) := by
  show IntKind.u32.wrap (((BitVec.ofInt 32 (v.toNat : Int) ||| BitVec.ofInt 32 (w.toNat : Int)).toNat : Nat) : Int) = _
  rw [BitVec.ofInt_natCast, BitVec.ofInt_natCast, BitVec.ofNat_toNat, BitVec.ofNat_toNat, BitVec.setWidth_eq, BitVec.setWidth_eq, uwrap]
  have := (v ||| w).isLt; omega
theorem and32 : Go.bits .and .u32 (v.toNat : Int) 16711935 = (((v &&& 16711935#32).toNat : Nat) : Int) := by
  show IntKind.u32.wrap (((BitVec.ofInt 32 (v.toNat : Int) &&& 16711935#32).toNat : Nat) : Int) = _
  rw [BitVec.ofInt_natCast, BitVec.ofNat_toNat, BitVec.setWidth_eq, uwrap]
  have := (v &&& 16711935#32).isLt; omega
theorem r32_8 : r8 .u32 (v.toNat : Int) 8 = (((v >>> 8).toNat : Nat) : Int) := by
  show Int.fdiv (v.toNat : Int) (2 ^ 8) = _
  rw [BitVec.toNat_ushiftRight, Nat.shiftRight_eq_div_pow, Int.fdiv_eq_ediv_of_nonneg _ (by decide)]; omega
theorem l32_8 : l8 .u32 (v.toNat : Int) 8 = (((v <<< 8).toNat : Nat) : Int) := by
  show IntKind.u32.wrap ((v.toNat : Int) * 2 ^ 8) = _
  rw [uwrap, BitVec.toNat_shiftLeft, Nat.shiftLeft_eq]; omega
theorem r32_16 : r8 .u32 (v.toNat : Int) 16 = (((v >>> 16).toNat : Nat) : Int) := by
  show Int.fdiv (v.toNat : Int) (2 ^ 16) = _
  rw [BitVec.toNat_ushiftRight, Nat.shiftRight_eq_div_pow, Int.fdiv_eq_ediv_of_nonneg _ (by decide)]; omega
theorem l32_16 : l8 .u32 (v.toNat : Int) 16 = (((v <<< 16).toNat : Nat) : Int) := by
  show IntKind.u32.wrap ((v.toNat : Int) * 2 ^ 16) = _
  rw [uwrap, BitVec.toNat_shiftLeft, Nat.shiftLeft_eq]; omega
def tv32 : BitVec 32 := v >>> 8 &&& 16711935#32 ||| (v &&& 16711935#32) <<< 8
theorem rb32_v : rb32 (v.toNat : Int) = (((tv32 v >>> 16 ||| tv32 v <<< 16).toNat : Nat) : Int) := by
  have e : rb32a (v.toNat : Int) = (((tv32 v).toNat : Nat) : Int) := by
    unfold rb32a tv32; rw [r32_8, and32, and32, l32_8, or32]
  unfold rb32; rw [e, r32_16, l32_16, or32]
end
theorem ofI_w {k : Nat} (v : BitVec k) : BitVec.ofInt 64 ((v.toNat : Nat) : Int) = v.setWidth 64 := by
  rw [BitVec.ofInt_natCast, BitVec.ofNat_toNat]
theorem turn16 (n : BitVec 64) : ((BitVec.ofInt 64 0 <<< 8 ||| xt n 16 false >>> 0 &&& BitVec.ofInt 64 255) <<< 8 ||| xt n 16 false >>> 8 &&& BitVec.ofInt 64 255) = BitVec.ofInt 64 (rb16 (IntKind.u16.wrap (uv n))) := by
  rw [uv16, rb16_v, ofI_w, xt16]
  generalize n.setWidth 16 = v
  apply ext64
  refine lt64 ⟨?_, ?_, ?_, ?_, ?_, ?_, ?_, ?_, ?_, ?_, ?_, ?_, ?_, ?_, ?_, ?_, ?_, ?_, ?_, ?_, ?_, ?_, ?_, ?_, ?_, ?_, ?_, ?_, ?_, ?_, ?_, ?_, ?_, ?_, ?_, ?_, ?_, ?_, ?_, ?_, ?_, ?_, ?_, ?_, ?_, ?_, ?_, ?_, ?_, ?_, ?_, ?_, ?_, ?_, ?_, ?_, ?_, ?_, ?_, ?_, ?_, ?_, ?_, ?_⟩
  all_goals simp [BitVec.getLsbD_or, BitVec.getLsbD_and, BitVec.getLsbD_shiftLeft, BitVec.getLsbD_ushiftRight, BitVec.getLsbD_setWidth]
theorem turn32 (n : BitVec 64) : ((((BitVec.ofInt 64 0 <<< 8 ||| xt n 32 false >>> 0 &&& BitVec.ofInt 64 255) <<< 8 ||| xt n 32 false >>> 8 &&& BitVec.ofInt 64 255) <<< 8 ||| xt n 32 false >>> 16 &&& BitVec.ofInt 64 255) <<< 8 ||| xt n 32 false >>> 24 &&& BitVec.ofInt 64 255) = BitVec.ofInt 64 (rb32 (IntKind.u32.wrap (uv n))) := by
  rw [uv32, rb32_v, ofI_w, xt32]
  generalize n.setWidth 32 = v
  unfold tv32
  apply ext64
  refine lt64 ⟨?_, ?_, ?_, ?_, ?_, ?_, ?_, ?_, ?_, ?_, ?_, ?_, ?_, ?_, ?_, ?_, ?_, ?_, ?_, ?_, ?_, ?_, ?_, ?_, ?_, ?_, ?_, ?_, ?_, ?_, ?_, ?_, ?_, ?_, ?_, ?_, ?_, ?_, ?_, ?_, ?_, ?_, ?_, ?_, ?_, ?_, ?_, ?_, ?_, ?_, ?_, ?_, ?_, ?_, ?_, ?_, ?_, ?_, ?_, ?_, ?_, ?_, ?_, ?_⟩
  all_goals simp [BitVec.getLsbD_or, BitVec.getLsbD_and, BitVec.getLsbD_shiftLeft, BitVec.getLsbD_ushiftRight, BitVec.getLsbD_setWidth]
theorem turn64 (n : BitVec 64) : ((((((((BitVec.ofInt 64 0 <<< 8 ||| n >>> 0 &&& BitVec.ofInt 64 255) <<< 8 ||| n >>> 8 &&& BitVec.ofInt 64 255) <<< 8 ||| n >>> 16 &&& BitVec.ofInt 64 255) <<< 8 ||| n >>> 24 &&& BitVec.ofInt 64 255) <<< 8 ||| n >>> 32 &&& BitVec.ofInt 64 255) <<< 8 ||| n >>> 40 &&& BitVec.ofInt 64 255) <<< 8 ||| n >>> 48 &&& BitVec.ofInt 64 255) <<< 8 ||| n >>> 56 &&& BitVec.ofInt 64 255) = rb64 n := by
  unfold rb64 rb64b rb64a
  apply ext64
  refine lt64 ⟨?_, ?_, ?_, ?_, ?_, ?_, ?_, ?_, ?_, ?_, ?_, ?_, ?_, ?_, ?_, ?_, ?_, ?_, ?_, ?_, ?_, ?_, ?_, ?_, ?_, ?_, ?_, ?_, ?_, ?_, ?_, ?_, ?_, ?_, ?_, ?_, ?_, ?_, ?_, ?_, ?_, ?_, ?_, ?_, ?_, ?_, ?_, ?_, ?_, ?_, ?_, ?_, ?_, ?_, ?_, ?_, ?_, ?_, ?_, ?_, ?_, ?_, ?_, ?_⟩
  all_goals simp [BitVec.getLsbD_or, BitVec.getLsbD_and, BitVec.getLsbD_shiftLeft, BitVec.getLsbD_ushiftRight, BitVec.getLsbD_setWidth]
theorem swp_n1 {o k : Int} {n : BitVec 64} (h : decide (o < 0) = true) : swp o k n = (BitVec.ofInt 64 0, false) := by unfold swp; rw [if_pos h]; rfl
theorem swp_n2 {o k : Int} {n : BitVec 64} (h1 : decide (o < 0) = false) (h : decide (2 < o) = true) : swp o k n = (BitVec.ofInt 64 0, false) := by unfold swp; rw [if_neg (by rw [h1]; decide), if_pos h]; rfl
theorem swp_n3 {o k : Int} {n : BitVec 64} (h1 : k ≠ 16) (h2 : k ≠ 32) (h3 : k ≠ 64) : swp o k n = (BitVec.ofInt 64 0, false) := by
  have e1 := beq_eq_false_iff_ne.2 h1
  have e2 := beq_eq_false_iff_ne.2 h2
  have e3 := beq_eq_false_iff_ne.2 h3
  unfold swp
  simp only [e1, e2, e3, if_false, Bool.false_eq_true, ite_self]; rfl
section
variable {o : Int} {n : BitVec 64} (h1 : decide (o < 0) = false) (h2 : decide (2 < o) = false)
include h1 h2
theorem swp_16 : swp o 16 n = swpA o (BitVec.ofInt 64 (IntKind.u16.wrap (uv n))) (BitVec.ofInt 64 (rb16 (IntKind.u16.wrap (uv n)))) := by unfold swp; rw [if_neg (by rw [h1]; decide), if_neg (by rw [h2]; decide), if_pos (by rfl)]
theorem eqv_z16 (h : (o == 0) = true) : eqv (.tup [.u64 (xt n 16 false), .tt]) (.tup [.u64 (swp o 16 n).1, .bool (swp o 16 n).2]) := by
  rw [swp_16 h1 h2]; unfold swpA; rw [if_pos h]
  exact eqv_yes (p := (_, true)) rfl ((x_f16 n).symm)
theorem eqv_t16 (h : (o == 0) = false) : eqv (.tup [.u64 (((BitVec.ofInt 64 0 <<< 8 ||| xt n 16 false >>> 0 &&& BitVec.ofInt 64 255) <<< 8 ||| xt n 16 false >>> 8 &&& BitVec.ofInt 64 255)), .tt]) (.tup [.u64 (swp o 16 n).1, .bool (swp o 16 n).2]) := by
  rw [swp_16 h1 h2]; unfold swpA; rw [if_neg (by rw [h]; decide)]
  exact eqv_yes (p := (_, true)) rfl (turn16 n)
theorem swp_32 : swp o 32 n = swpA o (BitVec.ofInt 64 (IntKind.u32.wrap (uv n))) (BitVec.ofInt 64 (rb32 (IntKind.u32.wrap (uv n)))) := by unfold swp; rw [if_neg (by rw [h1]; decide), if_neg (by rw [h2]; decide), if_neg (by decide), if_pos (by rfl)]
theorem eqv_z32 (h : (o == 0) = true) : eqv (.tup [.u64 (xt n 32 false), .tt]) (.tup [.u64 (swp o 32 n).1, .bool (swp o 32 n).2]) := by
  rw [swp_32 h1 h2]; unfold swpA; rw [if_pos h]
  exact eqv_yes (p := (_, true)) rfl ((x_f32 n).symm)
theorem eqv_t32 (h : (o == 0) = false) : eqv (.tup [.u64 (((((BitVec.ofInt 64 0 <<< 8 ||| xt n 32 false >>> 0 &&& BitVec.ofInt 64 255) <<< 8 ||| xt n 32 false >>> 8 &&& BitVec.ofInt 64 255) <<< 8 ||| xt n 32 false >>> 16 &&& BitVec.ofInt 64 255) <<< 8 ||| xt n 32 false >>> 24 &&& BitVec.ofInt 64 255)), .tt]) (.tup [.u64 (swp o 32 n).1, .bool (swp o 32 n).2]) := by
  rw [swp_32 h1 h2]; unfold swpA; rw [if_neg (by rw [h]; decide)]
  exact eqv_yes (p := (_, true)) rfl (turn32 n)
theorem swp_64 : swp o 64 n = swpA o (n) (rb64 n) := by unfold swp; rw [if_neg (by rw [h1]; decide), if_neg (by rw [h2]; decide), if_neg (by decide), if_neg (by decide), if_pos (by rfl)]
theorem eqv_z64 (h : (o == 0) = true) : eqv (.tup [.u64 (n), .tt]) (.tup [.u64 (swp o 64 n).1, .bool (swp o 64 n).2]) := by
  rw [swp_64 h1 h2]; unfold swpA; rw [if_pos h]
  exact eqv_yes (p := (_, true)) rfl (rfl)
theorem eqv_t64 (h : (o == 0) = false) : eqv (.tup [.u64 (((((((((BitVec.ofInt 64 0 <<< 8 ||| n >>> 0 &&& BitVec.ofInt 64 255) <<< 8 ||| n >>> 8 &&& BitVec.ofInt 64 255) <<< 8 ||| n >>> 16 &&& BitVec.ofInt 64 255) <<< 8 ||| n >>> 24 &&& BitVec.ofInt 64 255) <<< 8 ||| n >>> 32 &&& BitVec.ofInt 64 255) <<< 8 ||| n >>> 40 &&& BitVec.ofInt 64 255) <<< 8 ||| n >>> 48 &&& BitVec.ofInt 64 255) <<< 8 ||| n >>> 56 &&& BitVec.ofInt 64 255)), .tt]) (.tup [.u64 (swp o 64 n).1, .bool (swp o 64 n).2]) := by
  rw [swp_64 h1 h2]; unfold swpA; rw [if_neg (by rw [h]; decide)]
  exact eqv_yes (p := (_, true)) rfl (turn64 n)
end
end W
attribute [local irreducible] W.xt W.rb16 W.rb32 W.rb64
theorem rswap16_run (o : Int) (n : BitVec 64) (h1 : decide (o < 0) = false) (h2 : decide (2 < o) = false) : run Tryz.prog ⟨[(108, k_rcut)], eqs, [], [], []⟩ 10000 [] 0 (bodyOf Tryz.f39) (initF Tryz.f39 [.int .i64 o, .int .i64 16, .u64 n]) [] (retK Tryz.prog Tryz.f39 fun x _ => eqv x (.tup [.u64 (W.swp o 16 n).1, .bool (W.swp o 16 n).2])) := by
  (conv => whnf)
  (repeat' (first | (refine .inl ⟨20, ?_⟩; (conv => whnf)) | (refine step_t (by first | rfl | assumption) ?_; (conv => whnf)) | (refine step_f (by first | rfl | assumption) ?_; (conv => whnf)) | (refine step_nt (by assumption) ?_; (conv => whnf)) | (refine step_nf (by assumption) ?_; (conv => whnf)) | (refine step_n (fun hb => ?_) (fun hb => ?_) <;> (first | contradiction | (conv => whnf))) | (refine And.intro (fun hb => ?_) (fun hb => ?_) <;> (first | contradiction | (conv => whnf))) | (refine And.intro (a := (_ : Bool) = true) ?_ ?_; rotate_left 1; (conv => whnf))))
  all_goals first | rfl | trivial | assumption | exact W.eqv_z16 h1 h2 (by assumption) | exact W.eqv_t16 h1 h2 (by assumption) 
theorem rswap32_run (o : Int) (n : BitVec 64) (h1 : decide (o < 0) = false) (h2 : decide (2 < o) = false) : run Tryz.prog ⟨[(108, k_rcut)], eqs, [], [], []⟩ 10000 [] 0 (bodyOf Tryz.f39) (initF Tryz.f39 [.int .i64 o, .int .i64 32, .u64 n]) [] (retK Tryz.prog Tryz.f39 fun x _ => eqv x (.tup [.u64 (W.swp o 32 n).1, .bool (W.swp o 32 n).2])) := by
  (conv => whnf)
  (repeat' (first | (refine .inl ⟨20, ?_⟩; (conv => whnf)) | (refine step_t (by first | rfl | assumption) ?_; (conv => whnf)) | (refine step_f (by first | rfl | assumption) ?_; (conv => whnf)) | (refine step_nt (by assumption) ?_; (conv => whnf)) | (refine step_nf (by assumption) ?_; (conv => whnf)) | (refine step_n (fun hb => ?_) (fun hb => ?_) <;> (first | contradiction | (conv => whnf))) | (refine And.intro (fun hb => ?_) (fun hb => ?_) <;> (first | contradiction | (conv => whnf))) | (refine And.intro (a := (_ : Bool) = true) ?_ ?_; rotate_left 1; (conv => whnf))))
  all_goals first | rfl | trivial | assumption | exact W.eqv_z32 h1 h2 (by assumption) | exact W.eqv_t32 h1 h2 (by assumption) 
theorem rswap64_run (o : Int) (n : BitVec 64) (h1 : decide (o < 0) = false) (h2 : decide (2 < o) = false) : run Tryz.prog ⟨[(108, k_rcut)], eqs, [], [], []⟩ 10000 [] 0 (bodyOf Tryz.f39) (initF Tryz.f39 [.int .i64 o, .int .i64 64, .u64 n]) [] (retK Tryz.prog Tryz.f39 fun x _ => eqv x (.tup [.u64 (W.swp o 64 n).1, .bool (W.swp o 64 n).2])) := by
  (conv => whnf)
  (repeat' (first | (refine .inl ⟨20, ?_⟩; (conv => whnf)) | (refine step_t (by first | rfl | assumption) ?_; (conv => whnf)) | (refine step_f (by first | rfl | assumption) ?_; (conv => whnf)) | (refine step_nt (by assumption) ?_; (conv => whnf)) | (refine step_nf (by assumption) ?_; (conv => whnf)) | (refine step_n (fun hb => ?_) (fun hb => ?_) <;> (first | contradiction | (conv => whnf))) | (refine And.intro (fun hb => ?_) (fun hb => ?_) <;> (first | contradiction | (conv => whnf))) | (refine And.intro (a := (_ : Bool) = true) ?_ ?_; rotate_left 1; (conv => whnf))))
  all_goals first | rfl | trivial | assumption | exact W.eqv_z64 h1 h2 (by assumption) | exact W.eqv_t64 h1 h2 (by assumption) 
theorem rswap_run (o k : Int) (n : BitVec 64) : run Tryz.prog ⟨[(108, k_rcut)], eqs, [], [], []⟩ 10000 [] 0 (bodyOf Tryz.f39) (initF Tryz.f39 [.int .i64 o, .int .i64 k, .u64 n]) [] (retK Tryz.prog Tryz.f39 fun x _ => eqv x (.tup [.u64 (W.swp o k n).1, .bool (W.swp o k n).2])) := by
  cases h1 : decide (o < 0) with
  | true =>
        (conv => whnf)
        (repeat' (first | (refine step_t (by first | rfl | assumption) ?_; (conv => whnf)) | (refine step_f (by first | rfl | assumption) ?_; (conv => whnf)) | (refine step_nt (by assumption) ?_; (conv => whnf)) | (refine step_nf (by assumption) ?_; (conv => whnf)) | (refine step_n (fun hb => ?_) (fun hb => ?_) <;> (first | contradiction | (conv => whnf))) | (refine And.intro (fun hb => ?_) (fun hb => ?_) <;> (first | contradiction | (conv => whnf))) | (refine And.intro (a := (_ : Bool) = true) ?_ ?_; rotate_left 1; (conv => whnf))))
        all_goals first | rfl | trivial | exact W.eqv_no (W.swp_n1 h1)
  | false =>
    cases h2 : decide (2 < o) with
    | true =>
        (conv => whnf)
        (repeat' (first | (refine step_t (by first | rfl | assumption) ?_; (conv => whnf)) | (refine step_f (by first | rfl | assumption) ?_; (conv => whnf)) | (refine step_nt (by assumption) ?_; (conv => whnf)) | (refine step_nf (by assumption) ?_; (conv => whnf)) | (refine step_n (fun hb => ?_) (fun hb => ?_) <;> (first | contradiction | (conv => whnf))) | (refine And.intro (fun hb => ?_) (fun hb => ?_) <;> (first | contradiction | (conv => whnf))) | (refine And.intro (a := (_ : Bool) = true) ?_ ?_; rotate_left 1; (conv => whnf))))
        all_goals first | rfl | trivial | exact W.eqv_no (W.swp_n2 h1 h2)
    | false =>
        by_cases h16 : k = 16
        · subst h16; exact rswap16_run o n h1 h2
        by_cases h32 : k = 32
        · subst h32; exact rswap32_run o n h1 h2
        by_cases h64 : k = 64
        · subst h64; exact rswap64_run o n h1 h2
        have e16 := beq_eq_false_iff_ne.2 h16
        have e32 := beq_eq_false_iff_ne.2 h32
        have e64 := beq_eq_false_iff_ne.2 h64
        (conv => whnf)
        (repeat' (first | (refine step_t (by first | rfl | assumption) ?_; (conv => whnf)) | (refine step_f (by first | rfl | assumption) ?_; (conv => whnf)) | (refine step_nt (by assumption) ?_; (conv => whnf)) | (refine step_nf (by assumption) ?_; (conv => whnf)) | (refine step_n (fun hb => ?_) (fun hb => ?_) <;> (first | contradiction | (conv => whnf))) | (refine And.intro (fun hb => ?_) (fun hb => ?_) <;> (first | contradiction | (conv => whnf))) | (refine And.intro (a := (_ : Bool) = true) ?_ ?_; rotate_left 1; (conv => whnf))))
        all_goals first | rfl | trivial | exact W.eqv_no (W.swp_n3 h16 h32 h64)
def k_rSwap : List SV → List Blk → Res := fun args _ => match args with
  | [.int .i64 o, .int .i64 k, .u64 n] => .ok (.tup [.u64 (W.swp o k n).1, .bool (W.swp o k n).2]) []
  | _ => .fail
theorem k_rSwap_ok : CtrOk Tryz.prog Gw 39 k_rSwap := by
  refine ⟨fun _ _ => by kernel_rfl, fun args M => ?_⟩
  unfold k_rSwap
  split
  · rename_i o k n
    exact ctr_flat (Γ := ⟨[(108, k_rcut)], eqs, [], [], []⟩) (sv := .tup [.u64 (W.swp o k n).1, .bool (W.swp o k n).2]) st_Gw ⟨(okCons k_rcut_ok okNil), eqs_ok, okNilB, okNilI, okNilP⟩ Tryz.func39 rfl mixed [] (by kernel_rfl) 10000 (by rfl) (rswap_run o k n)
  · trivial
end Go.Proofs.YtkfbjnikkmoanaaGreatDoor
