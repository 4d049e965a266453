import Derived.Test.YtnbcemeofhaogaaWC
import Derived.Test.YtnbcemeofhaogaaWD0
import Derived.Test.YtnbcemeofhaogaaWB
namespace Go.Proofs.Ytnbcemeofhaogaa
open Go.RowKit Go.Sx
set_option linter.unusedSimpArgs false
set_option linter.unusedVariables false
set_option linter.unnecessarySimpa false
set_option maxRecDepth 100000
set_option maxHeartbeats 4000000
theorem isH_mk (id mj mn core : Int) (L : List Ag) (rk rlo rhi rsz : Int) : cH.is [.int .i64 id, .int .i64 mj, .int .i64 mn, .int .u8 core, .row 4 L.length (shiftG 0 (cA.g L)), .int .u8 rk, .int .i64 rlo, .int .i64 rhi, .int .i64 rsz] = true := Cel.is_of (a := ⟨id, mj, mn, core, L, rk, rlo, rhi, rsz⟩) (FVEqL.refl _)
theorem decH_mk (id mj mn core : Int) (L : List Ag) (rk rlo rhi rsz : Int) : cH.dec [.int .i64 id, .int .i64 mj, .int .i64 mn, .int .u8 core, .row 4 L.length (shiftG 0 (cA.g L)), .int .u8 rk, .int .i64 rlo, .int .i64 rhi, .int .i64 rsz] = ⟨id, mj, mn, core, L, rk, rlo, rhi, rsz⟩ := Cel.dec_of (c := cH) (a := ⟨id, mj, mn, core, L, rk, rlo, rhi, rsz⟩) (FVEqL.refl _)
theorem more_row (L : List Ag) {sz : Nat} (hs : sz = 4) : FVEq (.row 4 (L.length + 1) (shiftG 0 (gApp L.length (cA.g L) fun k => List.take sz (List.drop ((0 + k) * sz) [.int .u8 1, .int .i64 0, .int .i64 0, .val (.slice none 0 0)])))) (.row 4 (L ++ [(⟨1, 0, 0, []⟩ : Ag)]).length (cA.g (L ++ [(⟨1, 0, 0, []⟩ : Ag)]))) := by
  subst hs
  refine Cel.row_of (by simp) fun i hi => ?_
  exact Cel.row_snoc (c := cA) (sz := 4) (a := ⟨1, 0, 0, []⟩) (h := fun k => List.take 4 (List.drop ((0 + k) * 4) [.int .u8 1, .int .i64 0, .int .i64 0, .val (.slice none 0 0)])) rfl (fun i _ => FVEqL.refl _) (show FVEqL [.int .u8 1, .int .i64 0, .int .i64 0, .val (.slice none 0 0)] (celA ⟨1, 0, 0, []⟩) from fvl_cons (FVEq.refl _) (fvl_cons (FVEq.refl _) (fvl_cons (FVEq.refl _) (fvl_cons .nil (FVEqL.refl []))))) i hi
theorem cell_more (id mj mn core : Int) (L : List Ag) (rk rlo rhi rsz : Int) {sz : Nat} (hs : sz = 4) : FVEqL [.int .i64 id, .int .i64 mj, .int .i64 mn, .int .u8 core, .row 4 (L.length + 1) (shiftG 0 (gApp L.length (cA.g L) fun k => List.take sz (List.drop ((0 + k) * sz) [.int .u8 1, .int .i64 0, .int .i64 0, .val (.slice none 0 0)]))), .int .u8 rk, .int .i64 rlo, .int .i64 rhi, .int .i64 rsz] (celH ⟨id, mj, mn, core, L ++ [⟨1, 0, 0, []⟩], rk, rlo, rhi, rsz⟩) :=
  fvl_cons (FVEq.refl _) (fvl_cons (FVEq.refl _) (fvl_cons (FVEq.refl _) (fvl_cons (FVEq.refl _) (fvl_cons (more_row L hs) (FVEqL.refl _)))))
theorem isH_more {id mj mn core : Int} {L : List Ag} {rk rlo rhi rsz : Int} {sz : Nat} (hs : sz = 4) : cH.is [.int .i64 id, .int .i64 mj, .int .i64 mn, .int .u8 core, .row 4 (L.length + 1) (shiftG 0 (gApp L.length (cA.g L) fun k => List.take sz (List.drop ((0 + k) * sz) [.int .u8 1, .int .i64 0, .int .i64 0, .val (.slice none 0 0)]))), .int .u8 rk, .int .i64 rlo, .int .i64 rhi, .int .i64 rsz] = true := Cel.is_of (c := cH) (cell_more id mj mn core L rk rlo rhi rsz hs)
theorem decH_more {id mj mn core : Int} {L : List Ag} {rk rlo rhi rsz : Int} {sz : Nat} (hs : sz = 4) : cH.dec [.int .i64 id, .int .i64 mj, .int .i64 mn, .int .u8 core, .row 4 (L.length + 1) (shiftG 0 (gApp L.length (cA.g L) fun k => List.take sz (List.drop ((0 + k) * sz) [.int .u8 1, .int .i64 0, .int .i64 0, .val (.slice none 0 0)]))), .int .u8 rk, .int .i64 rlo, .int .i64 rhi, .int .i64 rsz] = ⟨id, mj, mn, core, L ++ [⟨1, 0, 0, []⟩], rk, rlo, rhi, rsz⟩ := Cel.dec_of (c := cH) (cell_more id mj mn core L rk rlo rhi rsz hs)
theorem kindsOwn_run (k id mj mn : Int) (r1 : -9223372036854775808 ≤ id ∧ id ≤ 9223372036854775807) (r2 : -9223372036854775808 ≤ mj ∧ mj ≤ 9223372036854775807) (r3 : -9223372036854775808 ≤ mn ∧ mn ≤ 9223372036854775807) : run Try.prog ⟨[(7, k_awake), (8, k_own), (10, k_Pick), (11, k_helper), (12, k_cpH), (9, k_shelp)], eqs, [], [], [], mixs, meqs, []⟩ 10000 [] 0 (bodyOf Try.f3) (initF Try.f3 [.int .u8 k, .int .i64 id, .int .i64 mj, .int .i64 mn]) [] (retK Try.prog Try.f3 fun x _ => eqv x (.bool true)) := by
  have hby : Try.prog.types[40].bytes = 48 := by kernel_rfl
  have hsz : Try.prog.types[40].size = 4 := by kernel_rfl
  have p1 := pick_in (x := id) (n := 1073741824) (by omega)
  have p2 := pick_in (x := mj) (n := 65536) (by omega)
  have p3 := pick_in (x := mn) (n := 65536) (by omega)
  have hwid : IntKind.i64.wrap (1 + pick id 1073741824) = 1 + pick id 1073741824 := i64_of (by omega) (by omega)
  have n1 : K.numbered (1 + pick id 1073741824) = true := by
    unfold K.numbered
    rw [Bool.and_eq_true]
    exact ⟨decide_eq_true (by omega), decide_eq_true (by omega)⟩
  have n2 : K.versioned (pick mj 65536) (pick mn 65536) = true := by
    unfold K.versioned
    simp only [Bool.and_eq_true, decide_eq_true_eq]
    omega
  have hsh := K.own_short 1099511627776 (by decide) k
  rcases ho : K.ownOk k with _ | _
  · have hno := K.own_none ho
    have hnot : ¬ (1 ≤ k ∧ k ≤ 10) := by
      intro h
      unfold K.ownOk at ho
      rw [decide_eq_true h.1, decide_eq_true h.2] at ho
      cases ho
    (conv => whnf)
    (repeat' (first | (refine step_t (by first | rfl | assumption) ?_; (conv => whnf)) | (refine step_f (by first | rfl | assumption) ?_; (conv => whnf)) | (refine step_nt (by assumption) ?_; (conv => whnf)) | (refine step_nf (by assumption) ?_; (conv => whnf)) | (refine step_n (fun hb => ?_) (fun hb => ?_) <;> (first | contradiction | (conv => whnf))) | (refine And.intro (fun hb => ?_) (fun hb => ?_) <;> (first | contradiction | (conv => whnf))) | (refine And.intro (a := (_ : Bool) = true) ?_ ?_; rotate_left 1; (conv => whnf))))
    all_goals try (simp only [isH_mk, decH_mk, isLA, decLA, isH_no, decH_no, hno] at *)
    all_goals first
    | rfl
    | (simp; done)
    | (simp; omega)
    | (exfalso
       have h7 : 1 ≤ k := of_decide_eq_true (by assumption)
       have h8 : decide (k ≤ 10) = false := decide_eq_false (by omega)
       rw [ho, h8] at hb
       cases hb
       done)
    | (exfalso; exact absurd (eqC_t rfl) (by rw [hb]; exact Bool.false_ne_true))
    | (exfalso; simp_all; done)
    | (exfalso; simp_all; omega)

  · have hk : 1 ≤ k ∧ k ≤ 10 := by
      unfold K.ownOk at ho
      simpa only [Bool.and_eq_true, decide_eq_true_eq] using ho
    have k1 : decide (1 ≤ k) = true := decide_eq_true hk.1
    have e0 := K.own_right ho n1 n2
    have e9 := K.own_more ho n1 n2
    have e8 := K.own_other ho n1 n2
    have ec := K.own_core ho
    have hla : (K.own k).args.length ≤ 5 := Hp.atMost_len (K.own_short 5 (by decide) k)
    have hmo : ((K.own k).args ++ [(⟨1, 0, 0, []⟩ : Ag)]).all (Ag.atMost 1099511627776) = true := by
      rw [List.all_append, Hp.atMost_all hsh]; rfl
    (conv => whnf)
    (repeat' (first | (refine step_t (by first | rfl | assumption) ?_; (conv => whnf)) | (refine step_f (by first | rfl | assumption) ?_; (conv => whnf)) | (refine step_nt (by assumption) ?_; (conv => whnf)) | (refine step_nf (by assumption) ?_; (conv => whnf)) | (refine step_n (fun hb => ?_) (fun hb => ?_) <;> (first | contradiction | (conv => whnf))) | (refine And.intro (fun hb => ?_) (fun hb => ?_) <;> (first | contradiction | (conv => whnf))) | (refine And.intro (a := (_ : Bool) = true) ?_ ?_; rotate_left 1; (conv => whnf))))
    all_goals try (simp only [isH_mk, decH_mk, isLA, decLA, isH_more hsz, decH_more hsz, hwid, e0, e9, e8, ec, ho, decide_eq_true hk.2, beq_self_eq_true, Bool.true_and, reduceCtorEq] at *)
    all_goals first
    | rfl
    | (simp; done)
    | (simp; omega)
    | (rw [hby]; exact decide_eq_true (by omega))
    | exact hsh
    | (show (decide ((K.own k).args.length ≤ 1099511627776) && (K.own k).args.all (Ag.atMost 1099511627776)) = true
       exact hsh)
    | (show (decide (((K.own k).args ++ [(⟨1, 0, 0, []⟩ : Ag)]).length ≤ 1099511627776) && ((K.own k).args ++ [(⟨1, 0, 0, []⟩ : Ag)]).all (Ag.atMost 1099511627776)) = true
       rw [hmo, Bool.and_true]
       exact decide_eq_true (by rw [List.length_append]; show _ + 1 ≤ _; omega))
    | (exfalso; simp_all; done)

def k_kindsOwn : List SV → List Blk → Res := fun args _ => match args with
  | [.int .u8 k, .int .i64 id, .int .i64 mj, .int .i64 mn] => .test ((decide (-9223372036854775808 ≤ id) && decide (id ≤ 9223372036854775807)) && ((decide (-9223372036854775808 ≤ mj) && decide (mj ≤ 9223372036854775807)) && (decide (-9223372036854775808 ≤ mn) && decide (mn ≤ 9223372036854775807)))) (.ok (.bool true) [])
  | _ => .fail
theorem k_kindsOwn_ok : CtrOk Try.prog Gw 3 k_kindsOwn := by
  refine ⟨fun _ _ => by kernel_rfl, fun args M => ?_⟩
  unfold k_kindsOwn
  split
  · rename_i k id mj mn
    intro ht
    simp only [Bool.and_eq_true, decide_eq_true_eq] at ht
    exact ctr_flat (Γ := ⟨[(7, k_awake), (8, k_own), (10, k_Pick), (11, k_helper), (12, k_cpH), (9, k_shelp)], eqs, [], [], [], mixs, meqs, []⟩) (sv := .bool true) st_Gw ⟨(okCons k_awake_ok (okCons k_own_ok (okCons k_Pick_ok (okCons k_helper_ok (okCons k_cpH_ok (okCons k_shelp_ok okNil)))))), eqs_ok, okNilB, okNilI, okNilP, mixs_ok, meqs_ok, okNilY⟩ Try.func3 rfl mixed [] (by kernel_rfl) 10000 (by rfl) (kindsOwn_run k id mj mn ht.1 ht.2.1 ht.2.2)
  · trivial
end Go.Proofs.Ytnbcemeofhaogaa
