import Derived.Test.YtgfemfgimefmeaaGreatX5
import Derived.Test.YtgfemfgimefmeaaGreatSxG
namespace Go.Proofs.YtgfemfgimefmeaaGreat
open Go.RowKit Go.Sx
set_option linter.unusedSimpArgs false
set_option linter.unusedVariables false
set_option linter.unnecessarySimpa false
set_option maxRecDepth 100000
set_option maxHeartbeats 4000000

/-- A value, as it is told. -/
structure Ab where
  k : Int
  n : Sc
  of : Int
  mp : Int
  id : Int
  rm : Int
  nu : Bool
@[reducible] def abv (a : Ab) : SV := .agg [.int .u8 a.k, .u64 a.n.t.v, .u64 a.n.t.m, .u64 a.n.s.lo, .u64 a.n.s.hi, .int .i64 a.n.s.sl, .int .i64 a.n.s.sh, .int .i64 a.of, .int .i64 a.mp, .int .i64 a.id, .int .i64 a.rm, .bool a.nu]
namespace V
def near (n : Int) : Bool := decide (-536870912 ≤ n) && decide (n ≤ 536870912)
def numbered (a : Ab) : Bool := C.right a.n
def placed (a : Ab) : Bool := near a.of
def added (a : Ab) : Bool := numbered a && (decide (a.n.s.hi ≤ BitVec.ofInt 64 1048576) && decide (0 ≤ a.n.s.sl))
def mapped (a : Ab) : Bool := decide (0 ≤ a.mp) && decide (a.mp ≤ 31)
def nought (a : Ab) : Bool := C.eqc a.n (C.const (BitVec.ofInt 64 0))
def named (a : Ab) : Bool := decide (0 < a.id) || ((a.id == 0) && nought a)
def roomy (a : Ab) : Bool := decide (0 ≤ a.rm) && decide (a.rm ≤ 4096)
def sized (a : Ab) : Bool := decide (1 ≤ a.rm) && decide (a.rm ≤ 1024)
def nulled (a : Ab) : Bool := if a.nu then (a.of == 0) && (nought a && decide (0 < a.id)) else a.id == 0
def zeroB (s : Sc) : Bool := s.t.v == BitVec.ofInt 64 0 && (s.t.m == BitVec.ofInt 64 0 && (s.s.lo == BitVec.ofInt 64 0 && (s.s.hi == BitVec.ofInt 64 0 && (s.s.sl == 0 && s.s.sh == 0))))
/-- Is a value right? -/
def right (a : Ab) : Bool :=
  if a.k == 0 || a.k == 5 then zeroB a.n && (a.of == 0 && (a.mp == 0 && (a.id == 0 && (a.rm == 0 && !a.nu))))
  else if a.k == 1 then numbered a && (a.of == 0 && (a.mp == 0 && (a.id == 0 && (a.rm == 0 && !a.nu))))
  else if a.k == 2 || a.k == 3 then placed a && (zeroB a.n && (a.mp == 0 && (a.id == 0 && (a.rm == 0 && !a.nu))))
  else if a.k == 4 then placed a && (added a && (named a && (roomy a && (a.mp == 0 && !a.nu))))
  else if a.k == 6 then mapped a && (zeroB a.n && (a.of == 0 && (a.id == 0 && (a.rm == 0 && !a.nu))))
  else if a.k == 7 then placed a && (added a && (mapped a && (nulled a && a.rm == 0)))
  else if a.k == 8 then placed a && (added a && (sized a && (nulled a && a.mp == 0)))
  else false
def zs : Sc := ⟨⟨BitVec.ofInt 64 0, BitVec.ofInt 64 0⟩, ⟨BitVec.ofInt 64 0, BitVec.ofInt 64 0, 0, 0⟩⟩
def zero : Ab := ⟨0, zs, 0, 0, 0, 0, false⟩
@[reducible] def wr (n : Int) : Int := IntKind.i64.wrap n
def further (a : Ab) (c : Int) (back : Bool) : Ab × Int :=
  if near c then
    if near (wr (a.of + (if back then wr (0 - c) else c))) then (⟨a.k, a.n, wr (a.of + (if back then wr (0 - c) else c)), a.mp, a.id, a.rm, a.nu⟩, 0) else (zero, 32)
  else (zero, 32)
def over (p : Ab) (off size val : Int) : Bool := decide ((if p.k == 4 then wr (p.of + off) else wr (wr (p.of + off) + sv p.n.s.lo)) < 0) || decide ((if p.k == 7 then val else p.rm) < wr ((if p.k == 4 then wr (p.of + off) else wr (wr (p.of + off) + sv p.n.s.hi)) + size))
def touch (p : Ab) (off size val : Int) : Int :=
  if right p && (near off && (decide (1 ≤ size) && decide (size ≤ 1024))) then
    if (p.k == 4 || (p.k == 7 || p.k == 8)) && !p.nu then
      if over p off size val then 32 else 0
    else 31
  else 2
def pointer (a : Ab) : Bool := (a.k == 2 || (a.k == 3 || (a.k == 4 || (a.k == 7 || a.k == 8)))) && !a.nu
end V
theorem V.c0 : R.inS (C.const (BitVec.ofInt 64 0)).s = true := rfl
def k_vhas : List SV → List Blk → Res := fun args _ => match args with
  | [.agg [.int .i64 lo, .int .i64 hi], .int .i64 n] => .ok (.bool (decide (lo ≤ n) && decide (n ≤ hi))) []
  | _ => .fail
theorem k_vhas_ok : CtrOk Tryz.prog Gw 154 k_vhas := by
  refine ⟨fun _ _ => by kernel_rfl, fun args M => ?_⟩
  unfold k_vhas
  split
  · rename_i lo hi n
    refine ctr_flat (Γ := ⟨[], eqs, [], [], [], mixs, meqs⟩) (sv := .bool (decide (lo ≤ n) && decide (n ≤ hi))) st_Gw ⟨okNil, eqs_ok, okNilB, okNilI, okNilP, mixs_ok, meqs_ok⟩ Tryz.func154 rfl mixed [] (by kernel_rfl) 10000 (by rfl) ?_
    (conv => whnf)
    (repeat' (first | (refine step_t (by first | rfl | assumption) ?_; (conv => whnf)) | (refine step_f (by first | rfl | assumption) ?_; (conv => whnf)) | (refine step_nt (by assumption) ?_; (conv => whnf)) | (refine step_nf (by assumption) ?_; (conv => whnf)) | (refine step_n (fun hb => ?_) (fun hb => ?_) <;> (first | contradiction | (conv => whnf))) | (refine And.intro (fun hb => ?_) (fun hb => ?_) <;> (first | contradiction | (conv => whnf))) | (refine And.intro (a := (_ : Bool) = true) ?_ ?_; rotate_left 1; (conv => whnf))))
    all_goals (first | rfl | trivial | assumption | (simp only [eqv, eqv1, eqv2, *, Bool.and_true, Bool.true_and, Bool.and_false, Bool.false_and, Bool.or_true, Bool.true_or, Bool.or_false, Bool.false_or, Bool.not_true, Bool.not_false, Bool.and_self, if_true, if_false, Bool.false_eq_true]; done) | (simp only [eqv, eqv1, eqv2, *, Bool.and_true, Bool.true_and, Bool.and_false, Bool.false_and, Bool.or_true, Bool.true_or, Bool.or_false, Bool.false_or, Bool.not_true, Bool.not_false, Bool.and_self, if_true, if_false, Bool.false_eq_true]; rfl) )
  · trivial
def k_vhasL : List SV → List Blk → Res := fun args _ => match args with
  | [.agg [.int .i64 lo, .int .i64 hi], .int .i64 n] => .ok (.bool (decide (lo ≤ n) && decide (n ≤ hi))) []
  | _ => .fail
theorem k_vhasL_ok : CtrOk Tryz.prog Gw 179 k_vhasL := by
  refine ⟨fun _ _ => by kernel_rfl, fun args M => ?_⟩
  unfold k_vhasL
  split
  · rename_i lo hi n
    refine ctr_flat (Γ := ⟨[], eqs, [], [], [], mixs, meqs⟩) (sv := .bool (decide (lo ≤ n) && decide (n ≤ hi))) st_Gw ⟨okNil, eqs_ok, okNilB, okNilI, okNilP, mixs_ok, meqs_ok⟩ Tryz.func179 rfl mixed [] (by kernel_rfl) 10000 (by rfl) ?_
    (conv => whnf)
    (repeat' (first | (refine step_t (by first | rfl | assumption) ?_; (conv => whnf)) | (refine step_f (by first | rfl | assumption) ?_; (conv => whnf)) | (refine step_nt (by assumption) ?_; (conv => whnf)) | (refine step_nf (by assumption) ?_; (conv => whnf)) | (refine step_n (fun hb => ?_) (fun hb => ?_) <;> (first | contradiction | (conv => whnf))) | (refine And.intro (fun hb => ?_) (fun hb => ?_) <;> (first | contradiction | (conv => whnf))) | (refine And.intro (a := (_ : Bool) = true) ?_ ?_; rotate_left 1; (conv => whnf))))
    all_goals (first | rfl | trivial | assumption | (simp only [eqv, eqv1, eqv2, *, Bool.and_true, Bool.true_and, Bool.and_false, Bool.false_and, Bool.or_true, Bool.true_or, Bool.or_false, Bool.false_or, Bool.not_true, Bool.not_false, Bool.and_self, if_true, if_false, Bool.false_eq_true]; done) | (simp only [eqv, eqv1, eqv2, *, Bool.and_true, Bool.true_and, Bool.and_false, Bool.false_and, Bool.or_true, Bool.true_or, Bool.or_false, Bool.false_or, Bool.not_true, Bool.not_false, Bool.and_self, if_true, if_false, Bool.false_eq_true]; rfl) )
  · trivial
def k_vnear : List SV → List Blk → Res := fun args _ => match args with
  | [.int .i64 n] => .ok (.bool (V.near n)) []
  | _ => .fail
theorem k_vnear_ok : CtrOk Tryz.prog Gw 153 k_vnear := by
  refine ⟨fun _ _ => by kernel_rfl, fun args M => ?_⟩
  unfold k_vnear
  split
  · rename_i n
    refine ctr_flat (Γ := ⟨[(179, k_vhasL)], eqs, [], [], [], mixs, meqs⟩) (sv := .bool (V.near n)) st_Gw ⟨(okCons k_vhasL_ok okNil), eqs_ok, okNilB, okNilI, okNilP, mixs_ok, meqs_ok⟩ Tryz.func153 rfl mixed [] (by kernel_rfl) 10000 (by rfl) ?_
    (conv => whnf)
    (repeat' (first | (refine step_t (by first | rfl | assumption) ?_; (conv => whnf)) | (refine step_f (by first | rfl | assumption) ?_; (conv => whnf)) | (refine step_nt (by assumption) ?_; (conv => whnf)) | (refine step_nf (by assumption) ?_; (conv => whnf)) | (refine step_n (fun hb => ?_) (fun hb => ?_) <;> (first | contradiction | (conv => whnf))) | (refine And.intro (fun hb => ?_) (fun hb => ?_) <;> (first | contradiction | (conv => whnf))) | (refine And.intro (a := (_ : Bool) = true) ?_ ?_; rotate_left 1; (conv => whnf))))
    all_goals (first | rfl | trivial | assumption | (simp only [eqv, eqv1, eqv2, V.near, *, Bool.and_true, Bool.true_and, Bool.and_false, Bool.false_and, Bool.or_true, Bool.true_or, Bool.or_false, Bool.false_or, Bool.not_true, Bool.not_false, Bool.and_self, if_true, if_false, Bool.false_eq_true]; done) | (simp only [eqv, eqv1, eqv2, V.near, *, Bool.and_true, Bool.true_and, Bool.and_false, Bool.false_and, Bool.or_true, Bool.true_or, Bool.or_false, Bool.false_or, Bool.not_true, Bool.not_false, Bool.and_self, if_true, if_false, Bool.false_eq_true]; rfl) )
  · trivial
def k_vnumbered : List SV → List Blk → Res := fun args _ => match args with
  | [.agg [.int .u8 ak, .u64 av, .u64 am, .u64 alo, .u64 ahi, .int .i64 asl, .int .i64 ash, .int .i64 aof, .int .i64 amp, .int .i64 aid, .int .i64 arm, .bool anu]] => .test (R.inS ⟨alo, ahi, asl, ash⟩) (.ok (.bool (V.numbered (⟨ak, (⟨⟨av, am⟩, ⟨alo, ahi, asl, ash⟩⟩ : Sc), aof, amp, aid, arm, anu⟩ : Ab))) [])
  | _ => .fail
theorem k_vnumbered_ok : CtrOk Tryz.prog Gw 125 k_vnumbered := by
  refine ⟨fun _ _ => by kernel_rfl, fun args M => ?_⟩
  unfold k_vnumbered
  split
  · rename_i ak av am alo ahi asl ash aof amp aid arm anu
    intro ht
    refine ctr_flat (Γ := ⟨[(42, k_cRight)], eqs, [], [], [], mixs, meqs⟩) (sv := .bool (V.numbered (⟨ak, (⟨⟨av, am⟩, ⟨alo, ahi, asl, ash⟩⟩ : Sc), aof, amp, aid, arm, anu⟩ : Ab))) st_Gw ⟨(okCons k_cRight_ok okNil), eqs_ok, okNilB, okNilI, okNilP, mixs_ok, meqs_ok⟩ Tryz.func125 rfl mixed [] (by kernel_rfl) 10000 (by rfl) ?_
    (conv => whnf)
    (repeat' (first | (refine step_t (by first | rfl | assumption) ?_; (conv => whnf)) | (refine step_f (by first | rfl | assumption) ?_; (conv => whnf)) | (refine step_nt (by assumption) ?_; (conv => whnf)) | (refine step_nf (by assumption) ?_; (conv => whnf)) | (refine step_n (fun hb => ?_) (fun hb => ?_) <;> (first | contradiction | (conv => whnf))) | (refine And.intro (fun hb => ?_) (fun hb => ?_) <;> (first | contradiction | (conv => whnf))) | (refine And.intro (a := (_ : Bool) = true) ?_ ?_; rotate_left 1; (conv => whnf))))
    all_goals (first | rfl | trivial | assumption | (simp only [eqv, eqv1, eqv2, V.numbered, *, Bool.and_true, Bool.true_and, Bool.and_false, Bool.false_and, Bool.or_true, Bool.true_or, Bool.or_false, Bool.false_or, Bool.not_true, Bool.not_false, Bool.and_self, if_true, if_false, Bool.false_eq_true]; done) | (simp only [eqv, eqv1, eqv2, V.numbered, *, Bool.and_true, Bool.true_and, Bool.and_false, Bool.false_and, Bool.or_true, Bool.true_or, Bool.or_false, Bool.false_or, Bool.not_true, Bool.not_false, Bool.and_self, if_true, if_false, Bool.false_eq_true]; rfl) )
  · trivial
def k_vplaced : List SV → List Blk → Res := fun args _ => match args with
  | [.agg [.int .u8 ak, .u64 av, .u64 am, .u64 alo, .u64 ahi, .int .i64 asl, .int .i64 ash, .int .i64 aof, .int .i64 amp, .int .i64 aid, .int .i64 arm, .bool anu]] => .test (R.inS ⟨alo, ahi, asl, ash⟩) (.ok (.bool (V.placed (⟨ak, (⟨⟨av, am⟩, ⟨alo, ahi, asl, ash⟩⟩ : Sc), aof, amp, aid, arm, anu⟩ : Ab))) [])
  | _ => .fail
theorem k_vplaced_ok : CtrOk Tryz.prog Gw 127 k_vplaced := by
  refine ⟨fun _ _ => by kernel_rfl, fun args M => ?_⟩
  unfold k_vplaced
  split
  · rename_i ak av am alo ahi asl ash aof amp aid arm anu
    intro ht
    refine ctr_flat (Γ := ⟨[(153, k_vnear)], eqs, [], [], [], mixs, meqs⟩) (sv := .bool (V.placed (⟨ak, (⟨⟨av, am⟩, ⟨alo, ahi, asl, ash⟩⟩ : Sc), aof, amp, aid, arm, anu⟩ : Ab))) st_Gw ⟨(okCons k_vnear_ok okNil), eqs_ok, okNilB, okNilI, okNilP, mixs_ok, meqs_ok⟩ Tryz.func127 rfl mixed [] (by kernel_rfl) 10000 (by rfl) ?_
    (conv => whnf)
    (repeat' (first | (refine step_t (by first | rfl | assumption) ?_; (conv => whnf)) | (refine step_f (by first | rfl | assumption) ?_; (conv => whnf)) | (refine step_nt (by assumption) ?_; (conv => whnf)) | (refine step_nf (by assumption) ?_; (conv => whnf)) | (refine step_n (fun hb => ?_) (fun hb => ?_) <;> (first | contradiction | (conv => whnf))) | (refine And.intro (fun hb => ?_) (fun hb => ?_) <;> (first | contradiction | (conv => whnf))) | (refine And.intro (a := (_ : Bool) = true) ?_ ?_; rotate_left 1; (conv => whnf))))
    all_goals (first | rfl | trivial | assumption | (simp only [eqv, eqv1, eqv2, V.placed, *, Bool.and_true, Bool.true_and, Bool.and_false, Bool.false_and, Bool.or_true, Bool.true_or, Bool.or_false, Bool.false_or, Bool.not_true, Bool.not_false, Bool.and_self, if_true, if_false, Bool.false_eq_true]; done) | (simp only [eqv, eqv1, eqv2, V.placed, *, Bool.and_true, Bool.true_and, Bool.and_false, Bool.false_and, Bool.or_true, Bool.true_or, Bool.or_false, Bool.false_or, Bool.not_true, Bool.not_false, Bool.and_self, if_true, if_false, Bool.false_eq_true]; rfl) )
  · trivial
def k_vadded : List SV → List Blk → Res := fun args _ => match args with
  | [.agg [.int .u8 ak, .u64 av, .u64 am, .u64 alo, .u64 ahi, .int .i64 asl, .int .i64 ash, .int .i64 aof, .int .i64 amp, .int .i64 aid, .int .i64 arm, .bool anu]] => .test (R.inS ⟨alo, ahi, asl, ash⟩) (.ok (.bool (V.added (⟨ak, (⟨⟨av, am⟩, ⟨alo, ahi, asl, ash⟩⟩ : Sc), aof, amp, aid, arm, anu⟩ : Ab))) [])
  | _ => .fail
theorem k_vadded_ok : CtrOk Tryz.prog Gw 130 k_vadded := by
  refine ⟨fun _ _ => by kernel_rfl, fun args M => ?_⟩
  unfold k_vadded
  split
  · rename_i ak av am alo ahi asl ash aof amp aid arm anu
    intro ht
    refine ctr_flat (Γ := ⟨[(125, k_vnumbered)], eqs, [], [], [], mixs, meqs⟩) (sv := .bool (V.added (⟨ak, (⟨⟨av, am⟩, ⟨alo, ahi, asl, ash⟩⟩ : Sc), aof, amp, aid, arm, anu⟩ : Ab))) st_Gw ⟨(okCons k_vnumbered_ok okNil), eqs_ok, okNilB, okNilI, okNilP, mixs_ok, meqs_ok⟩ Tryz.func130 rfl mixed [] (by kernel_rfl) 10000 (by rfl) ?_
    (conv => whnf)
    (repeat' (first | (refine step_t (by first | rfl | assumption) ?_; (conv => whnf)) | (refine step_f (by first | rfl | assumption) ?_; (conv => whnf)) | (refine step_nt (by assumption) ?_; (conv => whnf)) | (refine step_nf (by assumption) ?_; (conv => whnf)) | (refine step_n (fun hb => ?_) (fun hb => ?_) <;> (first | contradiction | (conv => whnf))) | (refine And.intro (fun hb => ?_) (fun hb => ?_) <;> (first | contradiction | (conv => whnf))) | (refine And.intro (a := (_ : Bool) = true) ?_ ?_; rotate_left 1; (conv => whnf))))
    all_goals (first | rfl | trivial | assumption | (simp only [eqv, eqv1, eqv2, V.added, *, Bool.and_true, Bool.true_and, Bool.and_false, Bool.false_and, Bool.or_true, Bool.true_or, Bool.or_false, Bool.false_or, Bool.not_true, Bool.not_false, Bool.and_self, if_true, if_false, Bool.false_eq_true]; done) | (simp only [eqv, eqv1, eqv2, V.added, *, Bool.and_true, Bool.true_and, Bool.and_false, Bool.false_and, Bool.or_true, Bool.true_or, Bool.or_false, Bool.false_or, Bool.not_true, Bool.not_false, Bool.and_self, if_true, if_false, Bool.false_eq_true]; rfl) )
  · trivial
def k_vmapped : List SV → List Blk → Res := fun args _ => match args with
  | [.agg [.int .u8 ak, .u64 av, .u64 am, .u64 alo, .u64 ahi, .int .i64 asl, .int .i64 ash, .int .i64 aof, .int .i64 amp, .int .i64 aid, .int .i64 arm, .bool anu]] => .test (R.inS ⟨alo, ahi, asl, ash⟩) (.ok (.bool (V.mapped (⟨ak, (⟨⟨av, am⟩, ⟨alo, ahi, asl, ash⟩⟩ : Sc), aof, amp, aid, arm, anu⟩ : Ab))) [])
  | _ => .fail
theorem k_vmapped_ok : CtrOk Tryz.prog Gw 134 k_vmapped := by
  refine ⟨fun _ _ => by kernel_rfl, fun args M => ?_⟩
  unfold k_vmapped
  split
  · rename_i ak av am alo ahi asl ash aof amp aid arm anu
    intro ht
    refine ctr_flat (Γ := ⟨[(154, k_vhas)], eqs, [], [], [], mixs, meqs⟩) (sv := .bool (V.mapped (⟨ak, (⟨⟨av, am⟩, ⟨alo, ahi, asl, ash⟩⟩ : Sc), aof, amp, aid, arm, anu⟩ : Ab))) st_Gw ⟨(okCons k_vhas_ok okNil), eqs_ok, okNilB, okNilI, okNilP, mixs_ok, meqs_ok⟩ Tryz.func134 rfl mixed [] (by kernel_rfl) 10000 (by rfl) ?_
    (conv => whnf)
    (repeat' (first | (refine step_t (by first | rfl | assumption) ?_; (conv => whnf)) | (refine step_f (by first | rfl | assumption) ?_; (conv => whnf)) | (refine step_nt (by assumption) ?_; (conv => whnf)) | (refine step_nf (by assumption) ?_; (conv => whnf)) | (refine step_n (fun hb => ?_) (fun hb => ?_) <;> (first | contradiction | (conv => whnf))) | (refine And.intro (fun hb => ?_) (fun hb => ?_) <;> (first | contradiction | (conv => whnf))) | (refine And.intro (a := (_ : Bool) = true) ?_ ?_; rotate_left 1; (conv => whnf))))
    all_goals (first | rfl | trivial | assumption | (simp only [eqv, eqv1, eqv2, V.mapped, *, Bool.and_true, Bool.true_and, Bool.and_false, Bool.false_and, Bool.or_true, Bool.true_or, Bool.or_false, Bool.false_or, Bool.not_true, Bool.not_false, Bool.and_self, if_true, if_false, Bool.false_eq_true]; done) | (simp only [eqv, eqv1, eqv2, V.mapped, *, Bool.and_true, Bool.true_and, Bool.and_false, Bool.false_and, Bool.or_true, Bool.true_or, Bool.or_false, Bool.false_or, Bool.not_true, Bool.not_false, Bool.and_self, if_true, if_false, Bool.false_eq_true]; rfl) )
  · trivial
def k_vnamed : List SV → List Blk → Res := fun args _ => match args with
  | [.agg [.int .u8 ak, .u64 av, .u64 am, .u64 alo, .u64 ahi, .int .i64 asl, .int .i64 ash, .int .i64 aof, .int .i64 amp, .int .i64 aid, .int .i64 arm, .bool anu]] => .test (R.inS ⟨alo, ahi, asl, ash⟩) (.ok (.bool (V.named (⟨ak, (⟨⟨av, am⟩, ⟨alo, ahi, asl, ash⟩⟩ : Sc), aof, amp, aid, arm, anu⟩ : Ab))) [])
  | _ => .fail
theorem k_vnamed_ok : CtrOk Tryz.prog Gw 131 k_vnamed := by
  refine ⟨fun _ _ => by kernel_rfl, fun args M => ?_⟩
  unfold k_vnamed
  split
  · rename_i ak av am alo ahi asl ash aof amp aid arm anu
    intro ht
    refine ctr_flat (Γ := ⟨[(45, k_cConst)], eqs, [], [], [], mixs, meqs⟩) (sv := .bool (V.named (⟨ak, (⟨⟨av, am⟩, ⟨alo, ahi, asl, ash⟩⟩ : Sc), aof, amp, aid, arm, anu⟩ : Ab))) st_Gw ⟨(okCons k_cConst_ok okNil), eqs_ok, okNilB, okNilI, okNilP, mixs_ok, meqs_ok⟩ Tryz.func131 rfl mixed [(1, 11, [0, 1, 3, 7, 15, 31, 63, 127, 255, 511, 255, 2047, 4095, 8191, 16383])] (by kernel_rfl) 10000 (by rfl) ?_
    (conv => whnf)
    (repeat' (first | (refine step_t (by first | rfl | assumption) ?_; (conv => whnf)) | (refine step_f (by first | rfl | assumption) ?_; (conv => whnf)) | (refine step_nt (by assumption) ?_; (conv => whnf)) | (refine step_nf (by assumption) ?_; (conv => whnf)) | (refine step_n (fun hb => ?_) (fun hb => ?_) <;> (first | contradiction | (conv => whnf))) | (refine And.intro (fun hb => ?_) (fun hb => ?_) <;> (first | contradiction | (conv => whnf))) | (refine And.intro (a := (_ : Bool) = true) ?_ ?_; rotate_left 1; (conv => whnf))))
    all_goals (first | rfl | trivial | assumption | (simp only [eqv, eqv1, eqv2, V.named, V.nought, C.eqc, *, Bool.true_and, Bool.and_false, Bool.false_and, Bool.or_true, Bool.true_or, Bool.or_false, Bool.false_or, Bool.not_true, Bool.not_false, Bool.and_self, if_true, if_false, Bool.false_eq_true]; done) | (simp only [eqv, eqv1, eqv2, V.named, V.nought, C.eqc, *, Bool.true_and, Bool.and_false, Bool.false_and, Bool.or_true, Bool.true_or, Bool.or_false, Bool.false_or, Bool.not_true, Bool.not_false, Bool.and_self, if_true, if_false, Bool.false_eq_true]; rfl) )
  · trivial
def k_vroomy : List SV → List Blk → Res := fun args _ => match args with
  | [.agg [.int .u8 ak, .u64 av, .u64 am, .u64 alo, .u64 ahi, .int .i64 asl, .int .i64 ash, .int .i64 aof, .int .i64 amp, .int .i64 aid, .int .i64 arm, .bool anu]] => .test (R.inS ⟨alo, ahi, asl, ash⟩) (.ok (.bool (V.roomy (⟨ak, (⟨⟨av, am⟩, ⟨alo, ahi, asl, ash⟩⟩ : Sc), aof, amp, aid, arm, anu⟩ : Ab))) [])
  | _ => .fail
theorem k_vroomy_ok : CtrOk Tryz.prog Gw 132 k_vroomy := by
  refine ⟨fun _ _ => by kernel_rfl, fun args M => ?_⟩
  unfold k_vroomy
  split
  · rename_i ak av am alo ahi asl ash aof amp aid arm anu
    intro ht
    refine ctr_flat (Γ := ⟨[(154, k_vhas)], eqs, [], [], [], mixs, meqs⟩) (sv := .bool (V.roomy (⟨ak, (⟨⟨av, am⟩, ⟨alo, ahi, asl, ash⟩⟩ : Sc), aof, amp, aid, arm, anu⟩ : Ab))) st_Gw ⟨(okCons k_vhas_ok okNil), eqs_ok, okNilB, okNilI, okNilP, mixs_ok, meqs_ok⟩ Tryz.func132 rfl mixed [] (by kernel_rfl) 10000 (by rfl) ?_
    (conv => whnf)
    (repeat' (first | (refine step_t (by first | rfl | assumption) ?_; (conv => whnf)) | (refine step_f (by first | rfl | assumption) ?_; (conv => whnf)) | (refine step_nt (by assumption) ?_; (conv => whnf)) | (refine step_nf (by assumption) ?_; (conv => whnf)) | (refine step_n (fun hb => ?_) (fun hb => ?_) <;> (first | contradiction | (conv => whnf))) | (refine And.intro (fun hb => ?_) (fun hb => ?_) <;> (first | contradiction | (conv => whnf))) | (refine And.intro (a := (_ : Bool) = true) ?_ ?_; rotate_left 1; (conv => whnf))))
    all_goals (first | rfl | trivial | assumption | (simp only [eqv, eqv1, eqv2, V.roomy, *, Bool.and_true, Bool.true_and, Bool.and_false, Bool.false_and, Bool.or_true, Bool.true_or, Bool.or_false, Bool.false_or, Bool.not_true, Bool.not_false, Bool.and_self, if_true, if_false, Bool.false_eq_true]; done) | (simp only [eqv, eqv1, eqv2, V.roomy, *, Bool.and_true, Bool.true_and, Bool.and_false, Bool.false_and, Bool.or_true, Bool.true_or, Bool.or_false, Bool.false_or, Bool.not_true, Bool.not_false, Bool.and_self, if_true, if_false, Bool.false_eq_true]; rfl) )
  · trivial
def k_vsized : List SV → List Blk → Res := fun args _ => match args with
  | [.agg [.int .u8 ak, .u64 av, .u64 am, .u64 alo, .u64 ahi, .int .i64 asl, .int .i64 ash, .int .i64 aof, .int .i64 amp, .int .i64 aid, .int .i64 arm, .bool anu]] => .test (R.inS ⟨alo, ahi, asl, ash⟩) (.ok (.bool (V.sized (⟨ak, (⟨⟨av, am⟩, ⟨alo, ahi, asl, ash⟩⟩ : Sc), aof, amp, aid, arm, anu⟩ : Ab))) [])
  | _ => .fail
theorem k_vsized_ok : CtrOk Tryz.prog Gw 138 k_vsized := by
  refine ⟨fun _ _ => by kernel_rfl, fun args M => ?_⟩
  unfold k_vsized
  split
  · rename_i ak av am alo ahi asl ash aof amp aid arm anu
    intro ht
    refine ctr_flat (Γ := ⟨[(154, k_vhas)], eqs, [], [], [], mixs, meqs⟩) (sv := .bool (V.sized (⟨ak, (⟨⟨av, am⟩, ⟨alo, ahi, asl, ash⟩⟩ : Sc), aof, amp, aid, arm, anu⟩ : Ab))) st_Gw ⟨(okCons k_vhas_ok okNil), eqs_ok, okNilB, okNilI, okNilP, mixs_ok, meqs_ok⟩ Tryz.func138 rfl mixed [] (by kernel_rfl) 10000 (by rfl) ?_
    (conv => whnf)
    (repeat' (first | (refine step_t (by first | rfl | assumption) ?_; (conv => whnf)) | (refine step_f (by first | rfl | assumption) ?_; (conv => whnf)) | (refine step_nt (by assumption) ?_; (conv => whnf)) | (refine step_nf (by assumption) ?_; (conv => whnf)) | (refine step_n (fun hb => ?_) (fun hb => ?_) <;> (first | contradiction | (conv => whnf))) | (refine And.intro (fun hb => ?_) (fun hb => ?_) <;> (first | contradiction | (conv => whnf))) | (refine And.intro (a := (_ : Bool) = true) ?_ ?_; rotate_left 1; (conv => whnf))))
    all_goals (first | rfl | trivial | assumption | (simp only [eqv, eqv1, eqv2, V.sized, *, Bool.and_true, Bool.true_and, Bool.and_false, Bool.false_and, Bool.or_true, Bool.true_or, Bool.or_false, Bool.false_or, Bool.not_true, Bool.not_false, Bool.and_self, if_true, if_false, Bool.false_eq_true]; done) | (simp only [eqv, eqv1, eqv2, V.sized, *, Bool.and_true, Bool.true_and, Bool.and_false, Bool.false_and, Bool.or_true, Bool.true_or, Bool.or_false, Bool.false_or, Bool.not_true, Bool.not_false, Bool.and_self, if_true, if_false, Bool.false_eq_true]; rfl) )
  · trivial
def k_vnulled : List SV → List Blk → Res := fun args _ => match args with
  | [.agg [.int .u8 ak, .u64 av, .u64 am, .u64 alo, .u64 ahi, .int .i64 asl, .int .i64 ash, .int .i64 aof, .int .i64 amp, .int .i64 aid, .int .i64 arm, .bool anu]] => .test (R.inS ⟨alo, ahi, asl, ash⟩) (.ok (.bool (V.nulled (⟨ak, (⟨⟨av, am⟩, ⟨alo, ahi, asl, ash⟩⟩ : Sc), aof, amp, aid, arm, anu⟩ : Ab))) [])
  | _ => .fail
theorem k_vnulled_ok : CtrOk Tryz.prog Gw 136 k_vnulled := by
  refine ⟨fun _ _ => by kernel_rfl, fun args M => ?_⟩
  unfold k_vnulled
  split
  · rename_i ak av am alo ahi asl ash aof amp aid arm anu
    intro ht
    refine ctr_flat (Γ := ⟨[(45, k_cConst)], eqs, [], [], [], mixs, meqs⟩) (sv := .bool (V.nulled (⟨ak, (⟨⟨av, am⟩, ⟨alo, ahi, asl, ash⟩⟩ : Sc), aof, amp, aid, arm, anu⟩ : Ab))) st_Gw ⟨(okCons k_cConst_ok okNil), eqs_ok, okNilB, okNilI, okNilP, mixs_ok, meqs_ok⟩ Tryz.func136 rfl mixed [(3, 7, [0, 1, 3, 7, 15, 31, 15, 127, 255, 511, 1023, 2047, 4095, 8191, 16383])] (by kernel_rfl) 10000 (by rfl) ?_
    (conv => whnf)
    (repeat' (first | (refine step_t (by first | rfl | assumption) ?_; (conv => whnf)) | (refine step_f (by first | rfl | assumption) ?_; (conv => whnf)) | (refine step_nt (by assumption) ?_; (conv => whnf)) | (refine step_nf (by assumption) ?_; (conv => whnf)) | (refine step_n (fun hb => ?_) (fun hb => ?_) <;> (first | contradiction | (conv => whnf))) | (refine And.intro (fun hb => ?_) (fun hb => ?_) <;> (first | contradiction | (conv => whnf))) | (refine And.intro (a := (_ : Bool) = true) ?_ ?_; rotate_left 1; (conv => whnf))))
    all_goals (first | rfl | trivial | assumption | (simp only [eqv, eqv1, eqv2, V.nulled, V.nought, C.eqc, *, Bool.true_and, Bool.and_false, Bool.false_and, Bool.or_true, Bool.true_or, Bool.or_false, Bool.false_or, Bool.not_true, Bool.not_false, Bool.and_self, if_true, if_false, Bool.false_eq_true]; done) | (simp only [eqv, eqv1, eqv2, V.nulled, V.nought, C.eqc, *, Bool.true_and, Bool.and_false, Bool.false_and, Bool.or_true, Bool.true_or, Bool.or_false, Bool.false_or, Bool.not_true, Bool.not_false, Bool.and_self, if_true, if_false, Bool.false_eq_true]; rfl) )
  · trivial
end Go.Proofs.YtgfemfgimefmeaaGreat
namespace Go.Proofs.YtgfemfgimefmeaaGreat
open Go.RowKit Go.Sx
set_option linter.unusedSimpArgs false
set_option linter.unusedVariables false
set_option linter.unnecessarySimpa false
set_option maxRecDepth 100000
set_option maxHeartbeats 4000000
def nb_vkinds : List Blk := [.map [(.int .u8 0, .agg [.fn (.func 123) [] [], .val (.slice none 0 0)]), (.int .u8 5, .agg [.fn (.func 123) [] [], .val (.slice none 0 0)]), (.int .u8 1, .agg [.fn (.func 124) [] [], .sl 1 1 0 1]), (.int .u8 2, .agg [.fn (.func 126) [] [], .sl 2 1 0 1]), (.int .u8 3, .agg [.fn (.func 128) [] [], .sl 3 1 0 1]), (.int .u8 4, .agg [.fn (.func 129) [] [], .sl 4 1 0 4]), (.int .u8 6, .agg [.fn (.func 133) [] [], .sl 5 1 0 1]), (.int .u8 7, .agg [.fn (.func 135) [] [], .sl 6 1 0 4]), (.int .u8 8, .agg [.fn (.func 137) [] [], .sl 7 1 0 4])], .cells 92 [.fn (.func 125) [] []], .cells 92 [.fn (.func 127) [] []], .cells 92 [.fn (.func 127) [] []], .cells 92 [.fn (.func 127) [] [], .fn (.func 130) [] [], .fn (.func 131) [] [], .fn (.func 132) [] []], .cells 92 [.fn (.func 134) [] []], .cells 92 [.fn (.func 127) [] [], .fn (.func 130) [] [], .fn (.func 134) [] [], .fn (.func 136) [] []], .cells 92 [.fn (.func 127) [] [], .fn (.func 130) [] [], .fn (.func 138) [] [], .fn (.func 136) [] []]]
def k_vkinds : List SV → List Blk → Res := fun args M => match args with
  | [] => .ok (shS M.length (.mp 0)) (nb_vkinds.map (shB M.length))
  | _ => .fail
theorem k_vkinds_ok : CtrOk Tryz.prog Gw 86 k_vkinds := by
  refine ⟨fun _ _ => by kernel_rfl, fun args M => ?_⟩
  unfold k_vkinds
  split
  · refine ctr_gen (Γ := ⟨[], eqs, [], [], [], mixs, meqs⟩) st_Gw ⟨okNil, eqs_ok, okNilB, okNilI, okNilP, mixs_ok, meqs_ok⟩ Tryz.func86 rfl mixed [] (by kernel_rfl) 10000 [] [] [] (.mp 0) nb_vkinds (fun ρ => rfl) (by rfl) trivial rfl rfl (by rfl) (by rfl) ?_
    (conv => whnf)
    (repeat' (first | (refine And.intro (fun hb => ?_) (fun hb => ?_) <;> (first | contradiction | (conv => whnf))) | (refine And.intro ?_ ?_; rotate_left 1; (conv => whnf))))
    all_goals (first | rfl | exact ⟨[0, 1, 2, 3, 4, 5, 6, 7], rfl, (mle_cons ble_refl (mle_cons ble_refl (mle_cons ble_refl (mle_cons ble_refl (mle_cons ble_refl (mle_cons ble_refl (mle_cons ble_refl (mle_cons ble_refl mle_nil)))))))), _, rfl, fun _ => rfl⟩)
  · trivial
attribute [local irreducible] V.numbered V.placed V.added V.mapped V.named V.roomy V.sized V.nulled
def k_vRight : List SV → List Blk → Res := fun args _ => match args with
  | [.agg [.int .u8 ak, .u64 av, .u64 am, .u64 alo, .u64 ahi, .int .i64 asl, .int .i64 ash, .int .i64 aof, .int .i64 amp, .int .i64 aid, .int .i64 arm, .bool anu]] => .test (R.inS ⟨alo, ahi, asl, ash⟩) (.ok (.bool (V.right (⟨ak, (⟨⟨av, am⟩, ⟨alo, ahi, asl, ash⟩⟩ : Sc), aof, amp, aid, arm, anu⟩ : Ab))) [])
  | _ => .fail
theorem k_vRight_ok : CtrOk Tryz.prog Gw 35 k_vRight := by
  refine ⟨fun _ _ => by kernel_rfl, fun args M => ?_⟩
  unfold k_vRight
  split
  · rename_i ak av am alo ahi asl ash aof amp aid arm anu
    intro ht
    refine ctr_flat (Γ := ⟨[(125, k_vnumbered), (127, k_vplaced), (130, k_vadded), (134, k_vmapped), (131, k_vnamed), (132, k_vroomy), (138, k_vsized), (136, k_vnulled), (86, k_vkinds)], eqs, [], [(87, Tryz.f87, []), (123, Tryz.f123, []), (124, Tryz.f124, []), (126, Tryz.f126, []), (128, Tryz.f128, []), (129, Tryz.f129, []), (133, Tryz.f133, []), (135, Tryz.f135, []), (137, Tryz.f137, [])], [], mixs, meqs⟩) (sv := .bool (V.right (⟨ak, (⟨⟨av, am⟩, ⟨alo, ahi, asl, ash⟩⟩ : Sc), aof, amp, aid, arm, anu⟩ : Ab))) st_Gw ⟨(okCons k_vnumbered_ok (okCons k_vplaced_ok (okCons k_vadded_ok (okCons k_vmapped_ok (okCons k_vnamed_ok (okCons k_vroomy_ok (okCons k_vsized_ok (okCons k_vnulled_ok (okCons k_vkinds_ok okNil))))))))), eqs_ok, okNilB, (okConsI Tryz.func87 rfl (by kernel_rfl) (fun _ _ => by kernel_rfl) (okConsI Tryz.func123 rfl (by kernel_rfl) (fun _ _ => by kernel_rfl) (okConsI Tryz.func124 rfl (by kernel_rfl) (fun _ _ => by kernel_rfl) (okConsI Tryz.func126 rfl (by kernel_rfl) (fun _ _ => by kernel_rfl) (okConsI Tryz.func128 rfl (by kernel_rfl) (fun _ _ => by kernel_rfl) (okConsI Tryz.func129 rfl (by kernel_rfl) (fun _ _ => by kernel_rfl) (okConsI Tryz.func133 rfl (by kernel_rfl) (fun _ _ => by kernel_rfl) (okConsI Tryz.func135 rfl (by kernel_rfl) (fun _ _ => by kernel_rfl) (okConsI Tryz.func137 rfl (by kernel_rfl) (fun _ _ => by kernel_rfl) okNilI))))))))), okNilP, mixs_ok, meqs_ok⟩ Tryz.func35 rfl mixed [(1, 8, [0, 0, 2, 7, 15, 31, 31, 0, 191, 511])] (by kernel_rfl) 10000 (by rfl) ?_
    (conv => whnf)
    (repeat' (first | (refine .inl ⟨20, ?_⟩; (conv => whnf)) | (refine step_t (by first | rfl | assumption) ?_; (conv => whnf)) | (refine step_f (by first | rfl | assumption) ?_; (conv => whnf)) | (refine step_nt (by assumption) ?_; (conv => whnf)) | (refine step_nf (by assumption) ?_; (conv => whnf)) | (refine step_n (fun hb => ?_) (fun hb => ?_) <;> (first | contradiction | (conv => whnf))) | (refine And.intro (fun hb => ?_) (fun hb => ?_) <;> (first | contradiction | (conv => whnf))) | (refine And.intro (a := (_ : Bool) = true) ?_ ?_; rotate_left 1; (conv => whnf))))
    all_goals (first | rfl | trivial | assumption | (simp_all [V.right, V.zeroB, Bool.and_assoc]; done))
  · trivial
end Go.Proofs.YtgfemfgimefmeaaGreat
namespace Go.Proofs.YtgfemfgimefmeaaGreat
open Go.RowKit Go.Sx
set_option linter.unusedSimpArgs false
set_option linter.unusedVariables false
set_option linter.unnecessarySimpa false
set_option maxRecDepth 100000
set_option maxHeartbeats 4000000
theorem S.and_true2 {a b : Bool} (h : (a && b) = true) : a = true ∧ b = true := by simpa using h

namespace V
def counts (a : Ab) : Bool := a.k == 1 || (a.k == 4 || (a.k == 7 || a.k == 8))
def alike (a b : Ab) : Bool := a.k == b.k && (a.of == b.of && (a.mp == b.mp && (a.k != 8 || a.rm == b.rm)))
/-- Is a value below another one? -/
def leq (a b : Ab) : Bool :=
  if right a && right b then
    if b.k == 0 then true
    else if alike a b && ((!counts a || C.leq a.n b.n) && (!a.nu || b.nu)) then (a.k != 4 || (decide (b.rm ≤ a.rm) && (decide (0 < b.id) || a.id == 0)))
    else false
  else false
def number (n : Sc) : Ab := if C.right n then ⟨1, n, 0, 0, 0, 0, false⟩ else zero
end V
attribute [local irreducible] V.right C.leq C.right R.inS
def k_vcounts : List SV → List Blk → Res := fun args _ => match args with
  | [.agg [.int .u8 ak, .u64 av, .u64 am, .u64 alo, .u64 ahi, .int .i64 asl, .int .i64 ash, .int .i64 aof, .int .i64 amp, .int .i64 aid, .int .i64 arm, .bool anu]] => .ok (.bool (V.counts (⟨ak, (⟨⟨av, am⟩, ⟨alo, ahi, asl, ash⟩⟩ : Sc), aof, amp, aid, arm, anu⟩ : Ab))) []
  | _ => .fail
theorem k_vcounts_ok : CtrOk Tryz.prog Gw 57 k_vcounts := by
  refine ⟨fun _ _ => by kernel_rfl, fun args M => ?_⟩
  unfold k_vcounts
  split
  · rename_i ak av am alo ahi asl ash aof amp aid arm anu
    refine ctr_flat (Γ := ⟨[], eqs, [], [], [], mixs, meqs⟩) (sv := .bool (V.counts (⟨ak, (⟨⟨av, am⟩, ⟨alo, ahi, asl, ash⟩⟩ : Sc), aof, amp, aid, arm, anu⟩ : Ab))) st_Gw ⟨okNil, eqs_ok, okNilB, okNilI, okNilP, mixs_ok, meqs_ok⟩ Tryz.func57 rfl mixed [] (by kernel_rfl) 10000 (by rfl) ?_
    (conv => whnf)
    (repeat' (first | (refine step_t (by first | rfl | assumption) ?_; (conv => whnf)) | (refine step_f (by first | rfl | assumption) ?_; (conv => whnf)) | (refine step_nt (by assumption) ?_; (conv => whnf)) | (refine step_nf (by assumption) ?_; (conv => whnf)) | (refine step_n (fun hb => ?_) (fun hb => ?_) <;> (first | contradiction | (conv => whnf))) | (refine And.intro (fun hb => ?_) (fun hb => ?_) <;> (first | contradiction | (conv => whnf))) | (refine And.intro (a := (_ : Bool) = true) ?_ ?_; rotate_left 1; (conv => whnf))))
    all_goals (first | rfl | trivial | assumption | (simp_all [eqv, eqv1, eqv2, eqvL1, eqvL2, V.counts]; done) | (simp_all [eqv, eqv1, eqv2, eqvL1, eqvL2, V.counts]; intros; omega) )
  · trivial
def k_valike : List SV → List Blk → Res := fun args _ => match args with
  | [.agg [.int .u8 ak, .u64 av, .u64 am, .u64 alo, .u64 ahi, .int .i64 asl, .int .i64 ash, .int .i64 aof, .int .i64 amp, .int .i64 aid, .int .i64 arm, .bool anu], .agg [.int .u8 bk, .u64 bv, .u64 bm, .u64 blo, .u64 bhi, .int .i64 bsl, .int .i64 bsh, .int .i64 bof, .int .i64 bmp, .int .i64 bid, .int .i64 brm, .bool bnu]] => .ok (.bool (V.alike (⟨ak, (⟨⟨av, am⟩, ⟨alo, ahi, asl, ash⟩⟩ : Sc), aof, amp, aid, arm, anu⟩ : Ab) (⟨bk, (⟨⟨bv, bm⟩, ⟨blo, bhi, bsl, bsh⟩⟩ : Sc), bof, bmp, bid, brm, bnu⟩ : Ab))) []
  | _ => .fail
theorem k_valike_ok : CtrOk Tryz.prog Gw 56 k_valike := by
  refine ⟨fun _ _ => by kernel_rfl, fun args M => ?_⟩
  unfold k_valike
  split
  · rename_i ak av am alo ahi asl ash aof amp aid arm anu bk bv bm blo bhi bsl bsh bof bmp bid brm bnu
    refine ctr_flat (Γ := ⟨[], eqs, [], [], [], mixs, meqs⟩) (sv := .bool (V.alike (⟨ak, (⟨⟨av, am⟩, ⟨alo, ahi, asl, ash⟩⟩ : Sc), aof, amp, aid, arm, anu⟩ : Ab) (⟨bk, (⟨⟨bv, bm⟩, ⟨blo, bhi, bsl, bsh⟩⟩ : Sc), bof, bmp, bid, brm, bnu⟩ : Ab))) st_Gw ⟨okNil, eqs_ok, okNilB, okNilI, okNilP, mixs_ok, meqs_ok⟩ Tryz.func56 rfl mixed [] (by kernel_rfl) 10000 (by rfl) ?_
    (conv => whnf)
    (repeat' (first | (refine step_t (by first | rfl | assumption) ?_; (conv => whnf)) | (refine step_f (by first | rfl | assumption) ?_; (conv => whnf)) | (refine step_nt (by assumption) ?_; (conv => whnf)) | (refine step_nf (by assumption) ?_; (conv => whnf)) | (refine step_n (fun hb => ?_) (fun hb => ?_) <;> (first | contradiction | (conv => whnf))) | (refine And.intro (fun hb => ?_) (fun hb => ?_) <;> (first | contradiction | (conv => whnf))) | (refine And.intro (a := (_ : Bool) = true) ?_ ?_; rotate_left 1; (conv => whnf))))
    all_goals (first | rfl | trivial | assumption | (simp_all [eqv, eqv1, eqv2, eqvL1, eqvL2, V.alike]; done) | (simp_all [eqv, eqv1, eqv2, eqvL1, eqvL2, V.alike]; intros; omega) )
  · trivial
def k_vNumber : List SV → List Blk → Res := fun args _ => match args with
  | [.agg [.u64 nv, .u64 nm, .u64 nlo, .u64 nhi, .int .i64 nsl, .int .i64 nsh]] => .test (R.inS ⟨nlo, nhi, nsl, nsh⟩) (.ok (abv (V.number (⟨⟨nv, nm⟩, ⟨nlo, nhi, nsl, nsh⟩⟩ : Sc))) [])
  | _ => .fail
theorem k_vNumber_ok : CtrOk Tryz.prog Gw 53 k_vNumber := by
  refine ⟨fun _ _ => by kernel_rfl, fun args M => ?_⟩
  unfold k_vNumber
  split
  · rename_i nv nm nlo nhi nsl nsh
    intro ht
    refine ctr_flat (Γ := ⟨[(42, k_cRight)], eqs, [], [], [], mixs, meqs⟩) (sv := abv (V.number (⟨⟨nv, nm⟩, ⟨nlo, nhi, nsl, nsh⟩⟩ : Sc))) st_Gw ⟨(okCons k_cRight_ok okNil), eqs_ok, okNilB, okNilI, okNilP, mixs_ok, meqs_ok⟩ Tryz.func53 rfl mixed [] (by kernel_rfl) 10000 (by rfl) ?_
    (conv => whnf)
    (repeat' (first | (refine step_t (by first | rfl | assumption) ?_; (conv => whnf)) | (refine step_f (by first | rfl | assumption) ?_; (conv => whnf)) | (refine step_nt (by assumption) ?_; (conv => whnf)) | (refine step_nf (by assumption) ?_; (conv => whnf)) | (refine step_n (fun hb => ?_) (fun hb => ?_) <;> (first | contradiction | (conv => whnf))) | (refine And.intro (fun hb => ?_) (fun hb => ?_) <;> (first | contradiction | (conv => whnf))) | (refine And.intro (a := (_ : Bool) = true) ?_ ?_; rotate_left 1; (conv => whnf))))
    all_goals (first | rfl | trivial | assumption | (simp_all [eqv, eqv1, eqv2, eqvL1, eqvL2, V.number, V.zero, V.zs]; done) | (simp_all [eqv, eqv1, eqv2, eqvL1, eqvL2, V.number, V.zero, V.zs]; intros; omega) )
  · trivial
attribute [local irreducible] V.counts V.alike
def k_vLeq : List SV → List Blk → Res := fun args _ => match args with
  | [.agg [.int .u8 ak, .u64 av, .u64 am, .u64 alo, .u64 ahi, .int .i64 asl, .int .i64 ash, .int .i64 aof, .int .i64 amp, .int .i64 aid, .int .i64 arm, .bool anu], .agg [.int .u8 bk, .u64 bv, .u64 bm, .u64 blo, .u64 bhi, .int .i64 bsl, .int .i64 bsh, .int .i64 bof, .int .i64 bmp, .int .i64 bid, .int .i64 brm, .bool bnu]] => .test (R.inS ⟨alo, ahi, asl, ash⟩ && R.inS ⟨blo, bhi, bsl, bsh⟩) (.ok (.bool (V.leq (⟨ak, (⟨⟨av, am⟩, ⟨alo, ahi, asl, ash⟩⟩ : Sc), aof, amp, aid, arm, anu⟩ : Ab) (⟨bk, (⟨⟨bv, bm⟩, ⟨blo, bhi, bsl, bsh⟩⟩ : Sc), bof, bmp, bid, brm, bnu⟩ : Ab))) [])
  | _ => .fail
theorem k_vLeq_ok : CtrOk Tryz.prog Gw 18 k_vLeq := by
  refine ⟨fun _ _ => by kernel_rfl, fun args M => ?_⟩
  unfold k_vLeq
  split
  · rename_i ak av am alo ahi asl ash aof amp aid arm anu bk bv bm blo bhi bsl bsh bof bmp bid brm bnu
    intro ht
    have hq := S.and_true2 ht
    have hq1 := hq.1
    have hq2 := hq.2
    refine ctr_flat (Γ := ⟨[(35, k_vRight), (56, k_valike), (57, k_vcounts), (14, k_cLeq)], eqs, [], [], [], mixs, meqs⟩) (sv := .bool (V.leq (⟨ak, (⟨⟨av, am⟩, ⟨alo, ahi, asl, ash⟩⟩ : Sc), aof, amp, aid, arm, anu⟩ : Ab) (⟨bk, (⟨⟨bv, bm⟩, ⟨blo, bhi, bsl, bsh⟩⟩ : Sc), bof, bmp, bid, brm, bnu⟩ : Ab))) st_Gw ⟨(okCons k_vRight_ok (okCons k_valike_ok (okCons k_vcounts_ok (okCons k_cLeq_ok okNil)))), eqs_ok, okNilB, okNilI, okNilP, mixs_ok, meqs_ok⟩ Tryz.func18 rfl mixed [] (by kernel_rfl) 10000 (by rfl) ?_
    (conv => whnf)
    (repeat' (first | (refine step_t (by first | rfl | assumption) ?_; (conv => whnf)) | (refine step_f (by first | rfl | assumption) ?_; (conv => whnf)) | (refine step_nt (by assumption) ?_; (conv => whnf)) | (refine step_nf (by assumption) ?_; (conv => whnf)) | (refine step_n (fun hb => ?_) (fun hb => ?_) <;> (first | contradiction | (conv => whnf))) | (refine And.intro (fun hb => ?_) (fun hb => ?_) <;> (first | contradiction | (conv => whnf))) | (refine And.intro (a := (_ : Bool) = true) ?_ ?_; rotate_left 1; (conv => whnf))))
    all_goals (first | rfl | trivial | assumption | (simp_all [eqv, eqv1, eqv2, eqvL1, eqvL2, V.leq]; done) | (simp_all [eqv, eqv1, eqv2, eqvL1, eqvL2, V.leq]; intros; omega) )
  · trivial
end Go.Proofs.YtgfemfgimefmeaaGreat
