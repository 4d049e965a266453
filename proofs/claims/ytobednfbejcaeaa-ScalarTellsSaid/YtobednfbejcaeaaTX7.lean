import Derived.Test.YtobednfbejcaeaaTX5
namespace Go.Proofs.Ytobednfbejcaeaa
open Go.RowKit Go.Sx
set_option linter.unusedSimpArgs false
set_option linter.unusedVariables false
set_option linter.unnecessarySimpa false
set_option maxRecDepth 100000
set_option maxHeartbeats 4000000
namespace T
def of (x y : BitVec 64) : Tn × Bool := if x ||| y != BitVec.allOnes 64 then (⟨0, 0⟩, false) else (⟨x &&& ~~~y, x &&& y⟩, true)
end T
def k_rRight : List SV → List Blk → Res := fun args _ => match args with
  | [.agg [.u64 av, .u64 am]] => .ok (.bool (T.right ⟨av, am⟩)) []
  | _ => .fail
theorem k_rRight_ok : CtrOk Try.prog Gw 71 k_rRight := by
  refine ⟨fun _ _ => by kernel_rfl, fun args M => ?_⟩
  unfold k_rRight
  split
  · rename_i av am
    refine ctr_flat (Γ := ⟨[], eqs, [], [], []⟩) (sv := .bool (T.right ⟨av, am⟩)) st_Gw ⟨okNil, eqs_ok, okNilB, okNilI, okNilP⟩ Try.func71 rfl mixed [] (by kernel_rfl) 10000 (by rfl) ?_
    (conv => whnf)
    (repeat' (first | (refine And.intro (fun hb => ?_) (fun hb => ?_) <;> (first | contradiction | (conv => whnf))) | (refine And.intro ?_ ?_; rotate_left 1; (conv => whnf))))
    all_goals (first | rfl | trivial | (simp_all [eqv, eqv1, eqv2, eqvL1, eqvL2]))
  · trivial
def k_rUnknown : List SV → List Blk → Res := fun args _ => match args with
  | [] => .ok (tsv ⟨0, BitVec.allOnes 64⟩) []
  | _ => .fail
theorem k_rUnknown_ok : CtrOk Try.prog Gw 50 k_rUnknown := by
  refine ⟨fun _ _ => by kernel_rfl, fun args M => ?_⟩
  unfold k_rUnknown
  split
  · refine ctr_flat (Γ := ⟨[], eqs, [], [], []⟩) (sv := tsv ⟨0, BitVec.allOnes 64⟩) st_Gw ⟨okNil, eqs_ok, okNilB, okNilI, okNilP⟩ Try.func50 rfl mixed [] (by kernel_rfl) 10000 (by rfl) ?_
    (conv => whnf)
    (repeat' (first | (refine And.intro (fun hb => ?_) (fun hb => ?_) <;> (first | contradiction | (conv => whnf))) | (refine And.intro ?_ ?_; rotate_left 1; (conv => whnf))))
    all_goals (first | rfl | trivial | (simp_all [eqv, eqv1, eqv2, eqvL1, eqvL2]))
  · trivial
def k_ones : List SV → List Blk → Res := fun args _ => match args with
  | [.agg [.u64 av, .u64 am]] => .ok (.u64 (av ||| am)) []
  | _ => .fail
theorem k_ones_ok : CtrOk Try.prog Gw 74 k_ones := by
  refine ⟨fun _ _ => by kernel_rfl, fun args M => ?_⟩
  unfold k_ones
  split
  · rename_i av am
    refine ctr_flat (Γ := ⟨[], eqs, [], [], []⟩) (sv := .u64 (av ||| am)) st_Gw ⟨okNil, eqs_ok, okNilB, okNilI, okNilP⟩ Try.func74 rfl mixed [] (by kernel_rfl) 10000 (by rfl) ?_
    (conv => whnf)
    (repeat' (first | (refine And.intro (fun hb => ?_) (fun hb => ?_) <;> (first | contradiction | (conv => whnf))) | (refine And.intro ?_ ?_; rotate_left 1; (conv => whnf))))
    all_goals (first | rfl | trivial | (simp_all [eqv, eqv1, eqv2, eqvL1, eqvL2]))
  · trivial
def k_noughts : List SV → List Blk → Res := fun args _ => match args with
  | [.agg [.u64 av, .u64 am]] => .ok (.u64 (~~~av)) []
  | _ => .fail
theorem k_noughts_ok : CtrOk Try.prog Gw 75 k_noughts := by
  refine ⟨fun _ _ => by kernel_rfl, fun args M => ?_⟩
  unfold k_noughts
  split
  · rename_i av am
    refine ctr_flat (Γ := ⟨[], eqs, [], [], []⟩) (sv := .u64 (~~~av)) st_Gw ⟨okNil, eqs_ok, okNilB, okNilI, okNilP⟩ Try.func75 rfl mixed [] (by kernel_rfl) 10000 (by rfl) ?_
    (conv => whnf)
    (repeat' (first | (refine And.intro (fun hb => ?_) (fun hb => ?_) <;> (first | contradiction | (conv => whnf))) | (refine And.intro ?_ ?_; rotate_left 1; (conv => whnf))))
    all_goals (first | rfl | trivial | (simp_all [eqv, eqv1, eqv2, eqvL1, eqvL2]))
  · trivial
def k_of : List SV → List Blk → Res := fun args _ => match args with
  | [.u64 x, .u64 y] => .ok (.tup [tsv (T.of x y).1, .bool (T.of x y).2]) []
  | _ => .fail
theorem k_of_ok : CtrOk Try.prog Gw 76 k_of := by
  refine ⟨fun _ _ => by kernel_rfl, fun args M => ?_⟩
  unfold k_of
  split
  · rename_i x y
    refine ctr_flat (Γ := ⟨[], eqs, [], [], []⟩) (sv := .tup [tsv (T.of x y).1, .bool (T.of x y).2]) st_Gw ⟨okNil, eqs_ok, okNilB, okNilI, okNilP⟩ Try.func76 rfl mixed [] (by kernel_rfl) 10000 (by rfl) ?_
    (conv => whnf)
    (repeat' (first | (refine And.intro (fun hb => ?_) (fun hb => ?_) <;> (first | contradiction | (conv => whnf))) | (refine And.intro ?_ ?_; rotate_left 1; (conv => whnf))))
    all_goals (first | rfl | trivial | (simp_all [eqv, eqv1, eqv2, eqvL1, eqvL2, T.of]))
  · trivial
def bsv (b : Bool) : SV := match b with
  | true => .ff
  | false => .tt
namespace T
def jx (L : List Tn) : BitVec 64 := (L.filter T.right).foldl (fun x t => x ||| (t.v ||| t.m)) 0
def jy (L : List Tn) : BitVec 64 := (L.filter T.right).foldl (fun x t => x ||| ~~~t.v) 0
def rjoin (L : List Tn) : Tn := if (L.filter T.right).isEmpty then ⟨0, BitVec.allOnes 64⟩ else (T.of (T.jx L) (T.jy L)).1
end T
theorem jx_yes {L : List Tn} {j : Nat} (h : j < L.length) (hr : T.right L[j] = true) : T.jx (L.take (j + 1)) = T.jx (L.take j) ||| (L[j].v ||| L[j].m) := by
  unfold T.jx; rw [filter_yes h hr, List.foldl_append]; rfl
theorem jy_yes {L : List Tn} {j : Nat} (h : j < L.length) (hr : T.right L[j] = true) : T.jy (L.take (j + 1)) = T.jy (L.take j) ||| ~~~L[j].v := by
  unfold T.jy; rw [filter_yes h hr, List.foldl_append]; rfl
theorem jx_no {L : List Tn} {j : Nat} (h : j < L.length) (hr : T.right L[j] = false) : T.jx (L.take (j + 1)) = T.jx (L.take j) := by unfold T.jx; rw [filter_no h hr]
theorem jy_no {L : List Tn} {j : Nat} (h : j < L.length) (hr : T.right L[j] = false) : T.jy (L.take (j + 1)) = T.jy (L.take j) := by unfold T.jy; rw [filter_no h hr]
theorem rjoin_run (L : List Tn) (hL : L.length < 1000000000000) : run Try.prog ⟨[(71, k_rRight), (50, k_rUnknown), (74, k_ones), (75, k_noughts), (76, k_of)], eqs, [], [], []⟩ 10000 [] 0 (bodyOf Try.f40) (initF Try.f40 [.sl 0 2 0 L.length]) [.ro 2 L.length (gOf eT L)] (retK Try.prog Try.f40 fun x _ => eqv x (tsv (T.rjoin L))) := by
  (conv => whnf)
  (repeat' (first | (refine And.intro (fun hb => ?_) (fun hb => ?_) <;> (first | contradiction | (conv => whnf))) | (refine And.intro ?_ ?_; rotate_left 1; (conv => whnf))))
  refine .inr ⟨[], [0, 2, 3, 4, 5, 6], fun k vals M => ∃ j : Nat, j ≤ L.length ∧ k = L.length - j ∧ vals = [.sl 0 2 0 L.length, .ptr 1 0, bsv ((L.take j).filter T.right).isEmpty, .u64 (T.jx (L.take j)), .u64 (T.jy (L.take j)), .int .i64 (j : Int)] ∧ M = [.ro 2 L.length (gOf eT L), .cells 25 [.u64 (BitVec.ofInt 64 0), .u64 (BitVec.ofInt 64 0)]], ?_⟩
  conv => whnf
  refine And.intro ⟨L.length, [.ro 2 L.length (gOf eT L), .cells 25 [.u64 (BitVec.ofInt 64 0), .u64 (BitVec.ofInt 64 0)]], mle_cons ble_refl (mle_cons ble_refl mle_nil), rfl, rfl, 0, by omega, by omega, rfl, rfl⟩ ?_
  rintro k vals M1 ⟨j, hj, rfl, rfl, rfl⟩
  generalize hs : ((L.take j).filter T.right).isEmpty = s
  cases s
  all_goals try simp only [bsv]
  · (conv => whnf)
    (repeat' (first | (refine And.intro (fun hb => ?_) (fun hb => ?_) <;> (first | contradiction | (conv => whnf))) | (refine And.intro ?_ ?_; rotate_left 1; (conv => whnf))))
    all_goals try (first | rfl | trivial | (simp; done) | (simp; omega) | (simp at hb ⊢; omega) | (simp only [decide_eq_true_eq, Bool.and_eq_true, Int.toNat_natCast] at *; omega))
    · have hlt : j < L.length := by simpa using ‹decide ((j : Int) < (L.length : Int)) = true›
      rw [getD_lt hlt] at hb
      refine ⟨L.length - (j + 1), [.ro 2 L.length (gOf eT L), .cells 25 [.u64 (BitVec.ofInt 64 0), .u64 (BitVec.ofInt 64 0)]], [0, 1], by omega, rfl, mle_cons ble_refl (mle_cons ble_refl mle_nil), rfl, rfl, j + 1, by omega, rfl, ?_, rfl⟩
      rw [jx_yes hlt hb, jy_yes hlt hb, show ((L.take (j + 1)).filter T.right).isEmpty = false by rw [filter_yes hlt hb]; simp, ← wrap_succ (by omega), ← getD_lt hlt]; rfl
    · have hlt : j < L.length := by simpa using ‹decide ((j : Int) < (L.length : Int)) = true›
      rw [getD_lt hlt] at hb
      refine ⟨L.length - (j + 1), [.ro 2 L.length (gOf eT L), .cells 25 [.u64 (BitVec.ofInt 64 0), .u64 (BitVec.ofInt 64 0)]], [0, 1], by omega, rfl, mle_cons ble_refl (mle_cons ble_refl mle_nil), rfl, rfl, j + 1, by omega, rfl, ?_, rfl⟩
      rw [jx_no hlt hb, jy_no hlt hb, show ((L.take (j + 1)).filter T.right).isEmpty = false by rw [filter_no hlt hb]; exact hs, ← wrap_succ (by omega)]; rfl
    all_goals
      have hj2 : j = L.length := by simp at hb; omega
      subst hj2
      simp only [List.take_length] at hs ⊢
      first | (simp only [T.rjoin, hs]; trivial) | (rw [eqv1, T.rjoin, hs]; rfl) | (unfold T.rjoin; rw [hs]; rfl)
  · (conv => whnf)
    (repeat' (first | (refine And.intro (fun hb => ?_) (fun hb => ?_) <;> (first | contradiction | (conv => whnf))) | (refine And.intro ?_ ?_; rotate_left 1; (conv => whnf))))
    all_goals try (first | rfl | trivial | (simp; done) | (simp; omega) | (simp at hb ⊢; omega) | (simp only [decide_eq_true_eq, Bool.and_eq_true, Int.toNat_natCast] at *; omega))
    · have hlt : j < L.length := by simpa using ‹decide ((j : Int) < (L.length : Int)) = true›
      rw [getD_lt hlt] at hb
      refine ⟨L.length - (j + 1), [.ro 2 L.length (gOf eT L), .cells 25 [.u64 (BitVec.ofInt 64 0), .u64 (BitVec.ofInt 64 0)]], [0, 1], by omega, rfl, mle_cons ble_refl (mle_cons ble_refl mle_nil), rfl, rfl, j + 1, by omega, rfl, ?_, rfl⟩
      rw [jx_yes hlt hb, jy_yes hlt hb, show ((L.take (j + 1)).filter T.right).isEmpty = false by rw [filter_yes hlt hb]; simp, ← wrap_succ (by omega), ← getD_lt hlt]; rfl
    · have hlt : j < L.length := by simpa using ‹decide ((j : Int) < (L.length : Int)) = true›
      rw [getD_lt hlt] at hb
      refine ⟨L.length - (j + 1), [.ro 2 L.length (gOf eT L), .cells 25 [.u64 (BitVec.ofInt 64 0), .u64 (BitVec.ofInt 64 0)]], [0, 1], by omega, rfl, mle_cons ble_refl (mle_cons ble_refl mle_nil), rfl, rfl, j + 1, by omega, rfl, ?_, rfl⟩
      rw [jx_no hlt hb, jy_no hlt hb, show ((L.take (j + 1)).filter T.right).isEmpty = true by rw [filter_no hlt hb]; exact hs, ← wrap_succ (by omega)]; rfl
    all_goals
      have hj2 : j = L.length := by simp at hb; omega
      subst hj2
      simp only [List.take_length] at hs ⊢
      first | (simp only [T.rjoin, hs]; trivial) | (rw [eqv1, T.rjoin, hs]; rfl) | (unfold T.rjoin; rw [hs]; rfl)
theorem of_ones {t : Tn} (h : T.right t = true) : T.of (t.v ||| t.m) (~~~t.v) = (t, true) := by
  have h' : t.v &&& t.m = 0#64 := by simpa [T.right] using h
  unfold T.of
  have e1 : (t.v ||| t.m) ||| ~~~t.v = BitVec.allOnes 64 := by
    apply BitVec.eq_of_getLsbD_eq; intro i hi
    simp only [BitVec.getLsbD_or, BitVec.getLsbD_not, BitVec.getLsbD_allOnes, hi, decide_true, Bool.true_and]
    cases t.v.getLsbD i <;> simp
  have bit : ∀ i, (t.v.getLsbD i && t.m.getLsbD i) = false := fun i => by
    have := congrArg (fun x => BitVec.getLsbD x i) h'
    simpa using this
  have e2 : (t.v ||| t.m) &&& ~~~(~~~t.v) = t.v := by
    apply BitVec.eq_of_getLsbD_eq; intro i hi
    simp only [BitVec.getLsbD_and, BitVec.getLsbD_or, BitVec.getLsbD_not, hi, decide_true, Bool.true_and]
    cases t.v.getLsbD i <;> simp
  have e3 : (t.v ||| t.m) &&& ~~~t.v = t.m := by
    apply BitVec.eq_of_getLsbD_eq; intro i hi
    have := bit i
    simp only [BitVec.getLsbD_and, BitVec.getLsbD_or, BitVec.getLsbD_not, hi, decide_true, Bool.true_and]
    revert this; cases t.v.getLsbD i <;> cases t.m.getLsbD i <;> simp
  rw [e1, e2, e3]; simp
theorem join2_ones {a b : Tn} (ha : T.right a = true) (hb : T.right b = true) : (T.join2 a b).v ||| (T.join2 a b).m = (a.v ||| a.m) ||| (b.v ||| b.m) ∧ ~~~(T.join2 a b).v = ~~~a.v ||| ~~~b.v ∧ T.right (T.join2 a b) = true := by
  have ha' : a.v &&& a.m = 0#64 := by simpa [T.right] using ha
  have hb' : b.v &&& b.m = 0#64 := by simpa [T.right] using hb
  have p : ∀ i, (a.v.getLsbD i && a.m.getLsbD i) = false := fun i => by
    have := congrArg (fun x => BitVec.getLsbD x i) ha'
    simpa using this
  have q : ∀ i, (b.v.getLsbD i && b.m.getLsbD i) = false := fun i => by
    have := congrArg (fun x => BitVec.getLsbD x i) hb'
    simpa using this
  refine ⟨?_, ?_, ?_⟩
  · apply BitVec.eq_of_getLsbD_eq; intro i hi
    have p := p i; have q := q i
    simp only [T.join2, BitVec.getLsbD_and, BitVec.getLsbD_or, BitVec.getLsbD_xor, BitVec.getLsbD_not, hi, decide_true, Bool.true_and]
    revert p q; cases a.v.getLsbD i <;> cases a.m.getLsbD i <;> cases b.v.getLsbD i <;> cases b.m.getLsbD i <;> simp
  · apply BitVec.eq_of_getLsbD_eq; intro i hi
    have p := p i; have q := q i
    simp only [T.join2, BitVec.getLsbD_and, BitVec.getLsbD_or, BitVec.getLsbD_xor, BitVec.getLsbD_not, hi, decide_true, Bool.true_and]
    revert p q; cases a.v.getLsbD i <;> cases a.m.getLsbD i <;> cases b.v.getLsbD i <;> cases b.m.getLsbD i <;> simp
  · unfold T.right T.join2
    rw [beq_iff_eq]
    apply BitVec.eq_of_getLsbD_eq; intro i hi
    simp only [BitVec.getLsbD_and, BitVec.getLsbD_or, BitVec.getLsbD_xor, BitVec.getLsbD_not, hi, decide_true, Bool.true_and]
    cases a.v.getLsbD i <;> cases a.m.getLsbD i <;> cases b.v.getLsbD i <;> cases b.m.getLsbD i <;> simp
theorem fold_ones (r : List Tn) : ∀ (t : Tn), T.right t = true → (∀ u ∈ r, T.right u = true) →
    T.of (r.foldl (fun x t => x ||| (t.v ||| t.m)) (t.v ||| t.m)) (r.foldl (fun x t => x ||| ~~~t.v) (~~~t.v)) = (r.foldl T.join2 t, true) := by
  induction r with
  | nil => exact fun t ht _ => of_ones ht
  | cons u r ih =>
    intro t ht hr
    have hu := hr u (by simp)
    obtain ⟨e1, e2, e3⟩ := join2_ones ht hu
    have := ih (T.join2 t u) e3 (fun v hv => hr v (by simp [hv]))
    rw [e1, e2] at this
    exact this
theorem rjoin_eq (L : List Tn) : T.rjoin L = T.join L := by
  unfold T.rjoin T.join T.jx T.jy
  have hr : ∀ u ∈ L.filter T.right, T.right u = true := fun u hu => (List.mem_filter.1 hu).2
  revert hr
  generalize L.filter T.right = F
  intro hr
  cases F with
  | nil => rfl
  | cons t r =>
    simp only [List.isEmpty_cons, List.foldl_cons]
    have := fold_ones r t (hr t (by simp)) (fun v hv => hr v (by simp [hv]))
    rw [show (0 : BitVec 64) ||| (t.v ||| t.m) = t.v ||| t.m by simp, show (0 : BitVec 64) ||| ~~~t.v = ~~~t.v by simp, this]
    rfl

def k_rJoin : List SV → List Blk → Res := fun args M => match args with
  | [.sl b sz off len] => match eltB (nth M b) with
    | some (sz', m, g) => match Nat.beq sz 2 && Nat.beq sz' 2 with
      | true => .test (decide (off + len ≤ m) && (allIs eT off len g && decide (len < 1000000000000))) (.ok (tsv (T.join (elts eT off len g))) [])
      | false => .fail
    | _ => .fail
  | _ => .fail
theorem k_rJoin_ok : CtrOk Try.prog Gw 40 k_rJoin := by
  refine ⟨fun _ _ => by kernel_rfl, fun args M => ?_⟩
  unfold k_rJoin
  split
  · rename_i b sz off len
    split
    · rename_i sz' m g hk
      split
      · rename_i hb
        simp only [Bool.and_eq_true] at hb
        obtain rfl := Nat.eq_of_beq_eq_true hb.1
        obtain rfl := Nat.eq_of_beq_eq_true hb.2
        intro ht
        simp only [Bool.and_eq_true, decide_eq_true_eq] at ht
        obtain ⟨hle, h1, h2⟩ := ht
        have hr := rjoin_run (elts eT off len g) (by rw [elts_length]; exact h2)
        rw [elts_length, rjoin_eq] at hr
        exact ctr_row (Γ := ⟨[(71, k_rRight), (50, k_rUnknown), (74, k_ones), (75, k_noughts), (76, k_of)], eqs, [], [], []⟩) st_Gw ⟨(okCons k_rRight_ok (okCons k_rUnknown_ok (okCons k_ones_ok (okCons k_noughts_ok (okCons k_of_ok okNil))))), eqs_ok, okNilB, okNilI, okNilP⟩ Try.func40 rfl mixed [] (by kernel_rfl) 10000 hk hle (gOf_elts eT h1) rfl hr
      · trivial
    · trivial
  · trivial
end Go.Proofs.Ytobednfbejcaeaa
