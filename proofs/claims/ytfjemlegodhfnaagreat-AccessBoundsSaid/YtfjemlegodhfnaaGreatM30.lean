import Derived.Test.YtfjemlegodhfnaaGreatM29
set_option linter.all false
namespace Go.Proofs.YtfjemlegodhfnaaGreat
open Go.RowKit Go.Sx
set_option maxRecDepth 100000
set_option maxHeartbeats 4000000
theorem one_is {j:Nat}(hj:j<64):BitVec.ofInt 64 1 <<< (BitVec.ofInt 64 (j:Int)).toNat=1#64 <<< j:=by
 rw[T.ofInt_small (by omega) (by omega),Int.toNat_natCast];rfl
theorem zero_is:BitVec.ofInt 64 0=0#64:=by decide
namespace T
theorem of_mk {f g:Nat→Bool}{t:Tn}(h:right t=true)(hf:∀ i,i<64→f i=(t.v.getLsbD i||t.m.getLsbD i))(hg:∀ i,i<64→g i = !t.v.getLsbD i):of (mk f 64) (mk g 64)=(t,true):=by
 have e1:mk f 64=t.v ||| t.m:=ext64 fun i hi=>by rw[mk_bit f 64 i hi,BitVec.getLsbD_or,hf i hi];simp[hi]
 have e2:mk g 64 = ~~~t.v:=ext64 fun i hi=>by rw[mk_bit g 64 i hi,not_bit hi,hg i hi];simp[hi]
 rw[e1,e2,of_ones h]
theorem of_meet {a b:Tn}(ha:right a=true)(hb:right b=true):of ((a.v ||| a.m) &&& (b.v ||| b.m)) (~~~a.v &&& ~~~b.v)=meet a b:=by
 have hc:((a.v ||| a.m) &&& (b.v ||| b.m)) ||| (~~~a.v &&& ~~~b.v)=BitVec.allOnes 64↔(a.v ^^^ b.v) &&& ~~~a.m &&& ~~~b.m=0#64:=by
  constructor
  . intro h
    apply ext64;intro i hi
    have:=congrArg (fun x=>BitVec.getLsbD x i) h
    have p:=right_bit ha i;have q:=right_bit hb i
    simp only[BitVec.getLsbD_and,BitVec.getLsbD_or,BitVec.getLsbD_xor,BitVec.getLsbD_not,BitVec.getLsbD_allOnes,BitVec.getLsbD_zero,hi,decide_true,Bool.true_and] at this ⊢
    revert this p q
    cases a.v.getLsbD i<;>cases a.m.getLsbD i<;>cases b.v.getLsbD i<;>cases b.m.getLsbD i<;>simp
  . intro h
    apply ext64;intro i hi
    have:=congrArg (fun x=>BitVec.getLsbD x i) h
    have p:=right_bit ha i;have q:=right_bit hb i
    simp only[BitVec.getLsbD_and,BitVec.getLsbD_or,BitVec.getLsbD_xor,BitVec.getLsbD_not,BitVec.getLsbD_allOnes,BitVec.getLsbD_zero,hi,decide_true,Bool.true_and] at this ⊢
    revert this p q
    cases a.v.getLsbD i<;>cases a.m.getLsbD i<;>cases b.v.getLsbD i<;>cases b.m.getLsbD i<;>simp
 unfold of meet
 rw[ha,hb]
 simp only[Bool.not_true,Bool.false_or]
 by_cases h:(a.v ^^^ b.v) &&& ~~~a.m &&& ~~~b.m=0#64
 . rw[if_neg (by simp[hc.2 h]),if_neg (by simp[h])]
   congr 2
   . apply ext64;intro i hi
     have:=congrArg (fun x=>BitVec.getLsbD x i) h
     have p:=right_bit ha i;have q:=right_bit hb i
     simp only[BitVec.getLsbD_and,BitVec.getLsbD_or,BitVec.getLsbD_xor,BitVec.getLsbD_not,BitVec.getLsbD_allOnes,BitVec.getLsbD_zero,hi,decide_true,Bool.true_and] at this ⊢
     revert this p q
     cases a.v.getLsbD i<;>cases a.m.getLsbD i<;>cases b.v.getLsbD i<;>cases b.m.getLsbD i<;>simp
   . apply ext64;intro i hi
     have:=congrArg (fun x=>BitVec.getLsbD x i) h
     have p:=right_bit ha i;have q:=right_bit hb i
     simp only[BitVec.getLsbD_and,BitVec.getLsbD_or,BitVec.getLsbD_xor,BitVec.getLsbD_not,BitVec.getLsbD_allOnes,BitVec.getLsbD_zero,hi,decide_true,Bool.true_and] at this ⊢
     revert this p q
     cases a.v.getLsbD i<;>cases a.m.getLsbD i<;>cases b.v.getLsbD i<;>cases b.m.getLsbD i<;>simp
 . rw[if_pos (bne_iff_ne.2 fun e=>h (hc.1 e)),if_pos (bne_iff_ne.2 h)]
def s1 (op:Int)(t:Tn)(n i:Nat):Bool:=if op=96 then decide (n≤i)&&may t (i-n) true else if op=112 then decide (i+n<64)&&may t (i+n) true else may t (min (i+n) 63) true
def s0 (op:Int)(t:Tn)(n i:Nat):Bool:=if op=96 then !decide (n≤i)||may t (i-n) false else if op=112 then !decide (i+n<64)||may t (i+n) false else may t (min (i+n) 63) false
theorem sh_bit (op:Int)(hop:op=96∨op=112∨op=192)(x:BitVec 64)(n i:Nat)(hn:n<64)(hi:i<64):(sh op x n).getLsbD i=if op=96 then decide (n≤i)&&x.getLsbD (i-n) else if op=112 then decide (i+n<64)&&x.getLsbD (i+n) else x.getLsbD (min (i+n) 63):=by
 rcases hop with rfl|rfl|rfl
 . show(x <<< n).getLsbD i=_
   rw[if_pos rfl,BitVec.getLsbD_shiftLeft]
   by_cases h:n≤i
   . simp[hi,h,show ¬ i<n by omega]
   . simp[h,show i<n by omega]
 . show(x >>> n).getLsbD i=_
   rw[if_neg (by decide),if_pos rfl,BitVec.getLsbD_ushiftRight,Nat.add_comm n i]
   by_cases h:i+n<64
   . simp[h]
   . rw[BitVec.getLsbD_of_ge _ _ (by omega)];simp[h]
 . show(x.sshiftRight (min n 64)).getLsbD i=_
   rw[if_neg (by decide),if_neg (by decide),show min n 64=n by omega,BitVec.getLsbD_sshiftRight]
   by_cases h:n+i<64
   . simp[hi,h,show min (i+n) 63=n+i by omega]
   . simp[hi,h,show min (i+n) 63=63 by omega,BitVec.msb_eq_getLsbD_last]
theorem of_shift (op:Int)(hop:op=96∨op=112∨op=192){t:Tn}(h:right t=true)(n:Nat)(hn:n<64):of (mk (s1 op t n) 64) (mk (s0 op t n) 64)=(⟨sh op t.v n,sh op t.m n⟩,true):=by
 apply of_mk
 . apply right_iff.2;intro i hi
   rw[sh_bit op hop _ _ _ hn hi,sh_bit op hop _ _ _ hn hi]
   have p1:=right_bit h (i-n);have p2:=right_bit h (i+n);have p3:=right_bit h (min (i+n) 63)
   split
   . cases hd:decide (n≤i)<;>simp_all
   . split
     . cases hd:decide (i+n<64)<;>simp_all
     . exact p3
 . intro i hi
   simp only[sh_bit op hop _ _ _ hn hi,s1,may]
   split
   . cases decide (n≤i)<;>cases t.v.getLsbD (i-n)<;>cases t.m.getLsbD (i-n)<;>rfl
   . split
     . cases decide (i+n<64)<;>cases t.v.getLsbD (i+n)<;>cases t.m.getLsbD (i+n)<;>rfl
     . cases t.v.getLsbD (min (i+n) 63)<;>cases t.m.getLsbD (min (i+n) 63)<;>rfl
 . intro i hi
   simp only[sh_bit op hop _ _ _ hn hi,s0,may]
   have p1:=right_bit h (i-n);have p2:=right_bit h (i+n);have p3:=right_bit h (min (i+n) 63)
   revert p1 p2 p3
   split
   . cases decide (n≤i)<;>cases t.v.getLsbD (i-n)<;>cases t.m.getLsbD (i-n)<;>simp
   . split
     . cases decide (i+n<64)<;>cases t.v.getLsbD (i+n)<;>cases t.m.getLsbD (i+n)<;>simp
     . cases t.v.getLsbD (min (i+n) 63)<;>cases t.m.getLsbD (min (i+n) 63)<;>simp
def b2 (op:Int)(p q:Bool):Bool:=if op=64 then p||q else if op=160 then p ^^ q else p&&q
def q1 (op:Int)(a b:Tn)(i:Nat):Bool:=(may a i false&&may b i false&&b2 op false false)||(may a i true&&may b i false&&b2 op true false)||(may a i false&&may b i true&&b2 op false true)||(may a i true&&may b i true&&b2 op true true)
def q0 (op:Int)(a b:Tn)(i:Nat):Bool:=(may a i false&&may b i false && !b2 op false false)||(may a i true&&may b i false && !b2 op true false)||(may a i false&&may b i true && !b2 op false true)||(may a i true&&may b i true && !b2 op true true)
def pr (op:Int)(a b:Tn)(i:Nat)(s:BitVec 64×BitVec 64)(n:Nat):BitVec 64×BitVec 64:=
 if may a i (n.testBit 0)&&may b i (n.testBit 1) then (if b2 op (n.testBit 0) (n.testBit 1) then (s.1 ||| 1#64 <<< i,s.2) else (s.1,s.2 ||| 1#64 <<< i)) else s
def prs (op:Int)(a b:Tn)(i:Nat)(s:BitVec 64×BitVec 64):Nat→BitVec 64×BitVec 64
 |0=>s
 |k+1=>pr op a b i (prs op a b i s k) k
theorem pr_form (op:Int)(a b:Tn)(i:Nat)(x y:BitVec 64)(u v:Bool)(n:Nat):
  pr op a b i (if u=true then x ||| 1#64 <<< i else x,if v=true then y ||| 1#64 <<< i else y) n =
   (if (u||(may a i (n.testBit 0)&&may b i (n.testBit 1)&&b2 op (n.testBit 0) (n.testBit 1)))=true then x ||| 1#64 <<< i else x,if (v||(may a i (n.testBit 0)&&may b i (n.testBit 1) && !b2 op (n.testBit 0) (n.testBit 1)))=true then y ||| 1#64 <<< i else y):=by
 unfold pr
 cases may a i (n.testBit 0)<;>cases may b i (n.testBit 1)<;>cases b2 op (n.testBit 0) (n.testBit 1)<;>cases u<;>cases v<;>simp[or_twice]
theorem prs4 (op:Int)(a b:Tn)(i:Nat):prs op a b i (mk (q1 op a b) i,mk (q0 op a b) i) 4=(mk (q1 op a b) (i+1),mk (q0 op a b) (i+1)):=by
 have h:prs op a b i (mk (q1 op a b) i,mk (q0 op a b) i) 0=(if false=true then mk (q1 op a b) i ||| 1#64 <<< i else mk (q1 op a b) i,if false=true then mk (q0 op a b) i ||| 1#64 <<< i else mk (q0 op a b) i):=rfl
 simp only[prs] at h ⊢
 rw[h,pr_form,pr_form,pr_form,pr_form]
 rw[Prod.mk.injEq]
 constructor
 . refine(ite_b (v:=q1 op a b i) ?_).trans (by simp only[mk])
   unfold q1
   simp[show Nat.testBit 1 0=true from rfl,show Nat.testBit 1 1=false from rfl,show Nat.testBit 2 0=false from rfl,show Nat.testBit 2 1=true from rfl,show Nat.testBit 3 0=true from rfl,show Nat.testBit 3 1=true from rfl]
 . refine(ite_b (v:=q0 op a b i) ?_).trans (by simp only[mk])
   unfold q0
   simp[show Nat.testBit 1 0=true from rfl,show Nat.testBit 1 1=false from rfl,show Nat.testBit 2 0=false from rfl,show Nat.testBit 2 1=true from rfl,show Nat.testBit 3 0=true from rfl,show Nat.testBit 3 1=true from rfl]
def logic (op:Int)(a b:Tn):Tn:=if op=64 then or a b else if op=160 then xor a b else and a b
theorem of_logic (op:Int){a b:Tn}(ha:right a=true)(hb:right b=true):of (mk (q1 op a b) 64) (mk (q0 op a b) 64)=(logic op a b,true):=by
 have key:∀ i,i<64→((logic op a b).v.getLsbD i&&(logic op a b).m.getLsbD i)=false∧q1 op a b i=((logic op a b).v.getLsbD i||(logic op a b).m.getLsbD i)∧q0 op a b i = !(logic op a b).v.getLsbD i:=by
  intro i hi
  have p:=right_bit ha i;have q:=right_bit hb i
  unfold logic q1 q0 b2
  split
  . simp only[T.or,may,BitVec.getLsbD_and,BitVec.getLsbD_or,BitVec.getLsbD_xor,BitVec.getLsbD_not,hi,decide_true,Bool.true_and]
    revert p q
    cases a.v.getLsbD i<;>cases a.m.getLsbD i<;>cases b.v.getLsbD i<;>cases b.m.getLsbD i<;>simp
  . split
    . simp only[T.xor,may,BitVec.getLsbD_and,BitVec.getLsbD_or,BitVec.getLsbD_xor,BitVec.getLsbD_not,hi,decide_true,Bool.true_and]
      revert p q
      cases a.v.getLsbD i<;>cases a.m.getLsbD i<;>cases b.v.getLsbD i<;>cases b.m.getLsbD i<;>simp
    . simp only[T.and,may,BitVec.getLsbD_and,BitVec.getLsbD_or,BitVec.getLsbD_xor,BitVec.getLsbD_not,hi,decide_true,Bool.true_and]
      revert p q
      cases a.v.getLsbD i<;>cases a.m.getLsbD i<;>cases b.v.getLsbD i<;>cases b.m.getLsbD i<;>simp
 exact of_mk (right_iff.2 fun i hi=>(key i hi).1) (fun i hi=>(key i hi).2.1) fun i hi=>(key i hi).2.2
theorem of_sums (less:Bool){a b:Tn}(ha:right a=true)(hb:right b=true):of (mk (sx less a b) 64) (mk (sy less a b) 64)=(if less then difference a b else sum a b,true):=by
 cases less
 . exact of_mk (right_iff.2 fun i hi=>(sum_bits ha hb hi).2.2) (fun i hi=>(sum_bits ha hb hi).1) fun i hi=>(sum_bits ha hb hi).2.1
 . exact of_mk (right_iff.2 fun i hi=>(dif_bits ha hb hi).2.2) (fun i hi=>(dif_bits ha hb hi).1) fun i hi=>(dif_bits ha hb hi).2.1
theorem mul_low_of {a b:Tn}{n:Nat}(hn:min (tz a.m) (tz b.m)=n):product a b=⟨a.v*b.v &&& (1#64 <<< n-1#64),~~~(1#64 <<< n-1#64)⟩:=by
 have h64:n≤64:=by have:=tz_le a.m;omega
 unfold product
 rw[hn]
 simp only[← not_low n h64]
 congr 1
 apply ext64;intro i hi;simp[hi]
end T
end Go.Proofs.YtfjemlegodhfnaaGreat
namespace Go.Proofs.YtfjemlegodhfnaaGreat
open Go.RowKit Go.Sx
set_option maxRecDepth 100000
set_option maxHeartbeats 4000000
end Go.Proofs.YtfjemlegodhfnaaGreat
namespace Go.Proofs.YtfjemlegodhfnaaGreat
open Go.RowKit Go.Sx
set_option maxRecDepth 100000
set_option maxHeartbeats 4000000
namespace T
theorem does_mul {op:Int}{a b:Tn}(ha:right a=true)(hb:right b=true)(h:op=32):doesI op a b=(product a b,true):=by subst h;simp[doesI,opI,ha,hb]
theorem mul_64 {a b:Tn}(h:min (tz a.m) (tz b.m)=64):product a b=⟨a.v*b.v,0⟩:=by
 rw[mul_low_of h,show(1#64 <<< 64-1#64:BitVec 64)=BitVec.allOnes 64 by decide]
 rw[BitVec.and_allOnes,show(~~~(BitVec.allOnes 64):BitVec 64)=0 by decide]
theorem mul_n {a b:Tn}(h:min (tz a.m) (tz b.m)≠64):product a b=⟨a.v*b.v &&& (BitVec.ofInt 64 1 <<< (BitVec.ofInt 64 ((min (tz a.m) (tz b.m):Nat):Int)).toNat-BitVec.ofInt 64 1),~~~(BitVec.ofInt 64 1 <<< (BitVec.ofInt 64 ((min (tz a.m) (tz b.m):Nat):Int)).toNat-BitVec.ofInt 64 1)⟩:=by
 have h64:min (tz a.m) (tz b.m)<64:=by have:=tz_le a.m;omega
 rw[one_is h64,mul_low_of rfl];rfl
theorem low_1 {a:Tn}(h:right a=true):low a 1=(⟨a.v &&& (BitVec.ofInt 64 1 <<< (BitVec.ofInt 64 (IntKind.i64.wrap (8*1))).toNat-BitVec.ofInt 64 1),a.m &&& (BitVec.ofInt 64 1 <<< (BitVec.ofInt 64 (IntKind.i64.wrap (8*1))).toNat-BitVec.ofInt 64 1)⟩,true):=by
 rw[show BitVec.ofInt 64 1 <<< (BitVec.ofInt 64 (IntKind.i64.wrap (8*1))).toNat-BitVec.ofInt 64 1=255#64 by decide];simp[low,h]
theorem low_2 {a:Tn}(h:right a=true):low a 2=(⟨a.v &&& (BitVec.ofInt 64 1 <<< (BitVec.ofInt 64 (IntKind.i64.wrap (8*2))).toNat-BitVec.ofInt 64 1),a.m &&& (BitVec.ofInt 64 1 <<< (BitVec.ofInt 64 (IntKind.i64.wrap (8*2))).toNat-BitVec.ofInt 64 1)⟩,true):=by
 rw[show BitVec.ofInt 64 1 <<< (BitVec.ofInt 64 (IntKind.i64.wrap (8*2))).toNat-BitVec.ofInt 64 1=65535#64 by decide];simp[low,h]
theorem low_4 {a:Tn}(h:right a=true):low a 4=(⟨a.v &&& (BitVec.ofInt 64 1 <<< (BitVec.ofInt 64 (IntKind.i64.wrap (8*4))).toNat-BitVec.ofInt 64 1),a.m &&& (BitVec.ofInt 64 1 <<< (BitVec.ofInt 64 (IntKind.i64.wrap (8*4))).toNat-BitVec.ofInt 64 1)⟩,true):=by
 rw[show BitVec.ofInt 64 1 <<< (BitVec.ofInt 64 (IntKind.i64.wrap (8*4))).toNat-BitVec.ofInt 64 1=4294967295#64 by decide];simp[low,h]
theorem low_8 {a:Tn}(h:right a=true):low a 8=(a,true):=by
 unfold low
 rw[if_pos h,if_neg (by decide),if_neg (by decide),if_neg (by decide),if_pos (by decide),show(18446744073709551615#64:BitVec 64)=BitVec.allOnes 64 by decide,BitVec.and_allOnes,BitVec.and_allOnes]
end T
end Go.Proofs.YtfjemlegodhfnaaGreat
