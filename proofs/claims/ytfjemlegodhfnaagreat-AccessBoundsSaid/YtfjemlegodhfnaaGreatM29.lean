import Derived.Test.YtfjemlegodhfnaaGreatM28
import Derived.Test.YtfjemlegodhfnaaGreatM17
import Derived.Test.YtfjemlegodhfnaaGreatM25
set_option linter.all false
namespace Go.Proofs.YtfjemlegodhfnaaGreat
open Go.RowKit Go.Sx
set_option maxRecDepth 100000
set_option maxHeartbeats 4000000
theorem ite_min (a b:Nat):(if (b:Int) < (a:Int) then (b:Int) else (a:Int))=((min a b:Nat):Int):=by split<;>omega
theorem allOnes64:(18446744073709551615#64:BitVec 64)=BitVec.allOnes 64:=by decide
def k_known:List SV→List Blk→Res:=fun args _=>match args with
 |[.agg [.u64 av,.u64 am]]=>.ok (.bool (T.right ⟨av,am⟩)) []
 |_=>.fail
theorem k_known_ok:CtrOk Tryz.prog Gw 87 k_known:=by
 refine⟨fun _ _=>by kernel_rfl,fun args M => ?_⟩
 unfold k_known
 split
 . rename_i av am
   refine ctr_flat (Γ:=⟨[],eqs,[],[],[],mixs,meqs,[]⟩) (sv:=.bool (T.right ⟨av,am⟩)) st_Gw ⟨okNil,eqs_ok,okNilB,okNilI,okNilP,mixs_ok,meqs_ok,okNilY⟩ Tryz.func87 rfl mixed [] (by kernel_rfl) 10000 (by rfl) ?_
   (conv=>whnf)
   (repeat' (first | (refine And.intro (fun hb => ?_) (fun hb => ?_)<;>(first|contradiction | (conv=>whnf))) | (refine And.intro ?_ ?_;rotate_left 1;(conv=>whnf))))
   all_goals (first|rfl|trivial | (simp_all [eqv,eqv1,eqv2,eqvL1,eqvL2]))
 . trivial
def k_Right:List SV→List Blk→Res:=fun args _=>match args with
 |[.agg [.u64 av,.u64 am]]=>.ok (.bool (T.right ⟨av,am⟩)) []
 |_=>.fail
theorem k_Right_ok:CtrOk Tryz.prog Gw 65 k_Right:=by
 refine⟨fun _ _=>by kernel_rfl,fun args M => ?_⟩
 unfold k_Right
 split
 . rename_i av am
   refine ctr_flat (Γ:=⟨[(87,k_known)],eqs,[],[],[],mixs,meqs,[]⟩) (sv:=.bool (T.right ⟨av,am⟩)) st_Gw ⟨(okCons k_known_ok okNil),eqs_ok,okNilB,okNilI,okNilP,mixs_ok,meqs_ok,okNilY⟩ Tryz.func65 rfl mixed [] (by kernel_rfl) 10000 (by rfl) ?_
   (conv=>whnf)
   (repeat' (first | (refine And.intro (fun hb => ?_) (fun hb => ?_)<;>(first|contradiction | (conv=>whnf))) | (refine And.intro ?_ ?_;rotate_left 1;(conv=>whnf))))
   all_goals (first|rfl|trivial | (simp_all [eqv,eqv1,eqv2,eqvL1,eqvL2]))
 . trivial
def k_Const:List SV→List Blk→Res:=fun args _=>match args with
 |[.u64 n]=>.ok (tsv ⟨n,0⟩) []
 |_=>.fail
theorem k_Const_ok:CtrOk Tryz.prog Gw 23 k_Const:=by
 refine⟨fun _ _=>by kernel_rfl,fun args M => ?_⟩
 unfold k_Const
 split
 . rename_i n
   refine ctr_flat (Γ:=⟨[],eqs,[],[],[],mixs,meqs,[]⟩) (sv:=tsv ⟨n,0⟩) st_Gw ⟨okNil,eqs_ok,okNilB,okNilI,okNilP,mixs_ok,meqs_ok,okNilY⟩ Tryz.func23 rfl mixed [] (by kernel_rfl) 10000 (by rfl) ?_
   (conv=>whnf)
   (repeat' (first | (refine And.intro (fun hb => ?_) (fun hb => ?_)<;>(first|contradiction | (conv=>whnf))) | (refine And.intro ?_ ?_;rotate_left 1;(conv=>whnf))))
   all_goals (first|rfl|trivial | (simp_all [eqv,eqv1,eqv2,eqvL1,eqvL2]))
 . trivial
def k_Unknown:List SV→List Blk→Res:=fun args _=>match args with
 |[]=>.ok (tsv ⟨0,BitVec.allOnes 64⟩) []
 |_=>.fail
theorem k_Unknown_ok:CtrOk Tryz.prog Gw 62 k_Unknown:=by
 refine⟨fun _ _=>by kernel_rfl,fun args M => ?_⟩
 unfold k_Unknown
 split
 . refine ctr_flat (Γ:=⟨[],eqs,[],[],[],mixs,meqs,[]⟩) (sv:=tsv ⟨0,BitVec.allOnes 64⟩) st_Gw ⟨okNil,eqs_ok,okNilB,okNilI,okNilP,mixs_ok,meqs_ok,okNilY⟩ Tryz.func62 rfl mixed [] (by kernel_rfl) 10000 (by rfl) ?_
   (conv=>whnf)
   (repeat' (first | (refine And.intro (fun hb => ?_) (fun hb => ?_)<;>(first|contradiction | (conv=>whnf))) | (refine And.intro ?_ ?_;rotate_left 1;(conv=>whnf))))
   all_goals (first|rfl|trivial | (simp_all [eqv,eqv1,eqv2,eqvL1,eqvL2]))
 . trivial
def k_Meet:List SV→List Blk→Res:=fun args _=>match args with
 |[.agg [.u64 av,.u64 am],.agg [.u64 bv,.u64 bm]]=>.ok (.tup [tsv (T.meet ⟨av,am⟩ ⟨bv,bm⟩).1,.bool (T.meet ⟨av,am⟩ ⟨bv,bm⟩).2]) []
 |_=>.fail
theorem k_Meet_ok:CtrOk Tryz.prog Gw 98 k_Meet:=by
 refine⟨fun _ _=>by kernel_rfl,fun args M => ?_⟩
 unfold k_Meet
 split
 . rename_i av am bv bm
   refine ctr_flat (Γ:=⟨[(65,k_Right)],eqs,[],[],[],mixs,meqs,[]⟩) (sv:=.tup [tsv (T.meet ⟨av,am⟩ ⟨bv,bm⟩).1,.bool (T.meet ⟨av,am⟩ ⟨bv,bm⟩).2]) st_Gw ⟨(okCons k_Right_ok okNil),eqs_ok,okNilB,okNilI,okNilP,mixs_ok,meqs_ok,okNilY⟩ Tryz.func98 rfl mixed [] (by kernel_rfl) 10000 (by rfl) ?_
   (conv=>whnf)
   (repeat' (first | (refine And.intro (fun hb => ?_) (fun hb => ?_)<;>(first|contradiction | (conv=>whnf))) | (refine And.intro ?_ ?_;rotate_left 1;(conv=>whnf))))
   all_goals (first|rfl|trivial | (simp_all [eqv,eqv1,eqv2,eqvL1,eqvL2,T.meet]))
 . trivial
def k_Range:List SV→List Blk→Res:=fun args _=>match args with
 |[.u64 lo,.u64 hi]=>.ok (tsv (T.range lo hi)) []
 |_=>.fail
theorem k_Range_ok:CtrOk Tryz.prog Gw 99 k_Range:=by
 refine⟨fun _ _=>by kernel_rfl,fun args M => ?_⟩
 unfold k_Range
 split
 . rename_i lo hi
   refine ctr_flat (Γ:=⟨[(105,k_lz),(62,k_Unknown)],eqs,[],[],[],mixs,meqs,[]⟩) (sv:=tsv (T.range lo hi)) st_Gw ⟨(okCons k_lz_ok (okCons k_Unknown_ok okNil)),eqs_ok,okNilB,okNilI,okNilP,mixs_ok,meqs_ok,okNilY⟩ Tryz.func99 rfl mixed [] (by kernel_rfl) 10000 (by rfl) ?_
   (conv=>whnf)
   (repeat' (first | (refine And.intro (fun hb => ?_) (fun hb => ?_)<;>(first|contradiction | (conv=>whnf))) | (refine And.intro ?_ ?_;rotate_left 1;(conv=>whnf))))
   all_goals (first|trivial | (simp only[lz_nonneg,decide_true];done) | (simp only[decide_eq_true_eq,decide_eq_false_iff_not,beq_iff_eq,beq_eq_false_iff_ne,ne_eq] at *;simp only[eqv1,T.range,lz_toNat];first | (rw[if_pos (by assumption)];done) | (rw[if_pos (by assumption)];rfl) | (rw[if_neg (by assumption),if_pos (by assumption)];rfl) | (rw[if_neg (by assumption),if_neg (by assumption)];rfl)))
 . trivial
end Go.Proofs.YtfjemlegodhfnaaGreat
namespace Go.Proofs.YtfjemlegodhfnaaGreat
open Go.RowKit Go.Sx
set_option maxRecDepth 100000
set_option maxHeartbeats 4000000
namespace T
def opI (op:Int)(a b:Tn):Tn×Bool:=if op==0 then (T.sum a b,true) else if op==16 then (T.difference a b,true) else if op==80 then (T.and a b,true) else if op==64 then (T.or a b,true) else if op==160 then (T.xor a b,true) else if op==32 then (T.product a b,true) else (⟨0,0⟩,false)
def doesI (op:Int)(a b:Tn):Tn×Bool:=if right a&&right b then opI op a b else (⟨0,0⟩,false)
end T
end Go.Proofs.YtfjemlegodhfnaaGreat
namespace Go.Proofs.YtfjemlegodhfnaaGreat
open Go.RowKit Go.Sx
set_option maxRecDepth 100000
set_option maxHeartbeats 4000000
end Go.Proofs.YtfjemlegodhfnaaGreat
namespace Go.Proofs.YtfjemlegodhfnaaGreat
open Go.RowKit Go.Sx
set_option maxRecDepth 100000
set_option maxHeartbeats 4000000
end Go.Proofs.YtfjemlegodhfnaaGreat
namespace Go.Proofs.YtfjemlegodhfnaaGreat
open Go.RowKit Go.Sx
set_option maxRecDepth 100000
set_option maxHeartbeats 4000000
namespace T
def rt (v m:BitVec 64):Tn:=⟨v &&& ~~~m,m⟩
theorem right_rt (v m:BitVec 64):right (rt v m)=true:=by unfold right rt;simp[BitVec.and_assoc]
end T
end Go.Proofs.YtfjemlegodhfnaaGreat
namespace Go.Proofs.YtfjemlegodhfnaaGreat
open Go.RowKit Go.Sx
set_option maxRecDepth 100000
set_option maxHeartbeats 4000000
namespace T
def sh (op:Int)(x:BitVec 64)(n:Nat):BitVec 64:=if op==96 then x <<< n else if op==112 then x >>> n else x.sshiftRight (min n 64)
def shift (op:Int)(a:Tn)(n:Int):Tn×Bool:=if (op==96||op==112||op==192)&&right a && !decide (n<0) && !decide (63<n) then (⟨sh op a.v n.toNat,sh op a.m n.toNat⟩,true) else (⟨0,0⟩,false)
end T
theorem sshr (x:BitVec 64)(n:Nat):BitVec.ofInt 64 ((sv x).fdiv (2^min n IntKind.i64.bits))=x.sshiftRight (min n 64):=by
 unfold BitVec.sshiftRight
 rw[show IntKind.i64.bits=64 from rfl,Int.fdiv_eq_ediv_of_nonneg _ (Int.le_of_lt (Int.pow_pos (by decide))),Int.shiftRight_eq_div_pow]
 simp[sv]
def k_low1:List SV→List Blk→Res:=fun args M=>match args with
 |[.u64 x,.ptr b 0]=>match nth M b with
  |some (.cells ty [.u64 n])=>.ok (.u64 (x &&& n)) []
  |_=>.fail
 |_=>.fail
theorem k_low1_ok:CtrOk Tryz.prog Gw 92 k_low1:=by
 refine⟨fun _ _=>by kernel_rfl,fun args M => ?_⟩
 unfold k_low1
 split
 . split
   . rename_i x b _ ty n hm0
     simp only[nth_eq] at hm0
     refine ctr_sel (Γ:=⟨[],eqs,[],[],[],mixs,meqs,[]⟩) (sv:=.u64 (x &&& n)) st_Gw ⟨okNil,eqs_ok,okNilB,okNilI,okNilP,mixs_ok,meqs_ok,okNilY⟩ Tryz.func92 rfl mixed [] (by kernel_rfl) 10000 [b] [.u64 x,.ptr 0 0] [.rc ty [.u64 n]] (fun ρ=>rfl) rfl ⟨⟨_,hm0,⟨_,.inl rfl,fun _=>rfl⟩⟩,trivial⟩ ?_
     (conv=>whnf)
     (repeat' (first | (refine And.intro (fun hb => ?_) (fun hb => ?_)<;>(first|contradiction | (conv=>whnf))) | (refine And.intro ?_ ?_;rotate_left 1;(conv=>whnf))))
     all_goals (first|rfl|trivial | (simp_all [eqv,eqv1,eqv2,eqvL1,eqvL2]))
   . trivial
 . trivial
end Go.Proofs.YtfjemlegodhfnaaGreat
namespace Go.Proofs.YtfjemlegodhfnaaGreat
open Go.RowKit Go.Sx
set_option maxRecDepth 100000
set_option maxHeartbeats 4000000
namespace T
def low (a:Tn)(n:Int):Tn×Bool:=if right a then (if n==1 then (⟨a.v &&& 255#64,a.m &&& 255#64⟩,true) else if n==2 then (⟨a.v &&& 65535#64,a.m &&& 65535#64⟩,true) else if n==4 then (⟨a.v &&& 4294967295#64,a.m &&& 4294967295#64⟩,true) else if n==8 then (⟨a.v &&& 18446744073709551615#64,a.m &&& 18446744073709551615#64⟩,true) else (⟨0,0⟩,false)) else (⟨0,0⟩,false)
end T
def k_Low:List SV→List Blk→Res:=fun args _=>match args with
 |[.agg [.u64 av,.u64 am],.int .i64 n]=>.ok (.tup [tsv (T.low ⟨av,am⟩ n).1,.bool (T.low ⟨av,am⟩ n).2]) []
 |_=>.fail
theorem k_Low_ok:CtrOk Tryz.prog Gw 85 k_Low:=by
 refine⟨fun _ _=>by kernel_rfl,fun args M => ?_⟩
 unfold k_Low
 split
 . rename_i av am n
   refine ctr_flat (Γ:=⟨[(65,k_Right),(92,k_low1)],eqs,[],[(91,Tryz.f91,[(4,5,[0,0,0,6,14,31,63]),(5,6,[0,1,3,0,8,24,63,127])]),(104,Tryz.f104,[]),(106,Tryz.f106,[])],[],mixs,meqs,[]⟩) (sv:=.tup [tsv (T.low ⟨av,am⟩ n).1,.bool (T.low ⟨av,am⟩ n).2]) st_Gw ⟨(okCons k_Right_ok (okCons k_low1_ok okNil)),eqs_ok,okNilB,(okConsI Tryz.func91 rfl (by kernel_rfl) (fun _ _=>by kernel_rfl) (okConsI Tryz.func104 rfl (by kernel_rfl) (fun _ _=>by kernel_rfl) (okConsI Tryz.func106 rfl (by kernel_rfl) (fun _ _=>by kernel_rfl) okNilI))),okNilP,mixs_ok,meqs_ok,okNilY⟩ Tryz.func85 rfl mixed [] (by kernel_rfl) 10000 (by rfl) ?_
   (conv=>whnf)
   (repeat' (first | (refine And.intro (fun hb => ?_) (fun hb => ?_)<;>(first|contradiction | (conv=>whnf))) | (refine And.intro ?_ ?_;rotate_left 1;(conv=>whnf))))
   all_goals (first|rfl|trivial | (simp_all [eqv,eqv1,eqv2,T.low];done) | (simp_all [eqv,eqv1,eqv2,T.low];rfl))
 . trivial
namespace W
def divU (a b:BitVec 64):BitVec 64:=if b==0#64 then 0 else a / b
def modU (a b:BitVec 64):BitVec 64:=if b==0#64 then a else a % b
def divS (a b:Int):Int:=if b==0 then 0 else IntKind.i64.wrap (a.tdiv b)
def modS (a b:Int):Int:=if b==0 then a else a.tmod b
def alu (op off:Int)(a b:BitVec 64):BitVec 64×Bool:=
 if op==0&&(off==0&&true) then (a+b,true) else if op==16&&(off==0&&true) then (a-b,true) else if op==32&&(off==0&&true) then (a*b,true) else if op==48&&(off==0&&true) then (divU a b,true) else if op==48&&(off==1&&true) then (BitVec.ofInt 64 (divS (sv a) (sv b)),true) else if op==144&&(off==0&&true) then (modU a b,true) else if op==144&&(off==1&&true) then (BitVec.ofInt 64 (modS (sv a) (sv b)),true) else if op==64&&(off==0&&true) then (a ||| b,true) else if op==80&&(off==0&&true) then (a &&& b,true) else if op==160&&(off==0&&true) then (a ^^^ b,true) else if op==96&&(off==0&&true) then (a <<< (b % 64#64).toNat,true) else if op==112&&(off==0&&true) then (a >>> (b % 64#64).toNat,true) else if op==192&&(off==0&&true) then (a.sshiftRight (min (b % 64#64).toNat 64),true) else if op==128&&(off==0&&true) then (-a,true) else if op==176&&(off==0&&true) then (b,true) else if op==176&&(off==8&&true) then (BitVec.ofInt 64 (IntKind.i8.wrap (uv b)),true) else if op==176&&(off==16&&true) then (BitVec.ofInt 64 (IntKind.i16.wrap (uv b)),true) else (0,false)
def ext (a:BitVec 64)(n:Int):BitVec 64×Bool:=if n==1 then (BitVec.ofInt 64 (IntKind.u8.wrap (uv a)),true) else if n==2 then (BitVec.ofInt 64 (IntKind.u16.wrap (uv a)),true) else if n==4 then (BitVec.ofInt 64 (IntKind.u32.wrap (uv a)),true) else if n==8 then (a,true) else (0,false)
def aluW (op off:Int)(a b:BitVec 64):BitVec 64×Bool:=if op==176&&off==32 then (BitVec.ofInt 64 (IntKind.i32.wrap (uv b)),true) else alu op off a b
end W
def k_Extend:List SV→List Blk→Res:=fun args _=>match args with
 |[.u64 a,.int .i64 n,.ff]=>.ok (.tup [.u64 (W.ext a n).1,.bool (W.ext a n).2]) []
 |_=>.fail
theorem k_Extend_ok:CtrOk Tryz.prog Gw 60 k_Extend:=by
 refine⟨fun _ _=>by kernel_rfl,fun args M => ?_⟩
 unfold k_Extend
 split
 . rename_i a n
   refine ctr_flat (Γ:=⟨[],eqs,[],[],[],mixs,meqs,[]⟩) (sv:=.tup [.u64 (W.ext a n).1,.bool (W.ext a n).2]) st_Gw ⟨okNil,eqs_ok,okNilB,okNilI,okNilP,mixs_ok,meqs_ok,okNilY⟩ Tryz.func60 rfl mixed [] (by kernel_rfl) 10000 (by rfl) ?_
   (conv=>whnf)
   (repeat' (first | (refine And.intro (fun hb => ?_) (fun hb => ?_)<;>(first|contradiction | (conv=>whnf))) | (refine And.intro ?_ ?_;rotate_left 1;(conv=>whnf))))
   all_goals (first|rfl|trivial | (simp_all [eqv,eqv1,eqv2,W.ext];done))
 . trivial
end Go.Proofs.YtfjemlegodhfnaaGreat
namespace Go.Proofs.YtfjemlegodhfnaaGreat
open Go.RowKit Go.Sx
set_option maxRecDepth 100000
set_option maxHeartbeats 4000000
namespace T
def of (x y:BitVec 64):Tn×Bool:=if x ||| y != BitVec.allOnes 64 then (⟨0,0⟩,false) else (⟨x &&& ~~~y,x &&& y⟩,true)
end T
theorem of_ones {t:Tn}(h:T.right t=true):T.of (t.v ||| t.m) (~~~t.v)=(t,true):=by
 have h':t.v &&& t.m=0#64:=by simpa [T.right] using h
 unfold T.of
 have e1:(t.v ||| t.m) ||| ~~~t.v=BitVec.allOnes 64:=by
  apply BitVec.eq_of_getLsbD_eq;intro i hi
  simp only[BitVec.getLsbD_or,BitVec.getLsbD_not,BitVec.getLsbD_allOnes,hi,decide_true,Bool.true_and]
  cases t.v.getLsbD i<;>simp
 have bit:∀ i,(t.v.getLsbD i&&t.m.getLsbD i)=false:=fun i=>by
  have:=congrArg (fun x=>BitVec.getLsbD x i) h'
  simpa using this
 have e2:(t.v ||| t.m) &&& ~~~(~~~t.v)=t.v:=by
  apply BitVec.eq_of_getLsbD_eq;intro i hi
  simp only[BitVec.getLsbD_and,BitVec.getLsbD_or,BitVec.getLsbD_not,hi,decide_true,Bool.true_and]
  cases t.v.getLsbD i<;>simp
 have e3:(t.v ||| t.m) &&& ~~~t.v=t.m:=by
  apply BitVec.eq_of_getLsbD_eq;intro i hi
  have:=bit i
  simp only[BitVec.getLsbD_and,BitVec.getLsbD_or,BitVec.getLsbD_not,hi,decide_true,Bool.true_and]
  revert this;cases t.v.getLsbD i<;>cases t.m.getLsbD i<;>simp
 rw[e1,e2,e3];simp
end Go.Proofs.YtfjemlegodhfnaaGreat
namespace Go.Proofs.YtfjemlegodhfnaaGreat
open Go.RowKit Go.Sx
set_option maxRecDepth 100000
set_option maxHeartbeats 4000000
namespace T
theorem bit_is (n:BitVec 64)(i:Nat):(((n >>> i) &&& 1#64)==1#64)=n.getLsbD i:=by
 cases h:n.getLsbD i
 . rw[beq_eq_false_iff_ne];intro e
   have:=congrArg (fun x=>BitVec.getLsbD x 0) e
   simp[h] at this
 . rw[beq_iff_eq]
   apply BitVec.eq_of_getLsbD_eq
   intro k hk
   by_cases h0:k=0
   . subst h0;simp[h]
   . simp[BitVec.getLsbD_one,h0]
theorem ofInt_small {i:Int}(h0:0≤i)(h:i<64):(BitVec.ofInt 64 i).toNat=i.toNat:=by
 rw[BitVec.toNat_ofInt];omega
end T
end Go.Proofs.YtfjemlegodhfnaaGreat
namespace Go.Proofs.YtfjemlegodhfnaaGreat
open Go.RowKit Go.Sx
set_option maxRecDepth 100000
set_option maxHeartbeats 4000000
end Go.Proofs.YtfjemlegodhfnaaGreat
