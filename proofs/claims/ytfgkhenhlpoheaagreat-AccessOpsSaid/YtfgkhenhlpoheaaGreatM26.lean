import Derived.Test.YtfgkhenhlpoheaaGreatM25
import Derived.Test.YtfgkhenhlpoheaaGreatM10
import Derived.Test.YtfgkhenhlpoheaaGreatM21
set_option linter.all false
namespace Go.Proofs.YtfgkhenhlpoheaaGreat
open Go.RowKit Go.Sx
set_option maxRecDepth 100000
set_option maxHeartbeats 4000000
structure Fd where
 o:Int
 z:Int
 k:Int
 w:Bool
def eF:Enc Fd:=⟨fun t=>[.int .i64 t.o,.int .i64 t.z,.int .u8 t.k,.bool t.w],fun l=>match l with | [.int .i64 o,.int .i64 z,.int .u8 k,.bool w]=>⟨o,z,k,w⟩|_=>⟨0,0,0,false⟩,fun l=>match l with | [.int .i64 _,.int .i64 _,.int .u8 _,.bool _]=>true|_=>false,⟨0,0,0,false⟩,
 fun l h=>by revert h;split<;>simp_all,fun _=>rfl,fun _=>rfl⟩
structure Nd where
 a:Int
 b:Int
 c:Int
def eN:Enc Nd:=⟨fun t=>[.int .i64 t.a,.int .i64 t.b,.int .i64 t.c],fun l=>match l with | [.int .i64 a,.int .i64 b,.int .i64 c]=>⟨a,b,c⟩|_=>⟨0,0,0⟩,fun l=>match l with | [.int .i64 _,.int .i64 _,.int .i64 _]=>true|_=>false,⟨0,0,0⟩,
 fun l h=>by revert h;split<;>simp_all,fun _=>rfl,fun _=>rfl⟩
structure Mp where
 k:Int
 key:Int
 val:Int
 max:Int
def eM:Enc Mp:=⟨fun t=>[.int .u8 t.k,.int .i64 t.key,.int .i64 t.val,.int .i64 t.max],fun l=>match l with | [.int .u8 k,.int .i64 key,.int .i64 val,.int .i64 max]=>⟨k,key,val,max⟩|_=>⟨0,0,0,0⟩,fun l=>match l with | [.int .u8 _,.int .i64 _,.int .i64 _,.int .i64 _]=>true|_=>false,⟨0,0,0,0⟩,
 fun l h=>by revert h;split<;>simp_all,fun _=>rfl,fun _=>rfl⟩
namespace A
def size (op:Int):Int:=if Go.bits .and .u8 op 24==0 then 4 else if Go.bits .and .u8 op 24==8 then 2 else if Go.bits .and .u8 op 24==16 then 1 else if Go.bits .and .u8 op 24==24 then 8 else 0
def sgn (op:Int):Bool:=Go.bits .and .u8 op 224==128
def numb (op:Int):Ab:=V.number (C.low C.unknown (size op) (sgn op)).1
end A
namespace V
theorem right_4 {a:Ab}(h:right a=true)(hk:a.k=4):placed a=true∧added a=true∧named a=true∧roomy a=true∧a.mp=0∧a.nu=false:=by
 simp only[right,hk] at h
 simpa using h
end V
namespace A
open V
end A
end Go.Proofs.YtfgkhenhlpoheaaGreat
namespace Go.Proofs.YtfgkhenhlpoheaaGreat
open Go.RowKit Go.Sx
set_option maxRecDepth 100000
set_option maxHeartbeats 4000000
def k_iSize:List SV→List Blk→Res:=fun args _=>match args with
 |[.agg [.int .u8 op,.int .u8 dst,.int .u8 src,.int .i16 off,.int .i32 imm]]=>.ok (.int .i64 (A.size op)) []
 |_=>.fail
theorem k_iSize_ok:CtrOk Tryz.prog Gw 68 k_iSize:=by
 refine⟨fun _ _=>by kernel_rfl,fun args M => ?_⟩
 unfold k_iSize
 split
 . rename_i op dst src off imm
   refine ctr_flat (Γ:=⟨[],eqs,[],[],[],mixs,meqs,[]⟩) (sv:=.int .i64 (A.size op)) st_Gw ⟨okNil,eqs_ok,okNilB,okNilI,okNilP,mixs_ok,meqs_ok,okNilY⟩ Tryz.func68 rfl mixed [] (by kernel_rfl) 10000 (by rfl) ?_
   (conv=>whnf)
   (repeat' (first | (refine step_t (by first|rfl|assumption) ?_;(conv=>whnf)) | (refine step_f (by first|rfl|assumption) ?_;(conv=>whnf)) | (refine step_nt (by assumption) ?_;(conv=>whnf)) | (refine step_nf (by assumption) ?_;(conv=>whnf)) | (refine step_n (fun hb => ?_) (fun hb => ?_)<;>(first|contradiction | (conv=>whnf))) | (refine And.intro (fun hb => ?_) (fun hb => ?_)<;>(first|contradiction | (conv=>whnf))) | (refine And.intro (a:=(_:Bool)=true) ?_ ?_;rotate_left 1;(conv=>whnf))))
   all_goals (first|rfl|trivial | (simp_all [eqv,eqv1,A.size];done))
 . trivial
def k_iSgn:List SV→List Blk→Res:=fun args _=>match args with
 |[.agg [.int .u8 op,.int .u8 dst,.int .u8 src,.int .i16 off,.int .i32 imm]]=>.ok (.bool (A.sgn op)) []
 |_=>.fail
theorem k_iSgn_ok:CtrOk Tryz.prog Gw 69 k_iSgn:=by
 refine⟨fun _ _=>by kernel_rfl,fun args M => ?_⟩
 unfold k_iSgn
 split
 . rename_i op dst src off imm
   refine ctr_flat (Γ:=⟨[],eqs,[],[],[],mixs,meqs,[]⟩) (sv:=.bool (A.sgn op)) st_Gw ⟨okNil,eqs_ok,okNilB,okNilI,okNilP,mixs_ok,meqs_ok,okNilY⟩ Tryz.func69 rfl mixed [] (by kernel_rfl) 10000 (by rfl) ?_
   (conv=>whnf)
   (repeat' (first | (refine step_t (by first|rfl|assumption) ?_;(conv=>whnf)) | (refine step_f (by first|rfl|assumption) ?_;(conv=>whnf)) | (refine step_nt (by assumption) ?_;(conv=>whnf)) | (refine step_nf (by assumption) ?_;(conv=>whnf)) | (refine step_n (fun hb => ?_) (fun hb => ?_)<;>(first|contradiction | (conv=>whnf))) | (refine And.intro (fun hb => ?_) (fun hb => ?_)<;>(first|contradiction | (conv=>whnf))) | (refine And.intro (a:=(_:Bool)=true) ?_ ?_;rotate_left 1;(conv=>whnf))))
   all_goals (first|rfl|trivial | (simp_all [eqv,eqv1,A.sgn];done))
 . trivial
def k_iSome:List SV→List Blk→Res:=fun args _=>match args with
 |[.agg [.int .u8 op,.int .u8 dst,.int .u8 src,.int .i16 off,.int .i32 imm]]=>.ok (abv (A.numb op)) []
 |_=>.fail
theorem k_iSome_ok:CtrOk Tryz.prog Gw 71 k_iSome:=by
 refine⟨fun _ _=>by kernel_rfl,fun args M => ?_⟩
 unfold k_iSome
 split
 . rename_i op dst src off imm
   refine ctr_flat (Γ:=⟨[(68,k_iSize),(69,k_iSgn),(120,k_cLow),(121,k_cUnknown),(37,k_vNumber)],eqs,[],[],[],mixs,meqs,[]⟩) (sv:=abv (A.numb op)) st_Gw ⟨(okCons k_iSize_ok (okCons k_iSgn_ok (okCons k_cLow_ok (okCons k_cUnknown_ok (okCons k_vNumber_ok okNil))))),eqs_ok,okNilB,okNilI,okNilP,mixs_ok,meqs_ok,okNilY⟩ Tryz.func71 rfl mixed [(1,10,[0,0,3,0,15,31,63,127,127,0,767,2047])] (by kernel_rfl) 10000 (by rfl) ?_
   (conv=>whnf)
   (repeat' (first | (refine step_t (by first|rfl|assumption) ?_;(conv=>whnf)) | (refine step_f (by first|rfl|assumption) ?_;(conv=>whnf)) | (refine step_nt (by assumption) ?_;(conv=>whnf)) | (refine step_nf (by assumption) ?_;(conv=>whnf)) | (refine step_n (fun hb => ?_) (fun hb => ?_)<;>(first|contradiction | (conv=>whnf))) | (refine And.intro (fun hb => ?_) (fun hb => ?_)<;>(first|contradiction | (conv=>whnf))) | (refine And.intro (a:=(_:Bool)=true) ?_ ?_;rotate_left 1;(conv=>whnf))))
   all_goals (first|rfl|trivial|exact C.low_in rfl _ _|exact ab_eqv rfl)
 . trivial
end Go.Proofs.YtfgkhenhlpoheaaGreat
namespace Go.Proofs.YtfgkhenhlpoheaaGreat
open Go.RowKit Go.Sx
set_option maxRecDepth 100000
set_option maxHeartbeats 4000000
theorem avcons {a b:AV}{l m:List AV}(h:AVEq a b)(k:AVEqL l m):AVEqL (a::l) (b::m):=⟨h,k⟩
theorem fvl_cons {a b:FV}{l m:List FV}(h:FVEq a b)(k:FVEqL l m):FVEqL (a::l) (b::m):=⟨by simp[k.1],fun j x y hx hy=>by
 cases j with
 |zero=>
  simp only[List.getElem?_cons_zero,Option.some.injEq] at hx hy
  subst hx hy;exact h
 |succ j=>exact k.2 j x y (by simpa using hx) (by simpa using hy)⟩
theorem i64_all {n:Int}(h0 : -9223372036854775808≤n)(h1:n<9223372036854775808):IntKind.i64.wrap n=n:=IntWalk.i64_in _ (by omega)
namespace K
def upto (p:Nat→Bool)(j:Nat):Bool:=(List.range j).all p
theorem upto_0 {p:Nat→Bool}:upto p 0=true:=rfl
theorem upto_next {p:Nat→Bool}{j:Nat}(h:upto p j=true)(k:p j=true):upto p (j+1)=true:=by
 unfold upto at *
 rw[List.range_succ,List.all_append,h]
 simpa using k
theorem upto_at {p:Nat→Bool}{n:Nat}(h:upto p n=true){j:Nat}(hj:j<n):p j=true:=List.all_eq_true.1 h j (List.mem_range.2 hj)
end K
structure Ty where
 nm:ByteArray
 cx:Int
 fs:List Fd
 ns:List Nd
 lo:Int
 hi:Int
def Ty.no:Ty:=⟨⟨#[]⟩,0,[],[],0,0⟩
def cF:Cel Fd:=eF.toCel fun _=>rfl
def cN:Cel Nd:=eN.toCel fun _=>rfl
def cM:Cel Mp:=eM.toCel fun _=>rfl
theorem inv_cons2 {x y:FV}{l m:List FV}(h:FVEqL (x::l) (y::m)):FVEq x y∧FVEqL l m:=by
 obtain⟨x',l',e,h1,h2⟩:=h.inv_cons
 injection e with e1 e2
 subst e1 e2
 exact⟨h1,h2⟩
theorem int_eq {x:FV}{k:IntKind}{a b:Int}(h1:FVEq x (.int k a))(h2:FVEq x (.int k b)):a=b:=by
 have:=h1.inv_int.symm.trans h2.inv_int
 injection this
@[reducible] def celY (t:Ty):List FV:=[.val (.string t.nm),.int .i64 t.cx,.row 4 t.fs.length (gOf eF t.fs),.row 3 t.ns.length (gOf eN t.ns),.int .i64 t.lo,.int .i64 t.hi]
theorem str_eq {x:FV}{a b:ByteArray}(h1:FVEq x (.val (.string a)))(h2:FVEq x (.val (.string b))):a=b:=by
 have:=(h1.inv_flat rfl).symm.trans (h2.inv_flat rfl)
 injection this with this
 injection this
theorem celY_uniq {l:List FV}{a b:Ty}(h1:FVEqL l (celY a))(h2:FVEqL l (celY b)):a=b:=by
 obtain⟨x0,l0,rfl,p0,h1⟩:=h1.inv_cons
 obtain⟨x1,l1,rfl,p1,h1⟩:=h1.inv_cons
 obtain⟨x2,l2,rfl,p2,h1⟩:=h1.inv_cons
 obtain⟨x3,l3,rfl,p3,h1⟩:=h1.inv_cons
 obtain⟨x4,l4,rfl,p4,h1⟩:=h1.inv_cons
 obtain⟨x5,l5,rfl,p5,h1⟩:=h1.inv_cons
 obtain⟨q0,h2⟩:=inv_cons2 h2
 obtain⟨q1,h2⟩:=inv_cons2 h2
 obtain⟨q2,h2⟩:=inv_cons2 h2
 obtain⟨q3,h2⟩:=inv_cons2 h2
 obtain⟨q4,h2⟩:=inv_cons2 h2
 obtain⟨q5,h2⟩:=inv_cons2 h2
 have e0:=str_eq p0 q0
 have e1:=int_eq p1 q1
 have e2:=Cel.rows_uniq (c:=cF) p2 q2
 have e3:=Cel.rows_uniq (c:=cN) p3 q3
 have e4:=int_eq p4 q4
 have e5:=int_eq p5 q5
 cases a;cases b
 simp only at e0 e1 e2 e3 e4 e5
 subst e0 e1 e2 e3 e4 e5;rfl
def cY:Cel Ty:=⟨celY,Ty.no,celY_uniq⟩
def Ty.atMost (n:Nat)(t:Ty):Bool:=decide (t.nm.size≤n)&&(decide (t.fs.length≤n)&&decide (t.ns.length≤n))
theorem Ty.atMost_nm {n:Nat}{t:Ty}(h:t.atMost n=true):t.nm.size≤n:=by
 simp only[Ty.atMost,Bool.and_eq_true,decide_eq_true_eq] at h;exact h.1
theorem Ty.atMost_fs {n:Nat}{t:Ty}(h:t.atMost n=true):t.fs.length≤n:=by
 simp only[Ty.atMost,Bool.and_eq_true,decide_eq_true_eq] at h;exact h.2.1
theorem Ty.atMost_ns {n:Nat}{t:Ty}(h:t.atMost n=true):t.ns.length≤n:=by
 simp only[Ty.atMost,Bool.and_eq_true,decide_eq_true_eq] at h;exact h.2.2
theorem isY_at (t:Ty):cY.is [.val (.string t.nm),.int .i64 t.cx,.row 4 t.fs.length (shiftG 0 (gOf eF t.fs)),.row 3 t.ns.length (shiftG 0 (gOf eN t.ns)),.int .i64 t.lo,.int .i64 t.hi]=true:=Cel.is_of (a:=t) (FVEqL.refl _)
theorem decY_at (t:Ty):cY.dec [.val (.string t.nm),.int .i64 t.cx,.row 4 t.fs.length (shiftG 0 (gOf eF t.fs)),.row 3 t.ns.length (shiftG 0 (gOf eN t.ns)),.int .i64 t.lo,.int .i64 t.hi]=t:=Cel.dec_of (c:=cY) (a:=t) (FVEqL.refl _)
namespace K
def field (L:List Fd)(o z:Int):Option Fd:=L.find? fun f=>f.o==o&&f.z==z
theorem field_is {L:List Fd}{o z:Int}{j:Nat}(hj:j<L.length)(he:upto (fun i => !((L.getD i eF.dft).o==o&&(L.getD i eF.dft).z==z)) j=true)(h1:((L.getD j eF.dft).o==o)=true)(h2:((L.getD j eF.dft).z==z)=true):field L o z=some (L.getD j eF.dft):=by
 unfold field
 rw[List.find?_eq_some_iff_getElem]
 refine⟨by rw[h1,h2];rfl,j,hj,by simp[List.getD_eq_getElem?_getD,hj],fun i hi => ?_⟩
 have:=upto_at he hi
 simpa [List.getD_eq_getElem?_getD,show i<L.length by omega] using this
theorem field_no {L:List Fd}{o z:Int}(he:upto (fun i => !((L.getD i eF.dft).o==o&&(L.getD i eF.dft).z==z)) L.length=true):field L o z=none:=by
 unfold field
 rw[List.find?_eq_none]
 intro x hx
 obtain⟨i,hi,rfl⟩:=List.getElem_of_mem hx
 have:=upto_at he hi
 have hx:L.getD i eF.dft=L[i]:=by simp[List.getD_eq_getElem?_getD,hi]
 rw[hx] at this
 intro h
 rw[h] at this
 cases this
end K
namespace A
def specv (l:List Mp)(m:Int):Int:=if decide (m<0)=false∧decide ((l.length:Int)≤m)=false then (l.getD m.toNat eM.dft).val else 0
def cval (fs:List Fd)(at_:Int)(op:Int):Ab×Int:=
 if (K.field fs at_ (size op)).isSome=false then (V.zero,32)
 else if ((K.field fs at_ (size op)).getD eF.dft).k=1 then (numb op,0)
 else if sgn op=true then (V.zero,31)
 else if ((K.field fs at_ (size op)).getD eF.dft).k=2 then (⟨4,C.const (BitVec.ofInt 64 0),0,0,0,0,false⟩,0)
 else (⟨5,V.zero.n,0,0,0,0,false⟩,0)
def lval (f:Fr)(fs:List Fd)(maps:List Mp)(a:Ab)(op off:Int):Ab×Int:=
 if a.k=2 then F.load f (IntKind.i64.wrap (a.of+off)) (size op) (sgn op)
 else if a.k=3 then cval fs (IntKind.i64.wrap (a.of+off)) op
 else if a.k=4∨a.k=7∨a.k=8 then (numb op,V.touch a off (size op) (specv maps a.mp))
 else if a.k=0 then (V.zero,30)
 else (V.zero,31)
def okL (f:Fr)(maps:List Mp)(op dst src:Int):Bool:=(Go.bits .and .u8 op 7==1&&(decide (dst<10)&&decide (src≤10)))&&(decide ((maps.length:Int)≤32)&&F.right f)
def load (f:Fr)(fs:List Fd)(maps:List Mp)(op dst src off:Int):Fr×Int:=
 if okL f maps op dst src=true then
    (if (lval f fs maps (f.R.getD src.toNat eA.dft) op off).2=0 then (⟨f.R.set dst.toNat (lval f fs maps (f.R.getD src.toNat eA.dft) op off).1,f.S,f.ids⟩,0)
    else (F.none,(lval f fs maps (f.R.getD src.toNat eA.dft) op off).2))
 else (F.none,2)
end A
namespace A
theorem load_bad {f:Fr}{fs:List Fd}{maps:List Mp}{op dst src off:Int}(h:okL f maps op dst src=false):load f fs maps op dst src off=(F.none,2):=by
 unfold load;rw[if_neg (by simp[h])]
theorem load_err {f:Fr}{fs:List Fd}{maps:List Mp}{op dst src off c:Int}(h:okL f maps op dst src=true)(e:(lval f fs maps (f.R.getD src.toNat eA.dft) op off).2=c)(hc:c≠0):load f fs maps op dst src off=(F.none,c):=by
 unfold load;rw[if_pos h,if_neg (by rw[e];exact hc),e]
theorem load_ok {f:Fr}{fs:List Fd}{maps:List Mp}{op dst src off:Int}{v:Ab}(h:okL f maps op dst src=true)(e:lval f fs maps (f.R.getD src.toNat eA.dft) op off=(v,0)):load f fs maps op dst src off=(⟨f.R.set dst.toNat v,f.S,f.ids⟩,0):=by
 unfold load;rw[if_pos h,e];rfl
theorem okL_t {f:Fr}{maps:List Mp}{op dst src:Int}(h1:(Go.bits .and .u8 op 7==1)=true)(h2:decide (dst<10)=true)(h3:decide (src≤10)=true)(h4:decide ((maps.length:Int)≤32)=true)(h5:F.right f=true):okL f maps op dst src=true:=by
 unfold okL;rw[h1,h2,h3,h4,h5];rfl
theorem okL_1 {f:Fr}{maps:List Mp}{op dst src:Int}(h1:(Go.bits .and .u8 op 7==1)=false):okL f maps op dst src=false:=by
 unfold okL;rw[h1];rfl
theorem okL_2 {f:Fr}{maps:List Mp}{op dst src:Int}(h1:decide (dst<10)=false):okL f maps op dst src=false:=by
 unfold okL;rw[h1,Bool.false_and,Bool.and_false];rfl
theorem okL_3 {f:Fr}{maps:List Mp}{op dst src:Int}(h1:decide (src≤10)=false):okL f maps op dst src=false:=by
 unfold okL;rw[h1,Bool.and_false,Bool.and_false];rfl
theorem okL_4 {f:Fr}{maps:List Mp}{op dst src:Int}(h1:decide ((maps.length:Int)≤32)=false):okL f maps op dst src=false:=by
 unfold okL;rw[h1,Bool.false_and,Bool.and_false]
theorem okL_5 {f:Fr}{maps:List Mp}{op dst src:Int}(h1:F.right f=false):okL f maps op dst src=false:=by
 unfold okL;rw[h1,Bool.and_false,Bool.and_false]
section
variable {f:Fr}{fs:List Fd}{maps:List Mp}{a:Ab}{op off:Int}
theorem lval_0 (h:(a.k==0)=true):lval f fs maps a op off=(V.zero,30):=by
 have:=eq_of_beq h
 unfold lval;rw[if_neg (by omega),if_neg (by omega),if_neg (by omega),if_pos this]
theorem lval_2 (h:(a.k==2)=true):lval f fs maps a op off=F.load f (IntKind.i64.wrap (a.of+off)) (size op) (sgn op):=by
 unfold lval;rw[if_pos (eq_of_beq h)]
theorem lval_m (h:(a.k==4)=true∨(a.k==7)=true∨(a.k==8)=true):lval f fs maps a op off=(numb op,V.touch a off (size op) (specv maps a.mp)):=by
 simp only[beq_iff_eq] at h
 unfold lval;rw[if_neg (by omega),if_neg (by omega),if_pos h]
theorem lval_no (h0:(a.k==0)=false)(h2:(a.k==2)=false)(h3:(a.k==3)=false)(h4:(a.k==4)=false)(h7:(a.k==7)=false)(h8:(a.k==8)=false):lval f fs maps a op off=(V.zero,31):=by
 simp only[beq_eq_false_iff_ne,ne_eq] at h0 h2 h3 h4 h7 h8
 unfold lval;rw[if_neg h2,if_neg h3,if_neg (by omega),if_neg h0]
theorem lval_3 (h:(a.k==3)=true):lval f fs maps a op off=cval fs (IntKind.i64.wrap (a.of+off)) op:=by
 have:=eq_of_beq h
 unfold lval;rw[if_neg (by omega),if_pos this]
theorem lval_3ok (h:(a.k==3)=true)(e:((cval fs (IntKind.i64.wrap (a.of+off)) op).2==0)=true):lval f fs maps a op off=((cval fs (IntKind.i64.wrap (a.of+off)) op).1,0):=by
 rw[lval_3 h];exact Prod.ext rfl (eq_of_beq e)
end
section
variable {fs:List Fd}{o op:Int}
theorem cval_a (h1:(K.field fs o (size op)).isSome=false):cval fs o op=(V.zero,32):=by
 unfold cval;rw[if_pos h1]
theorem cval_b (h1:(K.field fs o (size op)).isSome=true)(h2:(((K.field fs o (size op)).getD eF.dft).k==1)=true):cval fs o op=(numb op,0):=by
 unfold cval;rw[if_neg (by rw[h1];exact Bool.false_ne_true.symm),if_pos (eq_of_beq h2)]
theorem cval_c (h1:(K.field fs o (size op)).isSome=true)(h2:(((K.field fs o (size op)).getD eF.dft).k==1)=false)(h3:sgn op=true):cval fs o op=(V.zero,31):=by
 simp only[beq_eq_false_iff_ne,ne_eq] at h2
 unfold cval;rw[if_neg (by rw[h1];exact Bool.false_ne_true.symm),if_neg h2,if_pos h3]
theorem cval_d (h1:(K.field fs o (size op)).isSome=true)(h2:(((K.field fs o (size op)).getD eF.dft).k==1)=false)(h3:sgn op=false)(h4:(((K.field fs o (size op)).getD eF.dft).k==2)=true):cval fs o op=(⟨4,C.const (BitVec.ofInt 64 0),0,0,0,0,false⟩,0):=by
 simp only[beq_eq_false_iff_ne,ne_eq] at h2
 unfold cval;rw[if_neg (by rw[h1];exact Bool.false_ne_true.symm),if_neg h2,if_neg (by rw[h3];exact Bool.false_ne_true),if_pos (eq_of_beq h4)]
theorem cval_e (h1:(K.field fs o (size op)).isSome=true)(h2:(((K.field fs o (size op)).getD eF.dft).k==1)=false)(h3:sgn op=false)(h4:(((K.field fs o (size op)).getD eF.dft).k==2)=false):cval fs o op=(⟨5,V.zero.n,0,0,0,0,false⟩,0):=by
 simp only[beq_eq_false_iff_ne,ne_eq] at h2 h4
 unfold cval;rw[if_neg (by rw[h1];exact Bool.false_ne_true.symm),if_neg h2,if_neg (by rw[h3];exact Bool.false_ne_true),if_neg h4]
end
section
variable {f:Fr}{fs:List Fd}{maps:List Mp}{a:Ab}{op off:Int}
theorem specv_1 {m:Int}(h:decide (m<0)=true):specv maps m=0:=by
 unfold specv;rw[if_neg (by rw[h];simp)]
theorem specv_2 {m:Int}(h:decide ((maps.length:Int)≤m)=true):specv maps m=0:=by
 unfold specv;rw[if_neg (by rw[h];simp)]
theorem specv_3 {m:Int}(h1:decide (m<0)=false)(h2:decide ((maps.length:Int)≤m)=false):specv maps m=(maps.getD m.toNat eM.dft).val:=by
 unfold specv;rw[if_pos ⟨h1,h2⟩]
end
end A
theorem set_fr {f:Fr}(hf:f.wf){i:Nat}(hi:i<11){v:Ab}{l:List FV}(hl:l=eA.enc v):eqv2 (.mix [.arr 11 12 (gSet (gOf eA f.R) i 0 l),.arr 64 14 (gOf eS f.S),.int .i64 f.ids]) (frv ⟨f.R.set i v,f.S,f.ids⟩):=
 eqv_fr (fun j hj=>(gSet_gOf eA (L:=f.R) (i:=i) (a:=v) (by rw[hf.r];exact hi) hl (by rw[hl];rfl) j (by rw[hf.r];exact hj)).symm) (fun _ _=>rfl) rfl
theorem beq_f {x:Int}(h:(x==0)=false):x≠0:=by simpa using h
namespace A
section
variable {f:Fr}{fs:List Fd}{maps:List Mp}{a:Ab}{op off:Int}
theorem lval_2ok (h:(a.k==2)=true)(e:((F.load f (IntKind.i64.wrap (a.of+off)) (size op) (sgn op)).2==0)=true):lval f fs maps a op off=((F.load f (IntKind.i64.wrap (a.of+off)) (size op) (sgn op)).1,0):=by
 rw[lval_2 h];exact Prod.ext rfl (eq_of_beq e)
theorem lval_mk (h:(a.k==4)=true∨(a.k==7)=true∨(a.k==8)=true)(e:(V.touch a off (size op) (specv maps a.mp)==0)=true):lval f fs maps a op off=(numb op,0):=by
 rw[lval_m h];exact Prod.ext rfl (eq_of_beq e)
theorem lval_mok {s:Int}(h:(a.k==4)=true∨(a.k==7)=true∨(a.k==8)=true)(hs:specv maps a.mp=s)(e:(V.touch a off (size op) s==0)=true):lval f fs maps a op off=(numb op,0):=by
 rw[lval_m h,hs];exact Prod.ext rfl (eq_of_beq e)
theorem lval_mer {s:Int}(h:(a.k==4)=true∨(a.k==7)=true∨(a.k==8)=true)(hs:specv maps a.mp=s):(lval f fs maps a op off).2=V.touch a off (size op) s:=by
 rw[lval_m h,hs]
end
end A
namespace A
def spec (l:List Mp)(m:Int):Mp:=if decide (m<0)=false∧decide ((l.length:Int)≤m)=false then l.getD m.toNat eM.dft else ⟨0,0,0,0⟩
theorem spec_val (l:List Mp)(m:Int):(spec l m).val=specv l m:=by
 unfold spec specv;split<;>rfl
theorem spec_1 {l:List Mp}{m:Int}(h:decide (m<0)=true):spec l m=⟨0,0,0,0⟩:=by
 unfold spec;rw[if_neg (by rw[h];simp)]
theorem spec_2 {l:List Mp}{m:Int}(h:decide ((l.length:Int)≤m)=true):spec l m=⟨0,0,0,0⟩:=by
 unfold spec;rw[if_neg (by rw[h];simp)]
theorem spec_3 {l:List Mp}{m:Int}(h1:decide (m<0)=false)(h2:decide ((l.length:Int)≤m)=false):spec l m=l.getD m.toNat eM.dft:=by
 unfold spec;rw[if_pos ⟨h1,h2⟩]
end A
end Go.Proofs.YtfgkhenhlpoheaaGreat
namespace Go.Proofs.YtfgkhenhlpoheaaGreat
open Go.RowKit Go.Sx
set_option maxRecDepth 100000
set_option maxHeartbeats 4000000
theorem field_run (t:Ty)(o:Int)(z:Int)(hw:(t.atMost 140737488355328)=true):run Tryz.prog ⟨[],eqs,[],[(165,Tryz.f165,[]),(166,Tryz.f166,[])],[],mixs,meqs,[]⟩ 10000 [] 0 (bodyOf Tryz.f119) (initF Tryz.f119 [.agg [.val (.string t.nm),.int .i64 t.cx,.sl 0 4 0 t.fs.length,.sl 1 3 0 t.ns.length,.int .i64 t.lo,.int .i64 t.hi],.int .i64 o,.int .i64 z]) [.ro 4 t.fs.length (gOf eF t.fs),.ro 3 t.ns.length (gOf eN t.ns)] (retK Tryz.prog Tryz.f119 (TellsC true [.agg [.int .i64 ((K.field t.fs o z).getD eF.dft).o,.int .i64 ((K.field t.fs o z).getD eF.dft).z,.int .u8 ((K.field t.fs o z).getD eF.dft).k,.bool ((K.field t.fs o z).getD eF.dft).w],.one (.bool (K.field t.fs o z).isSome)])):=by
 simp only[Ty.atMost,Bool.and_eq_true,decide_eq_true_eq] at hw
 obtain⟨hs,hl,hn⟩:=hw
 (conv=>whnf)
 (repeat' (first | (refine step_t (by first|rfl|assumption) ?_;(conv=>whnf)) | (refine step_f (by first|rfl|assumption) ?_;(conv=>whnf)) | (refine step_nt (by assumption) ?_;(conv=>whnf)) | (refine step_nf (by assumption) ?_;(conv=>whnf)) | (refine step_n (fun hb => ?_) (fun hb => ?_)<;>(first|contradiction | (conv=>whnf))) | (refine And.intro (fun hb => ?_) (fun hb => ?_)<;>(first|contradiction | (conv=>whnf))) | (refine And.intro (a:=(_:Bool)=true) ?_ ?_;rotate_left 1;(conv=>whnf))))
 refine .inr ⟨[],[0,1,7,8],fun k vals M=>∃ j:Nat,j≤t.fs.length∧k=t.fs.length-j∧K.upto (fun i => !((t.fs.getD i eF.dft).o==o&&(t.fs.getD i eF.dft).z==z)) j=true∧vals=[.sl 0 4 0 t.fs.length,.fn (.func 166) [] [.ptr 3 0,.ptr 4 0],.int .i64 (t.fs.length:Int),.int .i64 (j:Int)]∧M=[.ro 4 t.fs.length (gOf eF t.fs),.ro 3 t.ns.length (gOf eN t.ns),.cells 53 [.val (.string t.nm),.int .i64 t.cx,.sl 0 4 0 t.fs.length,.sl 1 3 0 t.ns.length,.int .i64 t.lo,.int .i64 t.hi],.cells 3 [.int .i64 o],.cells 3 [.int .i64 z],.cells 71 [.int .i64 0,.int .i64 0,.int .u8 0,.ff]],?_⟩
 conv=>whnf
 refine And.intro ⟨t.fs.length,[.ro 4 t.fs.length (gOf eF t.fs),.ro 3 t.ns.length (gOf eN t.ns),.cells 53 [.val (.string t.nm),.int .i64 t.cx,.sl 0 4 0 t.fs.length,.sl 1 3 0 t.ns.length,.int .i64 t.lo,.int .i64 t.hi],.cells 3 [.int .i64 o],.cells 3 [.int .i64 z],.cells 71 [.int .i64 0,.int .i64 0,.int .u8 0,.ff]],(mle_cons ble_refl (mle_cons ble_refl (mle_cons ble_refl (mle_cons ble_refl (mle_cons ble_refl (mle_cons ble_refl mle_nil)))))),rfl,rfl,0,by omega,by omega,K.upto_0,rfl,rfl⟩ ?_
 rintro k vals M1 ⟨j,hj,rfl,he,rfl,rfl⟩
 (conv=>whnf)
 (repeat' (first | (refine step_t (by first|rfl|assumption) ?_;(conv=>whnf)) | (refine step_f (by first|rfl|assumption) ?_;(conv=>whnf)) | (refine step_nt (by assumption) ?_;(conv=>whnf)) | (refine step_nf (by assumption) ?_;(conv=>whnf)) | (refine step_n (fun hb => ?_) (fun hb => ?_)<;>(first|contradiction | (conv=>whnf))) | (refine And.intro (fun hb => ?_) (fun hb => ?_)<;>(first|contradiction | (conv=>whnf))) | (refine And.intro (a:=(_:Bool)=true) ?_ ?_;rotate_left 1;(conv=>whnf))))
 all_goals have hz:((j:Int)).toNat=j:=by omega
 all_goals simp only[hz,Nat.zero_add,Nat.sub_zero] at *
 all_goals try (have hlt:j<t.fs.length:=(by
  have h9:decide ((j:Int) < (t.fs.length:Int))=true:=(by assumption)
  have h8:=of_decide_eq_true h9
  omega))
 all_goals try (have hjl:j=t.fs.length:=(by
  have h9:decide ((j:Int) < (t.fs.length:Int))=false:=(by assumption)
  have h8:=of_decide_eq_false h9
  omega)
                have hx:=K.field_no (hjl▸he))
 all_goals first
 |rfl
 |exact decide_eq_true hlt
 |(rw[Bool.and_eq_true];exact⟨decide_eq_true (by omega),decide_eq_true hlt⟩)
 |exact decide_eq_true (by omega)
 |(exfalso
   have h7:decide ((j:Int)<0)=true:=(by assumption)
   have h8:=of_decide_eq_true h7
   omega)
 |(rw[K.field_is hlt he (by assumption) (by assumption)]
   exact⟨_,_,_,rfl,.inl (by trivial),rfl,rfl,avcons (FVEqL.refl _) (AVEqL.refl _)⟩)
 |(rw[hx]
   exact⟨_,_,_,rfl,.inl (by trivial),rfl,rfl,avcons (FVEqL.refl _) (AVEqL.refl _)⟩)
 |(refine⟨t.fs.length - (j+1),[.ro 4 t.fs.length (gOf eF t.fs),.ro 3 t.ns.length (gOf eN t.ns),.cells 53 [.val (.string t.nm),.int .i64 t.cx,.sl 0 4 0 t.fs.length,.sl 1 3 0 t.ns.length,.int .i64 t.lo,.int .i64 t.hi],.cells 3 [.int .i64 o],.cells 3 [.int .i64 z],.cells 71 [.int .i64 0,.int .i64 0,.int .u8 0,.ff]],[0,1,2,3,4,5],by omega,rfl,(mle_cons ble_refl (mle_cons ble_refl (mle_cons ble_refl (mle_cons ble_refl (mle_cons ble_refl (mle_cons ble_refl mle_nil)))))),rfl,rfl,j+1,by omega,rfl,K.upto_next he ?_,?_,rfl⟩
   . simp_all
   . show[SV.sl 0 4 0 t.fs.length,.fn (.func 166) [] [.ptr 3 0,.ptr 4 0],.int .i64 (t.fs.length:Int),.int .i64 (IntKind.i64.wrap ((j:Int)+1))]=_
     rw[i64_all (n:=(j:Int)+1) (by omega) (by omega)];rfl)
noncomputable def k_field:List SV→List Blk→Res:=fun args M=>match topA eltB M args with
 |some (b,[.agg v0,.one (.int .i64 v1),.one (.int .i64 v2)])=>.test b (.test (cY.is v0) (.test ((cY.dec v0).atMost 140737488355328) (.ok (outA true (namA true M.length [.agg [.int .i64 ((K.field (cY.dec v0).fs v1 v2).getD eF.dft).o,.int .i64 ((K.field (cY.dec v0).fs v1 v2).getD eF.dft).z,.int .u8 ((K.field (cY.dec v0).fs v1 v2).getD eF.dft).k,.bool ((K.field (cY.dec v0).fs v1 v2).getD eF.dft).w],.one (.bool (K.field (cY.dec v0).fs v1 v2).isSome)]).1) (namA true M.length [.agg [.int .i64 ((K.field (cY.dec v0).fs v1 v2).getD eF.dft).o,.int .i64 ((K.field (cY.dec v0).fs v1 v2).getD eF.dft).z,.int .u8 ((K.field (cY.dec v0).fs v1 v2).getD eF.dft).k,.bool ((K.field (cY.dec v0).fs v1 v2).getD eF.dft).w],.one (.bool (K.field (cY.dec v0).fs v1 v2).isSome)]).2)))
 |_=>.fail
theorem k_field_ok:CtrOk Tryz.prog Gw 119 k_field:=by
 refine⟨fun _ _=>by kernel_rfl,fun args M => ?_⟩
 unfold k_field
 split
 . rename_i b v0 v1 v2 hv
   intro hb hi hw
   exact ctr_topc (Γ:=⟨[],eqs,[],[(165,Tryz.f165,[]),(166,Tryz.f166,[])],[],mixs,meqs,[]⟩) st_Gw ⟨okNil,eqs_ok,okNilB,(okConsI Tryz.func165 rfl (by kernel_rfl) (fun _ _=>by kernel_rfl) (okConsI Tryz.func166 rfl (by kernel_rfl) (fun _ _=>by kernel_rfl) okNilI)),okNilP,mixs_ok,meqs_ok,okNilY⟩ Tryz.func119 rfl mixed [] (by kernel_rfl) 10000 [.agg (celY (cY.dec v0)),.one (.int .i64 v1),.one (.int .i64 v2)] hv hb ⟨Cel.is_dec (hi),⟨FVEq.refl _,⟨FVEq.refl _,trivial⟩⟩⟩ rfl true _ (field_run (cY.dec v0) v1 v2 hw)
 . trivial
end Go.Proofs.YtfgkhenhlpoheaaGreat
namespace Go.Proofs.YtfgkhenhlpoheaaGreat
open Go.RowKit Go.Sx
set_option maxRecDepth 100000
set_option maxHeartbeats 4000000
theorem gField_run (t:Ty)(o:Int)(z:Int)(hw:(t.atMost 140737488355328)=true):run Tryz.prog ⟨[],eqs,[],[],[],mixs,meqs,[]⟩ 10000 [] 0 (bodyOf Tryz.f32) (initF Tryz.f32 [.agg [.val (.string t.nm),.int .i64 t.cx,.sl 0 4 0 t.fs.length,.sl 1 3 0 t.ns.length,.int .i64 t.lo,.int .i64 t.hi],.int .i64 o,.int .i64 z]) [.ro 4 t.fs.length (gOf eF t.fs),.ro 3 t.ns.length (gOf eN t.ns)] (retK Tryz.prog Tryz.f32 (TellsC true [.agg [.int .i64 ((K.field t.fs o z).getD eF.dft).o,.int .i64 ((K.field t.fs o z).getD eF.dft).z,.int .u8 ((K.field t.fs o z).getD eF.dft).k,.bool ((K.field t.fs o z).getD eF.dft).w],.one (.bool (K.field t.fs o z).isSome)])):=by
 simp only[Ty.atMost,Bool.and_eq_true,decide_eq_true_eq] at hw
 obtain⟨hs,hl,hn⟩:=hw
 (conv=>whnf)
 (repeat' (first | (refine step_t (by first|rfl|assumption) ?_;(conv=>whnf)) | (refine step_f (by first|rfl|assumption) ?_;(conv=>whnf)) | (refine step_nt (by assumption) ?_;(conv=>whnf)) | (refine step_nf (by assumption) ?_;(conv=>whnf)) | (refine step_n (fun hb => ?_) (fun hb => ?_)<;>(first|contradiction | (conv=>whnf))) | (refine And.intro (fun hb => ?_) (fun hb => ?_)<;>(first|contradiction | (conv=>whnf))) | (refine And.intro (a:=(_:Bool)=true) ?_ ?_;rotate_left 1;(conv=>whnf))))
 refine .inr ⟨[],[1,2,3,6,8],fun k vals M=>∃ j:Nat,j≤t.fs.length∧k=t.fs.length-j∧K.upto (fun i => !((t.fs.getD i eF.dft).o==o&&(t.fs.getD i eF.dft).z==z)) j=true∧vals=[.int .i64 o,.int .i64 z,.ptr 2 0,.ptr 3 0,.int .i64 (j:Int)]∧M=[.ro 4 t.fs.length (gOf eF t.fs),.ro 3 t.ns.length (gOf eN t.ns),.cells 53 [.val (.string t.nm),.int .i64 t.cx,.sl 0 4 0 t.fs.length,.sl 1 3 0 t.ns.length,.int .i64 t.lo,.int .i64 t.hi],.cells 71 [.int .i64 0,.int .i64 0,.int .u8 0,.ff]],?_⟩
 conv=>whnf
 refine And.intro ⟨t.fs.length,[.ro 4 t.fs.length (gOf eF t.fs),.ro 3 t.ns.length (gOf eN t.ns),.cells 53 [.val (.string t.nm),.int .i64 t.cx,.sl 0 4 0 t.fs.length,.sl 1 3 0 t.ns.length,.int .i64 t.lo,.int .i64 t.hi],.cells 71 [.int .i64 0,.int .i64 0,.int .u8 0,.ff]],(mle_cons ble_refl (mle_cons ble_refl (mle_cons ble_refl (mle_cons ble_refl mle_nil)))),rfl,rfl,0,by omega,by omega,K.upto_0,rfl,rfl⟩ ?_
 rintro k vals M1 ⟨j,hj,rfl,he,rfl,rfl⟩
 (conv=>whnf)
 (repeat' (first | (refine step_t (by first|rfl|assumption) ?_;(conv=>whnf)) | (refine step_f (by first|rfl|assumption) ?_;(conv=>whnf)) | (refine step_nt (by assumption) ?_;(conv=>whnf)) | (refine step_nf (by assumption) ?_;(conv=>whnf)) | (refine step_n (fun hb => ?_) (fun hb => ?_)<;>(first|contradiction | (conv=>whnf))) | (refine And.intro (fun hb => ?_) (fun hb => ?_)<;>(first|contradiction | (conv=>whnf))) | (refine And.intro (a:=(_:Bool)=true) ?_ ?_;rotate_left 1;(conv=>whnf))))
 all_goals have hz:((j:Int)).toNat=j:=by omega
 all_goals simp only[hz,Nat.zero_add,Nat.sub_zero] at *
 all_goals try (have hlt:j<t.fs.length:=(by
  have h9:decide ((j:Int) < (t.fs.length:Int))=true:=(by assumption)
  have h8:=of_decide_eq_true h9
  omega))
 all_goals try (have hjl:j=t.fs.length:=(by
  have h9:decide ((j:Int) < (t.fs.length:Int))=false:=(by assumption)
  have h8:=of_decide_eq_false h9
  omega)
                have hx:=K.field_no (hjl▸he))
 all_goals first
 |rfl
 |exact decide_eq_true hlt
 |(rw[Bool.and_eq_true];exact⟨decide_eq_true (by omega),decide_eq_true hlt⟩)
 |exact decide_eq_true (by omega)
 |(exfalso
   have h7:decide ((j:Int)<0)=true:=(by assumption)
   have h8:=of_decide_eq_true h7
   omega)
 |(rw[K.field_is hlt he (by assumption) (by assumption)]
   exact⟨_,_,_,rfl,.inl (by trivial),rfl,rfl,avcons (FVEqL.refl _) (AVEqL.refl _)⟩)
 |(rw[hx]
   exact⟨_,_,_,rfl,.inl (by trivial),rfl,rfl,avcons (FVEqL.refl _) (AVEqL.refl _)⟩)
 |(refine⟨t.fs.length - (j+1),[.ro 4 t.fs.length (gOf eF t.fs),.ro 3 t.ns.length (gOf eN t.ns),.cells 53 [.val (.string t.nm),.int .i64 t.cx,.sl 0 4 0 t.fs.length,.sl 1 3 0 t.ns.length,.int .i64 t.lo,.int .i64 t.hi],.cells 71 [.int .i64 0,.int .i64 0,.int .u8 0,.ff]],[0,1,2,3],by omega,rfl,(mle_cons ble_refl (mle_cons ble_refl (mle_cons ble_refl (mle_cons ble_refl mle_nil)))),rfl,rfl,j+1,by omega,rfl,K.upto_next he ?_,?_,rfl⟩
   . simp_all
   . show[SV.int .i64 o,.int .i64 z,.ptr 2 0,.ptr 3 0,.int .i64 (IntKind.i64.wrap ((j:Int)+1))]=_
     rw[i64_all (n:=(j:Int)+1) (by omega) (by omega)];rfl)
noncomputable def k_gField:List SV→List Blk→Res:=fun args M=>match topA eltB M args with
 |some (b,[.agg v0,.one (.int .i64 v1),.one (.int .i64 v2)])=>.test b (.test (cY.is v0) (.test ((cY.dec v0).atMost 140737488355328) (.ok (outA true (namA true M.length [.agg [.int .i64 ((K.field (cY.dec v0).fs v1 v2).getD eF.dft).o,.int .i64 ((K.field (cY.dec v0).fs v1 v2).getD eF.dft).z,.int .u8 ((K.field (cY.dec v0).fs v1 v2).getD eF.dft).k,.bool ((K.field (cY.dec v0).fs v1 v2).getD eF.dft).w],.one (.bool (K.field (cY.dec v0).fs v1 v2).isSome)]).1) (namA true M.length [.agg [.int .i64 ((K.field (cY.dec v0).fs v1 v2).getD eF.dft).o,.int .i64 ((K.field (cY.dec v0).fs v1 v2).getD eF.dft).z,.int .u8 ((K.field (cY.dec v0).fs v1 v2).getD eF.dft).k,.bool ((K.field (cY.dec v0).fs v1 v2).getD eF.dft).w],.one (.bool (K.field (cY.dec v0).fs v1 v2).isSome)]).2)))
 |_=>.fail
theorem k_gField_ok:CtrOk Tryz.prog Gw 32 k_gField:=by
 refine⟨fun _ _=>by kernel_rfl,fun args M => ?_⟩
 unfold k_gField
 split
 . rename_i b v0 v1 v2 hv
   intro hb hi hw
   exact ctr_topc (Γ:=⟨[],eqs,[],[],[],mixs,meqs,[]⟩) st_Gw ⟨okNil,eqs_ok,okNilB,okNilI,okNilP,mixs_ok,meqs_ok,okNilY⟩ Tryz.func32 rfl mixed [] (by kernel_rfl) 10000 [.agg (celY (cY.dec v0)),.one (.int .i64 v1),.one (.int .i64 v2)] hv hb ⟨Cel.is_dec (hi),⟨FVEq.refl _,⟨FVEq.refl _,trivial⟩⟩⟩ rfl true _ (gField_run (cY.dec v0) v1 v2 hw)
 . trivial
end Go.Proofs.YtfgkhenhlpoheaaGreat
namespace Go.Proofs.YtfgkhenhlpoheaaGreat
open Go.RowKit Go.Sx
set_option maxRecDepth 100000
set_option maxHeartbeats 4000000
def mixt:List (TypeId×List SV):=(81,[.arr 11 12 (fun _=>[.int .u8 0,.u64 (BitVec.ofInt 64 0),.u64 (BitVec.ofInt 64 0),.u64 (BitVec.ofInt 64 0),.u64 (BitVec.ofInt 64 0),.int .i64 0,.int .i64 0,.int .i64 0,.int .i64 0,.int .i64 0,.int .i64 0,.bool false]),.arr 64 14 (fun _=>.bool false :: .int .u8 0::[.int .u8 0,.u64 (BitVec.ofInt 64 0),.u64 (BitVec.ofInt 64 0),.u64 (BitVec.ofInt 64 0),.u64 (BitVec.ofInt 64 0),.int .i64 0,.int .i64 0,.int .i64 0,.int .i64 0,.int .i64 0,.int .i64 0,.bool false]),.int .i64 0,.val (.string ⟨#[]⟩),.int .i64 0,.val (.slice none 0 0),.val (.slice none 0 0),.int .i64 0,.int .i64 0,.val (.slice none 0 0)])::mixs
theorem mixt_ok:∀ p∈mixt,MixOk Tryz.prog p.1 p.2:=by
 intro p hp
 rcases List.mem_cons.1 hp with rfl|hp
 . obtain⟨it,hi,v,hv,hc⟩:∃ it,Tryz.prog.info? 81=some it∧∃ v,it.zero=some v∧∀ ρ:Val,v.cells=(mixL [.arr 11 12 (fun _=>[.int .u8 0,.u64 (BitVec.ofInt 64 0),.u64 (BitVec.ofInt 64 0),.u64 (BitVec.ofInt 64 0),.u64 (BitVec.ofInt 64 0),.int .i64 0,.int .i64 0,.int .i64 0,.int .i64 0,.int .i64 0,.int .i64 0,.bool false]),.arr 64 14 (fun _=>.bool false :: .int .u8 0::[.int .u8 0,.u64 (BitVec.ofInt 64 0),.u64 (BitVec.ofInt 64 0),.u64 (BitVec.ofInt 64 0),.u64 (BitVec.ofInt 64 0),.int .i64 0,.int .i64 0,.int .i64 0,.int .i64 0,.int .i64 0,.int .i64 0,.bool false]),.int .i64 0,.val (.string ⟨#[]⟩),.int .i64 0,.val (.slice none 0 0),.val (.slice none 0 0),.int .i64 0,.int .i64 0,.val (.slice none 0 0)] (denL ρ [.arr 11 12 (fun _=>[.int .u8 0,.u64 (BitVec.ofInt 64 0),.u64 (BitVec.ofInt 64 0),.u64 (BitVec.ofInt 64 0),.u64 (BitVec.ofInt 64 0),.int .i64 0,.int .i64 0,.int .i64 0,.int .i64 0,.int .i64 0,.int .i64 0,.bool false]),.arr 64 14 (fun _=>.bool false :: .int .u8 0::[.int .u8 0,.u64 (BitVec.ofInt 64 0),.u64 (BitVec.ofInt 64 0),.u64 (BitVec.ofInt 64 0),.u64 (BitVec.ofInt 64 0),.int .i64 0,.int .i64 0,.int .i64 0,.int .i64 0,.int .i64 0,.int .i64 0,.bool false]),.int .i64 0,.val (.string ⟨#[]⟩),.int .i64 0,.val (.slice none 0 0),.val (.slice none 0 0),.int .i64 0,.int .i64 0,.val (.slice none 0 0)])).toArray:=⟨_,rfl,_,rfl,fun ρ=>by kernel_rfl⟩
   exact⟨⟨it,v,hi,hv,hc⟩,rfl⟩
 . exact mixs_ok p hp
end Go.Proofs.YtfgkhenhlpoheaaGreat
namespace Go.Proofs.YtfgkhenhlpoheaaGreat
open Go.RowKit Go.Sx
set_option maxRecDepth 100000
set_option maxHeartbeats 4000000
theorem gspec_run (maps:List Mp)(ak:Int)(av am alo ahi:BitVec 64)(asl ash aof amp aid arm:Int)(anu:Bool)(hm:maps.length≤140737488355328):run Tryz.prog ⟨[],eqs,[],[],[],mixs,meqs,[]⟩ 10000 [] 0 (bodyOf Tryz.f36) (initF Tryz.f36 [.sl 0 4 0 maps.length,.agg [.int .u8 ak,.u64 av,.u64 am,.u64 alo,.u64 ahi,.int .i64 asl,.int .i64 ash,.int .i64 aof,.int .i64 amp,.int .i64 aid,.int .i64 arm,.bool anu]]) [.ro 4 maps.length (gOf eM maps)] (retK Tryz.prog Tryz.f36 fun x _=>eqv x (.agg [.int .u8 (A.spec maps amp).k,.int .i64 (A.spec maps amp).key,.int .i64 (A.spec maps amp).val,.int .i64 (A.spec maps amp).max])):=by
 (conv=>whnf)
 (repeat' (first | (refine And.intro (a:=keepP _ _ _) (by first|exact⟨rfl,rfl,rfl,rfl,trivial⟩|exact⟨rfl,rfl,rfl,trivial⟩|exact⟨rfl,rfl,trivial⟩|exact⟨rfl,trivial⟩) ?_;(conv=>whnf)) | (refine step_t (by first|rfl|assumption) ?_;(conv=>whnf)) | (refine step_f (by first|rfl|assumption) ?_;(conv=>whnf)) | (refine step_nt (by assumption) ?_;(conv=>whnf)) | (refine step_nf (by assumption) ?_;(conv=>whnf)) | (refine step_n (fun hb => ?_) (fun hb => ?_)<;>(first|contradiction | (conv=>whnf))) | (refine And.intro (fun hb => ?_) (fun hb => ?_)<;>(first|contradiction | (conv=>whnf))) | (refine And.intro (a:=(_:Bool)=true) ?_ ?_;rotate_left 1;(conv=>whnf)) | (intro hb;(conv=>whnf))))
 all_goals (try simp only[Nat.zero_add] at *)
 all_goals first
 |rfl
 |(rw[A.spec_1 (by assumption)];exact⟨rfl,rfl,rfl,rfl,trivial⟩)
 |(rw[A.spec_2 (by assumption)];exact⟨rfl,rfl,rfl,rfl,trivial⟩)
 |(rw[A.spec_1 (by assumption)];exact⟨⟨rfl,rfl⟩,⟨rfl,rfl⟩,⟨rfl,rfl⟩,⟨rfl,rfl⟩,trivial⟩)
 |(rw[A.spec_2 (by assumption)];exact⟨⟨rfl,rfl⟩,⟨rfl,rfl⟩,⟨rfl,rfl⟩,⟨rfl,rfl⟩,trivial⟩)
 |(rw[A.spec_3 (by assumption) (by assumption)];exact⟨⟨rfl,rfl⟩,⟨rfl,rfl⟩,⟨rfl,rfl⟩,⟨rfl,rfl⟩,trivial⟩)
 |(simp only[decide_eq_false_iff_not] at *;exact decide_eq_true (by omega))
 |(simp only[decide_eq_false_iff_not] at *;rw[Bool.and_eq_true];exact⟨decide_eq_true (by omega),decide_eq_true (by omega)⟩)
noncomputable def k_gspec:List SV→List Blk→Res:=fun args M=>match topA eltB M args with
 |some (b,[.one vm,.agg [.int .u8 ak,.u64 av,.u64 am,.u64 alo,.u64 ahi,.int .i64 asl,.int .i64 ash,.int .i64 aof,.int .i64 amp,.int .i64 aid,.int .i64 arm,.bool anu]])=>.test b (.test (cM.isR 4 vm&&decide ((cM.decR 4 vm).length≤140737488355328)) (.ok (.agg [.int .u8 (A.spec (cM.decR 4 vm) amp).k,.int .i64 (A.spec (cM.decR 4 vm) amp).key,.int .i64 (A.spec (cM.decR 4 vm) amp).val,.int .i64 (A.spec (cM.decR 4 vm) amp).max]) []))
 |_=>.fail
theorem k_gspec_ok:CtrOk Tryz.prog Gw 36 k_gspec:=by
 refine⟨fun _ _=>by kernel_rfl,fun args M => ?_⟩
 unfold k_gspec
 split
 . rename_i b vm ak av am alo ahi asl ash aof amp aid arm anu hv
   intro hb hw
   simp only[Bool.and_eq_true,decide_eq_true_eq] at hw
   obtain⟨hi,hm⟩:=hw
   exact ctr_top (Γ:=⟨[],eqs,[],[],[],mixs,meqs,[]⟩) st_Gw ⟨okNil,eqs_ok,okNilB,okNilI,okNilP,mixs_ok,meqs_ok,okNilY⟩ Tryz.func36 rfl mixed [] (by kernel_rfl) 10000 [.one (.row 4 (cM.decR 4 vm).length (cM.g (cM.decR 4 vm))),.agg [.int .u8 ak,.u64 av,.u64 am,.u64 alo,.u64 ahi,.int .i64 asl,.int .i64 ash,.int .i64 aof,.int .i64 amp,.int .i64 aid,.int .i64 arm,.bool anu]] hv hb ⟨Cel.isR_dec hi,FVEqL.refl _,trivial⟩ rfl (gspec_run (cM.decR 4 vm) ak av am alo ahi asl ash aof amp aid arm anu hm)
 . trivial
theorem rowM_is (L:List Mp):cM.isR 4 (.row 4 L.length (shiftG 0 (gOf eM L)))=true:=Cel.isR_of (c:=cM) (L:=L) (Cel.row_refl (c:=cM) 4 L)
theorem rowM_dec (L:List Mp):cM.decR 4 (.row 4 L.length (shiftG 0 (gOf eM L)))=L:=Cel.decR_of (c:=cM) (L:=L) (Cel.row_refl (c:=cM) 4 L)
end Go.Proofs.YtfgkhenhlpoheaaGreat
namespace Go.Proofs.YtfgkhenhlpoheaaGreat
open Go.RowKit Go.Sx
set_option maxRecDepth 100000
set_option maxHeartbeats 4000000
namespace F
def bslot (s:Sl)(j:Nat):Sl:=⟨false,Go.bits .or .u8 (set s) (IntKind.u8.wrap (1*2^min j 8)),V.zero⟩
def gt (S:List Sl)(p:Nat):Nat→List Sl
 |0=>S
 |k+1=>(gt S p k).set ((p+k) / 8) (bslot ((gt S p k).getD ((p+k) / 8) noSl) ((p+k) % 8))
def bitOf (s:Sl)(j:Nat):Bool := !(Go.bits .and .u8 ((set s).fdiv (2^min j 8)) 1==0)
def grdy (S:List Sl)(p:Nat):Nat→Bool
 |0=>true
 |k+1=>grdy S p k&&bitOf (S.getD ((p+k) / 8) noSl) ((p+k) % 8)
def gtouch (f:Fr)(off n:Int):Fr:=⟨f.R,gt f.S (512+off).toNat n.toNat,f.ids⟩
def gready (f:Fr)(off n:Int):Bool:=grdy f.S (512+off).toNat n.toNat
theorem gt_len (S:List Sl)(p:Nat):∀ k,(gt S p k).length=S.length
 |0=>rfl
 |k+1=>by rw[gt,List.length_set,gt_len S p k]
end F
theorem tdiv8 (x:Nat)(h:x<1024):IntKind.i64.wrap ((x:Int).tdiv 8)=((x / 8:Nat):Int):=by
 have h:(x:Int).tdiv 8=((x / 8:Nat):Int):=by rw[Int.tdiv_eq_ediv_of_nonneg (by omega)];omega
 rw[h,i64_of (by omega) (by omega)]
theorem tmod8 (x:Nat):(x:Int).tmod 8=((x % 8:Nat):Int):=by rw[Int.tmod_eq_emod_of_nonneg (by omega)];omega
theorem ofInt8 (x:Nat):(BitVec.ofInt 64 ((x % 8:Nat):Int)).toNat=x % 8:=by rw[BitVec.toNat_ofInt];omega
namespace F
theorem grdy_le {S:List Sl}{p j:Nat}(h:grdy S p j=false):∀ k,j≤k→grdy S p k=false
 |0,hk=>by rw[Nat.le_zero.1 hk] at h;exact h
 |k+1,hk=>by
  rcases Nat.lt_or_ge j (k+1) with h1|h1
  . rw[grdy,grdy_le h k (by omega)];rfl
  . rw[← Nat.le_antisymm hk h1];exact h
theorem grdy_no {f:Fr}{off n:Int}{j:Nat}(hj:j<n.toNat)(h:(Go.bits .and .u8 ((set (f.S.getD (((512+off).toNat+j) / 8) eS.dft)).fdiv (2^min (((512+off).toNat+j) % 8) 8)) 1==0)=true):gready f off n=false:=by
 refine grdy_le (j:=j+1) ?_ _ hj
 rw[grdy]
 have:bitOf (f.S.getD (((512+off).toNat+j) / 8) noSl) (((512+off).toNat+j) % 8)=false:=by unfold bitOf;rw[noSl_eq,h];rfl
 rw[this,Bool.and_false]
theorem grdy_go {S:List Sl}{p j:Nat}(h:grdy S p j=true)(k:(Go.bits .and .u8 ((set (S.getD ((p+j) / 8) eS.dft)).fdiv (2^min ((p+j) % 8) 8)) 1==0)=false):grdy S p (j+1)=true:=by
 rw[grdy,h]
 unfold bitOf
 rw[noSl_eq,k];rfl
end F
theorem gtouch_run (f:Fr)(hf:f.wf)(off n:Int)(h0 : -512≤off)(hn:1≤n)(hpn:off+n≤0):run Tryz.prog ⟨[(126,k_gset)],eqs,[],[],[],mixs,meqs,[]⟩ 10000 [] 0 (bodyOf Tryz.f86) (initF Tryz.f86 [frv f,.int .i64 off,.int .i64 n]) [] (retK Tryz.prog Tryz.f86 fun x _=>eqv x (frv (F.gtouch f off n))):=by
 (conv=>whnf)
 (repeat' (first | (refine step_t (by first|rfl|assumption) ?_;(conv=>whnf)) | (refine step_f (by first|rfl|assumption) ?_;(conv=>whnf)) | (refine step_nt (by assumption) ?_;(conv=>whnf)) | (refine step_nf (by assumption) ?_;(conv=>whnf)) | (refine step_n (fun hb => ?_) (fun hb => ?_)<;>(first|contradiction | (conv=>whnf))) | (refine And.intro (fun hb => ?_) (fun hb => ?_)<;>(first|contradiction | (conv=>whnf))) | (refine And.intro (a:=(_:Bool)=true) ?_ ?_;rotate_left 1;(conv=>whnf))))
 refine .inr ⟨[],[1,2,3,6,7],fun k vals M=>∃ j:Nat,j≤n.toNat∧k=n.toNat-j∧vals=[.int .i64 off,.int .i64 n,.ptr 0 0,.ptr 1 0,.int .i64 (j:Int)]∧M=[.mix 44 [.arr 11 12 (gOf eA f.R),.arr 64 14 (gOf eS (F.gt f.S (512+off).toNat j)),.int .i64 f.ids],.mix 44 [.arr 11 12 (fun _=>[.int .u8 0,.u64 (BitVec.ofInt 64 0),.u64 (BitVec.ofInt 64 0),.u64 (BitVec.ofInt 64 0),.u64 (BitVec.ofInt 64 0),.int .i64 0,.int .i64 0,.int .i64 0,.int .i64 0,.int .i64 0,.int .i64 0,.bool false]),.arr 64 14 (fun _=>.bool false :: .int .u8 0::[.int .u8 0,.u64 (BitVec.ofInt 64 0),.u64 (BitVec.ofInt 64 0),.u64 (BitVec.ofInt 64 0),.u64 (BitVec.ofInt 64 0),.int .i64 0,.int .i64 0,.int .i64 0,.int .i64 0,.int .i64 0,.int .i64 0,.bool false]),.int .i64 0]],?_⟩
 conv=>whnf
 refine And.intro ⟨n.toNat,[.mix 44 [.arr 11 12 (gOf eA f.R),.arr 64 14 (gOf eS (F.gt f.S (512+off).toNat 0)),.int .i64 f.ids],.mix 44 [.arr 11 12 (fun _=>[.int .u8 0,.u64 (BitVec.ofInt 64 0),.u64 (BitVec.ofInt 64 0),.u64 (BitVec.ofInt 64 0),.u64 (BitVec.ofInt 64 0),.int .i64 0,.int .i64 0,.int .i64 0,.int .i64 0,.int .i64 0,.int .i64 0,.bool false]),.arr 64 14 (fun _=>.bool false :: .int .u8 0::[.int .u8 0,.u64 (BitVec.ofInt 64 0),.u64 (BitVec.ofInt 64 0),.u64 (BitVec.ofInt 64 0),.u64 (BitVec.ofInt 64 0),.int .i64 0,.int .i64 0,.int .i64 0,.int .i64 0,.int .i64 0,.int .i64 0,.bool false]),.int .i64 0]],mle_cons ble_refl (mle_cons ble_refl mle_nil),rfl,rfl,0,by omega,by omega,rfl,rfl⟩ ?_
 rintro k vals M1 ⟨j,hj,rfl,rfl,rfl⟩
 have e1:IntKind.i64.wrap (512+off)=(((512+off).toNat:Nat):Int):=by rw[i64_of (by omega) (by omega)];omega
 have e2:IntKind.i64.wrap ((((512+off).toNat:Nat):Int)+(j:Int))=(((512+off).toNat+j:Nat):Int):=by rw[i64_of (by omega) (by omega)];omega
 have e3:=tdiv8 ((512+off).toNat+j) (by omega)
 have e4:=tmod8 ((512+off).toNat+j)
 have hlen:(F.gt f.S (512+off).toNat j).length=64:=by rw[F.gt_len];exact hf.s
 have e5:=ofInt8 ((512+off).toNat+j)
 (conv=>whnf)
 (repeat' (first | (refine step_t (by first|rfl|assumption) ?_;(conv=>whnf)) | (refine step_f (by first|rfl|assumption) ?_;(conv=>whnf)) | (refine step_nt (by assumption) ?_;(conv=>whnf)) | (refine step_nf (by assumption) ?_;(conv=>whnf)) | (refine step_n (fun hb => ?_) (fun hb => ?_)<;>(first|contradiction | (conv=>whnf))) | (refine And.intro (fun hb => ?_) (fun hb => ?_)<;>(first|contradiction | (conv=>whnf))) | (refine And.intro (a:=(_:Bool)=true) ?_ ?_;rotate_left 1;(conv=>whnf))))
 all_goals (try simp only[e1,e2,e3,e4,e5,Int.toNat_natCast] at *)
 all_goals try first
  |rfl
  |exact(rfl:((8:Int) != 0)=true)
  |(have hlt:j<n.toNat:=by
     have h9:decide ((j:Int)<n)=true:=by assumption
     have:=of_decide_eq_true h9
     omega
    first
    |exact decide_eq_true (by omega)
    |(rw[Bool.and_eq_true];exact⟨decide_eq_true (by omega),decide_eq_true (by omega)⟩)
    |(refine⟨n.toNat - (j+1),[.mix 44 [.arr 11 12 (gOf eA f.R),.arr 64 14 (gOf eS (F.gt f.S (512+off).toNat (j+1))),.int .i64 f.ids],.mix 44 [.arr 11 12 (fun _=>[.int .u8 0,.u64 (BitVec.ofInt 64 0),.u64 (BitVec.ofInt 64 0),.u64 (BitVec.ofInt 64 0),.u64 (BitVec.ofInt 64 0),.int .i64 0,.int .i64 0,.int .i64 0,.int .i64 0,.int .i64 0,.int .i64 0,.bool false]),.arr 64 14 (fun _=>.bool false :: .int .u8 0::[.int .u8 0,.u64 (BitVec.ofInt 64 0),.u64 (BitVec.ofInt 64 0),.u64 (BitVec.ofInt 64 0),.u64 (BitVec.ofInt 64 0),.int .i64 0,.int .i64 0,.int .i64 0,.int .i64 0,.int .i64 0,.int .i64 0,.bool false]),.int .i64 0]],[0,1],by omega,rfl,mle_cons (ble_mix ⟨⟨rfl,rfl,fun _ _=>rfl⟩,⟨rfl,rfl,fun k hk => ?_⟩,rfl,trivial⟩) (mle_cons ble_refl mle_nil),rfl,rfl,j+1,by omega,rfl,?_,rfl⟩
      . symm
        exact gSet_gOf eS (L:=F.gt f.S (512+off).toNat j) (i:=((512+off).toNat+j) / 8) (a:=F.bslot ((F.gt f.S (512+off).toNat j).getD (((512+off).toNat+j) / 8) eS.dft) (((512+off).toNat+j) % 8)) (by rw[hlen];omega) rfl rfl k (by rw[hlen];exact hk)
      . show[SV.int .i64 off,.int .i64 n,.ptr 0 0,.ptr 1 0,.int .i64 (IntKind.i64.wrap ((j:Int)+1))]=_
        rw[i64_of (n:=(j:Int)+1) (by omega) (by omega)];rfl))
 have hjn:j=n.toNat:=by
  have h9:decide ((j:Int)<n)=false:=by assumption
  have:=of_decide_eq_false h9
  omega
 subst hjn
 exact eqv_fr (X:=F.gtouch f off n) (fun _ _=>rfl) (fun _ _=>rfl) rfl
theorem gready_run (f:Fr)(hf:f.wf)(off n:Int)(h0 : -512≤off)(hn:1≤n)(hpn:off+n≤0):run Tryz.prog ⟨[(126,k_gset)],eqs,[],[],[],mixs,meqs,[]⟩ 10000 [] 0 (bodyOf Tryz.f79) (initF Tryz.f79 [frv f,.int .i64 off,.int .i64 n]) [] (retK Tryz.prog Tryz.f79 fun x _=>eqv x (.bool (F.gready f off n))):=by
 (conv=>whnf)
 (repeat' (first | (refine step_t (by first|rfl|assumption) ?_;(conv=>whnf)) | (refine step_f (by first|rfl|assumption) ?_;(conv=>whnf)) | (refine step_nt (by assumption) ?_;(conv=>whnf)) | (refine step_nf (by assumption) ?_;(conv=>whnf)) | (refine step_n (fun hb => ?_) (fun hb => ?_)<;>(first|contradiction | (conv=>whnf))) | (refine And.intro (fun hb => ?_) (fun hb => ?_)<;>(first|contradiction | (conv=>whnf))) | (refine And.intro (a:=(_:Bool)=true) ?_ ?_;rotate_left 1;(conv=>whnf))))
 refine .inr ⟨[],[1,2,3,7],fun k vals M=>∃ j:Nat,j≤n.toNat∧k=n.toNat-j∧F.grdy f.S (512+off).toNat j=true∧vals=[.int .i64 off,.int .i64 n,.ptr 0 0,.int .i64 (j:Int)]∧M=[.mix 44 [.arr 11 12 (gOf eA f.R),.arr 64 14 (gOf eS f.S),.int .i64 f.ids]],?_⟩
 conv=>whnf
 refine And.intro ⟨n.toNat,[.mix 44 [.arr 11 12 (gOf eA f.R),.arr 64 14 (gOf eS f.S),.int .i64 f.ids]],mle_cons ble_refl mle_nil,rfl,rfl,0,by omega,by omega,rfl,rfl,rfl⟩ ?_
 rintro k vals M1 ⟨j,hj,rfl,hrd,rfl,rfl⟩
 have e1:IntKind.i64.wrap (512+off)=(((512+off).toNat:Nat):Int):=by rw[i64_of (by omega) (by omega)];omega
 have e2:IntKind.i64.wrap ((((512+off).toNat:Nat):Int)+(j:Int))=(((512+off).toNat+j:Nat):Int):=by rw[i64_of (by omega) (by omega)];omega
 have e3:=tdiv8 ((512+off).toNat+j) (by omega)
 have e4:=tmod8 ((512+off).toNat+j)
 have e5:=ofInt8 ((512+off).toNat+j)
 (conv=>whnf)
 (repeat' (first | (refine step_t (by first|rfl|assumption) ?_;(conv=>whnf)) | (refine step_f (by first|rfl|assumption) ?_;(conv=>whnf)) | (refine step_nt (by assumption) ?_;(conv=>whnf)) | (refine step_nf (by assumption) ?_;(conv=>whnf)) | (refine step_n (fun hb => ?_) (fun hb => ?_)<;>(first|contradiction | (conv=>whnf))) | (refine And.intro (fun hb => ?_) (fun hb => ?_)<;>(first|contradiction | (conv=>whnf))) | (refine And.intro (a:=(_:Bool)=true) ?_ ?_;rotate_left 1;(conv=>whnf))))
 all_goals (try simp only[e1,e2,e3,e4,e5,Int.toNat_natCast] at *)
 all_goals try first
  |rfl
  |exact(rfl:((8:Int) != 0)=true)
  |(have hlt:j<n.toNat:=by
     have h9:decide ((j:Int)<n)=true:=by assumption
     have:=of_decide_eq_true h9
     omega
    first
    |exact decide_eq_true (by omega)
    |(rw[Bool.and_eq_true];exact⟨decide_eq_true (by omega),decide_eq_true (by omega)⟩)
    |exact(F.grdy_no hlt (by assumption)).symm
    |exact F.grdy_no hlt (by assumption)
    |(refine⟨n.toNat - (j+1),[.mix 44 [.arr 11 12 (gOf eA f.R),.arr 64 14 (gOf eS f.S),.int .i64 f.ids]],[0],by omega,rfl,mle_cons ble_refl mle_nil,rfl,rfl,j+1,by omega,rfl,F.grdy_go hrd (by assumption),?_,rfl⟩
      show[SV.int .i64 off,.int .i64 n,.ptr 0 0,.int .i64 (IntKind.i64.wrap ((j:Int)+1))]=_
      rw[i64_of (n:=(j:Int)+1) (by omega) (by omega)];rfl))
 have hjn:j=n.toNat:=by
  have h9:decide ((j:Int)<n)=false:=by assumption
  have:=of_decide_eq_false h9
  omega
 subst hjn
 first|exact hrd|exact hrd.symm
end Go.Proofs.YtfgkhenhlpoheaaGreat
namespace Go.Proofs.YtfgkhenhlpoheaaGreat
open Go.RowKit Go.Sx
set_option maxRecDepth 100000
set_option maxHeartbeats 4000000
theorem getD_set {α:Type}(l:List α)(i j:Nat)(a d:α):(l.set i a).getD j d=if i=j∧j<l.length then a else l.getD j d:=by
 simp only[List.getD_eq_getElem?_getD,List.getElem?_set]
 by_cases h:i=j
 . subst h
   by_cases h2:i<l.length
   . simp[h2]
   . simp[h2]
 . simp[h]
theorem bit1:∀ j:Fin 8,∀ i:Fin 8,(b8 (IntKind.u8.wrap (1*2^min j.1 8))).getLsbD i.1=decide (i.1=j.1):=by decide
theorem b8_ext {a b:BitVec 8}(h:∀ i,i<8→a.getLsbD i=b.getLsbD i):a=b:=BitVec.eq_of_getLsbD_eq (fun i hi=>h i hi)
theorem bit_at (x:Int)(j:Nat)(hj:j<8):(!(Go.bits .and .u8 (x.fdiv (2^min j 8)) 1==0))=(b8 x).getLsbD j:=by
 have hmin:min j 8=j:=by omega
 have hf:x.fdiv (2^j)=x / 2^j:=Int.fdiv_eq_ediv_of_nonneg _ (Int.le_of_lt (Int.pow_pos (by decide)))
 rw[hmin,hf,and8]
 have h1:(b8 x).getLsbD j=decide (((x % 256).toNat / 2^j) % 2=1):=by
  unfold b8
  rw[BitVec.getLsbD,BitVec.toNat_ofInt,Nat.testBit_eq_decide_div_mod_eq]
  rfl
 have h2:ub (b8 (x / 2^j) &&& b8 1)=((x / 2^j) % 2:Int):=by
  unfold ub
  rw[BitVec.toNat_and]
  have:(b8 1).toNat=1:=rfl
  rw[this,Nat.and_one_is_mod]
  unfold b8
  rw[BitVec.toNat_ofInt]
  omega
 rw[h1,h2]
 have hj':j=0∨j=1∨j=2∨j=3∨j=4∨j=5∨j=6∨j=7:=by omega
 have key:((x / 2^j) % 2:Int)=if ((x % 256).toNat / 2^j) % 2=1 then 1 else 0:=by
  rcases hj' with rfl|rfl|rfl|rfl|rfl|rfl|rfl|rfl<;>simp only[Int.reducePow,Nat.reducePow]<;>split<;>omega
 rw[key]
 split<;>rename_i h<;>simp[h]
namespace F
theorem mk_bit (p n:Int)(q:Nat):∀ k,k≤8→∀ i,i<8→(b8 (mk p n q k)).getLsbD i=(decide (i<k)&&(decide (p≤8*(q:Int)+i)&&decide (8*(q:Int)+i<p+n)))
 |0,_,i,_=>by
  have:b8 (mk p n q 0)=0#8:=rfl
  rw[this];simp
 |k+1,hk,i,hi=>by
  have ih:=mk_bit p n q k (by omega) i hi
  have hb:=bit1 ⟨k,by omega⟩ ⟨i,hi⟩
  simp only at hb
  rw[mk]
  by_cases h1:p≤8*(q:Int)+k
  . by_cases h2:8*(q:Int)+k<p+n
    . rw[decide_eq_true h1,decide_eq_true h2]
      simp only[Bool.and_self,if_true]
      rw[or8,b8_ub,BitVec.getLsbD_or,ih,hb]
      by_cases hik:i=k
      . subst hik
        simp[h1,h2]
      . have:(i<k+1)↔i<k:=by omega
        simp[hik,this]
    . rw[decide_eq_true h1,decide_eq_false h2]
      simp only[Bool.and_false,Bool.false_eq_true,if_false]
      rw[ih]
      by_cases hik:i=k
      . subst hik;simp[h2]
      . have:(i<k+1)↔i<k:=by omega
        simp[this]
  . rw[decide_eq_false h1]
    simp only[Bool.false_and,Bool.false_eq_true,if_false]
    rw[ih]
    by_cases hik:i=k
    . subst hik;simp[h1]
    . have:(i<k+1)↔i<k:=by omega
      simp[this]
theorem mk8_bit (p n:Int)(q i:Nat)(hi:i<8):(b8 (mk p n q 8)).getLsbD i=(decide (p≤8*(q:Int)+i)&&decide (8*(q:Int)+i<p+n)):=by
 rw[mk_bit p n q 8 (by omega) i hi,decide_eq_true hi,Bool.true_and]
theorem set_mk (v:Int):set ⟨false,v,V.zero⟩=v:=rfl
theorem mk_next (p k:Nat):b8 (mk (p:Int) ((k+1:Nat):Int) ((p+k) / 8) 8)=b8 (mk (p:Int) (k:Int) ((p+k) / 8) 8) ||| b8 (IntKind.u8.wrap (1*2^min ((p+k) % 8) 8)):=by
 apply b8_ext
 intro i hi
 have hb:=bit1 ⟨(p+k) % 8,by omega⟩ ⟨i,hi⟩
 simp only at hb
 rw[BitVec.getLsbD_or,mk8_bit _ _ _ i hi,mk8_bit _ _ _ i hi,hb]
 rw[Bool.eq_iff_iff]
 simp only[Bool.and_eq_true,Bool.or_eq_true,decide_eq_true_eq]
 omega
theorem mk_same {p k q:Nat}(h:q≠(p+k) / 8):b8 (mk (p:Int) ((k+1:Nat):Int) q 8)=b8 (mk (p:Int) (k:Int) q 8):=by
 apply b8_ext
 intro i hi
 rw[mk8_bit _ _ _ i hi,mk8_bit _ _ _ i hi]
 rw[Bool.eq_iff_iff]
 simp only[Bool.and_eq_true,decide_eq_true_eq]
 omega
theorem mk_none {p k:Nat}(h : ¬ (p / 8≤(p+k) / 8∧8*((p+k) / 8)<p+k∧0<k)):b8 (mk (p:Int) (k:Int) ((p+k) / 8) 8)=0#8:=by
 apply b8_ext
 intro i hi
 rw[mk8_bit _ _ _ i hi]
 have:(0#8:BitVec 8).getLsbD i=false:=by simp
 rw[this,Bool.and_eq_false_iff,decide_eq_false_iff_not,decide_eq_false_iff_not]
 omega
theorem gt_at (S:List Sl)(p:Nat):∀ k q,q<S.length→(gt S p k).getD q noSl=if p / 8≤q∧8*q<p+k∧0<k then ⟨false,ub (b8 (set (S.getD q noSl)) ||| b8 (mk (p:Int) (k:Int) q 8)),V.zero⟩ else S.getD q noSl
 |0,q,_=>by rw[if_neg (by omega)];rfl
 |k+1,q,hq=>by
  have ih:=gt_at S p k q hq
  rw[gt,getD_set]
  by_cases hc:(p+k) / 8=q
  . rw[if_pos ⟨hc,by rw[gt_len];exact hq⟩,if_pos (by omega),hc,ih]
    unfold bslot
    rw[or8]
    by_cases h2:p / 8≤q∧8*q<p+k∧0<k
    . rw[if_pos h2,set_mk,b8_ub]
      subst hc
      rw[mk_next,BitVec.or_assoc]
    . rw[if_neg h2]
      subst hc
      rw[mk_next,mk_none h2,BitVec.zero_or]
  . rw[if_neg (by rintro⟨h,_⟩;exact hc h),ih]
    have hiff:(p / 8≤q∧8*q<p+(k+1)∧0<k+1)↔(p / 8≤q∧8*q<p+k∧0<k):=by omega
    by_cases h2:p / 8≤q∧8*q<p+k∧0<k
    . rw[if_pos h2,if_pos (hiff.2 h2),mk_same (fun e=>hc e.symm)]
    . rw[if_neg h2,if_neg (fun e=>h2 (hiff.1 e))]
theorem tch_at (S:List Sl)(p n:Int)(a:Nat):∀ j q,q<S.length→(tch S p n a j).getD q noSl=if a≤q∧q<a+j then slot (S.getD q noSl) (mk p n q 8) else S.getD q noSl
 |0,q,_=>by rw[if_neg (by omega)];rfl
 |j+1,q,hq=>by
  have ih:=tch_at S p n a j q hq
  rw[tch,getD_set]
  by_cases hc:a+j=q
  . rw[if_pos ⟨hc,by rw[tch_len];exact hq⟩,if_pos (by omega),hc,ih,if_neg (by omega)]
  . rw[if_neg (by rintro⟨h,_⟩;exact hc h),ih]
    have hiff:(a≤q∧q<a+(j+1))↔(a≤q∧q<a+j):=by omega
    by_cases h2:a≤q∧q<a+j
    . rw[if_pos h2,if_pos (hiff.2 h2)]
    . rw[if_neg h2,if_neg (fun e=>h2 (hiff.1 e))]
theorem list_getD {l m:List Sl}(hl:l.length=m.length)(h:∀ q,q<l.length→l.getD q noSl=m.getD q noSl):l=m:=by
 apply List.ext_getElem hl
 intro i h1 h2
 have:=h i h1
 rwa [getD_at _ h1,getD_at _ h2] at this
theorem gt_eq (S:List Sl)(p k:Nat)(hk:0<k):gt S p k=tch S (p:Int) (k:Int) (p / 8) (cnt (p:Int) (k:Int)):=by
 apply list_getD (by rw[gt_len,tch_len])
 intro q hq
 rw[gt_len] at hq
 rw[gt_at S p k q hq,tch_at S _ _ _ _ q hq]
 have hiff:(p / 8≤q∧8*q<p+k∧0<k)↔(p / 8≤q∧q<p / 8+cnt (p:Int) (k:Int)):=by unfold cnt;omega
 by_cases h:p / 8≤q∧8*q<p+k∧0<k
 . rw[if_pos h,if_pos (hiff.1 h)]
   unfold slot
   rw[or8]
 . rw[if_neg h,if_neg (fun e=>h (hiff.2 e))]
theorem gtouch_eq (f:Fr){off n:Int}(h0 : -512≤off)(hn:1≤n):gtouch f off n=touch f (512+off) n:=by
 have e:gt f.S (512+off).toNat n.toNat=tch f.S (512+off) n ((512+off).toNat / 8) (cnt (512+off) n):=by
  have:=gt_eq f.S (512+off).toNat n.toNat (by omega)
  rwa [Int.toNat_of_nonneg (by omega),Int.toNat_of_nonneg (by omega)] at this
 unfold gtouch touch
 rw[e]
theorem grdy_iff (S:List Sl)(p:Nat):∀ k,grdy S p k=true ↔ ∀ i,i<k→(b8 (set (S.getD ((p+i) / 8) noSl))).getLsbD ((p+i) % 8)=true
 |0=>by simp[grdy]
 |k+1=>by
  rw[grdy,Bool.and_eq_true,grdy_iff S p k]
  unfold bitOf
  rw[bit_at _ _ (by omega)]
  constructor
  . rintro⟨h1,h2⟩ i hi
    rcases Nat.lt_or_ge i k with h|h
    . exact h1 i h
    . rw[show i=k by omega];exact h2
  . intro h
    exact⟨fun i hi=>h i (by omega),h k (by omega)⟩
theorem ub_zero (v:BitVec 8):(ub v==0)=(v==0#8):=by
 rw[Bool.eq_iff_iff,beq_iff_eq,beq_iff_eq]
 constructor
 . intro h
   apply BitVec.eq_of_toNat_eq
   unfold ub at h
   have:(0#8:BitVec 8).toNat=0:=rfl
   omega
 . rintro rfl;rfl
theorem rdy_iff (S:List Sl)(p n:Int)(a:Nat):∀ j,rdy S p n a j=true ↔ ∀ q,a≤q→q<a+j→∀ i:Nat,i<8→p≤8*(q:Int)+i→8*(q:Int)+i<p+n→(b8 (set (S.getD q noSl))).getLsbD i=true
 |0=>by
  constructor
  . intro _ q h1 h2;omega
  . intro _;rfl
 |j+1=>by
  rw[rdy,Bool.and_eq_true,rdy_iff S p n a j,andNot8,ub_zero,beq_iff_eq]
  have key:(b8 (mk p n (a+j) 8) &&& ~~~b8 (set (S.getD (a+j) noSl))=0#8) ↔ ∀ i:Nat,i<8→p≤8*((a+j:Nat):Int)+i→8*((a+j:Nat):Int)+i<p+n→(b8 (set (S.getD (a+j) noSl))).getLsbD i=true:=by
   constructor
   . intro h i hi h1 h2
     have h3:(b8 (mk p n (a+j) 8) &&& ~~~b8 (set (S.getD (a+j) noSl))).getLsbD i=false:=by rw[h];simp
     rw[BitVec.getLsbD_and,mk8_bit _ _ _ i hi,decide_eq_true h1,decide_eq_true h2,BitVec.getLsbD_not,decide_eq_true hi] at h3
     simpa using h3
   . intro h
     apply b8_ext
     intro i hi
     have h0:(0#8:BitVec 8).getLsbD i=false:=by simp
     rw[BitVec.getLsbD_and,mk8_bit _ _ _ i hi,BitVec.getLsbD_not,decide_eq_true hi,h0]
     by_cases h1:p≤8*((a+j:Nat):Int)+i
     . by_cases h2:8*((a+j:Nat):Int)+i<p+n
       . rw[h i hi h1 h2];simp
       . rw[decide_eq_false h2];simp
     . rw[decide_eq_false h1];simp
  rw[key]
  constructor
  . rintro⟨h1,h2⟩ q hq1 hq2
    rcases Nat.lt_or_ge q (a+j) with h|h
    . exact h1 q hq1 h
    . have:q=a+j:=by omega
      subst this;exact h2
  . intro h
    exact⟨fun q h1 h2=>h q h1 (by omega),h (a+j) (by omega) (by omega)⟩
theorem gready_eq (f:Fr){off n:Int}(h0 : -512≤off)(hn:1≤n):gready f off n=ready f (512+off) n:=by
 unfold gready ready
 rw[Bool.eq_iff_iff,grdy_iff,rdy_iff]
 constructor
 . intro h q h1 h2 i hi h3 h4
   have:=h (8*q+i - (512+off).toNat) (by omega)
   rwa [show((512+off).toNat+(8*q+i - (512+off).toNat)) / 8=q by omega,show((512+off).toNat+(8*q+i - (512+off).toNat)) % 8=i by omega] at this
 . intro h i hi
   refine h (((512+off).toNat+i) / 8) (by omega) (by unfold cnt;omega) (((512+off).toNat+i) % 8) (by omega) (by omega) (by omega)
end F
end Go.Proofs.YtfgkhenhlpoheaaGreat
namespace Go.Proofs.YtfgkhenhlpoheaaGreat
open Go.RowKit Go.Sx
set_option maxRecDepth 100000
set_option maxHeartbeats 4000000
namespace F
def zeroA (a:Ab):Bool:=a.k==0&&(a.n.t.v==BitVec.ofInt 64 0&&(a.n.t.m==BitVec.ofInt 64 0&&(a.n.s.lo==BitVec.ofInt 64 0&&(a.n.s.hi==BitVec.ofInt 64 0&&(a.n.s.sl==0&&(a.n.s.sh==0&&(a.of==0&&(a.mp==0&&(a.id==0&&(a.rm==0&&(a.nu==false&&true)))))))))))
def okB (ids:Int)(s:Sl):Bool:=if s.w=true then (s.st==0)&&(!(s.a.k==0)&&okA ids s.a) else zeroA s.a
def right2 (f:Fr):Bool:=f.R.all (okA f.ids)&&(f.S.all (okB f.ids)&&decide (0≤f.ids))
theorem zero_right {a:Ab}(h:zeroA a=true):V.right a=true∧a.k=0∧a.id=0:=by
 obtain⟨k,⟨⟨v,m⟩,⟨lo,hi,sl,sh⟩⟩,of,mp,id,rm,nu⟩:=a
 simp only[zeroA,Bool.and_eq_true,beq_iff_eq] at h
 obtain⟨rfl,rfl,rfl,rfl,rfl,rfl,rfl,rfl,rfl,rfl,rfl,rfl, -⟩:=h
 exact⟨by kernel_rfl,rfl,rfl⟩
theorem right_zero {a:Ab}(h:V.right a=true)(k:a.k=0):zeroA a=true:=by
 obtain⟨k,⟨⟨v,m⟩,⟨lo,hi,sl,sh⟩⟩,of,mp,id,rm,nu⟩:=a
 subst k
 have h:(V.zeroB ⟨⟨v,m⟩,⟨lo,hi,sl,sh⟩⟩&&(of==0&&(mp==0&&(id==0&&(rm==0 && !nu)))))=true:=h
 simp only[V.zeroB,Bool.and_eq_true,Bool.not_eq_true',beq_iff_eq] at h
 simp[zeroA,h]
theorem okB_eq {ids:Int}(hi:0≤ids)(s:Sl):okB ids s=(okS s&&okA ids s.a):=by
 unfold okB okS
 cases hw:s.w
 . simp only[Bool.false_eq_true,if_false,Bool.false_and,Bool.or_false]
   by_cases hz:zeroA s.a=true
   . obtain⟨h1,h2,h3⟩:=zero_right hz
     rw[hz,okA,h1,h2,h3,decide_eq_true hi];rfl
   . rw[Bool.not_eq_true] at hz
     rw[hz]
     symm
     rw[Bool.and_eq_false_iff]
     by_cases hk:s.a.k=0
     . right
       unfold okA
       by_cases hr:V.right s.a=true
       . rw[right_zero hr hk] at hz;cases hz
       . rw[Bool.not_eq_true] at hr;rw[hr];rfl
     . left
       rw[beq_false_of_ne hk];rfl
 . simp only[if_true,Bool.true_and]
   cases (s.a.k==0)<;>cases hst:(s.st==0)<;>simp[bne,hst]
theorem right2_eq (f:Fr):right2 f=right f:=by
 unfold right2 right
 by_cases hi:0≤f.ids
 . rw[decide_eq_true hi,Bool.and_true,Bool.and_true]
   have:f.S.all (okB f.ids)=(f.S.all okS&&f.S.all fun s=>okA f.ids s.a):=by
    induction f.S with
    |nil=>rfl
    |cons s l ih=>
     simp only[List.all_cons,ih,okB_eq hi]
     cases okS s<;>cases okA f.ids s.a<;>simp
   rw[this]
   cases f.S.all okS<;>cases f.R.all (okA f.ids)<;>simp
 . rw[decide_eq_false hi];simp
theorem okB_0 {ids:Int}{s:Sl}{b:Bool}(h:s.w=false)(k:zeroA s.a=b):okB ids s=b:=by unfold okB;rw[h,← k];rfl
theorem right2_1 {f:Fr}{j:Nat}(h:j<f.R.length)(k:okA f.ids (f.R.getD j eA.dft)=false):right2 f=false:=by unfold right2;rw[all_not' eA.dft h k];rfl
theorem right2_2 {f:Fr}{j:Nat}(h:j<f.S.length)(k:okB f.ids (f.S.getD j eS.dft)=false):right2 f=false:=by unfold right2;rw[all_not' eS.dft h k,Bool.false_and,Bool.and_false]
theorem right2_3 {f:Fr}(h:f.R.all (okA f.ids)=true)(k:f.S.all (okB f.ids)=true):right2 f=decide (0≤f.ids):=by unfold right2;rw[h,k];rfl
end F
attribute [local irreducible] V.right
theorem gright_run (f:Fr)(hf:f.wf):run Tryz.prog ⟨[(81,k_uRight)],eqs,[],[],[],mixs,meqs,[]⟩ 10000 [] 0 (bodyOf Tryz.f74) (initF Tryz.f74 [frv f]) [] (retK Tryz.prog Tryz.f74 fun x _=>eqv x (.bool (F.right2 f))):=by
 have hR:=hf.r
 have hS:=hf.s
 (conv=>whnf)
 (repeat' (first | (refine step_t (by first|rfl|assumption) ?_;(conv=>whnf)) | (refine step_f (by first|rfl|assumption) ?_;(conv=>whnf)) | (refine step_nt (by assumption) ?_;(conv=>whnf)) | (refine step_nf (by assumption) ?_;(conv=>whnf)) | (refine step_n (fun hb => ?_) (fun hb => ?_)<;>(first|contradiction | (conv=>whnf))) | (refine And.intro (fun hb => ?_) (fun hb => ?_)<;>(first|contradiction | (conv=>whnf))) | (refine And.intro (a:=(_:Bool)=true) ?_ ?_;rotate_left 1;(conv=>whnf))))
 refine .inr ⟨[],[1,3],fun k vals M=>∃ i:Nat,i≤11∧k=11-i∧(f.R.take i).all (F.okA f.ids)=true∧vals=[.ptr 0 0,.int .i64 (i:Int)]∧M=[.mix 44 [.arr 11 12 (gOf eA f.R),.arr 64 14 (gOf eS f.S),.int .i64 f.ids]],?_⟩
 conv=>whnf
 refine And.intro ⟨11,[.mix 44 [.arr 11 12 (gOf eA f.R),.arr 64 14 (gOf eS f.S),.int .i64 f.ids]],mle_cons ble_refl mle_nil,rfl,rfl,0,by omega,by omega,rfl,rfl,rfl⟩ ?_
 rintro k vals M1 ⟨i,hi,rfl,hallR,rfl,rfl⟩
 (conv=>whnf)
 (repeat' (first | (refine step_t (by first|rfl|assumption) ?_;(conv=>whnf)) | (refine step_f (by first|rfl|assumption) ?_;(conv=>whnf)) | (refine step_nt (by assumption) ?_;(conv=>whnf)) | (refine step_nf (by assumption) ?_;(conv=>whnf)) | (refine step_n (fun hb => ?_) (fun hb => ?_)<;>(first|contradiction | (conv=>whnf))) | (refine And.intro (fun hb => ?_) (fun hb => ?_)<;>(first|contradiction | (conv=>whnf))) | (refine And.intro (a:=(_:Bool)=true) ?_ ?_;rotate_left 1;(conv=>whnf))))
 all_goals try (simp only[Int.toNat_natCast] at *)
 all_goals try first
  |(refine decide_eq_true ?_;omega)
  |(have hlt:i<11:=by
     have h9:decide ((i:Int)<11)=true:=by assumption
     have:=of_decide_eq_true h9
     omega
    have hlt':i<f.R.length:=by omega
    first
    |(refine decide_eq_true ?_;omega)
    |(rw[Bool.and_eq_true];exact⟨decide_eq_true (by omega),decide_eq_true (by omega)⟩)
    |exact F.right2_1 hlt' (F.okA_1 (by assumption))
    |exact F.right2_1 hlt' (F.okA_2 (by assumption))
    |exact(F.right2_1 hlt' (F.okA_1 (by assumption))).symm
    |exact(F.right2_1 hlt' (F.okA_2 (by assumption))).symm
    |exact inA_at hf.ri hlt'
    |(refine⟨11 - (i+1),[.mix 44 [.arr 11 12 (gOf eA f.R),.arr 64 14 (gOf eS f.S),.int .i64 f.ids]],[0],by omega,rfl,mle_cons ble_refl mle_nil,rfl,rfl,i+1,by omega,rfl,?_,?_,rfl⟩
      . rw[all_take' eA.dft hlt',hallR,Bool.true_and]
        exact F.okA_3 (by assumption) (by assumption)
      . show[SV.ptr 0 0,.int .i64 (IntKind.i64.wrap ((i:Int)+1))]=_
        rw[i64_of (n:=(i:Int)+1) (by omega) (by omega)];rfl))
 have hi11:i=11:=by
  have h9:decide ((i:Int)<11)=false:=by assumption
  have:=of_decide_eq_false h9
  omega
 have hallA:f.R.all (F.okA f.ids)=true:=by rw[hi11,← hR,List.take_length] at hallR;exact hallR
 refine .inr ⟨[],[1,4],fun k vals M=>∃ i:Nat,i≤64∧k=64-i∧(f.S.take i).all (F.okB f.ids)=true∧vals=[.ptr 0 0,.int .i64 (i:Int)]∧M=[.mix 44 [.arr 11 12 (gOf eA f.R),.arr 64 14 (gOf eS f.S),.int .i64 f.ids]],?_⟩
 conv=>whnf
 refine And.intro ⟨64,[.mix 44 [.arr 11 12 (gOf eA f.R),.arr 64 14 (gOf eS f.S),.int .i64 f.ids]],mle_cons ble_refl mle_nil,rfl,rfl,0,by omega,by omega,rfl,rfl,rfl⟩ ?_
 clear hi hallR hi11
 rintro k vals M1 ⟨i,hi,rfl,hallR,rfl,rfl⟩
 (conv=>whnf)
 (repeat' (first | (refine step_t (by first|rfl|assumption) ?_;(conv=>whnf)) | (refine step_f (by first|rfl|assumption) ?_;(conv=>whnf)) | (refine step_nt (by assumption) ?_;(conv=>whnf)) | (refine step_nf (by assumption) ?_;(conv=>whnf)) | (refine step_n (fun hb => ?_) (fun hb => ?_)<;>(first|contradiction | (conv=>whnf))) | (refine And.intro (fun hb => ?_) (fun hb => ?_)<;>(first|contradiction | (conv=>whnf))) | (refine And.intro (a:=(_:Bool)=true) ?_ ?_;rotate_left 1;(conv=>whnf))))
 all_goals try (simp only[Int.toNat_natCast] at *)
 all_goals try first
  |(refine decide_eq_true ?_;omega)
  |(have hlt:i<64:=by
     have h9:decide ((i:Int)<64)=true:=by assumption
     have:=of_decide_eq_true h9
     omega
    have hlt':i<f.S.length:=by omega
    first
    |(refine decide_eq_true ?_;omega)
    |(rw[Bool.and_eq_true];exact⟨decide_eq_true (by omega),decide_eq_true (by omega)⟩)
    |exact inS_at hf.si hlt'
    |(refine F.right2_2 hlt' ?_;first|exact F.okB_0 (by assumption) hb | (simp only[F.okB,F.zeroA, *,F.okA_1,↓reduceIte,Bool.false_eq_true,Bool.not_true,Bool.not_false,Bool.and_false,Bool.false_and,Bool.true_and,Bool.and_true];done) | (have h9:=F.okA_2 (by assumption);simp only[F.okB, *,↓reduceIte,Bool.false_eq_true,Bool.and_false,Bool.false_and,Bool.true_and];done);done)
    |(refine(F.right2_2 hlt' ?_).symm;first|exact F.okB_0 (by assumption) hb | (simp only[F.okB,F.zeroA, *,F.okA_1,↓reduceIte,Bool.false_eq_true,Bool.not_true,Bool.not_false,Bool.and_false,Bool.false_and,Bool.true_and,Bool.and_true];done) | (have h9:=F.okA_2 (by assumption);simp only[F.okB, *,↓reduceIte,Bool.false_eq_true,Bool.and_false,Bool.false_and,Bool.true_and];done);done)
    |(refine⟨64 - (i+1),[.mix 44 [.arr 11 12 (gOf eA f.R),.arr 64 14 (gOf eS f.S),.int .i64 f.ids]],[0],by omega,rfl,mle_cons ble_refl mle_nil,rfl,rfl,i+1,by omega,rfl,?_,?_,rfl⟩
      . rw[all_take' eS.dft hlt',hallR,Bool.true_and]
        first | (first|exact F.okB_0 (by assumption) hb | (simp only[F.okB,F.zeroA, *,F.okA_1,↓reduceIte,Bool.false_eq_true,Bool.not_true,Bool.not_false,Bool.and_false,Bool.false_and,Bool.true_and,Bool.and_true];done) | (have h9:=F.okA_2 (by assumption);simp only[F.okB, *,↓reduceIte,Bool.false_eq_true,Bool.and_false,Bool.false_and,Bool.true_and];done);done) | (have h9:=F.okA_3 (by assumption) (by assumption);simp only[F.okB, *,↓reduceIte,Bool.not_false,Bool.true_and];done)
      . show[SV.ptr 0 0,.int .i64 (IntKind.i64.wrap ((i:Int)+1))]=_
        rw[i64_of (n:=(i:Int)+1) (by omega) (by omega)];rfl))
 all_goals (
  have hi64:i=64:=by
   have h9:decide ((i:Int)<64)=false:=by assumption
   have:=of_decide_eq_false h9
   omega
  have hallSA:f.S.all (F.okB f.ids)=true:=by rw[hi64,← hS,List.take_length] at hallR;exact hallR
  exact(F.right2_3 hallA hallSA).symm)
def k_gRight:List SV→List Blk→Res:=fun args _=>match args with
 |[.mix [.arr 11 12 g,.arr 64 14 h,.int .i64 ids]]=>.test (frB g h) (.ok (.bool (F.right (frD g h ids))) [])
 |_=>.fail
theorem k_gRight_ok:CtrOk Tryz.prog Gw 74 k_gRight:=by
 refine⟨fun _ _=>by kernel_rfl,fun args M => ?_⟩
 unfold k_gRight
 split
 . rename_i g h ids
   intro ht
   have hfr:frB g h=true:=ht
   exact ctr_fr (Γ:=⟨[(81,k_uRight)],eqs,[],[],[],mixs,meqs,[]⟩) (sv:=.bool (F.right (frD g h ids))) st_Gw ⟨(okCons k_uRight_ok okNil),eqs_ok,okNilB,okNilI,okNilP,mixs_ok,meqs_ok,okNilY⟩ Tryz.func74 rfl mixed [] (by kernel_rfl) 10000 (rest:=[]) hfr rfl (F.right2_eq (frD g h ids)▸gright_run _ (frD_wf hfr))
 . trivial
end Go.Proofs.YtfgkhenhlpoheaaGreat
namespace Go.Proofs.YtfgkhenhlpoheaaGreat
open Go.RowKit Go.Sx
set_option maxRecDepth 100000
set_option maxHeartbeats 4000000
namespace A
def mval (a v:Ab)(sz op off:Int):Int:=if v.k=1 then V.touch a off (size op) sz else 31
def tval (fs:List Fd)(at_:Int)(v:Ab)(op:Int):Int:=
 if v.k=1 then
    (if (K.field fs at_ (size op)).isSome=false then 32
    else if ((K.field fs at_ (size op)).getD eF.dft).k=1 then (if ((K.field fs at_ (size op)).getD eF.dft).w=true then 0 else 33)
    else 33)
 else 31
section
variable {fs:List Fd}{maps:List Mp}{a v:Ab}{op off o sz:Int}
theorem mval_n (h:(v.k==1)=false):mval a v sz op off=31:=by
 unfold mval;rw[if_neg (by simpa using h)]
theorem mval_t (h:(v.k==1)=true):mval a v sz op off=V.touch a off (size op) sz:=by
 unfold mval;rw[if_pos (eq_of_beq h)]
theorem tval_n (h:(v.k==1)=false):tval fs o v op=31:=by
 unfold tval;rw[if_neg (by simpa using h)]
theorem tval_a (h:(v.k==1)=true)(h1:(K.field fs o (size op)).isSome=false):tval fs o v op=32:=by
 unfold tval;rw[if_pos (eq_of_beq h),if_pos h1]
theorem tval_b (h:(v.k==1)=true)(h1:(K.field fs o (size op)).isSome=true)(h2:(((K.field fs o (size op)).getD eF.dft).k==1)=false):tval fs o v op=33:=by
 unfold tval;rw[if_pos (eq_of_beq h),if_neg (by rw[h1];exact Bool.false_ne_true.symm),if_neg (by simpa using h2)]
theorem tval_c (h:(v.k==1)=true)(h1:(K.field fs o (size op)).isSome=true)(h2:(((K.field fs o (size op)).getD eF.dft).k==1)=true)(h3:((K.field fs o (size op)).getD eF.dft).w=true):tval fs o v op=0:=by
 unfold tval;rw[if_pos (eq_of_beq h),if_neg (by rw[h1];exact Bool.false_ne_true.symm),if_pos (eq_of_beq h2),if_pos h3]
theorem tval_d (h:(v.k==1)=true)(h1:(K.field fs o (size op)).isSome=true)(h2:(((K.field fs o (size op)).getD eF.dft).k==1)=true)(h3:((K.field fs o (size op)).getD eF.dft).w=false):tval fs o v op=33:=by
 unfold tval;rw[if_pos (eq_of_beq h),if_neg (by rw[h1];exact Bool.false_ne_true.symm),if_pos (eq_of_beq h2),if_neg (by rw[h3];exact Bool.false_ne_true)]
end
def sval (f:Fr)(fs:List Fd)(maps:List Mp)(a v:Ab)(op off:Int):Int:=
 if a.k=2 then (F.store f (IntKind.i64.wrap (a.of+off)) (size op) v).2
 else if a.k=3 then tval fs (IntKind.i64.wrap (a.of+off)) v op
 else if a.k=4∨a.k=7∨a.k=8 then mval a v (specv maps a.mp) op off
 else 31
def okS (f:Fr)(maps:List Mp)(op dst src:Int):Bool:=((Go.bits .and .u8 op 7==2||Go.bits .and .u8 op 7==3)&&(decide (dst≤10)&&decide (src≤10)))&&(decide ((maps.length:Int)≤32)&&F.right f)
def what (f:Fr)(op src imm:Int):Ab:=if (Go.bits .and .u8 op 7==3)=true then f.R.getD src.toNat eA.dft else V.number (C.const (BitVec.ofInt 64 imm))
def store (f:Fr)(fs:List Fd)(maps:List Mp)(op dst src off imm:Int):Int:=
 if okS f maps op dst src=true then
    (if (f.R.getD dst.toNat eA.dft).k=0∨(what f op src imm).k=0 then 30
    else sval f fs maps (f.R.getD dst.toNat eA.dft) (what f op src imm) op off)
 else 2
def stoF (f:Fr)(fs:List Fd)(maps:List Mp)(op dst src off imm:Int):Fr:=
 if store f fs maps op dst src off imm=0 then (if (f.R.getD dst.toNat eA.dft).k=2 then (F.store f (IntKind.i64.wrap ((f.R.getD dst.toNat eA.dft).of+off)) (size op) (what f op src imm)).1 else f) else F.none
end A
theorem num_in {s:Sc}(h:R.inS s.s=true):R.inS (V.number s).n.s=true:=by
 unfold V.number
 split
 . exact h
 . rfl
namespace A
@[reducible] def st (f:Fr) (fs:List Fd) (maps:List Mp) (op dst src off imm:Int):Fr×Int:=(stoF f fs maps op dst src off imm,store f fs maps op dst src off imm)
section
variable {f:Fr}{fs:List Fd}{maps:List Mp}{op dst src off imm c:Int}
theorem okS_t (h1:(Go.bits .and .u8 op 7==2)=true∨(Go.bits .and .u8 op 7==3)=true)(h2:decide (dst≤10)=true)(h3:decide (src≤10)=true)(h4:decide ((maps.length:Int)≤32)=true)(h5:F.right f=true):okS f maps op dst src=true:=by
 unfold okS
 rcases h1 with h1|h1
 . rw[h1,h2,h3,h4,h5];rfl
 . rw[h1,h2,h3,h4,h5,Bool.or_true];rfl
theorem okS_1 (h1:(Go.bits .and .u8 op 7==2)=false)(h2:(Go.bits .and .u8 op 7==3)=false):okS f maps op dst src=false:=by
 unfold okS;rw[h1,h2];rfl
theorem okS_2 (h1:decide (dst≤10)=false):okS f maps op dst src=false:=by
 unfold okS;rw[h1,Bool.false_and,Bool.and_false];rfl
theorem okS_3 (h1:decide (src≤10)=false):okS f maps op dst src=false:=by
 unfold okS;rw[h1,Bool.and_false,Bool.and_false];rfl
theorem okS_4 (h1:decide ((maps.length:Int)≤32)=false):okS f maps op dst src=false:=by
 unfold okS;rw[h1,Bool.false_and,Bool.and_false]
theorem okS_5 (h1:F.right f=false):okS f maps op dst src=false:=by
 unfold okS;rw[h1,Bool.and_false,Bool.and_false]
theorem what_t (h:(Go.bits .and .u8 op 7==3)=true):what f op src imm=f.R.getD src.toNat eA.dft:=by
 unfold what;rw[if_pos h]
theorem what_f (h:(Go.bits .and .u8 op 7==3)=false):what f op src imm=V.number (C.const (BitVec.ofInt 64 imm)):=by
 unfold what;rw[if_neg (by rw[h];exact Bool.false_ne_true)]
theorem stoF_no (h:store f fs maps op dst src off imm=c)(hc:c≠0):stoF f fs maps op dst src off imm=F.none:=by
 unfold stoF;rw[if_neg (by rw[h];exact hc)]
theorem st_bad (h:okS f maps op dst src=false):st f fs maps op dst src off imm=(F.none,2):=by
 have:store f fs maps op dst src off imm=2:=by unfold store;rw[if_neg (by simp[h])]
 exact Prod.ext (stoF_no this (by decide)) this
theorem st_30 (h:okS f maps op dst src=true)(h':(f.R.getD dst.toNat eA.dft).k=0∨(what f op src imm).k=0):st f fs maps op dst src off imm=(F.none,30):=by
 have:store f fs maps op dst src off imm=30:=by unfold store;rw[if_pos h,if_pos h']
 exact Prod.ext (stoF_no this (by decide)) this
theorem store_is (h:okS f maps op dst src=true)(ha:(f.R.getD dst.toNat eA.dft).k≠0)(hv:(what f op src imm).k≠0)(e:sval f fs maps (f.R.getD dst.toNat eA.dft) (what f op src imm) op off=c):store f fs maps op dst src off imm=c:=by
 unfold store;rw[if_pos h,if_neg (by rintro(h1|h1);exact ha h1;exact hv h1),e]
theorem st_er (h:okS f maps op dst src=true)(ha:(f.R.getD dst.toNat eA.dft).k≠0)(hv:(what f op src imm).k≠0)(e:sval f fs maps (f.R.getD dst.toNat eA.dft) (what f op src imm) op off=c)(hc:c≠0):st f fs maps op dst src off imm=(F.none,c):=by
 have:=store_is h ha hv e
 exact Prod.ext (stoF_no this hc) this
theorem st_ok (h:okS f maps op dst src=true)(ha:(f.R.getD dst.toNat eA.dft).k≠0)(hv:(what f op src imm).k≠0)(e:sval f fs maps (f.R.getD dst.toNat eA.dft) (what f op src imm) op off=0)(hk:(f.R.getD dst.toNat eA.dft).k≠2):st f fs maps op dst src off imm=(f,0):=by
 have:=store_is h ha hv e
 refine Prod.ext ?_ this
 show stoF f fs maps op dst src off imm=f
 unfold stoF;rw[if_pos this,if_neg hk]
theorem st_2 {X:Ab}(h:okS f maps op dst src=true)(ha:(f.R.getD dst.toNat eA.dft).k≠0)(hv:(what f op src imm).k≠0)(e:sval f fs maps (f.R.getD dst.toNat eA.dft) (what f op src imm) op off=0)(hk:(f.R.getD dst.toNat eA.dft).k=2)(hx:what f op src imm=X):st f fs maps op dst src off imm=((F.store f (IntKind.i64.wrap ((f.R.getD dst.toNat eA.dft).of+off)) (size op) X).1,0):=by
 have:=store_is h ha hv e
 refine Prod.ext ?_ this
 show stoF f fs maps op dst src off imm=_
 unfold stoF;rw[if_pos this,if_pos hk,hx]
end
section
variable {f:Fr}{fs:List Fd}{maps:List Mp}{a v:Ab}{op off:Int}
theorem sval_2 (h:(a.k==2)=true):sval f fs maps a v op off=(F.store f (IntKind.i64.wrap (a.of+off)) (size op) v).2:=by
 unfold sval;rw[if_pos (eq_of_beq h)]
theorem sval_3 (h:(a.k==3)=true):sval f fs maps a v op off=tval fs (IntKind.i64.wrap (a.of+off)) v op:=by
 have:=eq_of_beq h
 unfold sval;rw[if_neg (by omega),if_pos this]
theorem sval_m (h:(a.k==4)=true∨(a.k==7)=true∨(a.k==8)=true):sval f fs maps a v op off=mval a v (specv maps a.mp) op off:=by
 simp only[beq_iff_eq] at h
 unfold sval;rw[if_neg (by omega),if_neg (by omega),if_pos h]
theorem sval_no (h2:(a.k==2)=false)(h3:(a.k==3)=false)(h4:(a.k==4)=false)(h7:(a.k==7)=false)(h8:(a.k==8)=false):sval f fs maps a v op off=31:=by
 simp only[beq_eq_false_iff_ne,ne_eq] at h2 h3 h4 h7 h8
 unfold sval;rw[if_neg h2,if_neg h3,if_neg (by omega)]
theorem k_ne {x y:Int}(h:(x==y)=true){z:Int}(hz:y≠z):x≠z:=by rw[eq_of_beq h];exact hz
end
end A
end Go.Proofs.YtfgkhenhlpoheaaGreat
