import Derived.Test.YtfjemlegodhfnaaGreatM38
import Derived.Test.YtfjemlegodhfnaaGreatM20
import Derived.Test.YtfjemlegodhfnaaGreatM21
set_option linter.all false
namespace Go.Proofs.YtfjemlegodhfnaaGreat
open Go.RowKit Go.Sx
set_option maxRecDepth 100000
set_option maxHeartbeats 4000000
def k_iSize:List SV→List Blk→Res:=fun args _=>match args with
 |[.agg [.int .u8 op,.int .u8 dst,.int .u8 src,.int .i16 off,.int .i32 imm]]=>.ok (.int .i64 (A.size op)) []
 |_=>.fail
theorem k_iSize_ok:CtrOk Tryz.prog Gw 28 k_iSize:=by
 refine⟨fun _ _=>by kernel_rfl,fun args M => ?_⟩
 unfold k_iSize
 split
 . rename_i op dst src off imm
   refine ctr_flat (Γ:=⟨[],eqs,[],[],[],mixs,meqs,[]⟩) (sv:=.int .i64 (A.size op)) st_Gw ⟨okNil,eqs_ok,okNilB,okNilI,okNilP,mixs_ok,meqs_ok,okNilY⟩ Tryz.func28 rfl mixed [] (by kernel_rfl) 10000 (by rfl) ?_
   (conv=>whnf)
   (repeat' (first | (refine step_t (by first|rfl|assumption) ?_;(conv=>whnf)) | (refine step_f (by first|rfl|assumption) ?_;(conv=>whnf)) | (refine step_nt (by assumption) ?_;(conv=>whnf)) | (refine step_nf (by assumption) ?_;(conv=>whnf)) | (refine step_n (fun hb => ?_) (fun hb => ?_)<;>(first|contradiction | (conv=>whnf))) | (refine And.intro (fun hb => ?_) (fun hb => ?_)<;>(first|contradiction | (conv=>whnf))) | (refine And.intro (a:=(_:Bool)=true) ?_ ?_;rotate_left 1;(conv=>whnf))))
   all_goals (first|rfl|trivial | (simp_all [eqv,eqv1,A.size];done))
 . trivial
def k_iSgn:List SV→List Blk→Res:=fun args _=>match args with
 |[.agg [.int .u8 op,.int .u8 dst,.int .u8 src,.int .i16 off,.int .i32 imm]]=>.ok (.bool (A.sgn op)) []
 |_=>.fail
theorem k_iSgn_ok:CtrOk Tryz.prog Gw 29 k_iSgn:=by
 refine⟨fun _ _=>by kernel_rfl,fun args M => ?_⟩
 unfold k_iSgn
 split
 . rename_i op dst src off imm
   refine ctr_flat (Γ:=⟨[],eqs,[],[],[],mixs,meqs,[]⟩) (sv:=.bool (A.sgn op)) st_Gw ⟨okNil,eqs_ok,okNilB,okNilI,okNilP,mixs_ok,meqs_ok,okNilY⟩ Tryz.func29 rfl mixed [] (by kernel_rfl) 10000 (by rfl) ?_
   (conv=>whnf)
   (repeat' (first | (refine step_t (by first|rfl|assumption) ?_;(conv=>whnf)) | (refine step_f (by first|rfl|assumption) ?_;(conv=>whnf)) | (refine step_nt (by assumption) ?_;(conv=>whnf)) | (refine step_nf (by assumption) ?_;(conv=>whnf)) | (refine step_n (fun hb => ?_) (fun hb => ?_)<;>(first|contradiction | (conv=>whnf))) | (refine And.intro (fun hb => ?_) (fun hb => ?_)<;>(first|contradiction | (conv=>whnf))) | (refine And.intro (a:=(_:Bool)=true) ?_ ?_;rotate_left 1;(conv=>whnf))))
   all_goals (first|rfl|trivial | (simp_all [eqv,eqv1,A.sgn];done))
 . trivial
def k_iSome:List SV→List Blk→Res:=fun args _=>match args with
 |[.agg [.int .u8 op,.int .u8 dst,.int .u8 src,.int .i16 off,.int .i32 imm]]=>.ok (abv (A.numb op)) []
 |_=>.fail
theorem k_iSome_ok:CtrOk Tryz.prog Gw 31 k_iSome:=by
 refine⟨fun _ _=>by kernel_rfl,fun args M => ?_⟩
 unfold k_iSome
 split
 . rename_i op dst src off imm
   refine ctr_flat (Γ:=⟨[(28,k_iSize),(29,k_iSgn),(46,k_cLow),(47,k_cUnknown),(17,k_vNumber)],eqs,[],[],[],mixs,meqs,[]⟩) (sv:=abv (A.numb op)) st_Gw ⟨(okCons k_iSize_ok (okCons k_iSgn_ok (okCons k_cLow_ok (okCons k_cUnknown_ok (okCons k_vNumber_ok okNil))))),eqs_ok,okNilB,okNilI,okNilP,mixs_ok,meqs_ok,okNilY⟩ Tryz.func31 rfl mixed [(1,10,[0,0,3,0,15,31,63,127,127,0,767,2047])] (by kernel_rfl) 10000 (by rfl) ?_
   (conv=>whnf)
   (repeat' (first | (refine step_t (by first|rfl|assumption) ?_;(conv=>whnf)) | (refine step_f (by first|rfl|assumption) ?_;(conv=>whnf)) | (refine step_nt (by assumption) ?_;(conv=>whnf)) | (refine step_nf (by assumption) ?_;(conv=>whnf)) | (refine step_n (fun hb => ?_) (fun hb => ?_)<;>(first|contradiction | (conv=>whnf))) | (refine And.intro (fun hb => ?_) (fun hb => ?_)<;>(first|contradiction | (conv=>whnf))) | (refine And.intro (a:=(_:Bool)=true) ?_ ?_;rotate_left 1;(conv=>whnf))))
   all_goals (first|rfl|trivial|exact C.low_in rfl _ _|exact ab_eqv rfl)
 . trivial
end Go.Proofs.YtfjemlegodhfnaaGreat
namespace Go.Proofs.YtfjemlegodhfnaaGreat
open Go.RowKit Go.Sx
set_option maxRecDepth 100000
set_option maxHeartbeats 4000000
theorem avcons {a b:AV}{l m:List AV}(h:AVEq a b)(k:AVEqL l m):AVEqL (a::l) (b::m):=⟨h,k⟩
def anyB:SV→Prop
 | .tt=>True
 | .ff=>True
 | .bool _=>True
 |_=>False
theorem anyB_is {x:SV}(h:anyB x){K:SV→Prop}(ht:K .tt)(hf:K .ff):∃ y,(∀ ρ ρ':Val,x.den ρ=y.den ρ')∧K y:=by
 cases x with
 |tt=>exact⟨.tt,fun _ _=>rfl,ht⟩
 |ff=>exact⟨.ff,fun _ _=>rfl,hf⟩
 |bool b=>cases b with
  |true=>exact⟨.tt,fun _ _=>rfl,ht⟩
  |false=>exact⟨.ff,fun _ _=>rfl,hf⟩
 |_=>exact h.elim
theorem fvl_cons {a b:FV}{l m:List FV}(h:FVEq a b)(k:FVEqL l m):FVEqL (a::l) (b::m):=⟨by simp[k.1],fun j x y hx hy=>by
 cases j with
 |zero=>
  simp only[List.getElem?_cons_zero,Option.some.injEq] at hx hy
  subst hx hy;exact h
 |succ j=>exact k.2 j x y (by simpa using hx) (by simpa using hy)⟩
def rowA {α:Type}(e:Enc α)(sz:Nat):FV→Option (Bool×List α)
 | .row s n g=>match Nat.beq s sz with
   |true=>some (allIs e 0 n g,elts e 0 n g)
   |false=>none
 | .val (.slice none 0 0)=>some (true,[])
 |_=>none
theorem rowA_eq {α:Type}{e:Enc α}{sz:Nat}{a:FV}{c:Bool}{L:List α}(h:rowA e sz a=some (c,L))(hc:c=true):FVEq a (.row sz L.length (gOf e L)):=by
 unfold rowA at h
 split at h
 . rename_i s n g
   split at h
   . rename_i hs
     obtain rfl:=Nat.eq_of_beq_eq_true hs
     simp only[Option.some.injEq,Prod.mk.injEq] at h
     obtain⟨rfl,rfl⟩:=h
     rw[elts_length]
     exact FVEq.of_rows fun i hi=>by rw[gOf_elts e hc i hi,Nat.zero_add]
   . cases h
 . simp only[Option.some.injEq,Prod.mk.injEq] at h
   obtain⟨_,rfl⟩:=h
   exact FVEq.nil
 . cases h
theorem i64_all {n:Int}(h0 : -9223372036854775808≤n)(h1:n<9223372036854775808):IntKind.i64.wrap n=n:=IntWalk.i64_in _ (by omega)
namespace K
def upto (p:Nat→Bool)(j:Nat):Bool:=(List.range j).all p
theorem upto_0 {p:Nat→Bool}:upto p 0=true:=rfl
theorem upto_next {p:Nat→Bool}{j:Nat}(h:upto p j=true)(k:p j=true):upto p (j+1)=true:=by
 unfold upto at *
 rw[List.range_succ,List.all_append,h]
 simpa using k
theorem upto_no {p:Nat→Bool}{j n:Nat}(h:j<n)(k:p j=false):upto p n=false:=by
 unfold upto
 rw[List.all_eq_false]
 exact⟨j,List.mem_range.2 h,by simpa using k⟩
theorem upto_at {p:Nat→Bool}{n:Nat}(h:upto p n=true){j:Nat}(hj:j<n):p j=true:=List.all_eq_true.1 h j (List.mem_range.2 hj)
theorem upto_of {p:Nat→Bool}{n:Nat}(h:∀ j,j<n→p j=true):upto p n=true:=List.all_eq_true.2 fun j hj=>h j (List.mem_range.1 hj)
theorem upto_all {α:Type}(p:α→Bool)(L:List α)(d:α):upto (fun i=>p (L.getD i d)) L.length=L.all p:=by
 rw[Bool.eq_iff_iff]
 constructor
 . intro h
   rw[List.all_eq_true]
   intro x hx
   obtain⟨i,hi,rfl⟩:=List.getElem_of_mem hx
   have:=upto_at h hi
   simpa [List.getD_eq_getElem?_getD,hi] using this
 . intro h
   refine upto_of fun j hj => ?_
   have:=List.all_eq_true.1 h (L[j]) (List.getElem_mem hj)
   simpa [List.getD_eq_getElem?_getD,hj] using this
end K
structure Ty where
 nm:ByteArray
 cx:Int
 fs:List Fd
 ns:List Nd
 lo:Int
 hi:Int
def Ty.no:Ty:=⟨⟨#[]⟩,0,[],[],0,0⟩
def cF:Cel Fd:=eF.toCel fun _=>rfl
def cN:Cel Nd:=eN.toCel fun _=>rfl
def cM:Cel Mp:=eM.toCel fun _=>rfl
theorem inv_cons2 {x y:FV}{l m:List FV}(h:FVEqL (x::l) (y::m)):FVEq x y∧FVEqL l m:=by
 obtain⟨x',l',e,h1,h2⟩:=h.inv_cons
 injection e with e1 e2
 subst e1 e2
 exact⟨h1,h2⟩
theorem int_eq {x:FV}{k:IntKind}{a b:Int}(h1:FVEq x (.int k a))(h2:FVEq x (.int k b)):a=b:=by
 have:=h1.inv_int.symm.trans h2.inv_int
 injection this
@[reducible] def celY (t:Ty):List FV:=[.val (.string t.nm),.int .i64 t.cx,.row 4 t.fs.length (gOf eF t.fs),.row 3 t.ns.length (gOf eN t.ns),.int .i64 t.lo,.int .i64 t.hi]
theorem str_eq {x:FV}{a b:ByteArray}(h1:FVEq x (.val (.string a)))(h2:FVEq x (.val (.string b))):a=b:=by
 have:=(h1.inv_flat rfl).symm.trans (h2.inv_flat rfl)
 injection this with this
 injection this
theorem celY_uniq {l:List FV}{a b:Ty}(h1:FVEqL l (celY a))(h2:FVEqL l (celY b)):a=b:=by
 obtain⟨x0,l0,rfl,p0,h1⟩:=h1.inv_cons
 obtain⟨x1,l1,rfl,p1,h1⟩:=h1.inv_cons
 obtain⟨x2,l2,rfl,p2,h1⟩:=h1.inv_cons
 obtain⟨x3,l3,rfl,p3,h1⟩:=h1.inv_cons
 obtain⟨x4,l4,rfl,p4,h1⟩:=h1.inv_cons
 obtain⟨x5,l5,rfl,p5,h1⟩:=h1.inv_cons
 obtain⟨q0,h2⟩:=inv_cons2 h2
 obtain⟨q1,h2⟩:=inv_cons2 h2
 obtain⟨q2,h2⟩:=inv_cons2 h2
 obtain⟨q3,h2⟩:=inv_cons2 h2
 obtain⟨q4,h2⟩:=inv_cons2 h2
 obtain⟨q5,h2⟩:=inv_cons2 h2
 have e0:=str_eq p0 q0
 have e1:=int_eq p1 q1
 have e2:=Cel.rows_uniq (c:=cF) p2 q2
 have e3:=Cel.rows_uniq (c:=cN) p3 q3
 have e4:=int_eq p4 q4
 have e5:=int_eq p5 q5
 cases a;cases b
 simp only at e0 e1 e2 e3 e4 e5
 subst e0 e1 e2 e3 e4 e5;rfl
def cY:Cel Ty:=⟨celY,Ty.no,celY_uniq⟩
def Ty.atMost (n:Nat)(t:Ty):Bool:=decide (t.nm.size≤n)&&(decide (t.fs.length≤n)&&decide (t.ns.length≤n))
theorem Ty.atMost_nm {n:Nat}{t:Ty}(h:t.atMost n=true):t.nm.size≤n:=by
 simp only[Ty.atMost,Bool.and_eq_true,decide_eq_true_eq] at h;exact h.1
theorem Ty.atMost_fs {n:Nat}{t:Ty}(h:t.atMost n=true):t.fs.length≤n:=by
 simp only[Ty.atMost,Bool.and_eq_true,decide_eq_true_eq] at h;exact h.2.1
theorem Ty.atMost_ns {n:Nat}{t:Ty}(h:t.atMost n=true):t.ns.length≤n:=by
 simp only[Ty.atMost,Bool.and_eq_true,decide_eq_true_eq] at h;exact h.2.2
theorem isY_at (t:Ty):cY.is [.val (.string t.nm),.int .i64 t.cx,.row 4 t.fs.length (shiftG 0 (gOf eF t.fs)),.row 3 t.ns.length (shiftG 0 (gOf eN t.ns)),.int .i64 t.lo,.int .i64 t.hi]=true:=Cel.is_of (a:=t) (FVEqL.refl _)
theorem decY_at (t:Ty):cY.dec [.val (.string t.nm),.int .i64 t.cx,.row 4 t.fs.length (shiftG 0 (gOf eF t.fs)),.row 3 t.ns.length (shiftG 0 (gOf eN t.ns)),.int .i64 t.lo,.int .i64 t.hi]=t:=Cel.dec_of (c:=cY) (a:=t) (FVEqL.refl _)
namespace K
def field (L:List Fd)(o z:Int):Option Fd:=L.find? fun f=>f.o==o&&f.z==z
theorem field_is {L:List Fd}{o z:Int}{j:Nat}(hj:j<L.length)(he:upto (fun i => !((L.getD i eF.dft).o==o&&(L.getD i eF.dft).z==z)) j=true)(h1:((L.getD j eF.dft).o==o)=true)(h2:((L.getD j eF.dft).z==z)=true):field L o z=some (L.getD j eF.dft):=by
 unfold field
 rw[List.find?_eq_some_iff_getElem]
 refine⟨by rw[h1,h2];rfl,j,hj,by simp[List.getD_eq_getElem?_getD,hj],fun i hi => ?_⟩
 have:=upto_at he hi
 simpa [List.getD_eq_getElem?_getD,show i<L.length by omega] using this
theorem field_no {L:List Fd}{o z:Int}(he:upto (fun i => !((L.getD i eF.dft).o==o&&(L.getD i eF.dft).z==z)) L.length=true):field L o z=none:=by
 unfold field
 rw[List.find?_eq_none]
 intro x hx
 obtain⟨i,hi,rfl⟩:=List.getElem_of_mem hx
 have:=upto_at he hi
 have hx:L.getD i eF.dft=L[i]:=by simp[List.getD_eq_getElem?_getD,hi]
 rw[hx] at this
 intro h
 rw[h] at this
 cases this
end K
namespace A
def specv (l:List Mp)(m:Int):Int:=if decide (m<0)=false∧decide ((l.length:Int)≤m)=false then (l.getD m.toNat eM.dft).val else 0
def cval (fs:List Fd)(at_:Int)(op:Int):Ab×Int:=
 if (K.field fs at_ (size op)).isSome=false then (V.zero,32)
 else if ((K.field fs at_ (size op)).getD eF.dft).k=1 then (numb op,0)
 else if sgn op=true then (V.zero,31)
 else if ((K.field fs at_ (size op)).getD eF.dft).k=2 then (⟨4,C.const (BitVec.ofInt 64 0),0,0,0,0,false⟩,0)
 else (⟨5,V.zero.n,0,0,0,0,false⟩,0)
def lval (f:Fr)(fs:List Fd)(maps:List Mp)(a:Ab)(op off:Int):Ab×Int:=
 if a.k=2 then F.load f (IntKind.i64.wrap (a.of+off)) (size op) (sgn op)
 else if a.k=3 then cval fs (IntKind.i64.wrap (a.of+off)) op
 else if a.k=4∨a.k=7∨a.k=8 then (numb op,V.touch a off (size op) (specv maps a.mp))
 else if a.k=0 then (V.zero,30)
 else (V.zero,31)
def okL (f:Fr)(maps:List Mp)(op dst src:Int):Bool:=(Go.bits .and .u8 op 7==1&&(decide (dst<10)&&decide (src≤10)))&&(decide ((maps.length:Int)≤32)&&F.right f)
def load (f:Fr)(fs:List Fd)(maps:List Mp)(op dst src off:Int):Fr×Int:=
 if okL f maps op dst src=true then
    (if (lval f fs maps (f.R.getD src.toNat eA.dft) op off).2=0 then (⟨f.R.set dst.toNat (lval f fs maps (f.R.getD src.toNat eA.dft) op off).1,f.S,f.ids⟩,0)
    else (F.none,(lval f fs maps (f.R.getD src.toNat eA.dft) op off).2))
 else (F.none,2)
end A
namespace A
theorem load_bad {f:Fr}{fs:List Fd}{maps:List Mp}{op dst src off:Int}(h:okL f maps op dst src=false):load f fs maps op dst src off=(F.none,2):=by
 unfold load;rw[if_neg (by simp[h])]
theorem load_err {f:Fr}{fs:List Fd}{maps:List Mp}{op dst src off c:Int}(h:okL f maps op dst src=true)(e:(lval f fs maps (f.R.getD src.toNat eA.dft) op off).2=c)(hc:c≠0):load f fs maps op dst src off=(F.none,c):=by
 unfold load;rw[if_pos h,if_neg (by rw[e];exact hc),e]
theorem load_ok {f:Fr}{fs:List Fd}{maps:List Mp}{op dst src off:Int}{v:Ab}(h:okL f maps op dst src=true)(e:lval f fs maps (f.R.getD src.toNat eA.dft) op off=(v,0)):load f fs maps op dst src off=(⟨f.R.set dst.toNat v,f.S,f.ids⟩,0):=by
 unfold load;rw[if_pos h,e];rfl
theorem okL_t {f:Fr}{maps:List Mp}{op dst src:Int}(h1:(Go.bits .and .u8 op 7==1)=true)(h2:decide (dst<10)=true)(h3:decide (src≤10)=true)(h4:decide ((maps.length:Int)≤32)=true)(h5:F.right f=true):okL f maps op dst src=true:=by
 unfold okL;rw[h1,h2,h3,h4,h5];rfl
theorem okL_1 {f:Fr}{maps:List Mp}{op dst src:Int}(h1:(Go.bits .and .u8 op 7==1)=false):okL f maps op dst src=false:=by
 unfold okL;rw[h1];rfl
theorem okL_2 {f:Fr}{maps:List Mp}{op dst src:Int}(h1:decide (dst<10)=false):okL f maps op dst src=false:=by
 unfold okL;rw[h1,Bool.false_and,Bool.and_false];rfl
theorem okL_3 {f:Fr}{maps:List Mp}{op dst src:Int}(h1:decide (src≤10)=false):okL f maps op dst src=false:=by
 unfold okL;rw[h1,Bool.and_false,Bool.and_false];rfl
theorem okL_4 {f:Fr}{maps:List Mp}{op dst src:Int}(h1:decide ((maps.length:Int)≤32)=false):okL f maps op dst src=false:=by
 unfold okL;rw[h1,Bool.false_and,Bool.and_false]
theorem okL_5 {f:Fr}{maps:List Mp}{op dst src:Int}(h1:F.right f=false):okL f maps op dst src=false:=by
 unfold okL;rw[h1,Bool.and_false,Bool.and_false]
section
variable {f:Fr}{fs:List Fd}{maps:List Mp}{a:Ab}{op off:Int}
theorem lval_0 (h:(a.k==0)=true):lval f fs maps a op off=(V.zero,30):=by
 have:=eq_of_beq h
 unfold lval;rw[if_neg (by omega),if_neg (by omega),if_neg (by omega),if_pos this]
theorem lval_2 (h:(a.k==2)=true):lval f fs maps a op off=F.load f (IntKind.i64.wrap (a.of+off)) (size op) (sgn op):=by
 unfold lval;rw[if_pos (eq_of_beq h)]
theorem lval_m (h:(a.k==4)=true∨(a.k==7)=true∨(a.k==8)=true):lval f fs maps a op off=(numb op,V.touch a off (size op) (specv maps a.mp)):=by
 simp only[beq_iff_eq] at h
 unfold lval;rw[if_neg (by omega),if_neg (by omega),if_pos h]
theorem lval_no (h0:(a.k==0)=false)(h2:(a.k==2)=false)(h3:(a.k==3)=false)(h4:(a.k==4)=false)(h7:(a.k==7)=false)(h8:(a.k==8)=false):lval f fs maps a op off=(V.zero,31):=by
 simp only[beq_eq_false_iff_ne,ne_eq] at h0 h2 h3 h4 h7 h8
 unfold lval;rw[if_neg h2,if_neg h3,if_neg (by omega),if_neg h0]
theorem lval_3 (h:(a.k==3)=true):lval f fs maps a op off=cval fs (IntKind.i64.wrap (a.of+off)) op:=by
 have:=eq_of_beq h
 unfold lval;rw[if_neg (by omega),if_pos this]
theorem lval_3ok (h:(a.k==3)=true)(e:((cval fs (IntKind.i64.wrap (a.of+off)) op).2==0)=true):lval f fs maps a op off=((cval fs (IntKind.i64.wrap (a.of+off)) op).1,0):=by
 rw[lval_3 h];exact Prod.ext rfl (eq_of_beq e)
end
section
variable {fs:List Fd}{o op:Int}
theorem cval_a (h1:(K.field fs o (size op)).isSome=false):cval fs o op=(V.zero,32):=by
 unfold cval;rw[if_pos h1]
theorem cval_b (h1:(K.field fs o (size op)).isSome=true)(h2:(((K.field fs o (size op)).getD eF.dft).k==1)=true):cval fs o op=(numb op,0):=by
 unfold cval;rw[if_neg (by rw[h1];exact Bool.false_ne_true.symm),if_pos (eq_of_beq h2)]
theorem cval_c (h1:(K.field fs o (size op)).isSome=true)(h2:(((K.field fs o (size op)).getD eF.dft).k==1)=false)(h3:sgn op=true):cval fs o op=(V.zero,31):=by
 simp only[beq_eq_false_iff_ne,ne_eq] at h2
 unfold cval;rw[if_neg (by rw[h1];exact Bool.false_ne_true.symm),if_neg h2,if_pos h3]
theorem cval_d (h1:(K.field fs o (size op)).isSome=true)(h2:(((K.field fs o (size op)).getD eF.dft).k==1)=false)(h3:sgn op=false)(h4:(((K.field fs o (size op)).getD eF.dft).k==2)=true):cval fs o op=(⟨4,C.const (BitVec.ofInt 64 0),0,0,0,0,false⟩,0):=by
 simp only[beq_eq_false_iff_ne,ne_eq] at h2
 unfold cval;rw[if_neg (by rw[h1];exact Bool.false_ne_true.symm),if_neg h2,if_neg (by rw[h3];exact Bool.false_ne_true),if_pos (eq_of_beq h4)]
theorem cval_e (h1:(K.field fs o (size op)).isSome=true)(h2:(((K.field fs o (size op)).getD eF.dft).k==1)=false)(h3:sgn op=false)(h4:(((K.field fs o (size op)).getD eF.dft).k==2)=false):cval fs o op=(⟨5,V.zero.n,0,0,0,0,false⟩,0):=by
 simp only[beq_eq_false_iff_ne,ne_eq] at h2 h4
 unfold cval;rw[if_neg (by rw[h1];exact Bool.false_ne_true.symm),if_neg h2,if_neg (by rw[h3];exact Bool.false_ne_true),if_neg h4]
end
section
variable {f:Fr}{fs:List Fd}{maps:List Mp}{a:Ab}{op off:Int}
theorem specv_1 {m:Int}(h:decide (m<0)=true):specv maps m=0:=by
 unfold specv;rw[if_neg (by rw[h];simp)]
theorem specv_2 {m:Int}(h:decide ((maps.length:Int)≤m)=true):specv maps m=0:=by
 unfold specv;rw[if_neg (by rw[h];simp)]
theorem specv_3 {m:Int}(h1:decide (m<0)=false)(h2:decide ((maps.length:Int)≤m)=false):specv maps m=(maps.getD m.toNat eM.dft).val:=by
 unfold specv;rw[if_pos ⟨h1,h2⟩]
end
end A
theorem set_fr {f:Fr}(hf:f.wf){i:Nat}(hi:i<11){v:Ab}{l:List FV}(hl:l=eA.enc v):eqv2 (.mix [.arr 11 12 (gSet (gOf eA f.R) i 0 l),.arr 64 14 (gOf eS f.S),.int .i64 f.ids]) (frv ⟨f.R.set i v,f.S,f.ids⟩):=
 eqv_fr (fun j hj=>(gSet_gOf eA (L:=f.R) (i:=i) (a:=v) (by rw[hf.r];exact hi) hl (by rw[hl];rfl) j (by rw[hf.r];exact hj)).symm) (fun _ _=>rfl) rfl
theorem beq_f {x:Int}(h:(x==0)=false):x≠0:=by simpa using h
namespace A
section
variable {f:Fr}{fs:List Fd}{maps:List Mp}{a:Ab}{op off:Int}
theorem lval_2ok (h:(a.k==2)=true)(e:((F.load f (IntKind.i64.wrap (a.of+off)) (size op) (sgn op)).2==0)=true):lval f fs maps a op off=((F.load f (IntKind.i64.wrap (a.of+off)) (size op) (sgn op)).1,0):=by
 rw[lval_2 h];exact Prod.ext rfl (eq_of_beq e)
theorem lval_mk (h:(a.k==4)=true∨(a.k==7)=true∨(a.k==8)=true)(e:(V.touch a off (size op) (specv maps a.mp)==0)=true):lval f fs maps a op off=(numb op,0):=by
 rw[lval_m h];exact Prod.ext rfl (eq_of_beq e)
theorem lval_mok {s:Int}(h:(a.k==4)=true∨(a.k==7)=true∨(a.k==8)=true)(hs:specv maps a.mp=s)(e:(V.touch a off (size op) s==0)=true):lval f fs maps a op off=(numb op,0):=by
 rw[lval_m h,hs];exact Prod.ext rfl (eq_of_beq e)
theorem lval_mer {s:Int}(h:(a.k==4)=true∨(a.k==7)=true∨(a.k==8)=true)(hs:specv maps a.mp=s):(lval f fs maps a op off).2=V.touch a off (size op) s:=by
 rw[lval_m h,hs]
end
end A
namespace A
def spec (l:List Mp)(m:Int):Mp:=if decide (m<0)=false∧decide ((l.length:Int)≤m)=false then l.getD m.toNat eM.dft else ⟨0,0,0,0⟩
theorem spec_val (l:List Mp)(m:Int):(spec l m).val=specv l m:=by
 unfold spec specv;split<;>rfl
theorem spec_1 {l:List Mp}{m:Int}(h:decide (m<0)=true):spec l m=⟨0,0,0,0⟩:=by
 unfold spec;rw[if_neg (by rw[h];simp)]
theorem spec_2 {l:List Mp}{m:Int}(h:decide ((l.length:Int)≤m)=true):spec l m=⟨0,0,0,0⟩:=by
 unfold spec;rw[if_neg (by rw[h];simp)]
theorem spec_3 {l:List Mp}{m:Int}(h1:decide (m<0)=false)(h2:decide ((l.length:Int)≤m)=false):spec l m=l.getD m.toNat eM.dft:=by
 unfold spec;rw[if_pos ⟨h1,h2⟩]
end A
end Go.Proofs.YtfjemlegodhfnaaGreat
namespace Go.Proofs.YtfjemlegodhfnaaGreat
open Go.RowKit Go.Sx
set_option maxRecDepth 100000
set_option maxHeartbeats 4000000
def mixt:List (TypeId×List SV):=(85,[.arr 11 12 (fun _=>[.int .u8 0,.u64 (BitVec.ofInt 64 0),.u64 (BitVec.ofInt 64 0),.u64 (BitVec.ofInt 64 0),.u64 (BitVec.ofInt 64 0),.int .i64 0,.int .i64 0,.int .i64 0,.int .i64 0,.int .i64 0,.int .i64 0,.bool false]),.arr 64 14 (fun _=>.bool false :: .int .u8 0::[.int .u8 0,.u64 (BitVec.ofInt 64 0),.u64 (BitVec.ofInt 64 0),.u64 (BitVec.ofInt 64 0),.u64 (BitVec.ofInt 64 0),.int .i64 0,.int .i64 0,.int .i64 0,.int .i64 0,.int .i64 0,.int .i64 0,.bool false]),.int .i64 0,.val (.string ⟨#[]⟩),.int .i64 0,.val (.slice none 0 0),.val (.slice none 0 0),.int .i64 0,.int .i64 0,.val (.slice none 0 0)])::mixs
theorem mixt_ok:∀ p∈mixt,MixOk Tryz.prog p.1 p.2:=by
 intro p hp
 rcases List.mem_cons.1 hp with rfl|hp
 . obtain⟨it,hi,v,hv,hc⟩:∃ it,Tryz.prog.info? 85=some it∧∃ v,it.zero=some v∧∀ ρ:Val,v.cells=(mixL [.arr 11 12 (fun _=>[.int .u8 0,.u64 (BitVec.ofInt 64 0),.u64 (BitVec.ofInt 64 0),.u64 (BitVec.ofInt 64 0),.u64 (BitVec.ofInt 64 0),.int .i64 0,.int .i64 0,.int .i64 0,.int .i64 0,.int .i64 0,.int .i64 0,.bool false]),.arr 64 14 (fun _=>.bool false :: .int .u8 0::[.int .u8 0,.u64 (BitVec.ofInt 64 0),.u64 (BitVec.ofInt 64 0),.u64 (BitVec.ofInt 64 0),.u64 (BitVec.ofInt 64 0),.int .i64 0,.int .i64 0,.int .i64 0,.int .i64 0,.int .i64 0,.int .i64 0,.bool false]),.int .i64 0,.val (.string ⟨#[]⟩),.int .i64 0,.val (.slice none 0 0),.val (.slice none 0 0),.int .i64 0,.int .i64 0,.val (.slice none 0 0)] (denL ρ [.arr 11 12 (fun _=>[.int .u8 0,.u64 (BitVec.ofInt 64 0),.u64 (BitVec.ofInt 64 0),.u64 (BitVec.ofInt 64 0),.u64 (BitVec.ofInt 64 0),.int .i64 0,.int .i64 0,.int .i64 0,.int .i64 0,.int .i64 0,.int .i64 0,.bool false]),.arr 64 14 (fun _=>.bool false :: .int .u8 0::[.int .u8 0,.u64 (BitVec.ofInt 64 0),.u64 (BitVec.ofInt 64 0),.u64 (BitVec.ofInt 64 0),.u64 (BitVec.ofInt 64 0),.int .i64 0,.int .i64 0,.int .i64 0,.int .i64 0,.int .i64 0,.int .i64 0,.bool false]),.int .i64 0,.val (.string ⟨#[]⟩),.int .i64 0,.val (.slice none 0 0),.val (.slice none 0 0),.int .i64 0,.int .i64 0,.val (.slice none 0 0)])).toArray:=⟨_,rfl,_,rfl,fun ρ=>by kernel_rfl⟩
   exact⟨⟨it,v,hi,hv,hc⟩,rfl⟩
 . exact mixs_ok p hp
end Go.Proofs.YtfjemlegodhfnaaGreat
