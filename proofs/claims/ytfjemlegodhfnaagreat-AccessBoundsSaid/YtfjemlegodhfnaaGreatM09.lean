import Derived.Test.YtfjemlegodhfnaaGreatM08
set_option linter.all false
namespace Go.Sx
open Go.RowKit Go.Proofs.YtfjemlegodhfnaaGreat
section
variable {P:Program}{G:World→Prop}{ev:Operand→SV}{M:List Blk}{o:Oper}
def loS (ev:Operand→SV):Option Operand→Option (Bool×Nat)
 |none=>some (true,0)
 |some x=>natS (ev x)
def hiS (ev:Operand→SV)(len:Nat):Option Operand→Option (Bool×Nat)
 |none=>some (true,len)
 |some x=>natS (ev x)
def sliceS (P:Program)(M:List Blk)(t:TypeId)(ev:Operand→SV)(x:SV)(lo hi:Option Operand):Res:=match P.underlying t with
 |some (.slice e)=>match sizeS P e,x with
  |some s,.sl n sz off len=>match loS ev lo,hiS ev len hi,lenB (nth M n),Nat.beq sz s with
   |some (b1,l),some (b2,h),some m,true=>.test (b1&&(b2&&(decide (l≤h)&&decide (h≤len)))) (.test (decide (off+len≤m)) (.split (decide (l<len)) (.ok (.sl n sz (off+l) (h-l)) []) (.ok (.sl M.length sz 0 0) [.ro sz 0 (fun _=>[])])))
   |_,_,_,_=>.fail
  |_,_=>.fail
 |_=>.fail
theorem run_bound {v:Value}{k:IntKind}{i y:Nat}(c:BoundsCode)(w:World)(hv:v = .int k i)(h:i≤y):(Instr.sliceBound v y c).run P w = .ok i w:=by
 have hh:(0:Int)≤(i:Int)∧(i:Int)≤(y:Int):=by omega
 simp[Instr.sliceBound,hv,asIntOf,hh,h]
theorem run_bounds {a:Act}{ρ:Val}{lo hi:Option Operand}{l h len cap:Nat}{b1 b2:Bool}(he:∀ x∈lo.toList++hi.toList,ev x ≠ .junk→a.eval x=(ev x).den ρ)(hl:loS ev lo=some (b1,l))(hh:hiS ev len hi=some (b2,h))(h1:b1=true)(h2:b2=true)
  (hlh:l≤h) (hlen:h≤len) (hcap:len≤cap) (w:World):(Instr.sliceBounds true len cap (lo.map a.eval) (hi.map a.eval) none).run P w = .ok (l,h,cap) w:=by
 have low:∀ (c:BoundsCode),(match lo.map a.eval with|some v=>Instr.sliceBound v h c|none=>(Pure.pure 0:Sem Nat)).run P w = .ok l w:=by
  intro c
  cases lo with
  |none=>simp only[loS,Option.some.injEq,Prod.mk.injEq] at hl;rw[← hl.2];rfl
  |some x=>
   obtain⟨hj,k,hk⟩:=natS_den hl h1
   exact run_bound c w (by rw[he x (by simp) hj,hk]) hlh
 have high:∀ (c:BoundsCode),(match hi.map a.eval with|some v=>Instr.sliceBound v cap c|none=>(Pure.pure len:Sem Nat)).run P w = .ok h w:=by
  intro c
  cases hi with
  |none=>simp only[hiS,Option.some.injEq,Prod.mk.injEq] at hh;rw[← hh.2];rfl
  |some x=>
   obtain⟨hj,k,hk⟩:=natS_den hh h2
   exact run_bound c w (by rw[he x (by simp) hj,hk]) (by omega)
 unfold Instr.sliceBounds
 cases hi with
 |none=>
  have hi':=high .sliceAcap
  simp only[Option.map_none] at hi'
  have lo':=low .sliceB
  cases lo with
  |none=>
   simp only[Option.map_none] at lo' ⊢
   simp only[Sem.run_bind,Sem.run_pure,Result.andThen_ok] at hi' lo' ⊢
   simp_all
  |some x=>
   simp only[Option.map_none,Option.map_some] at lo' ⊢
   simp only[Sem.run_bind,Sem.run_pure,Result.andThen_ok] at hi' lo' ⊢
   simp_all
 |some y=>
  have hi':=high .sliceAcap
  simp only[Option.map_some] at hi'
  have lo':=low .sliceB
  cases lo with
  |none=>
   simp only[Option.map_none] at lo' ⊢
   simp only[Option.map_some,Sem.run_bind,Sem.run_pure,Result.andThen_ok,if_true,hi'] at lo' ⊢
   simp_all
  |some x=>
   simp only[Option.map_some] at lo' ⊢
   simp only[Sem.run_bind,Sem.run_pure,Result.andThen_ok,if_true,hi',Option.isSome_none,Bool.false_eq_true,if_false,lo']
theorem good_slice {t:TypeId}{x:Operand}{lo hi:Option Operand}(ho:o.op = .slice t x lo hi none):(sliceS P M t ev (ev x) lo hi).good (OpOk P G ev M o):=by
 have hin:∀ y,y=x∨y∈lo.toList++hi.toList→y∈o.op.operands:=by
  intro y hy
  rcases hy with rfl|hy
  . simp[ho,Op.operands]
  . simp only[List.mem_append,Option.mem_toList] at hy
    simp[ho,Op.operands,hy]
 unfold sliceS
 split
 . rename_i e hu
   split
   . rename_i s n sz off len hs hx
     split
     . rename_i b1 l b2 h m hl hh hm hb
       obtain rfl:sz=s:=by simpa using hb
       intro ht1 ht2
       simp only[Bool.and_eq_true,decide_eq_true_eq] at ht1 ht2
       obtain⟨t1,t2,t3,t4⟩:=ht1
       obtain⟨ie,hie,hse⟩:=sizeS_info hs
       have run:∀ (B:Bd) (ρ:Val) (a:Act) (w:World),(∀ x∈o.op.operands,ev x ≠ .junk→a.eval x=(ev x).den ρ)→MRel B ρ M w→
         len≤((ρ n).map fun l=>l.cap).getD 0-off∧(0<len→∃ l,ρ n=some l)∧(execOp a.eval o).run P w = .ok (.value (.slice (if ((ρ n).map fun l=>l.cap).getD 0-off=l then (ρ n).map fun l=>⟨l.blk,l.off+off*sz,l.sp0 len⟩ else ((ρ n).map fun l=>(⟨l.blk,l.off+off*sz,l.sp0 len⟩:Addr)).map (·.add (l*sz))) (h-l) (((ρ n).map fun l=>l.cap).getD 0-off-l))) w:=by
        intro B ρ a w he hM
        have hbk:∃ b,nth M n=some b:=by cases hq:nth M n with
         |none=>rw[hq] at hm;cases hm
         |some b=>exact⟨b,rfl⟩
        obtain⟨b,hbn⟩:=hbk
        rw[hbn] at hm
        obtain⟨c1,c2⟩:=len_cap (hM.ok n b (by rw[← nth_eq];exact hbn)) hm
        have hcap:len≤((ρ n).map fun l=>l.cap).getD 0-off:=by
         cases hρ:ρ n with
         |none=>have:=c1 hρ;simp;omega
         |some l=>have:=c2 l hρ;simp;omega
        refine⟨hcap,fun hpos => ?_,?_⟩
        . cases hρ:ρ n with
          |none=>have:=c1 hρ;omega
          |some l=>exact⟨l,rfl⟩
        have h1:=he x (hin x (.inl rfl)) (by rw[hx];simp)
        rw[hx] at h1
        have hb:=run_bounds (P:=P) (a:=a) (ρ:=ρ) (cap:=((ρ n).map fun l=>l.cap).getD 0-off) (fun y hy=>he y (hin y (.inr hy))) hl hh t1 t2 t3 t4 hcap w
        have hszv:(sizeOf e).run P w = .ok sz w:=by simp[sizeOf,typeInfo,hie,hse]
        simp only[execOp,ho,h1,SV.den,Option.map_none,Instr.sliceAt,Instr.slice,Sem.run_bind,run_underlying hu,Result.andThen_ok,hb,hszv,Sem.run_pure]
       refine⟨fun hlt => ?_,fun hge => ?_⟩
       . simp only[decide_eq_true_eq] at hlt
         refine OpOk.same fun B ρ a w he hM => ?_
         obtain⟨hcap,hsome,hr⟩:=run B ρ a w he hM
         obtain⟨lc,hlc⟩:=hsome (by omega)
         refine⟨_,fun _=>rfl,?_⟩
         rw[hr,if_neg (by omega)]
         have hpc:0<lc.cap:=by rw[hlc] at hcap;simp at hcap;omega
         simp only[SV.den,hlc,Option.map_some,Option.getD_some,Loc.sp0_cap lc _ hpc,Addr.add_lit,Nat.add_mul,Nat.sub_sub,Nat.add_assoc]
       . simp only[decide_eq_false_iff_not] at hge
         intro B ρ a w next Q he hM hGw hn
         obtain⟨hcap,_,hr⟩:=run B ρ a w he hM
         rw[show h-l=0 by omega] at hr
         have hlen:l=len:=by omega
         have addr:∃ (r:Option Loc),(r=none→ρ n=none)∧(SV.sl M.length sz 0 0).den (setρ ρ M.length r) = .slice (if ((ρ n).map fun l=>l.cap).getD 0-off=l then (ρ n).map fun l=>⟨l.blk,l.off+off*sz,l.sp0 len⟩ else ((ρ n).map fun l=>(⟨l.blk,l.off+off*sz,l.sp0 len⟩:Addr)).map (·.add (l*sz))) 0 (((ρ n).map fun l=>l.cap).getD 0-off-l):=by
          cases hρ:ρ n with
          |none=>exact⟨none,fun _=>rfl,by simp[SV.den,setρ_self]⟩
          |some lc=>
           by_cases hc:lc.cap-off=l
           . exact⟨some ⟨lc.blk,lc.off+off*sz,0,lc.sp0 len,.inl rfl⟩,(fun h=>by cases h),by simp[SV.den,setρ_self,hc,Loc.sp0]⟩
           . have hpc:0<lc.cap:=by rw[hρ] at hcap;simp at hcap;omega
             exact⟨some ⟨lc.blk,lc.off+off*sz+l*sz,lc.cap-off-l,none,.inr rfl⟩,(fun h=>by cases h),by simp[SV.den,setρ_self,hc,Loc.sp0_cap lc _ hpc,Addr.add_lit]⟩
         obtain⟨r,hr0,hden⟩:=addr
         refine wp_of_run hr (hn (setρ ρ M.length r) _ _ (fun _=>hden.symm) (setρ_ext fun n hn'=>(by intro e;subst e;exact hn' ⟨Nat.le_refl _,by simp⟩)) (Below.refl _ _) (new_one ⟨fun _=>[],fun i hi=>absurd hi (Nat.not_lt_zero i),fun _=>rfl,fun l hl=>⟨Nat.zero_le _,fun h=>by omega,fun i hi=>by omega⟩⟩ (fun h=>by cases h) (fun k hk=>(hM.zhi k hk).1) (Nat.le_refl _)))
     . trivial
   . trivial
 . trivial
def indexS (P:Program)(t:TypeId)(x ix:SV):Res:=match natS ix with
 |some (nn,i)=>match x,P.underlying t with
  | .val (.string s),some .string=>.test (nn&&decide (i<s.size)) (.ok (.int .u8 ((s.data.getD i 0).toNat:Int)) [])
  | .agg xs,some (.array k e)=>match sizeS P e with
    |some n=>.test (nn&&decide (i<k)) (match partS P e xs (i*n) with
     |some sv=>.ok sv []
     |none=>.fail)
    |none=>.fail
  |_,_=>.fail
 |none=>.fail
theorem good_index {t:TypeId}{x ix:Operand}(ho:o.op = .index t x ix):(indexS P t (ev x) (ev ix)).good (OpOk P G ev M o):=by
 have hin:x∈o.op.operands:=by simp[ho,Op.operands]
 have hin':ix∈o.op.operands:=by simp[ho,Op.operands]
 unfold indexS
 split
 . rename_i nn i hi
   split
   . rename_i s hx hu
     intro ht
     simp only[Bool.and_eq_true,decide_eq_true_eq] at ht
     obtain⟨hnj,k,hk⟩:=natS_den hi ht.1
     refine OpOk.same fun B ρ a w he hM=>⟨_,fun _=>rfl,?_⟩
     have h1:=he x hin (by rw[hx];simp)
     rw[hx] at h1
     have h2:=he ix hin' hnj
     rw[hk] at h2
     have hlt:i<s.data.size:=ht.2
     have hg:s[i]? = some (s.data.getD i 0):=by
        rw[Array.getD_eq_getD_getElem?,Array.getElem?_eq_getElem hlt]
        exact dif_pos ht.2
     simp only[execOp,ho,h1,h2,SV.den,Instr.index,asIntOf,Sem.run_bind,Sem.run_pure,Result.andThen_ok,run_underlying hu]
     have h0:(0:Int)≤(i:Int):=by omega
     simp[h0,hg]
   . rename_i xs k e hx hu
     split
     . rename_i n hn
       intro ht
       simp only[Bool.and_eq_true,decide_eq_true_eq] at ht
       obtain⟨hnj,kk,hk⟩:=natS_den hi ht.1
       split
       . rename_i sv hp
         refine OpOk.same fun B ρ a w he hM=>⟨sv.den ρ,fun _=>rfl,?_⟩
         have h1:=he x hin (by rw[hx];simp)
         rw[hx] at h1
         have h2:=he ix hin' hnj
         rw[hk] at h2
         obtain⟨ie,hie,hse⟩:=sizeS_info hn
         have hszv:(sizeOf e).run P w = .ok n w:=by simp[sizeOf,typeInfo,hie,hse]
         have h0:(0:Int)≤(i:Int)∧(i:Int) < (k:Int):=by omega
         simp only[execOp,ho,h1,h2,SV.den,Instr.index,asIntOf,Sem.run_bind,Sem.run_pure,Result.andThen_ok,run_underlying hu]
         rw[if_pos h0]
         simp only[Sem.run_bind,hszv,Result.andThen_ok,Int.toNat_natCast,(run_part (ρ:=ρ) (w:=w) hp).1,Sem.run_pure]
       . trivial
     . trivial
   . trivial
 . trivial
def ifNil (P:Program)(t:TypeId)(op:BinOp)(x:SV)(y:Operand):Option Res:=match y with
 | .const .nilIface=>match P.underlying t,op,x with
   |some (.interface _),.neq,.val (.iface _ _)=>some (.ok .tt [])
   |some (.interface _),.neq,.val .nilIface=>some (.ok .ff [])
   |_,_,_=>none
 |_=>none
def makeIfS (P:Program)(t:TypeId)(x:SV):Res:=match P.underlying t with
 |some (.interface _)=>.fail
 |some _=>match x with
  | .int k n=>.ok (.val (.iface t (.int k n))) []
  |_=>.fail
 |none=>.fail
def typeAsS (P:Program)(t:TypeId)(x:SV):Res:=match P.underlying t with
 |some (.interface _)=>.fail
 |some _=>match x with
  | .val (.iface u (.int k n))=>match Nat.beq u t with
    |true=>.ok (.tup [.int k n,.tt]) []
    |false=>.fail
  |_=>.fail
 |none=>.fail
theorem run_neq_nil {t:TypeId}{ms:Array (String×TypeId)}(hu:P.underlying t=some (.interface ms))(x y:Operand)(v:Value)(b:Bool)(w:World)(hg:(eqGuard .neq t x y v .nilIface).run P w = .ok () w)
  (hv:(b=true∧∃ u z,v = .iface u z)∨(b=false∧v = .nilIface)):
  (do eqGuard .neq t x y v .nilIface;binOp .neq t v .nilIface:Sem Value).run P w = .ok (.bool b) w:=by
 have h:∀ d,(Op.equalIn (d+1) t v .nilIface).run P w = .ok (!b) w:=fun d=>by
  rcases hv with⟨rfl,u,z,rfl⟩ | ⟨rfl,rfl⟩<;>simp[Op.equalIn,run_underlying hu]
 have e:binOp .neq t v .nilIface=(do pure (.bool (!(← Op.equal t v .nilIface)))):=by rcases hv with⟨_,u,z,rfl⟩ | ⟨_,rfl⟩<;>rfl
 rw[Sem.run_bind,hg,e]
 simp only[Result.andThen_ok,Sem.run_bind]
 rw[show Op.equal t v .nilIface=Op.equalIn (9999+1) t v .nilIface from rfl,h 9999]
 simp
theorem good_ifNil {op:BinOp}{t yt:TypeId}{x y:Operand}(ho:o.op = .binOp op t x y yt){r:Res}(h:ifNil P t op (ev x) y=some r):r.good (OpOk P G ev M o):=by
 have hin:x∈o.op.operands:=by simp[ho,Op.operands]
 unfold ifNil at h
 split at h
 . split at h
   . rename_i ms u z hu hx
     obtain rfl:=Option.some.inj h
     refine OpOk.same fun B ρ a w he hM=>⟨.bool true,fun _=>rfl,?_⟩
     have e1:=he x hin (by rw[hx];simp)
     rw[hx] at e1
     have e2:a.eval (.const .nilIface) = .nilIface:=rfl
     have h2:=run_neq_nil (P:=P) hu x (.const .nilIface) (.iface u z) true w (by simp[eqGuard]) (.inl ⟨rfl,u,z,rfl⟩)
     simp only[execOp,ho,e1,e2,SV.den]
     rw[Sem.run_bind,h2]
     rfl
   . rename_i ms hu hx
     obtain rfl:=Option.some.inj h
     refine OpOk.same fun B ρ a w he hM=>⟨.bool false,fun _=>rfl,?_⟩
     have e1:=he x hin (by rw[hx];simp)
     rw[hx] at e1
     have e2:a.eval (.const .nilIface) = .nilIface:=rfl
     have h2:=run_neq_nil (P:=P) hu x (.const .nilIface) .nilIface false w (by simp[eqGuard]) (.inr ⟨rfl,rfl⟩)
     simp only[execOp,ho,e1,e2,SV.den]
     rw[Sem.run_bind,h2]
     rfl
   . cases h
 . cases h
theorem good_makeIf {t:TypeId}{x:Operand}(ho:o.op = .makeInterface t x):(makeIfS P t (ev x)).good (OpOk P G ev M o):=by
 have hin:x∈o.op.operands:=by simp[ho,Op.operands]
 unfold makeIfS
 split
 . trivial
 . rename_i d hne hu
   split
   . rename_i k n hx
     refine OpOk.same fun B ρ a w he hM=>⟨.iface t (.int k n),fun _=>rfl,?_⟩
     have e1:=he x hin (by rw[hx];simp)
     rw[hx] at e1
     simp only[execOp,ho,e1,SV.den,Instr.makeInterface,Sem.run_bind,run_underlying hu,Result.andThen_ok]
     cases d<;>first|rfl|exact absurd rfl (hne _)
   . trivial
 . trivial
theorem good_typeAs {t xt:TypeId}{x:Operand}(ho:o.op = .typeAssert x xt t true):(typeAsS P t (ev x)).good (OpOk P G ev M o):=by
 have hin:x∈o.op.operands:=by simp[ho,Op.operands]
 unfold typeAsS
 split
 . trivial
 . rename_i d hne hu
   split
   . rename_i u k n hx
     split
     . rename_i hb
       obtain rfl:=Nat.eq_of_beq_eq_true hb
       refine OpOk.same fun B ρ a w he hM=>⟨.tuple #[.int k n,.bool true],fun _=>rfl,?_⟩
       have e1:=he x hin (by rw[hx];simp)
       rw[hx] at e1
       simp only[execOp,ho,e1,SV.den,Instr.typeAssert,Sem.run_bind,run_underlying hu,Result.andThen_ok]
       cases d<;>first | (simp;done)|exact absurd rfl (hne _)
     . trivial
   . trivial
 . trivial
def fvSM (M:List Blk)(x:SV):Option (Bool×FV):=match x with
 | .sl n sz off len=>match nth M n with
   |some (.fz sz' m g)=>match Nat.beq sz sz' with
    |true=>some (decide (off+len≤m),.row sz len fun i=>g (off+i))
    |false=>none
   |_=>none
 |x=>match fvS x with
  |some y=>some (true,y)
  |none=>none
def fvLM (M:List Blk):List SV→Option (Bool×List FV)
 |[]=>some (true,[])
 |x::l=>match fvSM M x,fvLM M l with
  |some (b,y),some (c,m)=>some (b&&c,y::m)
  |_,_=>none
theorem fvS_flat {x:SV}{y:FV}(h:fvS x=some y):y.flat=true:=by
 cases x<;>first | (obtain rfl:=Option.some.inj h;rfl) | (cases h)
theorem fvSM_ok {M:List Blk}{B:Bd}{ρ:Val}{w:World}(hM:MRel B ρ M w){x:SV}{b:Bool}{y:FV}(h:fvSM M x=some (b,y))(hb:b=true):∃ q:FV,Rep ρ.z w y q∧x.den ρ=q.den:=by
 unfold fvSM at h
 split at h
 . rename_i n sz off len
   split at h
   . rename_i sz' m g hn
     split at h
     . rename_i hs
       obtain rfl:sz=sz':=by simpa using hs
       obtain⟨rfl,rfl⟩:=Prod.mk.inj (Option.some.inj h)
       simp only[decide_eq_true_eq] at hb
       obtain⟨q,hr,h0,h1⟩:=hM.ok n _ (by rw[← nth_eq];exact hn)
       refine⟨.val (rowV ((ρ n).map fun l=>⟨l.blk,l.off+off*sz,l.cap-off,l.sp,l.ok.imp_left fun h=>by omega⟩) len),.row _ (fun i=>q (off+i)) (fun e => ?_) (fun k hk => ?_) (fun k hk hn => ?_) (fun i hi => ?_) (fun k i j x hk hi hx => ?_) (fun i hi=>(hr _ (by omega)).1) (fun i j x y hi hx hy=>(hr _ (by omega)).2 j x y hx hy),?_⟩
       . cases hl:ρ n with
         |none=>have:=h0 hl;omega
         |some l=>rw[hl] at e;cases e
       . cases hl:ρ n with
         |none=>rw[hl] at hk;cases hk
         |some l=>rw[hl] at hk;obtain rfl:=Option.some.inj hk;have:=(h1 l hl).1;show len≤l.cap-off;omega
       . cases hl:ρ n with
         |none=>rw[hl] at hk;cases hk
         |some l=>rw[hl] at hk;obtain rfl:=Option.some.inj hk;exact(h1 l hl).2.1 (by omega)
       . cases hl:ρ n with
         |none=>have:=h0 hl;omega
         |some l=>exact((h1 l hl).2.2 (off+i) (by omega)).1
       . cases hl:ρ n with
         |none=>rw[hl] at hk;cases hk
         |some l=>
          rw[hl] at hk;obtain rfl:=Option.some.inj hk
          have:=((h1 l hl).2.2 (off+i) (by omega)).2 j x hx
          rw[← this];show w.cell? ⟨l.blk,l.off+off*sz+i*sz+j,none⟩=w.cell? ⟨l.blk,l.off+(off+i)*sz+j,none⟩
          congr 2;rw[Nat.add_mul];omega
       . simp only[FV.den,SV.den,rowV]
         cases hl:ρ n with
         |none=>have:=h0 hl;simp
         |some l=>simp
     . cases h
   . cases h
 . split at h
   . rename_i y' hy
     obtain⟨rfl,rfl⟩:=Prod.mk.inj (Option.some.inj h)
     exact⟨y',.flat (fvS_flat hy),fvS_den hy ρ⟩
   . cases h
theorem fvLM_ok {M:List Blk}{B:Bd}{ρ:Val}{w:World}(hM:MRel B ρ M w):∀ {l:List SV} {b:Bool} {m:List FV},fvLM M l=some (b,m)→b=true→∃ q:List FV,RepL ρ.z w m q∧denL ρ l=q.map FV.den
 |[],b,m,h,_=>by
  obtain⟨rfl,rfl⟩:=Prod.mk.inj (Option.some.inj h)
  exact⟨[],⟨rfl,by simp⟩,rfl⟩
 |x::l,b,m,h,hb=>by
  simp only[fvLM] at h
  split at h
  . rename_i b1 y c m' h1 h2
    obtain⟨rfl,rfl⟩:=Prod.mk.inj (Option.some.inj h)
    simp only[Bool.and_eq_true] at hb
    obtain⟨q1,r1,e1⟩:=fvSM_ok hM h1 hb.1
    obtain⟨q2,r2,e2⟩:=fvLM_ok hM h2 hb.2
    refine⟨q1::q2,⟨by simp[r2.1],fun j x y hx hy => ?_⟩,by simp only[denL,List.map_cons,e1,e2]⟩
    cases j with
    |zero=>
     simp at hx hy;subst hx;subst hy;exact r1
    |succ j=>exact r2.2 j x y (by simpa using hx) (by simpa using hy)
  . cases h
theorem fvLM_length {M:List Blk}:∀ {l:List SV} {b:Bool} {m:List FV},fvLM M l=some (b,m)→m.length=l.length
 |[],b,m,h=>by obtain⟨rfl,rfl⟩:=Prod.mk.inj (Option.some.inj h);rfl
 |x::l,b,m,h=>by
  simp only[fvLM] at h
  split at h
  . rename_i b1 y c m' h1 h2
    obtain⟨rfl,rfl⟩:=Prod.mk.inj (Option.some.inj h)
    simp[fvLM_length h2]
  . cases h
def fvT (M:List Blk)(l:List SV):Option (Bool×List FV):=match fvL l with
 |some m=>some (true,m)
 |none=>fvLM M l
theorem fvT_ok {M:List Blk}{B:Bd}{ρ:Val}{w:World}(hM:MRel B ρ M w){l:List SV}{b:Bool}{m:List FV}(h:fvT M l=some (b,m))(hb:b=true):∃ q:List FV,RepL ρ.z w m q∧denL ρ l=q.map FV.den:=by
 unfold fvT at h
 split at h
 . rename_i m' hm
   obtain⟨rfl,rfl⟩:=Prod.mk.inj (Option.some.inj h)
   exact⟨m',RepL.refl (fvL_flat hm),fvL_den hm ρ⟩
 . exact fvLM_ok hM h hb
theorem fvT_length {M:List Blk}{l:List SV}{b:Bool}{m:List FV}(h:fvT M l=some (b,m)):m.length=l.length:=by
 unfold fvT at h
 split at h
 . rename_i m' hm
   obtain⟨rfl,rfl⟩:=Prod.mk.inj (Option.some.inj h)
   have:=congrArg List.length (fvL_den hm ⟨fun _=>none,fun _=>False⟩)
   simpa [denL_eq] using this.symm
 . exact fvLM_length h
def buildSliceZ (P:Program)(M:List Blk)(t:TypeId)(len:Nat)(parts:List (Nat×SV)):Res:=match P.underlying t with
 |some (.slice e)=>match sizeS P e,zeroS P e with
  |some sz,some z=>match njP parts,Nat.ble (len*sz) 16777216,Nat.ble 1 sz,Nat.beq z.length sz with
   |true,true,true,true=>match fillS (fun i=>some (i*sz,sz)) (repL z len) parts with
    |some xs=>match fvT M xs,Nat.beq xs.length (len*sz)&&oneL xs with
     |some (b,l),true=>.test b (.ok (.sl M.length sz 0 len) [.fz sz len (fun i=>(l.drop (i*sz)).take sz)])
     |_,_=>.fail
    |none=>.fail
   |_,_,_,_=>.fail
  |_,_=>.fail
 |_=>.fail
theorem good_buildSliceZ {t:TypeId}{len:Nat}{parts:Array (Nat×Operand)}(ho:o.op = .buildSlice t len parts):(buildSliceZ P M t len (evP ev parts.toList)).good (OpOk P G ev M o):=by
 unfold buildSliceZ
 split
 . rename_i e hu
   split
   . rename_i sz z hsz hz
     split
     . rename_i hnj hle h1 hzl
       split
       . rename_i xs hf
         have run:∀ (B:Bd) (ρ:Val) (a:Act) (w:World),(∀ x∈o.op.operands,ev x ≠ .junk→a.eval x=(ev x).den ρ)→(execOp a.eval o).run P w = .ok (.value (.slice (some ⟨w.heap.size,0,none⟩) len len)) (w.alloc (.cells (denL ρ xs).toArray e)):=by
          intro B ρ a w hx
          have hle':len*sz≤16777216:=Nat.le_of_ble_eq_true hle
          have h1':1≤sz:=Nat.le_of_ble_eq_true h1
          have hzl':z.length=sz:=Nat.eq_of_beq_eq_true hzl
          obtain⟨it,v,hi,hv,hc⟩:=zeroS_den hz
          obtain⟨it',hi',hs'⟩:=sizeS_info hsz
          obtain rfl:it=it':=by rw[hi] at hi';exact Option.some.inj hi'
          have he:=evP_eval (a:=a) (ρ:=ρ) parts.toList (fun p hp=>hx p.2 (by simp[ho,Op.operands];exact⟨p.1,by simpa using hp⟩)) hnj
          have hfill:=fill_of (ρ:=ρ) _ _ _ hf
          rw[repL_den ρ z v (hc ρ) (by omega) len,hzl',← he] at hfill
          have hvs:v.cells.size=sz:=by rw[hc ρ];simp[denL_eq,hzl']
          have hzv:(zeroValue e).run P w = .ok v w:=by simp[zeroValue,typeInfo,hi,hv]
          have hszv:(sizeOf e).run P w = .ok sz w:=by simp[sizeOf,typeInfo,hi,hs']
          have hne : ¬ len*sz > 2^24:=by omega
          by_cases hz0:len*sz=0
          . have hfill':Instr.fill (fun i=>some (i*sz,sz)) ((Array.range (len*sz)).map fun i=>(#[]:Array Value)[i % (#[]:Array Value).size]!) (parts.map fun(i,x)=>(i,a.eval x)).toList=some (denL ρ xs).toArray:=by
             rw[← hfill,hz0,Array.range_zero'];simp
            simp only[execOp,ho,Instr.buildSlice,Sem.run_bind,run_underlying hu,Result.andThen_ok,hszv]
            rw[if_neg hne,if_pos hz0]
            simp only[Sem.run_bind,Sem.run_pure,Result.andThen_ok,hfill',newRow,newObj]
            rfl
          . have hfill':Instr.fill (fun i=>some (i*sz,sz)) ((Array.range (len*sz)).map fun i=>v.cells[i % v.cells.size]!) (parts.map fun(i,x)=>(i,a.eval x)).toList=some (denL ρ xs).toArray:=by
             rw[← hfill];simp
            simp only[execOp,ho,Instr.buildSlice,Sem.run_bind,run_underlying hu,Result.andThen_ok,hszv]
            rw[if_neg hne,if_neg hz0]
            simp only[Sem.run_bind,Sem.run_pure,Result.andThen_ok,hzv,hfill',newRow,newObj]
            rfl
         split
         . rename_i bt l hl hlen
           intro hbt B ρ a w next Q hx hM hGw hn
           simp only[Bool.and_eq_true] at hlen
           have hlen':xs.length=len*sz:=Nat.eq_of_beq_eq_true hlen.1
           have hr:=run B ρ a w hx
           obtain⟨q,hq,hd⟩:=fvT_ok hM hl hbt
           have hql:q.length=len*sz:=by rw[← hq.1,fvT_length hl];exact hlen'
           have hmul:∀ i,i<len→i*sz+sz≤len*sz:=fun i hi=>by
            have:(i+1)*sz≤len*sz:=Nat.mul_le_mul_right _ hi
            rw[Nat.succ_mul] at this;omega
           have hbel:Below w.heap.size w (w.alloc (.cells (denL ρ xs).toArray e)):=(Below.refl _ _).alloc (Nat.le_refl _) _
           have hnew:(w.alloc (.cells (denL ρ xs).toArray e)).heap[w.heap.size]? = some (.cells (denL ρ xs).toArray e (0,0)):=by rw[heap_alloc,if_pos rfl]
           have hlt:w.heap.size < (w.alloc (.cells (denL ρ xs).toArray e)).heap.size:=(Array.getElem?_eq_some_iff.1 hnew).1
           let ρ':Val:=⟨fun n=>if n=M.length then some ⟨w.heap.size,0,len,none,.inr rfl⟩ else ρ n,fun k=>ρ.z k∨k=w.heap.size⟩
           have e0:ρ' M.length=some ⟨w.heap.size,0,len,none,.inr rfl⟩:=by show(if M.length=M.length then _ else _)=_;rw[if_pos rfl]
           have zsame:∀ k,ρ.z k→(w.alloc (.cells (denL ρ xs).toArray e)).heap[k]? = w.heap[k]? := fun k hk=>hbel.block k (hM.zhi k hk).1
           refine wp_of_run hr (hn ρ' _ _ (fun _ => ?_) ⟨fun n hn'=>if_neg (by rintro rfl;exact hn' ⟨Nat.le_refl _,by simp⟩),fun k hk=>.inl hk,fun k hk=>hk.imp_right fun h=>by omega⟩ hbel ⟨fun k c h => ?_,fun k c l' h ho' => ?_,fun i j b c l' k h1 h2 h3 o1 => ?_,fun k c l' h ho' => ?_,fun k hk => ?_,fun k hk hk2 => ?_⟩)
           . simp[SV.den,e0]
           . cases k with
             |succ k=>simp at h
             |zero=>
              simp at h;subst h
              refine⟨fun i=>(q.drop (i*sz)).take sz,fun i _=>(hq.part _ _).mono (fun k hk=>.inl hk) zsame,And.intro (fun hn=>by rw[Nat.add_zero,e0] at hn;cases hn) (fun l' hl' => ?_)⟩
              rw[Nat.add_zero,e0] at hl'
              obtain rfl:=Option.some.inj hl'
              refine⟨Nat.le_refl _,fun _=>.inr rfl,fun i hi=>⟨⟨?_,fun x hx => ?_⟩,fun j x hx => ?_⟩⟩
              . have:=hmul i hi
                simp only[List.length_take,List.length_drop,hql];omega
              . have hxl:x∈q:=List.mem_of_mem_drop (List.mem_of_mem_take hx)
                exact oneL_den (ρ:=ρ) hlen.2 _ (by rw[hd];exact List.mem_map_of_mem hxl)
              . rw[List.getElem?_take,List.getElem?_drop] at hx
                split at hx
                . have hq':(denL ρ xs)[i*sz+j]? = some x.den:=by rw[hd,List.getElem?_map,hx];rfl
                  simp only[World.cell?,hnew,Nat.zero_add]
                  simpa using hq'
                . cases hx
           . cases k with
             |zero=>simp at h;subst h;cases ho'
             |succ k=>simp at h
           . cases i with
             |zero=>simp at h2;subst h2;cases o1
             |succ k=>simp at h2
           . cases k with
             |zero=>simp at h;subst h;cases ho'
             |succ k=>simp at h
           . rcases hk with hk|rfl
             . exact Nat.lt_of_lt_of_le (hM.zhi k hk).1 hbel.size
             . exact hlt
           . rcases hk with hk|rfl
             . have:=(hM.zhi k hk).1;omega
             . exact⟨_,_,_,hnew⟩
         . trivial
       . trivial
     . trivial
   . trivial
 . trivial
def stepH (P:Program)(Γ:Env)(ev:Operand→SV)(M:List Blk)(o:Oper):Res:=match o.op with
 | .move x=>.ok (ev x) []
 | .assign x=>.ok (ev x) []
 | .pick c x y=>match ev c with
   | .tt=>.ok (ev x) []
   | .ff=>.ok (ev y) []
   | .bool t=>.split t (.ok (ev x) []) (.ok (ev y) [])
   |_=>.fail
 | .alloc e=>match findX Γ.mixs e with
   |some xs=>.ok (.ptr M.length 0) [.mix e xs]
   |none=>allocS P M e
 | .box e x=>match ev x with
   | .mix xs=>boxM M e xs
   |y=>boxS M e y
 | .build t parts=>match findX Γ.mixs t with
   |some z=>buildM P t z (evP ev parts.toList)
   |none=>buildR P t (evP ev parts.toList)
 | .buildSlice t len parts=>match findX Γ.mixs t with
   |some _=>buildSliceZ P M t len (evP ev parts.toList)
   |none=>buildSliceS P M t len (evP ev parts.toList)
 | .load t x=>match mixP M (ev x) with
   |some xs=>loadM P t xs (ev x)
   |none=>loadS P M t (ev x)
 | .nilCheck x=>match mixP M (ev x) with
   |some _=>.ok (ev x) []
   |none=>nilCheckS M (ev x)
 | .binOp op t x y _=>match ifNil P t op (ev x) y with
   |some r=>r
   |none=>match nilSl P M t op (ev x) (ev y) with
    |some r=>r
    |none=>match ev x,ev y with
     | .mix xs,.mix ys=>eqMixS Γ.meqs t op xs ys
     |_,_=>binT P Γ.eqs t op (ev x) (ev y)
 | .makeInterface t x=>makeIfS P t (ev x)
 | .typeAssert x _ t true=>typeAsS P t (ev x)
 | .unOp op _ x=>unS op (ev x)
 | .convert s d x=>match strB P M s d (ev x) with
   |some r=>r
   |none=>convS P s d (ev x)
 | .makeFunc fn fst cap=>makeFuncS fn (evL ev fst.toList) (evL ev cap.toList)
 | .makeMap _ none=>.ok (.mp M.length) [.map []]
 | .slice t x lo hi none=>sliceS P M t ev (ev x) lo hi
 | .fieldAddr t x f=>match mixP M (ev x) with
   |some xs=>fieldAddrM P xs t f (ev x)
   |none=>fieldAddrS P M t f (ev x)
 | .field t x f=>match ev x with
   | .mix xs=>fieldM P t f xs
   |y=>fieldVS P t f y
 | .indexAddr t x ix=>match mixP M (ev x) with
   |some xs=>indexAddrM P xs t (ev x) (ev ix)
   |none=>indexAddrS P M t (ev x) (ev ix)
 | .index t x ix=>match ev x with
   | .arr n sz g=>indexA P t n sz g (ev ix)
   |y=>indexS P t y (ev ix)
 | .lookup t x ix ok=>lookupS P Γ.eqs M t ok (ev x) (ev ix)
 | .extract x i=>extractS (ev x) i
 | .call c=>match c.callee with
   | .value f=>callS Γ M (ev f) (evL ev c.args.toList)
   | .builtin .len=>match c.args.toList,c.argTypes.toList with
     |[x],[t]=>lenS P t (ev x)
     |_,_=>.fail
   | .builtin .min=>match c.args.toList with
     |[x,y]=>minS (ev x) (ev y)
     |_=>.fail
   | .builtin .max=>match c.args.toList with
     |[x,y]=>maxS (ev x) (ev y)
     |_=>.fail
   |_=>.fail
 |_=>.fail
theorem stepH_good {Γ:Env}(hΓ:EnvOk P G Γ):(stepH P Γ ev M o).good (OpOk P G ev M o):=by
 unfold stepH
 split
 all_goals (rename_i ho)
 . exact ok_move (.inl ho)
 . exact ok_move (.inr ho)
 . exact good_pick ho
 . split
   . rename_i xs hf
     exact ok_allocM ho (hΓ.mixs _ (findX_mem _ _ _ hf))
   . exact good_alloc ho
 . split
   . rename_i xs hx
     exact good_boxM ho hx
   . exact good_box ho
 . split
   . rename_i z hf
     exact good_buildM ho (hΓ.mixs _ (findX_mem _ _ _ hf))
   . exact good_build ho
 . split
   . exact good_buildSliceZ ho
   . exact good_buildSlice ho
 . split
   . rename_i xs hx
     exact good_loadM ho hx
   . exact good_load ho
 . split
   . rename_i xs hx
     exact ok_nilCheckM ho hx
   . exact good_nilCheck ho
 . split
   . rename_i r hr
     exact good_ifNil ho hr
   . split
     . rename_i r hr
       exact good_nilSl ho hr
     . split
       . rename_i xs ys hx hy
         exact good_eqMix hΓ.meqs ho hx hy
       . exact good_bin hΓ.eqs ho
 . exact good_makeIf ho
 . exact good_typeAs ho
 . exact good_un ho
 . split
   . rename_i r hr
     exact good_strB ho hr
   . exact good_conv ho
 . exact good_makeFunc ho
 . exact ok_makeMap ho
 . exact good_slice ho
 . split
   . rename_i xs hx
     exact good_fieldAddrM ho hx
   . exact good_fieldAddr ho
 . split
   . rename_i xs hx
     exact good_fieldM ho hx
   . exact good_field ho
 . split
   . rename_i xs hx
     exact good_indexAddrM ho hx
   . exact good_indexAddr ho
 . split
   . rename_i n sz g hx
     exact good_indexA ho hx
   . exact good_index ho
 . exact good_lookup hΓ.eqs ho
 . exact good_extract ho
 . rename_i c
   obtain⟨callee,args,ts⟩:=c
   split
   . rename_i f hc
     simp only at hc;subst hc
     exact good_call hΓ ho
   . rename_i hc
     simp only at hc;subst hc
     split
     . rename_i x t h1 h2
       have e1:args = #[x]:=by apply Array.ext';exact h1
       have e2:ts = #[t]:=by apply Array.ext';exact h2
       subst e1 e2
       exact good_len ho
     . trivial
   . rename_i hc
     simp only at hc;subst hc
     split
     . rename_i x y h1
       have e1:args = #[x,y]:=by apply Array.ext';exact h1
       subst e1
       exact good_min ho
     . trivial
   . rename_i hc
     simp only at hc;subst hc
     split
     . rename_i x y h1
       have e1:args = #[x,y]:=by apply Array.ext';exact h1
       subst e1
       exact good_max ho
     . trivial
   . trivial
 . trivial
end
end Go.Sx
