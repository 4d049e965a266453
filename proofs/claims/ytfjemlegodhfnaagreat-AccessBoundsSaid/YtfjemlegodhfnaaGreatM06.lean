import Derived.Test.YtfjemlegodhfnaaGreatM05
set_option linter.all false
namespace Go.Sx
open Go.RowKit Go.Proofs.YtfjemlegodhfnaaGreat
section
variable {P:Program}{G:World→Prop}{ev:Operand→SV}{M:List Blk}{o:Oper}
def fieldAddrS (P:Program)(M:List Blk)(t:TypeId)(f:Nat)(x:SV):Res:=match fieldS P t f with
 |none=>.fail
 |some fd=>match sizeS P fd.type with
  |some (_+1)=>match x with
   | .ptr n off=>match celB (nth M n) with
     |some _=>.ok (.ptr n (off+fd.offset)) []
     |_=>.fail
   | .ep n i sz j=>match nth M n with
     |some (.ro _ m _)=>.test (decide (i<m)) (.ok (.ep n i sz (j+fd.offset)) [])
     |some (.fz _ m _)=>.test (decide (i<m)) (.ok (.ep n i sz (j+fd.offset)) [])
     |some (.own _ _ m _)=>.test (decide (i<m)) (.ok (.ep n i sz (j+fd.offset)) [])
     |_=>.fail
   |_=>.fail
  |_=>.fail
theorem fieldS_info {t:TypeId}{f:Nat}{fd:Field}(h:fieldS P t f=some fd):∃ fs:Array Field,P.underlying t=some (.struct fs)∧fs[f]? = some fd:=by
 unfold fieldS at h
 split at h
 . rename_i fs hu
   refine⟨fs,hu,?_⟩
   rw[nth_eq] at h;simpa using h
 . cases h
theorem run_fieldAt_at {t:TypeId}{f:Nat}{fd:Field}{k:Nat}(hf:fieldS P t f=some fd)(hs:sizeS P fd.type=some (k+1))(w:World)(b o:Nat):
  (Instr.fieldAt t (.pointer (some ⟨b,o,none⟩)) f).run P w = .ok (.pointer (some ⟨b,o+fd.offset,none⟩)) w:=by
 obtain⟨fs,hu,hg⟩:=fieldS_info hf
 obtain⟨it,hi,hsz⟩:=sizeS_info hs
 simp[Instr.fieldAt,run_underlying hu,hg,Instr.sureAddr,fieldPlace,sizeOf,typeInfo,hi,hsz,Addr.add_lit]
theorem good_fieldAddr {t:TypeId}{x:Operand}{f:Nat}(ho:o.op = .fieldAddr t x f):(fieldAddrS P M t f (ev x)).good (OpOk P G ev M o):=by
 have hin:x∈o.op.operands:=by simp[ho,Op.operands]
 have key:∀ (sv:SV) (fd:Field) (k:Nat),fieldS P t f=some fd→sizeS P fd.type=some (k+1)→ev x ≠ .junk→
   (∀ (B:Bd) (ρ:Val) (w:World),MRel B ρ M w→∃ b o,(ev x).den ρ = .pointer (some ⟨b,o,none⟩)∧sv.den ρ = .pointer (some ⟨b,o+fd.offset,none⟩))→OpOk P G ev M o sv []:=by
  intro sv fd k hf hs hj h
  refine OpOk.same fun B ρ a w he hM => ?_
  obtain⟨b,off,h1,h2⟩:=h B ρ w hM
  refine⟨sv.den ρ,fun _=>rfl,?_⟩
  simp only[execOp,ho,he x hin hj,h1,h2,Sem.run_bind,run_fieldAt_at hf hs,Result.andThen_ok,Sem.run_pure]
 unfold fieldAddrS
 split
 . trivial
 . rename_i fd hf
   split
   . rename_i k hs
     split
     . rename_i n off hx
       split
       . rename_i xs hn
         refine key _ fd k hf hs (by rw[hx];simp) fun B ρ w hM => ?_
         obtain⟨l,ty,hl,h0,_⟩:=celB_ok hM hn
         exact⟨l.blk,l.off+off,by rw[hx];simp[SV.den,hl],by simp[SV.den,hl,Nat.add_assoc]⟩
       . trivial
     . rename_i n i sz j hx
       split
       . rename_i sz' m g hn
         intro hi
         refine key _ fd k hf hs (by rw[hx];simp) fun B ρ w hM => ?_
         obtain⟨l,hl,_⟩:=ro_cell (hM.ok n _ (by rw[← nth_eq];exact hn)) (i:=i) (by simpa using hi)
         exact⟨l.blk,l.off+i*sz+j,by rw[hx];simp[SV.den,hl],by simp[SV.den,hl,Nat.add_assoc]⟩
       . rename_i sz' m g hn
         intro hi
         refine key _ fd k hf hs (by rw[hx];simp) fun B ρ w hM => ?_
         obtain⟨l,hl,_⟩:=fz_cell (hM.ok n _ (by rw[← nth_eq];exact hn)) (i:=i) (by simpa using hi)
         exact⟨l.blk,l.off+i*sz+j,by rw[hx];simp[SV.den,hl],by simp[SV.den,hl,Nat.add_assoc]⟩
       . rename_i ty sz' m g hn
         intro hi
         refine key _ fd k hf hs (by rw[hx];simp) fun B ρ w hM => ?_
         obtain⟨l,hl,_⟩:=own_cell (hM.ok n _ (by rw[← nth_eq];exact hn)) (i:=i) (by simpa using hi)
         exact⟨l.blk,l.off+i*sz+j,by rw[hx];simp[SV.den,hl],by simp[SV.den,hl,Nat.add_assoc]⟩
       . trivial
     . trivial
   . trivial
def fieldVS (P:Program)(t:TypeId)(f:Nat)(x:SV):Res:=match x with
 | .agg xs=>match fieldS P t f with
   |some fd=>match partS P fd.type xs fd.offset with
    |some sv=>.ok sv []
    |none=>.fail
   |none=>.fail
 |_=>.fail
theorem run_part {t:TypeId}{xs:List SV}{off:Nat}{sv:SV}{ρ:Val}{w:World}(hp:partS P t xs off=some sv):
  (part t (denL ρ xs).toArray off).run P w = .ok (sv.den ρ) w∧sv ≠ .junk:=by
 unfold partS at hp
 split at hp
 . rename_i ha
   split at hp
   . rename_i n hn
     split at hp
     . obtain rfl:=Option.some.inj hp
       obtain⟨it,hi,hs⟩:=sizeS_info hn
       refine⟨?_,by simp⟩
       simp only[part,Sem.run_bind,aggS_run ha,Result.andThen_ok,if_true,sizeOf,typeInfo,SV.den,denL_drop_take]
       simp[hi,hs,List.drop_take]
     . cases hp
   . cases hp
 . rename_i ha
   split at hp
   . rename_i x hx
     split at hp
     . rename_i hnj
       obtain rfl:=Option.some.inj hp
       rw[nth_eq] at hx
       refine⟨?_,SV.nj_ne hnj⟩
       simp only[part,Sem.run_bind,aggS_run ha,Result.andThen_ok,Bool.false_eq_true,if_false]
       simp[denL_eq,hx]
     . cases hp
   . cases hp
 . cases hp
theorem good_field {t:TypeId}{x:Operand}{f:Nat}(ho:o.op = .field t x f):(fieldVS P t f (ev x)).good (OpOk P G ev M o):=by
 unfold fieldVS
 split
 . rename_i xs hx
   split
   . rename_i fd hf
     split
     . rename_i sv hp
       refine OpOk.same fun B ρ a w he hM=>⟨sv.den ρ,fun _=>rfl,?_⟩
       obtain⟨fs,hu,hg⟩:=fieldS_info hf
       have h1:=he x (by simp[ho,Op.operands]) (by rw[hx];simp)
       rw[hx] at h1
       simp only[execOp,ho,h1,SV.den,Instr.field,Sem.run_bind,run_underlying hu,Result.andThen_ok,hg,asAgg,Sem.run_pure,(run_part (ρ:=ρ) (w:=w) hp).1]
     . trivial
   . trivial
 . trivial
def natS:SV→Option (Bool×Nat)
 | .int _ i=>some (decide (0≤i),i.toNat)
 | .u64 x=>some (true,x.toNat)
 |_=>none
theorem natS_den {x:SV}{b:Bool}{i:Nat}(h:natS x=some (b,i))(hb:b=true):x ≠ .junk∧∃ k,∀ ρ,x.den ρ = .int k i:=by
 cases x<;>try (cases h;done)
 . rename_i k n
   simp only[natS,Option.some.injEq,Prod.mk.injEq] at h
   obtain⟨rfl,rfl⟩:=h
   simp only[decide_eq_true_eq] at hb
   exact⟨by simp,k,fun ρ=>by simp only[SV.den];rw[Int.toNat_of_nonneg hb]⟩
 . rename_i y
   simp only[natS,Option.some.injEq,Prod.mk.injEq] at h
   obtain⟨rfl,rfl⟩:=h
   exact⟨by simp,.u64,fun ρ=>rfl⟩
def indexAddrS (P:Program)(M:List Blk)(t:TypeId)(x ix:SV):Res:=match natS ix with
 |none=>.fail
 |some (nn,i)=>match x with
  | .sl n sz off len=>match P.underlying t with
    |some (.slice e)=>match sizeS P e with
     |some s=>match Nat.beq sz s with
      |true=>match nth M n with
       |some (.ro _ m _)=>.test (nn&&decide (i<len)) (.test (decide (off+i<m)) (.ok (.ep n (off+i) sz 0) []))
       |some (.fz _ m _)=>.test (nn&&decide (i<len)) (.test (decide (off+i<m)) (.ok (.ep n (off+i) sz 0) []))
       |some (.own _ _ m _)=>.test (nn&&decide (i<len)) (.test (decide (off+i<m)) (.ok (.ep n (off+i) sz 0) []))
       |b=>match celB b with
        |some _=>.test (nn&&decide (i<len)) (.ok (.ptr n ((off+i)*sz)) [])
        |none=>.fail
      |false=>.fail
     |none=>.fail
    |_=>.fail
  | .ptr n off=>match P.underlying t with
    |some (.array k e)=>match sizeS P e with
     |some s=>match celB (nth M n) with
      |some _=>.test (nn&&decide (i<k)) (.ok (.ptr n (off+i*s)) [])
      |_=>.fail
     |none=>.fail
    |_=>.fail
  |_=>.fail
theorem good_indexAddr {t:TypeId}{x ix:Operand}(ho:o.op = .indexAddr t x ix):(indexAddrS P M t (ev x) (ev ix)).good (OpOk P G ev M o):=by
 have hin:x∈o.op.operands:=by simp[ho,Op.operands]
 have hin':ix∈o.op.operands:=by simp[ho,Op.operands]
 have key:∀ (n sz off len i:Nat) (nn:Bool) (e:TypeId),ev x = .sl n sz off len→natS (ev ix)=some (nn,i)→P.underlying t=some (.slice e)→sizeS P e=some sz→(nn&&decide (i<len))=true→
   (∀ (B:Bd) (ρ:Val) (w:World),MRel B ρ M w→∃ l,ρ n=some l)→OpOk P G ev M o (.ep n (off+i) sz 0) []:=by
  intro n sz off len i nn e hx hi hu hs ht h
  simp only[Bool.and_eq_true,decide_eq_true_eq] at ht
  obtain⟨hnj,k,hk⟩:=natS_den hi ht.1
  obtain⟨ie,hie,hse⟩:=sizeS_info hs
  refine OpOk.same fun B ρ a w he hM => ?_
  obtain⟨l,hl⟩:=h B ρ w hM
  refine⟨_,fun _=>rfl,?_⟩
  have h1:=he x hin (by rw[hx];simp)
  rw[hx] at h1
  have h2:=he ix hin' hnj
  rw[hk] at h2
  have hlt:(0:Int)≤(i:Int)∧(i:Int) < (len:Int):=by omega
  have hsp:l.sp0 len=none:=l.sp0_pos (by omega)
  simp only[execOp,ho,h1,h2,SV.den,hl,hsp,Option.map_some,Instr.indexAt,asIntOf,Sem.run_bind,Sem.run_pure,Result.andThen_ok,run_underlying hu]
  simp only[hlt,and_self,if_true]
  simp[sizeOf,typeInfo,hie,hse,Addr.add_lit,Nat.add_mul,Nat.add_assoc,hlt]
 unfold indexAddrS
 split
 . trivial
 . rename_i nn i hi
   split
   . rename_i n sz off len hx
     split
     . rename_i e hu
       split
       . rename_i s hs
         split
         . rename_i hb
           obtain rfl:sz=s:=by simpa using hb
           split
           . rename_i sz' m g hn
             intro h1 h2
             exact key n sz off len i nn e hx hi hu hs h1 fun B ρ w hM=>(ro_cell (hM.ok n _ (by rw[← nth_eq];exact hn)) (i:=off+i) (by simpa using h2)).imp fun l hl=>hl.1
           . rename_i sz' m g hn
             intro h1 h2
             exact key n sz off len i nn e hx hi hu hs h1 fun B ρ w hM=>(fz_cell (hM.ok n _ (by rw[← nth_eq];exact hn)) (i:=off+i) (by simpa using h2)).imp fun l hl=>hl.1
           . rename_i ty sz' m g hn
             intro h1 h2
             exact key n sz off len i nn e hx hi hu hs h1 fun B ρ w hM=>(own_cell (hM.ok n _ (by rw[← nth_eq];exact hn)) (i:=off+i) (by simpa using h2)).imp fun l hl=>hl.1
           . split
             . rename_i xs hn
               intro ht
               simp only[Bool.and_eq_true,decide_eq_true_eq] at ht
               obtain⟨hnj,k,hk⟩:=natS_den hi ht.1
               obtain⟨ie,hie,hse⟩:=sizeS_info hs
               refine OpOk.same fun B ρ a w he hM => ?_
               obtain⟨l,ty,hl,h0,_⟩:=celB_ok hM hn
               refine⟨_,fun _=>rfl,?_⟩
               have h1:=he x hin (by rw[hx];simp)
               rw[hx] at h1
               have h2:=he ix hin' hnj
               rw[hk] at h2
               have hlt:(0:Int)≤(i:Int)∧(i:Int) < (len:Int):=by omega
               have hsp:l.sp0 len=none:=l.sp0_pos (by omega)
               simp only[execOp,ho,h1,h2,SV.den,hl,hsp,Option.map_some,Instr.indexAt,asIntOf,Sem.run_bind,Sem.run_pure,Result.andThen_ok,run_underlying hu]
               simp only[hlt,and_self,if_true]
               simp[sizeOf,typeInfo,hie,hse,Addr.add_lit,Nat.add_mul,Nat.add_assoc,hlt]
             . trivial
         . trivial
       . trivial
     . trivial
   . rename_i n off hx
     split
     . rename_i k e hu
       split
       . rename_i s hs
         split
         . rename_i xs hn
           intro ht
           simp only[Bool.and_eq_true,decide_eq_true_eq] at ht
           obtain⟨hnj,kk,hk⟩:=natS_den hi ht.1
           obtain⟨ie,hie,hse⟩:=sizeS_info hs
           refine OpOk.same fun B ρ a w he hM => ?_
           obtain⟨l,ty,hl,h0,_⟩:=celB_ok hM hn
           refine⟨_,fun _=>rfl,?_⟩
           have h1:=he x hin (by rw[hx];simp)
           rw[hx] at h1
           have h2:=he ix hin' hnj
           rw[hk] at h2
           have hlt:(0:Int)≤(i:Int)∧(i:Int) < (k:Int):=by omega
           simp only[execOp,ho,h1,h2,SV.den,hl,Option.map_some,Instr.indexAt,asIntOf,Sem.run_bind,Sem.run_pure,Result.andThen_ok,run_underlying hu,Instr.sureAddr]
           simp only[hlt,and_self,if_true]
           simp[sizeOf,typeInfo,hie,hse,Addr.add_lit,Nat.add_assoc,hlt]
         . trivial
       . trivial
     . trivial
   . trivial
def evL (ev:Operand→SV):List Operand→List SV
 |[]=>[]
 |x::l=>ev x::evL ev l
def njL:List SV→Bool
 |[]=>true
 |x::l=>x.nj&&njL l
theorem evL_eval {a:Act}{ρ:Val}:∀ (l:List Operand),(∀ x∈l,ev x ≠ .junk→a.eval x=(ev x).den ρ)→njL (evL ev l)=true→l.map a.eval=denL ρ (evL ev l)
 |[],_,_=>rfl
 |x::l,h,hn=>by
  simp only[evL,njL,Bool.and_eq_true] at hn
  simp only[List.map_cons,evL,denL,h x (by simp) (SV.nj_ne hn.1),evL_eval l (fun y hy=>h y (List.mem_cons_of_mem _ hy)) hn.2]
def makeFuncS (fn:Fn)(a b:List SV):Res:=match njL a&&njL b with
 |true=>.ok (.fn fn a b) []
 |false=>.fail
theorem good_makeFunc {fn:Fn}{fst cap:Array Operand}(ho:o.op = .makeFunc fn fst cap):(makeFuncS fn (evL ev fst.toList) (evL ev cap.toList)).good (OpOk P G ev M o):=by
 unfold makeFuncS
 split
 . rename_i hn
   simp only[Bool.and_eq_true] at hn
   refine OpOk.same fun B ρ a w he hM=>⟨_,fun _=>rfl,?_⟩
   have h1:=evL_eval (a:=a) (ρ:=ρ) fst.toList (fun x hx=>he x (by simp[ho,Op.operands];exact .inl (by simpa using hx))) hn.1
   have h2:=evL_eval (a:=a) (ρ:=ρ) cap.toList (fun x hx=>he x (by simp[ho,Op.operands];exact .inr (by simpa using hx))) hn.2
   have e1:fst.map a.eval=(denL ρ (evL ev fst.toList)).toArray:=by rw[← h1];apply Array.ext';simp
   have e2:cap.map a.eval=(denL ρ (evL ev cap.toList)).toArray:=by rw[← h2];apply Array.ext';simp
   simp only[execOp,ho,Instr.makeFunc,e1,e2,SV.den,Sem.run_bind,Sem.run_pure,Result.andThen_ok]
 . trivial
def extractS (x:SV)(i:Nat):Res:=match x with
 | .tup xs=>match nth xs i with
   |some v=>match v.nj with
    |true=>.ok v []
    |false=>.fail
   |none=>.fail
 |_=>.fail
theorem good_extract {x:Operand}{i:Nat}(ho:o.op = .extract x i):(extractS (ev x) i).good (OpOk P G ev M o):=by
 unfold extractS
 split
 . rename_i xs hx
   split
   . rename_i v hv
     split
     . rename_i hnj
       refine OpOk.same fun B ρ a w he hM=>⟨v.den ρ,fun _=>rfl,?_⟩
       have h1:=he x (by simp[ho,Op.operands]) (by rw[hx];simp)
       rw[hx] at h1
       rw[nth_eq] at hv
       simp[execOp,ho,h1,SV.den,Instr.extract,denL_eq,hv]
     . trivial
   . trivial
 . trivial
def lenS (P:Program)(t:TypeId)(x:SV):Res:=match P.underlying t with
 |some (.slice _)=>match x with
  | .sl _ _ _ len=>.ok (.int .i64 (len:Int)) []
  | .val (.slice _ n _)=>.ok (.int .i64 (n:Int)) []
  |_=>.fail
 |some .string=>match x with
  | .val (.string s)=>.ok (.int .i64 (s.size:Int)) []
  |_=>.fail
 |_=>.fail
theorem good_len {x:Operand}{t:TypeId}(ho:o.op = .call ⟨.builtin .len,#[x],#[t]⟩):(lenS P t (ev x)).good (OpOk P G ev M o):=by
 have hin:x∈o.op.operands:=by simp[ho,Op.operands,Call.operands]
 unfold lenS
 split
 . rename_i e hu
   split
   . rename_i n sz off len hx
     refine OpOk.same fun B ρ a w he hM=>⟨_,fun _=>rfl,?_⟩
     have h1:=he x hin (by rw[hx];simp)
     rw[hx] at h1
     simp[execOp,ho,resolve,invoke,builtin,h1,SV.den,Builtin.len_,run_underlying hu,goInt]
   . rename_i b n c hx
     refine OpOk.same fun B ρ a w he hM=>⟨_,fun _=>rfl,?_⟩
     have h1:=he x hin (by rw[hx];simp)
     rw[hx] at h1
     simp[execOp,ho,resolve,invoke,builtin,h1,SV.den,Builtin.len_,run_underlying hu,goInt]
   . trivial
 . rename_i hu
   split
   . rename_i s hx
     refine OpOk.same fun B ρ a w he hM=>⟨_,fun _=>rfl,?_⟩
     have h1:=he x hin (by rw[hx];simp)
     rw[hx] at h1
     simp[execOp,ho,resolve,invoke,builtin,h1,SV.den,Builtin.len_,run_underlying hu,goInt]
   . trivial
 . trivial
def minS:SV→SV→Res
 | .u64 a,.u64 b=>.ok (.u64 (if b<a then b else a)) []
 | .int k a,.int k' b=>match kEq k k' with
   |true=>.ok (.int k (if b<a then b else a)) []
   |false=>.fail
 |_,_=>.fail
def maxS:SV→SV→Res
 | .u64 a,.u64 b=>.ok (.u64 (if a<b then b else a)) []
 | .int k a,.int k' b=>match kEq k k' with
   |true=>.ok (.int k (if a<b then b else a)) []
   |false=>.fail
 |_,_=>.fail
theorem ite_uv (p:Prop)[Decidable p](a b:BitVec 64):(if p then uv a else uv b)=uv (if p then a else b):=by split<;>rfl
theorem good_min {x y:Operand}{ts:Array TypeId}(ho:o.op = .call ⟨.builtin .min,#[x,y],ts⟩):(minS (ev x) (ev y)).good (OpOk P G ev M o):=by
 have hin:x∈o.op.operands:=by simp[ho,Op.operands,Call.operands]
 have hin':y∈o.op.operands:=by simp[ho,Op.operands,Call.operands]
 unfold minS
 split
 . rename_i a b hx hy
   refine OpOk.same fun B ρ ac w he hM=>⟨_,fun _=>rfl,?_⟩
   have h1:=he x hin (by rw[hx];simp)
   have h2:=he y hin' (by rw[hy];simp)
   rw[hx] at h1;rw[hy] at h2
   simp[execOp,ho,resolve,invoke,builtin,h1,h2,SV.den,Builtin.min_,Builtin.min2,lt_uv,ite_uv]
 . rename_i k a k' b hx hy
   split
   . refine OpOk.same fun B ρ ac w he hM=>⟨_,fun _=>rfl,?_⟩
     have h1:=he x hin (by rw[hx];simp)
     have h2:=he y hin' (by rw[hy];simp)
     rw[hx] at h1;rw[hy] at h2
     simp[execOp,ho,resolve,invoke,builtin,h1,h2,SV.den,Builtin.min_,Builtin.min2]
   . trivial
 . trivial
theorem good_max {x y:Operand}{ts:Array TypeId}(ho:o.op = .call ⟨.builtin .max,#[x,y],ts⟩):(maxS (ev x) (ev y)).good (OpOk P G ev M o):=by
 have hin:x∈o.op.operands:=by simp[ho,Op.operands,Call.operands]
 have hin':y∈o.op.operands:=by simp[ho,Op.operands,Call.operands]
 unfold maxS
 split
 . rename_i a b hx hy
   refine OpOk.same fun B ρ ac w he hM=>⟨_,fun _=>rfl,?_⟩
   have h1:=he x hin (by rw[hx];simp)
   have h2:=he y hin' (by rw[hy];simp)
   rw[hx] at h1;rw[hy] at h2
   simp[execOp,ho,resolve,invoke,builtin,h1,h2,SV.den,Builtin.max_,Builtin.max2,lt_uv,ite_uv]
 . rename_i k a k' b hx hy
   split
   . refine OpOk.same fun B ρ ac w he hM=>⟨_,fun _=>rfl,?_⟩
     have h1:=he x hin (by rw[hx];simp)
     have h2:=he y hin' (by rw[hy];simp)
     rw[hx] at h1;rw[hy] at h2
     simp[execOp,ho,resolve,invoke,builtin,h1,h2,SV.den,Builtin.max_,Builtin.max2]
   . trivial
 . trivial
def callS (Γ:Env)(M:List Blk)(f:SV)(args:List SV):Res:=match f with
 | .fn (.func g) fst cap=>match njL args with
   |true=>match findC Γ.ctrs g with
    |some c=>c (fst++args++cap) M
    |none=>match findP Γ.prims g with
     |some c=>match c (fst++args++cap) with
      |some sv=>.ok sv []
      |none=>.fail
     |none=>.fail
   |false=>.fail
 |_=>.fail
theorem denL_append (ρ:Val)(a b:List SV):denL ρ (a++b)=denL ρ a++denL ρ b:=by simp[denL_eq]
theorem good_call {Γ:Env}(hΓ:EnvOk P G Γ){f:Operand}{args:Array Operand}{ts:Array TypeId}(ho:o.op = .call ⟨.value f,args,ts⟩):(callS Γ M (ev f) (evL ev args.toList)).good (OpOk P G ev M o):=by
 unfold callS
 split
 . rename_i g fst cap hf
   split
   . rename_i hn
     split
     . rename_i c hc
       obtain⟨hcall,hgood⟩:=hΓ.ctrs (g,c) (findC_mem Γ.ctrs g c hc)
       refine Res.good_mono (fun sv nb h => ?_) _ (hgood (fst++evL ev args.toList++cap) M)
       intro B ρ a w next Q he hM hGw hnext
       have h1:=he f (by simp[ho,Op.operands,Call.operands]) (by rw[hf];simp)
       rw[hf] at h1
       have h2:=evL_eval (a:=a) (ρ:=ρ) args.toList (fun x hx=>he x (by simp[ho,Op.operands,Call.operands];exact .inr (by simpa using hx))) hn
       have e2:args.map a.eval=(denL ρ (evL ev args.toList)).toArray:=by rw[← h2];apply Array.ext';simp
       have hr:(execOp a.eval o).run P w = .ok (.enter g (denL ρ (fst++evL ev args.toList++cap)).toArray) w:=by
        have:=hcall (denL ρ (fst++evL ev args.toList++cap)).toArray w
        simp only[denL_append,List.append_toArray] at this ⊢
        simp only[execOp,ho,resolve,e2,h1,SV.den,Deferred.ofValue,invoke,Sem.run_bind,Sem.run_pure,Result.andThen_ok,List.append_toArray,this]
       unfold Oper.wp
       rw[hr]
       show Calls P g _ w _
       refine(h B ρ w hGw hM).mono fun e w' hh => ?_
       obtain⟨ρ',v,rfl,hv,hρ,hb,hnew⟩:=hh
       exact hnext ρ' w' v hv hρ hb hnew
     . split
       . rename_i c hc
         split
         . rename_i sv hsv
           refine OpOk.same fun B ρ a w he _=>⟨sv.den ρ,fun _=>rfl,?_⟩
           have h1:=he f (by simp[ho,Op.operands,Call.operands]) (by rw[hf];simp)
           rw[hf] at h1
           have h2:=evL_eval (a:=a) (ρ:=ρ) args.toList (fun x hx=>he x (by simp[ho,Op.operands,Call.operands];exact .inr (by simpa using hx))) hn
           have e2:args.map a.eval=(denL ρ (evL ev args.toList)).toArray:=by rw[← h2];apply Array.ext';simp
           have:=hΓ.prims (g,c) (findP_mem Γ.prims g c hc) _ _ hsv ρ w
           simp only[denL_append,List.append_toArray] at this ⊢
           simp only[execOp,ho,resolve,e2,h1,SV.den,Deferred.ofValue,invoke,Sem.run_bind,Sem.run_pure,Result.andThen_ok,List.append_toArray,this]
         . trivial
       . trivial
   . trivial
 . trivial
end
end Go.Sx
