import Derived.Test.YtfgkhenhlpoheaaGreatM02
set_option linter.all false
namespace Go.Sx
open Go.RowKit Go.Proofs.YtfgkhenhlpoheaaGreat
section
variable {P:Program}{G:World→Prop}{ev:Operand→SV}{M:List Blk}{o:Oper}
def fieldAddrS (P:Program)(M:List Blk)(t:TypeId)(f:Nat)(x:SV):Res:=match fieldS P t f with
 |none=>.fail
 |some fd=>match sizeS P fd.type with
  |some (_+1)=>match x with
   | .ptr n off=>match celB (nth M n) with
     |some _=>.ok (.ptr n (off+fd.offset)) []
     |_=>.fail
   | .ep n i sz j=>match nth M n with
     |some (.ro _ m _)=>.test (decide (i<m)) (.ok (.ep n i sz (j+fd.offset)) [])
     |some (.fz _ m _)=>.test (decide (i<m)) (.ok (.ep n i sz (j+fd.offset)) [])
     |some (.own _ _ m _)=>.test (decide (i<m)) (.ok (.ep n i sz (j+fd.offset)) [])
     |_=>.fail
   |_=>.fail
  |_=>.fail
theorem fieldS_info {t:TypeId}{f:Nat}{fd:Field}(h:fieldS P t f=some fd):∃ fs:Array Field,P.underlying t=some (.struct fs)∧fs[f]? = some fd:=by
 unfold fieldS at h
 split at h
 . rename_i fs hu
   refine⟨fs,hu,?_⟩
   rw[nth_eq] at h;simpa using h
 . cases h
theorem run_fieldAt_at {t:TypeId}{f:Nat}{fd:Field}{k:Nat}(hf:fieldS P t f=some fd)(hs:sizeS P fd.type=some (k+1))(w:World)(b o:Nat):
  (Instr.fieldAt t (.pointer (some ⟨b,o,none⟩)) f).run P w = .ok (.pointer (some ⟨b,o+fd.offset,none⟩)) w:=by
 obtain⟨fs,hu,hg⟩:=fieldS_info hf
 obtain⟨it,hi,hsz⟩:=sizeS_info hs
 simp[Instr.fieldAt,run_underlying hu,hg,Instr.sureAddr,fieldPlace,sizeOf,typeInfo,hi,hsz,Addr.add_lit]
theorem good_fieldAddr {t:TypeId}{x:Operand}{f:Nat}(ho:o.op = .fieldAddr t x f):(fieldAddrS P M t f (ev x)).good (OpOk P G ev M o):=by
 have hin:x∈o.op.operands:=by simp[ho,Op.operands]
 have key:∀ (sv:SV) (fd:Field) (k:Nat),fieldS P t f=some fd→sizeS P fd.type=some (k+1)→ev x ≠ .junk→
   (∀ (B:Bd) (ρ:Val) (w:World),MRel B ρ M w→∃ b o,(ev x).den ρ = .pointer (some ⟨b,o,none⟩)∧sv.den ρ = .pointer (some ⟨b,o+fd.offset,none⟩))→OpOk P G ev M o sv []:=by
  intro sv fd k hf hs hj h
  refine OpOk.same fun B ρ a w he hM => ?_
  obtain⟨b,off,h1,h2⟩:=h B ρ w hM
  refine⟨sv.den ρ,fun _=>rfl,?_⟩
  simp only[execOp,ho,he x hin hj,h1,h2,Sem.run_bind,run_fieldAt_at hf hs,Result.andThen_ok,Sem.run_pure]
 unfold fieldAddrS
 split
 . trivial
 . rename_i fd hf
   split
   . rename_i k hs
     split
     . rename_i n off hx
       split
       . rename_i xs hn
         refine key _ fd k hf hs (by rw[hx];simp) fun B ρ w hM => ?_
         obtain⟨l,ty,hl,h0,_⟩:=celB_ok hM hn
         exact⟨l.blk,l.off+off,by rw[hx];simp[SV.den,hl],by simp[SV.den,hl,Nat.add_assoc]⟩
       . trivial
     . rename_i n i sz j hx
       split
       . rename_i sz' m g hn
         intro hi
         refine key _ fd k hf hs (by rw[hx];simp) fun B ρ w hM => ?_
         obtain⟨l,hl,_⟩:=ro_cell (hM.ok n _ (by rw[← nth_eq];exact hn)) (i:=i) (by simpa using hi)
         exact⟨l.blk,l.off+i*sz+j,by rw[hx];simp[SV.den,hl],by simp[SV.den,hl,Nat.add_assoc]⟩
       . rename_i sz' m g hn
         intro hi
         refine key _ fd k hf hs (by rw[hx];simp) fun B ρ w hM => ?_
         obtain⟨l,hl,_⟩:=fz_cell (hM.ok n _ (by rw[← nth_eq];exact hn)) (i:=i) (by simpa using hi)
         exact⟨l.blk,l.off+i*sz+j,by rw[hx];simp[SV.den,hl],by simp[SV.den,hl,Nat.add_assoc]⟩
       . rename_i ty sz' m g hn
         intro hi
         refine key _ fd k hf hs (by rw[hx];simp) fun B ρ w hM => ?_
         obtain⟨l,hl,_⟩:=own_cell (hM.ok n _ (by rw[← nth_eq];exact hn)) (i:=i) (by simpa using hi)
         exact⟨l.blk,l.off+i*sz+j,by rw[hx];simp[SV.den,hl],by simp[SV.den,hl,Nat.add_assoc]⟩
       . trivial
     . trivial
   . trivial
def fieldVS (P:Program)(t:TypeId)(f:Nat)(x:SV):Res:=match x with
 | .agg xs=>match fieldS P t f with
   |some fd=>match partS P fd.type xs fd.offset with
    |some sv=>.ok sv []
    |none=>.fail
   |none=>.fail
 |_=>.fail
theorem run_part {t:TypeId}{xs:List SV}{off:Nat}{sv:SV}{ρ:Val}{w:World}(hp:partS P t xs off=some sv):
  (part t (denL ρ xs).toArray off).run P w = .ok (sv.den ρ) w∧sv ≠ .junk:=by
 unfold partS at hp
 split at hp
 . rename_i ha
   split at hp
   . rename_i n hn
     split at hp
     . obtain rfl:=Option.some.inj hp
       obtain⟨it,hi,hs⟩:=sizeS_info hn
       refine⟨?_,by simp⟩
       simp only[part,Sem.run_bind,aggS_run ha,Result.andThen_ok,if_true,sizeOf,typeInfo,SV.den,denL_drop_take]
       simp[hi,hs,List.drop_take]
     . cases hp
   . cases hp
 . rename_i ha
   split at hp
   . rename_i x hx
     split at hp
     . rename_i hnj
       obtain rfl:=Option.some.inj hp
       rw[nth_eq] at hx
       refine⟨?_,SV.nj_ne hnj⟩
       simp only[part,Sem.run_bind,aggS_run ha,Result.andThen_ok,Bool.false_eq_true,if_false]
       simp[denL_eq,hx]
     . cases hp
   . cases hp
 . cases hp
theorem good_field {t:TypeId}{x:Operand}{f:Nat}(ho:o.op = .field t x f):(fieldVS P t f (ev x)).good (OpOk P G ev M o):=by
 unfold fieldVS
 split
 . rename_i xs hx
   split
   . rename_i fd hf
     split
     . rename_i sv hp
       refine OpOk.same fun B ρ a w he hM=>⟨sv.den ρ,fun _=>rfl,?_⟩
       obtain⟨fs,hu,hg⟩:=fieldS_info hf
       have h1:=he x (by simp[ho,Op.operands]) (by rw[hx];simp)
       rw[hx] at h1
       simp only[execOp,ho,h1,SV.den,Instr.field,Sem.run_bind,run_underlying hu,Result.andThen_ok,hg,asAgg,Sem.run_pure,(run_part (ρ:=ρ) (w:=w) hp).1]
     . trivial
   . trivial
 . trivial
def natS:SV→Option (Bool×Nat)
 | .int _ i=>some (decide (0≤i),i.toNat)
 | .u64 x=>some (true,x.toNat)
 |_=>none
theorem natS_den {x:SV}{b:Bool}{i:Nat}(h:natS x=some (b,i))(hb:b=true):x ≠ .junk∧∃ k,∀ ρ,x.den ρ = .int k i:=by
 cases x<;>try (cases h;done)
 . rename_i k n
   simp only[natS,Option.some.injEq,Prod.mk.injEq] at h
   obtain⟨rfl,rfl⟩:=h
   simp only[decide_eq_true_eq] at hb
   exact⟨by simp,k,fun ρ=>by simp only[SV.den];rw[Int.toNat_of_nonneg hb]⟩
 . rename_i y
   simp only[natS,Option.some.injEq,Prod.mk.injEq] at h
   obtain⟨rfl,rfl⟩:=h
   exact⟨by simp,.u64,fun ρ=>rfl⟩
def indexAddrS (P:Program)(M:List Blk)(t:TypeId)(x ix:SV):Res:=match natS ix with
 |none=>.fail
 |some (nn,i)=>match x with
  | .sl n sz off len=>match P.underlying t with
    |some (.slice e)=>match sizeS P e with
     |some s=>match Nat.beq sz s with
      |true=>match nth M n with
       |some (.ro _ m _)=>.test (nn&&decide (i<len)) (.test (decide (off+i<m)) (.ok (.ep n (off+i) sz 0) []))
       |some (.fz _ m _)=>.test (nn&&decide (i<len)) (.test (decide (off+i<m)) (.ok (.ep n (off+i) sz 0) []))
       |some (.own _ _ m _)=>.test (nn&&decide (i<len)) (.test (decide (off+i<m)) (.ok (.ep n (off+i) sz 0) []))
       |b=>match celB b with
        |some _=>.test (nn&&decide (i<len)) (.ok (.ptr n ((off+i)*sz)) [])
        |none=>.fail
      |false=>.fail
     |none=>.fail
    |_=>.fail
  | .ptr n off=>match P.underlying t with
    |some (.array k e)=>match sizeS P e with
     |some s=>match celB (nth M n) with
      |some _=>.test (nn&&decide (i<k)) (.ok (.ptr n (off+i*s)) [])
      |_=>.fail
     |none=>.fail
    |_=>.fail
  |_=>.fail
theorem good_indexAddr {t:TypeId}{x ix:Operand}(ho:o.op = .indexAddr t x ix):(indexAddrS P M t (ev x) (ev ix)).good (OpOk P G ev M o):=by
 have hin:x∈o.op.operands:=by simp[ho,Op.operands]
 have hin':ix∈o.op.operands:=by simp[ho,Op.operands]
 have key:∀ (n sz off len i:Nat) (nn:Bool) (e:TypeId),ev x = .sl n sz off len→natS (ev ix)=some (nn,i)→P.underlying t=some (.slice e)→sizeS P e=some sz→(nn&&decide (i<len))=true→
   (∀ (B:Bd) (ρ:Val) (w:World),MRel B ρ M w→∃ l,ρ n=some l)→OpOk P G ev M o (.ep n (off+i) sz 0) []:=by
  intro n sz off len i nn e hx hi hu hs ht h
  simp only[Bool.and_eq_true,decide_eq_true_eq] at ht
  obtain⟨hnj,k,hk⟩:=natS_den hi ht.1
  obtain⟨ie,hie,hse⟩:=sizeS_info hs
  refine OpOk.same fun B ρ a w he hM => ?_
  obtain⟨l,hl⟩:=h B ρ w hM
  refine⟨_,fun _=>rfl,?_⟩
  have h1:=he x hin (by rw[hx];simp)
  rw[hx] at h1
  have h2:=he ix hin' hnj
  rw[hk] at h2
  have hlt:(0:Int)≤(i:Int)∧(i:Int) < (len:Int):=by omega
  have hsp:l.sp0 len=none:=l.sp0_pos (by omega)
  simp only[execOp,ho,h1,h2,SV.den,hl,hsp,Option.map_some,Instr.indexAt,asIntOf,Sem.run_bind,Sem.run_pure,Result.andThen_ok,run_underlying hu]
  simp only[hlt,and_self,if_true]
  simp[sizeOf,typeInfo,hie,hse,Addr.add_lit,Nat.add_mul,Nat.add_assoc,hlt]
 unfold indexAddrS
 split
 . trivial
 . rename_i nn i hi
   split
   . rename_i n sz off len hx
     split
     . rename_i e hu
       split
       . rename_i s hs
         split
         . rename_i hb
           obtain rfl:sz=s:=by simpa using hb
           split
           . rename_i sz' m g hn
             intro h1 h2
             exact key n sz off len i nn e hx hi hu hs h1 fun B ρ w hM=>(ro_cell (hM.ok n _ (by rw[← nth_eq];exact hn)) (i:=off+i) (by simpa using h2)).imp fun l hl=>hl.1
           . rename_i sz' m g hn
             intro h1 h2
             exact key n sz off len i nn e hx hi hu hs h1 fun B ρ w hM=>(fz_cell (hM.ok n _ (by rw[← nth_eq];exact hn)) (i:=off+i) (by simpa using h2)).imp fun l hl=>hl.1
           . rename_i ty sz' m g hn
             intro h1 h2
             exact key n sz off len i nn e hx hi hu hs h1 fun B ρ w hM=>(own_cell (hM.ok n _ (by rw[← nth_eq];exact hn)) (i:=off+i) (by simpa using h2)).imp fun l hl=>hl.1
           . split
             . rename_i xs hn
               intro ht
               simp only[Bool.and_eq_true,decide_eq_true_eq] at ht
               obtain⟨hnj,k,hk⟩:=natS_den hi ht.1
               obtain⟨ie,hie,hse⟩:=sizeS_info hs
               refine OpOk.same fun B ρ a w he hM => ?_
               obtain⟨l,ty,hl,h0,_⟩:=celB_ok hM hn
               refine⟨_,fun _=>rfl,?_⟩
               have h1:=he x hin (by rw[hx];simp)
               rw[hx] at h1
               have h2:=he ix hin' hnj
               rw[hk] at h2
               have hlt:(0:Int)≤(i:Int)∧(i:Int) < (len:Int):=by omega
               have hsp:l.sp0 len=none:=l.sp0_pos (by omega)
               simp only[execOp,ho,h1,h2,SV.den,hl,hsp,Option.map_some,Instr.indexAt,asIntOf,Sem.run_bind,Sem.run_pure,Result.andThen_ok,run_underlying hu]
               simp only[hlt,and_self,if_true]
               simp[sizeOf,typeInfo,hie,hse,Addr.add_lit,Nat.add_mul,Nat.add_assoc,hlt]
             . trivial
         . trivial
       . trivial
     . trivial
   . rename_i n off hx
     split
     . rename_i k e hu
       split
       . rename_i s hs
         split
         . rename_i xs hn
           intro ht
           simp only[Bool.and_eq_true,decide_eq_true_eq] at ht
           obtain⟨hnj,kk,hk⟩:=natS_den hi ht.1
           obtain⟨ie,hie,hse⟩:=sizeS_info hs
           refine OpOk.same fun B ρ a w he hM => ?_
           obtain⟨l,ty,hl,h0,_⟩:=celB_ok hM hn
           refine⟨_,fun _=>rfl,?_⟩
           have h1:=he x hin (by rw[hx];simp)
           rw[hx] at h1
           have h2:=he ix hin' hnj
           rw[hk] at h2
           have hlt:(0:Int)≤(i:Int)∧(i:Int) < (k:Int):=by omega
           simp only[execOp,ho,h1,h2,SV.den,hl,Option.map_some,Instr.indexAt,asIntOf,Sem.run_bind,Sem.run_pure,Result.andThen_ok,run_underlying hu,Instr.sureAddr]
           simp only[hlt,and_self,if_true]
           simp[sizeOf,typeInfo,hie,hse,Addr.add_lit,Nat.add_assoc,hlt]
         . trivial
       . trivial
     . trivial
   . trivial
def evL (ev:Operand→SV):List Operand→List SV
 |[]=>[]
 |x::l=>ev x::evL ev l
def njL:List SV→Bool
 |[]=>true
 |x::l=>x.nj&&njL l
theorem evL_eval {a:Act}{ρ:Val}:∀ (l:List Operand),(∀ x∈l,ev x ≠ .junk→a.eval x=(ev x).den ρ)→njL (evL ev l)=true→l.map a.eval=denL ρ (evL ev l)
 |[],_,_=>rfl
 |x::l,h,hn=>by
  simp only[evL,njL,Bool.and_eq_true] at hn
  simp only[List.map_cons,evL,denL,h x (by simp) (SV.nj_ne hn.1),evL_eval l (fun y hy=>h y (List.mem_cons_of_mem _ hy)) hn.2]
def makeFuncS (fn:Fn)(a b:List SV):Res:=match njL a&&njL b with
 |true=>.ok (.fn fn a b) []
 |false=>.fail
theorem good_makeFunc {fn:Fn}{fst cap:Array Operand}(ho:o.op = .makeFunc fn fst cap):(makeFuncS fn (evL ev fst.toList) (evL ev cap.toList)).good (OpOk P G ev M o):=by
 unfold makeFuncS
 split
 . rename_i hn
   simp only[Bool.and_eq_true] at hn
   refine OpOk.same fun B ρ a w he hM=>⟨_,fun _=>rfl,?_⟩
   have h1:=evL_eval (a:=a) (ρ:=ρ) fst.toList (fun x hx=>he x (by simp[ho,Op.operands];exact .inl (by simpa using hx))) hn.1
   have h2:=evL_eval (a:=a) (ρ:=ρ) cap.toList (fun x hx=>he x (by simp[ho,Op.operands];exact .inr (by simpa using hx))) hn.2
   have e1:fst.map a.eval=(denL ρ (evL ev fst.toList)).toArray:=by rw[← h1];apply Array.ext';simp
   have e2:cap.map a.eval=(denL ρ (evL ev cap.toList)).toArray:=by rw[← h2];apply Array.ext';simp
   simp only[execOp,ho,Instr.makeFunc,e1,e2,SV.den,Sem.run_bind,Sem.run_pure,Result.andThen_ok]
 . trivial
def extractS (x:SV)(i:Nat):Res:=match x with
 | .tup xs=>match nth xs i with
   |some v=>match v.nj with
    |true=>.ok v []
    |false=>.fail
   |none=>.fail
 |_=>.fail
theorem good_extract {x:Operand}{i:Nat}(ho:o.op = .extract x i):(extractS (ev x) i).good (OpOk P G ev M o):=by
 unfold extractS
 split
 . rename_i xs hx
   split
   . rename_i v hv
     split
     . rename_i hnj
       refine OpOk.same fun B ρ a w he hM=>⟨v.den ρ,fun _=>rfl,?_⟩
       have h1:=he x (by simp[ho,Op.operands]) (by rw[hx];simp)
       rw[hx] at h1
       rw[nth_eq] at hv
       simp[execOp,ho,h1,SV.den,Instr.extract,denL_eq,hv]
     . trivial
   . trivial
 . trivial
def lenS (P:Program)(t:TypeId)(x:SV):Res:=match P.underlying t with
 |some (.slice _)=>match x with
  | .sl _ _ _ len=>.ok (.int .i64 (len:Int)) []
  | .val (.slice _ n _)=>.ok (.int .i64 (n:Int)) []
  |_=>.fail
 |some .string=>match x with
  | .val (.string s)=>.ok (.int .i64 (s.size:Int)) []
  |_=>.fail
 |_=>.fail
theorem good_len {x:Operand}{t:TypeId}(ho:o.op = .call ⟨.builtin .len,#[x],#[t]⟩):(lenS P t (ev x)).good (OpOk P G ev M o):=by
 have hin:x∈o.op.operands:=by simp[ho,Op.operands,Call.operands]
 unfold lenS
 split
 . rename_i e hu
   split
   . rename_i n sz off len hx
     refine OpOk.same fun B ρ a w he hM=>⟨_,fun _=>rfl,?_⟩
     have h1:=he x hin (by rw[hx];simp)
     rw[hx] at h1
     simp[execOp,ho,resolve,invoke,builtin,h1,SV.den,Builtin.len_,run_underlying hu,goInt]
   . rename_i b n c hx
     refine OpOk.same fun B ρ a w he hM=>⟨_,fun _=>rfl,?_⟩
     have h1:=he x hin (by rw[hx];simp)
     rw[hx] at h1
     simp[execOp,ho,resolve,invoke,builtin,h1,SV.den,Builtin.len_,run_underlying hu,goInt]
   . trivial
 . rename_i hu
   split
   . rename_i s hx
     refine OpOk.same fun B ρ a w he hM=>⟨_,fun _=>rfl,?_⟩
     have h1:=he x hin (by rw[hx];simp)
     rw[hx] at h1
     simp[execOp,ho,resolve,invoke,builtin,h1,SV.den,Builtin.len_,run_underlying hu,goInt]
   . trivial
 . trivial
def minS:SV→SV→Res
 | .u64 a,.u64 b=>.ok (.u64 (if b<a then b else a)) []
 | .int k a,.int k' b=>match kEq k k' with
   |true=>.ok (.int k (if b<a then b else a)) []
   |false=>.fail
 |_,_=>.fail
def maxS:SV→SV→Res
 | .u64 a,.u64 b=>.ok (.u64 (if a<b then b else a)) []
 | .int k a,.int k' b=>match kEq k k' with
   |true=>.ok (.int k (if a<b then b else a)) []
   |false=>.fail
 |_,_=>.fail
theorem ite_uv (p:Prop)[Decidable p](a b:BitVec 64):(if p then uv a else uv b)=uv (if p then a else b):=by split<;>rfl
theorem good_min {x y:Operand}{ts:Array TypeId}(ho:o.op = .call ⟨.builtin .min,#[x,y],ts⟩):(minS (ev x) (ev y)).good (OpOk P G ev M o):=by
 have hin:x∈o.op.operands:=by simp[ho,Op.operands,Call.operands]
 have hin':y∈o.op.operands:=by simp[ho,Op.operands,Call.operands]
 unfold minS
 split
 . rename_i a b hx hy
   refine OpOk.same fun B ρ ac w he hM=>⟨_,fun _=>rfl,?_⟩
   have h1:=he x hin (by rw[hx];simp)
   have h2:=he y hin' (by rw[hy];simp)
   rw[hx] at h1;rw[hy] at h2
   simp[execOp,ho,resolve,invoke,builtin,h1,h2,SV.den,Builtin.min_,Builtin.min2,lt_uv,ite_uv]
 . rename_i k a k' b hx hy
   split
   . refine OpOk.same fun B ρ ac w he hM=>⟨_,fun _=>rfl,?_⟩
     have h1:=he x hin (by rw[hx];simp)
     have h2:=he y hin' (by rw[hy];simp)
     rw[hx] at h1;rw[hy] at h2
     simp[execOp,ho,resolve,invoke,builtin,h1,h2,SV.den,Builtin.min_,Builtin.min2]
   . trivial
 . trivial
theorem good_max {x y:Operand}{ts:Array TypeId}(ho:o.op = .call ⟨.builtin .max,#[x,y],ts⟩):(maxS (ev x) (ev y)).good (OpOk P G ev M o):=by
 have hin:x∈o.op.operands:=by simp[ho,Op.operands,Call.operands]
 have hin':y∈o.op.operands:=by simp[ho,Op.operands,Call.operands]
 unfold maxS
 split
 . rename_i a b hx hy
   refine OpOk.same fun B ρ ac w he hM=>⟨_,fun _=>rfl,?_⟩
   have h1:=he x hin (by rw[hx];simp)
   have h2:=he y hin' (by rw[hy];simp)
   rw[hx] at h1;rw[hy] at h2
   simp[execOp,ho,resolve,invoke,builtin,h1,h2,SV.den,Builtin.max_,Builtin.max2,lt_uv,ite_uv]
 . rename_i k a k' b hx hy
   split
   . refine OpOk.same fun B ρ ac w he hM=>⟨_,fun _=>rfl,?_⟩
     have h1:=he x hin (by rw[hx];simp)
     have h2:=he y hin' (by rw[hy];simp)
     rw[hx] at h1;rw[hy] at h2
     simp[execOp,ho,resolve,invoke,builtin,h1,h2,SV.den,Builtin.max_,Builtin.max2]
   . trivial
 . trivial
def callS (Γ:Env)(M:List Blk)(f:SV)(args:List SV):Res:=match f with
 | .fn (.func g) fst cap=>match njL args with
   |true=>match findC Γ.ctrs g with
    |some c=>c (fst++args++cap) M
    |none=>match findP Γ.prims g with
     |some c=>match c (fst++args++cap) with
      |some sv=>.ok sv []
      |none=>.fail
     |none=>.fail
   |false=>.fail
 |_=>.fail
theorem denL_append (ρ:Val)(a b:List SV):denL ρ (a++b)=denL ρ a++denL ρ b:=by simp[denL_eq]
theorem good_call {Γ:Env}(hΓ:EnvOk P G Γ){f:Operand}{args:Array Operand}{ts:Array TypeId}(ho:o.op = .call ⟨.value f,args,ts⟩):(callS Γ M (ev f) (evL ev args.toList)).good (OpOk P G ev M o):=by
 unfold callS
 split
 . rename_i g fst cap hf
   split
   . rename_i hn
     split
     . rename_i c hc
       obtain⟨hcall,hgood⟩:=hΓ.ctrs (g,c) (findC_mem Γ.ctrs g c hc)
       refine Res.good_mono (fun sv nb h => ?_) _ (hgood (fst++evL ev args.toList++cap) M)
       intro B ρ a w next Q he hM hGw hnext
       have h1:=he f (by simp[ho,Op.operands,Call.operands]) (by rw[hf];simp)
       rw[hf] at h1
       have h2:=evL_eval (a:=a) (ρ:=ρ) args.toList (fun x hx=>he x (by simp[ho,Op.operands,Call.operands];exact .inr (by simpa using hx))) hn
       have e2:args.map a.eval=(denL ρ (evL ev args.toList)).toArray:=by rw[← h2];apply Array.ext';simp
       have hr:(execOp a.eval o).run P w = .ok (.enter g (denL ρ (fst++evL ev args.toList++cap)).toArray) w:=by
        have:=hcall (denL ρ (fst++evL ev args.toList++cap)).toArray w
        simp only[denL_append,List.append_toArray] at this ⊢
        simp only[execOp,ho,resolve,e2,h1,SV.den,Deferred.ofValue,invoke,Sem.run_bind,Sem.run_pure,Result.andThen_ok,List.append_toArray,this]
       unfold Oper.wp
       rw[hr]
       show Calls P g _ w _
       refine(h B ρ w hGw hM).mono fun e w' hh => ?_
       obtain⟨ρ',v,rfl,hv,hρ,hb,hnew⟩:=hh
       exact hnext ρ' w' v hv hρ hb hnew
     . split
       . rename_i c hc
         split
         . rename_i sv hsv
           refine OpOk.same fun B ρ a w he _=>⟨sv.den ρ,fun _=>rfl,?_⟩
           have h1:=he f (by simp[ho,Op.operands,Call.operands]) (by rw[hf];simp)
           rw[hf] at h1
           have h2:=evL_eval (a:=a) (ρ:=ρ) args.toList (fun x hx=>he x (by simp[ho,Op.operands,Call.operands];exact .inr (by simpa using hx))) hn
           have e2:args.map a.eval=(denL ρ (evL ev args.toList)).toArray:=by rw[← h2];apply Array.ext';simp
           have:=hΓ.prims (g,c) (findP_mem Γ.prims g c hc) _ _ hsv ρ w
           simp only[denL_append,List.append_toArray] at this ⊢
           simp only[execOp,ho,resolve,e2,h1,SV.den,Deferred.ofValue,invoke,Sem.run_bind,Sem.run_pure,Result.andThen_ok,List.append_toArray,this]
         . trivial
       . trivial
   . trivial
 . trivial
end
end Go.Sx
namespace Go.Sx
open Go.RowKit Go.Proofs.YtfgkhenhlpoheaaGreat
section
variable {P:Program}{G:World→Prop}{ev:Operand→SV}{M:List Blk}{o:Oper}
def nilCheckS (M:List Blk)(x:SV):Res:=match x with
 | .ptr n off=>match celB (nth M n) with
   |some _=>.ok (.ptr n off) []
   |_=>.fail
 | .fn (.func f) a b=>.ok (.fn (.func f) a b) []
 | .ep n i sz j=>match nth M n with
   |some (.ro _ m _)=>.test (decide (i<m)) (.ok (.ep n i sz j) [])
   |some (.fz _ m _)=>.test (decide (i<m)) (.ok (.ep n i sz j) [])
   |some (.own _ _ m _)=>.test (decide (i<m)) (.ok (.ep n i sz j) [])
   |_=>.fail
 |_=>.fail
theorem good_nilCheck {x:Operand}(ho:o.op = .nilCheck x):(nilCheckS M (ev x)).good (OpOk P G ev M o):=by
 have hin:x∈o.op.operands:=by simp[ho,Op.operands]
 unfold nilCheckS
 split
 . rename_i n off hx
   split
   . rename_i xs hn
     refine OpOk.same fun B ρ a w he hM=>⟨_,fun _=>rfl,?_⟩
     obtain⟨l,ty,hl,h0,_⟩:=celB_ok hM hn
     have h1:=he x hin (by rw[hx];simp)
     rw[hx] at h1
     simp[execOp,ho,h1,SV.den,hl]
   . trivial
 . rename_i f c d hx
   refine OpOk.same fun B ρ a w he hM=>⟨_,fun _=>rfl,?_⟩
   have h1:=he x hin (by rw[hx];simp)
   rw[hx] at h1
   simp[execOp,ho,h1,SV.den]
 . rename_i n i sz j hx
   have key:(∀ (B:Bd) (ρ:Val) (w:World),MRel B ρ M w→∃ l,ρ n=some l)→OpOk P G ev M o (.ep n i sz j) []:=fun h=>by
    refine OpOk.same fun B ρ a w he hM=>⟨_,fun _=>rfl,?_⟩
    obtain⟨l,hl⟩:=h B ρ w hM
    have h1:=he x hin (by rw[hx];simp)
    rw[hx] at h1
    simp[execOp,ho,h1,SV.den,hl]
   split
   . rename_i sz' m g hn
     intro hi
     exact key fun B ρ w hM=>(ro_cell (hM.ok n _ (by rw[← nth_eq];exact hn)) (i:=i) (by simpa using hi)).imp fun l hl=>hl.1
   . rename_i sz' m g hn
     intro hi
     exact key fun B ρ w hM=>(fz_cell (hM.ok n _ (by rw[← nth_eq];exact hn)) (i:=i) (by simpa using hi)).imp fun l hl=>hl.1
   . rename_i ty sz' m g hn
     intro hi
     exact key fun B ρ w hM=>(own_cell (hM.ok n _ (by rw[← nth_eq];exact hn)) (i:=i) (by simpa using hi)).imp fun l hl=>hl.1
   . trivial
 . trivial
def KeyEqV (P:Program)(kt:TypeId)(x y:Value)(b:Bool):Prop:=(b=true↔x=y)∧
 ((∃ d,P.underlying kt=some d∧Instr.sameNow d x y=some b)∨(∃ d,P.underlying kt=some d∧isRowD d∧∀ w,(Op.equal kt x y).run P w = .ok b w))
theorem isRowD.none {d:TypeDesc}(h:isRowD d)(x y:Value):Instr.sameNow d x y=none:=by
 rcases h with⟨fs,rfl⟩ | ⟨n,e,rfl⟩<;>simp[Instr.sameNow]
def FoundIs (k:Value)(L:List MapEntry):Option (Nat×Value)→Prop
 |none=>∀ e∈L,e.key≠k
 |some (_,v)=>∃ e∈L,e.key=k∧e.val=v
theorem findNow_run {d:TypeDesc}{kt:TypeId}{k:Value}(hd:P.underlying kt=some d)(hs : ¬ isRowD d):∀ (L:List MapEntry) (i:Nat),(∀ e∈L,∃ b,KeyEqV P kt k e.key b)→∃ r,Instr.findNow d k L i=some r∧FoundIs k L r
 |[],i,_=>⟨none,rfl,fun e he=>by cases he⟩
 |e::L,i,h=>by
  obtain⟨b,hiff,hb⟩:=h e (List.mem_cons_self ..)
  have hb':Instr.sameNow d k e.key=some b:=by
   rcases hb with⟨d',h1,h2⟩ | ⟨d',h1,h2,_⟩
   . obtain rfl:d=d':=by rw[hd] at h1;exact Option.some.inj h1
     exact h2
   . obtain rfl:d=d':=by rw[hd] at h1;exact Option.some.inj h1
     exact absurd h2 hs
  obtain⟨r,h1,h2⟩:=findNow_run hd hs L (i+1) (fun e' he=>h e' (List.mem_cons_of_mem _ he))
  cases b with
  |true=>exact⟨some (i,e.val),by simp only[Instr.findNow,hb'],e,List.mem_cons_self ..,(hiff.1 rfl).symm,rfl⟩
  |false=>
   refine⟨r,by simp only[Instr.findNow,hb'];exact h1,?_⟩
   cases r with
   |none=>
    intro e' he
    rcases List.mem_cons.1 he with rfl|he
    . intro hh;exact absurd (hiff.2 hh.symm) (by simp)
    . exact h2 e' he
   |some p=>
    obtain⟨e',he,h3⟩:=h2
    exact⟨e',List.mem_cons_of_mem _ he,h3⟩
theorem findAsking_run {d:TypeDesc}{kt:TypeId}{k:Value}(hd:P.underlying kt=some d)(hs:isRowD d):∀ (L:List MapEntry) (i:Nat),(∀ e∈L,∃ b,KeyEqV P kt k e.key b)→∃ r,(∀ w,(Instr.findAsking kt k L i).run P w = .ok r w)∧FoundIs k L r
 |[],i,_=>⟨none,fun w=>rfl,fun e he=>by cases he⟩
 |e::L,i,h=>by
  obtain⟨b,hiff,hb⟩:=h e (List.mem_cons_self ..)
  have hb':∀ w,(Op.equal kt k e.key).run P w = .ok b w:=by
   rcases hb with⟨d',h1,h2⟩ | ⟨_,_,_,h2⟩
   . obtain rfl:d=d':=by rw[hd] at h1;exact Option.some.inj h1
     rw[hs.none] at h2;cases h2
   . exact h2
  obtain⟨r,h1,h2⟩:=findAsking_run hd hs L (i+1) (fun e' he=>h e' (List.mem_cons_of_mem _ he))
  cases b with
  |true=>exact⟨some (i,e.val),fun w=>by simp[Instr.findAsking,hb'],e,List.mem_cons_self ..,(hiff.1 rfl).symm,rfl⟩
  |false=>
   refine⟨r,fun w=>by simp[Instr.findAsking,hb',h1],?_⟩
   cases r with
   |none=>
    intro e' he
    rcases List.mem_cons.1 he with rfl|he
    . intro hh;exact absurd (hiff.2 hh.symm) (by simp)
    . exact h2 e' he
   |some p=>
    obtain⟨e',he,h3⟩:=h2
    exact⟨e',List.mem_cons_of_mem _ he,h3⟩
theorem findKey_run {kt:TypeId}{k:Value}{d:TypeDesc}(hd:P.underlying kt=some d)(L:List MapEntry)(h:∀ e∈L,∃ b,KeyEqV P kt k e.key b):∃ r,(∀ w,(Instr.findKey kt k L).run P w = .ok r w)∧FoundIs k L r:=by
 by_cases hs:isRowD d
 . cases L with
   |nil=>exact⟨none,fun w=>by simp[Instr.findKey,run_underlying hd,Instr.findNow],fun e he=>by cases he⟩
   |cons e L=>
    obtain⟨r,h1,h2⟩:=findAsking_run hd hs (e::L) 0 h
    exact⟨r,fun w=>by simp[Instr.findKey,run_underlying hd,Instr.findNow,hs.none,h1],h2⟩
 . obtain⟨r,h1,h2⟩:=findNow_run hd hs L 0 h
   exact⟨r,fun w=>by simp[Instr.findKey,run_underlying hd,h1],h2⟩
def keyEqS (P:Program)(E:List (TypeId×List CK))(kt:TypeId)(x y:SV):Option Bool:=match P.underlying kt with
 |some (.int _)=>match x,y with
  | .u64 a,.u64 b=>some (a==b)
  | .int k a,.int k' b=>match kEq k k' with
    |true=>some (a==b)
    |false=>none
  |_,_=>none
 |some .string=>match x,y with
  | .val (.string a),.val (.string b)=>some (a==b)
  |_,_=>none
 |some (.struct _)=>match x,y with
  | .agg xs,.agg ys=>match findE E kt with
    |some ks=>cellsEqS ks xs ys
    |none=>none
  |_,_=>none
 |some (.array _ _)=>match x,y with
  | .agg xs,.agg ys=>match findE E kt with
    |some ks=>cellsEqS ks xs ys
    |none=>none
  |_,_=>none
 |_=>none
theorem bytes_beq (a b:ByteArray):(a==b)=true↔a=b:=by
 obtain⟨x⟩:=a;obtain⟨y⟩:=b
 have e:((⟨x⟩:ByteArray)==⟨y⟩)=(x==y):=rfl
 rw[e,ByteArray.mk.injEq];exact beq_iff_eq
theorem cellEqV_iff {k:CK}{x y:Value}{b:Bool}(h:cellEqV k x y=some b):b=true↔x=y:=by
 unfold cellEqV at h
 split at h
 . split at h
   . rename_i hk;subst hk;rw[← Option.some.inj h];simp
   . cases h
 . rw[← Option.some.inj h];simp
 . rw[← Option.some.inj h];simp[bytes_beq]
 . cases h
theorem cellsEqV_iff:∀ {ks:List CK} {xs ys:List Value} {b:Bool},cellsEqV ks xs ys=some b→(b=true↔xs=ys)
 |[],[],[],_,h=>by rw[← Option.some.inj h];simp
 |[],[],_::_,_,h=>by cases h
 |[],_::_,_,_,h=>by cases h
 |_::_,[],_,_,h=>by cases h
 |_::_,_::_,[],_,h=>by cases h
 |k::ks,x::xs,y::ys,b,h=>by
  simp only[cellsEqV] at h
  split at h
  . rename_i a c h1 h2
    rw[← Option.some.inj h,Bool.and_eq_true,cellEqV_iff h1,cellsEqV_iff h2,List.cons.injEq]
  . cases h
theorem keyEqS_den {E:List (TypeId×List CK)}(hE:∀ p∈E,EqOk P p.1 p.2){kt:TypeId}{x y:SV}{b:Bool}(h:keyEqS P E kt x y=some b)(ρ:Val):KeyEqV P kt (x.den ρ) (y.den ρ) b∧(∀ e w,(Instr.checkKey e 10000 kt (x.den ρ)).run P w = .ok () w)∧x ≠ .junk∧y ≠ .junk:=by
 have simple:∀ {d:TypeDesc},P.underlying kt=some d→(∀ fs,d ≠ .struct fs)→(∀ a b,d ≠ .array a b)→(∀ m,d ≠ .interface m)→∀ e v w,(Instr.checkKey e 10000 kt v).run P w = .ok () w:=by
  intro d hd h1 h2 h3 e v w
  have:∀ n,(Instr.checkKey e (n+1) kt v).run P w = .ok () w:=fun n=>by
   unfold Instr.checkKey
   rw[Sem.run_bind,run_underlying hd w]
   cases d<;>first|rfl|exact absurd rfl (h1 _)|exact absurd rfl (h2 _ _)|exact absurd rfl (h3 _)
  exact this 9999
 unfold keyEqS at h
 split at h
 . rename_i kk hd
   refine⟨?_,fun e w=>simple hd (by simp) (by simp) (by simp) e _ w,?_⟩
   . split at h
     . rw[← Option.some.inj h]
       exact⟨by simp[SV.den,uv_inj],.inl ⟨_,hd,by simp[SV.den,Instr.sameNow,eq_uv]⟩⟩
     . split at h
       . rename_i hk
         simp only[kEq,decide_eq_true_eq] at hk
         subst hk
         rw[← Option.some.inj h]
         exact⟨by simp[SV.den],.inl ⟨_,hd,by simp[SV.den,Instr.sameNow]⟩⟩
       . cases h
     . cases h
   . split at h
     . simp
     . simp
     . cases h
 . rename_i hd
   split at h
   . rw[← Option.some.inj h]
     exact⟨⟨by simp[SV.den,bytes_beq],.inl ⟨_,hd,by simp[SV.den,Instr.sameNow]⟩⟩,fun e w=>simple hd (by simp) (by simp) (by simp) e _ w,by simp,by simp⟩
   . cases h
 . rename_i fs hd
   split at h
   . rename_i xs ys
     split at h
     . rename_i ks hk
       have hc:=cellsEqS_den (ρ:=ρ) h
       have hok:=(hE (kt,ks) (findE_mem E kt ks hk)).2
       refine⟨⟨?_,.inr ⟨_,hd,.inl ⟨_,rfl⟩,fun w=>(hok _ _ b w hc).2.1⟩⟩,fun e w=>(hok _ _ b w hc).2.2 e,by simp,by simp⟩
       rw[cellsEqV_iff hc];simp[SV.den]
     . cases h
   . cases h
 . rename_i m el hd
   split at h
   . rename_i xs ys
     split at h
     . rename_i ks hk
       have hc:=cellsEqS_den (ρ:=ρ) h
       have hok:=(hE (kt,ks) (findE_mem E kt ks hk)).2
       refine⟨⟨?_,.inr ⟨_,hd,.inr ⟨_,_,rfl⟩,fun w=>(hok _ _ b w hc).2.1⟩⟩,fun e w=>(hok _ _ b w hc).2.2 e,by simp,by simp⟩
       rw[cellsEqV_iff hc];simp[SV.den]
     . cases h
   . cases h
 . cases h
def keysOk (P:Program)(E:List (TypeId×List CK))(kt:TypeId)(key:SV):List (SV×SV)→Bool
 |[]=>match keyEqS P E kt key key with
  |some _=>true
  |none=>false
 |(k,_)::es=>match keyEqS P E kt key k with
  |some _=>keysOk P E kt key es
  |none=>false
theorem keysOk_den {E:List (TypeId×List CK)}(hE:∀ p∈E,EqOk P p.1 p.2){kt:TypeId}{key:SV}(ρ:Val):∀ {es:List (SV×SV)},keysOk P E kt key es=true→
  (∀ e w,(Instr.checkKey e 10000 kt (key.den ρ)).run P w = .ok () w)∧key ≠ .junk∧(∃ d,P.underlying kt=some d)∧∀ p∈es,∃ b,KeyEqV P kt (key.den ρ) (p.1.den ρ) b
 |[],h=>by
  simp only[keysOk] at h
  split at h
  . rename_i b hb
    obtain⟨h1,h2,h3,_⟩:=keyEqS_den hE hb ρ
    refine⟨h2,h3,?_,fun p hp=>by cases hp⟩
    rcases h1.2 with⟨d,hd,_⟩ | ⟨d,hd,_⟩<;>exact⟨_,hd⟩
  . cases h
 |(k,v)::es,h=>by
  simp only[keysOk] at h
  split at h
  . rename_i b hb
    obtain⟨h1,h2,h3,_⟩:=keyEqS_den hE hb ρ
    obtain⟨g1,g2,g3,g4⟩:=keysOk_den hE ρ h
    refine⟨g1,g2,g3,fun p hp => ?_⟩
    rcases List.mem_cons.1 hp with rfl|hp
    . exact⟨b,h1⟩
    . exact g4 p hp
  . cases h
def lookR (P:Program)(E:List (TypeId×List CK))(kt:TypeId)(ok:Bool)(z:SV)(key:SV):List (SV×SV)→Res
 |[]=>.ok (match ok with|true=>.tup [z,.ff]|false=>z) []
 |(k,v)::es=>match keyEqS P E kt key k with
  |some b=>.split b (.ok (match ok with|true=>.tup [v,.tt]|false=>v) []) (lookR P E kt ok z key es)
  |none=>.fail
def zeroV (P:Program)(t:TypeId):Option SV:=match P.info? t with
 |some i=>match i.zero with
  |some (.agg cs)=>some (.agg (cs.toList.map SV.ofV))
  |some v=>some (.ofV v)
  |none=>none
 |none=>none
theorem zeroV_den {t:TypeId}{z:SV}(h:zeroV P t=some z)(ρ:Val)(w:World):(zeroValue t).run P w = .ok (z.den ρ) w:=by
 unfold zeroV at h
 split at h
 . rename_i i hi
   split at h
   . rename_i cs hz
     obtain rfl:=Option.some.inj h
     have e:(denL ρ (cs.toList.map SV.ofV)).toArray=cs:=by apply Array.ext';simp[denL_eq,Function.comp_def,SV.ofV_den]
     simp[zeroValue,typeInfo,hi,hz,SV.den,e]
   . rename_i v _ hz
     obtain rfl:=Option.some.inj h
     simp[zeroValue,typeInfo,hi,hz,SV.ofV_den]
   . cases h
 . cases h
def outS (ok:Bool)(v:SV)(b:SV):SV:=match ok with
 |true=>.tup [v,b]
 |false=>v
theorem lookR_good {E:List (TypeId×List CK)}(hE:∀ p∈E,EqOk P p.1 p.2){kt:TypeId}{key:SV}(ok:Bool)(z:SV):∀ (es:List (SV×SV)),
  (lookR P E kt ok z key es).good fun sv nb=>nb=[]∧∃ (v:SV) (b:Bool),sv=outS ok v (if b then .tt else .ff)∧(if b then ∃ k,(k,v)∈es∧∀ ρ:Val,k.den ρ=key.den ρ else v=z∧∀ p∈es,∀ ρ:Val,p.1.den ρ≠key.den ρ)
 |[]=>⟨rfl,z,false,by cases ok<;>rfl,rfl,fun p hp=>by cases hp⟩
 |(k,v)::es=>by
  unfold lookR
  split
  . rename_i b hb
    refine⟨fun ht=>⟨rfl,v,true,by cases ok<;>rfl,k,List.mem_cons_self ..,fun ρ=>(((keyEqS_den hE hb ρ).1.1).1 ht).symm⟩,fun hf=>Res.good_mono (fun sv nb h => ?_) _ (lookR_good hE ok z es)⟩
    obtain⟨hnb,v',b',hsv,h⟩:=h
    refine⟨hnb,v',b',hsv,?_⟩
    cases b' with
    |true=>
     simp only[if_true] at h ⊢
     obtain⟨k',hk,he⟩:=h
     exact⟨k',List.mem_cons_of_mem _ hk,he⟩
    |false=>
     simp only[Bool.false_eq_true,if_false] at h ⊢
     refine⟨h.1,fun p hp ρ => ?_⟩
     rcases List.mem_cons.1 hp with rfl|hp
     . intro hh
       have:=((keyEqS_den hE hb ρ).1.1).2 hh.symm
       rw[hf] at this;cases this
     . exact h.2 p hp ρ
  . trivial
def intsS:List SV→Option (List Int)
 |[]=>some []
 | .int k x::l=>match kEq k .i64 with
   |true=>match intsS l with
    |some m=>some (x::m)
    |none=>none
   |false=>none
 |_=>none
theorem intsS_den {ρ:Val}:∀ {l:List SV} {m:List Int},intsS l=some m→denL ρ l=m.map fun x=>Value.int .i64 x
 |[],m,h=>by obtain rfl:=Option.some.inj h;rfl
 | .int k x::l,m,h=>by
   simp only[intsS] at h
   split at h
   . rename_i hk
     simp only[kEq,decide_eq_true_eq] at hk
     subst hk
     split at h
     . rename_i m' h1
       obtain rfl:=Option.some.inj h
       simp[denL,SV.den,intsS_den h1]
     . cases h
   . cases h
 | .junk::_,_,h | .val _::_,_,h | .tt::_,_,h | .ff::_,_,h | .bool _::_,_,h | .u64 _::_,_,h | .agg _::_,_,h | .tup _::_,_,h | .ptr _ _::_,_,h | .ep _ _ _ _::_,_,h | .sl _ _ _ _::_,_,h | .mp _::_,_,h | .yld _::_,_,h | .fn _ _ _::_,_,h | .nilb _::_,_,h | .arr _ _ _::_,_,h | .mix _::_,_,h=>by cases h
def intCK:List CK→Nat→Bool
 |[],0=>true
 | .int::l,n+1=>intCK l n
 |_,_=>false
theorem cellsEqV_int:∀ {ks:List CK} {n:Nat} {a b:List Int},intCK ks n=true→a.length=n→b.length=n→cellsEqV ks (a.map fun x=>Value.int .i64 x) (b.map fun x=>Value.int .i64 x)=some (decide (a=b))
 |[],0,[],[],_,_,_=>rfl
 |[],0,_::_,_,_,h,_=>by cases h
 |[],0,[],_::_,_,_,h=>by cases h
 | .int::ks,n+1,x::a,y::b,hk,ha,hb=>by
   have ih:=cellsEqV_int (ks:=ks) (n:=n) (a:=a) (b:=b) hk (by simpa using ha) (by simpa using hb)
   simp only[List.map_cons,cellsEqV,cellEqV,if_true,ih]
   by_cases h1:x=y<;>by_cases h2:a=b<;>simp[h1,h2]
 | .int::_,_+1,[],_,_,h,_=>by cases h
 | .int::_,_+1,_::_,[],_,_,h=>by cases h
 |[],_+1,_,_,h,_,_=>by cases h
 | .int::_,0,_,_,h,_,_=>by cases h
 | .bool::_,_,_,_,h,_,_=>by cases h
 | .str::_,_,_,_,h,_,_=>by cases h
theorem keyV_inj {a b:List Int}(h:keyV a=keyV b):a=b:=by
 unfold keyV at h
 have h1:=Value.agg.inj h
 have h2:(a.map fun x=>Value.int .i64 x)=b.map fun x=>Value.int .i64 x:=by simpa using h1
 have:∀ (a b:List Int),((a.map fun x=>Value.int .i64 x)=b.map fun x=>Value.int .i64 x)→a=b:=by
  intro a
  induction a with
  |nil=>intro b h;cases b with
   |nil=>rfl
   |cons _ _=>cases h
  |cons x a ih=>intro b h;cases b with
   |nil=>cases h
   |cons y b=>
    simp only[List.map_cons,List.cons.injEq,Value.int.injEq,true_and] at h
    rw[h.1,ih b h.2]
 exact this a b h2
theorem fm_key {E:List (TypeId×List CK)}(hE:∀ p∈E,EqOk P p.1 p.2){kt:TypeId}{ks:List CK}(hk:findE E kt=some ks){n:Nat}(hn:intCK ks n=true){k:List Int}(hkl:k.length=n):
  (∀ e w,(Instr.checkKey e 10000 kt (keyV k)).run P w = .ok () w)∧(∃ d,P.underlying kt=some d)∧∀ k':List Int,k'.length=n→KeyEqV P kt (keyV k) (keyV k') (decide (k=k')):=by
 have hq:=hE _ (findE_mem E kt ks hk)
 obtain⟨⟨d,hd,hr⟩,hq⟩:=hq
 refine⟨fun e w=>(hq _ _ _ w (cellsEqV_int hn hkl hkl)).2.2 e,⟨d,hd⟩,fun k' hk'=>⟨?_,.inr ⟨d,hd,hr,fun w=>(hq _ _ _ w (cellsEqV_int hn hkl hk')).2.1⟩⟩⟩
 rw[decide_eq_true_eq]
 exact⟨fun h=>by rw[h],keyV_inj⟩
theorem fm_find {E:List (TypeId×List CK)}(hE:∀ p∈E,EqOk P p.1 p.2){kt:TypeId}{ks:List CK}(hk:findE E kt=some ks){n:Nat}(hn:intCK ks n=true){k:List Int}(hkl:k.length=n){h:List Int→Option Int}{arr:Array MapEntry}(hf:FmIs n h arr):
  ∃ r,(∀ w,(Instr.findKey kt (keyV k) arr.toList).run P w = .ok r w)∧FoundIs (keyV k) arr.toList r∧r.map (·.2)=(h k).map fun v=>Value.int .i64 v:=by
 obtain⟨_,⟨d,hd⟩,hc⟩:=fm_key hE hk hn hkl
 obtain⟨r,h1,h2⟩:=findKey_run hd arr.toList fun e he=>by
  obtain⟨k',v,e1,e2,_⟩:=hf.each e he
  rw[e2];exact⟨_,hc k' e1⟩
 refine⟨r,h1,h2,?_⟩
 cases r with
 |none=>
  cases hv:h k with
  |none=>rfl
  |some v=>
   obtain⟨e,he,e1⟩:=hf.all k v hkl hv
   exact absurd e1 (h2 e he)
 |some p=>
  obtain⟨i,v⟩:=p
  obtain⟨e,he,e1,e2⟩:=h2
  obtain⟨k',v',_,f1,f2,f3⟩:=hf.each e he
  obtain rfl:k'=k:=keyV_inj (f1.symm.trans e1)
  rw[f3,← e2,f2];rfl
def fmLook (E:List (TypeId×List CK))(kt:TypeId)(ok:Bool)(z key:SV)(m:Nat)(h:List Int→Option Int):Res:=match key with
 | .agg xs=>match findE E kt with
   |some ks=>match z with
    | .int kz z0=>match intsS xs with
      |some k=>match kEq kz .i64,Nat.beq k.length m,intCK ks m with
       |true,true,true=>.ok (match ok with|true=>.tup [.int .i64 ((h k).getD z0),.bool (h k).isSome]|false=>.int .i64 ((h k).getD z0)) []
       |_,_,_=>.fail
      |none=>.fail
    |_=>.fail
   |none=>.fail
 |_=>.fail
theorem good_fmLook {E:List (TypeId×List CK)}(hE:∀ p∈E,EqOk P p.1 p.2){t:TypeId}{x ix:Operand}{ok:Bool}(ho:o.op = .lookup t x ix ok){kt et:TypeId}(hu:P.underlying t=some (.map kt et)){z:SV}(hz:zeroV P et=some z){n m:Nat}{h:List Int→Option Int}(hx:ev x = .mp n)(hn:nth M n=some (.fm m h)):(fmLook E kt ok z (ev ix) m h).good (OpOk P G ev M o):=by
 unfold fmLook
 split
 . rename_i xs hix
   split
   . rename_i ks hks
     split
     . rename_i kz z0
       split
       . rename_i k hk
         split
         . rename_i h1 h2 h3
           simp only[kEq,decide_eq_true_eq] at h1
           subst h1
           have hkl:k.length=m:=Nat.eq_of_beq_eq_true h2
           refine OpOk.same fun B ρ a w he hM => ?_
           obtain⟨l,arr,cnt,hl,hB,hh,hmap⟩:=hM.ok n _ (by rw[← nth_eq];exact hn)
           have e1:=he x (by simp[ho,Op.operands]) (by rw[hx];simp)
           rw[hx] at e1
           have e2:=he ix (by simp[ho,Op.operands]) (by rw[hix];simp)
           rw[hix] at e2
           have e3:(SV.agg xs).den ρ=keyV k:=by simp only[SV.den,keyV,intsS_den hk]
           rw[e3] at e2
           have hgo:(getObj l.blk).run P w = .ok (.map arr cnt) w:=by simp[getObj,Sem.run,hh]
           have hz':=zeroV_den hz ρ w
           obtain⟨hck,_,_⟩:=fm_key hE hks h3 hkl
           obtain⟨r,hr,_,hrv⟩:=fm_find hE hks h3 hkl hmap
           refine⟨_,fun _=>rfl,?_⟩
           cases r with
           |none=>
            have hv:h k=none:=by cases hv:h k with
               |none=>rfl
               |some v=>rw[hv] at hrv;cases hrv
            cases ok<;>simp[execOp,ho,e1,e2,SV.den,hl,Instr.lookup,run_underlying hu,hgo,hck,hr,hz',denL,hv]
           |some p=>
            obtain⟨i,v⟩:=p
            cases hv:h k with
            |none=>rw[hv] at hrv;cases hrv
            |some v'=>
             rw[hv] at hrv
             simp only[Option.map_some,Option.some.injEq] at hrv
             subst hrv
             cases ok<;>simp[execOp,ho,e1,e2,SV.den,hl,Instr.lookup,run_underlying hu,hgo,hck,hr,denL,hv]
         . trivial
       . trivial
     . trivial
   . trivial
 . trivial
def lookupS (P:Program)(E:List (TypeId×List CK))(M:List Blk)(t:TypeId)(ok:Bool)(x key:SV):Res:=match P.underlying t with
 |some (.map kt et)=>match zeroV P et with
  |some z=>match x with
   | .mp n=>match nth M n with
     |some (.map es)=>match keysOk P E kt key es with
      |true=>lookR P E kt ok z key es
      |false=>.fail
     |some (.fm m h)=>fmLook E kt ok z key m h
     |_=>.fail
   |_=>.fail
  |none=>.fail
 |_=>.fail
theorem MapIs.keys {ρ:Val}{es:List (SV×SV)}{arr:Array MapEntry}(h:MapIs ρ es arr){kt:TypeId}{k:Value}(hk:∀ p∈es,∃ b,KeyEqV P kt k (p.1.den ρ) b):∀ e∈arr.toList,∃ b,KeyEqV P kt k e.key b:=by
 intro e he
 have:(e.key,e.val)∈esD ρ es:=h.perm.mem_iff.1 (List.mem_map_of_mem (f:=fun e:MapEntry=>(e.key,e.val)) he)
 simp only[esD,List.mem_map] at this
 obtain⟨p,hp,hpe⟩:=this
 have:=hk p hp
 rw[show p.1.den ρ=e.key from congrArg (·.1) hpe] at this
 exact this
theorem nodup_snd {α β:Type}:∀ {l:List (α×β)},(l.map (·.1)).Nodup→∀ {a:α} {b c:β},(a,b)∈l→(a,c)∈l→b=c
 |[],_,a,b,c,h,_=>by cases h
 |(x,y)::l,hn,a,b,c,h1,h2=>by
  simp only[List.map_cons,List.nodup_cons] at hn
  rcases List.mem_cons.1 h1 with e1|m1<;>rcases List.mem_cons.1 h2 with e2|m2
  . rw[Prod.mk.injEq] at e1 e2;rw[e1.2,e2.2]
  . rw[Prod.mk.injEq] at e1
    exact absurd (List.mem_map_of_mem (f:=(·.1)) m2) (by simpa [e1.1] using hn.1)
  . rw[Prod.mk.injEq] at e2
    exact absurd (List.mem_map_of_mem (f:=(·.1)) m1) (by simpa [e2.1] using hn.1)
  . exact nodup_snd hn.2 m1 m2
theorem good_lookup {E:List (TypeId×List CK)}(hE:∀ p∈E,EqOk P p.1 p.2){t:TypeId}{x ix:Operand}{ok:Bool}(ho:o.op = .lookup t x ix ok):(lookupS P E M t ok (ev x) (ev ix)).good (OpOk P G ev M o):=by
 unfold lookupS
 split
 . rename_i kt et hu
   split
   . rename_i z hz
     split
     . rename_i n hx
       split
       . rename_i es hn
         split
         . rename_i hkey
           refine Res.good_mono (fun sv nb h => ?_) _ (lookR_good hE ok z es)
           obtain⟨rfl,v,b,rfl,h⟩:=h
           refine OpOk.same fun B ρ a w he hM => ?_
           obtain⟨l,arr,cnt,hl,hB,hh,hmap⟩:=hM.ok n _ (by rw[← nth_eq];exact hn)
           obtain⟨hck,hnj,⟨d,hd⟩,hcmp⟩:=keysOk_den hE ρ hkey
           have h1:=he x (by simp[ho,Op.operands]) (by rw[hx];simp)
           rw[hx] at h1
           have h2:=he ix (by simp[ho,Op.operands]) hnj
           have hgo:(getObj l.blk).run P w = .ok (.map arr cnt) w:=by simp[getObj,Sem.run,hh]
           have hz':=zeroV_den hz ρ w
           obtain⟨r,hr,hf⟩:=findKey_run hd arr.toList (hmap.keys hcmp)
           refine⟨_,fun _=>rfl,?_⟩
           cases b
           . simp only[Bool.false_eq_true,if_false] at h
             obtain⟨rfl,h3⟩:=h
             have hr0:r=none:=by
               cases r with
               |none=>rfl
               |some p=>
                exfalso
                obtain⟨e,he',hk1,_⟩:=hf
                have:(e.key,e.val)∈esD ρ es:=hmap.perm.mem_iff.1 (List.mem_map_of_mem (f:=fun e:MapEntry=>(e.key,e.val)) he')
                simp only[esD,List.mem_map] at this
                obtain⟨q,hq,hqe⟩:=this
                exact h3 q hq ρ ((congrArg (·.1) hqe).trans hk1)
             subst hr0
             cases ok<;>simp[execOp,ho,h1,h2,SV.den,hl,Instr.lookup,run_underlying hu,hgo,hck,hr,hz',outS,denL]
           . simp only[if_true] at h
             obtain⟨k,hk,hke⟩:=h
             have hin:((ev ix).den ρ,v.den ρ)∈esD ρ es:=by
               have:=List.mem_map_of_mem (f:=fun p:SV×SV=>(p.1.den ρ,p.2.den ρ)) hk
               simp only[hke ρ] at this
               exact this
             have hr0:∃ j,r=some (j,v.den ρ):=by
               cases r with
               |none=>
                exfalso
                obtain⟨e,he',hee⟩:=List.mem_map.1 (hmap.perm.mem_iff.2 hin)
                exact hf e he' (congrArg (·.1) hee)
               |some p=>
                obtain⟨j,v'⟩:=p
                obtain⟨e,he',hk1,hv1⟩:=hf
                have:(e.key,e.val)∈esD ρ es:=hmap.perm.mem_iff.1 (List.mem_map_of_mem (f:=fun e:MapEntry=>(e.key,e.val)) he')
                rw[hk1,hv1] at this
                exact⟨j,by rw[nodup_snd hmap.nodup this hin]⟩
             obtain⟨j,rfl⟩:=hr0
             cases ok<;>simp[execOp,ho,h1,h2,SV.den,hl,Instr.lookup,run_underlying hu,hgo,hck,hr,outS,denL]
         . trivial
       . rename_i m h hn
         exact good_fmLook hE ho hu hz hx hn
       . trivial
     . trivial
   . trivial
 . trivial
theorem ok_makeMap {t:TypeId}(ho:o.op = .makeMap t none):OpOk P G ev M o (.mp M.length) [.map []]:=by
 intro B ρ a w next Q hx hM hGw hn
 have hr:(execOp a.eval o).run P w = .ok (.value (.map (some w.heap.size))) (w.alloc (.map #[] 0)):=by
  simp only[execOp,ho,Option.map_none,Instr.makeMap,newObj,Sem.run_bind,Sem.run_pure,Result.andThen_ok]
  rfl
 refine wp_of_run hr (hn (setρ ρ M.length (some ⟨w.heap.size,0,0,none,.inr rfl⟩)) _ _ (fun _ => ?_) (setρ_ext fun n hn' => ?_) ((Below.refl _ _).alloc (Nat.le_refl _) _) (new_one ?_ ?_ (fun k hk=>(hM.zhi k hk).1) (by simp)))
 . simp[SV.den,setρ_self]
 . intro e;subst e;exact hn' ⟨Nat.le_refl _,by simp⟩
 . refine⟨⟨w.heap.size,0,0,none,.inr rfl⟩,#[],0,setρ_self ..,Or.inr hM.size,?_,by simp[esD],by simp[esD]⟩
   rw[heap_alloc,if_pos rfl]
 . intro _ l hl
   rw[setρ_self] at hl;obtain rfl:=Option.some.inj hl;exact Nat.le_refl _
def fvS:SV→Option FV
 | .tt=>some (.bool true)
 | .ff=>some (.bool false)
 | .val v=>some (.val v)
 | .bool b=>some (.bool b)
 | .int k n=>some (.int k n)
 | .u64 x=>some (.u64 x)
 |_=>none
theorem fvS_den {x:SV}{y:FV}(h:fvS x=some y)(ρ:Val):x.den ρ=y.den:=by
 cases x<;>first | (obtain rfl:=Option.some.inj h;rfl) | (cases h)
def fvL:List SV→Option (List FV)
 |[]=>some []
 |x::l=>match fvS x,fvL l with
  |some y,some m=>some (y::m)
  |_,_=>none
theorem fvL_den:∀ {l:List SV} {m:List FV},fvL l=some m→∀ ρ,denL ρ l=m.map FV.den
 |[],m,h,ρ=>by obtain rfl:=Option.some.inj h;rfl
 |x::l,m,h,ρ=>by
  simp only[fvL] at h
  split at h
  . rename_i y m' h1 h2
    obtain rfl:=Option.some.inj h
    simp[denL,fvS_den h1,fvL_den h2]
  . cases h
theorem fvL_flat:∀ {l:List SV} {m:List FV},fvL l=some m→m.all FV.flat=true
 |[],m,h=>by obtain rfl:=Option.some.inj h;rfl
 |x::l,m,h=>by
  simp only[fvL] at h
  split at h
  . rename_i y m' h1 h2
    obtain rfl:=Option.some.inj h
    simp only[List.all_cons,Bool.and_eq_true]
    refine⟨?_,fvL_flat h2⟩
    cases x<;>first | (obtain rfl:=Option.some.inj h1;rfl) | (cases h1)
  . cases h
theorem all_part {l:List FV}(h:l.all FV.flat=true)(o k:Nat):((l.drop o).take k).all FV.flat=true:=by
 rw[List.all_eq_true] at h ⊢
 exact fun x hx=>h x (List.mem_of_mem_drop (List.mem_of_mem_take hx))
def oneL:List SV→Bool
 |[]=>true
 |x::l=>x.one&&oneL l
theorem oneL_den {ρ:Val}:∀ {l:List SV},oneL l=true→∀ v∈denL ρ l,v.oneCell'=true
 |[],_,v,hv=>by simp[denL] at hv
 |x::l,h,v,hv=>by
  simp only[oneL,Bool.and_eq_true] at h
  simp only[denL,List.mem_cons] at hv
  rcases hv with rfl|hv
  . exact SV.one_den h.1
  . exact oneL_den h.2 v hv
def repL (z:List SV):Nat→List SV
 |0=>[]
 |n+1=>z++repL z n
def buildSliceS (P:Program)(M:List Blk)(t:TypeId)(len:Nat)(parts:List (Nat×SV)):Res:=match P.underlying t with
 |some (.slice e)=>match sizeS P e,zeroS P e with
  |some sz,some z=>match njP parts,Nat.ble (len*sz) 16777216,Nat.ble 1 sz,Nat.beq z.length sz with
   |true,true,true,true=>match fillS (fun i=>some (i*sz,sz)) (repL z len) parts with
    |some xs=>match fvL xs,Nat.beq xs.length (len*sz)&&oneL xs with
     |some l,true=>.ok (.sl M.length sz 0 len) [.own e sz len (fun i=>(l.drop (i*sz)).take sz)]
     |none,_=>match scL (fun n=>decide (n<M.length)) xs with
      |true=>.ok (.sl M.length sz 0 len) [.cells e xs]
      |false=>.fail
     |_,_=>.fail
    |none=>.fail
   |_,_,_,_=>.fail
  |_,_=>.fail
 |_=>.fail
theorem repL_den (ρ:Val)(z:List SV)(v:Value)(hv:v.cells=(denL ρ z).toArray)(hz:1≤z.length):∀ n,(denL ρ (repL z n)).toArray=(Array.range (n*z.length)).map fun i=>v.cells[i % v.cells.size]! := by
 intro n
 have hsz:v.cells.size=z.length:=by rw[hv];simp[denL_eq]
 have hlen:(denL ρ (repL z n)).length=n*z.length:=by
  induction n with
  |zero=>simp[repL,denL]
  |succ n ih=>simp only[repL,denL_append,List.length_append,ih,Nat.succ_mul];simp[denL_eq];omega
 have get:∀ n i,i<n*z.length→(denL ρ (repL z n))[i]? = (denL ρ z)[i % z.length]? := by
  intro n
  induction n with
  |zero=>intro i hi;simp at hi
  |succ n ih=>
   intro i hi
   rw[Nat.succ_mul] at hi
   have hl:(denL ρ z).length=z.length:=by simp[denL_eq]
   simp only[repL,denL_append]
   rw[List.getElem?_append,hl]
   split
   . rename_i h;rw[Nat.mod_eq_of_lt h]
   . rename_i h
     rw[ih _ (by omega),← Nat.mod_eq_sub_mod (by omega)]
 apply Array.ext
 . simp[hlen]
 . intro i h1 h2
   simp only[List.size_toArray] at h1
   have hi:i<n*z.length:=by omega
   have hm:i % z.length<z.length:=Nat.mod_lt _ hz
   have g:=get n i hi
   rw[List.getElem?_eq_getElem h1,List.getElem?_eq_getElem (by simp[denL_eq];omega)] at g
   simp only[Array.getElem_map,Array.getElem_range,hsz]
   rw[getElem!_pos v.cells (i % z.length) (by omega)]
   simp only[hv]
   simpa using Option.some.inj g
theorem flatG_take (l:List FV)(sz:Nat):∀ n,flatG n (fun i=>(l.drop (i*sz)).take sz)=(l.take (n*sz)).map FV.den:=by
 intro n
 induction n with
 |zero=>simp[flatG]
 |succ n ih=>
  have e:flatG (n+1) (fun i=>(l.drop (i*sz)).take sz)=flatG n (fun i=>(l.drop (i*sz)).take sz)++((l.drop (n*sz)).take sz).map FV.den:=by simp[flatG,List.range_succ]
  rw[e,ih,← List.map_append,Nat.succ_mul,List.take_add]
theorem good_buildSlice {t:TypeId}{len:Nat}{parts:Array (Nat×Operand)}(ho:o.op = .buildSlice t len parts):(buildSliceS P M t len (evP ev parts.toList)).good (OpOk P G ev M o):=by
 unfold buildSliceS
 split
 . rename_i e hu
   split
   . rename_i sz z hsz hz
     split
     . rename_i hnj hle h1 hzl
       split
       . rename_i xs hf
         have run:∀ (B:Bd) (ρ:Val) (a:Act) (w:World),(∀ x∈o.op.operands,ev x ≠ .junk→a.eval x=(ev x).den ρ)→(execOp a.eval o).run P w = .ok (.value (.slice (some ⟨w.heap.size,0,none⟩) len len)) (w.alloc (.cells (denL ρ xs).toArray e)):=by
          intro B ρ a w hx
          have hle':len*sz≤16777216:=Nat.le_of_ble_eq_true hle
          have h1':1≤sz:=Nat.le_of_ble_eq_true h1
          have hzl':z.length=sz:=Nat.eq_of_beq_eq_true hzl
          obtain⟨it,v,hi,hv,hc⟩:=zeroS_den hz
          obtain⟨it',hi',hs'⟩:=sizeS_info hsz
          obtain rfl:it=it':=by rw[hi] at hi';exact Option.some.inj hi'
          have he:=evP_eval (a:=a) (ρ:=ρ) parts.toList (fun p hp=>hx p.2 (by simp[ho,Op.operands];exact⟨p.1,by simpa using hp⟩)) hnj
          have hfill:=fill_of (ρ:=ρ) _ _ _ hf
          rw[repL_den ρ z v (hc ρ) (by omega) len,hzl',← he] at hfill
          have hvs:v.cells.size=sz:=by rw[hc ρ];simp[denL_eq,hzl']
          have hzv:(zeroValue e).run P w = .ok v w:=by simp[zeroValue,typeInfo,hi,hv]
          have hszv:(sizeOf e).run P w = .ok sz w:=by simp[sizeOf,typeInfo,hi,hs']
          have hne : ¬ len*sz > 2^24:=by omega
          by_cases hz0:len*sz=0
          . have hfill':Instr.fill (fun i=>some (i*sz,sz)) ((Array.range (len*sz)).map fun i=>(#[]:Array Value)[i % (#[]:Array Value).size]!) (parts.map fun(i,x)=>(i,a.eval x)).toList=some (denL ρ xs).toArray:=by
             rw[← hfill,hz0,Array.range_zero'];simp
            simp only[execOp,ho,Instr.buildSlice,Sem.run_bind,run_underlying hu,Result.andThen_ok,hszv]
            rw[if_neg hne,if_pos hz0]
            simp only[Sem.run_bind,Sem.run_pure,Result.andThen_ok,hfill',newRow,newObj]
            rfl
          . have hfill':Instr.fill (fun i=>some (i*sz,sz)) ((Array.range (len*sz)).map fun i=>v.cells[i % v.cells.size]!) (parts.map fun(i,x)=>(i,a.eval x)).toList=some (denL ρ xs).toArray:=by
             rw[← hfill];simp
            simp only[execOp,ho,Instr.buildSlice,Sem.run_bind,run_underlying hu,Result.andThen_ok,hszv]
            rw[if_neg hne,if_neg hz0]
            simp only[Sem.run_bind,Sem.run_pure,Result.andThen_ok,hzv,hfill',newRow,newObj]
            rfl
         split
         . rename_i l hl hlen
           intro B ρ a w next Q hx hM hGw hn
           have h1':1≤sz:=Nat.le_of_ble_eq_true h1
           have hle':len*sz≤16777216:=Nat.le_of_ble_eq_true hle
           simp only[Bool.and_eq_true] at hlen
           have hlen':xs.length=len*sz:=Nat.eq_of_beq_eq_true hlen.1
           have hr:=run B ρ a w hx
           have hll:l.length=len*sz:=by
            have:=congrArg List.length (fvL_den hl ρ)
            simp[denL_eq] at this;omega
           refine wp_of_run hr (hn (setρ ρ M.length (some ⟨w.heap.size,0,len,none,.inr rfl⟩)) _ _ (fun _ => ?_) (setρ_ext fun n hn' => ?_) ((Below.refl _ _).alloc (Nat.le_refl _) _) (new_one ?_ ?_ (fun k hk=>(hM.zhi k hk).1) (by simp)))
           . simp[SV.den,setρ_self]
           . intro e;subst e;exact hn' ⟨Nat.le_refl _,by simp⟩
           . refine⟨_,fun i _=>RepL.refl (all_part (fvL_flat hl) _ _),fun i hi => ?_,.inr ⟨⟨w.heap.size,0,len,none,.inr rfl⟩,(denL ρ xs).toArray,setρ_self ..,rfl,Or.inr hM.size,?_,Nat.le_refl _,?_,?_,?_⟩⟩
             . refine⟨?_,fun x hx => ?_⟩
               . simp only[List.length_take,List.length_drop,hll]
                 have:(i+1)*sz≤len*sz:=Nat.mul_le_mul_right _ hi
                 rw[Nat.succ_mul] at this;omega
               . have hxl:x∈l:=List.mem_of_mem_drop (List.mem_of_mem_take hx)
                 exact oneL_den (ρ:=ρ) hlen.2 _ (by rw[fvL_den hl ρ];exact List.mem_map_of_mem hxl)
             . rw[heap_alloc,if_pos rfl]
             . refine⟨?_,rfl⟩
               unfold maxLen
               have:len*1≤len*sz:=Nat.mul_le_mul_left _ h1'
               show len≤9223372036854775807
               omega
             . simp[denL_eq,hlen']
             . show(denL ρ xs).toArray.toList.take (len*sz)=_
               rw[flatG_take,fvL_den hl ρ,← hll,List.take_of_length_le (by simp),List.take_of_length_le (Nat.le_refl _)]
           . intro _ l' hl'
             rw[setρ_self] at hl';obtain rfl:=Option.some.inj hl';exact Nat.le_refl _
         . split
           . rename_i hsc
             intro B ρ a w next Q hx hM hGw hn
             have hr:=run B ρ a w hx
             refine wp_of_run hr (hn (setρ ρ M.length (some ⟨w.heap.size,0,len,none,.inr rfl⟩)) _ _ (fun _ => ?_) (setρ_ext fun n hn' => ?_) ((Below.refl _ _).alloc (Nat.le_refl _) _) (new_one ?_ ?_ (fun k hk=>(hM.zhi k hk).1) (by simp)))
             . simp[SV.den,setρ_self]
             . intro e;subst e;exact hn' ⟨Nat.le_refl _,by simp⟩
             . refine⟨⟨w.heap.size,0,len,none,.inr rfl⟩,setρ_self ..,rfl,Or.inr hM.size,?_⟩
               rw[heap_alloc,if_pos rfl,denL_congr (setρ_lt) xs hsc]
             . intro _ l' hl'
               rw[setρ_self] at hl';obtain rfl:=Option.some.inj hl';exact Nat.le_refl _
           . trivial
         . trivial
       . trivial
     . trivial
   . trivial
 . trivial
end
end Go.Sx
