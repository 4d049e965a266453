import Derived.Test.YtfgkhenhlpoheaaGreatM04
set_option linter.all false
namespace Go.Sx
open Go.RowKit Go.Proofs.YtfgkhenhlpoheaaGreat
def BarOk (P:Program)(G:World→Prop)(ev:Operand→SV)(M:List Blk)(o:Oper)(sv:SV)(M':List Blk):Prop:=
 ∀ (B:Bd) (ρ:Val) (a:Act) (w:World) (next:Act→World→Prop) (Q:Exit→Act→World→Prop),
   (∀ x∈o.op.operands,ev x ≠ .junk→a.eval x=(ev x).den ρ)→M.all (Blk.sc fun n=>decide (n<M.length))=true→MRel B ρ M w→(∀ w',Kept B w w'→G w')→
   (∀ (ρ':Val) (w':World) (v:Value),(sv ≠ .junk→v=sv.den ρ')→(∀ n,n<M.length→ρ' n=ρ n)→Kept B w w'→MRel B ρ' M' w'→next (a.put o.dst v) w')→
   o.wp P a w next Q
section
variable {P:Program}{G:World→Prop}{ev:Operand→SV}{M:List Blk}{o:Oper}
theorem wp_of_skip {a:Act}{w w':World}{next:Act→World→Prop}{Q:Exit→Act→World→Prop}(h:(execOp a.eval o).run P w = .ok .skip w')(hn:next (a.put o.dst undef) w'):o.wp P a w next Q:=by
 unfold Oper.wp;rw[h];exact hn
theorem MRel.set {B:Bd}{ρ:Val}{w w':World}{n:Nat}{b b':Blk}{l:Loc}(h:MRel B ρ M w)(hn:M[n]? = some b)(hb:b.isOwn=true)(hl:ρ n=some l)
  (hsz:w.heap.size≤w'.heap.size) (hw:∀ k,k≠l.blk→w'.heap[k]? = w.heap[k]?) (hb':b'.ok B ρ n w'):MRel B ρ (M.set n b') w':=by
 have hlt:=Blk.ok_lt (h.ok n b hn) hb hl
 have hin:n<M.length:=(List.getElem?_eq_some_iff.1 hn).1
 have key:∀ (i:Nat) (c:Blk),(M.set n b')[i]? = some c→c.isOwn=true→∃ c0,M[i]? = some c0∧c0.isOwn=true:=by
  intro i c hi ho
  rw[List.getElem?_set] at hi
  split at hi
  . rename_i e;subst e;exact⟨b,hn,hb⟩
  . exact⟨c,hi,ho⟩
 refine⟨Nat.le_trans h.size hsz,fun m c hm => ?_,fun m m' c c' k k' hne h1 h2 o1 o2 e1 e2 => ?_,h.zb,h.zlo,fun k hk=>⟨Nat.lt_of_lt_of_le (h.zhi k hk).1 hsz,(h.zhi k hk).2⟩,fun m c k hm ho hk => ?_,fun k hk=>(h.zc k hk).imp_right fun hc=>hc.same (h.zsame hn hb hl hw k hk)⟩
 . rw[List.getElem?_set] at hm
   split at hm
   . rename_i e;subst e
     simp only[hin,if_true,Option.some.injEq] at hm
     subst hm;exact hb'
   . rename_i hne
     refine c.ok_same (h.ok m c hm) (fun k hk=>hw k (fun e=>hk (e▸hlt.1))) (h.zsame hn hb hl hw) fun ho k hk=>hw _ ?_
     exact h.apart m n c b k l (Ne.symm hne) hm hn ho hb hk hl
 . obtain⟨c0,hc0,oc0⟩:=key m c h1 o1
   obtain⟨c0',hc0',oc0'⟩:=key m' c' h2 o2
   exact h.apart m m' c0 c0' k k' hne hc0 hc0' oc0 oc0' e1 e2
 . obtain⟨c0,hc0,oc0⟩:=key m c hm ho
   exact h.zown m c0 k hc0 oc0 hk
def gSet (g:Nat→List FV)(i j:Nat)(fs:List FV):Nat→List FV:=fun k=>match decide (k=i) with
 |true=>(g i).take j++fs++(g i).drop (j+fs.length)
 |false=>g k
theorem if_pos' {α:Type}{k i:Nat}{a b:α}(h:k=i):(match decide (k=i) with|true=>a|false=>b)=a:=by simp[h]
theorem if_neg' {α:Type}{k i:Nat}{a b:α}(h : ¬ k=i):(match decide (k=i) with|true=>a|false=>b)=b:=by simp[h]
def storeS (P:Program)(M:List Blk)(t:TypeId)(x y:SV):BRes:=match x with
 | .ptr n off=>match nth M n,cellsS y,sizeS P t with
   |some (.cells ty xs),some cs,some s=>match Nat.beq cs.length s,Nat.ble (off+s) xs.length,oneL cs with
    |true,true,true=>.ok (.val undef) (M.set n (.cells ty (xs.take off++cs++xs.drop (off+s))))
    |_,_,_=>.fail
   |_,_,_=>.fail
 | .ep n i sz j=>match nth M n,cellsS y,sizeS P t with
   |some (.own ty sz' m g),some cs,some s=>match Nat.beq cs.length s,Nat.ble (j+s) sz,oneL cs,Nat.beq sz sz',fvT M cs,fvL cs with
    |true,true,true,true,some (_,fs),some _=>.test (decide (i<m)) (.ok (.val undef) (M.set n (.own ty sz m (gSet g i j fs))))
    |true,true,true,true,some (b,fs),none=>.test b (.test (decide (i<m)) (.ok (.val undef) (M.set n (.own ty sz m (gSet g i j fs)))))
    |_,_,_,_,_,_=>.fail
   |_,_,_=>.fail
 |_=>.fail
theorem fvL_length:∀ {l:List SV} {m:List FV},fvL l=some m→m.length=l.length
 |[],m,h=>by obtain rfl:=Option.some.inj h;rfl
 |x::l,m,h=>by
  simp only[fvL] at h
  split at h
  . rename_i y m' h1 h2
    obtain rfl:=Option.some.inj h
    simp[fvL_length h2]
  . cases h
theorem gSet_len {g:Nat→List FV}{i j sz:Nat}{fs:List FV}(h:(g i).length=sz)(hj:j+fs.length≤sz):((g i).take j++fs++(g i).drop (j+fs.length)).length=sz:=by
 simp;omega
theorem flatG_set {g:Nat→List FV}{m i j sz:Nat}{fs:List FV}(hg:∀ k,k<m→okG sz (g k))(hf:∀ x∈fs,x.den.oneCell'=true)(hi:i<m)(hj:j+fs.length≤sz):
  (∀ k,k<m→okG sz (gSet g i j fs k))∧flatG m (gSet g i j fs)=(flatG m g).take (i*sz+j)++fs.map FV.den++(flatG m g).drop (i*sz+j+fs.length):=by
 have hg':∀ k,k<m→okG sz (gSet g i j fs k):=by
  intro k hk
  unfold gSet
  split
  . refine⟨gSet_len (hg i hi).1 hj,fun x hx => ?_⟩
    simp only[List.mem_append] at hx
    rcases hx with(hx|hx)|hx
    . exact(hg i hi).2 x (List.mem_of_mem_take hx)
    . exact hf x hx
    . exact(hg i hi).2 x (List.mem_of_mem_drop hx)
  . exact hg k hk
 refine⟨hg',?_⟩
 have l1:=flatG_length m (Nat.le_refl _) hg
 have l2:=flatG_length m (Nat.le_refl _) hg'
 have hmul:(i+1)*sz≤m*sz:=Nat.mul_le_mul_right _ hi
 rw[Nat.succ_mul] at hmul
 apply List.ext_getElem?
 intro p
 by_cases hp:p<m*sz
 . have hsz:0<sz:=by rcases Nat.eq_zero_or_pos sz with h|h;· subst h;omega
                     . exact h
   have hq:p / sz<m:=Nat.div_lt_of_lt_mul (by rw[Nat.mul_comm];exact hp)
   have hr:p % sz<sz:=Nat.mod_lt _ hsz
   have hpe:p=p / sz*sz+p % sz:=by rw[Nat.mul_comm];exact(Nat.div_add_mod p sz).symm
   have get:∀ (h:Nat→List FV),(∀ k,k<m→okG sz (h k))→(flatG m h)[p]? = ((h (p / sz))[p % sz]?).map FV.den:=by
    intro h hh
    have hlt:p % sz < (h (p / sz)).length:=by rw[(hh _ hq).1];exact hr
    have:=flatG_get hh hq (List.getElem?_eq_getElem hlt)
    rw[← hpe] at this
    rw[this,List.getElem?_eq_getElem hlt];rfl
   rw[get _ hg',List.getElem?_append,List.getElem?_append,List.getElem?_take,List.getElem?_drop]
   have e1:((flatG m g).take (i*sz+j)).length=i*sz+j:=by simp[l1];omega
   simp only[e1,List.length_append,List.length_map]
   unfold gSet
   by_cases hk:p / sz=i
   . have hpe':p=i*sz+p % sz:=by rw[hk] at hpe;exact hpe
     rw[if_pos' hk]
     rw[List.getElem?_append,List.getElem?_append,List.getElem?_take,List.getElem?_drop]
     have e2:((g i).take j).length=j:=by simp[(hg i hi).1];omega
     simp only[e2,List.length_append]
     rcases Nat.lt_or_ge (p % sz) j with h1|h1
     . rw[if_pos (by omega),if_pos h1,if_pos h1,if_pos (by omega),if_pos (by omega),if_pos (by omega),get g hg,hk]
     . rcases Nat.lt_or_ge (p % sz) (j+fs.length) with h2|h2
       . rw[if_pos h2,if_neg (by omega),if_pos (by omega),if_neg (by omega),List.getElem?_map]
         congr 2;omega
       . rw[if_neg (by omega),if_neg (by omega)]
         rw[show i*sz+j+fs.length+(p - (i*sz+j+fs.length))=p by omega,get g hg,hk]
         congr 2;omega
   . rw[if_neg' hk]
     rcases Nat.lt_or_ge (p / sz) i with h1|h1
     . have:(p / sz+1)*sz≤i*sz:=Nat.mul_le_mul_right _ h1
       rw[Nat.succ_mul] at this
       rw[if_pos (by omega),if_pos (by omega),if_pos (by omega),get g hg]
     . have:(i+1)*sz≤p / sz*sz:=Nat.mul_le_mul_right _ (by omega)
       rw[Nat.succ_mul] at this
       rw[if_neg (by omega)]
       rw[show i*sz+j+fs.length+(p - (i*sz+j+fs.length))=p by omega,get g hg]
 . rw[List.getElem?_eq_none (by omega),List.getElem?_eq_none]
   simp[l1];omega
theorem take_mid {α:Type}(l cs:List α){a N:Nat}(h:a+cs.length≤N)(hN:N≤l.length):(l.take a++cs++l.drop (a+cs.length)).take N=(l.take N).take a++cs++(l.take N).drop (a+cs.length):=by
 rw[List.take_append,List.take_of_length_le (by simp;omega),List.take_take,List.drop_take,Nat.min_eq_left (by omega)]
 congr 2
 simp;omega
theorem setRow_below {B:Bd}{w:World}{g:Nat}{cs:Array Value}(h:B.may g):Kept B w (w.setRow g cs):=
 ⟨rfl,rfl,rfl,by simp,fun k hk=>setRow_other w g k cs (fun e=>hk (e▸h)),fun k hk=>by
   by_cases e:k=g
   . subst e
     simp only[World.setRow,Array.getElem?_modify,hk,if_true,Option.map_some]
   . rw[setRow_other w g k cs e];exact hk,fun k r hk=>by
   by_cases e:k=g
   . subst e
     exact⟨r,by simp only[World.setRow,Array.getElem?_modify,hk,if_true,Option.map_some]⟩
   . exact⟨r,by rw[setRow_other w g k cs e];exact hk⟩⟩
theorem RepL.append {z:Nat→Prop}{w:World}{a b c d:List FV}(h:RepL z w a b)(k:RepL z w c d):RepL z w (a++c) (b++d):=⟨by simp[h.1,k.1],fun j x y hx hy=>by
 rw[List.getElem?_append] at hx hy
 rw[← h.1] at hy
 split at hx
 . rename_i hj;rw[if_pos hj] at hy;exact h.2 j x y hx hy
 . rename_i hj;rw[if_neg hj] at hy;exact k.2 _ x y hx hy⟩
theorem RepL.take {z:Nat→Prop}{w:World}{a b:List FV}(h:RepL z w a b)(k:Nat):RepL z w (a.take k) (b.take k):=by simpa using h.part 0 k
theorem RepL.drop {z:Nat→Prop}{w:World}{a b:List FV}(h:RepL z w a b)(k:Nat):RepL z w (a.drop k) (b.drop k):=⟨by simp[h.1],fun j x y hx hy=>by
 rw[List.getElem?_drop] at hx hy;exact h.2 _ x y hx hy⟩
theorem repL_set {z:Nat→Prop}{w:World}{g q:Nat→List FV}{i j k:Nat}{fs fq:List FV}(hi:RepL z w (g i) (q i))(hk:RepL z w (g k) (q k))(hf:RepL z w fs fq):RepL z w (gSet g i j fs k) (gSet q i j fq k):=by
 unfold gSet
 rw[← hf.1]
 split
 . exact((hi.take j).append hf).append (hi.drop _)
 . exact hk
theorem storeOwn_ok {t:TypeId}{x y:Operand}(ho:o.op = .store t x y){n i sz j:Nat}(hx:ev x = .ep n i sz j){ty:TypeId}{sz' m:Nat}{g:Nat→List FV}{cs:List SV}{s:Nat}(hn:nth M n=some (.own ty sz' m g))(hcs:cellsS (ev y)=some cs)(hs:sizeS P t=some s)
  {b:Bool} {fs:List FV} (h1:Nat.beq cs.length s=true) (h2:Nat.ble (j+s) sz=true) (h3:oneL cs=true) (h4:Nat.beq sz sz'=true) (hfs:fvT M cs=some (b,fs)) (hb:b=true):
  (BRes.test (decide (i<m)) (.ok (.val undef) (M.set n (.own ty sz m (gSet g i j fs))))).good (BarOk P G ev M o):=by
 have h1':cs.length=s:=Nat.eq_of_beq_eq_true h1
 have h2':j+s≤sz:=Nat.le_of_ble_eq_true h2
 obtain rfl:sz=sz':=Nat.eq_of_beq_eq_true h4
 intro hi B ρ a w next Q he hwf hM hGw hn'
 simp only[decide_eq_true_eq] at hi
 have hMn:M[n]? = some (.own ty sz m g):=by rw[← nth_eq];exact hn
 obtain⟨fq,hfr,hfd⟩:=fvT_ok hM hfs hb
 have hfl:fq.length=s:=by rw[← hfr.1,fvT_length hfs,h1']
 obtain⟨q,hrep,hg,hcase⟩:=hM.ok n _ hMn
 rcases hcase with⟨_,h0⟩ | ⟨l,cur,hl,h0,hB,hh,hmc,hcm,hcs',htake⟩
 . omega
 . obtain⟨hc,hnj⟩:=cellsS_den (ρ:=ρ) hcs
   have e1:=he x (by simp[ho,Op.operands]) (by rw[hx];simp)
   rw[hx] at e1
   have e2:=he y (by simp[ho,Op.operands]) hnj
   obtain⟨it,hi',hsz⟩:=sizeS_info hs
   have hone:∀ x∈fq,x.den.oneCell'=true:=fun x hx=>oneL_den (ρ:=ρ) h3 _ (by rw[hfd];exact List.mem_map_of_mem hx)
   obtain⟨hg',hflat⟩:=flatG_set (j:=j) hg hone hi (by omega)
   have hmul:(i+1)*sz≤m*sz:=Nat.mul_le_mul_right _ hi
   rw[Nat.succ_mul] at hmul
   have hmc':m*sz≤l.cap*sz:=Nat.mul_le_mul_right _ hmc
   have hst:=run_storeCells_at P l.blk (i*sz+j) ty (denL ρ cs) 0 cur w hh (by simp[denL_eq];omega) (oneL_den h3)
   have hszv:(sizeOf t).run P w = .ok s w:=by simp[sizeOf,typeInfo,hi',hsz]
   have hr:(execOp a.eval o).run P w = .ok .skip (w.setRow l.blk (cur.toList.take (i*sz+j)++denL ρ cs++cur.toList.drop (i*sz+j+(denL ρ cs).length)).toArray):=by
    simp only[execOp,ho,e1,e2,SV.den,hl,Option.map_some,h0,Nat.zero_add,Instr.storeAt,Instr.sureAddr,storeVar,hc,Sem.run_bind,Sem.run_pure,Result.andThen_ok,hszv]
    rw[if_neg (by simp[denL_eq,h1'])]
    simp only[hst,Result.andThen_ok,Nat.add_zero]
   have hlen:(denL ρ cs).length=s:=by simp[denL_eq,h1']
   have hsame:∀ k,k≠l.blk→(w.setRow l.blk (cur.toList.take (i*sz+j)++denL ρ cs++cur.toList.drop (i*sz+j+(denL ρ cs).length)).toArray).heap[k]? = w.heap[k]? := fun k hk=>setRow_other w l.blk k _ hk
   have hz:=hM.zsame hMn rfl hl hsame
   refine wp_of_skip hr (hn' ρ _ undef (fun _=>rfl) (fun _ _=>rfl) (setRow_below hB) (hM.set hMn rfl hl (by simp) hsame ⟨gSet q i j fq,fun k hk => ?_,hg',.inr ⟨l,_,hl,h0,hB,setRow_heap w _ _ _ _ _ hh,hmc,hcm,?_,?_⟩⟩))
   . exact(repL_set (hrep i hi) (hrep k hk) hfr).mono (fun _ h=>h) hz
   . simp only[List.size_toArray,List.length_append,List.length_take,List.length_drop,Array.length_toList,hlen];omega
   . simp only[]
     rw[hflat,← htake,hlen,hfd,hfl]
     have:=take_mid cur.toList (fq.map FV.den) (a:=i*sz+j) (N:=m*sz) (by simp[hfl];omega) (by simp;omega)
     simpa [hfl] using this
theorem good_store {t:TypeId}{x y:Operand}(ho:o.op = .store t x y):(storeS P M t (ev x) (ev y)).good (BarOk P G ev M o):=by
 unfold storeS
 split
 . rename_i n off hx
   split
   . rename_i ty xs cs s hn hcs hs
     split
     . rename_i h1 h2 h3
       have h1':cs.length=s:=Nat.eq_of_beq_eq_true h1
       have h2':off+s≤xs.length:=Nat.le_of_ble_eq_true h2
       intro B ρ a w next Q he hwf hM hGw hn'
       obtain⟨l,hl,h0,hB,hh⟩:=hM.ok n _ (by rw[← nth_eq];exact hn)
       obtain⟨hc,hnj⟩:=cellsS_den (ρ:=ρ) hcs
       have e1:=he x (by simp[ho,Op.operands]) (by rw[hx];simp)
       rw[hx] at e1
       have e2:=he y (by simp[ho,Op.operands]) hnj
       obtain⟨it,hi,hsz⟩:=sizeS_info hs
       have hst:=run_storeCells_at P l.blk off ty (denL ρ cs) 0 (denL ρ xs).toArray w hh (by simp[denL_eq];omega) (oneL_den h3)
       have hszv:(sizeOf t).run P w = .ok s w:=by simp[sizeOf,typeInfo,hi,hsz]
       have hr:(execOp a.eval o).run P w = .ok .skip (w.setRow l.blk (denL ρ (xs.take off++cs++xs.drop (off+s))).toArray):=by
        simp only[execOp,ho,e1,e2,SV.den,hl,Option.map_some,h0,Nat.zero_add,Instr.storeAt,Instr.sureAddr,storeVar,hc,Sem.run_bind,Sem.run_pure,Result.andThen_ok,hszv]
        rw[if_neg (by simp[denL_eq,h1'])]
        simp only[hst,Result.andThen_ok]
        simp[denL_eq,List.map_take,List.map_drop,h1']
       refine wp_of_skip hr (hn' ρ _ undef (fun _=>rfl) (fun _ _=>rfl) (setRow_below hB) (hM.set (by rw[← nth_eq];exact hn) rfl hl (by simp) (fun k hk=>setRow_other w l.blk k _ hk) ⟨l,hl,h0,hB,setRow_heap w _ _ _ _ _ hh⟩))
     . trivial
   . trivial
 . rename_i n i sz j hx
   split
   . rename_i ty sz' m g cs s hn hcs hs
     split
     . rename_i b fs l h1 h2 h3 h4 hfs hl
       refine storeOwn_ok ho hx hn hcs hs h1 h2 h3 h4 hfs ?_
       unfold fvT at hfs
       rw[hl] at hfs
       exact(Prod.mk.inj (Option.some.inj hfs)).1.symm
     . rename_i b fs h1 h2 h3 h4 hfs _
       intro hb
       exact storeOwn_ok ho hx hn hcs hs h1 h2 h3 h4 hfs hb
     . trivial
   . trivial
 . trivial
def mOne:List SV→Bool
 |[]=>true
 |x::l=>(match x with
  | .arr .. => true
  |x=>x.one)&&mOne l
theorem FV.cel_one (x:FV):x.cel.oneCell'=true:=by
 cases x with
 |val v=>simp only[FV.cel];split
         . assumption
         . rfl
 |_=>rfl
theorem fixL_one:∀ (n:Nat) (l:List FV),∀ v∈fixL n l,v.oneCell'=true
 |0,_,v,h=>by cases h
 |n+1,[],v,h=>by
  simp only[fixL,List.mem_cons] at h
  rcases h with rfl|h
  . rfl
  . exact fixL_one n [] v h
 |n+1,x::l,v,h=>by
  simp only[fixL,List.mem_cons] at h
  rcases h with rfl|h
  . exact FV.cel_one x
  . exact fixL_one n l v h
theorem mOne_den {ρ:Val}:∀ {xs:List SV},mOne xs=true→∀ v∈mixD ρ xs,v.oneCell'=true
 |[],_,v,hv=>by cases hv
 |x::xs,h,v,hv=>by
  simp only[mOne,Bool.and_eq_true] at h
  rw[mixD_cons,List.mem_append] at hv
  rcases hv with hv|hv
  . cases x with
    |arr n sz g=>
     simp only[itemL,arrL,List.mem_flatMap] at hv
     obtain⟨i,_,hi⟩:=hv
     exact fixL_one sz _ v hi
    |_=>
     simp only[itemL,List.mem_singleton] at hv
     subst hv
     exact SV.one_den (ρ:=ρ) h.1
  . exact mOne_den h.2 v hv
def setA:List SV→Nat→Nat→(Nat→List FV)→List SV
 |[],_,_,_=>[]
 |x::xs,s,J,h=>match x with
  | .arr n sz g=>match Nat.ble s J&&Nat.blt J (s+sz) with
    |true=>.arr n sz h::xs
    |false=>.arr n sz g::setA xs (s+n*sz) J h
  |x=>x::setA xs (s+1) J h
theorem setA_ok:∀ {xs:List SV} {s J st n sz:Nat} {g:Nat→List FV} (h:Nat→List FV),seekA xs s J=some (st,n,sz,g)→∃ a b,xs=a ++ .arr n sz g::b∧s+sumN a=st∧setA xs s J h=a ++ .arr n sz h::b
 |[],_,_,_,_,_,_,h,hs=>by cases hs
 |x::xs,s,J,st,n,sz,g,h,hs=>by
  simp only[seekA] at hs
  simp only[setA]
  cases x with
  |arr n' sz' g'=>
   simp only at hs ⊢
   cases hb:Nat.ble s J&&Nat.blt J (s+sz') with
   |true=>
    rw[hb] at hs
    simp only[Option.some.injEq,Prod.mk.injEq] at hs
    obtain⟨rfl,rfl,rfl,rfl⟩:=hs
    exact⟨[],xs,rfl,rfl,rfl⟩
   |false=>
    rw[hb] at hs
    simp only at hs
    obtain⟨a,b,e1,e2,e3⟩:=setA_ok h hs
    exact⟨.arr n' sz' g'::a,b,by rw[e1];rfl,by simp only[sumN,itemN];omega,by simp only[e3];rfl⟩
  |_=>
   simp only at hs ⊢
   obtain⟨a,b,e1,e2,e3⟩:=setA_ok h hs
   exact⟨_::a,b,by rw[e1];rfl,by simp only[sumN,itemN];omega,by rw[e3];rfl⟩
theorem fixL_map:∀ (l:List FV),fixL l.length l=l.map FV.cel
 |[]=>rfl
 |x::l=>by simp only[List.length_cons,fixL,List.map_cons,fixL_map l]
theorem arrL_set {n sz i:Nat}{g g':Nat→List FV}(hi:i<n)(he:∀ k,k≠i→g' k=g k):arrL n sz g'=(arrL n sz g).take (i*sz)++fixL sz (g' i)++(arrL n sz g).drop (i*sz+sz):=by
 apply List.ext_getElem?
 intro p
 have hmul:(i+1)*sz≤n*sz:=Nat.mul_le_mul_right _ hi
 rw[Nat.succ_mul] at hmul
 have l1:((arrL n sz g).take (i*sz)).length=i*sz:=by rw[List.length_take,arrL_length];omega
 by_cases hp:p<n*sz
 . have hsz:0<sz:=by rcases Nat.eq_zero_or_pos sz with h|h
                     . subst h;omega
                     . exact h
   have hq:p / sz<n:=Nat.div_lt_of_lt_mul (by rw[Nat.mul_comm];exact hp)
   have hr:p % sz<sz:=Nat.mod_lt _ hsz
   have hpe:p=p / sz*sz+p % sz:=by rw[Nat.mul_comm];exact(Nat.div_add_mod p sz).symm
   have get:∀ h:Nat→List FV,(arrL n sz h)[p]? = (fixL sz (h (p / sz)))[p % sz]? := fun h=>by
    have:=arrL_get (g:=h) hq hr
    rw[← hpe] at this;exact this
   rw[get g',List.getElem?_append,List.getElem?_append,List.length_append,l1,fixL_length]
   by_cases hk:p / sz=i
   . have hpe':p=i*sz+p % sz:=by rw[hk] at hpe;exact hpe
     rw[if_pos (by omega),if_neg (by omega),hk]
     congr 1;omega
   . rw[he _ hk,← get g]
     rcases Nat.lt_or_ge (p / sz) i with h1|h1
     . have:(p / sz+1)*sz≤i*sz:=Nat.mul_le_mul_right _ h1
       rw[Nat.succ_mul] at this
       rw[if_pos (by omega),if_pos (by omega),List.getElem?_take,if_pos (by omega)]
     . have:(i+1)*sz≤p / sz*sz:=Nat.mul_le_mul_right _ (by omega)
       rw[Nat.succ_mul] at this
       rw[if_neg (by omega),List.getElem?_drop]
       congr 1;omega
 . rw[List.getElem?_eq_none (by rw[arrL_length];omega),List.getElem?_eq_none]
   rw[List.length_append,List.length_append,l1,fixL_length,List.length_drop,arrL_length];omega
theorem mid_parts {α:Type}(A R C F:List α){p q:Nat}(hp:p≤R.length)(hq:q≤R.length):A++((R.take p++F++R.drop q)++C)=(A++(R++C)).take (A.length+p)++F++(A++(R++C)).drop (A.length+q):=by
 have t1:A.take (A.length+p)=A:=List.take_of_length_le (by omega)
 have t2:A.drop (A.length+q)=[]:=List.drop_eq_nil_of_le (by omega)
 rw[List.take_append,List.drop_append,t1,t2,Nat.add_sub_cancel_left,Nat.add_sub_cancel_left,List.take_append_of_le_length hp,List.drop_append_of_le_length hq]
 simp only[List.append_assoc,List.nil_append]
theorem mixD_set {ρ:Val}{a b:List SV}{n sz i j:Nat}{g:Nat→List FV}{fs:List FV}(hi:i<n)(hl:(g i).length=sz)(hj:j+fs.length≤sz):
  mixD ρ (a ++ .arr n sz (gSet g i j fs)::b)=(mixD ρ (a ++ .arr n sz g::b)).take (sumN a+i*sz+j)++fs.map FV.cel++(mixD ρ (a ++ .arr n sz g::b)).drop (sumN a+i*sz+j+fs.length):=by
 have hmul:(i+1)*sz≤n*sz:=Nat.mul_le_mul_right _ hi
 rw[Nat.succ_mul] at hmul
 have h1:arrL n sz (gSet g i j fs)=(arrL n sz g).take (i*sz+j)++fs.map FV.cel++(arrL n sz g).drop (i*sz+j+fs.length):=by
  have hne:∀ k,k≠i→gSet g i j fs k=g k:=fun k hk=>if_neg' hk
  rw[arrL_set (i:=i) (g:=g) (g':=gSet g i j fs) hi hne]
  have e1:gSet g i j fs i=(g i).take j++fs++(g i).drop (j+fs.length):=if_pos' rfl
  have e2:fixL sz (gSet g i j fs i)=(fixL sz (g i)).take j++fs.map FV.cel++(fixL sz (g i)).drop (j+fs.length):=by
   have hl2:((g i).take j++fs++(g i).drop (j+fs.length)).length=sz:=gSet_len hl hj
   rw[e1]
   have a1:=fixL_map ((g i).take j++fs++(g i).drop (j+fs.length))
   rw[hl2] at a1
   have a2:=fixL_map (g i)
   rw[hl] at a2
   rw[a1,a2];simp[List.map_take,List.map_drop]
  rw[e2]
  apply List.ext_getElem?
  intro p
  have c1:((arrL n sz g).take (i*sz)).length=i*sz:=by rw[List.length_take,arrL_length];omega
  have c2:((arrL n sz g).take (i*sz+j)).length=i*sz+j:=by rw[List.length_take,arrL_length];omega
  have c3:((fixL sz (g i)).take j).length=j:=by rw[List.length_take,fixL_length];omega
  simp only[List.getElem?_append,List.length_append,List.length_map,List.length_drop,c1,c2,c3,fixL_length,List.getElem?_take,List.getElem?_drop]
  have c4:∀ q,q<sz→(arrL n sz g)[i*sz+q]? = (fixL sz (g i))[q]? := fun q hq=>arrL_get hi hq
  rcases Nat.lt_or_ge p (i*sz) with h|h
  . rw[if_pos (by omega),if_pos (by omega),if_pos (by omega),if_pos (by omega),if_pos (by omega),if_pos (by omega)]
  . rcases Nat.lt_or_ge p (i*sz+j) with h2|h2
    . rw[if_pos (by omega),if_neg (by omega),if_pos (by omega),if_pos (by omega),if_pos (by omega),if_pos (by omega),if_pos (by omega),if_pos (by omega)]
      rw[← c4 _ (by omega)];congr 1;omega
    . rcases Nat.lt_or_ge p (i*sz+j+fs.length) with h3|h3
      . rw[if_pos (by omega),if_neg (by omega),if_pos (by omega),if_neg (by omega),if_pos (by omega),if_neg (by omega)]
        congr 1;omega
      . rw[if_neg (by omega : ¬ p<i*sz+j+fs.length)]
        rcases Nat.lt_or_ge p (i*sz+sz) with h4|h4
        . rw[if_pos (by omega),if_neg (by omega),if_neg (by omega)]
          have:=c4 (j+fs.length+(p-i*sz - (j+fs.length))) (by omega)
          rw[← this];congr 1;omega
        . rw[if_neg (by omega)]
          congr 1;omega
 rw[mixD_append,mixD_append,mixD_cons,mixD_cons]
 show mixD ρ a++(arrL n sz (gSet g i j fs)++mixD ρ b)=(mixD ρ a++(arrL n sz g++mixD ρ b)).take _++_++(mixD ρ a++(arrL n sz g++mixD ρ b)).drop _
 have la:(mixD ρ a).length=sumN a:=mixD_length ρ a
 have lr:(arrL n sz g).length=n*sz:=arrL_length ..
 rw[h1,show sumN a+i*sz+j=(mixD ρ a).length+(i*sz+j) by omega,show(mixD ρ a).length+(i*sz+j)+fs.length=(mixD ρ a).length+(i*sz+j+fs.length) by omega]
 exact mid_parts _ _ _ _ (by omega) (by omega)
def storeM (P:Program)(M:List Blk)(t:TypeId)(xs:List SV)(x y:SV):BRes:=match x with
 | .ptr n off=>match nth M n,itemsS y,sizeS P t with
   |some (.mix ty _),some cs,some s=>match splitM xs off with
    |some (a,r)=>match splitM r s,Nat.beq (sumN cs) s&&mOne cs with
     |some (_,b),true=>.ok (.val undef) (M.set n (.mix ty (a++cs++b)))
     |_,_=>.fail
    |none=>.fail
   |_,_,_=>.fail
 | .ep n i sz J=>match nth M n,seekA xs 0 J,cellsS y,sizeS P t with
   |some (.mix ty _),some (st,m,sz',g),some cs,some s=>match Nat.beq sz sz'&&Nat.beq cs.length s&&Nat.ble (J-st+s) sz&&oneL cs,fvL cs with
    |true,some fs=>match fs.all FV.gd with
     |true=>.test (decide (i<m)) (.test (decide ((g i).length=sz)) (.ok (.val undef) (M.set n (.mix ty (setA xs 0 J (gSet g i (J-st) fs))))))
     |false=>.fail
    |_,_=>.fail
   |_,_,_,_=>.fail
 |_=>.fail
theorem good_storeM {t:TypeId}{x y:Operand}(ho:o.op = .store t x y){xs:List SV}(hx:mixP M (ev x)=some xs):(storeM P M t xs (ev x) (ev y)).good (BarOk P G ev M o):=by
 unfold storeM
 split
 . rename_i n off hp
   rw[hp] at hx
   split
   . rename_i ty ys cs s hn hcs hs
     split
     . rename_i a r h1
       split
       . rename_i m b h2 h3
         obtain⟨e1,ha⟩:=splitM_ok h1
         obtain⟨rfl,hm⟩:=splitM_ok h2
         simp only[Bool.and_eq_true] at h3
         have hsum:sumN cs=s:=Nat.eq_of_beq_eq_true h3.1
         intro B ρ act w next Q he hwf hM hGw hn'
         obtain⟨l,ty',hn2,hl,h0,hB,hh⟩:=mixB_ok hM hx
         obtain rfl:ty=ty':=by
          rw[nth_eq,hn2] at hn
          have:=Option.some.inj hn
          injection this with e;exact e.symm
         obtain⟨hc,hnj⟩:=itemsS_den (ρ:=ρ) hcs
         have e2:=he x (by simp[ho,Op.operands]) (by rw[hp];simp)
         rw[hp] at e2
         have e3:=he y (by simp[ho,Op.operands]) hnj
         obtain⟨it,hi,hsz⟩:=sizeS_info hs
         have hlen:(mixD ρ xs).length=sumN a+(sumN m+sumN b):=by rw[e1,mixD_append,mixD_append,List.length_append,List.length_append,mixD_length,mixD_length,mixD_length]
         have hst:=run_storeCells_at P l.blk off ty (mixD ρ cs) 0 (mixD ρ xs).toArray w hh (by simp only[List.size_toArray,hlen,mixD_length];omega) (mOne_den h3.2)
         have hszv:(sizeOf t).run P w = .ok s w:=by simp[sizeOf,typeInfo,hi,hsz]
         have hr:(execOp act.eval o).run P w = .ok .skip (w.setRow l.blk (mixD ρ (a++cs++b)).toArray):=by
          simp only[execOp,ho,e2,e3,SV.den,hl,Option.map_some,h0,Nat.zero_add,Instr.storeAt,Instr.sureAddr,storeVar,hc,Sem.run_bind,Sem.run_pure,Result.andThen_ok,hszv]
          rw[if_neg (by simp only[List.size_toArray,mixD_length];omega)]
          simp only[hst,Result.andThen_ok]
          congr 2
          simp only[Nat.add_zero,mixD_length,hsum]
          rw[e1,mixD_append,mixD_append,mixD_append,mixD_append,List.take_append_of_le_length (by rw[mixD_length];omega),List.take_of_length_le (by rw[mixD_length];omega),← List.append_assoc (mixD ρ a),List.drop_append_of_le_length (by simp only[List.length_append,mixD_length];omega),List.drop_eq_nil_of_le (by simp only[List.length_append,mixD_length];omega),List.nil_append]
         refine wp_of_skip hr (hn' ρ _ undef (fun _=>rfl) (fun _ _=>rfl) (setRow_below hB) (hM.set hn2 rfl hl (by simp) (fun k hk=>setRow_other w l.blk k _ hk) ⟨l,hl,h0,hB,setRow_heap w _ _ _ _ _ hh⟩))
       . trivial
     . trivial
   . trivial
 . rename_i n i sz J hp
   rw[hp] at hx
   split
   . rename_i ty ys st m sz' g cs s hn hsk hcs hs
     split
     . rename_i fs hb hfs
       split
       . rename_i hgd
         simp only[Bool.and_eq_true] at hb
         obtain rfl:sz=sz':=Nat.eq_of_beq_eq_true hb.1.1.1
         have h1':cs.length=s:=Nat.eq_of_beq_eq_true hb.1.1.2
         have h2':J-st+s≤sz:=Nat.le_of_ble_eq_true hb.1.2
         intro hi hlen
         simp only[decide_eq_true_eq] at hi hlen
         obtain⟨hs1,hs2,hs3,_⟩:=seekA_ok hsk
         obtain⟨a,b,e1,e2,e3⟩:=setA_ok (gSet g i (J-st) fs) hsk
         rw[Nat.zero_add] at e2
         intro B ρ act w next Q he hwf hM hGw hn'
         obtain⟨l,ty',hn2,hl,h0,hB,hh⟩:=mixB_ok hM hx
         obtain rfl:ty=ty':=by
          rw[nth_eq,hn2] at hn
          have:=Option.some.inj hn
          injection this with e;exact e.symm
         obtain⟨hc,hnj⟩:=cellsS_den (ρ:=ρ) hcs
         have q1:=he x (by simp[ho,Op.operands]) (by rw[hp];simp)
         rw[hp] at q1
         have q2:=he y (by simp[ho,Op.operands]) hnj
         obtain⟨it,hi',hsz⟩:=sizeS_info hs
         have hfl:fs.length=s:=by rw[fvL_length hfs,h1']
         have hmul:(i+1)*sz≤m*sz:=Nat.mul_le_mul_right _ hi
         rw[Nat.succ_mul] at hmul
         have hxl:(mixD ρ xs).length=sumN a+(m*sz+sumN b):=by rw[mixD_length,e1];have:=mixD_length ρ (a ++ .arr m sz g::b);rw[mixD_append,mixD_cons,List.length_append,List.length_append,mixD_length,mixD_length,itemL_length] at this;rw[← this];rfl
         have hden:denL ρ cs=fs.map FV.cel:=by
          rw[fvL_den hfs ρ]
          apply List.map_congr_left
          intro y hy
          exact(FV.gd_ok (List.all_eq_true.1 hgd y hy)).1.symm
         have hpos:i*sz+J=sumN a+i*sz+(J-st):=by omega
         have hst:=run_storeCells_at P l.blk (i*sz+J) ty (denL ρ cs) 0 (mixD ρ xs).toArray w hh (by simp only[List.size_toArray,hxl,denL_eq,List.length_map,h1'];omega) (oneL_den hb.2)
         have hszv:(sizeOf t).run P w = .ok s w:=by simp[sizeOf,typeInfo,hi',hsz]
         have hr:(execOp act.eval o).run P w = .ok .skip (w.setRow l.blk (mixD ρ (setA xs 0 J (gSet g i (J-st) fs))).toArray):=by
          simp only[execOp,ho,q1,q2,SV.den,hl,Option.map_some,h0,Nat.zero_add,Instr.storeAt,Instr.sureAddr,storeVar,hc,Sem.run_bind,Sem.run_pure,Result.andThen_ok,hszv]
          rw[if_neg (by simp[denL_eq,h1'])]
          simp only[hst,Result.andThen_ok]
          congr 2
          rw[e3,mixD_set hi hlen (by omega)]
          simp only[Nat.add_zero,hpos,hden,List.length_map]
          rw[← e1]
         refine wp_of_skip hr (hn' ρ _ undef (fun _=>rfl) (fun _ _=>rfl) (setRow_below hB) (hM.set hn2 rfl hl (by simp) (fun k hk=>setRow_other w l.blk k _ hk) ⟨l,hl,h0,hB,setRow_heap w _ _ _ _ _ hh⟩))
       . trivial
     . trivial
   . trivial
 . trivial
def freshKey (P:Program)(E:List (TypeId×List CK))(kt:TypeId)(k:SV):List (SV×SV)→Option Bool
 |[]=>some true
 |(k',_)::l=>match keyEqS P E kt k k',freshKey P E kt k l with
  |some b,some c=>some (!b&&c)
  |_,_=>none
theorem freshKey_den {E:List (TypeId×List CK)}(hE:∀ p∈E,EqOk P p.1 p.2){kt:TypeId}{k:SV}(ρ:Val):∀ {es:List (SV×SV)} {b:Bool},freshKey P E kt k es=some b→b=true→∀ p∈es,KeyEqV P kt (k.den ρ) (p.1.den ρ) false
 |[],b,_,_,p,hp=>by cases hp
 |(k',v)::l,b,h,hb,p,hp=>by
  simp only[freshKey] at h
  split at h
  . rename_i b1 c h1 h2
    obtain rfl:=Option.some.inj h
    simp only[Bool.and_eq_true,Bool.not_eq_true'] at hb
    rcases List.mem_cons.1 hp with rfl|hp
    . have:=(keyEqS_den hE h1 ρ).1
      rw[hb.1] at this;exact this
    . exact freshKey_den hE ρ h2 hb.2 p hp
  . cases h
theorem freshKey_ne {E:List (TypeId×List CK)}(hE:∀ p∈E,EqOk P p.1 p.2){kt:TypeId}{k:SV}(ρ:Val){es:List (SV×SV)}{b:Bool}(h:freshKey P E kt k es=some b)(hb:b=true):∀ p∈es,p.1.den ρ≠k.den ρ:=fun p hp e=>by
 have:=(freshKey_den hE ρ h hb p hp).1.2 e.symm
 cases this
theorem run_insert {E:List (TypeId×List CK)}{t kt et:TypeId}{k v:Value}{d:TypeDesc}{w:World}{b:Nat}{arr:Array MapEntry}{cnt:Nat}(hu:P.underlying t=some (.map kt et))(hd:P.underlying kt=some d)
  (hh:w.heap[b]? = some (.map arr cnt)) (hck:∀ e w,(Instr.checkKey e 10000 kt k).run P w = .ok () w) (hcmp:∀ e∈arr.toList,∃ b,KeyEqV P kt k e.key b) (hne:∀ e∈arr.toList,e.key≠k):
  (Instr.mapUpdate t (.map (some b)) k v).run P w = .ok () {w with heap:=w.heap.setIfInBounds b (.map (arr.push ⟨k,v,cnt⟩) (cnt+1))}:=by
 have hgo:(getObj b).run P w = .ok (.map arr cnt) w:=by simp[getObj,Sem.run,hh]
 have hset:∀ ob,(setObj b ob).run P w = .ok () {w with heap:=w.heap.setIfInBounds b ob}:=fun ob=>by simp[setObj,Sem.run,hh]
 obtain⟨r,hr,hf⟩:=findKey_run hd arr.toList hcmp
 obtain rfl:r=none:=by
  cases r with
  |none=>rfl
  |some p=>obtain⟨e,he,hk,_⟩:=hf;exact absurd hk (hne e he)
 simp only[Instr.mapUpdate,Sem.run_bind,run_underlying hu,Result.andThen_ok,hgo,hck,hr,hset]
theorem MapIs.snoc {ρ:Val}{es:List (SV×SV)}{arr:Array MapEntry}{k v:SV}{cnt:Nat}(h:MapIs ρ es arr)(hne:∀ p∈es,p.1.den ρ≠k.den ρ):MapIs ρ (es++[(k,v)]) (arr.push ⟨k.den ρ,v.den ρ,cnt⟩):=by
 refine⟨?_,?_⟩
 . simp only[Array.toList_push,List.map_append,esD,List.map_cons,List.map_nil]
   exact List.Perm.append_right _ h.perm
 . simp only[esD,List.map_append,List.map_map,List.map_cons,List.map_nil]
   refine List.nodup_append.2 ⟨by have:=h.nodup;simpa [esD,List.map_map] using this,by simp,?_⟩
   intro x hx y hy e
   simp only[List.mem_map] at hx
   obtain⟨p,hp,rfl⟩:=hx
   simp only[List.mem_singleton] at hy
   subst hy
   exact hne p hp e
theorem MapIs.ne {ρ:Val}{es:List (SV×SV)}{arr:Array MapEntry}(h:MapIs ρ es arr){k:Value}(hne:∀ p∈es,p.1.den ρ≠k):∀ e∈arr.toList,e.key≠k:=by
 intro e he hh
 have:(e.key,e.val)∈esD ρ es:=h.perm.mem_iff.1 (List.mem_map_of_mem (f:=fun e:MapEntry=>(e.key,e.val)) he)
 simp only[esD,List.mem_map] at this
 obtain⟨p,hp,hpe⟩:=this
 exact hne p hp ((congrArg (·.1) hpe).trans hh)
theorem dq_set {w:World}{b:Nat}{ob ob':Obj}(hb:w.heap[b]? = some ob)(hne:ob≠Obj.deferred (some [])):∀ k:Nat,w.heap[k]? = some (Obj.deferred (some []))→(w.heap.setIfInBounds b ob')[k]? = some (Obj.deferred (some [])):=by
 intro k hk
 rw[Array.getElem?_setIfInBounds]
 split
 . rename_i e;subst e;rw[hb] at hk;exact absurd (Option.some.inj hk) hne
 . exact hk
theorem lq_set {w:World}{b:Nat}{ob ob':Obj}(hb:w.heap[b]? = some ob)(hne:∀ r,ob≠Obj.loop r):∀ (k:Nat) (r:Loop),w.heap[k]? = some (Obj.loop r)→∃ r',(w.heap.setIfInBounds b ob')[k]? = some (Obj.loop r'):=by
 intro k r hk
 refine⟨r,?_⟩
 rw[Array.getElem?_setIfInBounds]
 split
 . rename_i e;subst e;rw[hb] at hk;exact absurd (Option.some.inj hk) (hne r)
 . exact hk
def fmPut (h:List Int→Option Int)(k:List Int)(v:Int):List Int→Option Int:=fun q=>match decide (q=k) with
 |true=>some v
 |false=>h q
theorem fmPut_at (h:List Int→Option Int)(k:List Int)(v:Int):fmPut h k v k=some v:=by simp[fmPut]
theorem fmPut_ne (h:List Int→Option Int){k q:List Int}(v:Int)(e:q≠k):fmPut h k v q=h q:=by simp[fmPut,e]
theorem findAsking_ix {d:TypeDesc}{kt:TypeId}{k:Value}(hd:P.underlying kt=some d)(hs:isRowD d):∀ (L:List MapEntry) (i:Nat),(∀ e∈L,∃ b,KeyEqV P kt k e.key b)→∃ r,(∀ w,(Instr.findAsking kt k L i).run P w = .ok r w)∧
  ((r=none∧∀ e∈L,e.key≠k) ∨ ∃ (q:Nat) (e:MapEntry),r=some (i+q,e.val)∧L[q]? = some e∧e.key=k)
 |[],i,_=>⟨none,fun w=>rfl,.inl ⟨rfl,fun e he=>by cases he⟩⟩
 |e::L,i,h=>by
  obtain⟨b,hiff,hb⟩:=h e (List.mem_cons_self ..)
  have hb':∀ w,(Op.equal kt k e.key).run P w = .ok b w:=by
   rcases hb with⟨d',h1,h2⟩ | ⟨_,_,_,h2⟩
   . obtain rfl:d=d':=by rw[hd] at h1;exact Option.some.inj h1
     rw[hs.none] at h2;cases h2
   . exact h2
  cases b with
  |true=>exact⟨some (i,e.val),fun w=>by simp[Instr.findAsking,hb'],.inr ⟨0,e,rfl,rfl,(hiff.1 rfl).symm⟩⟩
  |false=>
   obtain⟨r,h1,h2⟩:=findAsking_ix hd hs L (i+1) (fun e' he=>h e' (List.mem_cons_of_mem _ he))
   refine⟨r,fun w=>by simp[Instr.findAsking,hb',h1],?_⟩
   rcases h2 with⟨h2,h3⟩ | ⟨q,e',h2,h3,h4⟩
   . refine .inl ⟨h2,fun e' he => ?_⟩
     rcases List.mem_cons.1 he with rfl|he
     . intro hh;exact absurd (hiff.2 hh.symm) (by simp)
     . exact h3 e' he
   . exact .inr ⟨q+1,e',by rw[h2];congr 2;omega,by simpa using h3,h4⟩
theorem sameBits_keyV (k:List Int):Instr.sameBits 10000 (keyV k) (keyV k)=true:=by
 unfold keyV
 simp only[Instr.sameBits,beq_self_eq_true,Bool.true_and]
 induction k with
 |nil=>rfl
 |cons x k ih=>simp only[List.map_cons,List.zip_cons_cons,List.all_cons,ih,Bool.and_true,Instr.sameBits,beq_self_eq_true,Bool.and_self]
theorem FmIs.push {n:Nat}{h:List Int→Option Int}{arr:Array MapEntry}(hf:FmIs n h arr){k:List Int}(hk:k.length=n){v:Int}{cnt:Nat}(hne:∀ e∈arr.toList,e.key≠keyV k):FmIs n (fmPut h k v) (arr.push ⟨keyV k,.int .i64 v,cnt⟩):=by
 refine⟨fun e he => ?_,fun k1 v1 hl hv => ?_,?_⟩
 . rw[Array.toList_push,List.mem_append,List.mem_singleton] at he
   rcases he with he|rfl
   . obtain⟨k0,v0,e1,e2,e3,e4⟩:=hf.each e he
     exact⟨k0,v0,e1,e2,e3,by rw[fmPut_ne h v (fun e5=>hne e he (by rw[e2,e5]))];exact e4⟩
   . exact⟨k,v,hk,rfl,rfl,fmPut_at ..⟩
 . rw[Array.toList_push]
   by_cases e1:k1=k
   . subst e1;exact⟨⟨keyV k1,.int .i64 v,cnt⟩,by simp,rfl⟩
   . rw[fmPut_ne h v e1] at hv
     obtain⟨e,he,e2⟩:=hf.all k1 v1 hl hv
     exact⟨e,by simp[he],e2⟩
 . rw[Array.toList_push,List.map_append]
   refine List.nodup_append.2 ⟨hf.nodup,by simp,?_⟩
   intro x hx y hy e
   simp only[List.mem_map] at hx
   obtain⟨p,hp,rfl⟩:=hx
   simp only[List.map_cons,List.map_nil,List.mem_singleton] at hy
   subst hy
   exact hne p hp e
theorem FmIs.put {n:Nat}{h:List Int→Option Int}{arr:Array MapEntry}(hf:FmIs n h arr){k:List Int}(hk:k.length=n){v:Int}{i:Nat}{e0:MapEntry}(hi:arr.toList[i]? = some e0)(hke:e0.key=keyV k):FmIs n (fmPut h k v) (arr.modify i fun e=>{e with key:=keyV k,val:=.int .i64 v}):=by
 have hl:(arr.modify i fun e=>{e with key:=keyV k,val:=.int .i64 v}).toList=arr.toList.modify i fun e=>{e with key:=keyV k,val:=.int .i64 v}:=by simp
 have get:∀ (j:Nat) (e':MapEntry),(arr.toList.modify i fun e=>{e with key:=keyV k,val:=.int .i64 v})[j]? = some e'→∃ e1,arr.toList[j]? = some e1∧((i=j∧e'={e1 with key:=keyV k,val:=.int .i64 v})∨(i≠j∧e'=e1)):=by
  intro j e' h1
  rw[List.getElem?_modify] at h1
  cases hj:arr.toList[j]? with
  |none=>rw[hj] at h1;cases h1
  |some e1=>
   rw[hj] at h1
   have h1:(if i=j then {e1 with key:=keyV k,val:=.int .i64 v} else e1)=e':=Option.some.inj h1
   refine⟨e1,rfl,?_⟩
   by_cases hij:i=j
   . rw[if_pos hij] at h1;exact .inl ⟨hij,h1.symm⟩
   . rw[if_neg hij] at h1;exact .inr ⟨hij,h1.symm⟩
 have uniq:∀ (j:Nat) (e1:MapEntry),arr.toList[j]? = some e1→e1.key=keyV k→i=j:=by
  intro j e1 h1 h2
  have a1:(arr.toList.map (·.key))[i]? = some (keyV k):=by rw[List.getElem?_map,hi];simp[hke]
  have a2:(arr.toList.map (·.key))[j]? = some (keyV k):=by rw[List.getElem?_map,h1];simp[h2]
  exact(List.getElem?_inj (List.getElem?_eq_some_iff.1 a1).1 hf.nodup).1 (a1.trans a2.symm)
 refine⟨fun e he => ?_,fun k1 v1 hlen hv => ?_,?_⟩
 . rw[hl] at he
   obtain⟨j,hj⟩:=List.getElem?_of_mem he
   obtain⟨e1,h1,⟨h2,rfl⟩ | ⟨h2,rfl⟩⟩:=get j e hj
   . exact⟨k,v,hk,rfl,rfl,fmPut_at ..⟩
   . obtain⟨k0,v0,q1,q2,q3,q4⟩:=hf.each e (List.mem_of_getElem? h1)
     exact⟨k0,v0,q1,q2,q3,by rw[fmPut_ne h v (fun e5=>h2 (uniq j e h1 (by rw[q2,e5])))];exact q4⟩
 . rw[hl]
   have put:∀ (j:Nat) (e1:MapEntry),arr.toList[j]? = some e1→∃ e'∈arr.toList.modify i fun e=>{e with key:=keyV k,val:=.int .i64 v},e'.key=e1.key:=by
    intro j e1 h1
    refine⟨_,List.mem_of_getElem? (i:=j) (by rw[List.getElem?_modify,h1];rfl),?_⟩
    show(if i=j then _ else e1).key=e1.key
    by_cases hij:i=j
    . subst hij
      rw[hi] at h1
      obtain rfl:=Option.some.inj h1
      rw[if_pos rfl];exact hke.symm
    . rw[if_neg hij]
   by_cases e1:k1=k
   . subst e1
     obtain⟨e',he',hk'⟩:=put i e0 hi
     exact⟨e',he',hk'.trans hke⟩
   . rw[fmPut_ne h v e1] at hv
     obtain⟨e,he,e2⟩:=hf.all k1 v1 hlen hv
     obtain⟨j,hj⟩:=List.getElem?_of_mem he
     obtain⟨e',he',hk'⟩:=put j e hj
     exact⟨e',he',hk'.trans e2⟩
 . rw[hl]
   have:(arr.toList.modify i fun e=>{e with key:=keyV k,val:=.int .i64 v}).map (·.key)=arr.toList.map (·.key):=by
    apply List.ext_getElem?
    intro j
    rw[List.getElem?_map,List.getElem?_map,List.getElem?_modify]
    cases hj:arr.toList[j]? with
    |none=>rfl
    |some e1=>
     show some (if i=j then _ else e1).key=some e1.key
     by_cases hij:i=j
     . subst hij
       rw[hi] at hj
       obtain rfl:=Option.some.inj hj
       rw[if_pos rfl];exact congrArg some hke.symm
     . rw[if_neg hij]
   rw[this];exact hf.nodup
theorem run_fmPut {E:List (TypeId×List CK)}(hE:∀ p∈E,EqOk P p.1 p.2){t kt et:TypeId}{ks:List CK}(hk:findE E kt=some ks){n:Nat}(hn:intCK ks n=true){k:List Int}(hkl:k.length=n){h:List Int→Option Int}{v:Int}{w:World}{b:Nat}{arr:Array MapEntry}{cnt:Nat}(hu:P.underlying t=some (.map kt et))
  (hh:w.heap[b]? = some (.map arr cnt)) (hf:FmIs n h arr):∃ arr' cnt',(Instr.mapUpdate t (.map (some b)) (keyV k) (.int .i64 v)).run P w = .ok () {w with heap:=w.heap.setIfInBounds b (.map arr' cnt')}∧FmIs n (fmPut h k v) arr':=by
 have hgo:(getObj b).run P w = .ok (.map arr cnt) w:=by simp[getObj,Sem.run,hh]
 have hset:∀ ob,(setObj b ob).run P w = .ok () {w with heap:=w.heap.setIfInBounds b ob}:=fun ob=>by simp[setObj,Sem.run,hh]
 obtain⟨hck,_,hc⟩:=fm_key hE hk hn hkl
 obtain⟨⟨d,hd,hs⟩,_⟩:=hE _ (findE_mem E kt ks hk)
 have hcmp:∀ e∈arr.toList,∃ b,KeyEqV P kt (keyV k) e.key b:=fun e he=>by
  obtain⟨k',v',e1,e2,_⟩:=hf.each e he
  rw[e2];exact⟨_,hc k' e1⟩
 obtain⟨r,hr,h2⟩:=findAsking_ix hd hs arr.toList 0 hcmp
 have hfk:(Instr.findKey kt (keyV k) arr.toList).run P w = .ok r w:=by
  cases ha:arr.toList with
  |nil=>
   rw[ha] at hr h2
   rcases h2 with⟨rfl,_⟩ | ⟨q,e,_,h3,_⟩
   . simp[Instr.findKey,run_underlying hd,Instr.findNow]
   . simp at h3
  |cons e L=>
   rw[ha] at hr
   simp[Instr.findKey,run_underlying hd,Instr.findNow,hs.none,hr]
 rcases h2 with⟨rfl,h3⟩ | ⟨q,e,rfl,h3,h4⟩
 . refine⟨arr.push ⟨keyV k,.int .i64 v,cnt⟩,cnt+1,?_,hf.push (v:=v) (cnt:=cnt) hkl h3⟩
   simp only[Instr.mapUpdate,Sem.run_bind,run_underlying hu,Result.andThen_ok,hgo,hck,hfk,hset]
 . refine⟨arr.modify q fun e=>{e with key:=keyV k,val:=.int .i64 v},cnt,?_,hf.put (v:=v) hkl h3 h4⟩
   have e5:((arr[q]?).map (·.key)).getD (keyV k)=keyV k:=by
    rw[show arr[q]? = some e by simpa using h3];simp[h4]
   have hst:(Instr.keyThatStays (keyV k) (keyV k)).run P w = .ok (keyV k) w:=by
    unfold Instr.keyThatStays
    rw[sameBits_keyV];rfl
   simp only[Instr.mapUpdate,Sem.run_bind,run_underlying hu,Result.andThen_ok,hgo,hck,hfk,Nat.zero_add,e5,hst,hset]
def fmIns (E:List (TypeId×List CK))(M:List Blk)(kt:TypeId)(n:Nat)(k v:SV)(m:Nat)(h:List Int→Option Int):BRes:=match k with
 | .agg xs=>match findE E kt with
   |some ks=>match v with
    | .int kv x=>match intsS xs with
      |some q=>match kEq kv .i64,Nat.beq q.length m,intCK ks m with
       |true,true,true=>.ok (.val undef) (M.set n (.fm m (fmPut h q x)))
       |_,_,_=>.fail
      |none=>.fail
    |_=>.fail
   |none=>.fail
 |_=>.fail
theorem good_fmIns {E:List (TypeId×List CK)}(hE:∀ p∈E,EqOk P p.1 p.2){t kt et:TypeId}{x k v:Operand}(ho:o.op = .insert t x k v∨o.op = .mapUpdate t x k v)(hu:P.underlying t=some (.map kt et)){n m:Nat}{h:List Int→Option Int}(hx:ev x = .mp n)(hn:nth M n=some (.fm m h)):(fmIns E M kt n (ev k) (ev v) m h).good (BarOk P G ev M o):=by
 unfold fmIns
 split
 . rename_i xs hik
   split
   . rename_i ks hks
     split
     . rename_i kv y hiv
       split
       . rename_i q hq
         split
         . rename_i h1 h2 h3
           simp only[kEq,decide_eq_true_eq] at h1
           subst h1
           have hql:q.length=m:=Nat.eq_of_beq_eq_true h2
           intro B ρ a w next Q he hwf hM hGw hn'
           obtain⟨l,arr,cnt,hl,hB,hh,hmap⟩:=hM.ok n _ (by rw[← nth_eq];exact hn)
           have hops:x∈o.op.operands∧k∈o.op.operands∧v∈o.op.operands:=by rcases ho with h|h<;>simp[h,Op.operands]
           have e1:=he x hops.1 (by rw[hx];simp)
           rw[hx] at e1
           have e2:=he k hops.2.1 (by rw[hik];simp)
           rw[hik,show(SV.agg xs).den ρ=keyV q by simp only[SV.den,keyV,intsS_den hq]] at e2
           have e3:=he v hops.2.2 (by rw[hiv];simp)
           rw[hiv] at e3
           have hlt:l.blk<w.heap.size:=(Array.getElem?_eq_some_iff.1 hh).1
           obtain⟨arr',cnt',hm,hf'⟩:=run_fmPut hE hks h3 hql (v:=y) hu hh hmap
           have hr:(execOp a.eval o).run P w = .ok .skip {w with heap:=w.heap.setIfInBounds l.blk (.map arr' cnt')}:=by
            rcases ho with h|h<;>simp only[execOp,h,e1,e2,e3,SV.den,hl,Option.map_some,Sem.run_bind,hm,Result.andThen_ok,Sem.run_pure]
           refine wp_of_skip hr (hn' ρ _ undef (fun _=>rfl) (fun _ _=>rfl) ⟨rfl,rfl,rfl,by simp,fun k hk => ?_,dq_set hh (by simp),lq_set hh (by simp)⟩ (hM.set (by rw[← nth_eq];exact hn) rfl hl (by simp) (fun k hk => ?_) ⟨l,_,cnt',hl,hB,?_,hf'⟩))
           . simp only[Array.getElem?_setIfInBounds];rw[if_neg (fun(e:l.blk=k)=>hk (e▸hB))]
           . simp only[Array.getElem?_setIfInBounds];rw[if_neg (Ne.symm hk)]
           . simp only[Array.getElem?_setIfInBounds];simp[hlt]
         . trivial
       . trivial
     . trivial
   . trivial
 . trivial
def insertS (P:Program)(E:List (TypeId×List CK))(M:List Blk)(t:TypeId)(x k v:SV):BRes:=match P.underlying t with
 |some (.map kt _)=>match x with
  | .mp n=>match nth M n with
    |some (.map es)=>match keysOk P E kt k es,v.nj,freshKey P E kt k es with
     |true,true,some b=>.test b (.ok (.val undef) (M.set n (.map (es++[(k,v)]))))
     |_,_,_=>.fail
    |some (.fm m h)=>fmIns E M kt n k v m h
    |_=>.fail
  |_=>.fail
 |_=>.fail
theorem good_insert {E:List (TypeId×List CK)}(hE:∀ p∈E,EqOk P p.1 p.2){t:TypeId}{x k v:Operand}(ho:o.op = .insert t x k v∨o.op = .mapUpdate t x k v):(insertS P E M t (ev x) (ev k) (ev v)).good (BarOk P G ev M o):=by
 unfold insertS
 split
 . rename_i kt et hu
   split
   . rename_i n hx
     split
     . rename_i es hn
       split
       . rename_i b hkey hnj hf
         intro hb B ρ a w next Q he hwf hM hGw hn'
         obtain⟨l,arr,cnt,hl,hB,hh,hmap⟩:=hM.ok n _ (by rw[← nth_eq];exact hn)
         have hops:x∈o.op.operands∧k∈o.op.operands∧v∈o.op.operands:=by rcases ho with h|h<;>simp[h,Op.operands]
         obtain⟨hck,hkj,⟨d,hd⟩,hcmp⟩:=keysOk_den hE ρ hkey
         have e1:=he x hops.1 (by rw[hx];simp)
         rw[hx] at e1
         have e2:=he k hops.2.1 hkj
         have e3:=he v hops.2.2 (SV.nj_ne hnj)
         have hne:=freshKey_ne hE ρ hf hb
         have hlt:l.blk<w.heap.size:=(Array.getElem?_eq_some_iff.1 hh).1
         have hm:=run_insert (E:=E) (v:=(ev v).den ρ) hu hd hh hck (hmap.keys hcmp) (hmap.ne hne)
         have hr:(execOp a.eval o).run P w = .ok .skip {w with heap:=w.heap.setIfInBounds l.blk (.map (arr.push ⟨(ev k).den ρ,(ev v).den ρ,cnt⟩) (cnt+1))}:=by
          rcases ho with h|h<;>simp only[execOp,h,e1,e2,e3,SV.den,hl,Option.map_some,Sem.run_bind,hm,Result.andThen_ok,Sem.run_pure]
         refine wp_of_skip hr (hn' ρ _ undef (fun _=>rfl) (fun _ _=>rfl) ⟨rfl,rfl,rfl,by simp,fun k hk => ?_,dq_set hh (by simp),lq_set hh (by simp)⟩ (hM.set (by rw[← nth_eq];exact hn) rfl hl (by simp) (fun k hk => ?_) ⟨l,_,cnt+1,hl,hB,?_,hmap.snoc (cnt:=cnt) hne⟩))
         . simp only[Array.getElem?_setIfInBounds];rw[if_neg (fun(e:l.blk=k)=>hk (e▸hB))]
         . simp only[Array.getElem?_setIfInBounds];rw[if_neg (Ne.symm hk)]
         . simp only[Array.getElem?_setIfInBounds];simp[hlt]
       . trivial
     . rename_i m h hn
       exact good_fmIns hE ho hu hx hn
     . trivial
   . trivial
 . trivial
def gApp (n:Nat)(g h:Nat→List FV):Nat→List FV:=fun i=>match decide (i<n) with
 |true=>g i
 |false=>h (i-n)
theorem flatG_app (n:Nat)(g h:Nat→List FV):∀ m,flatG (n+m) (gApp n g h)=flatG n g++flatG m h:=by
 intro m
 induction m with
 |zero=>
  simp only[Nat.add_zero,flatG,List.range_zero,List.flatMap_nil,List.append_nil]
  rw[List.flatMap_def,List.flatMap_def]
  congr 1
  apply List.map_congr_left
  intro i hi
  simp only[List.mem_range] at hi
  simp[gApp,hi]
 |succ m ih=>
  have e1:flatG (n+(m+1)) (gApp n g h)=flatG (n+m) (gApp n g h)++(gApp n g h (n+m)).map FV.den:=by simp[flatG,List.range_succ,← Nat.add_assoc]
  have e2:flatG (m+1) h=flatG m h++(h m).map FV.den:=by simp[flatG,List.range_succ]
  rw[e1,e2,ih,List.append_assoc]
  congr 2
  have hn : ¬ n+m<n:=by omega
  simp[gApp,hn]
theorem run_append_sx {B:Bd}{ρ:Val}{n N:Nat}{w:World}{t ty e:TypeId}{i:TypeInfo}{z:Value}{sz k m:Nat}{g h:Nat→List FV}{ad:Addr}{c:Nat}
  (ht:P.underlying t=some (.slice e)) (hi:P.info? e=some i) (hz:i.zero=some z) (hsz:i.size=sz) (hzs:z.cells.size=sz) (hpos:0<sz)
  (hb:ownOk B ρ n w e sz k g) (hBw:B.s≤w.heap.size)
  (hh:∀ j,j<m→okG sz (h j)) (hnews:∀ j u,(flatG m h)[j]? = some u→w.cell? (ad.add j)=some u) (h1:∀ u∈flatG m h,u.oneCell'=true)
  (h63:k+m≤maxLen) (hbytes:(k+m)*i.bytes≤140737488355328):
  ∃ (r:Option Loc) (w':World),(Builtin.append_ #[t,t] ty #[(SV.sl n sz 0 k).den ρ,.slice (some ad) m c]).run P w = .ok ((SV.sl N sz 0 (k+m)).den (setρ ρ N r)) w'∧
    ownOk B (setρ ρ N r) N w' e sz (k+m) (gApp k g h)∧w'.os=w.os∧w'.tape=w.tape∧w'.output=w.output∧w.heap.size≤w'.heap.size∧
    (∀ j,j<w.heap.size→(∀ l,ρ n=some l→j≠l.blk)→w'.heap[j]? = w.heap[j]?)∧(∀ l',r=some l'→(∃ l,ρ n=some l∧l.blk=l'.blk)∨w.heap.size≤l'.blk):=by
 have hsmall:k+m≤9223372036854775807:=by simp only[maxLen] at h63;omega
 obtain⟨hg,hb⟩:=hb
 have hgl:∀ i,i<k+m→okG sz (gApp k g h i):=by
  intro i hi
  unfold gApp
  split
  . rename_i hlt;exact hg i (by simpa using hlt)
  . rename_i hlt
    have : ¬ i<k:=by simpa using hlt
    exact hh _ (by omega)
 have hln:(flatG m h).length=m*sz:=flatG_length m (Nat.le_refl _) hh
 have hlo:(flatG k g).length=k*sz:=flatG_length k (Nat.le_refl _) hg
 have grown:∀ (cap:Nat),k+m≤cap→cap≤maxLen→∀ (w1:World),w1.heap.size=w.heap.size→
   ownOk B (setρ ρ N (some ⟨w.heap.size,0,cap,none,.inr rfl⟩)) N (w1.alloc (.cells ((flatG k g).toArray++(flatG m h).toArray++Builtin.zeroCells z.cells (cap - (k+m))) e)) e sz (k+m) (gApp k g h):=by
  intro cap hc1 hc2 w1 hw1
  refine⟨hgl,.inr ⟨⟨w.heap.size,0,cap,none,.inr rfl⟩,_,setρ_self ..,rfl,Or.inr hBw,by rw[heap_alloc,if_pos hw1.symm],hc1,⟨hc2,rfl⟩,?_,?_⟩⟩
  . simp only[Array.size_append,List.size_toArray,hln,hlo,size_zeroCells,hzs,← Nat.add_mul]
    congr 1;omega
  . simp only[Array.toList_append,List.append_assoc]
    rw[← List.append_assoc,flatG_app,Nat.add_mul,← hlo,← hln,← List.length_append]
    exact List.take_left
 rcases hb with⟨hρ,rfl⟩ | ⟨l,cur,hl,h0,hB,hheap,hkc,hcm,hcs,htake⟩
 . by_cases hm:m=0
   . subst hm
     refine⟨none,w,?_,⟨hgl,.inl ⟨setρ_self ..,rfl⟩⟩,rfl,rfl,rfl,Nat.le_refl _,fun _ _ _=>rfl,fun l' h=>by cases h⟩
     have e1:(SV.sl n sz 0 0).den ρ = .slice none 0 0:=by simp[SV.den,hρ]
     have e2:(SV.sl N sz 0 (0+0)).den (setρ ρ N none) = .slice none 0 0:=by simp[SV.den,setρ_self]
     rw[e1,e2]
     simp[Builtin.append_,run_underlying ht,sizeOf,typeInfo,hi,Builtin.lenOf,Builtin.firstCells,loadCells,loadCellsFrom]
   . have hr:=run_append_nil (P:=P) w t ty e i z ht hi hz ad m c (flatG m h) (by rw[hln,hsz]) hnews (by omega) (by omega) (by simp only[Nat.zero_add] at hbytes;omega)
     have hcap:=grownCap_ge w m 0 e
     have hcapm:=grownCap_le_maxLen w m 0 e (by omega)
     refine⟨some ⟨w.heap.size,0,grownCap w m 0 e,none,.inr rfl⟩,w.drew.alloc (.cells ((flatG m h).toArray++Builtin.zeroCells z.cells (grownCap w m 0 e-m)) e),?_,?_,rfl,rfl,rfl,by simp,fun j hj _=>heap_alloc_old w.drew _ hj,fun l' hl'=>.inr (by obtain rfl:=Option.some.inj hl';exact Nat.le_refl _)⟩
     . have e1:(SV.sl n sz 0 0).den ρ = .slice none 0 0:=by simp[SV.den,hρ]
       rw[e1,hr]
       simp[SV.den,setρ_self]
     . have:=grown (grownCap w m 0 e) (by omega) hcapm w.drew rfl
       have e0:flatG 0 g=[]:=rfl
       simpa [e0] using this
 . have hsp:∀ q,l.sp0 q=none:=fun q=>by unfold Loc.sp0;rw[hcm.2,ite_self]
   have e1:(SV.sl n sz 0 k).den ρ = .slice (some ⟨l.blk,0,none⟩) k l.cap:=by simp[SV.den,hl,h0,hsp]
   by_cases hroom:k+m≤l.cap
   . have hr:=run_append_room (P:=P) w t ty e i ht hi l.blk k l.cap cur hheap ad m c (flatG m h) (by rw[hln,hsz]) hnews h1 hroom (by rw[hsz,hln,hcs,← Nat.add_mul];exact Nat.mul_le_mul_right _ hroom)
     refine⟨some l,w.setRow l.blk (cur.toList.take (k*i.size)++flatG m h++cur.toList.drop (k*i.size+(flatG m h).length)).toArray,?_,⟨hgl,.inr ⟨l,_,setρ_self ..,h0,hB,setRow_heap w l.blk cur _ e _ hheap,hroom,hcm,?_,?_⟩⟩,rfl,rfl,rfl,by simp,fun j _ hj=>setRow_other w l.blk j _ (hj l hl),fun l' hl'=>.inl ⟨l,hl,by rw[Option.some.inj hl']⟩⟩
     . rw[e1,hr];simp[SV.den,setρ_self,h0,hsp]
     . simp only[List.size_toArray,List.length_append,List.length_take,List.length_drop,Array.length_toList,hln,hsz,hcs]
       have:(k+m)*sz≤l.cap*sz:=Nat.mul_le_mul_right _ hroom
       rw[Nat.add_mul] at this;omega
     . simp only[]
       rw[hsz,htake,flatG_app,Nat.add_mul,← hlo,← hln,← List.length_append]
       exact List.take_left
   . have hcell:∀ j u,(flatG k g)[j]? = some u→w.cell? ((⟨l.blk,0,none⟩:Addr).add j)=some u:=by
        intro j u hj
        rw[← htake,List.getElem?_take] at hj
        split at hj
        . rw[Addr.add_lit,Nat.zero_add];simp only[World.cell?,hheap];simpa using hj
        . cases hj
     have hr:=run_append_grow (P:=P) w t ty e i z ht hi hz ⟨l.blk,0,none⟩ k l.cap (flatG k g) (by rw[hlo,hsz]) hcell ad m c (flatG m h) (by rw[hln,hsz]) hnews (by omega) (by omega) (growslice_fits (by omega) hbytes)
     have hcap:=grownCap_ge w (k+m) l.cap e
     have hcapm:=grownCap_le_maxLen w (k+m) l.cap e (by omega)
     refine⟨some ⟨w.heap.size,0,grownCap w (k+m) l.cap e,none,.inr rfl⟩,_,?_,grown _ hcap hcapm w.drew rfl,rfl,rfl,rfl,by simp,fun j hj _=>heap_alloc_old w.drew _ hj,fun l' hl'=>.inr (by obtain rfl:=Option.some.inj hl';exact Nat.le_refl _)⟩
     rw[e1,hr];simp[SV.den,setρ_self]
theorem MRel.app {B:Bd}{ρ:Val}{w w':World}{n:Nat}{b b':Blk}{r:Option Loc}(h:MRel B ρ M w)(hsc:M.all (Blk.sc fun n=>decide (n<M.length))=true)(hn:M[n]? = some b)(hb:b.isOwn=true)(hb':b'.isOwn=true)
  (hok:b'.ok B (setρ ρ M.length r) M.length w') (hsz:w.heap.size≤w'.heap.size) (hw:∀ j,j<w.heap.size→(∀ l,ρ n=some l→j≠l.blk)→w'.heap[j]? = w.heap[j]?)
  (hr:∀ l',r=some l'→(∃ l,ρ n=some l∧l.blk=l'.blk)∨w.heap.size≤l'.blk):MRel B (setρ ρ M.length r) (M.set n .dead++[b']) w':=by
 have hin:n<M.length:=(List.getElem?_eq_some_iff.1 hn).1
 have hρ:∀ k,k<M.length→setρ ρ M.length r k=ρ k:=fun k hk=>setρ_other (by omega)
 have look:∀ (m:Nat) (c:Blk),(M.set n .dead++[b'])[m]? = some c→(m=M.length∧c=b')∨(m<M.length∧(c = .dead∨(m≠n∧M[m]? = some c))):=by
  intro m c hm
  rcases Nat.lt_or_ge m M.length with hlt|hge
  . rw[List.getElem?_append_left (by simpa using hlt),List.getElem?_set] at hm
    split at hm
    . rename_i e;subst e
      exact .inr ⟨hlt,.inl (Option.some.inj hm).symm⟩
    . rename_i hne;exact .inr ⟨hlt,.inr ⟨Ne.symm hne,hm⟩⟩
  . rw[List.getElem?_append_right (by simpa using hge)] at hm
    simp only[List.length_set] at hm
    have:m-M.length=0:=by
        rcases Nat.eq_zero_or_pos (m-M.length) with h0|h0
        . exact h0
        . rw[List.getElem?_eq_none (by simp;omega)] at hm;cases hm
    rw[this] at hm
    simp at hm
    exact .inl ⟨by omega,hm.symm⟩
 have zsame:∀ k,ρ.z k→w'.heap[k]? = w.heap[k]? := fun k hk=>hw k (h.zhi k hk).1 fun l hl e=>h.zown n b l hn hb hl (e▸hk)
 have key:∀ (m:Nat) (c:Blk) (k l':Loc),m≠n→m<M.length→M[m]? = some c→c.isOwn=true→ρ m=some k→r=some l'→k.blk≠l'.blk:=by
  intro m c k l' hne hlt hc ho hk hl'
  rcases hr l' hl' with⟨l,hl,he⟩|hge
  . rw[← he];exact h.apart m n c b k l hne hc hn ho hb hk hl
  . have:=(Blk.ok_lt (h.ok m c hc) ho hk).2;omega
 refine⟨Nat.le_trans h.size hsz,fun m c hm => ?_,fun m m' c c' k k' hne h1 h2 o1 o2 e1 e2 => ?_,h.zb,h.zlo,fun k hk=>⟨Nat.lt_of_lt_of_le (h.zhi k hk).1 hsz,(h.zhi k hk).2⟩,fun m c k hm ho hk hz => ?_,fun k hk=>(h.zc k hk).imp_right fun hc=>hc.same (zsame k hk)⟩
 . rcases look m c hm with⟨rfl,rfl⟩ | ⟨hlt,rfl | ⟨hne,hc⟩⟩
   . exact hok
   . trivial
   . have h1:c.ok B (setρ ρ M.length r) m w:=(h.ok m c hc).elim_congr hρ (fun _ h=>h) hlt (List.all_eq_true.1 hsc c (List.mem_of_getElem? hc))
     refine c.ok_same h1 (fun k hk=>hw k (by have:=h.size;have:=Bd.lt hk;omega) (fun l hl e=>hk (e▸(Blk.ok_lt (h.ok n b hn) hb hl).1))) zsame fun ho k hk => ?_
     rw[hρ m hlt] at hk
     exact hw _ (Blk.ok_lt (h.ok m c hc) ho hk).2 (fun l hl=>h.apart m n c b k l hne hc hn ho hb hk hl)
 . rcases look m c h1 with⟨rfl,rfl⟩ | ⟨hlt,rfl | ⟨hmn,hc⟩⟩
   . rcases look m' c' h2 with⟨rfl,rfl⟩ | ⟨hlt',rfl | ⟨hmn',hc'⟩⟩
     . exact absurd rfl hne
     . cases o2
     . rw[setρ_self] at e1;rw[hρ m' hlt'] at e2
       exact(key m' c' k' k hmn' hlt' hc' o2 e2 e1).symm
   . cases o1
   . rw[hρ m hlt] at e1
     rcases look m' c' h2 with⟨rfl,rfl⟩ | ⟨hlt',rfl | ⟨hmn',hc'⟩⟩
     . rw[setρ_self] at e2
       exact key m c k k' hmn hlt hc o1 e1 e2
     . cases o2
     . rw[hρ m' hlt'] at e2
       exact h.apart m m' c c' k k' hne hc hc' o1 o2 e1 e2
 . have hz':ρ.z k.blk:=hz
   rcases look m c hm with⟨rfl,rfl⟩ | ⟨hlt,rfl | ⟨hmn,hc⟩⟩
   . rw[setρ_self] at hk
     rcases hr k hk with⟨l,hl,he⟩|hge
     . exact h.zown n b l hn hb hl (he▸hz')
     . have:=(h.zhi _ hz').1;omega
   . cases ho
   . exact h.zown m c k hc ho (by rw[← hρ m hlt];exact hk) hz'
def eltB:Option Blk→Option (Nat×Nat×(Nat→List FV))
 |some (.ro sz m g)=>some (sz,m,g)
 |some (.fz sz m g)=>some (sz,m,g)
 |some (.own _ sz m g)=>some (sz,m,g)
 |_=>none
def SrcOk (z:Nat→Prop)(w:World)(l:Option Loc)(sz m:Nat)(g:Nat→List FV):Prop:=∃ q:Nat→List FV,(∀ i,i<m→RepL z w (g i) (q i))∧(∀ i,i<m→okG sz (q i))∧(0<m→∃ k,l=some k)∧∀ (k:Loc) (i j:Nat) (x:FV),l=some k→i<m→(q i)[j]? = some x→w.cell? ⟨k.blk,k.off+i*sz+j,none⟩=some x.den
theorem roOk_src {Q z:Nat→Prop}{ρ:Val}{n:Nat}{w:World}{sz m:Nat}{g q:Nat→List FV}(hr:∀ i,i<m→RepL z w (g i) (q i))(hb:roOk Q ρ n w sz m q):SrcOk z w (ρ n) sz m g:=by
 cases hl:ρ n with
 |none=>have h0:=hb.1 hl;subst h0;exact⟨q,hr,fun i hi=>by omega,fun h=>by omega,fun l i j x h=>by cases h⟩
 |some l=>
  have:=hb.2 l hl
  refine⟨q,hr,fun i hi=>(this.2.2 i hi).1,fun _=>⟨l,rfl⟩,fun l' i j x hl' hi hx => ?_⟩
  obtain rfl:=Option.some.inj hl'
  exact(this.2.2 i hi).2 j x hx
theorem ownOk_cell {B:Bd}{ρ:Val}{n:Nat}{w:World}{ty:TypeId}{sz m:Nat}{q:Nat→List FV}(h:ownOk B ρ n w ty sz m q){i:Nat}(hi:i<m):
  ∃ l,ρ n=some l∧∀ (j:Nat) (x:FV),(q i)[j]? = some x→w.cell? ⟨l.blk,l.off+i*sz+j,none⟩=some x.den:=by
 obtain⟨hg,h⟩:=h
 rcases h with⟨_,rfl⟩ | ⟨l,cur,hl,h0,hB,hh,hm,hc,hs,ht⟩
 . omega
 . refine⟨l,hl,fun j x hx => ?_⟩
   have h1:=flatG_get hg hi hx
   rw[← ht,List.getElem?_take] at h1
   split at h1
   . simp only[World.cell?,hh,h0,Nat.zero_add];simpa using h1
   . cases h1
theorem eltB_ok {B:Bd}{ρ:Val}{n sz m:Nat}{g:Nat→List FV}{w:World}{b:Blk}(hb:b.ok B ρ n w)(h:eltB (some b)=some (sz,m,g)):SrcOk ρ.z w (ρ n) sz m g:=by
 cases b with
 |ro sz' m' g'=>
  simp only[eltB,Option.some.injEq,Prod.mk.injEq] at h
  obtain⟨rfl,rfl,rfl⟩:=h
  obtain⟨q,hr,ho⟩:=hb
  exact roOk_src hr ho
 |fz sz' m' g'=>
  simp only[eltB,Option.some.injEq,Prod.mk.injEq] at h
  obtain⟨rfl,rfl,rfl⟩:=h
  obtain⟨q,hr,ho⟩:=hb
  exact roOk_src hr ho
 |own ty sz' m' g'=>
  simp only[eltB,Option.some.injEq,Prod.mk.injEq] at h
  obtain⟨rfl,rfl,rfl⟩:=h
  obtain⟨q,hr,ho⟩:=hb
  refine⟨q,hr,ho.1,fun hpos => ?_,fun l i j x hl hi hx => ?_⟩
  . obtain⟨l,hl,_⟩:=ownOk_cell ho hpos
    exact⟨l,hl⟩
  . obtain⟨l',hl',hc⟩:=ownOk_cell ho hi
    obtain rfl:l=l':=by rw[hl] at hl';exact Option.some.inj hl'
    exact hc j x hx
 |_=>cases h
def celR (M:List Blk)(s:Nat):Option Blk→Option (Bool×Nat×(Nat→List FV))
 |some (.cells _ xs)=>match fvT M xs,oneL xs with
  |some (b,l),true=>some (b,xs.length / s,fun i=>(l.drop (i*s)).take s)
  |_,_=>none
 |_=>none
theorem celR_ok {B:Bd}{ρ:Val}{n s m:Nat}{g:Nat→List FV}{w:World}{b:Bool}(hs:1≤s)(hM:MRel B ρ M w)(h:celR M s (nth M n)=some (b,m,g))(hb:b=true):SrcOk ρ.z w (ρ n) s m g:=by
 unfold celR at h
 split at h
 . rename_i ty xs hn
   split at h
   . rename_i b' l hl h1
     simp only[Option.some.injEq,Prod.mk.injEq] at h
     obtain⟨rfl,rfl,rfl⟩:=h
     obtain⟨q,hr,hd⟩:=fvT_ok hM hl hb
     obtain⟨k,hk,h0,_,hh⟩:=hM.ok n _ (by rw[← nth_eq];exact hn)
     have hlen:q.length=xs.length:=by rw[← hr.1,fvT_length hl]
     have hmul:∀ i,i<xs.length / s→i*s+s≤xs.length:=fun i hi=>by
        have:=Nat.div_mul_le_self xs.length s
        have h2:(i+1)*s≤xs.length / s*s:=Nat.mul_le_mul_right _ hi
        rw[Nat.succ_mul] at h2;omega
     refine⟨fun i=>(q.drop (i*s)).take s,fun i _=>hr.part _ _,fun i hi=>⟨?_,fun x hx => ?_⟩,fun _=>⟨k,hk⟩,fun k' i j x hk' hi hx => ?_⟩
     . have:=hmul i hi;simp;omega
     . exact oneL_den (ρ:=ρ) h1 _ (by rw[hd];exact List.mem_map_of_mem (List.mem_of_mem_drop (List.mem_of_mem_take hx)))
     . obtain rfl:k=k':=by rw[hk] at hk';exact Option.some.inj hk'
       rw[List.getElem?_take,List.getElem?_drop] at hx
       split at hx
       . have hq:(denL ρ xs)[i*s+j]? = some x.den:=by rw[hd,List.getElem?_map,hx];rfl
         simp only[World.cell?,hh,h0,Nat.zero_add]
         simpa using hq
       . cases hx
   . cases h
 . cases h
theorem flatG_one {m sz:Nat}{h:Nat→List FV}(hok:∀ j,j<m→okG sz (h j)):∀ u∈flatG m h,u.oneCell'=true:=by
 intro u hu
 simp only[flatG,List.mem_flatMap,List.mem_range,List.mem_map] at hu
 obtain⟨j,hj,x,hx,rfl⟩:=hu
 exact(hok j hj).2 x hx
theorem own_eqv {B:Bd}{ρ:Val}{n:Nat}{w:World}{ty sz m:Nat}{g h:Nat→List FV}(hb:(Blk.own ty sz m g).ok B ρ n w)(e:∀ i,i<m→FVEqL (g i) (h i)):(Blk.own ty sz m h).ok B ρ n w:=by
 obtain⟨q,hr,ho⟩:=hb
 exact⟨q,fun i hi=>(hr i hi).eqv (e i hi),ho⟩
theorem ownOk_congr {B:Bd}{ρ:Val}{n:Nat}{w:World}{ty sz m:Nat}{g h:Nat→List FV}(hb:ownOk B ρ n w ty sz m g)(e:∀ i,i<m→h i=g i):ownOk B ρ n w ty sz m h:=by
 have hf:flatG m h=flatG m g:=by
  unfold flatG
  rw[List.flatMap_def,List.flatMap_def]
  congr 1
  apply List.map_congr_left
  intro i hi
  simp only[List.mem_range] at hi
  rw[e i hi]
 refine⟨fun i hi=>by rw[e i hi];exact hb.1 i hi,?_⟩
 rw[hf];exact hb.2
theorem repL_app {z:Nat→Prop}{w:World}{g q h p:Nat→List FV}{k m:Nat}(hg:∀ i,i<k→RepL z w (g i) (q i))(hh:∀ i,i<m→RepL z w (h i) (p i)):∀ i,i<k+m→RepL z w (gApp k g h i) (gApp k q p i):=by
 intro i hi
 unfold gApp
 split
 . rename_i hlt;exact hg i (by simpa using hlt)
 . rename_i hlt
   have : ¬ i<k:=by simpa using hlt
   exact hh _ (by omega)
theorem run_append_none {t ty e:TypeId}{i:TypeInfo}{w:World}(ht:P.underlying t=some (.slice e))(hi:P.info? e=some i)(a:Option Addr)(n cap c:Nat)(h:n≤cap):
  (Builtin.append_ #[t,t] ty #[.slice a n cap,.slice none 0 c]).run P w = .ok (.slice a n cap) w:=by
 cases a<;>simp[Builtin.append_,run_underlying ht,sizeOf,typeInfo,hi,Builtin.lenOf,Builtin.firstCells,h,storeCells]
def appC (M:List Blk)(e:TypeId)(i:TypeInfo)(z:List SV)(x:SV)(sz' off' len' sz2 m':Nat)(h:Nat→List FV):BRes:=match Nat.beq z.length i.size,Nat.beq sz' i.size&&Nat.beq sz2 i.size,Nat.ble 1 i.size with
     |true,true,true=>match x with
      | .sl n sz 0 len=>match nth M n with
        |some (.own ty sz3 m g)=>match Nat.beq ty e,Nat.beq sz i.size&&Nat.beq sz3 i.size with
         |true,true=>.test (decide (len=m)) (.test (decide (off'+len'≤m')) (.test (decide ((len+len')*i.bytes≤140737488355328∧len+len'≤9223372036854775807))
              (.ok (.sl M.length sz 0 (len+len')) (M.set n .dead++[.own e sz (len+len') (gApp len g fun k=>h (off'+k))]))))
         |_,_=>.fail
        |_=>.fail
      | .val (.slice none 0 0)=>.test (decide (off'+len'≤m')) (.test (decide (len'*i.bytes≤140737488355328∧len'≤9223372036854775807))
              (.ok (.sl M.length sz' 0 len') (M++[.own e sz' len' (fun k=>h (off'+k))])))
      |_=>.fail
     |_,_,_=>.fail
def appendS (P:Program)(M:List Blk)(t:TypeId)(x y:SV):BRes:=match P.underlying t with
 |some (.slice e)=>match P.info? e,zeroS P e,y with
  |some i,some z,.sl n' sz' off' len'=>match eltB (nth M n') with
   |some (sz2,m',h)=>appC M e i z x sz' off' len' sz2 m' h
   |none=>match celR M i.size (nth M n') with
    |some (b,m',h)=>.test b (appC M e i z x sz' off' len' i.size m' h)
    |none=>.fail
  |_,_,_=>.fail
 |_=>.fail
theorem flat_cell {sz m off len:Nat}{h:Nat→List FV}{w:World}{l:Loc}(hel:∀ (i j:Nat) (x:FV),i<m→(h i)[j]? = some x→w.cell? ⟨l.blk,l.off+i*sz+j,none⟩=some x.den)
  (hok:∀ i,i<m→okG sz (h i)) (hle:off+len≤m):∀ j u,(flatG len (fun k=>h (off+k)))[j]? = some u→w.cell? ((⟨l.blk,l.off+off*sz,none⟩:Addr).add j)=some u:=by
 induction len with
 |zero=>intro j u hj;simp[flatG] at hj
 |succ len ih=>
  intro j u hj
  have e:flatG (len+1) (fun k=>h (off+k))=flatG len (fun k=>h (off+k))++(h (off+len)).map FV.den:=by simp[flatG,List.range_succ]
  have hl1:(flatG len (fun k=>h (off+k))).length=len*sz:=flatG_length (n:=len) len (Nat.le_refl _) (fun i hi=>hok _ (by omega))
  rw[e,List.getElem?_append] at hj
  split at hj
  . exact ih (by omega) j u hj
  . rename_i hge
    rw[hl1] at hj hge
    simp only[List.getElem?_map,Option.map_eq_some_iff] at hj
    obtain⟨x,hx,rfl⟩:=hj
    have:=hel (off+len) (j-len*sz) x (by omega) hx
    rw[Addr.add_lit]
    rw[← this]
    congr 2
    rw[Nat.add_mul];omega
theorem flat_cell_at {sz m off len:Nat}{h:Nat→List FV}{w:World}{l:Loc}{s:Option Nat}(hs:0<len→s=none)(hel:∀ (i j:Nat) (x:FV),i<m→(h i)[j]? = some x→w.cell? ⟨l.blk,l.off+i*sz+j,none⟩=some x.den)
  (hok:∀ i,i<m→okG sz (h i)) (hle:off+len≤m):∀ j u,(flatG len (fun k=>h (off+k)))[j]? = some u→w.cell? ((⟨l.blk,l.off+off*sz,s⟩:Addr).add j)=some u:=by
 cases len with
 |zero=>intro j u hj;simp[flatG] at hj
 |succ len=>
  obtain rfl:=hs (Nat.succ_pos _)
  exact flat_cell hel hok hle
theorem appC_good {t e:TypeId}{x y:Operand}{i:TypeInfo}{z:List SV}{n' sz' off' len' sz2 m':Nat}{h:Nat→List FV}(ho:o.op = .call ⟨.builtin .append,#[x,y],#[t,t]⟩)(hu:P.underlying t=some (.slice e))(hi:P.info? e=some i)(hz:zeroS P e=some z)
  (hy:ev y = .sl n' sz' off' len') (hsrc:∀ (B:Bd) (ρ:Val) (w:World),MRel B ρ M w→SrcOk ρ.z w (ρ n') sz2 m' h):(appC M e i z (ev x) sz' off' len' sz2 m' h).good (BarOk P G ev M o):=by
 have hin:x∈o.op.operands:=by simp[ho,Op.operands,Call.operands]
 have hin':y∈o.op.operands:=by simp[ho,Op.operands,Call.operands]
 unfold appC
 split
 . rename_i b1 b2 b3
   simp only[Bool.and_eq_true] at b2
   have hzl:z.length=i.size:=Nat.eq_of_beq_eq_true b1
   obtain rfl:sz'=i.size:=Nat.eq_of_beq_eq_true b2.1
   obtain rfl:sz2=i.size:=Nat.eq_of_beq_eq_true b2.2
   have hpos:1≤i.size:=Nat.le_of_ble_eq_true b3
   obtain⟨it,v,hi',hv,hc⟩:=zeroS_den hz
   obtain rfl:i=it:=by rw[hi] at hi';exact Option.some.inj hi'
   have hvs:v.cells.size=i.size:=by rw[hc ⟨fun _=>none,fun _=>False⟩];simp[denL_eq,hzl]
   have args:∀ (B:Bd) (ρ:Val) (a:Act) (w:World),(∀ x∈o.op.operands,ev x ≠ .junk→a.eval x=(ev x).den ρ)→MRel B ρ M w→off'+len'≤m'→
        ∃ p:Nat→List FV,(∀ j,j<len'→RepL ρ.z w (h (off'+j)) (p j))∧(∀ j,j<len'→okG i.size (p j))∧((∃ (ad:Addr) (c:Nat),a.eval y = .slice (some ad) len' c∧∀ j u,(flatG len' p)[j]? = some u→w.cell? (ad.add j)=some u)∨(len'=0∧∃ c,a.eval y = .slice none 0 c)):=by
    intro B ρ a w he hM hle
    obtain⟨q,h0,h1,h2,h3⟩:=hsrc B ρ w hM
    refine⟨fun j=>q (off'+j),fun j hj=>h0 _ (by omega),fun j hj=>h1 _ (by omega),?_⟩
    have e1:=he y hin' (by rw[hy];simp)
    rw[hy] at e1
    cases hl:ρ n' with
    |none=>
     right
     have:len'=0:=by
      rcases Nat.eq_zero_or_pos len' with h|h
      . exact h
      . obtain⟨l,hl'⟩:=h2 (by omega);rw[hl] at hl';cases hl'
     exact⟨this,_,by rw[e1];simp[SV.den,hl,this];rfl⟩
    |some l=>
     left
     exact⟨_,_,by rw[e1];simp only[SV.den,hl,Option.map_some];rfl,flat_cell_at (fun h=>l.sp0_pos h) (fun i j x hi hx=>h3 l i j x hl hi hx) h1 hle⟩
   have room:∀ {k:Nat},(k*i.bytes≤140737488355328∧k≤9223372036854775807)→k≤maxLen∧k*i.bytes≤140737488355328:=fun h=>⟨h.2,h.1⟩
   split
   . rename_i n sz len hx
     split
     . rename_i ty sz3 m g hn
       split
       . rename_i c1 c2
         simp only[Bool.and_eq_true] at c2
         obtain rfl:ty=e:=Nat.eq_of_beq_eq_true c1
         obtain rfl:sz=i.size:=Nat.eq_of_beq_eq_true c2.1
         obtain rfl:sz3=i.size:=Nat.eq_of_beq_eq_true c2.2
         intro t1 t2 t3
         simp only[decide_eq_true_eq] at t1 t2 t3
         subst t1
         obtain⟨r1,r2⟩:=room t3
         intro B ρ a w next Q he hwf hM hGw hnext
         have e1:=he x hin (by rw[hx];simp)
         rw[hx] at e1
         have hMn:M[n]? = some (.own ty i.size len g):=by rw[← nth_eq];exact hn
         have hbn:=hM.ok n _ hMn
         obtain⟨gq,hgr,hgo⟩:=hbn
         obtain⟨p,hpr,hok,hcase⟩:=args B ρ a w he hM t2
         have fin:∀ (r:Option Loc) (w':World),(Builtin.append_ #[t,t] o.type #[(SV.sl n i.size 0 len).den ρ,a.eval y]).run P w = .ok ((SV.sl M.length i.size 0 (len+len')).den (setρ ρ M.length r)) w'→
           ownOk B (setρ ρ M.length r) M.length w' ty i.size (len+len') (gApp len gq p)→w'.os=w.os→w'.tape=w.tape→w'.output=w.output→w.heap.size≤w'.heap.size→
           (∀ j,j<w.heap.size→(∀ l,ρ n=some l→j≠l.blk)→w'.heap[j]? = w.heap[j]?)→(∀ l',r=some l'→(∃ l,ρ n=some l∧l.blk=l'.blk)∨w.heap.size≤l'.blk)→o.wp P a w next Q:=by
          intro r w' hr hb1 g1 g2 g3 g4 g5 g6
          have zs:∀ k,ρ.z k→w'.heap[k]? = w.heap[k]? := fun k hk=>g5 k (hM.zhi k hk).1 fun l hl e=>hM.zown n _ l hMn rfl hl (e▸hk)
          have hbl:(Blk.own ty i.size (len+len') (gApp len g fun k=>h (off'+k))).ok B (setρ ρ M.length r) M.length w':=⟨gApp len gq p,fun i hi=>(repL_app hgr hpr i hi).mono (fun _ h=>h) zs,hb1⟩
          have hr':(execOp a.eval o).run P w = .ok (.value ((SV.sl M.length i.size 0 (len+len')).den (setρ ρ M.length r))) w':=by
           simp only[execOp,ho,resolve,invoke,builtin,Sem.run_bind,Sem.run_pure,Result.andThen_ok,List.map_toArray,List.map_cons,List.map_nil,e1,hr]
          have notin:∀ k l,ρ n=some l→k=l.blk→∃ cur ty',w.heap[k]? = some (.cells cur ty' (0,0)):=fun k l hl e=>by
           subst e
           rcases hgo.2 with⟨h0,_⟩ | ⟨l',cur,h0,_,_,hcur,_⟩
           . rw[hl] at h0;cases h0
           . rw[hl] at h0;obtain rfl:=Option.some.inj h0;exact⟨cur,_,hcur⟩
          refine wp_of_run hr' (hnext (setρ ρ M.length r) w' _ (fun _=>rfl) (fun k hk=>setρ_other (by omega)) ⟨g1,g2,g3,g4,fun k hk=>g5 k (by have:=hM.size;have:=Bd.lt hk;omega) fun l hl e=>hk (e▸(Blk.ok_lt (hM.ok n _ hMn) rfl hl).1),fun k hk=>by
           rw[g5 k (Array.getElem?_eq_some_iff.1 hk).1 fun l hl e=>by
               obtain⟨cur,ty',hcur⟩:=notin k l hl e
               rw[hcur] at hk;cases hk]
           exact hk,fun k r' hk=>⟨r',by
           rw[g5 k (Array.getElem?_eq_some_iff.1 hk).1 fun l hl e=>by
               obtain⟨cur,ty',hcur⟩:=notin k l hl e
               rw[hcur] at hk;cases hk]
           exact hk⟩⟩ (hM.app hwf hMn rfl rfl hbl g4 g5 g6))
         rcases hcase with⟨ad,c,hy',hnews⟩ | ⟨h0,c,hy'⟩
         . obtain⟨r,w',hr,hb1,g1,g2,g3,g4,g5,g6⟩:=run_append_sx (P:=P) (N:=M.length) (ty:=o.type) (c:=c) hu hi hv rfl hvs hpos hgo hM.size hok hnews (flatG_one hok) r1 r2
           exact fin r w' (by rw[hy'];exact hr) hb1 g1 g2 g3 g4 g5 g6
         . subst h0
           refine fin (ρ n) w ?_ ?_ rfl rfl rfl (Nat.le_refl _) (fun _ _ _=>rfl) (fun l' hl'=>.inl ⟨l',hl',rfl⟩)
           . rw[hy',Nat.add_zero]
             simp only[SV.den,setρ_self]
             refine run_append_none hu hi _ _ _ _ ?_
             rcases hgo.2 with⟨_,h0⟩ | ⟨l,cur,hl,_,_,_,hm,_⟩
             . omega
             . simp[hl];omega
           . rw[Nat.add_zero]
             exact(ownOk_congr hgo fun k hk=>by simp[gApp,hk]).congr (setρ_self ..)
       . trivial
     . trivial
   . rename_i hx
     intro t2 t3
     simp only[decide_eq_true_eq] at t2 t3
     obtain⟨r1,r2⟩:=room t3
     intro B ρ a w next Q he hwf hM hGw hnext
     have e1:=he x hin (by rw[hx];simp)
     rw[hx] at e1
     obtain⟨p,hpr,hok,hcase⟩:=args B ρ a w he hM t2
     have hb0:ownOk B (setρ ρ M.length none) M.length w e i.size 0 fun _=>[]:=⟨fun i hi=>by omega,.inl ⟨setρ_self ..,rfl⟩⟩
     have fin:∀ (r:Option Loc) (w':World),(Builtin.append_ #[t,t] o.type #[.slice none 0 0,a.eval y]).run P w = .ok ((SV.sl M.length i.size 0 len').den (setρ ρ M.length r)) w'→
       ownOk B (setρ ρ M.length r) M.length w' e i.size len' p→w'.os=w.os→w'.tape=w.tape→w'.output=w.output→w.heap.size≤w'.heap.size→
       (∀ j,j<w.heap.size→w'.heap[j]? = w.heap[j]?)→(∀ l',r=some l'→w.heap.size≤l'.blk)→o.wp P a w next Q:=by
        intro r w' hr hb1 g1 g2 g3 g4 g5 g6
        have hbl:(Blk.own e i.size len' (fun k=>h (off'+k))).ok B (setρ ρ M.length r) M.length w':=⟨p,fun i hi=>(hpr i hi).mono (fun _ h=>h) fun k hk=>g5 k (hM.zhi k hk).1,hb1⟩
        have hr':(execOp a.eval o).run P w = .ok (.value ((SV.sl M.length i.size 0 len').den (setρ ρ M.length r))) w':=by
         simp only[execOp,ho,resolve,invoke,builtin,Sem.run_bind,Sem.run_pure,Result.andThen_ok,List.map_toArray,List.map_cons,List.map_nil,e1,SV.den,hr]
        have hbel:Below w.heap.size w w':=⟨g1,g2,g3,g4,g5⟩
        refine wp_of_run hr' (hnext (setρ ρ M.length r) w' _ (fun _=>rfl) (fun k hk=>setρ_other (by omega)) (Kept.of_below hM.size hbel) (hM.grown hwf (setρ_ext fun k hk=>by omega) hbel (new_one hbl (fun _ l hl => ?_) (fun k hk=>(hM.zhi k hk).1) g4)))
        rw[setρ_self] at hl;exact g6 l hl
     rcases hcase with⟨ad,c,hy',hnews⟩ | ⟨h0,c,hy'⟩
     . obtain⟨r,w',hr,hb1,g1,g2,g3,g4,g5,g6⟩:=run_append_sx (P:=P) (N:=M.length) (ty:=o.type) (c:=c) hu hi hv rfl hvs hpos hb0 hM.size hok hnews (flatG_one hok) (by simpa using r1) (by simpa using r2)
       have hss:setρ (setρ ρ M.length none) M.length r=setρ ρ M.length r:=by unfold setρ;congr 1;funext k;simp only[];split<;>rfl
       rw[hss] at hr hb1
       simp only[Nat.zero_add] at hr hb1
       refine fin r w' (by rw[hy'];simpa [SV.den,setρ_self] using hr) (ownOk_congr hb1 fun k hk=>by simp[gApp]) g1 g2 g3 g4 (fun j hj=>g5 j hj fun l hl=>by rw[setρ_self] at hl;cases hl) fun l' hl' => ?_
       rcases g6 l' hl' with⟨l,hl,_⟩|h
       . rw[setρ_self] at hl;cases hl
       . exact h
     . subst h0
       refine fin none w ?_ ⟨fun i hi=>by omega,.inl ⟨setρ_self ..,rfl⟩⟩ rfl rfl rfl (Nat.le_refl _) (fun _ _=>rfl) (fun l' hl'=>by cases hl')
       rw[hy']
       have:=run_append_none (P:=P) (ty:=o.type) (w:=w) hu hi none 0 0 c (Nat.le_refl _)
       simpa [SV.den,setρ_self] using this
   . trivial
 . trivial
theorem good_append {t:TypeId}{x y:Operand}(ho:o.op = .call ⟨.builtin .append,#[x,y],#[t,t]⟩):(appendS P M t (ev x) (ev y)).good (BarOk P G ev M o):=by
 unfold appendS
 split
 . rename_i e hu
   split
   . rename_i i z n' sz' off' len' hi hz hy
     split
     . rename_i sz2 m' h hel
       have hb':∃ b',nth M n'=some b':=by cases hq:nth M n' with
        |none=>rw[hq] at hel;cases hel
        |some b=>exact⟨b,rfl⟩
       obtain⟨b',hb'⟩:=hb'
       rw[hb'] at hel
       exact appC_good ho hu hi hz hy fun B ρ w hM=>eltB_ok (hM.ok n' b' (by rw[← nth_eq];exact hb')) hel
     . split
       . rename_i b m' h hc
         intro hb
         by_cases hs:1≤i.size
         . exact appC_good ho hu hi hz hy fun B ρ w hM=>celR_ok hs hM hc hb
         . have:appC M e i z (ev x) sz' off' len' i.size m' h = .fail:=by
            unfold appC
            have:Nat.ble 1 i.size=false:=by
             cases h1:Nat.ble 1 i.size with
             |false=>rfl
             |true=>exact absurd (Nat.le_of_ble_eq_true h1) hs
            rw[this]
            split
            . rename_i h2;cases h2
            . rfl
           rw[this];trivial
       . trivial
   . trivial
 . trivial
def bcallS (Γ:Env)(M:List Blk)(f:SV)(args:List SV):BRes:=match f with
 | .fn (.func g) fst cap=>match njL args with
   |true=>match findB Γ.bctrs g with
    |some c=>c (fst++args++cap) M
    |none=>.fail
   |false=>.fail
 |_=>.fail
theorem good_bcall {Γ:Env}(hΓ:EnvOk P G Γ){f:Operand}{args:Array Operand}{ts:Array TypeId}(ho:o.op = .call ⟨.value f,args,ts⟩):(bcallS Γ M (ev f) (evL ev args.toList)).good (BarOk P G ev M o):=by
 unfold bcallS
 split
 . rename_i g fst cap hf
   split
   . rename_i hn
     split
     . rename_i c hc
       obtain⟨hcall,hgood⟩:=hΓ.bctrs (g,c) (findB_mem Γ.bctrs g c hc)
       refine BRes.good_mono (fun sv M' h => ?_) _ (hgood (fst++evL ev args.toList++cap) M)
       intro B ρ a w next Q he hwf hM hGw hnext
       have h1:=he f (by simp[ho,Op.operands,Call.operands]) (by rw[hf];simp)
       rw[hf] at h1
       have h2:=evL_eval (a:=a) (ρ:=ρ) args.toList (fun x hx=>he x (by simp[ho,Op.operands,Call.operands];exact .inr (by simpa using hx))) hn
       have e2:args.map a.eval=(denL ρ (evL ev args.toList)).toArray:=by rw[← h2];apply Array.ext';simp
       have hr:(execOp a.eval o).run P w = .ok (.enter g (denL ρ (fst++evL ev args.toList++cap)).toArray) w:=by
        have:=hcall (denL ρ (fst++evL ev args.toList++cap)).toArray w
        simp only[denL_append,List.append_toArray] at this ⊢
        simp only[execOp,ho,resolve,e2,h1,SV.den,Deferred.ofValue,invoke,Sem.run_bind,Sem.run_pure,Result.andThen_ok,List.append_toArray,this]
       unfold Oper.wp
       rw[hr]
       show Calls P g _ w _
       refine(h B ρ w hGw hwf hM).mono fun e w' hh => ?_
       obtain⟨ρ',v,rfl,hv,hρ,hb,hM'⟩:=hh
       exact hnext ρ' w' v hv hρ hb hM'
     . trivial
   . trivial
 . trivial
end
end Go.Sx
