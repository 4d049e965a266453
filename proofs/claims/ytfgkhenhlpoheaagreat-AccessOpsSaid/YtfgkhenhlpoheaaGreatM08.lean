import Derived.Test.YtfgkhenhlpoheaaGreatM07
import Derived.Test.YtfgkhenhlpoheaaGreatM06
import Derived.RangeFuncLeaves
set_option linter.all false
namespace Go.Sx
open Go.RowKit Go.Proofs.YtfgkhenhlpoheaaGreat
def rdyB (listed:List Nat)(i:Nat)(o:Oper):Bool:=match memN i listed with
 |true=>false
 |false=>o.after.toList.all fun e => !Region.binds .any e||memN e.on listed
def rdyFrom (listed:List Nat):List Oper→Nat→List Nat
 |[],_=>[]
 |o::os,i=>match rdyB listed i o with
  |true=>i::rdyFrom listed os (i+1)
  |false=>rdyFrom listed os (i+1)
theorem rdyFrom_cons (listed:List Nat)(o:Oper)(os:List Oper)(i:Nat):rdyFrom listed (o::os) i=match rdyB listed i o with
 |true=>i::rdyFrom listed os (i+1)
 |false=>rdyFrom listed os (i+1):=rfl
def lateT (P:Program)(Γ:Env)(F:List SV)(ops:List Oper)(listed:List Nat)(i:Nat):Bool:=match nth ops i with
 |some o=>match isLate o with
  |true=>match callOf Γ F o,isBarG Γ (evS F) o,lateS P (evS F) o with
   |none,false,true=>(List.range ops.length).all fun j=>Nat.beq j i||(memN j listed||(match nth ops j with
    |some oj=>(oj.after.toList.any fun e=>Region.binds .any e&&Nat.beq e.on i)||o.apart ops.toArray oj
    |none=>true))
   |_,_,_=>false
  |false=>false
 |none=>false
def findL (p:Nat→Bool):List Nat→Option Nat
 |[]=>none
 |i::l=>match p i with
  |true=>some i
  |false=>findL p l
def allT (f:Nat→Prop):List Nat→Prop
 |[]=>True
 |[i]=>f i
 |i::l=>(True→f i)∧(True→allT f l)
theorem allT_mem {f:Nat→Prop}:∀ {l:List Nat},allT f l→∀ i∈l,f i
 |[],_,_,h=>by cases h
 |[j],h,i,hi=>by
  obtain rfl:i=j:=by simpa using hi
  exact h
 |j::k::l,h,i,hi=>by
  rcases List.mem_cons.1 hi with rfl|hi
  . exact h.1 trivial
  . exact allT_mem (l:=k::l) (h.2 trivial) i hi
theorem findL_some {p:Nat→Bool}:∀ {l:List Nat} {i:Nat},findL p l=some i→i∈l∧p i=true
 |j::l,i,h=>by
  unfold findL at h
  split at h
  . rename_i hp
    obtain rfl:=Option.some.inj h
    exact⟨List.mem_cons_self ..,hp⟩
  . obtain⟨h1,h2⟩:=findL_some h
    exact⟨List.mem_cons_of_mem _ h1,h2⟩
 |[],_,h=>by cases h
def oneT (P:Program)(Γ:Env)(Y:YH)(ops:List Oper)(gs:List Nat)(ih:List Nat→List SV→List Blk→KT→Prop)(listed:List Nat)(F:List SV)(M:List Blk)(K:KT)(i:Nat):Prop:=match nth ops i with
 |some o=>stepOp P Γ Y ops gs o (fun _ F' M' K'=>ih (i::listed) F' M' K') i F M K
 |none=>False
def runTree (P:Program)(Γ:Env)(Y:YH)(ops:List Oper)(gs:List Nat)(fuel:List Oper):List Nat→List SV→List Blk→KT→Prop:=
 List.rec (motive:=fun _=>List Nat→List SV→List Blk→KT→Prop)
    (fun listed F M K=>match rdyFrom listed ops 0 with
      |[]=>K none F M
      |_=>False)
    (fun _ _ ih listed F M K=>match rdyFrom listed ops 0 with
      |[]=>K none F M
      |l=>match findL (lateT P Γ F ops listed) l with
       |some i=>oneT P Γ Y ops gs ih listed F M K i
       |none=>allT (oneT P Γ Y ops gs ih listed F M K) l) fuel
theorem runTree_nil (P:Program)(Γ:Env)(Y:YH)(ops:List Oper)(gs:List Nat)(listed:List Nat)(F:List SV)(M:List Blk)(K:KT):runTree P Γ Y ops gs [] listed F M K=match rdyFrom listed ops 0 with
 |[]=>K none F M
 |_=>False:=rfl
theorem runTree_cons (P:Program)(Γ:Env)(Y:YH)(ops:List Oper)(gs:List Nat)(o:Oper)(fuel:List Oper)(listed:List Nat)(F:List SV)(M:List Blk)(K:KT):runTree P Γ Y ops gs (o::fuel) listed F M K=match rdyFrom listed ops 0 with
 |[]=>K none F M
 |l=>match findL (lateT P Γ F ops listed) l with
  |some i=>oneT P Γ Y ops gs (runTree P Γ Y ops gs fuel) listed F M K i
  |none=>allT (oneT P Γ Y ops gs (runTree P Γ Y ops gs fuel) listed F M K) l:=rfl
theorem memN_mem {i:Nat}:∀ {l:List Nat},memN i l=true↔i∈l
 |[]=>by simp[memN]
 |j::l=>by
  simp only[memN,Bool.or_eq_true,memN_mem (l:=l),List.mem_cons]
  exact⟨fun h=>h.elim (fun h=>.inl (Nat.eq_of_beq_eq_true h)) .inr,fun h=>h.elim (fun h=>.inl (by rw[h];exact Nat.beq_refl j)) .inr⟩
structure LOk (n:Nat)(arr:Array Bool)(l:List Nat):Prop where
 size:arr.size=n
 mem:∀ i,i<n→arr.getD i false=memN i l
 low:∀ i∈l,i<n
theorem LOk.put {n i:Nat}{arr:Array Bool}{l:List Nat}(h:LOk n arr l)(hi:i<n):LOk n (arr.setIfInBounds i true) (i::l):=by
 refine⟨by rw[Array.size_setIfInBounds,h.size],fun k hk => ?_,fun k hk=>(List.mem_cons.1 hk).elim (fun e=>e▸hi) (h.low k)⟩
 have hs:i<arr.size:=by rw[h.size];exact hi
 have e:=setD hs k
 have e2:memN k (i::l)=true↔(k=i∨memN k l=true):=by simp only[memN_mem,List.mem_cons]
 rw[Bool.eq_iff_iff,e,e2,h.mem k hk]
theorem memN_lt {n:Nat}{arr:Array Bool}{l:List Nat}(h:LOk n arr l){i:Nat}(hi:arr.getD i false=true):memN i l=true:=by
 rcases Nat.lt_or_ge i n with h1|h1
 . rw[← h.mem i h1];exact hi
 . rw[Array.getD_eq_getD_getElem?,Array.getElem?_eq_none (by rw[h.size];exact h1)] at hi
   cases hi
theorem rdyFrom_mem {listed:List Nat}:∀ (os:List Oper) (k i:Nat) (o:Oper),os[i]? = some o→rdyB listed (k+i) o=true→k+i∈rdyFrom listed os k
 |o'::os,k,i,o,ho,hr=>by
  rw[rdyFrom_cons]
  cases i with
  |zero=>
   obtain rfl:o'=o:=by simpa using ho
   rw[Nat.add_zero] at hr
   rw[hr];exact List.mem_cons_self ..
  |succ i=>
   have:=rdyFrom_mem os (k+1) i o (by simpa using ho) (by rw[show k+1+i=k+(i+1) by omega];exact hr)
   rw[show k+1+i=k+(i+1) by omega] at this
   split
   . exact List.mem_cons_of_mem _ this
   . exact this
 |[],_,_,_,ho,_=>by simp at ho
theorem rdyFrom_of {listed:List Nat}:∀ (os:List Oper) (k i:Nat),i∈rdyFrom listed os k→∃ j o,i=k+j∧os[j]? = some o∧rdyB listed i o=true
 |o'::os,k,i,h=>by
  rw[rdyFrom_cons] at h
  split at h
  . rename_i hr
    rcases List.mem_cons.1 h with rfl|h
    . exact⟨0,o',rfl,rfl,hr⟩
    . obtain⟨j,o,e,ho,hr⟩:=rdyFrom_of os (k+1) i h
      exact⟨j+1,o,by omega,by simpa using ho,hr⟩
  . obtain⟨j,o,e,ho,hr⟩:=rdyFrom_of os (k+1) i h
    exact⟨j+1,o,by omega,by simpa using ho,hr⟩
 |[],_,_,h=>by cases h
theorem ready_in {ops:List Oper}{arr:Array Bool}{l:List Nat}(h:LOk ops.length arr l){i:Nat}:i∈Region.ready .any ops.toArray arr↔i∈rdyFrom l ops 0:=by
 constructor
 . intro hi
   obtain⟨hun,o,ho,hr⟩:=ready_spec hi
   have hlt:=(List.getElem?_eq_some_iff.1 ho).1
   have:=rdyFrom_mem (listed:=l) ops 0 i o ho (by
    rw[Nat.zero_add]
    unfold rdyB
    rw[← h.mem i hlt,getD_both hun]
    simp only[]
    rw[List.all_eq_true]
    intro e he
    rw[Bool.or_eq_true]
    cases hb:Region.binds .any e with
    |false=>exact .inl rfl
    |true=>exact .inr (memN_lt h (hr e (by simpa using he) hb)))
   rwa [Nat.zero_add] at this
 . intro hi
   obtain⟨j,o,e,ho,hr⟩:=rdyFrom_of ops 0 i hi
   obtain rfl:i=j:=by omega
   have hlt:=(List.getElem?_eq_some_iff.1 ho).1
   unfold rdyB at hr
   split at hr
   . cases hr
   . rename_i hm
     rw[mem_ready]
     refine⟨getD_in (by rw[h.size];exact hlt) (by rw[h.mem i hlt,hm]),o,(by rw[List.getElem?_toArray];exact ho),fun e he hb => ?_⟩
     have:=List.all_eq_true.1 hr e (by simpa using he)
     rw[hb] at this
     have h1:memN e.on l=true:=by simpa using this
     have h2:e.on∈l:=memN_mem.1 h1
     rw[h.mem _ (h.low _ h2)];exact h1
section
variable {P:Program}{G:World→Prop}{B:Bd}{w0:World}{L:LD}{ops:List Oper}
theorem Rel.drew {ρ:Val}{F:List SV}{M:List Blk}{a:Act}{w:World}(hR:Rel B w0 L ρ F M a w):Rel B w0 L ρ F M a {w with drawn:=w.drawn+1}:=
 ⟨hR.marks,hR.len,hR.size,hR.slot,hR.scF,hR.scM,⟨hR.mem.size,fun n b hb=>b.ok_same (w:=w) (hR.mem.ok n b hb) (fun _ _=>rfl) (fun _ _=>rfl) (fun _ _ _=>rfl),hR.mem.apart,hR.mem.zb,hR.mem.zlo,hR.mem.zhi,hR.mem.zown,hR.mem.zc⟩,hR.below.drew⟩
theorem tree_any {Q:Exit→Act→World→Prop}{ro:Option Nat}(hG:∀ w,Kept B w0 w→G w){Γ:Env}(hΓ:EnvOk P G Γ){Y:YH}(hY:YOk P G B ro Y){gs:List Nat}(hsel:Region.noSelect ops.toArray=true)(hnd:(ops.all fun o => !isDef o)=true)(hQp:∀ c a w,¬ Q (.panic c) a w)
  {K:KT} (hKP:∀ v F' M',¬ K (some v) F' M') {z:Nat} {ρ0:Val} (hQ:∀ F' M' ρ' a' w',Rel B w0 L ρ' F' M' a' w'→z≤M'.length→(∀ n,n<z→ρ' n=ρ0 n)→K none F' M'→Q .normal a' w'):
  ∀ (fuel:List Oper) (arr:Array Bool) (l:List Nat) (F:List SV) (M:List Blk) (ρ:Val) (a:Act) (w:World),LOk ops.length arr l→z≤M.length→(∀ n,n<z→ρ n=ρ0 n)→runTree P Γ Y ops gs fuel l F M K→Rel B w0 L ρ F M a w→wpAnyIn (Fe ro) 0 P .any ops.toArray Q fuel.length arr a w:=by
 have hnd':∀ (j:Nat) (o:Oper),ops[j]? = some o→isDef o=false:=fun j o hj=>by
  have:=(List.all_eq_true.1 hnd) o (List.mem_of_getElem? hj)
  simpa using this
 have nil:∀ {arr l},LOk ops.length arr l→(Region.ready .any ops.toArray arr=[]↔rdyFrom l ops 0=[]):=fun{arr l} h=>by
  constructor
  . intro e
    cases hq:rdyFrom l ops 0 with
    |nil=>rfl
    |cons i r=>
     have:=(ready_in h).2 (by rw[hq];exact List.mem_cons_self .. : i∈rdyFrom l ops 0)
     rw[e] at this;cases this
  . intro e
    cases hq:Region.ready .any ops.toArray arr with
    |nil=>rfl
    |cons i r=>
     have:=(ready_in h).1 (by rw[hq];exact List.mem_cons_self .. : i∈Region.ready .any ops.toArray arr)
     rw[e] at this;cases this
 intro fuel
 induction fuel with
 |nil=>
  intro arr l F M ρ a w hL hz hρz h hR
  rw[runTree_nil] at h
  split at h
  . rename_i he
    exact⟨(nil hL).2 he,hQ F M ρ a w hR hz hρz h⟩
  . exact h.elim
 |cons o0 fuel ih=>
  intro arr l F M ρ a w hL hz hρz h hR
  rw[runTree_cons] at h
  split at h
  . rename_i he
    exact⟨fun _=>hQ F M ρ a w hR hz hρz h,fun i hi=>by rw[(nil hL).2 he] at hi;cases hi⟩
  . rename_i he
    split at h
    ·
        rename_i i hf
        obtain⟨hil,hlate⟩:=findL_some hf
        have hir:=(ready_in hL).2 hil
        obtain⟨hun,o,ho,hready⟩:=ready_spec hir
        have hlt:=(List.getElem?_eq_some_iff.1 ho).1
        unfold oneT at h
        rw[nth_eq,ho] at h
        simp only at h
        unfold lateT at hlate
        rw[nth_eq,ho] at hlate
        simp only at hlate
        split at hlate
        . rename_i hl
          split at hlate
          . rename_i hcall hbar hls
            have hfree:∀ j oj,ops.toArray[j]? = some oj→j≠i→arr.getD j true=false→(∀ e∈oj.after,Region.binds .any e=true→e.on≠i)→o.apart ops.toArray oj=true:=by
             intro j oj hoj hne hju hno
             rw[List.getElem?_toArray] at hoj
             have hjl:=(List.getElem?_eq_some_iff.1 hoj).1
             have:=List.all_eq_true.1 hlate j (List.mem_range.2 hjl)
             rw[nth_eq,hoj] at this
             simp only[Bool.or_eq_true] at this
             rcases this with h1|h1|h1|h1
             . exact absurd (Nat.eq_of_beq_eq_true h1) hne
             . rw[← hL.mem j hjl,getD_both hju] at h1;cases h1
             . obtain⟨e,he',hb⟩:=List.any_eq_true.1 h1
               rw[Bool.and_eq_true] at hb
               exact absurd (Nat.eq_of_beq_eq_true hb.2) (hno e (by simpa using he') hb.1)
             . exact h1
            have hnd2:∀ (j:Nat) (o:Oper),ops.toArray[j]? = some o→isDef o=false:=fun j o hj=>hnd' j o (by rw[List.getElem?_toArray] at hj;exact hj)
            unfold stepOp at h
            simp only[force3_eq,forceM_eq,addM_eq,setFF_eq,spine_eq] at h
            split at h
            . exact h.elim
            . rename_i hw
              refine first_in (v:=undef) (by rw[List.getElem?_toArray];exact ho) hsel hnd2 hQp fuel.length arr a w hfree hir (.inr ⟨wants_spec hR hw,rfl⟩) ?_
              exact ih _ _ _ _ ρ _ w (hL.put hlt) hz hρz h (hR.put (Nat.le_refl _) (fun _ _ _ _=>rfl) (fun _=>rfl) rfl hR.mem hR.scM (Kept.refl _ _))
            . rename_i hw
              have hpn:panOf o=none:=by
               unfold isLate at hl
               unfold panOf
               split
               . rename_i x hop;rw[hop] at hl;cases hl
               . rfl
              rw[hcall,hpn,hbar] at h
              simp only at h
              obtain⟨sv,nb,hK,hO⟩:=Res.good_run _ h (stepH_good hΓ)
              split at hK
              . exact hK.elim
              . rename_i hc
                obtain⟨hc1,hc2⟩:=chk_spec hc hR.scM
                have hev:∀ x∈o.op.operands,evS F x ≠ .junk→a.eval x=(evS F x).den ρ:=fun x _ hx=>hR.ev x hx
                have hwp:=hO B ρ a w (fun a' w'=>∃ (ρ':Val) (v:Value),a'=a.put o.dst v∧(sv ≠ .junk→v=sv.den ρ')∧Val.Ext w.heap.size (fun n => ¬ (M.length≤n∧n<M.length+nb.length)) ρ ρ'∧Below w.heap.size w w'∧New B w.heap.size ρ' M.length nb w') (fun _ _ _=>False) hev hR.mem (hG w hR.below) (fun ρ' w' v hv hρ hb hn=>⟨ρ',v,rfl,hv,hρ,hb,hn⟩)
                obtain⟨v0,hv0,ρ',v,hav,hv,hρ,hb,hn⟩:=late_run hls ρ a hev hwp
                refine first_in (v:=v0) (by rw[List.getElem?_toArray];exact ho) hsel hnd2 hQp fuel.length arr a w hfree hir (.inl ⟨wants_spec hR hw,hv0⟩) ?_
                rw[hav]
                have hold':Val.Ext w.heap.size (fun n=>n<M.length) ρ ρ':=hρ.mono (fun n hn'=>by omega) (Nat.le_refl _)
                have hold:∀ n,n<M.length→ρ' n=ρ n:=hold'.eq
                have hz':z≤(M++nb).length:=by simp;omega
                have hρz':∀ n,n<z→ρ' n=ρ0 n:=fun n hn=>by rw[hold n (by omega),hρz n hn]
                have next:∀ sv',(sv' ≠ .junk→v=sv'.den ρ')→sv'.sc (fun n=>decide (n < (M++nb).length))=true→Rel B w0 L ρ' (setF F o.dst sv') (M++nb) (a.put o.dst v) w:=fun sv' hv' hs'=>
                  hR.put (by simp) (hR.keepρ hold) hv' hs' (hR.mem.grown hR.scM hold' hb hn) hc2 (Kept.of_below hR.mem.size hb)
                split at hK
                . exact ih _ _ _ _ ρ' _ w (hL.put hlt) hz' hρz' hK (next sv hv hc1)
                . split at hK
                  . exact ih _ _ _ _ ρ' _ w (hL.put hlt) hz' hρz' hK (next _ hv rfl)
                  . exact ih _ _ _ _ ρ' _ w (hL.put hlt) hz' hρz' hK (next _ hv rfl)
                  . rename_i b
                    cases b
                    . exact ih _ _ _ _ ρ' _ w (hL.put hlt) hz' hρz' (hK.2 rfl) (next _ (fun _=>hv (by simp)) rfl)
                    . exact ih _ _ _ _ ρ' _ w (hL.put hlt) hz' hρz' (hK.1 rfl) (next _ (fun _=>hv (by simp)) rfl)
                  . exact hK.elim
          . cases hlate
        . cases hlate
    . refine⟨fun e=>absurd ((nil hL).1 e) he,fun i hir => ?_⟩
      have h1:=allT_mem h i ((ready_in hL).1 hir)
      obtain⟨hun,o,ho,hready⟩:=ready_spec hir
      have hlt:=(List.getElem?_eq_some_iff.1 ho).1
      unfold oneT at h1
      rw[nth_eq,ho] at h1
      simp only at h1
      unfold wpOpIn
      rw[show ops.toArray[i]? = some o by simpa using ho]
      exact stepOp_sound (W:=wpAnyIn (Fe ro) 0 P .any ops.toArray Q fuel.length (arr.setIfInBounds i true)) hG hΓ hY (fun v F' M' _ _ _ _ _ _ hK=>absurd hK (hKP v F' M')) (fun i' F' M' ρ' a' w' hz' hρz' hK hR'=>ih _ _ F' M' ρ' a' w' (hL.put hlt) hz' hρz' hK hR') i F M ρ a w (hnd' i o ho) hz hρz h1 hR
theorem tree_sound {Q:Exit→Act→World→Prop}{ro:Option Nat}(hm:P.follows .mixedOrders=true)(hG:∀ w,Kept B w0 w→G w){Γ:Env}(hΓ:EnvOk P G Γ){Y:YH}(hY:YOk P G B ro Y){gs:List Nat}(hsel:Region.noSelect ops.toArray=true)(hnd:(ops.all fun o => !isDef o)=true)(hQp:∀ c a w,¬ Q (.panic c) a w)
  {K:KT} (hKP:∀ v F' M',¬ K (some v) F' M') {z:Nat} {ρ0:Val} {F:List SV} {M:List Blk} {ρ:Val} (hz:z≤M.length) (hρz:∀ n,n<z→ρ n=ρ0 n) (hQ:∀ F' M' ρ' a' w',Rel B w0 L ρ' F' M' a' w'→z≤M'.length→(∀ n,n<z→ρ' n=ρ0 n)→K none F' M'→Q .normal a' w') {id:Nat} {a:Act} {w:World}
  (hr:runTree P Γ Y ops gs ops [] F M K) (hR:Rel B w0 L ρ F M a w):(Code.region id ops.toArray true).wpIn (Fe ro) 0 P Q a w:=by
 refine wpIn_region_any hm ?_
 have:=tree_any (B:=B) (w0:=w0) (L:=L) (ro:=ro) hG hΓ hY (gs:=gs) hsel hnd hQp (K:=K) hKP (z:=z) (ρ0:=ρ0) hQ ops (Array.replicate ops.length false) [] F M ρ a {w with drawn:=w.drawn+1} ⟨by simp,fun i hi=>by rw[getD_replicate_false];rfl,fun i hi=>by cases hi⟩ hz hρz hr hR.drew
 simpa using this
end
def freeB (ops:List Oper)(listed:List Nat)(i:Nat)(o:Oper):Bool:=(List.range ops.length).all fun j=>Nat.beq j i||(memN j listed||(match nth ops j with
 |some oj=>(oj.after.toList.any fun e=>Region.binds .any e&&Nat.beq e.on i)||o.apart ops.toArray oj
 |none=>true))
theorem freeB_spec {ops:List Oper}{arr:Array Bool}{l:List Nat}(hL:LOk ops.length arr l){i:Nat}{o:Oper}(h:freeB ops l i o=true):∀ j oj,ops.toArray[j]? = some oj→j≠i→arr.getD j true=false→(∀ e∈oj.after,Region.binds .any e=true→e.on≠i)→o.apart ops.toArray oj=true:=by
 intro j oj hoj hne hju hno
 rw[List.getElem?_toArray] at hoj
 have hjl:=(List.getElem?_eq_some_iff.1 hoj).1
 have:=List.all_eq_true.1 h j (List.mem_range.2 hjl)
 rw[nth_eq,hoj] at this
 simp only[Bool.or_eq_true] at this
 rcases this with h1|h1|h1|h1
 . exact absurd (Nat.eq_of_beq_eq_true h1) hne
 . rw[← hL.mem j hjl,getD_both hju] at h1;cases h1
 . obtain⟨e,he',hb⟩:=List.any_eq_true.1 h1
   rw[Bool.and_eq_true] at hb
   exact absurd (Nat.eq_of_beq_eq_true hb.2) (hno e (by simpa using he') hb.1)
 . exact h1
def heldV (P:Program)(F:List SV)(M:List Blk)(stay:List Nat)(ops:List Oper)(gs listed:List Nat)(i:Nat):Option (Option Tmp×SV):=match nth ops i with
 |some o=>match o.guard,memN i gs,o.op with
  |none,false,.load t x=>match evS F x with
   | .ptr n off=>match memN n stay,nth M n with
     |true,some (.cells _ xs)=>match partS P t xs off with
      |some sv=>match sv.sc (fun n=>decide (n<M.length))&&freeB ops listed i o with
       |true=>some (o.dst,sv)
       |false=>none
      |none=>none
     |_,_=>none
   |_=>none
  |_,_,_=>none
 |none=>none
def findV (p:Nat→Option (Option Tmp×SV)):List Nat→Option (Nat×Option Tmp×SV)
 |[]=>none
 |i::l=>match p i with
  |some (d,sv)=>some (i,d,sv)
  |none=>findV p l
theorem findV_some {p:Nat→Option (Option Tmp×SV)}:∀ {l:List Nat} {i:Nat} {d:Option Tmp} {sv:SV},findV p l=some (i,d,sv)→i∈l∧p i=some (d,sv)
 |j::l,i,d,sv,h=>by
  unfold findV at h
  split at h
  . rename_i d' sv' hp
    simp only[Option.some.injEq,Prod.mk.injEq] at h
    obtain⟨rfl,rfl,rfl⟩:=h
    exact⟨List.mem_cons_self ..,hp⟩
  . obtain⟨h1,h2⟩:=findV_some h
    exact⟨List.mem_cons_of_mem _ h1,h2⟩
 |[],_,_,_,h=>by cases h
def keepP (Ms M:List Blk):List Nat→Prop
 |[]=>True
 |n::l=>nth M n=nth Ms n∧keepP Ms M l
theorem keepP_get {Ms M:List Blk}:∀ {l:List Nat},keepP Ms M l→∀ n∈l,nth M n=nth Ms n
 |m::l,h,n,hn=>by
  rcases List.mem_cons.1 hn with rfl|hn
  . exact h.1
  . exact keepP_get h.2 n hn
 |[],_,_,hn=>by cases hn
theorem keepP_refl {Ms:List Blk}:∀ l:List Nat,keepP Ms Ms l
 |[]=>trivial
 |_::l=>⟨rfl,keepP_refl l⟩
def runTreeS (P:Program)(Γ:Env)(Y:YH)(ops:List Oper)(gs stay:List Nat)(Ms:List Blk)(fuel:List Oper):List Nat→List SV→List Blk→KT→Prop:=
 List.rec (motive:=fun _=>List Nat→List SV→List Blk→KT→Prop)
    (fun listed F M K=>match rdyFrom listed ops 0 with
      |[]=>K none F M
      |_=>False)
    (fun _ _ ih listed F M K=>match rdyFrom listed ops 0 with
      |[]=>K none F M
      |l=>match findL (lateT P Γ F ops listed) l with
       |some i=>oneT P Γ Y ops gs (fun l F M K=>keepP Ms M stay∧ih l F M K) listed F M K i
       |none=>match findV (heldV P F M stay ops gs listed) l with
        |some (i,d,sv)=>setFF F d sv fun F'=>ih (i::listed) F' M K
        |none=>allT (oneT P Γ Y ops gs (fun l F M K=>keepP Ms M stay∧ih l F M K) listed F M K) l) fuel
theorem runTreeS_nil (P:Program)(Γ:Env)(Y:YH)(ops:List Oper)(gs stay:List Nat)(Ms:List Blk)(listed:List Nat)(F:List SV)(M:List Blk)(K:KT):runTreeS P Γ Y ops gs stay Ms [] listed F M K=match rdyFrom listed ops 0 with
 |[]=>K none F M
 |_=>False:=rfl
theorem runTreeS_cons (P:Program)(Γ:Env)(Y:YH)(ops:List Oper)(gs stay:List Nat)(Ms:List Blk)(o:Oper)(fuel:List Oper)(listed:List Nat)(F:List SV)(M:List Blk)(K:KT):runTreeS P Γ Y ops gs stay Ms (o::fuel) listed F M K=match rdyFrom listed ops 0 with
 |[]=>K none F M
 |l=>match findL (lateT P Γ F ops listed) l with
  |some i=>oneT P Γ Y ops gs (fun l F M K=>keepP Ms M stay∧runTreeS P Γ Y ops gs stay Ms fuel l F M K) listed F M K i
  |none=>match findV (heldV P F M stay ops gs listed) l with
   |some (i,d,sv)=>setFF F d sv fun F'=>runTreeS P Γ Y ops gs stay Ms fuel (i::listed) F' M K
   |none=>allT (oneT P Γ Y ops gs (fun l F M K=>keepP Ms M stay∧runTreeS P Γ Y ops gs stay Ms fuel l F M K) listed F M K) l:=rfl
section
variable {P:Program}{ro:Option Nat}{aops:Array Oper}{Q:Exit→Act→World→Prop}{S:World→Prop}
def YieldsS (P:Program)(aops:Array Oper)(S:World→Prop)(o:Oper)(v:Value)(a:Act):Prop:=
 (Region.wanted o (yielded aops a.tmps)=true∧∀ w,S w→(execOp a.eval o).run P w = .ok (.value v) w)∨(Region.wanted o (yielded aops a.tmps)=false∧v=undef)
theorem YieldsS.of {o:Oper}{v:Value}{a:Act}(h:Yields P aops o v a):YieldsS P aops S o v a:=h.imp (fun⟨hw,hv⟩=>⟨hw,fun w _=>hv w⟩) id
theorem YieldsS.of_same {o:Oper}{v:Value}{a a':Act}(hy:YieldsS P aops S o v a)(he:execOp a'.eval o=execOp a.eval o)(hw:Region.wanted o (yielded aops a'.tmps)=Region.wanted o (yielded aops a.tmps)):YieldsS P aops S o v a':=by
 unfold YieldsS at *
 rw[he,hw]
 exact hy
theorem wpOpIn_putS {j:Nat}{oi oj:Oper}{v:Value}(hj:aops[j]? = some oj)(hap:oi.apart aops oj=true)
  (hsi:∀ cs b,oi.op ≠ .select cs b) (hsj:∀ cs b,oj.op ≠ .select cs b) (hdj:isDef oj=false)
  (hQ:∀ c a d v w,Q (.panic c) (a.put d v) w→Q (.panic c) a w) {K:Act→World→Prop} {a:Act} {w:World}
  (hy:YieldsS P aops S oi v a) (h:wpOpIn (Fe ro) 0 P aops Q j K (a.put oi.dst v) w):
  wpOpIn (Fe ro) 0 P aops Q j (fun a' w'=>YieldsS P aops S oi v a'∧K (a'.put oi.dst v) w') a w:=by
 obtain⟨h1,h2,h3⟩:=Oper.apart_spec hap
 have keep:∀ u,YieldsS P aops S oi v (a.put oj.dst u):=fun u=>hy.of_same (execOp_put oi hsi a oj.dst u h3) (wanted_put oi a oj.dst u h3)
 unfold wpOpIn at *
 simp only[hj] at *
 rw[wanted_put oj a oi.dst v h1] at h
 split
 . rename_i hw
   simp only[hw,if_true] at h
   unfold Oper.wpIn at *
   refine⟨fun _ _=>trivial,?_⟩
   have h:=h.2
   rw[Oper.semAt_eq _ _ _ (notDef hdj),execOp_put oj hsj a oi.dst v h1] at h
   rw[Oper.semAt_eq _ _ _ (notDef hdj)]
   have hnd:∀ d w',(execOp a.eval oj).run P w = .ok (.defer d) w'→YieldsS P aops S oi v {a with defers:=d::a.defers}:=fun d w' _=>hy.of_same rfl rfl
   generalize (execOp a.eval oj).run P w=r at *
   cases r with
   |ok x w'=>
    cases x<;>simp only[Oper.uponIn] at h ⊢
    case value u=>exact⟨keep u,by rw[← Act.put_comm a v u h2];exact h⟩
    case skip=>exact⟨keep _,by rw[← Act.put_comm a v undef h2];exact h⟩
    case defer d=>
        have hy':=hnd d w' rfl
        refine⟨hy'.of_same (execOp_put oi hsi _ oj.dst undef h3) (wanted_put oi _ oj.dst undef h3),?_⟩
        rw[← Act.put_comm _ v undef h2,← Act.put_defers]
        exact h
    case enter f args=>
        refine⟨h.1,CallsIn.mono h.2 fun e w'' he => ?_⟩
        cases e with
        |returned u=>exact⟨keep u,by rw[← Act.put_comm a v u h2];exact he⟩
        |panicked c=>exact hQ _ _ _ _ _ he
        |outgrown=>exact he
    case row row args=>exact⟨h.1,RowsIn.mono h.2 fun u w'' he=>⟨keep u,by rw[← Act.put_comm a v u h2];exact he⟩⟩
    case round l f tmps assign body=>
        refine⟨h.1,RoundIn.mono h.2 fun e w'' he => ?_⟩
        cases e with
        |returned u=>exact⟨keep u,by rw[← Act.put_comm a v u h2];exact he⟩
        |panicked c=>exact hQ _ _ _ _ _ he
        |outgrown=>exact he
   |halt x w'=>
    cases x<;>simp only[Oper.uponIn] at h ⊢
    case panic u=>exact hQ _ _ _ _ _ h
 . rename_i hw
   simp only[hw] at h
   exact⟨fun _ _=>trivial,keep _,by rw[← Act.put_comm a v undef h2];exact h.2⟩
theorem yieldsS_in {i:Nat}{o:Oper}{v:Value}{a:Act}(hd:isDef o=false)(hi:aops[i]? = some o)(hy:YieldsS P aops S o v a){K:Act→World→Prop}{w:World}(hS:S w)(h:K (a.put o.dst v) w):wpOpIn (Fe ro) 0 P aops Q i K a w:=by
 unfold wpOpIn
 simp only[hi]
 rcases hy with⟨hw,hv⟩ | ⟨hw,rfl⟩
 . simp only[hw,if_true]
   unfold Oper.wpIn
   refine⟨fun _ _=>trivial,?_⟩
   rw[Oper.semAt_eq _ _ _ (notDef hd),hv w hS]
   exact h
 . simp only[hw,Bool.false_eq_true,if_false];exact⟨fun _ _=>trivial,h⟩
def wpAnyS (ro:Option Nat)(P:Program)(aops:Array Oper)(Q:Exit→Act→World→Prop)(S:World→Prop):Nat→Array Bool→Act→World→Prop
 |0,listed,a,w=>Region.ready .any aops listed=[]∧Q .normal a w
 |fuel+1,listed,a,w=>(Region.ready .any aops listed=[]→Q .normal a w)∧∀ i∈Region.ready .any aops listed,wpOpIn (Fe ro) 0 P aops Q i (fun a' w'=>S w'∧wpAnyS ro P aops Q S fuel (listed.setIfInBounds i true) a' w') a w
theorem anyS_in:∀ (fuel:Nat) (listed:Array Bool) (a:Act) (w:World),wpAnyS ro P aops Q S fuel listed a w→wpAnyIn (Fe ro) 0 P .any aops Q fuel listed a w
 |0,_,_,_,h=>h
 |fuel+1,_,_,_,h=>⟨h.1,fun i hi=>wpOpIn_mono (fun a' w' h'=>anyS_in fuel _ a' w' h'.2) (h.2 i hi)⟩
theorem first_S {i:Nat}{oi:Oper}{v:Value}(hi:aops[i]? = some oi)(hsel:Region.noSelect aops=true)(hnd:∀ (j:Nat) (o:Oper),aops[j]? = some o→isDef o=false)(hQ:∀ c a d v w,Q (.panic c) (a.put d v) w→Q (.panic c) a w):
  ∀ (fuel:Nat) (listed:Array Bool) (a:Act) (w:World),
    (∀ j oj,aops[j]? = some oj→j≠i→listed.getD j true=false→(∀ e∈oj.after,Region.binds .any e=true→e.on≠i)→oi.apart aops oj=true)→
    i∈Region.ready .any aops listed→YieldsS P aops S oi v a→S w→
    wpAnyS ro P aops Q S fuel (listed.setIfInBounds i true) (a.put oi.dst v) w→wpAnyS ro P aops Q S (fuel+1) listed a w:=by
 intro fuel
 induction fuel with
 |zero=>
  intro listed a w _ hr hy hS H
  refine⟨fun h=>(by rw[h] at hr;cases hr),fun j hj => ?_⟩
  by_cases hji:j=i
  . subst hji;exact yieldsS_in (hnd _ _ hi) hi hy hS ⟨hS,H⟩
  . have:=ready_mono hj hji
    rw[H.1] at this
    cases this
 |succ fuel ih=>
  intro listed a w hfree hr hy hS H
  refine⟨fun h=>(by rw[h] at hr;cases hr),fun j hj => ?_⟩
  by_cases hji:j=i
  . subst hji;exact yieldsS_in (hnd _ _ hi) hi hy hS ⟨hS,H⟩
  . have h1:=H.2 j (ready_mono hj hji)
    obtain⟨hjun,oj,hoj,hall⟩:=mem_ready.1 hj
    have hiun:=(mem_ready.1 hr).1
    have hnot:∀ e∈oj.after,Region.binds .any e=true→e.on≠i:=fun e he hb heq=>by
        have h1:=hall e he hb
        rw[heq,getD_both hiun] at h1
        cases h1
    have h2:=wpOpIn_putS hoj (hfree j oj hoj hji hjun hnot) (fun cs b=>Region.noSelect_spec hsel i oi cs b hi) (fun cs b=>Region.noSelect_spec hsel j oj cs b hoj) (hnd _ _ hoj) hQ hy h1
    have hfree':∀ k ok,aops[k]? = some ok→k≠i→(listed.setIfInBounds j true).getD k true=false→
      (∀ e∈ok.after,Region.binds .any e=true→e.on≠i)→oi.apart aops ok=true:=fun k ok hk hki hun hno=>by
        refine hfree k ok hk hki ?_ hno
        by_cases hjk:j=k
        . subst hjk;exact hjun
        . rw[getD_set_ne true hjk] at hun;exact hun
    refine wpOpIn_mono (fun a' w' h3=>⟨h3.2.1,ih (listed.setIfInBounds j true) a' w' hfree' (ready_mono hr (Ne.symm hji)) h3.1 h3.2.1 ?_⟩) h2
    rw[Array.setIfInBounds_comm _ _ hji]
    exact h3.2.2
end
section
variable {P:Program}{G:World→Prop}{B:Bd}{w0:World}{L:LD}{ops:List Oper}
def StayW (Ms:List Blk)(stay:List Nat)(ρs:Val)(w:World):Prop:=∀ n ty xs,n∈stay→nth Ms n=some (.cells ty xs)→∃ l,ρs n=some l∧l.off=0∧w.heap[l.blk]? = some (.cells (denL ρs xs).toArray ty (0,0))
theorem stay_of {Ms M:List Blk}{stay:List Nat}{ρs ρ:Val}{F:List SV}{a:Act}{w:World}(hsc:scAll Ms.length Ms=true)(hk:keepP Ms M stay)(hρ:∀ n,n<Ms.length→ρ n=ρs n)(hR:Rel B w0 L ρ F M a w):StayW Ms stay ρs w:=by
 intro n ty xs hn hm
 have h1:=keepP_get hk n hn
 rw[hm,nth_eq] at h1
 obtain⟨l,hl,h0,_,hh⟩:=hR.mem.ok n _ h1
 rw[nth_eq] at hm
 have hlt:n<Ms.length:=(List.getElem?_eq_some_iff.1 hm).1
 rw[hρ n hlt] at hl
 have hx:scL (fun n=>decide (n<Ms.length)) xs=true:=by
  have:=List.all_eq_true.1 hsc _ (List.mem_of_getElem? hm)
  exact this
 rw[denL_congr (ρ:=ρs) (ρ':=ρ) (fun k hk=>hρ k (by simpa using hk)) xs hx] at hh
 exact⟨l,hl,h0,hh⟩
theorem tree_anyS {Q:Exit→Act→World→Prop}{ro:Option Nat}(hG:∀ w,Kept B w0 w→G w){Γ:Env}(hΓ:EnvOk P G Γ){Y:YH}(hY:YOk P G B ro Y){gs stay:List Nat}(hsel:Region.noSelect ops.toArray=true)(hnd:(ops.all fun o => !isDef o)=true)(hQp:∀ c a d v w,Q (.panic c) (a.put d v) w→Q (.panic c) a w)
  {K:KT} {Ms:List Blk} (hscM:scAll Ms.length Ms=true) {ρs:Val} (hKP:∀ v F' M' ρ' a' w',Rel B w0 L ρ' F' M' a' w'→Ms.length≤M'.length→(∀ n,n<Ms.length→ρ' n=ρs n)→K (some v) F' M'→Q (.panic [{v,recovered:=false}]) a' w') (hQ:∀ F' M' ρ' a' w',Rel B w0 L ρ' F' M' a' w'→Ms.length≤M'.length→(∀ n,n<Ms.length→ρ' n=ρs n)→K none F' M'→Q .normal a' w'):
  ∀ (fuel:List Oper) (arr:Array Bool) (l:List Nat) (F:List SV) (M:List Blk) (ρ:Val) (a:Act) (w:World),LOk ops.length arr l→Ms.length≤M.length→(∀ n,n<Ms.length→ρ n=ρs n)→keepP Ms M stay→runTreeS P Γ Y ops gs stay Ms fuel l F M K→Rel B w0 L ρ F M a w→wpAnyS ro P ops.toArray Q (StayW Ms stay ρs) fuel.length arr a w:=by
 have hnd':∀ (j:Nat) (o:Oper),ops[j]? = some o→isDef o=false:=fun j o hj=>by
  have:=(List.all_eq_true.1 hnd) o (List.mem_of_getElem? hj)
  simpa using this
 have hnd2:∀ (j:Nat) (o:Oper),ops.toArray[j]? = some o→isDef o=false:=fun j o hj=>hnd' j o (by rw[List.getElem?_toArray] at hj;exact hj)
 have nil:∀ {arr l},LOk ops.length arr l→(Region.ready .any ops.toArray arr=[]↔rdyFrom l ops 0=[]):=fun{arr l} h=>by
  constructor
  . intro e
    cases hq:rdyFrom l ops 0 with
    |nil=>rfl
    |cons i r=>
     have:=(ready_in h).2 (by rw[hq];exact List.mem_cons_self .. : i∈rdyFrom l ops 0)
     rw[e] at this;cases this
  . intro e
    cases hq:Region.ready .any ops.toArray arr with
    |nil=>rfl
    |cons i r=>
     have:=(ready_in h).1 (by rw[hq];exact List.mem_cons_self .. : i∈Region.ready .any ops.toArray arr)
     rw[e] at this;cases this
 intro fuel
 induction fuel with
 |nil=>
  intro arr l F M ρ a w hL hz hρz hk h hR
  rw[runTreeS_nil] at h
  split at h
  . rename_i he
    exact⟨(nil hL).2 he,hQ F M ρ a w hR hz hρz h⟩
  . exact h.elim
 |cons o0 fuel ih=>
  intro arr l F M ρ a w hL hz hρz hk h hR
  have hS:=stay_of hscM hk hρz hR
  rw[runTreeS_cons] at h
  split at h
  . rename_i he
    exact⟨fun _=>hQ F M ρ a w hR hz hρz h,fun i hi=>by rw[(nil hL).2 he] at hi;cases hi⟩
  . rename_i he
    split at h
    ·
        rename_i i hf
        obtain⟨hil,hlate⟩:=findL_some hf
        have hir:=(ready_in hL).2 hil
        obtain⟨hun,o,ho,hready⟩:=ready_spec hir
        have hlt:=(List.getElem?_eq_some_iff.1 ho).1
        unfold oneT at h
        rw[nth_eq,ho] at h
        simp only at h
        unfold lateT at hlate
        rw[nth_eq,ho] at hlate
        simp only at hlate
        split at hlate
        . rename_i hl
          split at hlate
          . rename_i hcall hbar hls
            have hfree:=freeB_spec (o:=o) (i:=i) hL hlate
            unfold stepOp at h
            simp only[force3_eq,forceM_eq,addM_eq,setFF_eq,spine_eq] at h
            split at h
            . exact h.elim
            . rename_i hw
              refine first_S (v:=undef) (by rw[List.getElem?_toArray];exact ho) hsel hnd2 hQp fuel.length arr a w hfree hir (.inr ⟨wants_spec hR hw,rfl⟩) hS ?_
              exact ih _ _ _ _ ρ _ w (hL.put hlt) hz hρz h.1 h.2 (hR.put (Nat.le_refl _) (fun _ _ _ _=>rfl) (fun _=>rfl) rfl hR.mem hR.scM (Kept.refl _ _))
            . rename_i hw
              have hpn:panOf o=none:=by
               unfold isLate at hl
               unfold panOf
               split
               . rename_i x hop;rw[hop] at hl;cases hl
               . rfl
              rw[hcall,hpn,hbar] at h
              simp only at h
              obtain⟨sv,nb,hK,hO⟩:=Res.good_run _ h (stepH_good hΓ)
              split at hK
              . exact hK.elim
              . rename_i hc
                obtain⟨hc1,hc2⟩:=chk_spec hc hR.scM
                have hev:∀ x∈o.op.operands,evS F x ≠ .junk→a.eval x=(evS F x).den ρ:=fun x _ hx=>hR.ev x hx
                have hwp:=hO B ρ a w (fun a' w'=>∃ (ρ':Val) (v:Value),a'=a.put o.dst v∧(sv ≠ .junk→v=sv.den ρ')∧Val.Ext w.heap.size (fun n => ¬ (M.length≤n∧n<M.length+nb.length)) ρ ρ'∧Below w.heap.size w w'∧New B w.heap.size ρ' M.length nb w') (fun _ _ _=>False) hev hR.mem (hG w hR.below) (fun ρ' w' v hv hρ hb hn=>⟨ρ',v,rfl,hv,hρ,hb,hn⟩)
                obtain⟨v0,hv0,ρ',v,hav,hv,hρ,hb,hn⟩:=late_run hls ρ a hev hwp
                refine first_S (v:=v0) (by rw[List.getElem?_toArray];exact ho) hsel hnd2 hQp fuel.length arr a w hfree hir (.inl ⟨wants_spec hR hw,fun w _=>hv0 w⟩) hS ?_
                rw[hav]
                have hold':Val.Ext w.heap.size (fun n=>n<M.length) ρ ρ':=hρ.mono (fun n hn'=>by omega) (Nat.le_refl _)
                have hold:∀ n,n<M.length→ρ' n=ρ n:=hold'.eq
                have hz':Ms.length≤(M++nb).length:=by simp;omega
                have hρz':∀ n,n<Ms.length→ρ' n=ρs n:=fun n hn=>by rw[hold n (by omega),hρz n hn]
                have next:∀ sv',(sv' ≠ .junk→v=sv'.den ρ')→sv'.sc (fun n=>decide (n < (M++nb).length))=true→Rel B w0 L ρ' (setF F o.dst sv') (M++nb) (a.put o.dst v) w:=fun sv' hv' hs'=>
                  hR.put (by simp) (hR.keepρ hold) hv' hs' (hR.mem.grown hR.scM hold' hb hn) hc2 (Kept.of_below hR.mem.size hb)
                split at hK
                . exact ih _ _ _ _ ρ' _ w (hL.put hlt) hz' hρz' hK.1 hK.2 (next sv hv hc1)
                . split at hK
                  . exact ih _ _ _ _ ρ' _ w (hL.put hlt) hz' hρz' hK.1 hK.2 (next _ hv rfl)
                  . exact ih _ _ _ _ ρ' _ w (hL.put hlt) hz' hρz' hK.1 hK.2 (next _ hv rfl)
                  . rename_i b
                    cases b
                    . exact ih _ _ _ _ ρ' _ w (hL.put hlt) hz' hρz' (hK.2 rfl).1 (hK.2 rfl).2 (next _ (fun _=>hv (by simp)) rfl)
                    . exact ih _ _ _ _ ρ' _ w (hL.put hlt) hz' hρz' (hK.1 rfl).1 (hK.1 rfl).2 (next _ (fun _=>hv (by simp)) rfl)
                  . exact hK.elim
          . cases hlate
        . cases hlate
    . split at h
      ·
       rename_i i d sv hf
       obtain⟨hil,hv⟩:=findV_some hf
       have hir:=(ready_in hL).2 hil
       obtain⟨hun,o,ho,hready⟩:=ready_spec hir
       have hlt:=(List.getElem?_eq_some_iff.1 ho).1
       simp only[setFF_eq] at h
       unfold heldV at hv
       rw[nth_eq,ho] at hv
       simp only at hv
       split at hv
       . rename_i t x hg _ hop
         split at hv
         . rename_i n off hx
           split at hv
           . rename_i ty xs hst hn
             split at hv
             . rename_i sv' hp
               split at hv
               . rename_i hb
                 simp only[Option.some.injEq,Prod.mk.injEq] at hv
                 obtain⟨rfl,rfl⟩:=hv
                 rw[Bool.and_eq_true] at hb
                 have hmem:=memN_mem.1 hst
                 have hMs:nth Ms n=some (.cells ty xs):=by rw[← keepP_get hk n hmem];exact hn
                 have hnl:n<Ms.length:=by rw[nth_eq] at hMs;exact(List.getElem?_eq_some_iff.1 hMs).1
                 have hwant:Region.wanted o (yielded ops.toArray a.tmps)=true:=by simp[Region.wanted,hg]
                 have hxs:scL (fun n=>decide (n<Ms.length)) xs=true:=by
                  rw[nth_eq] at hMs
                  exact List.all_eq_true.1 hscM _ (List.mem_of_getElem? hMs)
                 have hden:denL ρ xs=denL ρs xs:=denL_congr (fun k hk=>hρz k (by simpa using hk)) xs hxs
                 have hev:a.eval x=(SV.ptr n off).den ρ:=by
                  have:=hR.ev x (by rw[hx];simp)
                  rw[hx] at this;exact this
                 have hy:YieldsS P ops.toArray (StayW Ms stay ρs) o (sv'.den ρ) a:=.inl ⟨hwant,fun w' hS'=>by
                  obtain⟨l,hl,h0,hh⟩:=hS' n ty xs hmem hMs
                  rw[← hden] at hh
                  have hcell:∀ j v,(denL ρ xs)[j]? = some v→w'.cell? ⟨l.blk,0+j,none⟩=some v:=fun j v hv=>by
                   simp only[World.cell?,hh,Nat.zero_add];simpa using hv
                  obtain⟨hr,hnj⟩:=run_load_part (ρ:=ρ) hp hcell
                  have hl':ρ n=some l:=by rw[hρz n hnl];exact hl
                  simp only[execOp,hop,Sem.run_bind,hev,SV.den,hl',Option.map_some,h0,hr,Result.andThen_ok,Sem.run_pure]⟩
                 refine first_S (by rw[List.getElem?_toArray];exact ho) hsel hnd2 hQp fuel.length arr a w (freeB_spec hL hb.2) hir hy hS ?_
                 exact ih _ _ _ _ ρ _ w (hL.put hlt) hz hρz hk h (hR.put (Nat.le_refl _) (fun _ _ _ _=>rfl) (fun _=>rfl) hb.1 hR.mem hR.scM (Kept.refl _ _))
               . cases hv
             . cases hv
           . cases hv
         . cases hv
       . cases hv
      . refine⟨fun e=>absurd ((nil hL).1 e) he,fun i hir => ?_⟩
        have h1:=allT_mem h i ((ready_in hL).1 hir)
        obtain⟨hun,o,ho,hready⟩:=ready_spec hir
        have hlt:=(List.getElem?_eq_some_iff.1 ho).1
        unfold oneT at h1
        rw[nth_eq,ho] at h1
        simp only at h1
        unfold wpOpIn
        rw[show ops.toArray[i]? = some o by simpa using ho]
        exact stepOp_sound (W:=fun a' w'=>StayW Ms stay ρs w'∧wpAnyS ro P ops.toArray Q (StayW Ms stay ρs) fuel.length (arr.setIfInBounds i true) a' w') hG hΓ hY (fun v F' M' ρ' a' w' h1 h2 h3 hK=>hKP v F' M' ρ' a' w' h1 h2 h3 hK) (fun i' F' M' ρ' a' w' hz' hρz' hK hR'=>⟨stay_of hscM hK.1 hρz' hR',ih _ _ F' M' ρ' a' w' (hL.put hlt) hz' hρz' hK.1 hK.2 hR'⟩) i F M ρ a w (hnd' i o ho) hz hρz h1 hR
theorem tree_soundS {Q:Exit→Act→World→Prop}{ro:Option Nat}(hm:P.follows .mixedOrders=true)(hG:∀ w,Kept B w0 w→G w){Γ:Env}(hΓ:EnvOk P G Γ){Y:YH}(hY:YOk P G B ro Y){gs stay:List Nat}(hsel:Region.noSelect ops.toArray=true)(hnd:(ops.all fun o => !isDef o)=true)(hQp:∀ c a d v w,Q (.panic c) (a.put d v) w→Q (.panic c) a w)
  {K:KT} {z:Nat} {ρ0:Val} (hKP:∀ v F' M' ρ' a' w',Rel B w0 L ρ' F' M' a' w'→z≤M'.length→(∀ n,n<z→ρ' n=ρ0 n)→K (some v) F' M'→Q (.panic [{v,recovered:=false}]) a' w') {F:List SV} {M:List Blk} {ρ:Val} (hz:z≤M.length) (hρz:∀ n,n<z→ρ n=ρ0 n) (hQ:∀ F' M' ρ' a' w',Rel B w0 L ρ' F' M' a' w'→z≤M'.length→(∀ n,n<z→ρ' n=ρ0 n)→K none F' M'→Q .normal a' w') {id:Nat} {a:Act} {w:World}
  (hr:runTreeS P Γ Y ops gs stay M ops [] F M K) (hR:Rel B w0 L ρ F M a w):(Code.region id ops.toArray true).wpIn (Fe ro) 0 P Q a w:=by
 refine wpIn_region_any hm ?_
 have:=anyS_in _ _ _ _ (tree_anyS (B:=B) (w0:=w0) (L:=L) (ro:=ro) hG hΓ hY (gs:=gs) (stay:=stay) hsel hnd hQp (K:=K) (Ms:=M) hR.scM (ρs:=ρ) (fun v F' M' ρ' a' w' hR' hl hρ hK=>hKP v F' M' ρ' a' w' hR' (by omega) (fun n hn=>by rw[hρ n (by omega),hρz n hn]) hK) (fun F' M' ρ' a' w' hR' hl hρ hK=>hQ F' M' ρ' a' w' hR' (by omega) (fun n hn=>by rw[hρ n (by omega),hρz n hn]) hK) ops (Array.replicate ops.length false) [] F M ρ a {w with drawn:=w.drawn+1} ⟨by simp,fun i hi=>by rw[getD_replicate_false];rfl,fun i hi=>by cases hi⟩ (Nat.le_refl _) (fun _ _=>rfl) (keepP_refl _) hr hR.drew)
 simpa using this
end
end Go.Sx
namespace Go.Sx
open Go.RowKit Go.Proofs.YtfgkhenhlpoheaaGreat
def wpV (ro:Option Nat)(P:Program)(c:Code)(Q:Exit→Act→World→Prop)(a:Act)(w:World):Prop:=
 ∀ (b:Frame) (k:List Item) (cs:List Frame),b.roundOf=ro→(P.funcs[b.fn]?).isSome=true→
   ∃ e a' w',Q e a' w'∧ArrivesIn (Machine.fenced P (Fe ro)) P (lone (b.atR a (.code c::k)) cs w) b k cs e a' w'
section
variable {P:Program}{ro:Option Nat}{Q Q':Exit→Act→World→Prop}{a:Act}{w:World}
theorem fe_room (n:Nat):(Fe ro).room n:=fun _ h=>by cases h
theorem calm1 {fr fr':Frame}{cs cs':List Frame}{w':World}(ha:fr.about P w=none)(hs:step P (lone fr cs w) = .next (lone fr' cs' w')):
 StepsIn (Machine.fenced P (Fe ro)) P (lone fr cs w) (lone fr' cs' w'):=.one (fenced_calm (n:=0) trivial (fe_room _) ha) hs
theorem V_of {c:Code}(h:c.wpIn (Fe ro) 0 P Q a w):wpV ro P c Q a w:=fun b k cs hro _=>h b k cs hro trivial (fe_room _)
theorem V_mono {c:Code}(h:wpV ro P c Q a w)(hq:∀ e a w,Q e a w→Q' e a w):wpV ro P c Q' a w:=fun b k cs hro hb=>
 let ⟨e,a',w',q,r⟩:=h b k cs hro hb
 ⟨e,a',w',hq _ _ _ q,r⟩
theorem V_seq {x y:Code}(h:wpV ro P x (Exit.then (wpV ro P y Q) Q) a w):wpV ro P (.seq x y) Q a w:=by
 intro b k cs hro hb
 have s0:=calm1 (ro:=ro) (P:=P) (w:=w) (fr:=b.atR a (.code (.seq x y)::k)) (cs:=cs) rfl stepR_seq
 obtain⟨e,a1,w1,hq,harr⟩:=h b (.code y::k) cs hro hb
 by_cases he:e = .normal
 . subst he
   obtain⟨e2,a2,w2,hq2,harr2⟩:=hq b k cs hro hb
   exact⟨e2,a2,w2,hq2,.of_steps (s0.trans harr) harr2⟩
 . refine⟨e,a1,w1,?_,.of_steps s0 (.pass (x:=.code y) rfl (fun _ _=>.inl he) harr)⟩
   cases e<;>first|exact absurd rfl he|exact hq
theorem V_cond {c:Operand}{x y:Code}{t:Bool}(hc:a.eval c = .bool t)(ht:t=true→wpV ro P x Q a w)(hf:t=false→wpV ro P y Q a w):wpV ro P (.cond c x y) Q a w:=by
 intro b k cs hro hb
 have s0:=calm1 (ro:=ro) (P:=P) (w:=w) (fr:=b.atR a (.code (.cond c x y)::k)) (cs:=cs) rfl (stepR_cond hc)
 have hh:wpV ro P (if t then x else y) Q a w:=by
  cases t
  . exact hf rfl
  . exact ht rfl
 obtain⟨e,a1,w1,hq,harr⟩:=hh b k cs hro hb
 exact⟨e,a1,w1,hq,.of_steps s0 harr⟩
theorem V_block {id:Nat}{c:Code}(h:wpV ro P c (Exit.inBlock id Q) a w):wpV ro P (.block id c) Q a w:=by
 intro b k cs hro hb
 have s0:=calm1 (ro:=ro) (P:=P) (w:=w) (fr:=b.atR a (.code (.block id c)::k)) (cs:=cs) rfl stepR_block
 obtain⟨e,a1,w1,hq,harr⟩:=h b (.inBlock id::k) cs hro hb
 cases e with
 |normal=>exact⟨.normal,a1,w1,hq,(s0.trans harr).trans (calm1 rfl stepR_inBlock)⟩
 |exit id'=>
  by_cases hid:id'=id
  . subst hid
    simp only[Exit.inBlock,if_true] at hq
    exact⟨.normal,a1,w1,hq,s0.trans (harr.1 k (by simp[exitTo]))⟩
  . simp only[Exit.inBlock,if_neg hid] at hq
    have hx:exitTo id' (.inBlock id::k)=exitTo id' k:=by
        have:(id==id')=false:=by simpa using fun e=>hid e.symm
        simp[exitTo,this]
    refine⟨.exit id',a1,w1,hq,fun k' hk=>s0.trans (harr.1 k' (hx.trans hk)),fun hr hk => ?_⟩
    obtain⟨k1,h1,h2⟩:=harr.2 hr (hx.trans hk)
    exact⟨k1,h1,s0.trans h2⟩
 |goto l=>
  have hx:gotoIn l (.inBlock id::k)=gotoIn l k:=by simp[gotoIn]
  refine⟨.goto l,a1,w1,hq,fun k' hk=>s0.trans (harr.1 k' (hx.trans hk)),fun hr hk => ?_⟩
  obtain⟨k1,h1,h2⟩:=harr.2 hr (hx.trans hk)
  exact⟨k1,h1,s0.trans h2⟩
 |ret=>exact⟨_,a1,w1,hq,.of_steps s0 harr⟩
 |panic ch=>exact⟨_,a1,w1,hq,.of_steps s0 harr⟩
 |outgrown=>exact⟨_,a1,w1,hq,.of_steps s0 harr⟩
theorem V_loop_at {c:Code}(I:Nat→Act→World→Prop)(round:∀ k a w,I k a w→wpV ro P c (Exit.then (fun a' w'=>∃ k',k'<k∧I k' a' w') Q) a w):
  ∀ {k:Nat} {a:Act} {w:World},I k a w→wpV ro P (.loop c) Q a w:=by
 have key:∀ (n:Nat) (a:Act) (w:World),I n a w→∀ (b:Frame) (k:List Item) (cs:List Frame),b.roundOf=ro→(P.funcs[b.fn]?).isSome=true→∃ e a' w',Q e a' w'∧ArrivesIn (Machine.fenced P (Fe ro)) P (lone (b.atR a (.code c :: .inLoop c::k)) cs w) b k cs e a' w':=by
  intro n
  induction n using Nat.strongRecOn with
  |_ n ih=>
   intro a w hI b k cs hro hb
   obtain⟨e,a₁,w₁,hq,harr⟩:=round n a w hI b (.inLoop c::k) cs hro hb
   by_cases he:e = .normal
   . subst he
     obtain⟨m,hlt,hI₁⟩:=hq
     obtain⟨e₂,a₂,w₂,hq₂,harr₂⟩:=ih m hlt a₁ w₁ hI₁ b k cs hro hb
     exact⟨e₂,a₂,w₂,hq₂,.of_steps (StepsIn.trans harr (calm1 rfl stepR_inLoop)) harr₂⟩
   . refine⟨e,a₁,w₁,?_,.pass (x:=.inLoop c) rfl (fun _ _=>.inl he) harr⟩
     cases e<;>first|exact absurd rfl he|exact hq
 intro k a w hI b k' cs hro hb
 obtain⟨e,a',w',hq,harr⟩:=key k a w hI b k' cs hro hb
 exact⟨e,a',w',hq,.of_steps (calm1 rfl stepR_loop) harr⟩
theorem V_rangeFunc {g:Operand}{ps:Array Tmp}{assign body:Code}
  (h:∀ fn,(P.funcs[fn]?).isSome=true→∃ (l:Nat) (mark:List Deferred) (w1:World) (d:Deferred) (w1':World) (f:FuncId) (args:Array Value) (w2:World),
    (Instr.enterLoop fn a.tmps ps assign body ro).run P w = .ok (l,mark) w1∧
    (resolve a.eval (rangeCall g l) 0).run P w1 = .ok d w1'∧
    (invoke d.target d.args).run P w1' = .ok (.enter f args) w2∧
    CallsIn (Fe ro) 0 P f args w2 (rangePost (Fe ro) 0 P l Q {a with defers:=mark++a.defers})):
  wpV ro P (.rangeFunc g ps assign body) Q a w:=by
 intro b k cs hro hb
 obtain⟨l,mark,w1,d,w1',f,args,w2,he,hres,hinv,_,hcall⟩:=h b.fn hb
 rw[← hro] at he
 have s0:StepsIn (Machine.fenced P (Fe ro)) P (lone (b.atR a (.code (.rangeFunc g ps assign body)::k)) cs w) (lone (Frame.enter P f args .normal) (b.atR {a with defers:=mark++a.defers} (.inRangeFunc l::k)::cs) w2):=
  .one (fenced_lone (.inl trivial) (fun _ _=>trivial) (fe_room _)) (stepR_rangeFunc he hres hinv)
 obtain⟨e,w3,fr,hR,hsteps,hfn,hleave⟩:=hcall (b.atR {a with defers:=mark++a.defers} (.inRangeFunc l::k)::cs) (fe_room _)
 cases e with
 |outgrown=>
  obtain⟨a0,w0,hq⟩:=hR
  exact⟨.outgrown,a0,w0,hq,.inr (Outgrown.of_steps (.one (stepR_rangeFunc he hres hinv)) hsteps)⟩
 |returned v=>
  have hl:(lone fr (b.atR {a with defers:=mark++a.defers} (.inRangeFunc l::k)::cs) w3).fenced P (Fe ro):=fenced_leaving (n:=0) trivial (fe_room _) hleave
  obtain⟨jump,w4,hend,hj⟩:=hR
  have hs1:step P (lone fr (b.atR {a with defers:=mark++a.defers} (.inRangeFunc l::k)::cs) w3) = .next (lone (b.atR {a with defers:=mark++a.defers} (.endRangeFunc l::k)) cs w3):=by
   rw[← finish_atR_inRangeFunc l v];exact step_leave_returned hleave
  have s3:=(s0.trans hsteps).trans ((StepsIn.one hl hs1).trans (calm1 (fr:=b.atR {a with defers:=mark++a.defers} (.endRangeFunc l::k)) rfl (stepR_endRangeFunc hend)))
  cases jump with
  |none=>exact⟨.normal,_,w4,hj,s3⟩
  |some c=>
   obtain⟨e',a'',w5,hq,harr⟩:=hj b k cs hro trivial (fe_room _)
   exact⟨e',a'',w5,hq,.of_steps s3 harr⟩
 |panicked chain=>
  have hl:(lone fr (b.atR {a with defers:=mark++a.defers} (.inRangeFunc l::k)::cs) w3).fenced P (Fe ro):=fenced_leaving (n:=0) trivial (fe_room _) hleave
  refine⟨.panic chain,_,w3,hR,.inRangeFunc l::k,(s0.trans hsteps).trans (.one hl ?_)⟩
  rw[← Frame.raise_atR];exact step_leave_panicked hleave
theorem calls_of_V {f:FuncId}{fn:Func}{c:Code}{args:Array Value}{R:Ending→World→Prop}(hf:P.funcs[f]? = some fn)(hb:fn.body=some c)
  (h:wpV none P c (bodyPostM (Fe none) 0 P fn R) {tmps:=args++Array.replicate (fn.ntmps-args.size) undef,defers:=[]} w):CallsIn (Fe none) 0 P f args w R:=by
 refine⟨trivial,fun cs hr => ?_⟩
 let b:Frame:={(default:Frame) with fn:=f,kind:=.normal,roundOf:=none}
 have hent:Frame.enter P f args .normal=b.atR {tmps:=args++Array.replicate (fn.ntmps-args.size) undef,defers:=[]} [.code c]:=by simp[Frame.enter,Frame.atR,hf,hb,b]
 obtain⟨e,a',w',hq,harr⟩:=h b [] cs rfl (by show(P.funcs[f]?).isSome=true;rw[hf];rfl)
 rw[← hent] at harr
 have go:∀ (u:FrameMode) (todo:List Item),StepsIn (Machine.fenced P (Fe none)) P (lone (Frame.enter P f args .normal) cs w) (lone {b.atR a' todo with mode:=u} cs w')→LeavesInM (Fe none) 0 P fn a'.tmps R a'.defers u w'→
   ∃ e w'' fr',R e w''∧ComesIn (Machine.fenced P (Fe none)) P (lone (Frame.enter P f args .normal) cs w) (lone fr' cs w'') e∧fr'.fn=f∧fr'.leaving P w'' e:=by
  intro u todo hs hl
  obtain⟨e',w'',fr',hR,hs',hfn,hl'⟩:=leaves_stepsInM a'.defers u w' {b.atR a' todo with mode:=u} cs rfl rfl rfl hf rfl trivial hr hl
  exact⟨e',w'',fr',hR,ComesIn.of_steps hs hs',hfn,hl'⟩
 cases e with
 |normal=>exact go .returning [] (harr.trans (calm1 (fr:=b.atR a' []) rfl (stepR_end rfl))) hq
 |ret=>
  obtain⟨todo,hs⟩:=harr.1 rfl
  exact go .returning todo hs hq
 |panic chain=>
  obtain⟨todo,hs⟩:=harr
  exact go (.panicking chain) todo hs hq
 |exit id=>exact hq.elim
 |goto l=>exact hq.elim
 |outgrown=>exact⟨.outgrown,w',b,hq,harr.resolve_left (by simp[b]),rfl,trivial⟩
def roundPostP (P:Program)(l:Nat)(fn:Func)(R:Ending→World→Prop):Exit→Act→World→Prop
 | .panic chain,a,w=>LeavesInM (Fe none) 0 P fn a.tmps (fun e w'=>∃ c,e = .panicked c∧R (.panicked c) w') a.defers (.panicking chain) w
 |e,a,w=>roundPost P l R e a w
theorem round_of_V {l:Nat}{f:FuncId}{fn:Func}{tmps:Array Value}{assign body:Code}{R:Ending→World→Prop}(hf:P.funcs[f]? = some fn)
  (h:wpV (some l) P assign (Exit.then (fun a1 w1=>∃ w2,(Instr.beginRound l).run P w1 = .ok () w2∧wpV (some l) P body (roundPostP P l fn R) a1 w2) (fun _ _ _=>False)) {tmps:=tmps,defers:=[]} w):
  RoundIn (Fe ro) 0 P l f tmps assign body w R:=by
 refine⟨trivial,fun c cs hr => ?_⟩
 let b:Frame:={(default:Frame) with fn:=f,kind:=.normal,roundOf:=some l}
 have hb0:Frame.round l f tmps assign body .normal=b.atR {tmps:=tmps,defers:=[]} [.code assign,.beginRound,.code body]:=by simp[Frame.round,Frame.atR,b]
 have hbf:(P.funcs[b.fn]?).isSome=true:=by show(P.funcs[f]?).isSome=true;rw[hf];rfl
 obtain⟨e,a1,w1,hq,harr⟩:=h b [.beginRound,.code body] (c::cs) rfl hbf
 rw[← hb0] at harr
 cases e with
 |normal=>
  obtain⟨w2,hbr,hbody⟩:=hq
  have s1:StepsIn (Machine.fenced P (Fe ro)) P (lone (Frame.round l f tmps assign body .normal) (c::cs) w) (lone (b.atR a1 [.code body]) (c::cs) w2):=
   StepsIn.trans harr (calm1 (fr:=b.atR a1 [.beginRound,.code body]) rfl (stepR_beginRound rfl hbr))
  obtain⟨e2,a2,w3,hq2,harr2⟩:=hbody b [] (c::cs) rfl hbf
  cases e2 with
  |normal=>
   obtain⟨v,w4,hend,hR⟩:=hq2
   exact⟨.returned v,w4,hR,s1.trans (StepsIn.trans harr2 (calm1 (fr:=b.atR a2 []) rfl (stepR_round_end rfl rfl hend)))⟩
  |ret=>
   obtain⟨v,w4,hend,hR⟩:=hq2
   obtain⟨k1,hs⟩:=harr2.2 rfl
   exact⟨.returned v,w4,hR,s1.trans (StepsIn.trans hs (calm1 (fr:=b.atR a2 (.code .ret::k1)) rfl (stepR_round_ret rfl rfl hend)))⟩
  |exit id=>
   obtain⟨v,w4,hend,hR⟩:=hq2
   obtain⟨k1,hk,hs⟩:=harr2.2 rfl rfl
   exact⟨.returned v,w4,hR,s1.trans (StepsIn.trans hs (calm1 (fr:=b.atR a2 (.code (.exit id)::k1)) rfl (stepR_round_exit rfl rfl hk hend)))⟩
  |goto t=>
   obtain⟨v,w4,hend,hR⟩:=hq2
   obtain⟨k1,hk,hs⟩:=harr2.2 rfl rfl
   exact⟨.returned v,w4,hR,s1.trans (StepsIn.trans hs (calm1 (fr:=b.atR a2 (.code (.goto t)::k1)) rfl (stepR_round_goto rfl rfl hk hend)))⟩
  |outgrown=>exact hq2.elim
  |panic chain=>
   obtain⟨todo,hs⟩:=harr2
   obtain⟨e',w4,fr',⟨c',rfl,hR⟩,hs',hfn,hl⟩:=leaves_stepsInM (F:=Fe none) (n:=0) a2.defers (.panicking chain) w3 {b.atR a2 todo with mode:=.panicking chain} (c::cs) rfl rfl rfl hf rfl trivial (fun _ h=>by cases h) hq2
   have hs2:StepsIn (Machine.fenced P (Fe ro)) P (lone {b.atR a2 todo with mode:=.panicking chain} (c::cs) w3) (lone fr' (c::cs) w4):=hs'
   exact⟨.panicked c',w4,hR,s1.trans (StepsIn.trans hs (hs2.trans (.one (fenced_leaving (n:=0) trivial (fe_room _) hl) (step_leave_panicked hl))))⟩
 |exit id=>exact hq.elim
 |goto t=>exact hq.elim
 |ret=>exact hq.elim
 |panic chain=>exact hq.elim
 |outgrown=>exact hq.elim
end
end Go.Sx
