import Derived.Test.YtfjemlegodhfnaaGreatM50
import Derived.Test.YtfjemlegodhfnaaGreatM21
import Derived.Test.YtfjemlegodhfnaaGreatM52
import Derived.Test.YtfjemlegodhfnaaGreatM20
set_option linter.all false
namespace Go.Proofs.YtfjemlegodhfnaaGreat
open Go.RowKit Go.Sx
set_option maxRecDepth 100000
set_option maxHeartbeats 4000000
attribute [local irreducible] A.load A.store A.stoF
theorem dropC_drop:∀ (b a:Nat) (c:Code),dropC a (dropC b c)=dropC (b+a) c
 |0,a,c=>by rw[Nat.zero_add];rfl
 |b+1,a,c=>by
  cases c with
  |seq x y=>rw[Nat.add_right_comm];exact dropC_drop b a y
  |_=>rw[Nat.add_right_comm];cases a<;>rfl
theorem ret_slot {P:Program}{fn:Func}{Φ:SV→List Blk→Prop}{F:List SV}{M:List Blk}{n:Nat}(hr:fn.results = #[.tmp n]){x:SV}(h:nth F n=some x)(hj:x.nj=true)(hx:Φ x M):retK P fn Φ .ret F M:=by
 have e:retS P fn F M=some x:=by simp[retS,hr,retL,retOne,h,hj]
 show(match retS P fn F M with|some x=>force3 x fun x=>Φ x M|none=>False)
 rw[e]
 show force3 x (fun x=>Φ x M)
 rw[force3_eq];exact hx
theorem runs_cut {P:Program}{Γ:Env}{T:Tbl}{c:Code}{F:List SV}{M:List Blk}{K:X→List SV→List Blk→Prop}{l:List (Nat×Nat×List Nat)}(b k n:Nat)(keep:List Nat){N:Nat}(hN:N=n+k+1)(hc:chainB k (dropC b c)=true)
  (h:run P Γ N T 0 (takeC k (dropC b c)) F M (forgetK keep (fun F1 M1=>runs P Γ l T 0 (dropC (b+k) c) F1 M1 K) K)):runs P Γ ((k,n,keep)::l) T 0 (dropC b c) F M K:=by
 subst hN
 refine⟨rfl,hc,?_⟩
 rw[dropC_drop]
 exact h
theorem bounds_all (f:Fr)(hf:f.wf)(t:Ty)(maps:List Mp)(op dst src off imm:Int)(v:BitVec 64)(hd:0≤dst)(hs:0≤src)(ho:0≤op∧op≤255)(hof : -32768≤off∧off≤32767)(hw:t.atMost 140737488355328=true)(hnm:t.nm.size≤140737488355328)(hm:maps.length≤140737488355328):runs Tryz.prog ⟨[(4,k_awake)],eqs,[],[(5,Tryz.f5,[])],[],mixs,meqs,[(6,k_aLoad),(7,k_aStore)]⟩ [(8,9991,[2,4,5,6,8,15,16,17])] [] 0 (bodyOf Tryz.f3) (initF Tryz.f3 [frv f,.agg [.val (.string t.nm),.int .i64 t.cx,.sl 0 4 0 t.fs.length,.sl 1 3 0 t.ns.length,.int .i64 t.lo,.int .i64 t.hi],.sl 2 4 0 maps.length,.agg [.int .u8 op,.int .u8 dst,.int .u8 src,.int .i16 off,.int .i32 imm],.u64 v]) [.fz 4 t.fs.length (gOf eF t.fs),.fz 3 t.ns.length (gOf eN t.ns),.fz 4 maps.length (gOf eM maps)] (retK Tryz.prog Tryz.f3 fun x _=>eqv x (.bool true)):=by
 have hR:∀ F M,nth F 10=some .tt→(retK Tryz.prog Tryz.f3 fun x _=>eqv x (.bool true)) .ret F M:=fun F M h=>ret_slot rfl h rfl rfl
 rcases A.size_idx ho with⟨hz,hk⟩ | ⟨hz,hk⟩ | ⟨hz,hk⟩ | ⟨hz,hk⟩
 . exact⟨rfl,rfl,bnds_4 f hf t maps op dst src off imm v hd hs ho hof hw hnm hm hz _ _ hR ⟨rfl,bndl 4 f hf t maps op dst src off imm v hd hs ho hof hw hnm hm hk⟩⟩
 . exact⟨rfl,rfl,bnds_2 f hf t maps op dst src off imm v hd hs ho hof hw hnm hm hz _ _ hR ⟨rfl,bndl 2 f hf t maps op dst src off imm v hd hs ho hof hw hnm hm hk⟩⟩
 . exact⟨rfl,rfl,bnds_1 f hf t maps op dst src off imm v hd hs ho hof hw hnm hm hz _ _ hR ⟨rfl,bndl 1 f hf t maps op dst src off imm v hd hs ho hof hw hnm hm hk⟩⟩
 . exact⟨rfl,rfl,bnds_8 f hf t maps op dst src off imm v hd hs ho hof hw hnm hm hz _ _ hR ⟨rfl,bndl 8 f hf t maps op dst src off imm v hd hs ho hof hw hnm hm hk⟩⟩
theorem bounds_calls {w:World}(ρ:Val)(f:Fr)(hf:f.wf)(t:Ty)(maps:List Mp)(op dst src off imm:Int)(v:BitVec 64)(hd:0≤dst)(hs:0≤src)(ho:0≤op∧op≤255)(hof : -32768≤off∧off≤32767)(hw:t.atMost 140737488355328=true)(hnm:t.nm.size≤140737488355328)(hm:maps.length≤140737488355328)(hM:MRel ⟨w.heap.size,[],ρ.z⟩ ρ [.fz 4 t.fs.length (gOf eF t.fs),.fz 3 t.ns.length (gOf eN t.ns),.fz 4 maps.length (gOf eM maps)] w):
  Calls Tryz.prog 3 (denL ρ [frv f,.agg [.val (.string t.nm),.int .i64 t.cx,.sl 0 4 0 t.fs.length,.sl 1 3 0 t.ns.length,.int .i64 t.lo,.int .i64 t.hi],.sl 2 4 0 maps.length,.agg [.int .u8 op,.int .u8 dst,.int .u8 src,.int .i16 off,.int .i32 imm],.u64 v]).toArray w (Ret w (.bool true)):=by
 have h:=calls_runs (G:=Gw) (w:=w) (ρ0:=ρ) (z:=ρ.z) (Γ:=⟨[(4,k_awake)],eqs,[],[(5,Tryz.f5,[])],[],mixs,meqs,[(6,k_aLoad),(7,k_aStore)]⟩) (args:=[frv f,.agg [.val (.string t.nm),.int .i64 t.cx,.sl 0 4 0 t.fs.length,.sl 1 3 0 t.ns.length,.int .i64 t.lo,.int .i64 t.hi],.sl 2 4 0 maps.length,.agg [.int .u8 op,.int .u8 dst,.int .u8 src,.int .i16 off,.int .i32 imm],.u64 v]) st_Gw ⟨(okCons k_awake_ok okNil),eqs_ok,okNilB,(okConsI Tryz.func5 rfl (by kernel_rfl) (fun _ _=>by kernel_rfl) okNilI),okNilP,mixs_ok,meqs_ok,(okConsY k_aLoad_ok (okConsY k_aStore_ok okNilY))⟩ Tryz.func3 rfl mixed [] (by kernel_rfl) [(8,9991,[2,4,5,6,8,15,16,17])] trivial rfl hM (bounds_all f hf t maps op dst src off imm v hd hs ho hof hw hnm hm)
 refine h.mono ?_
 rintro e w' ⟨ρ',sv,M,rfl,hsv,_,hbel⟩
 exact⟨by rw[eqv_den hsv ρ' ρ'];rfl,grow_mk hbel⟩
end Go.Proofs.YtfjemlegodhfnaaGreat
namespace Go.Sx
open Go.ChangeShapes Go.WideShapes Go.Deep Go.RowKit Go.Proofs.YtfjemlegodhfnaaGreat
def flatF (P:Program)(r:TypeId→Option (List FK)):List Field→Nat→Option (List FK)
 |[],_=>some []
 |f::fs,o=>match r f.type with
  |some ks=>if f.offset=o∧P.cellsOf f.type=ks.length then (match flatF P r fs (o+ks.length) with|some k2=>some (ks++k2)|none=>none) else none
  |none=>none
def flatT (P:Program):Nat→TypeId→Option (List FK)
 |0,_=>none
 |n+1,t=>match P.underlying t with
  |some (.int .u64)=>some [.u64]
  |some (.int k)=>some [.int k]
  |some .bool=>some [.bool]
  |some (.struct fs)=>(match flatF P (flatT P n) fs.toList 0 with|some ks=>if P.cellsOf t=ks.length then some ks else none|none=>none)
  |_=>none
theorem fits_append:∀ {ks k2:List FK} {l m:List FV},fits ks l→fits k2 m→fits (ks++k2) (l++m)
 |[],k2,l,m,h,h2=>by obtain rfl:l=[]:=h;exact h2
 | .u64::ks,k2,l,m,h,h2=>by obtain⟨x,r,rfl,h⟩:=h;exact⟨x,r++m,rfl,fits_append h h2⟩
 | .int k::ks,k2,l,m,h,h2=>by obtain⟨x,r,rfl,hb,h⟩:=h;exact⟨x,r++m,rfl,hb,fits_append h h2⟩
 | .bool::ks,k2,l,m,h,h2=>by obtain⟨x,r,rfl,h⟩:=h;exact⟨x,r++m,rfl,fits_append h h2⟩
theorem fits_len:∀ {ks:List FK} {l:List FV},fits ks l→l.length=ks.length
 |[],l,h=>by obtain rfl:l=[]:=h;rfl
 | .u64::ks,l,h=>by obtain⟨x,r,rfl,h⟩:=h;simp[fits_len h]
 | .int k::ks,l,h=>by obtain⟨x,r,rfl,hb,h⟩:=h;simp[fits_len h]
 | .bool::ks,l,h=>by obtain⟨x,r,rfl,h⟩:=h;simp[fits_len h]
section
variable {H:Type}{enc:TypeId×Value→H}{P:Program}{W:World}{base:Nat}{spare:Nat→Bool}{held:Bool}
theorem flatF_ok {r:TypeId→Option (List FK)}{n:Nat}(ih:∀ t ks cs x,r t=some ks→DataW.trod enc P W base spare held n t cs=some x→∃ l:List FV,cs=l.map FV.den∧fits ks l){cs:List Value}:
  ∀ (fs:List Field) (o:Nat) (ks:List FK),flatF P r fs o=some ks→(∀ (i:Nat) (f:Field),fs[i]? = some f→∃ x,DataW.trod enc P W base spare held n f.type ((cs.drop f.offset).take (P.cellsOf f.type))=some x)→
    o+ks.length=cs.length→∃ l:List FV,cs.drop o=l.map FV.den∧fits ks l
 |[],o,ks,h,_,hl=>by
  simp only[flatF,Option.some.injEq] at h
  subst h
  refine⟨[],?_,rfl⟩
  rw[List.drop_eq_nil_of_le (by simp at hl;omega)];rfl
 |f::fs,o,ks,h,hx,hl=>by
  unfold flatF at h
  split at h
  . rename_i k1 hk1
    split at h
    . rename_i hc
      split at h
      . rename_i k2 hk2
        simp only[Option.some.injEq] at h
        subst h
        rw[List.length_append] at hl
        obtain⟨x,hx0⟩:=hx 0 f rfl
        rw[hc.1,hc.2] at hx0
        obtain⟨l1,e1,f1⟩:=ih _ _ _ _ hk1 hx0
        obtain⟨l2,e2,f2⟩:=flatF_ok ih fs (o+k1.length) k2 hk2 (fun i g hg=>hx (i+1) g (by simpa using hg)) (by omega)
        refine⟨l1++l2,?_,fits_append f1 f2⟩
        rw[List.map_append,← e1,← e2,← List.drop_drop,List.take_append_drop]
      . cases h
    . cases h
  . cases h
theorem flatT_ok:∀ (m n:Nat) (t:TypeId) (ks:List FK) (cs:List Value) (x:DataW H×List MemPlace),flatT P m t=some ks→DataW.trod enc P W base spare held n t cs=some x→∃ l:List FV,cs=l.map FV.den∧fits ks l
 |0,_,_,_,_,_,h,_=>by cases h
 |m+1,n,t,ks,cs,x,h,hx=>by
  unfold flatT at h
  split at h
  . rename_i hu
    simp only[Option.some.injEq] at h;subst h
    obtain⟨N,rfl,_,h3⟩:=DataW.trod_int hu hx
    have h3':(decide ((0:Int)≤N)&&decide (N≤18446744073709551615))=true:=h3
    simp at h3'
    exact⟨[.u64 (BitVec.ofInt 64 N)],by simp only[List.map,FV.den];rw[uv_of 64 N (by omega) (by omega)],_,[],rfl,rfl⟩
  . rename_i k hk hu
    simp only[Option.some.injEq] at h;subst h
    obtain⟨N,rfl,_,h3⟩:=DataW.trod_int hu hx
    have h3':(decide (k.min≤N)&&decide (N≤k.max))=true:=h3
    simp only[Bool.and_eq_true,decide_eq_true_eq] at h3'
    exact⟨[.int k N],rfl,N,[],rfl,h3',rfl⟩
  . rename_i hu
    simp only[Option.some.injEq] at h;subst h
    obtain⟨b,rfl,_⟩:=DataW.trod_bool hu hx
    exact⟨[.bool b],rfl,b,[],rfl,rfl⟩
  . rename_i fs hu
    obtain⟨xs,n',rfl,_,hl,hxl,hf⟩:=DataW.trod_struct hu hx
    split at h
    . rename_i k1 h1
      split at h
      . rename_i hlen
        simp only[Option.some.injEq] at h;subst h
        have:=flatF_ok (cs:=cs) (fun t ks cs x=>flatT_ok m n' t ks cs x) fs.toList 0 k1 h1 (fun i f hfi=>by
         have hfi':fs[i]? = some f:=by simpa using hfi
         have hlt:i<xs.length:=by rw[hxl];exact(Array.getElem?_eq_some_iff.1 hfi').1
         exact⟨_,(hf i f hfi').trans (List.getElem?_eq_getElem hlt)⟩) (by rw[Nat.zero_add,hl,hlen])
        simpa using this
      . cases h
    . cases h
  . cases h
end
theorem fits_plain:∀ {ks:List FK} {l:List FV},fits ks l→∀ x∈l,x.den.oneCell'=true
 |[],l,h,x,hx=>by obtain rfl:l=[]:=h;cases hx
 | .u64::ks,l,h,x,hx=>by
   obtain⟨y,r,rfl,h⟩:=h
   cases hx with
   |head=>rfl
   |tail _ hx=>exact fits_plain h x hx
 | .int k::ks,l,h,x,hx=>by
   obtain⟨y,r,rfl,_,h⟩:=h
   cases hx with
   |head=>rfl
   |tail _ hx=>exact fits_plain h x hx
 | .bool::ks,l,h,x,hx=>by
   obtain⟨y,r,rfl,h⟩:=h
   cases hx with
   |head=>rfl
   |tail _ hx=>exact fits_plain h x hx
theorem fits_flat:∀ {ks:List FK} {l:List FV},fits ks l→l.all FV.flat=true
 |[],l,h=>by obtain rfl:l=[]:=h;rfl
 | .u64::ks,l,h=>by obtain⟨y,r,rfl,h⟩:=h;simp[FV.flat,fits_flat h]
 | .int k::ks,l,h=>by obtain⟨y,r,rfl,_,h⟩:=h;simp[FV.flat,fits_flat h]
 | .bool::ks,l,h=>by obtain⟨y,r,rfl,h⟩:=h;simp[FV.flat,fits_flat h]
theorem open_rows {H:Type}{enc:TypeId×Value→H}{P:Program}{W:World}{t e:TypeId}{base:Nat}{v:Value}{d:DataW H}{ps:List MemPlace}(m:Nat)(ks:List FK)
  (ht:P.underlying t=some (.slice e)) (hk:flatT P m e=some ks) (ce:P.cellsOf e=ks.length) (h0:ks.length≠0)
  (hok:Value.okWide P W .any base t v) (h:DataW.Trod enc P W 0 (fun _=>true) true t v d ps):
  ∃ (l:Option Loc) (len:Nat) (F:Nat→List FV),len<9223372036854775808∧(∀ i,fits ks (F i)∨len≤i)∧v=SV.den (at0 l) (.sl 0 ks.length 0 len)∧∀ g:Nat→List FV,(∀ i,i<len→g i=F i)→MRel ⟨W.heap.size,[],fun _=>False⟩ (at0 l) [.ro ks.length len g] W:=by
 obtain⟨fuel,h⟩:=h
 have hv:∃ a len cap,v = .slice a len cap∧∀ a',a=some a'→a'.spot=none:=by
  unfold Value.okWide at hok
  rw[ht] at hok
  unfold Cell.okWide at hok
  rw[ht] at hok
  cases v with
  |slice a len cap=>
   refine⟨a,len,cap,rfl,fun a' ha => ?_⟩
   subst ha
   have hok':Cell.ok P W .any base t (.slice (some a') len cap):=hok
   unfold Cell.ok at hok'
   rw[ht] at hok'
   exact hok'.2.2.2.1
  |_=>
   exfalso
   simp[Cell.ok,ht] at hok
 obtain⟨a,len,cap,rfl,hspot⟩:=hv
 rcases open_slice ht h with⟨hc,hx⟩ | ⟨a',len',cap',q,n,D,Pl,hc,_,hl,hm,hmm,hx,hall⟩
 . have hc':Value.slice a len cap = .slice none 0 0:=by
    have:=hc;simp[Value.cells] at this;simp[this]
   rw[hc']
   exact⟨none,0,fun _=>[],by omega,fun _=>.inr (Nat.zero_le _),rfl,fun g _=>single _ _ rfl (ro_flat (fun i hi=>absurd hi (Nat.not_lt_zero i)) ⟨fun _=>rfl,fun l hl=>by cases hl⟩)⟩
 . have hc':Value.slice a len cap = .slice (some a') len' cap':=by
    have:=hc;simp[Value.cells] at this;simp[this]
   obtain⟨rfl,rfl,rfl⟩:=Value.slice.inj hc'
   obtain⟨b,o,spot⟩:=a'
   obtain rfl:spot=none:=hspot _ rfl
   simp only[if_true] at hmm
   subst hmm
   have hmax:maxLen<9223372036854775808:=by decide
   have each:∀ i,i<q→∃ l:List FV,fits ks l∧∀ j x,l[j]? = some x→W.cell? ⟨b,o+i*ks.length+j,none⟩=some x.den:=by
    intro i hi
    obtain⟨cs,h1,h2⟩:=hall i hi
    obtain⟨l,rfl,hf⟩:=flatT_ok m n e ks cs _ hk h2
    rw[ce] at h1
    obtain⟨_,hlen,hcell⟩:=World.cells?_some h1
    refine⟨l,hf,fun j x hx => ?_⟩
    have hj:j<l.length:=(List.getElem?_eq_some_iff.1 hx).1
    have:=hcell j (by rw[← fits_len hf];exact hj)
    rw[add_plain,add_plain] at this
    rw[this,List.getElem?_map,hx];rfl
   obtain⟨F,hF⟩:=choose_lt each
   refine⟨some ⟨b,o,q,none,.inr rfl⟩,len,F,by omega,fun i => ?_,by simp[SV.den,at0],fun g hg=>single _ _ rfl (ro_flat (fun i hi => ?_) ⟨(by intro hn;cases hn),?_⟩)⟩
   . by_cases hi:i<len
     . exact .inl (hF i (by omega)).1
     . exact .inr (by omega)
   . rw[hg i hi];exact fits_flat (hF i (by omega)).1
   intro l hl2
   obtain rfl:(⟨b,o,q,none,.inr rfl⟩:Loc)=l:=Option.some.inj hl2
   refine⟨hl,fun hpos hmay => ?_,fun i hi => ?_⟩
   . rcases hmay with hx|hx
     . cases hx
     . have h3:W.heap.size≤b:=hx
       obtain⟨hf,hc0⟩:=hF 0 (by omega)
       have h4:=fits_len hf
       have:=hc0 0 _ (List.getElem?_eq_getElem (by omega))
       have:=World.block_lt_of_cell? W _ this
       have h2:b<W.heap.size:=this
       omega
   . obtain⟨hf,hc0⟩:=hF i (by omega)
     rw[hg i hi]
     exact⟨⟨fits_len hf,fun x hx=>fits_plain hf x hx⟩,hc0⟩
end Go.Sx
namespace Go.Sx
open Go.ChangeShapes Go.WideShapes Go.Deep Go.RowKit Go.Proofs.YtfjemlegodhfnaaGreat
section
variable {H:Type}{enc:TypeId×Value→H}{P:Program}{W:World}
theorem spot_of_cell' {a:Addr}{v:Value}(h:W.cell? a=some v):a.spot=none∧a.block<W.heap.size:=by
 refine⟨?_,World.block_lt_of_cell? W _ h⟩
 unfold World.cell? at h
 split at h
 . split at h
   . cases h
   . rename_i hs;simpa using hs
 . cases h
theorem cells_cell' {a:Addr}{n:Nat}{cs:List Value}(h:W.cells? 0 a n=some cs):cs.length=n∧∀ j,j<n→W.cell? (a.add j)=cs[j]? := by
 obtain⟨_,h1,h2⟩:=World.cells?_some h
 exact⟨h1,fun j hj=>h2 j (by omega)⟩
def locA' (a:Addr)(cap:Nat)(h:cap=0∨a.spot=none):Sx.Loc:=⟨a.block,a.off,cap,a.spot,h⟩
theorem add_at' {a:Addr}(h:a.spot=none)(k:Nat):a.add k=⟨a.block,a.off+k,none⟩:=by
 obtain⟨b,o,s⟩:=a
 subst h
 rw[add_plain]
@[reducible] def Low (W:World):Nat→Prop:=fun k=>k<W.heap.size
structure Reads {α:Type}(enc:TypeId×Value→H)(P:Program)(W:World)(ty:TypeId)(sz:Nat)(C:Cel α)(good:α→Bool):Prop where
 cells:P.cellsOf ty=sz
 pos:1≤sz
 bytes:1≤P.bytesOf ty
 read:∀ (n:Nat) (cs:List Value) (x:DataW H×List MemPlace),DataW.trod enc P W 0 (fun _=>true) true n ty cs=some x→∃ (u:α) (hs:List FV),cs=hs.map FV.den∧okG sz hs∧RepL (Low W) W (C.cel u) hs∧((∀ q∈x.1.weights P ty,q≤reachBytes)→good u=true)
theorem weightsAll_mem' {e:TypeId}:∀ {l:List (DataW H)} {d:DataW H},d∈l→∀ q∈d.weights P e,q∈DataW.weightsAll P e l
 |x::l,d,h,q,hq=>by
  rw[DataW.weightsAll]
  rcases List.mem_cons.1 h with rfl|h
  . exact List.mem_append_left _ hq
  . exact List.mem_append_right _ (weightsAll_mem' h q hq)
theorem rows_of {α:Type}{C:Cel α}{good:α→Bool}{tS e:TypeId}{sz:Nat}(hu:P.underlying tS=some (.slice e))(R:Reads enc P W e sz C good){n:Nat}{c:Value}{x:DataW H×List MemPlace}(h:DataW.trod enc P W 0 (fun _=>true) true n tS [c]=some x):
  ∃ L:List α,Rep (Low W) W (.row sz L.length (C.g L)) (.val c)∧((∀ q∈x.1.weights P tS,q≤reachBytes)→L.length≤140737488355328∧L.all good=true):=by
 have hpos:=R.pos
 rcases DataW.trod_slice hu h with⟨hc,hx⟩ | ⟨a,len,cap,elems,rest,n',hn',hc,hx,_,hl,hm,hlen,hel,hsp,_⟩
 . simp only[List.cons.injEq,and_true] at hc
   subst hc
   exact⟨[],.row (n:=0) none (fun _=>[]) (fun _=>rfl) (fun _ h=>by cases h) (fun _ h=>by cases h) (fun i hi=>absurd hi (Nat.not_lt_zero i)) (fun _ i _ _ h=>by cases h) (fun i hi=>absurd hi (Nat.not_lt_zero i)) (fun i _ _ _ hi=>absurd hi (Nat.not_lt_zero i)),fun _=>⟨Nat.zero_le _,rfl⟩⟩
 . simp only[List.cons.injEq,and_true] at hc
   subst hc
   obtain⟨hr1,hr2⟩:=hsp rfl
   have each:∀ i,i<len→∃ q:List FV×α,(∀ j,j<sz→W.cell? ((a.add (i*sz)).add j)=(q.1.map FV.den)[j]?)∧okG sz q.1∧RepL (Low W) W (C.cel q.2) q.1∧∃ d:DataW H,d∈elems.map (·.1)∧((∀ q∈d.weights P e,q≤reachBytes)→good q.2=true):=by
    intro i hi
    have:=hel i hi
    have hlt:i<elems.length:=by omega
    rw[R.cells,List.getElem?_eq_getElem hlt] at this
    obtain⟨cs,h1,h2⟩:=Option.bind_eq_some_iff.1 this
    obtain⟨_,h4⟩:=cells_cell' h1
    obtain⟨u,hs,rfl,e2,e3,e5⟩:=R.read n' cs _ h2
    exact⟨(hs,u),h4,e2,e3,_,List.mem_map_of_mem (List.getElem_mem hlt),e5⟩
   have first:0<cap→∃ v,W.cell? a=some v:=by
    intro h0
    by_cases hl0:0<len
    . obtain⟨q,h1,h2,_⟩:=each 0 hl0
      have h3:=h1 0 (by omega)
      have e:(a.add (0*sz)).add 0=a:=by simp[Addr.add]
      rw[e,List.getElem?_eq_getElem (by rw[List.length_map,h2.1];omega)] at h3
      exact⟨_,h3⟩
    . have:=hr2 0 (by omega)
      rw[R.cells,List.getElem?_eq_getElem (by omega)] at this
      obtain⟨cs,h1,h2⟩:=Option.bind_eq_some_iff.1 this
      obtain⟨h3,h4⟩:=cells_cell' h1
      have h5:=h4 0 (by omega)
      have e:len=0:=by omega
      subst e
      have e:(a.add ((0+0)*sz)).add 0=a:=by simp[Addr.add]
      rw[e,List.getElem?_eq_getElem (by omega)] at h5
      exact⟨_,h5⟩
   have spot:cap=0∨a.spot=none:=by
    rcases Nat.eq_zero_or_pos cap with h0|h0
    . exact .inl h0
    . obtain⟨v,hv⟩:=first h0
      exact .inr (spot_of_cell' hv).1
   have:Inhabited α:=⟨C.dft⟩
   obtain⟨f,hf⟩:=choose_lt each
   have hbl:((List.range len).map fun i=>(f i).2).length=len:=by simp
   have hget:∀ i,i<len→((List.range len).map fun i=>(f i).2).getD i C.dft=(f i).2:=fun i hi=>by simp[List.getD_eq_getElem?_getD,hi]
   refine⟨(List.range len).map fun i=>(f i).2,?_,fun hw => ?_⟩
   . have hv:(.val (.slice (some a) len cap):FV) = .val (rowV (some (locA' a cap spot)) len):=by
        unfold rowV locA'
        simp only[Option.map_some,Option.getD_some,Loc.sp0]
        by_cases hl0:len=0
        . rw[if_pos hl0]
        . rw[if_neg hl0]
          have:a.spot=none:=spot.resolve_left (by omega)
          rw[← this]
     rw[hv,hbl]
     refine .row _ (fun i=>(f i).1) (fun h=>by cases h) (fun k hk=>by obtain rfl:=Option.some.inj hk;exact hl) (fun k hk hp => ?_) (fun i hi=>(hf i hi).2.1) (fun k i j x hk hi hx => ?_) (fun i hi => ?_) (fun i j x y hi hx hy => ?_)
     . obtain rfl:=Option.some.inj hk
       obtain⟨v,hv⟩:=first (by omega)
       exact(spot_of_cell' hv).2
     . obtain rfl:=Option.some.inj hk
       obtain⟨h1,h2,_⟩:=hf i hi
       have hs:a.spot=none:=spot.resolve_left (by omega)
       have hj:j<sz:=by rw[← h2.1];exact(List.getElem?_eq_some_iff.1 hx).1
       have:=h1 j hj
       rw[add_add,add_at' hs,List.getElem?_map,hx] at this
       show W.cell? ⟨a.block,a.off+i*sz+j,none⟩=some x.den
       rw[Nat.add_assoc];exact this
     . have:=(hf i hi).2.2.1.1
       show(C.cel (((List.range len).map fun i=>(f i).2).getD i C.dft)).length=_
       rw[hget i hi];exact this
     . have hx':(C.cel (f i).2)[j]? = some x:=by
        rw[← hget i hi];exact hx
       exact(hf i hi).2.2.1.2 j x y hx' hy
   . rw[hx] at hw
     simp only[DataW.weights,hu] at hw
     have hw0:=hw _ (List.mem_cons_self ..)
     refine⟨?_,?_⟩
     . simp only[List.length_map,hlen] at hw0
       have h2:(len+rest.length)*1≤(len+rest.length)*P.bytesOf e:=Nat.mul_le_mul_left _ R.bytes
       unfold reachBytes at hw0
       rw[hbl]
       omega
     . rw[List.all_eq_true]
       intro t ht
       obtain⟨i,hi,rfl⟩:=List.mem_map.1 ht
       obtain⟨_,_,_,d,hd,hw'⟩:=hf i (List.mem_range.1 hi)
       exact hw' fun q hq=>hw q (List.mem_cons_of_mem _ (List.mem_append_left _ (weightsAll_mem' hd q hq)))
theorem fz_of_rep {z:Nat→Prop}{sz n:Nat}{g:Nat→List FV}{y:FV}(h:Rep z W (.row sz n g) y):∃ l:Option Loc,y = .val (rowV l n)∧∀ (B:Bd) (ρ:Val) (i:Nat),ρ i=l→ρ.z=z→(Blk.fz sz n g).ok B ρ i W:=by
 cases h with
 |flat hf=>cases hf
 |row l h h0 hc hz hg hcell hl hr=>
  refine⟨l,rfl,fun B ρ i hi hz'=>⟨h,fun k hk=>⟨hl k hk,fun j x y hx hy=>by rw[hz'];exact hr k j x y hk hx hy⟩,fun hn=>h0 (by rw[← hi];exact hn),fun k hk => ?_⟩⟩
  rw[hi] at hk
  exact⟨hc k hk,fun hp=>by rw[hz'];exact hz k hk hp,fun j hj=>⟨hg j hj,fun t x hx=>hcell k j t x hk hj hx⟩⟩
theorem reads_flat {α:Type}{C:Cel α}{ty:TypeId}{ks:List FK}(m:Nat)(hk:flatT P m ty=some ks)(hc:P.cellsOf ty=ks.length)(hp:1≤ks.length)(hb:1≤P.bytesOf ty)(hC:∀ l,fits ks l→∃ u,C.cel u=l):Reads enc P W ty ks.length C (fun _=>true):=by
 refine⟨hc,hp,hb,fun n cs x h => ?_⟩
 obtain⟨l,rfl,hf⟩:=flatT_ok m n ty ks cs x hk h
 obtain⟨u,hu⟩:=hC l hf
 exact⟨u,l,rfl,⟨fits_len hf,fun x hx=>fits_plain hf x hx⟩,by rw[hu];exact RepL.refl (fits_flat hf),fun _=>rfl⟩
theorem agg_of {base:Nat}{t:TypeId}{v:Value}{fs:Array Field}(hu:P.underlying t=some (.struct fs))(h:Value.okWide P W .any base t v):∃ cs,v = .agg cs∧v.cells=cs:=by
 unfold Value.okWide at h
 rw[hu] at h
 obtain⟨cs,rfl,_⟩:=h
 exact⟨cs,rfl,rfl⟩
theorem slice_cells' {base:Nat}{t e:TypeId}{v:Value}(hu:P.underlying t=some (.slice e))(h:Value.okWide P W .any base t v):v.cells = #[v]:=by
 unfold Value.okWide at h
 rw[hu] at h
 unfold Cell.okWide at h
 rw[hu] at h
 cases v with
 |slice a l c=>rfl
 |_=>exfalso;simp[Cell.ok,hu] at h
theorem rowV_one (l:Option Loc)(n:Nat):(rowV l n).oneCell'=true:=rfl
theorem rep_one {z:Nat→Prop}{sz n:Nat}{g:Nat→List FV}{c:Value}(h:Rep z W (.row sz n g) (.val c)):c.oneCell'=true:=by
 cases h with
 |row l=>rfl
theorem repL_cons {z:Nat→Prop}{x y:FV}{l m:List FV}(h:Rep z W x y)(t:RepL z W l m):RepL z W (x::l) (y::m):=⟨by simp[t.1],fun j a b ha hb=>by
 cases j with
 |zero=>
  simp only[List.getElem?_cons_zero,Option.some.injEq] at ha hb
  subst ha hb;exact h
 |succ j=>exact t.2 j a b (by simpa using ha) (by simpa using hb)⟩
theorem repL_nil {z:Nat→Prop}:RepL z W [] []:=⟨rfl,fun j a b ha hb=>by simp at ha⟩
end
end Go.Sx
