import Derived.Test.YtfjemlegodhfnaaGreatM21
import Derived.Test.YtfjemlegodhfnaaGreatM53
import Derived.Handed
import Derived.WideWitness
import Derived.Test.YtfjemlegodhfnaaGreatM39
set_option linter.all false
namespace Go.Proofs.YtfjemlegodhfnaaGreat
open Go.RowKit Go.Sx
set_option maxRecDepth 100000
set_option maxHeartbeats 4000000
def kA:List FK:=[.int .u8,.u64,.u64,.u64,.u64,.int .i64,.int .i64,.int .i64,.int .i64,.int .i64,.int .i64,.bool]
def kS:List FK:=.bool :: .int .u8::kA
def reps (ks:List FK):Nat→List FK
 |0=>[]
 |n+1=>ks++reps ks n
def kF:List FK:=reps kA 11++(reps kS 64++[.int .i64])
theorem fits_append:∀ {a b:List FK} {l:List FV},fits (a++b) l→∃ x y,l=x++y∧fits a x∧fits b y
 |[],_,l,h=>⟨[],l,rfl,rfl,h⟩
 | .u64::ks,b,l,h=>by
   obtain⟨x,r,rfl,hr⟩:=h
   obtain⟨y,z,rfl,h1,h2⟩:=fits_append hr
   exact⟨_::y,z,rfl,⟨x,y,rfl,h1⟩,h2⟩
 | .int k::ks,b,l,h=>by
   obtain⟨x,r,rfl,hx,hr⟩:=h
   obtain⟨y,z,rfl,h1,h2⟩:=fits_append hr
   exact⟨_::y,z,rfl,⟨x,y,rfl,hx,h1⟩,h2⟩
 | .bool::ks,b,l,h=>by
   obtain⟨x,r,rfl,hr⟩:=h
   obtain⟨y,z,rfl,h1,h2⟩:=fits_append hr
   exact⟨_::y,z,rfl,⟨x,y,rfl,h1⟩,h2⟩
theorem fits_kA {x:List FV}(h:fits kA x):∃ a:Ab,x=eA.enc a∧inA a=true:=by
 obtain⟨k,_,rfl,_,v,_,rfl,m,_,rfl,lo,_,rfl,hi,_,rfl,sl,_,rfl,h1,sh,_,rfl,h2,of,_,rfl,_,mp,_,rfl,_,id,_,rfl,_,rm,_,rfl,_,nu,_,rfl,rfl⟩:=h
 refine⟨⟨k,⟨⟨v,m⟩,⟨lo,hi,sl,sh⟩⟩,of,mp,id,rm,nu⟩,rfl,?_⟩
 exact S.inS_iff.2 ⟨⟨h1.1,h1.2⟩,⟨h2.1,h2.2⟩⟩
theorem fits_kS {x:List FV}(h:fits kS x):∃ s:Sl,x=eS.enc s∧inA s.a=true:=by
 obtain⟨w,_,rfl,st,_,rfl,_,h⟩:=h
 obtain⟨a,rfl,ha⟩:=fits_kA h
 exact⟨⟨w,st,a⟩,rfl,ha⟩
theorem fits_reps {α:Type}(e:Enc α)(ok:α→Bool){ks:List FK}(h1:∀ x,fits ks x→∃ a,x=e.enc a∧ok a=true):∀ n l,fits (reps ks n) l→∃ L:List α,L.length=n∧L.all ok=true∧l=L.flatMap e.enc
 |0,l,h=>⟨[],rfl,rfl,h⟩
 |n+1,l,h=>by
  obtain⟨x,y,rfl,hx,hy⟩:=fits_append h
  obtain⟨a,rfl,ha⟩:=h1 x hx
  obtain⟨L,hl,hL,rfl⟩:=fits_reps e ok h1 n y hy
  exact⟨a::L,by simp[hl],by simp[ha,hL],by simp⟩
theorem fixL_len:∀ {sz:Nat} {l:List FV},l.length=sz→fixL sz l=l.map FV.cel
 |0,[],_=>rfl
 |n+1,x::l,h=>by rw[fixL,fixL_len (sz:=n) (l:=l) (by simpa using h)];rfl
 |0,_::_,h=>by cases h
 |n+1,[],h=>by cases h
theorem arrL_gOf {α:Type}(e:Enc α){sz:Nat}(he:∀ a,(e.enc a).length=sz):∀ (L:List α),arrL L.length sz (gOf e L)=(L.flatMap e.enc).map FV.cel
 |[]=>rfl
 |a::L=>by
  have ih:=arrL_gOf e he L
  unfold arrL at *
  rw[List.length_cons,List.range_succ_eq_map,List.flatMap_cons,List.flatMap_cons,List.map_append,← ih,List.flatMap_map]
  show fixL sz (e.enc a)++_=_
  rw[fixL_len (he a)]
  rfl
theorem abs_cel (L:List Ab):(L.flatMap eA.enc).map FV.cel=(L.flatMap eA.enc).map FV.den:=by
 induction L with
 |nil=>rfl
 |cons a L ih=>rw[List.flatMap_cons,List.map_append,List.map_append,ih];rfl
theorem slots_cel (L:List Sl):(L.flatMap eS.enc).map FV.cel=(L.flatMap eS.enc).map FV.den:=by
 induction L with
 |nil=>rfl
 |cons a L ih=>rw[List.flatMap_cons,List.map_append,List.map_append,ih];rfl
theorem open_fr {l:List FV}(h:fits kF l):∃ f:Fr,f.wf∧∀ ρ:Val,Value.agg (l.map FV.den).toArray=(frv f).den ρ:=by
 obtain⟨x,y,rfl,hx,hy⟩:=fits_append h
 obtain⟨y,z,rfl,hy,hz⟩:=fits_append hy
 obtain⟨R,hR,hRo,rfl⟩:=fits_reps eA inA (fun _=>fits_kA) 11 x hx
 obtain⟨S,hS,hSo,rfl⟩:=fits_reps eS (fun s=>inA s.a) (fun _=>fits_kS) 64 y hy
 obtain⟨ids,_,rfl,_,rfl⟩:=hz
 refine⟨⟨R,S,ids⟩,⟨hR,hS,hRo,hSo⟩,fun ρ => ?_⟩
 have h1:=arrL_gOf eA (sz:=12) (fun _=>rfl) R
 have h2:=arrL_gOf eS (sz:=14) (fun _=>rfl) S
 rw[hR] at h1
 rw[hS] at h2
 rw[abs_cel] at h1
 rw[slots_cel] at h2
 simp only[SV.den,mixL,itemL,denL,h1,h2,List.map_append]
 rfl
theorem open_frame {W:World}{base:Nat}{v:Value}(h:Value.okWide Tryz.prog W .any base 37 v):∃ f:Fr,f.wf∧∀ ρ:Val,v=(frv f).den ρ:=by
 obtain⟨l,rfl,hl⟩:=open_flat kF (by kernel_rfl) h
 exact open_fr hl
theorem fits_uncons {k:FK}{ks:List FK}{l:List FV}(h:fits (k::ks) l):∃ x r,l=x::r∧fits [k] [x]∧fits ks r:=by
 cases k with
 |u64=>obtain⟨x,r,rfl,hr⟩:=h;exact⟨_,r,rfl,⟨x,[],rfl,rfl⟩,hr⟩
 |int k=>obtain⟨x,r,rfl,hx,hr⟩:=h;exact⟨_,r,rfl,⟨x,[],rfl,hx,rfl⟩,hr⟩
 |bool=>obtain⟨x,r,rfl,hr⟩:=h;exact⟨_,r,rfl,⟨x,[],rfl,rfl⟩,hr⟩
theorem fk_cell {P:Program}{W:World}{base:Nat}{t:TypeId}{k:FK}{x:FV}(hk:k.is P t=true)(hf:fits [k] [x]):Cell.okWide P W .any base t x.den:=by
 unfold FK.is at hk
 split at hk
 . rename_i hu
   obtain⟨y,r,e,_⟩:=hf
   obtain⟨rfl,_⟩:=List.cons.inj e
   unfold Cell.okWide
   rw[hu]
   show Cell.ok P W .any base t (.int .u64 (uv y))
   unfold Cell.ok
   rw[hu]
   have:=uv_lt y
   exact⟨rfl,uv_nonneg y,by show uv y≤18446744073709551615;omega⟩
 . rename_i k k' hu
   obtain rfl:k=k':=by simpa using hk
   obtain⟨y,r,e,hy,_⟩:=hf
   obtain⟨rfl,_⟩:=List.cons.inj e
   unfold Cell.okWide
   rw[hu]
   show Cell.ok P W .any base t (.int k y)
   unfold Cell.ok
   rw[hu]
   exact⟨rfl,hy.1,hy.2⟩
 . rename_i hu
   obtain⟨y,r,e,_⟩:=hf
   obtain⟨rfl,_⟩:=List.cons.inj e
   unfold Cell.okWide
   rw[hu]
   show Cell.ok P W .any base t (.bool y)
   unfold Cell.ok
   rw[hu]
   trivial
 . cases hk
theorem fks_cells {P:Program}{W:World}{base:Nat}:∀ (ks:List FK) (ts:List TypeId) (l:List FV),fksB P ks ts=true→fits ks l→l.length=ts.length∧∀ (i:Nat) (v:Value),(l.map FV.den)[i]? = some v→∃ u,ts[i]? = some u∧Cell.okWide P W .any base u v
 |[],[],l,_,hf=>by
  obtain rfl:l=[]:=hf
  exact⟨rfl,fun i v h=>by simp at h⟩
 |k::ks,t::ts,l,hb,hf=>by
  simp only[fksB,Bool.and_eq_true] at hb
  obtain⟨x,r,rfl,h1,h2⟩:=fits_uncons hf
  obtain⟨g1,g2⟩:=fks_cells (W:=W) (base:=base) ks ts r hb.2 h2
  refine⟨by simp[g1],fun i v hv => ?_⟩
  cases i with
  |zero=>
   obtain rfl:x.den=v:=by simpa using hv
   exact⟨t,rfl,fk_cell hb.1 h1⟩
  |succ i=>exact g2 i v (by simpa using hv)
 |[],_::_,_,hb,_=>by cases hb
 |_::_,[],_,hb,_=>by cases hb
theorem flat_okWide {P:Program}{W:World}{base:Nat}{t:TypeId}(ks:List FK)(hk:flatB P t ks=true){l:List FV}(hf:fits ks l):Value.okWide P W .any base t (.agg (l.map FV.den).toArray):=by
 unfold flatB at hk
 simp only[Bool.and_eq_true,decide_eq_true_eq] at hk
 obtain⟨⟨h1,h2⟩,h3⟩:=hk
 split at h3
 . rename_i ts hts
   have hl:=fksB_len h3
   obtain⟨g1,g2⟩:=fks_cells (W:=W) (base:=base) ks ts l h3 hf
   have hrow:∃ cs,Value.agg (l.map FV.den).toArray = .agg cs∧cs.size=P.cellsOf t∧Row.okWide P W .any base t cs:=by
    refine⟨_,rfl,by simp;omega,ts,hts,⟨1,by simp;omega⟩,fun i v hv => ?_⟩
    have hi:i<ts.length:=by
        have:=(Array.getElem?_eq_some_iff.1 hv).1
        simp at this
        omega
    rw[Nat.mod_eq_of_lt hi]
    exact g2 i v (by simpa using hv)
   unfold Value.okWide
   split at h1
   . rename_i hu;rw[hu];exact hrow
   . rename_i hu;rw[hu];exact hrow
   . cases h1
 . cases h3
def zfv:FK→FV
 | .u64=>.u64 0
 | .int k=>.int k 0
 | .bool=>.bool false
theorem fits_zero:∀ ks:List FK,fits ks (ks.map zfv)
 |[]=>rfl
 | .u64::ks=>⟨0,_,rfl,fits_zero ks⟩
 | .int k::ks=>⟨0,_,rfl,by cases k<;>exact⟨by decide,by decide⟩,fits_zero ks⟩
 | .bool::ks=>⟨false,_,rfl,fits_zero ks⟩
def zeroFr:Value:=.agg ((kF.map zfv).map FV.den).toArray
theorem wit_fr {W:World}{base:Nat}:Value.okWide Tryz.prog W .any base 37 zeroFr:=flat_okWide kF (by kernel_rfl) (fits_zero kF)
theorem witness6w {H:Type}{enc:TypeId×Value→H}{C:Checked}{os:Os}{f:FuncId}{fn:Func}{s:ChangeSpec}{conds:List PathCond}{apart:Bool}(modest:Bool)(i:Input)(fuel:Nat)
  (hv:(World.plainHolding C.prog os i).variablesB C.prog=true)
  (hr:((World.plainHolding C.prog os i).heap.toList.drop C.prog.globals.size).take ((begin C.prog (fun _ _=>0) default).world.heap.size-C.prog.globals.size) =
    (begin C.prog (fun _ _=>0) default).world.heap.toList.drop C.prog.globals.size)
  (hok:∀ base,Input.okWide C.prog (World.plainHolding C.prog os i) .any base f ⟨#[],i.args,[]⟩)
  (hpre:s.preB enc C.prog fn conds apart (World.plainHolding C.prog os i).memory i.args fuel=true)
  (hsz:s.sizedB enc C.prog fn apart (World.plainHolding C.prog os i).memory i.args fuel=true):
  ∃ (w:World) (tape:Tape) (i:Input),w.os=os∧(w.forCall tape i).Shaped C.prog∧i.vars=[]∧Input.okWide C.prog (w.forCall tape i) .any w.heap.size f i∧
    s.pre6 enc C.prog fn conds apart (w.forCall tape i).memory i.args∧({modest:=modest}:Assume).holds C.prog (lone (Frame.enter C.prog f i.args .normal) [] (w.forCall tape i)):=
 ⟨World.holding C.prog os i,fun _ _=>0,⟨#[],i.args,[]⟩,rfl,World.shaped_of_B hv hr,rfl,hok _,⟨ChangeSpec.pre_of_preB hpre,sizedMet_of_sizedB hsz⟩,by
   simp only[Assume.holds]
   exact⟨by simp,by simp,fun _=>Modest.zero,by simp,by simp⟩⟩
open Go.ChangeShapes Go.WideShapes Go.Deep
section
variable {H:Type}{enc:TypeId×Value→H}{W:World}
theorem ty_P:∃ f0 f1 f2 f3 f4 f5:Field,Tryz.prog.underlying 41=some (.struct #[f0,f1,f2,f3,f4,f5])∧(f0.offset=0∧f1.offset=1∧f2.offset=2∧f3.offset=3∧f4.offset=4∧f5.offset=5)∧(Tryz.prog.cellsOf f0.type=1∧Tryz.prog.cellsOf f1.type=1∧Tryz.prog.cellsOf f2.type=1∧Tryz.prog.cellsOf f3.type=1∧Tryz.prog.cellsOf f4.type=1∧Tryz.prog.cellsOf f5.type=1)∧
  Tryz.prog.underlying f0.type=some .string∧Tryz.prog.underlying f1.type=some (.int .i64)∧f2.type=38∧f3.type=39∧Tryz.prog.underlying f4.type=some (.int .i64)∧Tryz.prog.underlying f5.type=some (.int .i64):=
 ⟨_,_,_,_,_,_,Tryz.underlying41,⟨rfl,rfl,rfl,rfl,rfl,rfl⟩,⟨by kernel_rfl,by kernel_rfl,by kernel_rfl,by kernel_rfl,by kernel_rfl,by kernel_rfl⟩,by kernel_rfl,by kernel_rfl,rfl,rfl,by kernel_rfl,by kernel_rfl⟩
theorem reads_F:Reads enc Tryz.prog W 64 4 cF (fun _=>true):=
 reads_flat (ks:=[.int .i64,.int .i64,.int .u8,.bool]) 4 (by kernel_rfl) (by kernel_rfl) (by decide) (by decide +kernel) fun l h=>by
  obtain⟨a,m0,rfl,_,b,m1,rfl,_,c,m2,rfl,_,d,m3,rfl,rfl⟩:=h
  exact⟨⟨a,b,c,d⟩,rfl⟩
theorem reads_N:Reads enc Tryz.prog W 213 3 cN (fun _=>true):=
 reads_flat (ks:=[.int .i64,.int .i64,.int .i64]) 4 (by kernel_rfl) (by kernel_rfl) (by decide) (by decide +kernel) fun l h=>by
  obtain⟨a,m0,rfl,_,b,m1,rfl,_,c,m2,rfl,_,rfl⟩:=h
  exact⟨⟨a,b,c⟩,rfl⟩
theorem open_P {n:Nat}{cs:List Value}{x:DataW H×List MemPlace}(h:DataW.trod enc Tryz.prog W 0 (fun _=>true) true n 41 cs=some x):
  ∃ (nm:ByteArray) (cx lo hi:Int) (fl:List Fd) (ns:List Nd) (v2 v3:Value),cs=[.string nm,.int .i64 cx,v2,v3,.int .i64 lo,.int .i64 hi]∧Rep (Low W) W (.row 4 fl.length (cF.g fl)) (.val v2)∧Rep (Low W) W (.row 3 ns.length (cN.g ns)) (.val v3)∧
    ((∀ q∈x.1.weights Tryz.prog 41,q≤reachBytes)→nm.size≤140737488355328∧fl.length≤140737488355328∧ns.length≤140737488355328):=by
 obtain⟨f0,f1,f2,f3,f4,f5,hu,⟨o0,o1,o2,o3,o4,o5⟩,⟨c0,c1,c2,c3,c4,c5⟩,u0,u1,t2,t3,u4,u5⟩:=ty_P
 obtain⟨xs,n',rfl,rfl,hl,hxl,hf⟩:=DataW.trod_struct hu h
 rw[show Tryz.prog.cellsOf 41=6 by kernel_rfl] at hl
 match cs,hl with
 |[v0,v1,v2,v3,v4,v5],_=>
 have hxl':xs.length=6:=hxl
 match xs,hxl' with
 |[y0,y1,y2,y3,y4,y5],_=>
 have g0:=hf 0 f0 rfl
 have g1:=hf 1 f1 rfl
 have g2:=hf 2 f2 rfl
 have g3:=hf 3 f3 rfl
 have g4:=hf 4 f4 rfl
 have g5:=hf 5 f5 rfl
 rw[o0,c0] at g0;rw[o1,c1] at g1;rw[o2,c2,t2] at g2;rw[o3,c3,t3] at g3;rw[o4,c4] at g4;rw[o5,c5] at g5
 obtain⟨nm,e0,x0,_⟩:=DataW.trod_string u0 g0
 obtain⟨k1,e1,_⟩:=DataW.trod_int u1 g1
 obtain⟨k4,e4,_⟩:=DataW.trod_int u4 g4
 obtain⟨k5,e5,_⟩:=DataW.trod_int u5 g5
 simp only[List.drop_zero,List.take_succ_cons,List.take_zero,List.drop_succ_cons,List.cons.injEq,and_true] at e0 e1 e4 e5
 subst e0 e1 e4 e5
 obtain⟨fl,hfl,hwf⟩:=rows_of (tS:=38) (e:=64) (by kernel_rfl) reads_F g2
 obtain⟨ns,hns,hwn⟩:=rows_of (tS:=39) (e:=213) (by kernel_rfl) reads_N g3
 refine⟨nm,k1,k4,k5,fl,ns,v2,v3,rfl,hfl,hns,fun hq => ?_⟩
 simp only[List.map_cons,List.map_nil,DataW.weights,hu,DataW.weightsEach,t2,t3,x0] at hq
 have h1:=(hwf fun q h=>hq q (by simp[h])).1
 have h2:=(hwn fun q h=>hq q (by simp[h])).1
 have h3:=hq nm.data.toList.length (List.mem_append_left _ (List.mem_singleton.2 rfl))
 unfold reachBytes at h3
 have h4:nm.data.toList.length=nm.size:=by rw[Array.length_toList];rfl
 exact⟨by omega,h1,h2⟩
theorem reads_M:Reads enc Tryz.prog W 67 4 cM (fun _=>true):=
 reads_flat (ks:=[.int .u8,.int .i64,.int .i64,.int .i64]) 4 (by kernel_rfl) (by kernel_rfl) (by decide) (by decide +kernel) fun l h=>by
  obtain⟨a,m0,rfl,_,b,m1,rfl,_,c,m2,rfl,_,d,m3,rfl,_,rfl⟩:=h
  exact⟨⟨a,b,c,d⟩,rfl⟩
end
theorem returns_sized {H:Type}{enc:TypeId×Value→H}{a:Assume}{C:Checked}{os:Os}{f:FuncId}{fn:Func}{s:ChangeSpec}{conds:List PathCond}{apart fresh handsOn again:Bool}
  (own:ownKnob C.prog.godebug=none) (started:os.Started) (noInit:C.prog.inits.idxOf? f=none) (hfn:C.prog.funcs[f]? = some fn)
  (witness:∃ (w:World) (tape:Tape) (i:Input),w.os=os∧(w.forCall tape i).Shaped C.prog∧i.vars=[]∧Input.okWide C.prog (w.forCall tape i) .any w.heap.size f i∧
    s.pre6 enc C.prog fn conds apart (w.forCall tape i).memory i.args∧a.holds C.prog (lone (Frame.enter C.prog f i.args .normal) [] (w.forCall tape i)))
  (contract:∀ (W:World) (base:Nat) (args:Array Value) (ds gs:List (DataW H)) (before:List MemPlace),
    (∀ (j:Nat) t v,fn.params[j]? = some t→args[j]? = some v→Value.okWide C.prog W .any base t v)→
    DataW.Whole enc C.prog fn.params.toList s.vars apart W args.toList ds gs before→
    (∀ q∈DataW.weightsEach C.prog (fn.params.toList++s.plain.varTypes C.prog) (ds++gs),q≤reachBytes)→
    Calls C.prog f args W fun e W'=>∃ v,e = .returned v∧s.post enc C.prog fn apart fresh handsOn again W args v W'):
  ReturnsInHanded a C os f .any (s.pre6 enc C.prog fn conds apart) (s.post enc C.prog fn apart fresh handsOn again):=by
 refine returnsInHanded_of_calls own started noInit witness fun w tape i _ _ _ hok hpre _ => ?_
 obtain⟨_,_,_,fn',hfn',_,_,_,_,hval⟩:=hok
 obtain rfl:fn'=fn:=Option.some.inj (hfn'.symm.trans hfn)
 obtain⟨⟨ds,gs,before,hw,_⟩,hz⟩:=hpre
 have hq:=hz.weights hw
 refine(contract (w.forCall tape i) w.heap.size i.args ds gs before hval (DataW.Whole.of_heap (w':=w.forCall tape i) (by rfl) hw) fun q hq' => ?_).mono fun e W' ⟨v,he,hp⟩ => ?_
 . have:=List.all_eq_true.1 hq q hq'
   simpa using this
 . subst he
   exact ChangeSpec.post_blind hp
end Go.Proofs.YtfjemlegodhfnaaGreat
