import Derived.Test.YtfgkhenhlpoheaaGreatM18
set_option linter.all false
namespace Go.Proofs.YtfgkhenhlpoheaaGreat
open Go.RowKit Go.Sx
set_option maxRecDepth 100000
set_option maxHeartbeats 4000000
theorem S.and_true2 {a b:Bool}(h:(a&&b)=true):a=true∧b=true:=by simpa using h
namespace V
def counts (a:Ab):Bool:=a.k==1||(a.k==4||(a.k==7||a.k==8))
def alike (a b:Ab):Bool:=a.k==b.k&&(a.of==b.of&&(a.mp==b.mp&&(a.k != 8||a.rm==b.rm)))
def leq (a b:Ab):Bool:=
 if right a&&right b then
    if b.k==0 then true
    else if alike a b&&((!counts a||C.leq a.n b.n)&&(!a.nu||b.nu)) then (a.k != 4||(decide (b.rm≤a.rm)&&(decide (0<b.id)||a.id==0)))
    else false
 else false
def number (n:Sc):Ab:=if C.right n then ⟨1,n,0,0,0,0,false⟩ else zero
end V
attribute [local irreducible] V.right C.leq C.right R.inS
def k_vNumber:List SV→List Blk→Res:=fun args _=>match args with
 |[.agg [.u64 nv,.u64 nm,.u64 nlo,.u64 nhi,.int .i64 nsl,.int .i64 nsh]]=>.test (R.inS ⟨nlo,nhi,nsl,nsh⟩) (.ok (abv (V.number (⟨⟨nv,nm⟩,⟨nlo,nhi,nsl,nsh⟩⟩:Sc))) [])
 |_=>.fail
theorem k_vNumber_ok:CtrOk Tryz.prog Gw 37 k_vNumber:=by
 refine⟨fun _ _=>by kernel_rfl,fun args M => ?_⟩
 unfold k_vNumber
 split
 . rename_i nv nm nlo nhi nsl nsh
   intro ht
   refine ctr_flat (Γ:=⟨[(83,k_cRight)],eqs,[],[],[],mixs,meqs,[]⟩) (sv:=abv (V.number (⟨⟨nv,nm⟩,⟨nlo,nhi,nsl,nsh⟩⟩:Sc))) st_Gw ⟨(okCons k_cRight_ok okNil),eqs_ok,okNilB,okNilI,okNilP,mixs_ok,meqs_ok,okNilY⟩ Tryz.func37 rfl mixed [] (by kernel_rfl) 10000 (by rfl) ?_
   (conv=>whnf)
   (repeat' (first | (refine step_t (by first|rfl|assumption) ?_;(conv=>whnf)) | (refine step_f (by first|rfl|assumption) ?_;(conv=>whnf)) | (refine step_nt (by assumption) ?_;(conv=>whnf)) | (refine step_nf (by assumption) ?_;(conv=>whnf)) | (refine step_n (fun hb => ?_) (fun hb => ?_)<;>(first|contradiction | (conv=>whnf))) | (refine And.intro (fun hb => ?_) (fun hb => ?_)<;>(first|contradiction | (conv=>whnf))) | (refine And.intro (a:=(_:Bool)=true) ?_ ?_;rotate_left 1;(conv=>whnf))))
   all_goals (first|rfl|trivial|assumption | (simp_all [eqv,eqv1,eqv2,eqvL1,eqvL2,V.number,V.zero,V.zs];done) | (simp_all [eqv,eqv1,eqv2,eqvL1,eqvL2,V.number,V.zero,V.zs];intros;omega))
 . trivial
attribute [local irreducible] V.counts V.alike
end Go.Proofs.YtfgkhenhlpoheaaGreat
namespace Go.Proofs.YtfgkhenhlpoheaaGreat
open Go.RowKit Go.Sx
set_option maxRecDepth 100000
set_option maxHeartbeats 4000000
attribute [local irreducible] V.near V.right R.inS
def k_vTouch:List SV→List Blk→Res:=fun args _=>match args with
 |[.agg [.int .u8 ak,.u64 av,.u64 am,.u64 alo,.u64 ahi,.int .i64 asl,.int .i64 ash,.int .i64 aof,.int .i64 amp,.int .i64 aid,.int .i64 arm,.bool anu],.int .i64 off,.int .i64 size,.agg [.int .u8 mk,.int .i64 mkey,.int .i64 mval,.int .i64 mmax]]=>.test (R.inS ⟨alo,ahi,asl,ash⟩) (.ok (.int .i64 (V.touch (⟨ak,(⟨⟨av,am⟩,⟨alo,ahi,asl,ash⟩⟩:Sc),aof,amp,aid,arm,anu⟩:Ab) off size mval)) [])
 |_=>.fail
theorem k_vTouch_ok:CtrOk Tryz.prog Gw 72 k_vTouch:=by
 refine⟨fun _ _=>by kernel_rfl,fun args M => ?_⟩
 unfold k_vTouch
 split
 . rename_i ak av am alo ahi asl ash aof amp aid arm anu off size mk mkey mval mmax
   intro ht
   refine ctr_flat (Γ:=⟨[(114,k_vRight),(122,k_vnear),(123,k_vhas)],eqs,[],[],[],mixs,meqs,[]⟩) (sv:=.int .i64 (V.touch (⟨ak,(⟨⟨av,am⟩,⟨alo,ahi,asl,ash⟩⟩:Sc),aof,amp,aid,arm,anu⟩:Ab) off size mval)) st_Gw ⟨(okCons k_vRight_ok (okCons k_vnear_ok (okCons k_vhas_ok okNil))),eqs_ok,okNilB,okNilI,okNilP,mixs_ok,meqs_ok,okNilY⟩ Tryz.func72 rfl mixed [(6,9,[0,1,0,7,0,16,0,112,15,511]),(8,15,[0,0,2,6,14,30,63,0,0,256,768,1792,3840,8064,127,32767])] (by kernel_rfl) 10000 (by rfl) ?_
   (conv=>whnf)
   (repeat' (first | (refine step_t (by first|rfl|assumption) ?_;(conv=>whnf)) | (refine step_f (by first|rfl|assumption) ?_;(conv=>whnf)) | (refine step_nt (by assumption) ?_;(conv=>whnf)) | (refine step_nf (by assumption) ?_;(conv=>whnf)) | (refine step_n (fun hb => ?_) (fun hb => ?_)<;>(first|contradiction | (conv=>whnf))) | (refine And.intro (fun hb => ?_) (fun hb => ?_)<;>(first|contradiction | (conv=>whnf))) | (refine And.intro (a:=(_:Bool)=true) ?_ ?_;rotate_left 1;(conv=>whnf))))
   all_goals (first|rfl|trivial|assumption | (simp_all [eqv,eqv1,eqv2,eqvL1,eqvL2,V.touch,V.over];done) | (simp_all [eqv,eqv1,eqv2,eqvL1,eqvL2,V.touch,V.over];intros;omega))
 . trivial
end Go.Proofs.YtfgkhenhlpoheaaGreat
namespace Go.Proofs.YtfgkhenhlpoheaaGreat
open Go.RowKit Go.Sx
set_option maxRecDepth 100000
set_option maxHeartbeats 4000000
structure Sl where
 w:Bool
 st:Int
 a:Ab
structure Fr where
 R:List Ab
 S:List Sl
 ids:Int
@[reducible] def abL (a:Ab):List FV:=[.int .u8 a.k,.u64 a.n.t.v,.u64 a.n.t.m,.u64 a.n.s.lo,.u64 a.n.s.hi,.int .i64 a.n.s.sl,.int .i64 a.n.s.sh,.int .i64 a.of,.int .i64 a.mp,.int .i64 a.id,.int .i64 a.rm,.bool a.nu]
@[reducible] def slL (s:Sl):List FV:=[.bool s.w,.int .u8 s.st,.int .u8 s.a.k,.u64 s.a.n.t.v,.u64 s.a.n.t.m,.u64 s.a.n.s.lo,.u64 s.a.n.s.hi,.int .i64 s.a.n.s.sl,.int .i64 s.a.n.s.sh,.int .i64 s.a.of,.int .i64 s.a.mp,.int .i64 s.a.id,.int .i64 s.a.rm,.bool s.a.nu]
def eA:Enc Ab:=⟨abL,fun l=>match l with | [.int .u8 k,.u64 v,.u64 m,.u64 lo,.u64 hi,.int .i64 sl,.int .i64 sh,.int .i64 of,.int .i64 mp,.int .i64 id,.int .i64 rm,.bool nu]=>⟨k,⟨⟨v,m⟩,⟨lo,hi,sl,sh⟩⟩,of,mp,id,rm,nu⟩|_=>V.zero,
 fun l=>match l with | [.int .u8 _,.u64 _,.u64 _,.u64 _,.u64 _,.int .i64 _,.int .i64 _,.int .i64 _,.int .i64 _,.int .i64 _,.int .i64 _,.bool _]=>true|_=>false,V.zero,
 fun l h=>by revert h;split<;>simp_all,fun _=>rfl,fun _=>rfl⟩
def noSl:Sl:=⟨false,0,V.zero⟩
def eS:Enc Sl:=⟨slL,fun l=>match l with | [.bool w,.int .u8 st,.int .u8 k,.u64 v,.u64 m,.u64 lo,.u64 hi,.int .i64 sl,.int .i64 sh,.int .i64 of,.int .i64 mp,.int .i64 id,.int .i64 rm,.bool nu]=>⟨w,st,⟨k,⟨⟨v,m⟩,⟨lo,hi,sl,sh⟩⟩,of,mp,id,rm,nu⟩⟩|_=>noSl,
 fun l=>match l with | [.bool _,.int .u8 _,.int .u8 _,.u64 _,.u64 _,.u64 _,.u64 _,.int .i64 _,.int .i64 _,.int .i64 _,.int .i64 _,.int .i64 _,.int .i64 _,.bool _]=>true|_=>false,noSl,
 fun l h=>by revert h;split<;>simp_all,fun _=>rfl,fun _=>rfl⟩
@[reducible] def frv (f:Fr):SV:=.mix [.arr 11 12 (gOf eA f.R),.arr 64 14 (gOf eS f.S),.int .i64 f.ids]
def inA (a:Ab):Bool:=R.inS a.n.s
def frB (g h:Nat→List FV):Bool:=(allIs eA 0 11 g&&allIs eS 0 64 h)&&((elts eA 0 11 g).all inA&&(elts eS 0 64 h).all fun s=>inA s.a)
def frD (g h:Nat→List FV)(ids:Int):Fr:=⟨elts eA 0 11 g,elts eS 0 64 h,ids⟩
structure Fr.wf (f:Fr):Prop where
 r:f.R.length=11
 s:f.S.length=64
 ri:f.R.all inA=true
 si:(f.S.all fun s=>inA s.a)=true
theorem elts_n {α:Type}(e:Enc α){L:List α}{n:Nat}(h:L.length=n):elts e 0 n (gOf e L)=L:=by subst h;exact elts_all e L
theorem frD_of {f:Fr}(h:f.wf):frD (gOf eA f.R) (gOf eS f.S) f.ids=f:=by
 unfold frD
 rw[elts_n eA h.r,elts_n eS h.s]
theorem frB_of {f:Fr}(h:f.wf):frB (gOf eA f.R) (gOf eS f.S)=true:=by
 unfold frB
 rw[elts_n eA h.r,elts_n eS h.s,allIs_gOf,allIs_gOf,h.ri,h.si];rfl
theorem frD_wf {g h:Nat→List FV}{ids:Int}(hb:frB g h=true):(frD g h ids).wf:=by
 unfold frB at hb
 simp only[Bool.and_eq_true] at hb
 exact⟨elts_length ..,elts_length ..,hb.2.1,hb.2.2⟩
theorem frv_den {g h:Nat→List FV}{ids:Int}(hb:frB g h=true)(ρ:Val):(SV.mix [.arr 11 12 g,.arr 64 14 h,.int .i64 ids]).den ρ=(frv (frD g h ids)).den ρ:=by
 unfold frB at hb
 simp only[Bool.and_eq_true] at hb
 have h1:arrL 11 12 g=arrL 11 12 (gOf eA (elts eA 0 11 g)):=arrL_congr fun i hi=>by rw[gOf_elts eA hb.1.1 i hi,Nat.zero_add]
 have h2:arrL 64 14 h=arrL 64 14 (gOf eS (elts eS 0 64 h)):=arrL_congr fun i hi=>by rw[gOf_elts eS hb.1.2 i hi,Nat.zero_add]
 simp only[SV.den,frD,mixL,denL,itemL,h1,h2]
theorem ctr_fr {P:Program}{G:World→Prop}(hG:Stable G){Γ:Env}(hΓ:EnvOk P G Γ){f:FuncId}{fn:Func}(hf:P.funcs[f]? = some fn)(hb:fn.body.isSome=true)(hm:Okay P)(T:Tbl)(hT:codeOk T (bodyOf fn)=true)(n:Nat)
  {M:List Blk} {g h:Nat→List FV} {ids:Int} {rest:List SV} {sv:SV} (hfr:frB g h=true) (hsc:scL (fun _=>false) rest=true)
  (hr:run P Γ n T 0 (bodyOf fn) (initF fn (frv (frD g h ids)::rest)) [] (retK P fn fun x _=>eqv x sv)):
  ∀ (B:Bd) (ρ:Val) (w:World),G w→MRel B ρ M w→Calls P f (denL ρ (.mix [.arr 11 12 g,.arr 64 14 h,.int .i64 ids]::rest)).toArray w fun e w'=>
    ∃ (ρ':Val) (v:Value),e = .returned v∧(sv ≠ .junk→v=sv.den ρ')∧Val.Ext w.heap.size (fun n => ¬ (M.length≤n∧n<M.length+([]:List Blk).length)) ρ ρ'∧Below w.heap.size w w'∧New B w.heap.size ρ' M.length [] w':=by
 intro B ρ w hGw hM
 have:=ctr_flat hG hΓ hf hb hm T hT n (args:=frv (frD g h ids)::rest) (M:=M) (by simpa [scL,SV.sc] using hsc) hr B ρ w hGw hM
 have e:denL ρ (.mix [.arr 11 12 g,.arr 64 14 h,.int .i64 ids]::rest)=denL ρ (frv (frD g h ids)::rest):=by
  show _::_=_::_
  rw[frv_den hfr ρ]
 rw[e];exact this
namespace F
def okS (s:Sl):Bool := !((s.w==(s.a.k==0))||(s.w&&s.st != 0))
def okA (ids:Int)(a:Ab):Bool:=V.right a&&decide (a.id≤ids)
def right (f:Fr):Bool:=f.S.all okS&&(f.R.all (okA f.ids)&&((f.S.all fun s=>okA f.ids s.a)&&decide (0≤f.ids)))
def set (s:Sl):Int:=if s.w then (if s.a.k==1 then 255 else 0) else s.st
end F
theorem all_take {α:Type}{p:α→Bool}{l:List α}{j:Nat}(h:j<l.length):(l.take (j+1)).all p=((l.take j).all p&&p l[j]):=by
 rw[List.take_succ_eq_append_getElem h,List.all_append];simp
theorem all_not {α:Type}{p:α→Bool}{l:List α}{j:Nat}(h:j<l.length)(hp:p l[j]=false):l.all p=false:=by
 rw[List.all_eq_false]
 exact⟨l[j],List.getElem_mem h,by rw[hp];simp⟩
theorem getD_at {α:Type}{l:List α}{j:Nat}(d:α)(h:j<l.length):l.getD j d=l[j]:=by simp[List.getD_eq_getElem?_getD,h]
theorem all_take' {α:Type}{p:α→Bool}{l:List α}{j:Nat}(d:α)(h:j<l.length):(l.take (j+1)).all p=((l.take j).all p&&p (l.getD j d)):=by rw[all_take h,getD_at d h]
theorem all_not' {α:Type}{p:α→Bool}{l:List α}{j:Nat}(d:α)(h:j<l.length)(hp:p (l.getD j d)=false):l.all p=false:=all_not h (by rw[← getD_at d h];exact hp)
namespace F
theorem okS_1 {s:Sl}(h:(s.w==(s.a.k==0))=true):okS s=false:=by unfold okS;rw[h];rfl
theorem okS_2 {s:Sl}(h:s.w=true)(k:(s.st != 0)=true):okS s=false:=by unfold okS;rw[h,k];cases (true==(s.a.k==0))<;>rfl
theorem okS_3 {s:Sl}(h:(s.w==(s.a.k==0))=false)(k:s.w=false):okS s=true:=by unfold okS;rw[h,k];rfl
theorem okS_4 {s:Sl}(h:(s.w==(s.a.k==0))=false)(k:(s.st != 0)=false):okS s=true:=by unfold okS;rw[h,k,Bool.and_false];rfl
theorem okS_5 {s:Sl}(h:s.w=true)(k:(s.st==0)=false):okS s=false:=okS_2 h (by rw[bne,k];rfl)
theorem okS_6 {s:Sl}(h:(s.w==(s.a.k==0))=false)(k:(s.st==0)=true):okS s=true:=okS_4 h (by rw[bne,k];rfl)
theorem right_1 {f:Fr}{j:Nat}(h:j<f.S.length)(k:okS (f.S.getD j eS.dft)=false):right f=false:=by unfold right;rw[all_not' eS.dft h k];rfl
theorem okA_1 {ids:Int}{a:Ab}(h:V.right a=false):okA ids a=false:=by unfold okA;rw[h];rfl
theorem okA_2 {ids:Int}{a:Ab}(h:decide (ids<a.id)=true):okA ids a=false:=by
 unfold okA
 rw[decide_eq_false (by have:=of_decide_eq_true h;omega),Bool.and_false]
theorem okA_3 {ids:Int}{a:Ab}(h:V.right a=true)(k:decide (ids<a.id)=false):okA ids a=true:=by
 unfold okA
 rw[h,decide_eq_true (by have:=of_decide_eq_false k;omega)];rfl
theorem right_2 {f:Fr}{j:Nat}(h:j<f.R.length)(k:okA f.ids (f.R.getD j eA.dft)=false):right f=false:=by unfold right;rw[all_not' eA.dft h k,Bool.false_and,Bool.and_false]
theorem right_3 {f:Fr}{j:Nat}(h:j<f.S.length)(k:okA f.ids (f.S.getD j eS.dft).a=false):right f=false:=by
 unfold right
 rw[all_not' (p:=fun s:Sl=>okA f.ids s.a) eS.dft h k,Bool.false_and,Bool.and_false,Bool.and_false]
theorem right_4 {f:Fr}(h:f.S.all okS=true)(k:f.R.all (okA f.ids)=true)(l:(f.S.all fun s=>okA f.ids s.a)=true):right f=decide (0≤f.ids):=by unfold right;rw[h,k,l];rfl
end F
end Go.Proofs.YtfgkhenhlpoheaaGreat
