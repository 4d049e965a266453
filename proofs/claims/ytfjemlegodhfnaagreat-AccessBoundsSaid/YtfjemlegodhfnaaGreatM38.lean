import Derived.Test.YtfjemlegodhfnaaGreatM37
set_option linter.all false
namespace Go.Proofs.YtfjemlegodhfnaaGreat
open Go.RowKit Go.Sx
set_option maxRecDepth 100000
set_option maxHeartbeats 4000000
theorem wrap_neg {x:Int}(h0 : -512≤x)(h1:x≤0):IntKind.i64.wrap (0-x) = -x:=by rw[i64_of (by omega) (by omega)];omega
namespace F
def none:Fr:=⟨List.replicate 11 V.zero,List.replicate 64 noSl,0⟩
def store (f:Fr)(off n:Int)(a:Ab):Fr×Int:=
 if right f=false then (none,2) else if V.right a=false then (none,2) else if (a.k==0)=true then (none,2) else if word n=false then (none,2)
 else if (within off n).2=false then (none,32)
 else if (n==8)=true then
    (if ((within off n).1.tmod 8==0)=true then
      (if decide (f.ids<a.id)=true then (none,2) else (⟨f.R,f.S.set ((within off n).1.toNat / 8) ⟨true,0,a⟩,f.ids⟩,0))
    else if (a.k==1)=false then (none,31) else (touch f (within off n).1 n,0))
 else if (a.k==1)=false then (none,31) else (touch f (within off n).1 n,0)
def part (s:Sl)(r n:Int)(sg:Bool):Ab:=
 V.number (C.low (if s.w=true then (if (C.one s.a.n).2=true then (if decide (IntKind.i64.wrap (r+n)≤8)=true then C.const ((C.one s.a.n).1 >>> (IntKind.i64.wrap (8*r)).toNat) else C.unknown) else C.unknown) else C.unknown) n sg).1
def load (f:Fr)(off n:Int)(sg:Bool):Ab×Int:=
 if right f=false then (V.zero,2) else if word n=false then (V.zero,2)
 else if (within off n).2=false then (V.zero,32)
 else if (n==8)=true then
    (if ((within off n).1.tmod 8==0)=true then
      (if (f.S.getD ((within off n).1.toNat / 8) noSl).w=true then ((f.S.getD ((within off n).1.toNat / 8) noSl).a,0)
      else if ready f (within off n).1 n=false then (V.zero,30) else (part (f.S.getD ((within off n).1.toNat / 8) noSl) ((within off n).1.tmod 8) n sg,0))
    else if ready f (within off n).1 n=false then (V.zero,30) else (part (f.S.getD ((within off n).1.toNat / 8) noSl) ((within off n).1.tmod 8) n sg,0))
 else if ready f (within off n).1 n=false then (V.zero,30) else (part (f.S.getD ((within off n).1.toNat / 8) noSl) ((within off n).1.tmod 8) n sg,0)
def may (f:Fr)(off n:Int):Int×Int:=
 if right f=false then (0,2) else if decide (n<1)=true then (0,2) else if decide (512<n)=true then (0,2)
 else if (within off n).2=false then (0,32) else ((within off n).1,0)
def asks (f:Fr)(off n:Int):Int:=
 if (may f off n).2==0 then (if ready f (may f off n).1 n=false then 30 else (may f off n).2) else (may f off n).2
def fill (f:Fr)(off n:Int):Fr×Int:=
 if (may f off n).2==0 then (touch f (may f off n).1 n,0) else (none,(may f off n).2)
theorem word_in {n:Int}(h:word n=true):1≤n∧n≤8:=by
 simp only[word,Bool.or_eq_true,beq_iff_eq] at h;omega
theorem within_in {off n:Int}(h:(within off n).2=true)(hn:1≤n):(within off n).1=512+off ∧ -512≤off∧off+n≤0:=by
 unfold within at *
 by_cases h1:off < -512
 . rw[decide_eq_true h1] at h;exact absurd h (by simp)
 by_cases h2:0<off
 . rw[decide_eq_true h2,decide_eq_false h1] at h;exact absurd h (by simp)
 by_cases h3:IntKind.i64.wrap (0-off)<n
 . rw[decide_eq_true h3,decide_eq_false h1,decide_eq_false h2] at h;exact absurd h (by simp)
 rw[decide_eq_false h1,decide_eq_false h2,decide_eq_false h3]
 rw[wrap_neg (by omega) (by omega)] at h3
 refine⟨?_,by omega,by omega⟩
 show IntKind.i64.wrap (512+off)=_
 exact i64_of (by omega) (by omega)
theorem none_wf:none.wf:=⟨rfl,rfl,rfl,rfl⟩
theorem gOf_none {α:Type}(e:Enc α)(x:α){n:Nat}:∀ i,i<n→e.enc x=gOf e (List.replicate n x) i:=by
 intro i hi
 show e.enc x=e.enc ((List.replicate n x).getD i e.dft)
 rw[List.getD_eq_getElem?_getD,List.getElem?_replicate,if_pos hi];rfl
theorem zero_R:∀ i,i<11→eA.enc V.zero=gOf eA none.R i:=gOf_none eA V.zero
theorem zero_S:∀ i,i<64→eS.enc noSl=gOf eS none.S i:=gOf_none eS noSl
end F
theorem eqv_fr {g h:Nat→List FV}{ids:Int}{X:Fr}(h1:∀ i,i<11→g i=gOf eA X.R i)(h2:∀ i,i<64→h i=gOf eS X.S i)(h3:ids=X.ids):eqv2 (.mix [.arr 11 12 g,.arr 64 14 h,.int .i64 ids]) (frv X):=by
 subst h3
 refine⟨⟨rfl,rfl,h1⟩,⟨rfl,rfl,h2⟩,⟨rfl,rfl,?_⟩,trivial⟩
 simp[eqv1]
theorem two_fr {x:SV}{k:Fr×Int}{X:Fr}{c:Int}(h:k=(X,c))(hx:eqv2 x (frv X)):eqv2 x (frv k.1)∧eqvL2 [.int .i64 c] [.int .i64 k.2]:=by
 subst h
 exact⟨hx,by simp[eqvL2,eqv2,eqv1]⟩
theorem two_no {k:Fr×Int}{c:Int}(h:k=(F.none,c)):eqv2 (.mix [.arr 11 12 (fun _=>[.int .u8 0,.u64 (BitVec.ofInt 64 0),.u64 (BitVec.ofInt 64 0),.u64 (BitVec.ofInt 64 0),.u64 (BitVec.ofInt 64 0),.int .i64 0,.int .i64 0,.int .i64 0,.int .i64 0,.int .i64 0,.int .i64 0,.bool false]),.arr 64 14 (fun _=>.bool false :: .int .u8 0::[.int .u8 0,.u64 (BitVec.ofInt 64 0),.u64 (BitVec.ofInt 64 0),.u64 (BitVec.ofInt 64 0),.u64 (BitVec.ofInt 64 0),.int .i64 0,.int .i64 0,.int .i64 0,.int .i64 0,.int .i64 0,.int .i64 0,.bool false]),.int .i64 0]) (frv k.1)∧eqvL2 [.int .i64 c] [.int .i64 k.2]:=two_fr h (eqv_fr F.zero_R F.zero_S rfl)
theorem two_same {k:Fr×Int}{X:Fr}{c:Int}(h:k=(X,c)):eqv2 (.mix [.arr 11 12 (gOf eA X.R),.arr 64 14 (gOf eS X.S),.int .i64 X.ids]) (frv k.1)∧eqvL2 [.int .i64 c] [.int .i64 k.2]:=two_fr h (eqv_fr (fun _ _=>rfl) (fun _ _=>rfl) rfl)
theorem store_run (f:Fr)(hf:f.wf)(off n:Int)(ak:Int)(av am alo ahi:BitVec 64)(asl ash aof amp aid arm:Int)(anu:Bool)(ha:R.inS ⟨alo,ahi,asl,ash⟩=true):run Tryz.prog ⟨[(25,k_fRight),(40,k_vRight),(41,k_fword),(42,k_fwithin),(51,k_ftouch)],eqs,[],[],[],mixs,meqs,[]⟩ 10000 [] 0 (bodyOf Tryz.f35) (initF Tryz.f35 [frv f,.int .i64 off,.int .i64 n,.agg [.int .u8 ak,.u64 av,.u64 am,.u64 alo,.u64 ahi,.int .i64 asl,.int .i64 ash,.int .i64 aof,.int .i64 amp,.int .i64 aid,.int .i64 arm,.bool anu]]) [] (retK Tryz.prog Tryz.f35 fun x _=>eqv x (.tup [frv (F.store f off n (⟨ak,(⟨⟨av,am⟩,⟨alo,ahi,asl,ash⟩⟩:Sc),aof,amp,aid,arm,anu⟩:Ab)).1,.int .i64 (F.store f off n (⟨ak,(⟨⟨av,am⟩,⟨alo,ahi,asl,ash⟩⟩:Sc),aof,amp,aid,arm,anu⟩:Ab)).2])):=by
 (conv=>whnf)
 (repeat' (first | (refine step_t (by first|rfl|assumption) ?_;(conv=>whnf)) | (refine step_f (by first|rfl|assumption) ?_;(conv=>whnf)) | (refine step_nt (by assumption) ?_;(conv=>whnf)) | (refine step_nf (by assumption) ?_;(conv=>whnf)) | (refine step_n (fun hb => ?_) (fun hb => ?_)<;>(first|contradiction | (conv=>whnf))) | (refine And.intro (fun hb => ?_) (fun hb => ?_)<;>(first|contradiction | (conv=>whnf))) | (refine And.intro (a:=(_:Bool)=true) ?_ ?_;rotate_left 1;(conv=>whnf))))
 all_goals (try simp only[frD_of hf] at *)
 all_goals try first
  |exact frB_of hf
  |exact ha
  |exact(rfl:((8:Int) != 0)=true)
  |rfl
  |exact two_no (by simp only[F.store, *,↓reduceIte,Bool.true_eq_false,Bool.false_eq_true])
  |exact two_same (by simp only[F.store, *,↓reduceIte,Bool.true_eq_false,Bool.false_eq_true])
 all_goals (
  have hw:=F.word_in (n:=n) (by assumption)
  obtain⟨q1,q2,q3⟩:=F.within_in (off:=off) (n:=n) (by assumption) hw.1
  have e8:=quo8 (p:=(F.within off n).1) (by omega) (by omega))
 all_goals first
  |(rw[e8,Int.toNat_natCast];exact decide_eq_true (by omega))
  |(rw[e8,Int.toNat_natCast,Bool.and_eq_true];exact⟨decide_eq_true (by omega),decide_eq_true (by omega)⟩)
  |(rw[frB_of hf]
    simp only[Bool.true_and,Bool.and_eq_true,decide_eq_true_eq]
    omega)
  |(refine two_fr (X:=⟨f.R,f.S.set ((F.within off n).1.toNat / 8) ⟨true,0,(⟨ak,(⟨⟨av,am⟩,⟨alo,ahi,asl,ash⟩⟩:Sc),aof,amp,aid,arm,anu⟩:Ab)⟩,f.ids⟩) (by clear q1 q2 q3 e8 hw;simp only[F.store, *,↓reduceIte,Bool.true_eq_false,Bool.false_eq_true]) (eqv_fr (fun _ _=>rfl) (fun i hi => ?_) rfl)
    rw[e8,Int.toNat_natCast]
    exact(gSet_gOf eS (L:=f.S) (i:=(F.within off n).1.toNat / 8) (a:=⟨true,0,(⟨ak,(⟨⟨av,am⟩,⟨alo,ahi,asl,ash⟩⟩:Sc),aof,amp,aid,arm,anu⟩:Ab)⟩) (by rw[hf.s];omega) rfl rfl i (by rw[hf.s];exact hi)).symm)
def k_fStore:List SV→List Blk→Res:=fun args _=>match args with
 |[.mix [.arr 11 12 g,.arr 64 14 h,.int .i64 ids],.int .i64 off,.int .i64 n,.agg [.int .u8 ak,.u64 av,.u64 am,.u64 alo,.u64 ahi,.int .i64 asl,.int .i64 ash,.int .i64 aof,.int .i64 amp,.int .i64 aid,.int .i64 arm,.bool anu]]=>.test ((frB g h&&(R.inS ⟨alo,ahi,asl,ash⟩))) (.ok (.tup [frv (F.store (frD g h ids) off n (⟨ak,(⟨⟨av,am⟩,⟨alo,ahi,asl,ash⟩⟩:Sc),aof,amp,aid,arm,anu⟩:Ab)).1,.int .i64 (F.store (frD g h ids) off n (⟨ak,(⟨⟨av,am⟩,⟨alo,ahi,asl,ash⟩⟩:Sc),aof,amp,aid,arm,anu⟩:Ab)).2]) [])
 |_=>.fail
theorem k_fStore_ok:CtrOk Tryz.prog Gw 35 k_fStore:=by
 refine⟨fun _ _=>by kernel_rfl,fun args M => ?_⟩
 unfold k_fStore
 split
 . rename_i g h ids off n ak av am alo ahi asl ash aof amp aid arm anu
   intro ht
   rw[Bool.and_eq_true] at ht
   obtain⟨hfr,ht⟩:=ht
   exact ctr_fr (Γ:=⟨[(25,k_fRight),(40,k_vRight),(41,k_fword),(42,k_fwithin),(51,k_ftouch)],eqs,[],[],[],mixs,meqs,[]⟩) (sv:=.tup [frv (F.store (frD g h ids) off n (⟨ak,(⟨⟨av,am⟩,⟨alo,ahi,asl,ash⟩⟩:Sc),aof,amp,aid,arm,anu⟩:Ab)).1,.int .i64 (F.store (frD g h ids) off n (⟨ak,(⟨⟨av,am⟩,⟨alo,ahi,asl,ash⟩⟩:Sc),aof,amp,aid,arm,anu⟩:Ab)).2]) st_Gw ⟨(okCons k_fRight_ok (okCons k_vRight_ok (okCons k_fword_ok (okCons k_fwithin_ok (okCons k_ftouch_ok okNil))))),eqs_ok,okNilB,okNilI,okNilP,mixs_ok,meqs_ok,okNilY⟩ Tryz.func35 rfl mixed [] (by kernel_rfl) 10000 (rest:=[.int .i64 off,.int .i64 n,.agg [.int .u8 ak,.u64 av,.u64 am,.u64 alo,.u64 ahi,.int .i64 asl,.int .i64 ash,.int .i64 aof,.int .i64 amp,.int .i64 aid,.int .i64 arm,.bool anu]]) hfr rfl (store_run _ (frD_wf hfr) off n ak av am alo ahi asl ash aof amp aid arm anu ht)
 . trivial
end Go.Proofs.YtfjemlegodhfnaaGreat
namespace Go.Proofs.YtfjemlegodhfnaaGreat
open Go.RowKit Go.Sx
set_option maxRecDepth 100000
set_option maxHeartbeats 4000000
namespace C
theorem const_S (n:BitVec 64):R.inS (const n).s=true:=S.inS_iff.2 ⟨S.sv_in n,S.sv_in n⟩
theorem low_in {x:Sc}(h:R.inS x.s=true)(n:Int)(sg:Bool):R.inS (low x n sg).1.s=true:=by
 unfold low
 split
 . split
   . split
     . exact h
     . unfold tail
       split
       . split
         . exact cut_in h _ _
         . split
           . exact const_S _
           . exact of_in (wraps_in _ _ _ _)
       . exact cut_in h _ _
   . rfl
 . rfl
end C
theorem ab_eqv {X Y:Ab}(h:X=Y):eqvL1 (match abv X with | .agg l=>l|_=>[]) (match abv Y with | .agg l=>l|_=>[]):=by
 subst h
 simp[abv,eqvL1,eqv1]
theorem two_ab {k:Ab×Int}{X:Ab}{c:Int}(h:k=(X,c)):eqv2 (abv X) (abv k.1)∧eqvL2 [.int .i64 c] [.int .i64 k.2]:=by
 subst h
 exact⟨ab_eqv rfl,by simp[eqvL2,eqv2,eqv1]⟩
theorem two_int {k:Int×Int}{x c:Int}(h:k=(x,c)):eqv2 (.int .i64 x) (.int .i64 k.1)∧eqvL2 [.int .i64 c] [.int .i64 k.2]:=by
 subst h
 simp[eqvL2,eqv2,eqv1]
theorem rem8 {p:Int}(h:0≤p):0≤p.tmod 8∧p.tmod 8<8:=by
 rw[Int.tmod_eq_emod_of_nonneg h];omega
theorem noSl_eq:noSl=eS.dft:=rfl
theorem two_zero {k:Ab×Int}{c:Int}(h:k=(V.zero,c)):eqv2 (.agg [.int .u8 0,.u64 (BitVec.ofInt 64 0),.u64 (BitVec.ofInt 64 0),.u64 (BitVec.ofInt 64 0),.u64 (BitVec.ofInt 64 0),.int .i64 0,.int .i64 0,.int .i64 0,.int .i64 0,.int .i64 0,.int .i64 0,.ff]) (abv k.1)∧eqvL2 [.int .i64 c] [.int .i64 k.2]:=by
 subst h
 exact⟨by simp[eqv2,eqvL1,eqv1,V.zero,V.zs],by simp[eqvL2,eqv2,eqv1]⟩
def k_fpart:List SV→List Blk→Res:=fun args _=>match args with
 |[.agg [.bool w,.int .u8 st,.int .u8 ak,.u64 av,.u64 am,.u64 alo,.u64 ahi,.int .i64 asl,.int .i64 ash,.int .i64 aof,.int .i64 amp,.int .i64 aid,.int .i64 arm,.bool anu],.int .i64 r,.int .i64 n,.bool sg]=>.test (R.inS ⟨alo,ahi,asl,ash⟩&&(decide (0≤r)&&decide (r<8))) (.ok (abv (F.part (⟨w,st,(⟨ak,(⟨⟨av,am⟩,⟨alo,ahi,asl,ash⟩⟩:Sc),aof,amp,aid,arm,anu⟩:Ab)⟩:Sl) r n sg)) [])
 |_=>.fail
theorem k_fpart_ok:CtrOk Tryz.prog Gw 44 k_fpart:=by
 refine⟨fun _ _=>by kernel_rfl,fun args M => ?_⟩
 unfold k_fpart
 split
 . rename_i w st ak av am alo ahi asl ash aof amp aid arm anu r n sg
   intro ht
   refine ctr_flat (Γ:=⟨[(47,k_cUnknown),(57,k_cOne),(10,k_cConst),(46,k_cLow),(17,k_vNumber)],eqs,[],[],[],mixs,meqs,[]⟩) (sv:=abv (F.part (⟨w,st,(⟨ak,(⟨⟨av,am⟩,⟨alo,ahi,asl,ash⟩⟩:Sc),aof,amp,aid,arm,anu⟩:Ab)⟩:Sl) r n sg)) st_Gw ⟨(okCons k_cUnknown_ok (okCons k_cOne_ok (okCons k_cConst_ok (okCons k_cLow_ok (okCons k_vNumber_ok okNil))))),eqs_ok,okNilB,okNilI,okNilP,mixs_ok,meqs_ok,okNilY⟩ Tryz.func44 rfl mixed [] (by kernel_rfl) 10000 (by rfl) ?_
   have hin:=S.and_true2 ht |>.1
   (conv=>whnf)
   (repeat' (first | (refine step_t (by first|rfl|assumption) ?_;(conv=>whnf)) | (refine step_f (by first|rfl|assumption) ?_;(conv=>whnf)) | (refine step_nt (by assumption) ?_;(conv=>whnf)) | (refine step_nf (by assumption) ?_;(conv=>whnf)) | (refine step_n (fun hb => ?_) (fun hb => ?_)<;>(first|contradiction | (conv=>whnf))) | (refine And.intro (fun hb => ?_) (fun hb => ?_)<;>(first|contradiction | (conv=>whnf))) | (refine And.intro (a:=(_:Bool)=true) ?_ ?_;rotate_left 1;(conv=>whnf))))
   all_goals (first
    |rfl
    |assumption
    |exact C.const_S _
    |exact C.low_in rfl _ _
    |exact C.low_in (C.const_S _) _ _
    |(simp only[Bool.and_eq_true,decide_eq_true_eq] at ht
      refine decide_eq_true ?_
      rw[i64_of (by omega) (by omega)];omega)
    |exact ab_eqv (X:=V.number (C.low C.unknown n sg).1) (by simp only[F.part, *,↓reduceIte,Bool.true_eq_false,Bool.false_eq_true])
    |exact ab_eqv (X:=V.number (C.low (C.const ((C.one (⟨ak,(⟨⟨av,am⟩,⟨alo,ahi,asl,ash⟩⟩:Sc),aof,amp,aid,arm,anu⟩:Ab).n).1 >>> (IntKind.i64.wrap (8*r)).toNat)) n sg).1) (by simp only[F.part, *,↓reduceIte,Bool.true_eq_false,Bool.false_eq_true]))
 . trivial
end Go.Proofs.YtfjemlegodhfnaaGreat
namespace Go.Proofs.YtfjemlegodhfnaaGreat
open Go.RowKit Go.Sx
set_option maxRecDepth 100000
set_option maxHeartbeats 4000000
theorem load_run (f:Fr)(hf:f.wf)(off n:Int)(sg:Bool):run Tryz.prog ⟨[(25,k_fRight),(41,k_fword),(42,k_fwithin),(43,k_fready),(44,k_fpart)],eqs,[],[],[],mixs,meqs,[]⟩ 10000 [] 0 (bodyOf Tryz.f27) (initF Tryz.f27 [frv f,.int .i64 off,.int .i64 n,.bool sg]) [] (retK Tryz.prog Tryz.f27 fun x _=>eqv x (.tup [abv (F.load f off n sg).1,.int .i64 (F.load f off n sg).2])):=by
 (conv=>whnf)
 (repeat' (first | (refine step_t (by first|rfl|assumption) ?_;(conv=>whnf)) | (refine step_f (by first|rfl|assumption) ?_;(conv=>whnf)) | (refine step_nt (by assumption) ?_;(conv=>whnf)) | (refine step_nf (by assumption) ?_;(conv=>whnf)) | (refine step_n (fun hb => ?_) (fun hb => ?_)<;>(first|contradiction | (conv=>whnf))) | (refine And.intro (fun hb => ?_) (fun hb => ?_)<;>(first|contradiction | (conv=>whnf))) | (refine And.intro (a:=(_:Bool)=true) ?_ ?_;rotate_left 1;(conv=>whnf))))
 all_goals (try simp only[frD_of hf] at *)
 all_goals try first
  |exact frB_of hf
  |exact(rfl:((8:Int) != 0)=true)
  |rfl
  |(refine two_zero ?_;simp only[F.load, *,noSl_eq,↓reduceIte,Bool.true_eq_false,Bool.false_eq_true];done)
 all_goals (
  have hw:=F.word_in (n:=n) (by assumption)
  obtain⟨q1,q2,q3⟩:=F.within_in (off:=off) (n:=n) (by assumption) hw.1
  have e8:=quo8 (p:=(F.within off n).1) (by omega) (by omega)
  have r8:=rem8 (p:=(F.within off n).1) (by omega))
 all_goals (try simp only[e8,Int.toNat_natCast] at *)
 all_goals first
  |exact decide_eq_true (by omega)
  |(rw[Bool.and_eq_true];exact⟨decide_eq_true (by omega),decide_eq_true (by omega)⟩)
  |(rw[frB_of hf]
    simp only[Bool.true_and,Bool.and_eq_true,decide_eq_true_eq]
    omega)
  |(have hin:=inS_at hf.si (i:=(F.within off n).1.toNat / 8) (by rw[hf.s];omega)
    rw[Bool.and_eq_true,Bool.and_eq_true]
    exact⟨hin,decide_eq_true (by omega),decide_eq_true (by omega)⟩)
  |(clear q1 q2 q3 e8 hw r8
    first
    |(refine two_zero ?_;simp only[F.load, *,noSl_eq,↓reduceIte,Bool.true_eq_false,Bool.false_eq_true];done)
    |(refine two_ab (X:=(f.S.getD ((F.within off n).1.toNat / 8) noSl).a) ?_;simp only[F.load, *,noSl_eq,↓reduceIte,Bool.true_eq_false,Bool.false_eq_true];done)
    |exact two_ab (X:=F.part (f.S.getD ((F.within off n).1.toNat / 8) noSl) ((F.within off n).1.tmod 8) n sg) (by simp only[F.load, *,noSl_eq,↓reduceIte,Bool.true_eq_false,Bool.false_eq_true]))
def k_fLoad:List SV→List Blk→Res:=fun args _=>match args with
 |[.mix [.arr 11 12 g,.arr 64 14 h,.int .i64 ids],.int .i64 off,.int .i64 n,.bool sg]=>.test (frB g h) (.ok (.tup [abv (F.load (frD g h ids) off n sg).1,.int .i64 (F.load (frD g h ids) off n sg).2]) [])
 |[.mix [.arr 11 12 g,.arr 64 14 h,.int .i64 ids],.int .i64 off,.int .i64 n,.ff]=>.test (frB g h) (.ok (.tup [abv (F.load (frD g h ids) off n false).1,.int .i64 (F.load (frD g h ids) off n false).2]) [])
 |_=>.fail
theorem k_fLoad_ok:CtrOk Tryz.prog Gw 27 k_fLoad:=by
 refine⟨fun _ _=>by kernel_rfl,fun args M => ?_⟩
 unfold k_fLoad
 split
 . rename_i g h ids off n sg
   intro ht
   have hfr:frB g h=true:=ht
   exact ctr_fr (Γ:=⟨[(25,k_fRight),(41,k_fword),(42,k_fwithin),(43,k_fready),(44,k_fpart)],eqs,[],[],[],mixs,meqs,[]⟩) (sv:=.tup [abv (F.load (frD g h ids) off n sg).1,.int .i64 (F.load (frD g h ids) off n sg).2]) st_Gw ⟨(okCons k_fRight_ok (okCons k_fword_ok (okCons k_fwithin_ok (okCons k_fready_ok (okCons k_fpart_ok okNil))))),eqs_ok,okNilB,okNilI,okNilP,mixs_ok,meqs_ok,okNilY⟩ Tryz.func27 rfl mixed [] (by kernel_rfl) 10000 (rest:=[.int .i64 off,.int .i64 n,.bool sg]) hfr rfl (load_run _ (frD_wf hfr) off n sg)
 . rename_i g h ids off n
   intro ht
   have hfr:frB g h=true:=ht
   exact ctr_fr (Γ:=⟨[(25,k_fRight),(41,k_fword),(42,k_fwithin),(43,k_fready),(44,k_fpart)],eqs,[],[],[],mixs,meqs,[]⟩) (sv:=.tup [abv (F.load (frD g h ids) off n false).1,.int .i64 (F.load (frD g h ids) off n false).2]) st_Gw ⟨(okCons k_fRight_ok (okCons k_fword_ok (okCons k_fwithin_ok (okCons k_fready_ok (okCons k_fpart_ok okNil))))),eqs_ok,okNilB,okNilI,okNilP,mixs_ok,meqs_ok,okNilY⟩ Tryz.func27 rfl mixed [] (by kernel_rfl) 10000 (rest:=[.int .i64 off,.int .i64 n,.bool false]) hfr rfl (load_run _ (frD_wf hfr) off n false)
 . trivial
end Go.Proofs.YtfjemlegodhfnaaGreat
namespace Go.Proofs.YtfjemlegodhfnaaGreat
open Go.RowKit Go.Sx
set_option maxRecDepth 100000
set_option maxHeartbeats 4000000
structure Fd where
 o:Int
 z:Int
 k:Int
 w:Bool
def eF:Enc Fd:=⟨fun t=>[.int .i64 t.o,.int .i64 t.z,.int .u8 t.k,.bool t.w],fun l=>match l with | [.int .i64 o,.int .i64 z,.int .u8 k,.bool w]=>⟨o,z,k,w⟩|_=>⟨0,0,0,false⟩,fun l=>match l with | [.int .i64 _,.int .i64 _,.int .u8 _,.bool _]=>true|_=>false,⟨0,0,0,false⟩,
 fun l h=>by revert h;split<;>simp_all,fun _=>rfl,fun _=>rfl⟩
structure Nd where
 a:Int
 b:Int
 c:Int
def eN:Enc Nd:=⟨fun t=>[.int .i64 t.a,.int .i64 t.b,.int .i64 t.c],fun l=>match l with | [.int .i64 a,.int .i64 b,.int .i64 c]=>⟨a,b,c⟩|_=>⟨0,0,0⟩,fun l=>match l with | [.int .i64 _,.int .i64 _,.int .i64 _]=>true|_=>false,⟨0,0,0⟩,
 fun l h=>by revert h;split<;>simp_all,fun _=>rfl,fun _=>rfl⟩
structure Mp where
 k:Int
 key:Int
 val:Int
 max:Int
def eM:Enc Mp:=⟨fun t=>[.int .u8 t.k,.int .i64 t.key,.int .i64 t.val,.int .i64 t.max],fun l=>match l with | [.int .u8 k,.int .i64 key,.int .i64 val,.int .i64 max]=>⟨k,key,val,max⟩|_=>⟨0,0,0,0⟩,fun l=>match l with | [.int .u8 _,.int .i64 _,.int .i64 _,.int .i64 _]=>true|_=>false,⟨0,0,0,0⟩,
 fun l h=>by revert h;split<;>simp_all,fun _=>rfl,fun _=>rfl⟩
namespace A
def size (op:Int):Int:=if Go.bits .and .u8 op 24==0 then 4 else if Go.bits .and .u8 op 24==8 then 2 else if Go.bits .and .u8 op 24==16 then 1 else if Go.bits .and .u8 op 24==24 then 8 else 0
def sgn (op:Int):Bool:=Go.bits .and .u8 op 224==128
def numb (op:Int):Ab:=V.number (C.low C.unknown (size op) (sgn op)).1
end A
namespace V
theorem near_iff {n:Int}:near n=true ↔ -536870912≤n∧n≤536870912:=by simp[near]
theorem wr_id {n:Int}(h : -9223372036854775808≤n)(h':n≤9223372036854775807):IntKind.i64.wrap n=n:=by
 simp only[IntKind.wrap,IntKind.bits,IntKind.signed]
 simp
 omega
theorem hasb_in {x:Sc}{n:BitVec 64}(h:C.hasb x n=true):x.s.lo≤n∧n≤x.s.hi∧x.s.sl≤sv n∧sv n≤x.s.sh:=by
 simp only[C.hasb,S.has,S.leq,S.one,Bool.and_eq_true,decide_eq_true_eq] at h
 exact⟨of_decide_eq_true h.2.2.2.2.1.1,of_decide_eq_true h.2.2.2.2.1.2,of_decide_eq_true h.2.2.2.2.2.1,of_decide_eq_true h.2.2.2.2.2.2⟩
theorem small {n:BitVec 64}(h:n.toNat≤1048576):sv n=(n.toNat:Int):=by
 unfold sv
 rw[BitVec.toInt_eq_toNat_of_lt (by omega)]
theorem le_n {a b:BitVec 64}(h:a≤b):a.toNat≤b.toNat:=h
theorem added_in {a:Ab}{v:BitVec 64}(h:added a=true)(hv:C.hasb a.n v=true):v.toNat≤1048576∧a.n.s.lo.toNat≤v.toNat∧v.toNat≤a.n.s.hi.toNat∧a.n.s.hi.toNat≤1048576:=by
 simp only[added,Bool.and_eq_true,decide_eq_true_eq] at h
 have h1:a.n.s.hi.toNat≤1048576:=le_n h.2.1
 obtain⟨g1,g2,_,_⟩:=hasb_in hv
 have g1:=le_n g1
 have g2:=le_n g2
 exact⟨by omega,g1,g2,h1⟩
theorem right_4 {a:Ab}(h:right a=true)(hk:a.k=4):placed a=true∧added a=true∧named a=true∧roomy a=true∧a.mp=0∧a.nu=false:=by
 simp only[right,hk] at h
 simpa using h
theorem right_7 {a:Ab}(h:right a=true)(hk:a.k=7):placed a=true∧added a=true∧mapped a=true∧nulled a=true∧a.rm=0:=by
 simp only[right,hk] at h
 simpa using h
theorem right_8 {a:Ab}(h:right a=true)(hk:a.k=8):placed a=true∧added a=true∧sized a=true∧nulled a=true∧a.mp=0:=by
 simp only[right,hk] at h
 simpa using h
end V
namespace A
open V
theorem touch_mem {p:Ab}{off size val:Int}{v:BitVec 64}(ht:V.touch p off size val=0):(p.k=4∨p.k=7∨p.k=8)∧p.nu=false∧
  (p.k=4→0≤IntKind.i64.wrap (p.of+off)∧IntKind.i64.wrap (IntKind.i64.wrap (p.of+off)+size)≤p.rm)∧
  (p.k=7∨p.k=8→0≤IntKind.i64.wrap (IntKind.i64.wrap (p.of+off)+sv p.n.s.lo)∧(p.n.s.lo≤v→v≤p.n.s.hi→IntKind.i64.wrap (IntKind.i64.wrap (IntKind.i64.wrap (p.of+off)+sv v)+size)≤(if p.k==7 then val else p.rm))):=by
 unfold touch at ht
 split at ht
 . rename_i h1
   simp only[Bool.and_eq_true,decide_eq_true_eq] at h1
   obtain⟨hr,hn,hz⟩:=h1
   have hn:=near_iff.1 hn
   split at ht
   . rename_i h2
     simp only[Bool.and_eq_true,Bool.or_eq_true,beq_iff_eq,Bool.not_eq_true'] at h2
     obtain⟨hk,hnu⟩:=h2
     split at ht
     . cases ht
     . rename_i h3
       simp only[over,Bool.or_eq_true,decide_eq_true_eq,not_or] at h3
       obtain⟨h3,h4⟩:=h3
       refine⟨hk,hnu,fun hk => ?_,fun hk' => ?_⟩
       . simp only[hk,show((4:Int)==7)=false from rfl,show((4:Int)==4)=true from rfl,if_true,if_false,Bool.false_eq_true,wr] at h3 h4
         exact⟨by omega,by omega⟩
       . have hA:placed p=true∧added p=true:=by
          rcases hk' with hk|hk
          . have R:=right_7 hr hk;exact⟨R.1,R.2.1⟩
          . have R:=right_8 hr hk;exact⟨R.1,R.2.1⟩
         have hp:=near_iff.1 hA.1
         have hi:p.n.s.hi.toNat≤1048576:=by
          have h:=hA.2
          simp only[added,Bool.and_eq_true,decide_eq_true_eq] at h
          exact le_n h.2.1
         have e2:=small (n:=p.n.s.hi) hi
         have k4:(p.k==4)=false:=by rcases hk' with hk|hk<;>rw[hk]<;>rfl
         simp only[k4,if_false,Bool.false_eq_true,wr] at h3 h4
         refine⟨by omega,fun hlo hhi => ?_⟩
         have g2:=le_n hhi
         have e:=small (n:=v) (by omega)
         rw[wr_id (n:=p.of+off) (by omega) (by omega)] at h4 ⊢
         rw[wr_id (n:=p.of+off+sv p.n.s.hi) (by omega) (by omega),wr_id (by omega) (by omega)] at h4
         rw[wr_id (n:=p.of+off+sv v) (by omega) (by omega),wr_id (n:=p.of+off+sv v+size) (by omega) (by omega)]
         by_cases h7:p.k==7
         . rw[if_pos h7] at h4 ⊢;omega
         . rw[if_neg h7] at h4 ⊢;omega
   . cases ht
 . cases ht
end A
end Go.Proofs.YtfjemlegodhfnaaGreat
