import Derived.Test.YtfgkhenhlpoheaaGreatM22
set_option linter.all false
namespace Go.Proofs.YtfgkhenhlpoheaaGreat
open Go.RowKit Go.Sx
set_option maxRecDepth 100000
set_option maxHeartbeats 4000000
theorem wrap_neg {x:Int}(h0 : -512≤x)(h1:x≤0):IntKind.i64.wrap (0-x) = -x:=by rw[i64_of (by omega) (by omega)];omega
namespace F
def none:Fr:=⟨List.replicate 11 V.zero,List.replicate 64 noSl,0⟩
def store (f:Fr)(off n:Int)(a:Ab):Fr×Int:=
 if right f=false then (none,2) else if V.right a=false then (none,2) else if (a.k==0)=true then (none,2) else if word n=false then (none,2)
 else if (within off n).2=false then (none,32)
 else if (n==8)=true then
    (if ((within off n).1.tmod 8==0)=true then
      (if decide (f.ids<a.id)=true then (none,2) else (⟨f.R,f.S.set ((within off n).1.toNat / 8) ⟨true,0,a⟩,f.ids⟩,0))
    else if (a.k==1)=false then (none,31) else (touch f (within off n).1 n,0))
 else if (a.k==1)=false then (none,31) else (touch f (within off n).1 n,0)
def part (s:Sl)(r n:Int)(sg:Bool):Ab:=
 V.number (C.low (if s.w=true then (if (C.one s.a.n).2=true then (if decide (IntKind.i64.wrap (r+n)≤8)=true then C.const ((C.one s.a.n).1 >>> (IntKind.i64.wrap (8*r)).toNat) else C.unknown) else C.unknown) else C.unknown) n sg).1
def load (f:Fr)(off n:Int)(sg:Bool):Ab×Int:=
 if right f=false then (V.zero,2) else if word n=false then (V.zero,2)
 else if (within off n).2=false then (V.zero,32)
 else if (n==8)=true then
    (if ((within off n).1.tmod 8==0)=true then
      (if (f.S.getD ((within off n).1.toNat / 8) noSl).w=true then ((f.S.getD ((within off n).1.toNat / 8) noSl).a,0)
      else if ready f (within off n).1 n=false then (V.zero,30) else (part (f.S.getD ((within off n).1.toNat / 8) noSl) ((within off n).1.tmod 8) n sg,0))
    else if ready f (within off n).1 n=false then (V.zero,30) else (part (f.S.getD ((within off n).1.toNat / 8) noSl) ((within off n).1.tmod 8) n sg,0))
 else if ready f (within off n).1 n=false then (V.zero,30) else (part (f.S.getD ((within off n).1.toNat / 8) noSl) ((within off n).1.tmod 8) n sg,0)
def may (f:Fr)(off n:Int):Int×Int:=
 if right f=false then (0,2) else if decide (n<1)=true then (0,2) else if decide (512<n)=true then (0,2)
 else if (within off n).2=false then (0,32) else ((within off n).1,0)
def asks (f:Fr)(off n:Int):Int:=
 if (may f off n).2==0 then (if ready f (may f off n).1 n=false then 30 else (may f off n).2) else (may f off n).2
def fill (f:Fr)(off n:Int):Fr×Int:=
 if (may f off n).2==0 then (touch f (may f off n).1 n,0) else (none,(may f off n).2)
theorem word_in {n:Int}(h:word n=true):1≤n∧n≤8:=by
 simp only[word,Bool.or_eq_true,beq_iff_eq] at h;omega
theorem within_in {off n:Int}(h:(within off n).2=true)(hn:1≤n):(within off n).1=512+off ∧ -512≤off∧off+n≤0:=by
 unfold within at *
 by_cases h1:off < -512
 . rw[decide_eq_true h1] at h;exact absurd h (by simp)
 by_cases h2:0<off
 . rw[decide_eq_true h2,decide_eq_false h1] at h;exact absurd h (by simp)
 by_cases h3:IntKind.i64.wrap (0-off)<n
 . rw[decide_eq_true h3,decide_eq_false h1,decide_eq_false h2] at h;exact absurd h (by simp)
 rw[decide_eq_false h1,decide_eq_false h2,decide_eq_false h3]
 rw[wrap_neg (by omega) (by omega)] at h3
 refine⟨?_,by omega,by omega⟩
 show IntKind.i64.wrap (512+off)=_
 exact i64_of (by omega) (by omega)
theorem gOf_none {α:Type}(e:Enc α)(x:α){n:Nat}:∀ i,i<n→e.enc x=gOf e (List.replicate n x) i:=by
 intro i hi
 show e.enc x=e.enc ((List.replicate n x).getD i e.dft)
 rw[List.getD_eq_getElem?_getD,List.getElem?_replicate,if_pos hi];rfl
theorem zero_R:∀ i,i<11→eA.enc V.zero=gOf eA none.R i:=gOf_none eA V.zero
theorem zero_S:∀ i,i<64→eS.enc noSl=gOf eS none.S i:=gOf_none eS noSl
end F
theorem eqv_fr {g h:Nat→List FV}{ids:Int}{X:Fr}(h1:∀ i,i<11→g i=gOf eA X.R i)(h2:∀ i,i<64→h i=gOf eS X.S i)(h3:ids=X.ids):eqv2 (.mix [.arr 11 12 g,.arr 64 14 h,.int .i64 ids]) (frv X):=by
 subst h3
 refine⟨⟨rfl,rfl,h1⟩,⟨rfl,rfl,h2⟩,⟨rfl,rfl,?_⟩,trivial⟩
 simp[eqv1]
theorem two_fr {x:SV}{k:Fr×Int}{X:Fr}{c:Int}(h:k=(X,c))(hx:eqv2 x (frv X)):eqv2 x (frv k.1)∧eqvL2 [.int .i64 c] [.int .i64 k.2]:=by
 subst h
 exact⟨hx,by simp[eqvL2,eqv2,eqv1]⟩
theorem two_no {k:Fr×Int}{c:Int}(h:k=(F.none,c)):eqv2 (.mix [.arr 11 12 (fun _=>[.int .u8 0,.u64 (BitVec.ofInt 64 0),.u64 (BitVec.ofInt 64 0),.u64 (BitVec.ofInt 64 0),.u64 (BitVec.ofInt 64 0),.int .i64 0,.int .i64 0,.int .i64 0,.int .i64 0,.int .i64 0,.int .i64 0,.bool false]),.arr 64 14 (fun _=>.bool false :: .int .u8 0::[.int .u8 0,.u64 (BitVec.ofInt 64 0),.u64 (BitVec.ofInt 64 0),.u64 (BitVec.ofInt 64 0),.u64 (BitVec.ofInt 64 0),.int .i64 0,.int .i64 0,.int .i64 0,.int .i64 0,.int .i64 0,.int .i64 0,.bool false]),.int .i64 0]) (frv k.1)∧eqvL2 [.int .i64 c] [.int .i64 k.2]:=two_fr h (eqv_fr F.zero_R F.zero_S rfl)
theorem two_same {k:Fr×Int}{X:Fr}{c:Int}(h:k=(X,c)):eqv2 (.mix [.arr 11 12 (gOf eA X.R),.arr 64 14 (gOf eS X.S),.int .i64 X.ids]) (frv k.1)∧eqvL2 [.int .i64 c] [.int .i64 k.2]:=two_fr h (eqv_fr (fun _ _=>rfl) (fun _ _=>rfl) rfl)
theorem store_run (f:Fr)(hf:f.wf)(off n:Int)(ak:Int)(av am alo ahi:BitVec 64)(asl ash aof amp aid arm:Int)(anu:Bool)(ha:R.inS ⟨alo,ahi,asl,ash⟩=true):run Tryz.prog ⟨[(65,k_fRight),(114,k_vRight),(115,k_fword),(116,k_fwithin),(130,k_ftouch)],eqs,[],[],[],mixs,meqs,[]⟩ 10000 [] 0 (bodyOf Tryz.f84) (initF Tryz.f84 [frv f,.int .i64 off,.int .i64 n,.agg [.int .u8 ak,.u64 av,.u64 am,.u64 alo,.u64 ahi,.int .i64 asl,.int .i64 ash,.int .i64 aof,.int .i64 amp,.int .i64 aid,.int .i64 arm,.bool anu]]) [] (retK Tryz.prog Tryz.f84 fun x _=>eqv x (.tup [frv (F.store f off n (⟨ak,(⟨⟨av,am⟩,⟨alo,ahi,asl,ash⟩⟩:Sc),aof,amp,aid,arm,anu⟩:Ab)).1,.int .i64 (F.store f off n (⟨ak,(⟨⟨av,am⟩,⟨alo,ahi,asl,ash⟩⟩:Sc),aof,amp,aid,arm,anu⟩:Ab)).2])):=by
 (conv=>whnf)
 (repeat' (first | (refine step_t (by first|rfl|assumption) ?_;(conv=>whnf)) | (refine step_f (by first|rfl|assumption) ?_;(conv=>whnf)) | (refine step_nt (by assumption) ?_;(conv=>whnf)) | (refine step_nf (by assumption) ?_;(conv=>whnf)) | (refine step_n (fun hb => ?_) (fun hb => ?_)<;>(first|contradiction | (conv=>whnf))) | (refine And.intro (fun hb => ?_) (fun hb => ?_)<;>(first|contradiction | (conv=>whnf))) | (refine And.intro (a:=(_:Bool)=true) ?_ ?_;rotate_left 1;(conv=>whnf))))
 all_goals (try simp only[frD_of hf] at *)
 all_goals try first
  |exact frB_of hf
  |exact ha
  |exact(rfl:((8:Int) != 0)=true)
  |rfl
  |exact two_no (by simp only[F.store, *,↓reduceIte,Bool.true_eq_false,Bool.false_eq_true])
  |exact two_same (by simp only[F.store, *,↓reduceIte,Bool.true_eq_false,Bool.false_eq_true])
 all_goals (
  have hw:=F.word_in (n:=n) (by assumption)
  obtain⟨q1,q2,q3⟩:=F.within_in (off:=off) (n:=n) (by assumption) hw.1
  have e8:=quo8 (p:=(F.within off n).1) (by omega) (by omega))
 all_goals first
  |(rw[e8,Int.toNat_natCast];exact decide_eq_true (by omega))
  |(rw[e8,Int.toNat_natCast,Bool.and_eq_true];exact⟨decide_eq_true (by omega),decide_eq_true (by omega)⟩)
  |(rw[frB_of hf]
    simp only[Bool.true_and,Bool.and_eq_true,decide_eq_true_eq]
    omega)
  |(refine two_fr (X:=⟨f.R,f.S.set ((F.within off n).1.toNat / 8) ⟨true,0,(⟨ak,(⟨⟨av,am⟩,⟨alo,ahi,asl,ash⟩⟩:Sc),aof,amp,aid,arm,anu⟩:Ab)⟩,f.ids⟩) (by clear q1 q2 q3 e8 hw;simp only[F.store, *,↓reduceIte,Bool.true_eq_false,Bool.false_eq_true]) (eqv_fr (fun _ _=>rfl) (fun i hi => ?_) rfl)
    rw[e8,Int.toNat_natCast]
    exact(gSet_gOf eS (L:=f.S) (i:=(F.within off n).1.toNat / 8) (a:=⟨true,0,(⟨ak,(⟨⟨av,am⟩,⟨alo,ahi,asl,ash⟩⟩:Sc),aof,amp,aid,arm,anu⟩:Ab)⟩) (by rw[hf.s];omega) rfl rfl i (by rw[hf.s];exact hi)).symm)
def k_fStore:List SV→List Blk→Res:=fun args _=>match args with
 |[.mix [.arr 11 12 g,.arr 64 14 h,.int .i64 ids],.int .i64 off,.int .i64 n,.agg [.int .u8 ak,.u64 av,.u64 am,.u64 alo,.u64 ahi,.int .i64 asl,.int .i64 ash,.int .i64 aof,.int .i64 amp,.int .i64 aid,.int .i64 arm,.bool anu]]=>.test ((frB g h&&(R.inS ⟨alo,ahi,asl,ash⟩))) (.ok (.tup [frv (F.store (frD g h ids) off n (⟨ak,(⟨⟨av,am⟩,⟨alo,ahi,asl,ash⟩⟩:Sc),aof,amp,aid,arm,anu⟩:Ab)).1,.int .i64 (F.store (frD g h ids) off n (⟨ak,(⟨⟨av,am⟩,⟨alo,ahi,asl,ash⟩⟩:Sc),aof,amp,aid,arm,anu⟩:Ab)).2]) [])
 |_=>.fail
theorem k_fStore_ok:CtrOk Tryz.prog Gw 84 k_fStore:=by
 refine⟨fun _ _=>by kernel_rfl,fun args M => ?_⟩
 unfold k_fStore
 split
 . rename_i g h ids off n ak av am alo ahi asl ash aof amp aid arm anu
   intro ht
   rw[Bool.and_eq_true] at ht
   obtain⟨hfr,ht⟩:=ht
   exact ctr_fr (Γ:=⟨[(65,k_fRight),(114,k_vRight),(115,k_fword),(116,k_fwithin),(130,k_ftouch)],eqs,[],[],[],mixs,meqs,[]⟩) (sv:=.tup [frv (F.store (frD g h ids) off n (⟨ak,(⟨⟨av,am⟩,⟨alo,ahi,asl,ash⟩⟩:Sc),aof,amp,aid,arm,anu⟩:Ab)).1,.int .i64 (F.store (frD g h ids) off n (⟨ak,(⟨⟨av,am⟩,⟨alo,ahi,asl,ash⟩⟩:Sc),aof,amp,aid,arm,anu⟩:Ab)).2]) st_Gw ⟨(okCons k_fRight_ok (okCons k_vRight_ok (okCons k_fword_ok (okCons k_fwithin_ok (okCons k_ftouch_ok okNil))))),eqs_ok,okNilB,okNilI,okNilP,mixs_ok,meqs_ok,okNilY⟩ Tryz.func84 rfl mixed [] (by kernel_rfl) 10000 (rest:=[.int .i64 off,.int .i64 n,.agg [.int .u8 ak,.u64 av,.u64 am,.u64 alo,.u64 ahi,.int .i64 asl,.int .i64 ash,.int .i64 aof,.int .i64 amp,.int .i64 aid,.int .i64 arm,.bool anu]]) hfr rfl (store_run _ (frD_wf hfr) off n ak av am alo ahi asl ash aof amp aid arm anu ht)
 . trivial
end Go.Proofs.YtfgkhenhlpoheaaGreat
