import Derived.Test.YtfgkhenhlpoheaaGreatM26
set_option linter.all false
namespace Go.Proofs.YtfgkhenhlpoheaaGreat
open Go.RowKit Go.Sx
set_option maxRecDepth 100000
set_option maxHeartbeats 4000000
namespace C
theorem low_right {x:Sc}(hx:R.inS x.s=true)(hr:right x=true){n:Int}{sg:Bool}(hn:(W.extB (BitVec.ofInt 64 0) n sg).2=true):right (low x n sg).1=true:=by
 unfold low
 rw[if_pos hn,if_pos hr]
 split
 . exact hr
 . have hc:right (cut x n (tops n))=true:=by
    unfold cut
    split
    . exact hr
    . exact of_any (top_in _ _ _)
   unfold tail
   split
   . split
     . exact hc
     . split
       . exact const_right _
       . exact of_any (wraps_in _ _ _ _)
   . exact hc
end C
namespace F
theorem word_ext {n:Int}{sg:Bool}(h:word n=true):(W.extB (BitVec.ofInt 64 0) n sg).2=true:=by
 simp only[word,Bool.or_eq_true,beq_iff_eq] at h
 rcases h with rfl|rfl|rfl|rfl<;>rfl
theorem number_u {n:Int}{sg:Bool}(h:word n=true):V.number (C.low C.unknown n sg).1=⟨1,(C.low C.unknown n sg).1,0,0,0,0,false⟩:=by
 unfold V.number
 rw[if_pos (C.low_right rfl C.unknown_right (word_ext h))]
theorem number_c {n:Int}{sg:Bool}(h:word n=true)(v:BitVec 64):V.number (C.low (C.const v) n sg).1=⟨1,(C.low (C.const v) n sg).1,0,0,0,0,false⟩:=by
 unfold V.number
 rw[if_pos (C.low_right (C.const_S v) (C.const_right v) (word_ext h))]
theorem rem_same {off:Int}(h0 : -512≤off):((512+off).tmod 8==0)=(off.tmod 8==0):=by
 rw[Bool.eq_iff_iff,beq_iff_eq,beq_iff_eq]
 rw[Int.tmod_eq_emod_of_nonneg (by omega)]
 constructor
 . intro h
   obtain⟨k,hk⟩:=Int.dvd_of_emod_eq_zero h
   exact Int.tmod_eq_zero_of_dvd ⟨k-64,by omega⟩
 . intro h
   obtain⟨k,hk⟩:=Int.dvd_of_tmod_eq_zero h
   omega
end F
theorem two_num {k:Ab×Int}{N:Sc}{c:Int}(h:k=(⟨1,N,0,0,0,0,false⟩,c)):eqv2 (.agg [.int .u8 1,.u64 N.t.v,.u64 N.t.m,.u64 N.s.lo,.u64 N.s.hi,.int .i64 N.s.sl,.int .i64 N.s.sh,.int .i64 0,.int .i64 0,.int .i64 0,.int .i64 0,.ff]) (abv k.1)∧eqvL2 [.int .i64 c] [.int .i64 k.2]:=by
 subst h
 exact⟨by simp[eqv2,eqvL1,eqv1],by simp[eqvL2,eqv2,eqv1]⟩
theorem sh8 {r:Int}(h0:0≤r)(h1:r<8):(BitVec.ofInt 64 (IntKind.i64.wrap (8*r))).toNat=(IntKind.i64.wrap (8*r)).toNat:=by
 rw[i64_of (by omega) (by omega),BitVec.toNat_ofInt];omega
theorem gft_of {off n:Int}(h:(decide (-512≤off)&&(decide (1≤n)&&decide (off+n≤0)))=true) : -512≤off∧1≤n∧off+n≤0:=by
 simp only[Bool.and_eq_true,decide_eq_true_eq] at h;exact h
def k_gtouch:List SV→List Blk→Res:=fun args _=>match args with
 |[.mix [.arr 11 12 g,.arr 64 14 h,.int .i64 ids],.int .i64 off,.int .i64 n]=>.test ((frB g h&&(decide (-512≤off)&&(decide (1≤n)&&decide (off+n≤0))))) (.ok (frv (F.touch (frD g h ids) (512+off) n)) [])
 |_=>.fail
theorem k_gtouch_ok:CtrOk Tryz.prog Gw 86 k_gtouch:=by
 refine⟨fun _ _=>by kernel_rfl,fun args M => ?_⟩
 unfold k_gtouch
 split
 . rename_i g h ids off n
   intro ht
   rw[Bool.and_eq_true] at ht
   obtain⟨hfr,ht⟩:=ht
   exact ctr_fr (Γ:=⟨[(126,k_gset)],eqs,[],[],[],mixs,meqs,[]⟩) (sv:=frv (F.touch (frD g h ids) (512+off) n)) st_Gw ⟨(okCons k_gset_ok okNil),eqs_ok,okNilB,okNilI,okNilP,mixs_ok,meqs_ok,okNilY⟩ Tryz.func86 rfl mixed [] (by kernel_rfl) 10000 (rest:=[.int .i64 off,.int .i64 n]) hfr rfl (F.gtouch_eq (frD g h ids) (gft_of ht).1 (gft_of ht).2.1▸gtouch_run _ (frD_wf hfr) off n (gft_of ht).1 (gft_of ht).2.1 (gft_of ht).2.2)
 . trivial
def k_gready:List SV→List Blk→Res:=fun args _=>match args with
 |[.mix [.arr 11 12 g,.arr 64 14 h,.int .i64 ids],.int .i64 off,.int .i64 n]=>.test ((frB g h&&(decide (-512≤off)&&(decide (1≤n)&&decide (off+n≤0))))) (.ok (.bool (F.ready (frD g h ids) (512+off) n)) [])
 |_=>.fail
theorem k_gready_ok:CtrOk Tryz.prog Gw 79 k_gready:=by
 refine⟨fun _ _=>by kernel_rfl,fun args M => ?_⟩
 unfold k_gready
 split
 . rename_i g h ids off n
   intro ht
   rw[Bool.and_eq_true] at ht
   obtain⟨hfr,ht⟩:=ht
   exact ctr_fr (Γ:=⟨[(126,k_gset)],eqs,[],[],[],mixs,meqs,[]⟩) (sv:=.bool (F.ready (frD g h ids) (512+off) n)) st_Gw ⟨(okCons k_gset_ok okNil),eqs_ok,okNilB,okNilI,okNilP,mixs_ok,meqs_ok,okNilY⟩ Tryz.func79 rfl mixed [] (by kernel_rfl) 10000 (rest:=[.int .i64 off,.int .i64 n]) hfr rfl (F.gready_eq (frD g h ids) (gft_of ht).1 (gft_of ht).2.1▸gready_run _ (frD_wf hfr) off n (gft_of ht).1 (gft_of ht).2.1 (gft_of ht).2.2)
 . trivial
theorem gstore_run (f:Fr)(hf:f.wf)(off n:Int)(ak:Int)(av am alo ahi:BitVec 64)(asl ash aof amp aid arm:Int)(anu:Bool)(ha:R.inS ⟨alo,ahi,asl,ash⟩=true):run Tryz.prog ⟨[(74,k_gRight),(81,k_uRight),(77,k_gpower),(78,k_gwithin),(86,k_gtouch)],eqs,[],[],[],mixs,meqs,[]⟩ 10000 [] 0 (bodyOf Tryz.f44) (initF Tryz.f44 [frv f,.int .i64 off,.int .i64 n,.agg [.int .u8 ak,.u64 av,.u64 am,.u64 alo,.u64 ahi,.int .i64 asl,.int .i64 ash,.int .i64 aof,.int .i64 amp,.int .i64 aid,.int .i64 arm,.bool anu]]) [] (retK Tryz.prog Tryz.f44 fun x _=>eqv x (.tup [frv (F.store f off n (⟨ak,(⟨⟨av,am⟩,⟨alo,ahi,asl,ash⟩⟩:Sc),aof,amp,aid,arm,anu⟩:Ab)).1,.int .i64 (F.store f off n (⟨ak,(⟨⟨av,am⟩,⟨alo,ahi,asl,ash⟩⟩:Sc),aof,amp,aid,arm,anu⟩:Ab)).2])):=by
 (conv=>whnf)
 (repeat' (first | (refine step_t (by first|rfl|assumption) ?_;(conv=>whnf)) | (refine step_f (by first|rfl|assumption) ?_;(conv=>whnf)) | (refine step_nt (by assumption) ?_;(conv=>whnf)) | (refine step_nf (by assumption) ?_;(conv=>whnf)) | (refine step_n (fun hb => ?_) (fun hb => ?_)<;>(first|contradiction | (conv=>whnf))) | (refine And.intro (fun hb => ?_) (fun hb => ?_)<;>(first|contradiction | (conv=>whnf))) | (refine And.intro (a:=(_:Bool)=true) ?_ ?_;rotate_left 1;(conv=>whnf))))
 all_goals (try simp only[frD_of hf,F.inside_eq] at *)
 all_goals try first
  |exact frB_of hf
  |exact ha
  |exact(rfl:((8:Int) != 0)=true)
  |rfl
  |(refine two_no ?_;simp only[F.store, *,↓reduceIte,Bool.true_eq_false,Bool.false_eq_true];done)
 all_goals (
  have hw:=F.word_in (n:=n) (by assumption)
  obtain⟨q1,q2,q3⟩:=F.within_in (off:=off) (n:=n) (by assumption) hw.1
  have e1:IntKind.i64.wrap (512+off)=512+off:=i64_of (by omega) (by omega)
  have e8:=quo8 (p:=512+off) (by omega) (by omega)
  have e9:=F.rem_same q2)
 all_goals (try simp only[e1,e8,Int.toNat_natCast] at *)
 all_goals first
  |exact decide_eq_true (by omega)
  |(rw[Bool.and_eq_true];exact⟨decide_eq_true (by omega),decide_eq_true (by omega)⟩)
  |(rw[frB_of hf]
    simp only[Bool.true_and,Bool.and_eq_true,decide_eq_true_eq]
    omega)
  |(clear q2 q3 hw
    first
    |(refine two_no ?_;simp only[F.store, *,↓reduceIte,Bool.true_eq_false,Bool.false_eq_true];done)
    |(refine two_same (X:=F.touch f (512+off) n) ?_;simp only[F.store, *,↓reduceIte,Bool.true_eq_false,Bool.false_eq_true];done))
  |(refine two_fr (X:=⟨f.R,f.S.set ((512+off).toNat / 8) ⟨true,0,(⟨ak,(⟨⟨av,am⟩,⟨alo,ahi,asl,ash⟩⟩:Sc),aof,amp,aid,arm,anu⟩:Ab)⟩,f.ids⟩) (by clear q2 q3 hw;simp only[F.store, *,↓reduceIte,Bool.true_eq_false,Bool.false_eq_true]) (eqv_fr (fun _ _=>rfl) (fun i hi => ?_) rfl)
    exact(gSet_gOf eS (L:=f.S) (i:=(512+off).toNat / 8) (a:=⟨true,0,(⟨ak,(⟨⟨av,am⟩,⟨alo,ahi,asl,ash⟩⟩:Sc),aof,amp,aid,arm,anu⟩:Ab)⟩) (by rw[hf.s];omega) rfl rfl i (by rw[hf.s];exact hi)).symm)
def k_gStore:List SV→List Blk→Res:=fun args _=>match args with
 |[.mix [.arr 11 12 g,.arr 64 14 h,.int .i64 ids],.int .i64 off,.int .i64 n,.agg [.int .u8 ak,.u64 av,.u64 am,.u64 alo,.u64 ahi,.int .i64 asl,.int .i64 ash,.int .i64 aof,.int .i64 amp,.int .i64 aid,.int .i64 arm,.bool anu]]=>.test ((frB g h&&(R.inS ⟨alo,ahi,asl,ash⟩))) (.ok (.tup [frv (F.store (frD g h ids) off n (⟨ak,(⟨⟨av,am⟩,⟨alo,ahi,asl,ash⟩⟩:Sc),aof,amp,aid,arm,anu⟩:Ab)).1,.int .i64 (F.store (frD g h ids) off n (⟨ak,(⟨⟨av,am⟩,⟨alo,ahi,asl,ash⟩⟩:Sc),aof,amp,aid,arm,anu⟩:Ab)).2]) [])
 |_=>.fail
theorem k_gStore_ok:CtrOk Tryz.prog Gw 44 k_gStore:=by
 refine⟨fun _ _=>by kernel_rfl,fun args M => ?_⟩
 unfold k_gStore
 split
 . rename_i g h ids off n ak av am alo ahi asl ash aof amp aid arm anu
   intro ht
   rw[Bool.and_eq_true] at ht
   obtain⟨hfr,ht⟩:=ht
   exact ctr_fr (Γ:=⟨[(74,k_gRight),(81,k_uRight),(77,k_gpower),(78,k_gwithin),(86,k_gtouch)],eqs,[],[],[],mixs,meqs,[]⟩) (sv:=.tup [frv (F.store (frD g h ids) off n (⟨ak,(⟨⟨av,am⟩,⟨alo,ahi,asl,ash⟩⟩:Sc),aof,amp,aid,arm,anu⟩:Ab)).1,.int .i64 (F.store (frD g h ids) off n (⟨ak,(⟨⟨av,am⟩,⟨alo,ahi,asl,ash⟩⟩:Sc),aof,amp,aid,arm,anu⟩:Ab)).2]) st_Gw ⟨(okCons k_gRight_ok (okCons k_uRight_ok (okCons k_gpower_ok (okCons k_gwithin_ok (okCons k_gtouch_ok okNil))))),eqs_ok,okNilB,okNilI,okNilP,mixs_ok,meqs_ok,okNilY⟩ Tryz.func44 rfl mixed [] (by kernel_rfl) 10000 (rest:=[.int .i64 off,.int .i64 n,.agg [.int .u8 ak,.u64 av,.u64 am,.u64 alo,.u64 ahi,.int .i64 asl,.int .i64 ash,.int .i64 aof,.int .i64 amp,.int .i64 aid,.int .i64 arm,.bool anu]]) hfr rfl (gstore_run _ (frD_wf hfr) off n ak av am alo ahi asl ash aof amp aid arm anu ht)
 . trivial
end Go.Proofs.YtfgkhenhlpoheaaGreat
