import Derived.Test.YtfgkhenhlpoheaaGreatM23
set_option linter.all false
namespace Go.Proofs.YtfgkhenhlpoheaaGreat
open Go.RowKit Go.Sx
set_option maxRecDepth 100000
set_option maxHeartbeats 4000000
namespace C
theorem const_S (n:BitVec 64):R.inS (const n).s=true:=S.inS_iff.2 ⟨S.sv_in n,S.sv_in n⟩
theorem low_in {x:Sc}(h:R.inS x.s=true)(n:Int)(sg:Bool):R.inS (low x n sg).1.s=true:=by
 unfold low
 split
 . split
   . split
     . exact h
     . unfold tail
       split
       . split
         . exact cut_in h _ _
         . split
           . exact const_S _
           . exact of_in (wraps_in _ _ _ _)
       . exact cut_in h _ _
   . rfl
 . rfl
end C
theorem ab_eqv {X Y:Ab}(h:X=Y):eqvL1 (match abv X with | .agg l=>l|_=>[]) (match abv Y with | .agg l=>l|_=>[]):=by
 subst h
 simp[abv,eqvL1,eqv1]
theorem two_ab {k:Ab×Int}{X:Ab}{c:Int}(h:k=(X,c)):eqv2 (abv X) (abv k.1)∧eqvL2 [.int .i64 c] [.int .i64 k.2]:=by
 subst h
 exact⟨ab_eqv rfl,by simp[eqvL2,eqv2,eqv1]⟩
theorem rem8 {p:Int}(h:0≤p):0≤p.tmod 8∧p.tmod 8<8:=by
 rw[Int.tmod_eq_emod_of_nonneg h];omega
theorem noSl_eq:noSl=eS.dft:=rfl
theorem two_zero {k:Ab×Int}{c:Int}(h:k=(V.zero,c)):eqv2 (.agg [.int .u8 0,.u64 (BitVec.ofInt 64 0),.u64 (BitVec.ofInt 64 0),.u64 (BitVec.ofInt 64 0),.u64 (BitVec.ofInt 64 0),.int .i64 0,.int .i64 0,.int .i64 0,.int .i64 0,.int .i64 0,.int .i64 0,.ff]) (abv k.1)∧eqvL2 [.int .i64 c] [.int .i64 k.2]:=by
 subst h
 exact⟨by simp[eqv2,eqvL1,eqv1,V.zero,V.zs],by simp[eqvL2,eqv2,eqv1]⟩
def k_fpart:List SV→List Blk→Res:=fun args _=>match args with
 |[.agg [.bool w,.int .u8 st,.int .u8 ak,.u64 av,.u64 am,.u64 alo,.u64 ahi,.int .i64 asl,.int .i64 ash,.int .i64 aof,.int .i64 amp,.int .i64 aid,.int .i64 arm,.bool anu],.int .i64 r,.int .i64 n,.bool sg]=>.test (R.inS ⟨alo,ahi,asl,ash⟩&&(decide (0≤r)&&decide (r<8))) (.ok (abv (F.part (⟨w,st,(⟨ak,(⟨⟨av,am⟩,⟨alo,ahi,asl,ash⟩⟩:Sc),aof,amp,aid,arm,anu⟩:Ab)⟩:Sl) r n sg)) [])
 |_=>.fail
theorem k_fpart_ok:CtrOk Tryz.prog Gw 118 k_fpart:=by
 refine⟨fun _ _=>by kernel_rfl,fun args M => ?_⟩
 unfold k_fpart
 split
 . rename_i w st ak av am alo ahi asl ash aof amp aid arm anu r n sg
   intro ht
   refine ctr_flat (Γ:=⟨[(121,k_cUnknown),(97,k_cOne),(5,k_cConst),(120,k_cLow),(37,k_vNumber)],eqs,[],[],[],mixs,meqs,[]⟩) (sv:=abv (F.part (⟨w,st,(⟨ak,(⟨⟨av,am⟩,⟨alo,ahi,asl,ash⟩⟩:Sc),aof,amp,aid,arm,anu⟩:Ab)⟩:Sl) r n sg)) st_Gw ⟨(okCons k_cUnknown_ok (okCons k_cOne_ok (okCons k_cConst_ok (okCons k_cLow_ok (okCons k_vNumber_ok okNil))))),eqs_ok,okNilB,okNilI,okNilP,mixs_ok,meqs_ok,okNilY⟩ Tryz.func118 rfl mixed [] (by kernel_rfl) 10000 (by rfl) ?_
   have hin:=S.and_true2 ht |>.1
   (conv=>whnf)
   (repeat' (first | (refine step_t (by first|rfl|assumption) ?_;(conv=>whnf)) | (refine step_f (by first|rfl|assumption) ?_;(conv=>whnf)) | (refine step_nt (by assumption) ?_;(conv=>whnf)) | (refine step_nf (by assumption) ?_;(conv=>whnf)) | (refine step_n (fun hb => ?_) (fun hb => ?_)<;>(first|contradiction | (conv=>whnf))) | (refine And.intro (fun hb => ?_) (fun hb => ?_)<;>(first|contradiction | (conv=>whnf))) | (refine And.intro (a:=(_:Bool)=true) ?_ ?_;rotate_left 1;(conv=>whnf))))
   all_goals (first
    |rfl
    |assumption
    |exact C.const_S _
    |exact C.low_in rfl _ _
    |exact C.low_in (C.const_S _) _ _
    |(simp only[Bool.and_eq_true,decide_eq_true_eq] at ht
      refine decide_eq_true ?_
      rw[i64_of (by omega) (by omega)];omega)
    |exact ab_eqv (X:=V.number (C.low C.unknown n sg).1) (by simp only[F.part, *,↓reduceIte,Bool.true_eq_false,Bool.false_eq_true])
    |exact ab_eqv (X:=V.number (C.low (C.const ((C.one (⟨ak,(⟨⟨av,am⟩,⟨alo,ahi,asl,ash⟩⟩:Sc),aof,amp,aid,arm,anu⟩:Ab).n).1 >>> (IntKind.i64.wrap (8*r)).toNat)) n sg).1) (by simp only[F.part, *,↓reduceIte,Bool.true_eq_false,Bool.false_eq_true]))
 . trivial
end Go.Proofs.YtfgkhenhlpoheaaGreat
