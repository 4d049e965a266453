import Derived.Test.YtfgkhenhlpoheaaGreatM28
set_option linter.all false
namespace Go.Proofs.YtfgkhenhlpoheaaGreat
open Go.RowKit Go.Sx
set_option maxRecDepth 100000
set_option maxHeartbeats 4000000
theorem C.unknown_S:R.inS C.unknown.s=true:=rfl
attribute [local irreducible] C.low C.one C.const C.unknown V.number
theorem gload_run (f:Fr)(hf:f.wf)(off n:Int)(sg:Bool):run Tryz.prog ⟨[(74,k_gRight),(77,k_gpower),(78,k_gwithin),(79,k_gready),(76,k_qUnknown),(62,k_qOne),(33,k_qConst),(75,k_qLow)],eqs,[],[],[],mixs,meqs,[]⟩ 10000 [] 0 (bodyOf Tryz.f31) (initF Tryz.f31 [frv f,.int .i64 off,.int .i64 n,.bool sg]) [] (retK Tryz.prog Tryz.f31 fun x _=>eqv x (.tup [abv (F.load f off n sg).1,.int .i64 (F.load f off n sg).2])):=by
 (conv=>whnf)
 (repeat' (first | (refine step_t (by first|rfl|assumption) ?_;(conv=>whnf)) | (refine step_f (by first|rfl|assumption) ?_;(conv=>whnf)) | (refine step_nt (by assumption) ?_;(conv=>whnf)) | (refine step_nf (by assumption) ?_;(conv=>whnf)) | (refine step_n (fun hb => ?_) (fun hb => ?_)<;>(first|contradiction | (conv=>whnf))) | (refine And.intro (fun hb => ?_) (fun hb => ?_)<;>(first|contradiction | (conv=>whnf))) | (refine And.intro (a:=(_:Bool)=true) ?_ ?_;rotate_left 1;(conv=>whnf))))
 all_goals (try simp only[frD_of hf,F.inside_eq] at *)
 all_goals try first
  |exact frB_of hf
  |exact(rfl:((8:Int) != 0)=true)
  |rfl
  |(refine two_zero ?_;simp only[F.load,F.part, *,noSl_eq,↓reduceIte,Bool.true_eq_false,Bool.false_eq_true];done)
 all_goals (
  have hwd:F.word n=true:=by assumption
  have hnu:=F.number_u (n:=n) (sg:=sg) hwd
  have hnc:=F.number_c (n:=n) (sg:=sg) hwd
  have hw:=F.word_in hwd
  obtain⟨q1,q2,q3⟩:=F.within_in (off:=off) (n:=n) (by assumption) hw.1
  have e1:IntKind.i64.wrap (512+off)=512+off:=i64_of (by omega) (by omega)
  have e8:=quo8 (p:=512+off) (by omega) (by omega)
  have r8:=rem8 (p:=512+off) (by omega)
  have e7:=sh8 r8.1 r8.2)
 all_goals (try simp only[e1,e8,e7,Int.toNat_natCast] at *)
 all_goals first
  |exact decide_eq_true (by omega)
  |(rw[Bool.and_eq_true];exact⟨decide_eq_true (by omega),decide_eq_true (by omega)⟩)
  |(rw[frB_of hf]
    simp only[Bool.true_and,Bool.and_eq_true,decide_eq_true_eq]
    omega)
  |exact C.const_S _
  |exact C.unknown_S
  |exact inS_at hf.si (i:=(512+off).toNat / 8) (by rw[hf.s];omega)
  |(clear q2 q3 hw r8
    first
    |(refine two_zero ?_;simp only[F.load,F.part, *,noSl_eq,↓reduceIte,Bool.true_eq_false,Bool.false_eq_true];done)
    |(refine two_ab (X:=(f.S.getD ((512+off).toNat / 8) noSl).a) ?_;simp only[F.load,F.part, *,noSl_eq,↓reduceIte,Bool.true_eq_false,Bool.false_eq_true];done)
    |(refine two_num (N:=(C.low C.unknown n sg).1) ?_;simp only[F.load,F.part, *,noSl_eq,↓reduceIte,Bool.true_eq_false,Bool.false_eq_true];done)
    |(refine two_num (N:=(C.low (C.const ((C.one (f.S.getD ((512+off).toNat / 8) eS.dft).a.n).1 >>> (IntKind.i64.wrap (8*((512+off).tmod 8))).toNat)) n sg).1) ?_;simp only[F.load,F.part, *,noSl_eq,↓reduceIte,Bool.true_eq_false,Bool.false_eq_true];done))
def k_gLoad:List SV→List Blk→Res:=fun args _=>match args with
 |[.mix [.arr 11 12 g,.arr 64 14 h,.int .i64 ids],.int .i64 off,.int .i64 n,.bool sg]=>.test (frB g h) (.ok (.tup [abv (F.load (frD g h ids) off n sg).1,.int .i64 (F.load (frD g h ids) off n sg).2]) [])
 |_=>.fail
theorem k_gLoad_ok:CtrOk Tryz.prog Gw 31 k_gLoad:=by
 refine⟨fun _ _=>by kernel_rfl,fun args M => ?_⟩
 unfold k_gLoad
 split
 . rename_i g h ids off n sg
   intro ht
   have hfr:frB g h=true:=ht
   exact ctr_fr (Γ:=⟨[(74,k_gRight),(77,k_gpower),(78,k_gwithin),(79,k_gready),(76,k_qUnknown),(62,k_qOne),(33,k_qConst),(75,k_qLow)],eqs,[],[],[],mixs,meqs,[]⟩) (sv:=.tup [abv (F.load (frD g h ids) off n sg).1,.int .i64 (F.load (frD g h ids) off n sg).2]) st_Gw ⟨(okCons k_gRight_ok (okCons k_gpower_ok (okCons k_gwithin_ok (okCons k_gready_ok (okCons k_qUnknown_ok (okCons k_qOne_ok (okCons k_qConst_ok (okCons k_qLow_ok okNil)))))))),eqs_ok,okNilB,okNilI,okNilP,mixs_ok,meqs_ok,okNilY⟩ Tryz.func31 rfl mixed [] (by kernel_rfl) 10000 (rest:=[.int .i64 off,.int .i64 n,.bool sg]) hfr rfl (gload_run _ (frD_wf hfr) off n sg)
 . trivial
end Go.Proofs.YtfgkhenhlpoheaaGreat
