import Derived.Test.YtfgkhenhlpoheaaGreatM24
set_option linter.all false
namespace Go.Proofs.YtfgkhenhlpoheaaGreat
open Go.RowKit Go.Sx
set_option maxRecDepth 100000
set_option maxHeartbeats 4000000
theorem load_run (f:Fr)(hf:f.wf)(off n:Int)(sg:Bool):run Tryz.prog ⟨[(65,k_fRight),(115,k_fword),(116,k_fwithin),(117,k_fready),(118,k_fpart)],eqs,[],[],[],mixs,meqs,[]⟩ 10000 [] 0 (bodyOf Tryz.f67) (initF Tryz.f67 [frv f,.int .i64 off,.int .i64 n,.bool sg]) [] (retK Tryz.prog Tryz.f67 fun x _=>eqv x (.tup [abv (F.load f off n sg).1,.int .i64 (F.load f off n sg).2])):=by
 (conv=>whnf)
 (repeat' (first | (refine step_t (by first|rfl|assumption) ?_;(conv=>whnf)) | (refine step_f (by first|rfl|assumption) ?_;(conv=>whnf)) | (refine step_nt (by assumption) ?_;(conv=>whnf)) | (refine step_nf (by assumption) ?_;(conv=>whnf)) | (refine step_n (fun hb => ?_) (fun hb => ?_)<;>(first|contradiction | (conv=>whnf))) | (refine And.intro (fun hb => ?_) (fun hb => ?_)<;>(first|contradiction | (conv=>whnf))) | (refine And.intro (a:=(_:Bool)=true) ?_ ?_;rotate_left 1;(conv=>whnf))))
 all_goals (try simp only[frD_of hf] at *)
 all_goals try first
  |exact frB_of hf
  |exact(rfl:((8:Int) != 0)=true)
  |rfl
  |(refine two_zero ?_;simp only[F.load, *,noSl_eq,↓reduceIte,Bool.true_eq_false,Bool.false_eq_true];done)
 all_goals (
  have hw:=F.word_in (n:=n) (by assumption)
  obtain⟨q1,q2,q3⟩:=F.within_in (off:=off) (n:=n) (by assumption) hw.1
  have e8:=quo8 (p:=(F.within off n).1) (by omega) (by omega)
  have r8:=rem8 (p:=(F.within off n).1) (by omega))
 all_goals (try simp only[e8,Int.toNat_natCast] at *)
 all_goals first
  |exact decide_eq_true (by omega)
  |(rw[Bool.and_eq_true];exact⟨decide_eq_true (by omega),decide_eq_true (by omega)⟩)
  |(rw[frB_of hf]
    simp only[Bool.true_and,Bool.and_eq_true,decide_eq_true_eq]
    omega)
  |(have hin:=inS_at hf.si (i:=(F.within off n).1.toNat / 8) (by rw[hf.s];omega)
    rw[Bool.and_eq_true,Bool.and_eq_true]
    exact⟨hin,decide_eq_true (by omega),decide_eq_true (by omega)⟩)
  |(clear q1 q2 q3 e8 hw r8
    first
    |(refine two_zero ?_;simp only[F.load, *,noSl_eq,↓reduceIte,Bool.true_eq_false,Bool.false_eq_true];done)
    |(refine two_ab (X:=(f.S.getD ((F.within off n).1.toNat / 8) noSl).a) ?_;simp only[F.load, *,noSl_eq,↓reduceIte,Bool.true_eq_false,Bool.false_eq_true];done)
    |exact two_ab (X:=F.part (f.S.getD ((F.within off n).1.toNat / 8) noSl) ((F.within off n).1.tmod 8) n sg) (by simp only[F.load, *,noSl_eq,↓reduceIte,Bool.true_eq_false,Bool.false_eq_true]))
def k_fLoad:List SV→List Blk→Res:=fun args _=>match args with
 |[.mix [.arr 11 12 g,.arr 64 14 h,.int .i64 ids],.int .i64 off,.int .i64 n,.bool sg]=>.test (frB g h) (.ok (.tup [abv (F.load (frD g h ids) off n sg).1,.int .i64 (F.load (frD g h ids) off n sg).2]) [])
 |[.mix [.arr 11 12 g,.arr 64 14 h,.int .i64 ids],.int .i64 off,.int .i64 n,.ff]=>.test (frB g h) (.ok (.tup [abv (F.load (frD g h ids) off n false).1,.int .i64 (F.load (frD g h ids) off n false).2]) [])
 |_=>.fail
theorem k_fLoad_ok:CtrOk Tryz.prog Gw 67 k_fLoad:=by
 refine⟨fun _ _=>by kernel_rfl,fun args M => ?_⟩
 unfold k_fLoad
 split
 . rename_i g h ids off n sg
   intro ht
   have hfr:frB g h=true:=ht
   exact ctr_fr (Γ:=⟨[(65,k_fRight),(115,k_fword),(116,k_fwithin),(117,k_fready),(118,k_fpart)],eqs,[],[],[],mixs,meqs,[]⟩) (sv:=.tup [abv (F.load (frD g h ids) off n sg).1,.int .i64 (F.load (frD g h ids) off n sg).2]) st_Gw ⟨(okCons k_fRight_ok (okCons k_fword_ok (okCons k_fwithin_ok (okCons k_fready_ok (okCons k_fpart_ok okNil))))),eqs_ok,okNilB,okNilI,okNilP,mixs_ok,meqs_ok,okNilY⟩ Tryz.func67 rfl mixed [] (by kernel_rfl) 10000 (rest:=[.int .i64 off,.int .i64 n,.bool sg]) hfr rfl (load_run _ (frD_wf hfr) off n sg)
 . rename_i g h ids off n
   intro ht
   have hfr:frB g h=true:=ht
   exact ctr_fr (Γ:=⟨[(65,k_fRight),(115,k_fword),(116,k_fwithin),(117,k_fready),(118,k_fpart)],eqs,[],[],[],mixs,meqs,[]⟩) (sv:=.tup [abv (F.load (frD g h ids) off n false).1,.int .i64 (F.load (frD g h ids) off n false).2]) st_Gw ⟨(okCons k_fRight_ok (okCons k_fword_ok (okCons k_fwithin_ok (okCons k_fready_ok (okCons k_fpart_ok okNil))))),eqs_ok,okNilB,okNilI,okNilP,mixs_ok,meqs_ok,okNilY⟩ Tryz.func67 rfl mixed [] (by kernel_rfl) 10000 (rest:=[.int .i64 off,.int .i64 n,.bool false]) hfr rfl (load_run _ (frD_wf hfr) off n false)
 . trivial
end Go.Proofs.YtfgkhenhlpoheaaGreat
