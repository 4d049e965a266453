import Derived.Test.YtfgkhenhlpoheaaGreatM10
import Derived.Test.YtfgkhenhlpoheaaGreatM42
set_option linter.all false
namespace Go.Proofs.YtfgkhenhlpoheaaGreat
open Go.RowKit Go.Sx
set_option maxRecDepth 100000
set_option maxHeartbeats 4000000
attribute [local irreducible] A.load F.start
theorem awake_run:run Tryz.prog ⟨[(6,k_fStart),(8,k_kind0),(5,k_cConst)],eqs,[],[],[],mixs,meqs,[(9,k_aLoad)]⟩ 10000 [(3,15,[0,1,3,7,15,31,63,127,255,511,1023,2047,4095,8191,1023,32767,65535,131071,262143,524287,1048575,2097151])] 0 (bodyOf Tryz.f4) (initF Tryz.f4 []) [] (retK Tryz.prog Tryz.f4 fun x _=>eqv x (.bool true)):=by
 (conv=>whnf)
 (repeat' (first | (refine And.intro (a:=keepP _ _ _) (by first|exact⟨rfl,rfl,rfl,rfl,trivial⟩|exact⟨rfl,rfl,rfl,trivial⟩|exact⟨rfl,rfl,trivial⟩|exact⟨rfl,trivial⟩) ?_;(conv=>whnf)) | (refine step_t (by first|rfl|assumption) ?_;(conv=>whnf)) | (refine step_f (by first|rfl|assumption) ?_;(conv=>whnf)) | (refine step_nt (by assumption) ?_;(conv=>whnf)) | (refine step_nf (by assumption) ?_;(conv=>whnf)) | (refine step_n (fun hb => ?_) (fun hb => ?_)<;>(first|contradiction | (conv=>whnf))) | (refine And.intro (fun hb => ?_) (fun hb => ?_)<;>(first|contradiction | (conv=>whnf))) | (refine And.intro (a:=(_:Bool)=true) ?_ ?_;rotate_left 1;(conv=>whnf)) | (intro hb;(conv=>whnf))))
 all_goals (try simp only[kt_is,kt_dec,nilM_is,nilM_dec,frD_of F.start_wf,frB_of F.start_wf,aw_1,frD_of f1_wf,frB_of f1_wf,aw_2] at *)
 all_goals first
 |rfl
 |trivial
 |(show true=false
   exact absurd (hb.symm.trans (show _=true by kernel_rfl)) Bool.false_ne_true)
 |(simp;done)
 |(show _=true;kernel_rfl)
def k_awake:List SV→List Blk→Res:=fun args _=>match args with
 |[]=>.ok (.bool true) []
 |_=>.fail
theorem k_awake_ok:CtrOk Tryz.prog Gw 4 k_awake:=by
 refine⟨fun _ _=>by kernel_rfl,fun args M => ?_⟩
 unfold k_awake
 split
 . exact ctr_flat (Γ:=⟨[(6,k_fStart),(8,k_kind0),(5,k_cConst)],eqs,[],[],[],mixs,meqs,[(9,k_aLoad)]⟩) (sv:=.bool true) st_Gw ⟨(okCons k_fStart_ok (okCons k_kind0_ok (okCons k_cConst_ok okNil))),eqs_ok,okNilB,okNilI,okNilP,mixs_ok,meqs_ok,(okConsY k_aLoad_ok okNilY)⟩ Tryz.func4 rfl mixed [(3,15,[0,1,3,7,15,31,63,127,255,511,1023,2047,4095,8191,1023,32767,65535,131071,262143,524287,1048575,2097151])] (by kernel_rfl) 10000 (by rfl) awake_run
 . trivial
end Go.Proofs.YtfgkhenhlpoheaaGreat
