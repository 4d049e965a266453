import Derived.Test.YtfgkhenhlpoheaaGreatM26
import Derived.Test.YtfgkhenhlpoheaaGreatM10
import Derived.Test.YtfgkhenhlpoheaaGreatM12
set_option linter.all false
namespace Go.Proofs.YtfgkhenhlpoheaaGreat
open Go.RowKit Go.Sx
set_option maxRecDepth 100000
set_option maxHeartbeats 4000000
@[reducible] def ZHL:List SV:=[.int .i64 0,.int .i64 0,.int .i64 0,.int .u8 0,.val (.slice none 0 0),.int .u8 0,.int .i64 0,.int .i64 0,.int .i64 0]
@[reducible] def ZHF:List FV:=[.int .i64 0,.int .i64 0,.int .i64 0,.int .u8 0,.val (.slice none 0 0),.int .u8 0,.int .i64 0,.int .i64 0,.int .i64 0]
def zhB:List SV→Bool
 |[.int .i64 a,.int .i64 b,.int .i64 c,.int .u8 d,.val (.slice none n m),.int .u8 e,.int .i64 f,.int .i64 g,.int .i64 h]=>decide (a=0)&&(decide (b=0)&&(decide (c=0)&&(decide (d=0)&&(Nat.beq n 0&&(Nat.beq m 0&&(decide (e=0)&&(decide (f=0)&&(decide (g=0)&&decide (h=0)))))))))
 |_=>false
theorem zhB_eq {l:List SV}(h:zhB l=true):l=ZHL:=by
 unfold zhB at h
 split at h
 . simp only[Bool.and_eq_true,decide_eq_true_eq] at h
   obtain⟨rfl,rfl,rfl,rfl,h5,h6,rfl,rfl,rfl,rfl⟩:=h
   obtain rfl:=Nat.eq_of_beq_eq_true h5
   obtain rfl:=Nat.eq_of_beq_eq_true h6
   rfl
 . cases h
def zhF:List FV→Bool
 |[.int .i64 a,.int .i64 b,.int .i64 c,.int .u8 d,.val (.slice none n m),.int .u8 e,.int .i64 f,.int .i64 g,.int .i64 h]=>decide (a=0)&&(decide (b=0)&&(decide (c=0)&&(decide (d=0)&&(Nat.beq n 0&&(Nat.beq m 0&&(decide (e=0)&&(decide (f=0)&&(decide (g=0)&&decide (h=0)))))))))
 |_=>false
theorem zhF_eq {l:List FV}(h:zhF l=true):l=ZHF:=by
 unfold zhF at h
 split at h
 . simp only[Bool.and_eq_true,decide_eq_true_eq] at h
   obtain⟨rfl,rfl,rfl,rfl,h5,h6,rfl,rfl,rfl,rfl⟩:=h
   obtain rfl:=Nat.eq_of_beq_eq_true h5
   obtain rfl:=Nat.eq_of_beq_eq_true h6
   rfl
 . cases h
theorem help0_run:run Tryz.prog ⟨[],eqs,[],[(87,Tryz.f87,[]),(88,Tryz.f88,[]),(131,Tryz.f131,[])],[],mixs,meqs,[]⟩ 10000 [(9,8,[0,0,0,4,0,16,48,124,255,511,1023])] 0 (bodyOf Tryz.f45) (initF Tryz.f45 [.agg ZHL]) [] (retK Tryz.prog Tryz.f45 fun x _=>eqv x (.int .i64 34)):=by
 (conv=>whnf)
 (repeat' (first | (refine And.intro (a:=keepP _ _ _) (by first|exact⟨rfl,rfl,rfl,rfl,trivial⟩|exact⟨rfl,rfl,rfl,trivial⟩|exact⟨rfl,rfl,trivial⟩|exact⟨rfl,trivial⟩) ?_;(conv=>whnf)) | (refine step_t (by first|rfl|assumption) ?_;(conv=>whnf)) | (refine step_f (by first|rfl|assumption) ?_;(conv=>whnf)) | (refine step_nt (by assumption) ?_;(conv=>whnf)) | (refine step_nf (by assumption) ?_;(conv=>whnf)) | (refine step_n (fun hb => ?_) (fun hb => ?_)<;>(first|contradiction | (conv=>whnf))) | (refine And.intro (fun hb => ?_) (fun hb => ?_)<;>(first|contradiction | (conv=>whnf))) | (refine And.intro (a:=(_:Bool)=true) ?_ ?_;rotate_left 1;(conv=>whnf)) | (intro hb;(conv=>whnf))))
 all_goals first
 |rfl
 |trivial
 |exact⟨rfl,rfl⟩
def k_help0:List SV→List Blk→Res:=fun args _=>match args with
 |[.agg l]=>.test (zhB l) (.ok (.int .i64 34) [])
 |_=>.fail
theorem k_help0_ok:CtrOk Tryz.prog Gw 45 k_help0:=by
 refine⟨fun _ _=>by kernel_rfl,fun args M => ?_⟩
 unfold k_help0
 split
 . rename_i l
   intro ht
   obtain rfl:=zhB_eq ht
   exact ctr_flat (Γ:=⟨[],eqs,[],[(87,Tryz.f87,[]),(88,Tryz.f88,[]),(131,Tryz.f131,[])],[],mixs,meqs,[]⟩) (sv:=.int .i64 34) st_Gw ⟨okNil,eqs_ok,okNilB,(okConsI Tryz.func87 rfl (by kernel_rfl) (fun _ _=>by kernel_rfl) (okConsI Tryz.func88 rfl (by kernel_rfl) (fun _ _=>by kernel_rfl) (okConsI Tryz.func131 rfl (by kernel_rfl) (fun _ _=>by kernel_rfl) okNilI))),okNilP,mixs_ok,meqs_ok,okNilY⟩ Tryz.func45 rfl mixed [(9,8,[0,0,0,4,0,16,48,124,255,511,1023])] (by kernel_rfl) 10000 (by rfl) help0_run
 . trivial
attribute [local irreducible] F.right
theorem call0_run (f:Fr)(hf:f.wf)(maps:List Mp)(hm:maps.length≤140737488355328):run Tryz.prog ⟨[(45,k_help0),(65,k_fRight)],eqs,[],[(18,Tryz.f18,[(1,16,[0,0,0,7,15,0,32,96,224,480,992,2016,4064,8160,16352,16383,65535])])],[],mixt,meqs,[]⟩ 10000 [(10,6,[0,0,2,6,15,0,63,127]),(17,11,[0,1,3,7,0,0,32,112,15,271,783,2047,4095])] 0 (bodyOf Tryz.f16) (initF Tryz.f16 [frv f,.agg ZHL,.sl 0 4 0 maps.length]) [.ro 4 maps.length (gOf eM maps)] (retK Tryz.prog Tryz.f16 fun x _=>eqv x (.tup [frv F.none,.int .i64 2])):=by
 (conv=>whnf)
 (repeat' (first | (refine And.intro (a:=keepP _ _ _) (by first|exact⟨rfl,rfl,rfl,rfl,trivial⟩|exact⟨rfl,rfl,rfl,trivial⟩|exact⟨rfl,rfl,trivial⟩|exact⟨rfl,trivial⟩) ?_;(conv=>whnf)) | (refine step_t (by first|rfl|assumption) ?_;(conv=>whnf)) | (refine step_f (by first|rfl|assumption) ?_;(conv=>whnf)) | (refine step_nt (by assumption) ?_;(conv=>whnf)) | (refine step_nf (by assumption) ?_;(conv=>whnf)) | (refine step_n (fun hb => ?_) (fun hb => ?_)<;>(first|contradiction | (conv=>whnf))) | (refine And.intro (fun hb => ?_) (fun hb => ?_)<;>(first|contradiction | (conv=>whnf))) | (refine And.intro (a:=(_:Bool)=true) ?_ ?_;rotate_left 1;(conv=>whnf)) | (intro hb;(conv=>whnf))))
 all_goals (try simp only[frD_of hf,frB_of hf] at *)
 all_goals first
 |rfl
 |trivial
 |exact frB_of hf
 |exact two_no rfl
 |(simp;done)
def k_call0:YC:=fun args M K=>match args with
 | .mix [.arr 11 12 g,.arr 64 14 h,.int .i64 ids] :: .agg l::rest=>match topA eltB M rest with
   |some (b,[.one vm])=>b=true∧(frB g h&&(zhB l&&(cM.isR 4 vm&&decide ((cM.decR 4 vm).length≤140737488355328))))=true∧(true=true→K none (.tup [frv F.none,.int .i64 2]) M)
   |_=>False
 |_=>False
theorem k_call0_ok:YCtrOk Tryz.prog Gw 16 k_call0:=by
 refine⟨fun _ _=>by kernel_rfl,fun args M K hk hsc hwf => ?_⟩
 unfold k_call0 at hk
 split at hk
 . rename_i g h ids l rest
   split at hk
   . rename_i b vm hv
     obtain⟨hb,hc,hK⟩:=hk
     simp only[Bool.and_eq_true,decide_eq_true_eq] at hc
     obtain⟨c1,c2,c3,c4⟩:=hc
     obtain rfl:=zhB_eq c2
     exact yctr_topm (Γ:=⟨[(45,k_help0),(65,k_fRight)],eqs,[],[(18,Tryz.f18,[(1,16,[0,0,0,7,15,0,32,96,224,480,992,2016,4064,8160,16352,16383,65535])])],[],mixt,meqs,[]⟩) (pre:=[.mix [.arr 11 12 g,.arr 64 14 h,.int .i64 ids],.agg ZHL]) (pre0:=[frv (frD g h ids),.agg ZHL]) st_Gw ⟨(okCons k_help0_ok (okCons k_fRight_ok okNil)),eqs_ok,okNilB,(okConsI Tryz.func18 rfl (by kernel_rfl) (fun _ _=>by kernel_rfl) okNilI),okNilP,mixt_ok,meqs_ok,okNilY⟩ Tryz.func16 rfl mixed [(10,6,[0,0,2,6,15,0,63,127]),(17,11,[0,1,3,7,0,0,32,112,15,271,783,2047,4095])] (by kernel_rfl) 10000 [.one (.row 4 (cM.decR 4 vm).length (cM.g (cM.decR 4 vm)))] (fun ρ ρ'=>congrArg (fun x=>[x,(SV.agg ZHL).den ρ]) (frv_den c1 ρ').symm) rfl hv hb ⟨Cel.isR_dec c3,trivial⟩ rfl (fun x=>eqv x (.tup [frv F.none,.int .i64 2])) (call0_run (frD g h ids) (frD_wf c1) (cM.decR 4 vm) c4) (fun x hx=>⟨_,eqv_den hx,hK rfl⟩) hwf
   . exact hk.elim
 . exact hk.elim
theorem ghelp0_run:run Tryz.prog ⟨[],eqs,[],[(103,Tryz.f103,[]),(104,Tryz.f104,[]),(148,Tryz.f148,[])],[],mixs,meqs,[]⟩ 10000 [] 0 (bodyOf Tryz.f59) (initF Tryz.f59 [.agg ZHL]) [] (retK Tryz.prog Tryz.f59 fun x _=>eqv x (.int .i64 34)):=by
 (conv=>whnf)
 (repeat' (first | (refine And.intro (a:=keepP _ _ _) (by first|exact⟨rfl,rfl,rfl,rfl,trivial⟩|exact⟨rfl,rfl,rfl,trivial⟩|exact⟨rfl,rfl,trivial⟩|exact⟨rfl,trivial⟩) ?_;(conv=>whnf)) | (refine step_t (by first|rfl|assumption) ?_;(conv=>whnf)) | (refine step_f (by first|rfl|assumption) ?_;(conv=>whnf)) | (refine step_nt (by assumption) ?_;(conv=>whnf)) | (refine step_nf (by assumption) ?_;(conv=>whnf)) | (refine step_n (fun hb => ?_) (fun hb => ?_)<;>(first|contradiction | (conv=>whnf))) | (refine And.intro (fun hb => ?_) (fun hb => ?_)<;>(first|contradiction | (conv=>whnf))) | (refine And.intro (a:=(_:Bool)=true) ?_ ?_;rotate_left 1;(conv=>whnf)) | (intro hb;(conv=>whnf))))
 all_goals first
 |rfl
 |trivial
 |exact⟨rfl,rfl⟩
def k_ghelp0:List SV→List Blk→Res:=fun args _=>match args with
 |[.agg l]=>.test (zhB l) (.ok (.int .i64 34) [])
 |_=>.fail
theorem k_ghelp0_ok:CtrOk Tryz.prog Gw 59 k_ghelp0:=by
 refine⟨fun _ _=>by kernel_rfl,fun args M => ?_⟩
 unfold k_ghelp0
 split
 . rename_i l
   intro ht
   obtain rfl:=zhB_eq ht
   exact ctr_flat (Γ:=⟨[],eqs,[],[(103,Tryz.f103,[]),(104,Tryz.f104,[]),(148,Tryz.f148,[])],[],mixs,meqs,[]⟩) (sv:=.int .i64 34) st_Gw ⟨okNil,eqs_ok,okNilB,(okConsI Tryz.func103 rfl (by kernel_rfl) (fun _ _=>by kernel_rfl) (okConsI Tryz.func104 rfl (by kernel_rfl) (fun _ _=>by kernel_rfl) (okConsI Tryz.func148 rfl (by kernel_rfl) (fun _ _=>by kernel_rfl) okNilI))),okNilP,mixs_ok,meqs_ok,okNilY⟩ Tryz.func59 rfl mixed [] (by kernel_rfl) 10000 (by rfl) ghelp0_run
 . trivial
theorem gcall0_run (f:Fr)(hf:f.wf)(maps:List Mp)(hm:maps.length≤140737488355328):run Tryz.prog ⟨[(59,k_ghelp0),(74,k_gRight)],eqs,[],[(27,Tryz.f27,[])],[],mixt,meqs,[]⟩ 10000 [(28,12,[0,0,2,7,15,31,63,31,31,415,927,1951,4095,8191,16383]),(46,17,[0,1,3,7,15,31,63,127,255,511,63,1087,63,4159,15423,31807,64575,131071,262143,524287]),(57,13,[0,0,2,6,0,16,48,126,255,511,1023,1023,0,6143,16383]),(61,8,[0,0,2,0,8,24,63,0,255,511]),(63,6,[0,0,2,0,15,0,63,127])] 0 (bodyOf Tryz.f17) (initF Tryz.f17 [frv f,.agg ZHL,.sl 0 4 0 maps.length]) [.ro 4 maps.length (gOf eM maps)] (retK Tryz.prog Tryz.f17 fun x _=>eqv x (.tup [frv F.none,.int .i64 2])):=by
 (conv=>whnf)
 (repeat' (first | (refine And.intro (a:=keepP _ _ _) (by first|exact⟨rfl,rfl,rfl,rfl,trivial⟩|exact⟨rfl,rfl,rfl,trivial⟩|exact⟨rfl,rfl,trivial⟩|exact⟨rfl,trivial⟩) ?_;(conv=>whnf)) | (refine step_t (by first|rfl|assumption) ?_;(conv=>whnf)) | (refine step_f (by first|rfl|assumption) ?_;(conv=>whnf)) | (refine step_nt (by assumption) ?_;(conv=>whnf)) | (refine step_nf (by assumption) ?_;(conv=>whnf)) | (refine step_n (fun hb => ?_) (fun hb => ?_)<;>(first|contradiction | (conv=>whnf))) | (refine And.intro (fun hb => ?_) (fun hb => ?_)<;>(first|contradiction | (conv=>whnf))) | (refine And.intro (a:=(_:Bool)=true) ?_ ?_;rotate_left 1;(conv=>whnf)) | (intro hb;(conv=>whnf))))
 all_goals (try simp only[frD_of hf,frB_of hf] at *)
 all_goals first
 |rfl
 |trivial
 |exact frB_of hf
 |exact two_no rfl
 |(simp;done)
def k_gcall0:YC:=fun args M K=>match args with
 | .mix [.arr 11 12 g,.arr 64 14 h,.int .i64 ids] :: .agg l::rest=>match topA eltB M rest with
   |some (b,[.one vm])=>b=true∧(frB g h&&(zhB l&&(cM.isR 4 vm&&decide ((cM.decR 4 vm).length≤140737488355328))))=true∧(true=true→K none (.tup [frv F.none,.int .i64 2]) M)
   |_=>False
 |_=>False
theorem k_gcall0_ok:YCtrOk Tryz.prog Gw 17 k_gcall0:=by
 refine⟨fun _ _=>by kernel_rfl,fun args M K hk hsc hwf => ?_⟩
 unfold k_gcall0 at hk
 split at hk
 . rename_i g h ids l rest
   split at hk
   . rename_i b vm hv
     obtain⟨hb,hc,hK⟩:=hk
     simp only[Bool.and_eq_true,decide_eq_true_eq] at hc
     obtain⟨c1,c2,c3,c4⟩:=hc
     obtain rfl:=zhB_eq c2
     exact yctr_topm (Γ:=⟨[(59,k_ghelp0),(74,k_gRight)],eqs,[],[(27,Tryz.f27,[])],[],mixt,meqs,[]⟩) (pre:=[.mix [.arr 11 12 g,.arr 64 14 h,.int .i64 ids],.agg ZHL]) (pre0:=[frv (frD g h ids),.agg ZHL]) st_Gw ⟨(okCons k_ghelp0_ok (okCons k_gRight_ok okNil)),eqs_ok,okNilB,(okConsI Tryz.func27 rfl (by kernel_rfl) (fun _ _=>by kernel_rfl) okNilI),okNilP,mixt_ok,meqs_ok,okNilY⟩ Tryz.func17 rfl mixed [(28,12,[0,0,2,7,15,31,63,31,31,415,927,1951,4095,8191,16383]),(46,17,[0,1,3,7,15,31,63,127,255,511,63,1087,63,4159,15423,31807,64575,131071,262143,524287]),(57,13,[0,0,2,6,0,16,48,126,255,511,1023,1023,0,6143,16383]),(61,8,[0,0,2,0,8,24,63,0,255,511]),(63,6,[0,0,2,0,15,0,63,127])] (by kernel_rfl) 10000 [.one (.row 4 (cM.decR 4 vm).length (cM.g (cM.decR 4 vm)))] (fun ρ ρ'=>congrArg (fun x=>[x,(SV.agg ZHL).den ρ]) (frv_den c1 ρ').symm) rfl hv hb ⟨Cel.isR_dec c3,trivial⟩ rfl (fun x=>eqv x (.tup [frv F.none,.int .i64 2])) (gcall0_run (frD g h ids) (frD_wf c1) (cM.decR 4 vm) c4) (fun x hx=>⟨_,eqv_den hx,hK rfl⟩) hwf
   . exact hk.elim
 . exact hk.elim
end Go.Proofs.YtfgkhenhlpoheaaGreat
