import Derived.Test.YtfjemlegodhfnaaGreatM48
import Derived.Test.YtfjemlegodhfnaaGreatM21
import Derived.Test.YtfjemlegodhfnaaGreatM47
set_option linter.all false
namespace Go.Proofs.YtfjemlegodhfnaaGreat
open Go.RowKit Go.Sx
set_option maxRecDepth 100000
set_option maxHeartbeats 4000000
namespace F
def start:Fr:=⟨[V.zero,⟨3,V.zs,0,0,0,0,false⟩,V.zero,V.zero,V.zero,V.zero,V.zero,V.zero,V.zero,V.zero,⟨2,V.zs,0,0,0,0,false⟩],List.replicate 64 noSl,0⟩
theorem start_wf:start.wf:=⟨rfl,rfl,rfl,rfl⟩
end F
def KF:List Fd:=[⟨0,8,2,false⟩,⟨8,8,3,false⟩,⟨16,4,1,true⟩]
def KT:Ty:=⟨⟨#[116]⟩,24,KF,[],0,0⟩
theorem ble_own_lit {ty sz sz' n:Nat}{g g':Nat→List FV}(h:(Nat.beq sz' sz&&(List.range n).all fun i=>fvLB 3 (g' i) (g i))=true):BLe (.own ty sz' n g') (.own ty sz n g):=by
 simp only[Bool.and_eq_true,List.all_eq_true] at h
 obtain rfl:=Nat.eq_of_beq_eq_true h.1
 exact ble_own_e rfl fun i hi=>fvLB_ok (h.2 i (List.mem_range.2 hi))
theorem kt_cel:FVEqL [.val (.string ⟨#[116]⟩),.int .i64 24,.row 4 3 (shiftG 0 (gOf eF KF)),.val (.slice none 0 0),.int .i64 0,.int .i64 0] (celY KT):=fvl_cons (FVEq.refl _) (fvl_cons (FVEq.refl _) (fvl_cons (FVEq.refl _) (fvl_cons .nil (FVEqL.refl _))))
theorem kt_is:cY.is [.val (.string ⟨#[116]⟩),.int .i64 24,.row 4 3 (shiftG 0 (gOf eF KF)),.val (.slice none 0 0),.int .i64 0,.int .i64 0]=true:=Cel.is_of (c:=cY) kt_cel
theorem kt_dec:cY.dec [.val (.string ⟨#[116]⟩),.int .i64 24,.row 4 3 (shiftG 0 (gOf eF KF)),.val (.slice none 0 0),.int .i64 0,.int .i64 0]=KT:=Cel.dec_of (c:=cY) kt_cel
theorem nilM_is:cM.isR 4 (.val (.slice none 0 0))=true:=Cel.isR_of (L:=[]) FVEq.nil
theorem nilM_dec:cM.decR 4 (.val (.slice none 0 0))=[]:=Cel.decR_of (L:=[]) FVEq.nil
def F1:Fr:=⟨F.start.R.set 2 ⟨4,C.const (BitVec.ofInt 64 0),0,0,0,0,false⟩,F.start.S,F.start.ids⟩
theorem f1_wf:F1.wf:=⟨rfl,rfl,rfl,rfl⟩
theorem aw_1:A.load F.start KT.fs [] 121 2 1 (IntKind.i64.wrap 0)=(F1,0):=by kernel_rfl
theorem aw_2:(A.load F1 KT.fs [] 113 3 2 (IntKind.i64.wrap 0)).2=32:=by kernel_rfl
def k_fStart:List SV→List Blk→Res:=fun args _=>match args with
 |[]=>.ok (frv F.start) []
 |_=>.fail
theorem k_fStart_ok:CtrOk Tryz.prog Gw 8 k_fStart:=by
 refine⟨fun _ _=>by kernel_rfl,fun args M => ?_⟩
 unfold k_fStart
 split
 . refine ctr_flat (Γ:=⟨[],eqs,[],[],[],mixs,meqs,[]⟩) (sv:=frv F.start) st_Gw ⟨okNil,eqs_ok,okNilB,okNilI,okNilP,mixs_ok,meqs_ok,okNilY⟩ Tryz.func8 rfl mixed [] (by kernel_rfl) 10000 (by rfl) ?_
   (conv=>whnf)
   (repeat' (first | (refine step_t (by first|rfl|assumption) ?_;(conv=>whnf)) | (refine step_f (by first|rfl|assumption) ?_;(conv=>whnf)) | (refine step_nt (by assumption) ?_;(conv=>whnf)) | (refine step_nf (by assumption) ?_;(conv=>whnf)) | (refine step_n (fun hb => ?_) (fun hb => ?_)<;>(first|contradiction | (conv=>whnf))) | (refine And.intro (fun hb => ?_) (fun hb => ?_)<;>(first|contradiction | (conv=>whnf))) | (refine And.intro (a:=(_:Bool)=true) ?_ ?_;rotate_left 1;(conv=>whnf))))
   all_goals (first|rfl|trivial | (refine eqv_fr (X:=F.start) (fun i hi => ?_) F.zero_S rfl;match i,hi with|0,_=>rfl|1,_=>rfl|2,_=>rfl|3,_=>rfl|4,_=>rfl|5,_=>rfl|6,_=>rfl|7,_=>rfl|8,_=>rfl|9,_=>rfl|10,_=>rfl))
 . trivial
def nb_kind0:List Blk:=[.own 64 4 3 (gOf eF KF)]
def k_kind0:List SV→List Blk→Res:=fun args M=>match args with
 |[]=>.ok (shS M.length (.agg [.val (.string ⟨#[116]⟩),.int .i64 24,.sl 0 4 0 3,.val (.slice none 0 0),.int .i64 0,.int .i64 0])) (nb_kind0.map (shB M.length))
 |_=>.fail
theorem k_kind0_ok:CtrOk Tryz.prog Gw 9 k_kind0:=by
 refine⟨fun _ _=>by kernel_rfl,fun args M => ?_⟩
 unfold k_kind0
 split
 . refine ctr_gen (Γ:=⟨[],eqs,[],[],[],mixs,meqs,[]⟩) st_Gw ⟨okNil,eqs_ok,okNilB,okNilI,okNilP,mixs_ok,meqs_ok,okNilY⟩ Tryz.func9 rfl mixed [] (by kernel_rfl) 10000 [] [] [] (.agg [.val (.string ⟨#[116]⟩),.int .i64 24,.sl 0 4 0 3,.val (.slice none 0 0),.int .i64 0,.int .i64 0]) nb_kind0 (fun ρ=>rfl) (by rfl) trivial rfl rfl (by rfl) (by rfl) ?_
   (conv=>whnf)
   (repeat' (first | (refine And.intro (fun hb => ?_) (fun hb => ?_)<;>(first|contradiction | (conv=>whnf))) | (refine And.intro ?_ ?_;rotate_left 1;(conv=>whnf))))
   all_goals (first|rfl | (first|exact⟨[0],rfl,mle_cons (ble_own_lit (by kernel_rfl)) mle_nil,_,rfl,fun _=>rfl⟩|exact⟨[1],rfl,mle_cons (ble_own_lit (by kernel_rfl)) mle_nil,_,rfl,fun _=>rfl⟩|exact⟨[2],rfl,mle_cons (ble_own_lit (by kernel_rfl)) mle_nil,_,rfl,fun _=>rfl⟩))
 . trivial
end Go.Proofs.YtfjemlegodhfnaaGreat
namespace Go.Proofs.YtfjemlegodhfnaaGreat
open Go.RowKit Go.Sx
set_option maxRecDepth 100000
set_option maxHeartbeats 4000000
attribute [local irreducible] A.load F.start
theorem awake_run:run Tryz.prog ⟨[(8,k_fStart),(9,k_kind0),(10,k_cConst)],eqs,[],[],[],mixs,meqs,[(6,k_aLoad)]⟩ 10000 [(3,15,[0,1,3,7,15,31,63,127,255,511,1023,2047,4095,8191,1023,32767,65535,131071,262143,524287,1048575,2097151])] 0 (bodyOf Tryz.f4) (initF Tryz.f4 []) [] (retK Tryz.prog Tryz.f4 fun x _=>eqv x (.bool true)):=by
 (conv=>whnf)
 (repeat' (first | (refine And.intro (a:=keepP _ _ _) (by first|exact⟨rfl,rfl,rfl,rfl,trivial⟩|exact⟨rfl,rfl,rfl,trivial⟩|exact⟨rfl,rfl,trivial⟩|exact⟨rfl,trivial⟩) ?_;(conv=>whnf)) | (refine step_t (by first|rfl|assumption) ?_;(conv=>whnf)) | (refine step_f (by first|rfl|assumption) ?_;(conv=>whnf)) | (refine step_nt (by assumption) ?_;(conv=>whnf)) | (refine step_nf (by assumption) ?_;(conv=>whnf)) | (refine step_n (fun hb => ?_) (fun hb => ?_)<;>(first|contradiction | (conv=>whnf))) | (refine And.intro (fun hb => ?_) (fun hb => ?_)<;>(first|contradiction | (conv=>whnf))) | (refine And.intro (a:=(_:Bool)=true) ?_ ?_;rotate_left 1;(conv=>whnf)) | (intro hb;(conv=>whnf))))
 all_goals (try simp only[kt_is,kt_dec,nilM_is,nilM_dec,frD_of F.start_wf,frB_of F.start_wf,aw_1,frD_of f1_wf,frB_of f1_wf,aw_2] at *)
 all_goals first
 |rfl
 |trivial
 |(show true=false
   exact absurd (hb.symm.trans (show _=true by kernel_rfl)) Bool.false_ne_true)
 |(simp;done)
 |(show _=true;kernel_rfl)
def k_awake:List SV→List Blk→Res:=fun args _=>match args with
 |[]=>.ok (.bool true) []
 |_=>.fail
theorem k_awake_ok:CtrOk Tryz.prog Gw 4 k_awake:=by
 refine⟨fun _ _=>by kernel_rfl,fun args M => ?_⟩
 unfold k_awake
 split
 . exact ctr_flat (Γ:=⟨[(8,k_fStart),(9,k_kind0),(10,k_cConst)],eqs,[],[],[],mixs,meqs,[(6,k_aLoad)]⟩) (sv:=.bool true) st_Gw ⟨(okCons k_fStart_ok (okCons k_kind0_ok (okCons k_cConst_ok okNil))),eqs_ok,okNilB,okNilI,okNilP,mixs_ok,meqs_ok,(okConsY k_aLoad_ok okNilY)⟩ Tryz.func4 rfl mixed [(3,15,[0,1,3,7,15,31,63,127,255,511,1023,2047,4095,8191,1023,32767,65535,131071,262143,524287,1048575,2097151])] (by kernel_rfl) 10000 (by rfl) awake_run
 . trivial
end Go.Proofs.YtfjemlegodhfnaaGreat
namespace Go.Proofs.YtfjemlegodhfnaaGreat
open Go.RowKit Go.Sx
set_option maxRecDepth 100000
set_option maxHeartbeats 4000000
attribute [local irreducible] A.load A.store A.stoF
theorem rowM_is (L:List Mp):cM.isR 4 (.row 4 L.length (shiftG 0 (gOf eM L)))=true:=Cel.isR_of (c:=cM) (L:=L) (Cel.row_refl (c:=cM) 4 L)
theorem rowM_dec (L:List Mp):cM.decR 4 (.row 4 L.length (shiftG 0 (gOf eM L)))=L:=Cel.decR_of (c:=cM) (L:=L) (Cel.row_refl (c:=cM) 4 L)
@[reducible] def bndF (maps:List Mp) (v:BitVec 64) (sz:Int):List SV:=spreadF (junkF 196) [2,4,5,6,8,15,16,17] [.sl 2 4 0 maps.length,.u64 v,.ptr 3 0,.ptr 4 0,.ptr 5 0,.int .i64 sz,.sl 11 1 0 2,.sl 12 1 0 2]
theorem bnds_4 (f:Fr)(hf:f.wf)(t:Ty)(maps:List Mp)(op dst src off imm:Int)(v:BitVec 64)(hd:0≤dst)(hs:0≤src)(ho:0≤op∧op≤255)(hof : -32768≤off∧off≤32767)(hw:t.atMost 140737488355328=true)(hnm:t.nm.size≤140737488355328)(hm:maps.length≤140737488355328)(hz:(Go.bits .and .u8 (op.fdiv (2^min (BitVec.ofInt 64 3).toNat IntKind.u8.bits)) 3).toNat=0)(Q:List SV→List Blk→Prop)(K:X→List SV→List Blk→Prop)(hR:∀ F M,nth F 10=some .tt→K .ret F M)(hQ:Q (bndF maps v 4) [.fz 4 t.fs.length (gOf eF t.fs),.fz 3 t.ns.length (gOf eN t.ns),.fz 4 maps.length (gOf eM maps),.mix 37 [.arr 11 12 (gOf eA f.R),.arr 64 14 (gOf eS f.S),.int .i64 f.ids],.cells 41 [.val (.string t.nm),.int .i64 t.cx,.sl 0 4 0 t.fs.length,.sl 1 3 0 t.ns.length,.int .i64 t.lo,.int .i64 t.hi],.cells 45 [.int .u8 op,.int .u8 dst,.int .u8 src,.int .i16 off,.int .i32 imm],.dead,.dead,.dead,.dead,.dead,.own 5 Tryz.prog.types[5].size 2 (fun i=>List.take Tryz.prog.types[5].size (List.drop (i*Tryz.prog.types[5].size) [.int .u8 src,.int .u8 dst])),.own 55 Tryz.prog.types[55].size 2 (fun i=>List.take Tryz.prog.types[55].size (List.drop (i*Tryz.prog.types[55].size) [.int .i64 (A.load f t.fs maps op dst src (IntKind.i64.wrap off)).2,.int .i64 (A.st f t.fs maps op dst src (IntKind.i64.wrap off) (IntKind.i64.wrap imm)).2]))]):run Tryz.prog ⟨[(4,k_awake)],eqs,[],[(5,Tryz.f5,[])],[],mixs,meqs,[(6,k_aLoad),(7,k_aStore)]⟩ 10000 [] 0 (takeC 8 (bodyOf Tryz.f3)) (initF Tryz.f3 [frv f,.agg [.val (.string t.nm),.int .i64 t.cx,.sl 0 4 0 t.fs.length,.sl 1 3 0 t.ns.length,.int .i64 t.lo,.int .i64 t.hi],.sl 2 4 0 maps.length,.agg [.int .u8 op,.int .u8 dst,.int .u8 src,.int .i16 off,.int .i32 imm],.u64 v]) [.fz 4 t.fs.length (gOf eF t.fs),.fz 3 t.ns.length (gOf eN t.ns),.fz 4 maps.length (gOf eM maps)] (forgetK [2,4,5,6,8,15,16,17] Q K):=by
 generalize hKQ:forgetK [2,4,5,6,8,15,16,17] Q K=KQ
 (conv=>whnf)
 (repeat' (first | (refine .inl ⟨3,?_⟩;(conv=>whnf)) | (rw[hz];(conv=>whnf)) | (refine And.intro (a:=keepP _ _ _) (by first|exact⟨rfl,rfl,rfl,rfl,trivial⟩|exact⟨rfl,rfl,rfl,trivial⟩|exact⟨rfl,rfl,trivial⟩|exact⟨rfl,trivial⟩) ?_;(conv=>whnf)) | (refine step_t (by first|rfl|assumption) ?_;(conv=>whnf)) | (refine step_f (by first|rfl|assumption) ?_;(conv=>whnf)) | (refine step_nt (by assumption) ?_;(conv=>whnf)) | (refine step_nf (by assumption) ?_;(conv=>whnf)) | (refine step_n (fun hb => ?_) (fun hb => ?_)<;>(first|contradiction | (conv=>whnf))) | (refine And.intro (fun hb => ?_) (fun hb => ?_)<;>(first|contradiction | (conv=>whnf))) | (refine And.intro (a:=(_:Bool)=true) ?_ ?_;rotate_left 1;(conv=>whnf)) | (intro hb;(conv=>whnf))))
 all_goals try (subst hKQ;exact hR _ _ rfl)
 all_goals (try simp only[frD_of hf,isY_at,decY_at,rowM_is,rowM_dec] at *)
 all_goals first
 |rfl
 |trivial
 |(simp;done)
 |exact(by rw[hz];rfl)
 |(simp only[Bool.and_eq_true,decide_eq_true_eq,frB_of hf,hw,true_and,and_true];omega)
 |(subst hKQ
   exact use_forget (n:=196) (vals:=[.sl 2 4 0 maps.length,.u64 v,.ptr 3 0,.ptr 4 0,.ptr 5 0,.int .i64 4,.sl 11 1 0 2,.sl 12 1 0 2]) (M1:=[.fz 4 t.fs.length (gOf eF t.fs),.fz 3 t.ns.length (gOf eN t.ns),.fz 4 maps.length (gOf eM maps),.mix 37 [.arr 11 12 (gOf eA f.R),.arr 64 14 (gOf eS f.S),.int .i64 f.ids],.cells 41 [.val (.string t.nm),.int .i64 t.cx,.sl 0 4 0 t.fs.length,.sl 1 3 0 t.ns.length,.int .i64 t.lo,.int .i64 t.hi],.cells 45 [.int .u8 op,.int .u8 dst,.int .u8 src,.int .i16 off,.int .i32 imm],.dead,.dead,.dead,.dead,.dead,.own 5 Tryz.prog.types[5].size 2 (fun i=>List.take Tryz.prog.types[5].size (List.drop (i*Tryz.prog.types[5].size) [.int .u8 src,.int .u8 dst])),.own 55 Tryz.prog.types[55].size 2 (fun i=>List.take Tryz.prog.types[55].size (List.drop (i*Tryz.prog.types[55].size) [.int .i64 (A.load f t.fs maps op dst src (IntKind.i64.wrap off)).2,.int .i64 (A.st f t.fs maps op dst src (IntKind.i64.wrap off) (IntKind.i64.wrap imm)).2]))]) [0,1,2,3,4,5,6,7,8,9,10,11,12] rfl (mle_cons ble_refl (mle_cons ble_refl (mle_cons ble_refl (mle_cons ble_refl (mle_cons ble_refl (mle_cons ble_refl (mle_cons ble_dead (mle_cons ble_dead (mle_cons ble_dead (mle_cons ble_dead (mle_cons ble_dead (mle_cons ble_refl (mle_cons ble_refl (mle_nil)))))))))))))) rfl rfl rfl hQ)
end Go.Proofs.YtfjemlegodhfnaaGreat
