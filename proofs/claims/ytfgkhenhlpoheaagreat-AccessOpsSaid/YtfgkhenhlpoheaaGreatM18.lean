import Derived.Test.YtfgkhenhlpoheaaGreatM17
set_option linter.all false
namespace Go.Proofs.YtfgkhenhlpoheaaGreat
open Go.RowKit Go.Sx
set_option maxRecDepth 100000
set_option maxHeartbeats 4000000
def nb_vkinds:List Blk:=[.map [(.int .u8 0,.agg [.fn (.func 184) [] [],.val (.slice none 0 0)]),(.int .u8 5,.agg [.fn (.func 184) [] [],.val (.slice none 0 0)]),(.int .u8 1,.agg [.fn (.func 185) [] [],.sl 1 1 0 1]),(.int .u8 2,.agg [.fn (.func 187) [] [],.sl 2 1 0 1]),(.int .u8 3,.agg [.fn (.func 189) [] [],.sl 3 1 0 1]),(.int .u8 4,.agg [.fn (.func 190) [] [],.sl 4 1 0 4]),(.int .u8 6,.agg [.fn (.func 194) [] [],.sl 5 1 0 1]),(.int .u8 7,.agg [.fn (.func 196) [] [],.sl 6 1 0 4]),(.int .u8 8,.agg [.fn (.func 198) [] [],.sl 7 1 0 4])],.cells 104 [.fn (.func 186) [] []],.cells 104 [.fn (.func 188) [] []],.cells 104 [.fn (.func 188) [] []],.cells 104 [.fn (.func 188) [] [],.fn (.func 191) [] [],.fn (.func 192) [] [],.fn (.func 193) [] []],.cells 104 [.fn (.func 195) [] []],.cells 104 [.fn (.func 188) [] [],.fn (.func 191) [] [],.fn (.func 195) [] [],.fn (.func 197) [] []],.cells 104 [.fn (.func 188) [] [],.fn (.func 191) [] [],.fn (.func 199) [] [],.fn (.func 197) [] []]]
def k_vkinds:List SV→List Blk→Res:=fun args M=>match args with
 |[]=>.ok (shS M.length (.mp 0)) (nb_vkinds.map (shB M.length))
 |_=>.fail
theorem k_vkinds_ok:CtrOk Tryz.prog Gw 161 k_vkinds:=by
 refine⟨fun _ _=>by kernel_rfl,fun args M => ?_⟩
 unfold k_vkinds
 split
 . refine ctr_gen (Γ:=⟨[],eqs,[],[],[],mixs,meqs,[]⟩) st_Gw ⟨okNil,eqs_ok,okNilB,okNilI,okNilP,mixs_ok,meqs_ok,okNilY⟩ Tryz.func161 rfl mixed [] (by kernel_rfl) 10000 [] [] [] (.mp 0) nb_vkinds (fun ρ=>rfl) (by rfl) trivial rfl rfl (by rfl) (by rfl) ?_
   (conv=>whnf)
   (repeat' (first | (refine And.intro (fun hb => ?_) (fun hb => ?_)<;>(first|contradiction | (conv=>whnf))) | (refine And.intro ?_ ?_;rotate_left 1;(conv=>whnf))))
   all_goals (first|rfl|exact⟨[0,1,2,3,4,5,6,7],rfl,(mle_cons ble_refl (mle_cons ble_refl (mle_cons ble_refl (mle_cons ble_refl (mle_cons ble_refl (mle_cons ble_refl (mle_cons ble_refl (mle_cons ble_refl mle_nil)))))))),_,rfl,fun _=>rfl⟩)
 . trivial
attribute [local irreducible] V.numbered V.placed V.added V.mapped V.named V.roomy V.sized V.nulled
def k_vRight:List SV→List Blk→Res:=fun args _=>match args with
 |[.agg [.int .u8 ak,.u64 av,.u64 am,.u64 alo,.u64 ahi,.int .i64 asl,.int .i64 ash,.int .i64 aof,.int .i64 amp,.int .i64 aid,.int .i64 arm,.bool anu]]=>.test (R.inS ⟨alo,ahi,asl,ash⟩) (.ok (.bool (V.right (⟨ak,(⟨⟨av,am⟩,⟨alo,ahi,asl,ash⟩⟩:Sc),aof,amp,aid,arm,anu⟩:Ab))) [])
 |_=>.fail
theorem k_vRight_ok:CtrOk Tryz.prog Gw 114 k_vRight:=by
 refine⟨fun _ _=>by kernel_rfl,fun args M => ?_⟩
 unfold k_vRight
 split
 . rename_i ak av am alo ahi asl ash aof amp aid arm anu
   intro ht
   refine ctr_flat (Γ:=⟨[(186,k_vnumbered),(188,k_vplaced),(191,k_vadded),(195,k_vmapped),(192,k_vnamed),(193,k_vroomy),(199,k_vsized),(197,k_vnulled),(161,k_vkinds)],eqs,[],[(162,Tryz.f162,[]),(184,Tryz.f184,[]),(185,Tryz.f185,[]),(187,Tryz.f187,[]),(189,Tryz.f189,[]),(190,Tryz.f190,[]),(194,Tryz.f194,[]),(196,Tryz.f196,[]),(198,Tryz.f198,[])],[],mixs,meqs,[]⟩) (sv:=.bool (V.right (⟨ak,(⟨⟨av,am⟩,⟨alo,ahi,asl,ash⟩⟩:Sc),aof,amp,aid,arm,anu⟩:Ab))) st_Gw ⟨(okCons k_vnumbered_ok (okCons k_vplaced_ok (okCons k_vadded_ok (okCons k_vmapped_ok (okCons k_vnamed_ok (okCons k_vroomy_ok (okCons k_vsized_ok (okCons k_vnulled_ok (okCons k_vkinds_ok okNil))))))))),eqs_ok,okNilB,(okConsI Tryz.func162 rfl (by kernel_rfl) (fun _ _=>by kernel_rfl) (okConsI Tryz.func184 rfl (by kernel_rfl) (fun _ _=>by kernel_rfl) (okConsI Tryz.func185 rfl (by kernel_rfl) (fun _ _=>by kernel_rfl) (okConsI Tryz.func187 rfl (by kernel_rfl) (fun _ _=>by kernel_rfl) (okConsI Tryz.func189 rfl (by kernel_rfl) (fun _ _=>by kernel_rfl) (okConsI Tryz.func190 rfl (by kernel_rfl) (fun _ _=>by kernel_rfl) (okConsI Tryz.func194 rfl (by kernel_rfl) (fun _ _=>by kernel_rfl) (okConsI Tryz.func196 rfl (by kernel_rfl) (fun _ _=>by kernel_rfl) (okConsI Tryz.func198 rfl (by kernel_rfl) (fun _ _=>by kernel_rfl) okNilI))))))))),okNilP,mixs_ok,meqs_ok,okNilY⟩ Tryz.func114 rfl mixed [(1,8,[0,0,2,7,15,31,31,0,191,511])] (by kernel_rfl) 10000 (by rfl) ?_
   (conv=>whnf)
   (repeat' (first | (refine .inl ⟨20,?_⟩;(conv=>whnf)) | (refine step_t (by first|rfl|assumption) ?_;(conv=>whnf)) | (refine step_f (by first|rfl|assumption) ?_;(conv=>whnf)) | (refine step_nt (by assumption) ?_;(conv=>whnf)) | (refine step_nf (by assumption) ?_;(conv=>whnf)) | (refine step_n (fun hb => ?_) (fun hb => ?_)<;>(first|contradiction | (conv=>whnf))) | (refine And.intro (fun hb => ?_) (fun hb => ?_)<;>(first|contradiction | (conv=>whnf))) | (refine And.intro (a:=(_:Bool)=true) ?_ ?_;rotate_left 1;(conv=>whnf))))
   all_goals (first|rfl|trivial|assumption | (simp_all [V.right,V.zeroB,Bool.and_assoc];done))
 . trivial
end Go.Proofs.YtfgkhenhlpoheaaGreat
