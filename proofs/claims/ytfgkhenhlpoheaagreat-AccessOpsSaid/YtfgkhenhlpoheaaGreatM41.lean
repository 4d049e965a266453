import Derived.Test.YtfgkhenhlpoheaaGreatM26
import Derived.Test.YtfgkhenhlpoheaaGreatM31
set_option linter.all false
namespace Go.Proofs.YtfgkhenhlpoheaaGreat
open Go.RowKit Go.Sx
set_option maxRecDepth 100000
set_option maxHeartbeats 4000000
attribute [local irreducible] F.right F.load F.store V.touch K.field A.size A.sgn A.numb
theorem toMem_run (g h:Nat→List FV)(ids:Int)(t:Ty)(maps:List Mp)(ak:Int)(av am alo ahi:BitVec 64)(asl ash aof amp aid arm:Int)(anu:Bool)(vk:Int)(vv vm vlo vhi:BitVec 64)(vsl vsh vof vmp vid vrm:Int)(vnu:Bool)(op dst src off imm:Int)(hw:t.atMost 140737488355328=true)(hm:maps.length≤140737488355328)(ha:R.inS ⟨alo,ahi,asl,ash⟩=true){K:SV→Prop}(hK:K (.int .i64 (A.mval (⟨ak,(⟨⟨av,am⟩,⟨alo,ahi,asl,ash⟩⟩:Sc),aof,amp,aid,arm,anu⟩:Ab) (⟨vk,(⟨⟨vv,vm⟩,⟨vlo,vhi,vsl,vsh⟩⟩:Sc),vof,vmp,vid,vrm,vnu⟩:Ab) (A.specv maps amp) op (IntKind.i64.wrap off)))):run Tryz.prog ⟨[(68,k_iSize),(72,k_vTouch)],eqs,[],[(73,Tryz.f73,[(1,11,[0,1,3,7,15,31,15,79,207,463,975,2047,4095]),(3,6,[0,1,3,7,0,16,63,127,255])])],[],mixs,meqs,[]⟩ 10000 [(3,1000,[4,6])] 4 (bodyOf Tryz.f40) (initF Tryz.f40 [.ptr 0 0,.agg [.int .u8 ak,.u64 av,.u64 am,.u64 alo,.u64 ahi,.int .i64 asl,.int .i64 ash,.int .i64 aof,.int .i64 amp,.int .i64 aid,.int .i64 arm,.bool anu],.agg [.int .u8 vk,.u64 vv,.u64 vm,.u64 vlo,.u64 vhi,.int .i64 vsl,.int .i64 vsh,.int .i64 vof,.int .i64 vmp,.int .i64 vid,.int .i64 vrm,.bool vnu],.agg [.int .u8 op,.int .u8 dst,.int .u8 src,.int .i16 off,.int .i32 imm]]) [.mix 81 [.arr 11 12 g,.arr 64 14 h,.int .i64 ids,.val (.string t.nm),.int .i64 t.cx,.sl 1 4 0 t.fs.length,.sl 2 3 0 t.ns.length,.int .i64 t.lo,.int .i64 t.hi,.sl 3 4 0 maps.length],.ro 4 t.fs.length (gOf eF t.fs),.ro 3 t.ns.length (gOf eN t.ns),.ro 4 maps.length (gOf eM maps)] (retKP Tryz.prog Tryz.f40 (EndI (.mix 81 [.arr 11 12 g,.arr 64 14 h,.int .i64 ids,.val (.string t.nm),.int .i64 t.cx,.sl 1 4 0 t.fs.length,.sl 2 3 0 t.ns.length,.int .i64 t.lo,.int .i64 t.hi,.sl 3 4 0 maps.length]) K)):=by
 (conv=>whnf)
 (repeat' (first | (refine And.intro (a:=keepP _ _ _) (by first|exact⟨rfl,rfl,rfl,rfl,trivial⟩|exact⟨rfl,rfl,rfl,trivial⟩|exact⟨rfl,rfl,trivial⟩|exact⟨rfl,trivial⟩) ?_;(conv=>whnf)) | (refine step_t (by first|rfl|assumption) ?_;(conv=>whnf)) | (refine step_f (by first|rfl|assumption) ?_;(conv=>whnf)) | (refine step_nt (by assumption) ?_;(conv=>whnf)) | (refine step_nf (by assumption) ?_;(conv=>whnf)) | (refine step_n (fun hb => ?_) (fun hb => ?_)<;>(first|contradiction | (conv=>whnf))) | (refine And.intro (fun hb => ?_) (fun hb => ?_)<;>(first|contradiction | (conv=>whnf))) | (refine And.intro (a:=(_:Bool)=true) ?_ ?_;rotate_left 1;(conv=>whnf))))
 all_goals (try simp only[isY_at,decY_at,Nat.zero_add] at *)
 all_goals first
 |rfl
 |trivial
 |exact hw
 |exact ha
 |(simp;done)
 |(rw[A.mval_n (by assumption)] at hK;exact⟨rfl,_,fun _ _=>rfl,hK⟩)
 |(rw[A.specv_1 (by assumption),A.mval_t (by assumption)] at hK;exact⟨rfl,_,fun _ _=>rfl,hK⟩)
 |(rw[A.specv_2 (by assumption),A.mval_t (by assumption)] at hK;exact⟨rfl,_,fun _ _=>rfl,hK⟩)
 |(rw[A.specv_3 (by assumption) (by assumption),A.mval_t (by assumption)] at hK;exact⟨rfl,_,fun _ _=>rfl,hK⟩)
 |(simp only[decide_eq_false_iff_not] at *;exact decide_eq_true (by omega))
 |(simp only[decide_eq_false_iff_not] at *;rw[Bool.and_eq_true];exact⟨decide_eq_true (by omega),decide_eq_true (by omega)⟩)
def k_toMem:YC:=fun args M K=>match args with
 |[.ptr k 0,.agg [.int .u8 ak,.u64 av,.u64 am,.u64 alo,.u64 ahi,.int .i64 asl,.int .i64 ash,.int .i64 aof,.int .i64 amp,.int .i64 aid,.int .i64 arm,.bool anu],.agg [.int .u8 vk,.u64 vv,.u64 vm,.u64 vlo,.u64 vhi,.int .i64 vsl,.int .i64 vsh,.int .i64 vof,.int .i64 vmp,.int .i64 vid,.int .i64 vrm,.bool vnu],.agg [.int .u8 op,.int .u8 dst,.int .u8 src,.int .i16 off,.int .i32 imm]]=>match nth M k with
  |some (.mix ty [.arr 11 12 g,.arr 64 14 h,.int .i64 ids,.val (.string nm),.int .i64 cx,.sl j1 4 0 p,.sl j2 3 0 q,.int .i64 lo,.int .i64 hi,.sl j3 4 0 m])=>match eltB (nth M j1),eltB (nth M j2),eltB (nth M j3) with
   |some (z1,p',g1),some (z2,q',g2),some (z3,m',g3)=>((Nat.beq ty 81&&(Nat.beq z1 4&&(Nat.beq z2 3&&Nat.beq z3 4)))&&((decide (p≤p')&&(decide (q≤q')&&decide (m≤m')))&&((allIs eF 0 p g1&&(allIs eN 0 q g2&&allIs eM 0 m g3))&&((decide (nm.size≤140737488355328)&&(decide (p≤140737488355328)&&(decide (q≤140737488355328)&&decide (m≤140737488355328))))&&(R.inS ⟨alo,ahi,asl,ash⟩&&(!(Nat.beq k j1)&&(!(Nat.beq k j2) && !(Nat.beq k j3))))))))=true∧(true=true→K none (.int .i64 (A.mval (⟨ak,(⟨⟨av,am⟩,⟨alo,ahi,asl,ash⟩⟩:Sc),aof,amp,aid,arm,anu⟩:Ab) (⟨vk,(⟨⟨vv,vm⟩,⟨vlo,vhi,vsl,vsh⟩⟩:Sc),vof,vmp,vid,vrm,vnu⟩:Ab) (A.specv (elts eM 0 m g3) amp) op (IntKind.i64.wrap off))) M)
   |_,_,_=>False
  |_=>False
 |_=>False
theorem k_toMem_ok:YCtrOk Tryz.prog Gw 40 k_toMem:=by
 refine⟨fun _ _=>by kernel_rfl,fun args M K hk hsc hwf => ?_⟩
 unfold k_toMem at hk
 split at hk
 . rename_i k ak av am alo ahi asl ash aof amp aid arm anu vk vv vm vlo vhi vsl vsh vof vmp vid vrm vnu op dst src off imm
   split at hk
   . rename_i ty g h ids nm cx j1 p j2 q lo hi j3 m hblk
     split at hk
     . rename_i z1 p' g1 z2 q' g2 z3 m' g3 e1 e2 e3
       obtain⟨hc,hK⟩:=hk
       simp only[Bool.and_eq_true,decide_eq_true_eq,Bool.not_eq_true'] at hc
       obtain⟨⟨b0,b1,b2,b3⟩,⟨c1,c2,c3⟩,⟨a1,a2,a3⟩,⟨w0,w1,w2,w3⟩,hin,n1,n2,n3⟩:=hc
       obtain rfl:=Nat.eq_of_beq_eq_true b0
       obtain rfl:=Nat.eq_of_beq_eq_true b1
       obtain rfl:=Nat.eq_of_beq_eq_true b2
       obtain rfl:=Nat.eq_of_beq_eq_true b3
       have m1:k≠j1:=fun e=>by subst e;rw[Nat.beq_refl] at n1;cases n1
       have m2:k≠j2:=fun e=>by subst e;rw[Nat.beq_refl] at n2;cases n2
       have m3:k≠j3:=fun e=>by subst e;rw[Nat.beq_refl] at n3;cases n3
       simp only[nth_eq] at hblk e1 e2 e3
       obtain⟨x1,hx1⟩:∃ b,M[j1]? = some b:=by
        cases hq:M[j1]? with
        |none=>rw[hq] at e1;cases e1
        |some b=>exact⟨b,rfl⟩
       obtain⟨x2,hx2⟩:∃ b,M[j2]? = some b:=by
        cases hq:M[j2]? with
        |none=>rw[hq] at e2;cases e2
        |some b=>exact⟨b,rfl⟩
       obtain⟨x3,hx3⟩:∃ b,M[j3]? = some b:=by
        cases hq:M[j3]? with
        |none=>rw[hq] at e3;cases e3
        |some b=>exact⟨b,rfl⟩
       rw[hx1] at e1;rw[hx2] at e2;rw[hx3] at e3
       have l1:=elts_length eF 0 p g1
       have l2:=elts_length eN 0 q g2
       have l3:=elts_length eM 0 m g3
       have hr:=toMem_run g h ids ⟨nm,cx,elts eF 0 p g1,elts eN 0 q g2,lo,hi⟩ (elts eM 0 m g3) ak av am alo ahi asl ash aof amp aid arm anu vk vv vm vlo vhi vsl vsh vof vmp vid vrm vnu op dst src off imm (by simp only[Ty.atMost,l1,l2,Bool.and_eq_true,decide_eq_true_eq];exact⟨w0,w1,w2⟩) (by rw[l3];exact w3) hin (K:=fun y=>K none y M) (hK rfl)
       simp only[l1,l2,l3] at hr
       exact ymix_top (Γ:=⟨[(68,k_iSize),(72,k_vTouch)],eqs,[],[(73,Tryz.f73,[(1,11,[0,1,3,7,15,31,15,79,207,463,975,2047,4095]),(3,6,[0,1,3,7,0,16,63,127,255])])],[],mixs,meqs,[]⟩) ⟨(okCons k_iSize_ok (okCons k_vTouch_ok okNil)),eqs_ok,okNilB,(okConsI Tryz.func73 rfl (by kernel_rfl) (fun _ _=>by kernel_rfl) okNilI),okNilP,mixs_ok,meqs_ok,okNilY⟩ Tryz.func40 rfl mixed [(3,1000,[4,6])] (by kernel_rfl) 10000 [.ptr 0 0,.agg [.int .u8 ak,.u64 av,.u64 am,.u64 alo,.u64 ahi,.int .i64 asl,.int .i64 ash,.int .i64 aof,.int .i64 amp,.int .i64 aid,.int .i64 arm,.bool anu],.agg [.int .u8 vk,.u64 vv,.u64 vm,.u64 vlo,.u64 vhi,.int .i64 vsl,.int .i64 vsh,.int .i64 vof,.int .i64 vmp,.int .i64 vid,.int .i64 vrm,.bool vnu],.agg [.int .u8 op,.int .u8 dst,.int .u8 src,.int .i16 off,.int .i32 imm]] [.arr 11 12 g,.arr 64 14 h,.int .i64 ids,.val (.string nm),.int .i64 cx,.sl 1 4 0 p,.sl 2 3 0 q,.int .i64 lo,.int .i64 hi,.sl 3 4 0 m] [.ro 4 p (gOf eF (elts eF 0 p g1)),.ro 3 q (gOf eN (elts eN 0 q g2)),.ro 4 m (gOf eM (elts eM 0 m g3))] [j1,j2,j3] hblk hwf (by simp[m1,m2,m3]) (fun ρ=>rfl) (fun ρ=>rfl) rfl rfl ⟨⟨x1,hx1,_,_,e1,c1,fun i hi=>by rw[gOf_elts eF a1 i hi,Nat.zero_add]⟩,⟨x2,hx2,_,_,e2,c2,fun i hi=>by rw[gOf_elts eN a2 i hi,Nat.zero_add]⟩,⟨x3,hx3,_,_,e3,c3,fun i hi=>by rw[gOf_elts eM a3 i hi,Nat.zero_add]⟩,trivial⟩ hr
     . exact hk.elim
   . exact hk.elim
 . exact hk.elim
end Go.Proofs.YtfgkhenhlpoheaaGreat
