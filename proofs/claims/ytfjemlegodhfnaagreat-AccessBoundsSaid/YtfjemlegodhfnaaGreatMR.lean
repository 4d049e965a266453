/- AccessBounds answers true, whatever its arguments are, and its arguments read behind the call as they did. Conditions: none. -/
import Derived.Test.YtfjemlegodhfnaaGreatM53
import Derived.Test.YtfjemlegodhfnaaGreatM54
import Derived.Test.YtfjemlegodhfnaaGreatRows
import Derived.Lib.LaidTab
import Derived.LaidMore
import Derived.LaidLaws
import Derived.LaidHandle
import Derived.MakeChecks
import Derived.Stop.Joined
import Derived.ChangeSame
import Derived.ChangeVars
import Derived.JoinedOf
import Derived.ProofKit
import Derived.OpenShut
import Derived.ShutString
import Derived.SevenTiedAt
import Derived.Carry
namespace Go.Proofs.YtfjemlegodhfnaaGreat.accessBounds
open Go.ChangeShapes Go.WideShapes Go.ChangeAt Go.RowKit Go.Sx
open Go.ChangeMaps (open_string shut_string)
set_option linter.unusedVariables false
set_option linter.unusedSimpArgs false
theorem own:ownKnob Tryz.prog.godebug=none:=by kernel_rfl
set_option maxRecDepth 100000 in
theorem lifted (os:Os)(started:os.Started)(H:Type)(enc:TypeId×Value→H):
  ReturnsInHanded {} Tryz.checked os 3 .any (Rows.accessBoundsSpec.pre6 enc Tryz.prog Tryz.f3 [] false) (Rows.accessBoundsSpec.post enc Tryz.prog Tryz.f3 false true false false):=by
 refine returns_sized (C:=Tryz.checked) own started (by kernel_rfl) Tryz.func3
  (witness6w (enc:=enc) (C:=Tryz.checked) (os:=os) false ⟨#[],#[zeroFr,.agg #[.string ⟨#[]⟩,.int .i64 0,.slice none 0 0,.slice none 0 0,.int .i64 0,.int .i64 0],.slice none 0 0,.agg #[.int .u8 0,.int .u8 0,.int .u8 0,.int .i16 0,.int .i32 0],.int .u64 0],[]⟩ 8 (by kernel_rfl) (by kernel_rfl) (fun base=>⟨fun o h=>by simp at h,fun o h=>by simp at h,by kernel_rfl,_,Tryz.func3,by kernel_rfl,by kernel_rfl,by kernel_rfl,by kernel_rfl,fun j t v ht hv=>by
    rw[Tryz.params3] at ht
    match j,ht,hv with
    |0,ht,hv=>
     obtain rfl:=Option.some.inj ht
     obtain rfl:=Option.some.inj hv
     exact wit_fr
    |1,ht,hv=>
     obtain rfl:=Option.some.inj ht
     obtain rfl:=Option.some.inj hv
     exact Value.okWide_of_okWideB (by kernel_rfl)
    |2,ht,hv=>
     obtain rfl:=Option.some.inj ht
     obtain rfl:=Option.some.inj hv
     exact Value.okWide_of_okWideB (by kernel_rfl)
    |3,ht,hv=>
     obtain rfl:=Option.some.inj ht
     obtain rfl:=Option.some.inj hv
     exact Value.okWide_of_okWideB (by kernel_rfl)
    |4,ht,hv=>
     obtain rfl:=Option.some.inj ht
     obtain rfl:=Option.some.inj hv
     exact Value.okWide_of_okWideB (by kernel_rfl)
    |n+5,ht,_=>simp at ht⟩) (by kernel_rfl) (by kernel_rfl)) ?_
 intro W base args ds gs before hval0 hW hsz
 have hval:∀ (j:Nat) t v,Tryz.f3.params[j]? = some t→args[j]? = some v→Value.okWide Tryz.prog W .any base t v:=hval0
 have hW':=hW
 have hlt:=DataW.Whole.lt hW
 obtain⟨p,q,hA0,hV,rfl,hfz,hnd⟩:=hW
 have hA:DataW.TrodAll enc Tryz.prog W 0 (fun _=>true) true Tryz.f3.params.toList args.toList ds p:=hA0
 rw[Tryz.params3] at hA hval
 obtain⟨v0,vs0,d0,ds0,p0,q0,hargs,rfl,rfl,h0,r0⟩:=trodAll_cons hA
 obtain⟨v1,vs1,d1,ds1,p1,q1,rfl,rfl,rfl,h1,r1⟩:=trodAll_cons r0
 obtain⟨v2,vs2,d2,ds2,p2,q2,rfl,rfl,rfl,h2,r2⟩:=trodAll_cons r1
 obtain⟨v3,vs3,d3,ds3,p3,q3,rfl,rfl,rfl,h3,r3⟩:=trodAll_cons r2
 obtain⟨v4,vs4,d4,ds4,p4,q4,rfl,rfl,rfl,h4,r4⟩:=trodAll_cons r3
 obtain⟨rfl,rfl,rfl⟩:=trodAll_nil r4
 obtain rfl:args = #[v0,v1,v2,v3,v4]:=by cases args;simp_all
 obtain⟨rfl,rfl⟩:=trodVars_none hV
 clear hA0 hval0
 have g0:=h0
 have g1:=h1
 have g2:=h2
 have g3:=h3
 have g4:=h4
 have hwt:(∀ q∈d1.weights Tryz.prog 41,q≤reachBytes)∧(∀ q∈d2.weights Tryz.prog 42,q≤reachBytes):=by
  have key:∀ q∈d0.weights Tryz.prog 37++(d1.weights Tryz.prog 41++(d2.weights Tryz.prog 42++(d3.weights Tryz.prog 45++(d4.weights Tryz.prog 23++[])))),q≤reachBytes:=fun q hq=>hsz q (by
   rw[Tryz.params3]
   exact hq)
  exact⟨fun q h=>key q (by simp[h]),fun q h=>key q (by simp[h])⟩
 obtain⟨hw1,hw2⟩:=hwt
 obtain⟨f,hf,hfv⟩:=open_frame (hval 0 37 v0 rfl rfl)
 obtain⟨fa,fb,fc,fd,fe,fg,huP,_⟩:=ty_P
 obtain⟨c1,rfl,hc1⟩:=agg_of huP (hval 1 41 v1 rfl rfl)
 obtain⟨n1,h1⟩:=h1
 rw[hc1] at h1
 obtain⟨nm,cx,lo,hi,fl,ns,w2,w3,hcs1,hfl,hns,hwP⟩:=open_P h1
 obtain⟨hnm,hfll,hnsl⟩:=hwP hw1
 obtain⟨l0,e0,ok0⟩:=fz_of_rep hfl
 obtain⟨l1,e1,ok1⟩:=fz_of_rep hns
 injection e0 with e0
 injection e1 with e1
 subst e0 e1
 obtain⟨n2,h2⟩:=h2
 rw[show v2.cells.toList=[v2] by rw[slice_cells' (t:=42) (e:=67) (by kernel_rfl) (hval 2 42 v2 rfl rfl)]] at h2
 obtain⟨maps,hmp,hwm⟩:=rows_of (tS:=42) (e:=67) (by kernel_rfl) reads_M h2
 obtain⟨hml,_⟩:=hwm hw2
 obtain⟨l2,e2,ok2⟩:=fz_of_rep hmp
 injection e2 with e2
 obtain⟨l3,rfl,op,y0,rfl,k0,dst,y1,rfl,k1,src,y2,rfl,k2,off,y3,rfl,k3,imm,y4,rfl,k4,rfl⟩:=open_flat [.int .u8,.int .u8,.int .u8,.int .i16,.int .i32] (by kernel_rfl) (hval 3 45 v3 rfl rfl)
 obtain⟨l4,rfl,v,y5,hx4,rfl⟩:=open_fk .u64 (by kernel_rfl) (hval 4 23 v4 rfl rfl)
 obtain rfl:l4 = .u64 v:=by simpa using hx4
 simp only[List.append_nil] at hW' hlt
 let ρ:Val:=⟨fun i=>match i with|0=>l0|1=>l1|2=>l2|_=>none,Low W⟩
 have hM:MRel ⟨W.heap.size,[],ρ.z⟩ ρ [.fz 4 fl.length (gOf eF fl),.fz 3 ns.length (gOf eN ns),.fz 4 maps.length (gOf eM maps)] W:=by
  refine mrel_ro (Nat.le_refl _) rfl (fun k hk hm => ?_) (fun k hk=>hk) fun k b hb => ?_
  . rcases hm with hm|hm
    . cases hm
    . exact absurd hk (Nat.not_lt_of_le hm)
  . match k,hb with
    |0,hb=>obtain rfl:=Option.some.inj hb;exact⟨ok0 _ ρ 0 rfl rfl,rfl⟩
    |1,hb=>obtain rfl:=Option.some.inj hb;exact⟨ok1 _ ρ 1 rfl rfl,rfl⟩
    |2,hb=>obtain rfl:=Option.some.inj hb;exact⟨ok2 _ ρ 2 rfl rfl,rfl⟩
    |k+3,hb=>simp at hb
 have hargs:(denL ρ [frv f,.agg [.val (.string nm),.int .i64 cx,.sl 0 4 0 fl.length,.sl 1 3 0 ns.length,.int .i64 lo,.int .i64 hi],.sl 2 4 0 maps.length,.agg [.int .u8 op,.int .u8 dst,.int .u8 src,.int .i16 off,.int .i32 imm],.u64 v]).toArray = #[v0,.agg c1,v2,.agg (([.int .u8 op,.int .u8 dst,.int .u8 src,.int .i16 off,.int .i32 imm]:List FV).map FV.den).toArray,(FV.u64 v).den]:=by
  have h1':c1=c1.toList.toArray:=by simp
  rw[h1',hcs1,e2,hfv ρ]
  rfl
 have hw:(⟨nm,cx,fl,ns,lo,hi⟩:Ty).atMost 140737488355328=true:=by
  simp only[Ty.atMost,Bool.and_eq_true,decide_eq_true_eq]
  exact⟨hnm,hfll,hnsl⟩
 refine(hargs▸bounds_calls ρ f hf ⟨nm,cx,fl,ns,lo,hi⟩ maps op dst src off imm v k1.1 k2.1 ⟨k0.1,k0.2⟩ ⟨k3.1,k3.2⟩ hw hnm hml hM).mono fun e W' ⟨he,g,hg⟩ => ?_
 subst he;subst hg
 exact⟨_,rfl,_,_,_,[],_,[],hW',(trodAll_cons_mk (shut_bool Tryz.underlying4 _) trodAll_mk0),(trodAll_cons_mk (Below.trod (by kernel_rfl) (by kernel_rfl) (by decide +kernel) g0 (grow_below W g) (fun x hx=>hlt x (by simp[hx]))) (trodAll_cons_mk (Below.trod (by kernel_rfl) (by kernel_rfl) (by decide +kernel) g1 (grow_below W g) (fun x hx=>hlt x (by simp[hx]))) (trodAll_cons_mk (Below.trod (by kernel_rfl) (by kernel_rfl) (by decide +kernel) g2 (grow_below W g) (fun x hx=>hlt x (by simp[hx]))) (trodAll_cons_mk (Below.trod (by kernel_rfl) (by kernel_rfl) (by decide +kernel) g3 (grow_below W g) (fun x hx=>hlt x (by simp[hx]))) (trodAll_cons_mk (Below.trod (by kernel_rfl) (by kernel_rfl) (by decide +kernel) g4 (grow_below W g) (fun x hx=>hlt x (by simp[hx]))) trodAll_mk0))))),rfl,(grow_below W g).frame _,fun h=>by cases h⟩
theorem over:Rows.accessBoundsRow.holds Tryz.pinned (OpenSpec.ofChange Rows.accessBoundsSpec):=
 OpenClaim.holds_of_wide 3 Tryz.f3 rfl rfl rfl rfl rfl rfl rfl ⟨rfl,rfl,rfl,rfl,rfl⟩ rfl rfl rfl rfl rfl (by kernel_rfl) Tryz.func3 (by kernel_rfl)
  (of_decide_eq_true (by kernel_rfl)) (by unfold Func.isWrapper;first | (rw[if_pos (by decide +kernel)];kernel_rfl) | (rw[if_neg (by decide +kernel)];exact⟨rfl,rfl⟩))
  (fun os started H enc _=>lifted os started H enc)
theorem proved:Rows.AccessBoundsSaid:=over
#print axioms proved
end Go.Proofs.YtfjemlegodhfnaaGreat.accessBounds
