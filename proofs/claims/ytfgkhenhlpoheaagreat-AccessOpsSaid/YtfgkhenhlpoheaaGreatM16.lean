import Derived.Test.YtfgkhenhlpoheaaGreatM15
set_option linter.all false
namespace Go.Proofs.YtfgkhenhlpoheaaGreat
open Go.RowKit Go.Sx
set_option maxRecDepth 100000
set_option maxHeartbeats 4000000
def k_Ext:List SV→List Blk→Res:=fun args _=>match args with
 |[.u64 a,.int .i64 n,.bool sg]=>.ok (.tup [.u64 (W.extB a n sg).1,.bool (W.extB a n sg).2]) []
 |[.u64 a,.int .i64 n,.tt]=>.ok (.tup [.u64 (W.extB a n true).1,.bool (W.extB a n true).2]) []
 |[.u64 a,.int .i64 n,.ff]=>.ok (.tup [.u64 (W.extB a n false).1,.bool (W.extB a n false).2]) []
 |_=>.fail
theorem k_Ext_ok:CtrOk Tryz.prog Gw 167 k_Ext:=by
 refine⟨fun _ _=>by kernel_rfl,fun args M => ?_⟩
 unfold k_Ext
 split
 . rename_i a n sg
   refine ctr_flat (Γ:=⟨[],eqs,[],[],[],mixs,meqs,[]⟩) (sv:=.tup [.u64 (W.extB a n sg).1,.bool (W.extB a n sg).2]) st_Gw ⟨okNil,eqs_ok,okNilB,okNilI,okNilP,mixs_ok,meqs_ok,okNilY⟩ Tryz.func167 rfl mixed [] (by kernel_rfl) 10000 (by rfl) ?_
   (conv=>whnf)
   (repeat' (first | (refine And.intro (fun hb => ?_) (fun hb => ?_)<;>(first|contradiction | (conv=>whnf))) | (refine And.intro ?_ ?_;rotate_left 1;(conv=>whnf))))
   all_goals ((try simp only[beq_iff_eq,beq_eq_false_iff_ne,bne_iff_ne,bne_eq_false_iff_eq,ne_eq] at *)<;>(try subst_vars)<;>first|exact W.x_t64 a|rfl|trivial|decide|exact W.x_f8 a|exact W.x_t8 a|exact W.x_f16 a|exact W.x_t16 a|exact W.x_f32 a|exact W.x_t32 a|exact W.y_f8 a|exact W.y_f16 a|exact W.y_f32 a|exact W.y_t8 a (W.y_neg8 a▸beq_iff_eq.2 (by assumption))|exact W.y_u8 a (W.y_neg8 a▸beq_eq_false_iff_ne.2 (by assumption))|exact W.y_t16 a (W.y_neg16 a▸beq_iff_eq.2 (by assumption))|exact W.y_u16 a (W.y_neg16 a▸beq_eq_false_iff_ne.2 (by assumption))|exact W.y_t32 a (W.y_neg32 a▸beq_iff_eq.2 (by assumption))|exact W.y_u32 a (W.y_neg32 a▸beq_eq_false_iff_ne.2 (by assumption)) | (exact absurd (by assumption) (by decide)) | (simp_all [eqv,eqv1,eqv2,W.extB];done))
 . rename_i a n
   refine ctr_flat (Γ:=⟨[],eqs,[],[],[],mixs,meqs,[]⟩) (sv:=.tup [.u64 (W.extB a n true).1,.bool (W.extB a n true).2]) st_Gw ⟨okNil,eqs_ok,okNilB,okNilI,okNilP,mixs_ok,meqs_ok,okNilY⟩ Tryz.func167 rfl mixed [] (by kernel_rfl) 10000 (by rfl) ?_
   (conv=>whnf)
   (repeat' (first | (refine And.intro (fun hb => ?_) (fun hb => ?_)<;>(first|contradiction | (conv=>whnf))) | (refine And.intro ?_ ?_;rotate_left 1;(conv=>whnf))))
   all_goals ((try simp only[beq_iff_eq,beq_eq_false_iff_ne,bne_iff_ne,bne_eq_false_iff_eq,ne_eq] at *)<;>(try subst_vars)<;>first|exact W.x_t64 a|rfl|trivial|decide|exact W.x_f8 a|exact W.x_t8 a|exact W.x_f16 a|exact W.x_t16 a|exact W.x_f32 a|exact W.x_t32 a|exact W.y_f8 a|exact W.y_f16 a|exact W.y_f32 a|exact W.y_t8 a (W.y_neg8 a▸beq_iff_eq.2 (by assumption))|exact W.y_u8 a (W.y_neg8 a▸beq_eq_false_iff_ne.2 (by assumption))|exact W.y_t16 a (W.y_neg16 a▸beq_iff_eq.2 (by assumption))|exact W.y_u16 a (W.y_neg16 a▸beq_eq_false_iff_ne.2 (by assumption))|exact W.y_t32 a (W.y_neg32 a▸beq_iff_eq.2 (by assumption))|exact W.y_u32 a (W.y_neg32 a▸beq_eq_false_iff_ne.2 (by assumption)) | (exact absurd (by assumption) (by decide)) | (simp_all [eqv,eqv1,eqv2,W.extB];done))
 . rename_i a n
   refine ctr_flat (Γ:=⟨[],eqs,[],[],[],mixs,meqs,[]⟩) (sv:=.tup [.u64 (W.extB a n false).1,.bool (W.extB a n false).2]) st_Gw ⟨okNil,eqs_ok,okNilB,okNilI,okNilP,mixs_ok,meqs_ok,okNilY⟩ Tryz.func167 rfl mixed [] (by kernel_rfl) 10000 (by rfl) ?_
   (conv=>whnf)
   (repeat' (first | (refine And.intro (fun hb => ?_) (fun hb => ?_)<;>(first|contradiction | (conv=>whnf))) | (refine And.intro ?_ ?_;rotate_left 1;(conv=>whnf))))
   all_goals ((try simp only[beq_iff_eq,beq_eq_false_iff_ne,bne_iff_ne,bne_eq_false_iff_eq,ne_eq] at *)<;>(try subst_vars)<;>first|exact W.x_t64 a|rfl|trivial|decide|exact W.x_f8 a|exact W.x_t8 a|exact W.x_f16 a|exact W.x_t16 a|exact W.x_f32 a|exact W.x_t32 a|exact W.y_f8 a|exact W.y_f16 a|exact W.y_f32 a|exact W.y_t8 a (W.y_neg8 a▸beq_iff_eq.2 (by assumption))|exact W.y_u8 a (W.y_neg8 a▸beq_eq_false_iff_ne.2 (by assumption))|exact W.y_t16 a (W.y_neg16 a▸beq_iff_eq.2 (by assumption))|exact W.y_u16 a (W.y_neg16 a▸beq_eq_false_iff_ne.2 (by assumption))|exact W.y_t32 a (W.y_neg32 a▸beq_iff_eq.2 (by assumption))|exact W.y_u32 a (W.y_neg32 a▸beq_eq_false_iff_ne.2 (by assumption)) | (exact absurd (by assumption) (by decide)) | (simp_all [eqv,eqv1,eqv2,W.extB];done))
 . trivial
def k_xExt:List SV→List Blk→Res:=fun args _=>match args with
 |[.u64 a,.int .i64 n,.bool sg]=>.ok (.tup [.u64 (W.extB a n sg).1,.bool (W.extB a n sg).2]) []
 |[.u64 a,.int .i64 n,.tt]=>.ok (.tup [.u64 (W.extB a n true).1,.bool (W.extB a n true).2]) []
 |[.u64 a,.int .i64 n,.ff]=>.ok (.tup [.u64 (W.extB a n false).1,.bool (W.extB a n false).2]) []
 |_=>.fail
theorem k_xExt_ok:CtrOk Tryz.prog Gw 125 k_xExt:=by
 refine⟨fun _ _=>by kernel_rfl,fun args M => ?_⟩
 unfold k_xExt
 split
 . rename_i a n sg
   refine ctr_flat (Γ:=⟨[],eqs,[],[(172,Tryz.f172,[]),(171,Tryz.f171,[]),(203,Tryz.f203,[])],[],mixs,meqs,[]⟩) (sv:=.tup [.u64 (W.extB a n sg).1,.bool (W.extB a n sg).2]) st_Gw ⟨okNil,eqs_ok,okNilB,(okConsI Tryz.func172 rfl (by kernel_rfl) (fun _ _=>by kernel_rfl) (okConsI Tryz.func171 rfl (by kernel_rfl) (fun _ _=>by kernel_rfl) (okConsI Tryz.func203 rfl (by kernel_rfl) (fun _ _=>by kernel_rfl) okNilI))),okNilP,mixs_ok,meqs_ok,okNilY⟩ Tryz.func125 rfl mixed [] (by kernel_rfl) 10000 (by rfl) ?_
   (conv=>whnf)
   (repeat' (first | (refine .inl ⟨20,?_⟩;(conv=>whnf)) | (refine And.intro (fun hb => ?_) (fun hb => ?_)<;>(first|contradiction | (conv=>whnf))) | (refine And.intro ?_ ?_;rotate_left 1;(conv=>whnf))))
   all_goals ((try simp only[beq_iff_eq,beq_eq_false_iff_ne,bne_iff_ne,bne_eq_false_iff_eq,ne_eq] at *)<;>(try subst_vars)<;>first|exact W.x_t64 a|rfl|trivial|decide|exact W.x_f8 a|exact W.x_t8 a|exact W.x_f16 a|exact W.x_t16 a|exact W.x_f32 a|exact W.x_t32 a|exact W.y_f8 a|exact W.y_f16 a|exact W.y_f32 a|exact W.y_t8 a (W.y_neg8 a▸beq_iff_eq.2 (by assumption))|exact W.y_u8 a (W.y_neg8 a▸beq_eq_false_iff_ne.2 (by assumption))|exact W.y_t16 a (W.y_neg16 a▸beq_iff_eq.2 (by assumption))|exact W.y_u16 a (W.y_neg16 a▸beq_eq_false_iff_ne.2 (by assumption))|exact W.y_t32 a (W.y_neg32 a▸beq_iff_eq.2 (by assumption))|exact W.y_u32 a (W.y_neg32 a▸beq_eq_false_iff_ne.2 (by assumption)) | (exact absurd (by assumption) (by decide)) | (simp_all [eqv,eqv1,eqv2,W.extB];done))
 . rename_i a n
   refine ctr_flat (Γ:=⟨[],eqs,[],[(172,Tryz.f172,[]),(171,Tryz.f171,[]),(203,Tryz.f203,[])],[],mixs,meqs,[]⟩) (sv:=.tup [.u64 (W.extB a n true).1,.bool (W.extB a n true).2]) st_Gw ⟨okNil,eqs_ok,okNilB,(okConsI Tryz.func172 rfl (by kernel_rfl) (fun _ _=>by kernel_rfl) (okConsI Tryz.func171 rfl (by kernel_rfl) (fun _ _=>by kernel_rfl) (okConsI Tryz.func203 rfl (by kernel_rfl) (fun _ _=>by kernel_rfl) okNilI))),okNilP,mixs_ok,meqs_ok,okNilY⟩ Tryz.func125 rfl mixed [] (by kernel_rfl) 10000 (by rfl) ?_
   (conv=>whnf)
   (repeat' (first | (refine .inl ⟨20,?_⟩;(conv=>whnf)) | (refine And.intro (fun hb => ?_) (fun hb => ?_)<;>(first|contradiction | (conv=>whnf))) | (refine And.intro ?_ ?_;rotate_left 1;(conv=>whnf))))
   all_goals ((try simp only[beq_iff_eq,beq_eq_false_iff_ne,bne_iff_ne,bne_eq_false_iff_eq,ne_eq] at *)<;>(try subst_vars)<;>first|exact W.x_t64 a|rfl|trivial|decide|exact W.x_f8 a|exact W.x_t8 a|exact W.x_f16 a|exact W.x_t16 a|exact W.x_f32 a|exact W.x_t32 a|exact W.y_f8 a|exact W.y_f16 a|exact W.y_f32 a|exact W.y_t8 a (W.y_neg8 a▸beq_iff_eq.2 (by assumption))|exact W.y_u8 a (W.y_neg8 a▸beq_eq_false_iff_ne.2 (by assumption))|exact W.y_t16 a (W.y_neg16 a▸beq_iff_eq.2 (by assumption))|exact W.y_u16 a (W.y_neg16 a▸beq_eq_false_iff_ne.2 (by assumption))|exact W.y_t32 a (W.y_neg32 a▸beq_iff_eq.2 (by assumption))|exact W.y_u32 a (W.y_neg32 a▸beq_eq_false_iff_ne.2 (by assumption)) | (exact absurd (by assumption) (by decide)) | (simp_all [eqv,eqv1,eqv2,W.extB];done))
 . rename_i a n
   refine ctr_flat (Γ:=⟨[],eqs,[],[(172,Tryz.f172,[]),(171,Tryz.f171,[]),(203,Tryz.f203,[])],[],mixs,meqs,[]⟩) (sv:=.tup [.u64 (W.extB a n false).1,.bool (W.extB a n false).2]) st_Gw ⟨okNil,eqs_ok,okNilB,(okConsI Tryz.func172 rfl (by kernel_rfl) (fun _ _=>by kernel_rfl) (okConsI Tryz.func171 rfl (by kernel_rfl) (fun _ _=>by kernel_rfl) (okConsI Tryz.func203 rfl (by kernel_rfl) (fun _ _=>by kernel_rfl) okNilI))),okNilP,mixs_ok,meqs_ok,okNilY⟩ Tryz.func125 rfl mixed [] (by kernel_rfl) 10000 (by rfl) ?_
   (conv=>whnf)
   (repeat' (first | (refine .inl ⟨20,?_⟩;(conv=>whnf)) | (refine And.intro (fun hb => ?_) (fun hb => ?_)<;>(first|contradiction | (conv=>whnf))) | (refine And.intro ?_ ?_;rotate_left 1;(conv=>whnf))))
   all_goals ((try simp only[beq_iff_eq,beq_eq_false_iff_ne,bne_iff_ne,bne_eq_false_iff_eq,ne_eq] at *)<;>(try subst_vars)<;>first|exact W.x_t64 a|rfl|trivial|decide|exact W.x_f8 a|exact W.x_t8 a|exact W.x_f16 a|exact W.x_t16 a|exact W.x_f32 a|exact W.x_t32 a|exact W.y_f8 a|exact W.y_f16 a|exact W.y_f32 a|exact W.y_t8 a (W.y_neg8 a▸beq_iff_eq.2 (by assumption))|exact W.y_u8 a (W.y_neg8 a▸beq_eq_false_iff_ne.2 (by assumption))|exact W.y_t16 a (W.y_neg16 a▸beq_iff_eq.2 (by assumption))|exact W.y_u16 a (W.y_neg16 a▸beq_eq_false_iff_ne.2 (by assumption))|exact W.y_t32 a (W.y_neg32 a▸beq_iff_eq.2 (by assumption))|exact W.y_u32 a (W.y_neg32 a▸beq_eq_false_iff_ne.2 (by assumption)) | (exact absurd (by assumption) (by decide)) | (simp_all [eqv,eqv1,eqv2,W.extB];done))
 . trivial
namespace C
def cut (x:Sc)(n:Int)(top:BitVec 64):Sc:=if decide (x.s.hi<top) then x else (of (T.low x.t n).1 ⟨BitVec.ofInt 64 0,top-BitVec.ofInt 64 1,0,sv (top-BitVec.ofInt 64 1)⟩).1
theorem top_in (a b:BitVec 64)(x:BitVec 64):R.inS ⟨a,b,0,sv x⟩=true:=S.inS_iff.2 ⟨⟨by show(-9223372036854775808:Int)≤0;decide,by show(0:Int)≤9223372036854775807;decide⟩,S.sv_in x⟩
theorem cut_in {x:Sc}(h:R.inS x.s=true)(n:Int)(top:BitVec 64):R.inS (cut x n top).s=true:=by
 unfold cut
 split
 . exact h
 . exact of_in (top_in _ _ _)
theorem wrap_in (x:Int) : -9223372036854775808≤IntKind.i64.wrap x∧IntKind.i64.wrap x≤9223372036854775807:=by
 simp only[IntKind.wrap,IntKind.signed,IntKind.bits,Bool.true_and,decide_eq_true_eq]
 constructor<;>split
 . rename_i h;have h:=of_decide_eq_true h;omega
 . rename_i h;have h : ¬ (x % 2^64 ≥ 2 ^ (64-1)):=fun e=>h (decide_eq_true e)
   omega
 . rename_i h;have h:=of_decide_eq_true h;omega
 . rename_i h;have h : ¬ (x % 2^64 ≥ 2 ^ (64-1)):=fun e=>h (decide_eq_true e)
   omega
theorem wraps_in (a b:BitVec 64)(x y:Int):R.inS ⟨a,b,IntKind.i64.wrap x,IntKind.i64.wrap y⟩=true:=S.inS_iff.2 ⟨wrap_in x,wrap_in y⟩
def tops (n:Int):BitVec 64:=BitVec.ofInt 64 1 <<< (IntKind.i64.wrap (8*n)).toNat
def wide (p:BitVec 64):Sc×Bool:=of ⟨0,BitVec.allOnes 64⟩ ⟨BitVec.ofInt 64 0,BitVec.ofInt 64 18446744073709551615,IntKind.i64.wrap (0-sv (p / BitVec.ofInt 64 2)),IntKind.i64.wrap (sv (p / BitVec.ofInt 64 2)-1)⟩
def tail (x:Sc)(n:Int)(sg:Bool)(p:BitVec 64):Sc×Bool:=
 if sg then (if decide ((cut x n p).s.hi<p / BitVec.ofInt 64 2) then (cut x n p,true) else if (one (cut x n p)).2 then (const (W.extB (one (cut x n p)).1 n true).1,true) else wide p) else (cut x n p,true)
def low (x:Sc)(n:Int)(sg:Bool):Sc×Bool:=if (W.extB (BitVec.ofInt 64 0) n sg).2 then (if right x then (if n==8 then (x,true) else tail x n sg (tops n)) else ((⟨⟨BitVec.ofInt 64 0,BitVec.ofInt 64 0⟩,⟨BitVec.ofInt 64 0,BitVec.ofInt 64 0,0,0⟩⟩:Sc),false)) else ((⟨⟨BitVec.ofInt 64 0,BitVec.ofInt 64 0⟩,⟨BitVec.ofInt 64 0,BitVec.ofInt 64 0,0,0⟩⟩:Sc),false)
theorem ext_n {a:BitVec 64}{n:Int}{sg:Bool}(h:(W.extB a n sg).2=true):n=1∨n=2∨n=4∨n=8:=by
 unfold W.extB at h
 by_cases h1:n=1
 . exact .inl h1
 by_cases h2:n=2
 . exact .inr (.inl h2)
 by_cases h3:n=4
 . exact .inr (.inr (.inl h3))
 by_cases h4:n=8
 . exact .inr (.inr (.inr h4))
 rw[if_neg (by simpa using h1),if_neg (by simpa using h2),if_neg (by simpa using h3),if_neg (by simpa using h4)] at h
 cases h
theorem n_ext {a:BitVec 64}{n:Int}{sg:Bool}(h:n=1∨n=2∨n=4∨n=8):(W.extB a n sg).2=true:=by
 rcases h with rfl|rfl|rfl|rfl<;>rfl
theorem sh_ok {a:BitVec 64}{n:Int}{sg:Bool}(h:(W.extB a n sg).2=true):decide (0≤IntKind.i64.wrap (8*n))=true:=by
 rcases ext_n h with rfl|rfl|rfl|rfl<;>decide
section
variable {x:Sc}{n:Int}{sg:Bool}
theorem low_no1 (h:(W.extB (BitVec.ofInt 64 0) n sg).2=false):low x n sg=((⟨⟨BitVec.ofInt 64 0,BitVec.ofInt 64 0⟩,⟨BitVec.ofInt 64 0,BitVec.ofInt 64 0,0,0⟩⟩:Sc),false):=by unfold low;rw[h];rfl
theorem low_no2 (h:right x=false):low x n sg=((⟨⟨BitVec.ofInt 64 0,BitVec.ofInt 64 0⟩,⟨BitVec.ofInt 64 0,BitVec.ofInt 64 0,0,0⟩⟩:Sc),false):=by unfold low;rw[h];cases (W.extB (BitVec.ofInt 64 0) n sg).2<;>rfl
variable (h1:(W.extB (BitVec.ofInt 64 0) n sg).2=true)(h2:right x=true)
include h1 h2
theorem low_8 (h:(n==8)=true):low x n sg=(x,true):=by unfold low;rw[h1,h2,h];rfl
theorem low_tail (h:(n==8)=false):low x n sg=tail x n sg (tops n):=by unfold low;rw[h1,h2,h];rfl
theorem low_u (h:(n==8)=false)(hs:sg=false):low x n sg=(cut x n (tops n),true):=by rw[low_tail h1 h2 h];unfold tail;rw[hs];rfl
theorem low_v (h:(n==8)=false)(hs:sg=true)(hv:decide ((cut x n (tops n)).s.hi<tops n / BitVec.ofInt 64 2)=true):low x n sg=(cut x n (tops n),true):=by rw[low_tail h1 h2 h];unfold tail;rw[hs,hv];rfl
theorem low_one (h:(n==8)=false)(hs:sg=true)(hv:decide ((cut x n (tops n)).s.hi<tops n / BitVec.ofInt 64 2)=false)(ho:(one (cut x n (tops n))).2=true):low x n sg=(const (W.extB (one (cut x n (tops n))).1 n true).1,true):=by rw[low_tail h1 h2 h];unfold tail;rw[hs,hv,ho];rfl
theorem low_w (h:(n==8)=false)(hs:sg=true)(hv:decide ((cut x n (tops n)).s.hi<tops n / BitVec.ofInt 64 2)=false)(ho:(one (cut x n (tops n))).2=false):low x n sg=wide (tops n):=by rw[low_tail h1 h2 h];unfold tail;rw[hs,hv,ho];rfl
end
end C
theorem eqv_b (y:Sc)(b:Bool):eqv (.tup [scv y,.bool b]) (.tup [scv y,.bool b]):=⟨⟨rfl,rfl,rfl,rfl,⟨rfl,rfl⟩,⟨rfl,rfl⟩,trivial⟩,rfl,trivial⟩
def k_cCut:List SV→List Blk→Res:=fun args _=>match args with
 |[.agg [.u64 av,.u64 am,.u64 alo,.u64 ahi,.int .i64 asl,.int .i64 ash],.int .i64 n,.u64 top]=>.test (R.inS ⟨alo,ahi,asl,ash⟩) (.ok (scv (C.cut (⟨⟨av,am⟩,⟨alo,ahi,asl,ash⟩⟩:Sc) n top)) [])
 |_=>.fail
theorem k_cCut_ok:CtrOk Tryz.prog Gw 168 k_cCut:=by
 refine⟨fun _ _=>by kernel_rfl,fun args M => ?_⟩
 unfold k_cCut
 split
 . rename_i av am alo ahi asl ash n top
   intro ht
   refine ctr_flat (Γ:=⟨[(201,k_Low),(101,k_Of)],eqs,[],[],[],mixs,meqs,[]⟩) (sv:=scv (C.cut (⟨⟨av,am⟩,⟨alo,ahi,asl,ash⟩⟩:Sc) n top)) st_Gw ⟨(okCons k_Low_ok (okCons k_Of_ok okNil)),eqs_ok,okNilB,okNilI,okNilP,mixs_ok,meqs_ok,okNilY⟩ Tryz.func168 rfl mixed [] (by kernel_rfl) 10000 (by rfl) ?_
   (conv=>whnf)
   (repeat' (first | (refine And.intro (fun hb => ?_) (fun hb => ?_)<;>(first|contradiction | (conv=>whnf))) | (refine And.intro ?_ ?_;rotate_left 1;(conv=>whnf))))
   all_goals (first|assumption|exact C.top_in _ _ _|first|rfl|trivial | ((try dsimp only at *);(try simp only[Bool.not_eq_true',Bool.not_eq_false',bne,ite_uv] at *);(simp only[eqv,eqv1,eqv2,eqvL1,eqvL2, *,C.cut,bne,Bool.and_true,Bool.true_and,Bool.and_false,Bool.false_and,Bool.or_true,Bool.true_or,Bool.or_false,Bool.false_or,Bool.not_true,Bool.not_false,if_true,if_false,Bool.false_eq_true,beq_self_eq_true];done)) | ((try dsimp only at *);(try simp only[Bool.not_eq_true',Bool.not_eq_false',bne] at *);simp only[eqv,eqv1,eqv2,eqvL1,eqvL2, *,C.cut,bne,Bool.and_true,Bool.true_and,Bool.and_false,Bool.false_and,Bool.or_true,Bool.true_or,Bool.or_false,Bool.false_or,Bool.not_true,Bool.not_false,if_true,if_false,Bool.false_eq_true,beq_self_eq_true];rfl) | (simp_all [eqv,eqv1,eqv2,eqvL1,eqvL2,C.cut];done))
 . trivial
def k_cLow:List SV→List Blk→Res:=fun args _=>match args with
 |[.agg [.u64 av,.u64 am,.u64 alo,.u64 ahi,.int .i64 asl,.int .i64 ash],.int .i64 n,.bool sg]=>.test (R.inS ⟨alo,ahi,asl,ash⟩) (.ok (.tup [scv (C.low (⟨⟨av,am⟩,⟨alo,ahi,asl,ash⟩⟩:Sc) n sg).1,.bool (C.low (⟨⟨av,am⟩,⟨alo,ahi,asl,ash⟩⟩:Sc) n sg).2]) [])
 |[.agg [.u64 av,.u64 am,.u64 alo,.u64 ahi,.int .i64 asl,.int .i64 ash],.int .i64 n,.tt]=>.test (R.inS ⟨alo,ahi,asl,ash⟩) (.ok (.tup [scv (C.low (⟨⟨av,am⟩,⟨alo,ahi,asl,ash⟩⟩:Sc) n true).1,.bool (C.low (⟨⟨av,am⟩,⟨alo,ahi,asl,ash⟩⟩:Sc) n true).2]) [])
 |[.agg [.u64 av,.u64 am,.u64 alo,.u64 ahi,.int .i64 asl,.int .i64 ash],.int .i64 n,.ff]=>.test (R.inS ⟨alo,ahi,asl,ash⟩) (.ok (.tup [scv (C.low (⟨⟨av,am⟩,⟨alo,ahi,asl,ash⟩⟩:Sc) n false).1,.bool (C.low (⟨⟨av,am⟩,⟨alo,ahi,asl,ash⟩⟩:Sc) n false).2]) [])
 |_=>.fail
theorem k_cLow_ok:CtrOk Tryz.prog Gw 120 k_cLow:=by
 refine⟨fun _ _=>by kernel_rfl,fun args M => ?_⟩
 unfold k_cLow
 split
 . rename_i av am alo ahi asl ash n sg
   intro ht
   refine ctr_flat (Γ:=⟨[(167,k_Ext),(83,k_cRight),(168,k_cCut),(97,k_cOne),(5,k_cConst),(102,k_Unknown),(101,k_Of)],eqs,[],[],[],mixs,meqs,[]⟩) (sv:=.tup [scv (C.low (⟨⟨av,am⟩,⟨alo,ahi,asl,ash⟩⟩:Sc) n sg).1,.bool (C.low (⟨⟨av,am⟩,⟨alo,ahi,asl,ash⟩⟩:Sc) n sg).2]) st_Gw ⟨(okCons k_Ext_ok (okCons k_cRight_ok (okCons k_cCut_ok (okCons k_cOne_ok (okCons k_cConst_ok (okCons k_Unknown_ok (okCons k_Of_ok okNil))))))),eqs_ok,okNilB,okNilI,okNilP,mixs_ok,meqs_ok,okNilY⟩ Tryz.func120 rfl mixed [] (by kernel_rfl) 10000 (by rfl) ?_
   (conv=>whnf)
   (repeat' (first | (refine step_t (by first|rfl|assumption) ?_;(conv=>whnf)) | (refine step_f (by first|rfl|assumption) ?_;(conv=>whnf)) | (refine step_nt (by assumption) ?_;(conv=>whnf)) | (refine step_nf (by assumption) ?_;(conv=>whnf)) | (refine step_n (fun hb => ?_) (fun hb => ?_)<;>(first|contradiction | (conv=>whnf))) | (refine And.intro (fun hb => ?_) (fun hb => ?_)<;>(first|contradiction | (conv=>whnf))) | (refine And.intro (a:=(_:Bool)=true) ?_ ?_;rotate_left 1;(conv=>whnf))))
   all_goals (first|rfl|assumption|exact C.cut_in (by first|assumption|rfl) _ _|exact C.wraps_in _ _ _ _|exact C.sh_ok (by first|assumption|rfl) | (rw[C.low_no1 (by first|assumption|rfl)];exact eqv_ff ⟨⟨_,_⟩,⟨_,_,_,_⟩⟩) | (rw[C.low_no2 (by first|assumption|rfl)];exact eqv_ff ⟨⟨_,_⟩,⟨_,_,_,_⟩⟩) | (rw[C.low_8 (by first|assumption|rfl) (by first|assumption|rfl) (by first|assumption|rfl)];exact eqv_tt ⟨⟨_,_⟩,⟨_,_,_,_⟩⟩) | (rw[C.low_u (by first|assumption|rfl) (by first|assumption|rfl) (by first|assumption|rfl) (by first|assumption|rfl)];exact eqv_tt _) | (rw[C.low_v (by first|assumption|rfl) (by first|assumption|rfl) (by first|assumption|rfl) (by first|assumption|rfl) (by first|assumption|rfl)];exact eqv_tt _) | (rw[C.low_one (by first|assumption|rfl) (by first|assumption|rfl) (by first|assumption|rfl) (by first|assumption|rfl) (by first|assumption|rfl) (by first|assumption|rfl)];exact eqv_tt _) | (rw[C.low_w (by first|assumption|rfl) (by first|assumption|rfl) (by first|assumption|rfl) (by first|assumption|rfl) (by first|assumption|rfl) (by first|assumption|rfl)];exact eqv_b _ _))
 . rename_i av am alo ahi asl ash n
   intro ht
   refine ctr_flat (Γ:=⟨[(167,k_Ext),(83,k_cRight),(168,k_cCut),(97,k_cOne),(5,k_cConst),(102,k_Unknown),(101,k_Of)],eqs,[],[],[],mixs,meqs,[]⟩) (sv:=.tup [scv (C.low (⟨⟨av,am⟩,⟨alo,ahi,asl,ash⟩⟩:Sc) n true).1,.bool (C.low (⟨⟨av,am⟩,⟨alo,ahi,asl,ash⟩⟩:Sc) n true).2]) st_Gw ⟨(okCons k_Ext_ok (okCons k_cRight_ok (okCons k_cCut_ok (okCons k_cOne_ok (okCons k_cConst_ok (okCons k_Unknown_ok (okCons k_Of_ok okNil))))))),eqs_ok,okNilB,okNilI,okNilP,mixs_ok,meqs_ok,okNilY⟩ Tryz.func120 rfl mixed [] (by kernel_rfl) 10000 (by rfl) ?_
   (conv=>whnf)
   (repeat' (first | (refine step_t (by first|rfl|assumption) ?_;(conv=>whnf)) | (refine step_f (by first|rfl|assumption) ?_;(conv=>whnf)) | (refine step_nt (by assumption) ?_;(conv=>whnf)) | (refine step_nf (by assumption) ?_;(conv=>whnf)) | (refine step_n (fun hb => ?_) (fun hb => ?_)<;>(first|contradiction | (conv=>whnf))) | (refine And.intro (fun hb => ?_) (fun hb => ?_)<;>(first|contradiction | (conv=>whnf))) | (refine And.intro (a:=(_:Bool)=true) ?_ ?_;rotate_left 1;(conv=>whnf))))
   all_goals (first|rfl|assumption|exact C.cut_in (by first|assumption|rfl) _ _|exact C.wraps_in _ _ _ _|exact C.sh_ok (by first|assumption|rfl) | (rw[C.low_no1 (by first|assumption|rfl)];exact eqv_ff ⟨⟨_,_⟩,⟨_,_,_,_⟩⟩) | (rw[C.low_no2 (by first|assumption|rfl)];exact eqv_ff ⟨⟨_,_⟩,⟨_,_,_,_⟩⟩) | (rw[C.low_8 (by first|assumption|rfl) (by first|assumption|rfl) (by first|assumption|rfl)];exact eqv_tt ⟨⟨_,_⟩,⟨_,_,_,_⟩⟩) | (rw[C.low_u (by first|assumption|rfl) (by first|assumption|rfl) (by first|assumption|rfl) (by first|assumption|rfl)];exact eqv_tt _) | (rw[C.low_v (by first|assumption|rfl) (by first|assumption|rfl) (by first|assumption|rfl) (by first|assumption|rfl) (by first|assumption|rfl)];exact eqv_tt _) | (rw[C.low_one (by first|assumption|rfl) (by first|assumption|rfl) (by first|assumption|rfl) (by first|assumption|rfl) (by first|assumption|rfl) (by first|assumption|rfl)];exact eqv_tt _) | (rw[C.low_w (by first|assumption|rfl) (by first|assumption|rfl) (by first|assumption|rfl) (by first|assumption|rfl) (by first|assumption|rfl) (by first|assumption|rfl)];exact eqv_b _ _))
 . rename_i av am alo ahi asl ash n
   intro ht
   refine ctr_flat (Γ:=⟨[(167,k_Ext),(83,k_cRight),(168,k_cCut),(97,k_cOne),(5,k_cConst),(102,k_Unknown),(101,k_Of)],eqs,[],[],[],mixs,meqs,[]⟩) (sv:=.tup [scv (C.low (⟨⟨av,am⟩,⟨alo,ahi,asl,ash⟩⟩:Sc) n false).1,.bool (C.low (⟨⟨av,am⟩,⟨alo,ahi,asl,ash⟩⟩:Sc) n false).2]) st_Gw ⟨(okCons k_Ext_ok (okCons k_cRight_ok (okCons k_cCut_ok (okCons k_cOne_ok (okCons k_cConst_ok (okCons k_Unknown_ok (okCons k_Of_ok okNil))))))),eqs_ok,okNilB,okNilI,okNilP,mixs_ok,meqs_ok,okNilY⟩ Tryz.func120 rfl mixed [] (by kernel_rfl) 10000 (by rfl) ?_
   (conv=>whnf)
   (repeat' (first | (refine step_t (by first|rfl|assumption) ?_;(conv=>whnf)) | (refine step_f (by first|rfl|assumption) ?_;(conv=>whnf)) | (refine step_nt (by assumption) ?_;(conv=>whnf)) | (refine step_nf (by assumption) ?_;(conv=>whnf)) | (refine step_n (fun hb => ?_) (fun hb => ?_)<;>(first|contradiction | (conv=>whnf))) | (refine And.intro (fun hb => ?_) (fun hb => ?_)<;>(first|contradiction | (conv=>whnf))) | (refine And.intro (a:=(_:Bool)=true) ?_ ?_;rotate_left 1;(conv=>whnf))))
   all_goals (first|rfl|assumption|exact C.cut_in (by first|assumption|rfl) _ _|exact C.wraps_in _ _ _ _|exact C.sh_ok (by first|assumption|rfl) | (rw[C.low_no1 (by first|assumption|rfl)];exact eqv_ff ⟨⟨_,_⟩,⟨_,_,_,_⟩⟩) | (rw[C.low_no2 (by first|assumption|rfl)];exact eqv_ff ⟨⟨_,_⟩,⟨_,_,_,_⟩⟩) | (rw[C.low_8 (by first|assumption|rfl) (by first|assumption|rfl) (by first|assumption|rfl)];exact eqv_tt ⟨⟨_,_⟩,⟨_,_,_,_⟩⟩) | (rw[C.low_u (by first|assumption|rfl) (by first|assumption|rfl) (by first|assumption|rfl) (by first|assumption|rfl)];exact eqv_tt _) | (rw[C.low_v (by first|assumption|rfl) (by first|assumption|rfl) (by first|assumption|rfl) (by first|assumption|rfl) (by first|assumption|rfl)];exact eqv_tt _) | (rw[C.low_one (by first|assumption|rfl) (by first|assumption|rfl) (by first|assumption|rfl) (by first|assumption|rfl) (by first|assumption|rfl) (by first|assumption|rfl)];exact eqv_tt _) | (rw[C.low_w (by first|assumption|rfl) (by first|assumption|rfl) (by first|assumption|rfl) (by first|assumption|rfl) (by first|assumption|rfl) (by first|assumption|rfl)];exact eqv_b _ _))
 . trivial
namespace C
theorem rtop_eq {n:Int}(h:n=1∨n=2∨n=4∨n=8)(h8:(n==8)=false):BitVec.ofInt 64 1 <<< (BitVec.ofInt 64 (IntKind.i64.wrap (8*n))).toNat=tops n:=by
 rcases h with rfl|rfl|rfl|rfl
 . decide
 . decide
 . decide
 . cases h8
theorem cut_hi {x:Sc}{n:Int}{p:BitVec 64}(h:decide (p≤x.s.hi)=true):cut x n p=(of (T.low x.t n).1 ⟨BitVec.ofInt 64 0,p-BitVec.ofInt 64 1,0,sv (p-BitVec.ofInt 64 1)⟩).1:=by
 unfold cut
 rw[if_neg]
 have h:=of_decide_eq_true h
 intro k
 have k:=of_decide_eq_true k
 rw[BitVec.le_def] at h;rw[BitVec.lt_def] at k;omega
theorem cut_lo {x:Sc}{n:Int}{p:BitVec 64}(h:decide (p≤x.s.hi)=false):cut x n p=x:=by
 unfold cut
 rw[if_pos]
 have h:=of_decide_eq_false h
 refine decide_eq_true ?_
 rw[BitVec.le_def] at h;rw[BitVec.lt_def];omega
theorem wide_ok {n:Int}(h:n=1∨n=2∨n=4∨n=8)(h8:(n==8)=false):(wide (tops n)).2=true:=by
 rcases h with rfl|rfl|rfl|rfl
 . kernel_rfl
 . kernel_rfl
 . kernel_rfl
 . cases h8
theorem pair_eta (p:Sc×Bool):p=(p.1,p.2):=rfl
end C
def k_qLow:List SV→List Blk→Res:=fun args _=>match args with
 |[.agg [.u64 av,.u64 am,.u64 alo,.u64 ahi,.int .i64 asl,.int .i64 ash],.int .i64 n,.bool sg]=>.test (R.inS ⟨alo,ahi,asl,ash⟩) (.ok (.tup [scv (C.low (⟨⟨av,am⟩,⟨alo,ahi,asl,ash⟩⟩:Sc) n sg).1,.bool (C.low (⟨⟨av,am⟩,⟨alo,ahi,asl,ash⟩⟩:Sc) n sg).2]) [])
 |_=>.fail
theorem k_qLow_ok:CtrOk Tryz.prog Gw 75 k_qLow:=by
 refine⟨fun _ _=>by kernel_rfl,fun args M => ?_⟩
 unfold k_qLow
 split
 . rename_i av am alo ahi asl ash n sg
   intro ht
   refine ctr_flat (Γ:=⟨[(125,k_xExt),(85,k_qRight),(124,k_rLow),(112,k_rTog),(62,k_qOne),(33,k_qConst),(64,k_rUnknown)],eqs,[],[],[],mixs,meqs,[]⟩) (sv:=.tup [scv (C.low (⟨⟨av,am⟩,⟨alo,ahi,asl,ash⟩⟩:Sc) n sg).1,.bool (C.low (⟨⟨av,am⟩,⟨alo,ahi,asl,ash⟩⟩:Sc) n sg).2]) st_Gw ⟨(okCons k_xExt_ok (okCons k_qRight_ok (okCons k_rLow_ok (okCons k_rTog_ok (okCons k_qOne_ok (okCons k_qConst_ok (okCons k_rUnknown_ok okNil))))))),eqs_ok,okNilB,okNilI,okNilP,mixs_ok,meqs_ok,okNilY⟩ Tryz.func75 rfl mixed [] (by kernel_rfl) 10000 (by rfl) ?_
   (conv=>whnf)
   (repeat' (first | (refine step_t (by first|rfl|assumption) ?_;(conv=>whnf)) | (refine step_f (by first|rfl|assumption) ?_;(conv=>whnf)) | (refine step_nt (by assumption) ?_;(conv=>whnf)) | (refine step_nf (by assumption) ?_;(conv=>whnf)) | (refine step_n (fun hb => ?_) (fun hb => ?_)<;>(first|contradiction | (conv=>whnf))) | (refine And.intro (fun hb => ?_) (fun hb => ?_)<;>(first|contradiction | (conv=>whnf))) | (refine And.intro (a:=(_:Bool)=true) ?_ ?_;rotate_left 1;(conv=>whnf))))
   all_goals (first|rfl|assumption|exact C.top_in _ _ _|exact C.of_in (C.top_in _ _ _)|exact C.wraps_in _ _ _ _ | (rw[C.low_no2 (by assumption)];exact eqv_ff ⟨⟨_,_⟩,⟨_,_,_,_⟩⟩) | (rw[C.low_no1 (Bool.eq_false_iff.2 fun h=>by have h:=C.ext_n h;(simp only[bne_iff_ne,bne_eq_false_iff_eq,beq_iff_eq,beq_eq_false_iff_ne,ne_eq] at * <;> omega))];exact eqv_ff ⟨⟨_,_⟩,⟨_,_,_,_⟩⟩) | (have hz:n=1∨n=2∨n=4∨n=8:=(by(simp only[bne_iff_ne,bne_eq_false_iff_eq,beq_iff_eq,beq_eq_false_iff_ne,ne_eq] at * <;> omega));rw[C.low_8 (C.n_ext hz) (by assumption) (by assumption)];exact eqv_tt ⟨⟨_,_⟩,⟨_,_,_,_⟩⟩) | (have hz:n=1∨n=2∨n=4∨n=8:=(by(simp only[bne_iff_ne,bne_eq_false_iff_eq,beq_iff_eq,beq_eq_false_iff_ne,ne_eq] at * <;> omega));have h8:(n==8)=false:=(by assumption);have e:=C.rtop_eq hz h8;have ec:=C.cut_hi (x:=(⟨⟨av,am⟩,⟨alo,ahi,asl,ash⟩⟩:Sc)) (n:=n) (by assumption);rw[C.low_u (C.n_ext hz) (by assumption) h8 (by assumption),← e,ec];first|exact eqv_tt _|exact eqv_tt ⟨⟨_,_⟩,⟨_,_,_,_⟩⟩) | (have hz:n=1∨n=2∨n=4∨n=8:=(by(simp only[bne_iff_ne,bne_eq_false_iff_eq,beq_iff_eq,beq_eq_false_iff_ne,ne_eq] at * <;> omega));have h8:(n==8)=false:=(by assumption);have e:=C.rtop_eq hz h8;have ec:=C.cut_hi (x:=(⟨⟨av,am⟩,⟨alo,ahi,asl,ash⟩⟩:Sc)) (n:=n) (by assumption);rw[C.low_v (C.n_ext hz) (by assumption) h8 (by assumption) (by rw[← e,ec];assumption),← e,ec];first|exact eqv_tt _|exact eqv_tt ⟨⟨_,_⟩,⟨_,_,_,_⟩⟩) | (have hz:n=1∨n=2∨n=4∨n=8:=(by(simp only[bne_iff_ne,bne_eq_false_iff_eq,beq_iff_eq,beq_eq_false_iff_ne,ne_eq] at * <;> omega));have h8:(n==8)=false:=(by assumption);have e:=C.rtop_eq hz h8;have ec:=C.cut_hi (x:=(⟨⟨av,am⟩,⟨alo,ahi,asl,ash⟩⟩:Sc)) (n:=n) (by assumption);rw[C.low_one (C.n_ext hz) (by assumption) h8 (by assumption) (by rw[← e,ec];assumption) (by rw[← e,ec];assumption),← e,ec];first|exact eqv_tt _|exact eqv_tt ⟨⟨_,_⟩,⟨_,_,_,_⟩⟩) | (have hz:n=1∨n=2∨n=4∨n=8:=(by(simp only[bne_iff_ne,bne_eq_false_iff_eq,beq_iff_eq,beq_eq_false_iff_ne,ne_eq] at * <;> omega));have h8:(n==8)=false:=(by assumption);have e:=C.rtop_eq hz h8;have ec:=C.cut_hi (x:=(⟨⟨av,am⟩,⟨alo,ahi,asl,ash⟩⟩:Sc)) (n:=n) (by assumption);rw[C.low_w (C.n_ext hz) (by assumption) h8 (by assumption) (by rw[← e,ec];assumption) (by rw[← e,ec];assumption),C.pair_eta (C.wide (C.tops n)),C.wide_ok hz h8,← e];exact eqv_tt _) | (have hz:n=1∨n=2∨n=4∨n=8:=(by(simp only[bne_iff_ne,bne_eq_false_iff_eq,beq_iff_eq,beq_eq_false_iff_ne,ne_eq] at * <;> omega));have h8:(n==8)=false:=(by assumption);have e:=C.rtop_eq hz h8;have ec:=C.cut_lo (x:=(⟨⟨av,am⟩,⟨alo,ahi,asl,ash⟩⟩:Sc)) (n:=n) (by assumption);rw[C.low_u (C.n_ext hz) (by assumption) h8 (by assumption),← e,ec];first|exact eqv_tt _|exact eqv_tt ⟨⟨_,_⟩,⟨_,_,_,_⟩⟩) | (have hz:n=1∨n=2∨n=4∨n=8:=(by(simp only[bne_iff_ne,bne_eq_false_iff_eq,beq_iff_eq,beq_eq_false_iff_ne,ne_eq] at * <;> omega));have h8:(n==8)=false:=(by assumption);have e:=C.rtop_eq hz h8;have ec:=C.cut_lo (x:=(⟨⟨av,am⟩,⟨alo,ahi,asl,ash⟩⟩:Sc)) (n:=n) (by assumption);rw[C.low_v (C.n_ext hz) (by assumption) h8 (by assumption) (by rw[← e,ec];assumption),← e,ec];first|exact eqv_tt _|exact eqv_tt ⟨⟨_,_⟩,⟨_,_,_,_⟩⟩) | (have hz:n=1∨n=2∨n=4∨n=8:=(by(simp only[bne_iff_ne,bne_eq_false_iff_eq,beq_iff_eq,beq_eq_false_iff_ne,ne_eq] at * <;> omega));have h8:(n==8)=false:=(by assumption);have e:=C.rtop_eq hz h8;have ec:=C.cut_lo (x:=(⟨⟨av,am⟩,⟨alo,ahi,asl,ash⟩⟩:Sc)) (n:=n) (by assumption);rw[C.low_one (C.n_ext hz) (by assumption) h8 (by assumption) (by rw[← e,ec];assumption) (by rw[← e,ec];assumption),← e,ec];first|exact eqv_tt _|exact eqv_tt ⟨⟨_,_⟩,⟨_,_,_,_⟩⟩) | (have hz:n=1∨n=2∨n=4∨n=8:=(by(simp only[bne_iff_ne,bne_eq_false_iff_eq,beq_iff_eq,beq_eq_false_iff_ne,ne_eq] at * <;> omega));have h8:(n==8)=false:=(by assumption);have e:=C.rtop_eq hz h8;have ec:=C.cut_lo (x:=(⟨⟨av,am⟩,⟨alo,ahi,asl,ash⟩⟩:Sc)) (n:=n) (by assumption);rw[C.low_w (C.n_ext hz) (by assumption) h8 (by assumption) (by rw[← e,ec];assumption) (by rw[← e,ec];assumption),C.pair_eta (C.wide (C.tops n)),C.wide_ok hz h8,← e];exact eqv_tt _))
 . trivial
end Go.Proofs.YtfgkhenhlpoheaaGreat
