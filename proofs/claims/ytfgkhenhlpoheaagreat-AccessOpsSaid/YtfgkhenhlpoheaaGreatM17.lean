import Derived.Test.YtfgkhenhlpoheaaGreatM10
import Derived.Test.YtfgkhenhlpoheaaGreatM16
set_option linter.all false
namespace Go.Proofs.YtfgkhenhlpoheaaGreat
open Go.RowKit Go.Sx
set_option maxRecDepth 100000
set_option maxHeartbeats 4000000
structure Ab where
 k:Int
 n:Sc
 of:Int
 mp:Int
 id:Int
 rm:Int
 nu:Bool
@[reducible] def abv (a:Ab):SV:=.agg [.int .u8 a.k,.u64 a.n.t.v,.u64 a.n.t.m,.u64 a.n.s.lo,.u64 a.n.s.hi,.int .i64 a.n.s.sl,.int .i64 a.n.s.sh,.int .i64 a.of,.int .i64 a.mp,.int .i64 a.id,.int .i64 a.rm,.bool a.nu]
namespace V
def near (n:Int):Bool:=decide (-536870912≤n)&&decide (n≤536870912)
def numbered (a:Ab):Bool:=C.right a.n
def placed (a:Ab):Bool:=near a.of
def added (a:Ab):Bool:=numbered a&&(decide (a.n.s.hi≤BitVec.ofInt 64 1048576)&&decide (0≤a.n.s.sl))
def mapped (a:Ab):Bool:=decide (0≤a.mp)&&decide (a.mp≤31)
def nought (a:Ab):Bool:=C.eqc a.n (C.const (BitVec.ofInt 64 0))
def named (a:Ab):Bool:=decide (0<a.id)||((a.id==0)&&nought a)
def roomy (a:Ab):Bool:=decide (0≤a.rm)&&decide (a.rm≤4096)
def sized (a:Ab):Bool:=decide (1≤a.rm)&&decide (a.rm≤1024)
def nulled (a:Ab):Bool:=if a.nu then (a.of==0)&&(nought a&&decide (0<a.id)) else a.id==0
def zeroB (s:Sc):Bool:=s.t.v==BitVec.ofInt 64 0&&(s.t.m==BitVec.ofInt 64 0&&(s.s.lo==BitVec.ofInt 64 0&&(s.s.hi==BitVec.ofInt 64 0&&(s.s.sl==0&&s.s.sh==0))))
def right (a:Ab):Bool:=
 if a.k==0||a.k==5 then zeroB a.n&&(a.of==0&&(a.mp==0&&(a.id==0&&(a.rm==0 && !a.nu))))
 else if a.k==1 then numbered a&&(a.of==0&&(a.mp==0&&(a.id==0&&(a.rm==0 && !a.nu))))
 else if a.k==2||a.k==3 then placed a&&(zeroB a.n&&(a.mp==0&&(a.id==0&&(a.rm==0 && !a.nu))))
 else if a.k==4 then placed a&&(added a&&(named a&&(roomy a&&(a.mp==0 && !a.nu))))
 else if a.k==6 then mapped a&&(zeroB a.n&&(a.of==0&&(a.id==0&&(a.rm==0 && !a.nu))))
 else if a.k==7 then placed a&&(added a&&(mapped a&&(nulled a&&a.rm==0)))
 else if a.k==8 then placed a&&(added a&&(sized a&&(nulled a&&a.mp==0)))
 else false
def zs:Sc:=⟨⟨BitVec.ofInt 64 0,BitVec.ofInt 64 0⟩,⟨BitVec.ofInt 64 0,BitVec.ofInt 64 0,0,0⟩⟩
def zero:Ab:=⟨0,zs,0,0,0,0,false⟩
@[reducible] def wr (n:Int):Int:=IntKind.i64.wrap n
def over (p:Ab)(off size val:Int):Bool:=decide ((if p.k==4 then wr (p.of+off) else wr (wr (p.of+off)+sv p.n.s.lo))<0)||decide ((if p.k==7 then val else p.rm)<wr ((if p.k==4 then wr (p.of+off) else wr (wr (p.of+off)+sv p.n.s.hi))+size))
def touch (p:Ab)(off size val:Int):Int:=
 if right p&&(near off&&(decide (1≤size)&&decide (size≤1024))) then
    if (p.k==4||(p.k==7||p.k==8)) && !p.nu then
     if over p off size val then 32 else 0
    else 31
 else 2
def pointer (a:Ab):Bool:=(a.k==2||(a.k==3||(a.k==4||(a.k==7||a.k==8)))) && !a.nu
end V
theorem V.c0:R.inS (C.const (BitVec.ofInt 64 0)).s=true:=rfl
def k_vhas:List SV→List Blk→Res:=fun args _=>match args with
 |[.agg [.int .i64 lo,.int .i64 hi],.int .i64 n]=>.ok (.bool (decide (lo≤n)&&decide (n≤hi))) []
 |_=>.fail
theorem k_vhas_ok:CtrOk Tryz.prog Gw 123 k_vhas:=by
 refine⟨fun _ _=>by kernel_rfl,fun args M => ?_⟩
 unfold k_vhas
 split
 . rename_i lo hi n
   refine ctr_flat (Γ:=⟨[],eqs,[],[],[],mixs,meqs,[]⟩) (sv:=.bool (decide (lo≤n)&&decide (n≤hi))) st_Gw ⟨okNil,eqs_ok,okNilB,okNilI,okNilP,mixs_ok,meqs_ok,okNilY⟩ Tryz.func123 rfl mixed [] (by kernel_rfl) 10000 (by rfl) ?_
   (conv=>whnf)
   (repeat' (first | (refine step_t (by first|rfl|assumption) ?_;(conv=>whnf)) | (refine step_f (by first|rfl|assumption) ?_;(conv=>whnf)) | (refine step_nt (by assumption) ?_;(conv=>whnf)) | (refine step_nf (by assumption) ?_;(conv=>whnf)) | (refine step_n (fun hb => ?_) (fun hb => ?_)<;>(first|contradiction | (conv=>whnf))) | (refine And.intro (fun hb => ?_) (fun hb => ?_)<;>(first|contradiction | (conv=>whnf))) | (refine And.intro (a:=(_:Bool)=true) ?_ ?_;rotate_left 1;(conv=>whnf))))
   all_goals (first|rfl|trivial|assumption | (simp only[eqv,eqv1,eqv2, *,Bool.and_true,Bool.true_and,Bool.and_false,Bool.false_and,Bool.or_true,Bool.true_or,Bool.or_false,Bool.false_or,Bool.not_true,Bool.not_false,Bool.and_self,if_true,if_false,Bool.false_eq_true];done) | (simp only[eqv,eqv1,eqv2, *,Bool.and_true,Bool.true_and,Bool.and_false,Bool.false_and,Bool.or_true,Bool.true_or,Bool.or_false,Bool.false_or,Bool.not_true,Bool.not_false,Bool.and_self,if_true,if_false,Bool.false_eq_true];rfl))
 . trivial
def k_vhasL:List SV→List Blk→Res:=fun args _=>match args with
 |[.agg [.int .i64 lo,.int .i64 hi],.int .i64 n]=>.ok (.bool (decide (lo≤n)&&decide (n≤hi))) []
 |_=>.fail
theorem k_vhasL_ok:CtrOk Tryz.prog Gw 170 k_vhasL:=by
 refine⟨fun _ _=>by kernel_rfl,fun args M => ?_⟩
 unfold k_vhasL
 split
 . rename_i lo hi n
   refine ctr_flat (Γ:=⟨[],eqs,[],[],[],mixs,meqs,[]⟩) (sv:=.bool (decide (lo≤n)&&decide (n≤hi))) st_Gw ⟨okNil,eqs_ok,okNilB,okNilI,okNilP,mixs_ok,meqs_ok,okNilY⟩ Tryz.func170 rfl mixed [] (by kernel_rfl) 10000 (by rfl) ?_
   (conv=>whnf)
   (repeat' (first | (refine step_t (by first|rfl|assumption) ?_;(conv=>whnf)) | (refine step_f (by first|rfl|assumption) ?_;(conv=>whnf)) | (refine step_nt (by assumption) ?_;(conv=>whnf)) | (refine step_nf (by assumption) ?_;(conv=>whnf)) | (refine step_n (fun hb => ?_) (fun hb => ?_)<;>(first|contradiction | (conv=>whnf))) | (refine And.intro (fun hb => ?_) (fun hb => ?_)<;>(first|contradiction | (conv=>whnf))) | (refine And.intro (a:=(_:Bool)=true) ?_ ?_;rotate_left 1;(conv=>whnf))))
   all_goals (first|rfl|trivial|assumption | (simp only[eqv,eqv1,eqv2, *,Bool.and_true,Bool.true_and,Bool.and_false,Bool.false_and,Bool.or_true,Bool.true_or,Bool.or_false,Bool.false_or,Bool.not_true,Bool.not_false,Bool.and_self,if_true,if_false,Bool.false_eq_true];done) | (simp only[eqv,eqv1,eqv2, *,Bool.and_true,Bool.true_and,Bool.and_false,Bool.false_and,Bool.or_true,Bool.true_or,Bool.or_false,Bool.false_or,Bool.not_true,Bool.not_false,Bool.and_self,if_true,if_false,Bool.false_eq_true];rfl))
 . trivial
def k_vnear:List SV→List Blk→Res:=fun args _=>match args with
 |[.int .i64 n]=>.ok (.bool (V.near n)) []
 |_=>.fail
theorem k_vnear_ok:CtrOk Tryz.prog Gw 122 k_vnear:=by
 refine⟨fun _ _=>by kernel_rfl,fun args M => ?_⟩
 unfold k_vnear
 split
 . rename_i n
   refine ctr_flat (Γ:=⟨[(170,k_vhasL)],eqs,[],[],[],mixs,meqs,[]⟩) (sv:=.bool (V.near n)) st_Gw ⟨(okCons k_vhasL_ok okNil),eqs_ok,okNilB,okNilI,okNilP,mixs_ok,meqs_ok,okNilY⟩ Tryz.func122 rfl mixed [] (by kernel_rfl) 10000 (by rfl) ?_
   (conv=>whnf)
   (repeat' (first | (refine step_t (by first|rfl|assumption) ?_;(conv=>whnf)) | (refine step_f (by first|rfl|assumption) ?_;(conv=>whnf)) | (refine step_nt (by assumption) ?_;(conv=>whnf)) | (refine step_nf (by assumption) ?_;(conv=>whnf)) | (refine step_n (fun hb => ?_) (fun hb => ?_)<;>(first|contradiction | (conv=>whnf))) | (refine And.intro (fun hb => ?_) (fun hb => ?_)<;>(first|contradiction | (conv=>whnf))) | (refine And.intro (a:=(_:Bool)=true) ?_ ?_;rotate_left 1;(conv=>whnf))))
   all_goals (first|rfl|trivial|assumption | (simp only[eqv,eqv1,eqv2,V.near, *,Bool.and_true,Bool.true_and,Bool.and_false,Bool.false_and,Bool.or_true,Bool.true_or,Bool.or_false,Bool.false_or,Bool.not_true,Bool.not_false,Bool.and_self,if_true,if_false,Bool.false_eq_true];done) | (simp only[eqv,eqv1,eqv2,V.near, *,Bool.and_true,Bool.true_and,Bool.and_false,Bool.false_and,Bool.or_true,Bool.true_or,Bool.or_false,Bool.false_or,Bool.not_true,Bool.not_false,Bool.and_self,if_true,if_false,Bool.false_eq_true];rfl))
 . trivial
def k_vnumbered:List SV→List Blk→Res:=fun args _=>match args with
 |[.agg [.int .u8 ak,.u64 av,.u64 am,.u64 alo,.u64 ahi,.int .i64 asl,.int .i64 ash,.int .i64 aof,.int .i64 amp,.int .i64 aid,.int .i64 arm,.bool anu]]=>.test (R.inS ⟨alo,ahi,asl,ash⟩) (.ok (.bool (V.numbered (⟨ak,(⟨⟨av,am⟩,⟨alo,ahi,asl,ash⟩⟩:Sc),aof,amp,aid,arm,anu⟩:Ab))) [])
 |_=>.fail
theorem k_vnumbered_ok:CtrOk Tryz.prog Gw 186 k_vnumbered:=by
 refine⟨fun _ _=>by kernel_rfl,fun args M => ?_⟩
 unfold k_vnumbered
 split
 . rename_i ak av am alo ahi asl ash aof amp aid arm anu
   intro ht
   refine ctr_flat (Γ:=⟨[(83,k_cRight)],eqs,[],[],[],mixs,meqs,[]⟩) (sv:=.bool (V.numbered (⟨ak,(⟨⟨av,am⟩,⟨alo,ahi,asl,ash⟩⟩:Sc),aof,amp,aid,arm,anu⟩:Ab))) st_Gw ⟨(okCons k_cRight_ok okNil),eqs_ok,okNilB,okNilI,okNilP,mixs_ok,meqs_ok,okNilY⟩ Tryz.func186 rfl mixed [] (by kernel_rfl) 10000 (by rfl) ?_
   (conv=>whnf)
   (repeat' (first | (refine step_t (by first|rfl|assumption) ?_;(conv=>whnf)) | (refine step_f (by first|rfl|assumption) ?_;(conv=>whnf)) | (refine step_nt (by assumption) ?_;(conv=>whnf)) | (refine step_nf (by assumption) ?_;(conv=>whnf)) | (refine step_n (fun hb => ?_) (fun hb => ?_)<;>(first|contradiction | (conv=>whnf))) | (refine And.intro (fun hb => ?_) (fun hb => ?_)<;>(first|contradiction | (conv=>whnf))) | (refine And.intro (a:=(_:Bool)=true) ?_ ?_;rotate_left 1;(conv=>whnf))))
   all_goals (first|rfl|trivial|assumption | (simp only[eqv,eqv1,eqv2,V.numbered, *,Bool.and_true,Bool.true_and,Bool.and_false,Bool.false_and,Bool.or_true,Bool.true_or,Bool.or_false,Bool.false_or,Bool.not_true,Bool.not_false,Bool.and_self,if_true,if_false,Bool.false_eq_true];done) | (simp only[eqv,eqv1,eqv2,V.numbered, *,Bool.and_true,Bool.true_and,Bool.and_false,Bool.false_and,Bool.or_true,Bool.true_or,Bool.or_false,Bool.false_or,Bool.not_true,Bool.not_false,Bool.and_self,if_true,if_false,Bool.false_eq_true];rfl))
 . trivial
def k_vplaced:List SV→List Blk→Res:=fun args _=>match args with
 |[.agg [.int .u8 ak,.u64 av,.u64 am,.u64 alo,.u64 ahi,.int .i64 asl,.int .i64 ash,.int .i64 aof,.int .i64 amp,.int .i64 aid,.int .i64 arm,.bool anu]]=>.test (R.inS ⟨alo,ahi,asl,ash⟩) (.ok (.bool (V.placed (⟨ak,(⟨⟨av,am⟩,⟨alo,ahi,asl,ash⟩⟩:Sc),aof,amp,aid,arm,anu⟩:Ab))) [])
 |_=>.fail
theorem k_vplaced_ok:CtrOk Tryz.prog Gw 188 k_vplaced:=by
 refine⟨fun _ _=>by kernel_rfl,fun args M => ?_⟩
 unfold k_vplaced
 split
 . rename_i ak av am alo ahi asl ash aof amp aid arm anu
   intro ht
   refine ctr_flat (Γ:=⟨[(122,k_vnear)],eqs,[],[],[],mixs,meqs,[]⟩) (sv:=.bool (V.placed (⟨ak,(⟨⟨av,am⟩,⟨alo,ahi,asl,ash⟩⟩:Sc),aof,amp,aid,arm,anu⟩:Ab))) st_Gw ⟨(okCons k_vnear_ok okNil),eqs_ok,okNilB,okNilI,okNilP,mixs_ok,meqs_ok,okNilY⟩ Tryz.func188 rfl mixed [] (by kernel_rfl) 10000 (by rfl) ?_
   (conv=>whnf)
   (repeat' (first | (refine step_t (by first|rfl|assumption) ?_;(conv=>whnf)) | (refine step_f (by first|rfl|assumption) ?_;(conv=>whnf)) | (refine step_nt (by assumption) ?_;(conv=>whnf)) | (refine step_nf (by assumption) ?_;(conv=>whnf)) | (refine step_n (fun hb => ?_) (fun hb => ?_)<;>(first|contradiction | (conv=>whnf))) | (refine And.intro (fun hb => ?_) (fun hb => ?_)<;>(first|contradiction | (conv=>whnf))) | (refine And.intro (a:=(_:Bool)=true) ?_ ?_;rotate_left 1;(conv=>whnf))))
   all_goals (first|rfl|trivial|assumption | (simp only[eqv,eqv1,eqv2,V.placed, *,Bool.and_true,Bool.true_and,Bool.and_false,Bool.false_and,Bool.or_true,Bool.true_or,Bool.or_false,Bool.false_or,Bool.not_true,Bool.not_false,Bool.and_self,if_true,if_false,Bool.false_eq_true];done) | (simp only[eqv,eqv1,eqv2,V.placed, *,Bool.and_true,Bool.true_and,Bool.and_false,Bool.false_and,Bool.or_true,Bool.true_or,Bool.or_false,Bool.false_or,Bool.not_true,Bool.not_false,Bool.and_self,if_true,if_false,Bool.false_eq_true];rfl))
 . trivial
def k_vadded:List SV→List Blk→Res:=fun args _=>match args with
 |[.agg [.int .u8 ak,.u64 av,.u64 am,.u64 alo,.u64 ahi,.int .i64 asl,.int .i64 ash,.int .i64 aof,.int .i64 amp,.int .i64 aid,.int .i64 arm,.bool anu]]=>.test (R.inS ⟨alo,ahi,asl,ash⟩) (.ok (.bool (V.added (⟨ak,(⟨⟨av,am⟩,⟨alo,ahi,asl,ash⟩⟩:Sc),aof,amp,aid,arm,anu⟩:Ab))) [])
 |_=>.fail
theorem k_vadded_ok:CtrOk Tryz.prog Gw 191 k_vadded:=by
 refine⟨fun _ _=>by kernel_rfl,fun args M => ?_⟩
 unfold k_vadded
 split
 . rename_i ak av am alo ahi asl ash aof amp aid arm anu
   intro ht
   refine ctr_flat (Γ:=⟨[(186,k_vnumbered)],eqs,[],[],[],mixs,meqs,[]⟩) (sv:=.bool (V.added (⟨ak,(⟨⟨av,am⟩,⟨alo,ahi,asl,ash⟩⟩:Sc),aof,amp,aid,arm,anu⟩:Ab))) st_Gw ⟨(okCons k_vnumbered_ok okNil),eqs_ok,okNilB,okNilI,okNilP,mixs_ok,meqs_ok,okNilY⟩ Tryz.func191 rfl mixed [] (by kernel_rfl) 10000 (by rfl) ?_
   (conv=>whnf)
   (repeat' (first | (refine step_t (by first|rfl|assumption) ?_;(conv=>whnf)) | (refine step_f (by first|rfl|assumption) ?_;(conv=>whnf)) | (refine step_nt (by assumption) ?_;(conv=>whnf)) | (refine step_nf (by assumption) ?_;(conv=>whnf)) | (refine step_n (fun hb => ?_) (fun hb => ?_)<;>(first|contradiction | (conv=>whnf))) | (refine And.intro (fun hb => ?_) (fun hb => ?_)<;>(first|contradiction | (conv=>whnf))) | (refine And.intro (a:=(_:Bool)=true) ?_ ?_;rotate_left 1;(conv=>whnf))))
   all_goals (first|rfl|trivial|assumption | (simp only[eqv,eqv1,eqv2,V.added, *,Bool.and_true,Bool.true_and,Bool.and_false,Bool.false_and,Bool.or_true,Bool.true_or,Bool.or_false,Bool.false_or,Bool.not_true,Bool.not_false,Bool.and_self,if_true,if_false,Bool.false_eq_true];done) | (simp only[eqv,eqv1,eqv2,V.added, *,Bool.and_true,Bool.true_and,Bool.and_false,Bool.false_and,Bool.or_true,Bool.true_or,Bool.or_false,Bool.false_or,Bool.not_true,Bool.not_false,Bool.and_self,if_true,if_false,Bool.false_eq_true];rfl))
 . trivial
def k_vmapped:List SV→List Blk→Res:=fun args _=>match args with
 |[.agg [.int .u8 ak,.u64 av,.u64 am,.u64 alo,.u64 ahi,.int .i64 asl,.int .i64 ash,.int .i64 aof,.int .i64 amp,.int .i64 aid,.int .i64 arm,.bool anu]]=>.test (R.inS ⟨alo,ahi,asl,ash⟩) (.ok (.bool (V.mapped (⟨ak,(⟨⟨av,am⟩,⟨alo,ahi,asl,ash⟩⟩:Sc),aof,amp,aid,arm,anu⟩:Ab))) [])
 |_=>.fail
theorem k_vmapped_ok:CtrOk Tryz.prog Gw 195 k_vmapped:=by
 refine⟨fun _ _=>by kernel_rfl,fun args M => ?_⟩
 unfold k_vmapped
 split
 . rename_i ak av am alo ahi asl ash aof amp aid arm anu
   intro ht
   refine ctr_flat (Γ:=⟨[(123,k_vhas)],eqs,[],[],[],mixs,meqs,[]⟩) (sv:=.bool (V.mapped (⟨ak,(⟨⟨av,am⟩,⟨alo,ahi,asl,ash⟩⟩:Sc),aof,amp,aid,arm,anu⟩:Ab))) st_Gw ⟨(okCons k_vhas_ok okNil),eqs_ok,okNilB,okNilI,okNilP,mixs_ok,meqs_ok,okNilY⟩ Tryz.func195 rfl mixed [] (by kernel_rfl) 10000 (by rfl) ?_
   (conv=>whnf)
   (repeat' (first | (refine step_t (by first|rfl|assumption) ?_;(conv=>whnf)) | (refine step_f (by first|rfl|assumption) ?_;(conv=>whnf)) | (refine step_nt (by assumption) ?_;(conv=>whnf)) | (refine step_nf (by assumption) ?_;(conv=>whnf)) | (refine step_n (fun hb => ?_) (fun hb => ?_)<;>(first|contradiction | (conv=>whnf))) | (refine And.intro (fun hb => ?_) (fun hb => ?_)<;>(first|contradiction | (conv=>whnf))) | (refine And.intro (a:=(_:Bool)=true) ?_ ?_;rotate_left 1;(conv=>whnf))))
   all_goals (first|rfl|trivial|assumption | (simp only[eqv,eqv1,eqv2,V.mapped, *,Bool.and_true,Bool.true_and,Bool.and_false,Bool.false_and,Bool.or_true,Bool.true_or,Bool.or_false,Bool.false_or,Bool.not_true,Bool.not_false,Bool.and_self,if_true,if_false,Bool.false_eq_true];done) | (simp only[eqv,eqv1,eqv2,V.mapped, *,Bool.and_true,Bool.true_and,Bool.and_false,Bool.false_and,Bool.or_true,Bool.true_or,Bool.or_false,Bool.false_or,Bool.not_true,Bool.not_false,Bool.and_self,if_true,if_false,Bool.false_eq_true];rfl))
 . trivial
def k_vnamed:List SV→List Blk→Res:=fun args _=>match args with
 |[.agg [.int .u8 ak,.u64 av,.u64 am,.u64 alo,.u64 ahi,.int .i64 asl,.int .i64 ash,.int .i64 aof,.int .i64 amp,.int .i64 aid,.int .i64 arm,.bool anu]]=>.test (R.inS ⟨alo,ahi,asl,ash⟩) (.ok (.bool (V.named (⟨ak,(⟨⟨av,am⟩,⟨alo,ahi,asl,ash⟩⟩:Sc),aof,amp,aid,arm,anu⟩:Ab))) [])
 |_=>.fail
theorem k_vnamed_ok:CtrOk Tryz.prog Gw 192 k_vnamed:=by
 refine⟨fun _ _=>by kernel_rfl,fun args M => ?_⟩
 unfold k_vnamed
 split
 . rename_i ak av am alo ahi asl ash aof amp aid arm anu
   intro ht
   refine ctr_flat (Γ:=⟨[(5,k_cConst)],eqs,[],[],[],mixs,meqs,[]⟩) (sv:=.bool (V.named (⟨ak,(⟨⟨av,am⟩,⟨alo,ahi,asl,ash⟩⟩:Sc),aof,amp,aid,arm,anu⟩:Ab))) st_Gw ⟨(okCons k_cConst_ok okNil),eqs_ok,okNilB,okNilI,okNilP,mixs_ok,meqs_ok,okNilY⟩ Tryz.func192 rfl mixed [(1,11,[0,1,3,7,15,31,63,127,255,511,255,2047,4095,8191,16383])] (by kernel_rfl) 10000 (by rfl) ?_
   (conv=>whnf)
   (repeat' (first | (refine step_t (by first|rfl|assumption) ?_;(conv=>whnf)) | (refine step_f (by first|rfl|assumption) ?_;(conv=>whnf)) | (refine step_nt (by assumption) ?_;(conv=>whnf)) | (refine step_nf (by assumption) ?_;(conv=>whnf)) | (refine step_n (fun hb => ?_) (fun hb => ?_)<;>(first|contradiction | (conv=>whnf))) | (refine And.intro (fun hb => ?_) (fun hb => ?_)<;>(first|contradiction | (conv=>whnf))) | (refine And.intro (a:=(_:Bool)=true) ?_ ?_;rotate_left 1;(conv=>whnf))))
   all_goals (first|rfl|trivial|assumption | (simp only[eqv,eqv1,eqv2,V.named,V.nought,C.eqc, *,Bool.true_and,Bool.and_false,Bool.false_and,Bool.or_true,Bool.true_or,Bool.or_false,Bool.false_or,Bool.not_true,Bool.not_false,Bool.and_self,if_true,if_false,Bool.false_eq_true];done) | (simp only[eqv,eqv1,eqv2,V.named,V.nought,C.eqc, *,Bool.true_and,Bool.and_false,Bool.false_and,Bool.or_true,Bool.true_or,Bool.or_false,Bool.false_or,Bool.not_true,Bool.not_false,Bool.and_self,if_true,if_false,Bool.false_eq_true];rfl))
 . trivial
def k_vroomy:List SV→List Blk→Res:=fun args _=>match args with
 |[.agg [.int .u8 ak,.u64 av,.u64 am,.u64 alo,.u64 ahi,.int .i64 asl,.int .i64 ash,.int .i64 aof,.int .i64 amp,.int .i64 aid,.int .i64 arm,.bool anu]]=>.test (R.inS ⟨alo,ahi,asl,ash⟩) (.ok (.bool (V.roomy (⟨ak,(⟨⟨av,am⟩,⟨alo,ahi,asl,ash⟩⟩:Sc),aof,amp,aid,arm,anu⟩:Ab))) [])
 |_=>.fail
theorem k_vroomy_ok:CtrOk Tryz.prog Gw 193 k_vroomy:=by
 refine⟨fun _ _=>by kernel_rfl,fun args M => ?_⟩
 unfold k_vroomy
 split
 . rename_i ak av am alo ahi asl ash aof amp aid arm anu
   intro ht
   refine ctr_flat (Γ:=⟨[(123,k_vhas)],eqs,[],[],[],mixs,meqs,[]⟩) (sv:=.bool (V.roomy (⟨ak,(⟨⟨av,am⟩,⟨alo,ahi,asl,ash⟩⟩:Sc),aof,amp,aid,arm,anu⟩:Ab))) st_Gw ⟨(okCons k_vhas_ok okNil),eqs_ok,okNilB,okNilI,okNilP,mixs_ok,meqs_ok,okNilY⟩ Tryz.func193 rfl mixed [] (by kernel_rfl) 10000 (by rfl) ?_
   (conv=>whnf)
   (repeat' (first | (refine step_t (by first|rfl|assumption) ?_;(conv=>whnf)) | (refine step_f (by first|rfl|assumption) ?_;(conv=>whnf)) | (refine step_nt (by assumption) ?_;(conv=>whnf)) | (refine step_nf (by assumption) ?_;(conv=>whnf)) | (refine step_n (fun hb => ?_) (fun hb => ?_)<;>(first|contradiction | (conv=>whnf))) | (refine And.intro (fun hb => ?_) (fun hb => ?_)<;>(first|contradiction | (conv=>whnf))) | (refine And.intro (a:=(_:Bool)=true) ?_ ?_;rotate_left 1;(conv=>whnf))))
   all_goals (first|rfl|trivial|assumption | (simp only[eqv,eqv1,eqv2,V.roomy, *,Bool.and_true,Bool.true_and,Bool.and_false,Bool.false_and,Bool.or_true,Bool.true_or,Bool.or_false,Bool.false_or,Bool.not_true,Bool.not_false,Bool.and_self,if_true,if_false,Bool.false_eq_true];done) | (simp only[eqv,eqv1,eqv2,V.roomy, *,Bool.and_true,Bool.true_and,Bool.and_false,Bool.false_and,Bool.or_true,Bool.true_or,Bool.or_false,Bool.false_or,Bool.not_true,Bool.not_false,Bool.and_self,if_true,if_false,Bool.false_eq_true];rfl))
 . trivial
def k_vsized:List SV→List Blk→Res:=fun args _=>match args with
 |[.agg [.int .u8 ak,.u64 av,.u64 am,.u64 alo,.u64 ahi,.int .i64 asl,.int .i64 ash,.int .i64 aof,.int .i64 amp,.int .i64 aid,.int .i64 arm,.bool anu]]=>.test (R.inS ⟨alo,ahi,asl,ash⟩) (.ok (.bool (V.sized (⟨ak,(⟨⟨av,am⟩,⟨alo,ahi,asl,ash⟩⟩:Sc),aof,amp,aid,arm,anu⟩:Ab))) [])
 |_=>.fail
theorem k_vsized_ok:CtrOk Tryz.prog Gw 199 k_vsized:=by
 refine⟨fun _ _=>by kernel_rfl,fun args M => ?_⟩
 unfold k_vsized
 split
 . rename_i ak av am alo ahi asl ash aof amp aid arm anu
   intro ht
   refine ctr_flat (Γ:=⟨[(123,k_vhas)],eqs,[],[],[],mixs,meqs,[]⟩) (sv:=.bool (V.sized (⟨ak,(⟨⟨av,am⟩,⟨alo,ahi,asl,ash⟩⟩:Sc),aof,amp,aid,arm,anu⟩:Ab))) st_Gw ⟨(okCons k_vhas_ok okNil),eqs_ok,okNilB,okNilI,okNilP,mixs_ok,meqs_ok,okNilY⟩ Tryz.func199 rfl mixed [] (by kernel_rfl) 10000 (by rfl) ?_
   (conv=>whnf)
   (repeat' (first | (refine step_t (by first|rfl|assumption) ?_;(conv=>whnf)) | (refine step_f (by first|rfl|assumption) ?_;(conv=>whnf)) | (refine step_nt (by assumption) ?_;(conv=>whnf)) | (refine step_nf (by assumption) ?_;(conv=>whnf)) | (refine step_n (fun hb => ?_) (fun hb => ?_)<;>(first|contradiction | (conv=>whnf))) | (refine And.intro (fun hb => ?_) (fun hb => ?_)<;>(first|contradiction | (conv=>whnf))) | (refine And.intro (a:=(_:Bool)=true) ?_ ?_;rotate_left 1;(conv=>whnf))))
   all_goals (first|rfl|trivial|assumption | (simp only[eqv,eqv1,eqv2,V.sized, *,Bool.and_true,Bool.true_and,Bool.and_false,Bool.false_and,Bool.or_true,Bool.true_or,Bool.or_false,Bool.false_or,Bool.not_true,Bool.not_false,Bool.and_self,if_true,if_false,Bool.false_eq_true];done) | (simp only[eqv,eqv1,eqv2,V.sized, *,Bool.and_true,Bool.true_and,Bool.and_false,Bool.false_and,Bool.or_true,Bool.true_or,Bool.or_false,Bool.false_or,Bool.not_true,Bool.not_false,Bool.and_self,if_true,if_false,Bool.false_eq_true];rfl))
 . trivial
def k_vnulled:List SV→List Blk→Res:=fun args _=>match args with
 |[.agg [.int .u8 ak,.u64 av,.u64 am,.u64 alo,.u64 ahi,.int .i64 asl,.int .i64 ash,.int .i64 aof,.int .i64 amp,.int .i64 aid,.int .i64 arm,.bool anu]]=>.test (R.inS ⟨alo,ahi,asl,ash⟩) (.ok (.bool (V.nulled (⟨ak,(⟨⟨av,am⟩,⟨alo,ahi,asl,ash⟩⟩:Sc),aof,amp,aid,arm,anu⟩:Ab))) [])
 |_=>.fail
theorem k_vnulled_ok:CtrOk Tryz.prog Gw 197 k_vnulled:=by
 refine⟨fun _ _=>by kernel_rfl,fun args M => ?_⟩
 unfold k_vnulled
 split
 . rename_i ak av am alo ahi asl ash aof amp aid arm anu
   intro ht
   refine ctr_flat (Γ:=⟨[(5,k_cConst)],eqs,[],[],[],mixs,meqs,[]⟩) (sv:=.bool (V.nulled (⟨ak,(⟨⟨av,am⟩,⟨alo,ahi,asl,ash⟩⟩:Sc),aof,amp,aid,arm,anu⟩:Ab))) st_Gw ⟨(okCons k_cConst_ok okNil),eqs_ok,okNilB,okNilI,okNilP,mixs_ok,meqs_ok,okNilY⟩ Tryz.func197 rfl mixed [(3,7,[0,1,3,7,15,31,15,127,255,511,1023,2047,4095,8191,16383])] (by kernel_rfl) 10000 (by rfl) ?_
   (conv=>whnf)
   (repeat' (first | (refine step_t (by first|rfl|assumption) ?_;(conv=>whnf)) | (refine step_f (by first|rfl|assumption) ?_;(conv=>whnf)) | (refine step_nt (by assumption) ?_;(conv=>whnf)) | (refine step_nf (by assumption) ?_;(conv=>whnf)) | (refine step_n (fun hb => ?_) (fun hb => ?_)<;>(first|contradiction | (conv=>whnf))) | (refine And.intro (fun hb => ?_) (fun hb => ?_)<;>(first|contradiction | (conv=>whnf))) | (refine And.intro (a:=(_:Bool)=true) ?_ ?_;rotate_left 1;(conv=>whnf))))
   all_goals (first|rfl|trivial|assumption | (simp only[eqv,eqv1,eqv2,V.nulled,V.nought,C.eqc, *,Bool.true_and,Bool.and_false,Bool.false_and,Bool.or_true,Bool.true_or,Bool.or_false,Bool.false_or,Bool.not_true,Bool.not_false,Bool.and_self,if_true,if_false,Bool.false_eq_true];done) | (simp only[eqv,eqv1,eqv2,V.nulled,V.nought,C.eqc, *,Bool.true_and,Bool.and_false,Bool.false_and,Bool.or_true,Bool.true_or,Bool.or_false,Bool.false_or,Bool.not_true,Bool.not_false,Bool.and_self,if_true,if_false,Bool.false_eq_true];rfl))
 . trivial
end Go.Proofs.YtfgkhenhlpoheaaGreat
