import Derived.Test.YtfgkhenhlpoheaaGreatM19
set_option linter.all false
namespace Go.Proofs.YtfgkhenhlpoheaaGreat
open Go.RowKit Go.Sx
set_option maxRecDepth 100000
set_option maxHeartbeats 4000000
def rfOf:Code→Option (Array Nat×Code×Code)
 | .rangeFunc _ ps a b=>some (ps,a,b)
 | .seq a b=>match rfOf a with
   |some r=>some r
   |none=>rfOf b
 | .cond _ a b=>match rfOf a with
   |some r=>some r
   |none=>rfOf b
 | .block _ c=>rfOf c
 | .loop c=>rfOf c
 |_=>none
def lpOf (T:Tbl)(c:Code)(fr:List SV):Blk:=match rfOf c with
 |some (ps,a,b)=>.lp T fr ps a b .ready
 |none=>.dead
attribute [local irreducible] V.right
theorem i64_of {n:Int}(h0:0≤n)(h1:n<9223372036854775808):IntKind.i64.wrap n=n:=IntWalk.i64_in _ (by omega)
theorem inA_at {l:List Ab}(h:l.all inA=true){i:Nat}(hi:i<l.length):R.inS (l.getD i eA.dft).n.s=true:=by
 rw[getD_at _ hi];exact List.all_eq_true.1 h _ (List.getElem_mem hi)
theorem inS_at {l:List Sl}(h:(l.all fun s=>inA s.a)=true){i:Nat}(hi:i<l.length):R.inS (l.getD i eS.dft).a.n.s=true:=by
 rw[getD_at _ hi];exact List.all_eq_true.1 h _ (List.getElem_mem hi)
theorem right_run (f:Fr)(hf:f.wf):run Tryz.prog ⟨[(114,k_vRight)],eqs,[],[(113,Tryz.f113,[]),(160,Tryz.f160,[])],[],mixs,meqs,[]⟩ 10000 [] 0 (bodyOf Tryz.f65) (initF Tryz.f65 [frv f]) [] (retK Tryz.prog Tryz.f65 fun x _=>eqv x (.bool (F.right f))):=by
 have hR:=hf.r
 have hS:=hf.s
 (conv=>whnf)
 (repeat' (first | (refine step_t (by first|rfl|assumption) ?_;(conv=>whnf)) | (refine step_f (by first|rfl|assumption) ?_;(conv=>whnf)) | (refine step_nt (by assumption) ?_;(conv=>whnf)) | (refine step_nf (by assumption) ?_;(conv=>whnf)) | (refine step_n (fun hb => ?_) (fun hb => ?_)<;>(first|contradiction | (conv=>whnf))) | (refine And.intro (fun hb => ?_) (fun hb => ?_)<;>(first|contradiction | (conv=>whnf))) | (refine And.intro ?_ ?_;rotate_left 1;(conv=>whnf))))
 refine .inr ⟨[],[1,2,8,9],fun k vals M=>∃ j:Nat,j≤64∧k=64-j∧(f.S.take j).all F.okS=true∧vals=[.ptr 0 0,.ptr 1 0,.arr 64 14 (gOf eS f.S),.int .i64 (j:Int)]∧M=[.mix 44 [.arr 11 12 (gOf eA f.R),.arr 64 14 (gOf eS f.S),.int .i64 f.ids],.cells 4 [.ff]],?_⟩
 conv=>whnf
 refine And.intro ⟨64,[.mix 44 [.arr 11 12 (gOf eA f.R),.arr 64 14 (gOf eS f.S),.int .i64 f.ids],.cells 4 [.ff]],mle_cons ble_refl (mle_cons ble_refl mle_nil),rfl,rfl,0,by omega,by omega,rfl,rfl,rfl⟩ ?_
 rintro k vals M1 ⟨j,hj,rfl,hall,rfl,rfl⟩
 (conv=>whnf)
 (repeat' (first | (refine step_t (by first|rfl|assumption) ?_;(conv=>whnf)) | (refine step_f (by first|rfl|assumption) ?_;(conv=>whnf)) | (refine step_nt (by assumption) ?_;(conv=>whnf)) | (refine step_nf (by assumption) ?_;(conv=>whnf)) | (refine step_n (fun hb => ?_) (fun hb => ?_)<;>(first|contradiction | (conv=>whnf))) | (refine And.intro (fun hb => ?_) (fun hb => ?_)<;>(first|contradiction | (conv=>whnf))) | (refine And.intro ?_ ?_;rotate_left 1;(conv=>whnf))))
 all_goals try (simp only[Int.toNat_natCast] at *)
 all_goals try first
  |(refine decide_eq_true ?_;omega)
  |(have hlt:j<64:=by
     have h9:decide ((j:Int)<64)=true:=by assumption
     have:=of_decide_eq_true h9
     omega
    have hlt':j<f.S.length:=by omega
    first
    |(rw[Bool.and_eq_true];exact⟨decide_eq_true (by omega),decide_eq_true (by omega)⟩)
    |exact F.right_1 hlt' (F.okS_1 (by assumption))
    |exact F.right_1 hlt' (F.okS_2 (by assumption) (by assumption))
    |exact F.right_1 hlt' (F.okS_5 (by assumption) (by assumption))
    |(refine⟨64 - (j+1),[.mix 44 [.arr 11 12 (gOf eA f.R),.arr 64 14 (gOf eS f.S),.int .i64 f.ids],.cells 4 [.ff]],[0,1],by omega,rfl,mle_cons ble_refl (mle_cons ble_refl mle_nil),rfl,rfl,j+1,by omega,rfl,?_,?_,rfl⟩
      . rw[all_take' eS.dft hlt',hall,Bool.true_and]
        first|exact F.okS_3 (by assumption) (by assumption)|exact F.okS_4 (by assumption) (by assumption)|exact F.okS_6 (by assumption) (by assumption)
      . show[SV.ptr 0 0,.ptr 1 0,.arr 64 14 (gOf eS f.S),.int .i64 (IntKind.i64.wrap ((j:Int)+1))]=_
        rw[i64_of (n:=(j:Int)+1) (by omega) (by omega)];rfl))
 have hj64:j=64:=by
  have h9:decide ((j:Int)<64)=false:=by assumption
  have:=of_decide_eq_false h9
  omega
 have hallS:f.S.all F.okS=true:=by rw[hj64,← hS,List.take_length] at hall;exact hall
 refine .inr ⟨[],[0,1,5],fun k vals M=>∃ i:Nat,i≤11∧k=11-i∧(f.R.take i).all (F.okA f.ids)=true∧vals=[.yld 3,.ptr 2 0,.int .i64 (i:Int)]∧M=[.mix 44 [.arr 11 12 (gOf eA f.R),.arr 64 14 (gOf eS f.S),.int .i64 f.ids],.cells 4 [.ff],.cells 172 [.ptr 0 0],lpOf [] (bodyOf Tryz.f65) (mkFrom [(1,.ptr 0 0),(2,.ptr 1 0),(8,.arr 64 14 (gOf eS f.S)),(9,.int .i64 (j:Int)),(10,.bool (decide ((j:Int)<64))),(29,.fn (.func 160) [] [.ptr 2 0])] (fun _=>.junk) 49 0)],?_⟩
 conv=>whnf
 refine And.intro ⟨11,[.mix 44 [.arr 11 12 (gOf eA f.R),.arr 64 14 (gOf eS f.S),.int .i64 f.ids],.cells 4 [.ff],.cells 172 [.ptr 0 0],lpOf [] (bodyOf Tryz.f65) (mkFrom [(1,.ptr 0 0),(2,.ptr 1 0),(8,.arr 64 14 (gOf eS f.S)),(9,.int .i64 (j:Int)),(10,.bool (decide ((j:Int)<64))),(29,.fn (.func 160) [] [.ptr 2 0])] (fun _=>.junk) 49 0)],mle_cons ble_refl (mle_cons ble_refl (mle_cons ble_refl (mle_cons ble_refl mle_nil))),rfl,rfl,0,by omega,by omega,rfl,rfl,rfl⟩ ?_
 rintro k vals M1 ⟨i,hi,rfl,hallR,rfl,rfl⟩
 (conv=>whnf)
 (repeat' (first | (refine step_t (by first|rfl|assumption) ?_;(conv=>whnf)) | (refine step_f (by first|rfl|assumption) ?_;(conv=>whnf)) | (refine step_nt (by assumption) ?_;(conv=>whnf)) | (refine step_nf (by assumption) ?_;(conv=>whnf)) | (refine step_n (fun hb => ?_) (fun hb => ?_)<;>(first|contradiction | (conv=>whnf))) | (refine And.intro (fun hb => ?_) (fun hb => ?_)<;>(first|contradiction | (conv=>whnf))) | (refine And.intro ?_ ?_;rotate_left 1;(conv=>whnf))))
 all_goals try (simp only[Int.toNat_natCast] at *)
 all_goals try first
  |(refine decide_eq_true ?_;omega)
  |(have hlt:i<11:=by
     have h9:decide ((i:Int)<11)=true:=by assumption
     have:=of_decide_eq_true h9
     omega
    have hlt':i<f.R.length:=by omega
    first
    |(refine decide_eq_true ?_;omega)
    |(rw[Bool.and_eq_true];exact⟨decide_eq_true (by omega),decide_eq_true (by omega)⟩)
    |exact F.right_2 hlt' (F.okA_1 (by assumption))
    |exact F.right_2 hlt' (F.okA_2 (by assumption))
    |exact inA_at hf.ri hlt'
    |(refine⟨11 - (i+1),[.mix 44 [.arr 11 12 (gOf eA f.R),.arr 64 14 (gOf eS f.S),.int .i64 f.ids],.cells 4 [.ff],.cells 172 [.ptr 0 0],lpOf [] (bodyOf Tryz.f65) (mkFrom [(1,.ptr 0 0),(2,.ptr 1 0),(8,.arr 64 14 (gOf eS f.S)),(9,.int .i64 (j:Int)),(10,.bool (decide ((j:Int)<64))),(29,.fn (.func 160) [] [.ptr 2 0])] (fun _=>.junk) 49 0)],[0,1,2,3],by omega,rfl,mle_cons ble_refl (mle_cons ble_refl (mle_cons ble_refl (mle_cons ble_refl mle_nil))),rfl,rfl,i+1,by omega,rfl,?_,?_,rfl⟩
      . rw[all_take' eA.dft hlt',hallR,Bool.true_and]
        exact F.okA_3 (by assumption) (by assumption)
      . show[SV.yld 3,.ptr 2 0,.int .i64 (IntKind.i64.wrap ((i:Int)+1))]=_
        rw[i64_of (n:=(i:Int)+1) (by omega) (by omega)];rfl))
 have hi11:i=11:=by
  have h9:decide ((i:Int)<11)=false:=by assumption
  have:=of_decide_eq_false h9
  omega
 have hallA:f.R.all (F.okA f.ids)=true:=by rw[hi11,← hR,List.take_length] at hallR;exact hallR
 refine .inr ⟨[],[0,1,18],fun k vals M=>∃ i:Nat,i≤64∧k=64-i∧((f.S.take i).all fun s=>F.okA f.ids s.a)=true∧vals=[.yld 3,.ptr 2 0,.int .i64 (i:Int)]∧M=[.mix 44 [.arr 11 12 (gOf eA f.R),.arr 64 14 (gOf eS f.S),.int .i64 f.ids],.cells 4 [.ff],.cells 172 [.ptr 0 0],lpOf [] (bodyOf Tryz.f65) (mkFrom [(1,.ptr 0 0),(2,.ptr 1 0),(8,.arr 64 14 (gOf eS f.S)),(9,.int .i64 (j:Int)),(10,.bool (decide ((j:Int)<64))),(29,.fn (.func 160) [] [.ptr 2 0])] (fun _=>.junk) 49 0)],?_⟩
 conv=>whnf
 refine And.intro ⟨64,[.mix 44 [.arr 11 12 (gOf eA f.R),.arr 64 14 (gOf eS f.S),.int .i64 f.ids],.cells 4 [.ff],.cells 172 [.ptr 0 0],lpOf [] (bodyOf Tryz.f65) (mkFrom [(1,.ptr 0 0),(2,.ptr 1 0),(8,.arr 64 14 (gOf eS f.S)),(9,.int .i64 (j:Int)),(10,.bool (decide ((j:Int)<64))),(29,.fn (.func 160) [] [.ptr 2 0])] (fun _=>.junk) 49 0)],mle_cons ble_refl (mle_cons ble_refl (mle_cons ble_refl (mle_cons ble_refl mle_nil))),rfl,rfl,0,by omega,by omega,rfl,rfl,rfl⟩ ?_
 clear hi hallR hi11
 rintro k vals M1 ⟨i,hi,rfl,hallR,rfl,rfl⟩
 (conv=>whnf)
 (repeat' (first | (refine step_t (by first|rfl|assumption) ?_;(conv=>whnf)) | (refine step_f (by first|rfl|assumption) ?_;(conv=>whnf)) | (refine step_nt (by assumption) ?_;(conv=>whnf)) | (refine step_nf (by assumption) ?_;(conv=>whnf)) | (refine step_n (fun hb => ?_) (fun hb => ?_)<;>(first|contradiction | (conv=>whnf))) | (refine And.intro (fun hb => ?_) (fun hb => ?_)<;>(first|contradiction | (conv=>whnf))) | (refine And.intro ?_ ?_;rotate_left 1;(conv=>whnf))))
 all_goals try (simp only[Int.toNat_natCast] at *)
 all_goals try first
  |(refine decide_eq_true ?_;omega)
  |(have hlt:i<64:=by
     have h9:decide ((i:Int)<64)=true:=by assumption
     have:=of_decide_eq_true h9
     omega
    have hlt':i<f.S.length:=by omega
    first
    |(refine decide_eq_true ?_;omega)
    |(rw[Bool.and_eq_true];exact⟨decide_eq_true (by omega),decide_eq_true (by omega)⟩)
    |exact F.right_3 hlt' (F.okA_1 (by assumption))
    |exact F.right_3 hlt' (F.okA_2 (by assumption))
    |exact inS_at hf.si hlt'
    |(refine⟨64 - (i+1),[.mix 44 [.arr 11 12 (gOf eA f.R),.arr 64 14 (gOf eS f.S),.int .i64 f.ids],.cells 4 [.ff],.cells 172 [.ptr 0 0],lpOf [] (bodyOf Tryz.f65) (mkFrom [(1,.ptr 0 0),(2,.ptr 1 0),(8,.arr 64 14 (gOf eS f.S)),(9,.int .i64 (j:Int)),(10,.bool (decide ((j:Int)<64))),(29,.fn (.func 160) [] [.ptr 2 0])] (fun _=>.junk) 49 0)],[0,1,2,3],by omega,rfl,mle_cons ble_refl (mle_cons ble_refl (mle_cons ble_refl (mle_cons ble_refl mle_nil))),rfl,rfl,i+1,by omega,rfl,?_,?_,rfl⟩
      . rw[all_take' (p:=fun s:Sl=>F.okA f.ids s.a) eS.dft hlt',hallR,Bool.true_and]
        exact F.okA_3 (by assumption) (by assumption)
      . show[SV.yld 3,.ptr 2 0,.int .i64 (IntKind.i64.wrap ((i:Int)+1))]=_
        rw[i64_of (n:=(i:Int)+1) (by omega) (by omega)];rfl))
 all_goals (
  have hi64:i=64:=by
   have h9:decide ((i:Int)<64)=false:=by assumption
   have:=of_decide_eq_false h9
   omega
  have hallSA:(f.S.all fun s=>F.okA f.ids s.a)=true:=by rw[hi64,← hS,List.take_length] at hallR;exact hallR
  exact(F.right_4 hallS hallA hallSA).symm)
def k_fRight:List SV→List Blk→Res:=fun args _=>match args with
 |[.mix [.arr 11 12 g,.arr 64 14 h,.int .i64 ids]]=>.test (frB g h) (.ok (.bool (F.right (frD g h ids))) [])
 |_=>.fail
theorem k_fRight_ok:CtrOk Tryz.prog Gw 65 k_fRight:=by
 refine⟨fun _ _=>by kernel_rfl,fun args M => ?_⟩
 unfold k_fRight
 split
 . rename_i g h ids
   intro ht
   have hfr:frB g h=true:=ht
   exact ctr_fr (Γ:=⟨[(114,k_vRight)],eqs,[],[(113,Tryz.f113,[]),(160,Tryz.f160,[])],[],mixs,meqs,[]⟩) (sv:=.bool (F.right (frD g h ids))) st_Gw ⟨(okCons k_vRight_ok okNil),eqs_ok,okNilB,(okConsI Tryz.func113 rfl (by kernel_rfl) (fun _ _=>by kernel_rfl) (okConsI Tryz.func160 rfl (by kernel_rfl) (fun _ _=>by kernel_rfl) okNilI)),okNilP,mixs_ok,meqs_ok,okNilY⟩ Tryz.func65 rfl mixed [] (by kernel_rfl) 10000 (rest:=[]) hfr rfl (right_run _ (frD_wf hfr))
 . trivial
end Go.Proofs.YtfgkhenhlpoheaaGreat
