import Derived.Test.YtfjemlegodhfnaaGreatM49
import Derived.Test.YtfjemlegodhfnaaGreatM40
set_option linter.all false
namespace Go.Proofs.YtfjemlegodhfnaaGreat
open Go.RowKit Go.Sx
set_option maxRecDepth 100000
set_option maxHeartbeats 4000000
attribute [local irreducible] A.load A.store A.stoF
theorem bnds_2 (f:Fr)(hf:f.wf)(t:Ty)(maps:List Mp)(op dst src off imm:Int)(v:BitVec 64)(hd:0≤dst)(hs:0≤src)(ho:0≤op∧op≤255)(hof : -32768≤off∧off≤32767)(hw:t.atMost 140737488355328=true)(hnm:t.nm.size≤140737488355328)(hm:maps.length≤140737488355328)(hz:(Go.bits .and .u8 (op.fdiv (2^min (BitVec.ofInt 64 3).toNat IntKind.u8.bits)) 3).toNat=1)(Q:List SV→List Blk→Prop)(K:X→List SV→List Blk→Prop)(hR:∀ F M,nth F 10=some .tt→K .ret F M)(hQ:Q (bndF maps v 2) [.fz 4 t.fs.length (gOf eF t.fs),.fz 3 t.ns.length (gOf eN t.ns),.fz 4 maps.length (gOf eM maps),.mix 37 [.arr 11 12 (gOf eA f.R),.arr 64 14 (gOf eS f.S),.int .i64 f.ids],.cells 41 [.val (.string t.nm),.int .i64 t.cx,.sl 0 4 0 t.fs.length,.sl 1 3 0 t.ns.length,.int .i64 t.lo,.int .i64 t.hi],.cells 45 [.int .u8 op,.int .u8 dst,.int .u8 src,.int .i16 off,.int .i32 imm],.dead,.dead,.dead,.dead,.dead,.own 5 Tryz.prog.types[5].size 2 (fun i=>List.take Tryz.prog.types[5].size (List.drop (i*Tryz.prog.types[5].size) [.int .u8 src,.int .u8 dst])),.own 55 Tryz.prog.types[55].size 2 (fun i=>List.take Tryz.prog.types[55].size (List.drop (i*Tryz.prog.types[55].size) [.int .i64 (A.load f t.fs maps op dst src (IntKind.i64.wrap off)).2,.int .i64 (A.st f t.fs maps op dst src (IntKind.i64.wrap off) (IntKind.i64.wrap imm)).2]))]):run Tryz.prog ⟨[(4,k_awake)],eqs,[],[(5,Tryz.f5,[])],[],mixs,meqs,[(6,k_aLoad),(7,k_aStore)]⟩ 10000 [] 0 (takeC 8 (bodyOf Tryz.f3)) (initF Tryz.f3 [frv f,.agg [.val (.string t.nm),.int .i64 t.cx,.sl 0 4 0 t.fs.length,.sl 1 3 0 t.ns.length,.int .i64 t.lo,.int .i64 t.hi],.sl 2 4 0 maps.length,.agg [.int .u8 op,.int .u8 dst,.int .u8 src,.int .i16 off,.int .i32 imm],.u64 v]) [.fz 4 t.fs.length (gOf eF t.fs),.fz 3 t.ns.length (gOf eN t.ns),.fz 4 maps.length (gOf eM maps)] (forgetK [2,4,5,6,8,15,16,17] Q K):=by
 generalize hKQ:forgetK [2,4,5,6,8,15,16,17] Q K=KQ
 (conv=>whnf)
 (repeat' (first | (refine .inl ⟨3,?_⟩;(conv=>whnf)) | (rw[hz];(conv=>whnf)) | (refine And.intro (a:=keepP _ _ _) (by first|exact⟨rfl,rfl,rfl,rfl,trivial⟩|exact⟨rfl,rfl,rfl,trivial⟩|exact⟨rfl,rfl,trivial⟩|exact⟨rfl,trivial⟩) ?_;(conv=>whnf)) | (refine step_t (by first|rfl|assumption) ?_;(conv=>whnf)) | (refine step_f (by first|rfl|assumption) ?_;(conv=>whnf)) | (refine step_nt (by assumption) ?_;(conv=>whnf)) | (refine step_nf (by assumption) ?_;(conv=>whnf)) | (refine step_n (fun hb => ?_) (fun hb => ?_)<;>(first|contradiction | (conv=>whnf))) | (refine And.intro (fun hb => ?_) (fun hb => ?_)<;>(first|contradiction | (conv=>whnf))) | (refine And.intro (a:=(_:Bool)=true) ?_ ?_;rotate_left 1;(conv=>whnf)) | (intro hb;(conv=>whnf))))
 all_goals try (subst hKQ;exact hR _ _ rfl)
 all_goals (try simp only[frD_of hf,isY_at,decY_at,rowM_is,rowM_dec] at *)
 all_goals first
 |rfl
 |trivial
 |(simp;done)
 |exact(by rw[hz];rfl)
 |(simp only[Bool.and_eq_true,decide_eq_true_eq,frB_of hf,hw,true_and,and_true];omega)
 |(subst hKQ
   exact use_forget (n:=196) (vals:=[.sl 2 4 0 maps.length,.u64 v,.ptr 3 0,.ptr 4 0,.ptr 5 0,.int .i64 2,.sl 11 1 0 2,.sl 12 1 0 2]) (M1:=[.fz 4 t.fs.length (gOf eF t.fs),.fz 3 t.ns.length (gOf eN t.ns),.fz 4 maps.length (gOf eM maps),.mix 37 [.arr 11 12 (gOf eA f.R),.arr 64 14 (gOf eS f.S),.int .i64 f.ids],.cells 41 [.val (.string t.nm),.int .i64 t.cx,.sl 0 4 0 t.fs.length,.sl 1 3 0 t.ns.length,.int .i64 t.lo,.int .i64 t.hi],.cells 45 [.int .u8 op,.int .u8 dst,.int .u8 src,.int .i16 off,.int .i32 imm],.dead,.dead,.dead,.dead,.dead,.own 5 Tryz.prog.types[5].size 2 (fun i=>List.take Tryz.prog.types[5].size (List.drop (i*Tryz.prog.types[5].size) [.int .u8 src,.int .u8 dst])),.own 55 Tryz.prog.types[55].size 2 (fun i=>List.take Tryz.prog.types[55].size (List.drop (i*Tryz.prog.types[55].size) [.int .i64 (A.load f t.fs maps op dst src (IntKind.i64.wrap off)).2,.int .i64 (A.st f t.fs maps op dst src (IntKind.i64.wrap off) (IntKind.i64.wrap imm)).2]))]) [0,1,2,3,4,5,6,7,8,9,10,11,12] rfl (mle_cons ble_refl (mle_cons ble_refl (mle_cons ble_refl (mle_cons ble_refl (mle_cons ble_refl (mle_cons ble_refl (mle_cons ble_dead (mle_cons ble_dead (mle_cons ble_dead (mle_cons ble_dead (mle_cons ble_dead (mle_cons ble_refl (mle_cons ble_refl (mle_nil)))))))))))))) rfl rfl rfl hQ)
theorem bnds_1 (f:Fr)(hf:f.wf)(t:Ty)(maps:List Mp)(op dst src off imm:Int)(v:BitVec 64)(hd:0≤dst)(hs:0≤src)(ho:0≤op∧op≤255)(hof : -32768≤off∧off≤32767)(hw:t.atMost 140737488355328=true)(hnm:t.nm.size≤140737488355328)(hm:maps.length≤140737488355328)(hz:(Go.bits .and .u8 (op.fdiv (2^min (BitVec.ofInt 64 3).toNat IntKind.u8.bits)) 3).toNat=2)(Q:List SV→List Blk→Prop)(K:X→List SV→List Blk→Prop)(hR:∀ F M,nth F 10=some .tt→K .ret F M)(hQ:Q (bndF maps v 1) [.fz 4 t.fs.length (gOf eF t.fs),.fz 3 t.ns.length (gOf eN t.ns),.fz 4 maps.length (gOf eM maps),.mix 37 [.arr 11 12 (gOf eA f.R),.arr 64 14 (gOf eS f.S),.int .i64 f.ids],.cells 41 [.val (.string t.nm),.int .i64 t.cx,.sl 0 4 0 t.fs.length,.sl 1 3 0 t.ns.length,.int .i64 t.lo,.int .i64 t.hi],.cells 45 [.int .u8 op,.int .u8 dst,.int .u8 src,.int .i16 off,.int .i32 imm],.dead,.dead,.dead,.dead,.dead,.own 5 Tryz.prog.types[5].size 2 (fun i=>List.take Tryz.prog.types[5].size (List.drop (i*Tryz.prog.types[5].size) [.int .u8 src,.int .u8 dst])),.own 55 Tryz.prog.types[55].size 2 (fun i=>List.take Tryz.prog.types[55].size (List.drop (i*Tryz.prog.types[55].size) [.int .i64 (A.load f t.fs maps op dst src (IntKind.i64.wrap off)).2,.int .i64 (A.st f t.fs maps op dst src (IntKind.i64.wrap off) (IntKind.i64.wrap imm)).2]))]):run Tryz.prog ⟨[(4,k_awake)],eqs,[],[(5,Tryz.f5,[])],[],mixs,meqs,[(6,k_aLoad),(7,k_aStore)]⟩ 10000 [] 0 (takeC 8 (bodyOf Tryz.f3)) (initF Tryz.f3 [frv f,.agg [.val (.string t.nm),.int .i64 t.cx,.sl 0 4 0 t.fs.length,.sl 1 3 0 t.ns.length,.int .i64 t.lo,.int .i64 t.hi],.sl 2 4 0 maps.length,.agg [.int .u8 op,.int .u8 dst,.int .u8 src,.int .i16 off,.int .i32 imm],.u64 v]) [.fz 4 t.fs.length (gOf eF t.fs),.fz 3 t.ns.length (gOf eN t.ns),.fz 4 maps.length (gOf eM maps)] (forgetK [2,4,5,6,8,15,16,17] Q K):=by
 generalize hKQ:forgetK [2,4,5,6,8,15,16,17] Q K=KQ
 (conv=>whnf)
 (repeat' (first | (refine .inl ⟨3,?_⟩;(conv=>whnf)) | (rw[hz];(conv=>whnf)) | (refine And.intro (a:=keepP _ _ _) (by first|exact⟨rfl,rfl,rfl,rfl,trivial⟩|exact⟨rfl,rfl,rfl,trivial⟩|exact⟨rfl,rfl,trivial⟩|exact⟨rfl,trivial⟩) ?_;(conv=>whnf)) | (refine step_t (by first|rfl|assumption) ?_;(conv=>whnf)) | (refine step_f (by first|rfl|assumption) ?_;(conv=>whnf)) | (refine step_nt (by assumption) ?_;(conv=>whnf)) | (refine step_nf (by assumption) ?_;(conv=>whnf)) | (refine step_n (fun hb => ?_) (fun hb => ?_)<;>(first|contradiction | (conv=>whnf))) | (refine And.intro (fun hb => ?_) (fun hb => ?_)<;>(first|contradiction | (conv=>whnf))) | (refine And.intro (a:=(_:Bool)=true) ?_ ?_;rotate_left 1;(conv=>whnf)) | (intro hb;(conv=>whnf))))
 all_goals try (subst hKQ;exact hR _ _ rfl)
 all_goals (try simp only[frD_of hf,isY_at,decY_at,rowM_is,rowM_dec] at *)
 all_goals first
 |rfl
 |trivial
 |(simp;done)
 |exact(by rw[hz];rfl)
 |(simp only[Bool.and_eq_true,decide_eq_true_eq,frB_of hf,hw,true_and,and_true];omega)
 |(subst hKQ
   exact use_forget (n:=196) (vals:=[.sl 2 4 0 maps.length,.u64 v,.ptr 3 0,.ptr 4 0,.ptr 5 0,.int .i64 1,.sl 11 1 0 2,.sl 12 1 0 2]) (M1:=[.fz 4 t.fs.length (gOf eF t.fs),.fz 3 t.ns.length (gOf eN t.ns),.fz 4 maps.length (gOf eM maps),.mix 37 [.arr 11 12 (gOf eA f.R),.arr 64 14 (gOf eS f.S),.int .i64 f.ids],.cells 41 [.val (.string t.nm),.int .i64 t.cx,.sl 0 4 0 t.fs.length,.sl 1 3 0 t.ns.length,.int .i64 t.lo,.int .i64 t.hi],.cells 45 [.int .u8 op,.int .u8 dst,.int .u8 src,.int .i16 off,.int .i32 imm],.dead,.dead,.dead,.dead,.dead,.own 5 Tryz.prog.types[5].size 2 (fun i=>List.take Tryz.prog.types[5].size (List.drop (i*Tryz.prog.types[5].size) [.int .u8 src,.int .u8 dst])),.own 55 Tryz.prog.types[55].size 2 (fun i=>List.take Tryz.prog.types[55].size (List.drop (i*Tryz.prog.types[55].size) [.int .i64 (A.load f t.fs maps op dst src (IntKind.i64.wrap off)).2,.int .i64 (A.st f t.fs maps op dst src (IntKind.i64.wrap off) (IntKind.i64.wrap imm)).2]))]) [0,1,2,3,4,5,6,7,8,9,10,11,12] rfl (mle_cons ble_refl (mle_cons ble_refl (mle_cons ble_refl (mle_cons ble_refl (mle_cons ble_refl (mle_cons ble_refl (mle_cons ble_dead (mle_cons ble_dead (mle_cons ble_dead (mle_cons ble_dead (mle_cons ble_dead (mle_cons ble_refl (mle_cons ble_refl (mle_nil)))))))))))))) rfl rfl rfl hQ)
theorem bnds_8 (f:Fr)(hf:f.wf)(t:Ty)(maps:List Mp)(op dst src off imm:Int)(v:BitVec 64)(hd:0≤dst)(hs:0≤src)(ho:0≤op∧op≤255)(hof : -32768≤off∧off≤32767)(hw:t.atMost 140737488355328=true)(hnm:t.nm.size≤140737488355328)(hm:maps.length≤140737488355328)(hz:(Go.bits .and .u8 (op.fdiv (2^min (BitVec.ofInt 64 3).toNat IntKind.u8.bits)) 3).toNat=3)(Q:List SV→List Blk→Prop)(K:X→List SV→List Blk→Prop)(hR:∀ F M,nth F 10=some .tt→K .ret F M)(hQ:Q (bndF maps v 8) [.fz 4 t.fs.length (gOf eF t.fs),.fz 3 t.ns.length (gOf eN t.ns),.fz 4 maps.length (gOf eM maps),.mix 37 [.arr 11 12 (gOf eA f.R),.arr 64 14 (gOf eS f.S),.int .i64 f.ids],.cells 41 [.val (.string t.nm),.int .i64 t.cx,.sl 0 4 0 t.fs.length,.sl 1 3 0 t.ns.length,.int .i64 t.lo,.int .i64 t.hi],.cells 45 [.int .u8 op,.int .u8 dst,.int .u8 src,.int .i16 off,.int .i32 imm],.dead,.dead,.dead,.dead,.dead,.own 5 Tryz.prog.types[5].size 2 (fun i=>List.take Tryz.prog.types[5].size (List.drop (i*Tryz.prog.types[5].size) [.int .u8 src,.int .u8 dst])),.own 55 Tryz.prog.types[55].size 2 (fun i=>List.take Tryz.prog.types[55].size (List.drop (i*Tryz.prog.types[55].size) [.int .i64 (A.load f t.fs maps op dst src (IntKind.i64.wrap off)).2,.int .i64 (A.st f t.fs maps op dst src (IntKind.i64.wrap off) (IntKind.i64.wrap imm)).2]))]):run Tryz.prog ⟨[(4,k_awake)],eqs,[],[(5,Tryz.f5,[])],[],mixs,meqs,[(6,k_aLoad),(7,k_aStore)]⟩ 10000 [] 0 (takeC 8 (bodyOf Tryz.f3)) (initF Tryz.f3 [frv f,.agg [.val (.string t.nm),.int .i64 t.cx,.sl 0 4 0 t.fs.length,.sl 1 3 0 t.ns.length,.int .i64 t.lo,.int .i64 t.hi],.sl 2 4 0 maps.length,.agg [.int .u8 op,.int .u8 dst,.int .u8 src,.int .i16 off,.int .i32 imm],.u64 v]) [.fz 4 t.fs.length (gOf eF t.fs),.fz 3 t.ns.length (gOf eN t.ns),.fz 4 maps.length (gOf eM maps)] (forgetK [2,4,5,6,8,15,16,17] Q K):=by
 generalize hKQ:forgetK [2,4,5,6,8,15,16,17] Q K=KQ
 (conv=>whnf)
 (repeat' (first | (refine .inl ⟨3,?_⟩;(conv=>whnf)) | (rw[hz];(conv=>whnf)) | (refine And.intro (a:=keepP _ _ _) (by first|exact⟨rfl,rfl,rfl,rfl,trivial⟩|exact⟨rfl,rfl,rfl,trivial⟩|exact⟨rfl,rfl,trivial⟩|exact⟨rfl,trivial⟩) ?_;(conv=>whnf)) | (refine step_t (by first|rfl|assumption) ?_;(conv=>whnf)) | (refine step_f (by first|rfl|assumption) ?_;(conv=>whnf)) | (refine step_nt (by assumption) ?_;(conv=>whnf)) | (refine step_nf (by assumption) ?_;(conv=>whnf)) | (refine step_n (fun hb => ?_) (fun hb => ?_)<;>(first|contradiction | (conv=>whnf))) | (refine And.intro (fun hb => ?_) (fun hb => ?_)<;>(first|contradiction | (conv=>whnf))) | (refine And.intro (a:=(_:Bool)=true) ?_ ?_;rotate_left 1;(conv=>whnf)) | (intro hb;(conv=>whnf))))
 all_goals try (subst hKQ;exact hR _ _ rfl)
 all_goals (try simp only[frD_of hf,isY_at,decY_at,rowM_is,rowM_dec] at *)
 all_goals first
 |rfl
 |trivial
 |(simp;done)
 |exact(by rw[hz];rfl)
 |(simp only[Bool.and_eq_true,decide_eq_true_eq,frB_of hf,hw,true_and,and_true];omega)
 |(subst hKQ
   exact use_forget (n:=196) (vals:=[.sl 2 4 0 maps.length,.u64 v,.ptr 3 0,.ptr 4 0,.ptr 5 0,.int .i64 8,.sl 11 1 0 2,.sl 12 1 0 2]) (M1:=[.fz 4 t.fs.length (gOf eF t.fs),.fz 3 t.ns.length (gOf eN t.ns),.fz 4 maps.length (gOf eM maps),.mix 37 [.arr 11 12 (gOf eA f.R),.arr 64 14 (gOf eS f.S),.int .i64 f.ids],.cells 41 [.val (.string t.nm),.int .i64 t.cx,.sl 0 4 0 t.fs.length,.sl 1 3 0 t.ns.length,.int .i64 t.lo,.int .i64 t.hi],.cells 45 [.int .u8 op,.int .u8 dst,.int .u8 src,.int .i16 off,.int .i32 imm],.dead,.dead,.dead,.dead,.dead,.own 5 Tryz.prog.types[5].size 2 (fun i=>List.take Tryz.prog.types[5].size (List.drop (i*Tryz.prog.types[5].size) [.int .u8 src,.int .u8 dst])),.own 55 Tryz.prog.types[55].size 2 (fun i=>List.take Tryz.prog.types[55].size (List.drop (i*Tryz.prog.types[55].size) [.int .i64 (A.load f t.fs maps op dst src (IntKind.i64.wrap off)).2,.int .i64 (A.st f t.fs maps op dst src (IntKind.i64.wrap off) (IntKind.i64.wrap imm)).2]))]) [0,1,2,3,4,5,6,7,8,9,10,11,12] rfl (mle_cons ble_refl (mle_cons ble_refl (mle_cons ble_refl (mle_cons ble_refl (mle_cons ble_refl (mle_cons ble_refl (mle_cons ble_dead (mle_cons ble_dead (mle_cons ble_dead (mle_cons ble_dead (mle_cons ble_dead (mle_cons ble_refl (mle_cons ble_refl (mle_nil)))))))))))))) rfl rfl rfl hQ)
end Go.Proofs.YtfjemlegodhfnaaGreat
namespace Go.Proofs.YtfjemlegodhfnaaGreat
open Go.RowKit Go.Sx
set_option maxRecDepth 100000
set_option maxHeartbeats 4000000
namespace A
theorem size_idx {op:Int}(h:0≤op∧op≤255):
  ((Go.bits .and .u8 (op.fdiv (2^min (BitVec.ofInt 64 3).toNat IntKind.u8.bits)) 3).toNat=0∧size op=4) ∨
  ((Go.bits .and .u8 (op.fdiv (2^min (BitVec.ofInt 64 3).toNat IntKind.u8.bits)) 3).toNat=1∧size op=2) ∨
  ((Go.bits .and .u8 (op.fdiv (2^min (BitVec.ofInt 64 3).toNat IntKind.u8.bits)) 3).toNat=2∧size op=1) ∨
  ((Go.bits .and .u8 (op.fdiv (2^min (BitVec.ofInt 64 3).toNat IntKind.u8.bits)) 3).toNat=3∧size op=8):=by
 have key:∀ n:Fin 256,
  ((Go.bits .and .u8 (((n.val:Nat):Int).fdiv (2^min (BitVec.ofInt 64 3).toNat IntKind.u8.bits)) 3).toNat=0∧size ((n.val:Nat):Int)=4) ∨
  ((Go.bits .and .u8 (((n.val:Nat):Int).fdiv (2^min (BitVec.ofInt 64 3).toNat IntKind.u8.bits)) 3).toNat=1∧size ((n.val:Nat):Int)=2) ∨
  ((Go.bits .and .u8 (((n.val:Nat):Int).fdiv (2^min (BitVec.ofInt 64 3).toNat IntKind.u8.bits)) 3).toNat=2∧size ((n.val:Nat):Int)=1) ∨
  ((Go.bits .and .u8 (((n.val:Nat):Int).fdiv (2^min (BitVec.ofInt 64 3).toNat IntKind.u8.bits)) 3).toNat=3∧size ((n.val:Nat):Int)=8):=by decide +kernel
 have k:=key ⟨op.toNat,by omega⟩
 rw[show((op.toNat:Nat):Int)=op by omega] at k
 exact k
end A
end Go.Proofs.YtfjemlegodhfnaaGreat
