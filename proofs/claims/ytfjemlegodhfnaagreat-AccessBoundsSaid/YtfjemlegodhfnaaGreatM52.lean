import Derived.Test.YtfjemlegodhfnaaGreatM51
import Derived.Test.YtfjemlegodhfnaaGreatM49
set_option linter.all false
namespace Go.Proofs.YtfjemlegodhfnaaGreat
open Go.RowKit Go.Sx
set_option maxRecDepth 100000
set_option maxHeartbeats 4000000
theorem K.upto_s {p:Nat→Bool}{j:Nat}:K.upto p (j+1)=(K.upto p j&&p j):=by
 unfold K.upto;rw[List.range_succ,List.all_append];simp
attribute [local irreducible] A.load A.store A.stoF K.upto
theorem bndl (sz:Int)(f:Fr)(hf:f.wf)(t:Ty)(maps:List Mp)(op dst src off imm:Int)(v:BitVec 64)(hd:0≤dst)(hs:0≤src)(ho:0≤op∧op≤255)(hof : -32768≤off∧off≤32767)(hw:t.atMost 140737488355328=true)(hnm:t.nm.size≤140737488355328)(hm:maps.length≤140737488355328)(hsz:A.size op=sz):run Tryz.prog ⟨[(4,k_awake)],eqs,[],[(5,Tryz.f5,[])],[],mixs,meqs,[(6,k_aLoad),(7,k_aStore)]⟩ 10000 [] 0 (dropC 8 (bodyOf Tryz.f3)) (bndF maps v sz) [.fz 4 t.fs.length (gOf eF t.fs),.fz 3 t.ns.length (gOf eN t.ns),.fz 4 maps.length (gOf eM maps),.mix 37 [.arr 11 12 (gOf eA f.R),.arr 64 14 (gOf eS f.S),.int .i64 f.ids],.cells 41 [.val (.string t.nm),.int .i64 t.cx,.sl 0 4 0 t.fs.length,.sl 1 3 0 t.ns.length,.int .i64 t.lo,.int .i64 t.hi],.cells 45 [.int .u8 op,.int .u8 dst,.int .u8 src,.int .i16 off,.int .i32 imm],.dead,.dead,.dead,.dead,.dead,.own 5 Tryz.prog.types[5].size 2 (fun i=>List.take Tryz.prog.types[5].size (List.drop (i*Tryz.prog.types[5].size) [.int .u8 src,.int .u8 dst])),.own 55 Tryz.prog.types[55].size 2 (fun i=>List.take Tryz.prog.types[55].size (List.drop (i*Tryz.prog.types[55].size) [.int .i64 (A.load f t.fs maps op dst src (IntKind.i64.wrap off)).2,.int .i64 (A.st f t.fs maps op dst src (IntKind.i64.wrap off) (IntKind.i64.wrap imm)).2]))] (retK Tryz.prog Tryz.f3 fun x _=>eqv x (.bool true)):=by
 have hk5:Tryz.prog.types[5].size=1:=by kernel_rfl
 have hk55:Tryz.prog.types[55].size=1:=by kernel_rfl
 conv=>whnf
 refine .inr ⟨[],[2,4,5,6,8,15,16,17,18],fun k vals M=>∃ j:Nat,j≤2∧k=2-j∧vals=[.sl 2 4 0 maps.length,.u64 v,.ptr 3 0,.ptr 4 0,.ptr 5 0,.int .i64 sz,.sl 11 1 0 2,.sl 12 1 0 2,.int .i64 (j:Int)]∧M=[.fz 4 t.fs.length (gOf eF t.fs),.fz 3 t.ns.length (gOf eN t.ns),.fz 4 maps.length (gOf eM maps),.mix 37 [.arr 11 12 (gOf eA f.R),.arr 64 14 (gOf eS f.S),.int .i64 f.ids],.cells 41 [.val (.string t.nm),.int .i64 t.cx,.sl 0 4 0 t.fs.length,.sl 1 3 0 t.ns.length,.int .i64 t.lo,.int .i64 t.hi],.cells 45 [.int .u8 op,.int .u8 dst,.int .u8 src,.int .i16 off,.int .i32 imm],.dead,.dead,.dead,.dead,.dead,.own 5 Tryz.prog.types[5].size 2 (fun i=>List.take Tryz.prog.types[5].size (List.drop (i*Tryz.prog.types[5].size) [.int .u8 src,.int .u8 dst])),.own 55 Tryz.prog.types[55].size 2 (fun i=>List.take Tryz.prog.types[55].size (List.drop (i*Tryz.prog.types[55].size) [.int .i64 (A.load f t.fs maps op dst src (IntKind.i64.wrap off)).2,.int .i64 (A.st f t.fs maps op dst src (IntKind.i64.wrap off) (IntKind.i64.wrap imm)).2]))],?_⟩
 conv=>whnf
 refine And.intro ⟨2,[.fz 4 t.fs.length (gOf eF t.fs),.fz 3 t.ns.length (gOf eN t.ns),.fz 4 maps.length (gOf eM maps),.mix 37 [.arr 11 12 (gOf eA f.R),.arr 64 14 (gOf eS f.S),.int .i64 f.ids],.cells 41 [.val (.string t.nm),.int .i64 t.cx,.sl 0 4 0 t.fs.length,.sl 1 3 0 t.ns.length,.int .i64 t.lo,.int .i64 t.hi],.cells 45 [.int .u8 op,.int .u8 dst,.int .u8 src,.int .i16 off,.int .i32 imm],.dead,.dead,.dead,.dead,.dead,.own 5 Tryz.prog.types[5].size 2 (fun i=>List.take Tryz.prog.types[5].size (List.drop (i*Tryz.prog.types[5].size) [.int .u8 src,.int .u8 dst])),.own 55 Tryz.prog.types[55].size 2 (fun i=>List.take Tryz.prog.types[55].size (List.drop (i*Tryz.prog.types[55].size) [.int .i64 (A.load f t.fs maps op dst src (IntKind.i64.wrap off)).2,.int .i64 (A.st f t.fs maps op dst src (IntKind.i64.wrap off) (IntKind.i64.wrap imm)).2]))],(mle_cons ble_refl (mle_cons ble_refl (mle_cons ble_refl (mle_cons ble_refl (mle_cons ble_refl (mle_cons ble_refl (mle_cons ble_refl (mle_cons ble_refl (mle_cons ble_refl (mle_cons ble_refl (mle_cons ble_refl (mle_cons ble_refl (mle_cons ble_refl (mle_nil)))))))))))))),rfl,rfl,0,Nat.zero_le _,rfl,rfl,rfl⟩ ?_
 rintro k vals M1 ⟨j,hj,rfl,rfl,rfl⟩
 obtain rfl|rfl|rfl:j=0∨j=1∨j=2:=by omega
 . have hB:(A.load f t.fs maps op dst src (IntKind.i64.wrap off)).2=0→A.Bnd t.fs maps (f.R.getD src.toNat eA.dft) (IntKind.i64.wrap ((f.R.getD src.toNat eA.dft).of+IntKind.i64.wrap off)) sz v:=fun h=>hsz▸A.load_bnd h
   have hS:(A.load f t.fs maps op dst src (IntKind.i64.wrap off)).2=0→src≤10:=fun h=>A.load_src h
   (conv=>whnf)
   (repeat' (first | (refine And.intro (a:=keepP _ _ _) (by first|exact⟨rfl,rfl,rfl,rfl,trivial⟩|exact⟨rfl,rfl,rfl,trivial⟩|exact⟨rfl,rfl,trivial⟩|exact⟨rfl,trivial⟩) ?_;(conv=>whnf)) | (refine step_t (by first|rfl|assumption) ?_;(conv=>whnf)) | (refine step_f (by first|rfl|assumption) ?_;(conv=>whnf)) | (refine step_nt (by assumption) ?_;(conv=>whnf)) | (refine step_nf (by assumption) ?_;(conv=>whnf)) | (refine step_n (fun hb => ?_) (fun hb => ?_)<;>(first|contradiction | (conv=>whnf))) | (refine And.intro (fun hb => ?_) (fun hb => ?_)<;>(first|contradiction | (conv=>whnf))) | (refine And.intro (a:=(_:Bool)=true) ?_ ?_;rotate_left 1;(conv=>whnf)) | (intro hb;(conv=>whnf))))
   all_goals try (
    refine .inr ⟨[],[2,4,5,6,8,15,16,17,18,20,21,22],fun k vals M=>∃ (q:Nat) (a:Int) (y:SV),q≤t.fs.length∧k=t.fs.length-q∧a=IntKind.i64.wrap ((f.R.getD src.toNat eA.dft).of+IntKind.i64.wrap off)∧((K.upto (fun i => !((t.fs.getD i eF.dft).o==a&&(t.fs.getD i eF.dft).z==sz)) q=true∧y = .ff)∨(K.upto (fun i => !((t.fs.getD i eF.dft).o==a&&(t.fs.getD i eF.dft).z==sz)) q=false∧y = .tt)∨(∃ b:Bool,b = !K.upto (fun i => !((t.fs.getD i eF.dft).o==a&&(t.fs.getD i eF.dft).z==sz)) q∧y = .bool b))∧vals=[.sl 2 4 0 maps.length,.u64 v,.ptr 3 0,.ptr 4 0,.ptr 5 0,.int .i64 sz,.sl 11 1 0 2,.sl 12 1 0 2,.int .i64 ((0:Nat):Int),.int .i64 a,y,.int .i64 (q:Int)]∧M=[.fz 4 t.fs.length (gOf eF t.fs),.fz 3 t.ns.length (gOf eN t.ns),.fz 4 maps.length (gOf eM maps),.mix 37 [.arr 11 12 (gOf eA f.R),.arr 64 14 (gOf eS f.S),.int .i64 f.ids],.cells 41 [.val (.string t.nm),.int .i64 t.cx,.sl 0 4 0 t.fs.length,.sl 1 3 0 t.ns.length,.int .i64 t.lo,.int .i64 t.hi],.cells 45 [.int .u8 op,.int .u8 dst,.int .u8 src,.int .i16 off,.int .i32 imm],.dead,.dead,.dead,.dead,.dead,.own 5 Tryz.prog.types[5].size 2 (fun i=>List.take Tryz.prog.types[5].size (List.drop (i*Tryz.prog.types[5].size) [.int .u8 src,.int .u8 dst])),.own 55 Tryz.prog.types[55].size 2 (fun i=>List.take Tryz.prog.types[55].size (List.drop (i*Tryz.prog.types[55].size) [.int .i64 (A.load f t.fs maps op dst src (IntKind.i64.wrap off)).2,.int .i64 (A.st f t.fs maps op dst src (IntKind.i64.wrap off) (IntKind.i64.wrap imm)).2])),.dead],?_⟩
    conv=>whnf
    refine And.intro ⟨t.fs.length,[.fz 4 t.fs.length (gOf eF t.fs),.fz 3 t.ns.length (gOf eN t.ns),.fz 4 maps.length (gOf eM maps),.mix 37 [.arr 11 12 (gOf eA f.R),.arr 64 14 (gOf eS f.S),.int .i64 f.ids],.cells 41 [.val (.string t.nm),.int .i64 t.cx,.sl 0 4 0 t.fs.length,.sl 1 3 0 t.ns.length,.int .i64 t.lo,.int .i64 t.hi],.cells 45 [.int .u8 op,.int .u8 dst,.int .u8 src,.int .i16 off,.int .i32 imm],.dead,.dead,.dead,.dead,.dead,.own 5 Tryz.prog.types[5].size 2 (fun i=>List.take Tryz.prog.types[5].size (List.drop (i*Tryz.prog.types[5].size) [.int .u8 src,.int .u8 dst])),.own 55 Tryz.prog.types[55].size 2 (fun i=>List.take Tryz.prog.types[55].size (List.drop (i*Tryz.prog.types[55].size) [.int .i64 (A.load f t.fs maps op dst src (IntKind.i64.wrap off)).2,.int .i64 (A.st f t.fs maps op dst src (IntKind.i64.wrap off) (IntKind.i64.wrap imm)).2])),.dead],(mle_cons ble_refl (mle_cons ble_refl (mle_cons ble_refl (mle_cons ble_refl (mle_cons ble_refl (mle_cons ble_refl (mle_cons ble_refl (mle_cons ble_refl (mle_cons ble_refl (mle_cons ble_refl (mle_cons ble_refl (mle_cons ble_refl (mle_cons ble_refl (mle_cons ble_dead (mle_nil))))))))))))))),rfl,rfl,0,IntKind.i64.wrap ((f.R.getD src.toNat eA.dft).of+IntKind.i64.wrap off),.ff,Nat.zero_le _,rfl,rfl,.inl ⟨K.upto_0,rfl⟩,rfl,rfl⟩ ?_
    rintro k vals M1 ⟨q,a,y,hq,rfl,ha,⟨hu,rfl⟩ | ⟨hu,rfl⟩ | ⟨b,hu,rfl⟩,rfl,rfl⟩
    all_goals ((conv=>whnf)
               (repeat' (first | (refine And.intro (a:=keepP _ _ _) (by first|exact⟨rfl,rfl,rfl,rfl,trivial⟩|exact⟨rfl,rfl,rfl,trivial⟩|exact⟨rfl,rfl,trivial⟩|exact⟨rfl,trivial⟩) ?_;(conv=>whnf)) | (refine step_t (by first|rfl|assumption) ?_;(conv=>whnf)) | (refine step_f (by first|rfl|assumption) ?_;(conv=>whnf)) | (refine step_nt (by assumption) ?_;(conv=>whnf)) | (refine step_nf (by assumption) ?_;(conv=>whnf)) | (refine step_n (fun hb => ?_) (fun hb => ?_)<;>(first|contradiction | (conv=>whnf))) | (refine And.intro (fun hb => ?_) (fun hb => ?_)<;>(first|contradiction | (conv=>whnf))) | (refine And.intro (a:=(_:Bool)=true) ?_ ?_;rotate_left 1;(conv=>whnf)) | (intro hb;(conv=>whnf)))))
    all_goals (try (first
        |exact decide_eq_true (by
          have h9:decide (((q:Nat):Int) < (t.fs.length:Int))=true:=(by assumption)
          have h8:=of_decide_eq_true h9
          omega)
        |(rw[Bool.and_eq_true];exact⟨decide_eq_true (by omega),decide_eq_true (by
          have h9:decide (((q:Nat):Int) < (t.fs.length:Int))=true:=(by assumption)
          have h8:=of_decide_eq_true h9
          omega)⟩)
        |(exfalso
          have ht:K.upto (fun i => !((t.fs.getD i eF.dft).o==a&&(t.fs.getD i eF.dft).z==sz)) q=true:=(by first|exact hu | (revert hu;rw[(by assumption:b=false)];cases K.upto (fun i => !((t.fs.getD i eF.dft).o==a&&(t.fs.getD i eF.dft).z==sz)) q<;>simp))
          have h9:decide (((q:Nat):Int) < (t.fs.length:Int))=false:=(by assumption)
          have h8:=of_decide_eq_false h9
          obtain⟨j,hj,e1,e2⟩:=(hB (eq_of_beq (by assumption))).ctx (eq_of_beq (by assumption))
          have h7:(!((t.fs.getD j eF.dft).o==a&&(t.fs.getD j eF.dft).z==sz))=true:=K.upto_at ht (j:=j) (by omega)
          rw[e1,e2,ha] at h7
          simp at h7;done)
        |(have hfl:=Ty.atMost_fs hw
          have hlt:q<t.fs.length:=(by
           have h9:decide (((q:Nat):Int) < (t.fs.length:Int))=true:=(by assumption)
           have h8:=of_decide_eq_true h9
           omega)
          have hf:K.upto (fun i => !((t.fs.getD i eF.dft).o==a&&(t.fs.getD i eF.dft).z==sz)) q=false:=(by first|exact hu | (revert hu;rw[(by assumption:b=true)];cases K.upto (fun i => !((t.fs.getD i eF.dft).o==a&&(t.fs.getD i eF.dft).z==sz)) q<;>simp))
          refine⟨t.fs.length - (q+1),[.fz 4 t.fs.length (gOf eF t.fs),.fz 3 t.ns.length (gOf eN t.ns),.fz 4 maps.length (gOf eM maps),.mix 37 [.arr 11 12 (gOf eA f.R),.arr 64 14 (gOf eS f.S),.int .i64 f.ids],.cells 41 [.val (.string t.nm),.int .i64 t.cx,.sl 0 4 0 t.fs.length,.sl 1 3 0 t.ns.length,.int .i64 t.lo,.int .i64 t.hi],.cells 45 [.int .u8 op,.int .u8 dst,.int .u8 src,.int .i16 off,.int .i32 imm],.dead,.dead,.dead,.dead,.dead,.own 5 Tryz.prog.types[5].size 2 (fun i=>List.take Tryz.prog.types[5].size (List.drop (i*Tryz.prog.types[5].size) [.int .u8 src,.int .u8 dst])),.own 55 Tryz.prog.types[55].size 2 (fun i=>List.take Tryz.prog.types[55].size (List.drop (i*Tryz.prog.types[55].size) [.int .i64 (A.load f t.fs maps op dst src (IntKind.i64.wrap off)).2,.int .i64 (A.st f t.fs maps op dst src (IntKind.i64.wrap off) (IntKind.i64.wrap imm)).2])),.dead],[0,1,2,3,4,5,6,7,8,9,10,11,12,13],by omega,rfl,(mle_cons ble_refl (mle_cons ble_refl (mle_cons ble_refl (mle_cons ble_refl (mle_cons ble_refl (mle_cons ble_refl (mle_cons ble_refl (mle_cons ble_refl (mle_cons ble_refl (mle_cons ble_refl (mle_cons ble_refl (mle_cons ble_refl (mle_cons ble_refl (mle_cons ble_dead (mle_nil))))))))))))))),rfl,rfl,q+1,a,.tt,by omega,rfl,ha,.inr (.inl ⟨by rw[K.upto_s,hf];rfl,rfl⟩),?_,rfl⟩
          show([.sl 2 4 0 maps.length,.u64 v,.ptr 3 0,.ptr 4 0,.ptr 5 0,.int .i64 sz,.sl 11 1 0 2,.sl 12 1 0 2,.int .i64 ((0:Nat):Int),.int .i64 a,.tt,.int .i64 (IntKind.i64.wrap (((q:Nat):Int)+1))]:List SV)=_
          rw[i64_all (n:=((q:Nat):Int)+1) (by omega) (by omega)];rfl)
        |(have hfl:=Ty.atMost_fs hw
          have hlt:q<t.fs.length:=(by
           have h9:decide (((q:Nat):Int) < (t.fs.length:Int))=true:=(by assumption)
           have h8:=of_decide_eq_true h9
           omega)
          have ht:K.upto (fun i => !((t.fs.getD i eF.dft).o==a&&(t.fs.getD i eF.dft).z==sz)) q=true:=(by first|exact hu | (revert hu;rw[(by assumption:b=false)];cases K.upto (fun i => !((t.fs.getD i eF.dft).o==a&&(t.fs.getD i eF.dft).z==sz)) q<;>simp))
          have ho:((t.fs.getD (0+(((q:Nat):Int)).toNat) eF.dft).o==a)=true:=(by assumption)
          refine⟨t.fs.length - (q+1),[.fz 4 t.fs.length (gOf eF t.fs),.fz 3 t.ns.length (gOf eN t.ns),.fz 4 maps.length (gOf eM maps),.mix 37 [.arr 11 12 (gOf eA f.R),.arr 64 14 (gOf eS f.S),.int .i64 f.ids],.cells 41 [.val (.string t.nm),.int .i64 t.cx,.sl 0 4 0 t.fs.length,.sl 1 3 0 t.ns.length,.int .i64 t.lo,.int .i64 t.hi],.cells 45 [.int .u8 op,.int .u8 dst,.int .u8 src,.int .i16 off,.int .i32 imm],.dead,.dead,.dead,.dead,.dead,.own 5 Tryz.prog.types[5].size 2 (fun i=>List.take Tryz.prog.types[5].size (List.drop (i*Tryz.prog.types[5].size) [.int .u8 src,.int .u8 dst])),.own 55 Tryz.prog.types[55].size 2 (fun i=>List.take Tryz.prog.types[55].size (List.drop (i*Tryz.prog.types[55].size) [.int .i64 (A.load f t.fs maps op dst src (IntKind.i64.wrap off)).2,.int .i64 (A.st f t.fs maps op dst src (IntKind.i64.wrap off) (IntKind.i64.wrap imm)).2])),.dead],[0,1,2,3,4,5,6,7,8,9,10,11,12,13],by omega,rfl,(mle_cons ble_refl (mle_cons ble_refl (mle_cons ble_refl (mle_cons ble_refl (mle_cons ble_refl (mle_cons ble_refl (mle_cons ble_refl (mle_cons ble_refl (mle_cons ble_refl (mle_cons ble_refl (mle_cons ble_refl (mle_cons ble_refl (mle_cons ble_refl (mle_cons ble_dead (mle_nil))))))))))))))),rfl,rfl,q+1,a,.bool ((t.fs.getD (0+(((q:Nat):Int)).toNat) eF.dft).z==sz),by omega,rfl,ha,.inr (.inr ⟨_,by rw[K.upto_s,ht,Int.toNat_natCast,Nat.zero_add];rw[Int.toNat_natCast,Nat.zero_add] at ho;rw[ho];simp,rfl⟩),?_,rfl⟩
          show([.sl 2 4 0 maps.length,.u64 v,.ptr 3 0,.ptr 4 0,.ptr 5 0,.int .i64 sz,.sl 11 1 0 2,.sl 12 1 0 2,.int .i64 ((0:Nat):Int),.int .i64 a,.bool ((t.fs.getD (0+(((q:Nat):Int)).toNat) eF.dft).z==sz),.int .i64 (IntKind.i64.wrap (((q:Nat):Int)+1))]:List SV)=_
          rw[i64_all (n:=((q:Nat):Int)+1) (by omega) (by omega)];rfl)
        |(have hfl:=Ty.atMost_fs hw
          have hlt:q<t.fs.length:=(by
           have h9:decide (((q:Nat):Int) < (t.fs.length:Int))=true:=(by assumption)
           have h8:=of_decide_eq_true h9
           omega)
          have ht:K.upto (fun i => !((t.fs.getD i eF.dft).o==a&&(t.fs.getD i eF.dft).z==sz)) q=true:=(by first|exact hu | (revert hu;rw[(by assumption:b=false)];cases K.upto (fun i => !((t.fs.getD i eF.dft).o==a&&(t.fs.getD i eF.dft).z==sz)) q<;>simp))
          have ho:((t.fs.getD (0+(((q:Nat):Int)).toNat) eF.dft).o==a)=false:=(by assumption)
          refine⟨t.fs.length - (q+1),[.fz 4 t.fs.length (gOf eF t.fs),.fz 3 t.ns.length (gOf eN t.ns),.fz 4 maps.length (gOf eM maps),.mix 37 [.arr 11 12 (gOf eA f.R),.arr 64 14 (gOf eS f.S),.int .i64 f.ids],.cells 41 [.val (.string t.nm),.int .i64 t.cx,.sl 0 4 0 t.fs.length,.sl 1 3 0 t.ns.length,.int .i64 t.lo,.int .i64 t.hi],.cells 45 [.int .u8 op,.int .u8 dst,.int .u8 src,.int .i16 off,.int .i32 imm],.dead,.dead,.dead,.dead,.dead,.own 5 Tryz.prog.types[5].size 2 (fun i=>List.take Tryz.prog.types[5].size (List.drop (i*Tryz.prog.types[5].size) [.int .u8 src,.int .u8 dst])),.own 55 Tryz.prog.types[55].size 2 (fun i=>List.take Tryz.prog.types[55].size (List.drop (i*Tryz.prog.types[55].size) [.int .i64 (A.load f t.fs maps op dst src (IntKind.i64.wrap off)).2,.int .i64 (A.st f t.fs maps op dst src (IntKind.i64.wrap off) (IntKind.i64.wrap imm)).2])),.dead],[0,1,2,3,4,5,6,7,8,9,10,11,12,13],by omega,rfl,(mle_cons ble_refl (mle_cons ble_refl (mle_cons ble_refl (mle_cons ble_refl (mle_cons ble_refl (mle_cons ble_refl (mle_cons ble_refl (mle_cons ble_refl (mle_cons ble_refl (mle_cons ble_refl (mle_cons ble_refl (mle_cons ble_refl (mle_cons ble_refl (mle_cons ble_dead (mle_nil))))))))))))))),rfl,rfl,q+1,a,.ff,by omega,rfl,ha,.inl ⟨by rw[K.upto_s,ht];rw[Int.toNat_natCast,Nat.zero_add] at ho;rw[ho];rfl,rfl⟩,?_,rfl⟩
          show([.sl 2 4 0 maps.length,.u64 v,.ptr 3 0,.ptr 4 0,.ptr 5 0,.int .i64 sz,.sl 11 1 0 2,.sl 12 1 0 2,.int .i64 ((0:Nat):Int),.int .i64 a,.ff,.int .i64 (IntKind.i64.wrap (((q:Nat):Int)+1))]:List SV)=_
          rw[i64_all (n:=((q:Nat):Int)+1) (by omega) (by omega)];rfl))))
   all_goals first
   |rfl
   |exact decide_eq_true (by have:=hS (eq_of_beq (by assumption));omega)
   |(rw[Bool.and_eq_true];exact⟨decide_eq_true (by omega),decide_eq_true (by have:=hS (eq_of_beq (by assumption));omega)⟩)
   |(refine⟨2 - (0+1),[.fz 4 t.fs.length (gOf eF t.fs),.fz 3 t.ns.length (gOf eN t.ns),.fz 4 maps.length (gOf eM maps),.mix 37 [.arr 11 12 (gOf eA f.R),.arr 64 14 (gOf eS f.S),.int .i64 f.ids],.cells 41 [.val (.string t.nm),.int .i64 t.cx,.sl 0 4 0 t.fs.length,.sl 1 3 0 t.ns.length,.int .i64 t.lo,.int .i64 t.hi],.cells 45 [.int .u8 op,.int .u8 dst,.int .u8 src,.int .i16 off,.int .i32 imm],.dead,.dead,.dead,.dead,.dead,.own 5 Tryz.prog.types[5].size 2 (fun i=>List.take Tryz.prog.types[5].size (List.drop (i*Tryz.prog.types[5].size) [.int .u8 src,.int .u8 dst])),.own 55 Tryz.prog.types[55].size 2 (fun i=>List.take Tryz.prog.types[55].size (List.drop (i*Tryz.prog.types[55].size) [.int .i64 (A.load f t.fs maps op dst src (IntKind.i64.wrap off)).2,.int .i64 (A.st f t.fs maps op dst src (IntKind.i64.wrap off) (IntKind.i64.wrap imm)).2]))],[0,1,2,3,4,5,6,7,8,9,10,11,12],by omega,rfl,(mle_cons ble_refl (mle_cons ble_refl (mle_cons ble_refl (mle_cons ble_refl (mle_cons ble_refl (mle_cons ble_refl (mle_cons ble_refl (mle_cons ble_refl (mle_cons ble_refl (mle_cons ble_refl (mle_cons ble_refl (mle_cons ble_refl (mle_cons ble_refl (mle_nil)))))))))))))),rfl,rfl,0+1,by omega,rfl,?_,rfl⟩
     show([.sl 2 4 0 maps.length,.u64 v,.ptr 3 0,.ptr 4 0,.ptr 5 0,.int .i64 sz,.sl 11 1 0 2,.sl 12 1 0 2,.int .i64 (IntKind.i64.wrap (((0:Nat):Int)+1))]:List SV)=_
     rw[i64_all (n:=((0:Nat):Int)+1) (by omega) (by omega)];rfl)
   |(have B:=hB (eq_of_beq (by assumption))
     first
     |exact B.m1 (by assumption)
     |exact B.m2 (by assumption)
     |exact(B.c1 (by assumption) (by assumption)).elim
     |exact(B.c2 (by assumption) (by assumption)).elim
     |exact(B.c3 (by assumption) (by assumption)).elim
     |exact(B.c4 (by assumption) (by assumption)).elim
     |exact(B.c5 (by assumption) (by assumption)).elim
     |exact(B.c6 (by first|exact .inl (by assumption)|exact .inr (by assumption)) (by assumption)).elim
     |exact(B.c7 (by first|exact .inl (by assumption)|exact .inr (by assumption)) (by assumption)).elim
     |exact(B.c8 (by assumption) (by assumption) (by assumption) (by assumption)).elim
     |exact(B.c9 (by assumption) (by assumption) (by assumption) (by assumption) (by assumption)).elim
     |exact(B.c10 (by assumption) (by assumption) (by assumption) (by assumption) (by assumption)).elim)
 . have hB:(A.st f t.fs maps op dst src (IntKind.i64.wrap off) (IntKind.i64.wrap imm)).2=0→A.Bnd t.fs maps (f.R.getD dst.toNat eA.dft) (IntKind.i64.wrap ((f.R.getD dst.toNat eA.dft).of+IntKind.i64.wrap off)) sz v:=fun h=>hsz▸A.store_bnd h
   have hS:(A.st f t.fs maps op dst src (IntKind.i64.wrap off) (IntKind.i64.wrap imm)).2=0→dst≤10:=fun h=>A.store_dst h
   (conv=>whnf)
   (repeat' (first | (refine And.intro (a:=keepP _ _ _) (by first|exact⟨rfl,rfl,rfl,rfl,trivial⟩|exact⟨rfl,rfl,rfl,trivial⟩|exact⟨rfl,rfl,trivial⟩|exact⟨rfl,trivial⟩) ?_;(conv=>whnf)) | (refine step_t (by first|rfl|assumption) ?_;(conv=>whnf)) | (refine step_f (by first|rfl|assumption) ?_;(conv=>whnf)) | (refine step_nt (by assumption) ?_;(conv=>whnf)) | (refine step_nf (by assumption) ?_;(conv=>whnf)) | (refine step_n (fun hb => ?_) (fun hb => ?_)<;>(first|contradiction | (conv=>whnf))) | (refine And.intro (fun hb => ?_) (fun hb => ?_)<;>(first|contradiction | (conv=>whnf))) | (refine And.intro (a:=(_:Bool)=true) ?_ ?_;rotate_left 1;(conv=>whnf)) | (intro hb;(conv=>whnf))))
   all_goals try (
    refine .inr ⟨[],[2,4,5,6,8,15,16,17,18,20,21,22],fun k vals M=>∃ (q:Nat) (a:Int) (y:SV),q≤t.fs.length∧k=t.fs.length-q∧a=IntKind.i64.wrap ((f.R.getD dst.toNat eA.dft).of+IntKind.i64.wrap off)∧((K.upto (fun i => !((t.fs.getD i eF.dft).o==a&&(t.fs.getD i eF.dft).z==sz)) q=true∧y = .ff)∨(K.upto (fun i => !((t.fs.getD i eF.dft).o==a&&(t.fs.getD i eF.dft).z==sz)) q=false∧y = .tt)∨(∃ b:Bool,b = !K.upto (fun i => !((t.fs.getD i eF.dft).o==a&&(t.fs.getD i eF.dft).z==sz)) q∧y = .bool b))∧vals=[.sl 2 4 0 maps.length,.u64 v,.ptr 3 0,.ptr 4 0,.ptr 5 0,.int .i64 sz,.sl 11 1 0 2,.sl 12 1 0 2,.int .i64 ((1:Nat):Int),.int .i64 a,y,.int .i64 (q:Int)]∧M=[.fz 4 t.fs.length (gOf eF t.fs),.fz 3 t.ns.length (gOf eN t.ns),.fz 4 maps.length (gOf eM maps),.mix 37 [.arr 11 12 (gOf eA f.R),.arr 64 14 (gOf eS f.S),.int .i64 f.ids],.cells 41 [.val (.string t.nm),.int .i64 t.cx,.sl 0 4 0 t.fs.length,.sl 1 3 0 t.ns.length,.int .i64 t.lo,.int .i64 t.hi],.cells 45 [.int .u8 op,.int .u8 dst,.int .u8 src,.int .i16 off,.int .i32 imm],.dead,.dead,.dead,.dead,.dead,.own 5 Tryz.prog.types[5].size 2 (fun i=>List.take Tryz.prog.types[5].size (List.drop (i*Tryz.prog.types[5].size) [.int .u8 src,.int .u8 dst])),.own 55 Tryz.prog.types[55].size 2 (fun i=>List.take Tryz.prog.types[55].size (List.drop (i*Tryz.prog.types[55].size) [.int .i64 (A.load f t.fs maps op dst src (IntKind.i64.wrap off)).2,.int .i64 (A.st f t.fs maps op dst src (IntKind.i64.wrap off) (IntKind.i64.wrap imm)).2])),.dead],?_⟩
    conv=>whnf
    refine And.intro ⟨t.fs.length,[.fz 4 t.fs.length (gOf eF t.fs),.fz 3 t.ns.length (gOf eN t.ns),.fz 4 maps.length (gOf eM maps),.mix 37 [.arr 11 12 (gOf eA f.R),.arr 64 14 (gOf eS f.S),.int .i64 f.ids],.cells 41 [.val (.string t.nm),.int .i64 t.cx,.sl 0 4 0 t.fs.length,.sl 1 3 0 t.ns.length,.int .i64 t.lo,.int .i64 t.hi],.cells 45 [.int .u8 op,.int .u8 dst,.int .u8 src,.int .i16 off,.int .i32 imm],.dead,.dead,.dead,.dead,.dead,.own 5 Tryz.prog.types[5].size 2 (fun i=>List.take Tryz.prog.types[5].size (List.drop (i*Tryz.prog.types[5].size) [.int .u8 src,.int .u8 dst])),.own 55 Tryz.prog.types[55].size 2 (fun i=>List.take Tryz.prog.types[55].size (List.drop (i*Tryz.prog.types[55].size) [.int .i64 (A.load f t.fs maps op dst src (IntKind.i64.wrap off)).2,.int .i64 (A.st f t.fs maps op dst src (IntKind.i64.wrap off) (IntKind.i64.wrap imm)).2])),.dead],(mle_cons ble_refl (mle_cons ble_refl (mle_cons ble_refl (mle_cons ble_refl (mle_cons ble_refl (mle_cons ble_refl (mle_cons ble_refl (mle_cons ble_refl (mle_cons ble_refl (mle_cons ble_refl (mle_cons ble_refl (mle_cons ble_refl (mle_cons ble_refl (mle_cons ble_dead (mle_nil))))))))))))))),rfl,rfl,0,IntKind.i64.wrap ((f.R.getD dst.toNat eA.dft).of+IntKind.i64.wrap off),.ff,Nat.zero_le _,rfl,rfl,.inl ⟨K.upto_0,rfl⟩,rfl,rfl⟩ ?_
    rintro k vals M1 ⟨q,a,y,hq,rfl,ha,⟨hu,rfl⟩ | ⟨hu,rfl⟩ | ⟨b,hu,rfl⟩,rfl,rfl⟩
    all_goals ((conv=>whnf)
               (repeat' (first | (refine And.intro (a:=keepP _ _ _) (by first|exact⟨rfl,rfl,rfl,rfl,trivial⟩|exact⟨rfl,rfl,rfl,trivial⟩|exact⟨rfl,rfl,trivial⟩|exact⟨rfl,trivial⟩) ?_;(conv=>whnf)) | (refine step_t (by first|rfl|assumption) ?_;(conv=>whnf)) | (refine step_f (by first|rfl|assumption) ?_;(conv=>whnf)) | (refine step_nt (by assumption) ?_;(conv=>whnf)) | (refine step_nf (by assumption) ?_;(conv=>whnf)) | (refine step_n (fun hb => ?_) (fun hb => ?_)<;>(first|contradiction | (conv=>whnf))) | (refine And.intro (fun hb => ?_) (fun hb => ?_)<;>(first|contradiction | (conv=>whnf))) | (refine And.intro (a:=(_:Bool)=true) ?_ ?_;rotate_left 1;(conv=>whnf)) | (intro hb;(conv=>whnf)))))
    all_goals (try (first
        |exact decide_eq_true (by
          have h9:decide (((q:Nat):Int) < (t.fs.length:Int))=true:=(by assumption)
          have h8:=of_decide_eq_true h9
          omega)
        |(rw[Bool.and_eq_true];exact⟨decide_eq_true (by omega),decide_eq_true (by
          have h9:decide (((q:Nat):Int) < (t.fs.length:Int))=true:=(by assumption)
          have h8:=of_decide_eq_true h9
          omega)⟩)
        |(exfalso
          have ht:K.upto (fun i => !((t.fs.getD i eF.dft).o==a&&(t.fs.getD i eF.dft).z==sz)) q=true:=(by first|exact hu | (revert hu;rw[(by assumption:b=false)];cases K.upto (fun i => !((t.fs.getD i eF.dft).o==a&&(t.fs.getD i eF.dft).z==sz)) q<;>simp))
          have h9:decide (((q:Nat):Int) < (t.fs.length:Int))=false:=(by assumption)
          have h8:=of_decide_eq_false h9
          obtain⟨j,hj,e1,e2⟩:=(hB (eq_of_beq (by assumption))).ctx (eq_of_beq (by assumption))
          have h7:(!((t.fs.getD j eF.dft).o==a&&(t.fs.getD j eF.dft).z==sz))=true:=K.upto_at ht (j:=j) (by omega)
          rw[e1,e2,ha] at h7
          simp at h7;done)
        |(have hfl:=Ty.atMost_fs hw
          have hlt:q<t.fs.length:=(by
           have h9:decide (((q:Nat):Int) < (t.fs.length:Int))=true:=(by assumption)
           have h8:=of_decide_eq_true h9
           omega)
          have hf:K.upto (fun i => !((t.fs.getD i eF.dft).o==a&&(t.fs.getD i eF.dft).z==sz)) q=false:=(by first|exact hu | (revert hu;rw[(by assumption:b=true)];cases K.upto (fun i => !((t.fs.getD i eF.dft).o==a&&(t.fs.getD i eF.dft).z==sz)) q<;>simp))
          refine⟨t.fs.length - (q+1),[.fz 4 t.fs.length (gOf eF t.fs),.fz 3 t.ns.length (gOf eN t.ns),.fz 4 maps.length (gOf eM maps),.mix 37 [.arr 11 12 (gOf eA f.R),.arr 64 14 (gOf eS f.S),.int .i64 f.ids],.cells 41 [.val (.string t.nm),.int .i64 t.cx,.sl 0 4 0 t.fs.length,.sl 1 3 0 t.ns.length,.int .i64 t.lo,.int .i64 t.hi],.cells 45 [.int .u8 op,.int .u8 dst,.int .u8 src,.int .i16 off,.int .i32 imm],.dead,.dead,.dead,.dead,.dead,.own 5 Tryz.prog.types[5].size 2 (fun i=>List.take Tryz.prog.types[5].size (List.drop (i*Tryz.prog.types[5].size) [.int .u8 src,.int .u8 dst])),.own 55 Tryz.prog.types[55].size 2 (fun i=>List.take Tryz.prog.types[55].size (List.drop (i*Tryz.prog.types[55].size) [.int .i64 (A.load f t.fs maps op dst src (IntKind.i64.wrap off)).2,.int .i64 (A.st f t.fs maps op dst src (IntKind.i64.wrap off) (IntKind.i64.wrap imm)).2])),.dead],[0,1,2,3,4,5,6,7,8,9,10,11,12,13],by omega,rfl,(mle_cons ble_refl (mle_cons ble_refl (mle_cons ble_refl (mle_cons ble_refl (mle_cons ble_refl (mle_cons ble_refl (mle_cons ble_refl (mle_cons ble_refl (mle_cons ble_refl (mle_cons ble_refl (mle_cons ble_refl (mle_cons ble_refl (mle_cons ble_refl (mle_cons ble_dead (mle_nil))))))))))))))),rfl,rfl,q+1,a,.tt,by omega,rfl,ha,.inr (.inl ⟨by rw[K.upto_s,hf];rfl,rfl⟩),?_,rfl⟩
          show([.sl 2 4 0 maps.length,.u64 v,.ptr 3 0,.ptr 4 0,.ptr 5 0,.int .i64 sz,.sl 11 1 0 2,.sl 12 1 0 2,.int .i64 ((1:Nat):Int),.int .i64 a,.tt,.int .i64 (IntKind.i64.wrap (((q:Nat):Int)+1))]:List SV)=_
          rw[i64_all (n:=((q:Nat):Int)+1) (by omega) (by omega)];rfl)
        |(have hfl:=Ty.atMost_fs hw
          have hlt:q<t.fs.length:=(by
           have h9:decide (((q:Nat):Int) < (t.fs.length:Int))=true:=(by assumption)
           have h8:=of_decide_eq_true h9
           omega)
          have ht:K.upto (fun i => !((t.fs.getD i eF.dft).o==a&&(t.fs.getD i eF.dft).z==sz)) q=true:=(by first|exact hu | (revert hu;rw[(by assumption:b=false)];cases K.upto (fun i => !((t.fs.getD i eF.dft).o==a&&(t.fs.getD i eF.dft).z==sz)) q<;>simp))
          have ho:((t.fs.getD (0+(((q:Nat):Int)).toNat) eF.dft).o==a)=true:=(by assumption)
          refine⟨t.fs.length - (q+1),[.fz 4 t.fs.length (gOf eF t.fs),.fz 3 t.ns.length (gOf eN t.ns),.fz 4 maps.length (gOf eM maps),.mix 37 [.arr 11 12 (gOf eA f.R),.arr 64 14 (gOf eS f.S),.int .i64 f.ids],.cells 41 [.val (.string t.nm),.int .i64 t.cx,.sl 0 4 0 t.fs.length,.sl 1 3 0 t.ns.length,.int .i64 t.lo,.int .i64 t.hi],.cells 45 [.int .u8 op,.int .u8 dst,.int .u8 src,.int .i16 off,.int .i32 imm],.dead,.dead,.dead,.dead,.dead,.own 5 Tryz.prog.types[5].size 2 (fun i=>List.take Tryz.prog.types[5].size (List.drop (i*Tryz.prog.types[5].size) [.int .u8 src,.int .u8 dst])),.own 55 Tryz.prog.types[55].size 2 (fun i=>List.take Tryz.prog.types[55].size (List.drop (i*Tryz.prog.types[55].size) [.int .i64 (A.load f t.fs maps op dst src (IntKind.i64.wrap off)).2,.int .i64 (A.st f t.fs maps op dst src (IntKind.i64.wrap off) (IntKind.i64.wrap imm)).2])),.dead],[0,1,2,3,4,5,6,7,8,9,10,11,12,13],by omega,rfl,(mle_cons ble_refl (mle_cons ble_refl (mle_cons ble_refl (mle_cons ble_refl (mle_cons ble_refl (mle_cons ble_refl (mle_cons ble_refl (mle_cons ble_refl (mle_cons ble_refl (mle_cons ble_refl (mle_cons ble_refl (mle_cons ble_refl (mle_cons ble_refl (mle_cons ble_dead (mle_nil))))))))))))))),rfl,rfl,q+1,a,.bool ((t.fs.getD (0+(((q:Nat):Int)).toNat) eF.dft).z==sz),by omega,rfl,ha,.inr (.inr ⟨_,by rw[K.upto_s,ht,Int.toNat_natCast,Nat.zero_add];rw[Int.toNat_natCast,Nat.zero_add] at ho;rw[ho];simp,rfl⟩),?_,rfl⟩
          show([.sl 2 4 0 maps.length,.u64 v,.ptr 3 0,.ptr 4 0,.ptr 5 0,.int .i64 sz,.sl 11 1 0 2,.sl 12 1 0 2,.int .i64 ((1:Nat):Int),.int .i64 a,.bool ((t.fs.getD (0+(((q:Nat):Int)).toNat) eF.dft).z==sz),.int .i64 (IntKind.i64.wrap (((q:Nat):Int)+1))]:List SV)=_
          rw[i64_all (n:=((q:Nat):Int)+1) (by omega) (by omega)];rfl)
        |(have hfl:=Ty.atMost_fs hw
          have hlt:q<t.fs.length:=(by
           have h9:decide (((q:Nat):Int) < (t.fs.length:Int))=true:=(by assumption)
           have h8:=of_decide_eq_true h9
           omega)
          have ht:K.upto (fun i => !((t.fs.getD i eF.dft).o==a&&(t.fs.getD i eF.dft).z==sz)) q=true:=(by first|exact hu | (revert hu;rw[(by assumption:b=false)];cases K.upto (fun i => !((t.fs.getD i eF.dft).o==a&&(t.fs.getD i eF.dft).z==sz)) q<;>simp))
          have ho:((t.fs.getD (0+(((q:Nat):Int)).toNat) eF.dft).o==a)=false:=(by assumption)
          refine⟨t.fs.length - (q+1),[.fz 4 t.fs.length (gOf eF t.fs),.fz 3 t.ns.length (gOf eN t.ns),.fz 4 maps.length (gOf eM maps),.mix 37 [.arr 11 12 (gOf eA f.R),.arr 64 14 (gOf eS f.S),.int .i64 f.ids],.cells 41 [.val (.string t.nm),.int .i64 t.cx,.sl 0 4 0 t.fs.length,.sl 1 3 0 t.ns.length,.int .i64 t.lo,.int .i64 t.hi],.cells 45 [.int .u8 op,.int .u8 dst,.int .u8 src,.int .i16 off,.int .i32 imm],.dead,.dead,.dead,.dead,.dead,.own 5 Tryz.prog.types[5].size 2 (fun i=>List.take Tryz.prog.types[5].size (List.drop (i*Tryz.prog.types[5].size) [.int .u8 src,.int .u8 dst])),.own 55 Tryz.prog.types[55].size 2 (fun i=>List.take Tryz.prog.types[55].size (List.drop (i*Tryz.prog.types[55].size) [.int .i64 (A.load f t.fs maps op dst src (IntKind.i64.wrap off)).2,.int .i64 (A.st f t.fs maps op dst src (IntKind.i64.wrap off) (IntKind.i64.wrap imm)).2])),.dead],[0,1,2,3,4,5,6,7,8,9,10,11,12,13],by omega,rfl,(mle_cons ble_refl (mle_cons ble_refl (mle_cons ble_refl (mle_cons ble_refl (mle_cons ble_refl (mle_cons ble_refl (mle_cons ble_refl (mle_cons ble_refl (mle_cons ble_refl (mle_cons ble_refl (mle_cons ble_refl (mle_cons ble_refl (mle_cons ble_refl (mle_cons ble_dead (mle_nil))))))))))))))),rfl,rfl,q+1,a,.ff,by omega,rfl,ha,.inl ⟨by rw[K.upto_s,ht];rw[Int.toNat_natCast,Nat.zero_add] at ho;rw[ho];rfl,rfl⟩,?_,rfl⟩
          show([.sl 2 4 0 maps.length,.u64 v,.ptr 3 0,.ptr 4 0,.ptr 5 0,.int .i64 sz,.sl 11 1 0 2,.sl 12 1 0 2,.int .i64 ((1:Nat):Int),.int .i64 a,.ff,.int .i64 (IntKind.i64.wrap (((q:Nat):Int)+1))]:List SV)=_
          rw[i64_all (n:=((q:Nat):Int)+1) (by omega) (by omega)];rfl))))
   all_goals first
   |rfl
   |exact decide_eq_true (by have:=hS (eq_of_beq (by assumption));omega)
   |(rw[Bool.and_eq_true];exact⟨decide_eq_true (by omega),decide_eq_true (by have:=hS (eq_of_beq (by assumption));omega)⟩)
   |(refine⟨2 - (1+1),[.fz 4 t.fs.length (gOf eF t.fs),.fz 3 t.ns.length (gOf eN t.ns),.fz 4 maps.length (gOf eM maps),.mix 37 [.arr 11 12 (gOf eA f.R),.arr 64 14 (gOf eS f.S),.int .i64 f.ids],.cells 41 [.val (.string t.nm),.int .i64 t.cx,.sl 0 4 0 t.fs.length,.sl 1 3 0 t.ns.length,.int .i64 t.lo,.int .i64 t.hi],.cells 45 [.int .u8 op,.int .u8 dst,.int .u8 src,.int .i16 off,.int .i32 imm],.dead,.dead,.dead,.dead,.dead,.own 5 Tryz.prog.types[5].size 2 (fun i=>List.take Tryz.prog.types[5].size (List.drop (i*Tryz.prog.types[5].size) [.int .u8 src,.int .u8 dst])),.own 55 Tryz.prog.types[55].size 2 (fun i=>List.take Tryz.prog.types[55].size (List.drop (i*Tryz.prog.types[55].size) [.int .i64 (A.load f t.fs maps op dst src (IntKind.i64.wrap off)).2,.int .i64 (A.st f t.fs maps op dst src (IntKind.i64.wrap off) (IntKind.i64.wrap imm)).2]))],[0,1,2,3,4,5,6,7,8,9,10,11,12],by omega,rfl,(mle_cons ble_refl (mle_cons ble_refl (mle_cons ble_refl (mle_cons ble_refl (mle_cons ble_refl (mle_cons ble_refl (mle_cons ble_refl (mle_cons ble_refl (mle_cons ble_refl (mle_cons ble_refl (mle_cons ble_refl (mle_cons ble_refl (mle_cons ble_refl (mle_nil)))))))))))))),rfl,rfl,1+1,by omega,rfl,?_,rfl⟩
     show([.sl 2 4 0 maps.length,.u64 v,.ptr 3 0,.ptr 4 0,.ptr 5 0,.int .i64 sz,.sl 11 1 0 2,.sl 12 1 0 2,.int .i64 (IntKind.i64.wrap (((1:Nat):Int)+1))]:List SV)=_
     rw[i64_all (n:=((1:Nat):Int)+1) (by omega) (by omega)];rfl)
   |(have B:=hB (eq_of_beq (by assumption))
     first
     |exact B.m1 (by assumption)
     |exact B.m2 (by assumption)
     |exact(B.c1 (by assumption) (by assumption)).elim
     |exact(B.c2 (by assumption) (by assumption)).elim
     |exact(B.c3 (by assumption) (by assumption)).elim
     |exact(B.c4 (by assumption) (by assumption)).elim
     |exact(B.c5 (by assumption) (by assumption)).elim
     |exact(B.c6 (by first|exact .inl (by assumption)|exact .inr (by assumption)) (by assumption)).elim
     |exact(B.c7 (by first|exact .inl (by assumption)|exact .inr (by assumption)) (by assumption)).elim
     |exact(B.c8 (by assumption) (by assumption) (by assumption) (by assumption)).elim
     |exact(B.c9 (by assumption) (by assumption) (by assumption) (by assumption) (by assumption)).elim
     |exact(B.c10 (by assumption) (by assumption) (by assumption) (by assumption) (by assumption)).elim)
 . (conv=>whnf)
   (repeat' (first | (refine And.intro (a:=keepP _ _ _) (by first|exact⟨rfl,rfl,rfl,rfl,trivial⟩|exact⟨rfl,rfl,rfl,trivial⟩|exact⟨rfl,rfl,trivial⟩|exact⟨rfl,trivial⟩) ?_;(conv=>whnf)) | (refine step_t (by first|rfl|assumption) ?_;(conv=>whnf)) | (refine step_f (by first|rfl|assumption) ?_;(conv=>whnf)) | (refine step_nt (by assumption) ?_;(conv=>whnf)) | (refine step_nf (by assumption) ?_;(conv=>whnf)) | (refine step_n (fun hb => ?_) (fun hb => ?_)<;>(first|contradiction | (conv=>whnf))) | (refine And.intro (fun hb => ?_) (fun hb => ?_)<;>(first|contradiction | (conv=>whnf))) | (refine And.intro (a:=(_:Bool)=true) ?_ ?_;rotate_left 1;(conv=>whnf)) | (intro hb;(conv=>whnf))))
   all_goals first
   |rfl
   |trivial
end Go.Proofs.YtfjemlegodhfnaaGreat
