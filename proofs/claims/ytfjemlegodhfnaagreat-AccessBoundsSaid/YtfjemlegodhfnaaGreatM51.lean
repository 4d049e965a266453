import Derived.Test.YtfjemlegodhfnaaGreatM40
set_option linter.all false
namespace Go.Proofs.YtfjemlegodhfnaaGreat
open Go.RowKit Go.Sx
set_option maxRecDepth 100000
set_option maxHeartbeats 4000000
namespace A
structure Bnd (fs:List Fd)(maps:List Mp)(p:Ab)(at_ sz:Int)(v:BitVec 64):Prop where
 stack:p.k=2 → -512≤at_∧IntKind.i64.wrap (at_+sz)≤0
 ctx:p.k=3→∃ j,j<fs.length∧(fs.getD j eF.dft).o=at_∧(fs.getD j eF.dft).z=sz
 packet:p.k=4→0≤at_∧IntKind.i64.wrap (at_+sz)≤p.rm
 value:p.k=7→0≤p.mp∧p.mp<maps.length
 memory:p.k=7∨p.k=8→p.nu=false∧0≤IntKind.i64.wrap (at_+sv p.n.s.lo)∧(p.n.s.lo≤v→v≤p.n.s.hi→IntKind.i64.wrap (IntKind.i64.wrap (at_+sv v)+sz)≤(if p.k==7 then (maps.getD p.mp.toNat eM.dft).val else p.rm))
 kind:p.k=2∨p.k=3∨p.k=4∨p.k=7∨p.k=8
theorem size_in (op:Int):size op=4∨size op=2∨size op=1∨size op=8∨size op=0:=by
 unfold size
 split
 . exact .inl rfl
 . split
   . exact .inr (.inl rfl)
   . split
     . exact .inr (.inr (.inl rfl))
     . split
       . exact .inr (.inr (.inr (.inl rfl)))
       . exact .inr (.inr (.inr (.inr rfl)))
theorem field_in {fs:List Fd}{o z:Int}(h:(K.field fs o z).isSome=true):∃ j,j<fs.length∧(fs.getD j eF.dft).o=o∧(fs.getD j eF.dft).z=z:=by
 obtain⟨d,hd⟩:=Option.isSome_iff_exists.1 h
 unfold K.field at hd
 have h1:=List.find?_some hd
 have h2:=List.mem_of_find?_eq_some hd
 obtain⟨j,hj,rfl⟩:=List.getElem_of_mem h2
 have e:fs.getD j eF.dft=fs[j]:=by simp[List.getD_eq_getElem?_getD,hj]
 simp only[Bool.and_eq_true,beq_iff_eq] at h1
 exact⟨j,hj,by rw[e];exact h1.1,by rw[e];exact h1.2⟩
theorem right_lohi {x:Sc}(h:C.right x=true):x.s.lo≤x.s.hi:=by
 simp only[C.right,Bool.and_eq_true] at h
 have h:=h.1
 unfold C.of at h
 split at h
 . rename_i hc
   rw[Bool.and_eq_true] at hc
   exact(S.good_iff.1 hc.2).1
 . cases h
theorem bnd_stack {fs:List Fd}{maps:List Mp}{p:Ab}{at_ sz:Int}{v:BitVec 64}(hk:p.k=2)(h1 : -512≤at_)(h2:at_+sz≤0)(h3:1≤sz)(h4:sz≤8):Bnd fs maps p at_ sz v:=by
 refine⟨fun _=>⟨h1,?_⟩,fun h=>by omega,fun h=>by omega,fun h=>by omega,fun h=>by omega,.inl hk⟩
 rw[V.wr_id (by omega) (by omega)];exact h2
theorem bnd_ctx {fs:List Fd}{maps:List Mp}{p:Ab}{at_ sz:Int}{v:BitVec 64}(hk:p.k=3)(h:(K.field fs at_ sz).isSome=true):Bnd fs maps p at_ sz v:=
 ⟨fun h=>by omega,fun _=>field_in h,fun h=>by omega,fun h=>by omega,fun h=>by omega,.inr (.inl hk)⟩
theorem bnd_mem {fs:List Fd}{maps:List Mp}{p:Ab}{off sz:Int}{v:BitVec 64}(ht:V.touch p off sz (specv maps p.mp)=0):Bnd fs maps p (IntKind.i64.wrap (p.of+off)) sz v:=by
 have T:=touch_mem (v:=v) ht
 obtain⟨hk,hnu,t4,t78⟩:=T
 have hval:p.k=7→0≤p.mp∧p.mp<maps.length:=by
  intro h7
  have T:=touch_mem (v:=p.n.s.lo) ht
  have q:=(T.2.2.2 (.inl h7))
  unfold V.touch at ht
  split at ht
  . rename_i h1
    simp only[Bool.and_eq_true,decide_eq_true_eq] at h1
    obtain⟨hr,hn,hz⟩:=h1
    have hn:=V.near_iff.1 hn
    have R:=V.right_7 hr h7
    have hp:=V.near_iff.1 R.1
    have hm:=R.2.2.1
    simp only[V.mapped,Bool.and_eq_true,decide_eq_true_eq] at hm
    refine⟨hm.1,?_⟩
    refine Decidable.byContradiction fun hl => ?_
    have ha:=R.2.1
    simp only[V.added,Bool.and_eq_true,decide_eq_true_eq,V.numbered] at ha
    have hlo:p.n.s.lo≤p.n.s.hi:=right_lohi ha.1
    have g:=q.2 (BitVec.le_refl _) hlo
    rw[if_pos (by simp[h7]),specv_2 (decide_eq_true (by omega))] at g
    have hi:p.n.s.hi.toNat≤1048576:=V.le_n ha.2.1
    have g2:=V.le_n hlo
    have e:=V.small (n:=p.n.s.lo) (by omega)
    have q1:=q.1
    rw[V.wr_id (n:=p.of+off) (by omega) (by omega)] at g q1
    rw[V.wr_id (n:=p.of+off+sv p.n.s.lo) (by omega) (by omega)] at g q1
    rw[V.wr_id (n:=p.of+off+sv p.n.s.lo+sz) (by omega) (by omega)] at g
    omega
  . cases ht
 refine⟨fun h=>by omega,fun h=>by omega,t4,hval,fun h => ?_,.inr (.inr hk)⟩
 obtain⟨q1,q2⟩:=t78 h
 refine⟨hnu,q1,fun a b => ?_⟩
 have:=q2 a b
 by_cases h7:p.k=7
 . have g:=hval h7
   rw[if_pos (by simp[h7])] at this ⊢
   rw[specv_3 (decide_eq_false (by omega)) (decide_eq_false (by omega))] at this
   exact this
 . rw[if_neg (by simp[h7])] at this ⊢
   exact this
theorem lval_bnd {f:Fr}{fs:List Fd}{maps:List Mp}{a:Ab}{op off:Int}{v:BitVec 64}(h:(lval f fs maps a op off).2=0):Bnd fs maps a (IntKind.i64.wrap (a.of+off)) (size op) v:=by
 unfold lval at h
 split at h
 . rename_i hk
   unfold F.load at h
   split at h
   . cases h
   split at h
   . cases h
   rename_i hw
   split at h
   . cases h
   rename_i hi
   have w:=F.word_in (by simpa using hw)
   have q:=F.within_in (by simpa using hi) w.1
   exact bnd_stack hk q.2.1 q.2.2 w.1 w.2
 split at h
 . rename_i hk
   refine bnd_ctx hk ?_
   unfold cval at h
   split at h
   . cases h
   rename_i hs
   exact eq_true_of_ne_false hs
 split at h
 . exact bnd_mem h
 split at h
 . cases h
 . cases h
theorem load_bnd {f:Fr}{fs:List Fd}{maps:List Mp}{op dst src off:Int}{v:BitVec 64}(h:(load f fs maps op dst src off).2=0):Bnd fs maps (f.R.getD src.toNat eA.dft) (IntKind.i64.wrap ((f.R.getD src.toNat eA.dft).of+off)) (size op) v:=by
 unfold load at h
 split at h
 . split at h
   . rename_i hl;exact lval_bnd hl
   . rename_i hl;exact absurd h hl
 . cases h
theorem sval_bnd {f:Fr}{fs:List Fd}{maps:List Mp}{a w:Ab}{op off:Int}{v:BitVec 64}(h:sval f fs maps a w op off=0):Bnd fs maps a (IntKind.i64.wrap (a.of+off)) (size op) v:=by
 unfold sval at h
 split at h
 . rename_i hk
   unfold F.store at h
   split at h
   . cases h
   split at h
   . cases h
   split at h
   . cases h
   split at h
   . cases h
   rename_i hw
   split at h
   . cases h
   rename_i hi
   have w:=F.word_in (by simpa using hw)
   have q:=F.within_in (by simpa using hi) w.1
   exact bnd_stack hk q.2.1 q.2.2 w.1 w.2
 split at h
 . rename_i hk
   refine bnd_ctx hk ?_
   unfold tval at h
   split at h
   . split at h
     . cases h
     . rename_i hs
       exact eq_true_of_ne_false hs
   . cases h
 split at h
 . unfold mval at h
   split at h
   . exact bnd_mem h
   . cases h
 . cases h
theorem store_bnd {f:Fr}{fs:List Fd}{maps:List Mp}{op dst src off imm:Int}{v:BitVec 64}(h:store f fs maps op dst src off imm=0):Bnd fs maps (f.R.getD dst.toNat eA.dft) (IntKind.i64.wrap ((f.R.getD dst.toNat eA.dft).of+off)) (size op) v:=by
 unfold store at h
 split at h
 . split at h
   . cases h
   . exact sval_bnd h
 . cases h
theorem load_src {f:Fr}{fs:List Fd}{maps:List Mp}{op dst src off:Int}(h:(load f fs maps op dst src off).2=0):src≤10:=by
 unfold load at h
 split at h
 . rename_i hk
   unfold okL at hk
   simp only[Bool.and_eq_true,decide_eq_true_eq] at hk
   exact hk.1.2.2
 . cases h
theorem store_dst {f:Fr}{fs:List Fd}{maps:List Mp}{op dst src off imm:Int}(h:store f fs maps op dst src off imm=0):dst≤10:=by
 unfold store at h
 split at h
 . rename_i hk
   unfold okS at hk
   simp only[Bool.and_eq_true,decide_eq_true_eq] at hk
   exact hk.1.2.1
 . cases h
namespace Bnd
variable {fs:List Fd}{maps:List Mp}{p:Ab}{at_ sz:Int}{v:BitVec 64}
theorem c1 (B:Bnd fs maps p at_ sz v)(k:(p.k==2)=true)(h:decide (at_ < -512)=true):False:=by
 have:=(B.stack (eq_of_beq k)).1;have:=of_decide_eq_true h;omega
theorem c2 (B:Bnd fs maps p at_ sz v)(k:(p.k==2)=true)(h:decide (0<IntKind.i64.wrap (at_+sz))=true):False:=by
 have:=(B.stack (eq_of_beq k)).2;have:=of_decide_eq_true h;omega
theorem c3 (B:Bnd fs maps p at_ sz v)(k:(p.k==4)=true)(h:decide (at_<0)=true):False:=by
 have:=(B.packet (eq_of_beq k)).1;have:=of_decide_eq_true h;omega
theorem c4 (B:Bnd fs maps p at_ sz v)(k:(p.k==4)=true)(h:decide (p.rm<IntKind.i64.wrap (at_+sz))=true):False:=by
 have:=(B.packet (eq_of_beq k)).2;have:=of_decide_eq_true h;omega
theorem c5 (B:Bnd fs maps p at_ sz v)(k:(p.k==7)=true)(h:decide ((maps.length:Int)≤p.mp)=true):False:=by
 have:=(B.value (eq_of_beq k)).2;have:=of_decide_eq_true h;omega
theorem k78 (k:(p.k==7)=true∨(p.k==8)=true):p.k=7∨p.k=8:=k.imp eq_of_beq eq_of_beq
theorem c6 (B:Bnd fs maps p at_ sz v)(k:(p.k==7)=true∨(p.k==8)=true)(h:p.nu=true):False:=by
 have:=(B.memory (k78 k)).1;rw[h] at this;cases this
theorem c7 (B:Bnd fs maps p at_ sz v)(k:(p.k==7)=true∨(p.k==8)=true)(h:decide (IntKind.i64.wrap (at_+sv p.n.s.lo)<0)=true):False:=by
 have:=(B.memory (k78 k)).2.1;have:=of_decide_eq_true h;omega
theorem c8 (B:Bnd fs maps p at_ sz v)(k:(p.k==7)=true)(h1:decide (p.n.s.lo≤v)=true)(h2:decide (v≤p.n.s.hi)=true)(h:decide ((maps.getD (0+p.mp.toNat) eM.dft).val<IntKind.i64.wrap (IntKind.i64.wrap (at_+sv v)+sz))=true):False:=by
 have:=(B.memory (k78 (.inl k))).2.2 (of_decide_eq_true h1) (of_decide_eq_true h2)
 have h:=of_decide_eq_true h
 rw[if_pos k] at this
 rw[Nat.zero_add] at h
 omega
theorem c9 (B:Bnd fs maps p at_ sz v)(k7:(p.k==7)=false)(k:(p.k==8)=true)(h1:decide (p.n.s.lo≤v)=true)(h2:decide (v≤p.n.s.hi)=true)(h:decide (p.rm<IntKind.i64.wrap (IntKind.i64.wrap (at_+sv v)+sz))=true):False:=by
 have:=(B.memory (k78 (.inr k))).2.2 (of_decide_eq_true h1) (of_decide_eq_true h2)
 have h:=of_decide_eq_true h
 rw[if_neg (by rw[k7];exact Bool.false_ne_true)] at this
 omega
theorem c10 (B:Bnd fs maps p at_ sz v)(k2:(p.k==2)=false)(k3:(p.k==3)=false)(k7:(p.k==7)=false)(k8:(p.k==8)=false)(k4:(p.k==4)=false):False:=by
 simp only[beq_eq_false_iff_ne,ne_eq] at k2 k3 k4 k7 k8
 rcases B.kind with h|h|h|h|h
 . exact k2 h
 . exact k3 h
 . exact k4 h
 . exact k7 h
 . exact k8 h
theorem m1 (B:Bnd fs maps p at_ sz v)(k:(p.k==7)=true):decide (0+p.mp.toNat<maps.length)=true:=by
 have:=B.value (eq_of_beq k);exact decide_eq_true (by omega)
theorem m2 (B:Bnd fs maps p at_ sz v)(k:(p.k==7)=true):(decide (0≤p.mp)&&decide (p.mp.toNat<maps.length))=true:=by
 have:=B.value (eq_of_beq k);rw[Bool.and_eq_true];exact⟨decide_eq_true (by omega),decide_eq_true (by omega)⟩
end Bnd
end A
end Go.Proofs.YtfjemlegodhfnaaGreat
