import Derived.Test.YtfgkhenhlpoheaaGreatM12
set_option linter.all false
namespace Go.Proofs.YtfgkhenhlpoheaaGreat
open Go.RowKit Go.Sx
set_option maxRecDepth 100000
set_option maxHeartbeats 4000000
theorem eqv_ff (y:Sc):eqv (.tup [scv y,.ff]) (.tup [scv y,.bool false]):=⟨⟨rfl,rfl,rfl,rfl,⟨rfl,rfl⟩,⟨rfl,rfl⟩,trivial⟩,rfl,trivial⟩
theorem eqv_tt (y:Sc):eqv (.tup [scv y,.tt]) (.tup [scv y,.bool true]):=⟨⟨rfl,rfl,rfl,rfl,⟨rfl,rfl⟩,⟨rfl,rfl⟩,trivial⟩,rfl,trivial⟩
theorem C.bt {a b:BitVec 64}(h:(a != b)=false):(a==b)=true:=by revert h;unfold bne;cases (a==b)<;>simp
theorem C.bf {a b:BitVec 64}(h:(a != b)=true):(a==b)=false:=by revert h;unfold bne;cases (a==b)<;>simp
theorem C.ct {a b:Bool}(h:(a != b)=false):(a==b)=true:=by revert h;cases a<;>cases b<;>simp
theorem C.cf {a b:Bool}(h:(a != b)=true):(a==b)=false:=by revert h;cases a<;>cases b<;>simp
theorem rtog_run (av am alo ahi:BitVec 64)(asl ash:Int)(hi:R.inS ⟨alo,ahi,asl,ash⟩=true):run Tryz.prog ⟨[(156,k_rRight),(157,k_srRight),(158,k_rMeet),(159,k_rRange)],eqs,[],[],[],mixs,meqs,[]⟩ 10000 [(8,11,[0,0,2,0,8,30,63,127,255,255,0,1535,4095])] 0 (bodyOf Tryz.f112) (initF Tryz.f112 [.agg [.u64 av,.u64 am],.agg [.u64 alo,.u64 ahi,.int .i64 asl,.int .i64 ash]]) [] (retK Tryz.prog Tryz.f112 fun x _=>eqv x (.tup [scv (C.of ⟨av,am⟩ ⟨alo,ahi,asl,ash⟩).1,.bool (C.of ⟨av,am⟩ ⟨alo,ahi,asl,ash⟩).2])):=by
 (conv=>whnf)
 (repeat' (first | (refine And.intro (fun hb => ?_) (fun hb => ?_)<;>(first|contradiction | (conv=>whnf))) | (refine And.intro (a:=(_:Bool)=true) ?_ ?_;rotate_left 1;(conv=>whnf))))
 all_goals try (rw[C.of_no1 (C.nt (by assumption))];exact eqv_ff ⟨⟨_,_⟩,⟨_,_,_,_⟩⟩)
 all_goals try (rw[C.of_no2 (C.nt (by assumption))];exact eqv_ff ⟨⟨_,_⟩,⟨_,_,_,_⟩⟩)
 have h1:T.right ⟨av,am⟩=true:=C.nf (by assumption)
 have h2:S.good ⟨alo,ahi,asl,ash⟩=true:=C.nf (by assumption)
 have g0:C.Good ⟨⟨av,am⟩,⟨alo,ahi,asl,ash⟩⟩:=⟨h1,(S.good_iff.1 h2).1,(S.good_iff.1 h2).2,hi⟩
 refine .inr ⟨[],[2,3,4],fun k vals M=>∃ x:Sc,C.Good x∧C.tog x=C.tog ⟨⟨av,am⟩,⟨alo,ahi,asl,ash⟩⟩∧k=C.mu x∧vals=[.ptr 0 0,.ptr 1 0,.ptr 2 0]∧M=[.cells 25 [.u64 x.t.v,.u64 x.t.m],.cells 27 [.u64 x.s.lo,.u64 x.s.hi,.int .i64 x.s.sl,.int .i64 x.s.sh],.cells 29 [.u64 (BitVec.ofInt 64 0),.u64 (BitVec.ofInt 64 0),.u64 (BitVec.ofInt 64 0),.u64 (BitVec.ofInt 64 0),.int .i64 0,.int .i64 0]],?_⟩
 conv=>whnf
 refine And.intro ⟨C.mu ⟨⟨av,am⟩,⟨alo,ahi,asl,ash⟩⟩,_,(mle_cons ble_refl (mle_cons ble_refl (mle_cons ble_refl mle_nil))),rfl,rfl,⟨⟨av,am⟩,⟨alo,ahi,asl,ash⟩⟩,g0,rfl,rfl,rfl,rfl⟩ ?_
 rintro k vals M1 ⟨x,gx,ht,rfl,rfl,rfl⟩
 (conv=>whnf)
 (repeat' (first | (refine And.intro (fun hb => ?_) (fun hb => ?_)<;>(first|contradiction | (conv=>whnf))) | (refine And.intro (a:=(_:Bool)=true) ?_ ?_;rotate_left 1;(conv=>whnf))))
 all_goals try (first|rfl|trivial | (simp;done) | (simp;omega) | (simp at hb ⊢;omega) | (simp only[decide_eq_true_eq,Bool.and_eq_true,Int.toNat_natCast] at *;omega))
 all_goals first
  |(have k1:C.ok1 x=false:=C.bn (by assumption)
    rw[C.of_none h1 h2 (ht.symm.trans (C.tog_none gx (C.st1 k1)))];exact eqv_ff ⟨⟨_,_⟩,⟨_,_,_,_⟩⟩)
  |(have k1:C.ok1 x=true:=C.bl (by assumption)
    have k2:C.ok2 (C.r1 x)=false:=C.nt (by assumption)
    rw[C.of_none h1 h2 (ht.symm.trans (C.tog_none gx (C.st2 k1 k2)))];exact eqv_ff ⟨⟨_,_⟩,⟨_,_,_,_⟩⟩)
  |(have k1:C.ok1 x=true:=C.bl (by assumption)
    have k2:C.ok2 (C.r1 x)=true:=C.nf (by assumption)
    have kt:C.top (C.r2 (C.r1 x))=true:=by assumption
    have k3:C.ok3 (C.r2 (C.r1 x))=false:=by(unfold C.ok3;rw[C.r3_t kt];exact C.inn (by assumption))
    rw[C.of_none h1 h2 (ht.symm.trans (C.tog_none gx (C.st3 k1 k2 k3)))];exact eqv_ff ⟨⟨_,_⟩,⟨_,_,_,_⟩⟩)
  |(have k1:C.ok1 x=true:=C.bl (by assumption)
    have k2:C.ok2 (C.r1 x)=true:=C.nf (by assumption)
    have kt:C.top (C.r2 (C.r1 x))=true:=by assumption
    have k3:C.ok3 (C.r2 (C.r1 x))=true:=by(unfold C.ok3;rw[C.r3_t kt];exact C.il (by assumption))
    have ks:C.sgn (C.r3 (C.r2 (C.r1 x)))=true:=by(rw[C.r3_t kt];assumption)
    have ey:=(show C.r4 (C.r3 (C.r2 (C.r1 x)))=_ from by rw[C.r4_t ks,C.r3_t kt])
    have k4:C.ok4 (C.r3 (C.r2 (C.r1 x)))=false:=by(unfold C.ok4;rw[ey];exact C.bn (by assumption))
    rw[C.of_none h1 h2 (ht.symm.trans (C.tog_none gx (C.st4 k1 k2 k3 k4)))];exact eqv_ff ⟨⟨_,_⟩,⟨_,_,_,_⟩⟩)
  |(have k1:C.ok1 x=true:=C.bl (by assumption)
    have k2:C.ok2 (C.r1 x)=true:=C.nf (by assumption)
    have kt:C.top (C.r2 (C.r1 x))=true:=by assumption
    have k3:C.ok3 (C.r2 (C.r1 x))=true:=by(unfold C.ok3;rw[C.r3_t kt];exact C.il (by assumption))
    have ks:C.sgn (C.r3 (C.r2 (C.r1 x)))=true:=by(rw[C.r3_t kt];assumption)
    have ey:=(show C.r4 (C.r3 (C.r2 (C.r1 x)))=_ from by rw[C.r4_t ks,C.r3_t kt])
    have k4:C.ok4 (C.r3 (C.r2 (C.r1 x)))=true:=by(unfold C.ok4;rw[ey];exact C.bl (by assumption))
    have e:C.eqc (C.r4 (C.r3 (C.r2 (C.r1 x)))) x=true:=by(rw[ey];assumption)
    rw[C.of_some h1 h2 (ht.symm.trans (C.tog_eqc gx (C.st5 k1 k2 k3 k4) e)),ey];exact eqv_tt ⟨⟨_,_⟩,⟨_,_,_,_⟩⟩)
  |(have k1:C.ok1 x=true:=C.bl (by assumption)
    have k2:C.ok2 (C.r1 x)=true:=C.nf (by assumption)
    have kt:C.top (C.r2 (C.r1 x))=true:=by assumption
    have k3:C.ok3 (C.r2 (C.r1 x))=true:=by(unfold C.ok3;rw[C.r3_t kt];exact C.il (by assumption))
    have ks:C.sgn (C.r3 (C.r2 (C.r1 x)))=true:=by(rw[C.r3_t kt];assumption)
    have ey:=(show C.r4 (C.r3 (C.r2 (C.r1 x)))=_ from by rw[C.r4_t ks,C.r3_t kt])
    have k4:C.ok4 (C.r3 (C.r2 (C.r1 x)))=true:=by(unfold C.ok4;rw[ey];exact C.bl (by assumption))
    have e:C.eqc (C.r4 (C.r3 (C.r2 (C.r1 x)))) x=false:=by(rw[ey];assumption)
    obtain⟨n1,n2,n3⟩:=C.tog_next gx (C.st5 k1 k2 k3 k4) e
    refine⟨C.mu (C.r4 (C.r3 (C.r2 (C.r1 x)))),[.cells 25 [.u64 (C.r4 (C.r3 (C.r2 (C.r1 x)))).t.v,.u64 (C.r4 (C.r3 (C.r2 (C.r1 x)))).t.m],.cells 27 [.u64 (C.r4 (C.r3 (C.r2 (C.r1 x)))).s.lo,.u64 (C.r4 (C.r3 (C.r2 (C.r1 x)))).s.hi,.int .i64 (C.r4 (C.r3 (C.r2 (C.r1 x)))).s.sl,.int .i64 (C.r4 (C.r3 (C.r2 (C.r1 x)))).s.sh],.cells 29 [.u64 (BitVec.ofInt 64 0),.u64 (BitVec.ofInt 64 0),.u64 (BitVec.ofInt 64 0),.u64 (BitVec.ofInt 64 0),.int .i64 0,.int .i64 0]],[0,1,2],n2,rfl,(mle_cons (ble_cells (by rw[ey];rfl)) (mle_cons (ble_cells (by rw[ey];rfl)) (mle_cons ble_refl mle_nil))),rfl,rfl,C.r4 (C.r3 (C.r2 (C.r1 x))),n3,n1.symm.trans ht,rfl,rfl,rfl⟩)
  |(have k1:C.ok1 x=true:=C.bl (by assumption)
    have k2:C.ok2 (C.r1 x)=true:=C.nf (by assumption)
    have kt:C.top (C.r2 (C.r1 x))=true:=by assumption
    have k3:C.ok3 (C.r2 (C.r1 x))=true:=by(unfold C.ok3;rw[C.r3_t kt];exact C.il (by assumption))
    have ks:C.sgn (C.r3 (C.r2 (C.r1 x)))=false:=by(rw[C.r3_t kt];assumption)
    have ey:=(show C.r4 (C.r3 (C.r2 (C.r1 x)))=_ from by rw[C.r4_f ks,C.r3_t kt])
    have k4:C.ok4 (C.r3 (C.r2 (C.r1 x)))=false:=by(unfold C.ok4;rw[ey];exact C.bn (by assumption))
    rw[C.of_none h1 h2 (ht.symm.trans (C.tog_none gx (C.st4 k1 k2 k3 k4)))];exact eqv_ff ⟨⟨_,_⟩,⟨_,_,_,_⟩⟩)
  |(have k1:C.ok1 x=true:=C.bl (by assumption)
    have k2:C.ok2 (C.r1 x)=true:=C.nf (by assumption)
    have kt:C.top (C.r2 (C.r1 x))=true:=by assumption
    have k3:C.ok3 (C.r2 (C.r1 x))=true:=by(unfold C.ok3;rw[C.r3_t kt];exact C.il (by assumption))
    have ks:C.sgn (C.r3 (C.r2 (C.r1 x)))=false:=by(rw[C.r3_t kt];assumption)
    have ey:=(show C.r4 (C.r3 (C.r2 (C.r1 x)))=_ from by rw[C.r4_f ks,C.r3_t kt])
    have k4:C.ok4 (C.r3 (C.r2 (C.r1 x)))=true:=by(unfold C.ok4;rw[ey];exact C.bl (by assumption))
    have e:C.eqc (C.r4 (C.r3 (C.r2 (C.r1 x)))) x=true:=by(rw[ey];assumption)
    rw[C.of_some h1 h2 (ht.symm.trans (C.tog_eqc gx (C.st5 k1 k2 k3 k4) e)),ey];exact eqv_tt ⟨⟨_,_⟩,⟨_,_,_,_⟩⟩)
  |(have k1:C.ok1 x=true:=C.bl (by assumption)
    have k2:C.ok2 (C.r1 x)=true:=C.nf (by assumption)
    have kt:C.top (C.r2 (C.r1 x))=true:=by assumption
    have k3:C.ok3 (C.r2 (C.r1 x))=true:=by(unfold C.ok3;rw[C.r3_t kt];exact C.il (by assumption))
    have ks:C.sgn (C.r3 (C.r2 (C.r1 x)))=false:=by(rw[C.r3_t kt];assumption)
    have ey:=(show C.r4 (C.r3 (C.r2 (C.r1 x)))=_ from by rw[C.r4_f ks,C.r3_t kt])
    have k4:C.ok4 (C.r3 (C.r2 (C.r1 x)))=true:=by(unfold C.ok4;rw[ey];exact C.bl (by assumption))
    have e:C.eqc (C.r4 (C.r3 (C.r2 (C.r1 x)))) x=false:=by(rw[ey];assumption)
    obtain⟨n1,n2,n3⟩:=C.tog_next gx (C.st5 k1 k2 k3 k4) e
    refine⟨C.mu (C.r4 (C.r3 (C.r2 (C.r1 x)))),[.cells 25 [.u64 (C.r4 (C.r3 (C.r2 (C.r1 x)))).t.v,.u64 (C.r4 (C.r3 (C.r2 (C.r1 x)))).t.m],.cells 27 [.u64 (C.r4 (C.r3 (C.r2 (C.r1 x)))).s.lo,.u64 (C.r4 (C.r3 (C.r2 (C.r1 x)))).s.hi,.int .i64 (C.r4 (C.r3 (C.r2 (C.r1 x)))).s.sl,.int .i64 (C.r4 (C.r3 (C.r2 (C.r1 x)))).s.sh],.cells 29 [.u64 (BitVec.ofInt 64 0),.u64 (BitVec.ofInt 64 0),.u64 (BitVec.ofInt 64 0),.u64 (BitVec.ofInt 64 0),.int .i64 0,.int .i64 0]],[0,1,2],n2,rfl,(mle_cons (ble_cells (by rw[ey];rfl)) (mle_cons (ble_cells (by rw[ey];rfl)) (mle_cons ble_refl mle_nil))),rfl,rfl,C.r4 (C.r3 (C.r2 (C.r1 x))),n3,n1.symm.trans ht,rfl,rfl,rfl⟩)
  |(have k1:C.ok1 x=true:=C.bl (by assumption)
    have k2:C.ok2 (C.r1 x)=true:=C.nf (by assumption)
    have kt:C.top (C.r2 (C.r1 x))=false:=by assumption
    have k3:C.ok3 (C.r2 (C.r1 x))=false:=by(unfold C.ok3;rw[C.r3_f kt];exact C.inn (by assumption))
    rw[C.of_none h1 h2 (ht.symm.trans (C.tog_none gx (C.st3 k1 k2 k3)))];exact eqv_ff ⟨⟨_,_⟩,⟨_,_,_,_⟩⟩)
  |(have k1:C.ok1 x=true:=C.bl (by assumption)
    have k2:C.ok2 (C.r1 x)=true:=C.nf (by assumption)
    have kt:C.top (C.r2 (C.r1 x))=false:=by assumption
    have k3:C.ok3 (C.r2 (C.r1 x))=true:=by(unfold C.ok3;rw[C.r3_f kt];exact C.il (by assumption))
    have ks:C.sgn (C.r3 (C.r2 (C.r1 x)))=true:=by(rw[C.r3_f kt];assumption)
    have ey:=(show C.r4 (C.r3 (C.r2 (C.r1 x)))=_ from by rw[C.r4_t ks,C.r3_f kt])
    have k4:C.ok4 (C.r3 (C.r2 (C.r1 x)))=false:=by(unfold C.ok4;rw[ey];exact C.bn (by assumption))
    rw[C.of_none h1 h2 (ht.symm.trans (C.tog_none gx (C.st4 k1 k2 k3 k4)))];exact eqv_ff ⟨⟨_,_⟩,⟨_,_,_,_⟩⟩)
  |(have k1:C.ok1 x=true:=C.bl (by assumption)
    have k2:C.ok2 (C.r1 x)=true:=C.nf (by assumption)
    have kt:C.top (C.r2 (C.r1 x))=false:=by assumption
    have k3:C.ok3 (C.r2 (C.r1 x))=true:=by(unfold C.ok3;rw[C.r3_f kt];exact C.il (by assumption))
    have ks:C.sgn (C.r3 (C.r2 (C.r1 x)))=true:=by(rw[C.r3_f kt];assumption)
    have ey:=(show C.r4 (C.r3 (C.r2 (C.r1 x)))=_ from by rw[C.r4_t ks,C.r3_f kt])
    have k4:C.ok4 (C.r3 (C.r2 (C.r1 x)))=true:=by(unfold C.ok4;rw[ey];exact C.bl (by assumption))
    have e:C.eqc (C.r4 (C.r3 (C.r2 (C.r1 x)))) x=true:=by(rw[ey];assumption)
    rw[C.of_some h1 h2 (ht.symm.trans (C.tog_eqc gx (C.st5 k1 k2 k3 k4) e)),ey];exact eqv_tt ⟨⟨_,_⟩,⟨_,_,_,_⟩⟩)
  |(have k1:C.ok1 x=true:=C.bl (by assumption)
    have k2:C.ok2 (C.r1 x)=true:=C.nf (by assumption)
    have kt:C.top (C.r2 (C.r1 x))=false:=by assumption
    have k3:C.ok3 (C.r2 (C.r1 x))=true:=by(unfold C.ok3;rw[C.r3_f kt];exact C.il (by assumption))
    have ks:C.sgn (C.r3 (C.r2 (C.r1 x)))=true:=by(rw[C.r3_f kt];assumption)
    have ey:=(show C.r4 (C.r3 (C.r2 (C.r1 x)))=_ from by rw[C.r4_t ks,C.r3_f kt])
    have k4:C.ok4 (C.r3 (C.r2 (C.r1 x)))=true:=by(unfold C.ok4;rw[ey];exact C.bl (by assumption))
    have e:C.eqc (C.r4 (C.r3 (C.r2 (C.r1 x)))) x=false:=by(rw[ey];assumption)
    obtain⟨n1,n2,n3⟩:=C.tog_next gx (C.st5 k1 k2 k3 k4) e
    refine⟨C.mu (C.r4 (C.r3 (C.r2 (C.r1 x)))),[.cells 25 [.u64 (C.r4 (C.r3 (C.r2 (C.r1 x)))).t.v,.u64 (C.r4 (C.r3 (C.r2 (C.r1 x)))).t.m],.cells 27 [.u64 (C.r4 (C.r3 (C.r2 (C.r1 x)))).s.lo,.u64 (C.r4 (C.r3 (C.r2 (C.r1 x)))).s.hi,.int .i64 (C.r4 (C.r3 (C.r2 (C.r1 x)))).s.sl,.int .i64 (C.r4 (C.r3 (C.r2 (C.r1 x)))).s.sh],.cells 29 [.u64 (BitVec.ofInt 64 0),.u64 (BitVec.ofInt 64 0),.u64 (BitVec.ofInt 64 0),.u64 (BitVec.ofInt 64 0),.int .i64 0,.int .i64 0]],[0,1,2],n2,rfl,(mle_cons (ble_cells (by rw[ey];rfl)) (mle_cons (ble_cells (by rw[ey];rfl)) (mle_cons ble_refl mle_nil))),rfl,rfl,C.r4 (C.r3 (C.r2 (C.r1 x))),n3,n1.symm.trans ht,rfl,rfl,rfl⟩)
  |(have k1:C.ok1 x=true:=C.bl (by assumption)
    have k2:C.ok2 (C.r1 x)=true:=C.nf (by assumption)
    have kt:C.top (C.r2 (C.r1 x))=false:=by assumption
    have k3:C.ok3 (C.r2 (C.r1 x))=true:=by(unfold C.ok3;rw[C.r3_f kt];exact C.il (by assumption))
    have ks:C.sgn (C.r3 (C.r2 (C.r1 x)))=false:=by(rw[C.r3_f kt];assumption)
    have ey:=(show C.r4 (C.r3 (C.r2 (C.r1 x)))=_ from by rw[C.r4_f ks,C.r3_f kt])
    have k4:C.ok4 (C.r3 (C.r2 (C.r1 x)))=false:=by(unfold C.ok4;rw[ey];exact C.bn (by assumption))
    rw[C.of_none h1 h2 (ht.symm.trans (C.tog_none gx (C.st4 k1 k2 k3 k4)))];exact eqv_ff ⟨⟨_,_⟩,⟨_,_,_,_⟩⟩)
  |(have k1:C.ok1 x=true:=C.bl (by assumption)
    have k2:C.ok2 (C.r1 x)=true:=C.nf (by assumption)
    have kt:C.top (C.r2 (C.r1 x))=false:=by assumption
    have k3:C.ok3 (C.r2 (C.r1 x))=true:=by(unfold C.ok3;rw[C.r3_f kt];exact C.il (by assumption))
    have ks:C.sgn (C.r3 (C.r2 (C.r1 x)))=false:=by(rw[C.r3_f kt];assumption)
    have ey:=(show C.r4 (C.r3 (C.r2 (C.r1 x)))=_ from by rw[C.r4_f ks,C.r3_f kt])
    have k4:C.ok4 (C.r3 (C.r2 (C.r1 x)))=true:=by(unfold C.ok4;rw[ey];exact C.bl (by assumption))
    have e:C.eqc (C.r4 (C.r3 (C.r2 (C.r1 x)))) x=true:=by(rw[ey];assumption)
    rw[C.of_some h1 h2 (ht.symm.trans (C.tog_eqc gx (C.st5 k1 k2 k3 k4) e)),ey];exact eqv_tt ⟨⟨_,_⟩,⟨_,_,_,_⟩⟩)
  |(have k1:C.ok1 x=true:=C.bl (by assumption)
    have k2:C.ok2 (C.r1 x)=true:=C.nf (by assumption)
    have kt:C.top (C.r2 (C.r1 x))=false:=by assumption
    have k3:C.ok3 (C.r2 (C.r1 x))=true:=by(unfold C.ok3;rw[C.r3_f kt];exact C.il (by assumption))
    have ks:C.sgn (C.r3 (C.r2 (C.r1 x)))=false:=by(rw[C.r3_f kt];assumption)
    have ey:=(show C.r4 (C.r3 (C.r2 (C.r1 x)))=_ from by rw[C.r4_f ks,C.r3_f kt])
    have k4:C.ok4 (C.r3 (C.r2 (C.r1 x)))=true:=by(unfold C.ok4;rw[ey];exact C.bl (by assumption))
    have e:C.eqc (C.r4 (C.r3 (C.r2 (C.r1 x)))) x=false:=by(rw[ey];assumption)
    obtain⟨n1,n2,n3⟩:=C.tog_next gx (C.st5 k1 k2 k3 k4) e
    refine⟨C.mu (C.r4 (C.r3 (C.r2 (C.r1 x)))),[.cells 25 [.u64 (C.r4 (C.r3 (C.r2 (C.r1 x)))).t.v,.u64 (C.r4 (C.r3 (C.r2 (C.r1 x)))).t.m],.cells 27 [.u64 (C.r4 (C.r3 (C.r2 (C.r1 x)))).s.lo,.u64 (C.r4 (C.r3 (C.r2 (C.r1 x)))).s.hi,.int .i64 (C.r4 (C.r3 (C.r2 (C.r1 x)))).s.sl,.int .i64 (C.r4 (C.r3 (C.r2 (C.r1 x)))).s.sh],.cells 29 [.u64 (BitVec.ofInt 64 0),.u64 (BitVec.ofInt 64 0),.u64 (BitVec.ofInt 64 0),.u64 (BitVec.ofInt 64 0),.int .i64 0,.int .i64 0]],[0,1,2],n2,rfl,(mle_cons (ble_cells (by rw[ey];rfl)) (mle_cons (ble_cells (by rw[ey];rfl)) (mle_cons ble_refl mle_nil))),rfl,rfl,C.r4 (C.r3 (C.r2 (C.r1 x))),n3,n1.symm.trans ht,rfl,rfl,rfl⟩)
def k_rTog:List SV→List Blk→Res:=fun args _=>match args with
 |[.agg [.u64 av,.u64 am],.agg [.u64 alo,.u64 ahi,.int .i64 asl,.int .i64 ash]]=>.test (R.inS ⟨alo,ahi,asl,ash⟩) (.ok (.tup [scv (C.of ⟨av,am⟩ ⟨alo,ahi,asl,ash⟩).1,.bool (C.of ⟨av,am⟩ ⟨alo,ahi,asl,ash⟩).2]) [])
 |_=>.fail
theorem k_rTog_ok:CtrOk Tryz.prog Gw 112 k_rTog:=by
 refine⟨fun _ _=>by kernel_rfl,fun args M => ?_⟩
 unfold k_rTog
 split
 . rename_i av am alo ahi asl ash
   intro ht
   exact ctr_flat (Γ:=⟨[(156,k_rRight),(157,k_srRight),(158,k_rMeet),(159,k_rRange)],eqs,[],[],[],mixs,meqs,[]⟩) (sv:=.tup [scv (C.of ⟨av,am⟩ ⟨alo,ahi,asl,ash⟩).1,.bool (C.of ⟨av,am⟩ ⟨alo,ahi,asl,ash⟩).2]) st_Gw ⟨(okCons k_rRight_ok (okCons k_srRight_ok (okCons k_rMeet_ok (okCons k_rRange_ok okNil)))),eqs_ok,okNilB,okNilI,okNilP,mixs_ok,meqs_ok,okNilY⟩ Tryz.func112 rfl mixed [(8,11,[0,0,2,0,8,30,63,127,255,255,0,1535,4095])] (by kernel_rfl) 10000 (by rfl) (rtog_run av am alo ahi asl ash ht)
 . trivial
end Go.Proofs.YtfgkhenhlpoheaaGreat
