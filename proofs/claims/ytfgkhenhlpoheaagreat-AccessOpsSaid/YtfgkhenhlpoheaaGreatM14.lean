import Derived.Test.YtfgkhenhlpoheaaGreatM13
set_option linter.all false
namespace Go.Proofs.YtfgkhenhlpoheaaGreat
open Go.RowKit Go.Sx
set_option maxRecDepth 100000
set_option maxHeartbeats 4000000
theorem of_run (av am alo ahi:BitVec 64)(asl ash:Int)(hi:R.inS ⟨alo,ahi,asl,ash⟩=true):run Tryz.prog ⟨[(145,k_Right),(146,k_sRight),(209,k_Meet),(210,k_Range)],eqs,[],[(147,Tryz.f147,[(6,5,[0,1,3,7,0,31])]),(178,Tryz.f178,[(1,10,[0,1,3,7,0,16,48,112,0,0,783,2047])]),(207,Tryz.f207,[(1,12,[0,0,0,4,12,0,60,0,128,384,0,1920,1021,5117,16383,32767]),(2,6,[0,1,3,0,8,24,63,127])]),(212,Tryz.f212,[(1,12,[0,0,0,4,12,0,60,0,128,384,0,1920,1021,5117,16383,32767]),(2,6,[0,1,3,0,8,24,63,127])]),(206,Tryz.f206,[(1,19,[0,1,3,0,8,24,0,64,192,448,0,1024,3072,7168,0,16384,49152,114688,261120,524287,1048575])]),(208,Tryz.f208,[(1,17,[0,1,3,0,8,24,56,0,128,384,896,2040,4095,8191,16383,16383,0,98303,262143])]),(211,Tryz.f211,[(1,28,[0,1,3,7,15,0,32,96,224,480,1023,2047,4095,8191,16383,4095,36863,102399,4095,266239,790527,1839103,3936255,4095,8392703,25169919,58724351,125833215,268435455,536870911,1073741823])]),(213,Tryz.f213,[(1,28,[0,1,3,7,15,0,32,96,224,480,1023,2047,4095,8191,16383,4095,36863,102399,4095,266239,790527,1839103,3936255,4095,8392703,25169919,58724351,125833215,268435455,536870911,1073741823])]),(214,Tryz.f214,[])],[],mixs,meqs,[]⟩ 10000 [] 0 (bodyOf Tryz.f101) (initF Tryz.f101 [.agg [.u64 av,.u64 am],.agg [.u64 alo,.u64 ahi,.int .i64 asl,.int .i64 ash]]) [] (retK Tryz.prog Tryz.f101 fun x _=>eqv x (.tup [scv (C.of ⟨av,am⟩ ⟨alo,ahi,asl,ash⟩).1,.bool (C.of ⟨av,am⟩ ⟨alo,ahi,asl,ash⟩).2])):=by
 (conv=>whnf)
 (repeat' (first | (refine And.intro (fun hb => ?_) (fun hb => ?_)<;>(first|contradiction | (conv=>whnf))) | (refine And.intro (a:=(_:Bool)=true) ?_ ?_;rotate_left 1;(conv=>whnf))))
 all_goals try (rw[C.of_no1 (C.nt (by assumption))];exact eqv_ff ⟨⟨_,_⟩,⟨_,_,_,_⟩⟩)
 all_goals try (rw[C.of_no2 (C.nt (by assumption))];exact eqv_ff ⟨⟨_,_⟩,⟨_,_,_,_⟩⟩)
 have h1:T.right ⟨av,am⟩=true:=C.nf (by assumption)
 have h2:S.good ⟨alo,ahi,asl,ash⟩=true:=C.nf (by assumption)
 have g0:C.Good ⟨⟨av,am⟩,⟨alo,ahi,asl,ash⟩⟩:=⟨h1,(S.good_iff.1 h2).1,(S.good_iff.1 h2).2,hi⟩
 refine .inr ⟨[],[0,2],fun k vals M=>∃ x:Sc,C.Good x∧C.tog x=C.tog ⟨⟨av,am⟩,⟨alo,ahi,asl,ash⟩⟩∧k=C.mu x∧vals=[.ptr 3 0,.ptr 4 0]∧M=[.cells 25 [.u64 av,.u64 am],.cells 27 [.u64 alo,.u64 ahi,.int .i64 asl,.int .i64 ash],.cells 29 [.u64 (BitVec.ofInt 64 0),.u64 (BitVec.ofInt 64 0),.u64 (BitVec.ofInt 64 0),.u64 (BitVec.ofInt 64 0),.int .i64 0,.int .i64 0],.cells 207 [.u64 x.t.v,.u64 x.t.m,.u64 x.s.lo,.u64 x.s.hi,.int .i64 x.s.sl,.int .i64 x.s.sh],.cells 4 [.ff]],?_⟩
 conv=>whnf
 refine And.intro ⟨C.mu ⟨⟨av,am⟩,⟨alo,ahi,asl,ash⟩⟩,_,(mle_cons ble_refl (mle_cons ble_refl (mle_cons ble_refl (mle_cons ble_refl (mle_cons ble_refl mle_nil))))),rfl,rfl,⟨⟨av,am⟩,⟨alo,ahi,asl,ash⟩⟩,g0,rfl,rfl,rfl,rfl⟩ ?_
 rintro k vals M1 ⟨x,gx,ht,rfl,rfl,rfl⟩
 (conv=>whnf)
 (repeat' (first | (refine .inl ⟨20,?_⟩;(conv=>whnf)) | (refine And.intro (fun hb => ?_) (fun hb => ?_)<;>(first|contradiction | (conv=>whnf))) | (refine And.intro (a:=(_:Bool)=true) ?_ ?_;rotate_left 1;(conv=>whnf))))
 all_goals try (first|rfl|trivial | (simp;done) | (simp;omega) | (simp at hb ⊢;omega) | (simp only[decide_eq_true_eq,Bool.and_eq_true,Int.toNat_natCast] at *;omega))
 all_goals first
  |(have k1:C.ok1 x=false:=C.nt (by assumption)
    rw[C.of_none h1 h2 (ht.symm.trans (C.tog_none gx (C.st1 k1)))];exact eqv_ff ⟨⟨_,_⟩,⟨_,_,_,_⟩⟩)
  |(have k1:C.ok1 x=true:=C.nf (by assumption)
    have k2:C.ok2 (C.r1 x)=false:=C.nt (by assumption)
    rw[C.of_none h1 h2 (ht.symm.trans (C.tog_none gx (C.st2 k1 k2)))];exact eqv_ff ⟨⟨_,_⟩,⟨_,_,_,_⟩⟩)
  |(have k1:C.ok1 x=true:=C.nf (by assumption)
    have k2:C.ok2 (C.r1 x)=true:=C.nf (by assumption)
    have kt:C.top (C.r2 (C.r1 x))=true:=C.bt (by assumption)
    have k3:C.ok3 (C.r2 (C.r1 x))=false:=by(unfold C.ok3;rw[C.r3_t kt];exact C.nt (by assumption))
    rw[C.of_none h1 h2 (ht.symm.trans (C.tog_none gx (C.st3 k1 k2 k3)))];exact eqv_ff ⟨⟨_,_⟩,⟨_,_,_,_⟩⟩)
  |(have k1:C.ok1 x=true:=C.nf (by assumption)
    have k2:C.ok2 (C.r1 x)=true:=C.nf (by assumption)
    have kt:C.top (C.r2 (C.r1 x))=true:=C.bt (by assumption)
    have k3:C.ok3 (C.r2 (C.r1 x))=true:=by(unfold C.ok3;rw[C.r3_t kt];exact C.nf (by assumption))
    have ks:C.sgn (C.r3 (C.r2 (C.r1 x)))=true:=by(rw[C.r3_t kt];exact C.ct (by assumption))
    have ey:=(show C.r4 (C.r3 (C.r2 (C.r1 x)))=_ from by rw[C.r4_t ks,C.r3_t kt])
    have k4:C.ok4 (C.r3 (C.r2 (C.r1 x)))=false:=by(unfold C.ok4;rw[ey];exact C.nt (by assumption))
    rw[C.of_none h1 h2 (ht.symm.trans (C.tog_none gx (C.st4 k1 k2 k3 k4)))];exact eqv_ff ⟨⟨_,_⟩,⟨_,_,_,_⟩⟩)
  |(have k1:C.ok1 x=true:=C.nf (by assumption)
    have k2:C.ok2 (C.r1 x)=true:=C.nf (by assumption)
    have kt:C.top (C.r2 (C.r1 x))=true:=C.bt (by assumption)
    have k3:C.ok3 (C.r2 (C.r1 x))=true:=by(unfold C.ok3;rw[C.r3_t kt];exact C.nf (by assumption))
    have ks:C.sgn (C.r3 (C.r2 (C.r1 x)))=true:=by(rw[C.r3_t kt];exact C.ct (by assumption))
    have ey:=(show C.r4 (C.r3 (C.r2 (C.r1 x)))=_ from by rw[C.r4_t ks,C.r3_t kt])
    have k4:C.ok4 (C.r3 (C.r2 (C.r1 x)))=true:=by(unfold C.ok4;rw[ey];exact C.nf (by assumption))
    have e:C.eqc (C.r4 (C.r3 (C.r2 (C.r1 x)))) x=true:=by(rw[ey];assumption)
    rw[C.of_some h1 h2 (ht.symm.trans (C.tog_eqc gx (C.st5 k1 k2 k3 k4) e)),ey];exact eqv_tt ⟨⟨_,_⟩,⟨_,_,_,_⟩⟩)
  |(have k1:C.ok1 x=true:=C.nf (by assumption)
    have k2:C.ok2 (C.r1 x)=true:=C.nf (by assumption)
    have kt:C.top (C.r2 (C.r1 x))=true:=C.bt (by assumption)
    have k3:C.ok3 (C.r2 (C.r1 x))=true:=by(unfold C.ok3;rw[C.r3_t kt];exact C.nf (by assumption))
    have ks:C.sgn (C.r3 (C.r2 (C.r1 x)))=true:=by(rw[C.r3_t kt];exact C.ct (by assumption))
    have ey:=(show C.r4 (C.r3 (C.r2 (C.r1 x)))=_ from by rw[C.r4_t ks,C.r3_t kt])
    have k4:C.ok4 (C.r3 (C.r2 (C.r1 x)))=true:=by(unfold C.ok4;rw[ey];exact C.nf (by assumption))
    have e:C.eqc (C.r4 (C.r3 (C.r2 (C.r1 x)))) x=false:=by(rw[ey];assumption)
    obtain⟨n1,n2,n3⟩:=C.tog_next gx (C.st5 k1 k2 k3 k4) e
    refine⟨C.mu (C.r4 (C.r3 (C.r2 (C.r1 x)))),[.cells 25 [.u64 av,.u64 am],.cells 27 [.u64 alo,.u64 ahi,.int .i64 asl,.int .i64 ash],.cells 29 [.u64 (BitVec.ofInt 64 0),.u64 (BitVec.ofInt 64 0),.u64 (BitVec.ofInt 64 0),.u64 (BitVec.ofInt 64 0),.int .i64 0,.int .i64 0],.cells 207 [.u64 (C.r4 (C.r3 (C.r2 (C.r1 x)))).t.v,.u64 (C.r4 (C.r3 (C.r2 (C.r1 x)))).t.m,.u64 (C.r4 (C.r3 (C.r2 (C.r1 x)))).s.lo,.u64 (C.r4 (C.r3 (C.r2 (C.r1 x)))).s.hi,.int .i64 (C.r4 (C.r3 (C.r2 (C.r1 x)))).s.sl,.int .i64 (C.r4 (C.r3 (C.r2 (C.r1 x)))).s.sh],.cells 4 [.ff]],[0,1,2,3,4],n2,rfl,(mle_cons ble_refl (mle_cons ble_refl (mle_cons ble_refl (mle_cons (ble_cells (by rw[ey];rfl)) (mle_cons ble_refl mle_nil))))),rfl,rfl,C.r4 (C.r3 (C.r2 (C.r1 x))),n3,n1.symm.trans ht,rfl,rfl,rfl⟩)
  |(have k1:C.ok1 x=true:=C.nf (by assumption)
    have k2:C.ok2 (C.r1 x)=true:=C.nf (by assumption)
    have kt:C.top (C.r2 (C.r1 x))=true:=C.bt (by assumption)
    have k3:C.ok3 (C.r2 (C.r1 x))=true:=by(unfold C.ok3;rw[C.r3_t kt];exact C.nf (by assumption))
    have ks:C.sgn (C.r3 (C.r2 (C.r1 x)))=false:=by(rw[C.r3_t kt];exact C.cf (by assumption))
    have ey:=(show C.r4 (C.r3 (C.r2 (C.r1 x)))=_ from by rw[C.r4_f ks,C.r3_t kt])
    have k4:C.ok4 (C.r3 (C.r2 (C.r1 x)))=true:=by(unfold C.ok4;rw[ey];exact k1)
    have e:C.eqc (C.r4 (C.r3 (C.r2 (C.r1 x)))) x=true:=by(rw[ey];assumption)
    rw[C.of_some h1 h2 (ht.symm.trans (C.tog_eqc gx (C.st5 k1 k2 k3 k4) e)),ey];exact eqv_tt ⟨⟨_,_⟩,⟨_,_,_,_⟩⟩)
  |(have k1:C.ok1 x=true:=C.nf (by assumption)
    have k2:C.ok2 (C.r1 x)=true:=C.nf (by assumption)
    have kt:C.top (C.r2 (C.r1 x))=true:=C.bt (by assumption)
    have k3:C.ok3 (C.r2 (C.r1 x))=true:=by(unfold C.ok3;rw[C.r3_t kt];exact C.nf (by assumption))
    have ks:C.sgn (C.r3 (C.r2 (C.r1 x)))=false:=by(rw[C.r3_t kt];exact C.cf (by assumption))
    have ey:=(show C.r4 (C.r3 (C.r2 (C.r1 x)))=_ from by rw[C.r4_f ks,C.r3_t kt])
    have k4:C.ok4 (C.r3 (C.r2 (C.r1 x)))=true:=by(unfold C.ok4;rw[ey];exact k1)
    have e:C.eqc (C.r4 (C.r3 (C.r2 (C.r1 x)))) x=false:=by(rw[ey];assumption)
    obtain⟨n1,n2,n3⟩:=C.tog_next gx (C.st5 k1 k2 k3 k4) e
    refine⟨C.mu (C.r4 (C.r3 (C.r2 (C.r1 x)))),[.cells 25 [.u64 av,.u64 am],.cells 27 [.u64 alo,.u64 ahi,.int .i64 asl,.int .i64 ash],.cells 29 [.u64 (BitVec.ofInt 64 0),.u64 (BitVec.ofInt 64 0),.u64 (BitVec.ofInt 64 0),.u64 (BitVec.ofInt 64 0),.int .i64 0,.int .i64 0],.cells 207 [.u64 (C.r4 (C.r3 (C.r2 (C.r1 x)))).t.v,.u64 (C.r4 (C.r3 (C.r2 (C.r1 x)))).t.m,.u64 (C.r4 (C.r3 (C.r2 (C.r1 x)))).s.lo,.u64 (C.r4 (C.r3 (C.r2 (C.r1 x)))).s.hi,.int .i64 (C.r4 (C.r3 (C.r2 (C.r1 x)))).s.sl,.int .i64 (C.r4 (C.r3 (C.r2 (C.r1 x)))).s.sh],.cells 4 [.ff]],[0,1,2,3,4],n2,rfl,(mle_cons ble_refl (mle_cons ble_refl (mle_cons ble_refl (mle_cons (ble_cells (by rw[ey];rfl)) (mle_cons ble_refl mle_nil))))),rfl,rfl,C.r4 (C.r3 (C.r2 (C.r1 x))),n3,n1.symm.trans ht,rfl,rfl,rfl⟩)
  |(have k1:C.ok1 x=true:=C.nf (by assumption)
    have k2:C.ok2 (C.r1 x)=true:=C.nf (by assumption)
    have kt:C.top (C.r2 (C.r1 x))=false:=C.bf (by assumption)
    have k3:C.ok3 (C.r2 (C.r1 x))=true:=by(unfold C.ok3;rw[C.r3_f kt];exact decide_eq_true gx.g)
    have ks:C.sgn (C.r3 (C.r2 (C.r1 x)))=true:=by(rw[C.r3_f kt];exact C.ct (by assumption))
    have ey:=(show C.r4 (C.r3 (C.r2 (C.r1 x)))=_ from by rw[C.r4_t ks,C.r3_f kt])
    have k4:C.ok4 (C.r3 (C.r2 (C.r1 x)))=false:=by(unfold C.ok4;rw[ey];exact C.nt (by assumption))
    rw[C.of_none h1 h2 (ht.symm.trans (C.tog_none gx (C.st4 k1 k2 k3 k4)))];exact eqv_ff ⟨⟨_,_⟩,⟨_,_,_,_⟩⟩)
  |(have k1:C.ok1 x=true:=C.nf (by assumption)
    have k2:C.ok2 (C.r1 x)=true:=C.nf (by assumption)
    have kt:C.top (C.r2 (C.r1 x))=false:=C.bf (by assumption)
    have k3:C.ok3 (C.r2 (C.r1 x))=true:=by(unfold C.ok3;rw[C.r3_f kt];exact decide_eq_true gx.g)
    have ks:C.sgn (C.r3 (C.r2 (C.r1 x)))=true:=by(rw[C.r3_f kt];exact C.ct (by assumption))
    have ey:=(show C.r4 (C.r3 (C.r2 (C.r1 x)))=_ from by rw[C.r4_t ks,C.r3_f kt])
    have k4:C.ok4 (C.r3 (C.r2 (C.r1 x)))=true:=by(unfold C.ok4;rw[ey];exact C.nf (by assumption))
    have e:C.eqc (C.r4 (C.r3 (C.r2 (C.r1 x)))) x=true:=by(rw[ey];assumption)
    rw[C.of_some h1 h2 (ht.symm.trans (C.tog_eqc gx (C.st5 k1 k2 k3 k4) e)),ey];exact eqv_tt ⟨⟨_,_⟩,⟨_,_,_,_⟩⟩)
  |(have k1:C.ok1 x=true:=C.nf (by assumption)
    have k2:C.ok2 (C.r1 x)=true:=C.nf (by assumption)
    have kt:C.top (C.r2 (C.r1 x))=false:=C.bf (by assumption)
    have k3:C.ok3 (C.r2 (C.r1 x))=true:=by(unfold C.ok3;rw[C.r3_f kt];exact decide_eq_true gx.g)
    have ks:C.sgn (C.r3 (C.r2 (C.r1 x)))=true:=by(rw[C.r3_f kt];exact C.ct (by assumption))
    have ey:=(show C.r4 (C.r3 (C.r2 (C.r1 x)))=_ from by rw[C.r4_t ks,C.r3_f kt])
    have k4:C.ok4 (C.r3 (C.r2 (C.r1 x)))=true:=by(unfold C.ok4;rw[ey];exact C.nf (by assumption))
    have e:C.eqc (C.r4 (C.r3 (C.r2 (C.r1 x)))) x=false:=by(rw[ey];assumption)
    obtain⟨n1,n2,n3⟩:=C.tog_next gx (C.st5 k1 k2 k3 k4) e
    refine⟨C.mu (C.r4 (C.r3 (C.r2 (C.r1 x)))),[.cells 25 [.u64 av,.u64 am],.cells 27 [.u64 alo,.u64 ahi,.int .i64 asl,.int .i64 ash],.cells 29 [.u64 (BitVec.ofInt 64 0),.u64 (BitVec.ofInt 64 0),.u64 (BitVec.ofInt 64 0),.u64 (BitVec.ofInt 64 0),.int .i64 0,.int .i64 0],.cells 207 [.u64 (C.r4 (C.r3 (C.r2 (C.r1 x)))).t.v,.u64 (C.r4 (C.r3 (C.r2 (C.r1 x)))).t.m,.u64 (C.r4 (C.r3 (C.r2 (C.r1 x)))).s.lo,.u64 (C.r4 (C.r3 (C.r2 (C.r1 x)))).s.hi,.int .i64 (C.r4 (C.r3 (C.r2 (C.r1 x)))).s.sl,.int .i64 (C.r4 (C.r3 (C.r2 (C.r1 x)))).s.sh],.cells 4 [.ff]],[0,1,2,3,4],n2,rfl,(mle_cons ble_refl (mle_cons ble_refl (mle_cons ble_refl (mle_cons (ble_cells (by rw[ey];rfl)) (mle_cons ble_refl mle_nil))))),rfl,rfl,C.r4 (C.r3 (C.r2 (C.r1 x))),n3,n1.symm.trans ht,rfl,rfl,rfl⟩)
  |(have k1:C.ok1 x=true:=C.nf (by assumption)
    have k2:C.ok2 (C.r1 x)=true:=C.nf (by assumption)
    have kt:C.top (C.r2 (C.r1 x))=false:=C.bf (by assumption)
    have k3:C.ok3 (C.r2 (C.r1 x))=true:=by(unfold C.ok3;rw[C.r3_f kt];exact decide_eq_true gx.g)
    have ks:C.sgn (C.r3 (C.r2 (C.r1 x)))=false:=by(rw[C.r3_f kt];exact C.cf (by assumption))
    have ey:=(show C.r4 (C.r3 (C.r2 (C.r1 x)))=_ from by rw[C.r4_f ks,C.r3_f kt])
    have k4:C.ok4 (C.r3 (C.r2 (C.r1 x)))=true:=by(unfold C.ok4;rw[ey];exact k1)
    have e:C.eqc (C.r4 (C.r3 (C.r2 (C.r1 x)))) x=true:=by(rw[ey];assumption)
    rw[C.of_some h1 h2 (ht.symm.trans (C.tog_eqc gx (C.st5 k1 k2 k3 k4) e)),ey];exact eqv_tt ⟨⟨_,_⟩,⟨_,_,_,_⟩⟩)
  |(have k1:C.ok1 x=true:=C.nf (by assumption)
    have k2:C.ok2 (C.r1 x)=true:=C.nf (by assumption)
    have kt:C.top (C.r2 (C.r1 x))=false:=C.bf (by assumption)
    have k3:C.ok3 (C.r2 (C.r1 x))=true:=by(unfold C.ok3;rw[C.r3_f kt];exact decide_eq_true gx.g)
    have ks:C.sgn (C.r3 (C.r2 (C.r1 x)))=false:=by(rw[C.r3_f kt];exact C.cf (by assumption))
    have ey:=(show C.r4 (C.r3 (C.r2 (C.r1 x)))=_ from by rw[C.r4_f ks,C.r3_f kt])
    have k4:C.ok4 (C.r3 (C.r2 (C.r1 x)))=true:=by(unfold C.ok4;rw[ey];exact k1)
    have e:C.eqc (C.r4 (C.r3 (C.r2 (C.r1 x)))) x=false:=by(rw[ey];assumption)
    obtain⟨n1,n2,n3⟩:=C.tog_next gx (C.st5 k1 k2 k3 k4) e
    refine⟨C.mu (C.r4 (C.r3 (C.r2 (C.r1 x)))),[.cells 25 [.u64 av,.u64 am],.cells 27 [.u64 alo,.u64 ahi,.int .i64 asl,.int .i64 ash],.cells 29 [.u64 (BitVec.ofInt 64 0),.u64 (BitVec.ofInt 64 0),.u64 (BitVec.ofInt 64 0),.u64 (BitVec.ofInt 64 0),.int .i64 0,.int .i64 0],.cells 207 [.u64 (C.r4 (C.r3 (C.r2 (C.r1 x)))).t.v,.u64 (C.r4 (C.r3 (C.r2 (C.r1 x)))).t.m,.u64 (C.r4 (C.r3 (C.r2 (C.r1 x)))).s.lo,.u64 (C.r4 (C.r3 (C.r2 (C.r1 x)))).s.hi,.int .i64 (C.r4 (C.r3 (C.r2 (C.r1 x)))).s.sl,.int .i64 (C.r4 (C.r3 (C.r2 (C.r1 x)))).s.sh],.cells 4 [.ff]],[0,1,2,3,4],n2,rfl,(mle_cons ble_refl (mle_cons ble_refl (mle_cons ble_refl (mle_cons (ble_cells (by rw[ey];rfl)) (mle_cons ble_refl mle_nil))))),rfl,rfl,C.r4 (C.r3 (C.r2 (C.r1 x))),n3,n1.symm.trans ht,rfl,rfl,rfl⟩)
def k_Of:List SV→List Blk→Res:=fun args _=>match args with
 |[.agg [.u64 av,.u64 am],.agg [.u64 alo,.u64 ahi,.int .i64 asl,.int .i64 ash]]=>.test (R.inS ⟨alo,ahi,asl,ash⟩) (.ok (.tup [scv (C.of ⟨av,am⟩ ⟨alo,ahi,asl,ash⟩).1,.bool (C.of ⟨av,am⟩ ⟨alo,ahi,asl,ash⟩).2]) [])
 |_=>.fail
theorem k_Of_ok:CtrOk Tryz.prog Gw 101 k_Of:=by
 refine⟨fun _ _=>by kernel_rfl,fun args M => ?_⟩
 unfold k_Of
 split
 . rename_i av am alo ahi asl ash
   intro ht
   exact ctr_flat (Γ:=⟨[(145,k_Right),(146,k_sRight),(209,k_Meet),(210,k_Range)],eqs,[],[(147,Tryz.f147,[(6,5,[0,1,3,7,0,31])]),(178,Tryz.f178,[(1,10,[0,1,3,7,0,16,48,112,0,0,783,2047])]),(207,Tryz.f207,[(1,12,[0,0,0,4,12,0,60,0,128,384,0,1920,1021,5117,16383,32767]),(2,6,[0,1,3,0,8,24,63,127])]),(212,Tryz.f212,[(1,12,[0,0,0,4,12,0,60,0,128,384,0,1920,1021,5117,16383,32767]),(2,6,[0,1,3,0,8,24,63,127])]),(206,Tryz.f206,[(1,19,[0,1,3,0,8,24,0,64,192,448,0,1024,3072,7168,0,16384,49152,114688,261120,524287,1048575])]),(208,Tryz.f208,[(1,17,[0,1,3,0,8,24,56,0,128,384,896,2040,4095,8191,16383,16383,0,98303,262143])]),(211,Tryz.f211,[(1,28,[0,1,3,7,15,0,32,96,224,480,1023,2047,4095,8191,16383,4095,36863,102399,4095,266239,790527,1839103,3936255,4095,8392703,25169919,58724351,125833215,268435455,536870911,1073741823])]),(213,Tryz.f213,[(1,28,[0,1,3,7,15,0,32,96,224,480,1023,2047,4095,8191,16383,4095,36863,102399,4095,266239,790527,1839103,3936255,4095,8392703,25169919,58724351,125833215,268435455,536870911,1073741823])]),(214,Tryz.f214,[])],[],mixs,meqs,[]⟩) (sv:=.tup [scv (C.of ⟨av,am⟩ ⟨alo,ahi,asl,ash⟩).1,.bool (C.of ⟨av,am⟩ ⟨alo,ahi,asl,ash⟩).2]) st_Gw ⟨(okCons k_Right_ok (okCons k_sRight_ok (okCons k_Meet_ok (okCons k_Range_ok okNil)))),eqs_ok,okNilB,(okConsI Tryz.func147 rfl (by kernel_rfl) (fun _ _=>by kernel_rfl) (okConsI Tryz.func178 rfl (by kernel_rfl) (fun _ _=>by kernel_rfl) (okConsI Tryz.func207 rfl (by kernel_rfl) (fun _ _=>by kernel_rfl) (okConsI Tryz.func212 rfl (by kernel_rfl) (fun _ _=>by kernel_rfl) (okConsI Tryz.func206 rfl (by kernel_rfl) (fun _ _=>by kernel_rfl) (okConsI Tryz.func208 rfl (by kernel_rfl) (fun _ _=>by kernel_rfl) (okConsI Tryz.func211 rfl (by kernel_rfl) (fun _ _=>by kernel_rfl) (okConsI Tryz.func213 rfl (by kernel_rfl) (fun _ _=>by kernel_rfl) (okConsI Tryz.func214 rfl (by kernel_rfl) (fun _ _=>by kernel_rfl) okNilI))))))))),okNilP,mixs_ok,meqs_ok,okNilY⟩ Tryz.func101 rfl mixed [] (by kernel_rfl) 10000 (by rfl) (of_run av am alo ahi asl ash ht)
 . trivial
end Go.Proofs.YtfgkhenhlpoheaaGreat
