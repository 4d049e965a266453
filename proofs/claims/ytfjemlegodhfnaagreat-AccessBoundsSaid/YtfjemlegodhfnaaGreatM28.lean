import Derived.Test.YtfjemlegodhfnaaGreatM27
import Derived.Shelf.Small.Bits
import Derived.Shelf.Strconv.Itoa0
import Derived.Test.YtfjemlegodhfnaaGreatProg
import Derived.Test.YtfjemlegodhfnaaGreatM21
import Derived.Test.YtfjemlegodhfnaaGreatM17
set_option linter.all false
namespace Go.Proofs.YtfjemlegodhfnaaGreat
open Go.RowKit
set_option maxHeartbeats 1000000
namespace W
def xt (a:BitVec 64)(k:Nat)(sg:Bool):BitVec 64:=if sg&&decide (2 ^ (k-1)≤a.toNat % 2^k) then BitVec.ofNat 64 (a.toNat % 2^k+(2^64-2^k)) else BitVec.ofNat 64 (a.toNat % 2^k)
def extB (a:BitVec 64)(n:Int)(sg:Bool):BitVec 64×Bool:=if n==1 then (xt a 8 sg,true) else if n==2 then (xt a 16 sg,true) else if n==4 then (xt a 32 sg,true) else if n==8 then (a,true) else (0#64,false)
theorem e_u8 (a:BitVec 64):BitVec.ofInt 64 (IntKind.u8.wrap (uv a))=BitVec.ofNat 64 (a.toNat % 2^8):=by
 apply BitVec.eq_of_toNat_eq
 have:=a.isLt
 simp[IntKind.wrap,uv,IntKind.signed,IntKind.bits]
 omega
theorem x_f8 (a:BitVec 64):BitVec.ofInt 64 (IntKind.u8.wrap (uv a))=xt a 8 false:=by rw[e_u8];rfl
theorem x_t8 (a:BitVec 64):BitVec.ofInt 64 ((IntKind.i64.wrap (sv (BitVec.ofInt 64 (IntKind.u8.wrap (uv a)))*2^min (IntKind.i64.wrap (64-IntKind.i64.wrap (8*1))).toNat IntKind.i64.bits)).fdiv (2^min (IntKind.i64.wrap (64-IntKind.i64.wrap (8*1))).toNat IntKind.i64.bits))=xt a 8 true:=by
 have e1:min (IntKind.i64.wrap (64-IntKind.i64.wrap (8*1))).toNat IntKind.i64.bits=56:=by decide
 rw[e1,e_u8]
 have hy:a.toNat % 2^8<2^8:=Nat.mod_lt _ (by decide)
 unfold xt
 generalize a.toNat % 2^8=y at hy ⊢
 have e2:sv (BitVec.ofNat 64 y)=(y:Int):=by
  unfold sv
  rw[BitVec.toInt_eq_toNat_cond,BitVec.toNat_ofNat]
  split<;>omega
 rw[e2]
 have hm:(y:Int)*2^56 % 2^64=(y:Int)*2^56:=by omega
 apply BitVec.eq_of_toNat_eq
 simp only[IntKind.wrap,IntKind.signed,IntKind.bits,BitVec.toNat_ofInt,hm,Bool.true_and]
 rw[Int.fdiv_eq_ediv_of_nonneg _ (by decide)]
 by_cases h:2 ^ (8-1)≤y
 . rw[if_pos (by simp;omega),if_pos (by simp;omega),BitVec.toNat_ofNat]
   omega
 . rw[if_neg (by simp;omega),if_neg (by simp;omega),BitVec.toNat_ofNat]
   omega
theorem y_cut8 (a:BitVec 64):a % BitVec.ofInt 64 1 <<< (BitVec.ofInt 64 (IntKind.i64.wrap (8*1))).toNat=BitVec.ofNat 64 (a.toNat % 2^8):=by
 have e:BitVec.ofInt 64 1 <<< (BitVec.ofInt 64 (IntKind.i64.wrap (8*1))).toNat=BitVec.ofNat 64 (2^8):=by decide
 rw[e]
 apply BitVec.eq_of_toNat_eq
 have:=a.isLt
 rw[BitVec.toNat_umod,BitVec.toNat_ofNat,BitVec.toNat_ofNat,Nat.mod_eq_of_lt (show 2^8<2^64 by decide)]
 omega
theorem y_f8 (a:BitVec 64):a % BitVec.ofInt 64 1 <<< (BitVec.ofInt 64 (IntKind.i64.wrap (8*1))).toNat=xt a 8 false:=by rw[y_cut8];rfl
theorem y_neg8 (a:BitVec 64):((a % BitVec.ofInt 64 1 <<< (BitVec.ofInt 64 (IntKind.i64.wrap (8*1))).toNat) >>> (BitVec.ofInt 64 (IntKind.i64.wrap (IntKind.i64.wrap (8*1)-1))).toNat &&& BitVec.ofInt 64 1==BitVec.ofInt 64 1)=decide (2 ^ (8-1)≤a.toNat % 2^8):=by
 rw[y_cut8]
 have e:(BitVec.ofInt 64 (IntKind.i64.wrap (IntKind.i64.wrap (8*1)-1))).toNat=7:=by decide
 rw[e]
 have hy:a.toNat % 2^8<2^8:=Nat.mod_lt _ (by decide)
 generalize a.toNat % 2^8=y at hy ⊢
 have e3:((BitVec.ofNat 64 y >>> 7 &&& BitVec.ofInt 64 1).toNat)=y / 2^7 % 2:=by
  rw[BitVec.toNat_and,show(BitVec.ofInt 64 1).toNat=1 from rfl,Nat.and_one_is_mod,BitVec.toNat_ushiftRight,BitVec.toNat_ofNat,Nat.shiftRight_eq_div_pow]
  omega
 by_cases h:2 ^ (8-1)≤y
 . rw[decide_eq_true h,beq_iff_eq]
   apply BitVec.eq_of_toNat_eq
   rw[e3,show(BitVec.ofInt 64 1).toNat=1 from rfl]
   omega
 . rw[decide_eq_false h,beq_eq_false_iff_ne]
   intro hh
   have:=congrArg BitVec.toNat hh
   rw[e3,show(BitVec.ofInt 64 1).toNat=1 from rfl] at this
   omega
theorem y_t8 (a:BitVec 64)(h:decide (2 ^ (8-1)≤a.toNat % 2^8)=true):a % BitVec.ofInt 64 1 <<< (BitVec.ofInt 64 (IntKind.i64.wrap (8*1))).toNat-BitVec.ofInt 64 1 <<< (BitVec.ofInt 64 (IntKind.i64.wrap (8*1))).toNat=xt a 8 true:=by
 rw[y_cut8,show BitVec.ofInt 64 1 <<< (BitVec.ofInt 64 (IntKind.i64.wrap (8*1))).toNat=BitVec.ofNat 64 (2^8) by decide]
 unfold xt
 rw[h,if_pos (by rfl)]
 have hy:a.toNat % 2^8<2^8:=Nat.mod_lt _ (by decide)
 apply BitVec.eq_of_toNat_eq
 simp only[BitVec.toNat_sub,BitVec.toNat_ofNat]
 omega
theorem y_u8 (a:BitVec 64)(h:decide (2 ^ (8-1)≤a.toNat % 2^8)=false):a % BitVec.ofInt 64 1 <<< (BitVec.ofInt 64 (IntKind.i64.wrap (8*1))).toNat=xt a 8 true:=by
 rw[y_cut8];unfold xt;rw[h];rfl
theorem e_u16 (a:BitVec 64):BitVec.ofInt 64 (IntKind.u16.wrap (uv a))=BitVec.ofNat 64 (a.toNat % 2^16):=by
 apply BitVec.eq_of_toNat_eq
 have:=a.isLt
 simp[IntKind.wrap,uv,IntKind.signed,IntKind.bits]
 omega
theorem x_f16 (a:BitVec 64):BitVec.ofInt 64 (IntKind.u16.wrap (uv a))=xt a 16 false:=by rw[e_u16];rfl
theorem x_t16 (a:BitVec 64):BitVec.ofInt 64 ((IntKind.i64.wrap (sv (BitVec.ofInt 64 (IntKind.u16.wrap (uv a)))*2^min (IntKind.i64.wrap (64-IntKind.i64.wrap (8*2))).toNat IntKind.i64.bits)).fdiv (2^min (IntKind.i64.wrap (64-IntKind.i64.wrap (8*2))).toNat IntKind.i64.bits))=xt a 16 true:=by
 have e1:min (IntKind.i64.wrap (64-IntKind.i64.wrap (8*2))).toNat IntKind.i64.bits=48:=by decide
 rw[e1,e_u16]
 have hy:a.toNat % 2^16<2^16:=Nat.mod_lt _ (by decide)
 unfold xt
 generalize a.toNat % 2^16=y at hy ⊢
 have e2:sv (BitVec.ofNat 64 y)=(y:Int):=by
  unfold sv
  rw[BitVec.toInt_eq_toNat_cond,BitVec.toNat_ofNat]
  split<;>omega
 rw[e2]
 have hm:(y:Int)*2^48 % 2^64=(y:Int)*2^48:=by omega
 apply BitVec.eq_of_toNat_eq
 simp only[IntKind.wrap,IntKind.signed,IntKind.bits,BitVec.toNat_ofInt,hm,Bool.true_and]
 rw[Int.fdiv_eq_ediv_of_nonneg _ (by decide)]
 by_cases h:2 ^ (16-1)≤y
 . rw[if_pos (by simp;omega),if_pos (by simp;omega),BitVec.toNat_ofNat]
   omega
 . rw[if_neg (by simp;omega),if_neg (by simp;omega),BitVec.toNat_ofNat]
   omega
theorem y_cut16 (a:BitVec 64):a % BitVec.ofInt 64 1 <<< (BitVec.ofInt 64 (IntKind.i64.wrap (8*2))).toNat=BitVec.ofNat 64 (a.toNat % 2^16):=by
 have e:BitVec.ofInt 64 1 <<< (BitVec.ofInt 64 (IntKind.i64.wrap (8*2))).toNat=BitVec.ofNat 64 (2^16):=by decide
 rw[e]
 apply BitVec.eq_of_toNat_eq
 have:=a.isLt
 rw[BitVec.toNat_umod,BitVec.toNat_ofNat,BitVec.toNat_ofNat,Nat.mod_eq_of_lt (show 2^16<2^64 by decide)]
 omega
theorem y_f16 (a:BitVec 64):a % BitVec.ofInt 64 1 <<< (BitVec.ofInt 64 (IntKind.i64.wrap (8*2))).toNat=xt a 16 false:=by rw[y_cut16];rfl
theorem y_neg16 (a:BitVec 64):((a % BitVec.ofInt 64 1 <<< (BitVec.ofInt 64 (IntKind.i64.wrap (8*2))).toNat) >>> (BitVec.ofInt 64 (IntKind.i64.wrap (IntKind.i64.wrap (8*2)-1))).toNat &&& BitVec.ofInt 64 1==BitVec.ofInt 64 1)=decide (2 ^ (16-1)≤a.toNat % 2^16):=by
 rw[y_cut16]
 have e:(BitVec.ofInt 64 (IntKind.i64.wrap (IntKind.i64.wrap (8*2)-1))).toNat=15:=by decide
 rw[e]
 have hy:a.toNat % 2^16<2^16:=Nat.mod_lt _ (by decide)
 generalize a.toNat % 2^16=y at hy ⊢
 have e3:((BitVec.ofNat 64 y >>> 15 &&& BitVec.ofInt 64 1).toNat)=y / 2^15 % 2:=by
  rw[BitVec.toNat_and,show(BitVec.ofInt 64 1).toNat=1 from rfl,Nat.and_one_is_mod,BitVec.toNat_ushiftRight,BitVec.toNat_ofNat,Nat.shiftRight_eq_div_pow]
  omega
 by_cases h:2 ^ (16-1)≤y
 . rw[decide_eq_true h,beq_iff_eq]
   apply BitVec.eq_of_toNat_eq
   rw[e3,show(BitVec.ofInt 64 1).toNat=1 from rfl]
   omega
 . rw[decide_eq_false h,beq_eq_false_iff_ne]
   intro hh
   have:=congrArg BitVec.toNat hh
   rw[e3,show(BitVec.ofInt 64 1).toNat=1 from rfl] at this
   omega
theorem y_t16 (a:BitVec 64)(h:decide (2 ^ (16-1)≤a.toNat % 2^16)=true):a % BitVec.ofInt 64 1 <<< (BitVec.ofInt 64 (IntKind.i64.wrap (8*2))).toNat-BitVec.ofInt 64 1 <<< (BitVec.ofInt 64 (IntKind.i64.wrap (8*2))).toNat=xt a 16 true:=by
 rw[y_cut16,show BitVec.ofInt 64 1 <<< (BitVec.ofInt 64 (IntKind.i64.wrap (8*2))).toNat=BitVec.ofNat 64 (2^16) by decide]
 unfold xt
 rw[h,if_pos (by rfl)]
 have hy:a.toNat % 2^16<2^16:=Nat.mod_lt _ (by decide)
 apply BitVec.eq_of_toNat_eq
 simp only[BitVec.toNat_sub,BitVec.toNat_ofNat]
 omega
theorem y_u16 (a:BitVec 64)(h:decide (2 ^ (16-1)≤a.toNat % 2^16)=false):a % BitVec.ofInt 64 1 <<< (BitVec.ofInt 64 (IntKind.i64.wrap (8*2))).toNat=xt a 16 true:=by
 rw[y_cut16];unfold xt;rw[h];rfl
theorem e_u32 (a:BitVec 64):BitVec.ofInt 64 (IntKind.u32.wrap (uv a))=BitVec.ofNat 64 (a.toNat % 2^32):=by
 apply BitVec.eq_of_toNat_eq
 have:=a.isLt
 simp[IntKind.wrap,uv,IntKind.signed,IntKind.bits]
 omega
theorem x_f32 (a:BitVec 64):BitVec.ofInt 64 (IntKind.u32.wrap (uv a))=xt a 32 false:=by rw[e_u32];rfl
theorem x_t32 (a:BitVec 64):BitVec.ofInt 64 ((IntKind.i64.wrap (sv (BitVec.ofInt 64 (IntKind.u32.wrap (uv a)))*2^min (IntKind.i64.wrap (64-IntKind.i64.wrap (8*4))).toNat IntKind.i64.bits)).fdiv (2^min (IntKind.i64.wrap (64-IntKind.i64.wrap (8*4))).toNat IntKind.i64.bits))=xt a 32 true:=by
 have e1:min (IntKind.i64.wrap (64-IntKind.i64.wrap (8*4))).toNat IntKind.i64.bits=32:=by decide
 rw[e1,e_u32]
 have hy:a.toNat % 2^32<2^32:=Nat.mod_lt _ (by decide)
 unfold xt
 generalize a.toNat % 2^32=y at hy ⊢
 have e2:sv (BitVec.ofNat 64 y)=(y:Int):=by
  unfold sv
  rw[BitVec.toInt_eq_toNat_cond,BitVec.toNat_ofNat]
  split<;>omega
 rw[e2]
 have hm:(y:Int)*2^32 % 2^64=(y:Int)*2^32:=by omega
 apply BitVec.eq_of_toNat_eq
 simp only[IntKind.wrap,IntKind.signed,IntKind.bits,BitVec.toNat_ofInt,hm,Bool.true_and]
 rw[Int.fdiv_eq_ediv_of_nonneg _ (by decide)]
 by_cases h:2 ^ (32-1)≤y
 . rw[if_pos (by simp;omega),if_pos (by simp;omega),BitVec.toNat_ofNat]
   omega
 . rw[if_neg (by simp;omega),if_neg (by simp;omega),BitVec.toNat_ofNat]
   omega
theorem y_cut32 (a:BitVec 64):a % BitVec.ofInt 64 1 <<< (BitVec.ofInt 64 (IntKind.i64.wrap (8*4))).toNat=BitVec.ofNat 64 (a.toNat % 2^32):=by
 have e:BitVec.ofInt 64 1 <<< (BitVec.ofInt 64 (IntKind.i64.wrap (8*4))).toNat=BitVec.ofNat 64 (2^32):=by decide
 rw[e]
 apply BitVec.eq_of_toNat_eq
 have:=a.isLt
 rw[BitVec.toNat_umod,BitVec.toNat_ofNat,BitVec.toNat_ofNat,Nat.mod_eq_of_lt (show 2^32<2^64 by decide)]
 omega
theorem y_f32 (a:BitVec 64):a % BitVec.ofInt 64 1 <<< (BitVec.ofInt 64 (IntKind.i64.wrap (8*4))).toNat=xt a 32 false:=by rw[y_cut32];rfl
theorem y_neg32 (a:BitVec 64):((a % BitVec.ofInt 64 1 <<< (BitVec.ofInt 64 (IntKind.i64.wrap (8*4))).toNat) >>> (BitVec.ofInt 64 (IntKind.i64.wrap (IntKind.i64.wrap (8*4)-1))).toNat &&& BitVec.ofInt 64 1==BitVec.ofInt 64 1)=decide (2 ^ (32-1)≤a.toNat % 2^32):=by
 rw[y_cut32]
 have e:(BitVec.ofInt 64 (IntKind.i64.wrap (IntKind.i64.wrap (8*4)-1))).toNat=31:=by decide
 rw[e]
 have hy:a.toNat % 2^32<2^32:=Nat.mod_lt _ (by decide)
 generalize a.toNat % 2^32=y at hy ⊢
 have e3:((BitVec.ofNat 64 y >>> 31 &&& BitVec.ofInt 64 1).toNat)=y / 2^31 % 2:=by
  rw[BitVec.toNat_and,show(BitVec.ofInt 64 1).toNat=1 from rfl,Nat.and_one_is_mod,BitVec.toNat_ushiftRight,BitVec.toNat_ofNat,Nat.shiftRight_eq_div_pow]
  omega
 by_cases h:2 ^ (32-1)≤y
 . rw[decide_eq_true h,beq_iff_eq]
   apply BitVec.eq_of_toNat_eq
   rw[e3,show(BitVec.ofInt 64 1).toNat=1 from rfl]
   omega
 . rw[decide_eq_false h,beq_eq_false_iff_ne]
   intro hh
   have:=congrArg BitVec.toNat hh
   rw[e3,show(BitVec.ofInt 64 1).toNat=1 from rfl] at this
   omega
theorem y_t32 (a:BitVec 64)(h:decide (2 ^ (32-1)≤a.toNat % 2^32)=true):a % BitVec.ofInt 64 1 <<< (BitVec.ofInt 64 (IntKind.i64.wrap (8*4))).toNat-BitVec.ofInt 64 1 <<< (BitVec.ofInt 64 (IntKind.i64.wrap (8*4))).toNat=xt a 32 true:=by
 rw[y_cut32,show BitVec.ofInt 64 1 <<< (BitVec.ofInt 64 (IntKind.i64.wrap (8*4))).toNat=BitVec.ofNat 64 (2^32) by decide]
 unfold xt
 rw[h,if_pos (by rfl)]
 have hy:a.toNat % 2^32<2^32:=Nat.mod_lt _ (by decide)
 apply BitVec.eq_of_toNat_eq
 simp only[BitVec.toNat_sub,BitVec.toNat_ofNat]
 omega
theorem y_u32 (a:BitVec 64)(h:decide (2 ^ (32-1)≤a.toNat % 2^32)=false):a % BitVec.ofInt 64 1 <<< (BitVec.ofInt 64 (IntKind.i64.wrap (8*4))).toNat=xt a 32 true:=by
 rw[y_cut32];unfold xt;rw[h];rfl
theorem x_t64 (a:BitVec 64):BitVec.ofInt 64 ((IntKind.i64.wrap (sv a*2^min (IntKind.i64.wrap (64-IntKind.i64.wrap (8*8))).toNat IntKind.i64.bits)).fdiv (2^min (IntKind.i64.wrap (64-IntKind.i64.wrap (8*8))).toNat IntKind.i64.bits))=a:=by
 have e1:min (IntKind.i64.wrap (64-IntKind.i64.wrap (8*8))).toNat IntKind.i64.bits=0:=by decide
 rw[e1]
 have:=a.isLt
 apply BitVec.eq_of_toNat_eq
 unfold sv
 rw[BitVec.toInt_eq_toNat_cond,Int.fdiv_eq_ediv_of_nonneg _ (by decide)]
 simp only[IntKind.wrap,IntKind.signed,IntKind.bits,BitVec.toNat_ofInt,Bool.true_and,decide_eq_true_eq]
 split<;>split<;>omega
end W
namespace C
open S
theorem of_zero {t:Tn}{s:Sp}(h:(of t s).2=false):(of t s).1=const (BitVec.ofInt 64 0):=by
 unfold of at h ⊢
 split at h
 . rename_i hc
   rw[if_pos hc]
   cases ht:tog ⟨t,s⟩ with
   |none=>rfl
   |some y=>rw[ht] at h;cases h
 . rename_i hc
   rw[if_neg hc];rfl
theorem of_any {t:Tn}{s:Sp}(hi:R.inS s=true):right (of t s).1=true:=by
 cases h:(of t s).2 with
 |true=>exact of_right hi h
 |false=>rw[of_zero h];exact const_right _
def cutG (x:Sc)(l:Tn)(p:BitVec 64):Sc:=if decide (x.s.hi<p) then x else (of l ⟨BitVec.ofInt 64 0,p-BitVec.ofInt 64 1,0,sv (p-BitVec.ofInt 64 1)⟩).1
theorem sv_small {x:BitVec 64}(h:x.toNat<9223372036854775808):sv x=(x.toNat:Int):=by
 unfold sv;rw[BitVec.toInt_eq_toNat_cond];split<;>omega
theorem sv_big {x:BitVec 64}(h:9223372036854775808≤x.toNat):sv x=(x.toNat:Int)-18446744073709551616:=by
 unfold sv;rw[BitVec.toInt_eq_toNat_cond];have:=x.isLt;split<;>omega
theorem topI (p:BitVec 64):R.inS ⟨BitVec.ofInt 64 0,p-BitVec.ofInt 64 1,0,sv (p-BitVec.ofInt 64 1)⟩=true:=S.inS_iff.2 ⟨⟨by show(-9223372036854775808:Int)≤0;decide,by show(0:Int)≤9223372036854775807;decide⟩,S.sv_in _⟩
theorem cutG_right {x:Sc}{l:Tn}{p:BitVec 64}(hr:right x=true):right (cutG x l p)=true:=by
 unfold cutG;split
 . exact hr
 . exact of_any (topI p)
theorem cutG_in {x:Sc}{l:Tn}{p:BitVec 64}(hi:R.inS x.s=true):R.inS (cutG x l p).s=true:=by
 unfold cutG;split
 . exact hi
 . exact of_in (topI p)
theorem xt_f (n:BitVec 64)(k:Nat)(hk:k≤32):(W.xt n k false).toNat=n.toNat % 2^k:=by
 have:n.toNat % 2^k<2^k:=Nat.mod_lt _ (Nat.two_pow_pos k)
 have h2:2^k≤2^32:=Nat.pow_le_pow_right (by decide) hk
 show(BitVec.ofNat 64 (n.toNat % 2^k)).toNat=_
 rw[BitVec.toNat_ofNat]
 omega
theorem cutG_has {x:Sc}{l:Tn}{p n:BitVec 64}{k:Nat}(hk:k≤32)(hp:p.toNat=2^k)(h:hasb x n=true)(hl:T.has l (W.xt n k false)=true):hasb (cutG x l p) (W.xt n k false)=true:=by
 obtain⟨hr,hin⟩:=hasb_iff.1 h
 have e:=xt_f n k hk
 have hm:n.toNat % 2^k<2^k:=Nat.mod_lt _ (Nat.two_pow_pos k)
 have h2:2^k≤2^32:=Nat.pow_le_pow_right (by decide) hk
 unfold cutG;split
 . rename_i hc
   have hc:=of_decide_eq_true hc
   rw[BitVec.lt_def] at hc
   have:=hin.hi
   have en:W.xt n k false=n:=eq_toNat.2 (by rw[e];exact Nat.mod_eq_of_lt (by omega))
   rw[en];exact h
 . have hpp:(p-BitVec.ofInt 64 1).toNat=2^k-1:=by
    rw[BitVec.toNat_sub,hp,show(BitVec.ofInt 64 1).toNat=1 from rfl]
    have:=Nat.two_pow_pos k
    omega
   have h3:=of_has (t:=l) (s:=⟨BitVec.ofInt 64 0,p-BitVec.ofInt 64 1,0,sv (p-BitVec.ofInt 64 1)⟩) (topI p) (W.xt n k false)
   have hs:S.has ⟨BitVec.ofInt 64 0,p-BitVec.ofInt 64 1,0,sv (p-BitVec.ofInt 64 1)⟩ (W.xt n k false)=true:=by
    rw[S.has_iff]
    refine⟨Nat.zero_le _,Nat.le_refl _,?_,?_,Int.le_refl _,?_⟩
    . show(W.xt n k false).toNat≤(p-BitVec.ofInt 64 1).toNat;rw[e,hpp];omega
    . show(0:Int)≤sv (W.xt n k false);rw[sv_small (by omega)];omega
    . show sv (W.xt n k false)≤sv (p-BitVec.ofInt 64 1);rw[sv_small (by omega),sv_small (by omega),e,hpp];omega
   rw[hl,hs] at h3
   have h3:=h3.symm
   rw[Bool.and_self,Bool.and_eq_true] at h3
   exact h3.2
theorem xt_t (n:BitVec 64){k:Nat}(h0:0<k)(hk:k≤32):((W.xt n k false).toNat<2 ^ (k-1)∧W.xt n k true=W.xt n k false)∨(2 ^ (k-1)≤(W.xt n k false).toNat∧(W.xt n k true).toNat=(W.xt n k false).toNat+(2^64-2^k)):=by
 have e:=xt_f n k hk
 have hm:n.toNat % 2^k<2^k:=Nat.mod_lt _ (Nat.two_pow_pos k)
 have h2:2^k≤2^32:=Nat.pow_le_pow_right (by decide) hk
 by_cases c:2 ^ (k-1)≤n.toNat % 2^k
 . refine .inr ⟨by omega,?_⟩
   have:W.xt n k true=BitVec.ofNat 64 (n.toNat % 2^k+(2^64-2^k)):=by unfold W.xt;rw[decide_eq_true c];rfl
   rw[this,BitVec.toNat_ofNat,e]
   omega
 . refine .inl ⟨by omega,?_⟩
   unfold W.xt;rw[decide_eq_false c];rfl
theorem xt_idem (n:BitVec 64){k:Nat}(hk:k≤32)(sg:Bool):W.xt (W.xt n k false) k sg=W.xt n k sg:=by
 have e:=xt_f n k hk
 unfold W.xt
 rw[show(if (false&&decide (2 ^ (k-1)≤n.toNat % 2^k))=true then BitVec.ofNat 64 (n.toNat % 2^k+(2^64-2^k)) else BitVec.ofNat 64 (n.toNat % 2^k))=W.xt n k false from rfl,e,Nat.mod_mod]
end C
end Go.Proofs.YtfjemlegodhfnaaGreat
namespace Go.Proofs
open Go.Shelf
def Tryz.lays134_ren:Go.Shelf.Ren:=⟨fun|134=>105|129=>107|n=>n,fun|53=>23|3=>3|4=>4|46=>59|5=>5|9=>9|n=>n,fun|n=>n⟩
theorem Tryz.lays134:Go.Proofs.Lays.n134 Tryz.prog Tryz.lays134_ren:={
 mixed:=by kernel_rfl
 f129:=Tryz.func107.trans (congrArg some (by kernel_rfl))
 f134:=Tryz.func105.trans (congrArg some (by kernel_rfl))
 t3:=Tryz.underlying3
 a3:=Tryz.isAgg3
 z3:=Tryz.sizeOf3
 v3:=Tryz.zeroValue3
 t4:=Tryz.underlying4
 a4:=Tryz.isAgg4
 z4:=Tryz.sizeOf4
 v4:=Tryz.zeroValue4
 t5:=Tryz.underlying5
 a5:=Tryz.isAgg5
 z5:=Tryz.sizeOf5
 v5:=Tryz.zeroValue5
 t9:=Tryz.underlying9
 a9:=Tryz.isAgg9
 z9:=Tryz.sizeOf9
 v9:=Tryz.zeroValue9
 t46:=Tryz.underlying59
 a46:=Tryz.isAgg59
 z46:=Tryz.sizeOf59
 v46:=Tryz.zeroValue59
 t53:=Tryz.underlying23
 a53:=Tryz.isAgg23
 z53:=Tryz.sizeOf23
 v53:=Tryz.zeroValue23}
theorem Tryz.bits_LeadingZeros64 (x:Int)(w:World)(h0:0≤x)(h1:x≤18446744073709551615):
 Calls Tryz.prog 105 #[.int .u64 x] w fun e w'=>e = .returned (.int .i64 (64 - (Lib.bitLen x.toNat:Int)))∧w'=w:=Any.bits_LeadingZeros64 Tryz.lays134 x w h0 h1
def Tryz.lays129_ren:Go.Shelf.Ren:=⟨fun|129=>107|n=>n,fun|53=>23|3=>3|4=>4|46=>59|5=>5|9=>9|n=>n,fun|n=>n⟩
theorem Tryz.lays129:Go.Proofs.Lays.n129 Tryz.prog Tryz.lays129_ren:={
 mixed:=by kernel_rfl
 f129:=Tryz.func107.trans (congrArg some (by kernel_rfl))
 t3:=Tryz.underlying3
 a3:=Tryz.isAgg3
 z3:=Tryz.sizeOf3
 v3:=Tryz.zeroValue3
 t4:=Tryz.underlying4
 a4:=Tryz.isAgg4
 z4:=Tryz.sizeOf4
 v4:=Tryz.zeroValue4
 t5:=Tryz.underlying5
 a5:=Tryz.isAgg5
 z5:=Tryz.sizeOf5
 v5:=Tryz.zeroValue5
 t9:=Tryz.underlying9
 a9:=Tryz.isAgg9
 z9:=Tryz.sizeOf9
 v9:=Tryz.zeroValue9
 t46:=Tryz.underlying59
 a46:=Tryz.isAgg59
 z46:=Tryz.sizeOf59
 v46:=Tryz.zeroValue59
 t53:=Tryz.underlying23
 a53:=Tryz.isAgg23
 z53:=Tryz.sizeOf23
 v53:=Tryz.zeroValue23}
theorem Tryz.bits_Len64 (x:Int)(w:World)(h0:0≤x)(h1:x≤18446744073709551615):
 Calls Tryz.prog 107 #[.int .u64 x] w fun e w'=>e = .returned (.int .i64 (Lib.bitLen x.toNat))∧w'=w:=Any.bits_Len64 Tryz.lays129 x w h0 h1
end Go.Proofs
namespace Go.Proofs.YtfjemlegodhfnaaGreat
open Go.RowKit Go.Sx
set_option maxRecDepth 100000
set_option maxHeartbeats 4000000
def Gw (_:World):Prop:=True
theorem st_Gw:Stable Gw:=fun _ _ _ _=>trivial
@[reducible] def tsv (t:Tn):SV:=.agg [.u64 t.v,.u64 t.m]
def eqs:List (TypeId×List CK):=[(29,[.int,.int,.int,.int,.int,.int]),(31,[.int,.int,.int,.int,.int,.int,.int,.int,.int,.int,.int,.bool])]
theorem eqs_ok:∀ p∈eqs,EqOk Tryz.prog p.1 p.2:=by
 have h:(eqs.all fun p=>eqB Tryz.prog p.1 p.2)=true:=by kernel_rfl
 exact fun p hp=>eqB_ok (List.all_eq_true.1 h p hp)
theorem mixed:Okay Tryz.prog:=⟨by kernel_rfl,fun f=>by unfold fnOk;exact Iff.rfl⟩
theorem c_lz (x:BitVec 64)(w:World):Calls Tryz.prog 105 #[.int .u64 (uv x)] w (Ret w (.int .i64 (64 - (bl x:Int)))):=
 (Tryz.bits_LeadingZeros64 (uv x) w (uv_nonneg x) (by have:=uv_lt x;omega)).mono fun e w' ⟨he,hw⟩=>⟨he,grow_mk (hw▸up_refl w)⟩
def mixs:List (TypeId×List SV):=[(37,[.arr 11 12 (fun _=>[.int .u8 0,.u64 (BitVec.ofInt 64 0),.u64 (BitVec.ofInt 64 0),.u64 (BitVec.ofInt 64 0),.u64 (BitVec.ofInt 64 0),.int .i64 0,.int .i64 0,.int .i64 0,.int .i64 0,.int .i64 0,.int .i64 0,.bool false]),.arr 64 14 (fun _=>.bool false :: .int .u8 0::[.int .u8 0,.u64 (BitVec.ofInt 64 0),.u64 (BitVec.ofInt 64 0),.u64 (BitVec.ofInt 64 0),.u64 (BitVec.ofInt 64 0),.int .i64 0,.int .i64 0,.int .i64 0,.int .i64 0,.int .i64 0,.int .i64 0,.bool false]),.int .i64 0])]
theorem mixs_ok:∀ p∈mixs,MixOk Tryz.prog p.1 p.2:=by
 intro p hp
 simp only[mixs,List.mem_singleton] at hp
 subst hp
 obtain⟨it,hi,v,hv,hc⟩:∃ it,Tryz.prog.info? 37=some it∧∃ v,it.zero=some v∧v.cells=(mixL [.arr 11 12 (fun _=>[.int .u8 0,.u64 (BitVec.ofInt 64 0),.u64 (BitVec.ofInt 64 0),.u64 (BitVec.ofInt 64 0),.u64 (BitVec.ofInt 64 0),.int .i64 0,.int .i64 0,.int .i64 0,.int .i64 0,.int .i64 0,.int .i64 0,.bool false]),.arr 64 14 (fun _=>.bool false :: .int .u8 0::[.int .u8 0,.u64 (BitVec.ofInt 64 0),.u64 (BitVec.ofInt 64 0),.u64 (BitVec.ofInt 64 0),.u64 (BitVec.ofInt 64 0),.int .i64 0,.int .i64 0,.int .i64 0,.int .i64 0,.int .i64 0,.int .i64 0,.bool false]),.int .i64 0] [.bool false,.bool false,.int .i64 0]).toArray:=⟨_,rfl,_,rfl,by kernel_rfl⟩
 exact⟨⟨it,v,hi,hv,fun ρ=>hc⟩,rfl⟩
def meqs:List (TypeId×List (Nat×List CK)):=[(37,[(11,[.int,.int,.int,.int,.int,.int,.int,.int,.int,.int,.int,.bool]),(64,[.bool,.int,.int,.int,.int,.int,.int,.int,.int,.int,.int,.int,.int,.bool]),(1,[.int])])]
theorem meqs_ok:∀ p∈meqs,EqOk Tryz.prog p.1 (runsF p.2):=by
 intro p hp
 simp only[meqs,List.mem_singleton] at hp
 subst hp
 exact eqB_ok (by kernel_rfl)
def k_lz:List SV→List Blk→Res:=fun args _=>match args with
 |[.u64 x]=>.ok (.int .i64 (64 - (bl x:Int))) []
 |_=>.fail
theorem k_lz_ok:CtrOk Tryz.prog Gw 105 k_lz:=by
 refine⟨fun _ _=>by kernel_rfl,fun args M => ?_⟩
 unfold k_lz
 split
 . rename_i x
   exact fun B ρ w hG hM=>ctr_ret hM (sv:=.int .i64 (64 - (bl x:Int))) (args:=[.u64 x]) (fun _=>rfl) (c_lz x w)
 . trivial
end Go.Proofs.YtfjemlegodhfnaaGreat
namespace Go.Proofs.YtfjemlegodhfnaaGreat
open Go.RowKit Go.Sx
set_option maxRecDepth 100000
set_option maxHeartbeats 4000000
end Go.Proofs.YtfjemlegodhfnaaGreat
