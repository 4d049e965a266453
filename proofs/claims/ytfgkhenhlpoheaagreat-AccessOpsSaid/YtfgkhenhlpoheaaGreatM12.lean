import Derived.Test.YtfgkhenhlpoheaaGreatM11
import Derived.Shelf.Small.Bits
import Derived.Shelf.Strconv.Itoa0
import Derived.Test.YtfgkhenhlpoheaaGreatProg
import Derived.Test.YtfgkhenhlpoheaaGreatM10
import Derived.RecoverIn
set_option linter.all false
namespace Go.Proofs.YtfgkhenhlpoheaaGreat
open Go.RowKit
set_option maxHeartbeats 1000000
namespace W
def xt (a:BitVec 64)(k:Nat)(sg:Bool):BitVec 64:=if sg&&decide (2 ^ (k-1)≤a.toNat % 2^k) then BitVec.ofNat 64 (a.toNat % 2^k+(2^64-2^k)) else BitVec.ofNat 64 (a.toNat % 2^k)
def extB (a:BitVec 64)(n:Int)(sg:Bool):BitVec 64×Bool:=if n==1 then (xt a 8 sg,true) else if n==2 then (xt a 16 sg,true) else if n==4 then (xt a 32 sg,true) else if n==8 then (a,true) else (0#64,false)
theorem e_u8 (a:BitVec 64):BitVec.ofInt 64 (IntKind.u8.wrap (uv a))=BitVec.ofNat 64 (a.toNat % 2^8):=by
 apply BitVec.eq_of_toNat_eq
 have:=a.isLt
 simp[IntKind.wrap,uv,IntKind.signed,IntKind.bits]
 omega
theorem x_f8 (a:BitVec 64):BitVec.ofInt 64 (IntKind.u8.wrap (uv a))=xt a 8 false:=by rw[e_u8];rfl
theorem x_t8 (a:BitVec 64):BitVec.ofInt 64 ((IntKind.i64.wrap (sv (BitVec.ofInt 64 (IntKind.u8.wrap (uv a)))*2^min (IntKind.i64.wrap (64-IntKind.i64.wrap (8*1))).toNat IntKind.i64.bits)).fdiv (2^min (IntKind.i64.wrap (64-IntKind.i64.wrap (8*1))).toNat IntKind.i64.bits))=xt a 8 true:=by
 have e1:min (IntKind.i64.wrap (64-IntKind.i64.wrap (8*1))).toNat IntKind.i64.bits=56:=by decide
 rw[e1,e_u8]
 have hy:a.toNat % 2^8<2^8:=Nat.mod_lt _ (by decide)
 unfold xt
 generalize a.toNat % 2^8=y at hy ⊢
 have e2:sv (BitVec.ofNat 64 y)=(y:Int):=by
  unfold sv
  rw[BitVec.toInt_eq_toNat_cond,BitVec.toNat_ofNat]
  split<;>omega
 rw[e2]
 have hm:(y:Int)*2^56 % 2^64=(y:Int)*2^56:=by omega
 apply BitVec.eq_of_toNat_eq
 simp only[IntKind.wrap,IntKind.signed,IntKind.bits,BitVec.toNat_ofInt,hm,Bool.true_and]
 rw[Int.fdiv_eq_ediv_of_nonneg _ (by decide)]
 by_cases h:2 ^ (8-1)≤y
 . rw[if_pos (by simp;omega),if_pos (by simp;omega),BitVec.toNat_ofNat]
   omega
 . rw[if_neg (by simp;omega),if_neg (by simp;omega),BitVec.toNat_ofNat]
   omega
theorem y_cut8 (a:BitVec 64):a % BitVec.ofInt 64 1 <<< (BitVec.ofInt 64 (IntKind.i64.wrap (8*1))).toNat=BitVec.ofNat 64 (a.toNat % 2^8):=by
 have e:BitVec.ofInt 64 1 <<< (BitVec.ofInt 64 (IntKind.i64.wrap (8*1))).toNat=BitVec.ofNat 64 (2^8):=by decide
 rw[e]
 apply BitVec.eq_of_toNat_eq
 have:=a.isLt
 rw[BitVec.toNat_umod,BitVec.toNat_ofNat,BitVec.toNat_ofNat,Nat.mod_eq_of_lt (show 2^8<2^64 by decide)]
 omega
theorem y_f8 (a:BitVec 64):a % BitVec.ofInt 64 1 <<< (BitVec.ofInt 64 (IntKind.i64.wrap (8*1))).toNat=xt a 8 false:=by rw[y_cut8];rfl
theorem y_neg8 (a:BitVec 64):((a % BitVec.ofInt 64 1 <<< (BitVec.ofInt 64 (IntKind.i64.wrap (8*1))).toNat) >>> (BitVec.ofInt 64 (IntKind.i64.wrap (IntKind.i64.wrap (8*1)-1))).toNat &&& BitVec.ofInt 64 1==BitVec.ofInt 64 1)=decide (2 ^ (8-1)≤a.toNat % 2^8):=by
 rw[y_cut8]
 have e:(BitVec.ofInt 64 (IntKind.i64.wrap (IntKind.i64.wrap (8*1)-1))).toNat=7:=by decide
 rw[e]
 have hy:a.toNat % 2^8<2^8:=Nat.mod_lt _ (by decide)
 generalize a.toNat % 2^8=y at hy ⊢
 have e3:((BitVec.ofNat 64 y >>> 7 &&& BitVec.ofInt 64 1).toNat)=y / 2^7 % 2:=by
  rw[BitVec.toNat_and,show(BitVec.ofInt 64 1).toNat=1 from rfl,Nat.and_one_is_mod,BitVec.toNat_ushiftRight,BitVec.toNat_ofNat,Nat.shiftRight_eq_div_pow]
  omega
 by_cases h:2 ^ (8-1)≤y
 . rw[decide_eq_true h,beq_iff_eq]
   apply BitVec.eq_of_toNat_eq
   rw[e3,show(BitVec.ofInt 64 1).toNat=1 from rfl]
   omega
 . rw[decide_eq_false h,beq_eq_false_iff_ne]
   intro hh
   have:=congrArg BitVec.toNat hh
   rw[e3,show(BitVec.ofInt 64 1).toNat=1 from rfl] at this
   omega
theorem y_t8 (a:BitVec 64)(h:decide (2 ^ (8-1)≤a.toNat % 2^8)=true):a % BitVec.ofInt 64 1 <<< (BitVec.ofInt 64 (IntKind.i64.wrap (8*1))).toNat-BitVec.ofInt 64 1 <<< (BitVec.ofInt 64 (IntKind.i64.wrap (8*1))).toNat=xt a 8 true:=by
 rw[y_cut8,show BitVec.ofInt 64 1 <<< (BitVec.ofInt 64 (IntKind.i64.wrap (8*1))).toNat=BitVec.ofNat 64 (2^8) by decide]
 unfold xt
 rw[h,if_pos (by rfl)]
 have hy:a.toNat % 2^8<2^8:=Nat.mod_lt _ (by decide)
 apply BitVec.eq_of_toNat_eq
 simp only[BitVec.toNat_sub,BitVec.toNat_ofNat]
 omega
theorem y_u8 (a:BitVec 64)(h:decide (2 ^ (8-1)≤a.toNat % 2^8)=false):a % BitVec.ofInt 64 1 <<< (BitVec.ofInt 64 (IntKind.i64.wrap (8*1))).toNat=xt a 8 true:=by
 rw[y_cut8];unfold xt;rw[h];rfl
theorem e_u16 (a:BitVec 64):BitVec.ofInt 64 (IntKind.u16.wrap (uv a))=BitVec.ofNat 64 (a.toNat % 2^16):=by
 apply BitVec.eq_of_toNat_eq
 have:=a.isLt
 simp[IntKind.wrap,uv,IntKind.signed,IntKind.bits]
 omega
theorem x_f16 (a:BitVec 64):BitVec.ofInt 64 (IntKind.u16.wrap (uv a))=xt a 16 false:=by rw[e_u16];rfl
theorem x_t16 (a:BitVec 64):BitVec.ofInt 64 ((IntKind.i64.wrap (sv (BitVec.ofInt 64 (IntKind.u16.wrap (uv a)))*2^min (IntKind.i64.wrap (64-IntKind.i64.wrap (8*2))).toNat IntKind.i64.bits)).fdiv (2^min (IntKind.i64.wrap (64-IntKind.i64.wrap (8*2))).toNat IntKind.i64.bits))=xt a 16 true:=by
 have e1:min (IntKind.i64.wrap (64-IntKind.i64.wrap (8*2))).toNat IntKind.i64.bits=48:=by decide
 rw[e1,e_u16]
 have hy:a.toNat % 2^16<2^16:=Nat.mod_lt _ (by decide)
 unfold xt
 generalize a.toNat % 2^16=y at hy ⊢
 have e2:sv (BitVec.ofNat 64 y)=(y:Int):=by
  unfold sv
  rw[BitVec.toInt_eq_toNat_cond,BitVec.toNat_ofNat]
  split<;>omega
 rw[e2]
 have hm:(y:Int)*2^48 % 2^64=(y:Int)*2^48:=by omega
 apply BitVec.eq_of_toNat_eq
 simp only[IntKind.wrap,IntKind.signed,IntKind.bits,BitVec.toNat_ofInt,hm,Bool.true_and]
 rw[Int.fdiv_eq_ediv_of_nonneg _ (by decide)]
 by_cases h:2 ^ (16-1)≤y
 . rw[if_pos (by simp;omega),if_pos (by simp;omega),BitVec.toNat_ofNat]
   omega
 . rw[if_neg (by simp;omega),if_neg (by simp;omega),BitVec.toNat_ofNat]
   omega
theorem y_cut16 (a:BitVec 64):a % BitVec.ofInt 64 1 <<< (BitVec.ofInt 64 (IntKind.i64.wrap (8*2))).toNat=BitVec.ofNat 64 (a.toNat % 2^16):=by
 have e:BitVec.ofInt 64 1 <<< (BitVec.ofInt 64 (IntKind.i64.wrap (8*2))).toNat=BitVec.ofNat 64 (2^16):=by decide
 rw[e]
 apply BitVec.eq_of_toNat_eq
 have:=a.isLt
 rw[BitVec.toNat_umod,BitVec.toNat_ofNat,BitVec.toNat_ofNat,Nat.mod_eq_of_lt (show 2^16<2^64 by decide)]
 omega
theorem y_f16 (a:BitVec 64):a % BitVec.ofInt 64 1 <<< (BitVec.ofInt 64 (IntKind.i64.wrap (8*2))).toNat=xt a 16 false:=by rw[y_cut16];rfl
theorem y_neg16 (a:BitVec 64):((a % BitVec.ofInt 64 1 <<< (BitVec.ofInt 64 (IntKind.i64.wrap (8*2))).toNat) >>> (BitVec.ofInt 64 (IntKind.i64.wrap (IntKind.i64.wrap (8*2)-1))).toNat &&& BitVec.ofInt 64 1==BitVec.ofInt 64 1)=decide (2 ^ (16-1)≤a.toNat % 2^16):=by
 rw[y_cut16]
 have e:(BitVec.ofInt 64 (IntKind.i64.wrap (IntKind.i64.wrap (8*2)-1))).toNat=15:=by decide
 rw[e]
 have hy:a.toNat % 2^16<2^16:=Nat.mod_lt _ (by decide)
 generalize a.toNat % 2^16=y at hy ⊢
 have e3:((BitVec.ofNat 64 y >>> 15 &&& BitVec.ofInt 64 1).toNat)=y / 2^15 % 2:=by
  rw[BitVec.toNat_and,show(BitVec.ofInt 64 1).toNat=1 from rfl,Nat.and_one_is_mod,BitVec.toNat_ushiftRight,BitVec.toNat_ofNat,Nat.shiftRight_eq_div_pow]
  omega
 by_cases h:2 ^ (16-1)≤y
 . rw[decide_eq_true h,beq_iff_eq]
   apply BitVec.eq_of_toNat_eq
   rw[e3,show(BitVec.ofInt 64 1).toNat=1 from rfl]
   omega
 . rw[decide_eq_false h,beq_eq_false_iff_ne]
   intro hh
   have:=congrArg BitVec.toNat hh
   rw[e3,show(BitVec.ofInt 64 1).toNat=1 from rfl] at this
   omega
theorem y_t16 (a:BitVec 64)(h:decide (2 ^ (16-1)≤a.toNat % 2^16)=true):a % BitVec.ofInt 64 1 <<< (BitVec.ofInt 64 (IntKind.i64.wrap (8*2))).toNat-BitVec.ofInt 64 1 <<< (BitVec.ofInt 64 (IntKind.i64.wrap (8*2))).toNat=xt a 16 true:=by
 rw[y_cut16,show BitVec.ofInt 64 1 <<< (BitVec.ofInt 64 (IntKind.i64.wrap (8*2))).toNat=BitVec.ofNat 64 (2^16) by decide]
 unfold xt
 rw[h,if_pos (by rfl)]
 have hy:a.toNat % 2^16<2^16:=Nat.mod_lt _ (by decide)
 apply BitVec.eq_of_toNat_eq
 simp only[BitVec.toNat_sub,BitVec.toNat_ofNat]
 omega
theorem y_u16 (a:BitVec 64)(h:decide (2 ^ (16-1)≤a.toNat % 2^16)=false):a % BitVec.ofInt 64 1 <<< (BitVec.ofInt 64 (IntKind.i64.wrap (8*2))).toNat=xt a 16 true:=by
 rw[y_cut16];unfold xt;rw[h];rfl
theorem e_u32 (a:BitVec 64):BitVec.ofInt 64 (IntKind.u32.wrap (uv a))=BitVec.ofNat 64 (a.toNat % 2^32):=by
 apply BitVec.eq_of_toNat_eq
 have:=a.isLt
 simp[IntKind.wrap,uv,IntKind.signed,IntKind.bits]
 omega
theorem x_f32 (a:BitVec 64):BitVec.ofInt 64 (IntKind.u32.wrap (uv a))=xt a 32 false:=by rw[e_u32];rfl
theorem x_t32 (a:BitVec 64):BitVec.ofInt 64 ((IntKind.i64.wrap (sv (BitVec.ofInt 64 (IntKind.u32.wrap (uv a)))*2^min (IntKind.i64.wrap (64-IntKind.i64.wrap (8*4))).toNat IntKind.i64.bits)).fdiv (2^min (IntKind.i64.wrap (64-IntKind.i64.wrap (8*4))).toNat IntKind.i64.bits))=xt a 32 true:=by
 have e1:min (IntKind.i64.wrap (64-IntKind.i64.wrap (8*4))).toNat IntKind.i64.bits=32:=by decide
 rw[e1,e_u32]
 have hy:a.toNat % 2^32<2^32:=Nat.mod_lt _ (by decide)
 unfold xt
 generalize a.toNat % 2^32=y at hy ⊢
 have e2:sv (BitVec.ofNat 64 y)=(y:Int):=by
  unfold sv
  rw[BitVec.toInt_eq_toNat_cond,BitVec.toNat_ofNat]
  split<;>omega
 rw[e2]
 have hm:(y:Int)*2^32 % 2^64=(y:Int)*2^32:=by omega
 apply BitVec.eq_of_toNat_eq
 simp only[IntKind.wrap,IntKind.signed,IntKind.bits,BitVec.toNat_ofInt,hm,Bool.true_and]
 rw[Int.fdiv_eq_ediv_of_nonneg _ (by decide)]
 by_cases h:2 ^ (32-1)≤y
 . rw[if_pos (by simp;omega),if_pos (by simp;omega),BitVec.toNat_ofNat]
   omega
 . rw[if_neg (by simp;omega),if_neg (by simp;omega),BitVec.toNat_ofNat]
   omega
theorem y_cut32 (a:BitVec 64):a % BitVec.ofInt 64 1 <<< (BitVec.ofInt 64 (IntKind.i64.wrap (8*4))).toNat=BitVec.ofNat 64 (a.toNat % 2^32):=by
 have e:BitVec.ofInt 64 1 <<< (BitVec.ofInt 64 (IntKind.i64.wrap (8*4))).toNat=BitVec.ofNat 64 (2^32):=by decide
 rw[e]
 apply BitVec.eq_of_toNat_eq
 have:=a.isLt
 rw[BitVec.toNat_umod,BitVec.toNat_ofNat,BitVec.toNat_ofNat,Nat.mod_eq_of_lt (show 2^32<2^64 by decide)]
 omega
theorem y_f32 (a:BitVec 64):a % BitVec.ofInt 64 1 <<< (BitVec.ofInt 64 (IntKind.i64.wrap (8*4))).toNat=xt a 32 false:=by rw[y_cut32];rfl
theorem y_neg32 (a:BitVec 64):((a % BitVec.ofInt 64 1 <<< (BitVec.ofInt 64 (IntKind.i64.wrap (8*4))).toNat) >>> (BitVec.ofInt 64 (IntKind.i64.wrap (IntKind.i64.wrap (8*4)-1))).toNat &&& BitVec.ofInt 64 1==BitVec.ofInt 64 1)=decide (2 ^ (32-1)≤a.toNat % 2^32):=by
 rw[y_cut32]
 have e:(BitVec.ofInt 64 (IntKind.i64.wrap (IntKind.i64.wrap (8*4)-1))).toNat=31:=by decide
 rw[e]
 have hy:a.toNat % 2^32<2^32:=Nat.mod_lt _ (by decide)
 generalize a.toNat % 2^32=y at hy ⊢
 have e3:((BitVec.ofNat 64 y >>> 31 &&& BitVec.ofInt 64 1).toNat)=y / 2^31 % 2:=by
  rw[BitVec.toNat_and,show(BitVec.ofInt 64 1).toNat=1 from rfl,Nat.and_one_is_mod,BitVec.toNat_ushiftRight,BitVec.toNat_ofNat,Nat.shiftRight_eq_div_pow]
  omega
 by_cases h:2 ^ (32-1)≤y
 . rw[decide_eq_true h,beq_iff_eq]
   apply BitVec.eq_of_toNat_eq
   rw[e3,show(BitVec.ofInt 64 1).toNat=1 from rfl]
   omega
 . rw[decide_eq_false h,beq_eq_false_iff_ne]
   intro hh
   have:=congrArg BitVec.toNat hh
   rw[e3,show(BitVec.ofInt 64 1).toNat=1 from rfl] at this
   omega
theorem y_t32 (a:BitVec 64)(h:decide (2 ^ (32-1)≤a.toNat % 2^32)=true):a % BitVec.ofInt 64 1 <<< (BitVec.ofInt 64 (IntKind.i64.wrap (8*4))).toNat-BitVec.ofInt 64 1 <<< (BitVec.ofInt 64 (IntKind.i64.wrap (8*4))).toNat=xt a 32 true:=by
 rw[y_cut32,show BitVec.ofInt 64 1 <<< (BitVec.ofInt 64 (IntKind.i64.wrap (8*4))).toNat=BitVec.ofNat 64 (2^32) by decide]
 unfold xt
 rw[h,if_pos (by rfl)]
 have hy:a.toNat % 2^32<2^32:=Nat.mod_lt _ (by decide)
 apply BitVec.eq_of_toNat_eq
 simp only[BitVec.toNat_sub,BitVec.toNat_ofNat]
 omega
theorem y_u32 (a:BitVec 64)(h:decide (2 ^ (32-1)≤a.toNat % 2^32)=false):a % BitVec.ofInt 64 1 <<< (BitVec.ofInt 64 (IntKind.i64.wrap (8*4))).toNat=xt a 32 true:=by
 rw[y_cut32];unfold xt;rw[h];rfl
theorem x_t64 (a:BitVec 64):BitVec.ofInt 64 ((IntKind.i64.wrap (sv a*2^min (IntKind.i64.wrap (64-IntKind.i64.wrap (8*8))).toNat IntKind.i64.bits)).fdiv (2^min (IntKind.i64.wrap (64-IntKind.i64.wrap (8*8))).toNat IntKind.i64.bits))=a:=by
 have e1:min (IntKind.i64.wrap (64-IntKind.i64.wrap (8*8))).toNat IntKind.i64.bits=0:=by decide
 rw[e1]
 have:=a.isLt
 apply BitVec.eq_of_toNat_eq
 unfold sv
 rw[BitVec.toInt_eq_toNat_cond,Int.fdiv_eq_ediv_of_nonneg _ (by decide)]
 simp only[IntKind.wrap,IntKind.signed,IntKind.bits,BitVec.toNat_ofInt,Bool.true_and,decide_eq_true_eq]
 split<;>split<;>omega
end W
namespace C
open S
theorem of_zero {t:Tn}{s:Sp}(h:(of t s).2=false):(of t s).1=const (BitVec.ofInt 64 0):=by
 unfold of at h ⊢
 split at h
 . rename_i hc
   rw[if_pos hc]
   cases ht:tog ⟨t,s⟩ with
   |none=>rfl
   |some y=>rw[ht] at h;cases h
 . rename_i hc
   rw[if_neg hc];rfl
theorem of_any {t:Tn}{s:Sp}(hi:R.inS s=true):right (of t s).1=true:=by
 cases h:(of t s).2 with
 |true=>exact of_right hi h
 |false=>rw[of_zero h];exact const_right _
theorem sv_small {x:BitVec 64}(h:x.toNat<9223372036854775808):sv x=(x.toNat:Int):=by
 unfold sv;rw[BitVec.toInt_eq_toNat_cond];split<;>omega
theorem sv_big {x:BitVec 64}(h:9223372036854775808≤x.toNat):sv x=(x.toNat:Int)-18446744073709551616:=by
 unfold sv;rw[BitVec.toInt_eq_toNat_cond];have:=x.isLt;split<;>omega
end C
end Go.Proofs.YtfgkhenhlpoheaaGreat
namespace Go.Proofs
open Go.Shelf
def Tryz.lays134_ren:Go.Shelf.Ren:=⟨fun|134=>218|129=>220|n=>n,fun|53=>23|3=>3|4=>4|46=>147|5=>5|9=>9|n=>n,fun|n=>n⟩
theorem Tryz.lays134:Go.Proofs.Lays.n134 Tryz.prog Tryz.lays134_ren:={
 mixed:=by kernel_rfl
 f129:=Tryz.func220.trans (congrArg some (by kernel_rfl))
 f134:=Tryz.func218.trans (congrArg some (by kernel_rfl))
 t3:=Tryz.underlying3
 a3:=Tryz.isAgg3
 z3:=Tryz.sizeOf3
 v3:=Tryz.zeroValue3
 t4:=Tryz.underlying4
 a4:=Tryz.isAgg4
 z4:=Tryz.sizeOf4
 v4:=Tryz.zeroValue4
 t5:=Tryz.underlying5
 a5:=Tryz.isAgg5
 z5:=Tryz.sizeOf5
 v5:=Tryz.zeroValue5
 t9:=Tryz.underlying9
 a9:=Tryz.isAgg9
 z9:=Tryz.sizeOf9
 v9:=Tryz.zeroValue9
 t46:=Tryz.underlying147
 a46:=Tryz.isAgg147
 z46:=Tryz.sizeOf147
 v46:=Tryz.zeroValue147
 t53:=Tryz.underlying23
 a53:=Tryz.isAgg23
 z53:=Tryz.sizeOf23
 v53:=Tryz.zeroValue23}
theorem Tryz.bits_LeadingZeros64 (x:Int)(w:World)(h0:0≤x)(h1:x≤18446744073709551615):
 Calls Tryz.prog 218 #[.int .u64 x] w fun e w'=>e = .returned (.int .i64 (64 - (Lib.bitLen x.toNat:Int)))∧w'=w:=Any.bits_LeadingZeros64 Tryz.lays134 x w h0 h1
end Go.Proofs
namespace Go.Proofs.YtfgkhenhlpoheaaGreat
open Go.RowKit Go.Sx
set_option maxRecDepth 100000
set_option maxHeartbeats 4000000
def Gw (_:World):Prop:=True
theorem st_Gw:Stable Gw:=fun _ _ _ _=>trivial
@[reducible] def tsv (t:Tn):SV:=.agg [.u64 t.v,.u64 t.m]
def eqs:List (TypeId×List CK):=[(29,[.int,.int,.int,.int,.int,.int]),(37,[.int,.int,.int,.int,.int,.int,.int,.int,.int,.int,.int,.bool]),(59,[.int,.int,.int,.int])]
theorem eqs_ok:∀ p∈eqs,EqOk Tryz.prog p.1 p.2:=by
 have h:(eqs.all fun p=>eqB Tryz.prog p.1 p.2)=true:=by kernel_rfl
 exact fun p hp=>eqB_ok (List.all_eq_true.1 h p hp)
theorem mixed:Okay Tryz.prog:=⟨by kernel_rfl,fun f=>by unfold fnOk;exact Iff.rfl⟩
theorem c_lz (x:BitVec 64)(w:World):Calls Tryz.prog 218 #[.int .u64 (uv x)] w (Ret w (.int .i64 (64 - (bl x:Int)))):=
 (Tryz.bits_LeadingZeros64 (uv x) w (uv_nonneg x) (by have:=uv_lt x;omega)).mono fun e w' ⟨he,hw⟩=>⟨he,grow_mk (hw▸up_refl w)⟩
def mixs:List (TypeId×List SV):=[(44,[.arr 11 12 (fun _=>[.int .u8 0,.u64 (BitVec.ofInt 64 0),.u64 (BitVec.ofInt 64 0),.u64 (BitVec.ofInt 64 0),.u64 (BitVec.ofInt 64 0),.int .i64 0,.int .i64 0,.int .i64 0,.int .i64 0,.int .i64 0,.int .i64 0,.bool false]),.arr 64 14 (fun _=>.bool false :: .int .u8 0::[.int .u8 0,.u64 (BitVec.ofInt 64 0),.u64 (BitVec.ofInt 64 0),.u64 (BitVec.ofInt 64 0),.u64 (BitVec.ofInt 64 0),.int .i64 0,.int .i64 0,.int .i64 0,.int .i64 0,.int .i64 0,.int .i64 0,.bool false]),.int .i64 0])]
theorem mixs_ok:∀ p∈mixs,MixOk Tryz.prog p.1 p.2:=by
 intro p hp
 simp only[mixs,List.mem_singleton] at hp
 subst hp
 obtain⟨it,hi,v,hv,hc⟩:∃ it,Tryz.prog.info? 44=some it∧∃ v,it.zero=some v∧v.cells=(mixL [.arr 11 12 (fun _=>[.int .u8 0,.u64 (BitVec.ofInt 64 0),.u64 (BitVec.ofInt 64 0),.u64 (BitVec.ofInt 64 0),.u64 (BitVec.ofInt 64 0),.int .i64 0,.int .i64 0,.int .i64 0,.int .i64 0,.int .i64 0,.int .i64 0,.bool false]),.arr 64 14 (fun _=>.bool false :: .int .u8 0::[.int .u8 0,.u64 (BitVec.ofInt 64 0),.u64 (BitVec.ofInt 64 0),.u64 (BitVec.ofInt 64 0),.u64 (BitVec.ofInt 64 0),.int .i64 0,.int .i64 0,.int .i64 0,.int .i64 0,.int .i64 0,.int .i64 0,.bool false]),.int .i64 0] [.bool false,.bool false,.int .i64 0]).toArray:=⟨_,rfl,_,rfl,by kernel_rfl⟩
 exact⟨⟨it,v,hi,hv,fun ρ=>hc⟩,rfl⟩
def meqs:List (TypeId×List (Nat×List CK)):=[(44,[(11,[.int,.int,.int,.int,.int,.int,.int,.int,.int,.int,.int,.bool]),(64,[.bool,.int,.int,.int,.int,.int,.int,.int,.int,.int,.int,.int,.int,.bool]),(1,[.int])])]
theorem meqs_ok:∀ p∈meqs,EqOk Tryz.prog p.1 (runsF p.2):=by
 intro p hp
 simp only[meqs,List.mem_singleton] at hp
 subst hp
 exact eqB_ok (by kernel_rfl)
def k_lz:List SV→List Blk→Res:=fun args _=>match args with
 |[.u64 x]=>.ok (.int .i64 (64 - (bl x:Int))) []
 |_=>.fail
theorem k_lz_ok:CtrOk Tryz.prog Gw 218 k_lz:=by
 refine⟨fun _ _=>by kernel_rfl,fun args M => ?_⟩
 unfold k_lz
 split
 . rename_i x
   exact fun B ρ w hG hM=>ctr_ret hM (sv:=.int .i64 (64 - (bl x:Int))) (args:=[.u64 x]) (fun _=>rfl) (c_lz x w)
 . trivial
end Go.Proofs.YtfgkhenhlpoheaaGreat
namespace Go.Proofs.YtfgkhenhlpoheaaGreat
open Go.RowKit Go.Sx
set_option maxRecDepth 100000
set_option maxHeartbeats 4000000
end Go.Proofs.YtfgkhenhlpoheaaGreat
namespace Go.Proofs.YtfgkhenhlpoheaaGreat
open Go.RowKit Go.Sx
set_option maxRecDepth 100000
set_option maxHeartbeats 4000000
def k_known:List SV→List Blk→Res:=fun args _=>match args with
 |[.agg [.u64 av,.u64 am]]=>.ok (.bool (T.right ⟨av,am⟩)) []
 |_=>.fail
theorem k_known_ok:CtrOk Tryz.prog Gw 175 k_known:=by
 refine⟨fun _ _=>by kernel_rfl,fun args M => ?_⟩
 unfold k_known
 split
 . rename_i av am
   refine ctr_flat (Γ:=⟨[],eqs,[],[],[],mixs,meqs,[]⟩) (sv:=.bool (T.right ⟨av,am⟩)) st_Gw ⟨okNil,eqs_ok,okNilB,okNilI,okNilP,mixs_ok,meqs_ok,okNilY⟩ Tryz.func175 rfl mixed [] (by kernel_rfl) 10000 (by rfl) ?_
   (conv=>whnf)
   (repeat' (first | (refine And.intro (fun hb => ?_) (fun hb => ?_)<;>(first|contradiction | (conv=>whnf))) | (refine And.intro ?_ ?_;rotate_left 1;(conv=>whnf))))
   all_goals (first|rfl|trivial | (simp_all [eqv,eqv1,eqv2,eqvL1,eqvL2]))
 . trivial
def k_Right:List SV→List Blk→Res:=fun args _=>match args with
 |[.agg [.u64 av,.u64 am]]=>.ok (.bool (T.right ⟨av,am⟩)) []
 |_=>.fail
theorem k_Right_ok:CtrOk Tryz.prog Gw 145 k_Right:=by
 refine⟨fun _ _=>by kernel_rfl,fun args M => ?_⟩
 unfold k_Right
 split
 . rename_i av am
   refine ctr_flat (Γ:=⟨[(175,k_known)],eqs,[],[],[],mixs,meqs,[]⟩) (sv:=.bool (T.right ⟨av,am⟩)) st_Gw ⟨(okCons k_known_ok okNil),eqs_ok,okNilB,okNilI,okNilP,mixs_ok,meqs_ok,okNilY⟩ Tryz.func145 rfl mixed [] (by kernel_rfl) 10000 (by rfl) ?_
   (conv=>whnf)
   (repeat' (first | (refine And.intro (fun hb => ?_) (fun hb => ?_)<;>(first|contradiction | (conv=>whnf))) | (refine And.intro ?_ ?_;rotate_left 1;(conv=>whnf))))
   all_goals (first|rfl|trivial | (simp_all [eqv,eqv1,eqv2,eqvL1,eqvL2]))
 . trivial
def k_Const:List SV→List Blk→Res:=fun args _=>match args with
 |[.u64 n]=>.ok (tsv ⟨n,0⟩) []
 |_=>.fail
theorem k_Const_ok:CtrOk Tryz.prog Gw 10 k_Const:=by
 refine⟨fun _ _=>by kernel_rfl,fun args M => ?_⟩
 unfold k_Const
 split
 . rename_i n
   refine ctr_flat (Γ:=⟨[],eqs,[],[],[],mixs,meqs,[]⟩) (sv:=tsv ⟨n,0⟩) st_Gw ⟨okNil,eqs_ok,okNilB,okNilI,okNilP,mixs_ok,meqs_ok,okNilY⟩ Tryz.func10 rfl mixed [] (by kernel_rfl) 10000 (by rfl) ?_
   (conv=>whnf)
   (repeat' (first | (refine And.intro (fun hb => ?_) (fun hb => ?_)<;>(first|contradiction | (conv=>whnf))) | (refine And.intro ?_ ?_;rotate_left 1;(conv=>whnf))))
   all_goals (first|rfl|trivial | (simp_all [eqv,eqv1,eqv2,eqvL1,eqvL2]))
 . trivial
def k_Unknown:List SV→List Blk→Res:=fun args _=>match args with
 |[]=>.ok (tsv ⟨0,BitVec.allOnes 64⟩) []
 |_=>.fail
theorem k_Unknown_ok:CtrOk Tryz.prog Gw 102 k_Unknown:=by
 refine⟨fun _ _=>by kernel_rfl,fun args M => ?_⟩
 unfold k_Unknown
 split
 . refine ctr_flat (Γ:=⟨[],eqs,[],[],[],mixs,meqs,[]⟩) (sv:=tsv ⟨0,BitVec.allOnes 64⟩) st_Gw ⟨okNil,eqs_ok,okNilB,okNilI,okNilP,mixs_ok,meqs_ok,okNilY⟩ Tryz.func102 rfl mixed [] (by kernel_rfl) 10000 (by rfl) ?_
   (conv=>whnf)
   (repeat' (first | (refine And.intro (fun hb => ?_) (fun hb => ?_)<;>(first|contradiction | (conv=>whnf))) | (refine And.intro ?_ ?_;rotate_left 1;(conv=>whnf))))
   all_goals (first|rfl|trivial | (simp_all [eqv,eqv1,eqv2,eqvL1,eqvL2]))
 . trivial
def k_Meet:List SV→List Blk→Res:=fun args _=>match args with
 |[.agg [.u64 av,.u64 am],.agg [.u64 bv,.u64 bm]]=>.ok (.tup [tsv (T.meet ⟨av,am⟩ ⟨bv,bm⟩).1,.bool (T.meet ⟨av,am⟩ ⟨bv,bm⟩).2]) []
 |_=>.fail
theorem k_Meet_ok:CtrOk Tryz.prog Gw 209 k_Meet:=by
 refine⟨fun _ _=>by kernel_rfl,fun args M => ?_⟩
 unfold k_Meet
 split
 . rename_i av am bv bm
   refine ctr_flat (Γ:=⟨[(145,k_Right)],eqs,[],[],[],mixs,meqs,[]⟩) (sv:=.tup [tsv (T.meet ⟨av,am⟩ ⟨bv,bm⟩).1,.bool (T.meet ⟨av,am⟩ ⟨bv,bm⟩).2]) st_Gw ⟨(okCons k_Right_ok okNil),eqs_ok,okNilB,okNilI,okNilP,mixs_ok,meqs_ok,okNilY⟩ Tryz.func209 rfl mixed [] (by kernel_rfl) 10000 (by rfl) ?_
   (conv=>whnf)
   (repeat' (first | (refine And.intro (fun hb => ?_) (fun hb => ?_)<;>(first|contradiction | (conv=>whnf))) | (refine And.intro ?_ ?_;rotate_left 1;(conv=>whnf))))
   all_goals (first|rfl|trivial | (simp_all [eqv,eqv1,eqv2,eqvL1,eqvL2,T.meet]))
 . trivial
def k_Range:List SV→List Blk→Res:=fun args _=>match args with
 |[.u64 lo,.u64 hi]=>.ok (tsv (T.range lo hi)) []
 |_=>.fail
theorem k_Range_ok:CtrOk Tryz.prog Gw 210 k_Range:=by
 refine⟨fun _ _=>by kernel_rfl,fun args M => ?_⟩
 unfold k_Range
 split
 . rename_i lo hi
   refine ctr_flat (Γ:=⟨[(218,k_lz),(102,k_Unknown)],eqs,[],[],[],mixs,meqs,[]⟩) (sv:=tsv (T.range lo hi)) st_Gw ⟨(okCons k_lz_ok (okCons k_Unknown_ok okNil)),eqs_ok,okNilB,okNilI,okNilP,mixs_ok,meqs_ok,okNilY⟩ Tryz.func210 rfl mixed [] (by kernel_rfl) 10000 (by rfl) ?_
   (conv=>whnf)
   (repeat' (first | (refine And.intro (fun hb => ?_) (fun hb => ?_)<;>(first|contradiction | (conv=>whnf))) | (refine And.intro ?_ ?_;rotate_left 1;(conv=>whnf))))
   all_goals (first|trivial | (simp only[lz_nonneg,decide_true];done) | (simp only[decide_eq_true_eq,decide_eq_false_iff_not,beq_iff_eq,beq_eq_false_iff_ne,ne_eq] at *;simp only[eqv1,T.range,lz_toNat];first | (rw[if_pos (by assumption)];done) | (rw[if_pos (by assumption)];rfl) | (rw[if_neg (by assumption),if_pos (by assumption)];rfl) | (rw[if_neg (by assumption),if_neg (by assumption)];rfl)))
 . trivial
end Go.Proofs.YtfgkhenhlpoheaaGreat
namespace Go.Proofs.YtfgkhenhlpoheaaGreat
open Go.RowKit Go.Sx
set_option maxRecDepth 100000
set_option maxHeartbeats 4000000
namespace T
end T
end Go.Proofs.YtfgkhenhlpoheaaGreat
namespace Go.Proofs.YtfgkhenhlpoheaaGreat
open Go.RowKit Go.Sx
set_option maxRecDepth 100000
set_option maxHeartbeats 4000000
end Go.Proofs.YtfgkhenhlpoheaaGreat
namespace Go.Proofs.YtfgkhenhlpoheaaGreat
open Go.RowKit Go.Sx
set_option maxRecDepth 100000
set_option maxHeartbeats 4000000
end Go.Proofs.YtfgkhenhlpoheaaGreat
namespace Go.Proofs.YtfgkhenhlpoheaaGreat
open Go.RowKit Go.Sx
set_option maxRecDepth 100000
set_option maxHeartbeats 4000000
namespace T
end T
end Go.Proofs.YtfgkhenhlpoheaaGreat
namespace Go.Proofs.YtfgkhenhlpoheaaGreat
open Go.RowKit Go.Sx
set_option maxRecDepth 100000
set_option maxHeartbeats 4000000
namespace T
def sh (op:Int)(x:BitVec 64)(n:Nat):BitVec 64:=if op==96 then x <<< n else if op==112 then x >>> n else x.sshiftRight (min n 64)
def shift (op:Int)(a:Tn)(n:Int):Tn×Bool:=if (op==96||op==112||op==192)&&right a && !decide (n<0) && !decide (63<n) then (⟨sh op a.v n.toNat,sh op a.m n.toNat⟩,true) else (⟨0,0⟩,false)
end T
def k_low1:List SV→List Blk→Res:=fun args M=>match args with
 |[.u64 x,.ptr b 0]=>match nth M b with
  |some (.cells ty [.u64 n])=>.ok (.u64 (x &&& n)) []
  |_=>.fail
 |_=>.fail
theorem k_low1_ok:CtrOk Tryz.prog Gw 217 k_low1:=by
 refine⟨fun _ _=>by kernel_rfl,fun args M => ?_⟩
 unfold k_low1
 split
 . split
   . rename_i x b _ ty n hm0
     simp only[nth_eq] at hm0
     refine ctr_sel (Γ:=⟨[],eqs,[],[],[],mixs,meqs,[]⟩) (sv:=.u64 (x &&& n)) st_Gw ⟨okNil,eqs_ok,okNilB,okNilI,okNilP,mixs_ok,meqs_ok,okNilY⟩ Tryz.func217 rfl mixed [] (by kernel_rfl) 10000 [b] [.u64 x,.ptr 0 0] [.rc ty [.u64 n]] (fun ρ=>rfl) rfl ⟨⟨_,hm0,⟨_,.inl rfl,fun _=>rfl⟩⟩,trivial⟩ ?_
     (conv=>whnf)
     (repeat' (first | (refine And.intro (fun hb => ?_) (fun hb => ?_)<;>(first|contradiction | (conv=>whnf))) | (refine And.intro ?_ ?_;rotate_left 1;(conv=>whnf))))
     all_goals (first|rfl|trivial | (simp_all [eqv,eqv1,eqv2,eqvL1,eqvL2]))
   . trivial
 . trivial
end Go.Proofs.YtfgkhenhlpoheaaGreat
namespace Go.Proofs.YtfgkhenhlpoheaaGreat
open Go.RowKit Go.Sx
set_option maxRecDepth 100000
set_option maxHeartbeats 4000000
namespace T
def low (a:Tn)(n:Int):Tn×Bool:=if right a then (if n==1 then (⟨a.v &&& 255#64,a.m &&& 255#64⟩,true) else if n==2 then (⟨a.v &&& 65535#64,a.m &&& 65535#64⟩,true) else if n==4 then (⟨a.v &&& 4294967295#64,a.m &&& 4294967295#64⟩,true) else if n==8 then (⟨a.v &&& 18446744073709551615#64,a.m &&& 18446744073709551615#64⟩,true) else (⟨0,0⟩,false)) else (⟨0,0⟩,false)
end T
def k_Low:List SV→List Blk→Res:=fun args _=>match args with
 |[.agg [.u64 av,.u64 am],.int .i64 n]=>.ok (.tup [tsv (T.low ⟨av,am⟩ n).1,.bool (T.low ⟨av,am⟩ n).2]) []
 |_=>.fail
theorem k_Low_ok:CtrOk Tryz.prog Gw 201 k_Low:=by
 refine⟨fun _ _=>by kernel_rfl,fun args M => ?_⟩
 unfold k_Low
 split
 . rename_i av am n
   refine ctr_flat (Γ:=⟨[(145,k_Right),(217,k_low1)],eqs,[],[(216,Tryz.f216,[(4,5,[0,0,0,6,14,31,63]),(5,6,[0,1,3,0,8,24,63,127])]),(219,Tryz.f219,[]),(221,Tryz.f221,[])],[],mixs,meqs,[]⟩) (sv:=.tup [tsv (T.low ⟨av,am⟩ n).1,.bool (T.low ⟨av,am⟩ n).2]) st_Gw ⟨(okCons k_Right_ok (okCons k_low1_ok okNil)),eqs_ok,okNilB,(okConsI Tryz.func216 rfl (by kernel_rfl) (fun _ _=>by kernel_rfl) (okConsI Tryz.func219 rfl (by kernel_rfl) (fun _ _=>by kernel_rfl) (okConsI Tryz.func221 rfl (by kernel_rfl) (fun _ _=>by kernel_rfl) okNilI))),okNilP,mixs_ok,meqs_ok,okNilY⟩ Tryz.func201 rfl mixed [] (by kernel_rfl) 10000 (by rfl) ?_
   (conv=>whnf)
   (repeat' (first | (refine And.intro (fun hb => ?_) (fun hb => ?_)<;>(first|contradiction | (conv=>whnf))) | (refine And.intro ?_ ?_;rotate_left 1;(conv=>whnf))))
   all_goals (first|rfl|trivial | (simp_all [eqv,eqv1,eqv2,T.low];done) | (simp_all [eqv,eqv1,eqv2,T.low];rfl))
 . trivial
namespace W
def ext (a:BitVec 64)(n:Int):BitVec 64×Bool:=if n==1 then (BitVec.ofInt 64 (IntKind.u8.wrap (uv a)),true) else if n==2 then (BitVec.ofInt 64 (IntKind.u16.wrap (uv a)),true) else if n==4 then (BitVec.ofInt 64 (IntKind.u32.wrap (uv a)),true) else if n==8 then (a,true) else (0,false)
end W
end Go.Proofs.YtfgkhenhlpoheaaGreat
namespace Go.Proofs.YtfgkhenhlpoheaaGreat
open Go.RowKit Go.Sx
set_option maxRecDepth 100000
set_option maxHeartbeats 4000000
namespace T
def of (x y:BitVec 64):Tn×Bool:=if x ||| y != BitVec.allOnes 64 then (⟨0,0⟩,false) else (⟨x &&& ~~~y,x &&& y⟩,true)
end T
def k_rRight:List SV→List Blk→Res:=fun args _=>match args with
 |[.agg [.u64 av,.u64 am]]=>.ok (.bool (T.right ⟨av,am⟩)) []
 |_=>.fail
theorem k_rRight_ok:CtrOk Tryz.prog Gw 156 k_rRight:=by
 refine⟨fun _ _=>by kernel_rfl,fun args M => ?_⟩
 unfold k_rRight
 split
 . rename_i av am
   refine ctr_flat (Γ:=⟨[],eqs,[],[],[],mixs,meqs,[]⟩) (sv:=.bool (T.right ⟨av,am⟩)) st_Gw ⟨okNil,eqs_ok,okNilB,okNilI,okNilP,mixs_ok,meqs_ok,okNilY⟩ Tryz.func156 rfl mixed [] (by kernel_rfl) 10000 (by rfl) ?_
   (conv=>whnf)
   (repeat' (first | (refine And.intro (fun hb => ?_) (fun hb => ?_)<;>(first|contradiction | (conv=>whnf))) | (refine And.intro ?_ ?_;rotate_left 1;(conv=>whnf))))
   all_goals (first|rfl|trivial | (simp_all [eqv,eqv1,eqv2,eqvL1,eqvL2]))
 . trivial
def k_rUnknown:List SV→List Blk→Res:=fun args _=>match args with
 |[]=>.ok (tsv ⟨0,BitVec.allOnes 64⟩) []
 |_=>.fail
theorem k_rUnknown_ok:CtrOk Tryz.prog Gw 64 k_rUnknown:=by
 refine⟨fun _ _=>by kernel_rfl,fun args M => ?_⟩
 unfold k_rUnknown
 split
 . refine ctr_flat (Γ:=⟨[],eqs,[],[],[],mixs,meqs,[]⟩) (sv:=tsv ⟨0,BitVec.allOnes 64⟩) st_Gw ⟨okNil,eqs_ok,okNilB,okNilI,okNilP,mixs_ok,meqs_ok,okNilY⟩ Tryz.func64 rfl mixed [] (by kernel_rfl) 10000 (by rfl) ?_
   (conv=>whnf)
   (repeat' (first | (refine And.intro (fun hb => ?_) (fun hb => ?_)<;>(first|contradiction | (conv=>whnf))) | (refine And.intro ?_ ?_;rotate_left 1;(conv=>whnf))))
   all_goals (first|rfl|trivial | (simp_all [eqv,eqv1,eqv2,eqvL1,eqvL2]))
 . trivial
def k_of:List SV→List Blk→Res:=fun args _=>match args with
 |[.u64 x,.u64 y]=>.ok (.tup [tsv (T.of x y).1,.bool (T.of x y).2]) []
 |_=>.fail
theorem k_of_ok:CtrOk Tryz.prog Gw 180 k_of:=by
 refine⟨fun _ _=>by kernel_rfl,fun args M => ?_⟩
 unfold k_of
 split
 . rename_i x y
   refine ctr_flat (Γ:=⟨[],eqs,[],[],[],mixs,meqs,[]⟩) (sv:=.tup [tsv (T.of x y).1,.bool (T.of x y).2]) st_Gw ⟨okNil,eqs_ok,okNilB,okNilI,okNilP,mixs_ok,meqs_ok,okNilY⟩ Tryz.func180 rfl mixed [] (by kernel_rfl) 10000 (by rfl) ?_
   (conv=>whnf)
   (repeat' (first | (refine And.intro (fun hb => ?_) (fun hb => ?_)<;>(first|contradiction | (conv=>whnf))) | (refine And.intro ?_ ?_;rotate_left 1;(conv=>whnf))))
   all_goals (first|rfl|trivial | (simp_all [eqv,eqv1,eqv2,eqvL1,eqvL2,T.of]))
 . trivial
end Go.Proofs.YtfgkhenhlpoheaaGreat
namespace Go.Proofs.YtfgkhenhlpoheaaGreat
open Go.RowKit Go.Sx
set_option maxRecDepth 100000
set_option maxHeartbeats 4000000
namespace T
theorem bit_is (n:BitVec 64)(i:Nat):(((n >>> i) &&& 1#64)==1#64)=n.getLsbD i:=by
 cases h:n.getLsbD i
 . rw[beq_eq_false_iff_ne];intro e
   have:=congrArg (fun x=>BitVec.getLsbD x 0) e
   simp[h] at this
 . rw[beq_iff_eq]
   apply BitVec.eq_of_getLsbD_eq
   intro k hk
   by_cases h0:k=0
   . subst h0;simp[h]
   . simp[BitVec.getLsbD_one,h0]
theorem ofInt_small {i:Int}(h0:0≤i)(h:i<64):(BitVec.ofInt 64 i).toNat=i.toNat:=by
 rw[BitVec.toNat_ofInt];omega
end T
def k_rBit:List SV→List Blk→Res:=fun args _=>match args with
 |[.u64 n,.int .i64 i]=>.test (decide (0≤i)&&decide (i<64)) (.ok (.bool (n.getLsbD i.toNat)) [])
 |_=>.fail
theorem k_rBit_ok:CtrOk Tryz.prog Gw 183 k_rBit:=by
 refine⟨fun _ _=>by kernel_rfl,fun args M => ?_⟩
 unfold k_rBit
 split
 . rename_i n i
   intro ht
   refine ctr_flat (Γ:=⟨[],eqs,[],[],[],mixs,meqs,[]⟩) (sv:=.bool (n.getLsbD i.toNat)) st_Gw ⟨okNil,eqs_ok,okNilB,okNilI,okNilP,mixs_ok,meqs_ok,okNilY⟩ Tryz.func183 rfl mixed [] (by kernel_rfl) 10000 (by rfl) ?_
   (conv=>whnf)
   (repeat' (first | (refine And.intro (fun hb => ?_) (fun hb => ?_)<;>(first|contradiction | (conv=>whnf))) | (refine And.intro ?_ ?_;rotate_left 1;(conv=>whnf))))
   all_goals (first|trivial | (simp only[Bool.and_eq_true,decide_eq_true_eq] at ht;simp only[eqv,eqv1,T.ofInt_small ht.1 ht.2];exact T.bit_is _ _))
 . trivial
def k_rConst:List SV→List Blk→Res:=fun args _=>match args with
 |[.u64 n]=>.ok (tsv ⟨n,0⟩) []
 |_=>.fail
theorem k_rConst_ok:CtrOk Tryz.prog Gw 80 k_rConst:=by
 refine⟨fun _ _=>by kernel_rfl,fun args M => ?_⟩
 unfold k_rConst
 split
 . rename_i n
   refine ctr_flat (Γ:=⟨[],eqs,[],[],[],mixs,meqs,[]⟩) (sv:=tsv ⟨n,0⟩) st_Gw ⟨okNil,eqs_ok,okNilB,okNilI,okNilP,mixs_ok,meqs_ok,okNilY⟩ Tryz.func80 rfl mixed [] (by kernel_rfl) 10000 (by rfl) ?_
   (conv=>whnf)
   (repeat' (first | (refine And.intro (fun hb => ?_) (fun hb => ?_)<;>(first|contradiction | (conv=>whnf))) | (refine And.intro ?_ ?_;rotate_left 1;(conv=>whnf))))
   all_goals (first|rfl|trivial | (simp_all [eqv,eqv1,eqv2,eqvL1,eqvL2]))
 . trivial
end Go.Proofs.YtfgkhenhlpoheaaGreat
namespace Go.Proofs.YtfgkhenhlpoheaaGreat
open Go.RowKit Go.Sx
set_option maxRecDepth 100000
set_option maxHeartbeats 4000000
end Go.Proofs.YtfgkhenhlpoheaaGreat
namespace Go.Proofs.YtfgkhenhlpoheaaGreat
open Go.RowKit Go.Sx
set_option maxRecDepth 100000
set_option maxHeartbeats 4000000
namespace T
theorem of_meet {a b:Tn}(ha:right a=true)(hb:right b=true):of ((a.v ||| a.m) &&& (b.v ||| b.m)) (~~~a.v &&& ~~~b.v)=meet a b:=by
 have hc:((a.v ||| a.m) &&& (b.v ||| b.m)) ||| (~~~a.v &&& ~~~b.v)=BitVec.allOnes 64↔(a.v ^^^ b.v) &&& ~~~a.m &&& ~~~b.m=0#64:=by
  constructor
  . intro h
    apply ext64;intro i hi
    have:=congrArg (fun x=>BitVec.getLsbD x i) h
    have p:=right_bit ha i;have q:=right_bit hb i
    simp only[BitVec.getLsbD_and,BitVec.getLsbD_or,BitVec.getLsbD_xor,BitVec.getLsbD_not,BitVec.getLsbD_allOnes,BitVec.getLsbD_zero,hi,decide_true,Bool.true_and] at this ⊢
    revert this p q
    cases a.v.getLsbD i<;>cases a.m.getLsbD i<;>cases b.v.getLsbD i<;>cases b.m.getLsbD i<;>simp
  . intro h
    apply ext64;intro i hi
    have:=congrArg (fun x=>BitVec.getLsbD x i) h
    have p:=right_bit ha i;have q:=right_bit hb i
    simp only[BitVec.getLsbD_and,BitVec.getLsbD_or,BitVec.getLsbD_xor,BitVec.getLsbD_not,BitVec.getLsbD_allOnes,BitVec.getLsbD_zero,hi,decide_true,Bool.true_and] at this ⊢
    revert this p q
    cases a.v.getLsbD i<;>cases a.m.getLsbD i<;>cases b.v.getLsbD i<;>cases b.m.getLsbD i<;>simp
 unfold of meet
 rw[ha,hb]
 simp only[Bool.not_true,Bool.false_or]
 by_cases h:(a.v ^^^ b.v) &&& ~~~a.m &&& ~~~b.m=0#64
 . rw[if_neg (by simp[hc.2 h]),if_neg (by simp[h])]
   congr 2
   . apply ext64;intro i hi
     have:=congrArg (fun x=>BitVec.getLsbD x i) h
     have p:=right_bit ha i;have q:=right_bit hb i
     simp only[BitVec.getLsbD_and,BitVec.getLsbD_or,BitVec.getLsbD_xor,BitVec.getLsbD_not,BitVec.getLsbD_allOnes,BitVec.getLsbD_zero,hi,decide_true,Bool.true_and] at this ⊢
     revert this p q
     cases a.v.getLsbD i<;>cases a.m.getLsbD i<;>cases b.v.getLsbD i<;>cases b.m.getLsbD i<;>simp
   . apply ext64;intro i hi
     have:=congrArg (fun x=>BitVec.getLsbD x i) h
     have p:=right_bit ha i;have q:=right_bit hb i
     simp only[BitVec.getLsbD_and,BitVec.getLsbD_or,BitVec.getLsbD_xor,BitVec.getLsbD_not,BitVec.getLsbD_allOnes,BitVec.getLsbD_zero,hi,decide_true,Bool.true_and] at this ⊢
     revert this p q
     cases a.v.getLsbD i<;>cases a.m.getLsbD i<;>cases b.v.getLsbD i<;>cases b.m.getLsbD i<;>simp
 . rw[if_pos (bne_iff_ne.2 fun e=>h (hc.1 e)),if_pos (bne_iff_ne.2 h)]
def s1 (op:Int)(t:Tn)(n i:Nat):Bool:=if op=96 then decide (n≤i)&&may t (i-n) true else if op=112 then decide (i+n<64)&&may t (i+n) true else may t (min (i+n) 63) true
def s0 (op:Int)(t:Tn)(n i:Nat):Bool:=if op=96 then !decide (n≤i)||may t (i-n) false else if op=112 then !decide (i+n<64)||may t (i+n) false else may t (min (i+n) 63) false
def b2 (op:Int)(p q:Bool):Bool:=if op=64 then p||q else if op=160 then p ^^ q else p&&q
def q1 (op:Int)(a b:Tn)(i:Nat):Bool:=(may a i false&&may b i false&&b2 op false false)||(may a i true&&may b i false&&b2 op true false)||(may a i false&&may b i true&&b2 op false true)||(may a i true&&may b i true&&b2 op true true)
def q0 (op:Int)(a b:Tn)(i:Nat):Bool:=(may a i false&&may b i false && !b2 op false false)||(may a i true&&may b i false && !b2 op true false)||(may a i false&&may b i true && !b2 op false true)||(may a i true&&may b i true && !b2 op true true)
end T
end Go.Proofs.YtfgkhenhlpoheaaGreat
namespace Go.Proofs.YtfgkhenhlpoheaaGreat
open Go.RowKit Go.Sx
set_option maxRecDepth 100000
set_option maxHeartbeats 4000000
theorem dec63 {j:Nat}(h:j<64):IntKind.i64.wrap (63 - (j:Int)-1)=63 - ((j+1:Nat):Int):=by rw[IntWalk.i64_in _ (by omega)];omega
theorem rrange_run (lo hi:BitVec 64):run Tryz.prog ⟨[(156,k_rRight),(183,k_rBit),(64,k_rUnknown),(180,k_of)],eqs,[],[],[],mixs,meqs,[]⟩ 10000 [] 0 (bodyOf Tryz.f159) (initF Tryz.f159 [.u64 lo,.u64 hi]) [] (retK Tryz.prog Tryz.f159 fun x _=>eqv x (tsv (T.range lo hi))):=by
 (conv=>whnf)
 (repeat' (first | (refine And.intro (fun hb => ?_) (fun hb => ?_)<;>(first|contradiction | (conv=>whnf))) | (refine And.intro ?_ ?_;rotate_left 1;(conv=>whnf))))
 all_goals try (simp_all [eqv,eqv1,T.range];done)
 . have hle : ¬ hi<lo:=of_decide_eq_false hb
   refine .inr ⟨[],[0,1,4,5,6],fun k vals M=>∃ j:Nat,j≤64∧k=64-j∧(∀ k,k<64→64≤k+j→lo.getLsbD k=hi.getLsbD k)∧vals=[.u64 lo,.u64 hi,.ptr 0 0,.ptr 1 0,.int .i64 (63 - (j:Int))]∧M=[.cells 25 [.u64 (BitVec.ofInt 64 0),.u64 (BitVec.ofInt 64 0)],.cells 25 [.u64 lo,.u64 (BitVec.ofInt 64 0)]],?_⟩
   conv=>whnf
   refine And.intro ⟨64,[.cells 25 [.u64 (BitVec.ofInt 64 0),.u64 (BitVec.ofInt 64 0)],.cells 25 [.u64 lo,.u64 (BitVec.ofInt 64 0)]],(mle_cons ble_refl (mle_cons ble_refl mle_nil)),rfl,rfl,0,by omega,by omega,fun k h1 h2=>by omega,rfl,rfl⟩ ?_
   rintro k vals M1 ⟨j,hj,rfl,hx,rfl,rfl⟩
   (conv=>whnf)
   (repeat' (first | (refine And.intro (fun hb => ?_) (fun hb => ?_)<;>(first|contradiction | (conv=>whnf))) | (refine And.intro ?_ ?_;rotate_left 1;(conv=>whnf))))
   all_goals try (first|rfl|trivial | (simp;done) | (simp;omega) | (simp at hb ⊢;omega) | (simp only[decide_eq_true_eq,Bool.and_eq_true,Int.toNat_natCast] at *;omega))
   . have hlt:j<64:=by(have h := ‹decide ((0:Int)≤63 - (j:Int))=true›;simp at h;omega)
     have e:((63:Int) - (j:Int)).toNat=63-j:=by omega
     rw[e] at hb
     have hr:=T.range_at (i:=63-j) (by omega) hle hb fun k h1 h2=>hx k h2 (by omega)
     rw[hr];simp only[T.ofInt_small (show(0:Int)≤63 - (j:Int) by omega) (by omega),e];rfl
   . have hlt:j<64:=by(have h := ‹decide ((0:Int)≤63 - (j:Int))=true›;simp at h;omega)
     have e:((63:Int) - (j:Int)).toNat=63-j:=by omega
     rw[e] at hb
     have hr:=T.range_at (i:=63-j) (by omega) hle hb fun k h1 h2=>hx k h2 (by omega)
     rw[hr];simp only[T.ofInt_small (show(0:Int)≤63 - (j:Int) by omega) (by omega),e];rfl
   . have hlt:j<64:=by(have h := ‹decide ((0:Int)≤63 - (j:Int))=true›;simp at h;omega)
     have e:((63:Int) - (j:Int)).toNat=63-j:=by omega
     rw[e] at hb
     refine⟨64 - (j+1),[.cells 25 [.u64 (BitVec.ofInt 64 0),.u64 (BitVec.ofInt 64 0)],.cells 25 [.u64 lo,.u64 (BitVec.ofInt 64 0)]],[0,1],by omega,rfl,(mle_cons ble_refl (mle_cons ble_refl mle_nil)),rfl,rfl,j+1,by omega,rfl,?_,?_,rfl⟩
     . intro k h1 h2
       by_cases hk:64≤k+j
       . exact hx k h1 hk
       . obtain rfl:k=63-j:=by omega
         simpa using hb
     . rw[← dec63 hlt];rfl
   all_goals
    have hj2:j=64:=by simp at hb;omega
    subst hj2
    rw[T.range_same fun k h=>hx k h (by omega)];rfl
def k_rRange:List SV→List Blk→Res:=fun args _=>match args with
 |[.u64 lo,.u64 hi]=>.ok (tsv (T.range lo hi)) []
 |_=>.fail
theorem k_rRange_ok:CtrOk Tryz.prog Gw 159 k_rRange:=by
 refine⟨fun _ _=>by kernel_rfl,fun args M => ?_⟩
 unfold k_rRange
 split
 . rename_i lo hi
   exact ctr_flat (Γ:=⟨[(156,k_rRight),(183,k_rBit),(64,k_rUnknown),(180,k_of)],eqs,[],[],[],mixs,meqs,[]⟩) (sv:=tsv (T.range lo hi)) st_Gw ⟨(okCons k_rRight_ok (okCons k_rBit_ok (okCons k_rUnknown_ok (okCons k_of_ok okNil)))),eqs_ok,okNilB,okNilI,okNilP,mixs_ok,meqs_ok,okNilY⟩ Tryz.func159 rfl mixed [] (by kernel_rfl) 10000 (by rfl) (rrange_run lo hi)
 . trivial
end Go.Proofs.YtfgkhenhlpoheaaGreat
namespace Go.Proofs.YtfgkhenhlpoheaaGreat
open Go.RowKit Go.Sx
set_option maxRecDepth 100000
set_option maxHeartbeats 4000000
namespace T
theorem low_1 {a:Tn}(h:right a=true):low a 1=(⟨a.v &&& (BitVec.ofInt 64 1 <<< (BitVec.ofInt 64 (IntKind.i64.wrap (8*1))).toNat-BitVec.ofInt 64 1),a.m &&& (BitVec.ofInt 64 1 <<< (BitVec.ofInt 64 (IntKind.i64.wrap (8*1))).toNat-BitVec.ofInt 64 1)⟩,true):=by
 rw[show BitVec.ofInt 64 1 <<< (BitVec.ofInt 64 (IntKind.i64.wrap (8*1))).toNat-BitVec.ofInt 64 1=255#64 by decide];simp[low,h]
theorem low_2 {a:Tn}(h:right a=true):low a 2=(⟨a.v &&& (BitVec.ofInt 64 1 <<< (BitVec.ofInt 64 (IntKind.i64.wrap (8*2))).toNat-BitVec.ofInt 64 1),a.m &&& (BitVec.ofInt 64 1 <<< (BitVec.ofInt 64 (IntKind.i64.wrap (8*2))).toNat-BitVec.ofInt 64 1)⟩,true):=by
 rw[show BitVec.ofInt 64 1 <<< (BitVec.ofInt 64 (IntKind.i64.wrap (8*2))).toNat-BitVec.ofInt 64 1=65535#64 by decide];simp[low,h]
theorem low_4 {a:Tn}(h:right a=true):low a 4=(⟨a.v &&& (BitVec.ofInt 64 1 <<< (BitVec.ofInt 64 (IntKind.i64.wrap (8*4))).toNat-BitVec.ofInt 64 1),a.m &&& (BitVec.ofInt 64 1 <<< (BitVec.ofInt 64 (IntKind.i64.wrap (8*4))).toNat-BitVec.ofInt 64 1)⟩,true):=by
 rw[show BitVec.ofInt 64 1 <<< (BitVec.ofInt 64 (IntKind.i64.wrap (8*4))).toNat-BitVec.ofInt 64 1=4294967295#64 by decide];simp[low,h]
theorem low_8 {a:Tn}(h:right a=true):low a 8=(a,true):=by
 unfold low
 rw[if_pos h,if_neg (by decide),if_neg (by decide),if_neg (by decide),if_pos (by decide),show(18446744073709551615#64:BitVec 64)=BitVec.allOnes 64 by decide,BitVec.and_allOnes,BitVec.and_allOnes]
end T
def k_rOnes:List SV→List Blk→Res:=fun args _=>match args with
 |[.agg [.u64 av,.u64 am]]=>.ok (.u64 (av ||| am)) []
 |_=>.fail
theorem k_rOnes_ok:CtrOk Tryz.prog Gw 181 k_rOnes:=by
 refine⟨fun _ _=>by kernel_rfl,fun args M => ?_⟩
 unfold k_rOnes
 split
 . rename_i av am
   refine ctr_flat (Γ:=⟨[],eqs,[],[],[],mixs,meqs,[]⟩) (sv:=.u64 (av ||| am)) st_Gw ⟨okNil,eqs_ok,okNilB,okNilI,okNilP,mixs_ok,meqs_ok,okNilY⟩ Tryz.func181 rfl mixed [] (by kernel_rfl) 10000 (by rfl) ?_
   (conv=>whnf)
   (repeat' (first | (refine And.intro (fun hb => ?_) (fun hb => ?_)<;>(first|contradiction | (conv=>whnf))) | (refine And.intro ?_ ?_;rotate_left 1;(conv=>whnf))))
   all_goals (first|rfl|trivial | (simp_all [eqv,eqv1,eqv2,eqvL1,eqvL2]))
 . trivial
def k_rNoughts:List SV→List Blk→Res:=fun args _=>match args with
 |[.agg [.u64 av,.u64 am]]=>.ok (.u64 (~~~av)) []
 |_=>.fail
theorem k_rNoughts_ok:CtrOk Tryz.prog Gw 182 k_rNoughts:=by
 refine⟨fun _ _=>by kernel_rfl,fun args M => ?_⟩
 unfold k_rNoughts
 split
 . rename_i av am
   refine ctr_flat (Γ:=⟨[],eqs,[],[],[],mixs,meqs,[]⟩) (sv:=.u64 (~~~av)) st_Gw ⟨okNil,eqs_ok,okNilB,okNilI,okNilP,mixs_ok,meqs_ok,okNilY⟩ Tryz.func182 rfl mixed [] (by kernel_rfl) 10000 (by rfl) ?_
   (conv=>whnf)
   (repeat' (first | (refine And.intro (fun hb => ?_) (fun hb => ?_)<;>(first|contradiction | (conv=>whnf))) | (refine And.intro ?_ ?_;rotate_left 1;(conv=>whnf))))
   all_goals (first|rfl|trivial | (simp_all [eqv,eqv1,eqv2,eqvL1,eqvL2]))
 . trivial
def k_rMeet:List SV→List Blk→Res:=fun args _=>match args with
 |[.agg [.u64 av,.u64 am],.agg [.u64 bv,.u64 bm]]=>.ok (.tup [tsv (T.meet ⟨av,am⟩ ⟨bv,bm⟩).1,.bool (T.meet ⟨av,am⟩ ⟨bv,bm⟩).2]) []
 |_=>.fail
theorem k_rMeet_ok:CtrOk Tryz.prog Gw 158 k_rMeet:=by
 refine⟨fun _ _=>by kernel_rfl,fun args M => ?_⟩
 unfold k_rMeet
 split
 . rename_i av am bv bm
   refine ctr_flat (Γ:=⟨[(156,k_rRight),(181,k_rOnes),(182,k_rNoughts),(180,k_of)],eqs,[],[],[],mixs,meqs,[]⟩) (sv:=.tup [tsv (T.meet ⟨av,am⟩ ⟨bv,bm⟩).1,.bool (T.meet ⟨av,am⟩ ⟨bv,bm⟩).2]) st_Gw ⟨(okCons k_rRight_ok (okCons k_rOnes_ok (okCons k_rNoughts_ok (okCons k_of_ok okNil)))),eqs_ok,okNilB,okNilI,okNilP,mixs_ok,meqs_ok,okNilY⟩ Tryz.func158 rfl mixed [(3,12,[0,1,0,7,15,0,47,0,239,495,1023,2047,2047,8191,16383])] (by kernel_rfl) 10000 (by rfl) ?_
   (conv=>whnf)
   (repeat' (first | (refine And.intro (fun hb => ?_) (fun hb => ?_)<;>(first|contradiction | (conv=>whnf))) | (refine And.intro ?_ ?_;rotate_left 1;(conv=>whnf))))
   all_goals (first|trivial | (simp_all [eqv,eqv1,eqv2,T.meet];done) | (rw[← T.of_meet (by simp_all) (by simp_all)];try rfl))
 . trivial
def k_rLow:List SV→List Blk→Res:=fun args _=>match args with
 |[.agg [.u64 av,.u64 am],.int .i64 n]=>.ok (.tup [tsv (T.low ⟨av,am⟩ n).1,.bool (T.low ⟨av,am⟩ n).2]) []
 |_=>.fail
theorem k_rLow_ok:CtrOk Tryz.prog Gw 124 k_rLow:=by
 refine⟨fun _ _=>by kernel_rfl,fun args M => ?_⟩
 unfold k_rLow
 split
 . rename_i av am n
   refine ctr_flat (Γ:=⟨[(156,k_rRight)],eqs,[],[],[],mixs,meqs,[]⟩) (sv:=.tup [tsv (T.low ⟨av,am⟩ n).1,.bool (T.low ⟨av,am⟩ n).2]) st_Gw ⟨(okCons k_rRight_ok okNil),eqs_ok,okNilB,okNilI,okNilP,mixs_ok,meqs_ok,okNilY⟩ Tryz.func124 rfl mixed [] (by kernel_rfl) 10000 (by rfl) ?_
   (conv=>whnf)
   (repeat' (first | (refine And.intro (fun hb => ?_) (fun hb => ?_)<;>(first|contradiction | (conv=>whnf))) | (refine And.intro ?_ ?_;rotate_left 1;(conv=>whnf))))
   all_goals (first|trivial | (simp_all [eqv,eqv1,eqv2,T.low];done) | ((have h1:n=1:=by simp_all);subst h1;rw[T.low_1 (by simp_all)];try rfl) | ((have h1:n=2:=by simp_all);subst h1;rw[T.low_2 (by simp_all)];try rfl) | ((have h1:n=4:=by simp_all);subst h1;rw[T.low_4 (by simp_all)];try rfl) | ((have h1:n=8:=by simp_all);subst h1;rw[T.low_8 (by simp_all)];try rfl))
 . trivial
end Go.Proofs.YtfgkhenhlpoheaaGreat
namespace Go.Proofs.YtfgkhenhlpoheaaGreat
open Go.RowKit Go.Sx
set_option maxRecDepth 100000
set_option maxHeartbeats 4000000
def k_sof:List SV→List Blk→Res:=fun args _=>match args with
 |[.agg [.u64 alo,.u64 ahi,.int .i64 asl,.int .i64 ash]]=>.ok (spv (⟨alo,ahi,asl,ash⟩:Sp)) []
 |_=>.fail
theorem k_sof_ok:CtrOk Tryz.prog Gw 176 k_sof:=by
 refine⟨fun _ _=>by kernel_rfl,fun args M => ?_⟩
 unfold k_sof
 split
 . rename_i alo ahi asl ash
   refine ctr_flat (Γ:=⟨[],eqs,[],[],[],mixs,meqs,[]⟩) (sv:=spv (⟨alo,ahi,asl,ash⟩:Sp)) st_Gw ⟨okNil,eqs_ok,okNilB,okNilI,okNilP,mixs_ok,meqs_ok,okNilY⟩ Tryz.func176 rfl mixed [] (by kernel_rfl) 10000 (by rfl) ?_
   (conv=>whnf)
   (repeat' (first | (refine And.intro (fun hb => ?_) (fun hb => ?_)<;>(first|contradiction | (conv=>whnf))) | (refine And.intro ?_ ?_;rotate_left 1;(conv=>whnf))))
   all_goals (first|rfl|trivial | ((try dsimp only at *);(try simp only[Bool.not_eq_true',Bool.not_eq_false',bne,ite_uv] at *);(simp only[eqv,eqv1,eqv2,eqvL1,eqvL2, *,bne,Bool.and_true,Bool.true_and,Bool.and_false,Bool.false_and,Bool.or_true,Bool.true_or,Bool.or_false,Bool.false_or,Bool.not_true,Bool.not_false,if_true,if_false,Bool.false_eq_true,beq_self_eq_true];done)) | ((try dsimp only at *);(try simp only[Bool.not_eq_true',Bool.not_eq_false',bne] at *);simp only[eqv,eqv1,eqv2,eqvL1,eqvL2, *,bne,Bool.and_true,Bool.true_and,Bool.and_false,Bool.false_and,Bool.or_true,Bool.true_or,Bool.or_false,Bool.false_or,Bool.not_true,Bool.not_false,if_true,if_false,Bool.false_eq_true,beq_self_eq_true];rfl) | (simp_all [eqv,eqv1,eqv2,eqvL1,eqvL2];done))
 . trivial
def k_sall:List SV→List Blk→Res:=fun args _=>match args with
 |[]=>.ok (spv S.full) []
 |_=>.fail
theorem k_sall_ok:CtrOk Tryz.prog Gw 202 k_sall:=by
 refine⟨fun _ _=>by kernel_rfl,fun args M => ?_⟩
 unfold k_sall
 split
 . refine ctr_flat (Γ:=⟨[],eqs,[],[],[],mixs,meqs,[]⟩) (sv:=spv S.full) st_Gw ⟨okNil,eqs_ok,okNilB,okNilI,okNilP,mixs_ok,meqs_ok,okNilY⟩ Tryz.func202 rfl mixed [] (by kernel_rfl) 10000 (by rfl) ?_
   (conv=>whnf)
   (repeat' (first | (refine And.intro (fun hb => ?_) (fun hb => ?_)<;>(first|contradiction | (conv=>whnf))) | (refine And.intro ?_ ?_;rotate_left 1;(conv=>whnf))))
   all_goals (first|rfl|trivial | ((try dsimp only at *);(try simp only[Bool.not_eq_true',Bool.not_eq_false',bne,ite_uv] at *);(simp only[eqv,eqv1,eqv2,eqvL1,eqvL2, *,bne,Bool.and_true,Bool.true_and,Bool.and_false,Bool.false_and,Bool.or_true,Bool.true_or,Bool.or_false,Bool.false_or,Bool.not_true,Bool.not_false,if_true,if_false,Bool.false_eq_true,beq_self_eq_true];done)) | ((try dsimp only at *);(try simp only[Bool.not_eq_true',Bool.not_eq_false',bne] at *);simp only[eqv,eqv1,eqv2,eqvL1,eqvL2, *,bne,Bool.and_true,Bool.true_and,Bool.and_false,Bool.false_and,Bool.or_true,Bool.true_or,Bool.or_false,Bool.false_or,Bool.not_true,Bool.not_false,if_true,if_false,Bool.false_eq_true,beq_self_eq_true];rfl) | (simp_all [eqv,eqv1,eqv2,eqvL1,eqvL2];done))
 . trivial
def k_sspan:List SV→List Blk→Res:=fun args _=>match args with
 |[.agg [.u64 alo,.u64 ahi,.int .i64 asl,.int .i64 ash]]=>.ok (spv (⟨alo,ahi,asl,ash⟩:Sp)) []
 |_=>.fail
theorem k_sspan_ok:CtrOk Tryz.prog Gw 26 k_sspan:=by
 refine⟨fun _ _=>by kernel_rfl,fun args M => ?_⟩
 unfold k_sspan
 split
 . rename_i alo ahi asl ash
   refine ctr_flat (Γ:=⟨[],eqs,[],[],[],mixs,meqs,[]⟩) (sv:=spv (⟨alo,ahi,asl,ash⟩:Sp)) st_Gw ⟨okNil,eqs_ok,okNilB,okNilI,okNilP,mixs_ok,meqs_ok,okNilY⟩ Tryz.func26 rfl mixed [] (by kernel_rfl) 10000 (by rfl) ?_
   (conv=>whnf)
   (repeat' (first | (refine And.intro (fun hb => ?_) (fun hb => ?_)<;>(first|contradiction | (conv=>whnf))) | (refine And.intro ?_ ?_;rotate_left 1;(conv=>whnf))))
   all_goals (first|rfl|trivial | ((try dsimp only at *);(try simp only[Bool.not_eq_true',Bool.not_eq_false',bne,ite_uv] at *);(simp only[eqv,eqv1,eqv2,eqvL1,eqvL2, *,bne,Bool.and_true,Bool.true_and,Bool.and_false,Bool.false_and,Bool.or_true,Bool.true_or,Bool.or_false,Bool.false_or,Bool.not_true,Bool.not_false,if_true,if_false,Bool.false_eq_true,beq_self_eq_true];done)) | ((try dsimp only at *);(try simp only[Bool.not_eq_true',Bool.not_eq_false',bne] at *);simp only[eqv,eqv1,eqv2,eqvL1,eqvL2, *,bne,Bool.and_true,Bool.true_and,Bool.and_false,Bool.false_and,Bool.or_true,Bool.true_or,Bool.or_false,Bool.false_or,Bool.not_true,Bool.not_false,if_true,if_false,Bool.false_eq_true,beq_self_eq_true];rfl) | (simp_all [eqv,eqv1,eqv2,eqvL1,eqvL2];done))
 . trivial
def k_srightU:List SV→List Blk→Res:=fun args _=>match args with
 |[.agg [.u64 alo,.u64 ahi]]=>.ok (.bool (decide (alo≤ahi))) []
 |_=>.fail
theorem k_srightU_ok:CtrOk Tryz.prog Gw 204 k_srightU:=by
 refine⟨fun _ _=>by kernel_rfl,fun args M => ?_⟩
 unfold k_srightU
 split
 . rename_i alo ahi
   refine ctr_flat (Γ:=⟨[],eqs,[],[],[],mixs,meqs,[]⟩) (sv:=.bool (decide (alo≤ahi))) st_Gw ⟨okNil,eqs_ok,okNilB,okNilI,okNilP,mixs_ok,meqs_ok,okNilY⟩ Tryz.func204 rfl mixed [] (by kernel_rfl) 10000 (by rfl) ?_
   (conv=>whnf)
   (repeat' (first | (refine And.intro (fun hb => ?_) (fun hb => ?_)<;>(first|contradiction | (conv=>whnf))) | (refine And.intro ?_ ?_;rotate_left 1;(conv=>whnf))))
   all_goals (first|rfl|trivial | ((try dsimp only at *);(try simp only[Bool.not_eq_true',Bool.not_eq_false',bne,ite_uv] at *);(simp only[eqv,eqv1,eqv2,eqvL1,eqvL2, *,bne,Bool.and_true,Bool.true_and,Bool.and_false,Bool.false_and,Bool.or_true,Bool.true_or,Bool.or_false,Bool.false_or,Bool.not_true,Bool.not_false,if_true,if_false,Bool.false_eq_true,beq_self_eq_true];done)) | ((try dsimp only at *);(try simp only[Bool.not_eq_true',Bool.not_eq_false',bne] at *);simp only[eqv,eqv1,eqv2,eqvL1,eqvL2, *,bne,Bool.and_true,Bool.true_and,Bool.and_false,Bool.false_and,Bool.or_true,Bool.true_or,Bool.or_false,Bool.false_or,Bool.not_true,Bool.not_false,if_true,if_false,Bool.false_eq_true,beq_self_eq_true];rfl) | (simp_all [eqv,eqv1,eqv2,eqvL1,eqvL2];done))
 . trivial
def k_srightI:List SV→List Blk→Res:=fun args _=>match args with
 |[.agg [.int .i64 asl,.int .i64 ash]]=>.ok (.bool (decide (asl≤ash))) []
 |_=>.fail
theorem k_srightI_ok:CtrOk Tryz.prog Gw 205 k_srightI:=by
 refine⟨fun _ _=>by kernel_rfl,fun args M => ?_⟩
 unfold k_srightI
 split
 . rename_i asl ash
   refine ctr_flat (Γ:=⟨[],eqs,[],[],[],mixs,meqs,[]⟩) (sv:=.bool (decide (asl≤ash))) st_Gw ⟨okNil,eqs_ok,okNilB,okNilI,okNilP,mixs_ok,meqs_ok,okNilY⟩ Tryz.func205 rfl mixed [] (by kernel_rfl) 10000 (by rfl) ?_
   (conv=>whnf)
   (repeat' (first | (refine And.intro (fun hb => ?_) (fun hb => ?_)<;>(first|contradiction | (conv=>whnf))) | (refine And.intro ?_ ?_;rotate_left 1;(conv=>whnf))))
   all_goals (first|rfl|trivial | ((try dsimp only at *);(try simp only[Bool.not_eq_true',Bool.not_eq_false',bne,ite_uv] at *);(simp only[eqv,eqv1,eqv2,eqvL1,eqvL2, *,bne,Bool.and_true,Bool.true_and,Bool.and_false,Bool.false_and,Bool.or_true,Bool.true_or,Bool.or_false,Bool.false_or,Bool.not_true,Bool.not_false,if_true,if_false,Bool.false_eq_true,beq_self_eq_true];done)) | ((try dsimp only at *);(try simp only[Bool.not_eq_true',Bool.not_eq_false',bne] at *);simp only[eqv,eqv1,eqv2,eqvL1,eqvL2, *,bne,Bool.and_true,Bool.true_and,Bool.and_false,Bool.false_and,Bool.or_true,Bool.true_or,Bool.or_false,Bool.false_or,Bool.not_true,Bool.not_false,if_true,if_false,Bool.false_eq_true,beq_self_eq_true];rfl) | (simp_all [eqv,eqv1,eqv2,eqvL1,eqvL2];done))
 . trivial
def k_sgood:List SV→List Blk→Res:=fun args _=>match args with
 |[.agg [.u64 alo,.u64 ahi,.int .i64 asl,.int .i64 ash]]=>.ok (.bool (S.good (⟨alo,ahi,asl,ash⟩:Sp))) []
 |_=>.fail
theorem k_sgood_ok:CtrOk Tryz.prog Gw 177 k_sgood:=by
 refine⟨fun _ _=>by kernel_rfl,fun args M => ?_⟩
 unfold k_sgood
 split
 . rename_i alo ahi asl ash
   refine ctr_flat (Γ:=⟨[(204,k_srightU),(205,k_srightI)],eqs,[],[],[],mixs,meqs,[]⟩) (sv:=.bool (S.good (⟨alo,ahi,asl,ash⟩:Sp))) st_Gw ⟨(okCons k_srightU_ok (okCons k_srightI_ok okNil)),eqs_ok,okNilB,okNilI,okNilP,mixs_ok,meqs_ok,okNilY⟩ Tryz.func177 rfl mixed [] (by kernel_rfl) 10000 (by rfl) ?_
   (conv=>whnf)
   (repeat' (first | (refine And.intro (fun hb => ?_) (fun hb => ?_)<;>(first|contradiction | (conv=>whnf))) | (refine And.intro ?_ ?_;rotate_left 1;(conv=>whnf))))
   all_goals (first|rfl|trivial | ((try dsimp only at *);(try simp only[Bool.not_eq_true',Bool.not_eq_false',bne,ite_uv] at *);(simp only[eqv,eqv1,eqv2,eqvL1,eqvL2, *,S.good,bne,Bool.and_true,Bool.true_and,Bool.and_false,Bool.false_and,Bool.or_true,Bool.true_or,Bool.or_false,Bool.false_or,Bool.not_true,Bool.not_false,if_true,if_false,Bool.false_eq_true,beq_self_eq_true];done)) | ((try dsimp only at *);(try simp only[Bool.not_eq_true',Bool.not_eq_false',bne] at *);simp only[eqv,eqv1,eqv2,eqvL1,eqvL2, *,S.good,bne,Bool.and_true,Bool.true_and,Bool.and_false,Bool.false_and,Bool.or_true,Bool.true_or,Bool.or_false,Bool.false_or,Bool.not_true,Bool.not_false,if_true,if_false,Bool.false_eq_true,beq_self_eq_true];rfl) | (simp_all [eqv,eqv1,eqv2,eqvL1,eqvL2,S.good];done))
 . trivial
def k_soneU:List SV→List Blk→Res:=fun args _=>match args with
 |[.u64 n]=>.ok (.agg [.u64 n,.u64 n]) []
 |_=>.fail
theorem k_soneU_ok:CtrOk Tryz.prog Gw 24 k_soneU:=by
 refine⟨fun _ _=>by kernel_rfl,fun args M => ?_⟩
 unfold k_soneU
 split
 . rename_i n
   refine ctr_flat (Γ:=⟨[],eqs,[],[],[],mixs,meqs,[]⟩) (sv:=.agg [.u64 n,.u64 n]) st_Gw ⟨okNil,eqs_ok,okNilB,okNilI,okNilP,mixs_ok,meqs_ok,okNilY⟩ Tryz.func24 rfl mixed [] (by kernel_rfl) 10000 (by rfl) ?_
   (conv=>whnf)
   (repeat' (first | (refine And.intro (fun hb => ?_) (fun hb => ?_)<;>(first|contradiction | (conv=>whnf))) | (refine And.intro ?_ ?_;rotate_left 1;(conv=>whnf))))
   all_goals (first|rfl|trivial | ((try dsimp only at *);(try simp only[Bool.not_eq_true',Bool.not_eq_false',bne,ite_uv] at *);(simp only[eqv,eqv1,eqv2,eqvL1,eqvL2, *,bne,Bool.and_true,Bool.true_and,Bool.and_false,Bool.false_and,Bool.or_true,Bool.true_or,Bool.or_false,Bool.false_or,Bool.not_true,Bool.not_false,if_true,if_false,Bool.false_eq_true,beq_self_eq_true];done)) | ((try dsimp only at *);(try simp only[Bool.not_eq_true',Bool.not_eq_false',bne] at *);simp only[eqv,eqv1,eqv2,eqvL1,eqvL2, *,bne,Bool.and_true,Bool.true_and,Bool.and_false,Bool.false_and,Bool.or_true,Bool.true_or,Bool.or_false,Bool.false_or,Bool.not_true,Bool.not_false,if_true,if_false,Bool.false_eq_true,beq_self_eq_true];rfl) | (simp_all [eqv,eqv1,eqv2,eqvL1,eqvL2];done))
 . trivial
def k_soneI:List SV→List Blk→Res:=fun args _=>match args with
 |[.int .i64 n]=>.ok (.agg [.int .i64 n,.int .i64 n]) []
 |_=>.fail
theorem k_soneI_ok:CtrOk Tryz.prog Gw 25 k_soneI:=by
 refine⟨fun _ _=>by kernel_rfl,fun args M => ?_⟩
 unfold k_soneI
 split
 . rename_i n
   refine ctr_flat (Γ:=⟨[],eqs,[],[],[],mixs,meqs,[]⟩) (sv:=.agg [.int .i64 n,.int .i64 n]) st_Gw ⟨okNil,eqs_ok,okNilB,okNilI,okNilP,mixs_ok,meqs_ok,okNilY⟩ Tryz.func25 rfl mixed [] (by kernel_rfl) 10000 (by rfl) ?_
   (conv=>whnf)
   (repeat' (first | (refine And.intro (fun hb => ?_) (fun hb => ?_)<;>(first|contradiction | (conv=>whnf))) | (refine And.intro ?_ ?_;rotate_left 1;(conv=>whnf))))
   all_goals (first|rfl|trivial | ((try dsimp only at *);(try simp only[Bool.not_eq_true',Bool.not_eq_false',bne,ite_uv] at *);(simp only[eqv,eqv1,eqv2,eqvL1,eqvL2, *,bne,Bool.and_true,Bool.true_and,Bool.and_false,Bool.false_and,Bool.or_true,Bool.true_or,Bool.or_false,Bool.false_or,Bool.not_true,Bool.not_false,if_true,if_false,Bool.false_eq_true,beq_self_eq_true];done)) | ((try dsimp only at *);(try simp only[Bool.not_eq_true',Bool.not_eq_false',bne] at *);simp only[eqv,eqv1,eqv2,eqvL1,eqvL2, *,bne,Bool.and_true,Bool.true_and,Bool.and_false,Bool.false_and,Bool.or_true,Bool.true_or,Bool.or_false,Bool.false_or,Bool.not_true,Bool.not_false,if_true,if_false,Bool.false_eq_true,beq_self_eq_true];rfl) | (simp_all [eqv,eqv1,eqv2,eqvL1,eqvL2];done))
 . trivial
def k_sFull:List SV→List Blk→Res:=fun args _=>match args with
 |[]=>.ok (spv S.full) []
 |_=>.fail
theorem k_sFull_ok:CtrOk Tryz.prog Gw 169 k_sFull:=by
 refine⟨fun _ _=>by kernel_rfl,fun args M => ?_⟩
 unfold k_sFull
 split
 . refine ctr_flat (Γ:=⟨[(202,k_sall),(26,k_sspan)],eqs,[],[],[],mixs,meqs,[]⟩) (sv:=spv S.full) st_Gw ⟨(okCons k_sall_ok (okCons k_sspan_ok okNil)),eqs_ok,okNilB,okNilI,okNilP,mixs_ok,meqs_ok,okNilY⟩ Tryz.func169 rfl mixed [] (by kernel_rfl) 10000 (by rfl) ?_
   (conv=>whnf)
   (repeat' (first | (refine And.intro (fun hb => ?_) (fun hb => ?_)<;>(first|contradiction | (conv=>whnf))) | (refine And.intro ?_ ?_;rotate_left 1;(conv=>whnf))))
   all_goals (first|rfl|trivial | ((try dsimp only at *);(try simp only[Bool.not_eq_true',Bool.not_eq_false',bne,ite_uv] at *);(simp only[eqv,eqv1,eqv2,eqvL1,eqvL2, *,bne,Bool.and_true,Bool.true_and,Bool.and_false,Bool.false_and,Bool.or_true,Bool.true_or,Bool.or_false,Bool.false_or,Bool.not_true,Bool.not_false,if_true,if_false,Bool.false_eq_true,beq_self_eq_true];done)) | ((try dsimp only at *);(try simp only[Bool.not_eq_true',Bool.not_eq_false',bne] at *);simp only[eqv,eqv1,eqv2,eqvL1,eqvL2, *,bne,Bool.and_true,Bool.true_and,Bool.and_false,Bool.false_and,Bool.or_true,Bool.true_or,Bool.or_false,Bool.false_or,Bool.not_true,Bool.not_false,if_true,if_false,Bool.false_eq_true,beq_self_eq_true];rfl) | (simp_all [eqv,eqv1,eqv2,eqvL1,eqvL2];done))
 . trivial
def k_sConst:List SV→List Blk→Res:=fun args _=>match args with
 |[.u64 n]=>.ok (spv (S.one n)) []
 |_=>.fail
theorem k_sConst_ok:CtrOk Tryz.prog Gw 11 k_sConst:=by
 refine⟨fun _ _=>by kernel_rfl,fun args M => ?_⟩
 unfold k_sConst
 split
 . rename_i n
   refine ctr_flat (Γ:=⟨[(24,k_soneU),(25,k_soneI),(26,k_sspan)],eqs,[],[],[],mixs,meqs,[]⟩) (sv:=spv (S.one n)) st_Gw ⟨(okCons k_soneU_ok (okCons k_soneI_ok (okCons k_sspan_ok okNil))),eqs_ok,okNilB,okNilI,okNilP,mixs_ok,meqs_ok,okNilY⟩ Tryz.func11 rfl mixed [] (by kernel_rfl) 10000 (by rfl) ?_
   (conv=>whnf)
   (repeat' (first | (refine And.intro (fun hb => ?_) (fun hb => ?_)<;>(first|contradiction | (conv=>whnf))) | (refine And.intro ?_ ?_;rotate_left 1;(conv=>whnf))))
   all_goals (first|rfl|trivial | ((try dsimp only at *);(try simp only[Bool.not_eq_true',Bool.not_eq_false',bne,ite_uv] at *);(simp only[eqv,eqv1,eqv2,eqvL1,eqvL2, *,S.one,bne,Bool.and_true,Bool.true_and,Bool.and_false,Bool.false_and,Bool.or_true,Bool.true_or,Bool.or_false,Bool.false_or,Bool.not_true,Bool.not_false,if_true,if_false,Bool.false_eq_true,beq_self_eq_true];done)) | ((try dsimp only at *);(try simp only[Bool.not_eq_true',Bool.not_eq_false',bne] at *);simp only[eqv,eqv1,eqv2,eqvL1,eqvL2, *,S.one,bne,Bool.and_true,Bool.true_and,Bool.and_false,Bool.false_and,Bool.or_true,Bool.true_or,Bool.or_false,Bool.false_or,Bool.not_true,Bool.not_false,if_true,if_false,Bool.false_eq_true,beq_self_eq_true];rfl) | (simp_all [eqv,eqv1,eqv2,eqvL1,eqvL2,S.one];done))
 . trivial
def k_sRight:List SV→List Blk→Res:=fun args _=>match args with
 |[.agg [.u64 alo,.u64 ahi,.int .i64 asl,.int .i64 ash]]=>.ok (.bool (S.good (⟨alo,ahi,asl,ash⟩:Sp))) []
 |_=>.fail
theorem k_sRight_ok:CtrOk Tryz.prog Gw 146 k_sRight:=by
 refine⟨fun _ _=>by kernel_rfl,fun args M => ?_⟩
 unfold k_sRight
 split
 . rename_i alo ahi asl ash
   refine ctr_flat (Γ:=⟨[(176,k_sof),(177,k_sgood)],eqs,[],[],[],mixs,meqs,[]⟩) (sv:=.bool (S.good (⟨alo,ahi,asl,ash⟩:Sp))) st_Gw ⟨(okCons k_sof_ok (okCons k_sgood_ok okNil)),eqs_ok,okNilB,okNilI,okNilP,mixs_ok,meqs_ok,okNilY⟩ Tryz.func146 rfl mixed [] (by kernel_rfl) 10000 (by rfl) ?_
   (conv=>whnf)
   (repeat' (first | (refine And.intro (fun hb => ?_) (fun hb => ?_)<;>(first|contradiction | (conv=>whnf))) | (refine And.intro ?_ ?_;rotate_left 1;(conv=>whnf))))
   all_goals (first|rfl|trivial | ((try dsimp only at *);(try simp only[Bool.not_eq_true',Bool.not_eq_false',bne,ite_uv] at *);(simp only[eqv,eqv1,eqv2,eqvL1,eqvL2, *,bne,Bool.and_true,Bool.true_and,Bool.and_false,Bool.false_and,Bool.or_true,Bool.true_or,Bool.or_false,Bool.false_or,Bool.not_true,Bool.not_false,if_true,if_false,Bool.false_eq_true,beq_self_eq_true];done)) | ((try dsimp only at *);(try simp only[Bool.not_eq_true',Bool.not_eq_false',bne] at *);simp only[eqv,eqv1,eqv2,eqvL1,eqvL2, *,bne,Bool.and_true,Bool.true_and,Bool.and_false,Bool.false_and,Bool.or_true,Bool.true_or,Bool.or_false,Bool.false_or,Bool.not_true,Bool.not_false,if_true,if_false,Bool.false_eq_true,beq_self_eq_true];rfl) | (simp_all [eqv,eqv1,eqv2,eqvL1,eqvL2];done))
 . trivial
end Go.Proofs.YtfgkhenhlpoheaaGreat
namespace Go.Proofs.YtfgkhenhlpoheaaGreat
open Go.RowKit Go.Sx
set_option maxRecDepth 100000
set_option maxHeartbeats 4000000
namespace S
end S
def k_srRight:List SV→List Blk→Res:=fun args _=>match args with
 |[.agg [.u64 alo,.u64 ahi,.int .i64 asl,.int .i64 ash]]=>.ok (.bool (S.good (⟨alo,ahi,asl,ash⟩:Sp))) []
 |_=>.fail
theorem k_srRight_ok:CtrOk Tryz.prog Gw 157 k_srRight:=by
 refine⟨fun _ _=>by kernel_rfl,fun args M => ?_⟩
 unfold k_srRight
 split
 . rename_i alo ahi asl ash
   refine ctr_flat (Γ:=⟨[],eqs,[],[],[],mixs,meqs,[]⟩) (sv:=.bool (S.good (⟨alo,ahi,asl,ash⟩:Sp))) st_Gw ⟨okNil,eqs_ok,okNilB,okNilI,okNilP,mixs_ok,meqs_ok,okNilY⟩ Tryz.func157 rfl mixed [] (by kernel_rfl) 10000 (by rfl) ?_
   (conv=>whnf)
   (repeat' (first | (refine And.intro (fun hb => ?_) (fun hb => ?_)<;>(first|contradiction | (conv=>whnf))) | (refine And.intro ?_ ?_;rotate_left 1;(conv=>whnf))))
   all_goals (first|rfl|trivial | ((try dsimp only at *);(try simp only[Bool.not_eq_true',Bool.not_eq_false',bne,ite_uv] at *);(simp only[eqv,eqv1,eqv2,eqvL1,eqvL2, *,S.good,bne,Bool.and_true,Bool.true_and,Bool.and_false,Bool.false_and,Bool.or_true,Bool.true_or,Bool.or_false,Bool.false_or,Bool.not_true,Bool.not_false,if_true,if_false,Bool.false_eq_true,beq_self_eq_true];done)) | ((try dsimp only at *);(try simp only[Bool.not_eq_true',Bool.not_eq_false',bne] at *);simp only[eqv,eqv1,eqv2,eqvL1,eqvL2, *,S.good,bne,Bool.and_true,Bool.true_and,Bool.and_false,Bool.false_and,Bool.or_true,Bool.true_or,Bool.or_false,Bool.false_or,Bool.not_true,Bool.not_false,if_true,if_false,Bool.false_eq_true,beq_self_eq_true];rfl) | (simp_all [eqv,eqv1,eqv2,eqvL1,eqvL2,S.good];done))
 . trivial
end Go.Proofs.YtfgkhenhlpoheaaGreat
namespace Go.Sx
open Go.RowKit Go.Proofs.YtfgkhenhlpoheaaGreat
def OutM (P:Program):List Deferred→World→(World→Prop)→Prop
 |[],w,Q=>Q w
 |d::ds,w,Q=>∃ r w',d.target = .collected r∧(Instr.takeDeferred r).run P w = .ok [] w'∧OutM P ds w' Q
theorem OutM.steps {P:Program}{Fc:Fence}{n:Nat}{Q:World→Prop}:∀ (ds:List Deferred) (w:World) (fr:Frame) (cs:List Frame),fr.mode = .returning→fr.defers=ds→Fc.fn fr.fn→Fc.room (cs.length+1+n)→OutM P ds w Q→
  ∃ w',Q w'∧StepsIn (Machine.fenced P Fc) P (lone fr cs w) (lone {fr with defers:=[]} cs w')
 |[],w,fr,cs,hm,hd,hF,hr,h=>⟨w,h,by cases fr;simp only at hd;subst hd;exact StepsIn.refl _⟩
 |d::ds,w,fr,cs,hm,hd,hF,hr,h=>by
  obtain⟨r,w',ht,hk,h'⟩:=h
  have h1:=step_collected (P:=P) (cs:=cs) (by rw[hm];simp) hd ht hk
  have i1:(lone fr cs w).fenced P Fc:=fenced_out hF hr (by rw[hm];simp) hd (fun g hg=>by rw[ht] at hg;simp[Target.leads] at hg)
  obtain⟨w'',hq,hs⟩:=OutM.steps ds w' {fr with defers:=[]++ds} cs hm rfl hF hr h'
  exact⟨w'',hq,.head i1 h1 hs⟩
section
variable {P:Program}{Q:Exit→Act→List Frame→World→Prop}{a:Act}{cs:List Frame}{w:World}
end
section
variable {P:Program}{G:World→Prop}{Γ:Env}
structure RecOk (P:Program)(g:FuncId)(fg:Func)(Tg:Tbl)(restG:Code)(d1:Nat)(d2:Option Nat):Prop where
 iter:IterOk P g fg Tg
 res:fg.results = #[]
 shape:∃ (id:Nat) (o1 o2:Oper) (ts:Array TypeId),bodyOf fg = .seq (.region id #[o1,o2] false) restG∧o1.op = .call ⟨.builtin .recover,#[],ts⟩∧o1.dst=some d1∧o1.guard=none∧o2.op = .assign (.tmp d1)∧o2.guard=none∧o2.dst=d2
structure DefOk (P:Program)(f:FuncId)(fn:Func)(T:Tbl)(k:Nat)(g:FuncId)(caps:List Operand)(d:Nat)(rest:Code):Prop where
 func:P.funcs[f]? = some fn
 body:fn.body.isSome=true
 chain:chainB k (bodyOf fn)=true
 code1:codeOk T (takeC k (bodyOf fn))=true
 code2:codeOk T rest=true
 shape:∃ (id:Nat) (o1 o2:Oper) (cs:Array Operand) (ts:Array TypeId),dropC k (bodyOf fn) = .seq (.region id #[o1,o2] false) rest∧o1.op = .makeFunc (.func g) #[] cs∧cs.toList=caps∧o1.dst=some d∧o1.guard=none∧o2.op = .defer ⟨.value (.tmp d),#[],ts⟩∧o2.dst=none∧o2.guard=none
noncomputable def holds (p:Prop):Bool:=by
 classical
 exact decide p
end
end Go.Sx
namespace Go.Sx
open Go.RowKit Go.Proofs.YtfgkhenhlpoheaaGreat
def retKP (P:Program)(fn:Func)(Φ:Option Value→SV→List Blk→Prop):X→List SV→List Blk→Prop
 | .exit _,_,_=>False
 | .panic v,_,M=>Φ (some v) .junk M
 | .normal,F,M=>match retS P fn F M with
   |some x=>force3 x fun x=>Φ none x M
   |none=>False
 | .ret,F,M=>match retS P fn F M with
   |some x=>force3 x fun x=>Φ none x M
   |none=>False
section
variable {P:Program}{G:World→Prop}{Γ:Env}
theorem retKP_is {fn:Func}{Φ:Option Value→SV→List Blk→Prop}{x:X}{F:List SV}{M:List Blk}(h:retKP P fn Φ x F M):(∃ v,x = .panic v∧Φ (some v) .junk M)∨((x = .normal∨x = .ret)∧∃ sv,retS P fn F M=some sv∧Φ none sv M):=by
 cases x with
 |exit id=>exact h.elim
 |panic v=>exact .inl ⟨v,rfl,h⟩
 |normal=>
  simp only[retKP] at h
  split at h
  . rename_i sv hs;rw[force3_eq] at h;exact .inr ⟨.inl rfl,sv,hs,h⟩
  . exact h.elim
 |ret=>
  simp only[retKP] at h
  split at h
  . rename_i sv hs;rw[force3_eq] at h;exact .inr ⟨.inr rfl,sv,hs,h⟩
  . exact h.elim
theorem calls_run_p (hΓ:EnvOk P G Γ){f:FuncId}{fn:Func}(hf:P.funcs[f]? = some fn)(hb:fn.body.isSome=true)(hm:Okay P)(T:Tbl)(hT:codeOk T (bodyOf fn)=true)(n z:Nat){args:List SV}{M0:List Blk}{ρ0:Val}{w:World}{Φ:Option Value→SV→List Blk→Prop}{B:Bd}(hG:∀ w',Kept B w w'→G w')
  (hsc:okSt args M0=true) (hM:MRel B ρ0 M0 w) (hz:z≤M0.length) (h:run P Γ n T z (bodyOf fn) (initF fn args) M0 (retKP P fn Φ)):
  Calls P f (denL ρ0 args).toArray w fun e w'=>∃ (p:Option Value) (ρ':Val) (sv:SV) (M:List Blk),e=endS p sv ρ'∧Φ p sv M∧MRel B ρ' M w'∧scAll M.length M=true∧Kept B w w'∧z≤M.length∧∀ n,n<z→ρ' n=ρ0 n:=by
 have:=body_soundP (run_sound hm hΓ n) hf hb hT hG hsc hM hz h (fun x F M hK=>by
  rcases retKP_is hK with⟨v,e,_⟩ | ⟨hx,sv,hs,_⟩
  . exact .inl ⟨v,e⟩
  . exact .inr ⟨hx,sv,hs⟩)
 refine(callsIn_wide (n:=0).1 this).mono ?_
 rintro e w' ⟨ρ',p,sv,x,F',M',rfl,hE,hK,hM',hsc',hk,hz',hρ'⟩
 rcases hE with⟨rfl,hx,hsv⟩ | ⟨v,rfl,rfl⟩
 . rcases retKP_is hK with⟨v,e,_⟩ | ⟨_,sv',h1,h2⟩
   . subst e;rcases hx with e|e<;>cases e
   . obtain rfl:sv=sv':=by rw[hsv] at h1;exact Option.some.inj h1
     exact⟨none,ρ',sv,M',rfl,h2,hM',hsc',hk,hz',hρ'⟩
 . rcases retKP_is hK with⟨v',e,h2⟩ | ⟨hx,_⟩
   . cases e;exact⟨some v,ρ',.junk,M',rfl,h2,hM',hsc',hk,hz',hρ'⟩
   . rcases hx with e|e<;>cases e
structure Agree (m k nv:Nat)(π:Nat→Nat)(ρc ρw:Val):Prop where
 head:ρc k=ρw 0
 view:∀ i,i<nv→ρc (π i)=ρw (i+1)
 new:∀ j,ρc (m+j)=ρw (1+nv+j)
end
end Go.Sx
namespace Go.Sx
open Go.RowKit Go.Proofs.YtfgkhenhlpoheaaGreat
section
variable {P:Program}{G:World→Prop}{Γ:Env}
def EndI (c0:Blk)(K:SV→Prop):Option Value→SV→List Blk→Prop
 |some _,_,_=>False
 |none,x,M1=>M1[0]? = some c0∧∃ y,(∀ ρ ρ':Val,x.den ρ=y.den ρ')∧K y
theorem ymix_top (hΓ:EnvOk P G Γ){f:FuncId}{fn:Func}(hf:P.funcs[f]? = some fn)(hb:fn.body.isSome=true)(hm:Okay P)(T:Tbl)(hT:codeOk T (bodyOf fn)=true)(n:Nat)(args0 xs:List SV)(V:List Blk)(σ:List Nat)
  {args:List SV} {M:List Blk} {k:Nat} {ty:TypeId} {xs0:List SV} {K:Option Value→SV→List Blk→Prop} (hk:M[k]? = some (.mix ty xs0)) (hwf:M.all (Blk.sc fun n=>decide (n<M.length))=true) (hks:k ∉ σ)
  (hargs:∀ ρ,denL (renρ (k::σ) ρ) args0=denL ρ args) (hxs:∀ ρ,mixL xs (denL (renρ (k::σ) ρ) xs)=mixL xs0 (denL ρ xs0)) (hsc:okSt args0 (.mix ty xs::V)=true) (hxc:scL (fun n=>decide (n<1+V.length)) xs=true) (hv:View M (k::σ) σ V)
  (h:run P Γ n T (1+V.length) (bodyOf fn) (initF fn args0) (.mix ty xs::V) (retKP P fn (EndI (.mix ty xs) fun y=>K none y M))):
  ∀ (B:Bd) (ρ:Val) (w:World),(∀ w',Kept B w w'→G w')→MRel B ρ M w→Calls P f (denL ρ args).toArray w fun e w'=>
    ∃ (p:Option Value) (sv:SV) (M':List Blk) (ρ':Val),e=endS p sv ρ'∧K p sv M'∧MRel B ρ' M' w'∧M'.all (Blk.sc fun n=>decide (n<M'.length))=true∧M.length≤M'.length∧(∀ k,k<M.length→ρ' k=ρ k)∧Kept B w w':=by
 intro B ρ w hG hM
 have hklt:k<M.length:=(List.getElem?_eq_some_iff.1 hk).1
 have hbk:=hM.ok k _ hk
 let x:List Nat:=(ρ k).toList.map (·.blk)
 let B':Bd:=⟨w.heap.size,x,ρ.z⟩
 have inx:∀ j,j∈x→∃ l,ρ k=some l∧l.blk=j:=fun j hj=>by
  cases hl:ρ k with
  |none=>simp[x,hl] at hj
  |some l=>simp[x,hl] at hj;exact⟨l,rfl,hj.symm⟩
 have bmay:∀ j,B'.may j→B.may j:=fun j hj=>by
  rcases hj with hj|hj
  . obtain⟨l,hl,rfl⟩:=inx j hj
    exact(Blk.ok_lt hbk rfl hl).1
  . exact .inr (Nat.le_trans hM.size hj)
 have zm:∀ j,ρ.z j → ¬ B'.may j:=fun j hj hm=>by
  rcases hm with hm|hm
  . obtain⟨l,hl,rfl⟩:=inx j hm
    exact hM.zown k _ l hk rfl hl hj
  . exact absurd (hM.zhi j hj).1 (Nat.not_lt_of_le hm)
 have others:∀ (i:Nat) (b:Blk) (l:Loc),i≠k→M[i]? = some b→b.isOwn=true→ρ i=some l → ¬ B'.may l.blk:=fun i b l hne hi ho' hl hm=>by
  rcases hm with hm|hm
  . obtain⟨lk,hlk,he⟩:=inx _ hm
    exact hM.apart i k b _ l lk hne hi hk ho' rfl hl hlk he.symm
  . exact absurd (Blk.ok_lt (hM.ok i b hi) ho' hl).2 (Nat.not_lt_of_le hm)
 let ρ0:Val:=renρ (k::σ) ρ
 have hz0:ρ0.z=ρ.z:=rfl
 have h00:ρ0 0=ρ k:=rfl
 have hV:∀ (i:Nat) (c:Blk),V[i]? = some c→c.isOwn=false∧c.ok B' ρ0 (i+1) w:=fun i c hc=>by
  obtain⟨n,b,hσ,hn,hb⟩:=hv.get i c hc
  refine⟨by cases c<;>first|rfl|exact hb.elim,?_⟩
  have hnk:n≠k:=fun e=>hks (e▸List.mem_of_getElem? hσ)
  have e0:ρ0 (i+1)=ρ n:=by show(match (k::σ)[i+1]? with|some n=>ρ n|none=>none)=ρ n;simp[hσ]
  by_cases hcd:c = .dead
  . subst hcd;trivial
  refine view_one hM hn hb e0 (fun _ h=>h) (fun _ _ h=>h) (fun l hl hpos hin => ?_) (fun l ty' xs hbe hl hin => ?_)
  . cases b with
    |own ty' sz' m' g'=>exact others n _ l hnk hn rfl hl (.inl hin)
    |ro sz' m' g'=>
     obtain⟨q,hr,ho'⟩:=hM.ok n _ hn
     exact(ho'.2 l hl).2.1 (hpos _ _ _ rfl) (bmay _ (.inl hin))
    |fz sz' m' g'=>
     obtain⟨q,hr,ho'⟩:=hM.ok n _ hn
     exact zm _ ((ho'.2 l hl).2.1 (hpos _ _ _ rfl)) (.inl hin)
    |cells ty' xs=>exact others n _ l hnk hn rfl hl (.inl hin)
    |map es=>exact others n _ l hnk hn rfl hl (.inl hin)
    |mix ty' xs=>exact others n _ l hnk hn rfl hl (.inl hin)
    |fm m' q'=>exact others n _ l hnk hn rfl hl (.inl hin)
    |lp T' fe ps asg bd st=>exact others n _ l hnk hn rfl hl (.inl hin)
    |rc ty' xs=>
     obtain⟨l',hl',_,hnm,_⟩:=hM.ok n _ hn
     rw[hl] at hl';obtain rfl:=Option.some.inj hl'
     exact hnm (bmay _ (.inl hin))
    |dead=>cases c<;>first|exact absurd rfl hcd|exact hb.elim | (obtain⟨_,_,h1,_⟩:=hb;cases h1;done) | (obtain⟨_,h1|h1,_⟩:=hb<;>cases h1)
  . rcases hbe with rfl|rfl
    . exact others n _ l hnk hn rfl hl (.inl hin)
    . obtain⟨l',hl',_,hnm,_⟩:=hM.ok n _ hn
      rw[hl] at hl';obtain rfl:=Option.some.inj hl'
      exact hnm (bmay _ (.inl hin))
 have hM0:MRel B' ρ0 (.mix ty xs::V) w:=by
  refine⟨Nat.le_refl _,fun i c hc => ?_,fun i j c d l l' hne h1 h2 o1 o2 => ?_,zm,fun _ h=>by rw[hz0];exact h,fun j hj=>by rw[hz0] at hj;exact⟨(hM.zhi j hj).1,.inl hj⟩,fun i c l hc ho' hl hz => ?_,fun j hj=>by rw[hz0] at hj;exact .inl hj⟩
  . cases i with
    |zero=>
     simp only[List.getElem?_cons_zero,Option.some.injEq] at hc
     subst hc
     obtain⟨l,e,h0,_,hh⟩:=hbk
     exact⟨l,h00.trans e,h0,.inl (by show l.blk∈(ρ.loc k).toList.map (·.blk);rw[show ρ.loc k=some l from e];simp),by rw[hxs];exact hh⟩
    |succ i=>
     simp only[List.getElem?_cons_succ] at hc
     exact(hV i c hc).2
  . cases i with
    |zero=>cases j with
     |zero=>exact absurd rfl hne
     |succ j=>simp only[List.getElem?_cons_succ] at h2;rw[(hV j d h2).1] at o2;cases o2
    |succ i=>simp only[List.getElem?_cons_succ] at h1;rw[(hV i c h1).1] at o1;cases o1
  . rw[hz0] at hz
    cases i with
    |zero=>exact hM.zown k _ l hk rfl (h00.symm.trans hl) hz
    |succ i=>simp only[List.getElem?_cons_succ] at hc;rw[(hV i c hc).1] at ho';cases ho'
 have kept:∀ w',Kept B' w w'→Kept B w w':=fun w' hw=>⟨hw.os,hw.tape,hw.output,hw.size,fun i hi=>hw.block i fun h=>hi (bmay i h),hw.dq,hw.lq⟩
 have hrun:=calls_run_p hΓ hf hb hm T hT n (1+V.length) (B:=B') (M0:=.mix ty xs::V) (ρ0:=ρ0) (args:=args0) (fun w' hw=>hG w' (kept w' hw)) hsc hM0 (by simp;omega) h
 rw[hargs] at hrun
 refine hrun.mono ?_
 rintro e w' ⟨p,ρ1,sv,M1,rfl,hΦ,hM1,_,hw,_,hρ1⟩
 cases p with
 |some v=>exact hΦ.elim
 |none=>
  obtain⟨hc0,y,hy,hKy⟩:=hΦ
  have zs:∀ j,ρ.z j→w'.heap[j]? = w.heap[j]? := fun j hj=>hw.block j (zm j hj)
  have h0b:(Blk.mix ty xs).ok B' ρ1 0 w':=hM1.ok 0 _ hc0
  have e10:ρ1 0=ρ k:=(hρ1 0 (by omega)).trans h00
  refine⟨none,y,M,ρ,?_,hKy,⟨Nat.le_trans hM.size hw.size,fun i c hc => ?_,hM.apart,hM.zb,hM.zlo,fun j hj=>⟨Nat.lt_of_lt_of_le (hM.zhi j hj).1 hw.size,(hM.zhi j hj).2⟩,hM.zown,fun j hj=>(hM.zc j hj).imp_right fun hc=>hc.same (zs j hj)⟩,hwf,Nat.le_refl _,fun _ _=>rfl,kept w' hw⟩
  . show Ending.returned _=Ending.returned _
    rw[hy ρ1 ρ]
  . by_cases hik:i=k
    . subst hik
      rw[hk] at hc
      obtain rfl:=Option.some.inj hc
      obtain⟨l,e,h0,_,hh⟩:=h0b
      obtain⟨l',e',h0',hm',hh'⟩:=hbk
      refine⟨l,e10.symm.trans e,h0,?_,?_⟩
      . rw[show l=l' from Option.some.inj ((e.symm.trans e10).trans e')];exact hm'
      . rw[hh,← hxs ρ,denL_congr (p:=fun n=>decide (n<1+V.length)) (ρ:=ρ0) (ρ':=ρ1) (fun n hn=>hρ1 n (by simpa using hn)) xs hxc]
    . exact c.ok_same (hM.ok i c hc) (fun j hj=>hw.block j fun h=>hj (bmay j h)) zs fun ho' l hl=>hw.block _ (others i c l hik hc ho' hl)
theorem yctr_topm (hS:Stable G)(hΓ:EnvOk P G Γ){f:FuncId}{fn:Func}(hf:P.funcs[f]? = some fn)(hb:fn.body.isSome=true)(hm:Okay P)(T:Tbl)(hT:codeOk T (bodyOf fn)=true)(n:Nat)
  {pre pre0 args:List SV} {M:List Blk} {c:Bool} {av:List AV} (av':List AV) {args0:List SV} {M0:List Blk} (hpre:∀ ρ ρ':Val,denL ρ pre0=denL ρ' pre) (hps:scL (fun _=>false) pre0=true) (hv:topA eltB M args=some (c,av)) (hc:c=true) (he:AVEqL av av') (h0:namA false 0 av'=(args0,M0)) (S:SV→Prop)
  (h:run P Γ n T 0 (bodyOf fn) (initF fn (pre0++args0)) M0 (retK P fn fun x _=>S x)) {K:Option Value→SV→List Blk→Prop} (hK:∀ x,S x→∃ y,(∀ ρ ρ':Val,x.den ρ=y.den ρ')∧K none y M) (hwf:M.all (Blk.sc fun n=>decide (n<M.length))=true):
  ∀ (B:Bd) (ρ:Val) (w:World),(∀ w',Kept B w w'→G w')→MRel B ρ M w→
    Calls P f (denL ρ (pre++args)).toArray w fun e w'=>∃ (p:Option Value) (sv:SV) (M':List Blk) (ρ':Val),e=endS p sv ρ'∧K p sv M'∧MRel B ρ' M' w'∧M'.all (Blk.sc fun n=>decide (n<M'.length))=true∧M.length≤M'.length∧(∀ k,k<M.length→ρ' k=ρ k)∧Kept B w w':=by
 intro B ρ w hG hM
 obtain⟨ρ0,e1,e2,e3,e4⟩:=enter_top hM hv hc he h0
 have e5:okSt (pre0++args0) M0=true:=by
  unfold okSt at e4 ⊢
  simp only[Bool.and_eq_true] at e4 ⊢
  exact⟨by rw[scL_append,scL_mono (fun _ h=>by cases h) _ hps,e4.1];rfl,e4.2⟩
 have e6:denL ρ0 (pre0++args0)=denL ρ (pre++args):=by rw[denL_append,denL_append,e2,hpre ρ0 ρ]
 have hrun:=calls_run hS hΓ hf hb hm T hT n (hG w (Kept.refl _ _)) e5 e3 h
 rw[e6] at hrun
 refine hrun.mono ?_
 rintro e w' ⟨ρ',x,M',rfl,hx,hM',hbel⟩
 have hM2:=hM.grown hwf (Val.Ext.refl ..) hbel (new_none hM hbel)
 rw[List.append_nil] at hM2
 obtain⟨y,hy,hKy⟩:=hK x hx
 refine⟨none,y,M,ρ,?_,hKy,hM2,hwf,Nat.le_refl _,fun _ _=>rfl,Kept.of_below hM.size hbel⟩
 show Ending.returned _=Ending.returned _
 rw[hy ρ' ρ]
end
end Go.Sx
