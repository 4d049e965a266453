import Derived.Test.YtfgkhenhlpoheaaGreatRows
import Derived.WalkKit
import Derived.WalkSpells
import Derived.WalkLawsBesides
import Derived.Deep.QuietTactic
import Derived.BigQuiet
import Derived.Lib.Hide
import Derived.Lib.BitFns
import Derived.Lib.TrailingZeros
import Derived.Deep.Cut
import Derived.Deep.DeepCutAuto
import Derived.Deep.CutBlock
import Derived.Deep.RegionHeld3
import Derived.Deep.MidRow
import Derived.Laws.AppendOwn
import Derived.Laws.Tables
import Derived.RangeFuncLeaves
import Derived.RangeFuncRecord
import Derived.OrdersIn
import Derived.StillTail
set_option linter.all false
namespace Go.Proofs.YtfgkhenhlpoheaaGreat
open Go.RowKit
def uv {n:Nat}(x:BitVec n):Int:=(x.toNat:Int)
def sv {n:Nat}(x:BitVec n):Int:=x.toInt
theorem uv_nonneg {n:Nat}(x:BitVec n):0≤uv x:=Int.natCast_nonneg _
theorem uv_lt {n:Nat}(x:BitVec n):uv x<2^n:=by unfold uv;exact_mod_cast x.isLt
theorem uv_inj {n:Nat}{x y:BitVec n}:uv x=uv y↔x=y:=by
 unfold uv;constructor
 . intro h;exact BitVec.eq_of_toNat_eq (by exact_mod_cast h)
 . intro h;rw[h]
theorem wrap_u64_eq (n:Int):IntKind.u64.wrap n=n % 18446744073709551616:=by simp[IntKind.wrap,IntKind.bits,IntKind.signed]
theorem uv_ofInt (n:Int):uv (BitVec.ofInt 64 n)=IntKind.u64.wrap n:=by
 rw[wrap_u64_eq];unfold uv;rw[BitVec.toNat_ofInt];omega
theorem ofInt_uv (x:BitVec 64):BitVec.ofInt 64 (uv x)=x:=by
 unfold uv;rw[BitVec.ofInt_natCast];simp
theorem wrap_uv (r:BitVec 64):IntKind.u64.wrap (r.toNat:Int)=uv r:=by
 rw[wrap_u64_eq];unfold uv;have:=r.isLt;omega
attribute [go_sem] ofInt_uv
@[go_sem] theorem uv_toNat {n:Nat} (x:BitVec n):(uv x).toNat=x.toNat:=rfl
@[go_sem] theorem uv_nonneg' {n:Nat} (x:BitVec n):(0≤uv x)=True:=by simp[uv_nonneg]
@[go_sem] theorem uv_not_neg {n:Nat} (x:BitVec n):(uv x<0)=False:=by have:=uv_nonneg x;simp;omega
@[go_sem] theorem bits_and_uv (x y:Int):bits .and .u64 x y=uv (BitVec.ofInt 64 x &&& BitVec.ofInt 64 y):=by
  show IntKind.u64.wrap _=_;simp only[IntKind.bits];exact wrap_uv _
@[go_sem] theorem bits_or_uv (x y:Int):bits .or .u64 x y=uv (BitVec.ofInt 64 x ||| BitVec.ofInt 64 y):=by
  show IntKind.u64.wrap _=_;simp only[IntKind.bits];exact wrap_uv _
@[go_sem] theorem bits_xor_uv (x y:Int):bits .xor .u64 x y=uv (BitVec.ofInt 64 x ^^^ BitVec.ofInt 64 y):=by
  show IntKind.u64.wrap _=_;simp only[IntKind.bits];exact wrap_uv _
@[go_sem] theorem bits_andNot_uv (x y:Int):bits .andNot .u64 x y=uv (BitVec.ofInt 64 x &&& ~~~BitVec.ofInt 64 y):=by
  show IntKind.u64.wrap _=_;simp only[IntKind.bits];exact wrap_uv _
theorem wrap_ofInt (c:Int):IntKind.u64.wrap c=uv (BitVec.ofInt 64 c):=(uv_ofInt c).symm
@[go_sem] theorem add_uv (x:BitVec 64) (c:Int):IntKind.u64.wrap (uv x+c)=uv (x+BitVec.ofInt 64 c):=by
  rw[wrap_ofInt,BitVec.ofInt_add,ofInt_uv]
@[go_sem] theorem add_uv' (x:BitVec 64) (c:Int):IntKind.u64.wrap (c+uv x)=uv (BitVec.ofInt 64 c+x):=by
  rw[wrap_ofInt,BitVec.ofInt_add,ofInt_uv]
theorem ofInt_sub' (a b:Int):BitVec.ofInt 64 (a-b)=BitVec.ofInt 64 a-BitVec.ofInt 64 b:=by
 rw[Int.sub_eq_add_neg,BitVec.ofInt_add,BitVec.ofInt_neg,BitVec.sub_eq_add_neg]
@[go_sem] theorem sub_uv (x:BitVec 64) (c:Int):IntKind.u64.wrap (uv x-c)=uv (x-BitVec.ofInt 64 c):=by
  rw[wrap_ofInt,ofInt_sub',ofInt_uv]
@[go_sem] theorem sub_uv' (x:BitVec 64) (c:Int):IntKind.u64.wrap (c-uv x)=uv (BitVec.ofInt 64 c-x):=by
  rw[wrap_ofInt,ofInt_sub',ofInt_uv]
@[go_sem] theorem mul_uv (x:BitVec 64) (c:Int):IntKind.u64.wrap (uv x*c)=uv (x*BitVec.ofInt 64 c):=by
  rw[wrap_ofInt,BitVec.ofInt_mul,ofInt_uv]
@[go_sem] theorem mul_uv' (x:BitVec 64) (c:Int):IntKind.u64.wrap (c*uv x)=uv (BitVec.ofInt 64 c*x):=by
  rw[wrap_ofInt,BitVec.ofInt_mul,ofInt_uv]
@[go_sem] theorem eq_uv {n:Nat} (x y:BitVec n):(uv x==uv y)=(x==y):=by
  rw[Bool.eq_iff_iff];simp[uv_inj]
@[go_sem] theorem ne_uv {n:Nat} (x y:BitVec n):(uv x != uv y)=(x != y):=by
  rw[bne,bne,eq_uv]
theorem uv_zero (n:Nat):uv (0#n)=0:=by simp[uv]
theorem uv_lit (n k:Nat)(h:k<2^n):uv (BitVec.ofNat n k)=(k:Int):=by
 unfold uv;rw[BitVec.toNat_ofNat,Nat.mod_eq_of_lt h]
theorem uv_of (n:Nat)(c:Int)(h0:0≤c)(h1:c<2^n):uv (BitVec.ofInt n c)=c:=by
 obtain⟨k,rfl⟩:=Int.eq_ofNat_of_zero_le h0
 rw[BitVec.ofInt_natCast,uv_lit n k (by exact_mod_cast h1)]
@[go_sem] theorem eq_uv_lit {n:Nat} (x:BitVec n) (c:Int) (h0:0≤c) (h1:c<2^n):(uv x==c)=(x==BitVec.ofInt n c):=by
  rw[← eq_uv,uv_of n c h0 h1]
@[go_sem] theorem ne_uv_lit {n:Nat} (x:BitVec n) (c:Int) (h0:0≤c) (h1:c<2^n):(uv x != c)=(x != BitVec.ofInt n c):=by
  rw[bne,bne,eq_uv_lit x c h0 h1]
@[go_sem] theorem lt_uv {n:Nat} (x y:BitVec n):(uv x<uv y)↔(x<y):=by
  unfold uv;rw[BitVec.lt_def];omega
@[go_sem] theorem le_uv {n:Nat} (x y:BitVec n):(uv x≤uv y)↔(x≤y):=by
  unfold uv;rw[BitVec.le_def];omega
@[go_sem] theorem neg_uv (x:BitVec 64):IntKind.u64.wrap (-uv x)=uv (-x):=by
  rw[wrap_ofInt,BitVec.ofInt_neg,ofInt_uv]
theorem shl_min (c:Int)(n:Nat):IntKind.u64.wrap (c*2^min n 64)=uv (BitVec.ofInt 64 c <<< n):=by
 rw[wrap_ofInt];congr 1
 apply BitVec.eq_of_toNat_eq
 rw[BitVec.toNat_shiftLeft,Nat.shiftLeft_eq,BitVec.toNat_ofInt,BitVec.toNat_ofInt]
 have h2:(2:Int)^64=18446744073709551616:=by decide
 have e2:((2^64:Nat):Int)=18446744073709551616:=by decide
 by_cases h:n≤64
 . rw[Nat.min_eq_left h,e2]
   have hn:(0:Int)≤c % 18446744073709551616:=by omega
   have key:c*2^n % 18446744073709551616=(c % 18446744073709551616)*2^n % 18446744073709551616:=by
    have a1:=Int.mul_emod c (2^n) 18446744073709551616
    have a2:=Int.mul_emod (c % 18446744073709551616) (2^n) 18446744073709551616
    rw[Int.emod_emod] at a2
    rw[a1,a2]
   rw[key]
   obtain⟨k,hk⟩:=Int.eq_ofNat_of_zero_le hn
   rw[hk]
   have e:((k:Int)*2^n)=((k*2^n:Nat):Int):=by push_cast;rfl
   rw[e,Int.toNat_natCast];generalize k*2^n=z;omega
 . rw[Nat.min_eq_right (by omega),h2,e2]
   have h1:2^64 ∣ (c % 18446744073709551616).toNat*2^n:=Nat.dvd_trans (Nat.pow_dvd_pow 2 (by omega)) (Nat.dvd_mul_left _ _)
   rw[Nat.mod_eq_zero_of_dvd h1];omega
theorem shr_min (x:BitVec 64)(n:Nat):uv x / 2^min n 64=uv (x >>> n):=by
 unfold uv;rw[BitVec.toNat_ushiftRight,Nat.shiftRight_eq_div_pow]
 have key:x.toNat / 2^min n 64=x.toNat / 2^n:=by
  by_cases h:n≤64
  . rw[Nat.min_eq_left h]
  . rw[Nat.min_eq_right (by omega),Nat.div_eq_of_lt x.isLt,Nat.div_eq_of_lt (Nat.lt_of_lt_of_le x.isLt (Nat.pow_le_pow_right (by omega) (by omega)))]
 rw[← key];push_cast;rfl
@[go_sem high] theorem shl_uv (c:Int) (yk:IntKind) (y:Int) (h:0≤y):Op.shift .shl .u64 c yk y=pure (.int .u64 (uv (BitVec.ofInt 64 c <<< y.toNat))):=by
  rw[shift_shl_any _ _ _ _ h];simp only[IntKind.bits];rw[shl_min]
@[go_sem high] theorem shr_uv (c:Int) (yk:IntKind) (y:Int) (h:0≤y) (h0:0≤c) (h1:c<2^64):Op.shift .shr .u64 c yk y=pure (.int .u64 (uv (BitVec.ofInt 64 c >>> y.toNat))):=by
  rw[shift_shr_any _ _ _ _ h];simp only[IntKind.bits];rw[← shr_min,uv_of 64 c h0 h1]
@[go_sem] theorem uv_lt_pow (x:BitVec 64):(uv x<18446744073709551616)=True:=by have:=uv_lt x;simp;omega
theorem ofInt_sv (x:BitVec 64):BitVec.ofInt 64 (sv x)=x:=by unfold sv;exact BitVec.ofInt_toInt
attribute [go_sem] ofInt_sv
@[go_sem] theorem u64_sv (x:BitVec 64):IntKind.u64.wrap (sv x)=uv x:=by rw[wrap_ofInt,ofInt_sv]
theorem i64_eq (c:Int):IntKind.i64.wrap c=sv (BitVec.ofInt 64 c):=by
 unfold sv;rw[IntKind.wrap_i64,BitVec.toInt_ofInt,Int.bmod_def];split<;>omega
@[go_sem] theorem i64_uv (x:BitVec 64):IntKind.i64.wrap (uv x)=sv x:=by rw[i64_eq,ofInt_uv]
@[go_sem] theorem i64_uv' (x:BitVec 64):wrap64 (uv x)=sv x:=by rw[← IntWalk.i64_left,i64_uv]
@[go_sem] theorem u64_uv (x:BitVec 64):IntKind.u64.wrap (uv x)=uv x:=by rw[wrap_ofInt,ofInt_uv]
@[go_sem high] theorem sshr_sv (x:BitVec 64) (yk:IntKind) (y:Int) (h:0≤y):Op.shift .shr .i64 (sv x) yk y=pure (.int .i64 (sv (x.sshiftRight y.toNat))):=by
  rw[shift_shr_any _ _ _ _ h];simp only[IntKind.bits];congr 2
  unfold sv;rw[BitVec.toInt_sshiftRight,Int.shiftRight_eq_div_pow]
  by_cases hn:y.toNat≤64
  . rw[Nat.min_eq_left hn];push_cast;rfl
  . rw[Nat.min_eq_right (by omega)]
    have h1:=BitVec.toInt_lt (x:=x);have h2:=BitVec.le_toInt (x:=x)
    have h3:(2:Int)^64≤((2^y.toNat:Nat):Int):=by exact_mod_cast Nat.pow_le_pow_right (n:=2) (by omega) (show 64≤y.toNat by omega)
    have e:(2:Int)^64=18446744073709551616:=by decide
    have e':(2:Int) ^ (64-1)=9223372036854775808:=by decide
    rw[e'] at h1 h2
    by_cases hx:0≤x.toInt
    . rw[Int.ediv_eq_zero_of_lt hx (by omega),Int.ediv_eq_zero_of_lt hx (by omega)]
    . rw[Int.ediv_eq_neg_one_of_neg_of_le (by omega) (by omega),Int.ediv_eq_neg_one_of_neg_of_le (by omega) (by omega)]
def bl (x:BitVec 64):Nat:=Lib.bitLen x.toNat
def tz (x:BitVec 64):Nat:=Lib.ctz 64 x.toNat
theorem bl_le (x:BitVec 64):bl x≤64:=Lib.bitLen_le _ 64 (Nat.le_refl _) x.isLt
@[go_sem] theorem min_nonneg (a b:Nat):((0:Int)≤min (a:Int) b)=True:=by simp;omega
@[go_sem] theorem min_toNat (a b:Nat):(min (a:Int) b).toNat=min a b:=by omega
@[go_sem] theorem lz_nonneg (x:BitVec 64):((0:Int)≤64 - (bl x:Int))=True:=by have:=bl_le x;simp;omega
@[go_sem] theorem bl_le64 (x:BitVec 64):((bl x:Int)≤64)=True:=by have:=bl_le x;simp;omega
@[go_sem] theorem lz_toNat (x:BitVec 64):(64 - (bl x:Int)).toNat=64-bl x:=by have:=bl_le x;omega
def Ext (w:World):Type:={w':World // Below w.heap.size w w'}
instance (w:World):Nonempty (Ext w):=⟨⟨w,Below.refl _ _⟩⟩
def grow (w:World)(g:Ext w):World:=g.1
theorem grow_below (w:World)(g:Ext w):Below w.heap.size w (grow w g):=g.2
theorem grow_mk {w w':World}(h:Below w.heap.size w w'):∃ g,w'=grow w g:=⟨⟨w',h⟩,rfl⟩
theorem grow_cell (w:World)(g:Ext w)(a:Addr)(h:(w.cell? a).isSome=true):(grow w g).cell? a=w.cell? a:=by
 obtain⟨u,hu⟩:=Option.isSome_iff_exists.1 h
 exact(grow_below w g).cell (World.block_lt_of_cell? w a hu)
theorem grow_frozen (w:World)(g:Ext w)(a:Addr)(h:(w.cell? a).isSome=true):(grow w g).frozen? a=w.frozen? a:=by
 obtain⟨u,hu⟩:=Option.isSome_iff_exists.1 h
 exact(grow_below w g).frozen (World.block_lt_of_cell? w a hu)
theorem frozen_alloc_some (w:World)(a:Addr)(o:Obj)(h:(w.cell? a).isSome=true):(w.alloc o).frozen? a=w.frozen? a:=by
 obtain⟨u,hu⟩:=Option.isSome_iff_exists.1 h
 exact World.frozen?_of_block (w:=w) (Below.heap_alloc w o a.block (World.block_lt_of_cell? w a hu))
def rawc (w:World)(g:Ext w)(a:Addr):Option Value:=(grow w g).cell? a
def rawf (w:World)(g:Ext w)(a:Addr):Bool:=(grow w g).frozen? a
@[go_sem high] theorem cell_grow (w:World) (g:Ext w) (a:Addr):(grow w g).cell? a=(w.cell? a).or (rawc w g a):=by
  cases h:w.cell? a with
  |none=>rfl
  |some u=>rw[grow_cell w g a (by rw[h];rfl),h];rfl
theorem heap_alloc (w:World)(o:Obj)(k:Nat):(w.alloc o).heap[k]? = if k=w.heap.size then some o else w.heap[k]? := by
 show(w.heap.push o)[k]? = _
 rw[Array.getElem?_push]
@[go_sem high] theorem cell_alloc (w:World) (c:Array Value) (t:TypeId) (fr:Nat×Nat) (b i:Nat):(w.alloc (.cells c t fr)).cell? ⟨b,i,none⟩=(w.cell? ⟨b,i,none⟩).or (if b=w.heap.size then c[i]? else none):=by
  cases h:w.cell? ⟨b,i,none⟩ with
  |some u=>rw[World.cell?_alloc_some _ _ _ (by rw[h];rfl),h];rfl
  |none=>
   simp only[Option.none_or]
   split
   . rename_i e;subst e;unfold World.cell?;rw[heap_alloc,if_pos rfl];rfl
   . rename_i e;rw[← h];unfold World.cell?;rw[heap_alloc,if_neg e]
@[go_sem high] theorem cell_alloc_map (w:World) (es:Array MapEntry) (n:Nat) (a:Addr):(w.alloc (.map es n)).cell? a=w.cell? a:=by
  unfold World.cell?;rw[heap_alloc]
  split
  . rename_i e
    split at e
    . cases e
    . rw[e]
  . rename_i x h
    split
    . rename_i c t fr e
      rw[if_neg (by intro h';rw[h'] at e;simp at e)] at h
      exact absurd e (h c t fr)
    . rfl
@[go_sem high] theorem cell_new (w:World) (i:Nat) (s:Option Nat):w.cell? ⟨w.heap.size,i,s⟩=none:=by simp[World.cell?]
@[go_sem high] theorem cell_new' (w:World) (k i:Nat) (s:Option Nat):w.cell? ⟨w.heap.size+k,i,s⟩=none:=by simp[World.cell?]
@[go_sem] theorem size_add (w:World) (j k:Nat):w.heap.size+j+k=w.heap.size+(j+k):=Nat.add_assoc _ _ _
@[go_sem] theorem size_add_eq (w:World) (j k:Nat):(w.heap.size+j=w.heap.size+k)=(j=k):=by simp
@[go_sem high] theorem cell_set (w:World) (p a:Addr) (v:Value):(w.setCell p v).cell? a=(w.cell? a).map (fun u=>if p=a then v else u):=by
  by_cases e:p=a
  . subst e
    cases h:w.cell? p with
    |some u=>rw[World.cell?_setCell_same _ _ _ h];simp
    |none=>
     simp only[Option.map_none]
     unfold World.cell? at h ⊢
     unfold World.setCell
     simp only[Array.getElem?_modify]
     cases hb:w.heap[p.block]? with
     |none=>simp
     |some o=>cases o<;>simp_all
  . rw[World.cell?_setCell_other _ _ _ _ e];cases w.cell? a<;>simp[e]
@[go_sem high] theorem frozen_grow (w:World) (g:Ext w) (a:Addr):(grow w g).frozen? a=if (w.cell? a).isSome then w.frozen? a else rawf w g a:=by
  split
  . rename_i h;exact grow_frozen w g a h
  . rfl
@[go_sem high] theorem frozen_alloc (w:World) (c:Array Value) (t:TypeId) (fr:Nat×Nat) (b i:Nat):(w.alloc (.cells c t fr)).frozen? ⟨b,i,none⟩ =
   if (w.cell? ⟨b,i,none⟩).isSome then w.frozen? ⟨b,i,none⟩ else if b=w.heap.size then (decide (fr.1≤i)&&decide (i<fr.2)) else w.frozen? ⟨b,i,none⟩:=by
  split
  . rename_i h;exact frozen_alloc_some w _ _ h
  . split
    . rename_i e;subst e;unfold World.frozen?;rw[heap_alloc,if_pos rfl]
    . rename_i e;unfold World.frozen?;rw[heap_alloc,if_neg e]
def Ret (w:World)(v:Value)(e:Ending)(w':World):Prop:=e = .returned v∧∃ g,w'=grow w g
theorem up_refl (w:World):Below w.heap.size w w:=Below.refl _ _
section
variable {P:Program}{Q:Exit→Act→World→Prop}{a:Act}{w:World}{l:List Oper}
@[irreducible] def gv (b:Bool) (v:Value):Value:=if b=true then v else undef
@[go_sem] theorem gv_true (v:Value):gv true v=v:=by unfold gv;rfl
@[go_sem] theorem gv_false (v:Value):gv false v=undef:=by unfold gv;rfl
@[go_sem] theorem gv_gv (p:Bool) (v:Value):gv p (gv p v)=gv p v:=by cases p<;>simp[gv_true,gv_false]
@[go_sem] theorem gv_gv_and (p q:Bool) (v:Value):gv (p&&q) (gv p v)=gv (p&&q) v:=by cases p<;>cases q<;>simp[gv_true,gv_false]
@[go_sem] theorem gv_gv_and' (p q:Bool) (v:Value):gv (p&&q) (gv q v)=gv (p&&q) v:=by cases p<;>cases q<;>simp[gv_true,gv_false]
end
@[go_sem] theorem pick_and (p:Prop) [Decidable p] (q:Bool) (h:q=true↔p) (c:Bool):(if p then gv q (Value.bool c) else Value.bool false)=Value.bool (q&&c):=by
  by_cases hp:p
  . have hq:=h.2 hp;simp[hp,hq,gv_true]
  . have hq:q=false:=by cases q<;>simp_all
    simp[hp,hq]
@[go_sem] theorem pick_or (p:Prop) [Decidable p] (q:Bool) (h:q=true ↔ ¬ p) (c:Bool):(if p then Value.bool true else gv q (Value.bool c))=Value.bool (!q||c):=by
  by_cases hp:p
  . have hq:q=false:=by cases q<;>simp_all
    simp[hp,hq]
  . have hq:=h.2 hp;simp[hp,hq,gv_true]
end Go.Proofs.YtfgkhenhlpoheaaGreat
namespace Go.Sx
open Go.RowKit Go.Proofs.YtfgkhenhlpoheaaGreat
def nth {α:Type}:List α→Nat→Option α
 |[],_=>none
 |x::_,0=>some x
 |_::l,n+1=>nth l n
theorem nth_eq {α:Type}:∀ (l:List α) (n:Nat),nth l n=l[n]?
 |[],_=>by simp[nth]
 |_::_,0=>by simp[nth]
 |_::l,n+1=>by simp[nth,nth_eq l n]
def isBar (o:Oper):Bool:=match o.op with
 | .store _ _ _=>true
 | .insert _ _ _ _=>true
 | .mapUpdate _ _ _ _=>true
 | .call c=>match c.callee with
   | .builtin .append=>true
   |_=>false
 |_=>false
def isIns (o:Oper):Bool:=match o.op with
 | .insert _ _ _ _=>true
 |_=>false
def isLate (o:Oper):Bool:=match o.op with
 | .extract _ _=>true
 | .move _=>true
 | .fieldAddr _ _ _=>true
 | .nilCheck _=>true
 | .call c=>match c.callee with
   | .builtin .min=>true
   | .builtin .max=>true
   | .builtin .len=>true
   |_=>false
 |_=>false
def isDef (o:Oper):Bool:=match o.op with
 | .defer _=>true
 |_=>false
def bitB (bs:List Nat)(i j:Nat):Bool:=match nth bs i with
 |some b=>Nat.testBit b j
 |none=>false
def closB (ops:List Oper)(bs:List Nat):Bool:=(List.range ops.length).all fun i=>match ops[i]? with
 |some o=>o.after.toList.all (fun e => !Region.binds .any e||decide (e.on<i))&&(List.range ops.length).all (fun j => !bitB bs i j||o.after.toList.any fun e=>Region.binds .any e&&(decide (e.on=j)||bitB bs e.on j))
 |none=>false
def dstN (ops:List Oper)(i:Nat):Option Nat:=(ops[i]?).bind (·.dst)
def listedH (n h:Nat):Array Bool:=((List.range n).map fun i=>decide (i<h)).toArray
def insT (o:Oper):Option TypeId:=match o.op with
 | .insert t _ _ _=>some t
 |_=>none
def lateN (ops:List Oper)(bs:List Nat)(h i:Nat):Bool:=match ops[i]? with
 |some o=>isLate o && !((List.range ops.length).all fun j=>decide (j<h)||bitB bs j i)
 |none=>false
def drawOk (ops:List Oper)(bs:List Nat)(h:Nat):Bool:=
 closB ops bs&&decide (h≤ops.length)&&Region.seqB .any ops.toArray (ops.length-h) h (listedH ops.length h)&&Region.noSelect ops.toArray &&
 ((List.range h).all fun i=>match ops[i]? with
   |some o=>(!isBar o||isIns o)&&(match o.guard with|some (g,_)=>bitB bs i g&&decide (g<i)|none=>true) &&
    ((List.range h).all fun j=>match dstN ops j with
      |some t=>decide (i=j)||(decide (o.dst≠some t)&&(!(o.looksAt ops.toArray).contains t||(if j<i then bitB bs i j else bitB bs j i)))
      |none=>true) &&
    (!lateN ops bs h i||((List.range ops.length).all fun j=>decide (i=j)||bitB bs i j||(match ops[j]? with
      |some oj=>(oj.after.toList.any fun e=>Region.binds .any e&&decide (e.on=i))||o.apart ops.toArray oj
      |none=>true)))
   |none=>false) &&
 ((List.range ops.length).all fun i=>decide (i<h)||(List.range i).all fun j=>bitB bs i j||(decide (j<h)&&lateN ops bs h j)) &&
 ((List.range h).all fun i=>(List.range h).all fun j=>match (ops[i]?).bind insT,(ops[j]?).bind insT with
   |some a,some b=>decide (a=b)
   |_,_=>true)
abbrev Tbl:=List (Nat×Nat×List Nat)
def findT:Tbl→Nat→Option (Nat×List Nat)
 |[],_=>none
 |(i,h,bs)::l,id=>match Nat.beq i id with
  |true=>some (h,bs)
  |false=>findT l id
def codeOk (T:Tbl):Code→Bool
 | .seq a b=>codeOk T a&&codeOk T b
 | .cond _ a b=>codeOk T a&&codeOk T b
 | .block _ c=>codeOk T c
 | .loop c=>codeOk T c
 | .rangeFunc _ _ a b=>codeOk T a&&codeOk T b
 | .region id ops draw=>ops.toList.all (fun o => !isDef o)&&match draw with
   |true=>match findT T id with
    |some (h,bs)=>match Nat.beq h 1000 with
     |true=>Region.noSelect ops.toList.toArray
     |false=>drawOk ops.toList bs h
    |none=>Region.noSelect ops.toList.toArray
   |false=>true
 |_=>true
end Go.Sx
namespace Go.Sx
open Go.RowKit Go.Proofs.YtfgkhenhlpoheaaGreat
structure Loc where
 blk:Nat
 off:Nat
 cap:Nat
 sp:Option Nat
 ok:cap=0∨sp=none
def Loc.sp0 (l:Loc)(n:Nat):Option Nat:=if n=0 then l.sp else none
theorem Loc.sp0_pos (l:Loc){n:Nat}(h:0<n):l.sp0 n=none:=if_neg (by omega)
theorem Loc.sp0_cap (l:Loc)(n:Nat)(h:0<l.cap):l.sp0 n=none:=by
 unfold Loc.sp0
 split
 . exact l.ok.resolve_left (by omega)
 . rfl
@[simp] theorem Loc.sp0_at (l:Loc) (b o c n:Nat) (h:c=0∨l.sp=none):(Loc.mk b o c l.sp h).sp0 n=l.sp0 n:=rfl
@[simp] theorem Loc.sp0_none (b o c n:Nat) (h:c=0∨(none:Option Nat)=none):(Loc.mk b o c none h).sp0 n=none:=by simp[Loc.sp0]
structure Val where
 loc:Nat→Option Loc
 z:Nat→Prop
instance:CoeFun Val (fun _=>Nat→Option Loc):=⟨Val.loc⟩
structure Val.Ext (S:Nat)(p:Nat→Prop)(ρ ρ':Val):Prop where
 eq:∀ n,p n→ρ' n=ρ n
 z:∀ k,ρ.z k→ρ'.z k
 fresh:∀ k,ρ'.z k→ρ.z k∨S≤k
theorem Val.Ext.refl (S:Nat)(p:Nat→Prop)(ρ:Val):Val.Ext S p ρ ρ:=⟨fun _ _=>rfl,fun _ h=>h,fun _ h=>.inl h⟩
theorem Val.Ext.trans {S S':Nat}{p q:Nat→Prop}{a b c:Val}(h:Val.Ext S p a b)(k:Val.Ext S' q b c)(hS:S≤S'):Val.Ext S (fun n=>p n∧q n) a c:=
 ⟨fun n hn=>(k.eq n hn.2).trans (h.eq n hn.1),fun i hi=>k.z i (h.z i hi),fun i hi=>(k.fresh i hi).elim (fun hi=>h.fresh i hi) (fun hi=>.inr (Nat.le_trans hS hi))⟩
theorem Val.Ext.mono {S S':Nat}{p q:Nat→Prop}{a b:Val}(h:Val.Ext S p a b)(hq:∀ n,q n→p n)(hS:S'≤S):Val.Ext S' q a b:=
 ⟨fun n hn=>h.eq n (hq n hn),h.z,fun k hk=>(h.fresh k hk).imp_right (Nat.le_trans hS)⟩
structure Bd where
 s:Nat
 x:List Nat
 z:Nat→Prop
def Bd.may (B:Bd)(k:Nat):Prop:=k∈B.x∨B.s≤k
theorem Bd.lt {B:Bd}{k:Nat}(h : ¬ B.may k):k<B.s:=Nat.lt_of_not_le fun e=>h (.inr e)
structure Kept (B:Bd)(w w':World):Prop where
 os:w'.os=w.os
 tape:w'.tape=w.tape
 output:w'.output=w.output
 size:w.heap.size≤w'.heap.size
 block:∀ k,¬ B.may k→w'.heap[k]? = w.heap[k]?
 dq:∀ k:Nat,w.heap[k]? = some (Obj.deferred (some []))→w'.heap[k]? = some (Obj.deferred (some []))
 lq:∀ (k:Nat) (r:Loop),w.heap[k]? = some (Obj.loop r)→∃ r',w'.heap[k]? = some (Obj.loop r')
theorem Kept.refl (B:Bd)(w:World):Kept B w w:=⟨rfl,rfl,rfl,Nat.le_refl _,fun _ _=>rfl,fun _ h=>h,fun _ r h=>⟨r,h⟩⟩
theorem Kept.trans {B:Bd}{a b c:World}(h:Kept B a b)(k:Kept B b c):Kept B a c:=
 ⟨k.os.trans h.os,k.tape.trans h.tape,k.output.trans h.output,Nat.le_trans h.size k.size,fun i hi=>(k.block i hi).trans (h.block i hi),fun i hi=>k.dq i (h.dq i hi),fun i r hi=>let ⟨r',h'⟩:=h.lq i r hi;k.lq i r' h'⟩
theorem dq_below {w w':World}(h:Below w.heap.size w w'):∀ k:Nat,w.heap[k]? = some (Obj.deferred (some []))→w'.heap[k]? = some (Obj.deferred (some [])):=
 fun k hk=>by rw[h.block k (Array.getElem?_eq_some_iff.1 hk).1];exact hk
theorem Kept.of_below {B:Bd}{w w':World}(hs:B.s≤w.heap.size)(h:Below w.heap.size w w'):Kept B w w':=
 ⟨h.os,h.tape,h.output,h.size,fun k hk=>h.block k (Nat.lt_of_lt_of_le (Bd.lt hk) hs),dq_below h,fun k r hk=>⟨r,by rw[h.block k (Array.getElem?_eq_some_iff.1 hk).1];exact hk⟩⟩
theorem Kept.below {B:Bd}{w w':World}(hx:B.x=[])(h:Kept B w w'):Below B.s w w':=
 ⟨h.os,h.tape,h.output,h.size,fun k hk=>h.block k fun e=>e.elim (fun e=>by rw[hx] at e;cases e) (fun e=>by omega)⟩
theorem Kept.drew {B:Bd}{a w:World}(h:Kept B a w):Kept B a {w with drawn:=w.drawn+1}:=⟨h.os,h.tape,h.output,h.size,h.block,h.dq,h.lq⟩
theorem Kept.trans_full {B:Bd}{w0 w w':World}(h:Kept B w0 w)(hB:B.s≤w.heap.size)(h':Below w.heap.size w w'):Kept B w0 w':=h.trans (Kept.of_below hB h')
inductive FV where
 |val (v:Value)
 |bool (b:Bool)
 |int (k:IntKind) (n:Int)
 |u64 (x:BitVec 64)
 |row (sz n:Nat) (g:Nat→List FV)
inductive SV where
 |junk
 |val (v:Value)
 |tt
 |ff
 |bool (b:Bool)
 |int (k:IntKind) (n:Int)
 |u64 (x:BitVec 64)
 |agg (xs:List SV)
 |tup (xs:List SV)
 |ptr (n off:Nat)
 |ep (n i sz j:Nat)
 |sl (n sz off len:Nat)
 |mp (n:Nat)
 |yld (n:Nat)
 |fn (f:Fn) (fst cap:List SV)
 |nilb (n:Nat)
 |arr (n sz:Nat) (g:Nat→List FV)
 |mix (xs:List SV)
def FV.den:FV→Value
 | .val v=>v
 | .bool b=>.bool b
 | .int k n=>.int k n
 | .u64 x=>.int .u64 (uv x)
 | .row .. => undef
def FV.sv:FV→SV
 | .val v=>.val v
 | .bool b=>.bool b
 | .int k n=>.int k n
 | .u64 x=>.u64 x
 | .row .. => .junk
def FV.cel:FV→Value
 | .val v=>if v.oneCell' then v else .bool false
 | .bool b=>.bool b
 | .int k n=>.int k n
 | .u64 x=>.int .u64 (uv x)
 | .row .. => .bool false
def fixL:Nat→List FV→List Value
 |0,_=>[]
 |n+1,[]=>.bool false::fixL n []
 |n+1,x::l=>x.cel::fixL n l
def arrL (n sz:Nat)(g:Nat→List FV):List Value:=(List.range n).flatMap fun i=>fixL sz (g i)
def itemL:SV→Value→List Value
 | .arr n sz g,_=>arrL n sz g
 |_,v=>[v]
def mixL:List SV→List Value→List Value
 |x::xs,v::vs=>itemL x v++mixL xs vs
 |_,_=>[]
def FV.flat:FV→Bool
 | .row .. => false
 |_=>true
mutual
def SV.den (ρ:Val):SV→Value
 | .junk=>undef
 | .val v=>v
 | .tt=>.bool true
 | .ff=>.bool false
 | .bool b=>.bool b
 | .int k n=>.int k n
 | .u64 x=>.int .u64 (uv x)
 | .agg xs=>.agg (denL ρ xs).toArray
 | .tup xs=>.tuple (denL ρ xs).toArray
 | .ptr n off=>.pointer ((ρ n).map fun l=>⟨l.blk,l.off+off,none⟩)
 | .ep n i sz j=>.pointer ((ρ n).map fun l=>⟨l.blk,l.off+i*sz+j,none⟩)
 | .sl n sz off len=>.slice ((ρ n).map fun l=>⟨l.blk,l.off+off*sz,l.sp0 len⟩) len (((ρ n).map fun l=>l.cap).getD 0-off)
 | .mp n=>.map ((ρ n).map fun l=>l.blk)
 | .yld n=>.func (.yield (((ρ n).map fun l=>l.blk).getD 0)) #[] #[]
 | .fn f a b=>.func f (denL ρ a).toArray (denL ρ b).toArray
 | .nilb n=>.bool (ρ n).isNone
 | .arr n sz g=>.agg (arrL n sz g).toArray
 | .mix xs=>.agg (mixL xs (denL ρ xs)).toArray
def denL (ρ:Val):List SV→List Value
 |[]=>[]
 |x::l=>x.den ρ::denL ρ l
end
mutual
def SV.sc (p:Nat→Bool):SV→Bool
 | .agg xs=>scL p xs
 | .tup xs=>scL p xs
 | .ptr n _=>p n
 | .ep n _ _ _=>p n
 | .sl n _ _ _=>p n
 | .mp n=>p n
 | .yld n=>p n
 | .fn _ a b=>scL p a&&scL p b
 | .nilb n=>p n
 | .mix xs=>scL p xs
 |_=>true
def scL (p:Nat→Bool):List SV→Bool
 |[]=>true
 |x::l=>x.sc p&&scL p l
end
theorem denL_eq (ρ:Val):∀ l,denL ρ l=l.map (SV.den ρ)
 |[]=>by simp[denL]
 |x::l=>by simp[denL,denL_eq ρ l]
theorem scL_eq (p:Nat→Bool):∀ l,scL p l=l.all (SV.sc p)
 |[]=>by simp[scL]
 |x::l=>by simp[scL,scL_eq p l]
mutual
theorem SV.den_congr {ρ ρ':Val}{p:Nat→Bool}(h:∀ n,p n=true→ρ' n=ρ n):∀ sv:SV,sv.sc p=true→sv.den ρ'=sv.den ρ
 | .junk,_=>rfl
 | .val _,_=>rfl
 | .tt,_=>rfl
 | .ff,_=>rfl
 | .bool _,_=>rfl
 | .int _ _,_=>rfl
 | .u64 _,_=>rfl
 | .agg xs,hs=>by simp only[SV.sc] at hs;simp only[SV.den,denL_congr h xs hs]
 | .tup xs,hs=>by simp only[SV.sc] at hs;simp only[SV.den,denL_congr h xs hs]
 | .ptr n _,hs=>by simp only[SV.sc] at hs;simp only[SV.den,h n hs]
 | .ep n _ _ _,hs=>by simp only[SV.sc] at hs;simp only[SV.den,h n hs]
 | .sl n _ _ _,hs=>by simp only[SV.sc] at hs;simp only[SV.den,h n hs]
 | .mp n,hs=>by simp only[SV.sc] at hs;simp only[SV.den,h n hs]
 | .yld n,hs=>by simp only[SV.sc] at hs;simp only[SV.den,h n hs]
 | .fn _ a b,hs=>by simp only[SV.sc,Bool.and_eq_true] at hs;simp only[SV.den,denL_congr h a hs.1,denL_congr h b hs.2]
 | .nilb n,hs=>by simp only[SV.sc] at hs;simp only[SV.den,h n hs]
 | .arr _ _ _,_=>rfl
 | .mix xs,hs=>by simp only[SV.sc] at hs;simp only[SV.den,denL_congr h xs hs]
theorem denL_congr {ρ ρ':Val}{p:Nat→Bool}(h:∀ n,p n=true→ρ' n=ρ n):∀ l:List SV,scL p l=true→denL ρ' l=denL ρ l
 |[],_=>rfl
 |x::l,hs=>by simp only[scL,Bool.and_eq_true] at hs;simp only[denL,SV.den_congr h x hs.1,denL_congr h l hs.2]
end
mutual
theorem SV.sc_mono {p q:Nat→Bool}(h:∀ n,p n=true→q n=true):∀ sv:SV,sv.sc p=true→sv.sc q=true
 | .junk,_=>rfl
 | .val _,_=>rfl
 | .tt,_=>rfl
 | .ff,_=>rfl
 | .bool _,_=>rfl
 | .int _ _,_=>rfl
 | .u64 _,_=>rfl
 | .agg xs,hs=>by simp only[SV.sc] at hs ⊢;exact scL_mono h xs hs
 | .tup xs,hs=>by simp only[SV.sc] at hs ⊢;exact scL_mono h xs hs
 | .ptr n _,hs=>by simp only[SV.sc] at hs ⊢;exact h n hs
 | .ep n _ _ _,hs=>by simp only[SV.sc] at hs ⊢;exact h n hs
 | .sl n _ _ _,hs=>by simp only[SV.sc] at hs ⊢;exact h n hs
 | .mp n,hs=>by simp only[SV.sc] at hs ⊢;exact h n hs
 | .yld n,hs=>by simp only[SV.sc] at hs ⊢;exact h n hs
 | .fn _ a b,hs=>by simp only[SV.sc,Bool.and_eq_true] at hs ⊢;exact⟨scL_mono h a hs.1,scL_mono h b hs.2⟩
 | .nilb n,hs=>by simp only[SV.sc] at hs ⊢;exact h n hs
 | .arr _ _ _,_=>rfl
 | .mix xs,hs=>by simp only[SV.sc] at hs ⊢;exact scL_mono h xs hs
theorem scL_mono {p q:Nat→Bool}(h:∀ n,p n=true→q n=true):∀ l:List SV,scL p l=true→scL q l=true
 |[],_=>rfl
 |x::l,hs=>by simp only[scL,Bool.and_eq_true] at hs ⊢;exact⟨SV.sc_mono h x hs.1,scL_mono h l hs.2⟩
end
mutual
theorem SV.sc_all:∀ sv:SV,sv.sc (fun _=>true)=true
 | .junk=>rfl
 | .val _=>rfl
 | .tt=>rfl
 | .ff=>rfl
 | .bool _=>rfl
 | .int _ _=>rfl
 | .u64 _=>rfl
 | .agg xs=>by simp only[SV.sc];exact scL_all xs
 | .tup xs=>by simp only[SV.sc];exact scL_all xs
 | .ptr _ _=>rfl
 | .ep _ _ _ _=>rfl
 | .sl _ _ _ _=>rfl
 | .mp _=>rfl
 | .yld _=>rfl
 | .fn _ a b=>by simp only[SV.sc,Bool.and_eq_true];exact⟨scL_all a,scL_all b⟩
 | .nilb _=>rfl
 | .arr _ _ _=>rfl
 | .mix xs=>by simp only[SV.sc];exact scL_all xs
theorem scL_all:∀ l:List SV,scL (fun _=>true) l=true
 |[]=>rfl
 |x::l=>by simp only[scL,Bool.and_eq_true];exact⟨SV.sc_all x,scL_all l⟩
end
theorem FV.sv_den (ρ:Val)(x:FV):x.sv.den ρ=x.den:=by cases x<;>simp[FV.sv,SV.den,FV.den]
theorem FV.sv_nj {x:FV}(h:x.flat=true):x.sv ≠ .junk:=by cases x<;>simp[FV.sv,FV.flat] at h ⊢
theorem FV.sv_sc (p:Nat→Bool)(x:FV):x.sv.sc p=true:=by cases x<;>simp[FV.sv,SV.sc]
inductive X where
 |normal
 |exit (id:Nat)
 |ret
 |panic (v:Value)
def X.to:X→Exit
 | .normal=>.normal
 | .exit id=>.exit id
 | .ret=>.ret
 | .panic v=>.panic [{v,recovered:=false}]
inductive LS where
 |ready
 |busy
 |done (x:X)
def X.code:X→Code
 | .normal=>.skip
 | .exit id=>.exit id
 | .ret=>.ret
 | .panic _=>.skip
def LS.state:LS→LoopState
 | .ready=>.ready
 | .busy=>.busy
 | .done _=>.done
def LS.pending:LS→Option Code
 | .ready=>none
 | .busy=>none
 | .done x=>some x.code
inductive Blk where
 |dead
 |cells (ty:TypeId) (xs:List SV)
 |rc (ty:TypeId) (xs:List SV)
 |ro (sz n:Nat) (g:Nat→List FV)
 |fz (sz n:Nat) (g:Nat→List FV)
 |own (ty:TypeId) (sz n:Nat) (g:Nat→List FV)
 |map (es:List (SV×SV))
 |mix (ty:TypeId) (xs:List SV)
 |fm (n:Nat) (h:List Int→Option Int)
 |lp (T:Tbl) (fe:List SV) (ps:Array Tmp) (assign body:Code) (st:LS)
def okG (sz:Nat)(l:List FV):Prop:=l.length=sz∧∀ x∈l,x.den.oneCell'=true
def flatG (n:Nat)(g:Nat→List FV):List Value:=(List.range n).flatMap fun i=>(g i).map FV.den
def Blk.isOwn:Blk→Bool
 | .cells .. | .own .. | .map .. | .mix .. | .fm .. | .lp .. => true
 |_=>false
def esD (ρ:Val)(es:List (SV×SV)):List (Value×Value):=es.map fun p=>(p.1.den ρ,p.2.den ρ)
structure MapIs (ρ:Val)(es:List (SV×SV))(arr:Array MapEntry):Prop where
 perm:(arr.toList.map fun e=>(e.key,e.val)).Perm (esD ρ es)
 nodup:((esD ρ es).map (·.1)).Nodup
def keyV (k:List Int):Value:=.agg (k.map fun x=>Value.int .i64 x).toArray
structure FmIs (n:Nat)(h:List Int→Option Int)(arr:Array MapEntry):Prop where
 each:∀ e∈arr.toList,∃ k v,k.length=n∧e.key=keyV k∧e.val = .int .i64 v∧h k=some v
 all:∀ k v,k.length=n→h k=some v→∃ e∈arr.toList,e.key=keyV k
 nodup:(arr.toList.map (·.key)).Nodup
@[irreducible] def fnOk (f:FuncId):Prop:=(Go.Proofs.Tryz.prog.funcs[f]?).isSome=true
structure Okay (P:Program):Prop where
 mixed:P.follows .mixedOrders=true
 known:∀ f,(P.funcs[f]?).isSome=true↔fnOk f
structure LoopIs (ρ:Val)(T:Tbl)(fe:List SV)(ps:Array Tmp)(assign body:Code)(st:LS)(r:Loop):Prop where
 okA:codeOk T assign=true
 okB:codeOk T body=true
 params:r.params=ps
 assign:r.assign=assign
 body:r.body=body
 size:r.tmps.size=fe.length
 slot:∀ (s:Nat) (x:SV),fe[s]? = some x→x ≠ .junk→r.tmps[s]? = some (x.den ρ)
 state:r.state=st.state
 pending:r.pending=st.pending
 known:fnOk r.fn
def rowV (l:Option Loc)(n:Nat):Value:=.slice (l.map fun k=>⟨k.blk,k.off,k.sp0 n⟩) n ((l.map fun k=>k.cap).getD 0)
inductive Rep (z:Nat→Prop)(w:World):FV→FV→Prop
 |flat {x:FV} (h:x.flat=true):Rep z w x x
 |row {sz n:Nat} {g:Nat→List FV} (l:Option Loc) (h:Nat→List FV) (h0:l=none→n=0) (hc:∀ k,l=some k→n≤k.cap) (hz:∀ k,l=some k→0<n→z k.blk)
   (hg:∀ i,i<n→okG sz (h i)) (hcell:∀ (k:Loc) (i j:Nat) (x:FV),l=some k→i<n→(h i)[j]? = some x→w.cell? ⟨k.blk,k.off+i*sz+j,none⟩=some x.den)
   (hl:∀ i,i<n→(g i).length=(h i).length) (hr:∀ (i j:Nat) (x y:FV),i<n→(g i)[j]? = some x→(h i)[j]? = some y→Rep z w x y):Rep z w (.row sz n g) (.val (rowV l n))
def RepL (z:Nat→Prop)(w:World)(a b:List FV):Prop:=a.length=b.length∧∀ (j:Nat) (x y:FV),a[j]? = some x→b[j]? = some y→Rep z w x y
theorem Rep.mono {z z':Nat→Prop}{w w':World}(hz:∀ k,z k→z' k)(hw:∀ k,z k→w'.heap[k]? = w.heap[k]?){x y:FV}(h:Rep z w x y):Rep z' w' x y:=by
 induction h with
 |flat h=>exact .flat h
 |row l h h0 hc hz' hg hcell hl hr ih=>
  refine .row l h h0 hc (fun k hk hn=>hz _ (hz' k hk hn)) hg (fun k i j x hk hi hx => ?_) hl (fun i j x y hi hx hy=>ih i j x y hi hx hy)
  rw[World.cell?_of_block (w:=w) (hw k.blk (hz' k hk (by omega)))]
  exact hcell k i j x hk hi hx
theorem RepL.mono {z z':Nat→Prop}{w w':World}(hz:∀ k,z k→z' k)(hw:∀ k,z k→w'.heap[k]? = w.heap[k]?){a b:List FV}(h:RepL z w a b):RepL z' w' a b:=⟨h.1,fun j x y hx hy=>(h.2 j x y hx hy).mono hz hw⟩
theorem Rep.eq {z:Nat→Prop}{w:World}{x y:FV}(h:Rep z w x y)(hx:x.flat=true):y=x:=by cases h<;>first|rfl|cases hx
theorem RepL.refl {z:Nat→Prop}{w:World}{a:List FV}(h:a.all FV.flat=true):RepL z w a a:=⟨rfl,fun j x y hx hy=>by
 obtain rfl:x=y:=by rw[hx] at hy;exact Option.some.inj hy
 exact .flat (List.all_eq_true.1 h x (List.mem_of_getElem? hx))⟩
inductive FVEq:FV→FV→Prop
 |nil {sz:Nat} {g:Nat→List FV}:FVEq (.val (.slice none 0 0)) (.row sz 0 g)
 |flat {x:FV} (h:x.flat=true):FVEq x x
 |row {sz sz' n:Nat} {g g':Nat→List FV} (hs:0<n→sz=sz') (hl:∀ i,i<n→(g i).length=(g' i).length) (hr:∀ (i j:Nat) (x y:FV),i<n→(g i)[j]? = some x→(g' i)[j]? = some y→FVEq x y):FVEq (.row sz n g) (.row sz' n g')
def FVEqL (a b:List FV):Prop:=a.length=b.length∧∀ (j:Nat) (x y:FV),a[j]? = some x→b[j]? = some y→FVEq x y
theorem Rep.eqv {z:Nat→Prop}{w:World}{x y:FV}(h:Rep z w x y):∀ {x':FV},FVEq x x'→Rep z w x' y:=by
 induction h with
 |flat h=>intro x' he;cases he with
  |nil=>exact .row none (fun _=>[]) (fun _=>rfl) (fun _ h=>by cases h) (fun _ h=>by cases h) (fun i hi=>absurd hi (Nat.not_lt_zero i)) (fun _ i _ _ h=>by cases h) (fun i hi=>absurd hi (Nat.not_lt_zero i)) (fun i _ _ _ hi=>absurd hi (Nat.not_lt_zero i))
  |flat _=>exact .flat h
  |row=>cases h
 | @row sz n g l h h0 hc hz' hg hcell hl hr ih=>
   intro x' he
   cases he with
   |flat hf=>cases hf
   | @row _ sz' _ _ g' hs hl' hr'=>
     refine .row l h h0 hc hz' (fun i hi => ?_) (fun k i j x hk hi hx => ?_) (fun i hi=>(hl' i hi).symm.trans (hl i hi)) (fun i j x y hi hx hy => ?_)
     . rw[← hs (by omega)];exact hg i hi
     . rw[← hs (by omega)];exact hcell k i j x hk hi hx
     . have hj:j < (g i).length:=by rw[hl' i hi];exact(List.getElem?_eq_some_iff.1 hx).1
       exact ih i j _ y hi (List.getElem?_eq_getElem hj) hy (hr' i j _ x hi (List.getElem?_eq_getElem hj) hx)
mutual
theorem FVEq.refl:∀ x:FV,FVEq x x
 | .val _=>.flat rfl
 | .bool _=>.flat rfl
 | .int _ _=>.flat rfl
 | .u64 _=>.flat rfl
 | .row sz n g=>.row (fun _=>rfl) (fun _ _=>rfl) fun i j x y hi hx hy=>by
   have e:x=y:=by rw[hx] at hy;exact Option.some.inj hy
   rw[← e];exact FVEq.refl_at (g i) j x hx
theorem FVEq.refl_at:∀ (l:List FV) (j:Nat) (x:FV),l[j]? = some x→FVEq x x
 |[],j,x,h=>by simp at h
 |a::l,0,x,h=>by
  have e:a=x:=by simpa using h
  rw[← e];exact FVEq.refl a
 |a::l,j+1,x,h=>FVEq.refl_at l j x (by simpa using h)
end
theorem FVEqL.refl (l:List FV):FVEqL l l:=⟨rfl,fun j x y hx hy=>by
 obtain rfl:x=y:=by rw[hx] at hy;exact Option.some.inj hy
 exact FVEq.refl x⟩
theorem RepL.eqv {z:Nat→Prop}{w:World}{a b c:List FV}(h:RepL z w a c)(he:FVEqL a b):RepL z w b c:=⟨he.1.symm.trans h.1,fun j x y hx hy=>by
 have hj:j<a.length:=by rw[he.1];exact(List.getElem?_eq_some_iff.1 hx).1
 exact(h.2 j _ y (List.getElem?_eq_getElem hj) hy).eqv (he.2 j _ x (List.getElem?_eq_getElem hj) hx)⟩
def roOk (P:Nat→Prop)(ρ:Val)(n:Nat)(w:World)(sz m:Nat)(g:Nat→List FV):Prop:=(ρ n=none→m=0)∧(∀ l,ρ n=some l→m≤l.cap∧(0<m→P l.blk)∧∀ i,i<m→okG sz (g i)∧∀ j x,(g i)[j]? = some x→w.cell? ⟨l.blk,l.off+i*sz+j,none⟩=some x.den)
def ownOk (B:Bd)(ρ:Val)(n:Nat)(w:World)(ty:TypeId)(sz m:Nat)(g:Nat→List FV):Prop:=(∀ i,i<m→okG sz (g i))∧((ρ n=none∧m=0) ∨ ∃ l cur,ρ n=some l∧l.off=0∧B.may l.blk∧w.heap[l.blk]? = some (.cells cur ty (0,0))∧m≤l.cap∧(l.cap≤maxLen∧l.sp=none)∧cur.size=l.cap*sz∧cur.toList.take (m*sz)=flatG m g)
def Blk.ok (B:Bd)(ρ:Val)(n:Nat)(w:World):Blk→Prop
 | .dead=>True
 | .cells ty xs=>∃ l,ρ n=some l∧l.off=0∧B.may l.blk∧w.heap[l.blk]? = some (.cells (denL ρ xs).toArray ty (0,0))
 | .rc ty xs=>∃ l,ρ n=some l∧l.off=0 ∧ ¬ B.may l.blk∧w.heap[l.blk]? = some (.cells (denL ρ xs).toArray ty (0,0))
 | .ro sz m g=>∃ h,(∀ i,i<m→RepL ρ.z w (g i) (h i))∧roOk (fun k => ¬ B.may k) ρ n w sz m h
 | .fz sz m g=>∃ h,(∀ i,i<m→RepL ρ.z w (g i) (h i))∧roOk ρ.z ρ n w sz m h
 | .own ty sz m g=>∃ h,(∀ i,i<m→RepL ρ.z w (g i) (h i))∧ownOk B ρ n w ty sz m h
 | .map es=>∃ l arr cnt,ρ n=some l∧B.may l.blk∧w.heap[l.blk]? = some (.map arr cnt)∧MapIs ρ es arr
 | .mix ty xs=>∃ l,ρ n=some l∧l.off=0∧B.may l.blk∧w.heap[l.blk]? = some (.cells (mixL xs (denL ρ xs)).toArray ty (0,0))
 | .fm m h=>∃ l arr cnt,ρ n=some l∧B.may l.blk∧w.heap[l.blk]? = some (.map arr cnt)∧FmIs m h arr
 | .lp T fe ps asg bd st=>∃ l r,ρ n=some l∧B.may l.blk∧w.heap[l.blk]? = some (.loop r)∧LoopIs ρ T fe ps asg bd st r
def Blk.sc (p:Nat→Bool):Blk→Bool
 | .cells _ xs=>scL p xs
 | .rc _ xs=>scL p xs
 | .map es=>scL p (es.map (·.1))&&scL p (es.map (·.2))
 | .mix _ xs=>scL p xs
 | .lp _ fe .. => scL p fe
 |_=>true
theorem Blk.sc_mono {p q:Nat→Bool}(h:∀ n,p n=true→q n=true)(b:Blk)(hs:b.sc p=true):b.sc q=true:=by
 cases b with
 |cells ty xs=>exact scL_mono h xs hs
 |rc ty xs=>exact scL_mono h xs hs
 |map es=>
  simp only[Blk.sc,Bool.and_eq_true] at hs ⊢
  exact⟨scL_mono h _ hs.1,scL_mono h _ hs.2⟩
 |mix ty xs=>exact scL_mono h xs hs
 |lp _ fe=>exact scL_mono h fe hs
 |_=>rfl
theorem esD_congr {ρ ρ':Val}{p:Nat→Bool}(h:∀ n,p n=true→ρ' n=ρ n):∀ (es:List (SV×SV)),scL p (es.map (·.1))=true→scL p (es.map (·.2))=true→esD ρ' es=esD ρ es
 |[],_,_=>rfl
 |(k,v)::l,h1,h2=>by
  simp only[List.map_cons,scL,Bool.and_eq_true] at h1 h2
  have ih:=esD_congr h l h1.2 h2.2
  simp only[esD,List.map_cons,SV.den_congr h k h1.1,SV.den_congr h v h2.1] at ih ⊢
  rw[ih]
theorem LoopIs.congr {ρ ρ':Val}{p:Nat→Bool}(h:∀ n,p n=true→ρ' n=ρ n){T:Tbl}{fe:List SV}{ps:Array Tmp}{asg bd:Code}{st:LS}{r:Loop}(hs:scL p fe=true)(hl:LoopIs ρ T fe ps asg bd st r):LoopIs ρ' T fe ps asg bd st r:=
 ⟨hl.okA,hl.okB,hl.params,hl.assign,hl.body,hl.size,fun s x hx hj=>by
   rw[scL_eq,List.all_eq_true] at hs
   rw[SV.den_congr h x (hs x (List.mem_of_getElem? hx))]
   exact hl.slot s x hx hj,hl.state,hl.pending,hl.known⟩
theorem roOk.congr {P Q:Nat→Prop}{ρ ρ':Val}{n n':Nat}{w:World}{sz m:Nat}{g:Nat→List FV}(e:ρ' n'=ρ n)(hP:∀ k,P k→Q k)(h:roOk P ρ n w sz m g):roOk Q ρ' n' w sz m g:=by
 unfold roOk at *
 rw[e];exact⟨h.1,fun l hl=>⟨(h.2 l hl).1,fun hm=>hP _ ((h.2 l hl).2.1 hm),(h.2 l hl).2.2⟩⟩
theorem ownOk.congr {B:Bd}{ρ ρ':Val}{n n':Nat}{w:World}{ty sz m:Nat}{g:Nat→List FV}(e:ρ' n'=ρ n)(h:ownOk B ρ n w ty sz m g):ownOk B ρ' n' w ty sz m g:=by
 unfold ownOk at *;rw[e];exact h
theorem Blk.ok_congr {B:Bd}{ρ ρ':Val}{p:Nat→Bool}{n:Nat}{w:World}(h:∀ n,p n=true→ρ' n=ρ n)(hz:∀ k,ρ.z k→ρ'.z k)(hn:p n=true)(b:Blk)(hs:b.sc p=true)(hb:b.ok B ρ n w):b.ok B ρ' n w:=by
 have e:=h n hn
 cases b with
 |dead=>trivial
 |cells ty xs=>simp only[Blk.sc] at hs;simp only[Blk.ok,e,denL_congr h xs hs] at hb ⊢;exact hb
 |rc ty xs=>simp only[Blk.sc] at hs;simp only[Blk.ok,e,denL_congr h xs hs] at hb ⊢;exact hb
 |ro sz m g=>
  obtain⟨q,hr,ho⟩:=hb
  exact⟨q,fun i hi=>(hr i hi).mono hz (fun _ _=>rfl),ho.congr e fun _ h=>h⟩
 |fz sz m g=>
  obtain⟨q,hr,ho⟩:=hb
  exact⟨q,fun i hi=>(hr i hi).mono hz (fun _ _=>rfl),ho.congr e hz⟩
 |own ty sz m g=>
  obtain⟨q,hr,ho⟩:=hb
  exact⟨q,fun i hi=>(hr i hi).mono hz (fun _ _=>rfl),ho.congr e⟩
 |map es=>
  simp only[Blk.sc,Bool.and_eq_true] at hs
  obtain⟨l,arr,cnt,h1,h2,h3,h4⟩:=hb
  exact⟨l,arr,cnt,by rw[e];exact h1,h2,h3,by rw[esD_congr h es hs.1 hs.2];exact h4.perm,by rw[esD_congr h es hs.1 hs.2];exact h4.nodup⟩
 |mix ty xs=>simp only[Blk.sc] at hs;simp only[Blk.ok,e,denL_congr h xs hs] at hb ⊢;exact hb
 |fm m q=>
  obtain⟨l,arr,cnt,h1,h2,h3,h4⟩:=hb
  exact⟨l,arr,cnt,by rw[e];exact h1,h2,h3,h4⟩
 |lp T fe ps asg bd st=>
  obtain⟨l,r,h1,h2,h3,h4⟩:=hb
  exact⟨l,r,by rw[e];exact h1,h2,h3,h4.congr h hs⟩
theorem Blk.ok.elim_congr {B:Bd}{ρ ρ':Val}{m n:Nat}{w:World}{b:Blk}(hb:b.ok B ρ n w)(h:∀ n,n<m→ρ' n=ρ n)(hz:∀ k,ρ.z k→ρ'.z k)(hn:n<m)(hs:b.sc (fun n=>n<m)=true):b.ok B ρ' n w:=
 Blk.ok_congr (p:=fun n=>n<m) (fun n hn=>h n (by simpa using hn)) hz (by simpa using hn) b hs hb
theorem Blk.ok_lt {B:Bd}{ρ:Val}{n:Nat}{w:World}{b:Blk}(hb:b.ok B ρ n w)(hown:b.isOwn=true){l:Loc}(hl:ρ n=some l):B.may l.blk∧l.blk<w.heap.size:=by
 cases b with
 |cells ty xs=>
  obtain⟨l',e,_,h1,h2⟩:=hb
  obtain rfl:l'=l:=by rw[hl] at e;exact(Option.some.inj e).symm
  exact⟨h1,(Array.getElem?_eq_some_iff.1 h2).1⟩
 |own ty sz m g=>
  obtain⟨_,_,hb⟩:=hb
  rcases hb.2 with⟨e,_⟩ | ⟨l',cur,e,_,h1,h2,_⟩
  . rw[hl] at e;cases e
  . obtain rfl:l'=l:=by rw[hl] at e;exact(Option.some.inj e).symm
    exact⟨h1,(Array.getElem?_eq_some_iff.1 h2).1⟩
 |map es=>
  obtain⟨l',arr,cnt,e,h1,h2,_⟩:=hb
  obtain rfl:l'=l:=by rw[hl] at e;exact(Option.some.inj e).symm
  exact⟨h1,(Array.getElem?_eq_some_iff.1 h2).1⟩
 |mix ty xs=>
  obtain⟨l',e,_,h1,h2⟩:=hb
  obtain rfl:l'=l:=by rw[hl] at e;exact(Option.some.inj e).symm
  exact⟨h1,(Array.getElem?_eq_some_iff.1 h2).1⟩
 |fm m q=>
  obtain⟨l',arr,cnt,e,h1,h2,_⟩:=hb
  obtain rfl:l'=l:=by rw[hl] at e;exact(Option.some.inj e).symm
  exact⟨h1,(Array.getElem?_eq_some_iff.1 h2).1⟩
 |lp T fe ps asg bd st=>
  obtain⟨l',r,e,h1,h2,_⟩:=hb
  obtain rfl:l'=l:=by rw[hl] at e;exact(Option.some.inj e).symm
  exact⟨h1,(Array.getElem?_eq_some_iff.1 h2).1⟩
 |dead=>cases hown
 |rc=>cases hown
 |ro=>cases hown
 |fz=>cases hown
theorem roOk.same {P:Nat→Prop}{ρ:Val}{n:Nat}{w w':World}{sz m:Nat}{g:Nat→List FV}(hP:∀ k,P k→w'.heap[k]? = w.heap[k]?)(h:roOk P ρ n w sz m g):roOk P ρ n w' sz m g:=by
 refine⟨h.1,fun l hl => ?_⟩
 obtain⟨hc,hlt,hcells⟩:=h.2 l hl
 refine⟨hc,hlt,fun i hi=>⟨(hcells i hi).1,fun j x hx => ?_⟩⟩
 rw[World.cell?_of_block (w:=w) (hP l.blk (hlt (by omega)))]
 exact(hcells i hi).2 j x hx
theorem ownOk.same {B:Bd}{ρ:Val}{n:Nat}{w w':World}{ty sz m:Nat}{g:Nat→List FV}(h:∀ l,ρ n=some l→w'.heap[l.blk]? = w.heap[l.blk]?)(hb:ownOk B ρ n w ty sz m g):ownOk B ρ n w' ty sz m g:=by
 refine⟨hb.1,?_⟩
 rcases hb.2 with he | ⟨l,cur,e,h0,h1,h2,h3⟩
 . exact .inl he
 . exact .inr ⟨l,cur,e,h0,h1,by rw[h l e];exact h2,h3⟩
theorem Blk.ok_same {B:Bd}{ρ:Val}{n:Nat}{w w':World}(b:Blk)(hb:b.ok B ρ n w)(hB:∀ k,¬ B.may k→w'.heap[k]? = w.heap[k]?)(hz:∀ k,ρ.z k→w'.heap[k]? = w.heap[k]?)
  (h:b.isOwn=true→∀ l,ρ n=some l→w'.heap[l.blk]? = w.heap[l.blk]?):b.ok B ρ n w':=by
 cases b with
 |dead=>trivial
 |cells ty xs=>
  obtain⟨l,e,h0,h1,h2⟩:=hb
  exact⟨l,e,h0,h1,by rw[h rfl l e];exact h2⟩
 |rc ty xs=>
  obtain⟨l,e,h0,h1,h2⟩:=hb
  exact⟨l,e,h0,h1,by rw[hB _ h1];exact h2⟩
 |ro sz m g=>
  obtain⟨q,hr,ho⟩:=hb
  exact⟨q,fun i hi=>(hr i hi).mono (fun _ h=>h) hz,ho.same hB⟩
 |fz sz m g=>
  obtain⟨q,hr,ho⟩:=hb
  exact⟨q,fun i hi=>(hr i hi).mono (fun _ h=>h) hz,ho.same hz⟩
 |own ty sz m g=>
  obtain⟨q,hr,ho⟩:=hb
  exact⟨q,fun i hi=>(hr i hi).mono (fun _ h=>h) hz,ho.same (h rfl)⟩
 |map es=>
  obtain⟨l,arr,cnt,e,h1,h2,h3⟩:=hb
  exact⟨l,arr,cnt,e,h1,by rw[h rfl l e];exact h2,h3⟩
 |mix ty xs=>
  obtain⟨l,e,h0,h1,h2⟩:=hb
  exact⟨l,e,h0,h1,by rw[h rfl l e];exact h2⟩
 |fm m q=>
  obtain⟨l,arr,cnt,e,h1,h2,h3⟩:=hb
  exact⟨l,arr,cnt,e,h1,by rw[h rfl l e];exact h2,h3⟩
 |lp T fe ps asg bd st=>
  obtain⟨l,r,e,h1,h2,h3⟩:=hb
  exact⟨l,r,e,h1,by rw[h rfl l e];exact h2,h3⟩
def isC (w:World)(k:Nat):Prop:=∃ cur ty f,w.heap[k]? = some (Obj.cells cur ty f)
theorem isC.same {w w':World}{k:Nat}(h:isC w k)(e:w'.heap[k]? = w.heap[k]?):isC w' k:=by
 obtain⟨c,ty,f,h⟩:=h;exact⟨c,ty,f,e.trans h⟩
structure MRel (B:Bd)(ρ:Val)(M:List Blk)(w:World):Prop where
 size:B.s≤w.heap.size
 ok:∀ (n:Nat) (b:Blk),M[n]? = some b→b.ok B ρ n w
 apart:∀ (n m:Nat) (b c:Blk) (l k:Loc),n≠m→M[n]? = some b→M[m]? = some c→b.isOwn=true→c.isOwn=true→ρ n=some l→ρ m=some k→l.blk≠k.blk
 zb:∀ k,B.z k → ¬ B.may k
 zlo:∀ k,B.z k→ρ.z k
 zhi:∀ k,ρ.z k→k<w.heap.size∧(B.z k∨B.may k)
 zown:∀ (n:Nat) (b:Blk) (l:Loc),M[n]? = some b→b.isOwn=true→ρ n=some l → ¬ ρ.z l.blk
 zc:∀ k,ρ.z k→B.z k∨isC w k
structure New (B:Bd)(S:Nat)(ρ:Val)(m:Nat)(nb:List Blk)(w:World):Prop where
 ok:∀ (k:Nat) (b:Blk),nb[k]? = some b→b.ok B ρ (m+k) w
 fresh:∀ (k:Nat) (b:Blk) (l:Loc),nb[k]? = some b→b.isOwn=true→ρ (m+k)=some l→S≤l.blk
 apart:∀ (i j:Nat) (b c:Blk) (l k:Loc),i≠j→nb[i]? = some b→nb[j]? = some c→b.isOwn=true→c.isOwn=true→ρ (m+i)=some l→ρ (m+j)=some k→l.blk≠k.blk
 zown:∀ (k:Nat) (b:Blk) (l:Loc),nb[k]? = some b→b.isOwn=true→ρ (m+k)=some l → ¬ ρ.z l.blk
 zsz:∀ k,ρ.z k→k<w.heap.size
 zc:∀ k,ρ.z k→S≤k→isC w k
theorem New.nil {B:Bd}{S:Nat}{ρ:Val}{m:Nat}{w:World}(h:∀ k,ρ.z k→k<S)(hS:S≤w.heap.size):New B S ρ m [] w:=⟨by simp,by simp,by simp,by simp,fun k hk=>Nat.lt_of_lt_of_le (h k hk) hS,fun k hk hl=>by have:=h k hk;omega⟩
theorem MRel.nil {B:Bd}{ρ:Val}{w:World}(h:B.s≤w.heap.size)(hb:∀ k,B.z k → ¬ B.may k)(hz:ρ.z=B.z):MRel B ρ [] w:=⟨h,by simp,by simp,hb,by rw[hz];exact fun _ h=>h,fun k hk=>by
 rw[hz] at hk;exact⟨Nat.lt_of_lt_of_le (Bd.lt (hb k hk)) h,.inl hk⟩,by simp,fun k hk=>by rw[hz] at hk;exact .inl hk⟩
theorem MRel.zsame {B:Bd}{ρ:Val}{M:List Blk}{w w':World}(h:MRel B ρ M w){n:Nat}{b:Blk}{l:Loc}(hn:M[n]? = some b)(ho:b.isOwn=true)(hl:ρ n=some l)(hw:∀ k,k≠l.blk→w'.heap[k]? = w.heap[k]?):∀ k,ρ.z k→w'.heap[k]? = w.heap[k]? :=
 fun k hk=>hw k fun e=>h.zown n b l hn ho hl (e▸hk)
theorem MRel.grown {B:Bd}{ρ ρ':Val}{M nb:List Blk}{w w':World}(h:MRel B ρ M w)(hsc:M.all (Blk.sc fun n=>n<M.length)=true)
  (hρ:Val.Ext w.heap.size (fun n=>n<M.length) ρ ρ') (hb:Below w.heap.size w w') (hn:New B w.heap.size ρ' M.length nb w'):MRel B ρ' (M++nb) w':=by
 have zsame:∀ k,ρ.z k→w'.heap[k]? = w.heap[k]? := fun k hk=>hb.block k (h.zhi k hk).1
 have old:∀ (n:Nat) (b:Blk),M[n]? = some b→b.ok B ρ' n w':=fun n b hn=>by
  have hlt:n<M.length:=(List.getElem?_eq_some_iff.1 hn).1
  have hm:b∈M:=List.mem_of_getElem? hn
  have h0:=h.ok n b hn
  have h1:b.ok B ρ n w':=b.ok_same h0 (fun k hk=>hb.block k (Nat.lt_of_lt_of_le (Bd.lt hk) h.size)) zsame fun ho l hl=>hb.block _ (Blk.ok_lt h0 ho hl).2
  exact h1.elim_congr hρ.eq hρ.z hlt (List.all_eq_true.1 hsc b hm)
 have oldlt:∀ (n:Nat) (b:Blk) (l:Loc),n<M.length→M[n]? = some b→b.isOwn=true→ρ' n=some l→l.blk<w.heap.size:=fun n b l hlt hnb ho e=>
  (Blk.ok_lt ((h.ok n b hnb)) ho (by rw[← hρ.eq n hlt];exact e)).2
 refine⟨Nat.le_trans h.size hb.size,fun n b hnb => ?_,fun n m b c l k hne h1 h2 o1 o2 e1 e2 => ?_,h.zb,fun k hk=>hρ.z k (h.zlo k hk),fun k hk=>⟨hn.zsz k hk,?_⟩,fun n b l hnb ho hl hz => ?_,fun k hk=>(hρ.fresh k hk).elim (fun hk'=>(h.zc k hk').imp_right fun hc=>hc.same (zsame k hk')) fun hk'=>.inr (hn.zc k hk hk')⟩
 . rcases Nat.lt_or_ge n M.length with hlt|hge
   . rw[List.getElem?_append_left hlt] at hnb;exact old n b hnb
   . rw[List.getElem?_append_right hge] at hnb
     have:=hn.ok _ _ hnb
     rwa [show M.length+(n-M.length)=n by omega] at this
 . rcases Nat.lt_or_ge n M.length with hlt|hge<;>rcases Nat.lt_or_ge m M.length with hlt'|hge'
   . rw[List.getElem?_append_left hlt] at h1;rw[List.getElem?_append_left hlt'] at h2
     exact h.apart n m b c l k hne h1 h2 o1 o2 (by rw[← hρ.eq n hlt];exact e1) (by rw[← hρ.eq m hlt'];exact e2)
   . rw[List.getElem?_append_left hlt] at h1;rw[List.getElem?_append_right hge'] at h2
     have a:=oldlt n b l hlt h1 o1 e1
     have b':=hn.fresh _ _ k h2 o2 (by rwa [show M.length+(m-M.length)=m by omega])
     omega
   . rw[List.getElem?_append_right hge] at h1;rw[List.getElem?_append_left hlt'] at h2
     have a:=oldlt m c k hlt' h2 o2 e2
     have b':=hn.fresh _ _ l h1 o1 (by rwa [show M.length+(n-M.length)=n by omega])
     omega
   . rw[List.getElem?_append_right hge] at h1;rw[List.getElem?_append_right hge'] at h2
     exact hn.apart _ _ b c l k (by omega) h1 h2 o1 o2 (by rwa [show M.length+(n-M.length)=n by omega]) (by rwa [show M.length+(m-M.length)=m by omega])
 . rcases hρ.fresh k hk with hk'|hk'
   . exact(h.zhi k hk').2
   . exact .inr (.inr (Nat.le_trans h.size hk'))
 . rcases Nat.lt_or_ge n M.length with hlt|hge
   . rw[List.getElem?_append_left hlt] at hnb
     have a:=oldlt n b l hlt hnb ho hl
     rcases hρ.fresh _ hz with hz'|hz'
     . exact h.zown n b l hnb ho (by rw[← hρ.eq n hlt];exact hl) hz'
     . omega
   . rw[List.getElem?_append_right hge] at hnb
     exact hn.zown _ _ l hnb ho (by rwa [show M.length+(n-M.length)=n by omega]) hz
end Go.Sx
namespace Go.Sx
open Go.RowKit Go.Proofs.YtfgkhenhlpoheaaGreat
def celB:Option Blk→Option (List SV)
 |some (.cells _ xs)=>some xs
 |some (.rc _ xs)=>some xs
 |_=>none
theorem celB_ok {B:Bd}{ρ:Val}{M:List Blk}{w:World}{n:Nat}{xs:List SV}(hM:MRel B ρ M w)(h:celB (nth M n)=some xs):∃ l ty,ρ n=some l∧l.off=0∧w.heap[l.blk]? = some (.cells (denL ρ xs).toArray ty (0,0)):=by
 unfold celB at h
 split at h
 . rename_i ty ys hn
   obtain rfl:=Option.some.inj h
   obtain⟨l,hl,h0,_,hh⟩:=hM.ok n _ (by rw[← nth_eq];exact hn)
   exact⟨l,ty,hl,h0,hh⟩
 . rename_i ty ys hn
   obtain rfl:=Option.some.inj h
   obtain⟨l,hl,h0,_,hh⟩:=hM.ok n _ (by rw[← nth_eq];exact hn)
   exact⟨l,ty,hl,h0,hh⟩
 . cases h
inductive Res where
 |fail
 |ok (sv:SV) (nb:List Blk)
 |test (b:Bool) (r:Res)
 |split (b:Bool) (r s:Res)
def Res.run (r:Res):(SV→List Blk→Prop)→Prop:=
 Res.rec (motive:=fun _=>(SV→List Blk→Prop)→Prop) (fun _=>False) (fun sv nb K=>K sv nb) (fun b _ ih K=>b=true∧ih K) (fun b _ _ ih jh K=>(b=true→ih K)∧(b=false→jh K)) r
def SV.ofU (n:Int):SV:=match decide (0≤n),decide (n<18446744073709551616) with
    |true,true=>.u64 (BitVec.ofInt 64 n)
    |_,_=>.val (.int .u64 n)
def SV.ofW:Value→SV
 | .bool true=>.tt
 | .bool false=>.ff
 | .int .u64 n=>SV.ofU n
 | .int k n=>.int k n
 |v=>.val v
def SV.ofV:Value→SV
 | .agg vs=>.agg (vs.toList.map SV.ofW)
 |v=>SV.ofW v
theorem SV.ofU_den (ρ:Val)(n:Int):(SV.ofU n).den ρ = .int .u64 n:=by
 unfold SV.ofU
 split
 . rename_i h1 h2
   simp only[decide_eq_true_eq] at h1 h2
   simp only[SV.den];rw[uv_of 64 n h1 (by simpa using h2)]
 . rfl
theorem SV.ofW_den (ρ:Val)(v:Value):(SV.ofW v).den ρ=v:=by
 cases v with
 |bool b=>cases b<;>rfl
 |int k n=>cases k<;>first|rfl|exact SV.ofU_den ρ n
 |_=>rfl
theorem SV.ofV_den (ρ:Val)(v:Value):(SV.ofV v).den ρ=v:=by
 unfold SV.ofV
 split
 . rename_i vs
   simp only[SV.den,denL_eq,List.map_map]
   congr 1
   apply Array.ext'
   rw[show(SV.den ρ ∘ SV.ofW)=id from funext fun v=>SV.ofW_den ρ v]
   simp
 . exact SV.ofW_den ρ _
theorem SV.ofU_sc (p:Nat→Bool)(n:Int):(SV.ofU n).sc p=true:=by unfold SV.ofU;split<;>rfl
theorem SV.ofW_sc (p:Nat→Bool)(v:Value):(SV.ofW v).sc p=true:=by
 cases v with
 |bool b=>cases b<;>rfl
 |int k n=>cases k<;>first|rfl|exact SV.ofU_sc p n
 |_=>rfl
theorem SV.ofV_sc (p:Nat→Bool)(v:Value):(SV.ofV v).sc p=true:=by
 unfold SV.ofV
 split
 . rename_i vs
   simp only[SV.sc,scL_eq,List.all_eq_true,List.mem_map]
   rintro x ⟨y,_,rfl⟩
   exact SV.ofW_sc p y
 . exact SV.ofW_sc p _
def evS (F:List SV):Operand→SV
 | .tmp t=>match nth F t with
   |some x=>x
   |none=>.junk
 | .const v=>.ofV v
 | .global g=>.val (.pointer (some ⟨g,0,none⟩))
 | .func f=>.fn (.func f) [] []
def SV.nj:SV→Bool
 | .junk=>false
 |_=>true
theorem SV.nj_ne {x:SV}(h:x.nj=true):x ≠ .junk:=by rintro rfl;cases h
def cellsS:SV→Option (List SV)
 | .agg xs=>some xs
 | .junk=>none
 | .tup _=>none
 | .val (.agg _)=>none
 | .val (.tuple _)=>none
 | .arr .. => none
 | .mix _=>none
 |x=>some [x]
theorem cellsS_den {ρ:Val}{x:SV}{xs:List SV}(h:cellsS x=some xs):(x.den ρ).cells=(denL ρ xs).toArray∧x ≠ .junk:=by
 cases x with
 |junk=>cases h
 |tup=>cases h
 |arr=>cases h
 |mix=>cases h
 |agg ys=>obtain rfl:ys=xs:=Option.some.inj h;exact⟨rfl,by simp⟩
 |val v=>cases v<;>first | (obtain rfl:=Option.some.inj h;exact⟨rfl,by simp⟩) | (cases h)
 |_=>obtain rfl:=Option.some.inj h;exact⟨rfl,by simp⟩
def SV.one:SV→Bool
 | .agg _=>false
 | .junk=>false
 | .tup _=>false
 | .arr .. => false
 | .mix _=>false
 | .val (.agg _)=>false
 | .val (.tuple _)=>false
 |_=>true
theorem SV.one_den {ρ:Val}{x:SV}(h:x.one=true):(x.den ρ).oneCell'=true:=by
 cases x with
 |junk=>cases h
 |tup=>cases h
 |agg ys=>cases h
 |arr=>cases h
 |mix=>cases h
 |val v=>cases v<;>first|rfl | (cases h)
 |_=>rfl
section
variable (P:Program)
def sizeS (t:TypeId):Option Nat:=match P.info? t with
 |some i=>some i.size
 |none=>none
def zeroS (t:TypeId):Option (List SV):=match P.info? t with
 |some i=>match i.zero with
  |some z=>some (z.cells.toList.map SV.ofV)
  |none=>none
 |none=>none
def aggS (t:TypeId):Option Bool:=match P.underlying t with
 |some (.struct _)=>some true
 |some (.array _ _)=>some true
 |some _=>some false
 |none=>none
def partS (t:TypeId)(xs:List SV)(off:Nat):Option SV:=match aggS P t with
 |some true=>match sizeS P t with
  |some n=>match Nat.ble (off+n) xs.length with
   |true=>some (.agg ((xs.drop off).take n))
   |false=>none
  |none=>none
 |some false=>match nth xs off with
  |some x=>match x.nj with
   |true=>some x
   |false=>none
  |none=>none
 |none=>none
def fieldS (t:TypeId)(f:Nat):Option Field:=match P.underlying t with
 |some (.struct fs)=>nth fs.toList f
 |_=>none
def placesS:List Field→Option (List (Nat×Nat))
 |[]=>some []
 |f::fs=>match sizeS P f.type,placesS fs with
  |some n,some l=>some ((f.offset,n)::l)
  |_,_=>none
end
def fillS (place:Nat→Option (Nat×Nat))(cells:List SV):List (Nat×SV)→Option (List SV)
 |[]=>some cells
 |(i,v)::rest=>match place i,cellsS v with
  |some (off,n),some cs=>match Nat.beq cs.length n,Nat.ble (off+n) cells.length with
   |true,true=>fillS place (cells.take off++cs++cells.drop (off+n)) rest
   |_,_=>none
  |_,_=>none
theorem foldl_set (off:Nat):∀ (cs:List Value) (k:Nat) (cells:Array Value),off+k+cs.length≤cells.size→
  ((cs.zipIdx k).foldl (fun a (p:Value×Nat)=>a.setIfInBounds (off+p.2) p.1) cells).toList=cells.toList.take (off+k)++cs++cells.toList.drop (off+k+cs.length)
 |[],k,cells,h=>by simp
 |c::cs,k,cells,h=>by
  simp only[List.zipIdx_cons,List.foldl_cons]
  rw[foldl_set off cs (k+1) _ (by simp at h ⊢;omega)]
  apply List.ext_getElem?
  intro i
  simp only[List.length_cons] at h
  simp only[Array.toList_setIfInBounds,List.getElem?_append,List.length_take,List.length_set,Array.length_toList,List.getElem?_take,List.getElem?_drop,List.getElem?_set,List.length_append,List.length_cons]
  rcases Nat.lt_trichotomy i (off+k) with hi|hi|hi
  . simp[show i<off+(k+1) by omega,show i<min (off+(k+1)) cells.size+cs.length by omega,show i<min (off+(k+1)) cells.size by omega,hi,show i<min (off+k) cells.size+(cs.length+1) by omega,show i<min (off+k) cells.size by omega,show off+k≠i by omega]
  . subst hi
    simp[show off+k<off+(k+1) by omega,show off+k<min (off+(k+1)) cells.size by omega,show ¬ off+k<min (off+k) cells.size by omega,show off+k<min (off+(k+1)) cells.size+cs.length by omega,show off+k<min (off+k) cells.size+(cs.length+1) by omega,show off+k-min (off+k) cells.size=0 by omega,show off+k<cells.size by omega]
  . rw[show min (off+(k+1)) cells.size=off+k+1 by omega,show min (off+k) cells.size=off+k by omega]
    simp only[show ¬ i<off+k+1 by omega,show ¬ i<off+k by omega,if_false]
    rw[show i - (off+k)=(i - (off+k+1))+1 by omega,List.getElem?_cons_succ]
    by_cases h2:i<off+k+1+cs.length
    . simp[h2,show i<off+k+(cs.length+1) by omega]
    . simp only[h2,show ¬ i<off+k+(cs.length+1) by omega,if_false]
      rw[if_neg (by omega)]
      congr 1;omega
theorem fill_of {ρ:Val}{place:Nat→Option (Nat×Nat)}:∀ (parts:List (Nat×SV)) (cells out:List SV),fillS place cells parts=some out→
  Instr.fill place (denL ρ cells).toArray (parts.map fun p=>(p.1,p.2.den ρ))=some (denL ρ out).toArray
 |[],cells,out,h=>by obtain rfl:=Option.some.inj h;rfl
 |(i,v)::rest,cells,out,h=>by
  simp only[fillS] at h
  split at h
  . rename_i off n cs hp hc
    split at h
    . rename_i h1 h2
      have h1':cs.length=n:=by simpa using h1
      have h2':off+n≤cells.length:=by simpa using h2
      have ih:=fill_of (ρ:=ρ) rest _ out h
      simp only[List.map_cons,Instr.fill,hp,(cellsS_den (ρ:=ρ) hc).1]
      rw[if_neg (by simp[denL_eq];omega)]
      rw[← ih]
      congr 1
      apply Array.ext'
      have hz:((denL ρ cs).toArray.zipIdx).toList=(denL ρ cs).zipIdx 0:=by simp
      rw[← Array.foldl_toList,hz,foldl_set off (denL ρ cs) 0 _ (by simp[denL_eq];omega)]
      simp[denL_eq,List.map_take,List.map_drop,h1']
    . cases h
  . cases h
def buildS (P:Program)(t:TypeId)(parts:List (Nat×SV)):Option (List SV):=match zeroS P t with
 |none=>none
 |some z=>match P.underlying t with
  |some (.array _ e)=>match sizeS P e with
   |some n=>fillS (fun i=>some (i*n,n)) z parts
   |none=>none
  |some (.struct fs)=>match placesS P fs.toList with
   |some l=>fillS (nth l) z parts
   |none=>none
  |_=>none
theorem zeroS_den {P:Program}{t:TypeId}{z:List SV}(h:zeroS P t=some z):∃ it v,P.info? t=some it∧it.zero=some v∧∀ ρ,v.cells=(denL ρ z).toArray:=by
 unfold zeroS at h
 split at h
 . rename_i i hi
   split at h
   . rename_i v hv
     obtain rfl:=Option.some.inj h
     refine⟨i,v,hi,hv,fun ρ => ?_⟩
     apply Array.ext'
     simp[denL_eq,Function.comp_def,SV.ofV_den]
   . cases h
 . cases h
theorem zeroS_sc {P:Program}{t:TypeId}{z:List SV}(p:Nat→Bool)(h:zeroS P t=some z):scL p z=true:=by
 unfold zeroS at h
 split at h
 . split at h
   . obtain rfl:=Option.some.inj h
     simp[scL_eq,SV.ofV_sc]
   . cases h
 . cases h
theorem sizeS_info {P:Program}{t:TypeId}{n:Nat}(h:sizeS P t=some n):∃ it,P.info? t=some it∧it.size=n:=by
 unfold sizeS at h
 split at h
 . rename_i i hi;exact⟨i,hi,Option.some.inj h⟩
 . cases h
theorem placesS_mapM {P:Program}:∀ (fs:List Field) (l:List (Nat×Nat)),placesS P fs=some l→fs.mapM (fun f=>(P.info? f.type).map fun i=>(f.offset,i.size))=some l
 |[],l,h=>by obtain rfl:=Option.some.inj h;simp
 |f::fs,l,h=>by
  simp only[placesS] at h
  split at h
  . rename_i n l' h1 h2
    obtain⟨it,hi,hs⟩:=sizeS_info h1
    obtain rfl:=Option.some.inj h
    simp[List.mapM_cons,hi,hs,placesS_mapM fs l' h2]
  . cases h
theorem buildS_built {P:Program}{ρ:Val}{t:TypeId}{parts:List (Nat×SV)}{out:List SV}(h:buildS P t parts=some out):P.built t (parts.map fun p=>(p.1,p.2.den ρ))=some (denL ρ out).toArray:=by
 unfold buildS at h
 split at h
 . cases h
 . rename_i z hz
   obtain⟨it,v,hi,hv,hc⟩:=zeroS_den hz
   unfold Program.built
   split at h
   . rename_i k e hu
     split at h
     . rename_i n hn
       obtain⟨ie,hie,hs⟩:=sizeS_info hn
       simp only[hi,hu,hv,hie,hs,hc ρ]
       exact fill_of parts z out h
     . cases h
   . rename_i fs hu
     split at h
     . rename_i l hl
       simp only[hi,hu,hv,placesS_mapM fs.toList l hl,hc ρ]
       rw[← fill_of parts z out h]
       congr 1
       funext i;simp[nth_eq]
     . cases h
   . cases h
end Go.Sx
namespace Go.Sx
open Go.RowKit Go.Proofs.YtfgkhenhlpoheaaGreat
def Res.good (G:SV→List Blk→Prop):Res→Prop
 | .fail=>True
 | .ok sv nb=>G sv nb
 | .test b r=>b=true→r.good G
 | .split b r s=>(b=true→r.good G)∧(b=false→s.good G)
theorem Res.good_run {G K:SV→List Blk→Prop}:∀ (r:Res),r.run K→r.good G→∃ sv nb,K sv nb∧G sv nb
 | .fail,h,_=>h.elim
 | .ok sv nb,h,g=>⟨sv,nb,h,g⟩
 | .test _ r,h,g=>Res.good_run r h.2 (g h.1)
 | .split true r _,h,g=>Res.good_run r (h.1 rfl) (g.1 rfl)
 | .split false _ s,h,g=>Res.good_run s (h.2 rfl) (g.2 rfl)
theorem Res.good_mono {G H:SV→List Blk→Prop}(h:∀ sv nb,G sv nb→H sv nb):∀ (r:Res),r.good G→r.good H
 | .fail,_=>trivial
 | .ok sv nb,g=>h sv nb g
 | .test _ r,g=>fun hb=>Res.good_mono h r (g hb)
 | .split _ r s,g=>⟨fun hb=>Res.good_mono h r (g.1 hb),fun hb=>Res.good_mono h s (g.2 hb)⟩
def kEq (k k':IntKind):Bool:=decide (k=k')
def binU:BinOp→BitVec 64→BitVec 64→Res
 | .add,a,b=>.ok (.u64 (a+b)) []
 | .sub,a,b=>.ok (.u64 (a-b)) []
 | .mul,a,b=>.ok (.u64 (a*b)) []
 | .and,a,b=>.ok (.u64 (a &&& b)) []
 | .or,a,b=>.ok (.u64 (a ||| b)) []
 | .xor,a,b=>.ok (.u64 (a ^^^ b)) []
 | .andNot,a,b=>.ok (.u64 (a &&& ~~~b)) []
 | .quo,a,b=>.test (b != 0#64) (.ok (.u64 (a / b)) [])
 | .rem,a,b=>.test (b != 0#64) (.ok (.u64 (a % b)) [])
 | .eql,a,b=>.ok (.bool (a==b)) []
 | .neq,a,b=>.ok (.bool (a != b)) []
 | .lss,a,b=>.ok (.bool (decide (a<b))) []
 | .leq,a,b=>.ok (.bool (decide (a≤b))) []
 | .gtr,a,b=>.ok (.bool (decide (b<a))) []
 | .geq,a,b=>.ok (.bool (decide (b≤a))) []
 | .shl,a,b=>.ok (.u64 (a <<< b.toNat)) []
 | .shr,a,b=>.ok (.u64 (a >>> b.toNat)) []
def binI (k:IntKind):BinOp→Int→Int→Res
 | .add,a,b=>.ok (.int k (k.wrap (a+b))) []
 | .sub,a,b=>.ok (.int k (k.wrap (a-b))) []
 | .mul,a,b=>.ok (.int k (k.wrap (a*b))) []
 | .and,a,b=>.ok (.int k (Go.bits .and k a b)) []
 | .or,a,b=>.ok (.int k (Go.bits .or k a b)) []
 | .xor,a,b=>.ok (.int k (Go.bits .xor k a b)) []
 | .andNot,a,b=>.ok (.int k (Go.bits .andNot k a b)) []
 | .quo,a,b=>.test (b != 0) (.ok (.int k (k.wrap (a.tdiv b))) [])
 | .rem,a,b=>.test (b != 0) (.ok (.int k (a.tmod b)) [])
 | .eql,a,b=>.ok (.bool (a==b)) []
 | .neq,a,b=>.ok (.bool (a != b)) []
 | .lss,a,b=>.ok (.bool (decide (a<b))) []
 | .leq,a,b=>.ok (.bool (decide (a≤b))) []
 | .gtr,a,b=>.ok (.bool (decide (b<a))) []
 | .geq,a,b=>.ok (.bool (decide (b≤a))) []
 |_,_,_=>.fail
def shU:BinOp→BitVec 64→Nat→Res
 | .shl,a,n=>.ok (.u64 (a <<< n)) []
 | .shr,a,n=>.ok (.u64 (a >>> n)) []
 |_,_,_=>.fail
def shI (k:IntKind):BinOp→Int→Nat→Res
 | .shl,a,n=>.ok (.int k (k.wrap (a*2^min n k.bits))) []
 | .shr,a,n=>.ok (.int k (a.fdiv (2^min n k.bits))) []
 |_,_,_=>.fail
def isSh:BinOp→Bool
 | .shl=>true
 | .shr=>true
 |_=>false
def binB:BinOp→Bool→Bool→Res
 | .eql,a,b=>.ok (.bool (a==b)) []
 | .neq,a,b=>.ok (.bool (a != b)) []
 |_,_,_=>.fail
def boolS:SV→Option Bool
 | .tt=>some true
 | .ff=>some false
 | .bool b=>some b
 |_=>none
theorem boolS_den {ρ:Val}{x:SV}{b:Bool}(h:boolS x=some b):x.den ρ = .bool b∧x ≠ .junk:=by
 cases x<;>first | (obtain rfl:=Option.some.inj h;exact⟨rfl,by simp⟩) | (cases h)
def binS (op:BinOp)(x y:SV):Res:=match x,y with
 | .u64 a,.u64 b=>binU op a b
 | .u64 a,.int _ n=>.test (decide (0≤n)) (shU op a n.toNat)
 | .int k a,.u64 b=>shI k op a b.toNat
 | .int k a,.int k' b=>match isSh op with
   |true=>.test (decide (0≤b)) (shI k op a b.toNat)
   |false=>match kEq k k' with
    |true=>binI k op a b
    |false=>.fail
 |x,y=>match boolS x,boolS y with
  |some a,some b=>binB op a b
  |_,_=>.fail
abbrev Pure (P:Program)(s:Val→Sem Value)(sv:SV)(nb:List Blk):Prop:=nb=[]∧∀ ρ w,(s ρ).run P w = .ok (sv.den ρ) w
theorem binU_good (P:Program)(op:BinOp)(t:TypeId)(x y:Operand)(a b:BitVec 64):
  (binU op a b).good (Pure P fun _=>do eqGuard op t x y (.int .u64 (uv a)) (.int .u64 (uv b));binOp op t (.int .u64 (uv a)) (.int .u64 (uv b))):=by
 cases op
 case quo=>
  intro hb;refine⟨rfl,fun ρ w => ?_⟩
  have hb':b≠0#64:=by simpa using hb
  have hne:uv b≠0:=by rw[← uv_zero 64];exact fun h=>hb' (uv_inj.1 h)
  simp only[eqGuard_at_int,binOp_quo,Op.intDiv,hne,if_false,SV.den,Sem.run_bind,Sem.run_pure,Result.andThen_ok]
  rw[show(uv a).tdiv (uv b)=uv (a / b) from rfl,u64_uv]
 case rem=>
  intro hb;refine⟨rfl,fun ρ w => ?_⟩
  have hb':b≠0#64:=by simpa using hb
  have hne:uv b≠0:=by rw[← uv_zero 64];exact fun h=>hb' (uv_inj.1 h)
  simp only[eqGuard_at_int,binOp_rem,Op.intDiv,hne,if_false,SV.den,Sem.run_bind,Sem.run_pure,Result.andThen_ok]
  congr 2
 case shl=>
  refine⟨rfl,fun ρ w => ?_⟩
  simp only[eqGuard_at_int,binOp_shl,SV.den,Sem.run_bind,Sem.run_pure,Result.andThen_ok]
  rw[shl_uv _ _ _ (uv_nonneg b)];simp[ofInt_uv,uv_toNat]
 case shr=>
  refine⟨rfl,fun ρ w => ?_⟩
  simp only[eqGuard_at_int,binOp_shr,SV.den,Sem.run_bind,Sem.run_pure,Result.andThen_ok]
  rw[shr_uv _ _ _ (uv_nonneg b) (uv_nonneg a) (uv_lt a)];simp[ofInt_uv,uv_toNat]
 all_goals
  refine⟨rfl,fun ρ w => ?_⟩
  simp[SV.den,eqGuard_at_int,binOp_add,binOp_sub,binOp_mul,binOp_and,binOp_or,binOp_xor,binOp_andNot,binOp_eql,binOp_neq,binOp_lss,binOp_leq,binOp_gtr,binOp_geq,Op.intArith,intBits_and,intBits_or,intBits_xor,intBits_andNot,bits_and_uv,bits_or_uv,bits_xor_uv,bits_andNot_uv,ofInt_uv,add_uv,sub_uv,mul_uv,eq_uv,ne_uv,lt_uv,le_uv]
theorem shU_good (P:Program)(op:BinOp)(t:TypeId)(x y:Operand)(a:BitVec 64)(k:IntKind)(n:Int)(h:0≤n):
  (shU op a n.toNat).good (Pure P fun _=>do eqGuard op t x y (.int .u64 (uv a)) (.int k n);binOp op t (.int .u64 (uv a)) (.int k n)):=by
 cases op<;>try trivial
 . refine⟨rfl,fun ρ w => ?_⟩
   simp only[eqGuard_at_int,binOp_shl,SV.den,Sem.run_bind,Sem.run_pure,Result.andThen_ok]
   rw[shl_uv _ _ _ h];simp[ofInt_uv]
 . refine⟨rfl,fun ρ w => ?_⟩
   simp only[eqGuard_at_int,binOp_shr,SV.den,Sem.run_bind,Sem.run_pure,Result.andThen_ok]
   rw[shr_uv _ _ _ h (uv_nonneg a) (uv_lt a)];simp[ofInt_uv]
theorem shI_good (P:Program)(op:BinOp)(t:TypeId)(x y:Operand)(k:IntKind)(a:Int)(k':IntKind)(n:Int)(h:0≤n):
  (shI k op a n.toNat).good (Pure P fun _=>do eqGuard op t x y (.int k a) (.int k' n);binOp op t (.int k a) (.int k' n)):=by
 cases op<;>try trivial
 . refine⟨rfl,fun ρ w => ?_⟩
   simp[eqGuard_at_int,binOp_shl,SV.den,Op.shift,show ¬ n<0 by omega]
 . refine⟨rfl,fun ρ w => ?_⟩
   simp[eqGuard_at_int,binOp_shr,SV.den,Op.shift,show ¬ n<0 by omega]
theorem binI_good (P:Program)(op:BinOp)(t:TypeId)(x y:Operand)(k:IntKind)(a b:Int):
  (binI k op a b).good (Pure P fun _=>do eqGuard op t x y (.int k a) (.int k b);binOp op t (.int k a) (.int k b)):=by
 cases op
 case quo=>
  intro hb;refine⟨rfl,fun ρ w => ?_⟩
  have hb':b≠0:=by simpa using hb
  simp[SV.den,eqGuard_at_int,binOp_quo,Op.intDiv,hb']
 case rem=>
  intro hb;refine⟨rfl,fun ρ w => ?_⟩
  have hb':b≠0:=by simpa using hb
  simp[SV.den,eqGuard_at_int,binOp_rem,Op.intDiv,hb']
 case shl=>trivial
 case shr=>trivial
 all_goals
  refine⟨rfl,fun ρ w => ?_⟩
  simp[SV.den,eqGuard_at_int,binOp_add,binOp_sub,binOp_mul,binOp_and,binOp_or,binOp_xor,binOp_andNot,binOp_eql,binOp_neq,binOp_lss,binOp_leq,binOp_gtr,binOp_geq,Op.intArith,intBits_and,intBits_or,intBits_xor,intBits_andNot]
theorem equal_bool {P:Program}{t:TypeId}(ht:P.underlying t=some .bool)(a b:Bool)(w:World):(Op.equal t (.bool a) (.bool b)).run P w = .ok (a==b) w:=by
 have h:∀ d,(Op.equalIn (d+1) t (.bool a) (.bool b)).run P w = .ok (a==b) w:=fun d=>by simp[Op.equalIn,run_underlying ht]
 exact h 9999
theorem binB_good {P:Program}(op:BinOp){t:TypeId}(ht:P.underlying t=some .bool)(x y:Operand)(a b:Bool):
  (binB op a b).good (Pure P fun _=>do eqGuard op t x y (.bool a) (.bool b);binOp op t (.bool a) (.bool b)):=by
 cases op<;>try trivial
 . refine⟨rfl,fun ρ w => ?_⟩
   have e:binOp .eql t (.bool a) (.bool b)=(do pure (.bool (← Op.equal t (.bool a) (.bool b)))):=rfl
   rw[e]
   simp only[eqGuard_at_bool,SV.den,Sem.run_bind,Sem.run_pure,Result.andThen_ok,equal_bool ht]
 . refine⟨rfl,fun ρ w => ?_⟩
   have e:binOp .neq t (.bool a) (.bool b)=(do pure (.bool (!(← Op.equal t (.bool a) (.bool b))))):=rfl
   rw[e]
   simp only[eqGuard_at_bool,SV.den,Sem.run_bind,Sem.run_pure,Result.andThen_ok,equal_bool ht]
   rfl
def unS (op:UnOp)(x:SV):Res:=match op,x with
 | .not,.tt=>.ok .ff []
 | .not,.ff=>.ok .tt []
 | .not,.bool b=>.ok (.bool (!b)) []
 | .neg,.u64 a=>.ok (.u64 (-a)) []
 | .neg,.int k n=>.ok (.int k (k.wrap (0-n))) []
 | .xor,.u64 a=>.ok (.u64 (~~~a)) []
 | .xor,.int k n=>.ok (.int k (Go.bits .xor k (if k.signed then -1 else k.max) n)) []
 |_,_=>.fail
theorem bits_not (x:BitVec 64):Go.bits .xor .u64 (if IntKind.u64.signed=true then -1 else IntKind.u64.max) (uv x)=uv (~~~x):=by
 rw[bits_xor_uv,ofInt_uv,show BitVec.ofInt 64 (if IntKind.u64.signed=true then -1 else IntKind.u64.max)=BitVec.allOnes 64 by decide,BitVec.allOnes_xor]
theorem unS_good (P:Program)(op:UnOp)(x:SV):(unS op x).good (Pure P fun ρ=>Op.unary op (x.den ρ)):=by
 cases op<;>cases x<;>try trivial
 all_goals refine⟨rfl,fun ρ w => ?_⟩
 case xor.u64=>
  simp only[SV.den,Op.unary,intBits_xor,Sem.run_pure]
  rw[bits_not]
 case neg.u64=>simp only[SV.den,Op.unary,Op.intArith,Int.zero_sub,Sem.run_pure];rw[neg_uv]
 all_goals simp[SV.den,Op.unary,Op.intArith,intBits_xor]
def convS (P:Program)(src dst:TypeId)(x:SV):Res:=match P.underlying src with
 |none=>.fail
 |some _=>match P.underlying dst with
  |some (.int .u64)=>match x with
   | .u64 a=>.ok (.u64 a) []
   | .int _ n=>.ok (.u64 (BitVec.ofInt 64 n)) []
   |_=>.fail
  |some (.int .i64)=>match x with
   | .u64 a=>.ok (.int .i64 (sv a)) []
   | .int _ n=>.ok (.int .i64 (IntKind.i64.wrap n)) []
   |_=>.fail
  |some (.int k)=>match x with
   | .u64 a=>.ok (.int k (k.wrap (uv a))) []
   | .int _ n=>.ok (.int k (k.wrap n)) []
   |_=>.fail
  |_=>.fail
theorem convert_int {P:Program}{src dst:TypeId}{d:TypeDesc}{k:IntKind}(hs:P.underlying src=some d)(hd:P.underlying dst=some (.int k))(k':IntKind)(n:Int)(w:World):
  (convert src dst (.int k' n)).run P w = .ok (.int k (k.wrap n)) w:=by
 simp[convert,run_underlying hs,run_underlying hd,Conv.intToInt]
theorem convS_good (P:Program)(src dst:TypeId)(x:SV):(convS P src dst x).good (Pure P fun ρ=>convert src dst (x.den ρ)):=by
 unfold convS
 split
 . trivial
 . rename_i d hs
   split
   . rename_i hd
     split<;>try trivial
     . refine⟨rfl,fun ρ w => ?_⟩;simp only[SV.den];rw[convert_int hs hd,u64_uv]
     . refine⟨rfl,fun ρ w => ?_⟩;simp only[SV.den];rw[convert_int hs hd,wrap_ofInt]
   . rename_i hd
     split<;>try trivial
     . refine⟨rfl,fun ρ w => ?_⟩;simp only[SV.den];rw[convert_int hs hd,i64_uv]
     . refine⟨rfl,fun ρ w => ?_⟩;simp only[SV.den];rw[convert_int hs hd]
   . rename_i k _ _ hd
     split<;>try trivial
     . refine⟨rfl,fun ρ w => ?_⟩;simp only[SV.den];rw[convert_int hs hd]
     . refine⟨rfl,fun ρ w => ?_⟩;simp only[SV.den];rw[convert_int hs hd]
   . trivial
end Go.Sx
