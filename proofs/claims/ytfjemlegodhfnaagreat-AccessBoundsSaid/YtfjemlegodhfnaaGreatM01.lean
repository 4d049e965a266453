import Derived.Test.YtfjemlegodhfnaaGreatRows
import Derived.WalkKit
import Derived.WalkSpells
import Derived.WalkLawsBesides
import Derived.Deep.QuietTactic
import Derived.BigQuiet
import Derived.Lib.Hide
import Derived.Lib.BitFns
import Derived.Lib.TrailingZeros
import Derived.Deep.Cut
import Derived.Deep.DeepCutAuto
import Derived.Deep.CutBlock
import Derived.Deep.RegionHeld3
import Derived.Deep.MidRow
import Derived.Laws.AppendOwn
import Derived.Laws.Tables
import Derived.RangeFuncLeaves
import Derived.RangeFuncRecord
import Derived.OrdersIn
import Derived.StillTail
set_option linter.all false
namespace Go.Proofs.YtfjemlegodhfnaaGreat
open Go.RowKit
def uv {n:Nat}(x:BitVec n):Int:=(x.toNat:Int)
def sv {n:Nat}(x:BitVec n):Int:=x.toInt
theorem uv_nonneg {n:Nat}(x:BitVec n):0≤uv x:=Int.natCast_nonneg _
theorem uv_lt {n:Nat}(x:BitVec n):uv x<2^n:=by unfold uv;exact_mod_cast x.isLt
theorem uv_inj {n:Nat}{x y:BitVec n}:uv x=uv y↔x=y:=by
 unfold uv;constructor
 . intro h;exact BitVec.eq_of_toNat_eq (by exact_mod_cast h)
 . intro h;rw[h]
theorem wrap_u64_eq (n:Int):IntKind.u64.wrap n=n % 18446744073709551616:=by simp[IntKind.wrap,IntKind.bits,IntKind.signed]
theorem uv_ofInt (n:Int):uv (BitVec.ofInt 64 n)=IntKind.u64.wrap n:=by
 rw[wrap_u64_eq];unfold uv;rw[BitVec.toNat_ofInt];omega
theorem ofInt_uv (x:BitVec 64):BitVec.ofInt 64 (uv x)=x:=by
 unfold uv;rw[BitVec.ofInt_natCast];simp
theorem wrap_uv (r:BitVec 64):IntKind.u64.wrap (r.toNat:Int)=uv r:=by
 rw[wrap_u64_eq];unfold uv;have:=r.isLt;omega
attribute [go_sem] ofInt_uv
@[go_sem] theorem uv_toNat {n:Nat} (x:BitVec n):(uv x).toNat=x.toNat:=rfl
@[go_sem] theorem uv_nonneg' {n:Nat} (x:BitVec n):(0≤uv x)=True:=by simp[uv_nonneg]
@[go_sem] theorem uv_not_neg {n:Nat} (x:BitVec n):(uv x<0)=False:=by have:=uv_nonneg x;simp;omega
@[go_sem] theorem bits_and_uv (x y:Int):bits .and .u64 x y=uv (BitVec.ofInt 64 x &&& BitVec.ofInt 64 y):=by
  show IntKind.u64.wrap _=_;simp only[IntKind.bits];exact wrap_uv _
@[go_sem] theorem bits_or_uv (x y:Int):bits .or .u64 x y=uv (BitVec.ofInt 64 x ||| BitVec.ofInt 64 y):=by
  show IntKind.u64.wrap _=_;simp only[IntKind.bits];exact wrap_uv _
@[go_sem] theorem bits_xor_uv (x y:Int):bits .xor .u64 x y=uv (BitVec.ofInt 64 x ^^^ BitVec.ofInt 64 y):=by
  show IntKind.u64.wrap _=_;simp only[IntKind.bits];exact wrap_uv _
@[go_sem] theorem bits_andNot_uv (x y:Int):bits .andNot .u64 x y=uv (BitVec.ofInt 64 x &&& ~~~BitVec.ofInt 64 y):=by
  show IntKind.u64.wrap _=_;simp only[IntKind.bits];exact wrap_uv _
theorem wrap_ofInt (c:Int):IntKind.u64.wrap c=uv (BitVec.ofInt 64 c):=(uv_ofInt c).symm
@[go_sem] theorem add_uv (x:BitVec 64) (c:Int):IntKind.u64.wrap (uv x+c)=uv (x+BitVec.ofInt 64 c):=by
  rw[wrap_ofInt,BitVec.ofInt_add,ofInt_uv]
@[go_sem] theorem add_uv' (x:BitVec 64) (c:Int):IntKind.u64.wrap (c+uv x)=uv (BitVec.ofInt 64 c+x):=by
  rw[wrap_ofInt,BitVec.ofInt_add,ofInt_uv]
theorem ofInt_sub' (a b:Int):BitVec.ofInt 64 (a-b)=BitVec.ofInt 64 a-BitVec.ofInt 64 b:=by
 rw[Int.sub_eq_add_neg,BitVec.ofInt_add,BitVec.ofInt_neg,BitVec.sub_eq_add_neg]
@[go_sem] theorem sub_uv (x:BitVec 64) (c:Int):IntKind.u64.wrap (uv x-c)=uv (x-BitVec.ofInt 64 c):=by
  rw[wrap_ofInt,ofInt_sub',ofInt_uv]
@[go_sem] theorem sub_uv' (x:BitVec 64) (c:Int):IntKind.u64.wrap (c-uv x)=uv (BitVec.ofInt 64 c-x):=by
  rw[wrap_ofInt,ofInt_sub',ofInt_uv]
@[go_sem] theorem mul_uv (x:BitVec 64) (c:Int):IntKind.u64.wrap (uv x*c)=uv (x*BitVec.ofInt 64 c):=by
  rw[wrap_ofInt,BitVec.ofInt_mul,ofInt_uv]
@[go_sem] theorem mul_uv' (x:BitVec 64) (c:Int):IntKind.u64.wrap (c*uv x)=uv (BitVec.ofInt 64 c*x):=by
  rw[wrap_ofInt,BitVec.ofInt_mul,ofInt_uv]
@[go_sem] theorem eq_uv {n:Nat} (x y:BitVec n):(uv x==uv y)=(x==y):=by
  rw[Bool.eq_iff_iff];simp[uv_inj]
@[go_sem] theorem ne_uv {n:Nat} (x y:BitVec n):(uv x != uv y)=(x != y):=by
  rw[bne,bne,eq_uv]
theorem uv_zero (n:Nat):uv (0#n)=0:=by simp[uv]
theorem uv_lit (n k:Nat)(h:k<2^n):uv (BitVec.ofNat n k)=(k:Int):=by
 unfold uv;rw[BitVec.toNat_ofNat,Nat.mod_eq_of_lt h]
theorem uv_of (n:Nat)(c:Int)(h0:0≤c)(h1:c<2^n):uv (BitVec.ofInt n c)=c:=by
 obtain⟨k,rfl⟩:=Int.eq_ofNat_of_zero_le h0
 rw[BitVec.ofInt_natCast,uv_lit n k (by exact_mod_cast h1)]
@[go_sem] theorem eq_uv_lit {n:Nat} (x:BitVec n) (c:Int) (h0:0≤c) (h1:c<2^n):(uv x==c)=(x==BitVec.ofInt n c):=by
  rw[← eq_uv,uv_of n c h0 h1]
@[go_sem] theorem ne_uv_lit {n:Nat} (x:BitVec n) (c:Int) (h0:0≤c) (h1:c<2^n):(uv x != c)=(x != BitVec.ofInt n c):=by
  rw[bne,bne,eq_uv_lit x c h0 h1]
@[go_sem] theorem lt_uv {n:Nat} (x y:BitVec n):(uv x<uv y)↔(x<y):=by
  unfold uv;rw[BitVec.lt_def];omega
@[go_sem] theorem le_uv {n:Nat} (x y:BitVec n):(uv x≤uv y)↔(x≤y):=by
  unfold uv;rw[BitVec.le_def];omega
@[go_sem] theorem neg_uv (x:BitVec 64):IntKind.u64.wrap (-uv x)=uv (-x):=by
  rw[wrap_ofInt,BitVec.ofInt_neg,ofInt_uv]
theorem shl_min (c:Int)(n:Nat):IntKind.u64.wrap (c*2^min n 64)=uv (BitVec.ofInt 64 c <<< n):=by
 rw[wrap_ofInt];congr 1
 apply BitVec.eq_of_toNat_eq
 rw[BitVec.toNat_shiftLeft,Nat.shiftLeft_eq,BitVec.toNat_ofInt,BitVec.toNat_ofInt]
 have h2:(2:Int)^64=18446744073709551616:=by decide
 have e2:((2^64:Nat):Int)=18446744073709551616:=by decide
 by_cases h:n≤64
 . rw[Nat.min_eq_left h,e2]
   have hn:(0:Int)≤c % 18446744073709551616:=by omega
   have key:c*2^n % 18446744073709551616=(c % 18446744073709551616)*2^n % 18446744073709551616:=by
    have a1:=Int.mul_emod c (2^n) 18446744073709551616
    have a2:=Int.mul_emod (c % 18446744073709551616) (2^n) 18446744073709551616
    rw[Int.emod_emod] at a2
    rw[a1,a2]
   rw[key]
   obtain⟨k,hk⟩:=Int.eq_ofNat_of_zero_le hn
   rw[hk]
   have e:((k:Int)*2^n)=((k*2^n:Nat):Int):=by push_cast;rfl
   rw[e,Int.toNat_natCast];generalize k*2^n=z;omega
 . rw[Nat.min_eq_right (by omega),h2,e2]
   have h1:2^64 ∣ (c % 18446744073709551616).toNat*2^n:=Nat.dvd_trans (Nat.pow_dvd_pow 2 (by omega)) (Nat.dvd_mul_left _ _)
   rw[Nat.mod_eq_zero_of_dvd h1];omega
theorem shr_min (x:BitVec 64)(n:Nat):uv x / 2^min n 64=uv (x >>> n):=by
 unfold uv;rw[BitVec.toNat_ushiftRight,Nat.shiftRight_eq_div_pow]
 have key:x.toNat / 2^min n 64=x.toNat / 2^n:=by
  by_cases h:n≤64
  . rw[Nat.min_eq_left h]
  . rw[Nat.min_eq_right (by omega),Nat.div_eq_of_lt x.isLt,Nat.div_eq_of_lt (Nat.lt_of_lt_of_le x.isLt (Nat.pow_le_pow_right (by omega) (by omega)))]
 rw[← key];push_cast;rfl
@[go_sem high] theorem shl_uv (c:Int) (yk:IntKind) (y:Int) (h:0≤y):Op.shift .shl .u64 c yk y=pure (.int .u64 (uv (BitVec.ofInt 64 c <<< y.toNat))):=by
  rw[shift_shl_any _ _ _ _ h];simp only[IntKind.bits];rw[shl_min]
@[go_sem high] theorem shr_uv (c:Int) (yk:IntKind) (y:Int) (h:0≤y) (h0:0≤c) (h1:c<2^64):Op.shift .shr .u64 c yk y=pure (.int .u64 (uv (BitVec.ofInt 64 c >>> y.toNat))):=by
  rw[shift_shr_any _ _ _ _ h];simp only[IntKind.bits];rw[← shr_min,uv_of 64 c h0 h1]
@[go_sem] theorem uv_lt_pow (x:BitVec 64):(uv x<18446744073709551616)=True:=by have:=uv_lt x;simp;omega
theorem ofInt_sv (x:BitVec 64):BitVec.ofInt 64 (sv x)=x:=by unfold sv;exact BitVec.ofInt_toInt
attribute [go_sem] ofInt_sv
@[go_sem] theorem u64_sv (x:BitVec 64):IntKind.u64.wrap (sv x)=uv x:=by rw[wrap_ofInt,ofInt_sv]
theorem i64_eq (c:Int):IntKind.i64.wrap c=sv (BitVec.ofInt 64 c):=by
 unfold sv;rw[IntKind.wrap_i64,BitVec.toInt_ofInt,Int.bmod_def];split<;>omega
@[go_sem] theorem i64_uv (x:BitVec 64):IntKind.i64.wrap (uv x)=sv x:=by rw[i64_eq,ofInt_uv]
@[go_sem] theorem i64_uv' (x:BitVec 64):wrap64 (uv x)=sv x:=by rw[← IntWalk.i64_left,i64_uv]
@[go_sem] theorem u64_uv (x:BitVec 64):IntKind.u64.wrap (uv x)=uv x:=by rw[wrap_ofInt,ofInt_uv]
@[go_sem high] theorem sshr_sv (x:BitVec 64) (yk:IntKind) (y:Int) (h:0≤y):Op.shift .shr .i64 (sv x) yk y=pure (.int .i64 (sv (x.sshiftRight y.toNat))):=by
  rw[shift_shr_any _ _ _ _ h];simp only[IntKind.bits];congr 2
  unfold sv;rw[BitVec.toInt_sshiftRight,Int.shiftRight_eq_div_pow]
  by_cases hn:y.toNat≤64
  . rw[Nat.min_eq_left hn];push_cast;rfl
  . rw[Nat.min_eq_right (by omega)]
    have h1:=BitVec.toInt_lt (x:=x);have h2:=BitVec.le_toInt (x:=x)
    have h3:(2:Int)^64≤((2^y.toNat:Nat):Int):=by exact_mod_cast Nat.pow_le_pow_right (n:=2) (by omega) (show 64≤y.toNat by omega)
    have e:(2:Int)^64=18446744073709551616:=by decide
    have e':(2:Int) ^ (64-1)=9223372036854775808:=by decide
    rw[e'] at h1 h2
    by_cases hx:0≤x.toInt
    . rw[Int.ediv_eq_zero_of_lt hx (by omega),Int.ediv_eq_zero_of_lt hx (by omega)]
    . rw[Int.ediv_eq_neg_one_of_neg_of_le (by omega) (by omega),Int.ediv_eq_neg_one_of_neg_of_le (by omega) (by omega)]
def bl (x:BitVec 64):Nat:=Lib.bitLen x.toNat
def tz (x:BitVec 64):Nat:=Lib.ctz 64 x.toNat
theorem bl_le (x:BitVec 64):bl x≤64:=Lib.bitLen_le _ 64 (Nat.le_refl _) x.isLt
theorem tz_le (x:BitVec 64):tz x≤64:=by
 unfold tz;by_cases h:x.toNat=0
 . rw[h];decide
 . have:=(Lib.lowest_bit 64 x.toNat h x.isLt).2;omega
@[go_sem] theorem min_nonneg (a b:Nat):((0:Int)≤min (a:Int) b)=True:=by simp;omega
@[go_sem] theorem min_toNat (a b:Nat):(min (a:Int) b).toNat=min a b:=by omega
@[go_sem] theorem lz_nonneg (x:BitVec 64):((0:Int)≤64 - (bl x:Int))=True:=by have:=bl_le x;simp;omega
@[go_sem] theorem bl_le64 (x:BitVec 64):((bl x:Int)≤64)=True:=by have:=bl_le x;simp;omega
@[go_sem] theorem lz_toNat (x:BitVec 64):(64 - (bl x:Int)).toNat=64-bl x:=by have:=bl_le x;omega
def Ext (w:World):Type:={w':World // Below w.heap.size w w'}
instance (w:World):Nonempty (Ext w):=⟨⟨w,Below.refl _ _⟩⟩
def grow (w:World)(g:Ext w):World:=g.1
theorem grow_below (w:World)(g:Ext w):Below w.heap.size w (grow w g):=g.2
theorem grow_mk {w w':World}(h:Below w.heap.size w w'):∃ g,w'=grow w g:=⟨⟨w',h⟩,rfl⟩
theorem grow_cell (w:World)(g:Ext w)(a:Addr)(h:(w.cell? a).isSome=true):(grow w g).cell? a=w.cell? a:=by
 obtain⟨u,hu⟩:=Option.isSome_iff_exists.1 h
 exact(grow_below w g).cell (World.block_lt_of_cell? w a hu)
theorem grow_frozen (w:World)(g:Ext w)(a:Addr)(h:(w.cell? a).isSome=true):(grow w g).frozen? a=w.frozen? a:=by
 obtain⟨u,hu⟩:=Option.isSome_iff_exists.1 h
 exact(grow_below w g).frozen (World.block_lt_of_cell? w a hu)
theorem frozen_alloc_some (w:World)(a:Addr)(o:Obj)(h:(w.cell? a).isSome=true):(w.alloc o).frozen? a=w.frozen? a:=by
 obtain⟨u,hu⟩:=Option.isSome_iff_exists.1 h
 exact World.frozen?_of_block (w:=w) (Below.heap_alloc w o a.block (World.block_lt_of_cell? w a hu))
def rawc (w:World)(g:Ext w)(a:Addr):Option Value:=(grow w g).cell? a
def rawf (w:World)(g:Ext w)(a:Addr):Bool:=(grow w g).frozen? a
@[go_sem high] theorem cell_grow (w:World) (g:Ext w) (a:Addr):(grow w g).cell? a=(w.cell? a).or (rawc w g a):=by
  cases h:w.cell? a with
  |none=>rfl
  |some u=>rw[grow_cell w g a (by rw[h];rfl),h];rfl
theorem heap_alloc (w:World)(o:Obj)(k:Nat):(w.alloc o).heap[k]? = if k=w.heap.size then some o else w.heap[k]? := by
 show(w.heap.push o)[k]? = _
 rw[Array.getElem?_push]
@[go_sem high] theorem cell_alloc (w:World) (c:Array Value) (t:TypeId) (fr:Nat×Nat) (b i:Nat):(w.alloc (.cells c t fr)).cell? ⟨b,i,none⟩=(w.cell? ⟨b,i,none⟩).or (if b=w.heap.size then c[i]? else none):=by
  cases h:w.cell? ⟨b,i,none⟩ with
  |some u=>rw[World.cell?_alloc_some _ _ _ (by rw[h];rfl),h];rfl
  |none=>
   simp only[Option.none_or]
   split
   . rename_i e;subst e;unfold World.cell?;rw[heap_alloc,if_pos rfl];rfl
   . rename_i e;rw[← h];unfold World.cell?;rw[heap_alloc,if_neg e]
@[go_sem high] theorem cell_alloc_map (w:World) (es:Array MapEntry) (n:Nat) (a:Addr):(w.alloc (.map es n)).cell? a=w.cell? a:=by
  unfold World.cell?;rw[heap_alloc]
  split
  . rename_i e
    split at e
    . cases e
    . rw[e]
  . rename_i x h
    split
    . rename_i c t fr e
      rw[if_neg (by intro h';rw[h'] at e;simp at e)] at h
      exact absurd e (h c t fr)
    . rfl
@[go_sem high] theorem cell_new (w:World) (i:Nat) (s:Option Nat):w.cell? ⟨w.heap.size,i,s⟩=none:=by simp[World.cell?]
@[go_sem high] theorem cell_new' (w:World) (k i:Nat) (s:Option Nat):w.cell? ⟨w.heap.size+k,i,s⟩=none:=by simp[World.cell?]
@[go_sem] theorem size_add (w:World) (j k:Nat):w.heap.size+j+k=w.heap.size+(j+k):=Nat.add_assoc _ _ _
@[go_sem] theorem size_add_eq (w:World) (j k:Nat):(w.heap.size+j=w.heap.size+k)=(j=k):=by simp
@[go_sem high] theorem cell_set (w:World) (p a:Addr) (v:Value):(w.setCell p v).cell? a=(w.cell? a).map (fun u=>if p=a then v else u):=by
  by_cases e:p=a
  . subst e
    cases h:w.cell? p with
    |some u=>rw[World.cell?_setCell_same _ _ _ h];simp
    |none=>
     simp only[Option.map_none]
     unfold World.cell? at h ⊢
     unfold World.setCell
     simp only[Array.getElem?_modify]
     cases hb:w.heap[p.block]? with
     |none=>simp
     |some o=>cases o<;>simp_all
  . rw[World.cell?_setCell_other _ _ _ _ e];cases w.cell? a<;>simp[e]
@[go_sem high] theorem frozen_grow (w:World) (g:Ext w) (a:Addr):(grow w g).frozen? a=if (w.cell? a).isSome then w.frozen? a else rawf w g a:=by
  split
  . rename_i h;exact grow_frozen w g a h
  . rfl
@[go_sem high] theorem frozen_alloc (w:World) (c:Array Value) (t:TypeId) (fr:Nat×Nat) (b i:Nat):(w.alloc (.cells c t fr)).frozen? ⟨b,i,none⟩ =
   if (w.cell? ⟨b,i,none⟩).isSome then w.frozen? ⟨b,i,none⟩ else if b=w.heap.size then (decide (fr.1≤i)&&decide (i<fr.2)) else w.frozen? ⟨b,i,none⟩:=by
  split
  . rename_i h;exact frozen_alloc_some w _ _ h
  . split
    . rename_i e;subst e;unfold World.frozen?;rw[heap_alloc,if_pos rfl]
    . rename_i e;unfold World.frozen?;rw[heap_alloc,if_neg e]
theorem grow_size (w:World)(g:Ext w):w.heap.size≤(grow w g).heap.size:=(grow_below w g).size
def Ret (w:World)(v:Value)(e:Ending)(w':World):Prop:=e = .returned v∧∃ g,w'=grow w g
theorem up_refl (w:World):Below w.heap.size w w:=Below.refl _ _
theorem up_alloc {a w:World}(h:Below a.heap.size a w)(o:Obj):Below a.heap.size a (w.alloc o):=h.alloc h.size o
theorem up_drew {a w:World}(h:Below a.heap.size a w):Below a.heap.size a w.drew:=h.drew
theorem up_grow {a w:World}(h:Below a.heap.size a w)(g:Ext w):Below a.heap.size a (grow w g):=h.trans ((grow_below w g).mono h.size)
theorem up_set {a w:World}(h:Below a.heap.size a w){p:Addr}(hp:a.heap.size≤p.block)(v:Value):Below a.heap.size a (w.setCell p v):=h.setCell hp v
theorem ret_of {w w':World}{v v':Value}(hv:v'=v)(h:Below w.heap.size w w'):Ret w v (.returned v') w':=⟨by rw[hv],grow_mk h⟩
section
variable {P:Program}{Q:Exit→Act→World→Prop}{a:Act}{w:World}{l:List Oper}
theorem wp_region_pure {id:Nat}(hm:P.follows .mixedOrders=true)(hB:Region.lexB .any l.toArray=true)
  (h:wpQuiet P l.toArray (fun w'=>∃ g,w'=grow w g) (fun a'=>∀ w',(∃ g,w'=grow w g)→Q .normal a' w') l a):(Code.region id l.toArray true).wp P Q a w:=
 wp_region_quiet (C:=fun w'=>∃ g,w'=grow w g) hm hB (grow_mk (up_drew (up_refl w))) (by simpa using h)
theorem wpList_of_quiet {ops:Array Oper}{C:World→Prop}:∀ (l:List Oper) (a:Act) (w:World),C w→
  wpQuiet P ops C (fun a'=>∀ w',C w'→Q .normal a' w') l a→wpList P ops Q l a w
 |[],_,w,hC,h=>h w hC
 |o::rest,a,w,hC,h=>by
  unfold wpQuiet at h;unfold wpList
  split
  . rename_i hw
    rw[if_pos hw] at h
    exact .inl (Oper.wp_of_quiet hC (fun a' w' hC' hk=>wpList_of_quiet rest a' w' hC' hk) h)
  . rename_i hw
    rw[if_neg hw] at h
    exact wpList_of_quiet rest _ w hC h
theorem wp_region_plain {id:Nat}
  (h:wpQuiet P l.toArray (fun w'=>∃ g,w'=grow w g) (fun a'=>∀ w',(∃ g,w'=grow w g)→Q .normal a' w') l a):(Code.region id l.toArray false).wp P Q a w:=
 wp_region_list (by simpa using wpList_of_quiet (C:=fun w'=>∃ g,w'=grow w g) l a w (grow_mk (up_refl w)) h)
@[irreducible] def gv (b:Bool) (v:Value):Value:=if b=true then v else undef
@[go_sem] theorem gv_true (v:Value):gv true v=v:=by unfold gv;rfl
@[go_sem] theorem gv_false (v:Value):gv false v=undef:=by unfold gv;rfl
@[go_sem] theorem gv_gv (p:Bool) (v:Value):gv p (gv p v)=gv p v:=by cases p<;>simp[gv_true,gv_false]
@[go_sem] theorem gv_gv_and (p q:Bool) (v:Value):gv (p&&q) (gv p v)=gv (p&&q) v:=by cases p<;>cases q<;>simp[gv_true,gv_false]
@[go_sem] theorem gv_gv_and' (p q:Bool) (v:Value):gv (p&&q) (gv q v)=gv (p&&q) v:=by cases p<;>cases q<;>simp[gv_true,gv_false]
theorem yielded_bool {ops:Array Oper}{tmps:Array Value}{j t:Nat}{b:Bool}(ht:(ops[j]?).bind (·.dst)=some t)(hs:tmps[t]? = some (.bool b)):yielded ops tmps j=some b:=by
 unfold yielded;rw[ht];show(match tmps[t]? with|some (.bool b)=>some b|_=>none)=_;rw[hs]
theorem yielded_gv {ops:Array Oper}{tmps:Array Value}{j t:Nat}{p c:Bool}(ht:(ops[j]?).bind (·.dst)=some t)(hs:tmps[t]? = some (gv p (.bool c))):yielded ops tmps j=if p=true then some c else none:=by
 unfold yielded;rw[ht];show(match tmps[t]? with|some (.bool b)=>some b|_=>none)=_;rw[hs]
 cases p
 . rw[gv_false];rfl
 . rw[gv_true];rfl
theorem quiet_guard {ops:Array Oper}{C:World→Prop}{Qa:Act→Prop}{o:Oper}{rest:List Oper}{d:Nat}{b:Bool}(v:Value)(hd:o.dst=some d)
  (hw:Region.wanted o (yielded ops a.tmps)=b) (h:b=true→∀ K:Act→Prop,K (a.put (some d) v)→o.quiet P a C K)
  (hk:wpQuiet P ops C Qa rest (a.put (some d) (gv b v))):wpQuiet P ops C Qa (o::rest) a:=by
 unfold wpQuiet
 rw[hw]
 cases b
 . rw[gv_false] at hk;rw[if_neg (by simp),hd];exact hk
 . rw[gv_true] at hk;rw[if_pos rfl];exact h rfl _ hk
theorem gsym_t {ops:Array Oper}{C:World→Prop}{Qa:Act→Prop}{op:Op}{ty:TypeId}{pos:String}{af:Array Edge}{rest:List Oper}{j d t:Nat}{b:Bool}(v:Value)
  (ht:(ops[j]?).bind (·.dst)=some t) (hs:a.tmps[t]? = some (.bool b))
  (h:∀ K:Act→Prop,b=true→K (a.put (some d) v)→Oper.quiet P ⟨some d,op,ty,pos,af,some (j,true)⟩ a C K)
  (hk:wpQuiet P ops C Qa rest (a.put (some d) (gv b v))):wpQuiet P ops C Qa (⟨some d,op,ty,pos,af,some (j,true)⟩::rest) a:=
 quiet_guard v rfl (b:=b) (by simp only[Region.wanted,yielded_bool ht hs];cases b<;>rfl) (fun hb K hK=>h K hb hK) hk
theorem gsym_f {ops:Array Oper}{C:World→Prop}{Qa:Act→Prop}{op:Op}{ty:TypeId}{pos:String}{af:Array Edge}{rest:List Oper}{j d t:Nat}{b:Bool}(v:Value)
  (ht:(ops[j]?).bind (·.dst)=some t) (hs:a.tmps[t]? = some (.bool b))
  (h:∀ K:Act→Prop,b=false→K (a.put (some d) v)→Oper.quiet P ⟨some d,op,ty,pos,af,some (j,false)⟩ a C K)
  (hk:wpQuiet P ops C Qa rest (a.put (some d) (gv (!b) v))):wpQuiet P ops C Qa (⟨some d,op,ty,pos,af,some (j,false)⟩::rest) a:=
 quiet_guard v rfl (b := !b) (by simp only[Region.wanted,yielded_bool ht hs];cases b<;>rfl) (fun hb K hK=>h K (by simpa using hb) hK) hk
theorem gsym2_t {ops:Array Oper}{C:World→Prop}{Qa:Act→Prop}{op:Op}{ty:TypeId}{pos:String}{af:Array Edge}{rest:List Oper}{j d t:Nat}{p c:Bool}(v:Value)
  (ht:(ops[j]?).bind (·.dst)=some t) (hs:a.tmps[t]? = some (gv p (.bool c)))
  (h:∀ K:Act→Prop,(p&&c)=true→K (a.put (some d) v)→Oper.quiet P ⟨some d,op,ty,pos,af,some (j,true)⟩ a C K)
  (hk:wpQuiet P ops C Qa rest (a.put (some d) (gv (p&&c) v))):wpQuiet P ops C Qa (⟨some d,op,ty,pos,af,some (j,true)⟩::rest) a:=
 quiet_guard v rfl (b:=p&&c) (by simp only[Region.wanted,yielded_gv ht hs];cases p<;>cases c<;>rfl) (fun hb K hK=>h K hb hK) hk
theorem gsym2_f {ops:Array Oper}{C:World→Prop}{Qa:Act→Prop}{op:Op}{ty:TypeId}{pos:String}{af:Array Edge}{rest:List Oper}{j d t:Nat}{p c:Bool}(v:Value)
  (ht:(ops[j]?).bind (·.dst)=some t) (hs:a.tmps[t]? = some (gv p (.bool c)))
  (h:∀ K:Act→Prop,(p && !c)=true→K (a.put (some d) v)→Oper.quiet P ⟨some d,op,ty,pos,af,some (j,false)⟩ a C K)
  (hk:wpQuiet P ops C Qa rest (a.put (some d) (gv (p && !c) v))):wpQuiet P ops C Qa (⟨some d,op,ty,pos,af,some (j,false)⟩::rest) a:=
 quiet_guard v rfl (b:=p && !c) (by simp only[Region.wanted,yielded_gv ht hs];cases p<;>cases c<;>rfl) (fun hb K hK=>h K hb hK) hk
end
theorem grow_of {P:Program}{f:FuncId}{args:Array Value}{w:World}{g:Ext w}{v:Value}
  (h:Calls P f args (grow w g) (Ret (grow w g) v)):Calls P f args (grow w g) fun e w''=>e = .returned v∧∃ g',w''=grow w g':=
 h.mono fun _ _ ⟨he,g',hg'⟩=>⟨he,grow_mk (by rw[hg'];exact up_grow (grow_below w g) g')⟩
@[go_sem] theorem pick_and (p:Prop) [Decidable p] (q:Bool) (h:q=true↔p) (c:Bool):(if p then gv q (Value.bool c) else Value.bool false)=Value.bool (q&&c):=by
  by_cases hp:p
  . have hq:=h.2 hp;simp[hp,hq,gv_true]
  . have hq:q=false:=by cases q<;>simp_all
    simp[hp,hq]
@[go_sem] theorem pick_or (p:Prop) [Decidable p] (q:Bool) (h:q=true ↔ ¬ p) (c:Bool):(if p then Value.bool true else gv q (Value.bool c))=Value.bool (!q||c):=by
  by_cases hp:p
  . have hq:q=false:=by cases q<;>simp_all
    simp[hp,hq]
  . have hq:=h.2 hp;simp[hp,hq,gv_true]
end Go.Proofs.YtfjemlegodhfnaaGreat
namespace Go.Sx
open Go.RowKit Go.Proofs.YtfjemlegodhfnaaGreat
def nth {α:Type}:List α→Nat→Option α
 |[],_=>none
 |x::_,0=>some x
 |_::l,n+1=>nth l n
theorem nth_eq {α:Type}:∀ (l:List α) (n:Nat),nth l n=l[n]?
 |[],_=>by simp[nth]
 |_::_,0=>by simp[nth]
 |_::l,n+1=>by simp[nth,nth_eq l n]
def isBar (o:Oper):Bool:=match o.op with
 | .store _ _ _=>true
 | .insert _ _ _ _=>true
 | .mapUpdate _ _ _ _=>true
 | .call c=>match c.callee with
   | .builtin .append=>true
   |_=>false
 |_=>false
def isIns (o:Oper):Bool:=match o.op with
 | .insert _ _ _ _=>true
 |_=>false
def isLate (o:Oper):Bool:=match o.op with
 | .extract _ _=>true
 | .move _=>true
 | .fieldAddr _ _ _=>true
 | .nilCheck _=>true
 | .call c=>match c.callee with
   | .builtin .min=>true
   | .builtin .max=>true
   | .builtin .len=>true
   |_=>false
 |_=>false
def isDef (o:Oper):Bool:=match o.op with
 | .defer _=>true
 |_=>false
def bitB (bs:List Nat)(i j:Nat):Bool:=match nth bs i with
 |some b=>Nat.testBit b j
 |none=>false
def closB (ops:List Oper)(bs:List Nat):Bool:=(List.range ops.length).all fun i=>match ops[i]? with
 |some o=>o.after.toList.all (fun e => !Region.binds .any e||decide (e.on<i))&&(List.range ops.length).all (fun j => !bitB bs i j||o.after.toList.any fun e=>Region.binds .any e&&(decide (e.on=j)||bitB bs e.on j))
 |none=>false
def dstN (ops:List Oper)(i:Nat):Option Nat:=(ops[i]?).bind (·.dst)
def listedH (n h:Nat):Array Bool:=((List.range n).map fun i=>decide (i<h)).toArray
def insT (o:Oper):Option TypeId:=match o.op with
 | .insert t _ _ _=>some t
 |_=>none
def lateN (ops:List Oper)(bs:List Nat)(h i:Nat):Bool:=match ops[i]? with
 |some o=>isLate o && !((List.range ops.length).all fun j=>decide (j<h)||bitB bs j i)
 |none=>false
def drawOk (ops:List Oper)(bs:List Nat)(h:Nat):Bool:=
 closB ops bs&&decide (h≤ops.length)&&Region.seqB .any ops.toArray (ops.length-h) h (listedH ops.length h)&&Region.noSelect ops.toArray &&
 ((List.range h).all fun i=>match ops[i]? with
   |some o=>(!isBar o||isIns o)&&(match o.guard with|some (g,_)=>bitB bs i g&&decide (g<i)|none=>true) &&
    ((List.range h).all fun j=>match dstN ops j with
      |some t=>decide (i=j)||(decide (o.dst≠some t)&&(!(o.looksAt ops.toArray).contains t||(if j<i then bitB bs i j else bitB bs j i)))
      |none=>true) &&
    (!lateN ops bs h i||((List.range ops.length).all fun j=>decide (i=j)||bitB bs i j||(match ops[j]? with
      |some oj=>(oj.after.toList.any fun e=>Region.binds .any e&&decide (e.on=i))||o.apart ops.toArray oj
      |none=>true)))
   |none=>false) &&
 ((List.range ops.length).all fun i=>decide (i<h)||(List.range i).all fun j=>bitB bs i j||(decide (j<h)&&lateN ops bs h j)) &&
 ((List.range h).all fun i=>(List.range h).all fun j=>match (ops[i]?).bind insT,(ops[j]?).bind insT with
   |some a,some b=>decide (a=b)
   |_,_=>true)
abbrev Tbl:=List (Nat×Nat×List Nat)
def findT:Tbl→Nat→Option (Nat×List Nat)
 |[],_=>none
 |(i,h,bs)::l,id=>match Nat.beq i id with
  |true=>some (h,bs)
  |false=>findT l id
def codeOk (T:Tbl):Code→Bool
 | .seq a b=>codeOk T a&&codeOk T b
 | .cond _ a b=>codeOk T a&&codeOk T b
 | .block _ c=>codeOk T c
 | .loop c=>codeOk T c
 | .rangeFunc _ _ a b=>codeOk T a&&codeOk T b
 | .region id ops draw=>ops.toList.all (fun o => !isDef o)&&match draw with
   |true=>match findT T id with
    |some (h,bs)=>match Nat.beq h 1000 with
     |true=>Region.noSelect ops.toList.toArray
     |false=>drawOk ops.toList bs h
    |none=>Region.noSelect ops.toList.toArray
   |false=>true
 |_=>true
end Go.Sx
