import Derived.Test.YtphppbonljdibaaGreatTB35
import Derived.Test.YtphppbonljdibaaGreatTB00
import Derived.Shelf.Bits.Mul64
import Derived.Lib.BitFns
import Derived.RegionTactic
set_option maxRecDepth 100000
set_option maxHeartbeats 4000000
set_option linter.unusedVariables false
set_option linter.unusedSimpArgs false
namespace Go.Proofs.YtphppbonljdibaaGreat
namespace Rv
open Sd (slot tmx)
def lkS (tags:List Int):Nat→Int
 | 0=>0
 | k+1=>if tmx tags k<tags.getD k 0 then k else lkS tags k
def lkV (tags:List Int):Nat→Int
 | 0=>-1
 | k+1=>if tags.getD k 0<0∧lkV tags k<0 then k else lkV tags k
def lkN (tags:List Int):Nat→Int
 | 0=>0
 | k+1=>lkN tags k+if tags.getD k 0<0 then 1 else 0
theorem lkN_b (tags:List Int)(k:Nat):0≤lkN tags k∧lkN tags k≤k:=by
 induction k with
 | zero=>exact⟨Int.le_refl _,Int.le_refl _⟩
 | succ k ih=>simp only[lkN];split<;>omega
theorem lkN_cons (x:Int)(l:List Int)(k:Nat):lkN (x::l) (k+1)=(if x<0 then 1 else 0)+lkN l k:=by
 induction k with
 | zero=>simp[lkN]
 | succ k ih=>rw[lkN,ih,lkN];simp only[List.getD_cons_succ];omega
theorem lkN_all (tags:List Int):lkN tags tags.length=vac tags:=by
 induction tags with
 | nil=>rfl
 | cons x l ih=>rw[List.length_cons,lkN_cons,ih,vac];split<;>omega
theorem lkV_is (tags:List Int)(k:Nat):(lkV tags k = -1∧∀ j,j<k→¬ tags.getD j 0<0)∨∃ i:Nat,i<k∧lkV tags k=i∧tags.getD i 0<0∧∀ j,j<i→¬ tags.getD j 0<0:=by
 induction k with
 | zero=>exact .inl ⟨rfl,fun j h=>absurd h (by omega)⟩
 | succ k ih=>
   simp only[lkV]
   rcases ih with⟨h1,h2⟩|⟨i,hi,h1,h2,h3⟩
   ·by_cases c:tags.getD k 0<0
    ·rw[if_pos ⟨c,by omega⟩]
     exact .inr ⟨k,by omega,rfl,c,h2⟩
    ·rw[if_neg fun h=>c h.1]
     refine .inl ⟨h1,fun j hj=>?_⟩
     rcases(show j<k∨j=k by omega) with h|rfl
     ·exact h2 j h
     ·exact c
   ·rw[if_neg fun h=>by omega]
    exact .inr ⟨i,by omega,h1,h2,h3⟩
theorem lkV_all {tags:List Int}(ht:∀ i,i<tags.length→-1≤tags.getD i 0):lkV tags tags.length=slot tags (-1):=by
 rcases lkV_is tags tags.length with⟨h1,h2⟩|⟨i,hi,h1,h2,h3⟩
 ·rw[h1,Sd.slot_none fun j hj e=>h2 j hj (by omega)]
 ·rw[h1,Sd.slot_is hi (by have:=ht i hi;omega) fun j hj e=>h3 j hj (by omega)]
theorem lkS_is (tags:List Int)(k:Nat):(tmx tags k = -1∧lkS tags k=0)∨∃ i:Nat,i<k∧lkS tags k=i∧tags.getD i 0=tmx tags k∧∀ j,j<i→tags.getD j 0≠tmx tags k:=by
 induction k with
 | zero=>exact .inl ⟨rfl,rfl⟩
 | succ k ih=>
   simp only[lkS,tmx]
   have hg:=(Sd.tmx_ge tags k).2
   have hg1:=(Sd.tmx_ge tags k).1
   by_cases c:tmx tags k<tags.getD k 0
   ·rw[if_pos c]
    refine .inr ⟨k,by omega,rfl,by omega,fun j hj e=>?_⟩
    have:=hg j hj
    omega
   ·rw[if_neg c]
    have e:max (tmx tags k) (tags.getD k 0)=tmx tags k:=by omega
    rw[e]
    rcases ih with⟨h1,h2⟩|⟨i,hi,h1,h2,h3⟩
    ·exact .inl ⟨h1,h2⟩
    ·exact .inr ⟨i,by omega,h1,h2,h3⟩
theorem lkS_all {tags:List Int}(h:0≤tmx tags tags.length):lkS tags tags.length=slot tags (tmx tags tags.length):=by
 rcases lkS_is tags tags.length with⟨h1,h2⟩|⟨i,hi,h1,h2,h3⟩
 ·omega
 ·rw[h1,Sd.slot_is hi h2 h3]
end Rv
end Go.Proofs.YtphppbonljdibaaGreat
namespace Go.Proofs.YtphppbonljdibaaGreat
open Go.ChangeShapes Go.WideShapes Go.ChangeAt Go.RowKit
theorem mul64_any (x y:Nat)(hx:x<18446744073709551616)(hy:y<18446744073709551616)(w:World):
 Calls Tryz.prog 125 #[.int .u64 x,.int .u64 y] w fun e w'=>e=.returned (.tuple #[.int .u64 ((x * y / 18446744073709551616:Nat):Int),.int .u64 ((x * y % 18446744073709551616:Nat):Int)])∧w=w':=by
 obtain⟨bd,bt,bw,hhi⟩:=Lib.mul64_hi x y hx hy
 have ba:=Lib.half_mul_le (a:=x / 4294967296) (b:=y / 4294967296) (by omega) (by omega)
 have bb:=Lib.half_mul_le (a:=x / 4294967296) (b:=y % 4294967296) (by omega) (by omega)
 have bc:=Lib.half_mul_le (a:=x % 4294967296) (b:=y / 4294967296) (by omega) (by omega)
 have ba':x / 4294967296 * (y / 4294967296)<18446744073709551616:=by omega
 have bb':x / 4294967296 * (y % 4294967296)<18446744073709551616:=by omega
 have bc':x % 4294967296 * (y / 4294967296)<18446744073709551616:=by omega
 have bh1:x / 4294967296 * (y / 4294967296)+(x / 4294967296 * (y % 4294967296)+x % 4294967296 * (y % 4294967296) / 4294967296) / 4294967296<18446744073709551616:=by omega
 have bh:x / 4294967296 * (y / 4294967296)+(x / 4294967296 * (y % 4294967296)+x % 4294967296 * (y % 4294967296) / 4294967296) / 4294967296+((x / 4294967296 * (y % 4294967296)+x % 4294967296 * (y % 4294967296) / 4294967296) % 4294967296+x % 4294967296 * (y / 4294967296)) / 4294967296<18446744073709551616:=by omega
 go_enter Tryz.func125,Tryz.ntmps125
 go_wp2
 simp only[Mul64.maskN x hx,Mul64.maskN y hy,Mul64.divN,Mul64.mulN,Mul64.addN,Mul64.wrapN _ bd,Mul64.wrapN _ bb',Mul64.wrapN _ bt,Mul64.maskN _ bt,Mul64.wrapN _ bc',Mul64.wrapN _ bw,Mul64.wrapN _ ba',Mul64.wrapN _ bh1,Mul64.wrapN _ bh,Mul64.wrapM (x * y)]
 rw[hhi]
 go_ret2
 exact⟨rfl,rfl⟩
theorem len64_any (x:Int)(w:World)(h0:0≤x)(h1:x≤255):
 Calls Tryz.prog 234 #[.int .u64 x] w fun e w'=>e=.returned (.int .i64 (Lib.bitLen x.toNat))∧w=w':=by
 go_enter Tryz.func234,Tryz.ntmps234
 go_wp2
 go_ret
 refine⟨ret_int ?_,rfl⟩
 have hl:=Lib.bitLen_le8' x h0 (by omega)
 rw[Lib.len8_of x (by omega) (by omega),IntWalk.wrap64_in (Lib.bitLen x.toNat:Int) ⟨by omega,by omega⟩,IntWalk.wrap64_in (Lib.bitLen x.toNat:Int) ⟨by omega,by omega⟩]
theorem lead64_any (x:Int)(w:World)(h0:0≤x)(h1:x≤255):
 Calls Tryz.prog 196 #[.int .u64 x] w fun e w'=>e=.returned (.int .i64 (64 - (Lib.bitLen x.toNat:Int)))∧w=w':=by
 have hl:=Lib.bitLen_le8' x h0 (by omega)
 go_enter Tryz.func196,Tryz.ntmps196
 go_wp2_with (go_at_call 234;refine(len64_any x _ h0 h1).mono ?_;rintro e w1 ⟨rfl,rfl⟩)
 go_ret
 exact⟨rfl,rfl⟩
theorem div64_zero (lo y:Int)(w:World)(h0:0≤lo)(h1:lo≤18446744073709551615)(g0:1≤y)(g1:y≤18446744073709551615):
 Calls Tryz.prog 159 #[.int .u64 0,.int .u64 lo,.int .u64 y] w fun e w'=>(∃ r,e=.returned (.tuple #[.int .u64 (lo / y),.int .u64 r]))∧KW w w':=by
 have hy:(y==0)=false:=by simp;omega
 have hq0:0≤lo / y:=Int.ediv_nonneg h0 (by omega)
 have hq1:lo / y≤lo:=Int.ediv_le_self _ h0
 have hr0:0≤lo % y:=Int.emod_nonneg _ (by omega)
 have hr1:lo % y<y:=Int.emod_lt_of_pos _ (by omega)
 have hw:IntKind.u64.wrap (lo / y)=lo / y:=IntWalk.u64_in _ ⟨hq0,by omega⟩
 have hw2:IntKind.u64.wrap (lo % y)=lo % y:=IntWalk.u64_in _ ⟨hr0,by omega⟩
 go_enter Tryz.func159,Tryz.ntmps159
 go_wp2
 go_region
 all_goals
  go_wp2
  go_ret2
  exact⟨⟨_,rfl⟩,(KW.refl w).drew⟩
theorem or_add (a b:Int)(k:Nat)(a0:0≤a)(b0:0≤b)(h:b<2 ^ k)(ha:a * 2 ^ k+b<18446744073709551616):bits BinOp.or IntKind.u64 (a * 2 ^ k) b=a * 2 ^ k+b:=by
 obtain⟨x,rfl⟩:∃ x:Nat,a=x:=⟨a.toNat,by omega⟩
 obtain⟨y,rfl⟩:∃ y:Nat,b=y:=⟨b.toNat,by omega⟩
 have e:((x:Int) * 2 ^ k)=((2 ^ k * x:Nat):Int):=by push_cast;rw[Int.mul_comm]
 have h2:y<2 ^ k:=by exact_mod_cast h
 rw[e] at ha ⊢
 have:=bits_or_u64_nat (2 ^ k * x) y (by omega) (by omega)
 rw[this,← Nat.two_pow_add_eq_or_of_lt h2];push_cast;rfl
theorem and_low (a:Int)(k:Nat)(hk:32≤k)(a0:0≤a)(ha:a * 2 ^ k<18446744073709551616):bits BinOp.and IntKind.u64 (a * 2 ^ k) 4294967295=0:=by
 obtain⟨x,rfl⟩:∃ x:Nat,a=x:=⟨a.toNat,by omega⟩
 have e:((x:Int) * 2 ^ k)=((x * 2 ^ k:Nat):Int):=by push_cast;rfl
 rw[e] at ha ⊢
 rw[Mul64.maskN _ (by omega)]
 obtain⟨j,rfl⟩:∃ j,k=j+32:=⟨k - 32,by omega⟩
 have:x * 2 ^ (j+32)=4294967296 * (x * 2 ^ j):=by rw[Nat.pow_add];grind
 rw[this,Nat.mul_mod_right];rfl
theorem div_eq_2 (hi lo y U V v1 d:Int)(hd:d=y * 1073741824)(y0:1≤y)(hU:U=hi * 4611686018427387904+lo / 4)(hV:V=lo * 4611686018427387904 % 18446744073709551616)(hv:v1=V / 4294967296)(l0:0≤lo)(l1:lo≤18446744073709551615):
 U / d * 4294967296+((U - U / d * d) * 4294967296+v1) / d=(hi * 18446744073709551616+lo) / y:=by
 have e:U * 4294967296+v1=1073741824 * (hi * 18446744073709551616+lo):=by subst hU hv hV;omega
 have hdp:0<d:=by omega
 have e2:(U * 4294967296+v1) / d=(hi * 18446744073709551616+lo) / y:=by
  rw[e,hd,Int.mul_comm y,Int.mul_ediv_mul_of_pos _ _ (by omega)]
 rw[← e2]
 have e3:U * 4294967296+v1=((U - U / d * d) * 4294967296+v1)+d * (U / d * 4294967296):=by grind
 rw[e3,Int.add_mul_ediv_left _ _ (by omega)]
 omega
theorem div64_2 (hi lo y:Int)(w:World)(h0:0≤lo)(h1:lo≤18446744073709551615)(i0:1≤hi)(i1:hi<y)(g0:2≤y)(g1:y≤3):
 Calls Tryz.prog 159 #[.int .u64 hi,.int .u64 lo,.int .u64 y] w fun e w'=>(∃ r,e=.returned (.tuple #[.int .u64 ((hi * 18446744073709551616+lo) / y),.int .u64 r]))∧KW w w':=by
 have hy:(y==0)=false:=by simp;omega
 have hh:(hi==0)=false:=by simp;omega
 have hl:Lib.bitLen y.toNat=2:=by
  obtain⟨n,rfl⟩:∃ n:Nat,y=n:=⟨y.toNat,by omega⟩
  have:∀ n:Fin 64,2≤n.val→n.val≤3→Lib.bitLen n.val=2:=by decide +kernel
  exact this ⟨n,by omega⟩ (by simp;omega) (by simp;omega)
 have HL:=hid hl
 clear hl
 have E2:bits BinOp.and IntKind.u64 (y * 4611686018427387904) 4294967295=0:=and_low y 62 (by omega) (by omega) (by omega)
 have E3:bits BinOp.or IntKind.u64 (hi * 4611686018427387904) (lo / 4)=hi * 4611686018427387904+lo / 4:=or_add hi (lo / 4) 62 (by omega) (by omega) (by omega) (by omega)
 have E1:y * 4611686018427387904 / 4294967296=y * 1073741824:=by omega
 have V0:=Pl.uw_nn (lo * 4611686018427387904)
 have V1:=Pl.uw_le (lo * 4611686018427387904)
 have HV:=hid (Pl.uw (lo * 4611686018427387904))
 have E5:bits BinOp.and IntKind.u64 (IntKind.u64.wrap (lo * 4611686018427387904)) 4294967295=0:=by
  rw[show IntKind.u64.wrap (lo * 4611686018427387904)=lo % 4 * 4611686018427387904 from by rw[Pl.uw];omega]
  exact and_low (lo % 4) 62 (by omega) (by omega) (by omega)
 generalize hU:hi * 4611686018427387904+lo / 4=U at *
 generalize hd:y * 1073741824=d at *
 generalize hV:IntKind.u64.wrap (lo * 4611686018427387904)=V at *
 generalize hv:V / 4294967296=v1 at *
 have HU:=hid hU
 have Hd:=hid hd
 have Hv:=hid hv
 have U0:0≤U:=by omega
 have d0:2147483648≤d:=by omega
 have d1:d<4294967296:=by omega
 have Ud:U<4294967296 * d:=by omega
 have v0:0≤v1:=by omega
 have v1b:v1<4294967296:=by omega
 have HE:=hid (div_eq_2 hi lo y U V v1 d Hd.out.symm (by omega) HU.out.symm HV.out Hv.out.symm h0 h1)
 have HX:Hid (∀ x:Int,x=U / d→IntKind.u64.wrap (IntKind.u64.wrap (IntKind.u64.wrap (U * 4294967296)+v1) - IntKind.u64.wrap (x * (y * 4611686018427387904)))=IntKind.u64.wrap ((U - x * d) * 4294967296+v1)):=by
  intro x _
  rw[Pl.uw_addl,Pl.uw_subl,Pl.uw_subr]
  congr 1
  have:x * (y * 4611686018427387904)=x * d * 4294967296:=by rw[← Hd.out];grind
  rw[this];omega
 clear hU hd HV
 have q0:0≤U / d:=Int.ediv_nonneg U0 (by omega)
 have q1:U / d<4294967296:=Int.ediv_lt_of_lt_mul (by omega) Ud
 have p1:U / d * d≤U:=Int.ediv_mul_le _ (by omega)
 have p0:0≤U / d * d:=Int.mul_nonneg q0 (by omega)
 have r1:U - U / d * d<d:=by have:=Int.emod_lt_of_pos U (show 0<d by omega);have e:=Int.emod_def U d;rw[Int.mul_comm] at e;omega
 generalize hq:U / d=q at *
 have HX2:=HX.out q rfl
 clear HX
 generalize hp:q * d=p at *
 rw[Pl.uw_id (n:=(U - p) * 4294967296+v1) (by omega) (by omega)] at HX2
 generalize hT:(U - p) * 4294967296+v1=T at *
 have T0:0≤T:=by omega
 have T1:T<4294967296 * d:=by omega
 have s0:0≤T / d:=Int.ediv_nonneg T0 (by omega)
 have s1:T / d<4294967296:=Int.ediv_lt_of_lt_mul (by omega) T1
 have t1:T / d * d≤T:=Int.ediv_mul_le _ (by omega)
 have t0:0≤T / d * d:=Int.mul_nonneg s0 (by omega)
 have t2:T - T / d * d<d:=by have:=Int.emod_lt_of_pos T (show 0<d by omega);have e:=Int.emod_def T d;rw[Int.mul_comm] at e;omega
 generalize hx:T / d=x at *
 generalize hz:x * d=z at *
 clear hT
 go_enter Tryz.func159,Tryz.ntmps159
 go_wp2_with (go_at_call 196;refine(lead64_any y _ (by omega) (by omega)).mono ?_;rw[HL.out];rintro e w1 ⟨rfl,rfl⟩)
 refine wp_loop_once ?_
 go_wp2
 refine wp_loop_once ?_
 go_wp2
 go_ret2
 exact⟨⟨_,by rw[← HE.out];rfl⟩,KW.refl w⟩
theorem div_eq_3 (hi lo y U V v1 d:Int)(hd:d=y * 536870912)(y0:1≤y)(hU:U=hi * 2305843009213693952+lo / 8)(hV:V=lo * 2305843009213693952 % 18446744073709551616)(hv:v1=V / 4294967296)(l0:0≤lo)(l1:lo≤18446744073709551615):
 U / d * 4294967296+((U - U / d * d) * 4294967296+v1) / d=(hi * 18446744073709551616+lo) / y:=by
 have e:U * 4294967296+v1=536870912 * (hi * 18446744073709551616+lo):=by subst hU hv hV;omega
 have hdp:0<d:=by omega
 have e2:(U * 4294967296+v1) / d=(hi * 18446744073709551616+lo) / y:=by
  rw[e,hd,Int.mul_comm y,Int.mul_ediv_mul_of_pos _ _ (by omega)]
 rw[← e2]
 have e3:U * 4294967296+v1=((U - U / d * d) * 4294967296+v1)+d * (U / d * 4294967296):=by grind
 rw[e3,Int.add_mul_ediv_left _ _ (by omega)]
 omega
theorem div64_3 (hi lo y:Int)(w:World)(h0:0≤lo)(h1:lo≤18446744073709551615)(i0:1≤hi)(i1:hi<y)(g0:4≤y)(g1:y≤7):
 Calls Tryz.prog 159 #[.int .u64 hi,.int .u64 lo,.int .u64 y] w fun e w'=>(∃ r,e=.returned (.tuple #[.int .u64 ((hi * 18446744073709551616+lo) / y),.int .u64 r]))∧KW w w':=by
 have hy:(y==0)=false:=by simp;omega
 have hh:(hi==0)=false:=by simp;omega
 have hl:Lib.bitLen y.toNat=3:=by
  obtain⟨n,rfl⟩:∃ n:Nat,y=n:=⟨y.toNat,by omega⟩
  have:∀ n:Fin 64,4≤n.val→n.val≤7→Lib.bitLen n.val=3:=by decide +kernel
  exact this ⟨n,by omega⟩ (by simp;omega) (by simp;omega)
 have HL:=hid hl
 clear hl
 have E2:bits BinOp.and IntKind.u64 (y * 2305843009213693952) 4294967295=0:=and_low y 61 (by omega) (by omega) (by omega)
 have E3:bits BinOp.or IntKind.u64 (hi * 2305843009213693952) (lo / 8)=hi * 2305843009213693952+lo / 8:=or_add hi (lo / 8) 61 (by omega) (by omega) (by omega) (by omega)
 have E1:y * 2305843009213693952 / 4294967296=y * 536870912:=by omega
 have V0:=Pl.uw_nn (lo * 2305843009213693952)
 have V1:=Pl.uw_le (lo * 2305843009213693952)
 have HV:=hid (Pl.uw (lo * 2305843009213693952))
 have E5:bits BinOp.and IntKind.u64 (IntKind.u64.wrap (lo * 2305843009213693952)) 4294967295=0:=by
  rw[show IntKind.u64.wrap (lo * 2305843009213693952)=lo % 8 * 2305843009213693952 from by rw[Pl.uw];omega]
  exact and_low (lo % 8) 61 (by omega) (by omega) (by omega)
 generalize hU:hi * 2305843009213693952+lo / 8=U at *
 generalize hd:y * 536870912=d at *
 generalize hV:IntKind.u64.wrap (lo * 2305843009213693952)=V at *
 generalize hv:V / 4294967296=v1 at *
 have HU:=hid hU
 have Hd:=hid hd
 have Hv:=hid hv
 have U0:0≤U:=by omega
 have d0:2147483648≤d:=by omega
 have d1:d<4294967296:=by omega
 have Ud:U<4294967296 * d:=by omega
 have v0:0≤v1:=by omega
 have v1b:v1<4294967296:=by omega
 have HE:=hid (div_eq_3 hi lo y U V v1 d Hd.out.symm (by omega) HU.out.symm HV.out Hv.out.symm h0 h1)
 have HX:Hid (∀ x:Int,x=U / d→IntKind.u64.wrap (IntKind.u64.wrap (IntKind.u64.wrap (U * 4294967296)+v1) - IntKind.u64.wrap (x * (y * 2305843009213693952)))=IntKind.u64.wrap ((U - x * d) * 4294967296+v1)):=by
  intro x _
  rw[Pl.uw_addl,Pl.uw_subl,Pl.uw_subr]
  congr 1
  have:x * (y * 2305843009213693952)=x * d * 4294967296:=by rw[← Hd.out];grind
  rw[this];omega
 clear hU hd HV
 have q0:0≤U / d:=Int.ediv_nonneg U0 (by omega)
 have q1:U / d<4294967296:=Int.ediv_lt_of_lt_mul (by omega) Ud
 have p1:U / d * d≤U:=Int.ediv_mul_le _ (by omega)
 have p0:0≤U / d * d:=Int.mul_nonneg q0 (by omega)
 have r1:U - U / d * d<d:=by have:=Int.emod_lt_of_pos U (show 0<d by omega);have e:=Int.emod_def U d;rw[Int.mul_comm] at e;omega
 generalize hq:U / d=q at *
 have HX2:=HX.out q rfl
 clear HX
 generalize hp:q * d=p at *
 rw[Pl.uw_id (n:=(U - p) * 4294967296+v1) (by omega) (by omega)] at HX2
 generalize hT:(U - p) * 4294967296+v1=T at *
 have T0:0≤T:=by omega
 have T1:T<4294967296 * d:=by omega
 have s0:0≤T / d:=Int.ediv_nonneg T0 (by omega)
 have s1:T / d<4294967296:=Int.ediv_lt_of_lt_mul (by omega) T1
 have t1:T / d * d≤T:=Int.ediv_mul_le _ (by omega)
 have t0:0≤T / d * d:=Int.mul_nonneg s0 (by omega)
 have t2:T - T / d * d<d:=by have:=Int.emod_lt_of_pos T (show 0<d by omega);have e:=Int.emod_def T d;rw[Int.mul_comm] at e;omega
 generalize hx:T / d=x at *
 generalize hz:x * d=z at *
 clear hT
 go_enter Tryz.func159,Tryz.ntmps159
 go_wp2_with (go_at_call 196;refine(lead64_any y _ (by omega) (by omega)).mono ?_;rw[HL.out];rintro e w1 ⟨rfl,rfl⟩)
 refine wp_loop_once ?_
 go_wp2
 refine wp_loop_once ?_
 go_wp2
 go_ret2
 exact⟨⟨_,by rw[← HE.out];rfl⟩,KW.refl w⟩
theorem div_eq_4 (hi lo y U V v1 d:Int)(hd:d=y * 268435456)(y0:1≤y)(hU:U=hi * 1152921504606846976+lo / 16)(hV:V=lo * 1152921504606846976 % 18446744073709551616)(hv:v1=V / 4294967296)(l0:0≤lo)(l1:lo≤18446744073709551615):
 U / d * 4294967296+((U - U / d * d) * 4294967296+v1) / d=(hi * 18446744073709551616+lo) / y:=by
 have e:U * 4294967296+v1=268435456 * (hi * 18446744073709551616+lo):=by subst hU hv hV;omega
 have hdp:0<d:=by omega
 have e2:(U * 4294967296+v1) / d=(hi * 18446744073709551616+lo) / y:=by
  rw[e,hd,Int.mul_comm y,Int.mul_ediv_mul_of_pos _ _ (by omega)]
 rw[← e2]
 have e3:U * 4294967296+v1=((U - U / d * d) * 4294967296+v1)+d * (U / d * 4294967296):=by grind
 rw[e3,Int.add_mul_ediv_left _ _ (by omega)]
 omega
theorem div64_4 (hi lo y:Int)(w:World)(h0:0≤lo)(h1:lo≤18446744073709551615)(i0:1≤hi)(i1:hi<y)(g0:8≤y)(g1:y≤15):
 Calls Tryz.prog 159 #[.int .u64 hi,.int .u64 lo,.int .u64 y] w fun e w'=>(∃ r,e=.returned (.tuple #[.int .u64 ((hi * 18446744073709551616+lo) / y),.int .u64 r]))∧KW w w':=by
 have hy:(y==0)=false:=by simp;omega
 have hh:(hi==0)=false:=by simp;omega
 have hl:Lib.bitLen y.toNat=4:=by
  obtain⟨n,rfl⟩:∃ n:Nat,y=n:=⟨y.toNat,by omega⟩
  have:∀ n:Fin 64,8≤n.val→n.val≤15→Lib.bitLen n.val=4:=by decide +kernel
  exact this ⟨n,by omega⟩ (by simp;omega) (by simp;omega)
 have HL:=hid hl
 clear hl
 have E2:bits BinOp.and IntKind.u64 (y * 1152921504606846976) 4294967295=0:=and_low y 60 (by omega) (by omega) (by omega)
 have E3:bits BinOp.or IntKind.u64 (hi * 1152921504606846976) (lo / 16)=hi * 1152921504606846976+lo / 16:=or_add hi (lo / 16) 60 (by omega) (by omega) (by omega) (by omega)
 have E1:y * 1152921504606846976 / 4294967296=y * 268435456:=by omega
 have V0:=Pl.uw_nn (lo * 1152921504606846976)
 have V1:=Pl.uw_le (lo * 1152921504606846976)
 have HV:=hid (Pl.uw (lo * 1152921504606846976))
 have E5:bits BinOp.and IntKind.u64 (IntKind.u64.wrap (lo * 1152921504606846976)) 4294967295=0:=by
  rw[show IntKind.u64.wrap (lo * 1152921504606846976)=lo % 16 * 1152921504606846976 from by rw[Pl.uw];omega]
  exact and_low (lo % 16) 60 (by omega) (by omega) (by omega)
 generalize hU:hi * 1152921504606846976+lo / 16=U at *
 generalize hd:y * 268435456=d at *
 generalize hV:IntKind.u64.wrap (lo * 1152921504606846976)=V at *
 generalize hv:V / 4294967296=v1 at *
 have HU:=hid hU
 have Hd:=hid hd
 have Hv:=hid hv
 have U0:0≤U:=by omega
 have d0:2147483648≤d:=by omega
 have d1:d<4294967296:=by omega
 have Ud:U<4294967296 * d:=by omega
 have v0:0≤v1:=by omega
 have v1b:v1<4294967296:=by omega
 have HE:=hid (div_eq_4 hi lo y U V v1 d Hd.out.symm (by omega) HU.out.symm HV.out Hv.out.symm h0 h1)
 have HX:Hid (∀ x:Int,x=U / d→IntKind.u64.wrap (IntKind.u64.wrap (IntKind.u64.wrap (U * 4294967296)+v1) - IntKind.u64.wrap (x * (y * 1152921504606846976)))=IntKind.u64.wrap ((U - x * d) * 4294967296+v1)):=by
  intro x _
  rw[Pl.uw_addl,Pl.uw_subl,Pl.uw_subr]
  congr 1
  have:x * (y * 1152921504606846976)=x * d * 4294967296:=by rw[← Hd.out];grind
  rw[this];omega
 clear hU hd HV
 have q0:0≤U / d:=Int.ediv_nonneg U0 (by omega)
 have q1:U / d<4294967296:=Int.ediv_lt_of_lt_mul (by omega) Ud
 have p1:U / d * d≤U:=Int.ediv_mul_le _ (by omega)
 have p0:0≤U / d * d:=Int.mul_nonneg q0 (by omega)
 have r1:U - U / d * d<d:=by have:=Int.emod_lt_of_pos U (show 0<d by omega);have e:=Int.emod_def U d;rw[Int.mul_comm] at e;omega
 generalize hq:U / d=q at *
 have HX2:=HX.out q rfl
 clear HX
 generalize hp:q * d=p at *
 rw[Pl.uw_id (n:=(U - p) * 4294967296+v1) (by omega) (by omega)] at HX2
 generalize hT:(U - p) * 4294967296+v1=T at *
 have T0:0≤T:=by omega
 have T1:T<4294967296 * d:=by omega
 have s0:0≤T / d:=Int.ediv_nonneg T0 (by omega)
 have s1:T / d<4294967296:=Int.ediv_lt_of_lt_mul (by omega) T1
 have t1:T / d * d≤T:=Int.ediv_mul_le _ (by omega)
 have t0:0≤T / d * d:=Int.mul_nonneg s0 (by omega)
 have t2:T - T / d * d<d:=by have:=Int.emod_lt_of_pos T (show 0<d by omega);have e:=Int.emod_def T d;rw[Int.mul_comm] at e;omega
 generalize hx:T / d=x at *
 generalize hz:x * d=z at *
 clear hT
 go_enter Tryz.func159,Tryz.ntmps159
 go_wp2_with (go_at_call 196;refine(lead64_any y _ (by omega) (by omega)).mono ?_;rw[HL.out];rintro e w1 ⟨rfl,rfl⟩)
 refine wp_loop_once ?_
 go_wp2
 refine wp_loop_once ?_
 go_wp2
 go_ret2
 exact⟨⟨_,by rw[← HE.out];rfl⟩,KW.refl w⟩
theorem div_eq_5 (hi lo y U V v1 d:Int)(hd:d=y * 134217728)(y0:1≤y)(hU:U=hi * 576460752303423488+lo / 32)(hV:V=lo * 576460752303423488 % 18446744073709551616)(hv:v1=V / 4294967296)(l0:0≤lo)(l1:lo≤18446744073709551615):
 U / d * 4294967296+((U - U / d * d) * 4294967296+v1) / d=(hi * 18446744073709551616+lo) / y:=by
 have e:U * 4294967296+v1=134217728 * (hi * 18446744073709551616+lo):=by subst hU hv hV;omega
 have hdp:0<d:=by omega
 have e2:(U * 4294967296+v1) / d=(hi * 18446744073709551616+lo) / y:=by
  rw[e,hd,Int.mul_comm y,Int.mul_ediv_mul_of_pos _ _ (by omega)]
 rw[← e2]
 have e3:U * 4294967296+v1=((U - U / d * d) * 4294967296+v1)+d * (U / d * 4294967296):=by grind
 rw[e3,Int.add_mul_ediv_left _ _ (by omega)]
 omega
theorem div64_5 (hi lo y:Int)(w:World)(h0:0≤lo)(h1:lo≤18446744073709551615)(i0:1≤hi)(i1:hi<y)(g0:16≤y)(g1:y≤31):
 Calls Tryz.prog 159 #[.int .u64 hi,.int .u64 lo,.int .u64 y] w fun e w'=>(∃ r,e=.returned (.tuple #[.int .u64 ((hi * 18446744073709551616+lo) / y),.int .u64 r]))∧KW w w':=by
 have hy:(y==0)=false:=by simp;omega
 have hh:(hi==0)=false:=by simp;omega
 have hl:Lib.bitLen y.toNat=5:=by
  obtain⟨n,rfl⟩:∃ n:Nat,y=n:=⟨y.toNat,by omega⟩
  have:∀ n:Fin 64,16≤n.val→n.val≤31→Lib.bitLen n.val=5:=by decide +kernel
  exact this ⟨n,by omega⟩ (by simp;omega) (by simp;omega)
 have HL:=hid hl
 clear hl
 have E2:bits BinOp.and IntKind.u64 (y * 576460752303423488) 4294967295=0:=and_low y 59 (by omega) (by omega) (by omega)
 have E3:bits BinOp.or IntKind.u64 (hi * 576460752303423488) (lo / 32)=hi * 576460752303423488+lo / 32:=or_add hi (lo / 32) 59 (by omega) (by omega) (by omega) (by omega)
 have E1:y * 576460752303423488 / 4294967296=y * 134217728:=by omega
 have V0:=Pl.uw_nn (lo * 576460752303423488)
 have V1:=Pl.uw_le (lo * 576460752303423488)
 have HV:=hid (Pl.uw (lo * 576460752303423488))
 have E5:bits BinOp.and IntKind.u64 (IntKind.u64.wrap (lo * 576460752303423488)) 4294967295=0:=by
  rw[show IntKind.u64.wrap (lo * 576460752303423488)=lo % 32 * 576460752303423488 from by rw[Pl.uw];omega]
  exact and_low (lo % 32) 59 (by omega) (by omega) (by omega)
 generalize hU:hi * 576460752303423488+lo / 32=U at *
 generalize hd:y * 134217728=d at *
 generalize hV:IntKind.u64.wrap (lo * 576460752303423488)=V at *
 generalize hv:V / 4294967296=v1 at *
 have HU:=hid hU
 have Hd:=hid hd
 have Hv:=hid hv
 have U0:0≤U:=by omega
 have d0:2147483648≤d:=by omega
 have d1:d<4294967296:=by omega
 have Ud:U<4294967296 * d:=by omega
 have v0:0≤v1:=by omega
 have v1b:v1<4294967296:=by omega
 have HE:=hid (div_eq_5 hi lo y U V v1 d Hd.out.symm (by omega) HU.out.symm HV.out Hv.out.symm h0 h1)
 have HX:Hid (∀ x:Int,x=U / d→IntKind.u64.wrap (IntKind.u64.wrap (IntKind.u64.wrap (U * 4294967296)+v1) - IntKind.u64.wrap (x * (y * 576460752303423488)))=IntKind.u64.wrap ((U - x * d) * 4294967296+v1)):=by
  intro x _
  rw[Pl.uw_addl,Pl.uw_subl,Pl.uw_subr]
  congr 1
  have:x * (y * 576460752303423488)=x * d * 4294967296:=by rw[← Hd.out];grind
  rw[this];omega
 clear hU hd HV
 have q0:0≤U / d:=Int.ediv_nonneg U0 (by omega)
 have q1:U / d<4294967296:=Int.ediv_lt_of_lt_mul (by omega) Ud
 have p1:U / d * d≤U:=Int.ediv_mul_le _ (by omega)
 have p0:0≤U / d * d:=Int.mul_nonneg q0 (by omega)
 have r1:U - U / d * d<d:=by have:=Int.emod_lt_of_pos U (show 0<d by omega);have e:=Int.emod_def U d;rw[Int.mul_comm] at e;omega
 generalize hq:U / d=q at *
 have HX2:=HX.out q rfl
 clear HX
 generalize hp:q * d=p at *
 rw[Pl.uw_id (n:=(U - p) * 4294967296+v1) (by omega) (by omega)] at HX2
 generalize hT:(U - p) * 4294967296+v1=T at *
 have T0:0≤T:=by omega
 have T1:T<4294967296 * d:=by omega
 have s0:0≤T / d:=Int.ediv_nonneg T0 (by omega)
 have s1:T / d<4294967296:=Int.ediv_lt_of_lt_mul (by omega) T1
 have t1:T / d * d≤T:=Int.ediv_mul_le _ (by omega)
 have t0:0≤T / d * d:=Int.mul_nonneg s0 (by omega)
 have t2:T - T / d * d<d:=by have:=Int.emod_lt_of_pos T (show 0<d by omega);have e:=Int.emod_def T d;rw[Int.mul_comm] at e;omega
 generalize hx:T / d=x at *
 generalize hz:x * d=z at *
 clear hT
 go_enter Tryz.func159,Tryz.ntmps159
 go_wp2_with (go_at_call 196;refine(lead64_any y _ (by omega) (by omega)).mono ?_;rw[HL.out];rintro e w1 ⟨rfl,rfl⟩)
 refine wp_loop_once ?_
 go_wp2
 refine wp_loop_once ?_
 go_wp2
 go_ret2
 exact⟨⟨_,by rw[← HE.out];rfl⟩,KW.refl w⟩
theorem div_eq_6 (hi lo y U V v1 d:Int)(hd:d=y * 67108864)(y0:1≤y)(hU:U=hi * 288230376151711744+lo / 64)(hV:V=lo * 288230376151711744 % 18446744073709551616)(hv:v1=V / 4294967296)(l0:0≤lo)(l1:lo≤18446744073709551615):
 U / d * 4294967296+((U - U / d * d) * 4294967296+v1) / d=(hi * 18446744073709551616+lo) / y:=by
 have e:U * 4294967296+v1=67108864 * (hi * 18446744073709551616+lo):=by subst hU hv hV;omega
 have hdp:0<d:=by omega
 have e2:(U * 4294967296+v1) / d=(hi * 18446744073709551616+lo) / y:=by
  rw[e,hd,Int.mul_comm y,Int.mul_ediv_mul_of_pos _ _ (by omega)]
 rw[← e2]
 have e3:U * 4294967296+v1=((U - U / d * d) * 4294967296+v1)+d * (U / d * 4294967296):=by grind
 rw[e3,Int.add_mul_ediv_left _ _ (by omega)]
 omega
theorem div64_6 (hi lo y:Int)(w:World)(h0:0≤lo)(h1:lo≤18446744073709551615)(i0:1≤hi)(i1:hi<y)(g0:32≤y)(g1:y≤63):
 Calls Tryz.prog 159 #[.int .u64 hi,.int .u64 lo,.int .u64 y] w fun e w'=>(∃ r,e=.returned (.tuple #[.int .u64 ((hi * 18446744073709551616+lo) / y),.int .u64 r]))∧KW w w':=by
 have hy:(y==0)=false:=by simp;omega
 have hh:(hi==0)=false:=by simp;omega
 have hl:Lib.bitLen y.toNat=6:=by
  obtain⟨n,rfl⟩:∃ n:Nat,y=n:=⟨y.toNat,by omega⟩
  have:∀ n:Fin 64,32≤n.val→n.val≤63→Lib.bitLen n.val=6:=by decide +kernel
  exact this ⟨n,by omega⟩ (by simp;omega) (by simp;omega)
 have HL:=hid hl
 clear hl
 have E2:bits BinOp.and IntKind.u64 (y * 288230376151711744) 4294967295=0:=and_low y 58 (by omega) (by omega) (by omega)
 have E3:bits BinOp.or IntKind.u64 (hi * 288230376151711744) (lo / 64)=hi * 288230376151711744+lo / 64:=or_add hi (lo / 64) 58 (by omega) (by omega) (by omega) (by omega)
 have E1:y * 288230376151711744 / 4294967296=y * 67108864:=by omega
 have V0:=Pl.uw_nn (lo * 288230376151711744)
 have V1:=Pl.uw_le (lo * 288230376151711744)
 have HV:=hid (Pl.uw (lo * 288230376151711744))
 have E5:bits BinOp.and IntKind.u64 (IntKind.u64.wrap (lo * 288230376151711744)) 4294967295=0:=by
  rw[show IntKind.u64.wrap (lo * 288230376151711744)=lo % 64 * 288230376151711744 from by rw[Pl.uw];omega]
  exact and_low (lo % 64) 58 (by omega) (by omega) (by omega)
 generalize hU:hi * 288230376151711744+lo / 64=U at *
 generalize hd:y * 67108864=d at *
 generalize hV:IntKind.u64.wrap (lo * 288230376151711744)=V at *
 generalize hv:V / 4294967296=v1 at *
 have HU:=hid hU
 have Hd:=hid hd
 have Hv:=hid hv
 have U0:0≤U:=by omega
 have d0:2147483648≤d:=by omega
 have d1:d<4294967296:=by omega
 have Ud:U<4294967296 * d:=by omega
 have v0:0≤v1:=by omega
 have v1b:v1<4294967296:=by omega
 have HE:=hid (div_eq_6 hi lo y U V v1 d Hd.out.symm (by omega) HU.out.symm HV.out Hv.out.symm h0 h1)
 have HX:Hid (∀ x:Int,x=U / d→IntKind.u64.wrap (IntKind.u64.wrap (IntKind.u64.wrap (U * 4294967296)+v1) - IntKind.u64.wrap (x * (y * 288230376151711744)))=IntKind.u64.wrap ((U - x * d) * 4294967296+v1)):=by
  intro x _
  rw[Pl.uw_addl,Pl.uw_subl,Pl.uw_subr]
  congr 1
  have:x * (y * 288230376151711744)=x * d * 4294967296:=by rw[← Hd.out];grind
  rw[this];omega
 clear hU hd HV
 have q0:0≤U / d:=Int.ediv_nonneg U0 (by omega)
 have q1:U / d<4294967296:=Int.ediv_lt_of_lt_mul (by omega) Ud
 have p1:U / d * d≤U:=Int.ediv_mul_le _ (by omega)
 have p0:0≤U / d * d:=Int.mul_nonneg q0 (by omega)
 have r1:U - U / d * d<d:=by have:=Int.emod_lt_of_pos U (show 0<d by omega);have e:=Int.emod_def U d;rw[Int.mul_comm] at e;omega
 generalize hq:U / d=q at *
 have HX2:=HX.out q rfl
 clear HX
 generalize hp:q * d=p at *
 rw[Pl.uw_id (n:=(U - p) * 4294967296+v1) (by omega) (by omega)] at HX2
 generalize hT:(U - p) * 4294967296+v1=T at *
 have T0:0≤T:=by omega
 have T1:T<4294967296 * d:=by omega
 have s0:0≤T / d:=Int.ediv_nonneg T0 (by omega)
 have s1:T / d<4294967296:=Int.ediv_lt_of_lt_mul (by omega) T1
 have t1:T / d * d≤T:=Int.ediv_mul_le _ (by omega)
 have t0:0≤T / d * d:=Int.mul_nonneg s0 (by omega)
 have t2:T - T / d * d<d:=by have:=Int.emod_lt_of_pos T (show 0<d by omega);have e:=Int.emod_def T d;rw[Int.mul_comm] at e;omega
 generalize hx:T / d=x at *
 generalize hz:x * d=z at *
 clear hT
 go_enter Tryz.func159,Tryz.ntmps159
 go_wp2_with (go_at_call 196;refine(lead64_any y _ (by omega) (by omega)).mono ?_;rw[HL.out];rintro e w1 ⟨rfl,rfl⟩)
 refine wp_loop_once ?_
 go_wp2
 refine wp_loop_once ?_
 go_wp2
 go_ret2
 exact⟨⟨_,by rw[← HE.out];rfl⟩,KW.refl w⟩
theorem div64_any (hi lo y:Int)(w:World)(h0:0≤lo)(h1:lo≤18446744073709551615)(i0:0≤hi)(i1:hi<y)(g1:y≤63):
 Calls Tryz.prog 159 #[.int .u64 hi,.int .u64 lo,.int .u64 y] w fun e w'=>(∃ r,e=.returned (.tuple #[.int .u64 ((hi * 18446744073709551616+lo) / y),.int .u64 r]))∧KW w w':=by
 by_cases h:hi=0
 ·subst h
  rw[Int.zero_mul,Int.zero_add]
  exact div64_zero lo y w h0 h1 (by omega) (by omega)
 ·by_cases h2:y≤3
  ·exact div64_2 hi lo y w h0 h1 (by omega) i1 (by omega) h2
  ·by_cases h3:y≤7
   ·exact div64_3 hi lo y w h0 h1 (by omega) i1 (by omega) h3
   ·by_cases h4:y≤15
    ·exact div64_4 hi lo y w h0 h1 (by omega) i1 (by omega) h4
    ·by_cases h5:y≤31
     ·exact div64_5 hi lo y w h0 h1 (by omega) i1 (by omega) h5
     ·exact div64_6 hi lo y w h0 h1 (by omega) i1 (by omega) g1
end Go.Proofs.YtphppbonljdibaaGreat
