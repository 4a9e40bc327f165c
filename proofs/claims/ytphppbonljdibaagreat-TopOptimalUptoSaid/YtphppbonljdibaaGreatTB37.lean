import Derived.Test.YtphppbonljdibaaGreatTB36
import Derived.Test.YtphppbonljdibaaGreatTB00
import Derived.Test.YtphppbonljdibaaGreatTB35
import Derived.Test.YtphppbonljdibaaGreatTB32
import Derived.Test.YtphppbonljdibaaGreatTB33
import Derived.Test.YtphppbonljdibaaGreatTB31
set_option maxRecDepth 100000
set_option maxHeartbeats 4000000
set_option linter.unusedVariables false
set_option linter.unusedSimpArgs false
namespace Go.Proofs.YtphppbonljdibaaGreat
open Go.ChangeShapes Go.WideShapes Go.ChangeAt Go.RowKit
theorem mul64_int (a b:Int)(w:World)(a0:0≤a)(a1:a≤18446744073709551615)(b0:0≤b)(b1:b≤18446744073709551615):
 Calls Tryz.prog 125 #[.int .u64 a,.int .u64 b] w fun e w'=>e=.returned (.tuple #[.int .u64 (a * b / 18446744073709551616),.int .u64 (a * b % 18446744073709551616)])∧w=w':=by
 obtain⟨x,rfl⟩:∃ x:Nat,a=x:=⟨a.toNat,by omega⟩
 obtain⟨y,rfl⟩:∃ y:Nat,b=y:=⟨b.toNat,by omega⟩
 have h:=mul64_any x y (by omega) (by omega) w
 have e1:((x * y / 18446744073709551616:Nat):Int)=(x:Int) * (y:Int) / 18446744073709551616:=by rw[Int.natCast_ediv,Int.natCast_mul];rfl
 have e2:((x * y % 18446744073709551616:Nat):Int)=(x:Int) * (y:Int) % 18446744073709551616:=by rw[Int.natCast_emod,Int.natCast_mul];rfl
 rw[e1,e2] at h
 exact h
theorem times_any (a b y:Int)(w:World)(a0:0≤a)(a1:a≤9223372036854775807)(b0:0≤b)(b1:b≤9223372036854775807)(g0:1≤y)(g1:y≤63):
 Calls Tryz.prog 116 #[.int .i64 a,.int .i64 b,.int .i64 y] w fun e w'=>e=.returned (.int .i64 (min (a * b / y) 1099511627776))∧KW w w':=by
 have HM:=hid (fun W=>mul64_int a b W a0 (by omega) b0 (by omega))
 have hP0:0≤a * b:=Int.mul_nonneg a0 b0
 have hP1:a * b≤9223372036854775807 * 9223372036854775807:=Int.mul_le_mul a1 b1 b0 (by omega)
 generalize a * b=P at *
 have hH0:0≤P / 18446744073709551616:=by omega
 have hH1:P / 18446744073709551616≤18446744073709551615:=by omega
 have hL0:0≤P % 18446744073709551616:=by omega
 have hL1:P % 18446744073709551616≤18446744073709551615:=by omega
 have hPe:P / 18446744073709551616 * 18446744073709551616+P % 18446744073709551616=P:=by omega
 have hQ:P / y * y≤P:=Int.ediv_mul_le _ (by omega)
 have hQ0:0≤P / y:=Int.ediv_nonneg hP0 (by omega)
 have hQ2:P<(P / y+1) * y:=Int.lt_ediv_add_one_mul_self _ (by omega)
 by_cases hge:y≤P / 18446744073709551616
 ·have hbig:18446744073709551616≤P / y:=by
   refine Int.le_ediv_of_mul_le (by omega) ?_
   omega
  have HR:Hid (min (P / y) 1099511627776=1099511627776):=by show _=_;omega
  generalize P / 18446744073709551616=H at *
  generalize P % 18446744073709551616=L at *
  clear hQ hQ0 hQ2 hbig hPe hP0 hP1
  go_enter Tryz.func116,Tryz.ntmps116
  go_wp2_with (go_at_call 125;refine(HM.out _).mono ?_;rintro e w1 ⟨rfl,rfl⟩)
  go_ret
  exact⟨ret_int HR.out.symm,KW.refl w⟩
 ·have HD:=hid (fun W=>div64_any (P / 18446744073709551616) (P % 18446744073709551616) y W hL0 hL1 hH0 (by omega) g1)
  rw[hPe] at HD
  have hQ3:P / y≤18446744073709551615:=by
   have:P / y<18446744073709551616:=by
    refine Int.ediv_lt_of_lt_mul (by omega) ?_
    omega
   omega
  by_cases hbig:1099511627776<P / y
  ·have HR:Hid (min (P / y) 1099511627776=1099511627776):=by show _=_;omega
   generalize P / 18446744073709551616=H at *
   generalize P % 18446744073709551616=L at *
   generalize P / y=Q at *
   clear hQ hQ2 hPe hP0 hP1
   have hk:=KW.refl w
   go_enter Tryz.func116,Tryz.ntmps116
   go_wp2_with (first
    | (go_at_call 125;refine(HM.out _).mono ?_;rintro e w1 ⟨rfl,rfl⟩)
    | (go_at_call 159;refine(HD.out _).mono ?_;rintro e w1 ⟨⟨r,rfl⟩,hb⟩;replace hk:=hk.on hb;clear hb))
   go_ret
   exact⟨ret_int HR.out.symm,hk⟩
  ·have HR:Hid (min (P / y) 1099511627776=P / y):=by show _=_;omega
   generalize P / 18446744073709551616=H at *
   generalize P % 18446744073709551616=L at *
   generalize P / y=Q at *
   clear hQ hQ2 hPe hP0 hP1
   have hk:=KW.refl w
   go_enter Tryz.func116,Tryz.ntmps116
   go_wp2_with (first
    | (go_at_call 125;refine(HM.out _).mono ?_;rintro e w1 ⟨rfl,rfl⟩)
    | (go_at_call 159;refine(HD.out _).mono ?_;rintro e w1 ⟨⟨r,rfl⟩,hb⟩;replace hk:=hk.on hb;clear hb))
   go_ret
   exact⟨ret_int HR.out.symm,hk⟩
theorem choose_none (n k:Int)(w:World)(h:n<0∨k<0∨n<k):
 Calls Tryz.prog 70 #[.int .i64 n,.int .i64 k] w fun e w'=>e=.returned (.int .i64 (Ch.ch n k))∧KW w w':=by
 have HR:=hid (Ch.ch_none h)
 by_cases h1:n<0
 ·clear h
  go_enter Tryz.func70,Tryz.ntmps70
  go_wp2
  go_ret
  exact⟨ret_int HR.out.symm,KW.refl w⟩
 ·have d1:decide (n<0)=false:=by simpa using h1
  by_cases h2:k<0
  ·clear h
   go_enter Tryz.func70,Tryz.ntmps70
   go_wp2
   go_ret
   exact⟨ret_int HR.out.symm,KW.refl w⟩
  ·have d2:decide (k<0)=false:=by simpa using h2
   have h3:n<k:=by omega
   clear h
   go_enter Tryz.func70,Tryz.ntmps70
   go_wp2
   go_ret
   exact⟨ret_int HR.out.symm,KW.refl w⟩
theorem bin_next (D j:Nat)(hj:j+1≤D)(hlt:((Ch.bin (D+j) j:Nat):Int)<1099511627776):
 min (((Ch.bin (D+j) j:Nat):Int) * ((D:Int)+((j:Int)+1)) / ((j:Int)+1)) 1099511627776=min ((Ch.bin (D+(j+1)) (j+1):Nat):Int) 1099511627776∧j<40:=by
 constructor
 ·have e1:((D+(j+1):Nat):Int)=(D:Int)+((j:Int)+1):=by omega
  have e2:((j+1:Nat):Int)=(j:Int)+1:=by omega
  rw[Ch.bin_step D j,Int.natCast_ediv,Int.natCast_mul,e1,e2]
 ·have:=Ch.bin_two (d:=D) (j:=j) (by omega)
  apply Nat.lt_of_not_le
  intro h40
  have h2:2 ^ 40≤2 ^ j:=Nat.pow_le_pow_right (by omega) h40
  have:(2:Nat) ^ 40=1099511627776:=by decide
  omega
theorem bin_end (D K j:Nat)(hj:j≤K)(h:j=K∨¬ min ((Ch.bin (D+j) j:Nat):Int) 1099511627776<1099511627776):min ((Ch.bin (D+j) j:Nat):Int) 1099511627776=min ((Ch.bin (D+K) K:Nat):Int) 1099511627776:=by
 rcases h with rfl|h
 ·rfl
 ·have:=Ch.bin_diag D j (K - j)
  rw[show j+(K - j)=K from by omega] at this
  omega
theorem choose_low (D K:Nat)(w:World)(hK:K≤D)(hn:(D:Int)+(K:Int)≤9223372036854775807):
 Calls Tryz.prog 70 #[.int .i64 ((D:Int)+(K:Int)),.int .i64 (K:Int)] w fun e w'=>e=.returned (.int .i64 (Ch.ch ((D:Int)+(K:Int)) (K:Int)))∧KW w w':=by
 have HR:Hid (Ch.ch ((D:Int)+(K:Int)) (K:Int)=min ((Ch.bin (D+K) K:Nat):Int) 1099511627776):=by
  rw[Hid,Ch.ch_at (by omega) (by omega),show((D:Int)+(K:Int)).toNat=D+K from by omega,Int.toNat_natCast]
 rw[HR.out]
 have d1:decide ((D:Int)+(K:Int)<0)=false:=by simp;omega
 have d2:decide ((K:Int)<0)=false:=by simp
 have d3:decide ((D:Int)+(K:Int)<(K:Int))=false:=by simp;omega
 have L1:(D:Int)+(K:Int) - (K:Int)=(D:Int):=by omega
 have L2:(K:Int)≤(D:Int):=by omega
 go_enter Tryz.func70,Tryz.ntmps70
 go_wp2
 go_loopw [5,6] (fun c i wr=>∃ j:Nat,j≤K∧i=.int .i64 ((j:Int)+1)∧c=.int .i64 (min ((Ch.bin (D+j) j:Nat):Int) 1099511627776)∧Hid (KW w wr)) (fun _ i _=>K+1 - (intOf i).toNat)
 case atStart=>exact⟨0,by omega,rfl,by rw[Ch.bin_zero];rfl,KW.refl w⟩
 case round=>
  obtain⟨j,hj,rfl,rfl,HK⟩:=hrel
  have HE:=hid (bin_end D K j hj)
  have b0:0≤min ((Ch.bin (D+j) j:Nat):Int) 1099511627776:=by omega
  have b1:min ((Ch.bin (D+j) j:Nat):Int) 1099511627776≤1099511627776:=by omega
  by_cases hlt:j<K
  ·by_cases hm:min ((Ch.bin (D+j) j:Nat):Int) 1099511627776<1099511627776
   ·obtain⟨hst,hj40⟩:=bin_next D j (by omega) (by omega)
    have heq:min ((Ch.bin (D+j) j:Nat):Int) 1099511627776=((Ch.bin (D+j) j:Nat):Int):=by omega
    rw[← heq] at hst
    clear heq
    generalize min ((Ch.bin (D+j) j:Nat):Int) 1099511627776=c at *
    have HS:=hid hst
    clear hst
    go_wp2_with fail
    refine(times_any c ((D:Int)+((j:Int)+1)) ((j:Int)+1) _ b0 (by omega) (by omega) (by omega) (by omega) (by omega)).mono ?_
    rw[HS.out]
    rintro e w1 ⟨rfl,hb⟩
    have HK1:=hid (HK.out.on hb)
    clear hb
    go_wp2_with fail
    go_roundw
    case rel=>exact⟨j+1,by omega,by go_num,rfl,HK1⟩
    case measure=>simp[intOf];omega
   ·have HE1:=hid (HE.out (Or.inr hm))
    generalize min ((Ch.bin (D+j) j:Nat):Int) 1099511627776=c at *
    have hm2:decide (c<1099511627776)=false:=by simpa using hm
    go_wp2_with fail
    go_ret
    exact⟨ret_int HE1.out,HK.out⟩
  ·obtain rfl:j=K:=by omega
   go_wp2
   go_ret
   exact⟨rfl,HK.out⟩
theorem choose_high (D K:Nat)(w:World)(hK:K<D)(hn:(D:Int)+(K:Int)≤9223372036854775807):
 Calls Tryz.prog 70 #[.int .i64 ((D:Int)+(K:Int)),.int .i64 (D:Int)] w fun e w'=>e=.returned (.int .i64 (Ch.ch ((D:Int)+(K:Int)) (D:Int)))∧KW w w':=by
 have HR:Hid (Ch.ch ((D:Int)+(K:Int)) (D:Int)=min ((Ch.bin (D+K) K:Nat):Int) 1099511627776):=by
  have e:=Ch.ch_other (n:=(D:Int)+(K:Int)) (k:=(D:Int)) (by omega) (by omega)
  rw[Hid,← e,show(D:Int)+(K:Int) - (D:Int)=(K:Int) from by omega,Ch.ch_at (by omega) (by omega),show((D:Int)+(K:Int)).toNat=D+K from by omega,Int.toNat_natCast]
 rw[HR.out]
 have d1:decide ((D:Int)+(K:Int)<0)=false:=by simp;omega
 have d2:decide ((D:Int)<0)=false:=by simp
 have d3:decide ((D:Int)+(K:Int)<(D:Int))=false:=by simp;omega
 have L1:(D:Int)+(K:Int) - (K:Int)=(D:Int):=by omega
 have L2:¬ (D:Int)≤(K:Int):=by omega
 have L3:(D:Int)+(K:Int) - (D:Int)=(K:Int):=by omega
 go_enter Tryz.func70,Tryz.ntmps70
 go_wp2
 go_loopw [5,6] (fun c i wr=>∃ j:Nat,j≤K∧i=.int .i64 ((j:Int)+1)∧c=.int .i64 (min ((Ch.bin (D+j) j:Nat):Int) 1099511627776)∧Hid (KW w wr)) (fun _ i _=>K+1 - (intOf i).toNat)
 case atStart=>exact⟨0,by omega,rfl,by rw[Ch.bin_zero];rfl,KW.refl w⟩
 case round=>
  obtain⟨j,hj,rfl,rfl,HK⟩:=hrel
  have HE:=hid (bin_end D K j hj)
  have b0:0≤min ((Ch.bin (D+j) j:Nat):Int) 1099511627776:=by omega
  have b1:min ((Ch.bin (D+j) j:Nat):Int) 1099511627776≤1099511627776:=by omega
  by_cases hlt:j<K
  ·by_cases hm:min ((Ch.bin (D+j) j:Nat):Int) 1099511627776<1099511627776
   ·obtain⟨hst,hj40⟩:=bin_next D j (by omega) (by omega)
    have heq:min ((Ch.bin (D+j) j:Nat):Int) 1099511627776=((Ch.bin (D+j) j:Nat):Int):=by omega
    rw[← heq] at hst
    clear heq
    generalize min ((Ch.bin (D+j) j:Nat):Int) 1099511627776=c at *
    have HS:=hid hst
    clear hst
    go_wp2_with fail
    refine(times_any c ((D:Int)+((j:Int)+1)) ((j:Int)+1) _ b0 (by omega) (by omega) (by omega) (by omega) (by omega)).mono ?_
    rw[HS.out]
    rintro e w1 ⟨rfl,hb⟩
    have HK1:=hid (HK.out.on hb)
    clear hb
    go_wp2_with fail
    go_roundw
    case rel=>exact⟨j+1,by omega,by go_num,rfl,HK1⟩
    case measure=>simp[intOf];omega
   ·have HE1:=hid (HE.out (Or.inr hm))
    generalize min ((Ch.bin (D+j) j:Nat):Int) 1099511627776=c at *
    have hm2:decide (c<1099511627776)=false:=by simpa using hm
    go_wp2_with fail
    go_ret
    exact⟨ret_int HE1.out,HK.out⟩
  ·obtain rfl:j=K:=by omega
   go_wp2
   go_ret
   exact⟨rfl,HK.out⟩
theorem choose_any (n k:Int)(w:World)(h0:-9223372036854775808≤n)(h1:n≤9223372036854775807):
 Calls Tryz.prog 70 #[.int .i64 n,.int .i64 k] w fun e w'=>e=.returned (.int .i64 (Ch.ch n k))∧KW w w':=by
 by_cases h:n<0∨k<0∨n<k
 ·exact choose_none n k w h
 ·by_cases h2:k≤n - k
  ·have:=choose_low (n - k).toNat k.toNat w (by omega) (by omega)
   rwa [show((n - k).toNat:Int)+(k.toNat:Int)=n from by omega,show(k.toNat:Int)=k from by omega] at this
  ·have:=choose_high k.toNat (n - k).toNat w (by omega) (by omega)
   rwa [show(k.toNat:Int)+((n - k).toNat:Int)=n from by omega,show(k.toNat:Int)=k from by omega] at this
theorem slots_yes (s:Int)(w:World)(h0:1≤s)(h1:s≤1048576):Calls Tryz.prog 71 #[.int .i64 s] w fun e w'=>e=.returned (.bool true)∧w=w':=by
 have d0:decide (1≤s)=true:=by simpa using h0
 go_enter Tryz.func71,Tryz.ntmps71
 go_wp2
 go_ret
 exact⟨rfl,rfl⟩
theorem ch_most {r s:Int}(hs:1≤s)(hr:1099511627776≤r):Ch.ch (s+r) s=1099511627776:=by
 have:=Ch.ch_ge (n:=s+r) (k:=s) (by omega) (by omega)
 have:=Ch.ch_le (s+r) s
 omega
theorem longest1_any (r s:Int)(w:World)(r0:0≤r)(r1:r≤9223372036854775807)(s0:1≤s)(s1:s≤1048576):
 Calls Tryz.prog 74 #[.int .i64 r,.int .i64 s] w fun e w'=>e=.returned (.int .i64 (Ch.ch (s+r) s))∧KW w w':=by
 by_cases h:1099511627776≤r
 ·rw[ch_most s0 h]
  go_enter Tryz.func74,Tryz.ntmps74
  go_wp2
  go_ret
  exact⟨rfl,KW.refl w⟩
 ·have HC:=hid (fun W=>choose_any (s+r) s W (by omega) (by omega))
  generalize Ch.ch (s+r) s=v at *
  have hk:=KW.refl w
  go_enter Tryz.func74,Tryz.ntmps74
  go_wp2_with (go_at_call 70;refine(HC.out _).mono ?_;rintro e w1 ⟨rfl,hb⟩;replace hk:=hk.t hb;clear hb)
  go_ret
  exact⟨rfl,hk⟩
def enB (l s r:Int):Bool:=decide (l≤Ch.ch (s+r) s)
theorem enough_any (l s r:Int)(b1 b2:Nat)(w:World)(r0:0≤r)(r1:r≤9223372036854775807)(s0:1≤s)(s1:s≤1048576)
 (h1:b1<w.heap.size) (h2:b2<w.heap.size) (c1:w.cell? ⟨b1,0,none⟩=some (.int .i64 l)) (c2:w.cell? ⟨b2,0,none⟩=some (.int .i64 s)):
 Calls Tryz.prog 73 #[.int .i64 r,.pointer (some ⟨b1,0,none⟩),.pointer (some ⟨b2,0,none⟩)] w fun e w'=>e=.returned (.bool (enB l s r))∧KW w w':=by
 have HC:=hid (fun W=>longest1_any r s W r0 r1 s0 s1)
 have HE:=hid (show enB l s r=decide (l≤Ch.ch (s+r) s) from rfl)
 generalize Ch.ch (s+r) s=v at *
 generalize enB l s r=en at *
 go_enter Tryz.func73,Tryz.ntmps73
 go_wp2_with fail
 have hq:=KW.refl w
 have hXS:=And.intro (hq.cell h1 c1) (hq.cell h2 c2)
 refine wpX_region (S:=fun w'=>w'.cell? ⟨b1,0,none⟩=some (.int .i64 l)∧w'.cell? ⟨b2,0,none⟩=some (.int .i64 s)) (L:=99) (by kernel_rfl) ?_
 refine tk 0 ?_ (fun _ _=>?_) hXS ?_;rotate_left;· go_simp;try rfl
 simp only[lsz,lss]
 refine tk 1 ?_ (fun _ _=>?_) hXS ?_;rotate_left;· go_simp;try rfl
 simp only[lsz,lss]
 refine tk 2 ?_ (fun _ _=>?_) hXS ?_;rotate_left;· go_simp;try rfl
 simp only[lsz,lss]
 refine wpX_hard (k:=3) (by kernel_rfl) rfl (fun K hK=>?_)
 go_simp
 (refine(HC.out _).mono ?_;rintro e w1 ⟨rfl,hb⟩;(try replace hb:=KW.t ((KW.refl w).drew) hb);replace hq:=hb)
 refine hK _ _ (fun _=>⟨hq.cell h1 c1,hq.cell h2 c2⟩) ?_
 clear hK K
 try simp only[lsz,lss]
 replace hXS:=And.intro (hq.cell h1 c1) (hq.cell h2 c2)
 refine tk 4 ?_ (fun _ _=>?_) hXS ?_;rotate_left;· go_simp;try rfl
 simp only[lsz,lss]
 refine tk 5 ?_ (fun _ _=>?_) hXS ?_;rotate_left;· go_simp;try rfl
 simp only[lsz,lss]
 refine wpX_done (by kernel_rfl) ?_
 go_wp2
 go_ret
 exact⟨ret_bool HE.out.symm,hq⟩
theorem least_any (l s:Nat)(b1 b2:Nat)(w:World)(hl:l≤65535)(s0:1≤s)(s1:s≤1048576)
 (h1:b1<w.heap.size) (h2:b2<w.heap.size) (c1:w.cell? ⟨b1,0,none⟩=some (.int .i64 l)) (c2:w.cell? ⟨b2,0,none⟩=some (.int .i64 s)):
 Calls Tryz.prog 72 #[.int .i64 l,.func (.func 73) #[] #[.pointer (some ⟨b1,0,none⟩),.pointer (some ⟨b2,0,none⟩)]] w fun e w'=>e=.returned (.int .i64 (Ch.rp l s))∧KW w w':=by
 have HC:=hid (And.intro c1 c2)
 have hen:∀ r:Nat,enB l s r=decide (l≤Ch.be s r):=fun r=>by
  unfold enB
  rw[Ch.ch_be]
  by_cases h:l≤Ch.be s r
  ·rw[decide_eq_true h];simp;omega
  ·rw[decide_eq_false h];simp;omega
 have HEN:=hid hen
 clear c1 c2 hen
 go_enter Tryz.func72,Tryz.ntmps72
 go_wp2
 go_loopw [5,6,7] (fun lo hi _ wr=>∃ a b:Nat,a≤b∧b≤l∧lo=.int .i64 a∧hi=.int .i64 b∧Hid (∀ j,j<a→Ch.be s j<l)∧Hid (l≤Ch.be s b)∧Hid (KW w wr)) (fun lo hi _ _=>(intOf hi).toNat - (intOf lo).toNat)
 case atStart=>exact⟨0,l,by omega,by omega,rfl,rfl,fun j h=>by omega,by have:=Ch.be_ge s l s0;show l≤_;omega,KW.refl w⟩
 case round=>
  obtain⟨a,b,hab,hbl,rfl,rfl,HA,HB,HK⟩:=hrel
  by_cases hlt:a<b
  ·have hE:=HEN.out ((a+b) / 2)
   have L1:((a:Int)+(b:Int)) / 2=(((a+b) / 2:Nat):Int):=by omega
   have hm1:a≤(a+b) / 2:=by omega
   have hm2:(a+b) / 2<b:=by omega
   generalize (a+b) / 2=m at *
   by_cases hm:l≤Ch.be s m
   ·rw[decide_eq_true hm] at hE
    have HE:=hid hE
    have HM:=hid hm
    clear hE hm
    go_wp2_with fail
    refine(enough_any l s m b1 b2 _ (by omega) (by omega) (by omega) (by omega) (by have:=HK.out.size;omega) (by have:=HK.out.size;omega) (HK.out.cell h1 HC.out.1) (HK.out.cell h2 HC.out.2)).mono ?_
    rw[HE.out]
    rintro e w1 ⟨rfl,hb⟩
    have HK1:=hid (HK.out.t hb)
    clear hb
    go_wp2_with fail
    go_roundw
    case rel=>exact⟨a,m,by omega,by omega,rfl,by first|rfl|rw[L1],HA,HM,HK1⟩
    case measure=>simp[intOf];omega
   ·rw[decide_eq_false hm] at hE
    have HE:=hid hE
    have HM:Hid (Ch.be s m<l):=by show _<_;omega
    clear hE hm
    go_wp2_with fail
    refine(enough_any l s m b1 b2 _ (by omega) (by omega) (by omega) (by omega) (by have:=HK.out.size;omega) (by have:=HK.out.size;omega) (HK.out.cell h1 HC.out.1) (HK.out.cell h2 HC.out.2)).mono ?_
    rw[HE.out]
    rintro e w1 ⟨rfl,hb⟩
    have HK1:=hid (HK.out.t hb)
    clear hb
    go_wp2_with fail
    go_roundw
    case rel=>exact⟨m+1,b,by omega,by omega,by first|go_num|(rw[L1];go_num),rfl,fun j hj=>by
     have:=Ch.be_le (s:=s) (r:=j) (q:=m) (by omega)
     have:=HM.out
     omega,HB,HK1⟩
    case measure=>simp[intOf];omega
  ·obtain rfl:a=b:=by omega
   have HR:=hid (Ch.rp_is s0 HB.out HA.out)
   go_wp2
   go_ret
   exact⟨ret_int (by rw[HR.out]),HK.out⟩
theorem reps_yes (l s:Nat)(w:World)(hl:l≤65535)(s0:1≤s)(s1:s≤1048576):
 Calls Tryz.prog 33 #[.int .i64 l,.int .i64 s] w fun e w'=>e=.returned (.tuple #[.int .i64 (Ch.rp l s),.int .i64 0])∧KW w w':=by
 have d0:decide ((l:Int)<0)=false:=by simp
 have d1:decide ((65536:Int)≤(l:Int))=false:=by simp;omega
 have hk:=KW.refl w
 go_enter Tryz.func33,Tryz.ntmps33
 go_wp2_with (first
  | (go_at_call 71;refine(slots_yes _ _ (by omega) (by omega)).mono ?_;rintro e w1 ⟨rfl,rfl⟩))
 refine(least_any l s w.heap.size (w.heap.size+1) _ hl s0 s1 (by simp;omega) (by simp) (by go_simp) (by go_simp)).mono ?_
 rintro e w1 ⟨rfl,hb⟩
 replace hk:=((hk.alloc _).alloc _).t hb
 clear hb
 go_wp2_with fail
 go_ret2
 exact⟨rfl,hk⟩
def mx (f:Nat→Int):Nat→Int
 | 0=>f 0
 | k+1=>max (mx f k) (f k)
theorem greatest_any (A:Option Addr)(n c:Nat)(f:Nat→Int)(w:World)(hn:n≤9223372036854775807)(hn0:0<n)(hr:Row1 w A n fun k=>.int .i64 (f k)):
 Calls Tryz.prog 258 #[.slice A n c] w fun e w'=>e=.returned (.int .i64 (mx f n))∧w=w':=by
 have HR:=hid hr
 clear hr
 obtain⟨b,off,rfl,hb,hc⟩:=HR.out.at_ hn0
 simp only[Nat.add_zero] at hc
 go_enter Tryz.func258,Tryz.ntmps258
 go_wp2
 go_loop [3,5,11] (fun s _ i=>∃ k:Nat,k≤n∧i=.int .i64 k∧s=.int .i64 (mx f k)) (fun _ _ i=>n - (intOf i).toNat)
 case atStart=>exact⟨0,by omega,rfl,rfl⟩
 case round=>
  obtain⟨k,hk,rfl,rfl⟩:=hrel
  by_cases hlt:k<n
  ·obtain⟨b',off',hA,hb',hc'⟩:=HR.out.at_ hlt
   cases hA
   have Hst:=hid (show mx f (k+1)=max (mx f k) (f k) from rfl)
   generalize mx f k=s at *
   generalize f k=x at *
   by_cases hsx:x≤s
   ·have HM:=hid (Int.max_eq_left hsx)
    go_wp2
    all_goals
     go_round
     case rel=>exact⟨k+1,by omega,by go_num,by rw[Hst.out,HM.out]⟩
     case measure=>simp[intOf];omega
   ·have HM:=hid (Int.max_eq_right (show s≤x by omega))
    go_wp2
    all_goals
     go_round
     case rel=>exact⟨k+1,by omega,by go_num,by rw[Hst.out,HM.out]⟩
     case measure=>simp[intOf];omega
  ·obtain rfl:k=n:=by omega
   go_wp2
   go_ret
   exact⟨rfl,rfl⟩
theorem row1_ints (w:World)(t:TypeId)(l:List Int):Row1 (w.alloc (.cells (l.map (Value.int .i64)).toArray t)) (some ⟨w.heap.size,0,none⟩) l.length fun k=>.int .i64 (l.getD k 0):=by
 have h:=row1_new w t (l.map (Value.int .i64))
 rw[List.length_map] at h
 refine h.cong fun k hk=>?_
 simp[hk]
theorem greatest3 (w:World)(t:TypeId)(a b c:Int):
 Calls Tryz.prog 258 #[.slice (some ⟨w.heap.size,0,none⟩) 3 3] (w.alloc (.cells #[.int .i64 a,.int .i64 b,.int .i64 c] t)) fun e w'=>e=.returned (.int .i64 (max a (max b c)))∧KW w w':=by
 have h:=pure_kw (greatest_any (some ⟨w.heap.size,0,none⟩) 3 3 (fun k=>[a,b,c].getD k 0) _ (by omega) (by omega) (row1_ints w t [a,b,c]))
 have e:mx (fun k=>[a,b,c].getD k 0) 3=max a (max b c):=by simp only[mx];show max (max (max a a) b) c=max a (max b c);omega
 rwa [e] at h
theorem split_yes (n c:Nat)(w:World)(hn0:2≤n)(hn:n≤65535)(s0:1≤c)(s1:c≤1048576):
 Calls Tryz.prog 243 #[.int .i64 n,.int .i64 c] w fun e w'=>e=.returned (.tuple #[.int .i64 (Ch.sp n c),.int .i64 0])∧KW w w':=by
 have d0:¬ (n:Int)<2:=by omega
 have HR:=hid (fun W=>reps_yes n c W hn s0 s1)
 have hq:=Ch.rp_le n c s0
 have HX:=hid (fun W=>choose_any ((c:Int)+(Ch.rp n c:Nat) - 2) (c:Int) W (by omega) (by omega))
 have HY:=hid (fun W=>choose_any ((c:Int)+(Ch.rp n c:Nat) - 1) ((c:Int) - 1) W (by omega) (by omega))
 have x0:=Ch.ch_nn ((c:Int)+(Ch.rp n c:Nat) - 2) (c:Int)
 have x1:=Ch.ch_le ((c:Int)+(Ch.rp n c:Nat) - 2) (c:Int)
 have y0:=Ch.ch_nn ((c:Int)+(Ch.rp n c:Nat) - 1) ((c:Int) - 1)
 have y1:=Ch.ch_le ((c:Int)+(Ch.rp n c:Nat) - 1) ((c:Int) - 1)
 have HG:=hid (fun W t=>greatest3 W t 1 (Ch.ch ((c:Int)+(Ch.rp n c:Nat) - 2) (c:Int)) ((n:Int) - Ch.ch ((c:Int)+(Ch.rp n c:Nat) - 1) ((c:Int) - 1)))
 have HS:=hid (show Ch.sp n c=max 1 (max (Ch.ch ((c:Int)+(Ch.rp n c:Nat) - 2) (c:Int)) ((n:Int) - Ch.ch ((c:Int)+(Ch.rp n c:Nat) - 1) ((c:Int) - 1))) from rfl)
 rw[← HS.out] at HG
 clear HS
 generalize Ch.sp n c=sv at *
 generalize Ch.ch ((c:Int)+(Ch.rp n c:Nat) - 2) (c:Int)=x at *
 generalize Ch.ch ((c:Int)+(Ch.rp n c:Nat) - 1) ((c:Int) - 1)=y at *
 have r0:0≤((Ch.rp n c:Nat):Int):=by omega
 have r1:((Ch.rp n c:Nat):Int)≤65535:=by omega
 clear hq
 generalize ((Ch.rp n c:Nat):Int)=r at *
 have hk:=KW.refl w
 go_enter Tryz.func243,Tryz.ntmps243
 go_wp2_with (go_at_call 33;refine(HR.out _).mono ?_;rintro e w1 ⟨rfl,hb⟩;replace hk:=hk.t hb;clear hb)
 refine(HX.out _).mono ?_
 rintro e w1 ⟨rfl,hb⟩
 replace hk:=hk.t hb
 clear hb
 go_wp2_with fail
 refine(HY.out _).mono ?_
 rintro e w1 ⟨rfl,hb⟩
 replace hk:=hk.t hb
 clear hb
 go_wp2_with fail
 refine(HG.out _ _).mono ?_
 rintro e w1 ⟨rfl,hb⟩
 replace hk:=hk.t hb
 clear hb
 go_wp2_with fail
 go_ret2
 exact⟨rfl,hk⟩
def vw (a p:Int)(v:Value)(e B s f c:Int):Array Value:=#[.int .i64 a,.int .i64 p,v,.int .i64 e,.int .i64 B,.int .i64 s,.int .i64 f,.int .i64 c]
def vf (a p:Int)(v:Value)(e B s f c:Int)(i:Nat):Value:=(vw a p v e B s f c).getD i undef
theorem vw_get (a p:Int)(v:Value)(e B s f c:Int)(i:Nat)(hi:i<8):(vw a p v e B s f c)[i]?=some (vf a p v e B s f c i):=by
 rcases(show i=0∨i=1∨i=2∨i=3∨i=4∨i=5∨i=6∨i=7 by omega) with rfl|rfl|rfl|rfl|rfl|rfl|rfl|rfl<;>rfl
theorem vf_one (a p:Int)(A:Option Addr)(n k:Nat)(e B s f c:Int)(i:Nat)(hi:i<8):(vf a p (.slice A n k) e B s f c i).oneCell'=true:=by
 rcases(show i=0∨i=1∨i=2∨i=3∨i=4∨i=5∨i=6∨i=7 by omega) with rfl|rfl|rfl|rfl|rfl|rfl|rfl|rfl<;>rfl
theorem vw_row {w:World}{b:Nat}{a p:Int}{v:Value}{e B s f c:Int}(h:w.rowIs b 228 8 (vf a p v e B s f c)):w.heap[b]?=some (.cells (vw a p v e B s f c) 228 (0,0)):=by
 rw[whole h]
 rfl
def lk0 (w:World)(a p:Int)(v:Value)(q:Int):World:=((w.alloc (.cells #[.int .i64 a,.int .i64 p,v] 58)).alloc (.cells #[.int .i64 0,.int .i64 0,.slice none 0 0,.int .i64 0,.int .i64 0,.int .i64 0,.int .i64 0,.int .i64 0] 228)).alloc (.cells #[.int .i64 a,.int .i64 p,v,.int .i64 q,.int .i64 (-1),.int .i64 0,.int .i64 0,.int .i64 (-1)] 228)
theorem lk0_kw (w:World)(a p:Int)(v:Value)(q:Int):KW w (lk0 w a p v q):=(((KW.refl w).alloc _).alloc _).alloc _
theorem lk0_r1 (w:World)(a p:Int)(v:Value)(q:Int):(lk0 w a p v q).rowIs (w.heap.size+1) 228 8 (vf 0 0 (.slice none 0 0) 0 0 0 0 0):=by
 have h:=World.rowIs_alloc (w.alloc (.cells #[.int .i64 a,.int .i64 p,v] 58)) #[.int .i64 0,.int .i64 0,.slice none 0 0,.int .i64 0,.int .i64 0,.int .i64 0,.int .i64 0,.int .i64 0] 228 (vf 0 0 (.slice none 0 0) 0 0 0 0 0) fun i hi=>vw_get _ _ _ _ _ _ _ _ i hi
 have h2:=h.alloc (.cells #[.int .i64 a,.int .i64 p,v,.int .i64 q,.int .i64 (-1),.int .i64 0,.int .i64 0,.int .i64 (-1)] 228)
 unfold lk0
 simpa using h2
theorem lk0_r2 (w:World)(a p:Int)(v:Value)(q:Int):(lk0 w a p v q).rowIs (w.heap.size+1+1) 228 8 (vf a p v q (-1) 0 0 (-1)):=by
 have h:=World.rowIs_alloc ((w.alloc (.cells #[.int .i64 a,.int .i64 p,v] 58)).alloc (.cells #[.int .i64 0,.int .i64 0,.slice none 0 0,.int .i64 0,.int .i64 0,.int .i64 0,.int .i64 0,.int .i64 0] 228)) #[.int .i64 a,.int .i64 p,v,.int .i64 q,.int .i64 (-1),.int .i64 0,.int .i64 0,.int .i64 (-1)] 228 (vf a p v q (-1) 0 0 (-1)) fun i hi=>vw_get _ _ _ _ _ _ _ _ i hi
 unfold lk0
 simpa using h
theorem look_any (l a p:Int)(tags:List Int)(A:Option Addr)(c:Nat)(w:World)(hn:tags.length≤1048576)(ht:∀ i,i<tags.length→-1≤tags.getD i 0)(hr:Row1 w A tags.length fun i=>.int .i64 (tags.getD i 0)):
 Calls Tryz.prog 177 #[.int .i64 l,.agg #[.int .i64 a,.int .i64 p,.slice A tags.length c]] w fun e w'=>
  e=.returned (.agg (vw a p (.slice A tags.length c) (Rv.en l p) (Sd.tmx tags tags.length) (Rv.lkS tags tags.length) (Rv.lkN tags tags.length) (Rv.lkV tags tags.length)))∧KW w w':=by
 have HR:=hid hr
 have HTg:=hid ht
 have HN:=hid hn
 clear hr ht hn
 have HB0:Hid (∀ k,Sd.tmx tags (k+1)=max (Sd.tmx tags k) (tags.getD k 0)):=fun k=>rfl
 have HS0:Hid (∀ k,Rv.lkS tags (k+1)=if Sd.tmx tags k<tags.getD k 0 then (k:Int) else Rv.lkS tags k):=fun k=>rfl
 have HV0:Hid (∀ k,Rv.lkV tags (k+1)=if tags.getD k 0<0∧Rv.lkV tags k<0 then (k:Int) else Rv.lkV tags k):=fun k=>rfl
 have HN0:Hid (∀ k,Rv.lkN tags (k+1)=Rv.lkN tags k+if tags.getD k 0<0 then 1 else 0):=fun k=>rfl
 have HBl:=hid (fun k=>Sd.tmx_ge tags k)
 have HNl:=hid (fun k=>Rv.lkN_b tags k)
 have HZ:Hid (Sd.tmx tags 0 = -1∧Rv.lkS tags 0=0∧Rv.lkV tags 0 = -1∧Rv.lkN tags 0=0):=⟨rfl,rfl,rfl,rfl⟩
 generalize Sd.tmx tags=tB at *
 generalize Rv.lkS tags=tS at *
 generalize Rv.lkV tags=tV at *
 generalize Rv.lkN tags=tN at *
 have hn:=HN.out
 generalize tags.length=N at *
 have HE:Hid (∃ e,Rv.en l p=e∧(p<0∧e=l∨decide (p<0)=false∧e=p)):=⟨_,rfl,by
  unfold Rv.en
  by_cases h:p<0
  ·exact .inl ⟨h,if_pos h⟩
  ·exact .inr ⟨decide_eq_false h,if_neg h⟩⟩
 obtain⟨e,he,hc⟩:=HE.out
 rw[he]
 clear HE he
 have hz:=HZ.out
 have HK0:=hid (fun q=>lk0_kw w a p (.slice A N c) q)
 have HR1:=hid (fun q=>lk0_r1 w a p (.slice A N c) q)
 have HR2:=hid (fun q=>lk0_r2 w a p (.slice A N c) q)
 have HRs:Hid (∀ {W:World} {F:Nat→Value} (h:W.rowIs (w.heap.size+1) 228 8 F) (k:Nat) (x:Value),(W.setCell ⟨w.heap.size+1+1,k,none⟩ x).rowIs (w.heap.size+1) 228 8 F):=fun h k x=>h.setOther (a:=⟨w.heap.size+1+1,k,none⟩) (by show w.heap.size+1≠w.heap.size+1+1;omega) x
 have HKs:Hid (∀ {W:World} (h:KW w W) (k:Nat) (x:Value),KW w (W.setCell ⟨w.heap.size+1+1,k,none⟩ x)):=fun h k x=>Below.setCell (p:=⟨w.heap.size+1+1,k,none⟩) h (by show w.heap.size≤w.heap.size+1+1;omega) x
 rcases hc with⟨hp,hep⟩|⟨hp,hep⟩
 all_goals have HEP:=hid hep;clear hep
 all_goals
  go_enter Tryz.func177,Tryz.ntmps177
  go_wp2_with fail
 all_goals
  refine wpCode_world (fun W=>KW w W∧W.rowIs (w.heap.size+1) 228 8 (vf 0 0 (.slice none 0 0) 0 0 0 0 0)∧W.rowIs (w.heap.size+1+1) 228 8 (vf a p (.slice A N c) e (-1) 0 0 (-1))) ?_ ?_
  ·rw[HEP.out]
   first
    | exact⟨HK0.out l,HR1.out l,HR2.out l⟩
    | exact⟨HK0.out p,HR1.out p,HR2.out p⟩
  rintro W1 ⟨hk1,h1,h2⟩
  have HK1:=hid hk1
  have HA1:=hid h1
  have HA2:=hid h2
  clear hk1 h1 h2 HK0 HR1 HR2
  go_loopw [20] (fun i wr=>∃ k:Nat,k≤N∧i=.int .i64 k∧Hid (wr.rowIs (w.heap.size+1) 228 8 (vf 0 0 (.slice none 0 0) 0 0 0 0 0))∧Hid (wr.rowIs (w.heap.size+1+1) 228 8 (vf a p (.slice A N c) e (tB k) (tS k) (tN k) (tV k)))∧Hid (KW w wr)) (fun i _=>N - (intOf i).toNat)
  case atStart=>exact⟨0,by omega,rfl,HA1,by rw[hz.1,hz.2.1,hz.2.2.1,hz.2.2.2];exact HA2,HK1⟩
  case round=>
   clear HK1 HA1 HA2
   obtain⟨k,hk,rfl,HA1,HA2,HK1⟩:=hrel
   by_cases hlt:k<N
   ·obtain⟨b',off,rfl,hb',hcell⟩:=(HR.out.k HK1.out).at_ hlt
    have ht:=HTg.out k hlt
    have hB1:=HB0.out k
    have hS1:=HS0.out k
    have hV1:=HV0.out k
    have hN1:=HN0.out k
    have hbl:=(HBl.out k).1
    have hnl:=HNl.out k
    generalize tags.getD k 0=x at *
    generalize tB k=B at *
    generalize tS k=s at *
    generalize tV k=v at *
    generalize tN k=f at *
    have L5:(k:Int)<(N:Int):=by omega
    have c4:=HA2.out.cell (i:=4) (by omega)
    have c5:=HA2.out.cell (i:=5) (by omega)
    have c6:=HA2.out.cell (i:=6) (by omega)
    have c7:=HA2.out.cell (i:=7) (by omega)
    have f4:=HA2.out.frozen 4
    have f5:=HA2.out.frozen 5
    have f6:=HA2.out.frozen 6
    have f7:=HA2.out.frozen 7
    simp only[vf,vw] at c4 c5 c6 c7
    have HX:Hid (tB (k+1)=max B x∧(tS (k+1)=if B<x then (k:Int) else s)∧(tV (k+1)=if x<0∧v<0 then (k:Int) else v)∧tN (k+1)=f+if x<0 then 1 else 0):=⟨hB1,hS1,hV1,hN1⟩
    clear hB1 hS1 hV1 hN1
    by_cases g1:B<x
    ·have HQ:Hid (tB (k+1)=x∧tS (k+1)=k∧tN (k+1)=f∧tV (k+1)=v):=by
      have:=HX.out
      rw[if_pos g1,if_neg (show ¬ (x<0∧v<0) by omega),if_neg (show ¬ x<0 by omega)] at this
      exact hid (by omega)
     clear HX
     go_wp2_with fail
     go_roundw
     case rel=>exact⟨k+1,by omega,by go_num,HRs.out (HRs.out HA1.out _ _) _ _,by rw[HQ.out.1,HQ.out.2.1,HQ.out.2.2.1,HQ.out.2.2.2];exact hid (((HA2.out.set 4 (.int .i64 x)).set 5 (.int .i64 (k:Int))).congr fun i hi=>by
      rcases(show i=0∨i=1∨i=2∨i=3∨i=4∨i=5∨i=6∨i=7 by omega) with rfl|rfl|rfl|rfl|rfl|rfl|rfl|rfl<;>rfl),HKs.out (HKs.out HK1.out _ _) _ _⟩
     case measure=>simp[intOf];omega
    ·have d1:decide (B<x)=false:=decide_eq_false g1
     by_cases g2:x<0
     ·by_cases g3:v<0
      ·have HQ:Hid (tB (k+1)=B∧tS (k+1)=s∧tN (k+1)=f+1∧tV (k+1)=k):=by
        have:=HX.out
        rw[if_neg g1,if_pos (show(x<0∧v<0) by omega),if_pos (show x<0 by omega)] at this
        exact hid (by omega)
       clear HX g1
       go_wp2_with fail
       go_roundw
       case rel=>exact⟨k+1,by omega,by go_num,HRs.out (HRs.out HA1.out _ _) _ _,by rw[HQ.out.1,HQ.out.2.1,HQ.out.2.2.1,HQ.out.2.2.2];exact hid (((HA2.out.set 6 (.int .i64 (f+1))).set 7 (.int .i64 (k:Int))).congr fun i hi=>by
        rcases(show i=0∨i=1∨i=2∨i=3∨i=4∨i=5∨i=6∨i=7 by omega) with rfl|rfl|rfl|rfl|rfl|rfl|rfl|rfl<;>rfl),HKs.out (HKs.out HK1.out _ _) _ _⟩
       case measure=>simp[intOf];omega
      ·have d3:decide (v<0)=false:=decide_eq_false g3
       have HQ:Hid (tB (k+1)=B∧tS (k+1)=s∧tN (k+1)=f+1∧tV (k+1)=v):=by
        have:=HX.out
        rw[if_neg g1,if_neg (show ¬ (x<0∧v<0) by omega),if_pos (show x<0 by omega)] at this
        exact hid (by omega)
       clear HX g1 g3
       go_wp2_with fail
       go_roundw
       case rel=>exact⟨k+1,by omega,by go_num,HRs.out HA1.out _ _,by rw[HQ.out.1,HQ.out.2.1,HQ.out.2.2.1,HQ.out.2.2.2];exact hid ((HA2.out.set 6 (.int .i64 (f+1))).congr fun i hi=>by
        rcases(show i=0∨i=1∨i=2∨i=3∨i=4∨i=5∨i=6∨i=7 by omega) with rfl|rfl|rfl|rfl|rfl|rfl|rfl|rfl<;>rfl),HKs.out HK1.out _ _⟩
       case measure=>simp[intOf];omega
     ·have d2:decide (x<0)=false:=decide_eq_false g2
      have HQ:Hid (tB (k+1)=B∧tS (k+1)=s∧tN (k+1)=f∧tV (k+1)=v):=by
       have:=HX.out
       rw[if_neg g1,if_neg (show ¬ (x<0∧v<0) by omega),if_neg (show ¬ x<0 by omega)] at this
       exact hid (by omega)
      clear HX g1 g2
      go_wp2_with fail
      go_roundw
      case rel=>exact⟨k+1,by omega,by go_num,HA1,by rw[HQ.out.1,HQ.out.2.1,HQ.out.2.2.1,HQ.out.2.2.2];exact hid (HA2.out),HK1⟩
      case measure=>simp[intOf];omega
   ·obtain rfl:k=N:=by omega
    have d:decide (k<k)=false:=decide_eq_false hlt
    clear hlt
    have HW:=hid (vw_row HA2.out)
    go_wp2_with (first
     | (refine wpList_load_row rfl 228 _ rfl (w.heap.size+1+1) rfl 228 _ (0,0) _ HW.out Tryz.underlying228 rfl (by kernel_rfl) ?_)
     | (refine wpList_store_is rfl 228 _ _ rfl (w.heap.size+1) 8 228 _ (vf a p (.slice A k c) e (tB k) (tS k) (tN k) (tV k)) (vw a p (.slice A k c) e (tB k) (tS k) (tN k) (tV k)) rfl rfl HA1.out (by kernel_rfl) rfl (fun i hi=>vw_get _ _ _ _ _ _ _ _ i hi) (fun i hi=>vf_one _ _ _ _ _ _ _ _ _ _ i hi) ?_;intro W6 hrow6 hkeep6 _))
    exact bodyPost_ret (results_cell_row rfl _ _ _ _ _ (0,0) _ rfl (vw_row hrow6) Tryz.underlying228 rfl (by kernel_rfl)) rfl ⟨rfl,HK1.out.kept hkeep6 fun i hi=>by omega⟩
end Go.Proofs.YtphppbonljdibaaGreat
