/- TopOptimal, of whatever header and list of actions come in: the law returns true, does not panic, and leaves its arguments as they were. Conditions: the bulk of the arguments is at most 1048576, which is the given statement's own bound (TopOptimalUptoSaid); no other. -/
import Derived.Test.YtphppbonljdibaaGreatTB42
import Derived.Test.YtphppbonljdibaaGreatTB43
import Derived.Deep.SlicePairs
import Derived.JoinedCond
set_option maxRecDepth 100000
set_option maxHeartbeats 4000000
set_option linter.unusedVariables false
set_option linter.unusedSimpArgs false
namespace Go.Proofs.YtphppbonljdibaaGreat
open Go.ChangeShapes Go.WideShapes Go.ChangeAt Go.RowKit
theorem new_no (l n:Int)(w:World)(h:l<0∨65536≤l∨n<0∨1048576<n):
 Calls Tryz.prog 13 #[.int .i64 l,.int .i64 n] w fun e w'=>e=.returned (.tuple #[.pointer none,.int .i64 2])∧w=w':=by
 by_cases hl:0≤l∧l<65536
 ·have HL:=hid (fun W=>long_any l W)
  rw[show decide (0≤l∧l<65536)=true from decide_eq_true hl] at HL
  by_cases hn:n<0
  ·clear h hl
   go_enter Tryz.func13,Tryz.ntmps13
   go_wp2_with (go_at_call 47;refine(HL.out _).mono ?_;rintro e w1 ⟨rfl,rfl⟩)
   go_ret2
   exact⟨rfl,rfl⟩
  ·have d1:decide (n<0)=false:=decide_eq_false hn
   have d2:1048576<n:=by omega
   clear h hl
   go_enter Tryz.func13,Tryz.ntmps13
   go_wp2_with (go_at_call 47;refine(HL.out _).mono ?_;rintro e w1 ⟨rfl,rfl⟩)
   go_ret2
   exact⟨rfl,rfl⟩
 ·have HL:=hid (fun W=>long_any l W)
  rw[show decide (0≤l∧l<65536)=false from decide_eq_false hl] at HL
  clear h hl
  go_enter Tryz.func13,Tryz.ntmps13
  go_wp2_with (go_at_call 47;refine(HL.out _).mono ?_;rintro e w1 ⟨rfl,rfl⟩)
  go_ret2
  exact⟨rfl,rfl⟩
end Go.Proofs.YtphppbonljdibaaGreat
namespace Go.Proofs.YtphppbonljdibaaGreat
namespace Mc
theorem chk_ok {m:St}{l:List Act}{k:Nat}(h:k<l.length)(e:(step m (l.getD k (0,0)).1 (l.getD k (0,0)).2).2=0):
 chk m (l.drop k) k=chk (step m (l.getD k (0,0)).1 (l.getD k (0,0)).2).1 (l.drop (k+1)) (k+1):=by
 rw[drop_at l h,chk,if_pos e]
theorem chk_bad {m:St}{l:List Act}{k:Nat}(h:k<l.length)(e:(step m (l.getD k (0,0)).1 (l.getD k (0,0)).2).2≠0):
 chk m (l.drop k) k=(0,(k:Int),(step m (l.getD k (0,0)).1 (l.getD k (0,0)).2).2):=by
 rw[drop_at l h,chk,if_neg e]
theorem chk_end {m:St}{l:List Act}:chk m (l.drop l.length) l.length=if m.pend=0 then (m.tot,(l.length:Int),0) else (0,(l.length:Int),19):=by
 rw[List.drop_length];rfl
end Mc
end Go.Proofs.YtphppbonljdibaaGreat
namespace Go.Proofs.YtphppbonljdibaaGreat
open Go.ChangeShapes Go.WideShapes Go.ChangeAt Go.RowKit
theorem total_any (m:Mc.St)(b:Nat)(v:Value)(w:World)(hM:Mach w b v m):
 Calls Tryz.prog 44 #[.pointer (some ⟨b,0,none⟩)] w fun e w'=>e=.returned (.int .i64 m.tot)∧w=w':=by
 have c3:=hM.1.cell (i:=3) (by omega)
 simp only[mf] at c3
 generalize m.tot=t at *
 clear hM
 go_enter Tryz.func44,Tryz.ntmps44
 go_wp2_with fail
 go_ret
 exact⟨rfl,rfl⟩
theorem done_any (m:Mc.St)(b:Nat)(v:Value)(w:World)(hM:Mach w b v m):
 Calls Tryz.prog 43 #[.pointer (some ⟨b,0,none⟩)] w fun e w'=>e=.returned (.bool (m.pend==0))∧w=w':=by
 have c1:=hM.1.cell (i:=1) (by omega)
 simp only[mf] at c1
 generalize m.pend=p at *
 clear hM
 go_enter Tryz.func43,Tryz.ntmps43
 go_wp2_with fail
 go_ret
 exact⟨rfl,rfl⟩
end Go.Proofs.YtphppbonljdibaaGreat
namespace Go.Proofs.YtphppbonljdibaaGreat
open Go.ChangeShapes Go.WideShapes Go.ChangeAt Go.RowKit
theorem check_no (l n:Int)(v:Value)(w:World)(h:l<0∨65536≤l∨n<0∨1048576<n):
 Calls Tryz.prog 11 #[.int .i64 l,.int .i64 n,v] w fun e w'=>e=.returned (.tuple #[.int .i64 0,.int .i64 0,.int .i64 2])∧w=w':=by
 have HN:=hid (fun W=>new_no l n W h)
 clear h
 go_enter Tryz.func11,Tryz.ntmps11
 go_wp2_with fail
 go_step3
 go_wp2_with (go_at_call 13;refine(HN.out _).mono ?_;rintro e w1 ⟨rfl,rfl⟩)
 rw[Exit.noGoto_ret]
 go_ret3
 exact⟨rfl,rfl⟩
def CheckP (w:World)(r:Int×Int×Int)(e:Ending)(w':World):Prop:=e=.returned (.tuple #[.int .i64 r.1,.int .i64 r.2.1,.int .i64 r.2.2])∧KW w w'
theorem check_yes (l:Int)(n:Nat)(A:Option Addr)(c:Nat)(list:List Mc.Act)(w:World)(l0:0≤l)(l1:l<65536)(hn:n≤1048576)(hlen:list.length≤1099511627776)(hA:Acts w A list):
 Calls Tryz.prog 11 #[.int .i64 l,.int .i64 n,.slice A list.length c] w (CheckP w (Mc.chk (Mc.new l n) list 0)):=by
 have HN:=hid (fun W=>new_yes l n W l0 l1 hn)
 have HA:=hid hA
 have HI:=hid (Mc.new_inv l n l0 l1 hn)
 have HC:=hid (show Mc.chk (Mc.new l n) list 0=Mc.chk (Mc.new l n) (list.drop 0) 0 from rfl)
 have HT:=hid (show(Mc.new l n).tot=0 from rfl)
 generalize Mc.new l n=m0 at *
 generalize Mc.chk m0 list 0=r at *
 clear hA
 generalize hN:list.length=N at *
 have HL:=hid hN
 clear hN
 go_enter Tryz.func11,Tryz.ntmps11
 go_wp2_with fail
 go_step3
 go_wp2_with fail
 refine(HN.out _).mono ?_
 rintro e w1 ⟨b,v,rfl,hm,ho,hk⟩
 have HM:=hid hm
 have HO:=hid ho
 have HK:=hid hk
 clear hm ho hk
 go_wp2_with fail
 go_step3
 go_wp2_with fail
 go_loopw [7,8,23] (fun at_ e i wr=>∃ (k:Nat) (m:Mc.St),k≤N∧i=.int .i64 k∧at_=.int .i64 k∧e=.int .i64 0∧Hid (Mach wr b v m)∧Hid (Mc.Inv m)∧Hid (m.tot≤65535 * k)∧Hid (r=Mc.chk m (list.drop k) k)∧Hid (KW w wr)) (fun _ _ i _=>N - (intOf i).toNat)
 case atStart=>exact⟨0,m0,by omega,rfl,rfl,rfl,HM,HI,by show _≤_;rw[HT.out];simp,HC,HK⟩
 case round=>
  obtain⟨k,m,hk,rfl,rfl,rfl,HM1,HI1,HT1,HC1,HK1⟩:=hrel
  clear HM HI HC HK HT HN m0 w1
  by_cases hlt:k<N
  ·obtain⟨b',off,rfl,hb',hc1,hc2⟩:=(HA.out.kw HK1.out).at_ (show k<list.length by rw[HL.out];exact hlt)
   have HOK:=hid (fun e=>HC1.out.trans (Mc.chk_ok (m:=m) (l:=list) (k:=k) (by rw[HL.out];exact hlt) e))
   have HBAD:=hid (fun e=>HC1.out.trans (Mc.chk_bad (m:=m) (l:=list) (k:=k) (by rw[HL.out];exact hlt) e))
   generalize (list.getD k (0,0)).1=x at *
   generalize (list.getD k (0,0)).2=y at *
   have HD:=hid (fun W (h:Mach W b v m)=>do_any m x y b v W h HI1.out (by have:=HT1.out;omega))
   have HS:=hid (Mc.step_tot m x y)
   have HI2:=hid (HI1.out.step x y)
   generalize (Mc.step m x y).1=m2 at *
   generalize (Mc.step m x y).2=er at *
   have L5:(k:Int)<(N:Int):=by omega
   go_wp2_with fail
   refine(HD.out _ (HM1.out.kw ((KW.refl wr).alloc _))).mono ?_
   rintro e w2 ⟨rfl,hm,hk⟩
   have HM2:=hid hm
   have HK2:Hid (KW w w2):=(HK1.out.alloc _).kept hk HO.out
   clear hm hk
   by_cases he:er=0
   ·have HC2:=hid (HOK.out he)
    subst he
    have HT2:Hid (m2.tot≤65535 * ((k+1:Nat):Int)):=by
     have h1:=HS.out.2
     have h2:=HT1.out
     show _≤_
     omega
    clear HBAD HOK
    go_wp2_with fail
    go_roundw
    case rel=>exact⟨k+1,m2,by omega,by go_num,by go_num,rfl,HM2,HI2,HT2,HC2,HK2⟩
    case measure=>simp[intOf];omega
   ·have HC2:=hid (HBAD.out he)
    have d:(er != 0)=true:=by simpa using he
    have d2:(er==0)=false:=by simpa using he
    clear HBAD HOK he
    go_wp2_with fail
    rw[Exit.noGoto_ret]
    go_ret3
    exact⟨by rw[HC2.out];rfl,HK2.out⟩
  ·obtain rfl:k=N:=by omega
   have HE:=hid (show r=if m.pend=0 then (m.tot,(list.length:Int),0) else (0,(list.length:Int),19) from HC1.out.trans (by rw[← HL.out];exact Mc.chk_end))
   have HDn:=hid (fun W (h:Mach W b v m)=>done_any m b v W h)
   have HTt:=hid (fun W (h:Mach W b v m)=>total_any m b v W h)
   by_cases hp:m.pend=0
   ·have HE2:=hid (HE.out.trans (if_pos hp))
    rw[show(m.pend==0)=true from by simpa using hp] at HDn
    clear hp HE hlt
    go_wp2_with (first
     | (go_at_call 43;refine(HDn.out _ HM1.out).mono ?_;rintro e w2 ⟨rfl,rfl⟩)
     | (go_at_call 44;refine(HTt.out _ HM1.out).mono ?_;rintro e w2 ⟨rfl,rfl⟩))
    rw[Exit.noGoto_ret]
    go_ret3
    exact⟨by rw[HE2.out,HL.out];rfl,HK1.out⟩
   ·have HE2:=hid (HE.out.trans (if_neg hp))
    rw[show(m.pend==0)=false from by simpa using hp] at HDn
    clear hp HE hlt
    go_wp2_with (go_at_call 43;refine(HDn.out _ HM1.out).mono ?_;rintro e w2 ⟨rfl,rfl⟩)
    rw[Exit.noGoto_ret]
    go_ret3
    exact⟨by rw[HE2.out,HL.out];rfl,HK1.out⟩
theorem check_any (l n:Int)(A:Option Addr)(c:Nat)(list:List Mc.Act)(w:World)(hlen:list.length≤1099511627776)(hA:Acts w A list):
 Calls Tryz.prog 11 #[.int .i64 l,.int .i64 n,.slice A list.length c] w (CheckP w (Mc.check l n list)):=by
 unfold Mc.check
 by_cases h:0≤l∧l<65536∧0≤n∧n≤1048576
 ·rw[if_pos h]
  obtain⟨k,rfl⟩:∃ k:Nat,n=k:=⟨n.toNat,by omega⟩
  rw[Int.toNat_natCast]
  exact check_yes l k A c list w h.1 h.2.1 (by omega) hlen hA
 ·rw[if_neg h]
  exact(check_no l n _ w (by omega)).mono fun e w' ⟨he,hw⟩=>⟨he,hw ▸ KW.refl w⟩
end Go.Proofs.YtphppbonljdibaaGreat
namespace Go.Proofs.YtphppbonljdibaaGreat.Ch
theorem tt_step (l s:Nat)(hs:1≤s)(hl:1≤l):tt l s - tt (l - 1) s=rp l s:=by
 have e:tt (l - 1) s=gt (l - 1) s (rp l s):=tt_is hs (by have:=rp_enough l s hs;omega) (fun j h=>by have:=rp_less l s hs h;omega)
 rw[e]
 unfold tt gt
 have:((l - 1:Nat):Int)=(l:Int) - 1:=by omega
 rw[this,Int.mul_sub];omega
theorem tt_more (l s:Nat)(hs:1≤s):tt l (s+1)≤tt l s:=by
 refine Int.le_trans ?_ (gt_tt l s (rp l (s+1)) hs)
 unfold tt gt
 have:bin (s+rp l (s+1)) (s+1)≤bin (s+1+rp l (s+1)) (s+1+1):=by
  rw[show s+1+rp l (s+1)=(s+rp l (s+1))+1 from by omega,bin_succ];omega
 omega
theorem tt_most (l s:Nat)(hs:1≤s):tt l s≤tt l 1:=by
 obtain⟨d,rfl⟩:∃ d,s=1+d:=⟨s - 1,by omega⟩
 clear hs
 induction d with
 | zero=>exact Int.le_refl _
 | succ d ih=>exact Int.le_trans (tt_more l (1+d) (by omega)) ih
end Go.Proofs.YtphppbonljdibaaGreat.Ch
namespace Go.Proofs.YtphppbonljdibaaGreat
namespace Lb
open Mc (St Does)
def tq (x:Int)(c:Nat):Int:=Ch.tt x.toNat c
theorem tq_nn (x:Int){c:Nat}(hc:1≤c):0≤tq x c:=Ch.tt_nn _ _ hc
theorem tq_one (c:Nat):tq 1 c=0:=Rv.tt_1 c
theorem tq_more (x:Int){c:Nat}(hc:1≤c):tq x (c+1)≤tq x c:=Ch.tt_more _ _ hc
theorem tq_parts {n m:Int}{c:Nat}(hc:2≤c)(h0:0≤m)(h1:m≤n):tq n c≤m+tq m c+tq (n - m) (c - 1):=by
 by_cases h2:2≤n
 ·have h:=Ch.tt_parts n.toNat c m.toNat hc (by omega) (by omega)
  unfold tq
  rw[show(n - m).toNat=n.toNat - m.toNat by omega]
  have e:((m.toNat:Nat):Int)=m:=by omega
  rw[e] at h
  omega
 ·have e:tq n c=0:=by
   rcases(show n.toNat=0∨n.toNat=1 by omega) with e|e<;>unfold tq<;>rw[e]
   ·exact Rv.tt_0 c
   ·exact Rv.tt_1 c
  have:=tq_nn m (show 1≤c by omega)
  have:=tq_nn (n - m) (show 1≤c - 1 by omega)
  omega
theorem rp_lt (n s:Nat)(hs:1≤s)(hn:1≤n):Ch.rp n s≤n - 1:=Rv.rp_min hs (by have:=Ch.be_ge s (n - 1) hs;omega)
theorem tq_step {n:Int}{c:Nat}(hc:1≤c)(hn:1≤n):tq n c=tq (n - 1) c+(Ch.rp n.toNat c:Nat):=by
 have h:=Ch.tt_step n.toNat c hc (by omega)
 unfold tq
 rw[show(n - 1).toNat=n.toNat - 1 by omega]
 omega
theorem tq_last {n:Int}{c:Nat}(hc:1≤c)(hn:1≤n):tq n c≤(n - 1)+tq (n - 1) c:=by
 rw[tq_step hc hn]
 have:=rp_lt n.toNat c hc (by omega)
 omega
theorem rp_down (n s:Nat)(hs:1≤s)(hn:1≤n):Ch.rp n s≤Ch.rp (n - 1) s+1:=by
 refine Rv.rp_min hs ?_
 have h1:=Ch.rp_enough (n - 1) s hs
 obtain⟨t,rfl⟩:∃ t,s=t+1:=⟨s - 1,by omega⟩
 have h2:=Ch.be_two t (Ch.rp (n - 1) (t+1))
 have h3:1≤Ch.be t (Ch.rp (n - 1) (t+1)+1):=Ch.bin_pos (by omega)
 omega
theorem sum_down (s:Nat)(hs:1≤s)(q:Nat):∀ u:Nat,u<Ch.rp (q+u+1) s→2 * Ch.tt q s+(u:Int) * (u+1)≤2 * Ch.tt (q+u) s:=by
 intro u
 induction u with
 | zero=>intro _;simp
 | succ u ih=>
   intro h
   have h1:=rp_down (q+(u+1)+1) s hs (by omega)
   rw[show q+(u+1)+1 - 1=q+u+1 by omega] at h1
   have h2:=ih (by omega)
   have h3:=Ch.tt_step (q+u+1) s hs (by omega)
   rw[show q+u+1 - 1=q+u by omega] at h3
   have h4:((u+1:Nat):Int)≤(Ch.rp (q+u+1) s:Nat):=by omega
   have h5:((u+1:Nat):Int) * (((u+1:Nat):Int)+1)=(u:Int) * (u+1)+2 * ((u:Int)+1):=by push_cast;grind
   rw[h5,show q+(u+1)=q+u+1 by omega]
   omega
theorem tq_keep {q u:Int}{c:Nat}(hc:2≤c)(hq:0≤q)(hu:0≤u)(h:u<(Ch.rp (q+u+1).toNat c:Nat)):tq q c+tq (u+1) (c - 1)≤tq (q+u) c:=by
 obtain⟨a,rfl⟩:∃ a:Nat,q=a:=⟨q.toNat,by omega⟩
 obtain⟨b,rfl⟩:∃ b:Nat,u=b:=⟨u.toNat,by omega⟩
 have h1:=sum_down c (by omega) a b (by rw[show((a:Int)+b+1).toNat=a+b+1 by omega] at h;omega)
 have h2:=Ch.tt_most (b+1) (c - 1) (by omega)
 rw[Ch.tt_one (b+1) (by omega)] at h2
 unfold tq
 rw[show((a:Int)+b).toNat=a+b by omega,show((b:Int)+1).toNat=b+1 by omega,Int.toNat_natCast]
 have e:((b+1:Nat):Int) * (((b+1:Nat):Int) - 1)=(b:Int) * (b+1):=by
  have:((b+1:Nat):Int)=(b:Int)+1:=by omega
  rw[this,show(b:Int)+1 - 1=b by omega,Int.mul_comm]
 rw[e] at h2
 generalize (b:Int) * ((b:Int)+1)=z at *
 omega
abbrev Link:=Int×Int
def Chain (A:Int→Prop):Int→List Link→Int→Nat→Prop
 | y,[],p,s=>y<p
 | y,(h,b)::r,p,s=>y<h∧h≤b∧A h∧1≤s∧Chain A b r p (s - 1)
def val:Int→List Link→Int→Nat→Int
 | y,[],p,s=>tq (p - y) (s+1)
 | y,(h,b)::r,p,s=>tq (b - y) (s+1)+(b - h)+val b r p (s - 1)
def top:Int→List Link→Int
 | y,[]=>y
 | y,(h,b)::r=>top b r
theorem Chain.mono {A B:Int→Prop}(hAB:∀ x,A x→B x):∀ {r:List Link} {y p:Int} {s:Nat},Chain A y r p s→Chain B y r p s
 | [],y,p,s,h=>h
 | (h,b)::r,y,p,s,⟨h1,h2,h3,h4,h5⟩=>⟨h1,h2,hAB h h3,h4,Chain.mono hAB h5⟩
theorem Chain.lt {A:Int→Prop}:∀ {r:List Link} {y p:Int} {s:Nat},Chain A y r p s→y≤top y r∧top y r<p
 | [],y,p,s,h=>⟨Int.le_refl _,h⟩
 | (h,b)::r,y,p,s,⟨h1,h2,h3,h4,h5⟩=>by
  have:=Chain.lt h5
  show y≤top b r∧top b r<p
  omega
theorem Chain.up {A:Int→Prop}{p2:Int}:∀ {r:List Link} {y p:Int} {s:Nat},Chain A y r p s→top y r<p2→Chain A y r p2 s
 | [],y,p,s,h,h2=>h2
 | (h,b)::r,y,p,s,⟨h1,h2,h3,h4,h5⟩,h6=>⟨h1,h2,h3,h4,Chain.up h5 h6⟩
theorem val_more {A:Int→Prop}:∀ {r:List Link} {y p:Int} {s:Nat},Chain A y r p s→val y r p (s+1)≤val y r p s
 | [],y,p,s,h=>tq_more _ (by omega)
 | (h,b)::r,y,p,s,⟨h1,h2,h3,h4,h5⟩=>by
  obtain⟨t,rfl⟩:∃ t,s=t+1:=⟨s - 1,by omega⟩
  have ih:=val_more h5
  have:=tq_more (b - y) (show 1≤t+1+1 by omega)
  simp only[val,Nat.add_sub_cancel] at *
  omega
theorem Chain.more {A:Int→Prop}:∀ {r:List Link} {y p:Int} {s:Nat},Chain A y r p s→Chain A y r p (s+1)
 | [],y,p,s,h=>h
 | (h,b)::r,y,p,s,⟨h1,h2,h3,h4,h5⟩=>by
  obtain⟨t,rfl⟩:∃ t,s=t+1:=⟨s - 1,by omega⟩
  exact⟨h1,h2,h3,by omega,Chain.more h5⟩
theorem val_drop {A:Int→Prop}{y b p:Int}{r:List Link}{s:Nat}(hy:y≤b)(hs:1≤s)(h:Chain A b r p (s - 1)):
 val y r p s≤(b - y)+tq (b - y) (s+1)+val b r p (s - 1):=by
 obtain⟨t,rfl⟩:∃ t,s=t+1:=⟨s - 1,by omega⟩
 rw[Nat.add_sub_cancel] at *
 cases r with
 | nil=>
   have h2:b<p:=h
   have:=tq_parts (n:=p - y) (m:=b - y) (c:=t+1+1) (by omega) (by omega) (by omega)
   simp only[val]
   rw[show p - y - (b - y)=p - b by omega,Nat.add_sub_cancel] at this
   omega
 | cons x r=>
   obtain⟨h',b'⟩:=x
   obtain⟨h1,h2,h3,h4,h5⟩:=h
   obtain⟨u,rfl⟩:∃ u,t=u+1:=⟨t - 1,by omega⟩
   have:=tq_parts (n:=b' - y) (m:=b - y) (c:=u+1+1+1) (by omega) (by omega) (by omega)
   have hm:=val_more h5
   simp only[val,Nat.add_sub_cancel] at *
   rw[show b' - y - (b - y)=b' - b by omega] at this
   omega
theorem val_last {A:Int→Prop}:∀ {r:List Link} {y p:Int} {s:Nat},Chain A y r p s→val y r (p+1) s≤(p - top y r)+val y r p s
 | [],y,p,s,h=>by
   have h':y<p:=h
   have:=tq_last (n:=p+1 - y) (c:=s+1) (by omega) (by omega)
   simp only[val,top]
   rw[show p+1 - y - 1=p - y by omega] at this
   omega
 | (h,b)::r,y,p,s,⟨h1,h2,h3,h4,h5⟩=>by
  have:=val_last h5
  simp only[val,top]
  omega
theorem Chain.start {A:Int→Prop}{r:List Link}{y b p:Int}{s:Nat}(hy:y≤b)(h:Chain A b r p s):Chain A y r p s:=by
 cases r with
 | nil=>have h':b<p:=h;show y<p;omega
 | cons x r=>
   obtain⟨h',b'⟩:=x
   obtain⟨h1,h2,h3,h4,h5⟩:=h
   exact⟨by omega,h2,h3,h4,h5⟩
theorem top_mono {y b:Int}(hy:y≤b)(r:List Link):top y r≤top b r:=by
 cases r with
 | nil=>exact hy
 | cons x r=>exact Int.le_refl _
theorem Chain.above {H:Int→Prop}{z:Int}:∀ {r:List Link} {b p:Int} {s:Nat},z≤b→Chain (fun x=>H x∨x=z) b r p s→Chain H b r p s
 | [],b,p,s,hz,h=>h
 | (h',b')::r,b,p,s,hz,⟨h1,h2,h3,h4,h5⟩=>⟨h1,h2,h3.resolve_right (by omega),h4,Chain.above (by omega) h5⟩
theorem Chain.below {H:Int→Prop}{z:Int}:∀ {r:List Link} {y p:Int} {s:Nat},top y r<z→Chain (fun x=>H x∨x=z) y r p s→Chain H y r p s
 | [],y,p,s,hz,h=>h
 | (h',b')::r,y,p,s,hz,⟨h1,h2,h3,h4,h5⟩=>by
  have hl:=Chain.lt h5
  have hz':top b' r<z:=hz
  exact⟨h1,h2,h3.resolve_right (by omega),h4,Chain.below hz' h5⟩
theorem Chain.move {H:Int→Prop}{a z:Int}(haz:a<z):∀ {r:List Link} {y p:Int} {s:Nat},Chain (fun x=>H x∨x=z) y r p s →
 ∃ r',Chain (fun x=>H x∨x=a) y r' p s∧val y r' p s≤(z - a)+val y r p s∧top y r'≤top y r
 | [],y,p,s,h=>⟨[],h,by simp only[val];omega,Int.le_refl _⟩
 | (h',b)::r,y,p,s,⟨h1,h2,h3,h4,h5⟩=>by
  by_cases hH:H h'
  ·obtain⟨r',g1,g2,g3⟩:=Chain.move haz h5
   exact⟨(h',b)::r',⟨h1,h2,.inl hH,h4,g1⟩,by simp only[val];omega,g3⟩
  ·have hz:h'=z:=h3.resolve_left hH
   have h6:Chain H b r p (s - 1):=Chain.above (by omega) h5
   have h7:Chain (fun x=>H x∨x=a) b r p (s - 1):=h6.mono fun x hx=>.inl hx
   by_cases hy:y<a
   ·exact⟨(a,b)::r,⟨hy,by omega,.inr rfl,h4,h7⟩,by simp only[val];omega,Int.le_refl _⟩
   ·have hd:=val_drop (y:=y) (b:=b) (p:=p) (r:=r) (s:=s) (by omega) h4 h7
    refine⟨r,?_,by simp only[val];omega,?_⟩
    ·have:=(h7.start (y:=y) (by omega)).more
     rwa [show s - 1+1=s by omega] at this
    ·exact top_mono (by omega) r
theorem Chain.keep {A:Int→Prop}{h p:Int}(hp:h≤p)(hA:A h):∀ {r:List Link} {y:Int} {s:Nat},Chain A y r p s→top y r<h→r.length<s →
 val y r (p+1) s≤(p - h)+val y r p s∨∃ r',Chain A y r' (p+1) s∧val y r' (p+1) s≤(p - h)+val y r p s∧top y r'<p+1
 | [],y,s,hc,ht,hl=>by
   have hc':y<p:=hc
   have ht':y<h:=ht
   simp only[List.length_nil] at hl
   by_cases c:((Ch.rp (p+1 - y).toNat (s+1):Nat):Int)≤p - h
   ·left
    have:=tq_step (n:=p+1 - y) (c:=s+1) (by omega) (by omega)
    simp only[val]
    rw[this,show p+1 - y - 1=p - y by omega]
    omega
   ·right
    have:=tq_keep (q:=h - y) (u:=p - h) (c:=s+1) (by omega) (by omega) (by omega) (by rw[show h - y+(p - h)+1=p+1 - y by omega];omega)
    refine⟨[(h,h)],⟨ht',Int.le_refl _,hA,by omega,by show h<p+1;omega⟩,?_,by show h<p+1;omega⟩
    simp only[val]
    rw[show s - 1+1=s by omega,show p+1 - h=p - h+1 by omega]
    rw[Nat.add_sub_cancel,show h - y+(p - h)=p - y by omega] at this
    omega
 | (h',b)::r,y,s,⟨h1,h2,h3,h4,h5⟩,ht,hl=>by
  simp only[List.length_cons] at hl
  rcases Chain.keep hp hA h5 ht (by omega) with g|⟨r',g1,g2,g3⟩
  ·left;simp only[val];omega
  ·right
   exact⟨(h',b)::r',⟨h1,h2,h3,h4,g1⟩,by simp only[val];omega,g3⟩
theorem Chain.srcs {A:Int→Prop}:∀ {r:List Link} {y p:Int} {s:Nat},Chain A y r p s→(y::r.map (·.1)).Pairwise (· < ·)∧∀ x∈r.map (·.1),A x∧y<x∧x≤top y r
 | [],y,p,s,h=>⟨by simp,fun x hx=>by simp at hx⟩
 | (h',b)::r,y,p,s,⟨h1,h2,h3,h4,h5⟩=>by
  obtain⟨g1,g2⟩:=Chain.srcs h5
  have hl:=(Chain.lt h5).1
  rw[List.pairwise_cons] at g1
  refine⟨?_,fun x hx=>?_⟩
  ·rw[List.map_cons,List.pairwise_cons,List.pairwise_cons]
   refine⟨fun x hx=>?_,fun x hx=>?_,g1.2⟩
   ·rcases List.mem_cons.1 hx with rfl|hx
    ·exact h1
    ·have:=(g2 x hx).2.1;show y<x;omega
   ·have:=(g2 x hx).2.1;show h'<x;omega
  ·rw[List.map_cons] at hx
   rcases List.mem_cons.1 hx with rfl|hx
   ·exact⟨h3,h1,by show x≤top b r;omega⟩
   ·obtain⟨q1,q2,q3⟩:=g2 x hx
    exact⟨q1,by omega,q3⟩
theorem asc_len:∀ (l t:List Int),l.Pairwise (· < ·)→(∀ x∈l,x∈t)→l.length≤t.length
 | [],t,_,_=>Nat.zero_le _
 | x::l,t,h,hs=>by
   rw[List.pairwise_cons] at h
   have hx:=hs x (by simp)
   have:=asc_len l (t.erase x) h.2 fun z hz=>by
    rw[List.mem_erase_of_ne (by have:=h.1 z hz;omega)]
    exact hs z (List.mem_cons_of_mem _ hz)
   rw[List.length_erase_of_mem hx] at this
   have hp:0<t.length:=List.length_pos_of_mem hx
   simp only[List.length_cons]
   omega
def Opt (S:Nat)(A:Int→Prop)(p x:Int):Prop:=
 (p=0∧0≤x)∨(p=1∧A 0∧0≤x) ∨
 (0<p∧A 0∧1≤S∧∃ r,Chain A 0 r p (S - 1)∧val 0 r p (S - 1)≤x) ∨
 (2≤p∧A 0∧1≤S∧∃ r h,Chain A 0 r (p - 1) (S - 1)∧top 0 r<h∧h≤p - 1∧A h∧(p - 1 - h)+val 0 r (p - 1) (S - 1)≤x)
theorem Opt.mono {S:Nat}{A B:Int→Prop}{p x:Int}(hAB:∀ x,A x→B x)(h:Opt S A p x):Opt S B p x:=by
 rcases h with h|⟨h1,h2,h3⟩|⟨h1,h2,h3,r,h4,h5⟩|⟨h1,h2,h3,r,z,h4,h5,h6,h7,h8⟩
 ·exact .inl h
 ·exact .inr (.inl ⟨h1,hAB _ h2,h3⟩)
 ·exact .inr (.inr (.inl ⟨h1,hAB _ h2,h3,r,h4.mono hAB,h5⟩))
 ·exact .inr (.inr (.inr ⟨h1,hAB _ h2,h3,r,z,h4.mono hAB,h5,h6,hAB _ h7,h8⟩))
theorem Opt.advance {S:Nat}{H:Int→Prop}{a z p x:Int}(ha:0≤a)(haz:a<z)(h:Opt S (fun x=>H x∨x=z) p x):Opt S (fun x=>H x∨x=a) p (x+(z - a)):=by
 have h0:∀ {P:Int→Prop},(H 0∨(0:Int)=z)→H 0∨(0:Int)=a:=fun h=>.inl (h.resolve_right (by omega))
 rcases h with h|⟨h1,h2,h3⟩|⟨h1,h2,h3,r,h4,h5⟩|⟨h1,h2,h3,r,y,h4,h5,h6,h7,h8⟩
 ·exact .inl ⟨h.1,by omega⟩
 ·exact .inr (.inl ⟨h1,h0 (P:=H) h2,by omega⟩)
 ·obtain⟨r',g1,g2,_⟩:=h4.move haz
  exact .inr (.inr (.inl ⟨h1,h0 (P:=H) h2,h3,r',g1,by omega⟩))
 ·by_cases hH:H y
  ·obtain⟨r',g1,g2,g3⟩:=h4.move haz
   exact .inr (.inr (.inr ⟨h1,h0 (P:=H) h2,h3,r',y,g1,by omega,h6,.inl hH,by omega⟩))
  ·have hy:y=z:=h7.resolve_left hH
   have g:=(h4.below (by omega)).mono (B:=fun x=>H x∨x=a) fun x hx=>.inl hx
   by_cases ht:top 0 r<a
   ·exact .inr (.inr (.inr ⟨h1,h0 (P:=H) h2,h3,r,a,g,ht,by omega,.inr rfl,by omega⟩))
   ·have hv:=val_last g
    rw[show p - 1+1=p by omega] at hv
    exact .inr (.inr (.inl ⟨by omega,h0 (P:=H) h2,h3,r,g.up (by have:=g.lt;omega),by omega⟩))
theorem Opt.back {tags:List Int}{a p x:Int}(hp:1≤p)(ha:a=p - 1)(h:Opt tags.length (fun x=>(0≤x∧x∈tags)∨x=a) (p - 1) x):Opt tags.length (fun x=>(0≤x∧x∈tags)∨x=a) p x:=by
 subst ha
 rcases h with⟨h1,h2⟩|⟨h1,h2,h3⟩|⟨h1,h2,h3,r,h4,h5⟩|⟨h1,h2,h3,r,y,h4,h5,h6,h7,h8⟩
 ·exact .inr (.inl ⟨by omega,.inr (by omega),h2⟩)
 ·have hS:1≤tags.length:=by
   rcases h2 with h2|h2
   ·have:=List.length_pos_of_mem h2.2;omega
   ·omega
  refine .inr (.inr (.inr ⟨by omega,h2,hS,[],p - 1,by show(0:Int)<p - 1;omega,by show(0:Int)<p - 1;omega,Int.le_refl _,.inr rfl,?_⟩))
  simp only[val]
  rw[show p - 1 - 0=1 by omega,tq_one]
  omega
 ·exact .inr (.inr (.inr ⟨by omega,h2,h3,r,p - 1,h4,h4.lt.2,Int.le_refl _,.inr rfl,by omega⟩))
 ·obtain⟨g1,g2⟩:=h4.srcs
  have hroom:r.length<tags.length - 1:=by
   have:=asc_len ((0::r.map (·.1))++[y]) tags (by
    rw[List.pairwise_append]
    refine⟨g1,by simp,fun u hu v hv=>?_⟩
    rw[List.mem_singleton] at hv
    subst hv
    rcases List.mem_cons.1 hu with rfl|hu
    ·have:=h4.lt.1;omega
    ·have:=(g2 u hu).2.2;omega) fun u hu=>by
    have key:∀ u,((0≤u∧u∈tags)∨u=p - 1)→u<p - 1→u∈tags:=fun u h1 h2=>(h1.resolve_right (by omega)).2
    rcases List.mem_append.1 hu with hu|hu
    ·rcases List.mem_cons.1 hu with rfl|hu
     ·exact key 0 h2 (by omega)
     ·have:=g2 u hu
      exact key u this.1 (by omega)
    ·rw[List.mem_singleton] at hu
     subst hu
     exact key u h7 (by omega)
   simp only[List.length_append,List.length_cons,List.length_map,List.length_nil] at this
   omega
  rcases Chain.keep (h:=y) (p:=p - 1 - 1) h6 h7 h4 h5 hroom with g|⟨r',k1,k2,k3⟩
  ·rw[show p - 1 - 1+1=p - 1 by omega] at g
   exact .inr (.inr (.inr ⟨by omega,h2,h3,r,p - 1,h4.up (by have:=h4.lt;omega),by have:=h4.lt;omega,Int.le_refl _,.inr rfl,by omega⟩))
  ·rw[show p - 1 - 1+1=p - 1 by omega] at k1 k2 k3
   exact .inr (.inr (.inr ⟨by omega,h2,h3,r',p - 1,k1,k3,Int.le_refl _,.inr rfl,by omega⟩))
def av (m:St)(x:Int):Prop:=(0≤x∧x∈m.tags)∨x=m.at_
def pe (m:St):Int:=if m.pend<0 then m.l else m.pend
theorem mem_of_set {l:List Int}{k:Nat}{v x:Int}(h:x∈l.set k v):x∈l∨x=v:=List.mem_or_eq_of_mem_set h
theorem step_opt {m:St}(hI:Mc.Inv m){k n x:Int}(h:(Mc.step m k n).2=0)(hO:Opt m.tags.length (av (Mc.step m k n).1) (pe (Mc.step m k n).1) x):
 Opt m.tags.length (av m) (pe m) (x+((Mc.step m k n).1.tot - m.tot)):=by
 revert h hO
 unfold Mc.step
 by_cases h1:Mc.right k n=false∨7<k
 ·rw[if_pos h1];intro h;simp at h
 rw[if_neg h1]
 have hr:Mc.right k n=true:=by
  cases e:Mc.right k n
  ·exact absurd (Or.inl e) h1
  ·rfl
 by_cases c2:2≤k∧k≤4∧(m.tags.length:Int)≤n
 ·rw[if_pos c2];intro h;simp at h
 rw[if_neg c2]
 by_cases e1:k=1
 ·rw[if_pos e1]
  have hn:=Mc.right_one hr e1
  split
  ·intro h;simp at h
  ·intro _ hO
   have:=Opt.advance (H:=fun x=>0≤x∧x∈m.tags) (a:=m.at_) (z:=m.at_+n) hI.a0 (by omega) hO
   have e:x+((m.tot+n) - m.tot)=x+(m.at_+n - m.at_):=by omega
   show Opt _ _ _ (x+((m.tot+n) - m.tot))
   rw[e]
   exact this
 rw[if_neg e1]
 by_cases e2:k=2
 ·rw[if_pos e2]
  split
  ·intro h;simp at h
  ·intro _ hO
   show Opt _ _ _ (x+(m.tot - m.tot))
   rw[Int.sub_self,Int.add_zero]
   refine hO.mono fun z hz=>?_
   rcases hz with⟨z0,z1⟩|rfl
   ·rcases mem_of_set z1 with z2|rfl
    ·exact .inl ⟨z0,z2⟩
    ·exact .inr rfl
   ·exact .inr rfl
 rw[if_neg e2]
 by_cases e3:k=3
 ·rw[if_pos e3]
  have hn:=Mc.right_slot hr (by omega) (by omega)
  split
  ·intro h;simp at h
  ·rename_i ht
   intro _ hO
   show Opt _ _ _ (x+(m.tot - m.tot))
   rw[Int.sub_self,Int.add_zero]
   refine hO.mono fun z hz=>?_
   rcases hz with hz|hz
   ·exact .inl hz
   ·have hz':z=m.tag n:=hz
    refine .inl ⟨by omega,?_⟩
    rw[hz']
    have hlt:n.toNat<m.tags.length:=by omega
    show m.tags.getD n.toNat 0∈m.tags
    rw[List.getD_eq_getElem?_getD,List.getElem?_eq_getElem hlt]
    exact List.getElem_mem hlt
 rw[if_neg e3]
 by_cases e4:k=4
 ·rw[if_pos e4]
  split
  ·intro h;simp at h
  ·intro _ hO
   show Opt _ _ _ (x+(m.tot - m.tot))
   rw[Int.sub_self,Int.add_zero]
   refine hO.mono fun z hz=>?_
   rcases hz with⟨z0,z1⟩|rfl
   ·rcases mem_of_set z1 with z2|rfl
    ·exact .inl ⟨z0,z2⟩
    ·omega
   ·exact .inr rfl
 rw[if_neg e4]
 have hbk:∀ (p:Int),1≤p→m.at_=p - 1→pe m=p→Opt m.tags.length (av { m with pend:=m.at_ }) (pe { m with pend:=m.at_ }) x→Opt m.tags.length (av m) (pe m) (x+(m.tot - m.tot)):=fun p hp ha he hO=>by
  rw[Int.sub_self,Int.add_zero,he]
  have e5:pe { m with pend:=m.at_ } = p - 1:=by
   unfold pe
   show(if m.at_<0 then m.l else m.at_)=_
   rw[if_neg (by omega)];exact ha
  rw[e5] at hO
  exact Opt.back hp ha hO
 by_cases e5:k=5
 ·rw[if_pos e5]
  unfold Mc.begin_
  split
  ·intro h;simp at h
  ·split
   ·intro h;simp at h
   ·rename_i q1 q2
    intro _ hO
    show Opt _ _ _ (x+(m.tot - m.tot))
    rw[Int.sub_self,Int.add_zero]
    have e6:pe { m with pend:=m.at_ } = pe m:=by
     unfold pe
     show(if m.at_<0 then m.l else m.at_)=if m.pend<0 then m.l else m.pend
     have:=hI.a0
     rw[if_neg (by omega),if_pos (by omega)]
     omega
    rw[← e6]
    exact hO
 rw[if_neg e5]
 by_cases e6:k=6
 ·rw[if_pos e6]
  unfold Mc.begin_
  split
  ·intro h;simp at h
  ·split
   ·intro h;simp at h
   ·rename_i q1 q2
    intro _ hO
    have:=hI.a0
    exact hbk m.l (by omega) (by omega) (by unfold pe;rw[if_pos (by omega)]) hO
 rw[if_neg e6]
 unfold Mc.reverse
 split
 ·intro h;simp at h
 ·split
  ·intro h;simp at h
  ·rename_i q1 q2
   intro _ hO
   exact hbk m.pend (by omega) (by omega) (by unfold pe;rw[if_neg (by omega)]) hO
theorem does_opt:∀ {L:List Mc.Act} {m m':St},Does m L m'→Mc.Inv m→m'.pend=0→Opt m.tags.length (av m) (pe m) (m'.tot - m.tot)
 | [],m,m',h,hI,hp=>by
   cases h
   exact .inl ⟨by unfold pe;rw[if_neg (by omega)];exact hp,by omega⟩
 | a::L,m,m',⟨h2,h3⟩,hI,hp=>by
   have ih:=does_opt h3 (hI.step _ _) hp
   rw[Mc.step_len] at ih
   have:=step_opt hI h2 ih
   rwa [show m'.tot - (Mc.step m a.1 a.2).1.tot+((Mc.step m a.1 a.2).1.tot - m.tot)=m'.tot - m.tot by omega] at this
theorem least {l:Int}{n:Nat}{L:List Mc.Act}{m':St}(l0:0≤l)(l1:l<65536)(hn:n≤1048576)(h:Does (Mc.new l n) L m')(hp:m'.pend=0):
 (1≤n→Ch.tt l.toNat n≤m'.tot)∧(n=0→l≤1)∧0≤m'.tot:=by
 have hO:=does_opt h (Mc.new_inv l n l0 l1 hn) hp
 have e1:pe (Mc.new l n)=l:=rfl
 have e2:(Mc.new l n).tags.length=n:=by simp[Mc.new]
 have e3:(Mc.new l n).tot=0:=rfl
 have hA:∀ x,av (Mc.new l n) x→x=0:=fun x hx=>by
  rcases hx with⟨h0,h1⟩|h1
  ·obtain⟨_,rfl⟩:=List.mem_replicate.1 h1;omega
  ·exact h1
 rw[e1,e2,e3,Int.sub_zero] at hO
 rcases hO with⟨h1,h2⟩|⟨h1,h2,h3⟩|⟨h1,h2,h3,r,h4,h5⟩|⟨h1,h2,h3,r,y,h4,h5,h6,h7,h8⟩
 ·subst h1
  exact⟨fun _=>by rw[show(0:Int).toNat=0 from rfl,Rv.tt_0];exact h2,fun _=>by omega,h2⟩
 ·subst h1
  exact⟨fun _=>by rw[show(1:Int).toNat=1 from rfl,Rv.tt_1];exact h3,fun _=>by omega,h3⟩
 ·cases r with
  | nil=>
    simp only[val] at h5
    rw[Int.sub_zero,show n - 1+1=n by omega] at h5
    have:=tq_nn l h3
    exact⟨fun _=>h5,fun h0=>by omega,by omega⟩
  | cons x r=>
    obtain⟨h',b⟩:=x
    obtain⟨q1,_,q3,_⟩:=h4
    have:=hA h' q3
    omega
 ·have:=hA y h7
  have:=h4.lt.1
  omega
end Lb
end Go.Proofs.YtphppbonljdibaaGreat
namespace Go.Proofs.YtphppbonljdibaaGreat
open Go.ChangeShapes Go.WideShapes Go.ChangeAt Go.RowKit
theorem rnt_fin (nx:Dy→Bool→Option Mc.Act)(D:Ds)(m lim:Int)(hm:m≠2):∀ (T:Nat) (S:Dy) (b:Bool) (fed:Nat) (L:List Mc.Act) (S':Dy) (b':Bool),RnT nx D m lim T S b fed L S' b'→S'=S.acts D L∧b'=b
 | 0,S,b,fed,L,S',b',h=>by
   obtain⟨rfl,rfl,rfl,_⟩:=h
   exact⟨rfl,rfl⟩
 | T+1,S,b,fed,L,S',b',h=>by
   rcases h with⟨k,n,L',rfl,_,_,h⟩|⟨_,h,_⟩|⟨_,h,_⟩
   ·have g:=rnt_fin nx D m lim hm T (S.act D k n) b fed L' S' b' h
    exact g
   ·exact absurd h hm
   ·exact absurd h hm
theorem chk_does35:∀ (list:List Mc.Act) (m:Mc.St) (k:Nat),((Mc.chk m list k).2.2=0∧∃ m',Mc.Does m list m'∧m'.pend=0∧(Mc.chk m list k).1=m'.tot)∨((Mc.chk m list k).2.2≠0∧(Mc.chk m list k).1=0)
 | [],m,k=>by
   rw[Mc.chk_nil]
   by_cases h:m.pend=0
   ·rw[if_pos h];exact .inl ⟨rfl,m,rfl,h,rfl⟩
   ·rw[if_neg h];exact .inr ⟨by show(19:Int)≠0;decide,rfl⟩
 | a::l,m,k=>by
   rw[Mc.chk]
   by_cases h:(Mc.step m a.1 a.2).2=0
   ·rw[if_pos h]
    rcases chk_does35 l (Mc.step m a.1 a.2).1 (k+1) with⟨h1,m',h2,h3,h4⟩|h1
    ·exact .inl ⟨h1,m',⟨h,h2⟩,h3,h4⟩
    ·exact .inr h1
   ·rw[if_neg h];exact .inr ⟨h,rfl⟩
theorem check_does35 (l:Int)(n:Nat)(hn:n≤1048576)(list:List Mc.Act):((Mc.check l n list).2.2=0∧0≤l∧l<65536∧∃ m',Mc.Does (Mc.new l n) list m'∧m'.pend=0∧(Mc.check l n list).1=m'.tot)∨((Mc.check l n list).2.2≠0∧(Mc.check l n list).1=0):=by
 unfold Mc.check
 by_cases h:0≤l∧l<65536∧0≤(n:Int)∧(n:Int)≤1048576
 ·rw[if_pos h,Int.toNat_natCast]
  rcases chk_does35 list (Mc.new l n) 0 with⟨h1,h2⟩|h1
  ·exact .inl ⟨h1,h.1,h.2.1,h2⟩
  ·exact .inr h1
 ·rw[if_neg h]
  exact .inr ⟨by decide,rfl⟩
def RanO (h:Hd)(w:World)(e:Ending)(w':World):Prop:=
 ∃ be D S' v,e=.returned (.tuple #[.pointer (some ⟨be,0,none⟩),v,.bool true])∧OwnsA w' w.heap.size v (Rv.rl h.l h.n)∧EnM w' be (enF 1) D S' false∧S'.mc=⟨h.l,0,0,Ch.tt h.l h.n,List.replicate h.n (-1)⟩∧S'=(Dy.new D).acts D (Rv.rl h.l h.n)∧(Dy.new D).mc=Mc.new h.l h.n∧KW w w'
theorem ran_off (h:Hd)(w:World)(hM:HdM w h)(hr:Right h)(hm:h.mode=1):Calls Tryz.prog 9 #[.agg h.v,.int .i64 0] w (RanO h w):=by
 obtain⟨hn,hl,hn1,hn2,hl4⟩:=right_nl hr (by omega) (by omega)
 have hlen:=Rv.rl_len (l:=h.l) (n:=h.n) (by omega) hn1
 have key:∀ D:Ds,(∃ xA xc tA tc sA sc lA lc,D.h=h.at_ xA xc tA tc sA sc lA lc)→D.h.len.toNat=h.l∧D.n=h.n∧D.h.mode=1∧(Dy.new D).mc=Mc.new h.l h.n:=by
  rintro D ⟨xA,xc,tA,tc,sA,sc,lA,lc,e⟩
  have e1:D.h.len.toNat=h.l:=by rw[e];rfl
  have e2:D.n=h.n:=by unfold Ds.n Hd.n;rw[e];rfl
  exact⟨e1,e2,by rw[e];exact hm,by rw[Dy.new_mc,e1,e2]⟩
 have hq:=ran_any nxO h 0 (Rv.rl h.l h.n).length (Rv.rl h.l h.n) false w hM hr.ok (by omega) (by omega) (fun be D S b=>by rw[hm];exact nx_wk D be S b) (fun D hD hd=>by
  obtain⟨e1,e2,e3,_⟩:=key D hD
  have ho:=rnt_off D 0 hd (by omega)
  rw[e1,e2,e3] at ho
  rw[hm]
  exact⟨_,ho.1⟩)
 refine hq.mono ?_
 rintro e w1 ⟨be,D,S',v,hD,hR,rfl,ho,hE,hI,_,_,hk⟩
 obtain⟨e1,e2,e3,e4⟩:=key D hD
 obtain⟨rfl,_⟩:=rnt_fin nxO D _ 0 (by omega) _ _ _ _ _ _ _ hR
 have hoo:=rnt_off D 0 hE.dr.ds (by omega)
 rw[e1,e2,e3] at hoo
 have hp:((Dy.new D).acts D (Rv.rl h.l h.n)).pend=0:=congrArg Mc.St.pend hoo.2.1
 refine⟨be,D,_,v,by rw[hp];rfl,ho,by rw[hm] at hE;exact hE,hoo.2.1,rfl,e4,hk⟩
end Go.Proofs.YtphppbonljdibaaGreat
namespace Go.Proofs.YtphppbonljdibaaGreat
open Go.ChangeShapes Go.WideShapes Go.ChangeAt Go.RowKit Go.Joins Go.Deep
theorem open_acts {H:Type}{enc:TypeId×Value→H}{W:World}{v:Value}{d:DataW H}{p:List MemPlace}(hs:∃ a n c,v=.slice a n c)(h:DataW.Trod enc Tryz.prog W 0 (fun _=>true) true 28 v d p):
 ∃ (A:Option Addr) (c:Nat) (l:List Mc.Act),v=.slice A l.length c∧l.length≤9223372036854775807∧(∀ a∈l,(-9223372036854775808≤a.1∧a.1≤9223372036854775807)∧-9223372036854775808≤a.2∧a.2≤9223372036854775807)∧Acts W A l:=by
 obtain⟨a0,n0,c0,rfl⟩:=hs
 obtain⟨fuel,hf⟩:=h
 rcases open_slice_pairs (P:=Tryz.prog) Tryz.underlying28 Tryz.underlying55 (by kernel_rfl) (by kernel_rfl) (by kernel_rfl) (by kernel_rfl) (by kernel_rfl) hf with⟨hcs,_⟩|⟨a,len,cap,m,n,V0,V1,D0,D1,P0,P1,hcs,_,hl,hm,hmm,_,hx⟩
 ·simp[Value.cells] at hcs
  obtain⟨rfl,rfl,rfl⟩:=hcs
  exact⟨none,0,[],rfl,by simp,fun k hk=>by simp at hk,fun h=>by simp at h⟩
 ·simp[Value.cells] at hcs
  obtain⟨rfl,rfl,rfl⟩:=hcs
  unfold maxLen at hm
  have hlen:n0≤m:=by rw[hmm];split<;>omega
  have each:∀ k,k<n0→V0 k=.int .i64 (intOf (V0 k))∧V1 k=.int .i64 (intOf (V1 k))∧(-9223372036854775808≤intOf (V0 k)∧intOf (V0 k)≤9223372036854775807)∧-9223372036854775808≤intOf (V1 k)∧intOf (V1 k)≤9223372036854775807:=by
   intro k hk
   obtain⟨_,_,h0,h1⟩:=hx k (by omega)
   obtain⟨x,e0,_,wx⟩:=DataW.trod_int Tryz.underlying3 h0
   obtain⟨y,e1,_,wy⟩:=DataW.trod_int Tryz.underlying3 h1
   simp at e0 e1
   rw[e0,e1]
   have bx:-9223372036854775808≤x∧x≤9223372036854775807:=by simpa [Lit.wf,IntKind.min,IntKind.max,IntKind.signed,IntKind.bits] using wx
   have yb:-9223372036854775808≤y∧y≤9223372036854775807:=by simpa [Lit.wf,IntKind.min,IntKind.max,IntKind.signed,IntKind.bits] using wy
   exact⟨rfl,rfl,bx,yb⟩
  have hL:((List.range n0).map fun k=>(intOf (V0 k),intOf (V1 k))).length=n0:=by simp
  refine⟨some a,c0,(List.range n0).map fun k=>(intOf (V0 k),intOf (V1 k)),by rw[hL],by rw[hL];omega,fun x hx=>?_,fun hp=>?_⟩
  ·obtain⟨k,hk,rfl⟩:=List.mem_map.1 hx
   have:=each k (by simpa using hk)
   exact⟨this.2.2.1,this.2.2.2⟩
  ·rw[hL] at hp
   obtain⟨b,off,spot⟩:=a
   have h00:=(hx 0 (by omega)).1
   have hspot:spot=none:=by simpa [Addr.add] using World.cell?_spot h00
   subst hspot
   refine⟨b,off,rfl,World.block_lt_of_cell? W _ (by simpa using h00),fun k hk=>?_⟩
   rw[hL] at hk
   obtain⟨q0,q1,_,_⟩:=hx k (by omega)
   rw[(each k hk).1] at q0
   rw[(each k hk).2.1] at q1
   rw[Go.WideShapes.add_plain] at q0 q1
   have e:((List.range n0).map fun k=>(intOf (V0 k),intOf (V1 k))).getD k (0,0)=(intOf (V0 k),intOf (V1 k)):=by simp[hk]
   rw[e]
   exact⟨q0,by rw[Nat.add_assoc];exact q1⟩
end Go.Proofs.YtphppbonljdibaaGreat
namespace Go.Proofs.YtphppbonljdibaaGreat
open Go.ChangeShapes Go.WideShapes Go.ChangeAt Go.RowKit
theorem optimal_any (h:Hd)(A:Option Addr)(c:Nat)(list:List Mc.Act)(w:World)(hM:HdM w h)(hA:Acts w A list):
 Calls Tryz.prog 3 #[.agg h.v,.slice A list.length c] w fun e w'=>e=.returned (.bool true)∧KW w w':=by
 have hk0:=(KW.refl w).alloc (.cells h.v 27)
 have HB:=hid (boxC_new h w)
 have HRt:=hid (right_top h _ (hM.kw hk0))
 have HWk:=hid (fun W=>wakes_any W)
 have HRn:=hid (fun W (hW:KW w W) (hr:Right h) (hm:h.mode=1)=>ran_off h W (hM.kw hW) hr hm)
 have HMk:=hid (fun W (hW:KW w W)=>make_any h W (hM.kw hW))
 have HCk:=hid (fun(hN:list.length≤600) W (hW:KW w W)=>check_any h.len (slotsW h) A c list W (by omega) (hA.kw hW))
 have HK0:=hid hk0
 have hkr:∀ hr:Right h,h.mode=1→(h.n:Int)=slotsW h∧(h.l:Int)=h.len∧1≤h.n∧h.n≤1048576∧h.l≤40:=fun hr hm=>right_nl hr (by omega) (by omega)
 have HKr:=hid hkr
 have HChk:=hid (fun(hn:h.n≤1048576)=>check_does35 h.len h.n hn list)
 clear hM hA hk0 hkr
 unfold MkP at HMk
 unfold RanO at HRn
 unfold CheckP at HCk
 unfold RightR at HRt
 unfold Hd.v hdv BoxC at *
 go_enter Tryz.func3,Tryz.ntmps3
 go_wp2_with fail
 refine HRt.out.mono ?_
 rintro e w1 ⟨b,rfl,hb,hk1⟩
 obtain⟨⟨b0,b1,b2,b3,b4,b5,b6,b7,b8⟩,hbl⟩:=HB.out w1 hk1
 have HK1:=hid (HK0.out.t hk1)
 have HKb:=hid hk1
 have HRg:=hid hb
 clear hk1 hb HRt
 cases b with
 | false=>
   go_wp2_with fail
   refine(HWk.out w1).mono ?_
   rintro e w2 ⟨rfl,hk2⟩
   have HK2:=hid (HK1.out.t hk2)
   clear hk2
   go_wp2_with fail
   go_ret
   exact⟨rfl,HK2.out⟩
 | true=>
   have HRr:=hid (HRg.out (by first|rfl|trivial))
   by_cases hm:h.mode=1
   ·by_cases hl:(600:Int)<(list.length:Int)
    ·have em:(h.mode != 1)=false:=by simp[hm]
     clear hm
     go_wp2_with fail
     refine(HWk.out w1).mono ?_
     rintro e w2 ⟨rfl,hk2⟩
     have HK2:=hid (HK1.out.t hk2)
     clear hk2
     go_wp2_with fail
     go_ret
     exact⟨rfl,HK2.out⟩
    ·have em:(h.mode != 1)=false:=by simp[hm]
     have dl:decide ((600:Int)<(list.length:Int))=false:=decide_eq_false hl
     obtain⟨hn,hln,hn1,hn2,hl4⟩:=HKr.out HRr.out hm
     have HRn1:=hid (HRn.out w1 HK1.out HRr.out hm)
     clear hm
     have HFc:=hid (And.intro hn (And.intro hln (And.intro hn1 hn2)))
     rw[← hn] at HCk HMk
     have HCk:=hid (HCk.out (by omega))
     have hChk:=HChk.out hn2
     have HPl:=hid HRr.out.ok
     have HL:Hid (∀ m',0≤h.len→h.len<65536→Mc.Does (Mc.new h.len h.n) list m'→m'.pend=0→Ch.tt h.l h.n≤m'.tot):=hid fun m' l0 l1 hd hp=>(Lb.least l0 l1 hn2 hd hp).1 hn1
     clear HKr HRn HRg HRr HChk hn hln hn1 hn2 hl4 hl
     go_wp2_with fail
     refine HRn1.out.mono ?_
     rintro e w2 ⟨be,D,S',v,rfl,-,hE2,hmc,-,-,hk2⟩
     clear b0 b1 b2 b3 b4 b5 b6 b7 b8 hbl
     obtain⟨⟨b0,b1,b2,b3,b4,b5,b6,b7,b8⟩,hbl⟩:=HB.out w2 (HKb.out.t hk2)
     have HK2:=hid (HK1.out.t hk2)
     have HKb2:=hid (HKb.out.t hk2)
     have HE2:=hid hE2
     have HTt:Hid ((S'.plain:Int)=Ch.tt h.l h.n):=hid (congrArg Mc.St.tot hmc)
     have HMk2:=hid (HMk.out w2 HK2.out)
     clear hE2 hmc hk2 HRn1 HMk
     go_wp2_with fail
     refine HMk2.out.mono ?_
     rintro e w3 ⟨x1,x2,x3,x4,r,rfl,hr0,hrx,hk3⟩
     obtain rfl:r=0:=hr0.2 HPl.out
     obtain⟨rfl,rfl,rfl,rfl⟩:=hrx HPl.out
     have hk3':=hk3.alloc (.cells #[.int .i64 (fixW h),.int .i64 (tapW h),.int .i64 (sltW h),.int .i64 h.n] 35)
     have hrP:(w3.alloc (.cells #[.int .i64 (fixW h),.int .i64 (tapW h),.int .i64 (sltW h),.int .i64 h.n] 35)).rowIs w3.heap.size 35 4 (fun i=>[.int .i64 (fixW h),.int .i64 (tapW h),.int .i64 (sltW h),.int .i64 h.n].getD i undef):=
      World.rowIs_alloc w3 #[.int .i64 (fixW h),.int .i64 (tapW h),.int .i64 (sltW h),.int .i64 h.n] 35 _ fun i hi=>by
       simp at hi
       rcases(show i=0∨i=1∨i=2∨i=3 by omega) with rfl|rfl|rfl|rfl<;>rfl
     have HRP:=hid hrP
     obtain⟨⟨b0',b1',b2',b3',b4',b5',b6',b7',b8'⟩,hbl'⟩:=HB.out _ (HKb2.out.t hk3')
     have HK3:=hid (HK2.out.t hk3')
     have HE3:=hid (HE2.out.kw hk3')
     have HCk3:=hid (HCk.out _ (HK2.out.t hk3'))
     clear b0 b1 b2 b3 b4 b5 b6 b7 b8 hbl hk3 hk3' hrP hrx hr0 HCk HE2 HMk2 HK2 HKb2
     go_upto_region 7 with(fail)
     generalize w3.alloc (.cells #[.int .i64 (fixW h),.int .i64 (tapW h),.int .i64 (sltW h),.int .i64 h.n] 35)=w4 at *
     have a3:=HRP.out.cell (i:=3) (by omega)
     simp only[List.getD_cons_succ,List.getD_cons_zero] at a3
     have hap:=HRP.out.lt
     generalize w3.heap.size=gp at *
     go_wp2_with fail
     refine HCk3.out.mono ?_
     rintro e w5 ⟨rfl,hk5⟩
     have HE5:=hid (HE3.out.kw hk5)
     have HK5:=hid (HK3.out.t hk5)
     have HCn:=hid (ecount be _ D S' false w5 HE5.out)
     clear b0' b1' b2' b3' b4' b5' b6' b7' b8' hbl' a3 hap hk5 HCk3 HE3 HK3 HRP HE5
     generalize (Mc.check h.len (↑h.n) list).2.1=q1 at *
     rcases hChk with⟨e0,l0,l1,m',hd,hp,et⟩|⟨e0,et⟩
     ·have hle:=HL.out m' l0 l1 hd hp
      rw[e0,et]
      have dge:(S'.plain:Int)≤m'.tot:=by have:=HTt.out;omega
      clear e0 et l0 l1 hd hp hle HL
      generalize m'.tot=tt at *
      go_wp2_with fail
      refine HCn.out.mono ?_
      rintro e w6 ⟨rfl,hk6⟩
      have HK6:=hid (HK5.out.t hk6)
      have hcn:=count_at0 S'.plain S'.taped S'.losses S'.sweeps
      clear hk6
      go_wp2_with fail
      refine(HWk.out w6).mono ?_
      rintro e w7 ⟨rfl,hk7⟩
      have HK7:=hid (HK6.out.t hk7)
      clear hk7
      go_wp2_with fail
      go_ret
      exact⟨rfl,HK7.out⟩
     ·generalize (Mc.check h.len (↑h.n) list).1=q2 at *
      generalize (Mc.check h.len (↑h.n) list).2.2=q3 at *
      have d3:(q3 != 0)=true:=by simp[e0]
      clear e0 et
      go_wp2_with fail
      refine(HWk.out w5).mono ?_
      rintro e w7 ⟨rfl,hk7⟩
      have HK7:=hid (HK5.out.t hk7)
      clear hk7
      go_wp2_with fail
      go_ret
      exact⟨rfl,HK7.out⟩
   ·have em:(h.mode != 1)=true:=by simp[hm]
    go_wp2_with fail
    refine(HWk.out w1).mono ?_
    rintro e w2 ⟨rfl,hk2⟩
    have HK2:=hid (HK1.out.t hk2)
    clear hk2
    go_wp2_with fail
    go_ret
    exact⟨rfl,HK2.out⟩
end Go.Proofs.YtphppbonljdibaaGreat
namespace Go.Proofs.YtphppbonljdibaaGreat
open Go.ChangeShapes Go.WideShapes Go.ChangeAt Go.RowKit Go.Joins
theorem optimal35_contract (H:Type)(enc:TypeId×Value→H)(W:World)(base:Nat)(args:Array Value)(ds gs:List (DataW H))(before:List MemPlace)
 (hval:∀ (j:Nat) t v,Tryz.f3.params[j]?=some t→args[j]?=some v→Value.okWide Tryz.prog W .any base t v)
 (hW:DataW.Whole enc Tryz.prog Tryz.f3.params.toList Rows.topOptimalSpec.vars false W args.toList ds gs before) (hk:Rows.uptoSmall H (ds++gs)=true):
 Calls Tryz.prog 3 args W fun e W'=>∃ v,e=.returned v∧Rows.topOptimalSpec.post enc Tryz.prog Tryz.f3 false true false false W args v W':=by
 have hW':=hW
 obtain⟨p,q,hA0,hV,rfl,hfz,hnd⟩:=hW
 have hA:DataW.TrodAll enc Tryz.prog W 0 (fun _=>true) true Tryz.f3.params.toList args.toList ds p:=hA0
 rw[Tryz.params3] at hA hval
 obtain⟨v0,vs0,d0,ds0,p0,q0,hargs,rfl,rfl,h0,r0⟩:=trodAll_cons hA
 obtain⟨v1,vs1,d1,ds1,p1,q1,rfl,rfl,rfl,h1,r1⟩:=trodAll_cons r0
 obtain⟨rfl,rfl,rfl⟩:=trodAll_nil r1
 obtain rfl:args=#[v0,v1]:=by cases args;simp_all
 have hb:Rows.uptoBulkAll ([d0,d1]++gs)≤1048576:=of_decide_eq_true hk
 simp only[List.cons_append,List.nil_append,Rows.uptoBulkAll] at hb
 obtain⟨x0,rfl,hm0⟩:=open_header (hval 0 27 v0 rfl rfl) h0 (by omega)
 obtain⟨A1,c1,l1,rfl,hn1,hb1,hr1⟩:=open_acts (by obtain⟨a,n,c,h⟩:=okWide_slice Tryz.underlying28 (hval 1 28 v1 rfl rfl);exact⟨a,n,c,h⟩) h1
 refine(optimal_any x0 A1 c1 l1 W hm0 hr1).mono fun e W' ⟨he,hb⟩=>?_
 subst he
 exact⟨_,rfl,law_post laidOut (by kernel_rfl) hW' rfl (fun h=>by subst h;rfl) (by kernel_rfl) Tryz.underlying4 hb⟩
theorem optimal35_lifted (os:Os)(started:os.Started)(H:Type)(enc:TypeId×Value→H)(F:Stop.Interp):
 ReturnsInHanded {} Tryz.checked os 3 .any ((Rows.OpenSpec.upto Rows.topOptimalSpec).pre6 enc Tryz.prog Tryz.f3 Rows.topOptimalUptoRow.domain false) (((Rows.OpenSpec.upto Rows.topOptimalSpec).at F).post enc Tryz.prog Tryz.f3 false true false false):=by
 refine returnsInHanded_of_cond (C:=Tryz.checked) (s:=Rows.OpenSpec.upto Rows.topOptimalSpec) (k:=Rows.uptoSmall) rfl own started (by kernel_rfl) Tryz.func3
  (OpenSpec.witness (enc:=enc) (C:=Tryz.checked) (s:=Rows.OpenSpec.upto Rows.topOptimalSpec) (k:=Rows.uptoSmall) rfl false ⟨#[],#[.agg #[.int .i64 0,.slice none 0 0,.slice none 0 0,.int .i64 0,.slice none 0 0,.int .i64 0,.slice none 0 0,.int .i64 0,.int .i64 0],.slice none 0 0],[]⟩ 8 (by kernel_rfl) (by kernel_rfl) (by kernel_rfl)
    (x:=([.agg [.lit (.int .i64 0),.nil,.nil,.agg [.lit (.int .i64 0),.nil],.agg [.lit (.int .i64 0),.nil],.lit (.int .i64 0),.lit (.int .i64 0)],.nil],[],[])) (by kernel_rfl) rfl (by kernel_rfl)) ?_
 intro W base args ds gs before hval hW _ hk _
 exact optimal35_contract H enc W base args ds gs before hval hW hk
theorem optimal35_holds:Rows.TopOptimalUptoSaid:=
 OpenClaim.holds_of_cond 3 Tryz.f3 rfl rfl rfl rfl rfl rfl rfl ⟨rfl,rfl,rfl,rfl,rfl⟩ rfl rfl rfl rfl rfl (by kernel_rfl) Tryz.func3 (by kernel_rfl)
  (of_decide_eq_true (by kernel_rfl)) (by unfold Func.isWrapper;first|(rw[if_pos (by decide +kernel)];kernel_rfl)|(rw[if_neg (by decide +kernel)];exact⟨rfl,rfl⟩))
  (fun os started H enc _ F=>optimal35_lifted os started H enc F)
end Go.Proofs.YtphppbonljdibaaGreat
