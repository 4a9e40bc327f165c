import Derived.Test.YtphppbonljdibaaGreatTB19
set_option maxRecDepth 100000
set_option maxHeartbeats 4000000
set_option linter.unusedVariables false
set_option linter.unusedSimpArgs false
namespace Go.Proofs.YtphppbonljdibaaGreat
open Go.ChangeShapes Go.WideShapes Go.ChangeAt Go.RowKit
theorem Acts.take {w:World}{A:Option Addr}{l:List Mc.Act}(h:Acts w A l)(k:Nat):Acts w A (l.take k):=by
 intro h0
 have h1:0<l.length:=by
  rw[List.length_take] at h0;omega
 obtain⟨b,off,hA,hb,hc⟩:=h h1
 refine⟨b,off,hA,hb,fun i hi=>?_⟩
 rw[List.length_take] at hi
 have e:(l.take k).getD i (0,0)=l.getD i (0,0):=by
  rw[List.getD_eq_getElem?_getD,List.getD_eq_getElem?_getD,List.getElem?_take_of_lt (by omega)]
 rw[e]
 exact hc i (by omega)
def offB (l n:Int):Bool:=decide (n < -1∨l<n)
theorem off_any (l n:Int)(b:Nat)(w:World)(hc:w.cell? ⟨b,0,none⟩=some (.int .i64 l)):
 Calls Tryz.prog 151 #[.int .i64 n,.pointer (some ⟨b,0,none⟩)] w fun e w'=>e=.returned (.bool (offB l n))∧w=w':=by
 have HB:=hid (show offB l n=decide (n < -1∨l<n) from rfl)
 by_cases h1:n < -1
 ·go_enter Tryz.func151,Tryz.ntmps151
  go_wp2_with fail
  go_ret
  exact⟨ret_bool (by rw[HB.out];first|exact(decide_eq_true (Or.inl h1)).symm|exact decide_eq_true (Or.inl h1)),rfl⟩
 have d1:decide (n < -1)=false:=decide_eq_false h1
 by_cases h2:l<n
 ·have HX:Hid (offB l n=true):=HB.out.trans (decide_eq_true (Or.inr h2))
  go_enter Tryz.func151,Tryz.ntmps151
  go_wp2_with fail
  go_ret
  exact⟨ret_bool HX.out.symm,rfl⟩
 ·have d2:decide (l<n)=false:=decide_eq_false h2
  have HX:Hid (offB l n=false):=HB.out.trans (decide_eq_false (fun h=>h.elim h1 h2))
  go_enter Tryz.func151,Tryz.ntmps151
  go_wp2_with fail
  go_ret
  exact⟨ret_bool HX.out.symm,rfl⟩
theorem index_none (l:Int)(tags:List Int)(A:Option Addr)(c b:Nat)(w:World)(hl:tags.length≤1048576)(hr:Row1 w A tags.length fun i=>.int .i64 (tags.getD i 0))(hc:w.cell? ⟨b,0,none⟩=some (.int .i64 l))
 (hn:∀ i,i<tags.length→offB l (tags.getD i 0)=false):
 Calls Tryz.prog 97 #[.slice A tags.length c,.func (.func 151) #[] #[.pointer (some ⟨b,0,none⟩)]] w fun e w'=>e=.returned (.int .i64 (-1))∧w=w':=by
 have HR:=hid hr
 have HN:=hid hn
 have HC:=hid hc
 clear hr hn hc
 generalize tags.length=N at *
 go_enter Tryz.func97,Tryz.ntmps97
 go_wp2_with fail
 go_loop [8] (fun i=>∃ k:Nat,k≤N∧i=.int .i64 k) (fun i=>N - (intOf i).toNat)
 case atStart=>exact⟨0,by omega,rfl⟩
 case round=>
  obtain⟨k,hk,rfl⟩:=hrel
  by_cases hlt:k<N
  ·obtain⟨q1,o1,rfl,hq1,hc1⟩:=HR.out.at_ hlt
   have HO:=hid (fun W (h:W.cell? ⟨b,0,none⟩=some (.int .i64 l))=>off_any l (tags.getD k 0) b W h)
   rw[HN.out k hlt] at HO
   generalize tags.getD k 0=x at *
   have L5:(k:Int)<(N:Int):=by omega
   go_wp2_with fail
   refine(HO.out _ HC.out).mono ?_
   rintro e w1 ⟨rfl,rfl⟩
   go_wp2_with fail
   go_round
   case rel=>exact⟨k+1,by omega,by go_num⟩
   case measure=>simp[intOf];omega
  ·have D1:decide (k<N)=false:=decide_eq_false hlt
   clear hlt
   go_wp2_with fail
   go_ret
   exact⟨rfl,rfl⟩
theorem contains_none (l:Int)(tags:List Int)(A:Option Addr)(c b:Nat)(w:World)(hl:tags.length≤1048576)(hr:Row1 w A tags.length fun i=>.int .i64 (tags.getD i 0))(hc:w.cell? ⟨b,0,none⟩=some (.int .i64 l))
 (hn:∀ i,i<tags.length→offB l (tags.getD i 0)=false):
 Calls Tryz.prog 54 #[.slice A tags.length c,.func (.func 151) #[] #[.pointer (some ⟨b,0,none⟩)]] w fun e w'=>e=.returned (.bool false)∧w=w':=by
 have HI:=hid (index_none l tags A c b w hl hr hc hn)
 clear hr hn hc
 generalize tags.length=N at *
 go_enter Tryz.func54,Tryz.ntmps54
 go_wp2_with fail
 refine HI.out.mono ?_
 rintro e w1 ⟨rfl,rfl⟩
 go_wp2_with fail
 go_ret
 exact⟨rfl,rfl⟩
theorem at_yes (l a p:Int)(tags:List Int)(v:Value)(w:World)(l0:0≤l)(l1:l<65536)(a0:0≤a)(a1:a≤l)(p0:-1≤p)(p1:p≤l)(hl:tags.length≤1048576)(ht:∀ x∈tags,-1≤x∧x≤l)
 (hv:∃ A c,v=.slice A tags.length c∧(A=none→c=0)∧Row1 w A tags.length fun i=>.int .i64 (tags.getD i 0)):
 Calls Tryz.prog 111 #[.int .i64 l,.agg #[.int .i64 a,.int .i64 p,v]] w (NewP w ⟨l,a,p,0,tags⟩):=by
 obtain⟨A,c,rfl,hz,hr⟩:=hv
 have HL:=hid (fun W=>long_any l W)
 rw[show decide (0≤l∧l<65536)=true from decide_eq_true ⟨l0,l1⟩] at HL
 have hoff:∀ x,-1≤x→x≤l→offB l x=false:=fun x h0 h1=>decide_eq_false (by omega)
 have HA:=hid (fun W (h:W.cell? ⟨w.heap.size,0,none⟩=some (.int .i64 l))=>off_any l a w.heap.size W h)
 have HP:=hid (fun W (h:W.cell? ⟨w.heap.size,0,none⟩=some (.int .i64 l))=>off_any l p w.heap.size W h)
 rw[hoff a (by omega) a1] at HA
 rw[hoff p p0 p1] at HP
 have HCF:=hid (fun W (hk:KW w W) (h:W.cell? ⟨w.heap.size,0,none⟩=some (.int .i64 l))=>contains_none l tags A c w.heap.size W hl (hr.k hk) h (fun i hi=>by
  have:=ht _ (show tags.getD i 0∈tags from by rw[List.getD_eq_getElem?_getD,List.getElem?_eq_getElem hi];exact List.getElem_mem hi)
  exact hoff _ this.1 this.2))
 have hh:Holds w (.slice A tags.length c) tags.length 1 (ints tags):=by
  have h:=Row1.holds (c:=c) hr (fun e=>by
   cases A with
   | none=>
     refine⟨?_,hz rfl⟩
     apply Classical.byContradiction
     intro h0
     obtain⟨b,off,hA,_⟩:=hr (by omega)
     cases hA
   | some _=>cases e) (fun i _=>rfl)
  have e:(List.range tags.length).map (fun i=>Value.int .i64 (tags.getD i 0))=ints tags:=by
   apply List.ext_getElem?
   intro i
   by_cases hi:i<tags.length
   ·rw[ints_get tags hi];simp[hi]
   ·rw[List.getElem?_eq_none (by simp;omega),List.getElem?_eq_none (by rw[ints_len];omega)]
  rwa [e] at h
 have HCl:=hid (fun W (hk:KW w W)=>clone_any A tags.length c (ints tags) W hl (hh.kw hk))
 have HIL:=hid (ints_len tags)
 clear hoff hr hz ht hh
 have dN:decide ((1048576:Int)<(tags.length:Int))=false:=decide_eq_false (by omega)
 have dA:(a == -1)=false:=by simp;omega
 generalize tags.length=N at *
 go_enter Tryz.func111,Tryz.ntmps111
 have hk0:KW w ((w.alloc (.cells #[.int .i64 l] 3)).alloc (.cells #[.int .i64 a,.int .i64 p,.slice A N c] 58)):=((KW.refl w).alloc _).alloc _
 have hl0:((w.alloc (.cells #[.int .i64 l] 3)).alloc (.cells #[.int .i64 a,.int .i64 p,.slice A N c] 58)).cell? ⟨w.heap.size,0,none⟩=some (.int .i64 l):=by go_simp
 have HK0:=hid hk0
 have HL0:=hid hl0
 clear hk0 hl0
 go_wp2_with (first
  | (go_at_call 47;refine(HL.out _).mono ?_;rintro e w1 ⟨rfl,rfl⟩)
  | (go_at_call 54;refine(HCF.out _ HK0.out HL0.out).mono ?_;rintro e w1 ⟨rfl,rfl⟩)
  | (refine(HA.out _ HL0.out).mono ?_;rintro e w1 ⟨rfl,rfl⟩)
  | (refine(HP.out _ HL0.out).mono ?_;rintro e w1 ⟨rfl,rfl⟩))
 have s0:((w.alloc (.cells #[.int .i64 l] 3)).alloc (.cells #[.int .i64 a,.int .i64 p,.slice A N c] 58)).cell? ⟨w.heap.size+1,0,none⟩=some (.int .i64 a):=by go_simp
 have s1:((w.alloc (.cells #[.int .i64 l] 3)).alloc (.cells #[.int .i64 a,.int .i64 p,.slice A N c] 58)).cell? ⟨w.heap.size+1,1,none⟩=some (.int .i64 p):=by go_simp
 have s2:((w.alloc (.cells #[.int .i64 l] 3)).alloc (.cells #[.int .i64 a,.int .i64 p,.slice A N c] 58)).cell? ⟨w.heap.size+1,2,none⟩=some (.slice A N c):=by go_simp
 refine wpCode_world (fun W=>KW w W∧w.heap.size+1<W.heap.size∧W.cell? ⟨w.heap.size,0,none⟩=some (.int .i64 l)∧W.cell? ⟨w.heap.size+1,0,none⟩=some (.int .i64 a)∧W.cell? ⟨w.heap.size+1,1,none⟩=some (.int .i64 p)∧W.cell? ⟨w.heap.size+1,2,none⟩=some (.slice A N c)) ⟨HK0.out,by simp,HL0.out,s0,s1,s2⟩ ?_
 clear s0 s1 s2 HK0 HL0
 rintro W1 ⟨hk,hs,hXS⟩
 have HK:=hid hk
 have HS:=hid hs
 have HX:=hid hXS
 clear hk hs
 have HSS:=hid (fun W (h:KW W1 W)=>And.intro (KW.cell h (Nat.lt_of_succ_lt HS.out) HX.out.1) (And.intro (KW.cell h HS.out HX.out.2.1) (And.intro (KW.cell h HS.out HX.out.2.2.1) (KW.cell h HS.out HX.out.2.2.2))))
 refine wpX_region (S:=fun w'=>w'.cell? ⟨w.heap.size,0,none⟩=some (.int .i64 l)∧w'.cell? ⟨w.heap.size+1,0,none⟩=some (.int .i64 a)∧w'.cell? ⟨w.heap.size+1,1,none⟩=some (.int .i64 p)∧w'.cell? ⟨w.heap.size+1,2,none⟩=some (.slice A N c)) (L:=99) (by kernel_rfl) ?_
 refine tk 0 ?_ (fun _ _=>?_) hXS ?_;rotate_left;· go_simp;try rfl
 simp only[lsz,lss]
 refine tk 1 ?_ (fun _ _=>?_) hXS ?_;rotate_left;· go_simp;try rfl
 simp only[lsz,lss]
 refine tk 2 ?_ (fun _ _=>?_) hXS ?_;rotate_left;· go_simp;try rfl
 simp only[lsz,lss]
 refine tk 3 ?_ (fun _ _=>?_) hXS ?_;rotate_left;· go_simp;try rfl
 simp only[lsz,lss]
 refine tk 4 ?_ (fun _ _=>?_) hXS ?_;rotate_left;· go_simp;try rfl
 simp only[lsz,lss]
 refine tk 5 ?_ (fun _ _=>?_) hXS ?_;rotate_left;· go_simp;try rfl
 simp only[lsz,lss]
 refine tk 6 ?_ (fun _ _=>?_) hXS ?_;rotate_left;· go_simp;try rfl
 simp only[lsz,lss]
 refine tk 7 ?_ (fun _ _=>?_) hXS ?_;rotate_left;· go_simp;try rfl
 simp only[lsz,lss]
 refine wpX_hard (k:=8) (by kernel_rfl) rfl (fun K hK=>?_)
 go_simp
 refine(HCl.out _ HK.out.drew).mono ?_
 rintro e w2 ⟨v2,rfl,ho,hb⟩
 obtain⟨A2,k2,hv2,hz2⟩:=ho.row
 rw[HIL.out] at hv2
 clear hz2
 subst hv2
 have HO:=hid ho
 have HB:Hid (KW W1 w2):=(KW.refl W1).drew.t hb
 clear ho hb
 refine hK _ _ (fun _=>HSS.out _ HB.out) ?_
 clear hK K
 try simp only[lsz,lss]
 clear hXS
 have hXS:=HSS.out _ HB.out
 refine tk 9 ?_ (fun _ _=>?_) hXS ?_;rotate_left;· go_simp;try rfl
 simp only[lsz,lss]
 refine wpX_hard (k:=10) (by kernel_rfl) rfl (fun K hK=>?_)
 go_simp
 refine hK _ _ (fun _=>HSS.out _ (HB.out.alloc _)) ?_
 clear hK K
 try simp only[lsz,lss]
 clear hXS
 have hXS:=HSS.out _ (HB.out.alloc (.cells #[.int .i64 a,.int .i64 p,.int .i64 l,.int .i64 0,.slice A2 N k2] 100))
 refine tk 11 ?_ (fun _ _=>?_) hXS ?_;rotate_left;· go_simp;try rfl
 simp only[lsz,lss]
 refine tk 12 ?_ (fun _ _=>?_) hXS ?_;rotate_left;· go_simp;try rfl
 simp only[lsz,lss]
 refine wpX_done (by kernel_rfl) ?_
 clear hXS
 go_wp2_with fail
 go_ret2
 refine⟨w2.heap.size,.slice A2 N k2,rfl,⟨World.rowIs_alloc w2 #[.int .i64 a,.int .i64 p,.int .i64 l,.int .i64 0,.slice A2 N k2] 100 _ fun i hi=>?_,?_⟩,fun k hk=>?_,(HK.out.t HB.out).alloc _⟩
 ·rcases(show i=0∨i=1∨i=2∨i=3∨i=4 by simp at hi;omega) with rfl|rfl|rfl|rfl|rfl<;>rfl
 ·exact(HO.out.alloc _).tg fun k hk=>by have:=(HO.out.lt hk).2;omega
 ·have h1:=HK.out.size
  have h2:=HB.out.size
  rcases hk with rfl|hk
  ·omega
  ·have:=(HO.out.lt (tbk_own hk)).1
   have h3:W1.heap.size≤k:=this
   omega
def IdxP (w:World)(e:Ending)(w':World):Prop:=∃ i:Nat,i≤1048576∧e=.returned (.int .i64 i)∧w=w'
theorem index_some (l:Int)(tags:List Int)(A:Option Addr)(c b:Nat)(w:World)(hl:tags.length≤1048576)(hr:Row1 w A tags.length fun i=>.int .i64 (tags.getD i 0))(hc:w.cell? ⟨b,0,none⟩=some (.int .i64 l))
 (hn:∃ i,i<tags.length∧offB l (tags.getD i 0)=true):
 Calls Tryz.prog 97 #[.slice A tags.length c,.func (.func 151) #[] #[.pointer (some ⟨b,0,none⟩)]] w (IdxP w):=by
 have HR:=hid hr
 have HN:=hid hn
 have HC:=hid hc
 clear hr hn hc
 generalize tags.length=N at *
 go_enter Tryz.func97,Tryz.ntmps97
 go_wp2_with fail
 go_loop [8] (fun i=>∃ k:Nat,k≤N∧i=.int .i64 k∧Hid (∀ j,j<k→offB l (tags.getD j 0)=false)) (fun i=>N - (intOf i).toNat)
 case atStart=>exact⟨0,by omega,rfl,fun j hj=>by omega⟩
 case round=>
  obtain⟨k,hk,rfl,HB⟩:=hrel
  have hlt:k<N:=by
   obtain⟨i,hi,ho⟩:=HN.out
   apply Classical.byContradiction
   intro h
   rw[HB.out i (by omega)] at ho
   cases ho
  obtain⟨q1,o1,rfl,hq1,hc1⟩:=HR.out.at_ hlt
  have HO:=hid (fun W (h:W.cell? ⟨b,0,none⟩=some (.int .i64 l))=>off_any l (tags.getD k 0) b W h)
  have HX:=hid (fun(h:offB l (tags.getD k 0)=false) (j:Nat) (hj:j<k+1)=>(show offB l (tags.getD j 0)=false from by
   rcases(show j<k∨j=k by omega) with h1|rfl
   ·exact HB.out j h1
   ·exact h))
  generalize tags.getD k 0=x at *
  have L5:(k:Int)<(N:Int):=by omega
  cases ho:offB l x with
  | true=>
    rw[ho] at HO
    clear ho HX
    go_wp2_with fail
    refine(HO.out _ HC.out).mono ?_
    rintro e w1 ⟨rfl,rfl⟩
    go_wp2_with fail
    go_ret
    exact⟨k,by omega,rfl,rfl⟩
  | false=>
    rw[ho] at HO
    have HB2:=hid (HX.out ho)
    clear ho HX
    go_wp2_with fail
    refine(HO.out _ HC.out).mono ?_
    rintro e w1 ⟨rfl,rfl⟩
    go_wp2_with fail
    go_round
    case rel=>exact⟨k+1,by omega,by go_num,HB2⟩
    case measure=>simp[intOf];omega
theorem contains_some (l:Int)(tags:List Int)(A:Option Addr)(c b:Nat)(w:World)(hl:tags.length≤1048576)(hr:Row1 w A tags.length fun i=>.int .i64 (tags.getD i 0))(hc:w.cell? ⟨b,0,none⟩=some (.int .i64 l))
 (hn:∃ i,i<tags.length∧offB l (tags.getD i 0)=true):
 Calls Tryz.prog 54 #[.slice A tags.length c,.func (.func 151) #[] #[.pointer (some ⟨b,0,none⟩)]] w fun e w'=>e=.returned (.bool true)∧w=w':=by
 have HI:=hid (index_some l tags A c b w hl hr hc hn)
 clear hr hn hc
 generalize tags.length=N at *
 go_enter Tryz.func54,Tryz.ntmps54
 go_wp2_with fail
 refine HI.out.mono ?_
 rintro e w1 ⟨i,hi,rfl,rfl⟩
 have d:(0:Int)≤(i:Int):=by omega
 go_wp2_with fail
 go_ret
 exact⟨rfl,rfl⟩
theorem at_no1 (l a p:Int)(N c:Nat)(A:Option Addr)(w:World)(hlg:¬ (0≤l∧l<65536)):
 Calls Tryz.prog 111 #[.int .i64 l,.agg #[.int .i64 a,.int .i64 p,.slice A N c]] w fun e w'=>e=.returned (.tuple #[.pointer none,.int .i64 2])∧KW w w':=by
 have HL:=hid (fun W=>long_any l W)
 rw[show decide (0≤l∧l<65536)=false from decide_eq_false hlg] at HL
 clear hlg
 go_enter Tryz.func111,Tryz.ntmps111
 have hk0:KW w ((w.alloc (.cells #[.int .i64 l] 3)).alloc (.cells #[.int .i64 a,.int .i64 p,.slice A N c] 58)):=((KW.refl w).alloc _).alloc _
 have hl0:((w.alloc (.cells #[.int .i64 l] 3)).alloc (.cells #[.int .i64 a,.int .i64 p,.slice A N c] 58)).cell? ⟨w.heap.size,0,none⟩=some (.int .i64 l):=by go_simp
 have HK0:=hid hk0
 have HL0:=hid hl0
 clear hk0 hl0
 go_wp2_with (first
  | (go_at_call 47;refine(HL.out _).mono ?_;rintro e w1 ⟨rfl,rfl⟩))
 go_ret2
 exact⟨rfl,HK0.out⟩
theorem at_no2 (l a p:Int)(N c:Nat)(A:Option Addr)(w:World)(hlg:0≤l∧l<65536)(hN:1048576<N):
 Calls Tryz.prog 111 #[.int .i64 l,.agg #[.int .i64 a,.int .i64 p,.slice A N c]] w fun e w'=>e=.returned (.tuple #[.pointer none,.int .i64 2])∧KW w w':=by
 have HL:=hid (fun W=>long_any l W)
 rw[show decide (0≤l∧l<65536)=true from decide_eq_true hlg] at HL
 clear hlg
 have dN:(1048576:Int)<(N:Int):=by omega
 go_enter Tryz.func111,Tryz.ntmps111
 have hk0:KW w ((w.alloc (.cells #[.int .i64 l] 3)).alloc (.cells #[.int .i64 a,.int .i64 p,.slice A N c] 58)):=((KW.refl w).alloc _).alloc _
 have hl0:((w.alloc (.cells #[.int .i64 l] 3)).alloc (.cells #[.int .i64 a,.int .i64 p,.slice A N c] 58)).cell? ⟨w.heap.size,0,none⟩=some (.int .i64 l):=by go_simp
 have HK0:=hid hk0
 have HL0:=hid hl0
 clear hk0 hl0
 go_wp2_with (first
  | (go_at_call 47;refine(HL.out _).mono ?_;rintro e w1 ⟨rfl,rfl⟩))
 go_ret2
 exact⟨rfl,HK0.out⟩
theorem at_no3 (l a p:Int)(N c:Nat)(A:Option Addr)(w:World)(hlg:0≤l∧l<65536)(hN:N≤1048576)(ha:a = -1):
 Calls Tryz.prog 111 #[.int .i64 l,.agg #[.int .i64 a,.int .i64 p,.slice A N c]] w fun e w'=>e=.returned (.tuple #[.pointer none,.int .i64 2])∧KW w w':=by
 have HL:=hid (fun W=>long_any l W)
 rw[show decide (0≤l∧l<65536)=true from decide_eq_true hlg] at HL
 clear hlg
 have dN:decide ((1048576:Int)<(N:Int))=false:=decide_eq_false (by omega)
 have dA:(a == -1)=true:=by simpa using ha
 clear ha
 go_enter Tryz.func111,Tryz.ntmps111
 have hk0:KW w ((w.alloc (.cells #[.int .i64 l] 3)).alloc (.cells #[.int .i64 a,.int .i64 p,.slice A N c] 58)):=((KW.refl w).alloc _).alloc _
 have hl0:((w.alloc (.cells #[.int .i64 l] 3)).alloc (.cells #[.int .i64 a,.int .i64 p,.slice A N c] 58)).cell? ⟨w.heap.size,0,none⟩=some (.int .i64 l):=by go_simp
 have HK0:=hid hk0
 have HL0:=hid hl0
 clear hk0 hl0
 go_wp2_with (first
  | (go_at_call 47;refine(HL.out _).mono ?_;rintro e w1 ⟨rfl,rfl⟩))
 go_ret2
 exact⟨rfl,HK0.out⟩
theorem at_no4 (l a p:Int)(N c:Nat)(A:Option Addr)(w:World)(hlg:0≤l∧l<65536)(hN:N≤1048576)(ha:a≠-1)(hoa:offB l a=true):
 Calls Tryz.prog 111 #[.int .i64 l,.agg #[.int .i64 a,.int .i64 p,.slice A N c]] w fun e w'=>e=.returned (.tuple #[.pointer none,.int .i64 2])∧KW w w':=by
 have HL:=hid (fun W=>long_any l W)
 rw[show decide (0≤l∧l<65536)=true from decide_eq_true hlg] at HL
 clear hlg
 have dN:decide ((1048576:Int)<(N:Int))=false:=decide_eq_false (by omega)
 have dA:(a == -1)=false:=by simpa using ha
 clear ha
 have HA:=hid (fun W (h:W.cell? ⟨w.heap.size,0,none⟩=some (.int .i64 l))=>off_any l a w.heap.size W h)
 rw[hoa] at HA
 clear hoa
 go_enter Tryz.func111,Tryz.ntmps111
 have hk0:KW w ((w.alloc (.cells #[.int .i64 l] 3)).alloc (.cells #[.int .i64 a,.int .i64 p,.slice A N c] 58)):=((KW.refl w).alloc _).alloc _
 have hl0:((w.alloc (.cells #[.int .i64 l] 3)).alloc (.cells #[.int .i64 a,.int .i64 p,.slice A N c] 58)).cell? ⟨w.heap.size,0,none⟩=some (.int .i64 l):=by go_simp
 have HK0:=hid hk0
 have HL0:=hid hl0
 clear hk0 hl0
 go_wp2_with (first
  | (go_at_call 47;refine(HL.out _).mono ?_;rintro e w1 ⟨rfl,rfl⟩)
  | (refine(HA.out _ HL0.out).mono ?_;rintro e w1 ⟨rfl,rfl⟩))
 go_ret2
 exact⟨rfl,HK0.out⟩
theorem at_no5 (l a p:Int)(N c:Nat)(A:Option Addr)(w:World)(hlg:0≤l∧l<65536)(hN:N≤1048576)(ha:a≠-1)(hoa:offB l a=false)(hop:offB l p=true):
 Calls Tryz.prog 111 #[.int .i64 l,.agg #[.int .i64 a,.int .i64 p,.slice A N c]] w fun e w'=>e=.returned (.tuple #[.pointer none,.int .i64 2])∧KW w w':=by
 have HL:=hid (fun W=>long_any l W)
 rw[show decide (0≤l∧l<65536)=true from decide_eq_true hlg] at HL
 clear hlg
 have dN:decide ((1048576:Int)<(N:Int))=false:=decide_eq_false (by omega)
 have dA:(a == -1)=false:=by simpa using ha
 clear ha
 have HA:=hid (fun W (h:W.cell? ⟨w.heap.size,0,none⟩=some (.int .i64 l))=>off_any l a w.heap.size W h)
 rw[hoa] at HA
 clear hoa
 have HP:=hid (fun W (h:W.cell? ⟨w.heap.size,0,none⟩=some (.int .i64 l))=>off_any l p w.heap.size W h)
 rw[hop] at HP
 clear hop
 go_enter Tryz.func111,Tryz.ntmps111
 have hk0:KW w ((w.alloc (.cells #[.int .i64 l] 3)).alloc (.cells #[.int .i64 a,.int .i64 p,.slice A N c] 58)):=((KW.refl w).alloc _).alloc _
 have hl0:((w.alloc (.cells #[.int .i64 l] 3)).alloc (.cells #[.int .i64 a,.int .i64 p,.slice A N c] 58)).cell? ⟨w.heap.size,0,none⟩=some (.int .i64 l):=by go_simp
 have HK0:=hid hk0
 have HL0:=hid hl0
 clear hk0 hl0
 go_wp2_with (first
  | (go_at_call 47;refine(HL.out _).mono ?_;rintro e w1 ⟨rfl,rfl⟩)
  | (refine(HA.out _ HL0.out).mono ?_;rintro e w1 ⟨rfl,rfl⟩)
  | (refine(HP.out _ HL0.out).mono ?_;rintro e w1 ⟨rfl,rfl⟩))
 go_ret2
 exact⟨rfl,HK0.out⟩
theorem at_no6 (l a p:Int)(N c:Nat)(A:Option Addr)(w:World)(hlg:0≤l∧l<65536)(hN:N≤1048576)(ha:a≠-1)(hoa:offB l a=false)(hop:offB l p=false)(hcf:∀ W,KW w W→W.cell? ⟨w.heap.size,0,none⟩=some (.int .i64 l)→Calls Tryz.prog 54 #[.slice A N c,.func (.func 151) #[] #[.pointer (some ⟨w.heap.size,0,none⟩)]] W fun e w'=>e=.returned (.bool true)∧W=w'):
 Calls Tryz.prog 111 #[.int .i64 l,.agg #[.int .i64 a,.int .i64 p,.slice A N c]] w fun e w'=>e=.returned (.tuple #[.pointer none,.int .i64 2])∧KW w w':=by
 have HL:=hid (fun W=>long_any l W)
 rw[show decide (0≤l∧l<65536)=true from decide_eq_true hlg] at HL
 clear hlg
 have dN:decide ((1048576:Int)<(N:Int))=false:=decide_eq_false (by omega)
 have dA:(a == -1)=false:=by simpa using ha
 clear ha
 have HA:=hid (fun W (h:W.cell? ⟨w.heap.size,0,none⟩=some (.int .i64 l))=>off_any l a w.heap.size W h)
 rw[hoa] at HA
 clear hoa
 have HP:=hid (fun W (h:W.cell? ⟨w.heap.size,0,none⟩=some (.int .i64 l))=>off_any l p w.heap.size W h)
 rw[hop] at HP
 clear hop
 have HCF:=hid hcf
 clear hcf
 go_enter Tryz.func111,Tryz.ntmps111
 have hk0:KW w ((w.alloc (.cells #[.int .i64 l] 3)).alloc (.cells #[.int .i64 a,.int .i64 p,.slice A N c] 58)):=((KW.refl w).alloc _).alloc _
 have hl0:((w.alloc (.cells #[.int .i64 l] 3)).alloc (.cells #[.int .i64 a,.int .i64 p,.slice A N c] 58)).cell? ⟨w.heap.size,0,none⟩=some (.int .i64 l):=by go_simp
 have HK0:=hid hk0
 have HL0:=hid hl0
 clear hk0 hl0
 go_wp2_with (first
  | (go_at_call 47;refine(HL.out _).mono ?_;rintro e w1 ⟨rfl,rfl⟩)
  | (go_at_call 54;refine(HCF.out _ HK0.out HL0.out).mono ?_;rintro e w1 ⟨rfl,rfl⟩)
  | (refine(HA.out _ HL0.out).mono ?_;rintro e w1 ⟨rfl,rfl⟩)
  | (refine(HP.out _ HL0.out).mono ?_;rintro e w1 ⟨rfl,rfl⟩))
 go_ret2
 exact⟨rfl,HK0.out⟩
theorem at_no (l a p:Int)(N c:Nat)(tags:List Int)(A:Option Addr)(w:World)(hl:tags.length=N)(hr:Row1 w A N fun i=>.int .i64 (tags.getD i 0))
 (h:¬ (0≤l∧l<65536)∨1048576<N∨a = -1∨offB l a=true∨offB l p=true∨∃ i,i<N∧offB l (tags.getD i 0)=true):
 Calls Tryz.prog 111 #[.int .i64 l,.agg #[.int .i64 a,.int .i64 p,.slice A N c]] w fun e w'=>e=.returned (.tuple #[.pointer none,.int .i64 2])∧KW w w':=by
 by_cases h1:¬ (0≤l∧l<65536)
 ·exact at_no1 l a p N c A w h1
 have h1:=Classical.not_not.1 h1
 by_cases h2:1048576<N
 ·exact at_no2 l a p N c A w h1 h2
 by_cases h3:a = -1
 ·exact at_no3 l a p N c A w h1 (by omega) h3
 cases h4:offB l a with
 | true=>exact at_no4 l a p N c A w h1 (by omega) h3 h4
 | false=>
   cases h5:offB l p with
   | true=>exact at_no5 l a p N c A w h1 (by omega) h3 h4 h5
   | false=>
     refine at_no6 l a p N c A w h1 (by omega) h3 h4 h5 fun W hk hc=>?_
     subst hl
     refine contains_some l tags A c w.heap.size W (by omega) (hr.k hk) hc ?_
     rcases h with h|h|h|h|h|h
     ·exact absurd h1 h
     ·exact absurd h h2
     ·exact absurd h h3
     ·rw[h4] at h;cases h
     ·rw[h5] at h;cases h
     ·exact h
end Go.Proofs.YtphppbonljdibaaGreat
