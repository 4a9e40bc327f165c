import Derived.Test.YtphppbonljdibaaGreatTB19
import Derived.Test.YtphppbonljdibaaGreatTB22
import Derived.Test.YtphppbonljdibaaGreatTB31
import Derived.Test.YtphppbonljdibaaGreatTB13
import Derived.Test.YtphppbonljdibaaGreatTB24
import Derived.Test.YtphppbonljdibaaGreatTB33
import Derived.Test.YtphppbonljdibaaGreatTB01
set_option maxRecDepth 100000
set_option maxHeartbeats 4000000
set_option linter.unusedVariables false
set_option linter.unusedSimpArgs false
namespace Go.Proofs.YtphppbonljdibaaGreat
open Go.ChangeShapes Go.WideShapes Go.ChangeAt Go.RowKit
theorem pheld0_any (a p:Int)(v:Value)(tags:List Int)(w:World)(hl:tags.length≤1048576)(hv:RT0 w v tags):
 Calls Tryz.prog 60 #[.agg #[.int .i64 a,.int .i64 p,v]] w fun e w'=>e=.returned (.int .i64 (Mc.cnt tags))∧KW w w':=by
 obtain⟨A,c,rfl,hr⟩:=hv
 have H1:=hid hr
 have HC:=hid (fun k h=>Mc.cnt_take tags (k:=k) h)
 have HE:=hid (show Mc.cnt (tags.take tags.length)=Mc.cnt tags from by rw[List.take_length])
 have HB:=hid (fun k=>Nat.le_trans (Mc.cnt_le (tags.take k)) (by rw[List.length_take];omega):∀ k,Mc.cnt (tags.take k)≤tags.length)
 have H0:=hid (show Mc.cnt (tags.take 0)=0 from rfl)
 clear hr
 generalize Mc.cnt tags=n at *
 generalize hct:(fun k=>Mc.cnt (tags.take k))=ct at *
 have HT:=hid (fun k=>(show Mc.cnt (tags.take k)=ct k from by rw[← hct]))
 simp only[HT.out] at HC HE HB H0
 generalize tags.length=N at *
 clear HT hct
 have hk:=(KW.refl w).alloc (.cells #[.int .i64 a,.int .i64 p,.slice A N c] 58)
 have HK:=hid hk
 clear hk
 go_enter Tryz.func60,Tryz.ntmps60
 go_wp2_with fail
 go_loopw [3,5,9] (fun q _ i wr=>∃ k:Nat,k≤N∧i=.int .i64 k∧q=.int .i64 (ct k)∧Hid (KW w wr)) (fun _ _ i _=>N - (intOf i).toNat)
 case atStart=>exact⟨0,by omega,rfl,by rw[H0.out];rfl,HK⟩
 case round=>
  obtain⟨k,hk,rfl,rfl,HK1⟩:=hrel
  by_cases hlt:k<N
  ·obtain⟨b',off,rfl,hb',hc⟩:=(H1.out.k HK1.out).at_ hlt
   have hb:=HB.out k
   have hs:=HC.out k hlt
   have L5:(k:Int)<(N:Int):=by omega
   generalize tags.getD k 0=x at *
   by_cases hx:0≤x
   ·rw[if_pos hx] at hs
    have hs':((ct (k+1):Nat):Int)=(ct k:Int)+1:=by omega
    go_wp2_with fail
    go_roundw
    case rel=>exact⟨k+1,by omega,by go_num,by rw[hs'],HK1⟩
    case measure=>simp[intOf];omega
   ·rw[if_neg hx] at hs
    have hs':ct (k+1)=ct k:=by omega
    have d:decide (0≤x)=false:=decide_eq_false hx
    go_wp2_with fail
    go_roundw
    case rel=>exact⟨k+1,by omega,by go_num,by rw[hs'],HK1⟩
    case measure=>simp[intOf];omega
  ·obtain rfl:k=N:=by omega
   clear hlt
   go_wp2_with fail
   go_ret
   exact⟨by rw[← HE.out];rfl,HK1.out⟩
theorem Acts.keep {own:Nat→Prop}{w w':World}{A:Option Addr}{l:List Mc.Act}(h:Acts w A l)(hk:Keep own w w')(hn:0<l.length→∀ b off,A=some ⟨b,off,none⟩→¬ own b):Acts w' A l:=by
 intro h0
 obtain⟨b,off,hA,hb,hc⟩:=h h0
 exact⟨b,off,hA,Nat.lt_of_lt_of_le hb hk.size,fun k hkl=>⟨(hk.cell hb (hn h0 b off hA)).trans (hc k hkl).1,(hk.cell hb (hn h0 b off hA)).trans (hc k hkl).2⟩⟩
def sightV (m0:Mc.St)(list:List Mc.Act)(k:Nat)(va vb:Value):Value:=
 .agg #[.int .i64 (list.getD k (0,0)).1,.int .i64 (list.getD k (0,0)).2,.int .i64 (Mc.up m0 list k).at_,.int .i64 (Mc.up m0 list k).pend,va,.int .i64 (Mc.up m0 list (k+1)).at_,.int .i64 (Mc.up m0 list (k+1)).pend,vb]
def spotF (m:Mc.St)(va:Value):Nat→Value
 | 0=>.int .i64 m.at_
 | 1=>.int .i64 m.pend
 | _=>va
structure Apart (M H:Nat→Prop)(va:Value)(g:Nat):Prop where
 mh:∀ i,M i→¬ H i
 hg:¬ H g
 va:∀ i,va.ownBlock=some i→¬ H i∧¬ M i∧i≠g
structure See (F:FuncId)(caps:Array Value)(m0:Mc.St)(list:List Mc.Act)(J:Nat→(Nat→Prop)→World→Prop):Prop where
 enter:∀ (args:Array Value) (W:World),(callFunc F args).run Tryz.prog W=.ok (.enter F args) W
 lt:∀ k H w,J k H w→∀ i,H i→i<w.heap.size
 keep:∀ k H w w' O,J k H w→Keep O w w'→(∀ i,H i→¬ O i)→J k H w'
 call:∀ k H w va vb,k<list.length→Mc.okTo m0 list (k+1)→J k H w→RT0 w va (Mc.up m0 list k).tags→RT0 w vb (Mc.up m0 list (k+1)).tags →
  (∀ b,va.ownBlock=some b→¬ H b)→(∀ b,vb.ownBlock=some b→¬ H b) →
  Calls Tryz.prog F (#[sightV m0 list k va vb]++caps) w fun e w'=>e=.returned (.tuple #[])∧∃ H',J (k+1) H' w'∧Keep H w w'∧∀ i,H' i→H i∨w.heap.size≤i
def WatchP (m0:Mc.St)(list:List Mc.Act)(J:Nat→(Nat→Prop)→World→Prop)(H0:Nat→Prop)(w:World)(e:Ending)(w':World):Prop:=
 Keep H0 w w'∧((∃ b v H,Mc.okTo m0 list list.length∧e=.returned (.tuple #[.pointer (some ⟨b,0,none⟩),.int .i64 list.length,.int .i64 0])∧Mach w' b v (Mc.up m0 list list.length)∧J list.length H w'∧(∀ i,mo b v i→¬ H i)∧∀ i,H i→H0 i∨w.heap.size≤i) ∨
  (∃ k,k<list.length∧Mc.okTo m0 list k∧Mc.er m0 list k≠0∧e=.returned (.tuple #[.pointer none,.int .i64 k,.int .i64 (Mc.er m0 list k)])∧∃ H,J k H w'))
theorem watch_yes (l:Int)(n:Nat)(A:Option Addr)(c:Nat)(list:List Mc.Act)(F:FuncId)(caps:Array Value)(J:Nat→(Nat→Prop)→World→Prop)(H0:Nat→Prop)(w:World)(l0:0≤l)(l1:l<65536)(hn:n≤1048576)(hlen:list.length≤1099511627776)
 (hA:Acts w A list) (hAH:0<list.length→∀ b off,A=some ⟨b,off,none⟩→¬ H0 b) (hS:See F caps (Mc.new l n) list J) (hJ:J 0 H0 w):
 Calls Tryz.prog 56 #[.int .i64 l,.int .i64 n,.slice A list.length c,.func (.func F) #[] caps] w (WatchP (Mc.new l n) list J H0 w):=by
 have HN:=hid (fun W=>new_yes l n W l0 l1 hn)
 have HA:=hid hA
 have HAH:=hid hAH
 have HI:=hid (Mc.new_inv l n l0 l1 hn)
 have HT:=hid (show(Mc.new l n).tot=0 from rfl)
 have HTn:=hid (show(Mc.new l n).tags.length=n from by simp[Mc.new])
 have HJ:=hid hJ
 have HS:=hid hS
 have HE:=hid (fun W x y=>act_eq W x y 0 0)
 generalize Mc.new l n=m0 at *
 clear hA hAH hS hJ
 unfold WatchP
 generalize hN:list.length=N at *
 have HL:=hid hN
 clear hN
 go_enter Tryz.func56,Tryz.ntmps56
 go_wp2_with fail
 refine(HN.out _).mono ?_
 rintro e w1 ⟨b,v,rfl,hm,ho,hk⟩
 have HM:=hid hm
 have HO:=hid ho
 have HK:=hid hk
 have HMz:=hid (hm.lt (k:=b) (.inl rfl))
 clear hm ho hk
 have HSp:=hid (fun W (m:Mc.St) (h:Mach W b v m) (hl:m.tags.length≤1048576)=>spot_any m b v W h hl)
 unfold SpotP at HSp
 go_wp2_with fail
 refine(HSp.out _ m0 HM.out (by rw[HTn.out];omega)).mono ?_
 rintro e w2 ⟨v0,rfl,hs0,hk⟩
 obtain⟨A0,c0,hv0,_⟩:=hs0.row
 rw[ints_len] at hv0
 subst hv0
 have HO0:Hid (∀ i,(Value.slice A0 m0.tags.length c0).ownBlock=some i→w1.heap.size≤i∧i<w2.heap.size):=fun i hi=>hs0.lt hi
 have HS0:=hid (hs0.base HK.out.size)
 have HM2:=hid (HM.out.kw hk)
 have HK2:=hid (HK.out.t hk)
 have HZ2:=hid hk.size
 clear hs0 hk
 have HMg:=hid (fun i (h:mo b v i)=>Nat.lt_of_lt_of_le (HM.out.lt h) HZ2.out:∀ i,mo b v i→i<w2.heap.size)
 have HJlt:=hid (HS.out.lt 0 H0 w HJ.out)
 have HJ2:=hid (HS.out.keep 0 H0 w w2 (fun _=>False) HJ.out HK2.out.keep (fun _ _ h=>h))
 have HR0:Hid ((w2.alloc (.cells #[.int .i64 m0.at_,.int .i64 m0.pend,.slice A0 m0.tags.length c0] 58)).rowIs w2.heap.size 58 3 (spotF m0 (.slice A0 m0.tags.length c0))):=
  World.rowIs_alloc w2 #[.int .i64 m0.at_,.int .i64 m0.pend,.slice A0 m0.tags.length c0] 58 _ fun i hi=>by
   rcases(show i=0∨i=1∨i=2 by simp at hi;omega) with rfl|rfl|rfl<;>rfl
 go_wp2_with fail
 go_loopw [8,29] (fun m8 i wr=>∃ (k:Nat) (va:Value) (H:Nat→Prop),k≤N∧i=.int .i64 k∧m8=.pointer (some ⟨b,0,none⟩)∧Hid (Mach wr b v (Mc.up m0 list k))∧Hid (Mc.okTo m0 list k)∧Hid (J k H wr)∧Hid (wr.rowIs w2.heap.size 58 3 (spotF (Mc.up m0 list k) va))∧Hid (Owns wr w.heap.size 3 va (ints (Mc.up m0 list k).tags))∧Hid (Apart (mo b v) H va w2.heap.size)∧Hid (∀ i,H i→H0 i∨w.heap.size≤i)∧Hid (Keep H0 w wr)) (fun _ i _=>N - (intOf i).toNat)
 case atStart=>
  refine⟨0,_,H0,by omega,rfl,rfl,HM2.out.kw ((KW.refl w2).alloc _),fun j hj=>absurd hj (by omega),HS.out.keep 0 H0 w _ (fun _=>False) HJ.out (HK2.out.alloc _).keep (fun _ _ h=>h),HR0.out,HS0.out.alloc _,⟨fun i hi h=>?_,fun h=>?_,fun i hi=>⟨fun h=>?_,fun h=>?_,?_⟩⟩,fun i h=>.inl h,(HK2.out.alloc _).keep⟩
  ·have:=HO.out i hi;have:=HJlt.out i h;omega
  ·have:=HJlt.out _ h;have:=HK2.out.size;omega
  ·have:=HJlt.out _ h;have:=(HO0.out i hi).1;have:=HK.out.size;omega
  ·have:=HM.out.lt h;have:=(HO0.out i hi).1;omega
  ·have:=(HO0.out i hi).2;omega
 case round=>
  obtain⟨k,va,H,hk,rfl,rfl,HM1,HOK,HJ1,HR1,HS1,HAp,HH,HK1⟩:=hrel
  clear HM HK HO0 HS0 HM2 HJ2 HR0
  obtain⟨Aa,ca,hva,_⟩:=HS1.out.row
  rw[ints_len] at hva
  subst hva
  by_cases hlt:k<N
  ·obtain⟨b',off,rfl,hb',hc1,hc2⟩:=(HA.out.keep HK1.out (by rw[HL.out];exact HAH.out)).at_ (show k<list.length by rw[HL.out];exact hlt)
   have HI1:=hid (Mc.up_inv HI.out list k)
   have HT1:Hid ((Mc.up m0 list k).tot≤4611686018427387904):=by
    have h1:=(Mc.up_tot m0 list k).2
    rw[HT.out] at h1
    exact hid (by omega)
   have HLn1:Hid ((Mc.up m0 list k).tags.length=n):=(Mc.up_len m0 list k).trans HTn.out
   have HLn2:Hid ((Mc.up m0 list (k+1)).tags.length=n):=(Mc.up_len m0 list (k+1)).trans HTn.out
   have HZ:Hid ((list.getD k (0,0)).1=0→Mc.er m0 list k=2):=fun h=>by
    unfold Mc.er Mc.step
    rw[h,if_pos (Or.inl (by simp[Mc.right]))]
   have HOK2:Hid (Mc.er m0 list k=0→Mc.okTo m0 list (k+1)):=fun h j hj=>by
    rcases(show j<k∨j=k by omega) with h1|rfl
    ·exact HOK.out j h1
    ·exact h
   have HD:Hid (∀ W,Mach W b v (Mc.up m0 list k)→Calls Tryz.prog 18 #[.pointer (some ⟨b,0,none⟩),.agg #[.int .i64 (list.getD k (0,0)).1,.int .i64 (list.getD k (0,0)).2]] W (Did W b v (Mc.up m0 list (k+1)) (Mc.er m0 list k))):=fun W h=>do_any _ (list.getD k (0,0)).1 (list.getD k (0,0)).2 b v W h HI1.out HT1.out
   have HC:=hid (fun H W va vb=>HS.out.call k H W va vb (by rw[HL.out];exact hlt))
   unfold sightV at HC
   have HSm:=hid (fun W (h:Mach W b v (Mc.up m0 list (k+1)))=>HSp.out W _ h (by rw[HLn2.out];omega))
   generalize hm:Mc.up m0 list k=m at *
   generalize hm2:Mc.up m0 list (k+1)=m2 at *
   generalize her:Mc.er m0 list k=er at *
   generalize (list.getD k (0,0)).1=x at *
   generalize (list.getD k (0,0)).2=y at *
   have HM:=hid hm
   have HM2:=hid hm2
   have HEr:=hid her
   clear hm hm2 her
   have L5:(k:Int)<(N:Int):=by omega
   by_cases hz:x=0∧y=0
   ·obtain⟨rfl,rfl⟩:=hz
    have e1:∀ W,(binOp .eql 55 (.agg #[.int .i64 0,.int .i64 0]) (.agg #[.int .i64 0,.int .i64 0])).run Tryz.prog W=.ok (.bool true) W:=fun W=>HE.out W 0 0
    have HE2:=hid (HZ.out rfl)
    go_wp2_with fail
    go_ret3
    refine⟨HK1.out.alloc _,.inr ⟨k,hlt,HOK.out,?_,?_⟩⟩
    ·rw[HEr.out,HE2.out];decide
    ·exact⟨by rw[HEr.out,HE2.out];rfl,H,HS.out.keep k H _ _ (fun _=>False) HJ1.out ((KW.refl wr).alloc _).keep (fun _ _ h=>h)⟩
   have e1:∀ W,(binOp .eql 55 (.agg #[.int .i64 x,.int .i64 y]) (.agg #[.int .i64 0,.int .i64 0])).run Tryz.prog W=.ok (.bool false) W:=fun W=>by
    rw[HE.out W x y,show(x==0&&y==0)=false by
     cases h1:x==0&&y==0
     ·rfl
     ·simp at h1;exact absurd h1 hz]
   clear hz
   go_wp2_with fail
   refine(HD.out _ (HM1.out.kw ((KW.refl wr).alloc _))).mono ?_
   rintro e w4 ⟨rfl,hm4,hk4⟩
   have HM4:=hid hm4
   have HK4:=hid hk4
   clear hm4 hk4
   by_cases he:er=0
   ·subst he
    have HOK3:=hid (HOK2.out rfl)
    go_wp2_with fail
    refine(HSm.out _ HM4.out).mono ?_
    rintro e w5 ⟨vb,rfl,ho5,hk5⟩
    have HB5:Hid (∀ i,vb.ownBlock=some i→w4.heap.size≤i∧i<w5.heap.size):=fun i hi=>ho5.lt hi
    obtain⟨A5,c5,hv5,_⟩:=ho5.row
    rw[ints_len] at hv5
    subst hv5
    have HO5:=hid ho5
    have HK5:=hid hk5
    clear ho5 hk5
    have hKeep:Keep (mo b v) (wr.alloc (.cells #[.int .i64 x,.int .i64 y] 55)) (w5.alloc (.cells #[.int .i64 m2.at_,.int .i64 m2.pend,.slice A5 m2.tags.length c5] 58)):=(HK4.out.kwt HK5.out).alloc _
    have HKp:=hid hKeep
    have h13:(w5.alloc (.cells #[.int .i64 m2.at_,.int .i64 m2.pend,.slice A5 m2.tags.length c5] 58)).heap[wr.heap.size]?=some (.cells #[.int .i64 x,.int .i64 y] 55 (0,0)):=
     (hKeep.block wr.heap.size (by simp) fun h=>absurd (HM1.out.lt h) (by omega)).trans (heap_alloc_new wr _)
    have h11:(w5.alloc (.cells #[.int .i64 m2.at_,.int .i64 m2.pend,.slice A5 m2.tags.length c5] 58)).rowIs w2.heap.size 58 3 (spotF m (.slice Aa m.tags.length ca)):=
     hKeep.row (fun h=>absurd (HMg.out _ h) (by omega)) (HR1.out.alloc _)
    have hw11:(w5.alloc (.cells #[.int .i64 m2.at_,.int .i64 m2.pend,.slice A5 m2.tags.length c5] 58)).heap[w2.heap.size]?=some (.cells #[.int .i64 m.at_,.int .i64 m.pend,.slice Aa m.tags.length ca] 58 (0,0)):=whole h11
    have h15:=heap_alloc_new w5 (.cells #[.int .i64 m2.at_,.int .i64 m2.pend,.slice A5 m2.tags.length c5] 58)
    have H13:=hid h13
    have H11:=hid h11
    have HW11:=hid hw11
    have H15:=hid h15
    clear hKeep h13 h11 hw11 h15
    have HRa:Hid (RT0 (w5.alloc (.cells #[.int .i64 m2.at_,.int .i64 m2.pend,.slice A5 m2.tags.length c5] 58)) (.slice Aa m.tags.length ca) m.tags):=(HKp.out.owns (HS1.out.alloc _) fun i hi=>(HAp.out.va i hi).2.1).rt.rt0
    have HRb:Hid (RT0 (w5.alloc (.cells #[.int .i64 m2.at_,.int .i64 m2.pend,.slice A5 m2.tags.length c5] 58)) (.slice A5 m2.tags.length c5) m2.tags):=(HO5.out.alloc _).rt.rt0
    have HJ5:Hid (J k H (w5.alloc (.cells #[.int .i64 m2.at_,.int .i64 m2.pend,.slice A5 m2.tags.length c5] 58))):=HS.out.keep k H _ _ (mo b v) (HS.out.keep k H _ _ (fun _=>False) HJ1.out ((KW.refl wr).alloc _).keep (fun _ _ h=>h)) HKp.out fun i hi hm=>HAp.out.mh i hm hi
    have HJl:=hid (HS.out.lt k H wr HJ1.out)
    have e2:=HS.out.enter
    go_wp2_with (first
     | (refine wpList_load_row rfl 55 _ rfl wr.heap.size rfl 55 _ (0,0) _ H13.out Tryz.underlying55 rfl (by kernel_rfl) ?_)
     | (refine wpList_load_row rfl 58 _ rfl w2.heap.size rfl 58 _ (0,0) _ HW11.out Tryz.underlying58 rfl (by kernel_rfl) ?_)
     | (refine wpList_load_row rfl 58 _ rfl w5.heap.size rfl 58 _ (0,0) _ H15.out Tryz.underlying58 rfl (by kernel_rfl) ?_))
    clear e2
    refine(HC.out H _ _ _ HOK3.out HJ5.out HRa.out HRb.out (fun i hi=>(HAp.out.va i hi).1) (fun i hi h=>?bnew)).mono ?_
    case bnew=>have h1:=HJl.out i h;have h2:=(HB5.out i hi).1;have h3:=HK4.out.size;simp at h3;omega
    rintro e w6 ⟨rfl,H',hj6,hk6,hh6⟩
    have HSz4:Hid (wr.heap.size<w4.heap.size):=by have h3:=HK4.out.size;simp at h3;exact hid (by omega)
    have HSz5:=hid HK5.out.size
    have HJ6:=hid hj6
    have HK6:=hid hk6
    have HH6:=hid hh6
    have h15:w6.heap[w5.heap.size]?=some (.cells #[.int .i64 m2.at_,.int .i64 m2.pend,.slice A5 m2.tags.length c5] 58 (0,0)):=
     (hk6.block w5.heap.size (by simp) fun h=>by have h1:=HJl.out _ h;have h2:=HSz4.out;have h3:=HSz5.out;omega).trans H15.out
    have H156:=hid h15
    have H116:=hid (hk6.row HAp.out.hg H11.out)
    clear hj6 hk6 hh6 h15
    go_wp2_with (first
     | (refine wpList_load_row rfl 58 _ rfl w5.heap.size rfl 58 _ (0,0) _ H156.out Tryz.underlying58 rfl (by kernel_rfl) ?_)
     | (refine wpList_store_is rfl 58 _ _ rfl w2.heap.size 3 58 _ (spotF m2 (.slice A5 m2.tags.length c5)) #[.int .i64 m2.at_,.int .i64 m2.pend,.slice A5 m2.tags.length c5] rfl rfl H116.out (by kernel_rfl) rfl ?qa1 ?qa2 ?_))
    case qa1=>intro i hi;rcases(show i=0∨i=1∨i=2 by omega) with rfl|rfl|rfl<;>rfl
    case qa2=>intro i hi;rcases(show i=0∨i=1∨i=2 by omega) with rfl|rfl|rfl<;>rfl
    intro w7 hrow7 hk7 _
    have HSz6:Hid (w5.heap.size<w6.heap.size):=by have h3:=HK6.out.size;simp at h3;exact hid (by omega)
    have HG1:=hid H11.out.lt
    have HG0:Hid (w2.heap.size<wr.heap.size):=HR1.out.lt
    have HHg:Hid (¬ H' w2.heap.size):=fun h=>by
     rcases HH6.out _ h with h1|h1
     ·exact HAp.out.hg h1
     ·simp at h1;have h2:=HSz4.out;have h3:=HSz5.out;have h4:=HG0.out;omega
    have HMh:Hid (∀ i,mo b v i→¬ H' i):=fun i hi h=>by
     rcases HH6.out _ h with h1|h1
     ·exact HAp.out.mh i hi h1
     ·simp at h1;have h2:=HSz4.out;have h3:=HSz5.out;have h4:=HG0.out;have h5:=HMg.out i hi;omega
    have HM7:Hid (Mach w7 b v m2):=((HM4.out.kw HK5.out).kw ((KW.refl w5).alloc _) |>.keep HK6.out fun i hi=>HAp.out.mh i hi).keep hk7 fun i hi h=>by have h5:=HMg.out i hi;omega
    have HJ7:Hid (J (k+1) H' w7):=HS.out.keep (k+1) H' _ _ (· = w2.heap.size) HJ6.out hk7 fun i hi h=>HHg.out (h ▸ hi)
    have HR7:=hid hrow7
    have HO7:Hid (Owns w7 w.heap.size 3 (.slice A5 m2.tags.length c5) (ints m2.tags)):=by
     have h1:=hk7.owns (HK6.out.owns (HO5.out.alloc _) fun i hi h=>?x1) fun i hi h=>?x2
     ·exact h1.base (by have h2:=HSz4.out;have h4:=HG0.out;have h6:=HK2.out.size;omega)
     case x1=>have h1:=HJl.out i h;have h2:=(HB5.out i hi).1;have h3:=HSz4.out;omega
     case x2=>have h2:=(HB5.out i hi).1;have h3:=HSz4.out;have h4:=HG0.out;omega
    have HAp7:Hid (Apart (mo b v) H' (.slice A5 m2.tags.length c5) w2.heap.size):=by
     refine⟨HMh.out,HHg.out,fun i hi=>⟨fun h=>?_,fun h=>?_,?_⟩⟩
     ·rcases HH6.out _ h with h1|h1
      ·have h1:=HJl.out i h1;have h2:=(HB5.out i hi).1;have h3:=HSz4.out;omega
      ·simp at h1;have h2:=(HB5.out i hi).2;omega
     ·have h5:=HMg.out i h;have h2:=(HB5.out i hi).1;have h3:=HSz4.out;have h4:=HG0.out;omega
     ·have h2:=(HB5.out i hi).1;have h3:=HSz4.out;have h4:=HG0.out;omega
    have HH7:Hid (∀ i,H' i→H0 i∨w.heap.size≤i):=fun i h=>by
     rcases HH6.out _ h with h1|h1
     ·exact HH.out i h1
     ·simp at h1;have h2:=HSz4.out;have h3:=HSz5.out;have h4:=HG0.out;have h6:=HK2.out.size;exact .inr (by omega)
    have HK7:Hid (Keep H0 w w7):=by
     have h1:Keep H0 w (w5.alloc (.cells #[.int .i64 m2.at_,.int .i64 m2.pend,.slice A5 m2.tags.length c5] 58)):=(HK1.out.alloc _).trans HKp.out fun i hi ho=>absurd (HO.out i ho) (by omega)
     exact(h1.trans HK6.out fun i hi ho=>(HH.out i ho).elim id fun h=>absurd h (by omega)).trans hk7 fun i hi ho=>by have h6:=HK2.out.size;omega
    clear hrow7 hk7
    go_wp2_with fail
    go_roundw
    case rel=>exact⟨k+1,_,H',by omega,by go_num,rfl,by rw[HM2.out];exact HM7,HOK3,HJ7,by rw[HM2.out];exact HR7,by rw[HM2.out];exact HO7,HAp7,HH7,HK7⟩
    case measure=>simp[intOf];omega
   ·have d:(er != 0)=true:=by simpa using he
    have d2:(er==0)=false:=by simpa using he
    have HE0:=hid he
    clear he
    go_wp2_with fail
    go_ret3
    refine⟨(HK1.out.alloc _).trans HK4.out fun i hi ho=>absurd (HO.out i ho) (by omega),.inr ⟨k,hlt,HOK.out,by rw[HEr.out];exact HE0.out,by rw[HEr.out];rfl,H,HS.out.keep k H _ _ (mo b v) (HS.out.keep k H _ _ (fun _=>False) HJ1.out ((KW.refl wr).alloc _).keep (fun _ _ h=>h)) HK4.out fun i hi hm=>HAp.out.mh i hm hi⟩⟩
  ·obtain rfl:k=N:=by omega
   clear hlt
   go_wp2_with fail
   go_ret3
   exact⟨HK1.out,.inl ⟨b,v,H,HOK.out,rfl,HM1.out,HJ1.out,HAp.out.mh,HH.out⟩⟩
def OutJ (ob base:Nat)(f:Nat→Int)(k:Nat)(H:Nat→Prop)(w:World):Prop:=
 ∃ A c,w.rowIs ob 56 1 (fun _=>.slice A k c)∧Owns w base 3 (.slice A k c) (ints ((List.range k).map f))∧ob<base∧∀ i,H i↔i=ob∨(Value.slice A k c).ownBlock=some i
theorem OutJ.lt {ob base:Nat}{f:Nat→Int}{k:Nat}{H:Nat→Prop}{w:World}(h:OutJ ob base f k H w):∀ i,H i→i<w.heap.size:=by
 obtain⟨A,c,hr,ho,_,hH⟩:=h
 intro i hi
 rcases(hH i).1 hi with rfl|h
 ·exact hr.lt
 ·exact(ho.lt h).2
theorem OutJ.keep {ob base:Nat}{f:Nat→Int}{k:Nat}{H:Nat→Prop}{w w':World}{O:Nat→Prop}(h:OutJ ob base f k H w)(hk:Keep O w w')(hn:∀ i,H i→¬ O i):OutJ ob base f k H w':=by
 obtain⟨A,c,hr,ho,hb,hH⟩:=h
 exact⟨A,c,hk.row (hn _ ((hH _).2 (.inl rfl))) hr,hk.owns ho fun i hi=>hn _ ((hH _).2 (.inr hi)),hb,hH⟩
theorem ints_range_succ (f:Nat→Int)(k:Nat):ints ((List.range (k+1)).map f)=ints ((List.range k).map f)++[.int .i64 (f k)]:=by
 unfold ints
 rw[List.range_succ,List.map_append,List.map_append]
 rfl
theorem ints_range_len (f:Nat→Int)(k:Nat):(ints ((List.range k).map f)).length=k:=by rw[ints_len];simp
theorem sheld_any (x y a1 p1 a2 p2:Int)(va vb:Value)(ta tb:List Int)(w:World)(hla:ta.length≤1048576)(hlb:tb.length≤1048576)(hva:RT0 w va ta)(hvb:RT0 w vb tb):
 Calls Tryz.prog 58 #[.agg #[.int .i64 x,.int .i64 y,.int .i64 a1,.int .i64 p1,va,.int .i64 a2,.int .i64 p2,vb]] w fun e w'=>e=.returned (.int .i64 ((max (Mc.cnt ta) (Mc.cnt tb):Nat):Int))∧KW w w':=by
 obtain⟨A1,c1,rfl,hr1⟩:=hva
 obtain⟨A2,c2,rfl,hr2⟩:=hvb
 have H1:=hid (fun W (h:KW w W)=>pheld0_any a1 p1 (.slice A1 ta.length c1) ta W hla ⟨A1,c1,rfl,hr1.k h⟩)
 have H2:=hid (fun W (h:KW w W)=>pheld0_any a2 p2 (.slice A2 tb.length c2) tb W hlb ⟨A2,c2,rfl,hr2.k h⟩)
 have B1:=hid (Mc.cnt_le ta)
 have B2:=hid (Mc.cnt_le tb)
 clear hr1 hr2
 generalize Mc.cnt ta=n1 at *
 generalize Mc.cnt tb=n2 at *
 generalize ta.length=N1 at *
 generalize tb.length=N2 at *
 have hk:=(KW.refl w).alloc (.cells #[.int .i64 x,.int .i64 y,.int .i64 a1,.int .i64 p1,.slice A1 N1 c1,.int .i64 a2,.int .i64 p2,.slice A2 N2 c2] 115)
 have HK:=hid hk
 go_enter Tryz.func58,Tryz.ntmps58
 go_wp2_with fail
 refine wpCode_world (fun W=>KW w W∧w.heap.size<W.heap.size∧W.cell? ⟨w.heap.size,2,none⟩=some (.int .i64 a1)∧W.cell? ⟨w.heap.size,3,none⟩=some (.int .i64 p1)∧W.cell? ⟨w.heap.size,4,none⟩=some (.slice A1 N1 c1)∧W.cell? ⟨w.heap.size,5,none⟩=some (.int .i64 a2)∧W.cell? ⟨w.heap.size,6,none⟩=some (.int .i64 p2)∧W.cell? ⟨w.heap.size,7,none⟩=some (.slice A2 N2 c2)) ⟨hk,by simp,by go_simp,by go_simp,by go_simp,by go_simp,by go_simp,by go_simp⟩ ?_
 rintro W ⟨hkW,hs,hX⟩
 have HKW:=hid hkW
 have HSz:=hid hs
 have HX:=hid hX
 have HSS:=hid (fun w' (hq:KW W w')=>And.intro (KW.cell hq HSz.out HX.out.1) (And.intro (KW.cell hq HSz.out HX.out.2.1) (And.intro (KW.cell hq HSz.out HX.out.2.2.1) (And.intro (KW.cell hq HSz.out HX.out.2.2.2.1) (And.intro (KW.cell hq HSz.out HX.out.2.2.2.2.1) (KW.cell hq HSz.out HX.out.2.2.2.2.2))))))
 clear hkW hs hX hk
 have hXS:=HX.out
 refine wpX_region (S:=fun w'=>w'.cell? ⟨w.heap.size,2,none⟩=some (.int .i64 a1)∧w'.cell? ⟨w.heap.size,3,none⟩=some (.int .i64 p1)∧w'.cell? ⟨w.heap.size,4,none⟩=some (.slice A1 N1 c1)∧w'.cell? ⟨w.heap.size,5,none⟩=some (.int .i64 a2)∧w'.cell? ⟨w.heap.size,6,none⟩=some (.int .i64 p2)∧w'.cell? ⟨w.heap.size,7,none⟩=some (.slice A2 N2 c2)) (L:=99) (by kernel_rfl) ?_
 refine tk 0 ?_ (fun _ _=>?_) hXS ?_;rotate_left;· go_simp;try rfl
 simp only[lsz,lss]
 refine tk 1 ?_ (fun _ _=>?_) hXS ?_;rotate_left;· go_simp;try rfl
 simp only[lsz,lss]
 refine tk 3 ?_ (fun _ _=>?_) hXS ?_;rotate_left;· go_simp;try rfl
 simp only[lsz,lss]
 refine tk 4 ?_ (fun _ _=>?_) hXS ?_;rotate_left;· go_simp;try rfl
 simp only[lsz,lss]
 refine wpX_hard (k:=2) (by kernel_rfl) rfl (fun K hK=>?_)
 go_simp
 (refine(H1.out _ HKW.out.drew).mono ?_;rintro e w3 ⟨rfl,hb⟩;have HB3:Hid (KW W w3):=(KW.refl W).drew.t hb)
 refine hK _ _ (fun _=>HSS.out _ HB3.out) ?_
 clear hK K
 try simp only[lsz,lss]
 clear hXS
 have hXS:=HSS.out _ HB3.out
 refine wpX_hard (k:=5) (by kernel_rfl) rfl (fun K hK=>?_)
 go_simp
 (refine(H2.out _ (HKW.out.t HB3.out)).mono ?_;rintro e w4 ⟨rfl,hb4⟩;have HB4:Hid (KW W w4):=HB3.out.t hb4)
 refine hK _ _ (fun _=>HSS.out _ HB4.out) ?_
 clear hK K
 try simp only[lsz,lss]
 clear hXS
 have hXS:=HSS.out _ HB4.out
 refine tk 6 ?_ (fun _ _=>?_) hXS ?_;rotate_left;· go_simp;try rfl
 simp only[lsz,lss]
 refine tk 7 ?_ (fun _ _=>?_) hXS ?_;rotate_left;· go_simp;try rfl
 simp only[lsz,lss]
 refine wpX_done (by kernel_rfl) ?_
 go_wp2_with fail
 all_goals
  go_ret
  exact⟨ret_int (by omega),HKW.out.t HB4.out⟩
theorem held1_any (ob base:Nat)(f:Nat→Int)(k:Nat)(H:Nat→Prop)(x y a1 p1 a2 p2:Int)(va vb:Value)(tb:List Int)(w:World)(hk:k≤1099511627776)(hlb:tb.length≤1048576)(hvb:RT0 w vb tb)(hJ:OutJ ob base f k H w)(hb:base≤w.heap.size)
 (hf:f k=Mc.cnt tb) (hva:∃ A n c,va=.slice A n c):
 Calls Tryz.prog 59 #[.agg #[.int .i64 x,.int .i64 y,.int .i64 a1,.int .i64 p1,va,.int .i64 a2,.int .i64 p2,vb],.pointer (some ⟨ob,0,none⟩)] w
  fun e w'=>e=.returned (.tuple #[])∧∃ H',OutJ ob base f (k+1) H' w'∧Keep H w w'∧∀ i,H' i→H i∨w.heap.size≤i:=by
 obtain⟨A1,n1,c1,rfl⟩:=hva
 have hJl:=hid (OutJ.lt hJ)
 obtain⟨Ao,co,hro,hoo,hob,hH⟩:=hJ
 obtain⟨A2,c2,rfl,hr2⟩:=hvb
 have H2:=hid (fun W (h:KW w W)=>pheld0_any a2 p2 (.slice A2 tb.length c2) tb W hlb ⟨A2,c2,rfl,hr2.k h⟩)
 rw[← hf] at H2
 have HRS:=hid (ints_range_succ f k)
 have HRL:=hid (ints_range_len f k)
 generalize f k=q at *
 clear hr2 hf
 generalize tb.length=N2 at *
 have HR:=hid hro
 have HO:=hid hoo
 have HH:=hid hH
 have HB:=hid hb
 have HOB:=hid hob
 clear hro hoo hH hb hob
 go_enter Tryz.func59,Tryz.ntmps59
 go_wp2_with fail
 refine wpCode_world (fun W=>KW w W∧w.heap.size<W.heap.size∧W.cell? ⟨w.heap.size,5,none⟩=some (.int .i64 a2)∧W.cell? ⟨w.heap.size,6,none⟩=some (.int .i64 p2)∧W.cell? ⟨w.heap.size,7,none⟩=some (.slice A2 N2 c2)∧W.cell? ⟨ob,0,none⟩=some (.slice Ao k co)) ⟨(KW.refl w).alloc _,by simp,by go_simp,by go_simp,by go_simp,?_⟩ ?_
 ·exact KW.cell ((KW.refl w).alloc _) HR.out.lt (HR.out.cell (i:=0) (by omega))
 rintro W ⟨hkW,hs,hX⟩
 have HKW:=hid hkW
 have HSz:=hid hs
 have HX:=hid hX
 have HSS:=hid (fun w' (hq:KW W w')=>And.intro (KW.cell hq HSz.out HX.out.1) (And.intro (KW.cell hq HSz.out HX.out.2.1) (And.intro (KW.cell hq HSz.out HX.out.2.2.1) (KW.cell hq (Nat.lt_of_lt_of_le HR.out.lt HKW.out.size) HX.out.2.2.2))))
 clear hkW hs hX
 have hXS:=HX.out
 refine wpX_region (S:=fun w'=>w'.cell? ⟨w.heap.size,5,none⟩=some (.int .i64 a2)∧w'.cell? ⟨w.heap.size,6,none⟩=some (.int .i64 p2)∧w'.cell? ⟨w.heap.size,7,none⟩=some (.slice A2 N2 c2)∧w'.cell? ⟨ob,0,none⟩=some (.slice Ao k co)) (L:=6) (by kernel_rfl) ?_
 refine tk 0 ?_ (fun _ _=>?_) hXS ?_;rotate_left;· go_simp;try rfl
 simp only[lsz,lss]
 refine tk 1 ?_ (fun _ _=>?_) hXS ?_;rotate_left;· go_simp;try rfl
 simp only[lsz,lss]
 refine tk 2 ?_ (fun _ _=>?_) hXS ?_;rotate_left;· go_simp;try rfl
 simp only[lsz,lss]
 refine wpX_hard (k:=3) (by kernel_rfl) rfl (fun K hK=>?_)
 go_simp
 (refine(H2.out _ HKW.out.drew).mono ?_;rintro e w3 ⟨rfl,hb⟩;have HB3:Hid (KW W w3):=(KW.refl W).drew.t hb)
 refine hK _ _ (fun _=>HSS.out _ HB3.out) ?_
 clear hK K
 try simp only[lsz,lss]
 clear hXS
 have HA3:=hid (HB3.out.alloc (.cells #[.int .i64 q] 3))
 refine wpX_hard (k:=4) (by kernel_rfl) rfl (fun K hK=>?_)
 go_simp
 refine hK _ _ (fun _=>HSS.out _ HA3.out) ?_
 clear hK K
 try simp only[lsz,lss]
 have HSz3:Hid (W.heap.size≤w3.heap.size):=HB3.out.size
 refine wpX_appA (k:=5) (by kernel_rfl) rfl rfl rfl sliceInt' rfl (W:=w3.alloc (.cells #[.int .i64 q] 3)) (base:=base) (q:=1) (n:=k) (v:=.slice Ao k co) (xs:=ints ((List.range k).map f)) (ys:=[.int .i64 q]) rfl rfl (holds_one w3 _ 1 _ rfl) ?hown (by have:=HB.out;have:=HSz.out;have:=HSz3.out;simp;omega) (by omega) (by omega) ?_
 case hown=>
  have h:=HO.out.on (HKW.out.t HA3.out)
  unfold Owns at h
  rw[HRL.out] at h
  exact h
 intro v' w5 hown hkeep hloc
 have HO5:Hid (Owns w5 base 3 v' (ints ((List.range (k+1)).map f))):=by
  rw[HRS.out]
  show World.ownsRow _ _ _ _ _ _ _
  rw[List.length_append,HRL.out]
  exact hown
 have HK5:=hid hkeep
 have HL5:=hid hloc
 clear hown hkeep hloc
 have hne:∀ i,(Value.slice Ao k co).ownBlock=some i→i≠ob∧i≠w.heap.size:=fun i hi=>by
  have h1:=HO.out.lt hi
  have h2:=HOB.out
  omega
 have HNE:=hid hne
 have HRw:Hid (w5.rowIs ob 56 1 (fun _=>.slice Ao k co)):=HK5.out.row (fun h=>(HNE.out _ h).1 rfl) (KW.row (HKW.out.t HA3.out) HR.out.lt HR.out)
 have hSS5:w5.cell? ⟨w.heap.size,5,none⟩=some (.int .i64 a2)∧w5.cell? ⟨w.heap.size,6,none⟩=some (.int .i64 p2)∧w5.cell? ⟨w.heap.size,7,none⟩=some (.slice A2 N2 c2)∧w5.cell? ⟨ob,0,none⟩=some (.slice Ao k co):=by
  have h:=HSS.out _ HA3.out
  have hl:w.heap.size<(w3.alloc (.cells #[.int .i64 q] 3)).heap.size:=by have:=HSz.out;have:=HSz3.out;simp;omega
  have hc:¬ (Value.slice Ao k co).ownBlock=some w.heap.size:=fun h=>(HNE.out _ h).2 rfl
  exact⟨(HK5.out.cell hl hc).trans h.1,(HK5.out.cell hl hc).trans h.2.1,(HK5.out.cell hl hc).trans h.2.2.1,HRw.out.cell (i:=0) (by omega)⟩
 clear hne
 refine⟨fun _=>hSS5,?_⟩
 try simp only[lsz,lss]
 have hc0:=hSS5.2.2.2
 have hf0:=HRw.out.frozen 0
 obtain⟨A6,c6,hv6,hc6,hbb6,_⟩:=HO5.out.row
 rw[ints_range_len] at hv6
 subst hv6
 refine wpX_hard (k:=6) (by kernel_rfl) rfl (fun K hK=>?_)
 go_simp
 refine hK _ _ (fun h=>absurd rfl h) ?_
 clear hK K
 refine wpX_done (by kernel_rfl) ?_
 go_wp2_with fail
 have HL6:Hid (∀ i,(Value.slice A6 (k+1) c6).ownBlock=some i→(Value.slice Ao k co).ownBlock=some i∨w3.heap.size+1≤i):=fun i hi=>by
  rcases HL5.out with h|h
  ·exact .inl (h ▸ hi)
  ·rw[h] at hi;injection hi with hi;simp at hi;exact .inr (by omega)
 refine bodyPost_end (results_none rfl _ _ _) rfl ?_
 refine⟨rfl,(fun i=>i=ob∨(Value.slice A6 (k+1) c6).ownBlock=some i),⟨A6,c6,?_,?_,HOB.out,fun i=>Iff.rfl⟩,?_,?_⟩
 ·refine(HRw.out.set 0 _).congr fun i hi=>?_
  obtain rfl:i=0:=by omega
  exact if_pos rfl
 ·exact HO5.out.of_blocks fun i hi=>heap_setCell_other w5 _ i _ (by have:=(HO5.out.lt hi).1;have:=HOB.out;show i≠ob;omega)
 ·exact(((HKW.out.t HA3.out).keep (own:=H)).trans HK5.out fun i _ hi=>(HH.out i).2 (.inr hi)).setCell _ _ ((HH.out _).2 (.inl rfl))
 ·intro i hi
  rcases hi with rfl|hi
  ·exact .inl ((HH.out _).2 (.inl rfl))
  ·rcases HL6.out i hi with h|h
   ·exact .inl ((HH.out _).2 (.inr h))
   ·exact .inr (by have:=HKW.out.size;have:=HSz3.out;omega)
def ListP (w:World)(r:Option (List Int))(c:Int)(e:Ending)(w':World):Prop:=
 (match r with
 | none=>e=.returned (.tuple #[.slice none 0 0,.int .i64 c])
 | some xs=>∃ v,e=.returned (.tuple #[v,.int .i64 c])∧Owns w' w.heap.size 3 v (ints xs))∧KW w w'
theorem see_held (l:Int)(n:Nat)(l0:0≤l)(l1:l<65536)(hn:n≤1048576)(list:List Mc.Act)(hlen:list.length≤1099511627776)(ob:Nat):
 See 59 #[.pointer (some ⟨ob,0,none⟩)] (Mc.new l n) list (fun k H w=>OutJ ob (ob+1) (fun k=>Mc.hl (Mc.new l n) list (k+1)) k H w):=by
 refine⟨fun args W=>by kernel_rfl,fun k H w h=>h.lt,fun k H w w' O h hk hn=>h.keep hk hn,fun k H w va vb hkl _ hJ ha hb _ _=>?_⟩
 obtain⟨Aa,ca,rfl,_⟩:=ha
 have hb1:ob+1≤w.heap.size:=by
  obtain⟨A,c,hr,_⟩:=hJ
  exact hr.lt
 refine(held1_any ob (ob+1) _ k H _ _ _ _ _ _ _ vb _ w (by omega) ?_ hb hJ hb1 rfl ⟨_,_,_,rfl⟩).mono fun e w' h=>h
 rw[Mc.up_len]
 simpa [Mc.new] using hn
theorem cells1 (w:World)(t:TypeId)(v:Value):(w.alloc (.cells #[v] t)).rowIs w.heap.size t 1 (fun _=>v):=
 World.rowIs_alloc w #[v] t _ fun i hi=>by
  obtain rfl:i=0:=by simp at hi;omega
  rfl
theorem outJ_start (w:World)(f:Nat→Int):OutJ w.heap.size (w.heap.size+1) f 0 (· = w.heap.size) (w.alloc (.cells #[.slice none 0 0] 56)):=
 ⟨none,0,cells1 w _ _,Owns.nil _ _ _,by omega,fun i=>by simp[Value.ownBlock]⟩
theorem pheld_yes (l:Int)(n:Nat)(A:Option Addr)(c:Nat)(list:List Mc.Act)(w:World)(l0:0≤l)(l1:l<65536)(hn:n≤1048576)(hlen:list.length≤1099511627776)(hA:Acts w A list):
 Calls Tryz.prog 23 #[.int .i64 l,.int .i64 n,.slice A list.length c] w fun e w'=>
  (Mc.okTo (Mc.new l n) list list.length∧ListP w (some ((List.range list.length).map fun k=>(Mc.hl (Mc.new l n) list (k+1):Int))) 0 e w')∨∃ k,k<list.length∧Mc.okTo (Mc.new l n) list k∧Mc.er (Mc.new l n) list k≠0∧ListP w none (Mc.er (Mc.new l n) list k) e w':=by
 have HAw:=hid (hA.kw ((KW.refl w).alloc (.cells #[.slice none 0 0] 56)))
 have HAb:Hid (0<list.length→∀ b off,A=some ⟨b,off,none⟩→¬ b=w.heap.size):=fun h0 b off hA'=>by
  obtain⟨b',off',h1,h2,_⟩:=hA h0
  rw[h1] at hA';cases hA';omega
 have HWt:=hid (watch_yes l n A c list 59 #[.pointer (some ⟨w.heap.size,0,none⟩)] _ (· = w.heap.size) (w.alloc (.cells #[.slice none 0 0] 56)) l0 l1 hn hlen HAw.out HAb.out (see_held l n l0 l1 hn list hlen w.heap.size) (outJ_start w _))
 unfold WatchP at HWt
 have hk0:∀ i,i=w.heap.size→w.heap.size≤i:=fun i h=>by omega
 have HK0:=hid hk0
 clear hA HAw HAb hk0
 generalize Mc.new l n=m0 at *
 generalize hN:list.length=N at *
 clear hN
 go_enter Tryz.func23,Tryz.ntmps23
 go_wp2_with fail
 refine HWt.out.mono ?_
 rintro e w1 ⟨hk1,h⟩
 rcases h with⟨b,v,H,hok,rfl,hm,hj,_,hH⟩|⟨k,hk,hok,her,rfl,_⟩
 ·obtain⟨Ao,co,hr,ho,_,hHH⟩:=hj
  have HO:=hid ho
  have HOK:=hid hok
  have HRn:=hid (ints_range_len (fun k=>(Mc.hl m0 list (k+1):Int)) N)
  have c0:=hr.cell (i:=0) (by omega)
  have HK:=hid (((KW.refl w).alloc (.cells #[.slice none 0 0] 56)).kept hk1 HK0.out)
  clear hr ho hHH hm hH hok hk1
  go_wp2_with fail
  go_ret2
  exact .inl ⟨HOK.out,⟨_,rfl,HO.out.base (by omega)⟩,HK.out⟩
 ·have HOK:=hid hok
  have HK:=hid (((KW.refl w).alloc (.cells #[.slice none 0 0] 56)).kept hk1 HK0.out)
  have HE:=hid her
  have HKN:=hid hk
  clear hok hk1 hk
  generalize hc:Mc.er m0 list k=er at *
  have HC:=hid hc
  clear hc
  have d:(er != 0)=true:=by simpa using her
  have d2:(er==0)=false:=by simpa using her
  clear her
  go_wp2_with fail
  go_ret2
  exact .inr ⟨k,HKN.out,HOK.out,by rw[HC.out];exact HE.out,by rw[HC.out];exact⟨rfl,HK.out⟩⟩
end Go.Proofs.YtphppbonljdibaaGreat
