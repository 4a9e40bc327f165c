import Derived.Test.YtphppbonljdibaaGreatTB32
import Derived.Test.YtphppbonljdibaaGreatTB33
import Derived.Test.YtphppbonljdibaaGreatTB31
import Derived.RegionTactic
set_option maxRecDepth 100000
set_option maxHeartbeats 4000000
set_option linter.unusedVariables false
set_option linter.unusedSimpArgs false
namespace Go.Proofs.YtphppbonljdibaaGreat
open Go.ChangeShapes Go.WideShapes Go.ChangeAt Go.RowKit
def RunP (b:Nat)(v:Value)(m':Mc.St)(acts:List Mc.Act)(w:World)(e:Ending)(w':World):Prop:=
 ∃ vo,e=.returned vo∧OwnsA w' w.heap.size vo acts∧Mach w' b v m'∧Keep (mo b v) w w'
theorem srun_any (k:Int)(ended:Bool)(b:Nat)(v:Value)(m m':Mc.St)(acts:List Mc.Act)(w:World)(hM:Mach w b v m)(hR:Mc.Runs (Sd.nm k ended) m acts m')(hI:Mc.Inv m)(hlen:acts.length≤1099511627776)(hT:m.tot+65535 * (acts.length:Int)≤4611686018427387904):
 Calls Tryz.prog 87 #[.pointer (some ⟨b,0,none⟩),.int .i64 k,.bool ended] w (RunP b v m' acts w):=by
 have HM:=hid hM
 have HR:=hid hR
 have HI:=hid hI
 have HT:=hid hT
 have HMlt:=hid (fun i=>hM.lt (k:=i))
 clear hM hR hI hT
 unfold RunP
 go_enter Tryz.func87,Tryz.ntmps87
 go_wp2_with fail
 go_loopw [7] (fun vo wr=>∃ (pre rest:List Mc.Act) (mi:Mc.St),Hid (acts=pre++rest)∧Hid (OwnsA wr w.heap.size vo pre)∧Hid (Mach wr b v mi)∧Hid (Mc.Runs (Sd.nm k ended) mi rest m')∧Hid (Mc.Inv mi)∧Hid (mi.tot+65535 * (rest.length:Int)≤4611686018427387904)∧Hid (Keep (mo b v) w wr)) (fun vo _=>acts.length+1 - vlen vo)
 case atStart=>exact⟨[],acts,m,rfl,OwnsA.nil _ _,HM,HR,HI,HT,Keep.refl _ _⟩
 case round=>
  obtain⟨pre,rest,mi,HA,HO,HM1,HR1,HI1,HT1,HK1⟩:=hrel
  clear HM HR HI HT
  have HSp:=hid (spot_any mi b v wr HM1.out HI1.out.ln)
  unfold SpotP at HSp
  have HNx:=hid (fun W v2 (h:RTz W v2 mi.tags)=>snext_any k ended mi.at_ mi.pend mi.tags v2 W h)
  have hnm:Sd.nx k ended mi.at_ mi.pend mi.tags=Sd.nm k ended mi:=rfl
  rw[hnm] at HNx
  unfold AnsP at HNx
  obtain⟨Ao,co,hvo,_,_⟩:=HO.out.slice
  subst hvo
  have HD:=hid (fun x y W (h:Mach W b v mi)=>do_any mi x y b v W h HI1.out (by have:=HT1.out;omega))
  unfold Did at HD
  have HKN:Hid (∀ W W' (h:Keep (mo b v) w W) (h2:KW W W'),Keep (mo b v) w W'):=fun W W' h h2=>h.kwt h2
  have HOn:Hid (∀ i,(Value.slice Ao pre.length co).ownBlock=some i→¬ mo b v i):=fun i hi hm=>by
   have h1:=(HO.out.lt hi).1
   have h2:=HMlt.out i hm
   omega
  go_wp2_with fail
  refine HSp.out.mono ?_
  rintro e w2 ⟨v2,rfl,ho2,hk2⟩
  have HZ:=hid ho2.rtz
  have HM2:=hid (HM1.out.kw hk2)
  have HO2:=hid (HO.out.kw hk2)
  have HK2:=hid (HK1.out.kwt hk2)
  obtain⟨A2,c2,hv2,_⟩:=ho2.row
  rw[ints_len] at hv2
  subst hv2
  clear ho2 hk2
  go_wp2_with fail
  refine(HNx.out _ _ HZ.out).mono ?_
  rintro e w3 ⟨rfl,hk3⟩
  have HM3:=hid (HM2.out.kw hk3)
  have HO3:=hid (HO2.out.kw hk3)
  have HK3:=hid (HK2.out.kwt hk3)
  clear hk3
  cases rest with
  | nil=>
    obtain⟨hm',hx⟩:=HR1.out
    subst hm'
    have HAe:Hid (acts=pre):=by rw[HA.out,List.append_nil];exact hid rfl
    rcases hx with hx|⟨a,hx,her⟩
    ·rw[hx]
     simp only[Option.getD_none,Option.isSome_none]
     go_wp2_with fail
     go_ret
     exact⟨_,rfl,by rw[HAe.out];exact HO3.out.kw ((KW.refl w3).alloc _),HM3.out.kw ((KW.refl w3).alloc _),HK3.out.alloc _⟩
    ·rw[hx]
     simp only[Option.getD_some,Option.isSome_some]
     obtain⟨x,y⟩:=a
     have HEs:=hid (Mc.step_err m' x y her)
     have HD1:=hid (HD.out x y)
     clear HD
     generalize (Mc.step m' x y).2=er at *
     have d1:(er != 0)=true:=by simpa using her
     clear her hx
     go_wp2_with fail
     refine(HD1.out _ (HM3.out.kw ((KW.refl w3).alloc _))).mono ?_
     rintro e w4 ⟨rfl,hm4,hk4⟩
     rw[HEs.out] at hm4
     have HM4:=hid hm4
     have HO4:=hid ((HO3.out.kw ((KW.refl w3).alloc (.cells #[.int .i64 x,.int .i64 y] 55))).keep hk4 HOn.out)
     have HK4:=hid ((HK3.out.alloc (.cells #[.int .i64 x,.int .i64 y] 55)).t hk4)
     clear hm4 hk4
     go_wp2_with fail
     go_ret
     exact⟨_,rfl,by rw[HAe.out];exact HO4.out,HM4.out,HK4.out⟩
  | cons a rest=>
    obtain⟨hx,her,hr⟩:=HR1.out
    obtain⟨x,y⟩:=a
    rw[hx]
    simp only[Option.getD_some,Option.isSome_some]
    have HR2:=hid hr
    have HI2:=hid (HI1.out.step x y)
    have HS:=hid (Mc.step_tot mi x y)
    have HD1:=hid (HD.out x y)
    have HT2:Hid ((Mc.step mi x y).1.tot+65535 * (rest.length:Int)≤4611686018427387904):=by
     have h1:=HT1.out
     have h2:=HS.out
     simp only[List.length_cons] at h1
     exact hid (by omega)
    have HA2:Hid (acts=(pre++[(x,y)])++rest):=by rw[HA.out];exact hid (by simp)
    have HL:Hid (pre.length+1≤acts.length):=by rw[HA.out];exact hid (by simp)
    clear HD hx hr HR1 HS
    have her':(Mc.step mi x y).2=0:=her
    rw[her'] at HD1
    clear her her'
    dsimp only at HR2
    generalize (Mc.step mi x y).1=mj at *
    go_wp2_with fail
    refine(HD1.out _ (HM3.out.kw ((KW.refl w3).alloc _))).mono ?_
    rintro e w4 ⟨rfl,hm4,hk4⟩
    have HM4:=hid hm4
    have HO4:=hid ((HO3.out.kw ((KW.refl w3).alloc (.cells #[.int .i64 x,.int .i64 y] 55))).keep hk4 HOn.out)
    have HK4:=hid ((HK3.out.alloc (.cells #[.int .i64 x,.int .i64 y] 55)).t hk4)
    have hnb:¬ mo b v w3.heap.size:=fun h=>by
     have:=HM3.out.lt h;omega
    have hb4:=(hk4.block w3.heap.size (by simp) hnb).trans (heap_alloc_new w3 _)
    have HB4:=hid hb4
    clear hm4 hk4 hnb hb4
    have HQ1:Hid ((pre.length+1) * 16≤140737488355328):=by have:=HL.out;exact hid (by omega)
    have HQ2:Hid (pre.length+1≤9223372036854775807):=by have:=HL.out;exact hid (by omega)
    have HQ3:Hid (w.heap.size≤(w4.alloc (.cells #[.int .i64 x,.int .i64 y] 55)).heap.size):=by have:=HK4.out.size;exact hid (by simp;omega)
    have HO5:=hid (HO4.out.kw ((KW.refl w4).alloc (.cells #[.int .i64 x,.int .i64 y] 55)))
    have HX:Hid (Holds (w4.alloc (.cells #[.int .i64 x,.int .i64 y] 55)) (.slice (some ⟨w4.heap.size,0,none⟩) 1 1) 1 2 [.int .i64 x,.int .i64 y]):=Holds.new (w:=w4) (t:=55) (k:=1) (size:=2) (c:=1) (ys:=[.int .i64 x,.int .i64 y]) rfl rfl
    go_wp2_with (first
     | (at_builtin;refine wpList_appA rfl sliceAct rfl (W:=w4.alloc (.cells #[.int .i64 x,.int .i64 y] 55)) (base:=w.heap.size) (k:=1) (n:=pre.length) (v:=.slice Ao pre.length co) (u:=.slice (some ⟨w4.heap.size,0,none⟩) 1 1) (xs:=acl pre) (ys:=[.int .i64 x,.int .i64 y]) rfl rfl HX.out HO5.out HQ3.out HQ1.out HQ2.out ?_;intro v5 w5 hown5 hkeep5 hv5)
     | (refine wpList_load_row rfl 55 _ rfl w3.heap.size rfl 55 _ (0,0) _ HB4.out Tryz.underlying55 rfl (by kernel_rfl) ?_))
    have hno:∀ i,mo b v i→¬ (Value.slice Ao pre.length co).ownBlock=some i:=fun i hi h=>HOn.out i h hi
    have HM5:=hid ((HM4.out.kw ((KW.refl w4).alloc _)).keep hkeep5 hno)
    have HK5:Hid (Keep (mo b v) w w5):=(HK4.out.alloc _).trans (hkeep5.mono (own':=fun i=>w.heap.size≤i) fun i _ hi=>(HO5.out.lt hi).1) fun i hi h=>by omega
    have HO6:Hid (OwnsA w5 w.heap.size v5 (pre++[(x,y)])):=OwnsA.app (l':=[(x,y)]) hown5
    clear hown5 hkeep5 hv5 hno
    have hvl:=HO6.out.vlen
    rw[List.length_append] at hvl
    have HVL:=hid hvl
    have hl:=HL.out
    clear hvl
    go_roundw
    case rel=>exact⟨pre++[(x,y)],rest,mj,HA2,HO6,HM5,HR2,HI2,HT2,HK5⟩
    case measure=>
     have:=HVL.out
     simp only[List.length_cons,List.length_nil] at this
     rw[this]
     show _<acts.length+1 - pre.length
     omega
def StepsP (L n:Nat)(w:World)(e:Ending)(w':World):Prop:=
 ∃ b v A c,e=.returned (.tuple #[.slice A (Sd.aA n L).length c,.pointer (some ⟨b,0,none⟩),.int .i64 0])∧OwnsA w' w.heap.size (.slice A (Sd.aA n L).length c) (Sd.aA n L)∧Mach w' b v (Sd.mA L n L)∧(∀ i,mo b v i→w.heap.size≤i)∧(∀ i,(Value.slice A (Sd.aA n L).length c).ownBlock=some i→¬ mo b v i)∧KW w w'
theorem ssteps_yes (L n:Nat)(w:World)(hL:L<65536)(hn:1≤n∧n≤1048576):
 Calls Tryz.prog 49 #[.int .i64 L,.int .i64 n] w (StepsP L n w):=by
 have HN:=hid (fun W=>stride_yes L n W (by omega) (by omega) (by omega) (by omega))
 have HNew:=hid (fun W=>new_yes L n W (by omega) (by omega) hn.2)
 have HRun:=hid (fun(k:Nat) (hk:k≤L) b v W (h:Mach W b v (Sd.mZ L n k))=>srun_any k false b v _ _ _ W h (Sd.run_ahead (L:=(L:Int)) (n:=n) (k:=k) (by omega) (by omega) hn) (Sd.mZ_inv (L:=(L:Int)) (by omega) (by omega) (by omega) hn) (by have:=Sd.rA_le n k;omega) (by have:=Sd.rA_le n k;have:=Sd.mZ_tot L n k;omega))
 have HLen:=hid (fun k (hk:k≤65536)=>Sd.aB_b n hk)
 have HEnd:=hid (Sd.aB_aA n L)
 unfold StepsP
 unfold NewP at HNew
 unfold RunP at HRun
 have hmz:Hid (Sd.mZ L n (L+1)=Sd.mA L n L):=rfl
 have hmz0:Hid (Sd.mZ L n 0=Mc.new L n):=rfl
 have hab:Hid (∀ k,Sd.aB n (k+1)=Sd.aB n k++Sd.rA n k):=fun k=>rfl
 generalize Sd.sd L n=dd at *
 go_enter Tryz.func49,Tryz.ntmps49
 go_wp2_with (go_at_call 15;refine(HN.out _).mono ?_;rintro e w1 ⟨rfl,rfl⟩)
 refine(HNew.out _).mono ?_
 rintro e w1 ⟨b,v,rfl,hm,hb,hk⟩
 have HM:=hid hm
 have HB:=hid hb
 have HK:=hid hk
 clear hm hb hk
 go_wp2_with fail
 go_loopw [11,30] (fun vo i wr=>∃ k:Nat,k≤L+1∧i=.int .i64 k∧Hid (OwnsA wr w.heap.size vo (Sd.aB n k))∧Hid (∀ i,vo.ownBlock=some i→¬ mo b v i)∧Hid (Mach wr b v (Sd.mZ L n k))∧Hid (KW w wr)) (fun _ i _=>L+1 - (intOf i).toNat)
 case atStart=>exact⟨0,by omega,rfl,OwnsA.nil _ _,fun i h=>(by cases h),by rw[hmz0.out];exact HM,HK⟩
 case round=>
  obtain⟨k,hk,rfl,HO,HOn,HM1,HK1⟩:=hrel
  clear HM HK
  obtain⟨Ao,co,hvo,_,_⟩:=HO.out.slice
  subst hvo
  by_cases hlt:k<L+1
  ·have L5:(k:Int)<(L:Int)+1:=by omega
   have HRk:=hid (HRun.out k (by omega) b v wr HM1.out)
   have HLk:=hid (HLen.out k (by omega))
   have HRl:=hid (Sd.rA_le n k)
   have HMn:Hid (Sd.mZ L n (k+1)=Sd.mA L n k):=rfl
   have HAb:=hid (hab.out k)
   go_wp2_with fail
   refine HRk.out.mono ?_
   rintro e w2 ⟨v2,rfl,ho2,hm2,hk2⟩
   obtain⟨A2,c2,hv2,_,_⟩:=ho2.slice
   subst hv2
   have HH2:=hid ho2.holds
   have HO2:=hid (HO.out.keep hk2 HOn.out)
   have HM2:=hid hm2
   have HK2:Hid (KW w w2):=HK1.out.kept hk2 fun i hi=>HB.out i hi
   have HQ1:Hid (((Sd.aB n k).length+(Sd.rA n k).length) * 16≤140737488355328):=by have:=HLk.out;have:=HRl.out;exact hid (by omega)
   have HQ2:Hid ((Sd.aB n k).length+(Sd.rA n k).length≤9223372036854775807):=by have:=HLk.out;have:=HRl.out;exact hid (by omega)
   have HQ3:Hid (w.heap.size≤w2.heap.size):=HK2.out.size
   have HMl:Hid (∀ i,mo b v i→i<w2.heap.size):=fun i hi=>hm2.lt hi
   clear ho2 hm2 hk2
   go_wp2_with (at_builtin;refine wpList_appA rfl sliceAct rfl (W:=w2) (base:=w.heap.size) (k:=(Sd.rA n k).length) (n:=(Sd.aB n k).length) (v:=.slice Ao (Sd.aB n k).length co) (u:=.slice A2 (Sd.rA n k).length c2) (xs:=acl (Sd.aB n k)) (ys:=acl (Sd.rA n k)) rfl rfl HH2.out HO2.out HQ3.out HQ1.out HQ2.out ?_;intro v5 w5 hown5 hkeep5 hv5)
   have hno:∀ i,mo b v i→¬ (Value.slice Ao (Sd.aB n k).length co).ownBlock=some i:=fun i hi h=>HOn.out i h hi
   have HM5:Hid (Mach w5 b v (Sd.mZ L n (k+1))):=by rw[HMn.out];exact hid (HM2.out.keep hkeep5 hno)
   have HO6:Hid (OwnsA w5 w.heap.size v5 (Sd.aB n (k+1))):=by rw[HAb.out];exact hid (OwnsA.app hown5)
   have HK5:Hid (KW w w5):=HK2.out.kept hkeep5 fun i hi=>(HO2.out.lt hi).1
   have HOn5:Hid (∀ i,v5.ownBlock=some i→¬ mo b v i):=fun i hi hm=>by
    rcases hv5 with h|h
    ·exact HOn.out i (by rw[← h];exact hi) hm
    ·rw[h] at hi
     cases hi
     have:=HMl.out _ hm
     omega
   clear hown5 hkeep5 hv5 hno
   go_roundw
   case rel=>exact⟨k+1,by omega,by go_num,HO6,HOn5,HM5,HK5⟩
   case measure=>simp[intOf];omega
  ·obtain rfl:k=L+1:=by omega
   have d:decide (((L+1:Nat):Int)<(L:Int)+1)=false:=decide_eq_false (by omega)
   clear hlt
   rw[HEnd.out,hmz.out] at *
   go_wp2_with fail
   go_ret3
   exact⟨b,v,Ao,co,rfl,HO.out,HM1.out,HB.out,HOn.out,HK1.out⟩
def ActsP (w:World)(acts:List Mc.Act)(c:Int)(e:Ending)(w':World):Prop:=
 ∃ A cp,e=.returned (.tuple #[.slice A acts.length cp,.int .i64 c])∧OwnsA w' w.heap.size (.slice A acts.length cp) acts∧KW w w'
theorem ssahead_yes (L n:Nat)(w:World)(hL:L<65536)(hn:1≤n∧n≤1048576):
 Calls Tryz.prog 14 #[.int .i64 L,.int .i64 n] w (ActsP w (Sd.aA n L) 0):=by
 have HN:=hid (fun W=>ssteps_yes L n W hL hn)
 unfold StepsP at HN
 unfold ActsP
 go_enter Tryz.func14,Tryz.ntmps14
 go_wp2_with fail
 refine(HN.out _).mono ?_
 rintro e w1 ⟨b,v,A,c,rfl,ho,_,_,_,hk⟩
 have HO:=hid ho
 have HK:=hid hk
 clear ho hk
 go_wp2_with fail
 go_ret2
 exact⟨A,c,rfl,HO.out,HK.out⟩
theorem rsame26_any (la lb:List Mc.Act)(A B:Option Addr)(ca cb:Nat)(w:World)(hl:la.length≤1099511627776)(hl2:lb.length≤1099511627776)(hA:Acts w A la)(hB:Acts w B lb):
 Calls Tryz.prog 17 #[.slice A la.length ca,.slice B lb.length cb] w fun e w'=>e=.returned (.bool (decide (la=lb)))∧KW w w':=by
 by_cases hn:la.length=lb.length
 ·have HL:=hid hn
  have HX:Hid ((∀ i,i<la.length→la.getD i (0,0)=lb.getD i (0,0))→la=lb):=fun h=>List.ext_getElem hn fun i h1 h2=>by have:=h i h1;simpa [h1,h2] using this
  have HY:Hid (∀ i,i<la.length→la.getD i (0,0)≠lb.getD i (0,0)→decide (la=lb)=false):=fun i hi h=>decide_eq_false fun e=>h (by rw[e])
  have HD:Hid (la=lb→decide (la=lb)=true):=fun h=>decide_eq_true h
  have HAc:=hid (fun W (h:KW w W) k hk=>(hA.kw h).at_ (k:=k) hk)
  have HBc:=hid (fun W (h:KW w W) k hk=>(hB.kw h).at_ (k:=k) hk)
  have HE:=hid (fun W x y a b=>act_neq W x y a b)
  generalize decide (la=lb)=r at *
  rw[← hn] at HBc hl2 ⊢
  clear hA hB hn
  have HK0:=hid (KW.refl w)
  have e9:((la.length:Int) != (la.length:Int))=false:=by simp
  have e9':((la.length:Nat) != la.length)=false:=by simp
  generalize la.length=N at *
  go_enter Tryz.func17,Tryz.ntmps17
  go_wp2_with fail
  go_loopw [5] (fun i wr=>∃ k:Nat,k≤N∧i=.int .i64 k∧Hid (∀ i,i<k→la.getD i (0,0)=lb.getD i (0,0))∧Hid (KW w wr)) (fun i _=>N - (intOf i).toNat)
  case atStart=>exact⟨0,by omega,rfl,fun i hi=>absurd hi (by omega),HK0⟩
  case round=>
   obtain⟨k,hk,rfl,HI,HK⟩:=hrel
   by_cases hlt:k<N
   ·obtain⟨b1,o1,rfl,hb1,hc1,hc2⟩:=HAc.out wr HK.out k hlt
    obtain⟨b2,o2,rfl,hb2,hc3,hc4⟩:=HBc.out wr HK.out k hlt
    have L5:(k:Int)<(N:Int):=by omega
    have HY1:=hid (HY.out k hlt)
    have HI1:Hid (la.getD k (0,0)=lb.getD k (0,0)→∀ i,i<k+1→la.getD i (0,0)=lb.getD i (0,0)):=fun h i hi=>by
     rcases(show i<k∨i=k by omega) with h1|rfl
     ·exact HI.out i h1
     ·exact h
    generalize hp:la.getD k (0,0)=p at *
    generalize hq:lb.getD k (0,0)=q at *
    clear hp hq
    obtain⟨x,y⟩:=p
    obtain⟨a,b⟩:=q
    dsimp only at hc1 hc2 hc3 hc4
    by_cases hxy:x=a∧y=b
    ·obtain⟨rfl,rfl⟩:=hxy
     have HI2:=hid (HI1.out rfl)
     have e1:∀ W,(binOp .neq 55 (.agg #[.int .i64 x,.int .i64 y]) (.agg #[.int .i64 x,.int .i64 y])).run Tryz.prog W=.ok (.bool false) W:=fun W=>by rw[HE.out];simp
     clear HI1 HY1
     go_wp2_with fail
     go_region
     go_wp2_with fail
     go_roundw
     case rel=>exact⟨k+1,by omega,by go_num,HI2,HK.out.drew⟩
     case measure=>simp[intOf];omega
    ·have e1:∀ W,(binOp .neq 55 (.agg #[.int .i64 x,.int .i64 y]) (.agg #[.int .i64 a,.int .i64 b])).run Tryz.prog W=.ok (.bool true) W:=fun W=>by
      rw[HE.out]
      have:(x==a&&y==b)=false:=by
       cases h:(x==a&&y==b)
       ·rfl
       ·simp at h;exact absurd h hxy
      rw[this];rfl
     have HR:=hid (HY1.out (fun h=>hxy (by simpa using h)))
     clear HI1 HY1 hxy
     go_wp2_with fail
     go_region
     go_wp2_with fail
     go_ret
     exact⟨ret_bool HR.out.symm,HK.out.drew⟩
   ·obtain rfl:k=N:=by omega
    have HR:=hid (HD.out (HX.out HI.out))
    clear hlt
    go_wp2_with fail
    go_ret
    exact⟨ret_bool HR.out.symm,HK.out⟩
 ·have d:decide (la=lb)=false:=decide_eq_false fun h=>hn (by rw[h])
  rw[d]
  have e1:((la.length:Int) != (lb.length:Int))=true:=by simp;omega
  have e2:((la.length:Nat) != (lb.length:Nat))=true:=by simp;omega
  have HK:=hid (KW.refl w)
  clear d hn hA hB
  generalize la.length=N at *
  generalize lb.length=M at *
  go_enter Tryz.func17,Tryz.ntmps17
  go_wp2_with fail
  go_ret
  exact⟨rfl,HK.out⟩
end Go.Proofs.YtphppbonljdibaaGreat
