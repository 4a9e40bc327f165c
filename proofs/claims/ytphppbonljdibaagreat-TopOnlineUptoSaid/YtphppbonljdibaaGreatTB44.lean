/- TopOnline, of whatever header and numbers come in: the law returns true, does not panic, and leaves its arguments as they were. Conditions: the bulk of the arguments is at most 1048576, which is the given statement's own bound (TopOnlineUptoSaid); no other. -/
import Derived.Test.YtphppbonljdibaaGreatTB42
import Derived.Test.YtphppbonljdibaaGreatTB34
import Derived.Test.YtphppbonljdibaaGreatTB43
import Derived.JoinedCond
set_option maxRecDepth 100000
set_option maxHeartbeats 4000000
set_option linter.unusedVariables false
set_option linter.unusedSimpArgs false
namespace Go.Proofs.YtphppbonljdibaaGreat
open Go.ChangeShapes Go.WideShapes Go.ChangeAt Go.RowKit
theorem aA_pre2 (n k:Nat):∀ m,∃ r,Sd.aA n (k+m)=Sd.aA n k++r:=by
 intro m
 induction m with
 | zero=>exact⟨[],by simp⟩
 | succ m ih=>
   obtain⟨r,hr⟩:=ih
   refine⟨r++Sd.rA n (k+m+1),?_⟩
   show Sd.aA n (k+m)++Sd.rA n (k+m+1)=_
   rw[hr,List.append_assoc]
theorem lA_take (n k m:Nat):(Sd.lA n (k+m)).take (Sd.aA n k).length=Sd.aA n k∧(Sd.aA n k).length≤(Sd.lA n (k+m)).length:=by
 obtain⟨r,hr⟩:=aA_pre2 n k m
 have hl:Sd.lA n (k+m)=Sd.aA n (k+m)++Sd.bL (Sd.sd (k+m:Nat) n) (Sd.aT n (k+m)) (k+m):=rfl
 rw[hl,hr,List.append_assoc]
 exact⟨by simp,by simp⟩
theorem spot_tags (a p:Int)(A:Option Addr)(N c:Nat)(W:World):(Instr.field 58 (.agg #[.int .i64 a,.int .i64 p,.slice A N c]) 2).run Tryz.prog W=.ok (.slice A N c) W:=by kernel_rfl
structure OnF (n N:Nat)(d tt:Int)(ct:Nat→Nat)(T:List Int):Prop where
 d1:1≤d
 d2:d≤65536
 t1:0≤(n:Int) * (tt - N)
 t2:(n:Int) * (tt - N)≤(N:Int) * N
 t3:0≤tt - N
 t4:tt≤2000
 one:N<n→tt=N
 c0:ct 0=0
 cs:∀ i,i<n→ct (i+1)=ct i+(if 0≤T.getD i 0 then 1 else 0)
 cb:∀ i,ct i≤n
 ce:((ct n:Nat):Int)=(N:Int) / d+1
 all:∀ i,i<n→T.getD i 0 = -1∨(0≤T.getD i 0∧T.getD i 0<(N+1:Nat)∧T.getD i 0 % d=0)
theorem onF_of (n N:Nat)(hn:1≤n∧n≤1048576)(hN:N≤40):OnF n N (Sd.sd N n) (Sd.tot N (Sd.sd N n)) (fun i=>Mc.cnt ((Sd.aT n N).take i)) (Sd.aT n N):=by
 have hheld:=Sd.aT_held (n:=n) (k:=N) (by omega) (by omega)
 have htl:=Sd.aT_len n N
 have hd:=Sd.sd_pos (N:Int) (n:Int)
 have hdle:=Sd.sd_le (k:=(N:Int)) (s:=(n:Int)) (by omega) (by omega)
 have hcnt:(Mc.cnt (Sd.aT n N):Int)=N / Sd.sd N n+1:=by
  have h1:=hheld.cnt (N+1) (fun t _ p=>p.1)
  rw[h1,← Sd.sum_mult _ hd N]
  refine Mc.sum_cong _ fun t ht=>?_
  by_cases z:(t:Int) % Sd.sd N n=0
  ·rw[if_pos z,if_pos ⟨by omega,z⟩]
  ·rw[if_neg z,if_neg fun h=>z h.2]
 have hb:=Sd.tot_bound (n:=n) (l:=N) (by omega) (by omega)
 have hs0:0≤Mc.sum (fun i=>(i:Int) % Sd.sd N n) N:=Mc.sum_nn _ _ fun i _=>Int.emod_nonneg _ (by omega)
 have hte:Sd.tot N (Sd.sd N n) - N=Mc.sum (fun i=>(i:Int) % Sd.sd N n) N:=by unfold Sd.tot;omega
 have hnn:0≤(n:Int) * (Sd.tot N (Sd.sd N n) - N):=Int.mul_nonneg (by omega) (by omega)
 have hle:Sd.tot N (Sd.sd N n) - N≤(n:Int) * (Sd.tot N (Sd.sd N n) - N):=by
  have:=Int.mul_le_mul_of_nonneg_right (show(1:Int)≤n by omega) (show 0≤Sd.tot N (Sd.sd N n) - N by omega)
  rw[Int.one_mul] at this
  exact this
 refine⟨hd,hdle,hnn,hb,by omega,?_,fun h=>?_,rfl,fun i hi=>Mc.cnt_take (Sd.aT n N) (k:=i) (by omega),fun i=>?_,?_,fun i hi=>hheld.all i (by omega)⟩
 ·have h2:(N:Int) * N≤40 * 40:=Int.mul_le_mul (by omega) (by omega) (by omega) (by omega)
  omega
 ·have e:=Sd.sd_one (n:=(n:Int)) (l:=(N:Int)) (by omega) (by omega) (by omega) (by omega)
  rw[e]
  unfold Sd.tot
  have h0:Mc.sum (fun i=>(i:Int) % 1) N=0:=by
   rw[show(fun i:Nat=>(i:Int) % 1)=fun _=>0 by funext i;exact Int.emod_one _,Mc.sum_zero]
  omega
 ·have h1:=Mc.cnt_le ((Sd.aT n N).take i)
  rw[List.length_take] at h1
  omega
 ·show((Mc.cnt ((Sd.aT n N).take n):Nat):Int)=_
  rw[show(Sd.aT n N).take n=Sd.aT n N from List.take_of_length_le (by omega)]
  exact hcnt
theorem online_any (h:Hd)(k more:Int)(w:World)(hM:HdM w h)(bk0:0≤k)(bk1:k≤255)(bm0:0≤more)(bm1:more≤255):
 Calls Tryz.prog 4 #[.agg h.v,.int .u8 k,.int .u8 more] w fun e w'=>e=.returned (.bool true)∧KW w w':=by
 have hk0:=(KW.refl w).alloc (.cells h.v 27)
 have HB:=hid (boxC_new h w)
 have HRt:=hid (right_top h _ (hM.kw hk0))
 have HWk:=hid (fun W=>wakes_any W)
 have HRn:=hid (fun l (hl:l≤40) W (hW:KW w W) (hr:Right h) (hm:h.mode=2)=>ran_on h l hl W (hM.kw hW) hr hm)
 have HMk:=hid (fun W (hW:KW w W)=>make_any h W (hM.kw hW))
 have HK0:=hid hk0
 have HKr:=hid (fun(hr:Right h) (hm:h.mode≠3)=>right_n hr hm)
 obtain⟨N,hN⟩:∃ N:Nat,k % 21=N:=⟨(k % 21).toNat,by omega⟩
 obtain⟨M,hMm⟩:∃ M:Nat,more % 20=M:=⟨(more % 20).toNat,by omega⟩
 have hN2:N≤20:=by omega
 have hM2:M≤19:=by omega
 obtain⟨L,hL⟩:∃ L:Nat,N+M=L:=⟨_,rfl⟩
 have eL:(N:Int)+(M:Int)=(L:Int):=by omega
 clear hM hk0
 unfold MkP at HMk
 unfold RanN at HRn
 unfold RightR at HRt
 unfold Hd.v hdv BoxC at *
 go_enter Tryz.func4,Tryz.ntmps4
 go_wp2_with fail
 refine HRt.out.mono ?_
 rintro e w1 ⟨b,rfl,hb,hk1⟩
 obtain⟨⟨b0,b1,b2,b3,b4,b5,b6,b7,b8⟩,hbl⟩:=HB.out w1 hk1
 have HK1:=hid (HK0.out.t hk1)
 have HKb:=hid hk1
 have HRg:=hid hb
 clear hk1 hb HRt
 cases b with
 | false=>
   go_wp2_with fail
   refine(HWk.out w1).mono ?_
   rintro e w2 ⟨rfl,hk2⟩
   have HK2:=hid (HK1.out.t hk2)
   clear hk2
   go_wp2_with fail
   go_ret
   exact⟨rfl,HK2.out⟩
 | true=>
   have HRr:=hid (HRg.out (by first|rfl|trivial))
   by_cases hm:h.mode=2
   ·have em:(h.mode != 2)=false:=by simp[hm]
    obtain⟨hn,hn1,hn2⟩:=HKr.out HRr.out (by omega)
    have HRn1:=hid (fun l hl W hW=>HRn.out l hl W hW HRr.out hm)
    clear hm
    rw[← hn] at HMk
    have HPl:=hid HRr.out.ok
    have HMk1:=hid (HMk.out w1 HK1.out)
    have hF:=hid (onF_of h.n N ⟨hn1,hn2⟩ (by omega))
    obtain⟨hT1,hT2⟩:=lA_take h.n N M
    rw[hL] at hT1 hT2
    have hT3:=(lA_take h.n N 0).1
    have hT4:=(lA_take h.n N 0).2
    rw[Nat.add_zero] at hT3 hT4
    have hL1:=lA_40 h.n L (by omega)
    have hL2:=lA_40 h.n N (by omega)
    have HNew:=hid (fun W=>new_yes (L:Int) h.n W (by omega) (by omega) hn2)
    have HAh:=hid (fun W=>ssahead_yes N h.n W (by omega) ⟨hn1,hn2⟩)
    have HSt:=hid (fun W=>stride_yes N h.n W (by omega) (by omega) (by omega) (by omega))
    have HTo:=hid (fun W=>stotal_yes N h.n W (by omega) (by omega) (by omega))
    have hdo:=Sd.does_ahead (L:=(L:Int)) (n:=h.n) (by omega) ⟨hn1,hn2⟩ N (by omega)
    have HOK:Hid (∀ j,j<(Sd.aA h.n N).length→Mc.er (Mc.new (L:Int) h.n) (Sd.aA h.n N) j=0):=hid (does_er _ _ _ hdo)
    have HUp:Hid (Mc.up (Mc.new (L:Int) h.n) (Sd.aA h.n N) (Sd.aA h.n N).length=Sd.mA (L:Int) h.n N):=hid (by
     have:=Mc.Does.up hdo (pre:=[]) (m0:=Mc.new (L:Int) h.n) rfl
     simpa using this)
    have HI:=hid (fun j=>Mc.up_inv (Mc.new_inv (L:Int) h.n (by omega) (by omega) (by omega)) (Sd.aA h.n N) j)
    have HT:=hid (fun j=>(Mc.up_tot (Mc.new (L:Int) h.n) (Sd.aA h.n N) j).2)
    rw[show(Mc.new (L:Int) h.n).tot=0 from rfl] at HT
    have HTL:=hid (Sd.aT_len h.n N)
    have hmA:Hid (Sd.mA (L:Int) h.n N=⟨L,N,-1,N,Sd.aT h.n N⟩):=hid rfl
    rw[hmA.out] at HUp
    clear HKr HRn HRg HRr hn hdo hmA HMk
    unfold ActsP at HAh
    unfold NewP at HNew
    have HRa:=hid (HRn1.out L (by omega))
    have HRb:=hid (HRn1.out N (by omega))
    clear HRn1
    generalize Sd.lA h.n L=LL at *
    generalize Sd.lA h.n N=LS at *
    generalize Sd.aA h.n N=LA at *
    generalize Sd.aT h.n N=T at *
    generalize Sd.tot N (Sd.sd N h.n)=tt at *
    generalize Sd.tot L (Sd.sd L h.n)=tl at *
    generalize Sd.sd N h.n=d at *
    generalize (fun i=>Mc.cnt (T.take i))=ct at *
    go_wp2_with fail
    refine HMk1.out.mono ?_
    rintro e w3 ⟨x1,x2,x3,x4,r,rfl,hr0,hrx,hk3⟩
    obtain rfl:r=0:=hr0.2 HPl.out
    obtain⟨rfl,rfl,rfl,rfl⟩:=hrx HPl.out
    have hk3':=hk3.alloc (.cells #[.int .i64 (fixW h),.int .i64 (tapW h),.int .i64 (sltW h),.int .i64 h.n] 35)
    have hrP:(w3.alloc (.cells #[.int .i64 (fixW h),.int .i64 (tapW h),.int .i64 (sltW h),.int .i64 h.n] 35)).rowIs w3.heap.size 35 4 (fun i=>[.int .i64 (fixW h),.int .i64 (tapW h),.int .i64 (sltW h),.int .i64 h.n].getD i undef):=
     World.rowIs_alloc w3 #[.int .i64 (fixW h),.int .i64 (tapW h),.int .i64 (sltW h),.int .i64 h.n] 35 _ fun i hi=>by
      simp at hi
      rcases(show i=0∨i=1∨i=2∨i=3 by omega) with rfl|rfl|rfl|rfl<;>rfl
    have HRP:=hid hrP
    have HK3:=hid (HK1.out.t hk3')
    have HKb3:=hid (HKb.out.t hk3')
    clear b0 b1 b2 b3 b4 b5 b6 b7 b8 hbl hk3 hk3' hrP hrx hr0 HMk1 HK1 HKb
    go_upto_region 5 with(fail)
    generalize w3.alloc (.cells #[.int .i64 (fixW h),.int .i64 (tapW h),.int .i64 (sltW h),.int .i64 h.n] 35)=w4 at *
    generalize w3.heap.size=gp at *
    have HX:Hid (∀ W,KW w4 W→W.cell? ⟨gp,3,none⟩=some (.int .i64 h.n)∧gp<W.heap.size):=hid fun W hW=>by
     have r:=KW.row hW HRP.out.lt HRP.out
     exact⟨r.cell (i:=3) (by omega),r.lt⟩
    have HBX:=hid (fun W (hW:KW w4 W)=>HB.out W (HKb3.out.t hW))
    have HRa4:=hid (HRa.out w4 HK3.out)
    obtain⟨⟨b0,b1,b2,b3,b4,b5,b6,b7,b8⟩,hbl⟩:=HBX.out w4 (KW.refl w4)
    clear HB HKb3 HRP HRa
    go_wp2_with fail
    refine HRa4.out.mono ?_
    rintro e w5 ⟨be1,D1,S1,v5,rfl,ho5,-,-,hk5⟩
    obtain⟨A5,c5,rfl,hc5,hA5⟩:=ho5.slice
    have HA5:=hid hA5
    have HQ5:=hid hk5
    have HRb5:=hid (HRb.out w5 (HK3.out.t hk5))
    clear b0 b1 b2 b3 b4 b5 b6 b7 b8 hbl hk5 hA5 ho5 HRa4 HRb
    obtain⟨⟨b0,b1,b2,b3,b4,b5,b6,b7,b8⟩,hbl⟩:=HBX.out w5 HQ5.out
    go_wp2_with fail
    refine HRb5.out.mono ?_
    rintro e w6 ⟨be,D,S',v6,rfl,ho6,hE6,hpl6,hk6⟩
    obtain⟨A6,c6,rfl,hc6,hA6⟩:=ho6.slice
    have HA6:=hid hA6
    have HE6:=hid hE6
    have HPn:=hid hpl6
    have HQ6:=hid (HQ5.out.t hk6)
    have HA56:=hid (HA5.out.kw hk6)
    clear b0 b1 b2 b3 b4 b5 b6 b7 b8 hbl hk6 hA6 ho6 hE6 hpl6 HRb5 HQ5 HA5 HBX
    obtain⟨x3,xp⟩:=HX.out w6 HQ6.out
    go_wp2_with fail
    refine(HNew.out w6).mono ?_
    rintro e w7 ⟨bm,vm,rfl,hm7,hb7,hk7⟩
    have HM7:=hid hm7
    have HQ7:=hid (HQ6.out.t hk7)
    have HS7:=hid hk7
    have HA57:=hid (HA56.out.kw hk7)
    have HA67:=hid (HA6.out.kw hk7)
    have HB7:Hid (∀ i,mo bm vm i→w6.heap.size≤i):=hid hb7
    clear x3 xp hk7 hm7 hb7 HNew HA56 HA6
    obtain⟨x3,xp⟩:=HX.out w7 HQ7.out
    go_wp2_with fail
    refine(HAh.out w7).mono ?_
    rintro e w8 ⟨A8,c8,rfl,ho8,hk8⟩
    obtain⟨_,_,hv,hc8,ha8⟩:=ho8.slice
    cases hv
    have HA8:=hid ha8
    have HAn:Hid (∀ b' off,A8=some ⟨b',off,none⟩→¬ mo bm vm b'):=hid (by
     intro b' off e hmo
     have hlt:=HM7.out.lt hmo
     rcases ho8.2 with⟨hv,_⟩|⟨g,cap,cur,hv,hg,_⟩
     ·rw[(Value.slice.inj hv).1] at e;cases e
     ·rw[(Value.slice.inj hv).1] at e;cases e;omega)
    have HM8:=hid (HM7.out.kw hk8)
    have HQ8:=hid (HQ7.out.t hk8)
    have HS8:=hid (HS7.out.t hk8)
    have HA58:=hid (HA57.out.kw hk8)
    have HA68:=hid (HA67.out.kw hk8)
    clear x3 xp hk8 ho8 ha8 HAh HM7 HA57 HA67
    obtain⟨x3,xp⟩:=HX.out w8 HQ8.out
    have HSa:=hid (fun(A B:Option Addr) (ca cb:Nat) W (hA:Acts W A LL) (hB:Acts W B LA)=>by
     have h:=rsame26_any (LL.take LA.length) LA A B ca cb W (by rw[hT1];omega) (by omega) (hA.take _) hB
     rw[hT1,show decide (LA=LA)=true from by simp] at h
     exact h)
    have HSb:=hid (fun(A B:Option Addr) (ca cb:Nat) W (hA:Acts W A LS) (hB:Acts W B LA)=>by
     have h:=rsame26_any (LS.take LA.length) LA A B ca cb W (by rw[hT3];omega) (by omega) (hA.take _) hB
     rw[hT3,show decide (LA=LA)=true from by simp] at h
     exact h)
    have q1:LA.length≤c5:=by omega
    have q2:LA.length≤c6:=by omega
    have q3:LA.length≤2000:=by omega
    have f1:decide ((LL.length:Int)<(LA.length:Int))=false:=decide_eq_false (by omega)
    have f2:decide ((LS.length:Int)<(LA.length:Int))=false:=decide_eq_false (by omega)
    have f1':decide (LL.length<LA.length)=false:=decide_eq_false (by omega)
    have f2':decide (LS.length<LA.length)=false:=decide_eq_false (by omega)
    clear hT1 hT3 hL1 hL2
    go_wp2_with (first
     | (go_at_call 15;refine(HSt.out _).mono ?_;rintro e w3 ⟨rfl,rfl⟩)
     | (go_at_call 16;refine(HTo.out _).mono ?_;rintro e w3 ⟨rfl,rfl⟩))
    refine(HSa.out _ _ _ _ _ HA58.out HA8.out).mono ?_
    rintro e w9 ⟨rfl,hk9⟩
    have HM9:=hid (HM8.out.kw hk9)
    have HS9:=hid (HS8.out.t hk9)
    have HA69:=hid (HA68.out.kw hk9)
    have HA89:=hid (HA8.out.kw hk9)
    clear hk9 HM8 HQ8 HA58 HA68 HA8 x3 xp HSa
    go_wp2_with fail
    refine(HSb.out _ _ _ _ _ HA69.out HA89.out).mono ?_
    rintro e wA ⟨rfl,hkA⟩
    have HMA:=hid (HM9.out.kw hkA)
    have HSA:=hid (HS9.out.t hkA)
    have HAA:=hid (HA89.out.kw hkA)
    clear hkA HM9 HA69 HA89 HSb
    go_wp2_with fail
    clear hT2 hT4 f1 f2 f1' f2' q1 q2 hc5 hc6
    have HMS:=hid (fun(m:Mc.St) (W:World) (hW:Mach W bm vm m) (hl:m.tags.length≤1048576)=>spot_any m bm vm W hW hl)
    have HXE:=hid (fun W (hW:KW w6 W)=>And.intro (HX.out W (HQ6.out.t hW)) (And.intro (HE6.out.kw hW) (HK3.out.t (HQ6.out.t hW))))
    clear HX HQ6 HE6 HK3 HK0
    go_loopw [25] (fun i wr=>∃ j:Nat,j≤LA.length∧i=.int .i64 j∧Hid (Mach wr bm vm (Mc.up (Mc.new (L:Int) h.n) LA j))∧Hid (Acts wr A8 LA)∧Hid (KW w6 wr)) (fun i _=>LA.length - (intOf i).toNat)
    case atStart=>exact⟨0,by omega,rfl,HMA,HAA,HSA⟩
    case round=>
     obtain⟨j,hj,rfl,HMr,HAr,HKr⟩:=hrel
     clear HMA HAA HSA
     by_cases hlt:j<LA.length
     ·obtain⟨b',off,rfl,hb',hc1,hc2⟩:=HAr.out.at_ hlt
      have hT:=HT.out j
      have HD:Hid (∀ W,Mach W bm vm (Mc.up (Mc.new (L:Int) h.n) LA j)→Calls Tryz.prog 18 #[.pointer (some ⟨bm,0,none⟩),.agg #[.int .i64 (LA.getD j (0,0)).1,.int .i64 (LA.getD j (0,0)).2]] W (Did W bm vm (Mc.up (Mc.new (L:Int) h.n) LA (j+1)) (Mc.er (Mc.new (L:Int) h.n) LA j))):=fun W h=>do_any _ (LA.getD j (0,0)).1 (LA.getD j (0,0)).2 bm vm W h (HI.out j) (by omega)
      rw[HOK.out j hlt] at HD
      generalize (LA.getD j (0,0)).1=x at *
      generalize (LA.getD j (0,0)).2=y at *
      have L5:(j:Int)<(LA.length:Int):=by omega
      have L6:(j:Int)≤2000:=by omega
      clear hT
      go_wp2_with fail
      refine(HD.out _ HMr.out).mono ?_
      rintro e w4 ⟨rfl,hm4,hk4⟩
      have HM4:=hid hm4
      have HA4:Hid (Acts w4 (some ⟨b',off,none⟩) LA):=hid (by
       intro h0
       obtain⟨b1,o1,h1,hl1,hc⟩:=HAr.out h0
       cases h1
       have hnb:=HAn.out b' off rfl
       exact⟨b',off,rfl,Nat.lt_of_lt_of_le hl1 hk4.size,fun q hq=>⟨(hk4.cell hl1 hnb).trans (hc q hq).1,(hk4.cell hl1 hnb).trans (hc q hq).2⟩⟩)
      have HK4:=hid (HKr.out.kept hk4 HB7.out)
      clear hm4 hk4
      go_wp2_with fail
      go_roundw
      case rel=>exact⟨j+1,by omega,by go_num,HM4,HA4,HK4⟩
      case measure=>simp[intOf];omega
     ·obtain rfl:j=LA.length:=by omega
      rw[HUp.out] at HMr
      have HSp:=hid (HMS.out ⟨L,N,-1,N,T⟩ wr HMr.out (by show T.length≤1048576;rw[HTL.out];omega))
      unfold SpotP at HSp
      clear hlt HOK HI HT HUp HAr HAn HMS
      go_wp2_with fail
      refine HSp.out.mono ?_
      rintro e w5 ⟨v2,rfl,ho5,hk5⟩
      have HKw:=hid (HKr.out.t hk5)
      obtain⟨A2,c2,hv2,_,_,hr2⟩:=ho5.row
      rw[ints_len,HTL.out] at hv2 hr2
      subst hv2
      have HC5:Hid (∀ W,KW w5 W→∀ i,i<h.n→∃ b off,A2=some ⟨b,off,none⟩∧W.cell? ⟨b,off+i,none⟩=some (.int .i64 (T.getD i 0))):=hid fun W hW i hi=>by
       obtain⟨b,off,e,hb,hc⟩:=hr2.at_ hi
       refine⟨b,off,e,(hW.cell hb hc).trans ?_⟩
       have hi2:i<T.length:=by rw[HTL.out];exact hi
       simp[ints,hi2]
      have hsp:=spot_tags (N:Int) (-1) A2 h.n c2
      have HZ:=hid (KW.refl w5)
      have hF1:=hF.out.c0
      have HFs:=hid hF.out.cs
      have HFa:=hid hF.out.all
      have HFb:=hid hF.out.cb
      have hdp:=hF.out.d1
      clear hk5 ho5 hr2 HSp HMr HKr HTL
      go_wp2_with fail
      go_loopw [26,28] (fun q i wr=>∃ j:Nat,j≤h.n∧i=.int .i64 j∧q=.int .i64 (ct j)∧Hid (KW w5 wr)) (fun _ i _=>h.n - (intOf i).toNat)
      case atStart=>exact⟨0,by omega,rfl,by rw[hF1];rfl,HZ⟩
      case round=>
       obtain⟨j,hj,rfl,rfl,HZr⟩:=hrel
       clear HZ
       by_cases hlt:j<h.n
       ·obtain⟨q1,o1,rfl,hcj⟩:=HC5.out wr HZr.out j hlt
        have hb:=HFb.out j
        have hb2:=HFb.out (j+1)
        have hs:=HFs.out j hlt
        have hg:=HFa.out j hlt
        have L5:(j:Int)<(h.n:Int):=by omega
        by_cases hx:0≤T.getD j 0
        ·rw[if_pos hx] at hs
         have hg:=hg.resolve_left (by omega)
         have hs':((ct (j+1):Nat):Int)=(ct j:Int)+1:=by omega
         have HS:=hid hs'
         have L6:((ct j:Nat):Int)≤1048576:=by omega
         have HE:Hid ((T.getD j 0 % d != 0)=false):=by rw[hg.2.2];exact hid rfl
         have L7:T.getD j 0≤1000:=by omega
         clear hs hs' hb2 hg
         generalize T.getD j 0=x at *
         have hm:=Int.emod_nonneg x (show d≠0 by omega)
         have hm2:=Int.emod_lt_of_pos x (show 0<d by omega)
         have e3:=HE.out
         go_wp2_with fail
         go_roundw
         case rel=>exact⟨j+1,by omega,by go_num,by rw[HS.out],HZr⟩
         case measure=>simp[intOf];omega
        ·rw[if_neg hx] at hs
         have hs':ct (j+1)=ct j:=by omega
         have HS:=hid hs'
         have dx:decide (0≤T.getD j 0)=false:=decide_eq_false hx
         clear hs hs' hb2 hg
         generalize T.getD j 0=x at *
         go_wp2_with fail
         go_roundw
         case rel=>exact⟨j+1,by omega,by go_num,by rw[HS.out],HZr⟩
         case measure=>simp[intOf];omega
       ·obtain rfl:j=h.n:=by omega
        have hk:=HKw.out.t HZr.out
        obtain⟨⟨x3,xp⟩,hE,hK⟩:=HXE.out wr hk
        have HKx:=hid hK
        have e7:((ct h.n:Nat):Int)=(N:Int) / d+1:=hF.out.ce
        have hcn:=ecount be _ D S' true wr hE
        rw[HPn.out] at hcn
        have HCn:=hid hcn
        obtain⟨_,_,t1,t2,t3,t4,one,_,_,_,_,_⟩:=hF.out
        have hNN:(N:Int) * N≤20 * 20:=Int.mul_le_mul (by omega) (by omega) (by omega) (by omega)
        have hNN0:0≤(N:Int) * N:=Int.mul_nonneg (by omega) (by omega)
        have dle:decide ((h.n:Int) * (tt - N)≤(N:Int) * N)=true:=decide_eq_true t2
        have t2':(h.n:Int) * (tt - N)≤400:=by omega
        have hN4:(N:Int) * N≤400:=by omega
        have e8:(((N:Int) / d+1)==((N:Int) / d+1))=true:=by simp
        have hq0:=Int.ediv_nonneg (show 0≤(N:Int) by omega) (show 0≤d by omega)
        have hq2:(N:Int) / d≤1000:=Int.le_trans (Int.ediv_le_self _ (by omega)) (by omega)
        have hca:=count_at0 tt S'.taped S'.losses S'.sweeps
        have n1:(h.n:Int)≤1048576:=by omega
        clear hlt HKw HZr HFs HFa HFb HC5 hF1 hF hK hE hcn hk HXE t2 hNN
        generalize ((ct h.n:Nat):Int)=cc at *
        subst e7
        by_cases hge:(h.n:Int)≤(N:Int)
        ·have dge:decide ((h.n:Int)≤(N:Int))=true:=decide_eq_true hge
         have dge':decide (h.n≤N)=true:=decide_eq_true (by omega)
         clear one
         go_wp2_with fail
         refine HCn.out.mono ?_
         rintro e wB ⟨rfl,hkB⟩
         have HKB:=hid (HKx.out.t hkB)
         have x3':wB.cell? ⟨gp,3,none⟩=some (.int .i64 h.n):=(Below.cell hkB xp).trans x3
         clear hkB x3
         go_wp2_with fail
         refine(HWk.out wB).mono ?_
         rintro e wC ⟨rfl,hkC⟩
         have HKC:=hid (HKB.out.t hkC)
         clear hkC
         go_wp2_with fail
         go_ret
         exact⟨rfl,HKC.out⟩
        ·have htq:(tt==(N:Int))=true:=by rw[one (by omega)];simp
         have dge:decide ((h.n:Int)≤(N:Int))=false:=decide_eq_false hge
         have dge':decide (h.n≤N)=false:=decide_eq_false (by omega)
         clear one hge
         go_wp2_with fail
         refine HCn.out.mono ?_
         rintro e wB ⟨rfl,hkB⟩
         have HKB:=hid (HKx.out.t hkB)
         have x3':wB.cell? ⟨gp,3,none⟩=some (.int .i64 h.n):=(Below.cell hkB xp).trans x3
         clear hkB x3
         go_wp2_with fail
         refine(HWk.out wB).mono ?_
         rintro e wC ⟨rfl,hkC⟩
         have HKC:=hid (HKB.out.t hkC)
         clear hkC
         go_wp2_with fail
         go_ret
         exact⟨rfl,HKC.out⟩
   ·have em:(h.mode != 2)=true:=by simp[hm]
    go_wp2_with fail
    refine(HWk.out w1).mono ?_
    rintro e w2 ⟨rfl,hk2⟩
    have HK2:=hid (HK1.out.t hk2)
    clear hk2
    go_wp2_with fail
    go_ret
    exact⟨rfl,HK2.out⟩
end Go.Proofs.YtphppbonljdibaaGreat
namespace Go.Proofs.YtphppbonljdibaaGreat
open Go.ChangeShapes Go.WideShapes Go.ChangeAt Go.RowKit Go.Joins
theorem online35_contract (H:Type)(enc:TypeId×Value→H)(W:World)(base:Nat)(args:Array Value)(ds gs:List (DataW H))(before:List MemPlace)
 (hval:∀ (j:Nat) t v,Tryz.f4.params[j]?=some t→args[j]?=some v→Value.okWide Tryz.prog W .any base t v)
 (hW:DataW.Whole enc Tryz.prog Tryz.f4.params.toList Rows.topOnlineSpec.vars false W args.toList ds gs before) (hk:Rows.uptoSmall H (ds++gs)=true):
 Calls Tryz.prog 4 args W fun e W'=>∃ v,e=.returned v∧Rows.topOnlineSpec.post enc Tryz.prog Tryz.f4 false true false false W args v W':=by
 have hW':=hW
 obtain⟨p,q,hA0,hV,rfl,hfz,hnd⟩:=hW
 have hA:DataW.TrodAll enc Tryz.prog W 0 (fun _=>true) true Tryz.f4.params.toList args.toList ds p:=hA0
 rw[Tryz.params4] at hA hval
 obtain⟨v0,vs0,d0,ds0,p0,q0,hargs,rfl,rfl,h0,r0⟩:=trodAll_cons hA
 obtain⟨v1,vs1,d1,ds1,p1,q1,rfl,rfl,rfl,h1,r1⟩:=trodAll_cons r0
 obtain⟨v2,vs2,d2,ds2,p2,q2,rfl,rfl,rfl,h2,r2⟩:=trodAll_cons r1
 obtain⟨rfl,rfl,rfl⟩:=trodAll_nil r2
 obtain rfl:args=#[v0,v1,v2]:=by cases args;simp_all
 have hb:Rows.uptoBulkAll ([d0,d1,d2]++gs)≤1048576:=of_decide_eq_true hk
 simp only[List.cons_append,List.nil_append,Rows.uptoBulkAll] at hb
 obtain⟨x0,rfl,hm0⟩:=open_header (hval 0 27 v0 rfl rfl) h0 (by omega)
 obtain⟨a1,rfl,rfl,_,wa1⟩:=open_int Tryz.underlying5 (hval 1 5 v1 rfl rfl) h1
 have ba1:0≤a1∧a1≤255:=by simpa [Lit.wf,IntKind.min,IntKind.max,IntKind.signed,IntKind.bits] using wa1
 obtain⟨a2,rfl,rfl,_,wa2⟩:=open_int Tryz.underlying5 (hval 2 5 v2 rfl rfl) h2
 have ba2:0≤a2∧a2≤255:=by simpa [Lit.wf,IntKind.min,IntKind.max,IntKind.signed,IntKind.bits] using wa2
 refine(online_any x0 a1 a2 W hm0 ba1.1 ba1.2 ba2.1 ba2.2).mono fun e W' ⟨he,hb⟩=>?_
 subst he
 exact⟨_,rfl,law_post laidOut (by kernel_rfl) hW' rfl (fun h=>by subst h;rfl) (by kernel_rfl) Tryz.underlying4 hb⟩
theorem online35_lifted (os:Os)(started:os.Started)(H:Type)(enc:TypeId×Value→H)(F:Stop.Interp):
 ReturnsInHanded {} Tryz.checked os 4 .any ((Rows.OpenSpec.upto Rows.topOnlineSpec).pre6 enc Tryz.prog Tryz.f4 Rows.topOnlineUptoRow.domain false) (((Rows.OpenSpec.upto Rows.topOnlineSpec).at F).post enc Tryz.prog Tryz.f4 false true false false):=by
 refine returnsInHanded_of_cond (C:=Tryz.checked) (s:=Rows.OpenSpec.upto Rows.topOnlineSpec) (k:=Rows.uptoSmall) rfl own started (by kernel_rfl) Tryz.func4
  (OpenSpec.witness (enc:=enc) (C:=Tryz.checked) (s:=Rows.OpenSpec.upto Rows.topOnlineSpec) (k:=Rows.uptoSmall) rfl false ⟨#[],#[.agg #[.int .i64 0,.slice none 0 0,.slice none 0 0,.int .i64 0,.slice none 0 0,.int .i64 0,.slice none 0 0,.int .i64 0,.int .i64 0],.int .u8 0,.int .u8 0],[]⟩ 8 (by kernel_rfl) (by kernel_rfl) (by kernel_rfl)
    (x:=([.agg [.lit (.int .i64 0),.nil,.nil,.agg [.lit (.int .i64 0),.nil],.agg [.lit (.int .i64 0),.nil],.lit (.int .i64 0),.lit (.int .i64 0)],.lit (.int .u8 0),.lit (.int .u8 0)],[],[])) (by kernel_rfl) rfl (by kernel_rfl)) ?_
 intro W base args ds gs before hval hW _ hk _
 exact online35_contract H enc W base args ds gs before hval hW hk
theorem online35_holds:Rows.TopOnlineUptoSaid:=
 OpenClaim.holds_of_cond 4 Tryz.f4 rfl rfl rfl rfl rfl rfl rfl ⟨rfl,rfl,rfl,rfl,rfl⟩ rfl rfl rfl rfl rfl (by kernel_rfl) Tryz.func4 (by kernel_rfl)
  (of_decide_eq_true (by kernel_rfl)) (by unfold Func.isWrapper;first|(rw[if_pos (by decide +kernel)];kernel_rfl)|(rw[if_neg (by decide +kernel)];exact⟨rfl,rfl⟩))
  (fun os started H enc _ F=>online35_lifted os started H enc F)
end Go.Proofs.YtphppbonljdibaaGreat
