/- TopBudget, of whatever header and number come in: the law returns true, does not panic, and leaves its arguments as they were. Conditions: the bulk of the arguments is at most 1048576, which is the given statement's own bound (TopBudgetUptoSaid); no other. -/
import Derived.Test.YtphppbonljdibaaGreatTB47
import Derived.Test.YtphppbonljdibaaGreatTB42
import Derived.Test.YtphppbonljdibaaGreatTB43
import Derived.JoinedCond
set_option maxRecDepth 100000
set_option maxHeartbeats 4000000
set_option linter.unusedVariables false
set_option linter.unusedSimpArgs false
namespace Go.Proofs.YtphppbonljdibaaGreat
open Go.ChangeShapes Go.WideShapes Go.ChangeAt Go.RowKit
theorem budget_any (h:Hd)(more:Int)(w:World)(hM:HdM w h)(bm0:0≤more)(bm1:more≤255):
 Calls Tryz.prog 5 #[.agg h.v,.int .u8 more] w fun e w'=>e=.returned (.bool true)∧KW w w':=by
 have hk0:=(KW.refl w).alloc (.cells h.v 27)
 have HB:=hid (boxC_new h w)
 have HRt:=hid (right_top h _ (hM.kw hk0))
 have HWk:=hid (fun W=>wakes_any W)
 have HMk:=hid (fun W (hW:KW w W)=>make_any h W (hM.kw hW))
 have HSt:=hid (fun W=>steps_any h more W bm0 bm1)
 have HOf:=hid (fun W (hW:KW w W)=>pof_any h W (hM.kw hW))
 have HNw:=hid (fun W (hW:KW w W) (hp:PlOk h) (hm3:h.mode≠3)=>enew h W (hM.kw hW) hp hm3)
 have HK0:=hid hk0
 have HHM:=hid (fun W (hW:KW w W)=>hM.kw hW)
 clear hM hk0
 unfold MkP at HMk
 unfold RightR at HRt
 unfold OfP at HOf
 have HWh:=hid (fun(hr:Right h) (hm:h.mode≠3)=>whole_of h hr hm more bm0 bm1)
 have HRw:=hid (fun nx lf T L b' (hW:Whole nx h lf T L b') (hr:Right h) (hm:h.mode≠3) W (hk:KW w W)=>ran_whole hW hr hm W (HHM.out W hk))
 clear bm0 bm1 HHM
 unfold RanW at HRw
 unfold Hd.v hdv BoxC at *
 go_enter Tryz.func5,Tryz.ntmps5
 go_wp2_with fail
 refine HRt.out.mono ?_
 rintro e w1 ⟨b,rfl,hb,hk1⟩
 obtain⟨⟨b0,b1,b2,b3,b4,b5,b6,b7,b8⟩,hbl⟩:=HB.out w1 hk1
 have HK1:=hid (HK0.out.t hk1)
 have HKb:=hid hk1
 have HRg:=hid hb
 clear hk1 hb HRt
 cases b with
 | false=>
   go_wp2_with fail
   refine(HWk.out w1).mono ?_
   rintro e w2 ⟨rfl,hk2⟩
   have HK2:=hid (HK1.out.t hk2)
   clear hk2
   go_wp2_with fail
   go_ret
   exact⟨rfl,HK2.out⟩
 | true=>
   have HRr:=hid (HRg.out (by first|rfl|trivial))
   by_cases hm:h.mode=3
   ·have em:(h.mode==3)=true:=by simp[hm]
    go_wp2_with fail
    refine(HWk.out w1).mono ?_
    rintro e w2 ⟨rfl,hk2⟩
    have HK2:=hid (HK1.out.t hk2)
    clear hk2
    go_wp2_with fail
    go_ret
    exact⟨rfl,HK2.out⟩
   ·have em:(h.mode==3)=false:=by simp[hm]
    obtain⟨nx,lf,T,L,b',hWh,hlf⟩:=HWh.out HRr.out hm
    obtain⟨hn,hn1,hn2⟩:=right_n HRr.out hm
    rw[← hlf] at HSt
    rw[← hn] at HMk
    have hlf40:=hWh.lf40
    have hL20:=hWh.L20
    have HW:=hid hWh
    have HPl:=hid HRr.out.ok
    have HWb0:Hid (h.words≤1048576):=hid HRr.out.ok.1.bounds.2.2.2.2.2.2.2.2
    have HRn:=hid (fun W hk=>HRw.out nx lf T L b' hWh HRr.out hm W hk)
    have HWd:=hid (fun A c W hA=>words_whole hWh HRr.out hm A c W hA)
    have HHd:=hid (fun A c W hA=>held_whole hWh hn2 A c W hA)
    have HNw1:=hid (fun W hW=>HNw.out W hW HRr.out.ok hm)
    have HHn:=hid hn
    have HSt1:=hid (HSt.out w1)
    clear HRw HWh HNw HRg hWh hlf HSt hm hn
    go_wp2_with fail
    refine HSt1.out.mono ?_
    rintro e w2 ⟨rfl,hk2⟩
    clear b0 b1 b2 b3 b4 b5 b6 b7 b8 hbl
    obtain⟨⟨b0,b1,b2,b3,b4,b5,b6,b7,b8⟩,hbl⟩:=HB.out w2 (HKb.out.t hk2)
    have HK2:=hid (HK1.out.t hk2)
    have HKb2:=hid (HKb.out.t hk2)
    have HMk2:=hid (HMk.out w2 HK2.out)
    clear hk2 HSt1 HMk HK1 HKb
    go_wp2_with fail
    refine HMk2.out.mono ?_
    rintro e w3 ⟨x1,x2,x3,x4,r,rfl,hr0,hrx,hk3⟩
    obtain rfl:r=0:=hr0.2 HPl.out
    obtain⟨rfl,rfl,rfl,rfl⟩:=hrx HPl.out
    have hk3':=hk3.alloc (.cells #[.int .i64 (fixW h),.int .i64 (tapW h),.int .i64 (sltW h),.int .i64 h.n] 35)
    have hrP:(w3.alloc (.cells #[.int .i64 (fixW h),.int .i64 (tapW h),.int .i64 (sltW h),.int .i64 h.n] 35)).rowIs w3.heap.size 35 4 (fun i=>[.int .i64 (fixW h),.int .i64 (tapW h),.int .i64 (sltW h),.int .i64 h.n].getD i undef):=
     World.rowIs_alloc w3 #[.int .i64 (fixW h),.int .i64 (tapW h),.int .i64 (sltW h),.int .i64 h.n] 35 _ fun i hi=>by
      simp at hi
      rcases(show i=0∨i=1∨i=2∨i=3 by omega) with rfl|rfl|rfl|rfl<;>rfl
    have HRP:=hid hrP
    have HK3:=hid (HK2.out.t hk3')
    have HKb3:=hid (HKb2.out.t hk3')
    clear b0 b1 b2 b3 b4 b5 b6 b7 b8 hbl hk3 hk3' hrP hrx hr0 HMk2 HK2 HKb2
    go_upto_region 5 with(fail)
    generalize w3.alloc (.cells #[.int .i64 (fixW h),.int .i64 (tapW h),.int .i64 (sltW h),.int .i64 h.n] 35)=w4 at *
    generalize w3.heap.size=gp at *
    have HX:Hid (∀ W,KW w4 W→BoxC h w.heap.size W∧(W.cell? ⟨gp,0,none⟩=some (.int .i64 (fixW h))∧W.cell? ⟨gp,2,none⟩=some (.int .i64 (sltW h))∧W.cell? ⟨gp,3,none⟩=some (.int .i64 h.n))∧gp<W.heap.size):=hid fun W hW=>by
     have r:=KW.row hW HRP.out.lt HRP.out
     exact⟨HB.out W (HKb3.out.t hW),⟨r.cell (i:=0) (by omega),r.cell (i:=2) (by omega),r.cell (i:=3) (by omega)⟩,r.lt⟩
    have HRn4:=hid (HRn.out w4 HK3.out)
    obtain⟨⟨⟨b0,b1,b2,b3,b4,b5,b6,b7,b8⟩,hbl⟩,⟨x0,x2,x3⟩,xp⟩:=HX.out w4 (KW.refl w4)
    clear HB HKb3 HRP HRn
    go_wp2_with fail
    refine HRn4.out.mono ?_
    rintro e w5 ⟨be1,v5,rfl,ho5,hk5⟩
    obtain⟨A5,c5,rfl,_,hA5⟩:=ho5.slice
    have HA5:=hid hA5
    have HQ5:=hid hk5
    have HOf5:=hid (HOf.out w5 (HK3.out.t hk5))
    clear b0 b1 b2 b3 b4 b5 b6 b7 b8 hbl x0 x2 x3 xp hk5 hA5 ho5 HRn4 HOf
    obtain⟨⟨⟨b0,b1,b2,b3,b4,b5,b6,b7,b8⟩,hbl⟩,⟨x0,x2,x3⟩,xp⟩:=HX.out w5 HQ5.out
    go_wp2_with fail
    refine HOf5.out.mono ?_
    rintro e w6 ⟨oa,ob,rfl,hk6,hof,_⟩
    obtain⟨rfl,rfl⟩:=hof HPl.out.1
    have HQ6:=hid (HQ5.out.t hk6)
    have HA6:=hid (HA5.out.kw hk6)
    have HWd6:=hid (HWd.out A5 c5 w6 HA6.out)
    clear b0 b1 b2 b3 b4 b5 b6 b7 b8 hbl x0 x2 x3 xp hk6 hof HOf5 HWd HA5 HQ5
    obtain⟨⟨⟨b0,b1,b2,b3,b4,b5,b6,b7,b8⟩,hbl⟩,⟨x0,x2,x3⟩,xp⟩:=HX.out w6 HQ6.out
    go_wp2_with fail
    refine HWd6.out.mono ?_
    rintro e w7 ⟨A7,c7,rfl,hr7,hk7⟩
    have HR7:=hid hr7
    have HQ7:=hid (HQ6.out.t hk7)
    have HA7:=hid (HA6.out.kw hk7)
    have HHd7:=hid (HHd.out A5 c5 w7 HA7.out)
    clear b0 b1 b2 b3 b4 b5 b6 b7 b8 hbl x0 x2 x3 xp hk7 hr7 HWd6 HHd HA6 HQ6
    obtain⟨⟨⟨b0,b1,b2,b3,b4,b5,b6,b7,b8⟩,hbl⟩,⟨x0,x2,x3⟩,xp⟩:=HX.out w7 HQ7.out
    go_wp2_with fail
    refine HHd7.out.mono ?_
    rintro e w8 ⟨A8,c8,rfl,hr8,hk8⟩
    have HR8:=hid hr8
    have HR78:=hid (HR7.out.kw hk8)
    have HQ8:=hid (HQ7.out.t hk8)
    have HA8:=hid (HA7.out.kw hk8)
    have HNw8:=hid (HNw1.out w8 (HK3.out.t HQ8.out))
    clear b0 b1 b2 b3 b4 b5 b6 b7 b8 hbl x0 x2 x3 xp hk8 hr8 HHd7 HA7 HQ7 HR7 HNw1
    obtain⟨⟨⟨b0,b1,b2,b3,b4,b5,b6,b7,b8⟩,hbl⟩,⟨x0,x2,x3⟩,xp⟩:=HX.out w8 HQ8.out
    go_wp2_with fail
    refine HNw8.out.mono ?_
    rintro e w9 ⟨be,D,xA,xc,tA,tc,sA,sc,lA,lc,rfl,hD,hE,hown,hbe,hk9⟩
    have hdo:=hE.dr.ds
    have HDo:=hid hdo
    obtain⟨S',hRn,hp0⟩:=HW.out.run D ⟨_,_,_,_,_,_,_,_,hD⟩ hdo
    have HRn9:=hid hRn
    have HP0:=hid hp0
    have HI9:=hid (dyI_new hdo)
    have HOw:Hid (∀ b,D.own b→w8.heap.size≤b):=hid hown
    have HBe:Hid (w8.heap.size≤be):=hid hbe
    have HDh:Hid (D.h.mode=h.mode∧fixW D.h=fixW h∧sltW D.h=sltW h∧slotsW D.h=slotsW h∧D.h.words=h.words∧D.n=h.n∧D.a=wct h.st.l∧D.b=wct h.lo.l):=hid (by
     have e2:D.n=h.n:=by unfold Ds.n Hd.n;rw[hD];rfl
     have e3:D.a=wct h.st.l:=by unfold Ds.a;rw[hD];rfl
     have e4:D.b=wct h.lo.l:=by unfold Ds.b;rw[hD];rfl
     exact⟨by rw[hD];rfl,by rw[hD];rfl,by rw[hD];rfl,by rw[hD];rfl,by rw[hD];rfl,e2,e3,e4⟩)
    have hDL:(D.L:Int)=h.words:=by rw[hdo.LI,HDh.out.2.2.2.2.1]
    have dLw:((D.L:Int) != h.words)=false:=by rw[hDL];simp
    have HE9:=hid hE
    have HXB:=hid (fun W (hW:KW w8 W)=>And.intro (HX.out W (HQ8.out.t hW)) (And.intro (HA8.out.kw hW) (And.intro (HR78.out.kw hW) (And.intro (HR8.out.kw hW) (HK3.out.t (HQ8.out.t hW))))))
    have HQ9:=hid hk9
    have HIm:=hid (eimage be _ D _ false w9.drew (hE.kw (KW.refl w9).drew))
    clear b0 b1 b2 b3 b4 b5 b6 b7 b8 hbl x0 x2 x3 xp hdo hRn hp0 hown hbe hD hE hk9 HNw8 HQ8 HX HA8 HR78 HR8 HK3 hDL
    generalize D.L=DL at *
    have HS:Hid (∀ W,KW w8 W→W.cell? ⟨w.heap.size,8,none⟩=some (.int .i64 h.words)∧w.heap.size<W.heap.size):=hid fun W hW=>by
     obtain⟨⟨⟨⟨_,_,_,_,_,_,_,_,c8⟩,cl⟩,_⟩,_⟩:=HXB.out W hW
     exact⟨c8,cl⟩
    go_upto_region 12 with(fail)
    have hXS:=HS.out w9.drew HQ9.out.drew
    refine wpX_region (S:=fun W=>W.cell? ⟨w.heap.size,8,none⟩=some (.int .i64 h.words)∧w.heap.size<W.heap.size) (L:=99) (by kernel_rfl) ?_
    refine tk 0 ?_ (fun _ _=>?_) hXS ?_;rotate_left;· go_simp;try rfl
    simp only[lsz,lss]
    refine tk 1 ?_ (fun _ _=>?_) hXS ?_;rotate_left;· go_simp;try rfl
    simp only[lsz,lss]
    refine tk 2 ?_ (fun _ _=>?_) hXS ?_;rotate_left;· go_simp;try rfl
    simp only[lsz,lss]
    refine tk 3 ?_ (fun _ _=>?_) hXS ?_;rotate_left;· go_simp;try rfl
    simp only[lsz,lss]
    refine tk 4 ?_ (fun _ _=>?_) hXS ?_;rotate_left;· go_simp;try rfl
    simp only[lsz,lss]
    refine tk 5 ?_ (fun _ _=>?_) hXS ?_;rotate_left;· go_simp;try rfl
    simp only[lsz,lss]
    refine tk 6 ?_ (fun _ _=>?_) hXS ?_;rotate_left;· go_simp;try rfl
    simp only[lsz,lss]
    refine tk 7 ?_ (fun _ _=>?_) hXS ?_;rotate_left;· go_simp;try rfl
    simp only[lsz,lss]
    refine tk 8 ?_ (fun _ _=>?_) hXS ?_;rotate_left;· go_simp;try rfl
    simp only[lsz,lss]
    refine tk 9 ?_ (fun _ _=>?_) hXS ?_;rotate_left;· go_simp;try rfl
    simp only[lsz,lss]
    refine tk 10 ?_ (fun _ _=>?_) hXS ?_;rotate_left;· go_simp;try rfl
    simp only[lsz,lss]
    refine tk 11 ?_ (fun _ _=>?_) hXS ?_;rotate_left;· go_simp;try rfl
    simp only[lsz,lss]
    refine tk 12 ?_ (fun _ _=>?_) hXS ?_;rotate_left;· go_simp;try rfl
    simp only[lsz,lss]
    refine tk 13 ?_ (fun _ _=>?_) hXS ?_;rotate_left;· go_simp;try rfl
    simp only[lsz,lss]
    refine tk 14 ?_ (fun _ _=>?_) hXS ?_;rotate_left;· go_simp;try rfl
    simp only[lsz,lss]
    refine tk 15 ?_ (fun _ _=>?_) hXS ?_;rotate_left;· go_simp;try rfl
    simp only[lsz,lss]
    refine tk 16 ?_ (fun _ _=>?_) hXS ?_;rotate_left;· go_simp;try rfl
    simp only[lsz,lss]
    refine tk 17 ?_ (fun _ _=>?_) hXS ?_;rotate_left;· go_simp;try rfl
    simp only[lsz,lss]
    refine tk 18 ?_ (fun _ _=>?_) hXS ?_;rotate_left;· go_simp;try rfl
    simp only[lsz,lss]
    refine tk 19 ?_ (fun _ _=>?_) hXS ?_;rotate_left;· go_simp;try rfl
    simp only[lsz,lss]
    refine tk 20 ?_ (fun _ _=>?_) hXS ?_;rotate_left;· go_simp;try rfl
    simp only[lsz,lss]
    refine tk 21 ?_ (fun _ _=>?_) hXS ?_;rotate_left;· go_simp;try rfl
    simp only[lsz,lss]
    refine tk 22 ?_ (fun _ _=>?_) hXS ?_;rotate_left;· go_simp;try rfl
    simp only[lsz,lss]
    refine tk 23 ?_ (fun _ _=>?_) hXS ?_;rotate_left;· go_simp;try rfl
    simp only[lsz,lss]
    refine tk 24 ?_ (fun _ _=>?_) hXS ?_;rotate_left;· go_simp;try rfl
    simp only[lsz,lss]
    refine tk 25 ?_ (fun _ _=>?_) hXS ?_;rotate_left;· go_simp;try rfl
    simp only[lsz,lss]
    refine tk 26 ?_ (fun _ _=>?_) hXS ?_;rotate_left;· go_simp;try rfl
    simp only[lsz,lss]
    refine tk 27 ?_ (fun _ _=>?_) hXS ?_;rotate_left;· go_simp;try rfl
    simp only[lsz,lss]
    refine tk 28 ?_ (fun _ _=>?_) hXS ?_;rotate_left;· go_simp;try rfl
    simp only[lsz,lss]
    refine tk 29 ?_ (fun _ _=>?_) hXS ?_;rotate_left;· go_simp;try rfl
    simp only[lsz,lss]
    refine tk 32 ?_ (fun _ _=>?_) hXS ?_;rotate_left;· go_simp;try rfl
    simp only[lsz,lss]
    refine tk 33 ?_ (fun _ _=>?_) hXS ?_;rotate_left;· go_simp;try rfl
    simp only[lsz,lss]
    refine wpX_hard (k:=30) (by kernel_rfl) rfl (fun K hK=>?_)
    go_simp
    refine HIm.out.mono ?_
    rintro e w10 ⟨Ai,ci,rfl,hk10⟩
    have HQ10:=hid (HQ9.out.drew.t hk10)
    have hXS:=HS.out w10 HQ10.out
    have HE10:=hid (HE9.out.kw ((KW.refl w9).drew.t hk10))
    refine hK _ _ (fun _=>hXS) ?_
    clear hK K hk10 HIm HE9 HQ9
    try simp only[lsz,lss]
    refine tk 31 ?_ (fun _ _=>?_) hXS ?_;rotate_left;· go_simp;try rfl
    simp only[lsz,lss]
    refine tk 34 ?_ (fun _ _=>?_) hXS ?_;rotate_left;· go_simp;try rfl
    simp only[lsz,lss]
    refine tk 35 ?_ (fun _ _=>?_) hXS ?_;rotate_left;· go_simp;try rfl
    simp only[lsz,lss]
    refine wpX_done (by kernel_rfl) ?_
    clear hXS dLw
    obtain⟨⟨⟨⟨b0,b1,b2,b3,b4,b5,b6,b7,b8⟩,hbl⟩,⟨x0,x2,x3⟩,xp⟩,_⟩:=HXB.out w10 HQ10.out
    go_wp2_with fail
    clear b0 b1 b2 b3 b4 b5 b6 b7 b8 hbl x0 x2 x3 xp
    have HN0:Hid (((Dy.new D).most:Int)=fixW h):=hid (by
     have:(Dy.new D).most=fixW D.h:=rfl
     rw[this,HDh.out.2.1])
    have HB0:Hid (BdI D lf L 0 (Dy.new D)):=hid rfl
    have HBn:=hid (bnd_new D)
    have HTL:Hid (T<20000):=hid HW.out.T20
    have HOk:=hid HW.out.does
    have HNx:=hid HW.out.nxp
    clear HW HPl
    go_loopw [19,20,21] (fun pk fd i wr=>∃ (t fed j:Nat) (Sq:Dy) (b:Bool),j+fed+t=T∧j≤L.length∧i=.int .i64 j∧fd=.int .i64 fed∧pk=.int .i64 Sq.most∧Hid (RnT nx D h.mode lf t Sq b fed (L.drop j) S' b')∧Hid (EnM wr be (enF h.mode) D Sq b)∧Hid (DyI D Sq)∧Hid (Bnd Sq (j+fed))∧Hid (BdI D lf L j Sq)∧Hid (KW w8 wr)) (fun _ fd i _=>T - (intOf i).toNat - (intOf fd).toNat)
    case atStart=>exact⟨T,0,0,Dy.new D,false,by omega,by omega,rfl,rfl,by rw[HN0.out],HRn9,HE10,HI9,HBn,HB0,HQ10⟩
    case round=>
     obtain⟨t,fed,j,Sq,b,hqt,hjl,rfl,rfl,rfl,HRr,HEr,HIr,HBr,HDr,HKr⟩:=hrel
     clear HRn9 HE10 HI9 HBn HB0 HQ10 HN0
     have hT20:=HTL.out
     have L20:(fed:Int)<20000:=by omega
     have L21:(j:Int)<20000:=by omega
     by_cases hlt:j<L.length
     ·have L5:(j:Int)<(L.length:Int):=by omega
      rw[Mc.drop_at L hlt] at HRr
      cases t with
      | zero=>exact absurd HRr.out.1 (by simp)
      | succ t=>
        rcases HRr.out with⟨k,n,L',eL,hnx,hst,hrn⟩|⟨hnx,hm2,rfl,hfl,hpn,hll,hrn⟩|⟨hnx,hm2,rfl,hfl,hrn⟩
        ·obtain⟨e1,rfl⟩:=List.cons.inj eL
         have HX1:=hid (HNx.out be D Sq b)
         rw[hnx] at HX1
         have hP:=bd_step HDo.out HIr.out HDr.out (by rw[HDh.out.2.2.2.2.2.1];exact HOk.out) hlt e1 hst
         obtain⟨_,g1,g2,g3,g4,g5,g6,g7⟩:=HDh.out
         obtain⟨p1,p2,p3,p4,p5⟩:=hP
         rw[g1,g2,g5,g6,g7] at p2 p3
         rw[g5,g3,← HHn.out] at p4
         rw[g1,g2,g5] at p5
         rw[g4] at p2
         have HI2:=hid (HIr.out.act hst).inv
         have HB2:Hid (Bnd (Sq.act D k n) (j+1+fed)):=hid (by have:=HBr.out.act HIr.out hst;rw[show j+fed+1=j+1+fed by omega] at this;exact this)
         have HD2:=hid p1
         have HRn2:=hid hrn
         have HSm:=hid (HBr.out.small (show j+fed≤20000 by omega))
         have HWt:=hid (ewaits be _ D Sq b (some (k,n)) wr HEr.out HX1.out)
         have hwf:(!(some (k,n):Option Mc.Act).isSome&&decide (D.h.mode=2) && !b)=false:=rfl
         rw[hwf] at HWt
         have HStp:=hid (fun W (hE:EnM W be (enF h.mode) D Sq b)=>estep_some be _ D Sq b k n W hE HX1.out HIr.out HSm.out hst)
         have ne1:∀ W,(binOp .neq 55 (.agg #[.int .i64 k,.int .i64 n]) (.agg #[.int .i64 k,.int .i64 n])).run Tryz.prog W=.ok (.bool false) W:=fun W=>by rw[act_neq];simp
         have HP2:=hid p2
         have HP3:=hid p3
         have HP4:=hid p4
         have HP5:=hid p5
         have HP60:Hid (0≤((Mc.hl (Mc.new lf h.n) L (j+1):Nat):Int)):=hid (by omega)
         have HWb:Hid (h.words≤1048576):=hid HWb0.out
         have hw2:=(HI2.out.hold HDo.out)
         rw[g4,p5] at hw2
         have hHd:=hid hw2
         clear g1 g2 g3 g4 g5 g6 g7 p1 p2 p3 p4 p5 hnx hrn HRr hst hwf hw2
         have HE1:=hid e1
         clear e1
         go_wp2_with fail
         refine HWt.out.mono ?_
         rintro e w11 ⟨rfl,hk11⟩
         have HE4:=hid (HEr.out.kw hk11)
         have HK4:=hid (HKr.out.t hk11)
         have HSt4:=hid (HStp.out w11 HE4.out)
         clear hk11 HWt HEr HKr HStp
         go_wp2_with fail
         refine HSt4.out.mono ?_
         rintro e w12 ⟨rfl,he5,hk5⟩
         have HK5:=hid (HK4.out.kept hk5 HOw.out)
         have hkA:=(KW.refl w12).alloc (.cells #[.int .i64 k,.int .i64 n] 55)
         have HK6:=hid (HK5.out.t hkA)
         have HE6:=hid (he5.kw hkA)
         have HA0:=hid (act2_row w12 k n)
         clear he5 hk5 HSt4 HE4 HK4 HK5 hkA
         go_upto_region 23 with(fail)
         generalize w12.alloc (.cells #[.int .i64 k,.int .i64 n] 55)=w13 at *
         have a0:w13.cell? ⟨w12.heap.size,0,none⟩=some (.int .i64 k):=HA0.out.cell (i:=0) (by omega)
         have a1:w13.cell? ⟨w12.heap.size,1,none⟩=some (.int .i64 n):=HA0.out.cell (i:=1) (by omega)
         generalize w12.heap.size=ga at *
         have HXC:=hid (HXB.out w13 HK6.out)
         obtain⟨⟨⟨⟨_,_,_,_,_,_,_,_,b8⟩,hbl⟩,⟨x0,x2,x3⟩,xp⟩,hA5,hR7,hR8,_⟩:=HXC.out
         obtain⟨q5,o5,rfl,hq5,c1,c2⟩:=hA5.at_ hlt
         obtain⟨q7,o7,rfl,hq7,c7⟩:=hR7 j hlt
         obtain⟨q8,o8,rfl,hq8,c8⟩:=hR8 j hlt
         rw[HE1.out] at c1 c2
         dsimp only at c1 c2 c8
         generalize Sq.act D k n=S2 at *
         generalize lw (Mc.new lf h.n) L (fixW h) (sltW h) (wct h.st.l) (wct h.lo.l) j=wd at *
         generalize ((Mc.hl (Mc.new lf h.n) L (j+1):Nat):Int)=hd at *
         have p2:=HP2.out
         have p4:=HP4.out
         have HP6:Hid (0≤hd):=HP60
         have d1:decide ((h.n:Int)<hd)=false:=decide_eq_false (by omega)
         have d2:decide (h.words<wd)=false:=decide_eq_false (by omega)
         have hga:ga<w13.heap.size:=HA0.out.lt
         have HSS:Hid (∀ W,KW w13 W→W.cell? ⟨ga,0,none⟩=some (.int .i64 k)∧W.cell? ⟨ga,1,none⟩=some (.int .i64 n)∧W.cell? ⟨q5,o5+j * 2,none⟩=some (.int .i64 k)∧W.cell? ⟨q5,o5+j * 2+1,none⟩=some (.int .i64 n)∧W.cell? ⟨q8,o8+j,none⟩=some (.int .i64 hd)∧W.cell? ⟨gp,3,none⟩=some (.int .i64 h.n)∧W.cell? ⟨q7,o7+j,none⟩=some (.int .i64 wd)∧W.cell? ⟨w.heap.size,8,none⟩=some (.int .i64 h.words)):=hid fun W hW=>
          ⟨(Below.cell hW hga).trans a0,(Below.cell hW hga).trans a1,(Below.cell hW hq5).trans c1,(Below.cell hW hq5).trans c2,(Below.cell hW hq8).trans c8,(Below.cell hW xp).trans x3,(Below.cell hW hq7).trans c7,(Below.cell hW hbl).trans b8⟩
         have HST:Hid (∀ W,KW w13 W→W.cell? ⟨gp,0,none⟩=some (.int .i64 (fixW h))∧W.cell? ⟨gp,2,none⟩=some (.int .i64 (sltW h))∧W.cell? ⟨q8,o8+j,none⟩=some (.int .i64 hd)):=hid fun W hW=>
          ⟨(Below.cell hW xp).trans x0,(Below.cell hW xp).trans x2,(Below.cell hW hq8).trans c8⟩
         clear hA5 hR7 hR8 HXC HA0 p2 p4 a0 a1 c1 c2 c7 c8 hq5 hq7 hq8 hga b8 hbl x0 x2 x3 xp
         have hXS:=HSS.out w13.drew (KW.refl w13).drew
         refine wpX_region (S:=fun W=>W.cell? ⟨ga,0,none⟩=some (.int .i64 k)∧W.cell? ⟨ga,1,none⟩=some (.int .i64 n)∧W.cell? ⟨q5,o5+j * 2,none⟩=some (.int .i64 k)∧W.cell? ⟨q5,o5+j * 2+1,none⟩=some (.int .i64 n)∧W.cell? ⟨q8,o8+j,none⟩=some (.int .i64 hd)∧W.cell? ⟨gp,3,none⟩=some (.int .i64 h.n)∧W.cell? ⟨q7,o7+j,none⟩=some (.int .i64 wd)∧W.cell? ⟨w.heap.size,8,none⟩=some (.int .i64 h.words)) (L:=99) (by kernel_rfl) ?_
         refine tk 0 ?_ (fun _ _=>?_) hXS ?_;rotate_left;· go_simp;try rfl
         simp only[lsz,lss]
         refine tk 1 ?_ (fun _ _=>?_) hXS ?_;rotate_left;· go_simp;try rfl
         simp only[lsz,lss]
         refine tk 2 ?_ (fun _ _=>?_) hXS ?_;rotate_left;· go_simp;try rfl
         simp only[lsz,lss]
         refine tk 3 ?_ (fun _ _=>?_) hXS ?_;rotate_left;· go_simp;try rfl
         simp only[lsz,lss]
         refine tk 4 ?_ (fun _ _=>?_) hXS ?_;rotate_left;· go_simp;try rfl
         simp only[lsz,lss]
         refine tk 5 ?_ (fun _ _=>?_) hXS ?_;rotate_left;· go_simp;try rfl
         simp only[lsz,lss]
         refine tk 6 ?_ (fun _ _=>?_) hXS ?_;rotate_left;· go_simp;try rfl
         simp only[lsz,lss]
         refine tk 7 ?_ (fun _ _=>?_) hXS ?_;rotate_left;· go_simp;try rfl
         simp only[lsz,lss]
         refine tk 8 ?_ (fun _ _=>?_) hXS ?_;rotate_left;· go_simp;try rfl
         simp only[lsz,lss]
         refine tk 9 ?_ (fun _ _=>?_) hXS ?_;rotate_left;· go_simp;try rfl
         simp only[lsz,lss]
         refine tk 10 ?_ (fun _ _=>?_) hXS ?_;rotate_left;· go_simp;try rfl
         simp only[lsz,lss]
         refine tk 11 ?_ (fun _ _=>?_) hXS ?_;rotate_left;· go_simp;try rfl
         simp only[lsz,lss]
         refine tk 12 ?_ (fun _ _=>?_) hXS ?_;rotate_left;· go_simp;try rfl
         simp only[lsz,lss]
         refine tk 13 ?_ (fun _ _=>?_) hXS ?_;rotate_left;· go_simp;try rfl
         simp only[lsz,lss]
         refine tk 14 ?_ (fun _ _=>?_) hXS ?_;rotate_left;· go_simp;try rfl
         simp only[lsz,lss]
         refine tk 15 ?_ (fun _ _=>?_) hXS ?_;rotate_left;· go_simp;try rfl
         simp only[lsz,lss]
         refine tk 16 ?_ (fun _ _=>?_) hXS ?_;rotate_left;· go_simp;try rfl
         simp only[lsz,lss]
         refine tk 17 ?_ (fun _ _=>?_) hXS ?_;rotate_left;· go_simp;try rfl
         simp only[lsz,lss]
         refine tk 18 ?_ (fun _ _=>?_) hXS ?_;rotate_left;· go_simp;try rfl
         simp only[lsz,lss]
         refine tk 19 ?_ (fun _ _=>?_) hXS ?_;rotate_left;· go_simp;try rfl
         simp only[lsz,lss]
         refine tk 20 ?_ (fun _ _=>?_) hXS ?_;rotate_left;· go_simp;try rfl
         simp only[lsz,lss]
         refine tk 21 ?_ (fun _ _=>?_) hXS ?_;rotate_left;· go_simp;try rfl
         simp only[lsz,lss]
         refine tk 22 ?_ (fun _ _=>?_) hXS ?_;rotate_left;· go_simp;try rfl
         simp only[lsz,lss]
         refine tk 23 ?_ (fun _ _=>?_) hXS ?_;rotate_left;· go_simp;try rfl
         simp only[lsz,lss]
         refine tk 24 ?_ (fun _ _=>?_) hXS ?_;rotate_left;· go_simp;try rfl
         simp only[lsz,lss]
         refine tk 25 ?_ (fun _ _=>?_) hXS ?_;rotate_left;· go_simp;try rfl
         simp only[lsz,lss]
         refine tk 26 ?_ (fun _ _=>?_) hXS ?_;rotate_left;· go_simp;try rfl
         simp only[lsz,lss]
         refine tk 27 ?_ (fun _ _=>?_) hXS ?_;rotate_left;· go_simp;try rfl
         simp only[lsz,lss]
         refine tk 28 ?_ (fun _ _=>?_) hXS ?_;rotate_left;· go_simp;try rfl
         simp only[lsz,lss]
         refine tk 29 ?_ (fun _ _=>?_) hXS ?_;rotate_left;· go_simp;try rfl
         simp only[lsz,lss]
         refine tk 30 ?_ (fun _ _=>?_) hXS ?_;rotate_left;· go_simp;try rfl
         simp only[lsz,lss]
         refine tk 31 ?_ (fun _ _=>?_) hXS ?_;rotate_left;· go_simp;try rfl
         simp only[lsz,lss]
         refine wpX_done (by kernel_rfl) ?_
         clear hXS
         obtain⟨_,_,_,_,_,_,c7,_⟩:=HSS.out w13.drew (KW.refl w13).drew
         have HE14:=hid (HE6.out.kw (KW.refl w13).drew)
         have HK14:=hid HK6.out.drew
         have HQ14:=hid (KW.refl w13).drew
         generalize w13.drew=w14 at *
         clear d1 d2 ne1 HE6 HK6
         by_cases hmx:Sq.most<wd
         ·have hS2:S2.most=wd:=by rw[HP3.out];omega
          have dmx:decide (Sq.most<wd)=true:=decide_eq_true hmx
          go_upto_region 26 with(fail)
          clear c7 dmx hmx HP3
          have HE15:=hid (HE14.out.kw (KW.refl w14).drew)
          have HK15:=hid HK14.out.drew
          have HLv:=hid (elive be _ D S2 b w14.drew HE15.out)
          have HPk:=hid (epeak be _ D S2 b w14.drew HE15.out)
          have hp5:=HP5.out
          rw[hp5] at HLv
          rw[hS2] at HPk
          have hhd:=hHd.out
          have hsl0:0≤(sltW h:Int) * hd:=Int.mul_nonneg (by omega) HP6.out
          have hfx:0≤(fixW h:Int):=by omega
          have hsl1:(sltW h:Int) * hd≤1048576:=by have:=HWb.out;omega
          have hfx1:(fixW h:Int)≤1048576:=by have:=HWb.out;omega
          have hw1:IntKind.i64.wrap ((sltW h:Int) * hd)=(sltW h:Int) * hd:=IntWalk.i64_in _ (by omega)
          have hw2:IntKind.i64.wrap ((fixW h:Int)+(sltW h:Int) * hd)=(fixW h:Int)+(sltW h:Int) * hd:=IntWalk.i64_in _ (by omega)
          clear hp5 hhd
          have hXS:=HST.out w14.drew (HQ14.out.drew)
          refine wpX_region (S:=fun W=>W.cell? ⟨gp,0,none⟩=some (.int .i64 (fixW h))∧W.cell? ⟨gp,2,none⟩=some (.int .i64 (sltW h))∧W.cell? ⟨q8,o8+j,none⟩=some (.int .i64 hd)) (L:=99) (by kernel_rfl) ?_
          refine tk 0 ?_ (fun _ _=>?_) hXS ?_;rotate_left;· go_simp;try rfl
          simp only[lsz,lss]
          refine tk 2 ?_ (fun _ _=>?_) hXS ?_;rotate_left;· go_simp;try rfl
          simp only[lsz,lss]
          refine tk 3 ?_ (fun _ _=>?_) hXS ?_;rotate_left;· go_simp;try rfl
          simp only[lsz,lss]
          refine tk 4 ?_ (fun _ _=>?_) hXS ?_;rotate_left;· go_simp;try rfl
          simp only[lsz,lss]
          refine tk 5 ?_ (fun _ _=>?_) hXS ?_;rotate_left;· go_simp;try rfl
          simp only[lsz,lss]
          refine tk 6 ?_ (fun _ _=>?_) hXS ?_;rotate_left;· go_simp;try rfl
          simp only[lsz,lss]
          refine tk 7 ?_ (fun _ _=>?_) hXS ?_;rotate_left;· go_simp;try rfl
          simp only[lsz,lss]
          refine tk 8 ?_ (fun _ _=>?_) hXS ?_;rotate_left;· go_simp;try rfl
          simp only[lsz,lss]
          refine tk 9 ?_ (fun _ _=>?_) hXS ?_;rotate_left;· go_simp;try rfl
          simp only[lsz,lss]
          refine tk 10 ?_ (fun _ _=>?_) hXS ?_;rotate_left;· go_simp;try rfl
          simp only[lsz,lss]
          refine tk 11 ?_ (fun _ _=>?_) hXS ?_;rotate_left;· go_simp;try rfl
          simp only[lsz,lss]
          refine wpX_hard (k:=1) (by kernel_rfl) rfl (fun K hK=>?_)
          go_simp
          refine HLv.out.mono ?_
          rintro e w15 ⟨rfl,rfl⟩
          refine hK _ _ (fun _=>hXS) ?_
          clear hK K
          try simp only[lsz,lss]
          refine tk 12 ?_ (fun _ _=>?_) hXS ?_;rotate_left;· go_simp;try rfl
          simp only[lsz,lss]
          refine tk 13 ?_ (fun _ _=>?_) hXS ?_;rotate_left;· go_simp;try rfl
          simp only[lsz,lss]
          refine tk 14 ?_ (fun _ _=>?_) hXS ?_;rotate_left;· go_simp;try rfl
          simp only[lsz,lss]
          refine tk 16 ?_ (fun _ _=>?_) hXS ?_;rotate_left;· go_simp;try rfl
          simp only[lsz,lss]
          refine wpX_hard (k:=15) (by kernel_rfl) rfl (fun K hK=>?_)
          go_simp
          refine HPk.out.mono ?_
          rintro e w15 ⟨rfl,rfl⟩
          refine hK _ _ (fun _=>hXS) ?_
          clear hK K
          try simp only[lsz,lss]
          refine tk 17 ?_ (fun _ _=>?_) hXS ?_;rotate_left;· go_simp;try rfl
          simp only[lsz,lss]
          refine tk 18 ?_ (fun _ _=>?_) hXS ?_;rotate_left;· go_simp;try rfl
          simp only[lsz,lss]
          refine wpX_done (by kernel_rfl) ?_
          clear hXS
          go_wp2_with fail
          go_roundw
          case rel=>exact⟨t,fed,j+1,S2,b,by omega,by omega,by go_num,rfl,by rw[hS2],HRn2,HE15,HI2,HB2,HD2,HK15⟩
          case measure=>simp[intOf];omega
         ·have hS2:S2.most=Sq.most:=by rw[HP3.out];omega
          have dmx:decide (Sq.most<wd)=false:=decide_eq_false hmx
          go_upto_region 26 with(fail)
          clear c7 dmx hmx HP3
          have HE15:=hid (HE14.out.kw (KW.refl w14).drew)
          have HK15:=hid HK14.out.drew
          have HLv:=hid (elive be _ D S2 b w14.drew HE15.out)
          have HPk:=hid (epeak be _ D S2 b w14.drew HE15.out)
          have hp5:=HP5.out
          rw[hp5] at HLv
          rw[hS2] at HPk
          have hhd:=hHd.out
          have hsl0:0≤(sltW h:Int) * hd:=Int.mul_nonneg (by omega) HP6.out
          have hfx:0≤(fixW h:Int):=by omega
          have hsl1:(sltW h:Int) * hd≤1048576:=by have:=HWb.out;omega
          have hfx1:(fixW h:Int)≤1048576:=by have:=HWb.out;omega
          have hw1:IntKind.i64.wrap ((sltW h:Int) * hd)=(sltW h:Int) * hd:=IntWalk.i64_in _ (by omega)
          have hw2:IntKind.i64.wrap ((fixW h:Int)+(sltW h:Int) * hd)=(fixW h:Int)+(sltW h:Int) * hd:=IntWalk.i64_in _ (by omega)
          clear hp5 hhd
          have hXS:=HST.out w14.drew (HQ14.out.drew)
          refine wpX_region (S:=fun W=>W.cell? ⟨gp,0,none⟩=some (.int .i64 (fixW h))∧W.cell? ⟨gp,2,none⟩=some (.int .i64 (sltW h))∧W.cell? ⟨q8,o8+j,none⟩=some (.int .i64 hd)) (L:=99) (by kernel_rfl) ?_
          refine tk 0 ?_ (fun _ _=>?_) hXS ?_;rotate_left;· go_simp;try rfl
          simp only[lsz,lss]
          refine tk 2 ?_ (fun _ _=>?_) hXS ?_;rotate_left;· go_simp;try rfl
          simp only[lsz,lss]
          refine tk 3 ?_ (fun _ _=>?_) hXS ?_;rotate_left;· go_simp;try rfl
          simp only[lsz,lss]
          refine tk 4 ?_ (fun _ _=>?_) hXS ?_;rotate_left;· go_simp;try rfl
          simp only[lsz,lss]
          refine tk 5 ?_ (fun _ _=>?_) hXS ?_;rotate_left;· go_simp;try rfl
          simp only[lsz,lss]
          refine tk 6 ?_ (fun _ _=>?_) hXS ?_;rotate_left;· go_simp;try rfl
          simp only[lsz,lss]
          refine tk 7 ?_ (fun _ _=>?_) hXS ?_;rotate_left;· go_simp;try rfl
          simp only[lsz,lss]
          refine tk 8 ?_ (fun _ _=>?_) hXS ?_;rotate_left;· go_simp;try rfl
          simp only[lsz,lss]
          refine tk 9 ?_ (fun _ _=>?_) hXS ?_;rotate_left;· go_simp;try rfl
          simp only[lsz,lss]
          refine tk 10 ?_ (fun _ _=>?_) hXS ?_;rotate_left;· go_simp;try rfl
          simp only[lsz,lss]
          refine tk 11 ?_ (fun _ _=>?_) hXS ?_;rotate_left;· go_simp;try rfl
          simp only[lsz,lss]
          refine wpX_hard (k:=1) (by kernel_rfl) rfl (fun K hK=>?_)
          go_simp
          refine HLv.out.mono ?_
          rintro e w15 ⟨rfl,rfl⟩
          refine hK _ _ (fun _=>hXS) ?_
          clear hK K
          try simp only[lsz,lss]
          refine tk 12 ?_ (fun _ _=>?_) hXS ?_;rotate_left;· go_simp;try rfl
          simp only[lsz,lss]
          refine tk 13 ?_ (fun _ _=>?_) hXS ?_;rotate_left;· go_simp;try rfl
          simp only[lsz,lss]
          refine tk 14 ?_ (fun _ _=>?_) hXS ?_;rotate_left;· go_simp;try rfl
          simp only[lsz,lss]
          refine tk 16 ?_ (fun _ _=>?_) hXS ?_;rotate_left;· go_simp;try rfl
          simp only[lsz,lss]
          refine wpX_hard (k:=15) (by kernel_rfl) rfl (fun K hK=>?_)
          go_simp
          refine HPk.out.mono ?_
          rintro e w15 ⟨rfl,rfl⟩
          refine hK _ _ (fun _=>hXS) ?_
          clear hK K
          try simp only[lsz,lss]
          refine tk 17 ?_ (fun _ _=>?_) hXS ?_;rotate_left;· go_simp;try rfl
          simp only[lsz,lss]
          refine tk 18 ?_ (fun _ _=>?_) hXS ?_;rotate_left;· go_simp;try rfl
          simp only[lsz,lss]
          refine wpX_done (by kernel_rfl) ?_
          clear hXS
          go_wp2_with fail
          go_roundw
          case rel=>exact⟨t,fed,j+1,S2,b,by omega,by omega,by go_num,rfl,by rw[hS2],HRn2,HE15,HI2,HB2,HD2,HK15⟩
          case measure=>simp[intOf];omega
        ·have HX1:=hid (HNx.out be D Sq false)
         rw[hnx] at HX1
         have HI2:=hid (HIr.out.more hll)
         have HB2:Hid (Bnd { Sq with l:=Sq.l+1 } (j+(fed+1))):=hid (let h:=HBr.out.succ;⟨h.plain,h.taped,h.losses,h.sweeps⟩)
         have HRn2:Hid (RnT nx D h.mode lf t { Sq with l:=Sq.l+1 } false (fed+1) (L.drop j) S' b'):=hid (by rw[Mc.drop_at L hlt];exact hrn)
         have HM2:Hid (D.h.mode=2):=hid (HDh.out.1.trans hm2)
         have HD2:Hid (BdI D lf L j { Sq with l:=Sq.l+1 }):=hid HDr.out
         have dl:decide ((fed:Int)+1≤lf)=true:=decide_eq_true (by omega)
         have HPn:=hid hpn
         have HWt:=hid (ewaits be _ D Sq false none wr HEr.out HX1.out)
         have hwf:(!(none:Option Mc.Act).isSome&&decide (D.h.mode=2) && !false)=true:=by rw[HM2.out];rfl
         rw[hwf] at HWt
         clear hnx hrn HRr hm2 hpn hwf
         go_wp2_with fail
         refine HWt.out.mono ?_
         rintro e w11 ⟨rfl,hk11⟩
         have HE4:=hid (HEr.out.kw hk11)
         have HK4:=hid (HKr.out.t hk11)
         have HFd:=hid (efeed_more be _ D Sq w11 HE4.out HX1.out HM2.out HPn.out hll)
         clear hk11 HWt
         go_wp2_with fail
         refine HFd.out.mono ?_
         rintro e w12 ⟨rfl,he5,hk5⟩
         have HE5:=hid he5
         have HK5:=hid (HK4.out.kept hk5 fun b e=>e.elim (HOw.out b) fun e=>e ▸ HBe.out)
         clear he5 hk5 HFd HE4 HK4
         go_wp2_with fail
         go_roundw
         case rel=>exact⟨t,fed+1,j,{ Sq with l:=Sq.l+1 },false,by omega,hjl,rfl,by go_num,rfl,HRn2,HE5,HI2,HB2,HD2,HK5⟩
         case measure=>simp[intOf];omega
        ·have HX1:=hid (HNx.out be D Sq false)
         rw[hnx] at HX1
         have HB2:Hid (Bnd Sq (j+(fed+1))):=hid HBr.out.succ
         have HRn2:Hid (RnT nx D h.mode lf t Sq true (fed+1) (L.drop j) S' b'):=hid (by rw[Mc.drop_at L hlt];exact hrn)
         have HM2:Hid (D.h.mode=2):=hid (HDh.out.1.trans hm2)
         have dl:decide ((fed:Int)+1≤lf)=false:=decide_eq_false (by omega)
         have HWt:=hid (ewaits be _ D Sq false none wr HEr.out HX1.out)
         have hwf:(!(none:Option Mc.Act).isSome&&decide (D.h.mode=2) && !false)=true:=by rw[HM2.out];rfl
         rw[hwf] at HWt
         clear hnx hrn HRr hm2 hwf
         go_wp2_with fail
         refine HWt.out.mono ?_
         rintro e w11 ⟨rfl,hk11⟩
         have HE4:=hid (HEr.out.kw hk11)
         have HK4:=hid (HKr.out.t hk11)
         have HFd:=hid (efeed_end be _ D Sq w11 HE4.out HX1.out HM2.out)
         clear hk11 HWt
         go_wp2_with fail
         refine HFd.out.mono ?_
         rintro e w12 ⟨rfl,he5,hk5⟩
         have HE5:=hid he5
         have HK5:=hid (HK4.out.kept hk5 fun b e=>e ▸ HBe.out)
         clear he5 hk5 HFd HE4 HK4
         go_wp2_with fail
         go_roundw
         case rel=>exact⟨t,fed+1,j,Sq,true,by omega,hjl,rfl,by go_num,rfl,HRn2,HE5,HIr,HB2,HDr,HK5⟩
         case measure=>simp[intOf];omega
     ·obtain rfl:j=L.length:=by omega
      rw[List.drop_length] at HRr
      obtain⟨hnx,hpe⟩:=rnt_nil _ _ _ _ _ _ _ _ _ _ HRr.out
      rw[HP0.out] at hpe
      have HX1:=hid (HNx.out be D Sq b)
      rw[hnx] at HX1
      have HDn:=hid (edone be _ D Sq b none wr HEr.out HX1.out)
      rw[← hpe] at HDn
      have HDn:Hid (Calls Tryz.prog 31 #[.pointer (some ⟨be,0,none⟩)] wr fun e w'=>e=.returned (.bool true)∧KW wr w'):=HDn
      clear hlt hnx hpe HRr
      go_wp2_with fail
      refine HDn.out.mono ?_
      rintro e wA ⟨rfl,hkA⟩
      obtain⟨_,_,_,_,hkk⟩:=HXB.out wA (HKr.out.t hkA)
      have HKA:=hid hkk
      clear hkA hkk HDn
      go_wp2_with fail
      refine(HWk.out wA).mono ?_
      rintro e wB ⟨rfl,hkB⟩
      have HKB:=hid (HKA.out.t hkB)
      clear hkB
      go_wp2_with fail
      go_ret
      exact⟨rfl,HKB.out⟩
end Go.Proofs.YtphppbonljdibaaGreat
namespace Go.Proofs.YtphppbonljdibaaGreat
open Go.ChangeShapes Go.WideShapes Go.ChangeAt Go.RowKit Go.Joins
theorem budget35_contract (H:Type)(enc:TypeId×Value→H)(W:World)(base:Nat)(args:Array Value)(ds gs:List (DataW H))(before:List MemPlace)
 (hval:∀ (j:Nat) t v,Tryz.f5.params[j]?=some t→args[j]?=some v→Value.okWide Tryz.prog W .any base t v)
 (hW:DataW.Whole enc Tryz.prog Tryz.f5.params.toList Rows.topBudgetSpec.vars false W args.toList ds gs before) (hk:Rows.uptoSmall H (ds++gs)=true):
 Calls Tryz.prog 5 args W fun e W'=>∃ v,e=.returned v∧Rows.topBudgetSpec.post enc Tryz.prog Tryz.f5 false true false false W args v W':=by
 have hW':=hW
 obtain⟨p,q,hA0,hV,rfl,hfz,hnd⟩:=hW
 have hA:DataW.TrodAll enc Tryz.prog W 0 (fun _=>true) true Tryz.f5.params.toList args.toList ds p:=hA0
 rw[Tryz.params5] at hA hval
 obtain⟨v0,vs0,d0,ds0,p0,q0,hargs,rfl,rfl,h0,r0⟩:=trodAll_cons hA
 obtain⟨v1,vs1,d1,ds1,p1,q1,rfl,rfl,rfl,h1,r1⟩:=trodAll_cons r0
 obtain⟨rfl,rfl,rfl⟩:=trodAll_nil r1
 obtain rfl:args=#[v0,v1]:=by cases args;simp_all
 have hb:Rows.uptoBulkAll ([d0,d1]++gs)≤1048576:=of_decide_eq_true hk
 simp only[List.cons_append,List.nil_append,Rows.uptoBulkAll] at hb
 obtain⟨x0,rfl,hm0⟩:=open_header (hval 0 27 v0 rfl rfl) h0 (by omega)
 obtain⟨a1,rfl,rfl,_,wa1⟩:=open_int Tryz.underlying5 (hval 1 5 v1 rfl rfl) h1
 have ba1:0≤a1∧a1≤255:=by simpa [Lit.wf,IntKind.min,IntKind.max,IntKind.signed,IntKind.bits] using wa1
 refine(budget_any x0 a1 W hm0 ba1.1 ba1.2).mono fun e W' ⟨he,hb⟩=>?_
 subst he
 exact⟨_,rfl,law_post laidOut (by kernel_rfl) hW' rfl (fun h=>by subst h;rfl) (by kernel_rfl) Tryz.underlying4 hb⟩
theorem budget35_lifted (os:Os)(started:os.Started)(H:Type)(enc:TypeId×Value→H)(F:Stop.Interp):
 ReturnsInHanded {} Tryz.checked os 5 .any ((Rows.OpenSpec.upto Rows.topBudgetSpec).pre6 enc Tryz.prog Tryz.f5 Rows.topBudgetUptoRow.domain false) (((Rows.OpenSpec.upto Rows.topBudgetSpec).at F).post enc Tryz.prog Tryz.f5 false true false false):=by
 refine returnsInHanded_of_cond (C:=Tryz.checked) (s:=Rows.OpenSpec.upto Rows.topBudgetSpec) (k:=Rows.uptoSmall) rfl own started (by kernel_rfl) Tryz.func5
  (OpenSpec.witness (enc:=enc) (C:=Tryz.checked) (s:=Rows.OpenSpec.upto Rows.topBudgetSpec) (k:=Rows.uptoSmall) rfl false ⟨#[],#[.agg #[.int .i64 0,.slice none 0 0,.slice none 0 0,.int .i64 0,.slice none 0 0,.int .i64 0,.slice none 0 0,.int .i64 0,.int .i64 0],.int .u8 0],[]⟩ 8 (by kernel_rfl) (by kernel_rfl) (by kernel_rfl)
    (x:=([.agg [.lit (.int .i64 0),.nil,.nil,.agg [.lit (.int .i64 0),.nil],.agg [.lit (.int .i64 0),.nil],.lit (.int .i64 0),.lit (.int .i64 0)],.lit (.int .u8 0)],[],[])) (by kernel_rfl) rfl (by kernel_rfl)) ?_
 intro W base args ds gs before hval hW _ hk _
 exact budget35_contract H enc W base args ds gs before hval hW hk
theorem budget35_holds:Rows.TopBudgetUptoSaid:=
 OpenClaim.holds_of_cond 5 Tryz.f5 rfl rfl rfl rfl rfl rfl rfl ⟨rfl,rfl,rfl,rfl,rfl⟩ rfl rfl rfl rfl rfl (by kernel_rfl) Tryz.func5 (by kernel_rfl)
  (of_decide_eq_true (by kernel_rfl)) (by unfold Func.isWrapper;first|(rw[if_pos (by decide +kernel)];kernel_rfl)|(rw[if_neg (by decide +kernel)];exact⟨rfl,rfl⟩))
  (fun os started H enc _ F=>budget35_lifted os started H enc F)
end Go.Proofs.YtphppbonljdibaaGreat
