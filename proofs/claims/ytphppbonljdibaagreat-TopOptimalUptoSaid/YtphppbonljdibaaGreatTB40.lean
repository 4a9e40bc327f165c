import Derived.Test.YtphppbonljdibaaGreatTB39
set_option maxRecDepth 100000
set_option maxHeartbeats 4000000
set_option linter.unusedVariables false
set_option linter.unusedSimpArgs false
namespace Go.Proofs.YtphppbonljdibaaGreat
open Go.ChangeShapes Go.WideShapes Go.ChangeAt Go.RowKit
def IntR (w:World)(e:Ending)(w':World):Prop:=∃ r:Int,e=.returned (.int .i64 r)∧KW w w'
theorem IntR.of {w w':World}{e:Ending}(r:Int)(he:e=.returned (.int .i64 r))(hk:KW w w'):IntR w e w':=⟨r,he,hk⟩
theorem rlook_any (i:Nat)(hi:i<4)(p:Pg)(w:World)(hM:PgM w p):Calls Tryz.prog 197 #[.agg p.v,.int .i64 i] w (IntR w):=by
 have hk0:=(KW.refl w).alloc (.cells p.v 25)
 have HF:=hid (rform_any p.n p.A p.c p.l _ hM.len (hM.ops.kw hk0))
 have HG:=hid (rregs_any p.n p.A p.c p.l _ hM.len (hM.ops.kw hk0))
 have HD:=hid (rdeep_any p.A p.c p.l _ hM.len (hM.ops.kw hk0))
 have HW:=hid (rwrites_any p.A p.c p.l _ hM.len (hM.ops.kw hk0) hM.hv)
 have HK0:=hid hk0
 clear hM hk0
 unfold Pg.v pgv at *
 rcases(show i=0∨i=1∨i=2∨i=3 by omega) with rfl|rfl|rfl|rfl
 ·go_enter Tryz.func197,Tryz.ntmps197
  go_wp2_with fail
  refine HF.out.mono ?_
  rintro e w1 ⟨b,rfl,hk1⟩
  have HK1:=hid (HK0.out.t hk1)
  clear hk1
  cases b with
  | true=>
    go_wp2_with fail
    go_ret
    exact IntR.of _ rfl HK1.out
  | false=>
    go_wp2_with fail
    go_ret
    exact IntR.of _ rfl HK1.out
 ·go_enter Tryz.func197,Tryz.ntmps197
  go_wp2_with fail
  refine HG.out.mono ?_
  rintro e w1 ⟨b,rfl,hk1⟩
  have HK1:=hid (HK0.out.t hk1)
  clear hk1
  cases b with
  | true=>
    go_wp2_with fail
    go_ret
    exact IntR.of _ rfl HK1.out
  | false=>
    go_wp2_with fail
    go_ret
    exact IntR.of _ rfl HK1.out
 ·go_enter Tryz.func197,Tryz.ntmps197
  go_wp2_with fail
  refine HD.out.mono ?_
  rintro e w1 ⟨r1,r2,rfl,hk1⟩
  have HK1:=hid (HK0.out.t hk1)
  clear hk1
  by_cases h8:8<r1
  ·go_wp2_with fail
   go_ret
   exact IntR.of _ rfl HK1.out
  ·go_wp2_with fail
   go_ret
   exact IntR.of _ rfl HK1.out
 ·go_enter Tryz.func197,Tryz.ntmps197
  go_wp2_with fail
  refine HW.out.mono ?_
  rintro e w1 ⟨r1,r2,_,rfl,hk1⟩
  have HK1:=hid (HK0.out.t hk1)
  clear hk1
  go_wp2_with fail
  go_ret
  exact IntR.of _ rfl HK1.out
theorem rpair_any (p q:Pg)(w:World)(hM:PgM w p)(hQ:PgM w q):Calls Tryz.prog 160 #[.agg p.v,.agg q.v] w (IntR w):=by
 have hk0:=((KW.refl w).alloc (.cells p.v 25)).alloc (.cells q.v 25)
 have HL1:=hid (fun i hi W (hW:KW w W)=>rlook_any i hi p W (hM.kw hW))
 have HL2:=hid (fun i hi W (hW:KW w W)=>rlook_any i hi q W (hQ.kw hW))
 obtain⟨p0,p1⟩:=pgv_row w 25 p.n p.A p.l.length p.c
 obtain⟨q0,q1⟩:=pgv_row (w.alloc (.cells (pgv p.n p.A p.l.length p.c) 25)) 25 q.n q.A q.l.length q.c
 have hs:(w.alloc (.cells (pgv p.n p.A p.l.length p.c) 25)).heap.size=w.heap.size+1:=by simp
 rw[hs] at q0 q1
 have HC:Hid (∀ W,KW ((w.alloc (.cells p.v 25)).alloc (.cells q.v 25)) W→(W.cell? ⟨w.heap.size,0,none⟩=some (.int .i64 p.n)∧W.cell? ⟨w.heap.size,1,none⟩=some (.slice p.A p.l.length p.c))∧(W.cell? ⟨w.heap.size+1,0,none⟩=some (.int .i64 q.n)∧W.cell? ⟨w.heap.size+1,1,none⟩=some (.slice q.A q.l.length q.c))∧w.heap.size+1<W.heap.size):=hid fun W hW=>by
  have hk1:=((KW.refl (w.alloc (.cells (pgv p.n p.A p.l.length p.c) 25))).alloc (.cells (pgv q.n q.A q.l.length q.c) 25)).t hW
  have k0:=hk1.keep (own:=fun _=>False)
  have k2:=hW.keep (own:=fun _=>False)
  refine⟨⟨k0.cs id p0,k0.cs id p1⟩,⟨k2.cs id q0,k2.cs id q1⟩,?_⟩
  have:=hW.size
  simp at this
  omega
 have HK0:=hid hk0
 clear hM hQ hk0 p0 p1 q0 q1 hs
 unfold Pg.v pgv at *
 go_enter Tryz.func160,Tryz.ntmps160
 generalize hW1:(w.alloc (.cells #[.int .i64 p.n,.slice p.A p.l.length p.c] 25)).alloc (.cells #[.int .i64 q.n,.slice q.A q.l.length q.c] 25)=W1 at *
 go_wp2_with fail
 go_loopw [5] (fun i wr=>∃ k:Nat,k≤4∧i=.int .i64 k∧Hid (KW W1 wr)) (fun i _=>4 - (intOf i).toNat)
 case atStart=>exact⟨0,by omega,rfl,hid (KW.refl W1)⟩
 case round=>
  obtain⟨k,hk,rfl,HK⟩:=hrel
  by_cases hk4:k<4
  ·have L1:(k:Int)<4:=by omega
   obtain⟨⟨p0,p1⟩,⟨q0,q1⟩,hsz⟩:=HC.out wr HK.out
   have hsz0:w.heap.size<wr.heap.size:=by omega
   have HA1:=hid (HL1.out k hk4 wr (HK0.out.t HK.out))
   go_wp2_with fail
   refine HA1.out.mono ?_
   rintro e w2 ⟨r,rfl,hk2⟩
   have HK2:=hid (HK.out.t hk2)
   clear hk2 HA1 p0 p1 q0 q1 hsz hsz0
   by_cases hr:r=0
   ·subst hr
    obtain⟨⟨p0,p1⟩,⟨q0,q1⟩,hsz⟩:=HC.out w2 HK2.out
    have HA2:=hid (HL2.out k hk4 w2 (HK0.out.t HK2.out))
    go_wp2_with fail
    refine HA2.out.mono ?_
    rintro e w3 ⟨r2,rfl,hk3⟩
    have HK3:=hid (HK2.out.t hk3)
    clear hk3 HA2 p0 p1 q0 q1 hsz
    by_cases hr2:r2=0
    ·subst hr2
     go_wp2_with fail
     go_roundw
     case rel=>exact⟨k+1,by omega,by go_num,HK3⟩
     case measure=>simp[intOf];omega
    ·have er:(r2==0)=false:=beq_eq_false_iff_ne.2 hr2
     clear hr2
     go_wp2_with fail
     go_ret
     exact IntR.of _ rfl (HK0.out.t HK3.out)
   ·have er:(r==0)=false:=beq_eq_false_iff_ne.2 hr
    clear hr
    go_wp2_with fail
    go_ret
    exact IntR.of _ rfl (HK0.out.t HK2.out)
  ·obtain rfl:k=4:=by omega
   go_wp2_with fail
   go_ret
   exact IntR.of _ rfl (HK0.out.t HK.out)
theorem rdims_any (n1 n2:Int)(A1 A2:Option Addr)(l1 c1 l2 c2 x t:Nat)(w:World):Calls Tryz.prog 161 #[.agg (pgv n1 A1 l1 c1),.agg (pgv n2 A2 l2 c2),.int .i64 x,.int .i64 t] w (IntR w):=by
 have HK0:=hid (((KW.refl w).alloc (.cells #[.int .i64 n1,.slice A1 l1 c1] 25)).alloc (.cells #[.int .i64 n2,.slice A2 l2 c2] 25))
 unfold pgv
 have t0:¬ ((t:Int)<0):=by omega
 by_cases h1:(x:Int)<1
 ·go_enter Tryz.func161,Tryz.ntmps161
  go_wp2_with fail
  go_ret
  exact IntR.of _ rfl HK0.out
 by_cases h2:(64:Int)<x
 ·go_enter Tryz.func161,Tryz.ntmps161
  go_wp2_with fail
  go_ret
  exact IntR.of _ rfl HK0.out
 by_cases h3:(64:Int)<t
 ·go_enter Tryz.func161,Tryz.ntmps161
  go_wp2_with fail
  go_ret
  exact IntR.of _ rfl HK0.out
 obtain⟨s,hs⟩:∃ s:Nat,x+t=s:=⟨_,rfl⟩
 have hw1:IntKind.i64.wrap ((x:Int)+(t:Int))=(s:Int):=by rw[show(x:Int)+(t:Int)=(s:Int) by omega];exact IntWalk.i64_in _ (by omega)
 have hw2:IntKind.i64.wrap ((s:Int)+1)=(s:Int)+1:=IntWalk.i64_in _ (by omega)
 clear hs
 by_cases h4:n1<(s:Int)+1
 ·go_enter Tryz.func161,Tryz.ntmps161
  go_wp2_with fail
  go_ret
  exact IntR.of _ rfl HK0.out
 by_cases h5:n2<(s:Int)
 ·go_enter Tryz.func161,Tryz.ntmps161
  go_wp2_with fail
  go_ret
  exact IntR.of _ rfl HK0.out
 go_enter Tryz.func161,Tryz.ntmps161
 go_wp2_with fail
 go_ret
 exact IntR.of _ rfl HK0.out
def BoxC (h:Hd)(g:Nat)(W:World):Prop:=(W.cell? ⟨g,0,none⟩=some (.int .i64 h.mode)∧W.cell? ⟨g,1,none⟩=some (.slice h.xA h.xs.length h.xc)∧W.cell? ⟨g,2,none⟩=some (.slice h.tA h.ts.length h.tc)∧W.cell? ⟨g,3,none⟩=some (.int .i64 h.st.n)∧W.cell? ⟨g,4,none⟩=some (.slice h.st.A h.st.l.length h.st.c)∧W.cell? ⟨g,5,none⟩=some (.int .i64 h.lo.n)∧W.cell? ⟨g,6,none⟩=some (.slice h.lo.A h.lo.l.length h.lo.c)∧W.cell? ⟨g,7,none⟩=some (.int .i64 h.len)∧W.cell? ⟨g,8,none⟩=some (.int .i64 h.words))∧g<W.heap.size
theorem boxC_of {h:Hd}{g:Nat}{W:World}(r:W.rowIs g 27 9 (hdF h (.slice h.xA h.xs.length h.xc) (.slice h.tA h.ts.length h.tc) (.slice h.st.A h.st.l.length h.st.c) (.slice h.lo.A h.lo.l.length h.lo.c))):BoxC h g W:=
 ⟨⟨r.cell (i:=0) (by omega),r.cell (i:=1) (by omega),r.cell (i:=2) (by omega),r.cell (i:=3) (by omega),r.cell (i:=4) (by omega),r.cell (i:=5) (by omega),r.cell (i:=6) (by omega),r.cell (i:=7) (by omega),r.cell (i:=8) (by omega)⟩,r.lt⟩
theorem boxC_new (h:Hd)(w:World):∀ W,KW (w.alloc (.cells h.v 27)) W→BoxC h w.heap.size W:=fun W hW=>boxC_of (KW.row hW (hdF_new w h _ _ _ _).lt (hdF_new w h (.slice h.xA h.xs.length h.xc) (.slice h.tA h.ts.length h.tc) (.slice h.st.A h.st.l.length h.st.c) (.slice h.lo.A h.lo.l.length h.lo.c)))
theorem rcheck33_any (h:Hd)(w:World)(hM:HdM w h):Calls Tryz.prog 117 #[.agg h.v] w (IntR w):=by
 have hk0:=(KW.refl w).alloc (.cells h.v 27)
 have HB:=hid (boxC_new h w)
 have HPr:=hid (rpair_any h.st h.lo _ (hM.kw hk0).st (hM.kw hk0).lo)
 have HDm:=hid (fun W=>rdims_any h.st.n h.lo.n h.st.A h.lo.A h.st.l.length h.st.c h.lo.l.length h.lo.c h.xs.length h.ts.length W)
 have HK0:=hid hk0
 clear hM hk0
 unfold Hd.v hdv Pg.v pgv BoxC at *
 generalize h.xs.length=xn at *
 generalize h.ts.length=tn at *
 generalize h.mode=md at *
 generalize h.len=ln at *
 generalize h.words=wd at *
 by_cases m1:md<1
 ·go_enter Tryz.func117,Tryz.ntmps117
  go_wp2_with fail
  go_ret
  exact IntR.of _ rfl HK0.out
 by_cases m3:3<md
 ·go_enter Tryz.func117,Tryz.ntmps117
  go_wp2_with fail
  go_ret
  exact IntR.of _ rfl HK0.out
 go_enter Tryz.func117,Tryz.ntmps117
 go_wp2_with fail
 refine HPr.out.mono ?_
 rintro e w1 ⟨r,rfl,hk1⟩
 obtain⟨⟨b0,b1,b2,b3,b4,b5,b6,b7,b8⟩,hbl⟩:=HB.out w1 hk1
 have HK1:=hid (HK0.out.t hk1)
 have HKb:=hid hk1
 clear hk1 HPr
 by_cases hr:r=0
 ·subst hr
  go_wp2_with fail
  refine(HDm.out w1).mono ?_
  clear b0 b1 b2 b3 b4 b5 b6 b7 b8 hbl
  rintro e w2 ⟨r,rfl,hk2⟩
  obtain⟨⟨b0,b1,b2,b3,b4,b5,b6,b7,b8⟩,hbl⟩:=HB.out w2 (HKb.out.t hk2)
  have HK2:=hid (HK1.out.t hk2)
  clear hk2 HDm
  by_cases hr:r=0
  ·subst hr
   by_cases l0:ln<0
   ·go_wp2_with fail
    go_ret
    exact IntR.of _ rfl HK2.out
   by_cases l1:65535<ln
   ·go_wp2_with fail
    go_ret
    exact IntR.of _ rfl HK2.out
   by_cases m2:md=2
   ·by_cases lz:ln=0
    ·subst m2 lz
     by_cases w0:wd<0
     ·go_wp2_with fail
      go_ret
      exact IntR.of _ rfl HK2.out
     by_cases w1':1048576<wd
     ·go_wp2_with fail
      go_ret
      exact IntR.of _ rfl HK2.out
     go_wp2_with fail
     go_ret
     exact IntR.of _ rfl HK2.out
    ·subst m2
     have ez:(ln==0)=false:=beq_eq_false_iff_ne.2 lz
     have ey:(ln != 0)=true:=by rw[bne,ez];rfl
     have ex:decide (ln=0)=false:=decide_eq_false lz
     go_wp2_with fail
     go_ret
     exact IntR.of _ rfl HK2.out
   ·have e2:(md==2)=false:=beq_eq_false_iff_ne.2 m2
    clear m2
    by_cases w0:wd<0
    ·go_wp2_with fail
     go_ret
     exact IntR.of _ rfl HK2.out
    by_cases w1':1048576<wd
    ·go_wp2_with fail
     go_ret
     exact IntR.of _ rfl HK2.out
    go_wp2_with fail
    go_ret
    exact IntR.of _ rfl HK2.out
  ·have er:(r==0)=false:=beq_eq_false_iff_ne.2 hr
   clear hr
   go_wp2_with fail
   go_ret
   exact IntR.of _ rfl HK2.out
 ·have er:(r==0)=false:=beq_eq_false_iff_ne.2 hr
  clear hr
  go_wp2_with fail
  go_ret
  exact IntR.of _ rfl HK1.out
def Two6R (w:World)(e:Ending)(w':World):Prop:=∃ a b:Nat,a≤65536∧b≤65536∧e=.returned (.tuple #[.int .i64 a,.int .i64 b])∧KW w w'
theorem Two6R.of {w w':World}{e:Ending}(a b:Nat)(ha:a≤65536)(hb:b≤65536)(he:e=.returned (.tuple #[.int .i64 a,.int .i64 b]))(hk:KW w w'):Two6R w e w':=⟨a,b,ha,hb,he,hk⟩
theorem rof34_any (h:Hd)(w:World)(hM:HdM w h):Calls Tryz.prog 78 #[.agg h.v] w (Two6R w):=by
 have hk0:=(KW.refl w).alloc (.cells h.v 27)
 have HB:=hid (boxC_new h w)
 have HCh:=hid (rcheck33_any h _ (hM.kw hk0))
 have HW1:=hid (fun W (hW:KW w W)=>rwrites_any h.st.A h.st.c h.st.l W hM.st.len (hM.kw hW).st.ops hM.st.hv)
 have HW2:=hid (fun W (hW:KW w W)=>rwrites_any h.lo.A h.lo.c h.lo.l W hM.lo.len (hM.kw hW).lo.ops hM.lo.hv)
 have HK0:=hid hk0
 clear hM hk0
 unfold Hd.v hdv BoxC at *
 go_enter Tryz.func78,Tryz.ntmps78
 go_wp2_with fail
 refine HCh.out.mono ?_
 rintro e w1 ⟨r,rfl,hk1⟩
 obtain⟨⟨b0,b1,b2,b3,b4,b5,b6,b7,b8⟩,hbl⟩:=HB.out w1 hk1
 have HK1:=hid (HK0.out.t hk1)
 have HKb:=hid hk1
 clear hk1 HCh
 by_cases hr:r=0
 ·subst hr
  have HA1:=hid (HW1.out w1 HK1.out)
  go_wp2_with fail
  refine HA1.out.mono ?_
  clear b0 b1 b2 b3 b4 b5 b6 b7 b8 hbl
  rintro e w2 ⟨a,x,ha,rfl,hk2⟩
  obtain⟨⟨b0,b1,b2,b3,b4,b5,b6,b7,b8⟩,hbl⟩:=HB.out w2 (HKb.out.t hk2)
  have HK2:=hid (HK1.out.t hk2)
  have HA2:=hid (HW2.out w2 HK2.out)
  clear hk2 HA1
  go_wp2_with fail
  refine HA2.out.mono ?_
  clear b0 b1 b2 b3 b4 b5 b6 b7 b8 hbl
  rintro e w3 ⟨b,y,hb,rfl,hk3⟩
  have HK3:=hid (HK2.out.t hk3)
  clear hk3 HA2
  go_wp2_with fail
  go_ret2
  exact Two6R.of a b ha hb rfl HK3.out
 ·have er:(r==0)=false:=beq_eq_false_iff_ne.2 hr
  clear hr
  go_wp2_with fail
  go_ret2
  exact Two6R.of 0 0 (by omega) (by omega) rfl HK1.out
theorem small33_any (h:Hd)(w:World):Calls Tryz.prog 77 #[.agg h.v,.int .i64 60] w (BoolR w):=by
 have HK0:=hid ((KW.refl w).alloc (.cells h.v 27))
 unfold Hd.v hdv at *
 generalize h.xs.length=xn at *
 generalize h.ts.length=tn at *
 generalize h.st.l.length=sn at *
 generalize h.lo.l.length=ln at *
 by_cases c1:(sn:Int)≤60
 ·by_cases c2:(ln:Int)≤60
  ·by_cases c3:(xn:Int)≤200
   ·by_cases c4:(tn:Int)≤200
    ·go_enter Tryz.func77,Tryz.ntmps77
     go_wp2_with fail
     go_ret
     exact BoolR.of _ rfl HK0.out
    ·go_enter Tryz.func77,Tryz.ntmps77
     go_wp2_with fail
     go_ret
     exact BoolR.of _ rfl HK0.out
   ·go_enter Tryz.func77,Tryz.ntmps77
    go_wp2_with fail
    go_ret
    exact BoolR.of _ rfl HK0.out
  ·go_enter Tryz.func77,Tryz.ntmps77
   go_wp2_with fail
   go_ret
   exact BoolR.of _ rfl HK0.out
 ·go_enter Tryz.func77,Tryz.ntmps77
  go_wp2_with fail
  go_ret
  exact BoolR.of _ rfl HK0.out
def SmallR (ln wd:Int)(w:World)(e:Ending)(w':World):Prop:=∃ b:Bool,e=.returned (.bool b)∧(b=true→(ln≤40∨65535<ln)∧(wd≤3000∨1048576<wd))∧KW w w'
theorem SmallR.no {ln wd:Int}{w w':World}{e:Ending}(he:e=.returned (.bool false))(hk:KW w w'):SmallR ln wd w e w':=⟨false,he,(fun h=>by cases h),hk⟩
theorem SmallR.yes {ln wd:Int}{w w':World}{e:Ending}(he:e=.returned (.bool true))(h1:ln≤40∨65535<ln)(h2:wd≤3000∨1048576<wd)(hk:KW w w'):SmallR ln wd w e w':=⟨true,he,fun _=>⟨h1,h2⟩,hk⟩
theorem small35_any (h:Hd)(w:World)(hM:HdM w h):Calls Tryz.prog 35 #[.agg h.v] w (SmallR h.len h.words w):=by
 have hk0:=(KW.refl w).alloc (.cells h.v 27)
 have HB:=hid (boxC_new h w)
 have HSm:=hid (small33_any h (w.alloc (.cells h.v 27)))
 have HOf:=hid (fun W (hW:KW w W)=>rof34_any h W (hM.kw hW))
 have HK0:=hid hk0
 clear hM hk0
 unfold Hd.v hdv BoxC at *
 generalize h.len=ln at *
 generalize h.words=wd at *
 go_enter Tryz.func35,Tryz.ntmps35
 go_wp2_with fail
 refine HSm.out.mono ?_
 rintro e w1 ⟨b,rfl,hk1⟩
 obtain⟨⟨b0,b1,b2,b3,b4,b5,b6,b7,b8⟩,hbl⟩:=HB.out w1 hk1
 have HK1:=hid (HK0.out.t hk1)
 have HKb:=hid hk1
 clear hk1 HSm
 cases b with
 | false=>
   go_wp2_with fail
   go_ret
   exact SmallR.no rfl HK1.out
 | true=>
   have HO1:=hid (HOf.out w1 HK1.out)
   go_wp2_with fail
   refine HO1.out.mono ?_
   clear b0 b1 b2 b3 b4 b5 b6 b7 b8 hbl
   rintro e w2 ⟨a,b,ha,hb,rfl,hk2⟩
   obtain⟨⟨b0,b1,b2,b3,b4,b5,b6,b7,b8⟩,hbl⟩:=HB.out w2 (HKb.out.t hk2)
   have HK2:=hid (HK1.out.t hk2)
   clear hk2 HO1
   obtain⟨s,hs⟩:∃ s:Nat,a+b=s:=⟨_,rfl⟩
   have hws:IntKind.i64.wrap ((a:Int)+(b:Int))=(s:Int):=by rw[show(a:Int)+(b:Int)=(s:Int) by omega];exact IntWalk.i64_in _ (by omega)
   clear hs ha hb
   by_cases c1:(s:Int)≤300
   ·by_cases c2:ln≤40
    ·by_cases c3:wd≤3000
     ·go_wp2_with fail
      go_ret
      exact SmallR.yes rfl (.inl c2) (.inl c3) HK2.out
     ·by_cases c4:1048576<wd
      ·go_wp2_with fail
       go_ret
       exact SmallR.yes rfl (.inl c2) (.inr c4) HK2.out
      ·have c3':3000<wd:=by omega
       have c4':wd≤1048576:=by omega
       have d3:decide (wd≤3000)=false:=decide_eq_false c3
       have d4:decide (1048576<wd)=false:=decide_eq_false c4
       go_wp2_with fail
       go_ret
       exact SmallR.no (by first|rfl|simp only[d3,d4,Bool.or_false,Bool.false_or,Bool.and_false,Bool.false_and]) HK2.out
    ·by_cases c5:65535<ln
     ·by_cases c3:wd≤3000
      ·go_wp2_with fail
       go_ret
       exact SmallR.yes rfl (.inr c5) (.inl c3) HK2.out
      ·by_cases c4:1048576<wd
       ·go_wp2_with fail
        go_ret
        exact SmallR.yes rfl (.inr c5) (.inr c4) HK2.out
       ·have c3':3000<wd:=by omega
        have c4':wd≤1048576:=by omega
        have d3:decide (wd≤3000)=false:=decide_eq_false c3
        have d4:decide (1048576<wd)=false:=decide_eq_false c4
        go_wp2_with fail
        go_ret
        exact SmallR.no (by first|rfl|simp only[d3,d4,Bool.or_false,Bool.false_or,Bool.and_false,Bool.false_and]) HK2.out
     ·go_wp2_with fail
      go_ret
      exact SmallR.no rfl HK2.out
   ·go_wp2_with fail
    go_ret
    exact SmallR.no rfl HK2.out
structure Right (h:Hd):Prop where
 ok:PlOk h
 len:h.len≤40
 words:h.words≤3000
def RightR (h:Hd)(w:World)(e:Ending)(w':World):Prop:=∃ b:Bool,e=.returned (.bool b)∧(b=true→Right h)∧KW w w'
theorem RightR.of {h:Hd}{w w':World}{e:Ending}(b:Bool)(he:e=.returned (.bool b))(hb:b=true→Right h)(hk:KW w w'):RightR h w e w':=⟨b,he,hb,hk⟩
theorem make_any (h:Hd)(w:World)(hM:HdM w h):Calls Tryz.prog 10 #[.agg h.v] w (MkP h w):=by
 by_cases hg:HGd h
 ·exact make_good h w hM hg
 ·exact make_bad h w hM hg
theorem right_top (h:Hd)(w:World)(hM:HdM w h):Calls Tryz.prog 7 #[.agg h.v] w (RightR h w):=by
 have hk0:=(KW.refl w).alloc (.cells h.v 27)
 have HB:=hid (boxC_new h w)
 have HMk:=hid (make_any h _ (hM.kw hk0))
 have HSm:=hid (fun W (hW:KW w W)=>small35_any h W (hM.kw hW))
 have HK0:=hid hk0
 clear hM hk0
 unfold MkP at HMk
 unfold Hd.v hdv BoxC at *
 go_enter Tryz.func7,Tryz.ntmps7
 go_wp2_with fail
 refine HMk.out.mono ?_
 rintro e w1 ⟨a,b,c,d,r,rfl,hr,_,hk1⟩
 have hk1':=hk1.alloc (.cells #[.int .i64 a,.int .i64 b,.int .i64 c,.int .i64 d] 35)
 obtain⟨⟨b0,b1,b2,b3,b4,b5,b6,b7,b8⟩,hbl⟩:=HB.out w1 hk1
 have HK1:=hid (HK0.out.t hk1')
 have HR:=hid hr
 have HSm1:=hid (HSm.out _ HK1.out)
 clear hk1 hk1' HMk hr HSm
 go_wp2_with fail
 refine HSm1.out.mono ?_
 rintro e w2 ⟨x,rfl,hx,hk2⟩
 have HK2:=hid (HK1.out.t hk2)
 have HX:=hid hx
 clear hk2 hx HSm1 b0 b1 b2 b3 b4 b5 b6 b7 b8 hbl
 cases x with
 | false=>
   go_wp2_with fail
   go_ret
   exact RightR.of false rfl (fun h=>by cases h) HK2.out
 | true=>
   by_cases h0:r=0
   ·subst h0
    go_wp2_with fail
    go_ret
    refine RightR.of true rfl (fun _=>?_) HK2.out
    have hp:=HR.out.1 (by first|rfl|trivial)
    obtain⟨h1,h2⟩:=HX.out (by first|rfl|trivial)
    have hb:=hp.1.bounds
    exact⟨hp,by omega,by omega⟩
   ·have er:(r==0)=false:=beq_eq_false_iff_ne.2 h0
    clear h0
    go_wp2_with fail
    go_ret
    exact RightR.of false rfl (fun h=>by cases h) HK2.out
end Go.Proofs.YtphppbonljdibaaGreat
