import Derived.Test.YtphppbonljdibaaGreatTF43
set_option maxRecDepth 100000
set_option maxHeartbeats 4000000
set_option linter.unusedVariables false
set_option linter.unusedSimpArgs false
namespace Go.Proofs.YtphppbonljdibaaGreat
open Go.ChangeShapes Go.WideShapes Go.ChangeAt Go.RowKit
theorem offline_any (h:Hd)(w:World)(hM:HdM w h):
 Calls Tryz.prog 6 #[.agg h.v] w fun e w'=>e=.returned (.bool true)∧KW w w':=by
 have hk0:=(KW.refl w).alloc (.cells h.v 27)
 have HB:=hid (boxC_new h w)
 have HRt:=hid (right_top h _ (hM.kw hk0))
 have HWk:=hid (fun W=>wakes_any W)
 have HRn:=hid (fun W (hW:KW w W) (hr:Right h) (hm:h.mode=1)=>ran_off h W (hM.kw hW) hr hm)
 have HMk:=hid (fun W (hW:KW w W)=>make_any h W (hM.kw hW))
 have HK0:=hid hk0
 have hkr:∀ hr:Right h,h.mode=1→(h.n:Int)=slotsW h∧(h.l:Int)=h.len∧1≤h.n∧h.n≤1048576∧h.l≤40:=fun hr hm=>right_nl hr (by omega) (by omega)
 have HKr:=hid hkr
 clear hM hk0 hkr
 unfold MkP at HMk
 unfold RanO at HRn
 unfold RightR at HRt
 unfold Hd.v hdv BoxC at *
 go_enter Tryz.func6,Tryz.ntmps6
 go_wp2_with fail
 refine HRt.out.mono ?_
 rintro e w1 ⟨b,rfl,hb,hk1⟩
 obtain⟨⟨b0,b1,b2,b3,b4,b5,b6,b7,b8⟩,hbl⟩:=HB.out w1 hk1
 have HK1:=hid (HK0.out.t hk1)
 have HKb:=hid hk1
 have HRg:=hid hb
 clear hk1 hb HRt
 cases b with
 | false=>
   go_wp2_with fail
   refine(HWk.out w1).mono ?_
   rintro e w2 ⟨rfl,hk2⟩
   have HK2:=hid (HK1.out.t hk2)
   clear hk2
   go_wp2_with fail
   go_ret
   exact⟨rfl,HK2.out⟩
 | true=>
   have HRr:=hid (HRg.out (by first|rfl|trivial))
   by_cases hm:h.mode=1
   ·have em:(h.mode != 1)=false:=by simp[hm]
    obtain⟨hn,hln,hn1,hn2,hl4⟩:=HKr.out HRr.out hm
    have HRn1:=hid (HRn.out w1 HK1.out HRr.out hm)
    clear hm
    have hlen:=Rv.rl_len (l:=h.l) (n:=h.n) (by omega) hn1
    rw[← hn] at HMk
    have HPl:=hid HRr.out.ok
    have HTo:Hid (∀ W,Calls Tryz.prog 32 #[.int .i64 h.len,.int .i64 h.n] W fun e w'=>e=.returned (.tuple #[.int .i64 (Ch.tt h.l h.n),.int .i64 0])∧KW W w'):=hid fun W=>by rw[← hln];exact total_yes h.l h.n W (by omega) hn1 hn2
    have HRp:Hid (∀ W,Calls Tryz.prog 33 #[.int .i64 h.len,.int .i64 h.n] W fun e w'=>e=.returned (.tuple #[.int .i64 (Ch.rp h.l h.n),.int .i64 0])∧KW W w'):=hid fun W=>by rw[← hln];exact reps_yes h.l h.n W (by omega) hn1 hn2
    have HCk:Hid (∀ W A c,Acts W A (Rv.rl h.l h.n)→Calls Tryz.prog 11 #[.int .i64 h.len,.int .i64 h.n,.slice A (Rv.rl h.l h.n).length c] W fun e w'=>e=.returned (.tuple #[.int .i64 (Ch.tt h.l h.n),.int .i64 (Rv.rl h.l h.n).length,.int .i64 0])∧KW W w'):=hid fun W A c hA=>by
     have hc:=check_any h.len h.n A c (Rv.rl h.l h.n) W (by omega) hA
     rw[← hln,Rv.rl_check (by omega) ⟨hn1,hn2⟩] at hc
     rw[← hln]
     exact hc
    have HPr:=hid (fun W A c (hA:Acts W A (Rv.rl h.l h.n))=>pro_off h A c W hln hl4 hn1 hn2 hA)
    have HFc:=hid (And.intro hln (And.intro hl4 (And.intro hn1 hn2)))
    have HDs:Hid (∀ D,DyI D (Dy.new D)→∀ S',S'=(Dy.new D).acts D (Rv.rl h.l h.n)→Mc.Does (Dy.new D).mc (Rv.rl h.l h.n) S'.mc→(S'.taped:Int)=h.l∧(S'.losses:Int)=1∧(S'.sweeps:Int)=(h.l:Int)+1):=hid fun D hI S' hS hd=>cnt_off h D S' hS hI hd hl4 hn1
    clear HKr HRn HRg HRr hn hln hn1 hn2 hl4 hlen
    unfold ProO at HPr
    go_wp2_with fail
    refine HRn1.out.mono ?_
    rintro e w2 ⟨be,D,S',v,rfl,ho2,hE2,hmc,hac,hnw,hk2⟩
    obtain⟨A2,c2,rfl,_,hA2⟩:=ho2.slice
    have HA2:=hid hA2
    clear b0 b1 b2 b3 b4 b5 b6 b7 b8 hbl
    obtain⟨⟨b0,b1,b2,b3,b4,b5,b6,b7,b8⟩,hbl⟩:=HB.out w2 (HKb.out.t hk2)
    have HK2:=hid (HK1.out.t hk2)
    have HKb2:=hid (HKb.out.t hk2)
    have HE2:=hid hE2
    have HTt:Hid ((S'.plain:Int)=Ch.tt h.l h.n):=hid (congrArg Mc.St.tot hmc)
    have HSm:=hid hmc
    have HSa:=hid hac
    have HNw:=hid hnw
    have HMk2:=hid (HMk.out w2 HK2.out)
    clear hE2 hmc hac hnw hk2 HRn1 HMk ho2 hA2
    go_wp2_with fail
    refine HMk2.out.mono ?_
    rintro e w3 ⟨x1,x2,x3,x4,r,rfl,hr0,hrx,hk3⟩
    obtain rfl:r=0:=hr0.2 HPl.out
    obtain⟨rfl,rfl,rfl,rfl⟩:=hrx HPl.out
    have hk3':=hk3.alloc (.cells #[.int .i64 (fixW h),.int .i64 (tapW h),.int .i64 (sltW h),.int .i64 h.n] 35)
    have hrP:(w3.alloc (.cells #[.int .i64 (fixW h),.int .i64 (tapW h),.int .i64 (sltW h),.int .i64 h.n] 35)).rowIs w3.heap.size 35 4 (fun i=>[.int .i64 (fixW h),.int .i64 (tapW h),.int .i64 (sltW h),.int .i64 h.n].getD i undef):=
     World.rowIs_alloc w3 #[.int .i64 (fixW h),.int .i64 (tapW h),.int .i64 (sltW h),.int .i64 h.n] 35 _ fun i hi=>by
      simp at hi
      rcases(show i=0∨i=1∨i=2∨i=3 by omega) with rfl|rfl|rfl|rfl<;>rfl
    have HRP:=hid hrP
    have HK3:=hid (HK2.out.t hk3')
    have HKb3:=hid (HKb2.out.t hk3')
    have HE3:=hid (HE2.out.kw hk3')
    have HA3:=hid (HA2.out.kw hk3')
    clear b0 b1 b2 b3 b4 b5 b6 b7 b8 hbl hk3 hk3' hrP hrx hr0 HE2 HMk2 HK2 HKb2 HA2
    go_upto_region 7 with(fail)
    generalize w3.alloc (.cells #[.int .i64 (fixW h),.int .i64 (tapW h),.int .i64 (sltW h),.int .i64 h.n] 35)=w4 at *
    generalize w3.heap.size=gp at *
    have HX:Hid (∀ W,KW w4 W→W.cell? ⟨w.heap.size,7,none⟩=some (.int .i64 h.len)∧W.cell? ⟨gp,3,none⟩=some (.int .i64 h.n)∧w.heap.size<W.heap.size∧gp<W.heap.size):=hid fun W hW=>by
     obtain⟨⟨_,_,_,_,_,_,_,c7,_⟩,cl⟩:=HB.out W (HKb3.out.t hW)
     have r:=KW.row hW HRP.out.lt HRP.out
     exact⟨c7,r.cell (i:=3) (by omega),cl,r.lt⟩
    have HCk3:=hid (HCk.out w4 A2 c2 HA3.out)
    obtain⟨x7,x3,xg,xp⟩:=HX.out w4 (KW.refl w4)
    have HNl:Hid (∀ r:Nat,(Rv.rl h.l h.n).length=r→True):=hid fun _ _=>trivial
    clear HB HKb3 HRP HCk
    go_wp2_with fail
    refine HCk3.out.mono ?_
    rintro e w5 ⟨rfl,hk5⟩
    have HQ5:=hid hk5
    clear x7 x3 xg xp hk5 HCk3
    obtain⟨x7,x3,xg,xp⟩:=HX.out w5 HQ5.out
    have HTo5:=hid (HTo.out w5)
    go_wp2_with fail
    refine HTo5.out.mono ?_
    rintro e w6 ⟨rfl,hk6⟩
    have HQ6:=hid (HQ5.out.t hk6)
    clear x7 x3 xg xp hk6 HTo5 HTo
    obtain⟨x7,x3,xg,xp⟩:=HX.out w6 HQ6.out
    have HRp6:=hid (HRp.out w6)
    go_wp2_with fail
    refine HRp6.out.mono ?_
    rintro e w7 ⟨rfl,hk7⟩
    have HQ7:=hid (HQ6.out.t hk7)
    have HA7:=hid (HA3.out.kw HQ7.out)
    have HPr7:=hid (HPr.out w7 A2 c2 HA7.out)
    have HNL:=hid (rfl:(Rv.rl h.l h.n).length=(Rv.rl h.l h.n).length)
    clear x7 x3 xg xp hk7 HRp6 HRp HPr HA3
    obtain⟨x7,x3,xg,xp⟩:=HX.out w7 HQ7.out
    go_wp2_with fail
    refine HPr7.out.mono ?_
    rintro e w8 ⟨t,pk,mo,k0,k1,k2,k3,k4,k5,k8,k9,A9,n9,c9,rfl,hmo,hk8⟩
    have HQ8:=hid (HQ7.out.t hk8)
    have dmo:decide (mo≤((Ch.rp h.l h.n:Nat):Int))=true:=decide_eq_true hmo
    obtain⟨hln,hl4,hn1,hn2⟩:=HFc.out
    have HCt:=hid (HDs.out D (dyI_new HE3.out.dr.ds) S' HSa.out (by rw[HSm.out,HNw.out];exact(Rv.rl_goes (l:=h.l) (n:=h.n) (by omega) ⟨hn1,hn2⟩).does))
    clear x7 x3 xg xp hk8 hmo hn1 hn2 HPr7 HSa HSm
    obtain⟨x7,x3,xg,xp⟩:=HX.out w8 HQ8.out
    by_cases h0:h.l=0
    ·have hl0:h.len=0:=by rw[← hln,h0];rfl
     rw[if_pos h0,show h.l - 1=0 by omega]
     obtain⟨f1,f2,f3⟩:=HCt.out
     rw[h0] at f1 f3
     clear HFc HCt hln hl4 h0 HDs
     generalize h.len=ln at *
     subst hl0
     go_upto_region 16 with(fail)
     have hk9:=(KW.refl w8).alloc (.cells #[.int .i64 t,.int .i64 pk,.int .i64 mo,.int .i64 k0,.int .i64 k1,.int .i64 k2,.int .i64 k3,.int .i64 k4,.int .i64 k5,.int .i64 0,.int .i64 0,.int .i64 k8,.int .i64 k9,.slice A9 n9 c9] 77)
     have HS:Hid (∀ W,KW (w8.alloc (.cells #[.int .i64 t,.int .i64 pk,.int .i64 mo,.int .i64 k0,.int .i64 k1,.int .i64 k2,.int .i64 k3,.int .i64 k4,.int .i64 k5,.int .i64 0,.int .i64 0,.int .i64 k8,.int .i64 k9,.slice A9 n9 c9] 77)) W→W.cell? ⟨w8.heap.size,2,none⟩=some (.int .i64 mo)∧W.cell? ⟨w8.heap.size,9,none⟩=some (.int .i64 0)∧W.cell? ⟨w8.heap.size,10,none⟩=some (.int .i64 0)∧W.cell? ⟨w.heap.size,7,none⟩=some (.int .i64 0)∧w8.heap.size<W.heap.size∧w.heap.size<W.heap.size):=hid fun W hW=>by
      obtain⟨q7,_,qg,_⟩:=HX.out W (HQ8.out.t (hk9.t hW))
      have hlt:w8.heap.size<(w8.alloc (.cells #[.int .i64 t,.int .i64 pk,.int .i64 mo,.int .i64 k0,.int .i64 k1,.int .i64 k2,.int .i64 k3,.int .i64 k4,.int .i64 k5,.int .i64 0,.int .i64 0,.int .i64 k8,.int .i64 k9,.slice A9 n9 c9] 77)).heap.size:=by simp
      refine⟨(Below.cell hW hlt).trans ?_,(Below.cell hW hlt).trans ?_,(Below.cell hW hlt).trans ?_,q7,Nat.lt_of_lt_of_le hlt hW.size,qg⟩<;>(rw[World.cell?_alloc_at _ _ _ _ rfl];rfl)
     have HE9:=hid ((HE3.out.kw HQ8.out).kw hk9)
     have HK9:=hid (HK3.out.t (HQ8.out.t hk9))
     generalize w8.alloc (.cells #[.int .i64 t,.int .i64 pk,.int .i64 mo,.int .i64 k0,.int .i64 k1,.int .i64 k2,.int .i64 k3,.int .i64 k4,.int .i64 k5,.int .i64 0,.int .i64 0,.int .i64 k8,.int .i64 k9,.slice A9 n9 c9] 77)=w9 at *
     generalize w8.heap.size=gq at *
     clear hk9 x7 x3 xg xp HX HE3 HK3 HQ8
     have hXS:=HS.out w9.drew (KW.refl w9).drew
     refine wpX_region (S:=fun W=>W.cell? ⟨gq,2,none⟩=some (.int .i64 mo)∧W.cell? ⟨gq,9,none⟩=some (.int .i64 0)∧W.cell? ⟨gq,10,none⟩=some (.int .i64 0)∧W.cell? ⟨w.heap.size,7,none⟩=some (.int .i64 0)∧gq<W.heap.size∧w.heap.size<W.heap.size) (L:=99) (by kernel_rfl) ?_
     refine tk 0 ?_ (fun _ _=>?_) hXS ?_
     rotate_left
     ·go_simp;try rfl
     simp only[lsz,lss]
     refine tk 1 ?_ (fun _ _=>?_) hXS ?_
     rotate_left
     ·go_simp;try rfl
     simp only[lsz,lss]
     refine tk 2 ?_ (fun _ _=>?_) hXS ?_
     rotate_left
     ·go_simp;try rfl
     simp only[lsz,lss]
     refine tk 3 ?_ (fun _ _=>?_) hXS ?_
     rotate_left
     ·go_simp;try rfl
     simp only[lsz,lss]
     refine tk 4 ?_ (fun _ _=>?_) hXS ?_
     rotate_left
     ·go_simp;try rfl
     simp only[lsz,lss]
     refine tk 5 ?_ (fun _ _=>?_) hXS ?_
     rotate_left
     ·go_simp;try rfl
     simp only[lsz,lss]
     refine tk 6 ?_ (fun _ _=>?_) hXS ?_
     rotate_left
     ·go_simp;try rfl
     simp only[lsz,lss]
     refine tk 7 ?_ (fun _ _=>?_) hXS ?_
     rotate_left
     ·go_simp;try rfl
     simp only[lsz,lss]
     refine tk 8 ?_ (fun _ _=>?_) hXS ?_
     rotate_left
     ·go_simp;try rfl
     simp only[lsz,lss]
     refine tk 9 ?_ (fun _ _=>?_) hXS ?_
     rotate_left
     ·go_simp;try rfl
     simp only[lsz,lss]
     refine tk 10 ?_ (fun _ _=>?_) hXS ?_
     rotate_left
     ·go_simp;try rfl
     simp only[lsz,lss]
     refine tk 11 ?_ (fun _ _=>?_) hXS ?_
     rotate_left
     ·go_simp;try rfl
     simp only[lsz,lss]
     refine tk 12 ?_ (fun _ _=>?_) hXS ?_
     rotate_left
     ·go_simp;try rfl
     simp only[lsz,lss]
     refine tk 13 ?_ (fun _ _=>?_) hXS ?_
     rotate_left
     ·go_simp;try rfl
     simp only[lsz,lss]
     refine tk 14 ?_ (fun _ _=>?_) hXS ?_
     rotate_left
     ·go_simp;try rfl
     simp only[lsz,lss]
     refine tk 15 ?_ (fun _ _=>?_) hXS ?_
     rotate_left
     ·go_simp;try rfl
     simp only[lsz,lss]
     refine tk 16 ?_ (fun _ _=>?_) hXS ?_
     rotate_left
     ·go_simp;try rfl
     simp only[lsz,lss]
     refine tk 17 ?_ (fun _ _=>?_) hXS ?_
     rotate_left
     ·go_simp;try rfl
     simp only[lsz,lss]
     refine tk 18 ?_ (fun _ _=>?_) hXS ?_
     rotate_left
     ·go_simp;try rfl
     simp only[lsz,lss]
     refine tk 19 ?_ (fun _ _=>?_) hXS ?_
     rotate_left
     ·go_simp;try rfl
     simp only[lsz,lss]
     refine tk 20 ?_ (fun _ _=>?_) hXS ?_
     rotate_left
     ·go_simp;try rfl
     simp only[lsz,lss]
     refine tk 21 ?_ (fun _ _=>?_) hXS ?_
     rotate_left
     ·go_simp;try rfl
     simp only[lsz,lss]
     refine wpX_take (i:=22) (v:=.int .i64 0) rfl rfl (by kernel_rfl) (fun _ _ _ h=>h) (Or.inl ⟨rfl,fun wS hwS=>?_⟩) hXS ?_
     ·go_simp
      rw[IntWalk.i64_in (-1) (by omega)]
      intro h
      omega
     simp only[lsz,lss]
     refine tk 23 ?_ (fun _ _=>?_) hXS ?_
     rotate_left
     ·go_simp;try rfl
     simp only[lsz,lss]
     refine tk 24 ?_ (fun _ _=>?_) hXS ?_
     rotate_left
     ·go_simp;try rfl
     simp only[lsz,lss]
     refine tk 25 ?_ (fun _ _=>?_) hXS ?_
     rotate_left
     ·go_simp;try rfl
     simp only[lsz,lss]
     refine tk 26 ?_ (fun _ _=>?_) hXS ?_
     rotate_left
     ·go_simp;try rfl
     simp only[lsz,lss]
     refine tk 28 ?_ (fun _ _=>?_) hXS ?_
     rotate_left
     ·go_simp;try rfl
     simp only[lsz,lss]
     refine tk 29 ?_ (fun _ _=>?_) hXS ?_
     rotate_left
     ·go_simp;try rfl
     simp only[lsz,lss]
     refine tk 30 ?_ (fun _ _=>?_) hXS ?_
     rotate_left
     ·go_simp;try rfl
     simp only[lsz,lss]
     refine tk 31 ?_ (fun _ _=>?_) hXS ?_
     rotate_left
     ·go_simp;try rfl
     simp only[lsz,lss]
     refine tk 32 ?_ (fun _ _=>?_) hXS ?_
     rotate_left
     ·go_simp;try rfl
     simp only[lsz,lss]
     refine tk 33 ?_ (fun _ _=>?_) hXS ?_
     rotate_left
     ·go_simp;try rfl
     simp only[lsz,lss]
     refine tk 34 ?_ (fun _ _=>?_) hXS ?_
     rotate_left
     ·go_simp;try rfl
     simp only[lsz,lss]
     refine wpX_hard (k:=27) (by kernel_rfl) rfl (fun K hK=>?_)
     go_simp
     have HCn:=hid (ecount be _ D S' false w9.drew (HE9.out.kw (KW.refl w9).drew))
     rw[HTt.out,show(S'.taped:Int)=0 from f1,f2,show(S'.sweeps:Int)=1 from f3] at HCn
     have hce:=fun W=>cnt_eq W (Ch.tt h.l h.n) 0 1
     refine HCn.out.mono ?_
     rintro e w10 ⟨rfl,hk10⟩
     have hXS:=HS.out w10 ((KW.refl w9).drew.t hk10)
     have HK10:=hid (HK9.out.t ((KW.refl w9).drew.t hk10))
     have HQ10:=hid ((KW.refl w9).drew.t hk10)
     refine hK _ _ (fun _=>hXS) ?_
     clear hK K hk10 HCn HE9 HK9
     try simp only[lsz,lss]
     refine tk 35 ?_ (fun _ _=>?_) hXS ?_
     rotate_left
     ·go_simp;try rfl
     simp only[lsz,lss]
     refine tk 36 ?_ (fun _ _=>?_) hXS ?_
     rotate_left
     ·go_simp;try rfl
     simp only[lsz,lss]
     refine tk 37 ?_ (fun _ _=>?_) hXS ?_
     rotate_left
     ·go_simp;try rfl
     simp only[lsz,lss]
     refine wpX_hard (k:=38) (by kernel_rfl) rfl (fun K hK=>?_)
     go_simp
     refine(HWk.out w10).mono ?_
     rintro e w11 ⟨rfl,hk11⟩
     have HK11:=hid (HK10.out.t hk11)
     have hXS:=HS.out w11 (HQ10.out.t hk11)
     refine hK _ _ (fun _=>hXS) ?_
     clear hK K hk11 HQ10 HK10
     try simp only[lsz,lss]
     refine tk 39 ?_ (fun _ _=>?_) hXS ?_
     rotate_left
     ·go_simp;try rfl
     simp only[lsz,lss]
     refine tk 40 ?_ (fun _ _=>?_) hXS ?_
     rotate_left
     ·go_simp;try rfl
     simp only[lsz,lss]
     refine wpX_done (by kernel_rfl) ?_
     clear hXS
     go_wp2_with fail
     go_ret
     exact⟨rfl,HK11.out⟩
    ·obtain⟨m,hm⟩:∃ m,h.l=m+1:=⟨h.l - 1,by omega⟩
     have hlm:h.len=(m:Int)+1:=by rw[← hln,hm];rfl
     rw[if_neg h0,show h.l - 1=m by omega]
     have e0:(((m:Int)+1)==0)=false:=beq_eq_false_iff_ne.2 (by omega)
     obtain⟨f1,f2,f3⟩:=HCt.out
     rw[hm] at f1 f3
     have hm4:m<40:=by omega
     clear HFc HCt hln hl4 h0 HDs hm
     generalize h.len=ln at *
     subst hlm
     go_upto_region 16 with(fail)
     have hk9:=(KW.refl w8).alloc (.cells #[.int .i64 t,.int .i64 pk,.int .i64 mo,.int .i64 k0,.int .i64 k1,.int .i64 k2,.int .i64 k3,.int .i64 k4,.int .i64 k5,.int .i64 1,.int .i64 m,.int .i64 k8,.int .i64 k9,.slice A9 n9 c9] 77)
     have HS:Hid (∀ W,KW (w8.alloc (.cells #[.int .i64 t,.int .i64 pk,.int .i64 mo,.int .i64 k0,.int .i64 k1,.int .i64 k2,.int .i64 k3,.int .i64 k4,.int .i64 k5,.int .i64 1,.int .i64 m,.int .i64 k8,.int .i64 k9,.slice A9 n9 c9] 77)) W→W.cell? ⟨w8.heap.size,2,none⟩=some (.int .i64 mo)∧W.cell? ⟨w8.heap.size,9,none⟩=some (.int .i64 1)∧W.cell? ⟨w8.heap.size,10,none⟩=some (.int .i64 m)∧W.cell? ⟨w.heap.size,7,none⟩=some (.int .i64 ((m:Int)+1))∧w8.heap.size<W.heap.size∧w.heap.size<W.heap.size):=hid fun W hW=>by
      obtain⟨q7,_,qg,_⟩:=HX.out W (HQ8.out.t (hk9.t hW))
      have hlt:w8.heap.size<(w8.alloc (.cells #[.int .i64 t,.int .i64 pk,.int .i64 mo,.int .i64 k0,.int .i64 k1,.int .i64 k2,.int .i64 k3,.int .i64 k4,.int .i64 k5,.int .i64 1,.int .i64 m,.int .i64 k8,.int .i64 k9,.slice A9 n9 c9] 77)).heap.size:=by simp
      refine⟨(Below.cell hW hlt).trans ?_,(Below.cell hW hlt).trans ?_,(Below.cell hW hlt).trans ?_,q7,Nat.lt_of_lt_of_le hlt hW.size,qg⟩<;>(rw[World.cell?_alloc_at _ _ _ _ rfl];rfl)
     have HE9:=hid ((HE3.out.kw HQ8.out).kw hk9)
     have HK9:=hid (HK3.out.t (HQ8.out.t hk9))
     generalize w8.alloc (.cells #[.int .i64 t,.int .i64 pk,.int .i64 mo,.int .i64 k0,.int .i64 k1,.int .i64 k2,.int .i64 k3,.int .i64 k4,.int .i64 k5,.int .i64 1,.int .i64 m,.int .i64 k8,.int .i64 k9,.slice A9 n9 c9] 77)=w9 at *
     generalize w8.heap.size=gq at *
     clear hk9 x7 x3 xg xp HX HE3 HK3 HQ8
     have hXS:=HS.out w9.drew (KW.refl w9).drew
     refine wpX_region (S:=fun W=>W.cell? ⟨gq,2,none⟩=some (.int .i64 mo)∧W.cell? ⟨gq,9,none⟩=some (.int .i64 1)∧W.cell? ⟨gq,10,none⟩=some (.int .i64 m)∧W.cell? ⟨w.heap.size,7,none⟩=some (.int .i64 ((m:Int)+1))∧gq<W.heap.size∧w.heap.size<W.heap.size) (L:=99) (by kernel_rfl) ?_
     refine tk 0 ?_ (fun _ _=>?_) hXS ?_
     rotate_left
     ·go_simp;try rfl
     simp only[lsz,lss]
     refine tk 1 ?_ (fun _ _=>?_) hXS ?_
     rotate_left
     ·go_simp;try rfl
     simp only[lsz,lss]
     refine tk 2 ?_ (fun _ _=>?_) hXS ?_
     rotate_left
     ·go_simp;try rfl
     simp only[lsz,lss]
     refine tk 3 ?_ (fun _ _=>?_) hXS ?_
     rotate_left
     ·go_simp;try rfl
     simp only[lsz,lss]
     refine tk 4 ?_ (fun _ _=>?_) hXS ?_
     rotate_left
     ·go_simp;try rfl
     simp only[lsz,lss]
     refine tk 5 ?_ (fun _ _=>?_) hXS ?_
     rotate_left
     ·go_simp;try rfl
     simp only[lsz,lss]
     refine tk 6 ?_ (fun _ _=>?_) hXS ?_
     rotate_left
     ·go_simp;try rfl
     simp only[lsz,lss]
     refine tk 7 ?_ (fun _ _=>?_) hXS ?_
     rotate_left
     ·go_simp;try rfl
     simp only[lsz,lss]
     refine tk 8 ?_ (fun _ _=>?_) hXS ?_
     rotate_left
     ·go_simp;try rfl
     simp only[lsz,lss]
     refine tk 9 ?_ (fun _ _=>?_) hXS ?_
     rotate_left
     ·go_simp;try rfl
     simp only[lsz,lss]
     refine tk 10 ?_ (fun _ _=>?_) hXS ?_
     rotate_left
     ·go_simp;try rfl
     simp only[lsz,lss]
     refine tk 11 ?_ (fun _ _=>?_) hXS ?_
     rotate_left
     ·go_simp;try rfl
     simp only[lsz,lss]
     refine tk 12 ?_ (fun _ _=>?_) hXS ?_
     rotate_left
     ·go_simp;try rfl
     simp only[lsz,lss]
     refine tk 13 ?_ (fun _ _=>?_) hXS ?_
     rotate_left
     ·go_simp;try rfl
     simp only[lsz,lss]
     refine tk 14 ?_ (fun _ _=>?_) hXS ?_
     rotate_left
     ·go_simp;try rfl
     simp only[lsz,lss]
     refine tk 15 ?_ (fun _ _=>?_) hXS ?_
     rotate_left
     ·go_simp;try rfl
     simp only[lsz,lss]
     refine tk 16 ?_ (fun _ _=>?_) hXS ?_
     rotate_left
     ·go_simp;try rfl
     simp only[lsz,lss]
     refine tk 17 ?_ (fun _ _=>?_) hXS ?_
     rotate_left
     ·go_simp;try rfl
     simp only[lsz,lss]
     refine tk 18 ?_ (fun _ _=>?_) hXS ?_
     rotate_left
     ·go_simp;try rfl
     simp only[lsz,lss]
     refine tk 19 ?_ (fun _ _=>?_) hXS ?_
     rotate_left
     ·go_simp;try rfl
     simp only[lsz,lss]
     refine tk 20 ?_ (fun _ _=>?_) hXS ?_
     rotate_left
     ·go_simp;try rfl
     simp only[lsz,lss]
     refine tk 21 ?_ (fun _ _=>?_) hXS ?_
     rotate_left
     ·go_simp;try rfl
     simp only[lsz,lss]
     refine wpX_take (i:=22) (v:=.int .i64 m) rfl rfl (by kernel_rfl) (fun _ _ _ h=>h) (Or.inl ⟨rfl,fun wS hwS=>?_⟩) hXS ?_
     ·go_simp
      rw[IntWalk.i64_in (m:Int) (by omega),if_neg (by omega)]
     simp only[lsz,lss]
     refine tk 23 ?_ (fun _ _=>?_) hXS ?_
     rotate_left
     ·go_simp;try rfl
     simp only[lsz,lss]
     refine tk 24 ?_ (fun _ _=>?_) hXS ?_
     rotate_left
     ·go_simp;try rfl
     simp only[lsz,lss]
     refine tk 25 ?_ (fun _ _=>?_) hXS ?_
     rotate_left
     ·go_simp;try rfl
     simp only[lsz,lss]
     refine tk 26 ?_ (fun _ _=>?_) hXS ?_
     rotate_left
     ·go_simp;try rfl
     simp only[lsz,lss]
     refine tk 28 ?_ (fun _ _=>?_) hXS ?_
     rotate_left
     ·go_simp;try rfl
     simp only[lsz,lss]
     refine tk 29 ?_ (fun _ _=>?_) hXS ?_
     rotate_left
     ·go_simp;try rfl
     simp only[lsz,lss]
     refine tk 30 ?_ (fun _ _=>?_) hXS ?_
     rotate_left
     ·go_simp;try rfl
     simp only[lsz,lss]
     refine tk 31 ?_ (fun _ _=>?_) hXS ?_
     rotate_left
     ·go_simp;try rfl
     simp only[lsz,lss]
     refine tk 32 ?_ (fun _ _=>?_) hXS ?_
     rotate_left
     ·go_simp;try rfl
     simp only[lsz,lss]
     refine tk 33 ?_ (fun _ _=>?_) hXS ?_
     rotate_left
     ·go_simp;try rfl
     simp only[lsz,lss]
     refine tk 34 ?_ (fun _ _=>?_) hXS ?_
     rotate_left
     ·go_simp;try rfl
     simp only[lsz,lss]
     refine wpX_hard (k:=27) (by kernel_rfl) rfl (fun K hK=>?_)
     go_simp
     have HCn:=hid (ecount be _ D S' false w9.drew (HE9.out.kw (KW.refl w9).drew))
     rw[HTt.out,show(S'.taped:Int)=((m:Int)+1) from f1,f2,show(S'.sweeps:Int)=((m:Int)+1+1) from f3] at HCn
     have hce:=fun W=>cnt_eq W (Ch.tt h.l h.n) ((m:Int)+1) ((m:Int)+1+1)
     refine HCn.out.mono ?_
     rintro e w10 ⟨rfl,hk10⟩
     have hXS:=HS.out w10 ((KW.refl w9).drew.t hk10)
     have HK10:=hid (HK9.out.t ((KW.refl w9).drew.t hk10))
     have HQ10:=hid ((KW.refl w9).drew.t hk10)
     refine hK _ _ (fun _=>hXS) ?_
     clear hK K hk10 HCn HE9 HK9
     try simp only[lsz,lss]
     have hw2:IntKind.i64.wrap ((m:Int)+1+1)=(m:Int)+1+1:=IntWalk.i64_in _ (by omega)
     refine tk 35 ?_ (fun _ _=>?_) hXS ?_
     rotate_left
     ·go_simp;try rfl
     simp only[lsz,lss]
     refine tk 36 ?_ (fun _ _=>?_) hXS ?_
     rotate_left
     ·go_simp;try rfl
     simp only[lsz,lss]
     refine tk 37 ?_ (fun _ _=>?_) hXS ?_
     rotate_left
     ·go_simp;try rfl
     simp only[lsz,lss]
     refine wpX_hard (k:=38) (by kernel_rfl) rfl (fun K hK=>?_)
     go_simp
     refine(HWk.out w10).mono ?_
     rintro e w11 ⟨rfl,hk11⟩
     have HK11:=hid (HK10.out.t hk11)
     have hXS:=HS.out w11 (HQ10.out.t hk11)
     refine hK _ _ (fun _=>hXS) ?_
     clear hK K hk11 HQ10 HK10
     try simp only[lsz,lss]
     refine tk 39 ?_ (fun _ _=>?_) hXS ?_
     rotate_left
     ·go_simp;try rfl
     simp only[lsz,lss]
     refine tk 40 ?_ (fun _ _=>?_) hXS ?_
     rotate_left
     ·go_simp;try rfl
     simp only[lsz,lss]
     refine wpX_done (by kernel_rfl) ?_
     clear hXS
     go_wp2_with fail
     go_ret
     exact⟨rfl,HK11.out⟩
   ·have em:(h.mode != 1)=true:=by simp[hm]
    go_wp2_with fail
    refine(HWk.out w1).mono ?_
    rintro e w2 ⟨rfl,hk2⟩
    have HK2:=hid (HK1.out.t hk2)
    clear hk2
    go_wp2_with fail
    go_ret
    exact⟨rfl,HK2.out⟩
end Go.Proofs.YtphppbonljdibaaGreat
