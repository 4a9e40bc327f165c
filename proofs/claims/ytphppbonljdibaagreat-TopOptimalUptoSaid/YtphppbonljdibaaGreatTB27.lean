import Derived.Test.YtphppbonljdibaaGreatTB26
import Derived.Test.YtphppbonljdibaaGreatTB31
import Derived.Test.YtphppbonljdibaaGreatTB18
import Derived.Test.YtphppbonljdibaaGreatTB32
import Derived.Deep.Cut
import Derived.RegionTactic
set_option maxRecDepth 100000
set_option maxHeartbeats 4000000
set_option linter.unusedVariables false
set_option linter.unusedSimpArgs false
namespace Go.Proofs.YtphppbonljdibaaGreat
open Go.ChangeShapes Go.WideShapes Go.ChangeAt Go.RowKit
theorem dbase (D:Ds)(S:Dy)(w:World)(h:DrM w D S):Calls Tryz.prog 103 #[.pointer (some ⟨D.bd,0,none⟩)] w fun e w'=>e=.returned (.bool false)∧w'=w:=by
 have c4:w.cell? ⟨D.bd,4,none⟩=some (.int .i64 D.h.mode):=h.cell (i:=4) (by omega)
 have hm:(D.h.mode==3)=false:=beq_eq_false_iff_ne.2 h.ds.m3
 clear h
 go_enter Tryz.func103,Tryz.ntmps103
 go_wp2_with fail
 go_ret
 exact⟨rfl,rfl⟩
def dvs (b:Nat):Array Value:=#[.nilFunc,.func (.func 153) #[.pointer (some ⟨b,0,none⟩)] #[],.func (.func 154) #[.pointer (some ⟨b,0,none⟩)] #[],.func (.func 155) #[.pointer (some ⟨b,0,none⟩)] #[],.func (.func 156) #[.pointer (some ⟨b,0,none⟩)] #[],.func (.func 147) #[.pointer (some ⟨b,0,none⟩)] #[],.func (.func 157) #[.pointer (some ⟨b,0,none⟩)] #[],.func (.func 158) #[.pointer (some ⟨b,0,none⟩)] #[]]
theorem dmoves (b:Nat)(w:World):
 Calls Tryz.prog 113 #[.pointer (some ⟨b,0,none⟩)] w fun e w'=>e=.returned (.agg (dvs b))∧KW w w':=by
 go_enter Tryz.func113,Tryz.ntmps113
 go_wp2_with fail
 exact bodyPost_ret (results_cell_row rfl _ _ _ _ _ (0,0) _ rfl (heap_alloc_new w _) Tryz.underlying156 rfl (by kernel_rfl)) rfl ⟨rfl,(KW.refl w).alloc _⟩
theorem dvs_at (b:Nat)(k:Int)(hk:1≤k∧k≤7)(W:World):(Instr.index 156 (.agg (dvs b)) (.int .i64 k)).run Tryz.prog W=.ok (.func (.func (mvF k)) #[.pointer (some ⟨b,0,none⟩)] #[]) W:=by
 rcases(show k=1∨k=2∨k=3∨k=4∨k=5∨k=6∨k=7 by omega) with rfl|rfl|rfl|rfl|rfl|rfl|rfl<;>kernel_rfl
theorem step_alk (S:Dy)(k n:Int):Mc.alk (Mc.step ⟨S.l,S.at_,S.pend,0,S.tags⟩ k n) (Mc.step S.mc k n):=Mc.step_any_tot S.mc 0 k n
theorem ddo (D:Ds)(S:Dy)(k n:Int)(w:World)(h:DrM w D S)(hI:DyI D S)(hs:Small S)(e:(Mc.step S.mc k n).2=0):
 Calls Tryz.prog 66 #[.pointer (some ⟨D.bd,0,none⟩),.agg #[.int .i64 k,.int .i64 n]] w fun e w'=>e=.returned (.int .i64 0)∧DrM w' D (S.act D k n)∧Keep D.own w w':=by
 have hk0:=(KW.refl w).alloc (.cells #[.int .i64 k,.int .i64 n] 55)
 have hinv:=hI.inv
 have htn:S.tags.length=D.n:=hI.len
 have hk17:1≤k∧k≤7:=by
  rcases Mc.gone e with⟨rfl,_⟩|⟨rfl,_⟩|⟨rfl,_⟩|⟨rfl,_⟩|⟨rfl,_⟩|⟨rfl,_⟩|⟨rfl,_⟩<;>omega
 have HDw:=hid (fun W (hW:KW w W)=>h.kw hW)
 have HBs:=hid (dbase D S _ (h.kw hk0))
 have HSp:=hid (fun W (hW:KW w W)=>dspot D S W (h.kw hW))
 have HAt:=hid (fun W v base (hv:Owns W base 3 v (ivs S.tags))=>at_yes S.l S.at_ S.pend S.tags v W hinv.l0 (by have:=hinv.l1;show(S.l:Int)<65536;have:S.mc.l=S.l:=rfl;omega) hinv.a0 hinv.a1 hinv.p0 hinv.p1 hinv.ln hinv.tg (Owns.rtz hv))
 obtain⟨a1,a2,a3,a4⟩:=step_alk S k n
 rw[e] at a1
 have hinv0:Mc.Inv ⟨S.l,S.at_,S.pend,0,S.tags⟩:=⟨hinv.l0,hinv.l1,hinv.a0,hinv.a1,hinv.p0,hinv.p1,hinv.tg,hinv.ln,by show(0:Int)≤0;omega⟩
 have HDo:=hid (fun W b v (hM:Mach W b v ⟨S.l,S.at_,S.pend,0,S.tags⟩)=>do_any _ k n b v W hM hinv0 (by show(0:Int)≤_;omega))
 have hinv1:=hinv0.step k n
 have HMv:=hid (fun W (h':DrM W D S)=>dmove D S k n W h' hI hs e)
 obtain⟨m1,hm1⟩:∃ m1,(Mc.step ⟨S.l,S.at_,S.pend,0,S.tags⟩ k n).1=m1:=⟨_,rfl⟩
 rw[a1,hm1] at HDo
 rw[hm1] at a2 a3 a4 hinv1
 obtain⟨na,hna⟩:∃ na:Nat,m1.at_=na:=⟨m1.at_.toNat,(Int.toNat_of_nonneg hinv1.a0).symm⟩
 have HAct:=hid (show S.act D k n = { S.move D k n.toNat with at_:=na,pend:=m1.pend } by unfold Dy.act;rw[← a2,← a3,hna];rfl)
 have HSpM:=hid (fun W b v (hM:Mach W b v m1)=>spot_any m1 b v W hM hinv1.ln)
 unfold SpotP at HSpM
 rw[hna] at HSpM
 have HL:=hid h.low
 have hD0:=h.kw hk0
 have HKx:=hid (show(w.alloc (.cells #[.int .i64 k,.int .i64 n] 55)).heap[w.heap.size]?=some (.cells #[.int .i64 k,.int .i64 n] 55 (0,0)) from heap_alloc_new w _)
 have HK0:=hid hk0
 have HEn:=hid (fun args W=>mvF_enter k hk17 args W)
 have HIx:=hid (fun W=>dvs_at D.bd k hk17 W)
 have HC:Hid (∀ W S',DrM W D S'→W.cell? ⟨D.bd,17,none⟩=some (.int .i64 S'.l)):=hid fun W S' h'=>h'.cell (i:=17) (by omega)
 have HD0:=hid hD0
 generalize mvF k=F at *
 clear h hk0 hI hs hinv htn a1 a2 a3 a4 hinv0 hm1 hna hD0
 go_enter Tryz.func66,Tryz.ntmps66
 go_wp2_with fail
 refine HBs.out.mono ?_
 rintro e w1 ⟨rfl,rfl⟩
 clear HBs
 go_wp2_with fail
 have hXS:=HC.out _ _ (HD0.out.kw (KW.refl _).drew)
 refine wpX_region (S:=fun W=>W.cell? ⟨D.bd,17,none⟩=some (.int .i64 S.l)) (L:=99) (by kernel_rfl) ?_
 refine tk 0 ?_ (fun _ _=>?_) hXS ?_;rotate_left;· go_simp;try rfl
 simp only[lsz,lss]
 refine tk 1 ?_ (fun _ _=>?_) hXS ?_;rotate_left;· go_simp;try rfl
 simp only[lsz,lss]
 refine tk 2 ?_ (fun _ _=>?_) hXS ?_;rotate_left;· go_simp;try rfl
 simp only[lsz,lss]
 refine tk 3 ?_ (fun _ _=>?_) hXS ?_;rotate_left;· go_simp;try rfl
 simp only[lsz,lss]
 refine tk 4 ?_ (fun _ _=>?_) hXS ?_;rotate_left;· go_simp;try rfl
 simp only[lsz,lss]
 refine wpX_hard (k:=5) (by kernel_rfl) rfl (fun K hK=>?_)
 go_simp
 refine(HSp.out _ (HK0.out.drew)).mono ?_
 rintro e w1 ⟨v,rfl,ho1,hk1'⟩
 have HK1:=hid (HK0.out.drew.t hk1')
 have hx1:=(Below.block hk1' w.heap.size (by simp)).trans HKx.out
 have HX1:=hid hx1
 obtain⟨A1,c1,rfl,_⟩:=ho1.row
 have HA1:=hid (HAt.out w1 _ _ ho1)
 rw[ivs_len] at HA1 ⊢
 have hXS:=HC.out w1 _ (HDw.out w1 HK1.out)
 refine hK _ _ (fun _=>hXS) ?_
 clear hK K hk1' ho1 hx1 HSp HAt HKx HK0 HD0
 try simp only[lsz,lss]
 refine wpX_hard (k:=6) (by kernel_rfl) rfl (fun K hK=>?_)
 go_simp
 refine HA1.out.mono ?_
 rintro e w2 ⟨b,v,rfl,hm2,hnew2,hk2⟩
 have HM2:=hid hm2
 have HN2:=hid hnew2
 have HK2:=hid (HK1.out.t hk2)
 have HX2:=hid ((Below.block hk2 w.heap.size (Array.getElem?_eq_some_iff.1 HX1.out).1).trans HX1.out)
 have hsz1:=HK1.out.size
 have hXS:=HC.out w2 _ (HDw.out w2 HK2.out)
 refine hK _ _ (fun _=>hXS) ?_
 clear hK K hm2 hnew2 hk2 HA1
 try simp only[lsz,lss]
 refine tk 7 ?_ (fun _ _=>?_) hXS ?_;rotate_left;· go_simp;try rfl
 simp only[lsz,lss]
 refine tk 8 ?_ (fun _ _=>?_) hXS ?_;rotate_left;· go_simp;try rfl
 simp only[lsz,lss]
 refine tk 9 ?_ (fun _ _=>?_) hXS ?_;rotate_left;· go_simp;try rfl
 simp only[lsz,lss]
 refine tk 10 ?_ (fun _ _=>?_) hXS ?_;rotate_left;· go_simp;try rfl
 simp only[lsz,lss]
 refine tk 11 ?_ (fun _ _=>?_) hXS ?_;rotate_left;· go_simp;try rfl
 simp only[lsz,lss]
 refine wpX_done (by kernel_rfl) ?_
 clear hXS
 have x0:w2.cell? ⟨w.heap.size,0,none⟩=some (.int .i64 k):=by unfold World.cell?;rw[HX2.out];rfl
 have x1:w2.cell? ⟨w.heap.size,1,none⟩=some (.int .i64 n):=by unfold World.cell?;rw[HX2.out];rfl
 have hxs:w.heap.size<w2.heap.size:=(Array.getElem?_eq_some_iff.1 HX2.out).1
 have HDo2:=hid (HDo.out w2 b v HM2.out)
 go_wp2_with fail
 refine HDo2.out.mono ?_
 rintro e w3 ⟨rfl,hm3,hk3⟩
 have hnx:∀ i,mo b v i→w.heap.size<i:=fun i hi=>by have:=HN2.out i hi;have h1:=(Array.getElem?_eq_some_iff.1 HX1.out).1;omega
 have HNX:=hid hnx
 have HM3:=hid hm3
 have HK3:Hid (KW w w3):=hid (HK2.out.kept hk3 fun i hi=>Nat.le_of_lt (hnx i hi))
 have HX3:=hid ((hk3.block w.heap.size hxs (fun hi=>by have:=hnx _ hi;omega)).trans HX2.out)
 clear hm3 hk3 HDo2 HM2 HK2 HX2 HK1 HX1 x0 x1 hxs hnx
 go_wp2_with fail
 have hC3:∀ W:World,W.heap[w.heap.size]?=some (.cells #[.int .i64 k,.int .i64 n] 55 (0,0))→W.cell? ⟨w.heap.size,0,none⟩=some (.int .i64 k)∧W.cell? ⟨w.heap.size,1,none⟩=some (.int .i64 n):=fun W h=>⟨by unfold World.cell?;rw[h];rfl,by unfold World.cell?;rw[h];rfl⟩
 have HC3:=hid hC3
 have hXS:=hC3 w3.drew HX3.out
 clear hC3
 refine wpX_region (S:=fun W=>W.cell? ⟨w.heap.size,0,none⟩=some (.int .i64 k)∧W.cell? ⟨w.heap.size,1,none⟩=some (.int .i64 n)) (L:=99) (by kernel_rfl) ?_
 refine tk 0 ?_ (fun _ _=>?_) hXS ?_;rotate_left;· go_simp;try rfl
 simp only[lsz,lss]
 refine tk 2 ?_ (fun _ _=>?_) hXS ?_;rotate_left;· go_simp;try rfl
 simp only[lsz,lss]
 refine tk 3 ?_ (fun _ _=>?_) hXS ?_;rotate_left;· go_simp;try rfl
 simp only[lsz,lss]
 refine tk 5 ?_ (fun _ _=>?_) hXS ?_;rotate_left;· go_simp;try rfl
 simp only[lsz,lss]
 refine tk 6 ?_ (fun _ _=>?_) hXS ?_;rotate_left;· go_simp;try rfl
 simp only[lsz,lss]
 refine wpX_hard (k:=1) (by kernel_rfl) rfl (fun K hK=>?_)
 go_simp
 refine(dmoves D.bd _).mono ?_
 rintro e w4 ⟨rfl,hk4'⟩
 have hk4:KW w3 w4:=(KW.refl w3).drew.t hk4'
 have HK4:=hid (HK3.out.t hk4)
 have HM4:=hid (HM3.out.kw hk4)
 have HX4:=hid ((Below.block hk4 w.heap.size (Array.getElem?_eq_some_iff.1 HX3.out).1).trans HX3.out)
 have hXS:=HC3.out w4 HX4.out
 refine hK _ _ (fun _=>hXS) ?_
 clear hK K hk4 hk4' HK3 HM3 HX3
 try simp only[lsz,lss]
 refine tk 4 ?_ (fun wS hwS=>?_) hXS ?_
 rotate_left
 ·have hix:=HIx.out wS
  go_simp
  rfl
 simp only[lsz,lss]
 have hen:=HEn.out
 have HMv4:=hid (HMv.out w4 (HDw.out w4 HK4.out))
 refine wpX_hard (k:=7) (by kernel_rfl) rfl (fun K hK=>?_)
 go_simp
 refine HMv4.out.mono ?_
 rintro e w5 ⟨rfl,hd5,hk5⟩
 have HD5:=hid hd5
 have HK5:=hid (HK4.out.kt hk5)
 have hno:∀ i,w.heap.size≤i→¬ D.own i:=fun i hi=>HL.out.own hi
 have HM5:=hid (HM4.out.keep hk5 fun i hi=>hno i (Nat.le_of_lt (HNX.out i hi)))
 have HX5:=hid ((hk5.block w.heap.size (Array.getElem?_eq_some_iff.1 HX4.out).1 (hno _ (Nat.le_refl _))).trans HX4.out)
 have hXS:=HC3.out w5 HX5.out
 refine hK _ _ (fun _=>hXS) ?_
 clear hK K hd5 hk5 HMv4 HMv HIx HEn hen
 try simp only[lsz,lss]
 refine wpX_done (by kernel_rfl) ?_
 clear hXS
 have HSp5:=hid (HSpM.out w5 b v HM5.out)
 go_wp2_with fail
 refine HSp5.out.mono ?_
 rintro e w6 ⟨v6,rfl,ho6,hk6⟩
 obtain⟨A6,c6,rfl,_⟩:=ho6.row
 have HD6:=hid (HD5.out.kw hk6)
 have HK6:=hid (HK5.out.kwt hk6)
 have hbd6:D.bd<w6.heap.size:=HD6.out.low.bd
 clear ho6 hk6 HSp5 HSpM HX5 HM5
 have hk7:=(KW.refl w6).alloc (.cells #[.int .i64 (na:Int),.int .i64 m1.pend,.slice A6 (ints m1.tags).length c6] 58)
 have hc7:(w6.alloc (.cells #[.int .i64 (na:Int),.int .i64 m1.pend,.slice A6 (ints m1.tags).length c6] 58)).cell? ⟨w6.heap.size,0,none⟩=some (.int .i64 (na:Int))∧(w6.alloc (.cells #[.int .i64 (na:Int),.int .i64 m1.pend,.slice A6 (ints m1.tags).length c6] 58)).cell? ⟨w6.heap.size,1,none⟩=some (.int .i64 m1.pend):=by
  have hh:=heap_alloc_new w6 (.cells #[.int .i64 (na:Int),.int .i64 m1.pend,.slice A6 (ints m1.tags).length c6] 58)
  exact⟨by unfold World.cell?;rw[hh];rfl,by unfold World.cell?;rw[hh];rfl⟩
 have HC7:=hid hc7
 have HD7:=hid (HD6.out.kw hk7)
 have HK7:=hid (HK6.out.kwt hk7)
 clear hk7 hc7
 go_upto_region 13 with(fail)
 refine wpCode_world (fun W=>W.cell? ⟨w6.heap.size,0,none⟩=some (.int .i64 (na:Int))∧W.cell? ⟨w6.heap.size,1,none⟩=some (.int .i64 m1.pend)∧Hid (DrM W D (S.move D k n.toNat))∧Hid (Keep D.own w W)) ⟨HC7.out.1,HC7.out.2,HD7,HK7⟩ ?_
 clear HC7 HD7 HK7 HD6 HK6
 rintro W7 ⟨x0,x1,HD7,HK7⟩
 have hne7:w6.heap.size≠D.bd:=by omega
 generalize w6.heap.size=g8 at *
 have c18:W7.cell? ⟨D.bd,18,none⟩=some (.int .i64 (S.move D k n.toNat).at_):=HD7.out.cell (i:=18) (by omega)
 have f18:W7.frozen? ⟨D.bd,18,none⟩=false:=World.rowIs.frozen HD7.out.row 18
 have HD8:=hid (HD7.out.setAt na)
 have c19:(W7.setCell ⟨D.bd,18,none⟩ (.int .i64 (na:Int))).drew.cell? ⟨D.bd,19,none⟩=some (.int .i64 (S.move D k n.toNat).pend):=HD8.out.cell (i:=19) (by omega)
 have f19:(W7.setCell ⟨D.bd,18,none⟩ (.int .i64 (na:Int))).drew.frozen? ⟨D.bd,19,none⟩=false:=World.rowIs.frozen HD8.out.row 19
 have y0:(W7.setCell ⟨D.bd,18,none⟩ (.int .i64 (na:Int))).drew.cell? ⟨g8,0,none⟩=some (.int .i64 (na:Int)):=((Keep.refl (· = D.bd) W7).setCell ⟨D.bd,18,none⟩ (.int .i64 (na:Int)) rfl).cs hne7 x0
 have y1:(W7.setCell ⟨D.bd,18,none⟩ (.int .i64 (na:Int))).drew.cell? ⟨g8,1,none⟩=some (.int .i64 m1.pend):=((Keep.refl (· = D.bd) W7).setCell ⟨D.bd,18,none⟩ (.int .i64 (na:Int)) rfl).cs hne7 x1
 have HD9:=hid (HD8.out.setPend m1.pend)
 have HK9:=hid (HK7.out.t ((((Keep.refl (· = D.bd) W7).setCell ⟨D.bd,18,none⟩ (.int .i64 (na:Int)) rfl).setCell ⟨D.bd,19,none⟩ (.int .i64 m1.pend) rfl).mono fun b _ e=>.inl e))
 clear HD8
 go_region
 go_wp2_with fail
 go_ret
 refine⟨rfl,?_,HK9.out.drew⟩
 rw[HAct.out]
 exact HD9.out.kw (KW.refl _).drew
end Go.Proofs.YtphppbonljdibaaGreat
