import Derived.Test.YtphppbonljdibaaGreatTB28
set_option maxRecDepth 100000
set_option maxHeartbeats 4000000
set_option linter.unusedVariables false
set_option linter.unusedSimpArgs false
namespace Go.Proofs.YtphppbonljdibaaGreat
open Go.ChangeShapes Go.WideShapes Go.ChangeAt Go.RowKit
def Dy.new (D:Ds):Dy:=(((⟨putL (List.replicate D.L 0) D.f (List.replicate (D.n * (D.x+1)) 0),List.replicate D.n (-1),fixW D.h,fixW D.h,D.h.len.toNat,0,-1,0,0,0,0,0⟩:Dy).put D 0 D.h.ts).put D 1 D.h.xs)
theorem rep_getD (n i:Nat):(List.replicate n (0:Int)).getD i 0=0:=by
 rw[List.getD_eq_getElem?_getD,List.getElem?_replicate]
 split<;>rfl
theorem tagsB_new (L f n x:Nat)(h:f+n * (x+1)≤L):TagsB (putL (List.replicate L 0) f (List.replicate (n * (x+1)) 0)) f n x (List.replicate n (-1)):=by
 have hr:∀ k,k<n→(List.replicate n (-1:Int)).getD k 0 = -1:=fun k hk=>by rw[List.getD_eq_getElem?_getD,List.getElem?_replicate,if_pos hk];rfl
 refine⟨List.length_replicate,fun k hk=>?_,fun k hk=>by rw[hr k hk];omega⟩
 rw[hr k hk,putL_get (by rw[List.length_replicate,List.length_replicate];exact h)]
 split<;>rw[rep_getD]<;>rfl
theorem drq_set {w:World}{bd:Nat}{h:Hd}{xv tv sv lv v13 v14 v15 v16:Value}(r:w.rowIs bd 137 25 (drq h xv tv sv lv v13 v14 v15 v16))(v:Value):
 (w.setCell ⟨bd,14,none⟩ v).rowIs bd 137 25 (drq h xv tv sv lv v13 v v15 v16)∧(w.setCell ⟨bd,15,none⟩ v).rowIs bd 137 25 (drq h xv tv sv lv v13 v14 v v16)∧(w.setCell ⟨bd,16,none⟩ v).rowIs bd 137 25 (drq h xv tv sv lv v13 v14 v15 v):=by
 refine⟨(World.rowIs.set r 14 v).congr fun i hi=>?_,(World.rowIs.set r 15 v).congr fun i hi=>?_,(World.rowIs.set r 16 v).congr fun i hi=>?_⟩ <;>
  rcases twenty5 hi with(rfl|rfl|rfl|rfl|rfl|rfl|rfl|rfl|rfl|rfl|rfl|rfl|rfl)|rfl|rfl|rfl|rfl|rfl|rfl|rfl|rfl|rfl|rfl|rfl|rfl<;>rfl
theorem dbase0 (bd:Nat)(m:Int)(w:World)(c4:w.cell? ⟨bd,4,none⟩=some (.int .i64 m))(h3:m≠3):Calls Tryz.prog 103 #[.pointer (some ⟨bd,0,none⟩)] w fun e w'=>e=.returned (.bool false)∧w'=w:=by
 have hm:(m==3)=false:=beq_eq_false_iff_ne.2 h3
 go_enter Tryz.func103,Tryz.ntmps103
 go_wp2_with fail
 go_ret
 exact⟨rfl,rfl⟩
theorem dnew (h:Hd)(w:World)(hM:HdM w h)(hp:PlOk h)(hm3:h.mode≠3):
 Calls Tryz.prog 61 #[.agg h.v] w fun e w'=>∃ D xA xc tA tc sA sc lA lc,e=.returned (.tuple #[.pointer (some ⟨Ds.bd D,0,none⟩),.int .i64 0])∧D.h=h.at_ xA xc tA tc sA sc lA lc∧DrM w' D (Dy.new D)∧(∀ b,D.own b→w.heap.size≤b)∧KW w w':=by
 have hk0:=(KW.refl w).alloc (.cells h.v 27)
 have hb:=hp.1.bounds
 have hso:=slots_ok h hp
 have HPs:=hid (dplans h _ (hM.kw hk0) hp)
 obtain⟨L,hL⟩:∃ L:Nat,h.words=L:=⟨h.words.toNat,by omega⟩
 have hL0:L=h.words.toNat:=by omega
 have h8:=plN8 h
 have hfx:1≤fixW h:=by
  have h0:plN h 7=fixW h:=rfl
  have h1:plN h 2=plN h 1+szN h 1:=plN_succ h 1 (by omega)
  have h2:=plN_mono h (i:=2) (j:=7) (by omega) (by omega)
  have h3:szN h 1=h.xs.length:=rfl
  omega
 have hsx:sltW h=h.xs.length+1:=by unfold sltW szl;simp only[List.getD_cons_succ,List.getD_cons_zero];exact if_neg hm3
 have hnI:((slotsW h).toNat:Int)=slotsW h:=Int.toNat_of_nonneg hso.1
 have hfit:plN h 8+(slotsW h).toNat * (h.xs.length+1)≤L:=by
  have h1:=hso.2.2.1
  rw[hsx,← hnI,hL] at h1
  have h6:((plN h 8+(slotsW h).toNat * (h.xs.length+1):Nat):Int)≤L:=by
   rw[h8]
   push_cast
   have:((h.xs.length:Int)+1) * (slotsW h).toNat=(slotsW h).toNat * (h.xs.length+1):=Int.mul_comm _ _
   push_cast at h1
   omega
  omega
 obtain⟨nS,hnS⟩:∃ nS,(slotsW h).toNat=nS:=⟨_,rfl⟩
 rw[hnS] at hfit hnI
 have HnS:=hid hnS
 have hn20:nS≤1048576:=by omega
 clear hnS
 have HAr:=hid (fun W=>arNew_any L W (by omega) (by omega))
 have HMt:=hid (fun W=>mnew_any L W (by omega))
 have HB0:=hid (hdF_new w h (.slice h.xA h.xs.length h.xc) (.slice h.tA h.ts.length h.tc) (.slice h.st.A h.st.l.length h.st.c) (.slice h.lo.A h.lo.l.length h.lo.c))
 have HK0:Hid (KW w (w.alloc (.cells #[.int .i64 h.mode,.slice h.xA h.xs.length h.xc,.slice h.tA h.ts.length h.tc,.int .i64 h.st.n,.slice h.st.A h.st.l.length h.st.c,.int .i64 h.lo.n,.slice h.lo.A h.lo.l.length h.lo.c,.int .i64 h.len,.int .i64 h.words] 27))):=hid hk0
 have hs0:(w.alloc (.cells #[.int .i64 h.mode,.slice h.xA h.xs.length h.xc,.slice h.tA h.ts.length h.tc,.int .i64 h.st.n,.slice h.st.A h.st.l.length h.st.c,.int .i64 h.lo.n,.slice h.lo.A h.lo.l.length h.lo.c,.int .i64 h.len,.int .i64 h.words] 27)).heap.size=w.heap.size+1:=by simp
 have HS0:=hid hs0
 have HHM:=hid hM
 have HP:=hid hp
 have HL:=hid hL
 have HL0:=hid hL0
 have HSx:=hid hsx
 have HNI:=hid hnI
 have HH8:=hid h8
 have HB:=hid hb
 clear hk0 hs0 hM hp hL hL0 hsx hnI h8 hb
 unfold Hd.v hdv at *
 go_enter Tryz.func61,Tryz.ntmps61
 go_wp2_with fail
 refine HPs.out.mono ?_
 rintro e w1 ⟨bd,bp,cp,xA,xc,tA,tc,sA,sc,lA,lc,rfl,hrd,hhm,hsep,hpr,hbd,hbp,hk1⟩
 rw[HS0.out] at hbd hsep
 have HRD:=hid hrd
 have HHM1:=hid hhm
 have HSep:=hid hsep
 have HPr:=hid hpr
 have hbd1:bd<w1.heap.size:=hrd.lt
 have hbp1:bp<w1.heap.size:=World.cell?_lt (hpr 0 (by omega))
 have HK1:=hid (HK0.out.t hk1)
 have HB1:=hid (KW.row hk1 HB0.out.lt HB0.out)
 clear hrd hhm hsep hpr hk1 HPs HB0 HK0 HS0
 have b8:w1.cell? ⟨w.heap.size,8,none⟩=some (.int .i64 L):=by rw[← HL.out];exact HB1.out.cell (i:=8) (by omega)
 go_wp2_with fail
 refine(HAr.out w1).mono ?_
 rintro e w2 ⟨rfl,ha2,hk2⟩
 obtain⟨K1,hK1⟩:∃ K1,w1.heap.size=K1:=⟨_,rfl⟩
 rw[hK1] at ha2 hbd1 hbp1 ⊢
 have HA2:=hid ha2
 have HK2:Hid (Keep (fun b=>b=bd∨K1≤b) w1 w2):=hid hk2.keep
 have HR2:=hid (KW.row hk2 HRD.out.lt HRD.out)
 have hs2:=ha2.cells.1
 clear ha2 hk2 b8
 have c14:w2.cell? ⟨bd,14,none⟩=some (.pointer none):=HR2.out.cell (i:=14) (by omega)
 have f14:w2.frozen? ⟨bd,14,none⟩=false:=HR2.out.frozen 14
 have hks:Keep (· = bd) w2 (w2.setCell ⟨bd,14,none⟩ (.pointer (some ⟨K1+1,0,none⟩))):=(Keep.refl _ w2).setCell _ _ rfl
 have HA3:=hid (HA2.out.keep hks (by omega) (by omega))
 have HR3:=hid (drq_set HR2.out (.pointer (some ⟨K1+1,0,none⟩))).1
 have HK3:=hid (HK2.out.t (hks.mono fun b _ e=>.inl e))
 clear hks HA2 HR2 HK2
 go_upto_region 5 with(fail)
 clear c14 f14
 generalize w2.setCell ⟨bd,14,none⟩ (.pointer (some ⟨K1+1,0,none⟩))=w3 at *
 have HB3:=hid (HK3.out.row (by omega) HB1.out)
 have b8:w3.cell? ⟨w.heap.size,8,none⟩=some (.int .i64 L):=by rw[← HL.out];exact HB3.out.cell (i:=8) (by omega)
 have hs3:=HA3.out.cells.1
 go_wp2_with fail
 refine(HMt.out w3).mono ?_
 rintro e w4 ⟨rfl,rfl⟩
 have hk4:=(KW.refl w3).alloc (.cells #[.int .i64 0,.int .i64 0,.int .i64 L] 191)
 have HM4:=hid (MetM.new w3 0 0 L)
 have HA4:=hid (HA3.out.kw hk4)
 have HR4:=hid (KW.row hk4 HR3.out.lt HR3.out)
 have HK4:=hid (HK3.out.kwt hk4)
 have HB4:=hid (KW.row hk4 HB3.out.lt HB3.out)
 have hs4:(w3.alloc (.cells #[.int .i64 0,.int .i64 0,.int .i64 L] 191)).heap.size=w3.heap.size+1:=by simp
 have HS4:=hid hs4
 clear hk4 hs4 HA3 HR3 HK3 HB3 b8 HAr HMt
 generalize w3.alloc (.cells #[.int .i64 0,.int .i64 0,.int .i64 L] 191)=w4 at *
 obtain⟨bm,hbm⟩:∃ bm,w3.heap.size=bm:=⟨_,rfl⟩
 rw[hbm] at HM4 HS4 hs3 ⊢
 clear hbm
 have c16:w4.cell? ⟨bd,16,none⟩=some (.pointer none):=HR4.out.cell (i:=16) (by omega)
 have f16:w4.frozen? ⟨bd,16,none⟩=false:=HR4.out.frozen 16
 have hks:Keep (· = bd) w4 (w4.setCell ⟨bd,16,none⟩ (.pointer (some ⟨bm,0,none⟩))):=(Keep.refl _ w4).setCell _ _ rfl
 have HA5:=hid (HA4.out.keep hks (by omega) (by omega))
 have HM5:=hid (HM4.out.keep hks (by omega))
 have HR5:=hid (drq_set HR4.out (.pointer (some ⟨bm,0,none⟩))).2.2
 have HK5:=hid (HK4.out.t (hks.mono fun b _ e=>.inl e))
 have HB5:=hid (hks.row (by omega) HB4.out)
 clear hks HA4 HR4 HK4 HM4 HB4
 go_upto_region 6 with(fail)
 clear c16 f16
 generalize w4.setCell ⟨bd,16,none⟩ (.pointer (some ⟨bm,0,none⟩))=w5 at *
 go_wp2_with fail
 have HC6:Hid (∀ W:World,W.rowIs bd 137 25 (drq h (.slice xA h.xs.length xc) (.slice tA h.ts.length tc) (.slice sA h.st.l.length sc) (.slice lA h.lo.l.length lc) (.slice (some ⟨bp,0,none⟩) 10 cp) (.pointer (some ⟨K1+1,0,none⟩)) (.pointer none) (.pointer (some ⟨bm,0,none⟩)))→W.cell? ⟨bd,16,none⟩=some (.pointer (some ⟨bm,0,none⟩))∧W.cell? ⟨bd,0,none⟩=some (.int .i64 (fixW h))):=hid fun W r=>⟨r.cell (i:=16) (by omega),r.cell (i:=0) (by omega)⟩
 have hXS:=HC6.out w5.drew HR5.out
 refine wpX_region (S:=fun W=>W.cell? ⟨bd,16,none⟩=some (.pointer (some ⟨bm,0,none⟩))∧W.cell? ⟨bd,0,none⟩=some (.int .i64 (fixW h))) (L:=99) (by kernel_rfl) ?_
 refine tk 0 ?_ (fun _ _=>?_) hXS ?_;rotate_left;· go_simp;try rfl
 simp only[lsz,lss]
 refine tk 1 ?_ (fun _ _=>?_) hXS ?_;rotate_left;· go_simp;try rfl
 simp only[lsz,lss]
 refine tk 2 ?_ (fun _ _=>?_) hXS ?_;rotate_left;· go_simp;try rfl
 simp only[lsz,lss]
 refine tk 3 ?_ (fun _ _=>?_) hXS ?_;rotate_left;· go_simp;try rfl
 simp only[lsz,lss]
 refine tk 4 ?_ (fun _ _=>?_) hXS ?_;rotate_left;· go_simp;try rfl
 simp only[lsz,lss]
 refine tk 5 ?_ (fun _ _=>?_) hXS ?_;rotate_left;· go_simp;try rfl
 simp only[lsz,lss]
 refine tk 6 ?_ (fun _ _=>?_) hXS ?_;rotate_left;· go_simp;try rfl
 simp only[lsz,lss]
 refine tk 7 ?_ (fun _ _=>?_) hXS ?_;rotate_left;· go_simp;try rfl
 simp only[lsz,lss]
 refine tk 8 ?_ (fun _ _=>?_) hXS ?_;rotate_left;· go_simp;try rfl
 simp only[lsz,lss]
 have hfl:(fixW h:Int)≤L:=by have:=HH8.out;omega
 have hL20:(L:Int)≤1048576:=by have:=HB.out.2.2.2.2.2.2.2.2;have:=HL.out;omega
 refine wpX_hard (k:=9) (by kernel_rfl) rfl (fun K hK=>?_)
 go_simp
 refine(hold_any bm 0 0 L (fixW h) w5.drew (HM5.out.kw (KW.refl w5).drew) ⟨by omega,by omega⟩ (by omega) ⟨by omega,by omega⟩).mono ?_
 rintro e w6 ⟨rfl,hm6,hk6'⟩
 have hk6:Keep (· = bm) w5 w6:=(KW.refl w5).drew.kt hk6'
 have HM6:Hid (MetM w6 bm (fixW h) (fixW h) L):=hid (by
  have e1:(0:Int)+fixW h=fixW h:=by omega
  have e2:max (0:Int) (0+fixW h)=fixW h:=by omega
  rw[e2,e1] at hm6
  exact hm6)
 have HA6:=hid (HA5.out.keep hk6 (by omega) (by omega))
 have HR6:=hid (hk6.row (by omega) HR5.out)
 have HK6:=hid (HK5.out.t (hk6.mono fun b _ e=>.inr (by omega)))
 have HB6:=hid (hk6.row (by omega) HB5.out)
 refine hK _ _ (fun _=>HC6.out w6 HR6.out) ?_
 clear hK K hm6 hk6 hk6' HM5 HA5 HR5 HK5 HB5 hXS
 try simp only[lsz,lss]
 refine wpX_done (by kernel_rfl) ?_
 go_wp2_with fail
 have HP8:Hid (∀ W,Keep (fun b=>b=bd∨K1≤b) w1 W→W.cell? ⟨bp,8,none⟩=some (.int .i64 (plN h 8:Nat))):=hid fun W hW=>by
  have h1:=HPr.out 8 (by omega)
  rw[psl_get h 8 (by omega)] at h1
  exact hW.cs (by omega) h1
 have HC7:Hid (∀ W:World,W.rowIs bd 137 25 (drq h (.slice xA h.xs.length xc) (.slice tA h.ts.length tc) (.slice sA h.st.l.length sc) (.slice lA h.lo.l.length lc) (.slice (some ⟨bp,0,none⟩) 10 cp) (.pointer (some ⟨K1+1,0,none⟩)) (.pointer none) (.pointer (some ⟨bm,0,none⟩)))→Keep (fun b=>b=bd∨K1≤b) w1 W→W.cell? ⟨bd,14,none⟩=some (.pointer (some ⟨K1+1,0,none⟩))∧W.cell? ⟨bd,13,none⟩=some (.slice (some ⟨bp,0,none⟩) 10 cp)∧W.cell? ⟨bp,8,none⟩=some (.int .i64 (plN h 8:Nat))):=hid fun W r hW=>⟨r.cell (i:=14) (by omega),r.cell (i:=13) (by omega),HP8.out W hW⟩
 have hXS:=HC7.out w6.drew HR6.out HK6.out.drew
 refine wpX_region (S:=fun W=>W.cell? ⟨bd,14,none⟩=some (.pointer (some ⟨K1+1,0,none⟩))∧W.cell? ⟨bd,13,none⟩=some (.slice (some ⟨bp,0,none⟩) 10 cp)∧W.cell? ⟨bp,8,none⟩=some (.int .i64 (plN h 8:Nat))) (L:=99) (by kernel_rfl) ?_
 refine tk 0 ?_ (fun _ _=>?_) hXS ?_;rotate_left;· go_simp;try rfl
 simp only[lsz,lss]
 refine tk 1 ?_ (fun _ _=>?_) hXS ?_;rotate_left;· go_simp;try rfl
 simp only[lsz,lss]
 refine tk 2 ?_ (fun _ _=>?_) hXS ?_;rotate_left;· go_simp;try rfl
 simp only[lsz,lss]
 refine tk 3 ?_ (fun _ _=>?_) hXS ?_;rotate_left;· go_simp;try rfl
 simp only[lsz,lss]
 refine tk 4 ?_ (fun _ _=>?_) hXS ?_;rotate_left;· go_simp;try rfl
 simp only[lsz,lss]
 refine tk 5 ?_ (fun _ _=>?_) hXS ?_;rotate_left;· go_simp;try rfl
 simp only[lsz,lss]
 refine tk 6 ?_ (fun _ _=>?_) hXS ?_;rotate_left;· go_simp;try rfl
 simp only[lsz,lss]
 refine tk 7 ?_ (fun _ _=>?_) hXS ?_;rotate_left;· go_simp;try rfl
 simp only[lsz,lss]
 refine tk 8 ?_ (fun _ _=>?_) hXS ?_;rotate_left;· go_simp;try rfl
 simp only[lsz,lss]
 refine tk 9 ?_ (fun _ _=>?_) hXS ?_;rotate_left;· go_simp;try rfl
 simp only[lsz,lss]
 refine wpX_hard (k:=10) (by kernel_rfl) rfl (fun K hK=>?_)
 go_simp
 refine(arTake_any (K1+1) K1 L 0 (List.replicate L 0) (plN h 8) w6.drew (HA6.out.kw (KW.refl w6).drew) (by omega)).mono ?_
 rintro e w7 ⟨rfl,ha7,hk7'⟩
 have hk7:Keep (· = K1+1) w6 w7:=(KW.refl w6).drew.kt hk7'
 have HA7:Hid (ArM w7 (K1+1) K1 L (List.replicate L 0) (plN h 8)):=hid (by rw[Nat.zero_add] at ha7;exact ha7)
 have HM7:=hid (HM6.out.keep hk7 (by omega))
 have HR7:=hid (hk7.row (by omega) HR6.out)
 have HK7:=hid (HK6.out.t (hk7.mono fun b _ e=>.inr (by omega)))
 have HB7:=hid (hk7.row (by omega) HB6.out)
 refine hK _ _ (fun _=>HC7.out w7 HR7.out HK7.out) ?_
 clear hK K ha7 hk7 hk7' HM6 HA6 HR6 HK6 HB6 hXS
 try simp only[lsz,lss]
 refine wpX_done (by kernel_rfl) ?_
 have HBs:=hid (dbase0 bd h.mode w7 (HR7.out.cell (i:=4) (by omega)) hm3)
 go_wp2_with fail
 refine HBs.out.mono ?_
 rintro e w8 ⟨rfl,rfl⟩
 clear HBs
 go_wp2_with fail
 have HCa:Hid (∀ W:World,W.rowIs bd 137 25 (drq h (.slice xA h.xs.length xc) (.slice tA h.ts.length tc) (.slice sA h.st.l.length sc) (.slice lA h.lo.l.length lc) (.slice (some ⟨bp,0,none⟩) 10 cp) (.pointer (some ⟨K1+1,0,none⟩)) (.pointer none) (.pointer (some ⟨bm,0,none⟩)))→W.rowIs w.heap.size 27 9 (hdF h (.slice h.xA h.xs.length h.xc) (.slice h.tA h.ts.length h.tc) (.slice h.st.A h.st.l.length h.st.c) (.slice h.lo.A h.lo.l.length h.lo.c))→W.cell? ⟨bd,14,none⟩=some (.pointer (some ⟨K1+1,0,none⟩))∧W.cell? ⟨bd,3,none⟩=some (.int .i64 (nS:Nat))∧W.cell? ⟨w.heap.size,1,none⟩=some (.slice h.xA h.xs.length h.xc)):=hid fun W r rb=>⟨r.cell (i:=14) (by omega),by rw[HNI.out];exact r.cell (i:=3) (by omega),rb.cell (i:=1) (by omega)⟩
 have hXS:=HCa.out w8.drew HR7.out HB7.out
 refine wpX_region (S:=fun W=>W.cell? ⟨bd,14,none⟩=some (.pointer (some ⟨K1+1,0,none⟩))∧W.cell? ⟨bd,3,none⟩=some (.int .i64 (nS:Nat))∧W.cell? ⟨w.heap.size,1,none⟩=some (.slice h.xA h.xs.length h.xc)) (L:=99) (by kernel_rfl) ?_
 refine tk 0 ?_ (fun _ _=>?_) hXS ?_;rotate_left;· go_simp;try rfl
 simp only[lsz,lss]
 refine tk 1 ?_ (fun _ _=>?_) hXS ?_;rotate_left;· go_simp;try rfl
 simp only[lsz,lss]
 refine tk 2 ?_ (fun _ _=>?_) hXS ?_;rotate_left;· go_simp;try rfl
 simp only[lsz,lss]
 refine tk 3 ?_ (fun _ _=>?_) hXS ?_;rotate_left;· go_simp;try rfl
 simp only[lsz,lss]
 refine tk 4 ?_ (fun _ _=>?_) hXS ?_;rotate_left;· go_simp;try rfl
 simp only[lsz,lss]
 refine tk 5 ?_ (fun _ _=>?_) hXS ?_;rotate_left;· go_simp;try rfl
 simp only[lsz,lss]
 refine tk 6 ?_ (fun _ _=>?_) hXS ?_;rotate_left;· go_simp;try rfl
 simp only[lsz,lss]
 refine tk 7 ?_ (fun _ _=>?_) hXS ?_;rotate_left;· go_simp;try rfl
 simp only[lsz,lss]
 refine tk 8 ?_ (fun _ _=>?_) hXS ?_;rotate_left;· go_simp;try rfl
 simp only[lsz,lss]
 refine tk 9 ?_ (fun _ _=>?_) hXS ?_;rotate_left;· go_simp;try rfl
 simp only[lsz,lss]
 refine tk 10 ?_ (fun _ _=>?_) hXS ?_;rotate_left;· go_simp;try rfl
 simp only[lsz,lss]
 refine tk 11 ?_ (fun _ _=>?_) hXS ?_;rotate_left;· go_simp;try rfl
 simp only[lsz,lss]
 refine tk 12 ?_ (fun _ _=>?_) hXS ?_;rotate_left;· go_simp;try rfl
 simp only[lsz,lss]
 have hx64:=HB.out.2.2.2.1
 refine wpX_hard (k:=13) (by kernel_rfl) rfl (fun K hK=>?_)
 go_simp
 refine(sltNew_any (K1+1) K1 L (plN h 8) nS h.xs.length (List.replicate L 0) w8.drew (HA7.out.kw (KW.refl w8).drew) hn20 hx64.1 hx64.2 hfit).mono ?_
 rintro e w9 ⟨bs,rfl,hbs,hs9,ha9,hk9'⟩
 have hk9:Keep (fun b=>b=K1+1∨b=K1) w8 w9:=(KW.refl w8).drew.kt hk9'
 have hbs':w8.heap.size≤bs:=hbs
 have HS9:=hid hs9
 have HA9:=hid ha9
 have HM9:=hid (HM7.out.keep hk9 (by omega))
 have HR9:=hid (hk9.row (by omega) HR7.out)
 have HK9:=hid (HK7.out.t (hk9.mono fun b _ e=>.inr (by omega)))
 have HB9:=hid (hk9.row (by have:=HB1.out.lt;omega) HB7.out)
 have hm8:=HM7.out.lt
 have hs9l:=hs9.cells.1
 refine hK _ _ (fun _=>HCa.out w9 HR9.out HB9.out) ?_
 have hXS:=HCa.out w9 HR9.out HB9.out
 clear hK K hs9 ha9 hk9 hk9' HM7 HA7 HR7 HK7 HB7 hbs
 try simp only[lsz,lss]
 refine tk 14 ?_ (fun _ _=>?_) hXS ?_;rotate_left;· go_simp;try rfl
 simp only[lsz,lss]
 refine tk 15 ?_ (fun _ _=>?_) hXS ?_;rotate_left;· go_simp;try rfl
 simp only[lsz,lss]
 refine tk 16 ?_ (fun _ _=>?_) hXS ?_;rotate_left;· go_simp;try rfl
 simp only[lsz,lss]
 refine tk 17 ?_ (fun _ _=>?_) hXS ?_;rotate_left;· go_simp;try rfl
 simp only[lsz,lss]
 refine tk 18 ?_ (fun _ _=>?_) hXS ?_;rotate_left;· go_simp;try rfl
 simp only[lsz,lss]
 have c15:w9.cell? ⟨bd,15,none⟩=some (.pointer none):=HR9.out.cell (i:=15) (by omega)
 have f15:w9.frozen? ⟨bd,15,none⟩=false:=HR9.out.frozen 15
 have hks:Keep (· = bd) w9 (w9.setCell ⟨bd,15,none⟩ (.pointer (some ⟨bs,0,none⟩))):=(Keep.refl _ w9).setCell _ _ rfl
 have HAf:=hid (HA9.out.keep hks (by omega) (by omega))
 have HMf:=hid (HM9.out.keep hks (by omega))
 have HSf:=hid (HS9.out.keep hks (by omega))
 have HRf:=hid (drq_set HR9.out (.pointer (some ⟨bs,0,none⟩))).2.1
 have HKf:=hid (HK9.out.t (hks.mono fun b _ e=>.inl e))
 have HBf:=hid (hks.row (by have:=HB1.out.lt;omega) HB9.out)
 refine wpX_hard (k:=19) (by kernel_rfl) rfl (fun K hK=>?_)
 go_simp
 refine hK _ _ (fun _=>⟨HRf.out.cell (i:=14) (by omega),by rw[HNI.out];exact HRf.out.cell (i:=3) (by omega),HBf.out.cell (i:=1) (by omega)⟩) ?_
 clear hK K c15 f15 hks HS9 HA9 HM9 HR9 HK9 HB9 hXS
 try simp only[lsz,lss]
 refine wpX_done (by kernel_rfl) ?_
 generalize w9.setCell ⟨bd,15,none⟩ (.pointer (some ⟨bs,0,none⟩))=wf at *
 obtain⟨D,hDe⟩:∃ D:Ds,D=⟨bd,bp,cp,K1+1,K1,bs,bm,h.at_ xA xc tA tc sA sc lA lc⟩:=⟨_,rfl⟩
 have hDn:D.n=nS:=by rw[hDe];exact HnS.out
 have hDL:D.L=L:=by rw[hDe];exact HL0.out.symm
 have hKw:Keep (fun b=>w.heap.size≤b) w wf:=(HK1.out.keep (own:=fun b=>w.heap.size≤b)).t (HKf.out.mono fun b _ e=>by have:=HK1.out.size;omega)
 have HKW:=hid (hKw.mono (own':=fun _=>False) fun b hb e=>by omega).kw
 have hdm:DrM wf D ⟨putL (List.replicate D.L 0) D.f (List.replicate (D.n * (D.x+1)) 0),List.replicate D.n (-1),fixW D.h,fixW D.h,D.h.len.toNat,0,-1,0,0,0,0,0⟩:=by
  have hgv:D.given=plN h 8+nS * (h.xs.length+1):=by unfold Ds.given;rw[hDn,hDe];rfl
  refine⟨⟨?_,?_,?_,?_,?_,?_,?_⟩,?_,?_,?_,?_,?_,?_,?_⟩
  ·rw[hDe];exact Hd.at_ok HP.out ..
  ·rw[hDe];exact hm3
  ·rw[hDe];exact⟨by show bd≠K1;omega,by show bd≠bm;omega,by show K1≠bm;omega⟩
  ·rw[hDe];rintro(e|e|e)
   ·have e:bp=bd:=e;omega
   ·have e:bp=K1:=e;omega
   ·have e:bp=bm:=e;omega
  ·rw[hDe];rintro(e|e|e)
   ·have e:K1+1=bd:=e;omega
   ·have e:K1+1=K1:=e;omega
   ·have e:K1+1=bm:=e;omega
  ·rw[hDe];rintro(e|e|e)
   ·have e:bs=bd:=e;omega
   ·have e:bs=K1:=e;omega
   ·have e:bs=bm:=e;omega
  ·rw[hDe]
   refine HSep.out.mono fun b e=>?_
   rcases e with e|e|e
   ·have e:b=bd:=e;omega
   ·have e:b=K1:=e;omega
   ·have e:b=bm:=e;omega
  ·rw[hDe]
   refine HRf.out.congr fun i hi=>?_
   rcases twenty5 hi with(rfl|rfl|rfl|rfl|rfl|rfl|rfl|rfl|rfl|rfl|rfl|rfl|rfl)|rfl|rfl|rfl|rfl|rfl|rfl|rfl|rfl|rfl|rfl|rfl|rfl<;>(first|rfl|skip)
   show Value.int .i64 h.len=Value.int .i64 ((h.len.toNat:Nat):Int)
   rw[Int.toNat_of_nonneg HB.out.2.2.2.2.2.2.1.1]
  ·rw[hDe]
   exact HHM1.out.keep HKf.out (HSep.out.mono fun b e=>by omega)
  ·rw[hDe]
   exact fun i hi=>HKf.out.cs (show ¬ (bp=bd∨K1≤bp) by omega) (HPr.out i hi)
  ·rw[hgv,hDL,hDn,hDe];exact HAf.out
  ·rw[hDn,hDe];exact HSf.out
  ·rw[hDe];show MetM wf bm _ _ h.words;rw[HL.out];exact HMf.out
  ·rw[hDL,hDn]
   exact tagsB_new L D.f nS D.x (by rw[hDe];exact hfit)
 have HDM:=hid hdm
 have HDe:=hid hDe
 have hbdD:D.bd=bd:=by rw[hDe]
 have hown:∀ b,D.own b→w.heap.size≤b:=fun b e=>by
  have:=HK1.out.size
  rw[hDe] at e
  rcases e with e|e|e
  ·have e:b=bd:=e;omega
  ·have e:b=K1:=e;omega
  ·have e:b=bm:=e;omega
 have HOwn:=hid hown
 have hts:D.h.ts=h.ts∧D.h.xs=h.xs:=by rw[hDe];exact⟨rfl,rfl⟩
 have HTs:=hid hts
 clear hDe hdm hown hts hDn hDL hKw HAf HMf HSf HRf HKf
 rw[← hbdD]
 clear hbdD
 have b2:wf.cell? ⟨w.heap.size,2,none⟩=some (.slice h.tA h.ts.length h.tc):=HBf.out.cell (i:=2) (by omega)
 have HUt:=hid (row1_hu (HHM.out.kw HKW.out).t HHM.out.t0)
 have HP1:=hid (dput D _ 0 h.ts _ wf HDM.out (by omega) HUt.out (by show _≤D.h.ts.length;rw[HTs.out.1];exact Nat.le_refl _))
 go_wp2_with fail
 refine HP1.out.mono ?_
 rintro e wg ⟨rfl,hdg,hkg⟩
 have HDG:=hid hdg
 have hgK:w.heap.size≠D.bw:=by
  have:=HK1.out.size
  have h1:D.bw=K1:=by rw[HDe.out]
  have:=HB1.out.lt
  omega
 have HBg:=hid (hkg.row hgK HBf.out)
 have hgo:=fun i (e:i=D.bw)=>HOwn.out i (.inr (.inl e))
 have HKG:=hid (HKW.out.kept hkg hgo)
 clear hdg hkg HP1 HDM HKW HBf b2 HUt
 have b1:wg.cell? ⟨w.heap.size,1,none⟩=some (.slice h.xA h.xs.length h.xc):=HBg.out.cell (i:=1) (by omega)
 have HUx:=hid (row1_hu (HHM.out.kw HKG.out).x HHM.out.x0)
 have HP2:=hid (dput D _ 1 h.xs _ wg HDG.out (by omega) HUx.out (by show _≤D.h.xs.length;rw[HTs.out.2];exact Nat.le_refl _))
 go_wp2_with fail
 refine HP2.out.mono ?_
 rintro e wh ⟨rfl,hdh,hkh⟩
 have HDH:=hid hdh
 have HKH:=hid (HKG.out.kept hkh hgo)
 clear hdh hkh HP2 HDG HKG HBg b1 HUx
 go_wp2_with fail
 go_ret2
 refine⟨D,xA,xc,tA,tc,sA,sc,lA,lc,rfl,by rw[HDe.out],?_,HOwn.out,HKH.out⟩
 unfold Dy.new
 rw[HTs.out.1,HTs.out.2]
 exact HDH.out
def enf (F:FuncId)(D:Ds)(ended:Bool):Nat→Value
 | 0=>.pointer (some ⟨D.bd,0,none⟩)
 | 1=>.int .i64 D.h.mode
 | 2=>.func (.func F) #[] #[]
 | 3=>.bool ended
 | _=>.bool false
theorem five' {i:Nat}(hi:i<5):i=0∨i=1∨i=2∨i=3∨i=4:=by omega
structure EnM (w:World)(be:Nat)(F:FuncId)(D:Ds)(S:Dy)(ended:Bool):Prop where
 row:w.rowIs be 123 5 (enf F D ended)
 dr:DrM w D S
 low:DrLow D be
theorem EnM.kw {w w':World}{be:Nat}{F:FuncId}{D:Ds}{S:Dy}{ended:Bool}(h:EnM w be F D S ended)(hk:KW w w'):EnM w' be F D S ended:=⟨KW.row hk h.row.lt h.row,h.dr.kw hk,h.low⟩
theorem EnM.drive {w w':World}{be:Nat}{F:FuncId}{D:Ds}{S S':Dy}{ended:Bool}(h:EnM w be F D S ended)(hd:DrM w' D S')(hk:Keep D.own w w'):EnM w' be F D S' ended:=⟨hk.row (h.low.own (Nat.le_refl _)) h.row,hd,h.low⟩
theorem EnM.end_ {w:World}{be:Nat}{F:FuncId}{D:Ds}{S:Dy}{ended:Bool}(h:EnM w be F D S ended)(b:Bool):EnM (w.setCell ⟨be,3,none⟩ (.bool b)) be F D S b:=
 ⟨(World.rowIs.set h.row 3 (.bool b)).congr fun i hi=>by rcases five' hi with rfl|rfl|rfl|rfl|rfl<;>rfl,h.dr.keepK h.low ((Keep.refl (· = be) w).setCell _ _ rfl) fun b e=>by omega,h.low⟩
theorem EnM.cell {w:World}{be:Nat}{F:FuncId}{D:Ds}{S:Dy}{ended:Bool}(h:EnM w be F D S ended){i:Nat}(hi:i<5):w.cell? ⟨be,i,none⟩=some (enf F D ended i):=World.rowIs.cell h.row hi
section
variable {P : Program} {ops : Array Oper} {Q : Exit → Act → World → Prop}
theorem store_row {rest:List Oper}{o:Oper}{a:Act}{W:World}(hgd:o.guard=none){ty:TypeId}{x y:Operand}(ho:o.op=.store ty x y){g n:Nat}{f:Nat→Value}{cells:Array Value}(hx:a.eval x=.pointer (some ⟨g,0,none⟩))(hy:a.eval y=.agg cells)
 (hr:W.rowIs g ty n f) (hi:(P.info? ty).map (·.size)=some n) (hn:cells.size=n) (h1:∀ i,i<n→(cells.getD i undef).oneCell'=true) (h:∀ W',W'.heap[g]?=some (.cells cells ty (0,0))→Keep (· = g) W W'→wpList P ops Q rest (a.put o.dst undef) W'):wpList P ops Q (o::rest) a W:=
 wpList_store_is hgd ty x y ho g n ty f (fun i=>cells.getD i undef) cells hx hy hr hi hn (fun i hi=>by
  rw[Array.getD_eq_getD_getElem?,Array.getElem?_eq_getElem (by omega)]
  rfl) h1 fun W' hr hk _=>h W' (by
  obtain⟨c,hb,hs,hc⟩:=hr
  rw[hb]
  have:c=cells:=by
   apply Array.ext (by omega)
   intro i h1 h2
   have:=hc i (by omega)
   rw[Array.getElem?_eq_getElem h1] at this
   have e:=Option.some.inj this
   rw[e]
   show cells.getD i undef=_
   rw[Array.getD_eq_getD_getElem?,Array.getElem?_eq_getElem h2]
   rfl
  rw[this]) hk
end
theorem eown (be:Nat)(F:FuncId)(D:Ds)(S:Dy)(b:Bool)(w:World)(h:EnM w be F D S b):Calls Tryz.prog 45 #[.pointer (some ⟨be,0,none⟩)] w fun e w'=>e=.returned (.pointer (some ⟨D.bd,0,none⟩))∧w'=w:=by
 have c0:w.cell? ⟨be,0,none⟩=some (.pointer (some ⟨D.bd,0,none⟩)):=h.cell (i:=0) (by omega)
 clear h
 go_enter Tryz.func45,Tryz.ntmps45
 go_wp2_with fail
 go_ret
 exact⟨rfl,rfl⟩
theorem elen (be:Nat)(F:FuncId)(D:Ds)(S:Dy)(b:Bool)(w:World)(h:EnM w be F D S b):Calls Tryz.prog 144 #[.pointer (some ⟨be,0,none⟩)] w fun e w'=>e=.returned (.int .i64 S.l)∧w'=w:=by
 have HO:=hid (eown be F D S b w h)
 have HL:=hid (dlen D S w h.dr)
 clear h
 go_enter Tryz.func144,Tryz.ntmps144
 go_wp2_with fail
 refine HO.out.mono ?_
 rintro e w1 ⟨rfl,rfl⟩
 go_wp2_with fail
 refine HL.out.mono ?_
 rintro e w1 ⟨rfl,rfl⟩
 go_wp2_with fail
 go_ret
 exact⟨rfl,rfl⟩
theorem elive (be:Nat)(F:FuncId)(D:Ds)(S:Dy)(b:Bool)(w:World)(h:EnM w be F D S b):Calls Tryz.prog 29 #[.pointer (some ⟨be,0,none⟩)] w fun e w'=>e=.returned (.int .i64 S.now)∧w'=w:=by
 have HO:=hid (eown be F D S b w h)
 have HL:=hid (dlive D S w h.dr)
 clear h
 go_enter Tryz.func29,Tryz.ntmps29
 go_wp2_with fail
 refine HO.out.mono ?_
 rintro e w1 ⟨rfl,rfl⟩
 go_wp2_with fail
 refine HL.out.mono ?_
 rintro e w1 ⟨rfl,rfl⟩
 go_wp2_with fail
 go_ret
 exact⟨rfl,rfl⟩
theorem epeak (be:Nat)(F:FuncId)(D:Ds)(S:Dy)(b:Bool)(w:World)(h:EnM w be F D S b):Calls Tryz.prog 30 #[.pointer (some ⟨be,0,none⟩)] w fun e w'=>e=.returned (.int .i64 S.most)∧w'=w:=by
 have HO:=hid (eown be F D S b w h)
 have HL:=hid (dpeak D S w h.dr)
 clear h
 go_enter Tryz.func30,Tryz.ntmps30
 go_wp2_with fail
 refine HO.out.mono ?_
 rintro e w1 ⟨rfl,rfl⟩
 go_wp2_with fail
 refine HL.out.mono ?_
 rintro e w1 ⟨rfl,rfl⟩
 go_wp2_with fail
 go_ret
 exact⟨rfl,rfl⟩
theorem eimage (be:Nat)(F:FuncId)(D:Ds)(S:Dy)(b:Bool)(w:World)(h:EnM w be F D S b):Calls Tryz.prog 25 #[.pointer (some ⟨be,0,none⟩)] w fun e w'=>∃ A c,e=.returned (.slice A D.L c)∧KW w w':=by
 have HO:=hid (eown be F D S b w h)
 have HL:=hid (dimage D S w h.dr)
 have hW:=h.dr.Wl
 clear h
 go_enter Tryz.func25,Tryz.ntmps25
 go_wp2_with fail
 refine HO.out.mono ?_
 rintro e w1 ⟨rfl,rfl⟩
 go_wp2_with fail
 refine HL.out.mono ?_
 rintro e w1 ⟨v,rfl,ho,hk⟩
 obtain⟨A1,c1,rfl,_⟩:=ho.row
 rw[u64s_len,hW]
 have HK:=hid hk
 clear ho hk
 go_wp2_with fail
 go_ret
 exact⟨_,_,rfl,HK.out⟩
theorem ecount (be:Nat)(F:FuncId)(D:Ds)(S:Dy)(b:Bool)(w:World)(h:EnM w be F D S b):Calls Tryz.prog 12 #[.pointer (some ⟨be,0,none⟩)] w fun e w'=>e=.returned (.agg #[.int .i64 S.plain,.int .i64 S.taped,.int .i64 S.losses,.int .i64 S.sweeps])∧KW w w':=by
 have hk:=(KW.refl w).alloc (.cells #[.int .i64 0,.int .i64 0,.int .i64 0,.int .i64 0] 42)
 have HO:=hid (eown be F D S b _ (h.kw hk))
 have HL:=hid (dcount D S _ (h.dr.kw hk))
 have HR:=hid (World.rowIs_alloc w #[.int .i64 0,.int .i64 0,.int .i64 0,.int .i64 0] 42 (fun i=>.int .i64 0) fun i hi=>by
  simp at hi
  rcases(show i=0∨i=1∨i=2∨i=3 by omega) with rfl|rfl|rfl|rfl<;>rfl)
 have HK:=hid hk
 clear h hk
 go_enter Tryz.func12,Tryz.ntmps12
 go_wp2_with fail
 refine HO.out.mono ?_
 rintro e w1 ⟨rfl,rfl⟩
 go_wp2_with fail
 refine HL.out.mono ?_
 rintro e w1 ⟨rfl,hk1⟩
 have HK1:=hid (HK.out.t hk1)
 have HR1:=hid (KW.row hk1 HR.out.lt HR.out)
 clear hk1 HK HR
 go_wp2_with (refine store_row rfl rfl rfl rfl HR1.out (by kernel_rfl) rfl (fun i hi=>?_) ?_)
 ·rcases(show i=0∨i=1∨i=2∨i=3 by have:i<4:=hi;omega) with rfl|rfl|rfl|rfl<;>rfl
 intro W2 hb2 hkeep
 have HK2:=hid (HK1.out.kept hkeep fun i hi=>by omega)
 have HB2:=hid hb2
 clear hkeep hb2
 go_wp2_with fail
 exact bodyPost_ret (results_cell_row rfl _ _ _ _ _ (0,0) _ rfl HB2.out Tryz.underlying42 rfl (by kernel_rfl)) rfl ⟨rfl,HK2.out⟩
theorem espot (be:Nat)(F:FuncId)(D:Ds)(S:Dy)(b:Bool)(w:World)(h:EnM w be F D S b):Calls Tryz.prog 69 #[.pointer (some ⟨be,0,none⟩)] w fun e w'=>∃ v,e=.returned (.agg #[.int .i64 S.at_,.int .i64 S.pend,v])∧Owns w' w.heap.size 3 v (ivs S.tags)∧KW w w':=by
 have hk:=(KW.refl w).alloc (.cells #[.int .i64 0,.int .i64 0,.slice none 0 0] 58)
 have HO:=hid (eown be F D S b _ (h.kw hk))
 have HL:=hid (dspot D S _ (h.dr.kw hk))
 have HR:=hid (World.rowIs_alloc w #[.int .i64 0,.int .i64 0,.slice none 0 0] 58 (fun i=>[.int .i64 0,.int .i64 0,.slice none 0 0].getD i undef) fun i hi=>by
  simp at hi
  rcases(show i=0∨i=1∨i=2 by omega) with rfl|rfl|rfl<;>rfl)
 have HK:=hid hk
 clear h hk
 go_enter Tryz.func69,Tryz.ntmps69
 go_wp2_with fail
 refine HO.out.mono ?_
 rintro e w1 ⟨rfl,rfl⟩
 go_wp2_with fail
 refine HL.out.mono ?_
 rintro e w1 ⟨v,rfl,ho1,hk1⟩
 obtain⟨A1,c1,rfl,_⟩:=ho1.row
 rw[ivs_len] at ho1 ⊢
 have HO1:=hid ho1
 have HK1:=hid (HK.out.t hk1)
 have HR1:=hid (KW.row hk1 HR.out.lt HR.out)
 clear hk1 HK HR ho1
 go_wp2_with (refine store_row rfl rfl rfl rfl HR1.out (by kernel_rfl) rfl (fun i hi=>?_) ?_)
 ·rcases(show i=0∨i=1∨i=2 by have:i<3:=hi;omega) with rfl|rfl|rfl<;>rfl
 intro W2 hb2 hkeep
 have HK2:=hid (HK1.out.kept hkeep fun i hi=>by omega)
 have HB2:=hid hb2
 have HO2:Hid (Owns W2 w.heap.size 3 (.slice A1 S.tags.length c1) (ivs S.tags)):=hid ((hkeep.owns HO1.out fun b hb e=>by have h1:=(HO1.out.lt hb).1;simp at h1;omega).base (by simp))
 clear hkeep hb2 HO1
 go_wp2_with fail
 exact bodyPost_ret (results_cell_row rfl _ _ _ _ _ (0,0) _ rfl HB2.out Tryz.underlying58 rfl (by kernel_rfl)) rfl ⟨_,rfl,HO2.out,HK2.out⟩
structure NxP (be:Nat)(F:FuncId)(D:Ds)(S:Dy)(ended:Bool)(r:Option Mc.Act):Prop where
 enter:∀ (args:Array Value) (W:World),(callFunc F args).run Tryz.prog W=.ok (.enter F args) W
 call:∀ W,EnM W be F D S ended→Calls Tryz.prog F #[.pointer (some ⟨be,0,none⟩)] W (AnsP W r)
theorem act2_row (w:World)(k n:Int):(w.alloc (.cells #[.int .i64 k,.int .i64 n] 55)).rowIs w.heap.size 55 2 (actF k n):=
 World.rowIs_alloc w #[.int .i64 k,.int .i64 n] 55 _ fun i hi=>by
  simp at hi
  rcases(show i=0∨i=1 by omega) with rfl|rfl<;>rfl
theorem results_ct2 {P:Program}{fn:Func}{p q r:Tmp}{ty:TypeId}(h:fn.results=#[.cell p ty,.tmp q,.tmp r])(tmps:Array Value)(w:World)(g:Nat)(t:TypeId)(cs:Array Value)(fr:Nat×Nat)(d:TypeDesc)
 (hp:tmps.getD p undef=.pointer (some ⟨g,0,none⟩)) (hg:w.heap[g]?=some (.cells cs t fr))
 (hu:P.underlying ty=some d) (hd:(match d with | .struct _ | .array _ _=>true | _=>false)=true) (hi:(P.info? ty).map (·.size)=some cs.size):
 (results fn tmps).run P w=.ok (.tuple #[.agg cs,tmps.getD q undef,tmps.getD r undef]) w:=by
 have hp':tmps[p]?.getD undef=.pointer (some ⟨g,0,none⟩):=by simpa using hp
 simp[results,h,hp',asAddr,run_loadVar_row w g t ty cs fr d hg hu hd hi]
theorem EnM.keepK {own:Nat→Prop}{K:Nat}{w w':World}{be:Nat}{F:FuncId}{D:Ds}{S:Dy}{b:Bool}(h:EnM w be F D S b)(hl:DrLow D K)(hb:be<K)(hk:Keep own w w')(hn:∀ b,own b→K≤b):EnM w' be F D S b:=
 ⟨hk.row (fun e=>by have:=hn be e;omega) h.row,h.dr.keepK hl hk hn,h.low⟩
theorem estep_some (be:Nat)(F:FuncId)(D:Ds)(S:Dy)(b:Bool)(k n:Int)(w:World)(h:EnM w be F D S b)(hx:NxP be F D S b (some (k,n)))(hI:DyI D S)(hs:Small S)(e:(Mc.step S.mc k n).2=0):
 Calls Tryz.prog 28 #[.pointer (some ⟨be,0,none⟩)] w fun e w'=>e=.returned (.tuple #[.agg #[.int .i64 k,.int .i64 n],.bool true,.int .i64 0])∧EnM w' be F D (S.act D k n) b∧Keep D.own w w':=by
 have hk0:=(KW.refl w).alloc (.cells #[.int .i64 0,.int .i64 0] 55)
 have h0:=h.kw hk0
 have HNx:=hid (hx.call _ h0)
 have c4:(w.alloc (.cells #[.int .i64 0,.int .i64 0] 55)).cell? ⟨be,4,none⟩=some (.bool false):=h0.cell (i:=4) (by omega)
 have c2:(w.alloc (.cells #[.int .i64 0,.int .i64 0] 55)).cell? ⟨be,2,none⟩=some (.func (.func F) #[] #[]):=h0.cell (i:=2) (by omega)
 have hen:=hx.enter
 have HE0:=hid h0
 have HK0:=hid hk0
 have HA0:=hid (act2_row w 0 0)
 have hlw:=h.low
 have HOw:Hid (∀ i,w.heap.size≤i→¬ D.own i):=hid fun i hi=>h.dr.low.own hi
 have HC0:Hid (∀ W,EnM W be F D S b→W.cell? ⟨be,0,none⟩=some (.pointer (some ⟨D.bd,0,none⟩))):=hid fun W hW=>hW.cell (i:=0) (by omega)
 have HDo:=hid (fun W (hW:EnM W be F D S b)=>ddo D S k n W hW.dr hI hs e)
 unfold AnsP at HNx
 simp only[Option.getD_some,Option.isSome_some] at HNx
 have HLw:=hid h.dr.low
 have hbw:be<w.heap.size:=h.row.lt
 clear h h0 hx hI hs e hk0 hlw
 go_enter Tryz.func28,Tryz.ntmps28
 go_wp2_with fail
 clear c4 c2
 refine HNx.out.mono ?_
 rintro e w1 ⟨rfl,hk1⟩
 have HE1:=hid (HE0.out.kw hk1)
 have HK1:=hid (HK0.out.t hk1)
 have HA1:=hid (KW.row hk1 HA0.out.lt HA0.out)
 clear hk1 HE0 HK0 HA0 HNx hen
 have hla:=HA1.out.lt
 go_wp2_with fail
 have hk2:=(KW.refl w1).alloc (.cells #[.int .i64 k,.int .i64 n] 55)
 have HE2:=hid (HE1.out.kw hk2)
 have HK2:=hid (HK1.out.t hk2)
 have HA2:=hid (KW.row hk2 HA1.out.lt HA1.out)
 have HB2:=hid (act2_row w1 k n)
 have hszz:=HK1.out.size
 clear hk2 HE1 HK1 HA1
 generalize w1.alloc (.cells #[.int .i64 k,.int .i64 n] 55)=w2 at *
 obtain⟨g5,hg5⟩:∃ g5,w1.heap.size=g5:=⟨_,rfl⟩
 rw[hg5] at HB2 hszz hla ⊢
 clear hg5
 have hCA:∀ W:World,W.rowIs g5 55 2 (actF k n)→W.cell? ⟨g5,0,none⟩=some (.int .i64 k)∧W.cell? ⟨g5,1,none⟩=some (.int .i64 n)∧g5<W.heap.size:=fun W r=>⟨r.cell (i:=0) (by omega),r.cell (i:=1) (by omega),r.lt⟩
 have HCA:=hid hCA
 have hXS:=And.intro (HC0.out w2.drew (HE2.out.kw (KW.refl w2).drew)) (hCA w2.drew HB2.out)
 clear hCA
 refine wpX_region (S:=fun W=>W.cell? ⟨be,0,none⟩=some (.pointer (some ⟨D.bd,0,none⟩))∧W.cell? ⟨g5,0,none⟩=some (.int .i64 k)∧W.cell? ⟨g5,1,none⟩=some (.int .i64 n)∧g5<W.heap.size) (L:=99) (by kernel_rfl) ?_
 refine tk 0 ?_ (fun _ _=>?_) hXS ?_;rotate_left;· go_simp;try rfl
 simp only[lsz,lss]
 refine tk 1 ?_ (fun _ _=>?_) hXS ?_;rotate_left;· go_simp;try rfl
 simp only[lsz,lss]
 refine tk 2 ?_ (fun _ _=>?_) hXS ?_;rotate_left;· go_simp;try rfl
 simp only[lsz,lss]
 refine tk 3 ?_ (fun _ _=>?_) hXS ?_;rotate_left;· go_simp;try rfl
 simp only[lsz,lss]
 refine tk 4 ?_ (fun _ _=>?_) hXS ?_;rotate_left;· go_simp;try rfl
 simp only[lsz,lss]
 refine wpX_hard (k:=5) (by kernel_rfl) rfl (fun K hK=>?_)
 go_simp
 refine(HDo.out _ (HE2.out.kw (KW.refl w2).drew)).mono ?_
 rintro e w3 ⟨rfl,hd3,hk3'⟩
 have hk3:Keep D.own w2 w3:=(KW.refl w2).drew.kt hk3'
 have HE3:=hid (HE2.out.drive hd3 hk3)
 have HK3:=hid (HK2.out.kt hk3)
 have HA3:=hid (hk3.row (HOw.out _ (Nat.le_refl _)) HA2.out)
 have HB3:=hid (hk3.row (HOw.out _ (by omega)) HB2.out)
 have c0':w3.cell? ⟨be,0,none⟩=some (.pointer (some ⟨D.bd,0,none⟩)):=HE3.out.cell (i:=0) (by omega)
 have hXS:=And.intro c0' (HCA.out w3 HB3.out)
 refine hK _ _ (fun _=>hXS) ?_
 clear hK K hd3 hk3 hk3' HE2 HK2 HA2 HB2 HDo c0'
 try simp only[lsz,lss]
 refine tk 6 ?_ (fun _ _=>?_) hXS ?_;rotate_left;· go_simp;try rfl
 simp only[lsz,lss]
 refine wpX_done (by kernel_rfl) ?_
 obtain⟨_,b0,b1,bl⟩:=hXS
 go_wp2_with (refine store_row rfl rfl rfl rfl HA3.out (by kernel_rfl) rfl (fun i hi=>?_) ?_)
 ·rcases(show i=0∨i=1 by have:i<2:=hi;omega) with rfl|rfl<;>rfl
 intro W2 hb2 hkeep
 have HB4:=hid hb2
 have HE4:=hid (HE3.out.keepK HLw.out hbw hkeep fun b e=>by omega)
 have HK4:Hid (Keep D.own w W2):=hid (HK3.out.trans hkeep fun i hi e=>by omega)
 clear hb2 hkeep b0 b1 bl HE3 HK3 HA3 HB3
 go_wp2_with fail
 exact bodyPost_ret (results_ct2 rfl _ _ _ _ _ (0,0) _ rfl HB4.out Tryz.underlying55 rfl (by kernel_rfl)) rfl ⟨rfl,HE4.out,HK4.out⟩
theorem estep_none (be:Nat)(F:FuncId)(D:Ds)(S:Dy)(b:Bool)(w:World)(h:EnM w be F D S b)(hx:NxP be F D S b none):
 Calls Tryz.prog 28 #[.pointer (some ⟨be,0,none⟩)] w fun e w'=>e=.returned (.tuple #[.agg #[.int .i64 0,.int .i64 0],.bool false,.int .i64 0])∧KW w w':=by
 have hk0:=(KW.refl w).alloc (.cells #[.int .i64 0,.int .i64 0] 55)
 have h0:=h.kw hk0
 have HNx:=hid (hx.call _ h0)
 have c4:(w.alloc (.cells #[.int .i64 0,.int .i64 0] 55)).cell? ⟨be,4,none⟩=some (.bool false):=h0.cell (i:=4) (by omega)
 have c2:(w.alloc (.cells #[.int .i64 0,.int .i64 0] 55)).cell? ⟨be,2,none⟩=some (.func (.func F) #[] #[]):=h0.cell (i:=2) (by omega)
 have hen:=hx.enter
 have HK0:=hid hk0
 have HA0:=hid (act2_row w 0 0)
 unfold AnsP at HNx
 simp only[Option.getD_none,Option.isSome_none] at HNx
 clear h h0 hx hk0
 go_enter Tryz.func28,Tryz.ntmps28
 go_wp2_with fail
 clear c4 c2
 refine HNx.out.mono ?_
 rintro e w1 ⟨rfl,hk1⟩
 have HK1:=hid (HK0.out.t hk1)
 have HA1:=hid (KW.row hk1 HA0.out.lt HA0.out)
 clear hk1 HK0 HA0 HNx hen
 have hla:=HA1.out.lt
 have hk2:=(KW.refl w1).alloc (.cells #[.int .i64 0,.int .i64 0] 55)
 have HA2:=hid (KW.row hk2 HA1.out.lt HA1.out)
 have HK2:=hid (HK1.out.t hk2)
 clear hk2
 go_wp2_with (refine store_row rfl rfl rfl rfl HA2.out (by kernel_rfl) rfl (fun i hi=>?_) ?_)
 ·rcases(show i=0∨i=1 by have:i<2:=hi;omega) with rfl|rfl<;>rfl
 intro W2 hb2 hkeep
 have HB4:=hid hb2
 have HK4:Hid (KW w W2):=hid (HK2.out.kept hkeep fun i e=>by omega)
 clear hb2 hkeep HA1 HA2
 go_wp2_with fail
 exact bodyPost_ret (results_ct2 rfl _ _ _ _ _ (0,0) _ rfl HB4.out Tryz.underlying55 rfl (by kernel_rfl)) rfl ⟨rfl,HK4.out⟩
theorem estill (be:Nat)(F:FuncId)(D:Ds)(S:Dy)(b:Bool)(r:Option Mc.Act)(w:World)(h:EnM w be F D S b)(hx:NxP be F D S b r):
 Calls Tryz.prog 64 #[.pointer (some ⟨be,0,none⟩)] w fun e w'=>e=.returned (.bool (!r.isSome))∧KW w w':=by
 have HNx:=hid (hx.call _ h)
 have c4:w.cell? ⟨be,4,none⟩=some (.bool false):=h.cell (i:=4) (by omega)
 have c2:w.cell? ⟨be,2,none⟩=some (.func (.func F) #[] #[]):=h.cell (i:=2) (by omega)
 have hen:=hx.enter
 unfold AnsP at HNx
 generalize (r.getD (0,0)).1=k at *
 generalize (r.getD (0,0)).2=n at *
 generalize r.isSome=q at *
 clear h hx
 go_enter Tryz.func64,Tryz.ntmps64
 go_wp2_with fail
 clear c4 c2
 refine HNx.out.mono ?_
 rintro e w1 ⟨rfl,hk1⟩
 have HK1:=hid (hk1.alloc (.cells #[.int .i64 k,.int .i64 n] 55))
 clear hk1 HNx hen
 go_wp2_with fail
 go_ret
 exact⟨rfl,HK1.out⟩
end Go.Proofs.YtphppbonljdibaaGreat
