import Derived.Test.YtphppbonljdibaaGreatTB17
set_option maxRecDepth 100000
set_option maxHeartbeats 4000000
set_option linter.unusedVariables false
set_option linter.unusedSimpArgs false
namespace Go.Proofs.YtphppbonljdibaaGreat
open Go.ChangeShapes Go.WideShapes Go.ChangeAt Go.RowKit
theorem do_1 (n:Int)(m m':Mc.St)(c:Int)(b:Nat)(v:Value)(w:World)(hM:Mach w b v m)(hl:m.tags.length≤1048576)(hr:Mc.right 1 n=true)
 (H:∀ W,Mach W b v m→Calls Tryz.prog 89 #[.pointer (some ⟨b,0,none⟩),.int .i64 n] W (Did W b v m' c)):
 Calls Tryz.prog 18 #[.pointer (some ⟨b,0,none⟩),.agg #[.int .i64 1,.int .i64 n]] w (Did w b v m' c):=by
 have HR:=hid (fun W=>right_any 1 n W)
 rw[hr] at HR
 have HH:=hid H
 clear H
 have HM:=hid hM
 have hmo:=hid (fun h=>absurd (hM.lt h) (Nat.lt_irrefl _):¬ mo b v w.heap.size)
 obtain⟨A,cp,hv⟩:=hM.len
 have c4:=hM.1.cell (i:=4) (by omega)
 simp only[mf] at c4
 rw[hv] at c4
 have hlt:=hM.size
 clear hr hM hv
 generalize m.tags.length=N at *
 go_enter Tryz.func18,Tryz.ntmps18
 go_wp2_with fail
 refine(HR.out _).mono ?_
 rintro e w1 ⟨rfl,hb⟩
 have x0:=KW.cell (b:=w.heap.size) (o:=0) (v:=.int .i64 1) hb (by simp) (by go_simp)
 have x1:=KW.cell (b:=w.heap.size) (o:=1) (v:=.int .i64 n) hb (by simp) (by go_simp)
 have hk:KW w w1:=((KW.refl w).alloc _).t hb
 have HK:=hid hk
 replace c4:=KW.cell hk hlt c4
 have hsz:w.heap.size<w1.heap.size:=Nat.lt_of_lt_of_le (by simp) (KW.size hb)
 have HS:=hid hsz
 clear hb hk hsz
 go_wp2_with fail
 have hXS:=And.intro c4 (And.intro x0 x1)
 refine wpX_region (S:=fun w'=>w'.cell? ⟨b,4,none⟩=some (.slice A N cp)∧w'.cell? ⟨w.heap.size,0,none⟩=some (.int .i64 1)∧w'.cell? ⟨w.heap.size,1,none⟩=some (.int .i64 n)) (L:=99) (by kernel_rfl) ?_
 refine tk 0 ?_ (fun _ _=>?_) hXS ?_;rotate_left;· go_simp;try rfl
 simp only[lsz,lss]
 refine tk 1 ?_ (fun _ _=>?_) hXS ?_;rotate_left;· go_simp;try rfl
 simp only[lsz,lss]
 refine tk 2 ?_ (fun _ _=>?_) hXS ?_;rotate_left;· go_simp;try rfl
 simp only[lsz,lss]
 refine tk 3 ?_ (fun _ _=>?_) hXS ?_;rotate_left;· go_simp;try rfl
 simp only[lsz,lss]
 refine tn 4 hXS ?_
 simp only[lsz,lss]
 refine tn 5 hXS ?_
 simp only[lsz,lss]
 refine tn 6 hXS ?_
 simp only[lsz,lss]
 refine tk 7 ?_ (fun _ _=>?_) hXS ?_;rotate_left;· go_simp;try rfl
 simp only[lsz,lss]
 refine tk 8 ?_ (fun _ _=>?_) hXS ?_;rotate_left;· go_simp;try rfl
 simp only[lsz,lss]
 refine tn 9 hXS ?_
 simp only[lsz,lss]
 refine tn 10 hXS ?_
 simp only[lsz,lss]
 refine tn 11 hXS ?_
 simp only[lsz,lss]
 refine tn 12 hXS ?_
 simp only[lsz,lss]
 refine tn 13 hXS ?_
 simp only[lsz,lss]
 refine tn 14 hXS ?_
 simp only[lsz,lss]
 refine tn 15 hXS ?_
 simp only[lsz,lss]
 refine tn 16 hXS ?_
 simp only[lsz,lss]
 refine tk 17 ?_ (fun _ _=>?_) hXS ?_;rotate_left;· go_simp;try rfl
 simp only[lsz,lss]
 refine tk 18 ?_ (fun _ _=>?_) hXS ?_;rotate_left;· go_simp;try rfl
 simp only[lsz,lss]
 refine wpX_done (by kernel_rfl) ?_
 clear hXS c4
 go_wp2_with fail
 have hXS:=And.intro x0 x1
 have X0:=hid x0
 have X1:=hid x1
 refine wpX_region (S:=fun w'=>w'.cell? ⟨w.heap.size,0,none⟩=some (.int .i64 1)∧w'.cell? ⟨w.heap.size,1,none⟩=some (.int .i64 n)) (L:=99) (by kernel_rfl) ?_
 refine tk 0 ?_ (fun _ _=>?_) hXS ?_;rotate_left;· go_simp;try rfl
 simp only[lsz,lss]
 refine tk 2 ?_ (fun _ _=>?_) hXS ?_;rotate_left;· go_simp;try rfl
 simp only[lsz,lss]
 refine tk 3 ?_ (fun _ _=>?_) hXS ?_;rotate_left;· go_simp;try rfl
 simp only[lsz,lss]
 refine tk 5 ?_ (fun _ _=>?_) hXS ?_;rotate_left;· go_simp;try rfl
 simp only[lsz,lss]
 refine tk 6 ?_ (fun _ _=>?_) hXS ?_;rotate_left;· go_simp;try rfl
 simp only[lsz,lss]
 refine wpX_hard (k:=1) (by kernel_rfl) rfl (fun K hK=>?_)
 go_simp
 (refine(moves_any b _).mono ?_;rintro e w2 ⟨rfl,hb⟩;unfold mvs;have hb:=hid hb)
 refine hK _ _ (fun _=>⟨KW.cell hb.out HS.out X0.out,KW.cell hb.out HS.out X1.out⟩) ?_
 clear hK K
 try simp only[lsz,lss]
 have hXS:=And.intro (KW.cell hb.out HS.out X0.out) (KW.cell hb.out HS.out X1.out)
 refine tk 4 ?_ (fun _ _=>?_) hXS ?_;rotate_left;· go_simp;try rfl
 simp only[lsz,lss]
 have HK2:Hid (KW w w2):=HK.out.drew.drew.t hb.out
 have HS2:Hid (w.heap.size<w2.heap.size):=Nat.lt_of_lt_of_le HS.out (by have hs2:=KW.size hb.out;exact hs2)
 have X2:=hid hXS
 refine wpX_hard (k:=7) (by kernel_rfl) rfl (fun K hK=>?_)
 go_simp
 (refine(HH.out _ (HM.out.kw HK2.out)).mono ?_;rintro e w3 ⟨rfl,hm3,hk3⟩;have hm3:=hid hm3;have hk3:=hid hk3)
 refine hK _ _ (fun _=>⟨(hk3.out.cell HS2.out hmo.out).trans X2.out.1,(hk3.out.cell HS2.out hmo.out).trans X2.out.2⟩) ?_
 clear hK K
 have hXS:=And.intro ((hk3.out.cell (o:=0) HS2.out hmo.out).trans X2.out.1) ((hk3.out.cell (o:=1) HS2.out hmo.out).trans X2.out.2)
 refine tk 8 ?_ (fun _ _=>?_) hXS ?_;rotate_left;· go_simp;try rfl
 simp only[lsz,lss]
 refine wpX_done (by kernel_rfl) ?_
 go_wp2_with fail
 go_ret
 exact⟨rfl,hm3.out,HK2.out.kt hk3.out⟩
theorem do_2 (n:Nat)(m m':Mc.St)(c:Int)(b:Nat)(v:Value)(w:World)(hM:Mach w b v m)(hl:m.tags.length≤1048576)(hr:Mc.right 2 (n:Int)=true)(hn:n<m.tags.length)
 (H:∀ W,Mach W b v m→Calls Tryz.prog 90 #[.pointer (some ⟨b,0,none⟩),.int .i64 (n:Int)] W (Did W b v m' c)):
 Calls Tryz.prog 18 #[.pointer (some ⟨b,0,none⟩),.agg #[.int .i64 2,.int .i64 (n:Int)]] w (Did w b v m' c):=by
 have HR:=hid (fun W=>right_any 2 (n:Int) W)
 rw[hr] at HR
 have HH:=hid H
 clear H
 have HM:=hid hM
 have hmo:=hid (fun h=>absurd (hM.lt h) (Nat.lt_irrefl _):¬ mo b v w.heap.size)
 obtain⟨A,cp,hv⟩:=hM.len
 have c4:=hM.1.cell (i:=4) (by omega)
 simp only[mf] at c4
 rw[hv] at c4
 have hlt:=hM.size
 clear hr hM hv
 generalize m.tags.length=N at *
 have dn:decide (N≤n)=false:=by simp;omega
 go_enter Tryz.func18,Tryz.ntmps18
 go_wp2_with fail
 refine(HR.out _).mono ?_
 rintro e w1 ⟨rfl,hb⟩
 have x0:=KW.cell (b:=w.heap.size) (o:=0) (v:=.int .i64 2) hb (by simp) (by go_simp)
 have x1:=KW.cell (b:=w.heap.size) (o:=1) (v:=.int .i64 (n:Int)) hb (by simp) (by go_simp)
 have hk:KW w w1:=((KW.refl w).alloc _).t hb
 have HK:=hid hk
 replace c4:=KW.cell hk hlt c4
 have hsz:w.heap.size<w1.heap.size:=Nat.lt_of_lt_of_le (by simp) (KW.size hb)
 have HS:=hid hsz
 clear hb hk hsz
 go_wp2_with fail
 have hXS:=And.intro c4 (And.intro x0 x1)
 refine wpX_region (S:=fun w'=>w'.cell? ⟨b,4,none⟩=some (.slice A N cp)∧w'.cell? ⟨w.heap.size,0,none⟩=some (.int .i64 2)∧w'.cell? ⟨w.heap.size,1,none⟩=some (.int .i64 (n:Int))) (L:=99) (by kernel_rfl) ?_
 refine tk 0 ?_ (fun _ _=>?_) hXS ?_;rotate_left;· go_simp;try rfl
 simp only[lsz,lss]
 refine tk 1 ?_ (fun _ _=>?_) hXS ?_;rotate_left;· go_simp;try rfl
 simp only[lsz,lss]
 refine tk 2 ?_ (fun _ _=>?_) hXS ?_;rotate_left;· go_simp;try rfl
 simp only[lsz,lss]
 refine tk 3 ?_ (fun _ _=>?_) hXS ?_;rotate_left;· go_simp;try rfl
 simp only[lsz,lss]
 refine tk 4 ?_ (fun _ _=>?_) hXS ?_;rotate_left;· go_simp;try rfl
 simp only[lsz,lss]
 refine tk 5 ?_ (fun _ _=>?_) hXS ?_;rotate_left;· go_simp;try rfl
 simp only[lsz,lss]
 refine tk 6 ?_ (fun _ _=>?_) hXS ?_;rotate_left;· go_simp;try rfl
 simp only[lsz,lss]
 refine tk 7 ?_ (fun _ _=>?_) hXS ?_;rotate_left;· go_simp;try rfl
 simp only[lsz,lss]
 refine tk 8 ?_ (fun _ _=>?_) hXS ?_;rotate_left;· go_simp;try rfl
 simp only[lsz,lss]
 refine tk 9 ?_ (fun _ _=>?_) hXS ?_;rotate_left;· go_simp;try rfl
 simp only[lsz,lss]
 refine tk 10 ?_ (fun _ _=>?_) hXS ?_;rotate_left;· go_simp;try rfl
 simp only[lsz,lss]
 refine tk 11 ?_ (fun _ _=>?_) hXS ?_;rotate_left;· go_simp;try rfl
 simp only[lsz,lss]
 refine tk 12 ?_ (fun _ _=>?_) hXS ?_;rotate_left;· go_simp;try rfl
 simp only[lsz,lss]
 refine tk 13 ?_ (fun _ _=>?_) hXS ?_;rotate_left;· go_simp;try rfl
 simp only[lsz,lss]
 refine tk 14 ?_ (fun _ _=>?_) hXS ?_;rotate_left;· go_simp;try rfl
 simp only[lsz,lss]
 refine tk 15 ?_ (fun _ _=>?_) hXS ?_;rotate_left;· go_simp;try rfl
 simp only[lsz,lss]
 refine tk 16 ?_ (fun _ _=>?_) hXS ?_;rotate_left;· go_simp;try rfl
 simp only[lsz,lss]
 refine tk 17 ?_ (fun _ _=>?_) hXS ?_;rotate_left;· go_simp;try rfl
 simp only[lsz,lss]
 refine tk 18 ?_ (fun _ _=>?_) hXS ?_;rotate_left;· go_simp;try rfl
 simp only[lsz,lss]
 refine wpX_done (by kernel_rfl) ?_
 clear hXS c4
 go_wp2_with fail
 have hXS:=And.intro x0 x1
 have X0:=hid x0
 have X1:=hid x1
 refine wpX_region (S:=fun w'=>w'.cell? ⟨w.heap.size,0,none⟩=some (.int .i64 2)∧w'.cell? ⟨w.heap.size,1,none⟩=some (.int .i64 (n:Int))) (L:=99) (by kernel_rfl) ?_
 refine tk 0 ?_ (fun _ _=>?_) hXS ?_;rotate_left;· go_simp;try rfl
 simp only[lsz,lss]
 refine tk 2 ?_ (fun _ _=>?_) hXS ?_;rotate_left;· go_simp;try rfl
 simp only[lsz,lss]
 refine tk 3 ?_ (fun _ _=>?_) hXS ?_;rotate_left;· go_simp;try rfl
 simp only[lsz,lss]
 refine tk 5 ?_ (fun _ _=>?_) hXS ?_;rotate_left;· go_simp;try rfl
 simp only[lsz,lss]
 refine tk 6 ?_ (fun _ _=>?_) hXS ?_;rotate_left;· go_simp;try rfl
 simp only[lsz,lss]
 refine wpX_hard (k:=1) (by kernel_rfl) rfl (fun K hK=>?_)
 go_simp
 (refine(moves_any b _).mono ?_;rintro e w2 ⟨rfl,hb⟩;unfold mvs;have hb:=hid hb)
 refine hK _ _ (fun _=>⟨KW.cell hb.out HS.out X0.out,KW.cell hb.out HS.out X1.out⟩) ?_
 clear hK K
 try simp only[lsz,lss]
 have hXS:=And.intro (KW.cell hb.out HS.out X0.out) (KW.cell hb.out HS.out X1.out)
 refine tk 4 ?_ (fun _ _=>?_) hXS ?_;rotate_left;· go_simp;try rfl
 simp only[lsz,lss]
 have HK2:Hid (KW w w2):=HK.out.drew.drew.t hb.out
 have HS2:Hid (w.heap.size<w2.heap.size):=Nat.lt_of_lt_of_le HS.out (by have hs2:=KW.size hb.out;exact hs2)
 have X2:=hid hXS
 refine wpX_hard (k:=7) (by kernel_rfl) rfl (fun K hK=>?_)
 go_simp
 (refine(HH.out _ (HM.out.kw HK2.out)).mono ?_;rintro e w3 ⟨rfl,hm3,hk3⟩;have hm3:=hid hm3;have hk3:=hid hk3)
 refine hK _ _ (fun _=>⟨(hk3.out.cell HS2.out hmo.out).trans X2.out.1,(hk3.out.cell HS2.out hmo.out).trans X2.out.2⟩) ?_
 clear hK K
 have hXS:=And.intro ((hk3.out.cell (o:=0) HS2.out hmo.out).trans X2.out.1) ((hk3.out.cell (o:=1) HS2.out hmo.out).trans X2.out.2)
 refine tk 8 ?_ (fun _ _=>?_) hXS ?_;rotate_left;· go_simp;try rfl
 simp only[lsz,lss]
 refine wpX_done (by kernel_rfl) ?_
 go_wp2_with fail
 go_ret
 exact⟨rfl,hm3.out,HK2.out.kt hk3.out⟩
theorem do_3 (n:Nat)(m m':Mc.St)(c:Int)(b:Nat)(v:Value)(w:World)(hM:Mach w b v m)(hl:m.tags.length≤1048576)(hr:Mc.right 3 (n:Int)=true)(hn:n<m.tags.length)
 (H:∀ W,Mach W b v m→Calls Tryz.prog 91 #[.pointer (some ⟨b,0,none⟩),.int .i64 (n:Int)] W (Did W b v m' c)):
 Calls Tryz.prog 18 #[.pointer (some ⟨b,0,none⟩),.agg #[.int .i64 3,.int .i64 (n:Int)]] w (Did w b v m' c):=by
 have HR:=hid (fun W=>right_any 3 (n:Int) W)
 rw[hr] at HR
 have HH:=hid H
 clear H
 have HM:=hid hM
 have hmo:=hid (fun h=>absurd (hM.lt h) (Nat.lt_irrefl _):¬ mo b v w.heap.size)
 obtain⟨A,cp,hv⟩:=hM.len
 have c4:=hM.1.cell (i:=4) (by omega)
 simp only[mf] at c4
 rw[hv] at c4
 have hlt:=hM.size
 clear hr hM hv
 generalize m.tags.length=N at *
 have dn:decide (N≤n)=false:=by simp;omega
 go_enter Tryz.func18,Tryz.ntmps18
 go_wp2_with fail
 refine(HR.out _).mono ?_
 rintro e w1 ⟨rfl,hb⟩
 have x0:=KW.cell (b:=w.heap.size) (o:=0) (v:=.int .i64 3) hb (by simp) (by go_simp)
 have x1:=KW.cell (b:=w.heap.size) (o:=1) (v:=.int .i64 (n:Int)) hb (by simp) (by go_simp)
 have hk:KW w w1:=((KW.refl w).alloc _).t hb
 have HK:=hid hk
 replace c4:=KW.cell hk hlt c4
 have hsz:w.heap.size<w1.heap.size:=Nat.lt_of_lt_of_le (by simp) (KW.size hb)
 have HS:=hid hsz
 clear hb hk hsz
 go_wp2_with fail
 have hXS:=And.intro c4 (And.intro x0 x1)
 refine wpX_region (S:=fun w'=>w'.cell? ⟨b,4,none⟩=some (.slice A N cp)∧w'.cell? ⟨w.heap.size,0,none⟩=some (.int .i64 3)∧w'.cell? ⟨w.heap.size,1,none⟩=some (.int .i64 (n:Int))) (L:=99) (by kernel_rfl) ?_
 refine tk 0 ?_ (fun _ _=>?_) hXS ?_;rotate_left;· go_simp;try rfl
 simp only[lsz,lss]
 refine tk 1 ?_ (fun _ _=>?_) hXS ?_;rotate_left;· go_simp;try rfl
 simp only[lsz,lss]
 refine tk 2 ?_ (fun _ _=>?_) hXS ?_;rotate_left;· go_simp;try rfl
 simp only[lsz,lss]
 refine tk 3 ?_ (fun _ _=>?_) hXS ?_;rotate_left;· go_simp;try rfl
 simp only[lsz,lss]
 refine tk 4 ?_ (fun _ _=>?_) hXS ?_;rotate_left;· go_simp;try rfl
 simp only[lsz,lss]
 refine tk 5 ?_ (fun _ _=>?_) hXS ?_;rotate_left;· go_simp;try rfl
 simp only[lsz,lss]
 refine tk 6 ?_ (fun _ _=>?_) hXS ?_;rotate_left;· go_simp;try rfl
 simp only[lsz,lss]
 refine tk 7 ?_ (fun _ _=>?_) hXS ?_;rotate_left;· go_simp;try rfl
 simp only[lsz,lss]
 refine tk 8 ?_ (fun _ _=>?_) hXS ?_;rotate_left;· go_simp;try rfl
 simp only[lsz,lss]
 refine tk 9 ?_ (fun _ _=>?_) hXS ?_;rotate_left;· go_simp;try rfl
 simp only[lsz,lss]
 refine tk 10 ?_ (fun _ _=>?_) hXS ?_;rotate_left;· go_simp;try rfl
 simp only[lsz,lss]
 refine tk 11 ?_ (fun _ _=>?_) hXS ?_;rotate_left;· go_simp;try rfl
 simp only[lsz,lss]
 refine tk 12 ?_ (fun _ _=>?_) hXS ?_;rotate_left;· go_simp;try rfl
 simp only[lsz,lss]
 refine tk 13 ?_ (fun _ _=>?_) hXS ?_;rotate_left;· go_simp;try rfl
 simp only[lsz,lss]
 refine tk 14 ?_ (fun _ _=>?_) hXS ?_;rotate_left;· go_simp;try rfl
 simp only[lsz,lss]
 refine tk 15 ?_ (fun _ _=>?_) hXS ?_;rotate_left;· go_simp;try rfl
 simp only[lsz,lss]
 refine tk 16 ?_ (fun _ _=>?_) hXS ?_;rotate_left;· go_simp;try rfl
 simp only[lsz,lss]
 refine tk 17 ?_ (fun _ _=>?_) hXS ?_;rotate_left;· go_simp;try rfl
 simp only[lsz,lss]
 refine tk 18 ?_ (fun _ _=>?_) hXS ?_;rotate_left;· go_simp;try rfl
 simp only[lsz,lss]
 refine wpX_done (by kernel_rfl) ?_
 clear hXS c4
 go_wp2_with fail
 have hXS:=And.intro x0 x1
 have X0:=hid x0
 have X1:=hid x1
 refine wpX_region (S:=fun w'=>w'.cell? ⟨w.heap.size,0,none⟩=some (.int .i64 3)∧w'.cell? ⟨w.heap.size,1,none⟩=some (.int .i64 (n:Int))) (L:=99) (by kernel_rfl) ?_
 refine tk 0 ?_ (fun _ _=>?_) hXS ?_;rotate_left;· go_simp;try rfl
 simp only[lsz,lss]
 refine tk 2 ?_ (fun _ _=>?_) hXS ?_;rotate_left;· go_simp;try rfl
 simp only[lsz,lss]
 refine tk 3 ?_ (fun _ _=>?_) hXS ?_;rotate_left;· go_simp;try rfl
 simp only[lsz,lss]
 refine tk 5 ?_ (fun _ _=>?_) hXS ?_;rotate_left;· go_simp;try rfl
 simp only[lsz,lss]
 refine tk 6 ?_ (fun _ _=>?_) hXS ?_;rotate_left;· go_simp;try rfl
 simp only[lsz,lss]
 refine wpX_hard (k:=1) (by kernel_rfl) rfl (fun K hK=>?_)
 go_simp
 (refine(moves_any b _).mono ?_;rintro e w2 ⟨rfl,hb⟩;unfold mvs;have hb:=hid hb)
 refine hK _ _ (fun _=>⟨KW.cell hb.out HS.out X0.out,KW.cell hb.out HS.out X1.out⟩) ?_
 clear hK K
 try simp only[lsz,lss]
 have hXS:=And.intro (KW.cell hb.out HS.out X0.out) (KW.cell hb.out HS.out X1.out)
 refine tk 4 ?_ (fun _ _=>?_) hXS ?_;rotate_left;· go_simp;try rfl
 simp only[lsz,lss]
 have HK2:Hid (KW w w2):=HK.out.drew.drew.t hb.out
 have HS2:Hid (w.heap.size<w2.heap.size):=Nat.lt_of_lt_of_le HS.out (by have hs2:=KW.size hb.out;exact hs2)
 have X2:=hid hXS
 refine wpX_hard (k:=7) (by kernel_rfl) rfl (fun K hK=>?_)
 go_simp
 (refine(HH.out _ (HM.out.kw HK2.out)).mono ?_;rintro e w3 ⟨rfl,hm3,hk3⟩;have hm3:=hid hm3;have hk3:=hid hk3)
 refine hK _ _ (fun _=>⟨(hk3.out.cell HS2.out hmo.out).trans X2.out.1,(hk3.out.cell HS2.out hmo.out).trans X2.out.2⟩) ?_
 clear hK K
 have hXS:=And.intro ((hk3.out.cell (o:=0) HS2.out hmo.out).trans X2.out.1) ((hk3.out.cell (o:=1) HS2.out hmo.out).trans X2.out.2)
 refine tk 8 ?_ (fun _ _=>?_) hXS ?_;rotate_left;· go_simp;try rfl
 simp only[lsz,lss]
 refine wpX_done (by kernel_rfl) ?_
 go_wp2_with fail
 go_ret
 exact⟨rfl,hm3.out,HK2.out.kt hk3.out⟩
theorem do_4 (n:Nat)(m m':Mc.St)(c:Int)(b:Nat)(v:Value)(w:World)(hM:Mach w b v m)(hl:m.tags.length≤1048576)(hr:Mc.right 4 (n:Int)=true)(hn:n<m.tags.length)
 (H:∀ W,Mach W b v m→Calls Tryz.prog 92 #[.pointer (some ⟨b,0,none⟩),.int .i64 (n:Int)] W (Did W b v m' c)):
 Calls Tryz.prog 18 #[.pointer (some ⟨b,0,none⟩),.agg #[.int .i64 4,.int .i64 (n:Int)]] w (Did w b v m' c):=by
 have HR:=hid (fun W=>right_any 4 (n:Int) W)
 rw[hr] at HR
 have HH:=hid H
 clear H
 have HM:=hid hM
 have hmo:=hid (fun h=>absurd (hM.lt h) (Nat.lt_irrefl _):¬ mo b v w.heap.size)
 obtain⟨A,cp,hv⟩:=hM.len
 have c4:=hM.1.cell (i:=4) (by omega)
 simp only[mf] at c4
 rw[hv] at c4
 have hlt:=hM.size
 clear hr hM hv
 generalize m.tags.length=N at *
 have dn:decide (N≤n)=false:=by simp;omega
 go_enter Tryz.func18,Tryz.ntmps18
 go_wp2_with fail
 refine(HR.out _).mono ?_
 rintro e w1 ⟨rfl,hb⟩
 have x0:=KW.cell (b:=w.heap.size) (o:=0) (v:=.int .i64 4) hb (by simp) (by go_simp)
 have x1:=KW.cell (b:=w.heap.size) (o:=1) (v:=.int .i64 (n:Int)) hb (by simp) (by go_simp)
 have hk:KW w w1:=((KW.refl w).alloc _).t hb
 have HK:=hid hk
 replace c4:=KW.cell hk hlt c4
 have hsz:w.heap.size<w1.heap.size:=Nat.lt_of_lt_of_le (by simp) (KW.size hb)
 have HS:=hid hsz
 clear hb hk hsz
 go_wp2_with fail
 have hXS:=And.intro c4 (And.intro x0 x1)
 refine wpX_region (S:=fun w'=>w'.cell? ⟨b,4,none⟩=some (.slice A N cp)∧w'.cell? ⟨w.heap.size,0,none⟩=some (.int .i64 4)∧w'.cell? ⟨w.heap.size,1,none⟩=some (.int .i64 (n:Int))) (L:=99) (by kernel_rfl) ?_
 refine tk 0 ?_ (fun _ _=>?_) hXS ?_;rotate_left;· go_simp;try rfl
 simp only[lsz,lss]
 refine tk 1 ?_ (fun _ _=>?_) hXS ?_;rotate_left;· go_simp;try rfl
 simp only[lsz,lss]
 refine tk 2 ?_ (fun _ _=>?_) hXS ?_;rotate_left;· go_simp;try rfl
 simp only[lsz,lss]
 refine tk 3 ?_ (fun _ _=>?_) hXS ?_;rotate_left;· go_simp;try rfl
 simp only[lsz,lss]
 refine tk 4 ?_ (fun _ _=>?_) hXS ?_;rotate_left;· go_simp;try rfl
 simp only[lsz,lss]
 refine tk 5 ?_ (fun _ _=>?_) hXS ?_;rotate_left;· go_simp;try rfl
 simp only[lsz,lss]
 refine tk 6 ?_ (fun _ _=>?_) hXS ?_;rotate_left;· go_simp;try rfl
 simp only[lsz,lss]
 refine tk 7 ?_ (fun _ _=>?_) hXS ?_;rotate_left;· go_simp;try rfl
 simp only[lsz,lss]
 refine tk 8 ?_ (fun _ _=>?_) hXS ?_;rotate_left;· go_simp;try rfl
 simp only[lsz,lss]
 refine tk 9 ?_ (fun _ _=>?_) hXS ?_;rotate_left;· go_simp;try rfl
 simp only[lsz,lss]
 refine tk 10 ?_ (fun _ _=>?_) hXS ?_;rotate_left;· go_simp;try rfl
 simp only[lsz,lss]
 refine tk 11 ?_ (fun _ _=>?_) hXS ?_;rotate_left;· go_simp;try rfl
 simp only[lsz,lss]
 refine tk 12 ?_ (fun _ _=>?_) hXS ?_;rotate_left;· go_simp;try rfl
 simp only[lsz,lss]
 refine tk 13 ?_ (fun _ _=>?_) hXS ?_;rotate_left;· go_simp;try rfl
 simp only[lsz,lss]
 refine tk 14 ?_ (fun _ _=>?_) hXS ?_;rotate_left;· go_simp;try rfl
 simp only[lsz,lss]
 refine tk 15 ?_ (fun _ _=>?_) hXS ?_;rotate_left;· go_simp;try rfl
 simp only[lsz,lss]
 refine tk 16 ?_ (fun _ _=>?_) hXS ?_;rotate_left;· go_simp;try rfl
 simp only[lsz,lss]
 refine tk 17 ?_ (fun _ _=>?_) hXS ?_;rotate_left;· go_simp;try rfl
 simp only[lsz,lss]
 refine tk 18 ?_ (fun _ _=>?_) hXS ?_;rotate_left;· go_simp;try rfl
 simp only[lsz,lss]
 refine wpX_done (by kernel_rfl) ?_
 clear hXS c4
 go_wp2_with fail
 have hXS:=And.intro x0 x1
 have X0:=hid x0
 have X1:=hid x1
 refine wpX_region (S:=fun w'=>w'.cell? ⟨w.heap.size,0,none⟩=some (.int .i64 4)∧w'.cell? ⟨w.heap.size,1,none⟩=some (.int .i64 (n:Int))) (L:=99) (by kernel_rfl) ?_
 refine tk 0 ?_ (fun _ _=>?_) hXS ?_;rotate_left;· go_simp;try rfl
 simp only[lsz,lss]
 refine tk 2 ?_ (fun _ _=>?_) hXS ?_;rotate_left;· go_simp;try rfl
 simp only[lsz,lss]
 refine tk 3 ?_ (fun _ _=>?_) hXS ?_;rotate_left;· go_simp;try rfl
 simp only[lsz,lss]
 refine tk 5 ?_ (fun _ _=>?_) hXS ?_;rotate_left;· go_simp;try rfl
 simp only[lsz,lss]
 refine tk 6 ?_ (fun _ _=>?_) hXS ?_;rotate_left;· go_simp;try rfl
 simp only[lsz,lss]
 refine wpX_hard (k:=1) (by kernel_rfl) rfl (fun K hK=>?_)
 go_simp
 (refine(moves_any b _).mono ?_;rintro e w2 ⟨rfl,hb⟩;unfold mvs;have hb:=hid hb)
 refine hK _ _ (fun _=>⟨KW.cell hb.out HS.out X0.out,KW.cell hb.out HS.out X1.out⟩) ?_
 clear hK K
 try simp only[lsz,lss]
 have hXS:=And.intro (KW.cell hb.out HS.out X0.out) (KW.cell hb.out HS.out X1.out)
 refine tk 4 ?_ (fun _ _=>?_) hXS ?_;rotate_left;· go_simp;try rfl
 simp only[lsz,lss]
 have HK2:Hid (KW w w2):=HK.out.drew.drew.t hb.out
 have HS2:Hid (w.heap.size<w2.heap.size):=Nat.lt_of_lt_of_le HS.out (by have hs2:=KW.size hb.out;exact hs2)
 have X2:=hid hXS
 refine wpX_hard (k:=7) (by kernel_rfl) rfl (fun K hK=>?_)
 go_simp
 (refine(HH.out _ (HM.out.kw HK2.out)).mono ?_;rintro e w3 ⟨rfl,hm3,hk3⟩;have hm3:=hid hm3;have hk3:=hid hk3)
 refine hK _ _ (fun _=>⟨(hk3.out.cell HS2.out hmo.out).trans X2.out.1,(hk3.out.cell HS2.out hmo.out).trans X2.out.2⟩) ?_
 clear hK K
 have hXS:=And.intro ((hk3.out.cell (o:=0) HS2.out hmo.out).trans X2.out.1) ((hk3.out.cell (o:=1) HS2.out hmo.out).trans X2.out.2)
 refine tk 8 ?_ (fun _ _=>?_) hXS ?_;rotate_left;· go_simp;try rfl
 simp only[lsz,lss]
 refine wpX_done (by kernel_rfl) ?_
 go_wp2_with fail
 go_ret
 exact⟨rfl,hm3.out,HK2.out.kt hk3.out⟩
theorem do_5 (n:Int)(m m':Mc.St)(c:Int)(b:Nat)(v:Value)(w:World)(hM:Mach w b v m)(hl:m.tags.length≤1048576)(hr:Mc.right 5 n=true)
 (H:∀ W,Mach W b v m→Calls Tryz.prog 93 #[.pointer (some ⟨b,0,none⟩),.int .i64 n] W (Did W b v m' c)):
 Calls Tryz.prog 18 #[.pointer (some ⟨b,0,none⟩),.agg #[.int .i64 5,.int .i64 n]] w (Did w b v m' c):=by
 have HR:=hid (fun W=>right_any 5 n W)
 rw[hr] at HR
 have HH:=hid H
 clear H
 have HM:=hid hM
 have hmo:=hid (fun h=>absurd (hM.lt h) (Nat.lt_irrefl _):¬ mo b v w.heap.size)
 obtain⟨A,cp,hv⟩:=hM.len
 have c4:=hM.1.cell (i:=4) (by omega)
 simp only[mf] at c4
 rw[hv] at c4
 have hlt:=hM.size
 clear hr hM hv
 generalize m.tags.length=N at *
 go_enter Tryz.func18,Tryz.ntmps18
 go_wp2_with fail
 refine(HR.out _).mono ?_
 rintro e w1 ⟨rfl,hb⟩
 have x0:=KW.cell (b:=w.heap.size) (o:=0) (v:=.int .i64 5) hb (by simp) (by go_simp)
 have x1:=KW.cell (b:=w.heap.size) (o:=1) (v:=.int .i64 n) hb (by simp) (by go_simp)
 have hk:KW w w1:=((KW.refl w).alloc _).t hb
 have HK:=hid hk
 replace c4:=KW.cell hk hlt c4
 have hsz:w.heap.size<w1.heap.size:=Nat.lt_of_lt_of_le (by simp) (KW.size hb)
 have HS:=hid hsz
 clear hb hk hsz
 go_wp2_with fail
 have hXS:=And.intro c4 (And.intro x0 x1)
 refine wpX_region (S:=fun w'=>w'.cell? ⟨b,4,none⟩=some (.slice A N cp)∧w'.cell? ⟨w.heap.size,0,none⟩=some (.int .i64 5)∧w'.cell? ⟨w.heap.size,1,none⟩=some (.int .i64 n)) (L:=99) (by kernel_rfl) ?_
 refine tk 0 ?_ (fun _ _=>?_) hXS ?_;rotate_left;· go_simp;try rfl
 simp only[lsz,lss]
 refine tk 1 ?_ (fun _ _=>?_) hXS ?_;rotate_left;· go_simp;try rfl
 simp only[lsz,lss]
 refine tk 2 ?_ (fun _ _=>?_) hXS ?_;rotate_left;· go_simp;try rfl
 simp only[lsz,lss]
 refine tk 3 ?_ (fun _ _=>?_) hXS ?_;rotate_left;· go_simp;try rfl
 simp only[lsz,lss]
 refine tk 4 ?_ (fun _ _=>?_) hXS ?_;rotate_left;· go_simp;try rfl
 simp only[lsz,lss]
 refine tk 5 ?_ (fun _ _=>?_) hXS ?_;rotate_left;· go_simp;try rfl
 simp only[lsz,lss]
 refine tk 6 ?_ (fun _ _=>?_) hXS ?_;rotate_left;· go_simp;try rfl
 simp only[lsz,lss]
 refine tk 7 ?_ (fun _ _=>?_) hXS ?_;rotate_left;· go_simp;try rfl
 simp only[lsz,lss]
 refine tk 8 ?_ (fun _ _=>?_) hXS ?_;rotate_left;· go_simp;try rfl
 simp only[lsz,lss]
 refine tn 9 hXS ?_
 simp only[lsz,lss]
 refine tn 10 hXS ?_
 simp only[lsz,lss]
 refine tn 11 hXS ?_
 simp only[lsz,lss]
 refine tn 12 hXS ?_
 simp only[lsz,lss]
 refine tn 13 hXS ?_
 simp only[lsz,lss]
 refine tn 14 hXS ?_
 simp only[lsz,lss]
 refine tn 15 hXS ?_
 simp only[lsz,lss]
 refine tn 16 hXS ?_
 simp only[lsz,lss]
 refine tk 17 ?_ (fun _ _=>?_) hXS ?_;rotate_left;· go_simp;try rfl
 simp only[lsz,lss]
 refine tk 18 ?_ (fun _ _=>?_) hXS ?_;rotate_left;· go_simp;try rfl
 simp only[lsz,lss]
 refine wpX_done (by kernel_rfl) ?_
 clear hXS c4
 go_wp2_with fail
 have hXS:=And.intro x0 x1
 have X0:=hid x0
 have X1:=hid x1
 refine wpX_region (S:=fun w'=>w'.cell? ⟨w.heap.size,0,none⟩=some (.int .i64 5)∧w'.cell? ⟨w.heap.size,1,none⟩=some (.int .i64 n)) (L:=99) (by kernel_rfl) ?_
 refine tk 0 ?_ (fun _ _=>?_) hXS ?_;rotate_left;· go_simp;try rfl
 simp only[lsz,lss]
 refine tk 2 ?_ (fun _ _=>?_) hXS ?_;rotate_left;· go_simp;try rfl
 simp only[lsz,lss]
 refine tk 3 ?_ (fun _ _=>?_) hXS ?_;rotate_left;· go_simp;try rfl
 simp only[lsz,lss]
 refine tk 5 ?_ (fun _ _=>?_) hXS ?_;rotate_left;· go_simp;try rfl
 simp only[lsz,lss]
 refine tk 6 ?_ (fun _ _=>?_) hXS ?_;rotate_left;· go_simp;try rfl
 simp only[lsz,lss]
 refine wpX_hard (k:=1) (by kernel_rfl) rfl (fun K hK=>?_)
 go_simp
 (refine(moves_any b _).mono ?_;rintro e w2 ⟨rfl,hb⟩;unfold mvs;have hb:=hid hb)
 refine hK _ _ (fun _=>⟨KW.cell hb.out HS.out X0.out,KW.cell hb.out HS.out X1.out⟩) ?_
 clear hK K
 try simp only[lsz,lss]
 have hXS:=And.intro (KW.cell hb.out HS.out X0.out) (KW.cell hb.out HS.out X1.out)
 refine tk 4 ?_ (fun _ _=>?_) hXS ?_;rotate_left;· go_simp;try rfl
 simp only[lsz,lss]
 have HK2:Hid (KW w w2):=HK.out.drew.drew.t hb.out
 have HS2:Hid (w.heap.size<w2.heap.size):=Nat.lt_of_lt_of_le HS.out (by have hs2:=KW.size hb.out;exact hs2)
 have X2:=hid hXS
 refine wpX_hard (k:=7) (by kernel_rfl) rfl (fun K hK=>?_)
 go_simp
 (refine(HH.out _ (HM.out.kw HK2.out)).mono ?_;rintro e w3 ⟨rfl,hm3,hk3⟩;have hm3:=hid hm3;have hk3:=hid hk3)
 refine hK _ _ (fun _=>⟨(hk3.out.cell HS2.out hmo.out).trans X2.out.1,(hk3.out.cell HS2.out hmo.out).trans X2.out.2⟩) ?_
 clear hK K
 have hXS:=And.intro ((hk3.out.cell (o:=0) HS2.out hmo.out).trans X2.out.1) ((hk3.out.cell (o:=1) HS2.out hmo.out).trans X2.out.2)
 refine tk 8 ?_ (fun _ _=>?_) hXS ?_;rotate_left;· go_simp;try rfl
 simp only[lsz,lss]
 refine wpX_done (by kernel_rfl) ?_
 go_wp2_with fail
 go_ret
 exact⟨rfl,hm3.out,HK2.out.kt hk3.out⟩
theorem do_6 (n:Int)(m m':Mc.St)(c:Int)(b:Nat)(v:Value)(w:World)(hM:Mach w b v m)(hl:m.tags.length≤1048576)(hr:Mc.right 6 n=true)
 (H:∀ W,Mach W b v m→Calls Tryz.prog 94 #[.pointer (some ⟨b,0,none⟩),.int .i64 n] W (Did W b v m' c)):
 Calls Tryz.prog 18 #[.pointer (some ⟨b,0,none⟩),.agg #[.int .i64 6,.int .i64 n]] w (Did w b v m' c):=by
 have HR:=hid (fun W=>right_any 6 n W)
 rw[hr] at HR
 have HH:=hid H
 clear H
 have HM:=hid hM
 have hmo:=hid (fun h=>absurd (hM.lt h) (Nat.lt_irrefl _):¬ mo b v w.heap.size)
 obtain⟨A,cp,hv⟩:=hM.len
 have c4:=hM.1.cell (i:=4) (by omega)
 simp only[mf] at c4
 rw[hv] at c4
 have hlt:=hM.size
 clear hr hM hv
 generalize m.tags.length=N at *
 go_enter Tryz.func18,Tryz.ntmps18
 go_wp2_with fail
 refine(HR.out _).mono ?_
 rintro e w1 ⟨rfl,hb⟩
 have x0:=KW.cell (b:=w.heap.size) (o:=0) (v:=.int .i64 6) hb (by simp) (by go_simp)
 have x1:=KW.cell (b:=w.heap.size) (o:=1) (v:=.int .i64 n) hb (by simp) (by go_simp)
 have hk:KW w w1:=((KW.refl w).alloc _).t hb
 have HK:=hid hk
 replace c4:=KW.cell hk hlt c4
 have hsz:w.heap.size<w1.heap.size:=Nat.lt_of_lt_of_le (by simp) (KW.size hb)
 have HS:=hid hsz
 clear hb hk hsz
 go_wp2_with fail
 have hXS:=And.intro c4 (And.intro x0 x1)
 refine wpX_region (S:=fun w'=>w'.cell? ⟨b,4,none⟩=some (.slice A N cp)∧w'.cell? ⟨w.heap.size,0,none⟩=some (.int .i64 6)∧w'.cell? ⟨w.heap.size,1,none⟩=some (.int .i64 n)) (L:=99) (by kernel_rfl) ?_
 refine tk 0 ?_ (fun _ _=>?_) hXS ?_;rotate_left;· go_simp;try rfl
 simp only[lsz,lss]
 refine tk 1 ?_ (fun _ _=>?_) hXS ?_;rotate_left;· go_simp;try rfl
 simp only[lsz,lss]
 refine tk 2 ?_ (fun _ _=>?_) hXS ?_;rotate_left;· go_simp;try rfl
 simp only[lsz,lss]
 refine tk 3 ?_ (fun _ _=>?_) hXS ?_;rotate_left;· go_simp;try rfl
 simp only[lsz,lss]
 refine tk 4 ?_ (fun _ _=>?_) hXS ?_;rotate_left;· go_simp;try rfl
 simp only[lsz,lss]
 refine tk 5 ?_ (fun _ _=>?_) hXS ?_;rotate_left;· go_simp;try rfl
 simp only[lsz,lss]
 refine tk 6 ?_ (fun _ _=>?_) hXS ?_;rotate_left;· go_simp;try rfl
 simp only[lsz,lss]
 refine tk 7 ?_ (fun _ _=>?_) hXS ?_;rotate_left;· go_simp;try rfl
 simp only[lsz,lss]
 refine tk 8 ?_ (fun _ _=>?_) hXS ?_;rotate_left;· go_simp;try rfl
 simp only[lsz,lss]
 refine tn 9 hXS ?_
 simp only[lsz,lss]
 refine tn 10 hXS ?_
 simp only[lsz,lss]
 refine tn 11 hXS ?_
 simp only[lsz,lss]
 refine tn 12 hXS ?_
 simp only[lsz,lss]
 refine tn 13 hXS ?_
 simp only[lsz,lss]
 refine tn 14 hXS ?_
 simp only[lsz,lss]
 refine tn 15 hXS ?_
 simp only[lsz,lss]
 refine tn 16 hXS ?_
 simp only[lsz,lss]
 refine tk 17 ?_ (fun _ _=>?_) hXS ?_;rotate_left;· go_simp;try rfl
 simp only[lsz,lss]
 refine tk 18 ?_ (fun _ _=>?_) hXS ?_;rotate_left;· go_simp;try rfl
 simp only[lsz,lss]
 refine wpX_done (by kernel_rfl) ?_
 clear hXS c4
 go_wp2_with fail
 have hXS:=And.intro x0 x1
 have X0:=hid x0
 have X1:=hid x1
 refine wpX_region (S:=fun w'=>w'.cell? ⟨w.heap.size,0,none⟩=some (.int .i64 6)∧w'.cell? ⟨w.heap.size,1,none⟩=some (.int .i64 n)) (L:=99) (by kernel_rfl) ?_
 refine tk 0 ?_ (fun _ _=>?_) hXS ?_;rotate_left;· go_simp;try rfl
 simp only[lsz,lss]
 refine tk 2 ?_ (fun _ _=>?_) hXS ?_;rotate_left;· go_simp;try rfl
 simp only[lsz,lss]
 refine tk 3 ?_ (fun _ _=>?_) hXS ?_;rotate_left;· go_simp;try rfl
 simp only[lsz,lss]
 refine tk 5 ?_ (fun _ _=>?_) hXS ?_;rotate_left;· go_simp;try rfl
 simp only[lsz,lss]
 refine tk 6 ?_ (fun _ _=>?_) hXS ?_;rotate_left;· go_simp;try rfl
 simp only[lsz,lss]
 refine wpX_hard (k:=1) (by kernel_rfl) rfl (fun K hK=>?_)
 go_simp
 (refine(moves_any b _).mono ?_;rintro e w2 ⟨rfl,hb⟩;unfold mvs;have hb:=hid hb)
 refine hK _ _ (fun _=>⟨KW.cell hb.out HS.out X0.out,KW.cell hb.out HS.out X1.out⟩) ?_
 clear hK K
 try simp only[lsz,lss]
 have hXS:=And.intro (KW.cell hb.out HS.out X0.out) (KW.cell hb.out HS.out X1.out)
 refine tk 4 ?_ (fun _ _=>?_) hXS ?_;rotate_left;· go_simp;try rfl
 simp only[lsz,lss]
 have HK2:Hid (KW w w2):=HK.out.drew.drew.t hb.out
 have HS2:Hid (w.heap.size<w2.heap.size):=Nat.lt_of_lt_of_le HS.out (by have hs2:=KW.size hb.out;exact hs2)
 have X2:=hid hXS
 refine wpX_hard (k:=7) (by kernel_rfl) rfl (fun K hK=>?_)
 go_simp
 (refine(HH.out _ (HM.out.kw HK2.out)).mono ?_;rintro e w3 ⟨rfl,hm3,hk3⟩;have hm3:=hid hm3;have hk3:=hid hk3)
 refine hK _ _ (fun _=>⟨(hk3.out.cell HS2.out hmo.out).trans X2.out.1,(hk3.out.cell HS2.out hmo.out).trans X2.out.2⟩) ?_
 clear hK K
 have hXS:=And.intro ((hk3.out.cell (o:=0) HS2.out hmo.out).trans X2.out.1) ((hk3.out.cell (o:=1) HS2.out hmo.out).trans X2.out.2)
 refine tk 8 ?_ (fun _ _=>?_) hXS ?_;rotate_left;· go_simp;try rfl
 simp only[lsz,lss]
 refine wpX_done (by kernel_rfl) ?_
 go_wp2_with fail
 go_ret
 exact⟨rfl,hm3.out,HK2.out.kt hk3.out⟩
theorem do_7 (n:Int)(m m':Mc.St)(c:Int)(b:Nat)(v:Value)(w:World)(hM:Mach w b v m)(hl:m.tags.length≤1048576)(hr:Mc.right 7 n=true)
 (H:∀ W,Mach W b v m→Calls Tryz.prog 95 #[.pointer (some ⟨b,0,none⟩),.int .i64 n] W (Did W b v m' c)):
 Calls Tryz.prog 18 #[.pointer (some ⟨b,0,none⟩),.agg #[.int .i64 7,.int .i64 n]] w (Did w b v m' c):=by
 have HR:=hid (fun W=>right_any 7 n W)
 rw[hr] at HR
 have HH:=hid H
 clear H
 have HM:=hid hM
 have hmo:=hid (fun h=>absurd (hM.lt h) (Nat.lt_irrefl _):¬ mo b v w.heap.size)
 obtain⟨A,cp,hv⟩:=hM.len
 have c4:=hM.1.cell (i:=4) (by omega)
 simp only[mf] at c4
 rw[hv] at c4
 have hlt:=hM.size
 clear hr hM hv
 generalize m.tags.length=N at *
 go_enter Tryz.func18,Tryz.ntmps18
 go_wp2_with fail
 refine(HR.out _).mono ?_
 rintro e w1 ⟨rfl,hb⟩
 have x0:=KW.cell (b:=w.heap.size) (o:=0) (v:=.int .i64 7) hb (by simp) (by go_simp)
 have x1:=KW.cell (b:=w.heap.size) (o:=1) (v:=.int .i64 n) hb (by simp) (by go_simp)
 have hk:KW w w1:=((KW.refl w).alloc _).t hb
 have HK:=hid hk
 replace c4:=KW.cell hk hlt c4
 have hsz:w.heap.size<w1.heap.size:=Nat.lt_of_lt_of_le (by simp) (KW.size hb)
 have HS:=hid hsz
 clear hb hk hsz
 go_wp2_with fail
 have hXS:=And.intro c4 (And.intro x0 x1)
 refine wpX_region (S:=fun w'=>w'.cell? ⟨b,4,none⟩=some (.slice A N cp)∧w'.cell? ⟨w.heap.size,0,none⟩=some (.int .i64 7)∧w'.cell? ⟨w.heap.size,1,none⟩=some (.int .i64 n)) (L:=99) (by kernel_rfl) ?_
 refine tk 0 ?_ (fun _ _=>?_) hXS ?_;rotate_left;· go_simp;try rfl
 simp only[lsz,lss]
 refine tk 1 ?_ (fun _ _=>?_) hXS ?_;rotate_left;· go_simp;try rfl
 simp only[lsz,lss]
 refine tk 2 ?_ (fun _ _=>?_) hXS ?_;rotate_left;· go_simp;try rfl
 simp only[lsz,lss]
 refine tk 3 ?_ (fun _ _=>?_) hXS ?_;rotate_left;· go_simp;try rfl
 simp only[lsz,lss]
 refine tk 4 ?_ (fun _ _=>?_) hXS ?_;rotate_left;· go_simp;try rfl
 simp only[lsz,lss]
 refine tk 5 ?_ (fun _ _=>?_) hXS ?_;rotate_left;· go_simp;try rfl
 simp only[lsz,lss]
 refine tk 6 ?_ (fun _ _=>?_) hXS ?_;rotate_left;· go_simp;try rfl
 simp only[lsz,lss]
 refine tk 7 ?_ (fun _ _=>?_) hXS ?_;rotate_left;· go_simp;try rfl
 simp only[lsz,lss]
 refine tk 8 ?_ (fun _ _=>?_) hXS ?_;rotate_left;· go_simp;try rfl
 simp only[lsz,lss]
 refine tn 9 hXS ?_
 simp only[lsz,lss]
 refine tn 10 hXS ?_
 simp only[lsz,lss]
 refine tn 11 hXS ?_
 simp only[lsz,lss]
 refine tn 12 hXS ?_
 simp only[lsz,lss]
 refine tn 13 hXS ?_
 simp only[lsz,lss]
 refine tn 14 hXS ?_
 simp only[lsz,lss]
 refine tn 15 hXS ?_
 simp only[lsz,lss]
 refine tn 16 hXS ?_
 simp only[lsz,lss]
 refine tk 17 ?_ (fun _ _=>?_) hXS ?_;rotate_left;· go_simp;try rfl
 simp only[lsz,lss]
 refine tk 18 ?_ (fun _ _=>?_) hXS ?_;rotate_left;· go_simp;try rfl
 simp only[lsz,lss]
 refine wpX_done (by kernel_rfl) ?_
 clear hXS c4
 go_wp2_with fail
 have hXS:=And.intro x0 x1
 have X0:=hid x0
 have X1:=hid x1
 refine wpX_region (S:=fun w'=>w'.cell? ⟨w.heap.size,0,none⟩=some (.int .i64 7)∧w'.cell? ⟨w.heap.size,1,none⟩=some (.int .i64 n)) (L:=99) (by kernel_rfl) ?_
 refine tk 0 ?_ (fun _ _=>?_) hXS ?_;rotate_left;· go_simp;try rfl
 simp only[lsz,lss]
 refine tk 2 ?_ (fun _ _=>?_) hXS ?_;rotate_left;· go_simp;try rfl
 simp only[lsz,lss]
 refine tk 3 ?_ (fun _ _=>?_) hXS ?_;rotate_left;· go_simp;try rfl
 simp only[lsz,lss]
 refine tk 5 ?_ (fun _ _=>?_) hXS ?_;rotate_left;· go_simp;try rfl
 simp only[lsz,lss]
 refine tk 6 ?_ (fun _ _=>?_) hXS ?_;rotate_left;· go_simp;try rfl
 simp only[lsz,lss]
 refine wpX_hard (k:=1) (by kernel_rfl) rfl (fun K hK=>?_)
 go_simp
 (refine(moves_any b _).mono ?_;rintro e w2 ⟨rfl,hb⟩;unfold mvs;have hb:=hid hb)
 refine hK _ _ (fun _=>⟨KW.cell hb.out HS.out X0.out,KW.cell hb.out HS.out X1.out⟩) ?_
 clear hK K
 try simp only[lsz,lss]
 have hXS:=And.intro (KW.cell hb.out HS.out X0.out) (KW.cell hb.out HS.out X1.out)
 refine tk 4 ?_ (fun _ _=>?_) hXS ?_;rotate_left;· go_simp;try rfl
 simp only[lsz,lss]
 have HK2:Hid (KW w w2):=HK.out.drew.drew.t hb.out
 have HS2:Hid (w.heap.size<w2.heap.size):=Nat.lt_of_lt_of_le HS.out (by have hs2:=KW.size hb.out;exact hs2)
 have X2:=hid hXS
 refine wpX_hard (k:=7) (by kernel_rfl) rfl (fun K hK=>?_)
 go_simp
 (refine(HH.out _ (HM.out.kw HK2.out)).mono ?_;rintro e w3 ⟨rfl,hm3,hk3⟩;have hm3:=hid hm3;have hk3:=hid hk3)
 refine hK _ _ (fun _=>⟨(hk3.out.cell HS2.out hmo.out).trans X2.out.1,(hk3.out.cell HS2.out hmo.out).trans X2.out.2⟩) ?_
 clear hK K
 have hXS:=And.intro ((hk3.out.cell (o:=0) HS2.out hmo.out).trans X2.out.1) ((hk3.out.cell (o:=1) HS2.out hmo.out).trans X2.out.2)
 refine tk 8 ?_ (fun _ _=>?_) hXS ?_;rotate_left;· go_simp;try rfl
 simp only[lsz,lss]
 refine wpX_done (by kernel_rfl) ?_
 go_wp2_with fail
 go_ret
 exact⟨rfl,hm3.out,HK2.out.kt hk3.out⟩
theorem do_wrong (k n:Int)(m:Mc.St)(b:Nat)(v:Value)(w:World)(hM:Mach w b v m)(hr:Mc.right k n=false):
 Calls Tryz.prog 18 #[.pointer (some ⟨b,0,none⟩),.agg #[.int .i64 k,.int .i64 n]] w (Did w b v m 2):=by
 have HR:=hid (fun W=>right_any k n W)
 rw[hr] at HR
 have HM:=hid hM
 clear hr hM
 go_enter Tryz.func18,Tryz.ntmps18
 go_wp2_with fail
 refine(HR.out _).mono ?_
 rintro e w1 ⟨rfl,hb⟩
 have x0:=KW.cell (b:=w.heap.size) (o:=0) (v:=.int .i64 k) hb (by simp) (by go_simp)
 have HK:Hid (KW w w1):=((KW.refl w).alloc _).t hb
 clear hb
 go_wp2_with fail
 go_ret
 exact⟨rfl,HM.out.kw HK.out,HK.out.keep⟩
theorem do_late (k n:Int)(m:Mc.St)(b:Nat)(v:Value)(w:World)(hM:Mach w b v m)(hr:Mc.right k n=true)(h7:7<k):
 Calls Tryz.prog 18 #[.pointer (some ⟨b,0,none⟩),.agg #[.int .i64 k,.int .i64 n]] w (Did w b v m 2):=by
 have HR:=hid (fun W=>right_any k n W)
 rw[hr] at HR
 have d7:decide (7<k)=true:=by simpa using h7
 have HM:=hid hM
 clear hr hM
 go_enter Tryz.func18,Tryz.ntmps18
 go_wp2_with fail
 refine(HR.out _).mono ?_
 rintro e w1 ⟨rfl,hb⟩
 have x0:=KW.cell (b:=w.heap.size) (o:=0) (v:=.int .i64 k) hb (by simp) (by go_simp)
 have HK:Hid (KW w w1):=((KW.refl w).alloc _).t hb
 clear hb
 go_wp2_with fail
 go_ret
 exact⟨rfl,HM.out.kw HK.out,HK.out.keep⟩
theorem do_out2 (n:Nat)(m:Mc.St)(b:Nat)(v:Value)(w:World)(hM:Mach w b v m)(hl:m.tags.length≤1048576)(hr:Mc.right 2 (n:Int)=true)(hn:m.tags.length≤n):
 Calls Tryz.prog 18 #[.pointer (some ⟨b,0,none⟩),.agg #[.int .i64 2,.int .i64 (n:Int)]] w (Did w b v m 2):=by
 have HR:=hid (fun W=>right_any 2 (n:Int) W)
 rw[hr] at HR
 have HM:=hid hM
 obtain⟨A,cp,hv⟩:=hM.len
 have c4:=hM.1.cell (i:=4) (by omega)
 simp only[mf] at c4
 rw[hv] at c4
 have hlt:=hM.size
 clear hr hM hv
 generalize m.tags.length=N at *
 have dn:decide (N≤n)=true:=by simpa using hn
 go_enter Tryz.func18,Tryz.ntmps18
 go_wp2_with fail
 refine(HR.out _).mono ?_
 rintro e w1 ⟨rfl,hb⟩
 have x0:=KW.cell (b:=w.heap.size) (o:=0) (v:=.int .i64 2) hb (by simp) (by go_simp)
 have x1:=KW.cell (b:=w.heap.size) (o:=1) (v:=.int .i64 (n:Int)) hb (by simp) (by go_simp)
 have hk:KW w w1:=((KW.refl w).alloc _).t hb
 have HK:=hid hk
 replace c4:=KW.cell hk hlt c4
 clear hb hk
 go_wp2_with fail
 have hXS:=And.intro c4 (And.intro x0 x1)
 refine wpX_region (S:=fun w'=>w'.cell? ⟨b,4,none⟩=some (.slice A N cp)∧w'.cell? ⟨w.heap.size,0,none⟩=some (.int .i64 2)∧w'.cell? ⟨w.heap.size,1,none⟩=some (.int .i64 (n:Int))) (L:=99) (by kernel_rfl) ?_
 refine tk 0 ?_ (fun _ _=>?_) hXS ?_;rotate_left;· go_simp;try rfl
 simp only[lsz,lss]
 refine tk 1 ?_ (fun _ _=>?_) hXS ?_;rotate_left;· go_simp;try rfl
 simp only[lsz,lss]
 refine tk 2 ?_ (fun _ _=>?_) hXS ?_;rotate_left;· go_simp;try rfl
 simp only[lsz,lss]
 refine tk 3 ?_ (fun _ _=>?_) hXS ?_;rotate_left;· go_simp;try rfl
 simp only[lsz,lss]
 refine tk 4 ?_ (fun _ _=>?_) hXS ?_;rotate_left;· go_simp;try rfl
 simp only[lsz,lss]
 refine tk 5 ?_ (fun _ _=>?_) hXS ?_;rotate_left;· go_simp;try rfl
 simp only[lsz,lss]
 refine tk 6 ?_ (fun _ _=>?_) hXS ?_;rotate_left;· go_simp;try rfl
 simp only[lsz,lss]
 refine tk 7 ?_ (fun _ _=>?_) hXS ?_;rotate_left;· go_simp;try rfl
 simp only[lsz,lss]
 refine tk 8 ?_ (fun _ _=>?_) hXS ?_;rotate_left;· go_simp;try rfl
 simp only[lsz,lss]
 refine tk 9 ?_ (fun _ _=>?_) hXS ?_;rotate_left;· go_simp;try rfl
 simp only[lsz,lss]
 refine tk 10 ?_ (fun _ _=>?_) hXS ?_;rotate_left;· go_simp;try rfl
 simp only[lsz,lss]
 refine tk 11 ?_ (fun _ _=>?_) hXS ?_;rotate_left;· go_simp;try rfl
 simp only[lsz,lss]
 refine tk 12 ?_ (fun _ _=>?_) hXS ?_;rotate_left;· go_simp;try rfl
 simp only[lsz,lss]
 refine tk 13 ?_ (fun _ _=>?_) hXS ?_;rotate_left;· go_simp;try rfl
 simp only[lsz,lss]
 refine tk 14 ?_ (fun _ _=>?_) hXS ?_;rotate_left;· go_simp;try rfl
 simp only[lsz,lss]
 refine tk 15 ?_ (fun _ _=>?_) hXS ?_;rotate_left;· go_simp;try rfl
 simp only[lsz,lss]
 refine tk 16 ?_ (fun _ _=>?_) hXS ?_;rotate_left;· go_simp;try rfl
 simp only[lsz,lss]
 refine tk 17 ?_ (fun _ _=>?_) hXS ?_;rotate_left;· go_simp;try rfl
 simp only[lsz,lss]
 refine tk 18 ?_ (fun _ _=>?_) hXS ?_;rotate_left;· go_simp;try rfl
 simp only[lsz,lss]
 refine wpX_done (by kernel_rfl) ?_
 go_wp2_with fail
 go_ret
 exact⟨rfl,HM.out.kw HK.out.drew,HK.out.keep.drew⟩
theorem do_out3 (n:Nat)(m:Mc.St)(b:Nat)(v:Value)(w:World)(hM:Mach w b v m)(hl:m.tags.length≤1048576)(hr:Mc.right 3 (n:Int)=true)(hn:m.tags.length≤n):
 Calls Tryz.prog 18 #[.pointer (some ⟨b,0,none⟩),.agg #[.int .i64 3,.int .i64 (n:Int)]] w (Did w b v m 2):=by
 have HR:=hid (fun W=>right_any 3 (n:Int) W)
 rw[hr] at HR
 have HM:=hid hM
 obtain⟨A,cp,hv⟩:=hM.len
 have c4:=hM.1.cell (i:=4) (by omega)
 simp only[mf] at c4
 rw[hv] at c4
 have hlt:=hM.size
 clear hr hM hv
 generalize m.tags.length=N at *
 have dn:decide (N≤n)=true:=by simpa using hn
 go_enter Tryz.func18,Tryz.ntmps18
 go_wp2_with fail
 refine(HR.out _).mono ?_
 rintro e w1 ⟨rfl,hb⟩
 have x0:=KW.cell (b:=w.heap.size) (o:=0) (v:=.int .i64 3) hb (by simp) (by go_simp)
 have x1:=KW.cell (b:=w.heap.size) (o:=1) (v:=.int .i64 (n:Int)) hb (by simp) (by go_simp)
 have hk:KW w w1:=((KW.refl w).alloc _).t hb
 have HK:=hid hk
 replace c4:=KW.cell hk hlt c4
 clear hb hk
 go_wp2_with fail
 have hXS:=And.intro c4 (And.intro x0 x1)
 refine wpX_region (S:=fun w'=>w'.cell? ⟨b,4,none⟩=some (.slice A N cp)∧w'.cell? ⟨w.heap.size,0,none⟩=some (.int .i64 3)∧w'.cell? ⟨w.heap.size,1,none⟩=some (.int .i64 (n:Int))) (L:=99) (by kernel_rfl) ?_
 refine tk 0 ?_ (fun _ _=>?_) hXS ?_;rotate_left;· go_simp;try rfl
 simp only[lsz,lss]
 refine tk 1 ?_ (fun _ _=>?_) hXS ?_;rotate_left;· go_simp;try rfl
 simp only[lsz,lss]
 refine tk 2 ?_ (fun _ _=>?_) hXS ?_;rotate_left;· go_simp;try rfl
 simp only[lsz,lss]
 refine tk 3 ?_ (fun _ _=>?_) hXS ?_;rotate_left;· go_simp;try rfl
 simp only[lsz,lss]
 refine tk 4 ?_ (fun _ _=>?_) hXS ?_;rotate_left;· go_simp;try rfl
 simp only[lsz,lss]
 refine tk 5 ?_ (fun _ _=>?_) hXS ?_;rotate_left;· go_simp;try rfl
 simp only[lsz,lss]
 refine tk 6 ?_ (fun _ _=>?_) hXS ?_;rotate_left;· go_simp;try rfl
 simp only[lsz,lss]
 refine tk 7 ?_ (fun _ _=>?_) hXS ?_;rotate_left;· go_simp;try rfl
 simp only[lsz,lss]
 refine tk 8 ?_ (fun _ _=>?_) hXS ?_;rotate_left;· go_simp;try rfl
 simp only[lsz,lss]
 refine tk 9 ?_ (fun _ _=>?_) hXS ?_;rotate_left;· go_simp;try rfl
 simp only[lsz,lss]
 refine tk 10 ?_ (fun _ _=>?_) hXS ?_;rotate_left;· go_simp;try rfl
 simp only[lsz,lss]
 refine tk 11 ?_ (fun _ _=>?_) hXS ?_;rotate_left;· go_simp;try rfl
 simp only[lsz,lss]
 refine tk 12 ?_ (fun _ _=>?_) hXS ?_;rotate_left;· go_simp;try rfl
 simp only[lsz,lss]
 refine tk 13 ?_ (fun _ _=>?_) hXS ?_;rotate_left;· go_simp;try rfl
 simp only[lsz,lss]
 refine tk 14 ?_ (fun _ _=>?_) hXS ?_;rotate_left;· go_simp;try rfl
 simp only[lsz,lss]
 refine tk 15 ?_ (fun _ _=>?_) hXS ?_;rotate_left;· go_simp;try rfl
 simp only[lsz,lss]
 refine tk 16 ?_ (fun _ _=>?_) hXS ?_;rotate_left;· go_simp;try rfl
 simp only[lsz,lss]
 refine tk 17 ?_ (fun _ _=>?_) hXS ?_;rotate_left;· go_simp;try rfl
 simp only[lsz,lss]
 refine tk 18 ?_ (fun _ _=>?_) hXS ?_;rotate_left;· go_simp;try rfl
 simp only[lsz,lss]
 refine wpX_done (by kernel_rfl) ?_
 go_wp2_with fail
 go_ret
 exact⟨rfl,HM.out.kw HK.out.drew,HK.out.keep.drew⟩
theorem do_out4 (n:Nat)(m:Mc.St)(b:Nat)(v:Value)(w:World)(hM:Mach w b v m)(hl:m.tags.length≤1048576)(hr:Mc.right 4 (n:Int)=true)(hn:m.tags.length≤n):
 Calls Tryz.prog 18 #[.pointer (some ⟨b,0,none⟩),.agg #[.int .i64 4,.int .i64 (n:Int)]] w (Did w b v m 2):=by
 have HR:=hid (fun W=>right_any 4 (n:Int) W)
 rw[hr] at HR
 have HM:=hid hM
 obtain⟨A,cp,hv⟩:=hM.len
 have c4:=hM.1.cell (i:=4) (by omega)
 simp only[mf] at c4
 rw[hv] at c4
 have hlt:=hM.size
 clear hr hM hv
 generalize m.tags.length=N at *
 have dn:decide (N≤n)=true:=by simpa using hn
 go_enter Tryz.func18,Tryz.ntmps18
 go_wp2_with fail
 refine(HR.out _).mono ?_
 rintro e w1 ⟨rfl,hb⟩
 have x0:=KW.cell (b:=w.heap.size) (o:=0) (v:=.int .i64 4) hb (by simp) (by go_simp)
 have x1:=KW.cell (b:=w.heap.size) (o:=1) (v:=.int .i64 (n:Int)) hb (by simp) (by go_simp)
 have hk:KW w w1:=((KW.refl w).alloc _).t hb
 have HK:=hid hk
 replace c4:=KW.cell hk hlt c4
 clear hb hk
 go_wp2_with fail
 have hXS:=And.intro c4 (And.intro x0 x1)
 refine wpX_region (S:=fun w'=>w'.cell? ⟨b,4,none⟩=some (.slice A N cp)∧w'.cell? ⟨w.heap.size,0,none⟩=some (.int .i64 4)∧w'.cell? ⟨w.heap.size,1,none⟩=some (.int .i64 (n:Int))) (L:=99) (by kernel_rfl) ?_
 refine tk 0 ?_ (fun _ _=>?_) hXS ?_;rotate_left;· go_simp;try rfl
 simp only[lsz,lss]
 refine tk 1 ?_ (fun _ _=>?_) hXS ?_;rotate_left;· go_simp;try rfl
 simp only[lsz,lss]
 refine tk 2 ?_ (fun _ _=>?_) hXS ?_;rotate_left;· go_simp;try rfl
 simp only[lsz,lss]
 refine tk 3 ?_ (fun _ _=>?_) hXS ?_;rotate_left;· go_simp;try rfl
 simp only[lsz,lss]
 refine tk 4 ?_ (fun _ _=>?_) hXS ?_;rotate_left;· go_simp;try rfl
 simp only[lsz,lss]
 refine tk 5 ?_ (fun _ _=>?_) hXS ?_;rotate_left;· go_simp;try rfl
 simp only[lsz,lss]
 refine tk 6 ?_ (fun _ _=>?_) hXS ?_;rotate_left;· go_simp;try rfl
 simp only[lsz,lss]
 refine tk 7 ?_ (fun _ _=>?_) hXS ?_;rotate_left;· go_simp;try rfl
 simp only[lsz,lss]
 refine tk 8 ?_ (fun _ _=>?_) hXS ?_;rotate_left;· go_simp;try rfl
 simp only[lsz,lss]
 refine tk 9 ?_ (fun _ _=>?_) hXS ?_;rotate_left;· go_simp;try rfl
 simp only[lsz,lss]
 refine tk 10 ?_ (fun _ _=>?_) hXS ?_;rotate_left;· go_simp;try rfl
 simp only[lsz,lss]
 refine tk 11 ?_ (fun _ _=>?_) hXS ?_;rotate_left;· go_simp;try rfl
 simp only[lsz,lss]
 refine tk 12 ?_ (fun _ _=>?_) hXS ?_;rotate_left;· go_simp;try rfl
 simp only[lsz,lss]
 refine tk 13 ?_ (fun _ _=>?_) hXS ?_;rotate_left;· go_simp;try rfl
 simp only[lsz,lss]
 refine tk 14 ?_ (fun _ _=>?_) hXS ?_;rotate_left;· go_simp;try rfl
 simp only[lsz,lss]
 refine tk 15 ?_ (fun _ _=>?_) hXS ?_;rotate_left;· go_simp;try rfl
 simp only[lsz,lss]
 refine tk 16 ?_ (fun _ _=>?_) hXS ?_;rotate_left;· go_simp;try rfl
 simp only[lsz,lss]
 refine tk 17 ?_ (fun _ _=>?_) hXS ?_;rotate_left;· go_simp;try rfl
 simp only[lsz,lss]
 refine tk 18 ?_ (fun _ _=>?_) hXS ?_;rotate_left;· go_simp;try rfl
 simp only[lsz,lss]
 refine wpX_done (by kernel_rfl) ?_
 go_wp2_with fail
 go_ret
 exact⟨rfl,HM.out.kw HK.out.drew,HK.out.keep.drew⟩
theorem do_any (m:Mc.St)(k n:Int)(b:Nat)(v:Value)(w:World)(hM:Mach w b v m)(hI:Mc.Inv m)(ht:m.tot≤4611686018427387904):
 Calls Tryz.prog 18 #[.pointer (some ⟨b,0,none⟩),.agg #[.int .i64 k,.int .i64 n]] w (Did w b v (Mc.step m k n).1 (Mc.step m k n).2):=by
 have hln:=hI.ln
 cases hr:Mc.right k n with
 | false=>
   rw[show Mc.step m k n=(m,2) from by unfold Mc.step;rw[if_pos (Or.inl hr)]]
   exact do_wrong k n m b v w hM hr
 | true=>
   by_cases h7:7<k
   ·rw[show Mc.step m k n=(m,2) from by unfold Mc.step;rw[if_pos (Or.inr h7)]]
    exact do_late k n m b v w hM hr h7
   have hlo:=Mc.right_lo hr
   have h0:¬ (Mc.right k n=false∨7<k):=by rw[hr];simp;omega
   by_cases hs:2≤k∧k≤4
   ·have hn:=Mc.right_slot hr hs.1 hs.2
    obtain⟨i,rfl⟩:∃ i:Nat,n=i:=⟨n.toNat,by omega⟩
    by_cases hlen:m.tags.length≤i
    ·rw[show Mc.step m k i=(m,2) from by unfold Mc.step;rw[if_neg h0,if_pos ⟨hs.1,hs.2,by omega⟩]]
     rcases(show k=2∨k=3∨k=4 by omega) with rfl|rfl|rfl
     ·exact do_out2 i m b v w hM hln hr hlen
     ·exact do_out3 i m b v w hM hln hr hlen
     ·exact do_out4 i m b v w hM hln hr hlen
    ·have h2:¬ (2≤k∧k≤4∧(m.tags.length:Int)≤(i:Int)):=by omega
     obtain⟨l,a,p,t,tags⟩:=m
     simp only at hlen hln h2 ht
     rcases(show k=2∨k=3∨k=4 by omega) with rfl|rfl|rfl
     ·have e:Mc.step ⟨l,a,p,t,tags⟩ 2 i=if 0≤tags.getD i 0 then (⟨l,a,p,t,tags⟩,15) else (⟨l,a,p,t,tags.set i a⟩,0):=by
       unfold Mc.step;rw[if_neg h0,if_neg h2,if_neg (by omega),if_pos rfl];rfl
      refine do_2 i _ _ _ b v w hM hln hr (by simp only;omega) fun W hW=>?_
      have:=store_any l a p t tags i b v W hW (by omega) hln
      rw[e]
      by_cases hc:0≤tags.getD i 0
      ·simpa only[if_pos hc] using this
      ·simpa only[if_neg hc] using this
     ·have e:Mc.step ⟨l,a,p,t,tags⟩ 3 i=if tags.getD i 0<0 then (⟨l,a,p,t,tags⟩,16) else (⟨l,tags.getD i 0,p,t,tags⟩,0):=by
       unfold Mc.step;rw[if_neg h0,if_neg h2,if_neg (by omega),if_neg (by omega),if_pos rfl];rfl
      refine do_3 i _ _ _ b v w hM hln hr (by simp only;omega) fun W hW=>?_
      have:=restore_any l a p t tags i b v W hW (by omega) hln
      rw[e]
      by_cases hc:tags.getD i 0<0
      ·simpa only[if_pos hc] using this
      ·simpa only[if_neg hc] using this
     ·have e:Mc.step ⟨l,a,p,t,tags⟩ 4 i=if tags.getD i 0<0 then (⟨l,a,p,t,tags⟩,16) else (⟨l,a,p,t,tags.set i (-1)⟩,0):=by
       unfold Mc.step;rw[if_neg h0,if_neg h2,if_neg (by omega),if_neg (by omega),if_neg (by omega),if_pos rfl];rfl
      refine do_4 i _ _ _ b v w hM hln hr (by simp only;omega) fun W hW=>?_
      have:=free_any l a p t tags i b v W hW (by omega) hln
      rw[e]
      by_cases hc:tags.getD i 0<0
      ·simpa only[if_pos hc] using this
      ·simpa only[if_neg hc] using this
   ·have h2:¬ (2≤k∧k≤4∧(m.tags.length:Int)≤n):=fun h=>hs ⟨h.1,h.2.1⟩
    obtain⟨l,a,p,t,tags⟩:=m
    simp only at hln h2 ht
    rcases(show k=1∨k=5∨k=6∨k=7 by omega) with rfl|rfl|rfl|rfl
    ·have hn:=Mc.right_one hr rfl
     have e:Mc.step ⟨l,a,p,t,tags⟩ 1 n=if l - a<n then (⟨l,a,p,t,tags⟩,17) else (⟨l,a+n,p,t+n,tags⟩,0):=by
      unfold Mc.step;rw[if_neg h0,if_neg h2,if_pos rfl]
     refine do_1 n _ _ _ b v w hM hln hr fun W hW=>?_
     have:=advance_any l a p t tags n b v W hW hI ht (by omega) (by omega)
     rw[e]
     by_cases hc:l - a<n
     ·simpa only[if_pos hc] using this
     ·simpa only[if_neg hc] using this
    ·have e:Mc.step ⟨l,a,p,t,tags⟩ 5 n=Mc.begin_ ⟨l,a,p,t,tags⟩ 0:=by
      unfold Mc.step;rw[if_neg h0,if_neg h2,if_neg (by omega),if_neg (by omega),if_neg (by omega),if_neg (by omega),if_pos rfl]
     rw[e]
     exact do_5 n _ _ _ b v w hM hln hr fun W hW=>seed_any l a p t tags n b v W hW hI
    ·have e:Mc.step ⟨l,a,p,t,tags⟩ 6 n=Mc.begin_ ⟨l,a,p,t,tags⟩ 1:=by
      unfold Mc.step;rw[if_neg h0,if_neg h2,if_neg (by omega),if_neg (by omega),if_neg (by omega),if_neg (by omega),if_neg (by omega),if_pos rfl]
     rw[e]
     exact do_6 n _ _ _ b v w hM hln hr fun W hW=>both_any l a p t tags n b v W hW hI
    ·have e:Mc.step ⟨l,a,p,t,tags⟩ 7 n=Mc.reverse ⟨l,a,p,t,tags⟩:=by
      unfold Mc.step;rw[if_neg h0,if_neg h2,if_neg (by omega),if_neg (by omega),if_neg (by omega),if_neg (by omega),if_neg (by omega),if_neg (by omega)]
     rw[e]
     exact do_7 n _ _ _ b v w hM hln hr fun W hW=>reverse_any l a p t tags n b v W hW hI
end Go.Proofs.YtphppbonljdibaaGreat
