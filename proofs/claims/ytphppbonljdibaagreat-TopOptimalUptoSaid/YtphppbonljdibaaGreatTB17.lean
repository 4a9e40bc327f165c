import Derived.Test.YtphppbonljdibaaGreatTB16
import Derived.Laws.StructEq
set_option maxRecDepth 100000
set_option maxHeartbeats 4000000
set_option linter.unusedVariables false
set_option linter.unusedSimpArgs false
namespace Go.Proofs.YtphppbonljdibaaGreat
open Go.ChangeShapes Go.WideShapes Go.ChangeAt Go.RowKit
theorem begin_any (l a p t:Int)(tags:List Int)(n:Int)(b:Nat)(v:Value)(w:World)(hM:Mach w b v ⟨l,a,p,t,tags⟩)(hI:Mc.Inv ⟨l,a,p,t,tags⟩)(n0:0≤n)(n1:n≤1):
 Calls Tryz.prog 127 #[.pointer (some ⟨b,0,none⟩),.int .i64 n] w (Did w b v (Mc.begin_ ⟨l,a,p,t,tags⟩ n).1 (Mc.begin_ ⟨l,a,p,t,tags⟩ n).2):=by
 obtain⟨l0,l1,a0,a1,p0,p1,tg,ln,t0⟩:=hI
 simp only at l0 l1 a0 a1 p0 p1 t0
 clear tg ln
 have c0:=hM.1.cell (i:=0) (by omega)
 have c1:=hM.1.cell (i:=1) (by omega)
 have c2:=hM.1.cell (i:=2) (by omega)
 have f1:=hM.1.frozen 1
 simp only[mf] at c0 c1 c2
 have hlt:=hM.size
 have HM:=hid hM
 clear hM
 have L1:IntKind.i64.wrap (l - n)=l - n:=IntWalk.i64_in _ (by omega)
 by_cases h1:p = -1
 ·subst h1
  by_cases h2:a=l - n
  ·have HE:=hid (show Mc.begin_ ⟨l,a,-1,t,tags⟩ n=(⟨l,a,a,t,tags⟩,0) from by unfold Mc.begin_;rw[if_neg (by simp),if_neg (by simpa using h2)])
   rw[HE.out]
   have H2:=hid h2
   have d2:(a==l - n)=true:=by simpa using h2
   clear h2
   go_enter Tryz.func127,Tryz.ntmps127
   go_wp2_with fail
   refine wpCode_world (fun W=>KW w W∧W.cell? ⟨w.heap.size,0,none⟩=some (.int .i64 (l - n))∧W.cell? ⟨w.heap.size,1,none⟩=some (.int .i64 (-1))) ⟨(KW.refl w).alloc _,by go_simp,by go_simp⟩ ?_
   rintro W ⟨hk,w0,w1⟩
   have HK:=hid hk
   replace c0:=KW.cell hk hlt c0
   replace c1:=KW.cell hk hlt c1
   replace f1:=KW.frozen hk hlt f1
   have HM1:=hid (HM.out.kw hk)
   clear hk c2 L1
   have hXS:=And.intro c0 (And.intro c1 (And.intro w0 w1))
   refine wpX_region (S:=fun w'=>w'.cell? ⟨b,0,none⟩=some (.int .i64 a)∧w'.cell? ⟨b,1,none⟩=some (.int .i64 (-1))∧w'.cell? ⟨w.heap.size,0,none⟩=some (.int .i64 (l - n))∧w'.cell? ⟨w.heap.size,1,none⟩=some (.int .i64 (-1))) (L:=99) (by kernel_rfl) ?_
   refine tk 0 ?_ (fun _ _=>?_) hXS ?_;rotate_left;· go_simp;try rfl
   simp only[lsz,lss]
   refine tk 1 ?_ (fun _ _=>?_) hXS ?_;rotate_left;· go_simp;try rfl
   simp only[lsz,lss]
   refine tk 2 ?_ (fun _ _=>?_) hXS ?_;rotate_left;· go_simp;try rfl
   simp only[lsz,lss]
   refine tk 3 ?_ (fun _ _=>?_) hXS ?_;rotate_left;· go_simp;try rfl
   simp only[lsz,lss]
   refine tk 4 ?_ (fun _ _=>?_) hXS ?_;rotate_left;· go_simp;try rfl
   simp only[lsz,lss]
   refine tk 5 ?_ (fun _ _=>?_) hXS ?_;rotate_left;· go_simp;try rfl
   simp only[lsz,lss]
   refine tk 6 ?_ (fun _ _=>?_) hXS ?_;rotate_left;· go_simp;try rfl
   simp only[lsz,lss]
   refine tk 7 ?_ (fun _ _=>?_) hXS ?_;rotate_left;· go_simp;try rfl
   simp only[lsz,lss]
   refine tk 8 ?_ (fun _ _=>?_) hXS ?_;rotate_left;· go_simp;try rfl
   simp only[lsz,lss]
   refine wpX_done (by kernel_rfl) ?_
   go_wp2_with fail
   refine wpX_region (S:=fun w'=>w'.cell? ⟨b,0,none⟩=some (.int .i64 a)∧w'.cell? ⟨b,1,none⟩=some (.int .i64 (-1))∧w'.cell? ⟨w.heap.size,0,none⟩=some (.int .i64 (l - n))∧w'.cell? ⟨w.heap.size,1,none⟩=some (.int .i64 (-1))) (L:=99) (by kernel_rfl) ?_
   refine tk 0 ?_ (fun _ _=>?_) hXS ?_;rotate_left;· go_simp;try rfl
   simp only[lsz,lss]
   refine tk 1 ?_ (fun _ _=>?_) hXS ?_;rotate_left;· go_simp;try rfl
   simp only[lsz,lss]
   refine tk 2 ?_ (fun _ _=>?_) hXS ?_;rotate_left;· go_simp;try rfl
   simp only[lsz,lss]
   refine tk 3 ?_ (fun _ _=>?_) hXS ?_;rotate_left;· go_simp;try rfl
   simp only[lsz,lss]
   refine tk 4 ?_ (fun _ _=>?_) hXS ?_;rotate_left;· go_simp;try rfl
   simp only[lsz,lss]
   refine tk 5 ?_ (fun _ _=>?_) hXS ?_;rotate_left;· go_simp;try rfl
   simp only[lsz,lss]
   refine tk 6 ?_ (fun _ _=>?_) hXS ?_;rotate_left;· go_simp;try rfl
   simp only[lsz,lss]
   refine wpX_done (by kernel_rfl) ?_
   go_wp2_with fail
   go_ret
   exact⟨rfl,Mach.set (m:=⟨l,a,-1,t,tags⟩) (HM1.out.kw ((KW.refl W).drew).drew) 1 _ rfl (fun j hj=>by rcases(show j=0∨j=1∨j=2∨j=3∨j=4 by omega) with rfl|rfl|rfl|rfl|rfl<;>rfl),(HK.out.keep.drew.drew).setCell _ _ (.inl rfl)⟩
  ·have HE:=hid (show Mc.begin_ ⟨l,a,-1,t,tags⟩ n=(⟨l,a,-1,t,tags⟩,17) from by unfold Mc.begin_;rw[if_neg (by simp),if_pos (by simpa using h2)])
   rw[HE.out]
   have d2:(a==l - n)=false:=by simpa using h2
   clear h2
   go_enter Tryz.func127,Tryz.ntmps127
   go_wp2_with fail
   refine wpCode_world (fun W=>KW w W∧W.cell? ⟨w.heap.size,0,none⟩=some (.int .i64 (l - n))∧W.cell? ⟨w.heap.size,1,none⟩=some (.int .i64 (-1))) ⟨(KW.refl w).alloc _,by go_simp,by go_simp⟩ ?_
   rintro W ⟨hk,w0,w1⟩
   have HK:=hid hk
   replace c0:=KW.cell hk hlt c0
   replace c1:=KW.cell hk hlt c1
   replace f1:=KW.frozen hk hlt f1
   have HM1:=hid (HM.out.kw hk)
   clear hk c2 L1
   have hXS:=And.intro c0 (And.intro c1 (And.intro w0 w1))
   refine wpX_region (S:=fun w'=>w'.cell? ⟨b,0,none⟩=some (.int .i64 a)∧w'.cell? ⟨b,1,none⟩=some (.int .i64 (-1))∧w'.cell? ⟨w.heap.size,0,none⟩=some (.int .i64 (l - n))∧w'.cell? ⟨w.heap.size,1,none⟩=some (.int .i64 (-1))) (L:=99) (by kernel_rfl) ?_
   refine tk 0 ?_ (fun _ _=>?_) hXS ?_;rotate_left;· go_simp;try rfl
   simp only[lsz,lss]
   refine tk 1 ?_ (fun _ _=>?_) hXS ?_;rotate_left;· go_simp;try rfl
   simp only[lsz,lss]
   refine tk 2 ?_ (fun _ _=>?_) hXS ?_;rotate_left;· go_simp;try rfl
   simp only[lsz,lss]
   refine tk 3 ?_ (fun _ _=>?_) hXS ?_;rotate_left;· go_simp;try rfl
   simp only[lsz,lss]
   refine tk 4 ?_ (fun _ _=>?_) hXS ?_;rotate_left;· go_simp;try rfl
   simp only[lsz,lss]
   refine tk 5 ?_ (fun _ _=>?_) hXS ?_;rotate_left;· go_simp;try rfl
   simp only[lsz,lss]
   refine tk 6 ?_ (fun _ _=>?_) hXS ?_;rotate_left;· go_simp;try rfl
   simp only[lsz,lss]
   refine tk 7 ?_ (fun _ _=>?_) hXS ?_;rotate_left;· go_simp;try rfl
   simp only[lsz,lss]
   refine tk 8 ?_ (fun _ _=>?_) hXS ?_;rotate_left;· go_simp;try rfl
   simp only[lsz,lss]
   refine wpX_done (by kernel_rfl) ?_
   go_wp2_with fail
   refine wpX_region (S:=fun w'=>w'.cell? ⟨b,0,none⟩=some (.int .i64 a)∧w'.cell? ⟨b,1,none⟩=some (.int .i64 (-1))∧w'.cell? ⟨w.heap.size,0,none⟩=some (.int .i64 (l - n))∧w'.cell? ⟨w.heap.size,1,none⟩=some (.int .i64 (-1))) (L:=99) (by kernel_rfl) ?_
   refine tk 0 ?_ (fun _ _=>?_) hXS ?_;rotate_left;· go_simp;try rfl
   simp only[lsz,lss]
   refine tk 1 ?_ (fun _ _=>?_) hXS ?_;rotate_left;· go_simp;try rfl
   simp only[lsz,lss]
   refine tk 2 ?_ (fun _ _=>?_) hXS ?_;rotate_left;· go_simp;try rfl
   simp only[lsz,lss]
   refine tk 3 ?_ (fun _ _=>?_) hXS ?_;rotate_left;· go_simp;try rfl
   simp only[lsz,lss]
   refine tk 4 ?_ (fun _ _=>?_) hXS ?_;rotate_left;· go_simp;try rfl
   simp only[lsz,lss]
   refine tk 5 ?_ (fun _ _=>?_) hXS ?_;rotate_left;· go_simp;try rfl
   simp only[lsz,lss]
   refine tk 6 ?_ (fun _ _=>?_) hXS ?_;rotate_left;· go_simp;try rfl
   simp only[lsz,lss]
   refine wpX_done (by kernel_rfl) ?_
   go_wp2_with fail
   go_ret
   exact⟨rfl,HM1.out.kw ((KW.refl W).drew).drew,HK.out.keep.drew.drew⟩
 ·have HE:=hid (show Mc.begin_ ⟨l,a,p,t,tags⟩ n=(⟨l,a,p,t,tags⟩,18) from by unfold Mc.begin_;rw[if_pos (by simpa using h1)])
  rw[HE.out]
  have d1:(p != -1)=true:=by simpa using h1
  clear h1
  go_enter Tryz.func127,Tryz.ntmps127
  go_wp2_with fail
  refine wpCode_world (fun W=>KW w W∧W.cell? ⟨w.heap.size,0,none⟩=some (.int .i64 (l - n))∧W.cell? ⟨w.heap.size,1,none⟩=some (.int .i64 (-1))) ⟨(KW.refl w).alloc _,by go_simp,by go_simp⟩ ?_
  rintro W ⟨hk,w0,w1⟩
  have HK:=hid hk
  replace c0:=KW.cell hk hlt c0
  replace c1:=KW.cell hk hlt c1
  replace f1:=KW.frozen hk hlt f1
  have HM1:=hid (HM.out.kw hk)
  clear hk c2 L1
  have hXS:=And.intro c0 (And.intro c1 (And.intro w0 w1))
  refine wpX_region (S:=fun w'=>w'.cell? ⟨b,0,none⟩=some (.int .i64 a)∧w'.cell? ⟨b,1,none⟩=some (.int .i64 p)∧w'.cell? ⟨w.heap.size,0,none⟩=some (.int .i64 (l - n))∧w'.cell? ⟨w.heap.size,1,none⟩=some (.int .i64 (-1))) (L:=99) (by kernel_rfl) ?_
  refine tk 0 ?_ (fun _ _=>?_) hXS ?_;rotate_left;· go_simp;try rfl
  simp only[lsz,lss]
  refine tk 1 ?_ (fun _ _=>?_) hXS ?_;rotate_left;· go_simp;try rfl
  simp only[lsz,lss]
  refine tk 2 ?_ (fun _ _=>?_) hXS ?_;rotate_left;· go_simp;try rfl
  simp only[lsz,lss]
  refine tk 3 ?_ (fun _ _=>?_) hXS ?_;rotate_left;· go_simp;try rfl
  simp only[lsz,lss]
  refine tk 4 ?_ (fun _ _=>?_) hXS ?_;rotate_left;· go_simp;try rfl
  simp only[lsz,lss]
  refine tk 5 ?_ (fun _ _=>?_) hXS ?_;rotate_left;· go_simp;try rfl
  simp only[lsz,lss]
  refine tk 6 ?_ (fun _ _=>?_) hXS ?_;rotate_left;· go_simp;try rfl
  simp only[lsz,lss]
  refine tk 7 ?_ (fun _ _=>?_) hXS ?_;rotate_left;· go_simp;try rfl
  simp only[lsz,lss]
  refine tk 8 ?_ (fun _ _=>?_) hXS ?_;rotate_left;· go_simp;try rfl
  simp only[lsz,lss]
  refine wpX_done (by kernel_rfl) ?_
  go_wp2_with fail
  go_ret
  exact⟨rfl,HM1.out.kw (KW.refl W).drew,HK.out.keep.drew⟩
theorem seed_any (l a p t:Int)(tags:List Int)(n:Int)(b:Nat)(v:Value)(w:World)(hM:Mach w b v ⟨l,a,p,t,tags⟩)(hI:Mc.Inv ⟨l,a,p,t,tags⟩):
 Calls Tryz.prog 93 #[.pointer (some ⟨b,0,none⟩),.int .i64 n] w (Did w b v (Mc.begin_ ⟨l,a,p,t,tags⟩ 0).1 (Mc.begin_ ⟨l,a,p,t,tags⟩ 0).2):=by
 have HB:=hid (begin_any l a p t tags 0 b v w hM hI (by omega) (by omega))
 go_enter Tryz.func93,Tryz.ntmps93
 go_wp2_with fail
 refine HB.out.mono ?_
 rintro e w1 ⟨rfl,hx⟩
 have HX:=hid hx
 clear hx
 go_wp2_with fail
 go_ret
 exact⟨rfl,HX.out⟩
theorem both_any (l a p t:Int)(tags:List Int)(n:Int)(b:Nat)(v:Value)(w:World)(hM:Mach w b v ⟨l,a,p,t,tags⟩)(hI:Mc.Inv ⟨l,a,p,t,tags⟩):
 Calls Tryz.prog 94 #[.pointer (some ⟨b,0,none⟩),.int .i64 n] w (Did w b v (Mc.begin_ ⟨l,a,p,t,tags⟩ 1).1 (Mc.begin_ ⟨l,a,p,t,tags⟩ 1).2):=by
 have HB:=hid (begin_any l a p t tags 1 b v w hM hI (by omega) (by omega))
 go_enter Tryz.func94,Tryz.ntmps94
 go_wp2_with fail
 refine HB.out.mono ?_
 rintro e w1 ⟨rfl,hx⟩
 have HX:=hid hx
 clear hx
 go_wp2_with fail
 go_ret
 exact⟨rfl,HX.out⟩
end Go.Proofs.YtphppbonljdibaaGreat
