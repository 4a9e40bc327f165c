import Derived.Test.YtphppbonljdibaaGreatTB05
set_option maxRecDepth 100000
set_option maxHeartbeats 4000000
set_option linter.unusedVariables false
set_option linter.unusedSimpArgs false
namespace Go.Proofs.YtphppbonljdibaaGreat
open Go.ChangeShapes Go.WideShapes Go.ChangeAt Go.RowKit
def IW (w:World)(v:Value)(l:List Int):Prop:=∃ A c,v=.slice A l.length c∧Row1 w A l.length fun i=>.int .i64 (l.getD i 0)
theorem IW.kw {w w':World}{v:Value}{l:List Int}(h:IW w v l)(hk:KW w w'):IW w' v l:=by
 obtain⟨A,c,hv,hr⟩:=h
 exact⟨A,c,hv,hr.k hk⟩
def i64s (l:List Int):List Value:=l.map (Value.int .i64)
theorem i64s_len (l:List Int):(i64s l).length=l.length:=by simp[i64s]
theorem i64s_get (l:List Int){i:Nat}(h:i<l.length):(i64s l).getD i undef=.int .i64 (l.getD i 0):=by simp[i64s,h]
theorem Owns.iw {w:World}{base:Nat}{e:TypeId}{v:Value}{l:List Int}(h:Owns w base e v (i64s l)):IW w v l:=by
 obtain⟨A,c,hv,_,_,hr⟩:=h.row
 rw[i64s_len] at hv hr
 exact⟨A,c,hv,hr.cong fun i hi=>i64s_get l hi⟩
theorem IW.nil (w:World):IW w (.slice none 0 0) []:=⟨none,0,rfl,fun h=>absurd h (by simp)⟩
theorem sliceIntO:SliceOf Tryz.prog 56 3 (.int .i64 0) 8:=⟨Tryz.underlying56,by kernel_rfl,rfl⟩
def rl07 (k a b:Int):List Int:=(if Oc.aA k=true then [a] else [])++(if Oc.aB k=true then [b] else [])
def ReadsQ (w:World)(l:List Int)(e:Ending)(w':World):Prop:=∃ u,e=.returned u∧IW w' u l∧KW w w'∧Owns w' w.heap.size 3 u (i64s l)
theorem Owns.putO {w:World}{base N c g:Nat}{e:TypeId}{xs:List Value}(h:Owns w base e (.slice (some ⟨g,0,none⟩) N c) xs){i:Nat}(hi:i<xs.length)(u:Value):
 Owns (w.setCell ⟨g,i,none⟩ u) base e (.slice (some ⟨g,0,none⟩) N c) (xs.set i u):=by
 have hx:=h
 unfold Owns at hx
 rcases hx.2 with⟨hv,h0⟩|⟨g',cap,cur,hv,hb,hg,hc,hm,hs,ht⟩
 ·omega
 ·cases hv
  unfold Owns
  rw[List.length_set]
  refine⟨by rw[List.length_set];exact hx.1,.inr ⟨g,c,cur.setIfInBounds i u,rfl,hb,heap_setCell_same w g i cur e u hg,hc,hm,by simpa using hs,?_⟩⟩
  rw[Array.toList_setIfInBounds,List.take_set]
  exact congrArg (fun L=>List.set L i u) ht
theorem Owns.baseO {w:World}{base b2:Nat}{e:TypeId}{v:Value}{xs:List Value}(h:Owns w base e v xs)(hb:b2≤base):Owns w b2 e v xs:=
 ⟨h.1,h.2.imp id fun⟨g,cap,cur,hv,hg,r⟩=>⟨g,cap,cur,hv,Nat.le_trans hb hg,r⟩⟩
theorem swp2_own {w:World}{g c base b2:Nat}{e:TypeId}{x y:Int}(h:Owns w base e (.slice (some ⟨g,0,none⟩) 2 c) [.int .i64 x,.int .i64 y])(hb:b2≤base):Owns (swp2 w g x y) b2 e (.slice (some ⟨g,0,none⟩) 2 c) (i64s [y,x]):=by
 have h1:=(h.putO (i:=0) (by simp) (.int .i64 y)).putO (i:=1) (by simp) (.int .i64 x)
 exact⟨h1.1,h1.2.imp id fun⟨g,cap,cur,hv,hg,r⟩=>⟨g,cap,cur,hv,Nat.le_trans hb hg,r⟩⟩
theorem owns2 {w:World}{base:Nat}{e:TypeId}{u:Value}{x y:Int}(h:Owns w base e u [.int .i64 x,.int .i64 y]):
 ∃ g c,u=.slice (some ⟨g,0,none⟩) 2 c∧base≤g∧g<w.heap.size∧w.cell? ⟨g,0,none⟩=some (.int .i64 x)∧w.cell? ⟨g,1,none⟩=some (.int .i64 y)∧w.frozen? ⟨g,0,none⟩=false∧w.frozen? ⟨g,1,none⟩=false:=by
 have hx:=h
 obtain⟨A,c,hv,hc,hA,hr⟩:=h.row
 obtain⟨g,rfl,hg,hlt⟩:=hA (by simp)
 obtain⟨b',o',e1,hb,hcc⟩:=hr (by simp)
 cases e1
 have q0:=hcc 0 (by simp)
 have q1:=hcc 1 (by simp)
 simp at q0 q1
 rcases hx.2 with⟨h0,_⟩|⟨g',cap,cur,h0,_,hgg,_⟩
 ·rw[hv] at h0;cases h0
 ·rw[hv] at h0
  simp only[Value.slice.injEq,Option.some.injEq,Addr.mk.injEq] at h0
  obtain⟨⟨rfl,_⟩,_⟩:=h0
  exact⟨g,c,hv,hg,hlt,q0,q1,by simp[World.frozen?,hgg],by simp[World.frozen?,hgg]⟩
theorem swp2_row {w:World}{g c:Nat}{x y:Int}(c0:w.cell? ⟨g,0,none⟩=some (.int .i64 x))(c1:w.cell? ⟨g,1,none⟩=some (.int .i64 y)):IW (swp2 w g x y) (.slice (some ⟨g,0,none⟩) 2 c) [y,x]:=by
 refine⟨_,c,rfl,fun _=>⟨g,0,rfl,?_,fun i hi=>?_⟩⟩
 ·have:=World.block_lt_of_cell? w _ c0
  simpa [swp2] using this
 ·have e0:(w.setCell ⟨g,0,none⟩ (.int .i64 y)).cell? ⟨g,0,none⟩=some (.int .i64 y):=World.cell?_setCell_same _ _ _ c0
  have e1:(w.setCell ⟨g,0,none⟩ (.int .i64 y)).cell? ⟨g,1,none⟩=some (.int .i64 y):=(World.cell?_setCell_other _ _ _ _ (by simp)).trans c1
  rcases(show i=0∨i=1 by simp at hi;omega) with rfl|rfl
  ·exact(World.cell?_setCell_other _ _ _ _ (by simp)).trans e0
  ·exact World.cell?_setCell_same _ _ _ e1
theorem swp2_kw {w0 w:World}{g:Nat}{x y:Int}(h:KW w0 w)(hg:w0.heap.size≤g):KW w0 (swp2 w g x y):=
 Below.setCell (p:=⟨g,1,none⟩) (Below.setCell (p:=⟨g,0,none⟩) h hg _) hg _
theorem oreads_two (k d a b v:Int)(w:World)(h:k=1∨k=2∨k=3):
 Calls Tryz.prog 255 #[.agg (opv k d a b v)] w (ReadsQ w [a,b]):=by
 have hop:=opv_row' w k d a b v
 have hk:=(KW.refl w).alloc (.cells (opv k d a b v) 83)
 unfold opv at *
 have HOp:=hid hop
 have HK:=hid hk
 have c3:=hop.cell (i:=3) (by omega)
 simp only[List.getD_cons_succ,List.getD_cons_zero] at c3
 clear hop hk
 rcases h with rfl|rfl|rfl
 ·go_enter Tryz.func255,Tryz.ntmps255
  go_wp2_with (at_builtin;refine wpList_app1g rfl sliceIntO rfl (W:=(w.alloc (.cells #[.int .i64 1,.int .i64 d,.int .i64 a,.int .i64 b,.int .u64 v] 83))) (v:=.slice none 0 0) (base:=(w.alloc (.cells #[.int .i64 1,.int .i64 d,.int .i64 a,.int .i64 b,.int .u64 v] 83)).heap.size) (u:=.int .i64 b) (xs:=[]) rfl rfl (by simp) rfl (Owns.nil _ _ _) (Nat.le_refl _) (by simp) (by simp) ?_)
  intro u1 w1 ho1 hb1
  have HO1:=hid ho1
  have HB1:Hid (KW w w1):=Below.trans (show Below w.heap.size w _ from HK.out) (Below.mono hb1 (Nat.le_succ _))
  have HS1:=hid (show w.heap.size+1≤w1.heap.size from Nat.le_trans (by simp) hb1.size)
  have c2:=(HOp.out.of_block (hb1.block w.heap.size (Nat.lt_succ_self _))).cell (i:=2) (by omega)
  simp only[List.getD_cons_succ,List.getD_cons_zero] at c2
  clear ho1 hb1 c3
  go_wp2_with (at_builtin;refine wpList_app1 rfl sliceIntO rfl (W:=w1) (v:=u1) (base:=w.heap.size+1) (u:=.int .i64 a) (xs:=[.int .i64 b]) rfl rfl rfl HO1.out HS1.out (by simp) (by simp) ?_)
  intro u2 w2 ho2 hb2
  have HB2:Hid (KW w w2):=Below.trans (show Below w.heap.size w w1 from HB1.out) (Below.mono hb2 (Nat.le_succ _))
  obtain⟨g,cc,rfl,hg,hlt,q0,q1,f0,f1⟩:=owns2 ho2
  have HX:=hid (And.intro q0 q1)
  have HO2:=hid (swp2_own (ho2.on (KW.refl w2).drew) (show w.heap.size≤w.heap.size+1 by omega))
  have HG:=hid (show w.heap.size≤g from Nat.le_trans (Nat.le_succ _) hg)
  have HR:=hid (rev2 g cc b a w2 q0 q1 f0 f1)
  clear ho2 hb2 q0 q1 f0 f1 hlt hg
  go_wp2_with fail
  refine HR.out.mono ?_
  rintro e w3 ⟨rfl,rfl⟩
  have HK3:=hid (swp2_kw (x:=b) (y:=a) HB2.out.drew HG.out)
  have HI3:=hid (swp2_row (w:=w2.drew) (c:=cc) HX.out.1 HX.out.2)
  generalize swp2 w2.drew g b a=w4 at *
  go_wp2_with fail
  go_ret
  exact⟨_,rfl,HI3.out,HK3.out,HO2.out⟩
 ·go_enter Tryz.func255,Tryz.ntmps255
  go_wp2_with (at_builtin;refine wpList_app1g rfl sliceIntO rfl (W:=(w.alloc (.cells #[.int .i64 2,.int .i64 d,.int .i64 a,.int .i64 b,.int .u64 v] 83))) (v:=.slice none 0 0) (base:=(w.alloc (.cells #[.int .i64 2,.int .i64 d,.int .i64 a,.int .i64 b,.int .u64 v] 83)).heap.size) (u:=.int .i64 b) (xs:=[]) rfl rfl (by simp) rfl (Owns.nil _ _ _) (Nat.le_refl _) (by simp) (by simp) ?_)
  intro u1 w1 ho1 hb1
  have HO1:=hid ho1
  have HB1:Hid (KW w w1):=Below.trans (show Below w.heap.size w _ from HK.out) (Below.mono hb1 (Nat.le_succ _))
  have HS1:=hid (show w.heap.size+1≤w1.heap.size from Nat.le_trans (by simp) hb1.size)
  have c2:=(HOp.out.of_block (hb1.block w.heap.size (Nat.lt_succ_self _))).cell (i:=2) (by omega)
  simp only[List.getD_cons_succ,List.getD_cons_zero] at c2
  clear ho1 hb1 c3
  go_wp2_with (at_builtin;refine wpList_app1 rfl sliceIntO rfl (W:=w1) (v:=u1) (base:=w.heap.size+1) (u:=.int .i64 a) (xs:=[.int .i64 b]) rfl rfl rfl HO1.out HS1.out (by simp) (by simp) ?_)
  intro u2 w2 ho2 hb2
  have HB2:Hid (KW w w2):=Below.trans (show Below w.heap.size w w1 from HB1.out) (Below.mono hb2 (Nat.le_succ _))
  obtain⟨g,cc,rfl,hg,hlt,q0,q1,f0,f1⟩:=owns2 ho2
  have HX:=hid (And.intro q0 q1)
  have HO2:=hid (swp2_own (ho2.on (KW.refl w2).drew) (show w.heap.size≤w.heap.size+1 by omega))
  have HG:=hid (show w.heap.size≤g from Nat.le_trans (Nat.le_succ _) hg)
  have HR:=hid (rev2 g cc b a w2 q0 q1 f0 f1)
  clear ho2 hb2 q0 q1 f0 f1 hlt hg
  go_wp2_with fail
  refine HR.out.mono ?_
  rintro e w3 ⟨rfl,rfl⟩
  have HK3:=hid (swp2_kw (x:=b) (y:=a) HB2.out.drew HG.out)
  have HI3:=hid (swp2_row (w:=w2.drew) (c:=cc) HX.out.1 HX.out.2)
  generalize swp2 w2.drew g b a=w4 at *
  go_wp2_with fail
  go_ret
  exact⟨_,rfl,HI3.out,HK3.out,HO2.out⟩
 ·go_enter Tryz.func255,Tryz.ntmps255
  go_wp2_with (at_builtin;refine wpList_app1g rfl sliceIntO rfl (W:=(w.alloc (.cells #[.int .i64 3,.int .i64 d,.int .i64 a,.int .i64 b,.int .u64 v] 83))) (v:=.slice none 0 0) (base:=(w.alloc (.cells #[.int .i64 3,.int .i64 d,.int .i64 a,.int .i64 b,.int .u64 v] 83)).heap.size) (u:=.int .i64 b) (xs:=[]) rfl rfl (by simp) rfl (Owns.nil _ _ _) (Nat.le_refl _) (by simp) (by simp) ?_)
  intro u1 w1 ho1 hb1
  have HO1:=hid ho1
  have HB1:Hid (KW w w1):=Below.trans (show Below w.heap.size w _ from HK.out) (Below.mono hb1 (Nat.le_succ _))
  have HS1:=hid (show w.heap.size+1≤w1.heap.size from Nat.le_trans (by simp) hb1.size)
  have c2:=(HOp.out.of_block (hb1.block w.heap.size (Nat.lt_succ_self _))).cell (i:=2) (by omega)
  simp only[List.getD_cons_succ,List.getD_cons_zero] at c2
  clear ho1 hb1 c3
  go_wp2_with (at_builtin;refine wpList_app1 rfl sliceIntO rfl (W:=w1) (v:=u1) (base:=w.heap.size+1) (u:=.int .i64 a) (xs:=[.int .i64 b]) rfl rfl rfl HO1.out HS1.out (by simp) (by simp) ?_)
  intro u2 w2 ho2 hb2
  have HB2:Hid (KW w w2):=Below.trans (show Below w.heap.size w w1 from HB1.out) (Below.mono hb2 (Nat.le_succ _))
  obtain⟨g,cc,rfl,hg,hlt,q0,q1,f0,f1⟩:=owns2 ho2
  have HX:=hid (And.intro q0 q1)
  have HO2:=hid (swp2_own (ho2.on (KW.refl w2).drew) (show w.heap.size≤w.heap.size+1 by omega))
  have HG:=hid (show w.heap.size≤g from Nat.le_trans (Nat.le_succ _) hg)
  have HR:=hid (rev2 g cc b a w2 q0 q1 f0 f1)
  clear ho2 hb2 q0 q1 f0 f1 hlt hg
  go_wp2_with fail
  refine HR.out.mono ?_
  rintro e w3 ⟨rfl,rfl⟩
  have HK3:=hid (swp2_kw (x:=b) (y:=a) HB2.out.drew HG.out)
  have HI3:=hid (swp2_row (w:=w2.drew) (c:=cc) HX.out.1 HX.out.2)
  generalize swp2 w2.drew g b a=w4 at *
  go_wp2_with fail
  go_ret
  exact⟨_,rfl,HI3.out,HK3.out,HO2.out⟩
theorem oreads_one (k d a b v:Int)(w:World)(h:k=4∨k=6):
 Calls Tryz.prog 255 #[.agg (opv k d a b v)] w (ReadsQ w [a]):=by
 have hop:=opv_row' w k d a b v
 have hk:=(KW.refl w).alloc (.cells (opv k d a b v) 83)
 unfold opv at *
 have HK:=hid hk
 have c2:=hop.cell (i:=2) (by omega)
 simp only[List.getD_cons_succ,List.getD_cons_zero] at c2
 clear hop hk
 rcases h with rfl|rfl
 ·go_enter Tryz.func255,Tryz.ntmps255
  go_wp2_with (at_builtin;refine wpList_app1g rfl sliceIntO rfl (W:=(w.alloc (.cells #[.int .i64 4,.int .i64 d,.int .i64 a,.int .i64 b,.int .u64 v] 83))) (v:=.slice none 0 0) (base:=(w.alloc (.cells #[.int .i64 4,.int .i64 d,.int .i64 a,.int .i64 b,.int .u64 v] 83)).heap.size) (u:=.int .i64 a) (xs:=[]) rfl rfl (by simp) rfl (Owns.nil _ _ _) (Nat.le_refl _) (by simp) (by simp) ?_)
  intro u1 w1 ho1 hb1
  have HB1:Hid (KW w w1):=Below.trans (show Below w.heap.size w _ from HK.out) (Below.mono hb1 (Nat.le_succ _))
  have HI:=hid (Owns.iw (l:=[a]) ho1)
  have HO1:=hid (ho1.baseO (show w.heap.size≤_ by simp))
  obtain⟨A,cc,hv,_,hA,_⟩:=ho1.row
  obtain⟨g,rfl,_,_⟩:=hA (by simp)
  subst hv
  have HR:=hid (rev1 g cc w1)
  clear ho1 hb1 c2
  go_wp2_with fail
  refine HR.out.mono ?_
  rintro e w3 ⟨rfl,rfl⟩
  go_wp2_with fail
  go_ret
  exact⟨_,rfl,HI.out,HB1.out,HO1.out⟩
 ·go_enter Tryz.func255,Tryz.ntmps255
  go_wp2_with (at_builtin;refine wpList_app1g rfl sliceIntO rfl (W:=(w.alloc (.cells #[.int .i64 6,.int .i64 d,.int .i64 a,.int .i64 b,.int .u64 v] 83))) (v:=.slice none 0 0) (base:=(w.alloc (.cells #[.int .i64 6,.int .i64 d,.int .i64 a,.int .i64 b,.int .u64 v] 83)).heap.size) (u:=.int .i64 a) (xs:=[]) rfl rfl (by simp) rfl (Owns.nil _ _ _) (Nat.le_refl _) (by simp) (by simp) ?_)
  intro u1 w1 ho1 hb1
  have HB1:Hid (KW w w1):=Below.trans (show Below w.heap.size w _ from HK.out) (Below.mono hb1 (Nat.le_succ _))
  have HI:=hid (Owns.iw (l:=[a]) ho1)
  have HO1:=hid (ho1.baseO (show w.heap.size≤_ by simp))
  obtain⟨A,cc,hv,_,hA,_⟩:=ho1.row
  obtain⟨g,rfl,_,_⟩:=hA (by simp)
  subst hv
  have HR:=hid (rev1 g cc w1)
  clear ho1 hb1 c2
  go_wp2_with fail
  refine HR.out.mono ?_
  rintro e w3 ⟨rfl,rfl⟩
  go_wp2_with fail
  go_ret
  exact⟨_,rfl,HI.out,HB1.out,HO1.out⟩
theorem oreads_none (k d a b v:Int)(w:World)(h:¬ (1≤k∧k≤4∨k=6)):
 Calls Tryz.prog 255 #[.agg (opv k d a b v)] w (ReadsQ w []):=by
 have hk:=(KW.refl w).alloc (.cells (opv k d a b v) 83)
 unfold opv at *
 have HK:=hid hk
 have e1:(k==1)=false:=by simp;omega
 have e2:(k==2)=false:=by simp;omega
 have e3:(k==3)=false:=by simp;omega
 have e4:(k==4)=false:=by simp;omega
 have e6:(k==6)=false:=by simp;omega
 have HR:=hid (fun W=>rev0 none 0 W)
 clear h hk
 go_enter Tryz.func255,Tryz.ntmps255
 go_wp2_with fail
 refine(HR.out _).mono ?_
 rintro e w3 ⟨rfl,rfl⟩
 go_wp2_with fail
 go_ret
 exact⟨_,rfl,IW.nil _,HK.out,Owns.nil _ _ _⟩
theorem oreads_own (k d a b v:Int)(w:World):Calls Tryz.prog 255 #[.agg (opv k d a b v)] w (ReadsQ w (rl07 k a b)):=by
 unfold rl07
 by_cases h3:1≤k∧k≤3
 ·rw[show Oc.aA k=true from decide_eq_true (by omega),show Oc.aB k=true from decide_eq_true (by omega)]
  exact oreads_two k d a b v w (by omega)
 ·rw[show Oc.aB k=false from decide_eq_false h3]
  by_cases h4:k=4∨k=6
  ·rw[show Oc.aA k=true from decide_eq_true (by omega)]
   exact oreads_one k d a b v w h4
  ·rw[show Oc.aA k=false from decide_eq_false (by omega)]
   exact oreads_none k d a b v w (by omega)
def ocl (o:Fl.O):Array Value:=#[.int .i64 o.k,.int .i64 o.d,.int .i64 o.a,.int .i64 o.b,.int .u64 o.v]
structure TestO (F:FuncId)(caps:Array Value)(f:Fl.O→Bool)(J:World→Prop):Prop where
 enter:∀ (args:Array Value) (W:World),(callFunc F args).run Tryz.prog W=.ok (.enter F args) W
 keep:∀ w w',J w→KW w w'→J w'
 call:∀ o w,J w→Calls Tryz.prog F (#[.agg (ocl o)]++caps) w fun e w'=>e=.returned (.bool (f o))∧KW w w'
theorem any_step {α:Type}(l:List α)(f:α→Bool)(k:Nat)(d:α)(h:k<l.length):(l.drop k).any f=(f (l.getD k d) || (l.drop (k+1)).any f):=by
 rw[List.drop_eq_getElem_cons h,List.any_cons]
 simp[List.getD,h]
theorem indexO_any (A:Option Addr)(c:Nat)(l:List Fl.O)(F:FuncId)(caps:Array Value)(f:Fl.O→Bool)(J:World→Prop)(w:World)(hlen:l.length≤1099511627776)(hA:OpsM w A l)(hT:TestO F caps f J)(hJ:J w):
 Calls Tryz.prog 264 #[.slice A l.length c,.func (.func F) #[] caps] w fun e w'=>∃ r:Int,e=.returned (.int .i64 r)∧decide (0≤r)=l.any f∧KW w w':=by
 have HA:=hid hA
 have HT:=hid hT
 have HJ:=hid hJ
 have HS:=hid (fun k h=>any_step l f k Fl.o0 h)
 have HZ:Hid (l.any f=(l.drop 0).any f):=rfl
 have e2:=hT.enter
 clear hA hT hJ
 generalize hN:l.length=N at *
 have HN:=hid hN
 have HDr:Hid ((l.drop N).any f=false):=by rw[← hN,List.drop_length];exact hid rfl
 clear hN
 go_enter Tryz.func264,Tryz.ntmps264
 go_wp2_with fail
 go_loopw [8] (fun i wr=>∃ k:Nat,k≤N∧i=.int .i64 k∧Hid (l.any f=(l.drop k).any f)∧Hid (KW w wr)) (fun i _=>N - (intOf i).toNat)
 case atStart=>exact⟨0,by omega,rfl,HZ,KW.refl w⟩
 case round=>
  clear HZ
  obtain⟨k,hk,rfl,HQ,HK⟩:=hrel
  by_cases hlt:k<N
  ·obtain⟨b',off,rfl,hb',c0,c1,c2,c3,c4⟩:=(HA.out.kw HK.out).at_ (k:=k) (by rw[HN.out];exact hlt)
   have HQ2:=hid (HQ.out.trans (HS.out k hlt))
   have HC:=hid (HT.out.call (l.getD k Fl.o0) wr (HT.out.keep w wr HJ.out HK.out))
   unfold ocl at HC
   generalize l.getD k Fl.o0=o at *
   have L5:(k:Int)<(N:Int):=by omega
   clear HQ
   go_wp2_with fail
   clear e2
   refine HC.out.mono ?_
   rintro e w1 ⟨rfl,hk1⟩
   have HK1:=hid (HK.out.t hk1)
   clear hk1 HC
   cases hf:f o
   ·have HQ3:Hid (l.any f=(l.drop (k+1)).any f):=by have h:=HQ2.out;rw[hf,Bool.false_or] at h;exact hid h
    clear hf HQ2
    go_wp2_with fail
    go_roundw
    case rel=>exact⟨k+1,by omega,by go_num,HQ3,HK1⟩
    case measure=>simp[intOf];omega
   ·have HQ3:Hid (l.any f=true):=by have h:=HQ2.out;rw[hf,Bool.true_or] at h;exact hid h
    clear hf HQ2
    go_wp2_with fail
    go_ret
    exact⟨k,rfl,by rw[HQ3.out];exact decide_eq_true (by omega),HK1.out⟩
  ·obtain rfl:k=N:=by omega
   have HQ3:Hid (l.any f=false):=by have h:=HQ.out;rw[HDr.out] at h;exact hid h
   clear hlt HQ
   go_wp2_with fail
   go_ret
   exact⟨-1,rfl,by rw[HQ3.out];rfl,HK.out⟩
theorem containsO_any (A:Option Addr)(c:Nat)(l:List Fl.O)(F:FuncId)(caps:Array Value)(f:Fl.O→Bool)(J:World→Prop)(w:World)(hlen:l.length≤1099511627776)(hA:OpsM w A l)(hT:TestO F caps f J)(hJ:J w):
 Calls Tryz.prog 253 #[.slice A l.length c,.func (.func F) #[] caps] w fun e w'=>e=.returned (.bool (l.any f))∧KW w w':=by
 have HI:=hid (indexO_any A c l F caps f J w hlen hA hT hJ)
 clear hA hT hJ
 generalize l.length=N at *
 generalize l.any f=q at *
 go_enter Tryz.func253,Tryz.ntmps253
 go_wp2_with fail
 refine HI.out.mono ?_
 rintro e w1 ⟨r,rfl,hr,hk⟩
 have HK:=hid hk
 have HR:=hid hr
 clear hr hk
 go_wp2_with fail
 go_ret
 exact⟨ret_bool HR.out,HK.out⟩
structure TestI (F:FuncId)(caps:Array Value)(f:Int→Bool)(J:World→Prop):Prop where
 enter:∀ (args:Array Value) (W:World),(callFunc F args).run Tryz.prog W=.ok (.enter F args) W
 keep:∀ w w',J w→KW w w'→J w'
 call:∀ x w,J w→Calls Tryz.prog F (#[.int .i64 x]++caps) w fun e w'=>e=.returned (.bool (f x))∧KW w w'
theorem indexI_any (A:Option Addr)(c:Nat)(l:List Int)(F:FuncId)(caps:Array Value)(f:Int→Bool)(J:World→Prop)(w:World)(hlen:l.length≤1099511627776)(hA:Row1 w A l.length fun i=>.int .i64 (l.getD i 0))(hT:TestI F caps f J)(hJ:J w):
 Calls Tryz.prog 97 #[.slice A l.length c,.func (.func F) #[] caps] w fun e w'=>∃ r:Int,e=.returned (.int .i64 r)∧decide (0≤r)=l.any f∧KW w w':=by
 have HA:=hid hA
 have HT:=hid hT
 have HJ:=hid hJ
 have HS:=hid (fun k h=>any_step l f k 0 h)
 have HZ:Hid (l.any f=(l.drop 0).any f):=rfl
 have e2:=hT.enter
 clear hA hT hJ
 generalize hN:l.length=N at *
 have HDr:Hid ((l.drop N).any f=false):=by rw[← hN,List.drop_length];exact hid rfl
 clear hN
 go_enter Tryz.func97,Tryz.ntmps97
 go_wp2_with fail
 go_loopw [8] (fun i wr=>∃ k:Nat,k≤N∧i=.int .i64 k∧Hid (l.any f=(l.drop k).any f)∧Hid (KW w wr)) (fun i _=>N - (intOf i).toNat)
 case atStart=>exact⟨0,by omega,rfl,HZ,KW.refl w⟩
 case round=>
  clear HZ
  obtain⟨k,hk,rfl,HQ,HK⟩:=hrel
  by_cases hlt:k<N
  ·obtain⟨b',off,rfl,hb',c0⟩:=(HA.out.k HK.out).at_ hlt
   have HQ2:=hid (HQ.out.trans (HS.out k hlt))
   have HC:=hid (HT.out.call (l.getD k 0) wr (HT.out.keep w wr HJ.out HK.out))
   generalize l.getD k 0=o at *
   have L5:(k:Int)<(N:Int):=by omega
   clear HQ
   go_wp2_with fail
   clear e2
   refine HC.out.mono ?_
   rintro e w1 ⟨rfl,hk1⟩
   have HK1:=hid (HK.out.t hk1)
   clear hk1 HC
   cases hf:f o
   ·have HQ3:Hid (l.any f=(l.drop (k+1)).any f):=by have h:=HQ2.out;rw[hf,Bool.false_or] at h;exact hid h
    clear hf HQ2
    go_wp2_with fail
    go_roundw
    case rel=>exact⟨k+1,by omega,by go_num,HQ3,HK1⟩
    case measure=>simp[intOf];omega
   ·have HQ3:Hid (l.any f=true):=by have h:=HQ2.out;rw[hf,Bool.true_or] at h;exact hid h
    clear hf HQ2
    go_wp2_with fail
    go_ret
    exact⟨k,rfl,by rw[HQ3.out];exact decide_eq_true (by omega),HK1.out⟩
  ·obtain rfl:k=N:=by omega
   have HQ3:Hid (l.any f=false):=by have h:=HQ.out;rw[HDr.out] at h;exact hid h
   clear hlt HQ
   go_wp2_with fail
   go_ret
   exact⟨-1,rfl,by rw[HQ3.out];rfl,HK.out⟩
theorem containsI_any (A:Option Addr)(c:Nat)(l:List Int)(F:FuncId)(caps:Array Value)(f:Int→Bool)(J:World→Prop)(w:World)(hlen:l.length≤1099511627776)(hA:Row1 w A l.length fun i=>.int .i64 (l.getD i 0))(hT:TestI F caps f J)(hJ:J w):
 Calls Tryz.prog 54 #[.slice A l.length c,.func (.func F) #[] caps] w fun e w'=>e=.returned (.bool (l.any f))∧KW w w':=by
 have HI:=hid (indexI_any A c l F caps f J w hlen hA hT hJ)
 clear hA hT hJ
 generalize l.length=N at *
 generalize l.any f=q at *
 go_enter Tryz.func54,Tryz.ntmps54
 go_wp2_with fail
 refine HI.out.mono ?_
 rintro e w1 ⟨r,rfl,hr,hk⟩
 have HK:=hid hk
 have HR:=hid hr
 clear hr hk
 go_wp2_with fail
 go_ret
 exact⟨ret_bool HR.out,HK.out⟩
def pgv (n:Int)(A:Option Addr)(N c:Nat):Array Value:=#[.int .i64 n,.slice A N c]
def wrongO (o:Fl.O):Bool:=!Oc.right o.k o.d o.a o.b o.v
def offO (n:Int)(o:Fl.O):Bool:=(rl07 o.k o.a o.b++(if Oc.aD o.k=true then [o.d] else [])).any fun x=>decide (n≤x)
def fErr (l:List Fl.O):Int:=if (decide (4096<l.length) || (decide (Fl.wk l 0 []≠some []) || l.any wrongO))=true then 6 else 0
def rErr (n:Int)(l:List Fl.O):Int:=if (decide (n<1) || (decide (64<n) || l.any (offO n)))=true then 7 else 0
def dErr (l:List Fl.O):Int:=if Fl.wk l 0 []=some []∧8<Fl.dps l 0 [] 0 then 8 else 0
theorem cfail_any (b:Bool)(x:Int)(w:World):Calls Tryz.prog 166 #[.bool b,.int .i64 x] w fun e w'=>e=.returned (.int .i64 (if b=true then x else 0))∧w'=w:=by
 cases b
 ·go_enter Tryz.func166,Tryz.ntmps166
  go_wp2_with fail
  go_ret
  exact⟨rfl,rfl⟩
 ·go_enter Tryz.func166,Tryz.ntmps166
  go_wp2_with fail
  go_ret
  exact⟨rfl,rfl⟩
theorem wrong_any (o:Fl.O)(w:World):Calls Tryz.prog 251 #[.agg (ocl o)] w fun e w'=>e=.returned (.bool (wrongO o))∧KW w w':=by
 have hk:=(KW.refl w).alloc (.cells (ocl o) 83)
 have HO:=hid (fun W=>oright_any o.k o.d o.a o.b o.v W)
 unfold wrongO
 generalize Oc.right o.k o.d o.a o.b o.v=q at *
 unfold ocl opv at *
 have HK:=hid hk
 clear hk
 go_enter Tryz.func251,Tryz.ntmps251
 go_wp2_with fail
 refine(HO.out _).mono ?_
 rintro e w1 ⟨rfl,hk1⟩
 have HK1:=hid (HK.out.t hk1)
 clear hk1
 go_wp2_with fail
 go_ret
 exact⟨rfl,HK1.out⟩
theorem test_wrong:TestO 251 #[] wrongO (fun _=>True):=
 ⟨fun _ _=>by kernel_rfl,fun _ _ _ _=>trivial,fun o w _=>wrong_any o w⟩
theorem pgv_row (w:World)(t:TypeId)(n:Int)(A:Option Addr)(N c:Nat):(w.alloc (.cells (pgv n A N c) t)).cell? ⟨w.heap.size,0,none⟩=some (.int .i64 n)∧(w.alloc (.cells (pgv n A N c) t)).cell? ⟨w.heap.size,1,none⟩=some (.slice A N c):=by
 have h:=heap_alloc_new w (.cells (pgv n A N c) t)
 constructor<;>(unfold World.cell?;rw[h];rfl)
theorem cform_any (n:Int)(A:Option Addr)(c:Nat)(l:List Fl.O)(w:World)(hlen:l.length≤1048576)(hA:OpsM w A l):
 Calls Tryz.prog 238 #[.agg (pgv n A l.length c)] w fun e w'=>e=.returned (.int .i64 (fErr l))∧KW w w':=by
 have hk:=(KW.refl w).alloc (.cells (pgv n A l.length c) 212)
 have HM:=hid (match_any A c l _ hlen (hA.kw hk))
 have HC:=hid (fun W (h:KW (w.alloc (.cells (pgv n A l.length c) 212)) W)=>containsO_any A c l _ #[] wrongO _ W (by omega) (hA.kw (hk.t h)) test_wrong trivial)
 obtain⟨c0,c1⟩:=pgv_row w 212 n A l.length c
 have HFl:=hid (fun b W=>cfail_any b 6 W)
 have HK:=hid hk
 unfold fErr
 clear hA hk c0
 unfold pgv at *
 generalize l.any wrongO=q at *
 generalize hN:l.length=N at *
 clear hN
 generalize hR:(if (decide (4096<N) || (decide (Fl.wk l 0 []≠some []) || q))=true then (6:Int) else 0)=R
 have HR:=hid hR
 clear hR
 have c1H:=hid c1
 clear c1
 have hb:w.heap.size<(w.alloc (.cells #[.int .i64 n,.slice A N c] 212)).heap.size:=by simp
 have HB:=hid hb
 clear hb
 go_enter Tryz.func238,Tryz.ntmps238
 go_wp2_with fail
 refine HM.out.mono ?_
 rintro e w1 ⟨hk1,h⟩
 have HK1:=hid hk1
 have HKW:=hid (HK.out.t hk1)
 have c1:=(Below.cell hk1 HB.out).trans c1H.out
 clear hk1 HM
 by_cases hL:4096<N
 ·have e1:decide ((4096:Int)<(N:Int))=true:=decide_eq_true (by omega)
  have HV:Hid ((decide (4096<N) || (decide (Fl.wk l 0 []≠some []) || q))=true):=by rw[decide_eq_true hL];exact hid rfl
  have L:(4096:Int)<(N:Int):=by omega
  rcases h with⟨h1,v,rfl,_⟩|⟨h1,rfl⟩
  all_goals
   clear h1 hL
   go_wp2_with fail
   refine(HFl.out true _).mono ?_
   rintro e w2 ⟨rfl,rfl⟩
   go_wp2_with fail
   go_ret
   exact⟨by rw[← HR.out,if_pos HV.out];rfl,HKW.out⟩
 ·have e1:decide ((4096:Int)<(N:Int))=false:=decide_eq_false (by omega)
  rcases h with⟨h1,v,rfl,_⟩|⟨h1,rfl⟩
  ·have HV:Hid ((decide (4096<N) || (decide (Fl.wk l 0 []≠some []) || q))=q):=by rw[decide_eq_false hL,h1];exact hid rfl
   clear h1 hL
   go_wp2_with fail
   refine(HC.out w1 HK1.out).mono ?_
   rintro e w2 ⟨rfl,hk2⟩
   have HK2:=hid (HKW.out.t hk2)
   clear hk2
   go_wp2_with fail
   cases q
   ·have HX:Hid (R=0):=by rw[← HR.out,HV.out];exact hid rfl
    refine(HFl.out false _).mono ?_
    rintro e w3 ⟨rfl,rfl⟩
    go_wp2_with fail
    go_ret
    exact⟨by rw[HX.out];rfl,HK2.out⟩
   ·have HX:Hid (R=6):=by rw[← HR.out,HV.out];exact hid rfl
    refine(HFl.out true _).mono ?_
    rintro e w3 ⟨rfl,rfl⟩
    go_wp2_with fail
    go_ret
    exact⟨by rw[HX.out];rfl,HK2.out⟩
  ·have HV:Hid ((decide (4096<N) || (decide (Fl.wk l 0 []≠some []) || q))=true):=by rw[decide_eq_false hL,decide_eq_true h1];exact hid rfl
   clear h1 hL
   go_wp2_with fail
   refine(HFl.out true _).mono ?_
   rintro e w2 ⟨rfl,rfl⟩
   go_wp2_with fail
   go_ret
   exact⟨by rw[← HR.out,if_pos HV.out];rfl,HKW.out⟩
theorem cdepth_any (n:Int)(A:Option Addr)(c:Nat)(l:List Fl.O)(w:World)(hlen:l.length≤1048576)(hA:OpsM w A l):
 Calls Tryz.prog 240 #[.agg (pgv n A l.length c)] w fun e w'=>e=.returned (.int .i64 (dErr l))∧KW w w':=by
 have hk:=(KW.refl w).alloc (.cells (pgv n A l.length c) 212)
 have HM:=hid (deep_any A c l _ (by omega) (hA.kw hk))
 have HFl:=hid (fun b W=>cfail_any b 8 W)
 have HK:=hid hk
 unfold dErr
 clear hA hk
 unfold pgv at *
 generalize hN:l.length=N at *
 clear hN
 generalize hR:(if Fl.wk l 0 []=some []∧8<Fl.dps l 0 [] 0 then (8:Int) else 0)=R
 have HR:=hid hR
 clear hR
 go_enter Tryz.func240,Tryz.ntmps240
 go_wp2_with fail
 refine HM.out.mono ?_
 rintro e w1 ⟨hk1,h⟩
 have HKW:=hid (HK.out.t hk1)
 clear hk1 HM
 rcases h with⟨h1,rfl⟩|⟨h1,rfl⟩
 ·generalize Fl.dps l 0 [] 0=d at *
  by_cases hd:8<d
  ·have HV:Hid (Fl.wk l 0 []=some []∧8<d):=hid ⟨h1,hd⟩
   have L:(8:Int)<(d:Int):=by omega
   clear h1 hd
   go_wp2_with fail
   refine(HFl.out true _).mono ?_
   rintro e w2 ⟨rfl,rfl⟩
   go_wp2_with fail
   go_ret
   exact⟨by rw[← HR.out,if_pos HV.out];rfl,HKW.out⟩
  ·have HV:Hid (¬ (Fl.wk l 0 []=some []∧8<d)):=hid fun h=>hd h.2
   have L:decide ((8:Int)<(d:Int))=false:=decide_eq_false (by omega)
   clear h1 hd
   go_wp2_with fail
   refine(HFl.out false _).mono ?_
   rintro e w2 ⟨rfl,rfl⟩
   go_wp2_with fail
   go_ret
   exact⟨by rw[← HR.out,if_neg HV.out];rfl,HKW.out⟩
 ·have HV:Hid (¬ (Fl.wk l 0 []=some []∧8<Fl.dps l 0 [] 0)):=hid fun h=>h1 h.1
  clear h1
  go_wp2_with fail
  refine(HFl.out false _).mono ?_
  rintro e w2 ⟨rfl,rfl⟩
  go_wp2_with fail
  go_ret
  exact⟨by rw[← HR.out,if_neg HV.out];rfl,HKW.out⟩
theorem swrites_any (A:Option Addr)(c:Nat)(l:List Fl.O)(w:World)(hlen:l.length≤1048576)(hA:OpsM w A l)(hv:∀ o,o∈l→0≤o.v∧o.v<18446744073709551616):
 Calls Tryz.prog 53 #[.slice A l.length c] w fun e w'=>KW w w'∧((szErr l=0∧∃ sz n,Fl.meas l=some (sz,n)∧e=.returned (.tuple #[.int .i64 (n:Nat),.int .i64 0]))∨(szErr l≠0∧e=.returned (.tuple #[.int .i64 0,.int .i64 (szErr l)]))):=
 swrites_of A c l w (measure_any A c l w hlen hA hv)
theorem sizes_any (A:Option Addr)(c:Nat)(l:List Fl.O)(w:World)(hlen:l.length≤1048576)(hA:OpsM w A l)(hv:∀ o,o∈l→0≤o.v∧o.v<18446744073709551616):
 Calls Tryz.prog 260 #[.slice A l.length c] w fun e w'=>KW w w'∧((szErr l=0∧∃ sz n v,Fl.meas l=some (sz,n)∧e=.returned (.tuple #[v,.int .i64 0])∧Owns w' w.heap.size 3 v (nvs sz))∨(szErr l≠0∧e=.returned (.tuple #[.slice none 0 0,.int .i64 (szErr l)]))):=
 sizes_of A c l w (measure_any A c l w hlen hA hv)
theorem cwrites_any (n:Int)(A:Option Addr)(c:Nat)(l:List Fl.O)(w:World)(hlen:l.length≤1048576)(hA:OpsM w A l)(hv:∀ o,o∈l→0≤o.v∧o.v<18446744073709551616):
 Calls Tryz.prog 241 #[.agg (pgv n A l.length c)] w fun e w'=>e=.returned (.int .i64 (szErr l))∧KW w w':=by
 have hk:=(KW.refl w).alloc (.cells (pgv n A l.length c) 212)
 have HM:=hid (swrites_any A c l _ hlen (hA.kw hk) hv)
 have HK:=hid hk
 clear hA hk hv
 unfold pgv at *
 generalize hN:l.length=N at *
 clear hN
 generalize hq:szErr l=q at *
 go_enter Tryz.func241,Tryz.ntmps241
 go_wp2_with fail
 refine HM.out.mono ?_
 rintro e w1 ⟨hk1,h⟩
 have HKW:=hid (HK.out.t hk1)
 clear hk1 HM hq
 rcases h with⟨rfl,sz,m,_,rfl⟩|⟨_,rfl⟩
 ·go_wp2_with fail
  go_ret
  exact⟨rfl,HKW.out⟩
 ·go_wp2_with fail
  go_ret
  exact⟨rfl,HKW.out⟩
theorem off1_any (n x:Int)(g:Nat)(w:World)(hc:w.cell? ⟨g,0,none⟩=some (.int .i64 n)):
 Calls Tryz.prog 256 #[.int .i64 x,.pointer (some ⟨g,0,none⟩)] w fun e w'=>e=.returned (.bool (decide (n≤x)))∧KW w w':=by
 by_cases h:n≤x
 ·rw[decide_eq_true h]
  go_enter Tryz.func256,Tryz.ntmps256
  go_wp2_with fail
  go_ret
  exact⟨rfl,KW.refl _⟩
 ·have h2:decide (n≤x)=false:=decide_eq_false h
  rw[h2]
  go_enter Tryz.func256,Tryz.ntmps256
  go_wp2_with fail
  go_ret
  exact⟨rfl,KW.refl _⟩
def RegJ (g:Nat)(n:Int)(w:World):Prop:=g<w.heap.size∧w.cell? ⟨g,0,none⟩=some (.int .i64 n)
theorem RegJ.kw {g:Nat}{n:Int}{w w':World}(h:RegJ g n w)(hk:KW w w'):RegJ g n w':=⟨Nat.lt_of_lt_of_le h.1 (Below.size hk),(Below.cell hk h.1).trans h.2⟩
theorem test_off1 (g:Nat)(n:Int):TestI 256 #[.pointer (some ⟨g,0,none⟩)] (fun x=>decide (n≤x)) (RegJ g n):=
 ⟨fun _ _=>by kernel_rfl,fun _ _ h hk=>h.kw hk,fun x w h=>off1_any n x g w h.2⟩
theorem off_any' (n:Int)(o:Fl.O)(g:Nat)(w:World)(hJ:RegJ g n w):
 Calls Tryz.prog 254 #[.agg (ocl o),.pointer (some ⟨g,0,none⟩)] w fun e w'=>e=.returned (.bool (offO n o))∧KW w w':=by
 have hk:=(KW.refl w).alloc (.cells (ocl o) 83)
 have hrw:=opv_row' w o.k o.d o.a o.b o.v
 have HRd:=hid (fun W=>oreads_own o.k o.d o.a o.b o.v W)
 have HWr:=hid (fun W=>writes_any o.k o.d o.a o.b o.v W)
 have HRow:=hid (show(w.alloc (.cells (ocl o) 83)).rowIs w.heap.size 83 5 (fun i=>[.int .i64 o.k,.int .i64 o.d,.int .i64 o.a,.int .i64 o.b,.int .u64 o.v].getD i undef) from hrw)
 have HCt:=hid (fun(l:List Int) A c W (h1:l.length≤1099511627776) (h2:Row1 W A l.length fun i=>.int .i64 (l.getD i 0)) (h3:RegJ g n W)=>containsI_any A c l _ _ _ _ W h1 h2 (test_off1 g n) h3)
 have hl0:(rl07 o.k o.a o.b).length≤2:=by
  unfold rl07
  split<;>split<;>simp
 have HL0:=hid hl0
 unfold offO
 generalize rl07 o.k o.a o.b=l0 at *
 generalize Oc.aD o.k=q at *
 generalize hR:((l0++if q=true then [o.d] else []).any fun x=>decide (n≤x))=R
 have HR:=hid hR
 clear hR
 have HJ:=hid hJ
 have HK:=hid hk
 unfold ocl opv at *
 clear hrw hk hJ hl0
 obtain⟨k,d,a,b,v⟩:=o
 simp only at *
 go_enter Tryz.func254,Tryz.ntmps254
 go_wp2_with fail
 refine(HRd.out _).mono ?_
 rintro e w1 ⟨u,rfl,hi1,hk1,ho1⟩
 have HK1:=hid hk1
 have HKW:=hid (HK.out.t hk1)
 have HO1:=hid (ho1.base (Below.size HK.out))
 have hrow1:=KW.row hk1 HRow.out.lt HRow.out
 have HRow1:=hid hrow1
 have c0:=hrow1.cell (i:=0) (by omega)
 have c1:=hrow1.cell (i:=1) (by omega)
 have c2:=hrow1.cell (i:=2) (by omega)
 have c3:=hrow1.cell (i:=3) (by omega)
 have c4:=hrow1.cell (i:=4) (by omega)
 have hlt:=hrow1.lt
 simp only[List.getD_cons_succ,List.getD_cons_zero] at c0 c1 c2 c3 c4
 clear hi1 hk1 ho1 hrow1
 obtain⟨A0,ca,rfl,_⟩:=HO1.out.row
 go_wp2_with fail
 refine(HWr.out w1).mono ?_
 rintro e w2 ⟨rfl,hk2⟩
 have HKW2:=hid (HKW.out.t hk2)
 have HO2:=hid (HO1.out.on hk2)
 clear hk2 c0 c1 c2 c3 c4 hlt HRow1 HRd HWr HRow
 cases q
 ·have HR2:Hid (R=l0.any fun x=>decide (n≤x)):=hid (by rw[← HR.out];simp)
  clear HR
  have HX:=hid (HCt.out l0 A0 ca w2 (by have:=HL0.out;omega) (by
   have h:=HO2.out.iw
   obtain⟨A',c',hv,hr⟩:=h
   rw[i64s_len] at hv
   cases hv
   exact hr) (HJ.out.kw HKW2.out))
  rw[i64s_len] at *
  rw[← HR2.out] at HX
  go_wp2_with fail
  refine HX.out.mono ?_
  rintro e w3 ⟨rfl,hk3⟩
  have HKW3:=hid (HKW2.out.t hk3)
  clear hk3
  go_wp2_with fail
  go_ret
  exact⟨rfl,HKW3.out⟩
 ·have HR2:Hid (R=(l0++[d]).any fun x=>decide (n≤x)):=by rw[← HR.out,if_pos rfl];exact hid rfl
  clear HR
  have HS2:=hid (Below.size HKW2.out)
  rw[i64s_len] at *
  generalize hN:l0.length=N at *
  go_wp2_with (at_builtin;refine wpList_app1 rfl sliceIntO rfl (W:=w2) (v:=.slice A0 N ca) (base:=w.heap.size) (u:=.int .i64 d) (xs:=i64s l0) rfl rfl rfl HO2.out HS2.out (by rw[i64s_len,hN];have:=HL0.out;omega) (by rw[i64s_len,hN];have:=HL0.out;omega) ?_)
  intro v3 w3 ho3 hb3
  have HKW3:Hid (KW w w3):=Below.trans (show Below w.heap.size w w2 from HKW2.out) hb3
  have ho3':Owns w3 w.heap.size 3 v3 (i64s (l0++[d])):=by rw[show i64s (l0++[d])=i64s l0++[.int .i64 d] by simp[i64s]];exact ho3
  obtain⟨A3,c3,rfl,hr3⟩:=ho3'.iw
  have HX:=hid (HCt.out (l0++[d]) A3 c3 w3 (by have:=HL0.out;simp;omega) hr3 (HJ.out.kw HKW3.out))
  rw[← HR2.out] at HX
  generalize (l0++[d]).length=M at *
  clear ho3 hb3 ho3' hr3
  go_wp2_with fail
  refine HX.out.mono ?_
  rintro e w4 ⟨rfl,hk4⟩
  have HKW4:=hid (HKW3.out.t hk4)
  clear hk4
  go_wp2_with fail
  go_ret
  exact⟨rfl,HKW4.out⟩
theorem test_off (g:Nat)(n:Int):TestO 254 #[.pointer (some ⟨g,0,none⟩)] (offO n) (RegJ g n):=
 ⟨fun _ _=>by kernel_rfl,fun _ _ h hk=>h.kw hk,fun o w h=>off_any' n o g w h⟩
theorem cregs_any (n:Int)(A:Option Addr)(c:Nat)(l:List Fl.O)(w:World)(hlen:l.length≤1048576)(hA:OpsM w A l):
 Calls Tryz.prog 239 #[.agg (pgv n A l.length c)] w fun e w'=>e=.returned (.int .i64 (rErr n l))∧KW w w':=by
 have hk:=(KW.refl w).alloc (.cells (pgv n A l.length c) 212)
 obtain⟨c0,c1⟩:=pgv_row w 212 n A l.length c
 have HC:=hid (containsO_any A c l _ #[.pointer (some ⟨w.heap.size,0,none⟩)] (offO n) _ (w.alloc (.cells (pgv n A l.length c) 212)) (by omega) (hA.kw hk) (test_off w.heap.size n) ⟨by simp,c0⟩)
 have HFl:=hid (fun b W=>cfail_any b 7 W)
 have HK:=hid hk
 unfold rErr
 clear hA hk c0 c1
 unfold pgv at *
 generalize l.any (offO n)=q at *
 generalize hN:l.length=N at *
 clear hN
 generalize hR:(if (decide (n<1) || (decide (64<n) || q))=true then (7:Int) else 0)=R
 have HR:=hid hR
 clear hR
 go_enter Tryz.func239,Tryz.ntmps239
 by_cases h1:n<1
 ·have HX:Hid (R=7):=by rw[← HR.out,decide_eq_true h1];exact hid rfl
  go_wp2_with fail
  refine(HFl.out true _).mono ?_
  rintro e w2 ⟨rfl,rfl⟩
  go_wp2_with fail
  go_ret
  exact⟨by rw[HX.out];rfl,HK.out⟩
 ·have d1:decide (n<1)=false:=decide_eq_false h1
  by_cases h2:64<n
  ·have HX:Hid (R=7):=by rw[← HR.out,decide_eq_true h2,Bool.true_or,Bool.or_true];exact hid rfl
   clear h1
   go_wp2_with fail
   refine(HFl.out true _).mono ?_
   rintro e w2 ⟨rfl,rfl⟩
   go_wp2_with fail
   go_ret
   exact⟨by rw[HX.out];rfl,HK.out⟩
  ·have d2:decide (64<n)=false:=decide_eq_false h2
   have HX:Hid (R=if q=true then 7 else 0):=by rw[← HR.out,d1,d2];exact hid rfl
   clear h1 h2
   go_wp2_with fail
   refine HC.out.mono ?_
   rintro e w1 ⟨rfl,hk1⟩
   have HKW:=hid (HK.out.t hk1)
   clear hk1
   go_wp2_with fail
   cases q
   ·have HY:Hid (R=0):=HX
    refine(HFl.out false _).mono ?_
    rintro e w2 ⟨rfl,rfl⟩
    go_wp2_with fail
    go_ret
    exact⟨by rw[HY.out];rfl,HKW.out⟩
   ·have HY:Hid (R=7):=HX
    refine(HFl.out true _).mono ?_
    rintro e w2 ⟨rfl,rfl⟩
    go_wp2_with fail
    go_ret
    exact⟨by rw[HY.out];rfl,HKW.out⟩
end Go.Proofs.YtphppbonljdibaaGreat
