import Derived.Test.YtphppbonljdibaaGreatTB06
set_option maxRecDepth 100000
set_option maxHeartbeats 4000000
set_option linter.unusedVariables false
set_option linter.unusedSimpArgs false
namespace Go.Proofs.YtphppbonljdibaaGreat
open Go.ChangeShapes Go.WideShapes Go.ChangeAt Go.RowKit
structure Pg where
 n:Int
 A:Option Addr
 c:Nat
 l:List Fl.O
def Pg.v (p:Pg):Array Value:=pgv p.n p.A p.l.length p.c
structure PgM (w:World)(p:Pg):Prop where
 ops:OpsM w p.A p.l
 len:p.l.length≤1048576
 hv:∀ o,o∈p.l→0≤o.v∧o.v<18446744073709551616
theorem PgM.kw {w w':World}{p:Pg}(h:PgM w p)(hk:KW w w'):PgM w' p:=⟨h.ops.kw hk,h.len,h.hv⟩
def pe (i:Nat)(p:Pg):Int:=if i=0 then fErr p.l else if i=1 then rErr p.n p.l else if i=2 then dErr p.l else szErr p.l
def p0:Pg:=⟨0,none,0,[]⟩
def Gd (p:Pg):Prop:=fErr p.l=0∧rErr p.n p.l=0∧dErr p.l=0∧szErr p.l=0
theorem gd_pe (p:Pg):Gd p↔∀ i,i<4→pe i p=0:=by
 constructor
 ·rintro⟨h0,h1,h2,h3⟩ i hi
  rcases(show i=0∨i=1∨i=2∨i=3 by omega) with rfl|rfl|rfl|rfl
  ·exact h0
  ·exact h1
  ·exact h2
  ·exact h3
 ·intro h
  exact⟨h 0 (by omega),h 1 (by omega),h 2 (by omega),h 3 (by omega)⟩
def clos (p:Pg):Array Value:=#[.func (.func 238) #[.agg p.v] #[],.func (.func 239) #[.agg p.v] #[],.func (.func 240) #[.agg p.v] #[],.func (.func 241) #[.agg p.v] #[]]
def LookM (w:World)(g:Nat)(p:Pg):Prop:=g<w.heap.size∧∀ i,i<4→w.cell? ⟨g,i,none⟩=(clos p)[i]?
theorem LookM.keep {own:Nat→Prop}{w w':World}{g:Nat}{p:Pg}(h:LookM w g p)(hk:Keep own w w')(hn:¬ own g):LookM w' g p:=
 ⟨Nat.lt_of_lt_of_le h.1 hk.size,fun i hi=>(hk.cell h.1 hn).trans (h.2 i hi)⟩
theorem LookM.kw {w w':World}{g:Nat}{p:Pg}(h:LookM w g p)(hk:KW w w'):LookM w' g p:=h.keep (hk.keep (own:=fun _=>False)) id
theorem looks_any (p:Pg)(w:World):
 Calls Tryz.prog 200 #[.agg p.v] w fun e w'=>∃ g c,e=.returned (.slice (some ⟨g,0,none⟩) 4 c)∧4≤c∧w.heap.size≤g∧LookM w' g p∧KW w w':=by
 have hk:=((KW.refl w).alloc (.cells p.v 212)).alloc (.cells (clos p) 124)
 have hl:LookM ((w.alloc (.cells p.v 212)).alloc (.cells (clos p) 124)) (w.heap.size+1) p:=by
  have h:=heap_alloc_new (w.alloc (.cells p.v 212)) (.cells (clos p) 124)
  rw[show(w.alloc (.cells p.v 212)).heap.size=w.heap.size+1 by simp] at h
  refine⟨by simp,fun i hi=>?_⟩
  unfold World.cell?
  rw[h]
  rfl
 have HK:=hid hk
 have HL:=hid hl
 clear hk hl
 unfold clos Pg.v pgv at *
 obtain⟨n,A,c,l⟩:=p
 simp only at *
 generalize l.length=N at *
 go_enter Tryz.func200,Tryz.ntmps200
 go_wp2_with fail
 go_ret
 exact⟨w.heap.size+1,4,rfl,Nat.le_refl _,by omega,HL.out,HK.out⟩
theorem pe_any (i:Nat)(hi:i<4)(p:Pg)(w:World)(h:PgM w p)(F:FuncId)(hF:F=if i=0 then 238 else if i=1 then 239 else if i=2 then 240 else 241):
 Calls Tryz.prog F #[.agg p.v] w fun e w'=>e=.returned (.int .i64 (pe i p))∧KW w w':=by
 subst hF
 rcases(show i=0∨i=1∨i=2∨i=3 by omega) with rfl|rfl|rfl|rfl
 ·exact cform_any p.n p.A p.c p.l w h.len h.ops
 ·exact cregs_any p.n p.A p.c p.l w h.len h.ops
 ·exact cdepth_any p.n p.A p.c p.l w h.len h.ops
 ·exact cwrites_any p.n p.A p.c p.l w h.len h.ops h.hv
theorem sliceFs:SliceOfS Tryz.prog 255 131 (.slice none 0 0) 1 24:=⟨Tryz.underlying255,by kernel_rfl,rfl,by omega⟩
def gvs (gs:List (Nat×Nat)):List Value:=gs.map fun g=>.slice (some ⟨g.1,0,none⟩) 4 g.2
theorem gvs_app (gs:List (Nat×Nat))(g:Nat×Nat):gvs (gs++[g])=gvs gs++[.slice (some ⟨g.1,0,none⟩) 4 g.2]:=by simp[gvs]
theorem gvs_len (gs:List (Nat×Nat)):(gvs gs).length=gs.length:=by simp[gvs]
structure AllM (ps:List Pg)(base:Nat)(v:Value)(gs:List (Nat×Nat))(w:World):Prop where
 own:Owns w base 131 v (gvs gs)
 at_:∀ j,j<gs.length→4≤(gs.getD j (0,0)).2∧LookM w (gs.getD j (0,0)).1 (ps.getD j p0)
 apart:∀ j,j<gs.length→v.ownBlock≠some (gs.getD j (0,0)).1
theorem AllM.kw {ps:List Pg}{base:Nat}{v:Value}{gs:List (Nat×Nat)}{w w':World}(h:AllM ps base v gs w)(hk:KW w w'):AllM ps base v gs w':=
 ⟨h.own.on hk,fun j hj=>⟨(h.at_ j hj).1,(h.at_ j hj).2.kw hk⟩,h.apart⟩
def PsM (w:World)(g:Nat)(ps:List Pg):Prop:=g<w.heap.size∧∀ j,j<ps.length→w.cell? ⟨g,j * 2,none⟩=some (.int .i64 (ps.getD j p0).n)∧w.cell? ⟨g,j * 2+1,none⟩=some (.slice (ps.getD j p0).A (ps.getD j p0).l.length (ps.getD j p0).c)
theorem PsM.kw {w w':World}{g:Nat}{ps:List Pg}(h:PsM w g ps)(hk:KW w w'):PsM w' g ps:=
 ⟨Nat.lt_of_lt_of_le h.1 (Below.size hk),fun j hj=>⟨(Below.cell hk h.1).trans (h.2 j hj).1,(Below.cell hk h.1).trans (h.2 j hj).2⟩⟩
theorem cfirst_any (g c:Nat)(ps:List Pg)(w:World)(hn:ps.length≤1000)(hP:PsM w g ps)(hM:∀ j,j<ps.length→PgM w (ps.getD j p0)):
 Calls Tryz.prog 165 #[.slice (some ⟨g,0,none⟩) ps.length c] w fun e w'=>∃ r:Int,e=.returned (.int .i64 r)∧(r=0↔∀ i,i<4→∀ j,j<ps.length→pe i (ps.getD j p0)=0)∧KW w w':=by
 have HP:=hid hP
 have HM:=hid hM
 clear hP hM
 generalize hK:ps.length=K at *
 have HKl:=hid hK
 clear hK
 go_enter Tryz.func165,Tryz.ntmps165
 go_wp2_with fail
 go_loopw [3,12] (fun v i wr=>∃ (k:Nat) (gs:List (Nat×Nat)),k≤K∧i=.int .i64 k∧gs.length=k∧Hid (AllM ps w.heap.size v gs wr)∧Hid (KW w wr)) (fun _ i _=>K - (intOf i).toNat)
 case atStart=>exact⟨0,[],by omega,rfl,rfl,⟨Owns.nil _ _ _,fun j hj=>absurd hj (by simp),fun j hj=>absurd hj (by simp)⟩,KW.refl w⟩
 case round=>
  obtain⟨k,gs,hk,rfl,hgs,HA,HKW⟩:=hrel
  obtain⟨Ao,co,hvo,_⟩:=HA.out.own.row
  rw[gvs_len,hgs] at hvo
  subst hvo
  by_cases hlt:k<K
  ·have L1:(k:Int)<(K:Int):=by omega
   have hc:=(HP.out.kw HKW.out).2 k (by rw[HKl.out];exact hlt)
   have hg:=(HP.out.kw HKW.out).1
   have c0:=hc.1
   have c1:=hc.2
   clear hc
   have HVl:=hid (fun b hb=>(HA.out.own.lt (b:=b) hb).2)
   have HL:=hid (fun W=>looks_any (ps.getD k p0) W)
   unfold Pg.v pgv at HL
   have HKA:=hid (HKW.out.alloc (.cells #[.int .i64 (ps.getD k p0).n,.slice (ps.getD k p0).A (ps.getD k p0).l.length (ps.getD k p0).c] 212))
   have HAA:=hid (HA.out.kw ((KW.refl wr).alloc (.cells #[.int .i64 (ps.getD k p0).n,.slice (ps.getD k p0).A (ps.getD k p0).l.length (ps.getD k p0).c] 212)))
   generalize (ps.getD k p0).n=n at *
   generalize (ps.getD k p0).A=A at *
   generalize (ps.getD k p0).c=c' at *
   generalize (ps.getD k p0).l.length=N at *
   clear HA
   go_wp2_with fail
   refine(HL.out _).mono ?_
   rintro e w5 ⟨g5,c5,rfl,hc5,hg5,hl5,hk5⟩
   have HK5:=hid (HKA.out.t hk5)
   have HA5:=hid (HAA.out.kw hk5)
   have HL5:=hid hl5
   have HG5:=hid (show wr.heap.size≤g5 by have:=hg5;simp at this;omega)
   clear hk5 hl5 hg5 HAA HKA HL
   go_wp2_with (at_builtin;go_loud (refine wpList_appA rfl sliceFs rfl (W:=w5.alloc (.cells #[.slice (some ⟨g5,0,none⟩) 4 c5] 131)) (base:=w.heap.size) (k:=1) (n:=k) (v:=.slice Ao k co) (u:=.slice (some ⟨w5.heap.size,0,none⟩) 1 1) (xs:=gvs gs) (ys:=[.slice (some ⟨g5,0,none⟩) 4 c5]) rfl rfl (holds_one w5 131 1 _ rfl) (by have h:=HA5.out.own.alloc (.cells #[.slice (some ⟨g5,0,none⟩) 4 c5] 131);unfold Owns at h;rw[gvs_len,hgs] at h;exact h) (by have:=Below.size HK5.out;simp;omega) (by omega) (by omega) ?_);intro v7 w7 ho7 hk7 hv7)
   have HA7:Hid (AllM ps w.heap.size v7 (gs++[(g5,c5)]) w7):=by
    have hx5:=HA5.out.kw ((KW.refl w5).alloc (.cells #[.slice (some ⟨g5,0,none⟩) 4 c5] 131))
    have hl5:=HL5.out.kw ((KW.refl w5).alloc (.cells #[.slice (some ⟨g5,0,none⟩) 4 c5] 131))
    have hvlt:∀ b,(Value.slice Ao k co).ownBlock=some b→b<g5:=fun b hb=>Nat.lt_of_lt_of_le (HVl.out b hb) HG5.out
    refine hid ⟨?_,fun j hj=>?_,fun j hj=>?_⟩
    ·unfold Owns
     rw[gvs_app,List.length_append,gvs_len,hgs]
     exact ho7
    ·rw[List.length_append,List.length_singleton] at hj
     by_cases hj2:j<gs.length
     ·rw[show(gs++[(g5,c5)]).getD j (0,0)=gs.getD j (0,0) by simp[List.getD_eq_getElem?_getD,List.getElem?_append_left hj2]]
      exact⟨(hx5.at_ j hj2).1,(hx5.at_ j hj2).2.keep hk7 (hx5.apart j hj2)⟩
     ·obtain rfl:j=gs.length:=by omega
      have e1:(gs++[(g5,c5)]).getD gs.length (0,0)=(g5,c5):=by simp
      rw[e1]
      refine⟨hc5,?_⟩
      rw[hgs]
      exact hl5.keep hk7 fun h=>absurd (hvlt _ h) (by omega)
    ·rw[List.length_append,List.length_singleton] at hj
     have hlt5:∀ j,j<(gs++[(g5,c5)]).length→((gs++[(g5,c5)]).getD j (0,0)).1<w5.heap.size:=fun j hj=>by
      rw[List.length_append,List.length_singleton] at hj
      by_cases hj2:j<gs.length
      ·rw[show(gs++[(g5,c5)]).getD j (0,0)=gs.getD j (0,0) by simp[List.getD_eq_getElem?_getD,List.getElem?_append_left hj2]]
       exact(HA5.out.at_ j hj2).2.1
      ·obtain rfl:j=gs.length:=by omega
       rw[show(gs++[(g5,c5)]).getD gs.length (0,0)=(g5,c5) by simp]
       exact HL5.out.1
     have hl:=hlt5 j (by simp;omega)
     rcases hv7 with h|h
     ·rw[h]
      by_cases hj2:j<gs.length
      ·rw[show(gs++[(g5,c5)]).getD j (0,0)=gs.getD j (0,0) by simp[List.getD_eq_getElem?_getD,List.getElem?_append_left hj2]]
       exact HA5.out.apart j hj2
      ·obtain rfl:j=gs.length:=by omega
       rw[show(gs++[(g5,c5)]).getD gs.length (0,0)=(g5,c5) by simp]
       exact fun h=>absurd (hvlt _ h) (Nat.lt_irrefl _)
     ·rw[h]
      intro h9
      rw[← Option.some.inj h9] at hl
      simp at hl
      omega
   have HK7:Hid (KW w w7):=hid ((HK5.out.alloc _).kept hk7 fun i hi=>(HA5.out.own.lt hi).1)
   go_roundw
   case rel=>exact⟨k+1,gs++[(g5,c5)],by omega,by go_num,by simp[hgs],HA7,HK7⟩
   case measure=>simp[intOf];omega
  ·obtain rfl:k=K:=by omega
   have HMk:=hid (fun j hj=>(HM.out j hj).kw HKW.out)
   clear hlt
   obtain⟨W1,hW1⟩:∃ W1,W1=wr:=⟨_,rfl⟩
   subst hW1
   go_wp2_with fail
   go_loopw [22] (fun i wr2=>∃ q:Nat,q≤4∧i=.int .i64 q∧Hid (∀ i,i<q→∀ j,j<ps.length→pe i (ps.getD j p0)=0)∧Hid (KW W1 wr2)) (fun i _=>4 - (intOf i).toNat)
   case atStart=>exact⟨0,by omega,rfl,fun i hi=>absurd hi (by omega),KW.refl W1⟩
   case round=>
    obtain⟨q,hq,rfl,HZ,HK2⟩:=hrel
    by_cases hq4:q<4
    ·have L4:(q:Int)<4:=by omega
     go_wp2_with fail
     go_loopw [27] (fun i wr3=>∃ j:Nat,j≤k∧i=.int .i64 j∧Hid (∀ j',j'<j→pe q (ps.getD j' p0)=0)∧Hid (KW W1 wr3)) (fun i _=>k - (intOf i).toNat)
     case atStart=>exact⟨0,by omega,rfl,fun i hi=>absurd hi (by omega),HK2⟩
     case round=>
      obtain⟨j,hj,rfl,HZ2,HK3⟩:=hrel
      by_cases hjk:j<k
      ·have L5:(j:Int)<(k:Int):=by omega
       have hA3:=HA.out.kw HK3.out
       obtain⟨_,_,hvr,hcr,hbr,hrr⟩:=hA3.own.row
       rw[gvs_len,hgs] at hvr hcr hbr hrr
       obtain⟨bA,hbA,_,hbA2⟩:=hbr (by omega)
       cases hvr
       subst hbA
       obtain⟨_,_,hx1,_,hx2⟩:=hrr (by omega)
       cases hx1
       have c0:=hx2 j hjk
       simp only at c0
       have e0:(gvs gs).getD j undef=.slice (some ⟨(gs.getD j (0,0)).1,0,none⟩) 4 (gs.getD j (0,0)).2:=by
        have hj':j<gs.length:=by omega
        simp[gvs,hj']
       rw[e0,Nat.zero_add] at c0
       obtain⟨h4,hLk⟩:=hA3.at_ j (by omega)
       have hg1:=hLk.1
       have HPe:=hid (fun F hF=>pe_any q hq4 (ps.getD j p0) wr ((HMk.out j hjk).kw HK3.out) F hF)
       have hci:=hLk.2 q hq4
       unfold clos at hci
       generalize gs.getD j (0,0)=gg at *
       obtain⟨g1,cg⟩:=gg
       simp only at c0 h4 hg1 hci hLk
       have HXe:∀ F:FuncId,Hid (Calls Tryz.prog F #[.agg (ps.getD j p0).v] wr fun e w'=>e=.returned (.int .i64 (pe q (ps.getD j p0)))∧KW wr w')→F=(if q=0 then 238 else if q=1 then 239 else if q=2 then 240 else 241)→True:=fun _ _ _=>trivial
       clear HXe
       obtain⟨F,hF,hcF,heF⟩:∃ F:FuncId,F=(if q=0 then 238 else if q=1 then 239 else if q=2 then 240 else 241)∧wr.cell? ⟨g1,q,none⟩=some (.func (.func F) #[.agg (ps.getD j p0).v] #[])∧∀ (args:Array Value) (W:World),(callFunc F args).run Tryz.prog W=.ok (.enter F args) W:=by
        rcases(show q=0∨q=1∨q=2∨q=3 by omega) with rfl|rfl|rfl|rfl
        ·exact⟨_,rfl,hci,fun _ _=>by kernel_rfl⟩
        ·exact⟨_,rfl,hci,fun _ _=>by kernel_rfl⟩
        ·exact⟨_,rfl,hci,fun _ _=>by kernel_rfl⟩
        ·exact⟨_,rfl,hci,fun _ _=>by kernel_rfl⟩
       have HC:=hid (HPe.out F hF)
       clear HPe hF hci hx2 hrr hbr hLk hA3 e0
       generalize hpe:pe q (ps.getD j p0)=pq at *
       have HPq:=hid hpe
       clear hpe
       generalize (ps.getD j p0).v=pv at *
       go_wp2_with fail
       clear heF
       refine HC.out.mono ?_
       rintro e w5 ⟨rfl,hk5⟩
       have HK5:=hid (HK3.out.t hk5)
       clear hk5 HC
       by_cases h0:pq=0
       ·subst h0
        go_wp2_with fail
        go_roundw
        case rel=>exact⟨j+1,by omega,by go_num,fun j' hj'=>(by rcases(show j'<j∨j'=j by omega) with h|rfl;exact HZ2.out _ h;exact HPq.out),HK5⟩
        case measure=>simp[intOf];omega
       ·have hne:(pq==0)=false:=beq_eq_false_iff_ne.2 h0
        have HN0:=hid h0
        clear h0
        go_wp2_with fail
        go_ret
        exact⟨pq,rfl,⟨fun h=>absurd h HN0.out,fun h=>absurd (HPq.out.symm.trans (h q hq4 j hjk)) HN0.out⟩,HKW.out.t HK5.out⟩
      ·obtain rfl:j=k:=by omega
       clear hjk
       go_wp2_with fail
       go_roundw
       case rel=>exact⟨q+1,by omega,by go_num,fun i hi j hj=>(by rw[HKl.out] at hj;rcases(show i<q∨i=q by omega) with h|rfl;exact HZ.out i h j (by rw[HKl.out];exact hj);exact HZ2.out j hj),HK3⟩
       case measure=>simp[intOf];omega
    ·obtain rfl:q=4:=by omega
     clear hq4
     go_wp2_with fail
     go_ret
     exact⟨0,rfl,⟨fun _ i hi j hj=>HZ.out i hi j (by rw[HKl.out];exact hj),fun _=>rfl⟩,HKW.out.t HK2.out⟩
theorem psM_one (w:World)(p:Pg):PsM (w.alloc (.cells p.v 212)) w.heap.size [p]:=by
 have h:=heap_alloc_new w (.cells p.v 212)
 refine⟨by simp,fun j hj=>?_⟩
 obtain rfl:j=0:=by simpa using hj
 constructor<;>(unfold World.cell?;rw[h];rfl)
theorem psM_two (w:World)(p q:Pg):PsM (w.alloc (.cells (p.v++q.v) 212)) w.heap.size [p,q]:=by
 have h:=heap_alloc_new w (.cells (p.v++q.v) 212)
 refine⟨by simp,fun j hj=>?_⟩
 rcases(show j=0∨j=1 by simp at hj;omega) with rfl|rfl<;>constructor<;>(unfold World.cell?;rw[h];rfl)
theorem cprogram_any (p:Pg)(w:World)(hM:PgM w p):
 Calls Tryz.prog 259 #[.agg p.v] w fun e w'=>∃ r:Int,e=.returned (.int .i64 r)∧(r=0↔Gd p)∧KW w w':=by
 have hk1:=(KW.refl w).alloc (.cells p.v 25)
 have hk2:=hk1.alloc (.cells p.v 212)
 have HF:=hid (fun c=>cfirst_any (w.alloc (.cells p.v 25)).heap.size c [p] _ (by simp) (psM_one _ p) (fun j hj=>by obtain rfl:j=0:=(by simpa using hj);exact hM.kw hk2))
 have HG:=hid (gd_pe p)
 have HK:=hid hk2
 clear hM hk1 hk2
 rw[show(w.alloc (.cells p.v 25)).heap.size=w.heap.size+1 by simp] at HF
 unfold Pg.v pgv at *
 generalize p.l.length=N at *
 go_enter Tryz.func259,Tryz.ntmps259
 go_wp2_with fail
 refine(HF.out _).mono ?_
 rintro e w5 ⟨r,rfl,hr,hk5⟩
 have HR:=hid hr
 have HK5:=hid (HK.out.t hk5)
 clear hr hk5
 go_wp2_with fail
 go_ret
 refine⟨r,rfl,?_,HK5.out⟩
 rw[HR.out,HG.out]
 constructor
 ·intro h i hi
  exact h i hi 0 (by simp)
 ·intro h i hi j hj
  obtain rfl:j=0:=by simpa using hj
  exact h i hi
theorem cpair_any (p q:Pg)(w:World)(hM:PgM w p)(hM2:PgM w q):
 Calls Tryz.prog 121 #[.agg p.v,.agg q.v] w fun e w'=>∃ r:Int,e=.returned (.int .i64 r)∧(r=0↔Gd p∧Gd q)∧KW w w':=by
 have hk1:=((KW.refl w).alloc (.cells p.v 25)).alloc (.cells q.v 25)
 have hk2:=hk1.alloc (.cells (p.v++q.v) 212)
 have HF:=hid (fun c=>cfirst_any ((w.alloc (.cells p.v 25)).alloc (.cells q.v 25)).heap.size c [p,q] _ (by simp) (psM_two _ p q) (fun j hj=>by
  rcases(show j=0∨j=1 by simp at hj;omega) with rfl|rfl
  ·exact hM.kw hk2
  ·exact hM2.kw hk2))
 have HG:=hid (gd_pe p)
 have HG2:=hid (gd_pe q)
 have HK:=hid hk2
 clear hM hM2 hk1 hk2
 rw[show((w.alloc (.cells p.v 25)).alloc (.cells q.v 25)).heap.size=w.heap.size+1+1 by simp] at HF
 have e1:p.v++q.v=#[.int .i64 p.n,.slice p.A p.l.length p.c,.int .i64 q.n,.slice q.A q.l.length q.c]:=rfl
 rw[e1] at HF HK
 clear e1
 unfold Pg.v pgv at *
 generalize p.l.length=N at *
 generalize q.l.length=M at *
 go_enter Tryz.func121,Tryz.ntmps121
 go_wp2_with fail
 refine(HF.out _).mono ?_
 rintro e w5 ⟨r,rfl,hr,hk5⟩
 have HR:=hid hr
 have HK5:=hid (HK.out.t hk5)
 clear hr hk5
 go_wp2_with fail
 go_ret
 refine⟨r,rfl,?_,HK5.out⟩
 rw[HR.out,HG.out,HG2.out]
 constructor
 ·intro h
  exact⟨fun i hi=>h i hi 0 (by simp),fun i hi=>h i hi 1 (by simp)⟩
 ·intro h i hi j hj
  rcases(show j=0∨j=1 by simp at hj;omega) with rfl|rfl
  ·exact h.1 i hi
  ·exact h.2 i hi
def dimsOk (n m:Int)(x t:Nat):Bool:=decide (1≤x)&&(decide (x≤64)&&(decide (t≤64)&&(decide ((x:Int)+t+1≤n)&&decide ((x:Int)+t≤m))))
theorem cdims_any (n m:Int)(A B:Option Addr)(N c M d x t:Nat)(hx:x≤9223372036854775807)(ht:t≤9223372036854775807)(w:World):
 Calls Tryz.prog 122 #[.agg (pgv n A N c),.agg (pgv m B M d),.int .i64 x,.int .i64 t] w fun e w'=>∃ r:Int,e=.returned (.int .i64 r)∧(r=0↔dimsOk n m x t=true)∧KW w w':=by
 have hk:=((KW.refl w).alloc (.cells (pgv n A N c) 25)).alloc (.cells (pgv m B M d) 25)
 have HFl:=hid (fun b W=>cfail_any b 10 W)
 have HK:=hid hk
 clear hk
 unfold pgv at *
 unfold dimsOk
 by_cases h1:(x:Int)<1
 ·have HX:Hid (decide (1≤x)=false):=decide_eq_false (by omega)
  go_enter Tryz.func122,Tryz.ntmps122
  go_wp2_with fail
  refine(HFl.out true _).mono ?_
  rintro e w2 ⟨rfl,rfl⟩
  go_wp2_with fail
  go_ret
  exact⟨10,rfl,by rw[HX.out];simp,HK.out⟩
 have d1:decide ((x:Int)<1)=false:=decide_eq_false h1
 by_cases h2:(64:Int)<x
 ·have HX:Hid (decide (x≤64)=false):=decide_eq_false (by omega)
  clear h1
  go_enter Tryz.func122,Tryz.ntmps122
  go_wp2_with fail
  refine(HFl.out true _).mono ?_
  rintro e w2 ⟨rfl,rfl⟩
  go_wp2_with fail
  go_ret
  exact⟨10,rfl,by rw[HX.out];simp,HK.out⟩
 have d2:decide ((64:Int)<x)=false:=decide_eq_false h2
 have d3:decide ((t:Int)<0)=false:=decide_eq_false (by omega)
 by_cases h3:(64:Int)<t
 ·have HX:Hid (decide (t≤64)=false):=decide_eq_false (by omega)
  clear h1 h2
  go_enter Tryz.func122,Tryz.ntmps122
  go_wp2_with fail
  refine(HFl.out true _).mono ?_
  rintro e w2 ⟨rfl,rfl⟩
  go_wp2_with fail
  go_ret
  exact⟨10,rfl,by rw[HX.out];simp,HK.out⟩
 have d4:decide ((64:Int)<t)=false:=decide_eq_false h3
 have hx64:x≤64:=by omega
 have ht64:t≤64:=by omega
 have HY:Hid (decide (1≤x)=true∧decide (x≤64)=true∧decide (t≤64)=true):=hid ⟨decide_eq_true (by omega),decide_eq_true hx64,decide_eq_true ht64⟩
 by_cases h4:n<(x:Int)+t+1
 ·have HX:Hid (decide ((x:Int)+t+1≤n)=false):=decide_eq_false (by omega)
  clear h1 h2 h3
  go_enter Tryz.func122,Tryz.ntmps122
  go_wp2_with fail
  refine(HFl.out true _).mono ?_
  rintro e w2 ⟨rfl,rfl⟩
  go_wp2_with fail
  go_ret
  exact⟨10,rfl,by rw[HX.out];simp,HK.out⟩
 have d5:decide (n<(x:Int)+t+1)=false:=decide_eq_false h4
 have HZ:Hid (decide ((x:Int)+t+1≤n)=true):=decide_eq_true (by omega)
 by_cases h5:m<(x:Int)+t
 ·have HX:Hid (decide ((x:Int)+t≤m)=false):=decide_eq_false (by omega)
  clear h1 h2 h3 h4
  go_enter Tryz.func122,Tryz.ntmps122
  go_wp2_with fail
  refine(HFl.out true _).mono ?_
  rintro e w2 ⟨rfl,rfl⟩
  go_wp2_with fail
  go_ret
  exact⟨10,rfl,by rw[HX.out];simp,HK.out⟩
 ·have d6:decide (m<(x:Int)+t)=false:=decide_eq_false h5
  have HX:Hid (decide ((x:Int)+t≤m)=true):=decide_eq_true (by omega)
  clear h1 h2 h3 h4 h5
  go_enter Tryz.func122,Tryz.ntmps122
  go_wp2_with fail
  refine(HFl.out false _).mono ?_
  rintro e w2 ⟨rfl,rfl⟩
  go_wp2_with fail
  go_ret
  exact⟨0,rfl,by rw[HX.out,HZ.out,HY.out.1,HY.out.2.1,HY.out.2.2];simp,HK.out⟩
structure Hd where
 mode:Int
 xA:Option Addr
 xc:Nat
 xs:List Int
 tA:Option Addr
 tc:Nat
 ts:List Int
 st:Pg
 lo:Pg
 len:Int
 words:Int
def hdv (mode:Int)(xA:Option Addr)(x xc:Nat)(tA:Option Addr)(t tc:Nat)(n:Int)(A:Option Addr)(N c:Nat)(m:Int)(B:Option Addr)(M d:Nat)(len words:Int):Array Value:=
 #[.int .i64 mode,.slice xA x xc,.slice tA t tc,.int .i64 n,.slice A N c,.int .i64 m,.slice B M d,.int .i64 len,.int .i64 words]
def Hd.v (h:Hd):Array Value:=hdv h.mode h.xA h.xs.length h.xc h.tA h.ts.length h.tc h.st.n h.st.A h.st.l.length h.st.c h.lo.n h.lo.A h.lo.l.length h.lo.c h.len h.words
structure HdM (w:World)(h:Hd):Prop where
 st:PgM w h.st
 lo:PgM w h.lo
 x:Row1 w h.xA h.xs.length fun i=>.int .u64 (h.xs.getD i 0)
 t:Row1 w h.tA h.ts.length fun i=>.int .u64 (h.ts.getD i 0)
 xn:h.xs.length≤1048576
 tn:h.ts.length≤1048576
 x0:h.xA=none→h.xs.length=0∧h.xc=0
 t0:h.tA=none→h.ts.length=0∧h.tc=0
theorem HdM.kw {w w':World}{h:Hd}(hM:HdM w h)(hk:KW w w'):HdM w' h:=⟨hM.st.kw hk,hM.lo.kw hk,hM.x.k hk,hM.t.k hk,hM.xn,hM.tn,hM.x0,hM.t0⟩
def hc (i:Nat)(h:Hd):Prop:=if i=0 then 1≤h.mode∧h.mode≤3 else if i=1 then Gd h.st∧Gd h.lo else if i=2 then dimsOk h.st.n h.lo.n h.xs.length h.ts.length=true else if i=3 then 0≤h.len∧h.len≤(if h.mode=2 then 0 else 65535) else 0≤h.words∧h.words≤1048576
def HGd (h:Hd):Prop:=∀ i,i<5→hc i h
def HcP (i:Nat)(h:Hd)(w:World)(e:Ending)(w':World):Prop:=∃ r:Int,e=.returned (.int .i64 r)∧(r=0↔hc i h)∧KW w w'
theorem hfail_any (b:Bool)(x:Int)(w:World):Calls Tryz.prog 120 #[.bool b,.int .i64 x] w fun e w'=>e=.returned (.int .i64 (if b=true then x else 0))∧w'=w:=by
 cases b
 ·go_enter Tryz.func120,Tryz.ntmps120
  go_wp2_with fail
  go_ret
  exact⟨rfl,rfl⟩
 ·go_enter Tryz.func120,Tryz.ntmps120
  go_wp2_with fail
  go_ret
  exact⟨rfl,rfl⟩
theorem hmode_any (h:Hd)(w:World):Calls Tryz.prog 80 #[.agg h.v] w (HcP 0 h w):=by
 have HK:=hid ((KW.refl w).alloc (.cells h.v 130))
 have HFl:=hid (fun b W=>hfail_any b 5 W)
 have HC:Hid (hc 0 h↔1≤h.mode∧h.mode≤3):=hid Iff.rfl
 unfold HcP
 generalize hc 0 h=C at *
 unfold Hd.v hdv at *
 obtain⟨mode,xA,xc,xs,tA,tc,ts,⟨n,A,c,l⟩,⟨m,B,d,l'⟩,len,words⟩:=h
 simp only at *
 generalize xs.length=x at *
 generalize ts.length=t at *
 generalize l.length=N at *
 generalize l'.length=M at *
 by_cases h1:mode<1
 ·have HX:Hid (¬ C):=hid fun h=>by have:=HC.out.1 h;omega
  go_enter Tryz.func80,Tryz.ntmps80
  go_wp2_with fail
  refine(HFl.out true _).mono ?_
  rintro e w2 ⟨rfl,rfl⟩
  go_wp2_with fail
  go_ret
  exact⟨5,rfl,⟨fun h=>by omega,fun h=>absurd h HX.out⟩,HK.out⟩
 have d1:decide (mode<1)=false:=decide_eq_false h1
 by_cases h2:3<mode
 ·have HX:Hid (¬ C):=hid fun h=>by have:=HC.out.1 h;omega
  clear h1
  go_enter Tryz.func80,Tryz.ntmps80
  go_wp2_with fail
  refine(HFl.out true _).mono ?_
  rintro e w2 ⟨rfl,rfl⟩
  go_wp2_with fail
  go_ret
  exact⟨5,rfl,⟨fun h=>by omega,fun h=>absurd h HX.out⟩,HK.out⟩
 ·have d2:decide (3<mode)=false:=decide_eq_false h2
  have HX:Hid C:=hid (HC.out.2 (by omega))
  clear h1 h2
  go_enter Tryz.func80,Tryz.ntmps80
  go_wp2_with fail
  refine(HFl.out false _).mono ?_
  rintro e w2 ⟨rfl,rfl⟩
  go_wp2_with fail
  go_ret
  exact⟨0,rfl,⟨fun h=>HX.out,fun h=>rfl⟩,HK.out⟩
theorem hprograms_any (h:Hd)(w:World)(hM:HdM w h):Calls Tryz.prog 81 #[.agg h.v] w (HcP 1 h w):=by
 have hk:=(KW.refl w).alloc (.cells h.v 130)
 have HP:=hid (cpair_any h.st h.lo _ (hM.st.kw hk) (hM.lo.kw hk))
 have HK:=hid hk
 have HC:Hid (hc 1 h↔Gd h.st∧Gd h.lo):=hid Iff.rfl
 unfold HcP
 generalize hc 1 h=C at *
 rw[← HC.out] at HP
 clear hk hM HC
 unfold Pg.v at HP
 unfold Hd.v hdv pgv at *
 obtain⟨mode,xA,xc,xs,tA,tc,ts,⟨n,A,c,l⟩,⟨m,B,d,l'⟩,len,words⟩:=h
 simp only at *
 generalize xs.length=x at *
 generalize ts.length=t at *
 generalize l.length=N at *
 generalize l'.length=M at *
 go_enter Tryz.func81,Tryz.ntmps81
 go_wp2_with fail
 refine HP.out.mono ?_
 rintro e w2 ⟨r,rfl,hr,hk2⟩
 have HR:=hid hr
 have HK2:=hid (HK.out.t hk2)
 clear hr hk2
 go_wp2_with fail
 go_ret
 exact⟨r,rfl,HR.out,HK2.out⟩
theorem hdims_any (h:Hd)(w:World)(hM:HdM w h):Calls Tryz.prog 82 #[.agg h.v] w (HcP 2 h w):=by
 have hk:=(KW.refl w).alloc (.cells h.v 130)
 have HP:=hid (cdims_any h.st.n h.lo.n h.st.A h.lo.A h.st.l.length h.st.c h.lo.l.length h.lo.c h.xs.length h.ts.length (by have:=hM.xn;omega) (by have:=hM.tn;omega) (w.alloc (.cells h.v 130)))
 have HK:=hid hk
 have HC:Hid (hc 2 h↔dimsOk h.st.n h.lo.n h.xs.length h.ts.length=true):=hid Iff.rfl
 unfold HcP
 generalize hc 2 h=C at *
 rw[← HC.out] at HP
 clear hk hM HC
 unfold Hd.v hdv pgv at *
 obtain⟨mode,xA,xc,xs,tA,tc,ts,⟨n,A,c,l⟩,⟨m,B,d,l'⟩,len,words⟩:=h
 simp only at *
 generalize xs.length=x at *
 generalize ts.length=t at *
 generalize l.length=N at *
 generalize l'.length=M at *
 go_enter Tryz.func82,Tryz.ntmps82
 go_wp2_with fail
 refine HP.out.mono ?_
 rintro e w2 ⟨r,rfl,hr,hk2⟩
 have HR:=hid hr
 have HK2:=hid (HK.out.t hk2)
 clear hr hk2
 go_wp2_with fail
 go_ret
 exact⟨r,rfl,HR.out,HK2.out⟩
theorem hlength_any (h:Hd)(w:World):Calls Tryz.prog 83 #[.agg h.v] w (HcP 3 h w):=by
 have HK:=hid ((KW.refl w).alloc (.cells h.v 130))
 have HFl:=hid (fun b W=>hfail_any b 11 W)
 have HC:Hid (hc 3 h↔0≤h.len∧h.len≤(if h.mode=2 then 0 else 65535)):=hid Iff.rfl
 unfold HcP
 generalize hc 3 h=C at *
 unfold Hd.v hdv at *
 obtain⟨mode,xA,xc,xs,tA,tc,ts,⟨n,A,c,l⟩,⟨m,B,d,l'⟩,len,words⟩:=h
 simp only at *
 generalize xs.length=x at *
 generalize ts.length=t at *
 generalize l.length=N at *
 generalize l'.length=M at *
 obtain⟨q,hq0,hq⟩:∃ q:Int,(0≤q∧q≤65535)∧((mode=2∧q=0)∨((mode==2)=false∧q=65535)):=by
  by_cases hm:mode=2
  ·exact⟨0,by omega,.inl ⟨hm,rfl⟩⟩
  ·exact⟨65535,by omega,.inr ⟨beq_eq_false_iff_ne.2 hm,rfl⟩⟩
 have HC2:Hid (C↔0≤len∧len≤q):=by
  rcases hq with⟨h1,rfl⟩|⟨h1,rfl⟩
  ·rw[HC.out,if_pos h1];exact hid Iff.rfl
  ·rw[HC.out,if_neg (beq_eq_false_iff_ne.1 h1)];exact hid Iff.rfl
 clear HC
 by_cases h1:len<0
 ·have HX:Hid (¬ C):=hid fun h=>by have:=HC2.out.1 h;omega
  rcases hq with⟨rfl,rfl⟩|⟨hm,rfl⟩
  all_goals
   go_enter Tryz.func83,Tryz.ntmps83
   go_wp2_with fail
   refine(HFl.out true _).mono ?_
   rintro e w2 ⟨rfl,rfl⟩
   go_wp2_with fail
   go_ret
   exact⟨11,rfl,⟨fun h=>by omega,fun h=>absurd h HX.out⟩,HK.out⟩
 have d1:decide (len<0)=false:=decide_eq_false h1
 by_cases h2:q<len
 ·have HX:Hid (¬ C):=hid fun h=>by have:=HC2.out.1 h;omega
  clear h1
  rcases hq with⟨rfl,rfl⟩|⟨hm,rfl⟩
  all_goals
   go_enter Tryz.func83,Tryz.ntmps83
   go_wp2_with fail
   refine(HFl.out true _).mono ?_
   rintro e w2 ⟨rfl,rfl⟩
   go_wp2_with fail
   go_ret
   exact⟨11,rfl,⟨fun h=>by omega,fun h=>absurd h HX.out⟩,HK.out⟩
 ·have d2:decide (q<len)=false:=decide_eq_false h2
  have HX:Hid C:=hid (HC2.out.2 (by omega))
  clear h1 h2
  rcases hq with⟨rfl,rfl⟩|⟨hm,rfl⟩
  all_goals
   go_enter Tryz.func83,Tryz.ntmps83
   go_wp2_with fail
   refine(HFl.out false _).mono ?_
   rintro e w2 ⟨rfl,rfl⟩
   go_wp2_with fail
   go_ret
   exact⟨0,rfl,⟨fun h=>HX.out,fun h=>rfl⟩,HK.out⟩
theorem hbudget_any (h:Hd)(w:World):Calls Tryz.prog 84 #[.agg h.v] w (HcP 4 h w):=by
 have HK:=hid ((KW.refl w).alloc (.cells h.v 130))
 have HFl:=hid (fun b W=>hfail_any b 12 W)
 have HC:Hid (hc 4 h↔0≤h.words∧h.words≤1048576):=hid Iff.rfl
 unfold HcP
 generalize hc 4 h=C at *
 unfold Hd.v hdv at *
 obtain⟨mode,xA,xc,xs,tA,tc,ts,⟨n,A,c,l⟩,⟨m,B,d,l'⟩,len,words⟩:=h
 simp only at *
 generalize xs.length=x at *
 generalize ts.length=t at *
 generalize l.length=N at *
 generalize l'.length=M at *
 by_cases h1:words<0
 ·have HX:Hid (¬ C):=hid fun h=>by have:=HC.out.1 h;omega
  go_enter Tryz.func84,Tryz.ntmps84
  go_wp2_with fail
  refine(HFl.out true _).mono ?_
  rintro e w2 ⟨rfl,rfl⟩
  go_wp2_with fail
  go_ret
  exact⟨12,rfl,⟨fun h=>by omega,fun h=>absurd h HX.out⟩,HK.out⟩
 have d1:decide (words<0)=false:=decide_eq_false h1
 by_cases h2:1048576<words
 ·have HX:Hid (¬ C):=hid fun h=>by have:=HC.out.1 h;omega
  clear h1
  go_enter Tryz.func84,Tryz.ntmps84
  go_wp2_with fail
  refine(HFl.out true _).mono ?_
  rintro e w2 ⟨rfl,rfl⟩
  go_wp2_with fail
  go_ret
  exact⟨12,rfl,⟨fun h=>by omega,fun h=>absurd h HX.out⟩,HK.out⟩
 ·have d2:decide (1048576<words)=false:=decide_eq_false h2
  have HX:Hid C:=hid (HC.out.2 (by omega))
  clear h1 h2
  go_enter Tryz.func84,Tryz.ntmps84
  go_wp2_with fail
  refine(HFl.out false _).mono ?_
  rintro e w2 ⟨rfl,rfl⟩
  go_wp2_with fail
  go_ret
  exact⟨0,rfl,⟨fun h=>HX.out,fun h=>rfl⟩,HK.out⟩
def hF (i:Nat):FuncId:=if i=0 then 80 else if i=1 then 81 else if i=2 then 82 else if i=3 then 83 else 84
theorem hlook_any (i:Nat)(hi:i<5)(h:Hd)(w:World)(hM:HdM w h):Calls Tryz.prog (hF i) #[.agg h.v] w (HcP i h w):=by
 rcases(show i=0∨i=1∨i=2∨i=3∨i=4 by omega) with rfl|rfl|rfl|rfl|rfl
 ·exact hmode_any h w
 ·exact hprograms_any h w hM
 ·exact hdims_any h w hM
 ·exact hlength_any h w
 ·exact hbudget_any h w
theorem henter (i:Nat)(hi:i<5)(args:Array Value)(W:World):(callFunc (hF i) args).run Tryz.prog W=.ok (.enter (hF i) args) W:=by
 rcases(show i=0∨i=1∨i=2∨i=3∨i=4 by omega) with rfl|rfl|rfl|rfl|rfl<;>kernel_rfl
theorem hcheck_any (h:Hd)(w:World)(hM:HdM w h):
 Calls Tryz.prog 40 #[.agg h.v] w fun e w'=>∃ r:Int,e=.returned (.int .i64 r)∧(r=0↔HGd h)∧KW w w':=by
 have HM:=hid hM
 have HL:=hid (fun i hi W hM=>hlook_any i hi h W hM)
 have HE:=hid henter
 have HG:Hid (HGd h↔∀ i,i<5→hc i h):=hid Iff.rfl
 obtain⟨b,hb⟩:∃ b,b=w.heap.size+1+1:=⟨_,rfl⟩
 have hk0:=(((KW.refl w).alloc (.cells h.v 27)).alloc (.cells h.v 130)).alloc (.cells #[.func (.func 80) #[.agg h.v] #[],.func (.func 81) #[.agg h.v] #[],.func (.func 82) #[.agg h.v] #[],.func (.func 83) #[.agg h.v] #[],.func (.func 84) #[.agg h.v] #[]] 124)
 have hnew:=heap_alloc_new ((w.alloc (.cells h.v 27)).alloc (.cells h.v 130)) (.cells #[.func (.func 80) #[.agg h.v] #[],.func (.func 81) #[.agg h.v] #[],.func (.func 82) #[.agg h.v] #[],.func (.func 83) #[.agg h.v] #[],.func (.func 84) #[.agg h.v] #[]] 124)
 rw[show((w.alloc (.cells h.v 27)).alloc (.cells h.v 130)).heap.size=w.heap.size+1+1 by simp] at hnew
 have HCells:Hid (∀ i,i<5→World.cell? (((w.alloc (.cells h.v 27)).alloc (.cells h.v 130)).alloc (.cells #[.func (.func 80) #[.agg h.v] #[],.func (.func 81) #[.agg h.v] #[],.func (.func 82) #[.agg h.v] #[],.func (.func 83) #[.agg h.v] #[],.func (.func 84) #[.agg h.v] #[]] 124)) ⟨w.heap.size+1+1,i,none⟩=some (.func (.func (hF i)) #[.agg h.v] #[])):=hid fun i hi=>by
  unfold World.cell?
  rw[hnew]
  rcases(show i=0∨i=1∨i=2∨i=3∨i=4 by omega) with rfl|rfl|rfl|rfl|rfl<;>rfl
 have HK0:=hid hk0
 clear hk0 hnew hb
 clear b hM
 have HV:Hid (h.v=#[.int .i64 h.mode,.slice h.xA h.xs.length h.xc,.slice h.tA h.ts.length h.tc,.int .i64 h.st.n,.slice h.st.A h.st.l.length h.st.c,.int .i64 h.lo.n,.slice h.lo.A h.lo.l.length h.lo.c,.int .i64 h.len,.int .i64 h.words]):=hid rfl
 go_enter Tryz.func40,Tryz.ntmps40
 rw[HV.out] at HCells HK0 HL ⊢
 go_wp2_with fail
 simp only[← HV.out] at HCells HK0 HL ⊢
 clear HV
 generalize h.v=pv at *
 refine wpCode_world (fun W=>Hid (∀ i,i<5→W.cell? ⟨w.heap.size+1+1,i,none⟩=some (.func (.func (hF i)) #[.agg pv] #[]))∧w.heap.size+1+1<W.heap.size∧Hid (KW w W)) ⟨HCells,by simp,HK0⟩ ?_
 clear HCells HK0
 rintro W0 ⟨HCells,hlt0,HK0⟩
 go_loopw [20] (fun i wr=>∃ q:Nat,q≤5∧i=.int .i64 q∧Hid (∀ i,i<q→hc i h)∧Hid (KW W0 wr)) (fun i _=>5 - (intOf i).toNat)
 case atStart=>exact⟨0,by omega,rfl,fun i hi=>absurd hi (by omega),KW.refl W0⟩
 case round=>
  obtain⟨q,hq,rfl,HZ,HK2⟩:=hrel
  by_cases hq5:q<5
  ·have L4:(q:Int)<5:=by omega
   have c0:=(Below.cell HK2.out hlt0).trans (HCells.out q hq5)
   have hltr:=Nat.lt_of_lt_of_le hlt0 (Below.size HK2.out)
   have HC:=hid (HL.out q hq5 wr (HM.out.kw (HK0.out.t HK2.out)))
   have e1:=HE.out q hq5
   unfold HcP at HC
   generalize hF q=F at *
   go_wp2_with fail
   clear e1
   refine HC.out.mono ?_
   rintro e w5 ⟨r,rfl,hr,hk5⟩
   have HK5:=hid (HK2.out.t hk5)
   have HR:=hid hr
   clear hk5 hr HC
   by_cases h0:r=0
   ·subst h0
    go_wp2_with fail
    go_roundw
    case rel=>exact⟨q+1,by omega,by go_num,fun i hi=>(by rcases(show i<q∨i=q by omega) with h|rfl;exact HZ.out i h;exact HR.out.1 (by first|rfl|trivial)),HK5⟩
    case measure=>simp[intOf];omega
   ·have hne:(r==0)=false:=beq_eq_false_iff_ne.2 h0
    have HN0:=hid h0
    clear h0
    go_wp2_with fail
    go_ret
    exact⟨r,rfl,⟨fun h=>absurd h HN0.out,fun h=>absurd (HR.out.2 (HG.out.1 h q hq5)) HN0.out⟩,HK0.out.t HK5.out⟩
  ·obtain rfl:q=5:=by omega
   clear hq5
   go_wp2_with fail
   go_ret
   exact⟨0,rfl,⟨fun _=>HG.out.2 HZ.out,fun _=>rfl⟩,HK0.out.t HK2.out⟩
def wct (l:List Fl.O):Nat:=match Fl.meas l with|some (_,n)=>n|none=>0
theorem meas_le {l:List Fl.O}{sz:List Nat}{n:Nat}(h:Fl.meas l=some (sz,n)):n≤65536:=by
 unfold Fl.meas at h
 split at h
 ·split at h
  ·cases h
  ·cases h;omega
 ·cases h
theorem wct_le (l:List Fl.O):wct l≤65536:=by
 unfold wct
 split
 ·rename_i h
  exact meas_le h
 ·omega
theorem wct_of {l:List Fl.O}{sz:List Nat}{n:Nat}(h:Fl.meas l=some (sz,n)):n=wct l:=by unfold wct;rw[h]
def OfP (h:Hd)(w:World)(e:Ending)(w':World):Prop:=∃ a b:Nat,e=.returned (.tuple #[.int .i64 a,.int .i64 b])∧KW w w'∧(HGd h→a=wct h.st.l∧b=wct h.lo.l)∧(¬ HGd h→a=0∧b=0)
theorem pof_any (h:Hd)(w:World)(hM:HdM w h):Calls Tryz.prog 21 #[.agg h.v] w (OfP h w):=by
 have hk:=(KW.refl w).alloc (.cells h.v 27)
 have HC:=hid (hcheck_any h _ (hM.kw hk))
 have HW1:=hid (fun W (hW:KW w W)=>swrites_any h.st.A h.st.c h.st.l W hM.st.len (hM.st.ops.kw hW) hM.st.hv)
 have HW2:=hid (fun W (hW:KW w W)=>swrites_any h.lo.A h.lo.c h.lo.l W hM.lo.len (hM.lo.ops.kw hW) hM.lo.hv)
 have HG:=hid (fun(hg:HGd h)=>(show szErr h.st.l=0∧szErr h.lo.l=0 from⟨(hg 1 (by omega)).1.2.2.2,(hg 1 (by omega)).2.2.2.2⟩))
 have HK:=hid hk
 have HR:=hid (heap_alloc_new w (.cells h.v 27))
 clear hk hM
 unfold OfP
 generalize HGd h=G at *
 unfold Hd.v hdv at *
 obtain⟨mode,xA,xc,xs,tA,tc,ts,⟨n,A,c,l⟩,⟨m,B,d,l'⟩,len,words⟩:=h
 simp only at *
 generalize xs.length=x at *
 generalize ts.length=t at *
 generalize l.length=N at *
 generalize l'.length=M at *
 go_enter Tryz.func21,Tryz.ntmps21
 go_wp2_with fail
 refine HC.out.mono ?_
 rintro e w1 ⟨r,rfl,hr,hk1⟩
 have HK1:=hid (HK.out.t hk1)
 have HR1:=hid hr
 have hcell:∀ i v,(hdv mode xA x xc tA t tc n A N c m B M d len words)[i]?=some v→w1.cell? ⟨w.heap.size,i,none⟩=some v:=fun i v hv=>by
  refine(Below.cell hk1 (by simp)).trans ?_
  unfold World.cell?
  rw[HR.out]
  exact hv
 have HCl:=hid hcell
 have hlt:w.heap.size<w1.heap.size:=Nat.lt_of_lt_of_le (by simp) (Below.size hk1)
 clear hk1 hr HR HC hcell
 by_cases h0:r=0
 ·subst h0
  have HG1:Hid G:=hid (HR1.out.1 rfl)
  have c4:=HCl.out 4 _ rfl
  have c6:=HCl.out 6 _ rfl
  have HC6:=hid c6
  have HLt:=hid hlt
  go_wp2_with fail
  refine(HW1.out w1 HK1.out).mono ?_
  rintro e w2 ⟨hk2,hres⟩
  rcases hres with⟨_,sz,a,hm,rfl⟩|⟨hne,_⟩
  ·have HK2:=hid (HK1.out.t hk2)
   have HA:=hid (wct_of hm)
   clear c4 c6 hlt hm
   have c6:=(Below.cell hk2 HLt.out).trans HC6.out
   have hlt:w.heap.size<w2.heap.size:=Nat.lt_of_lt_of_le HLt.out (Below.size hk2)
   clear hk2
   go_wp2_with fail
   refine(HW2.out w2 HK2.out).mono ?_
   rintro e w3 ⟨hk3,hres⟩
   rcases hres with⟨_,sz,b,hm,rfl⟩|⟨hne,_⟩
   ·have HK3:=hid (HK2.out.t hk3)
    have HB:=hid (wct_of hm)
    clear c6 hlt hm hk3
    go_wp2_with fail
    go_ret2
    exact⟨a,b,rfl,HK3.out,fun _=>⟨HA.out,HB.out⟩,fun h=>absurd HG1.out h⟩
   ·exact absurd (HG.out HG1.out).2 hne
  ·exact absurd (HG.out HG1.out).1 hne
 ·have hne:(r==0)=false:=beq_eq_false_iff_ne.2 h0
  have HN0:Hid (¬ G):=hid fun h=>h0 (HR1.out.2 h)
  clear h0
  go_wp2_with fail
  go_ret2
  exact⟨0,0,rfl,HK1.out,fun h=>absurd h HN0.out,fun _=>⟨rfl,rfl⟩⟩
def szl (h:Hd):List Nat:=
 let x:=h.xs.length
 let t:=h.ts.length
 let a:=wct h.st.l
 let b:=wct h.lo.l
 let n:=h.st.n.toNat
 let m:=h.lo.n.toNat
 [t,x,n,m,max n m,x,t,if h.mode=3 then b else a+b,if h.mode=3 then a+n else x+1]
theorem szl_len (h:Hd):(szl h).length=9:=rfl
def ivn (l:List Nat):Array Value:=(l.map fun(n:Nat)=>Value.int .i64 (n:Int)).toArray
theorem HGd.bounds {h:Hd}(hg:HGd h):(1≤h.mode∧h.mode≤3)∧(1≤h.st.n∧h.st.n≤64)∧(1≤h.lo.n∧h.lo.n≤64)∧(1≤h.xs.length∧h.xs.length≤64)∧h.ts.length≤64∧((h.xs.length:Int)+h.ts.length+1≤h.st.n∧(h.xs.length:Int)+h.ts.length≤h.lo.n)∧(0≤h.len∧h.len≤65535∧(h.mode=2→h.len=0))∧(0≤h.words∧h.words≤1048576):=by
 have h0:=hg 0 (by omega)
 have h1:=hg 1 (by omega)
 have h2:=hg 2 (by omega)
 have h3:=hg 3 (by omega)
 have h4:=hg 4 (by omega)
 have r1:∀ p:Pg,Gd p→1≤p.n∧p.n≤64:=fun p hp=>by
  have h:=hp.2.1
  unfold rErr at h
  by_cases hx:p.n<1
  ·rw[decide_eq_true hx] at h;simp at h
  ·by_cases hy:64<p.n
   ·rw[decide_eq_true hy] at h;simp at h
   ·omega
 have h3':0≤h.len∧h.len≤(if h.mode=2 then 0 else 65535):=h3
 have h2':dimsOk h.st.n h.lo.n h.xs.length h.ts.length=true:=h2
 unfold dimsOk at h2'
 simp only[Bool.and_eq_true,decide_eq_true_eq] at h2'
 refine⟨h0,r1 _ h1.1,r1 _ h1.2,⟨h2'.1,h2'.2.1⟩,h2'.2.2.1,⟨h2'.2.2.2.1,h2'.2.2.2.2⟩,⟨h3'.1,?_,fun hm=>?_⟩,h4⟩
 ·have:=h3'.2
  split at this<;>omega
 ·have:=h3'.2
  rw[if_pos hm] at this
  have:=h3'.1
  omega
end Go.Proofs.YtphppbonljdibaaGreat
