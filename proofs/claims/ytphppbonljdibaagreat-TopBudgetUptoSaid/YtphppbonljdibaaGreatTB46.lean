import Derived.Test.YtphppbonljdibaaGreatTB45
import Derived.Maps.Own
import Derived.Maps.OwnOps
import Derived.Maps.Views
set_option maxRecDepth 100000
set_option maxHeartbeats 4000000
set_option linter.unusedVariables false
set_option linter.unusedSimpArgs false
namespace Go.Proofs.YtphppbonljdibaaGreat
open Go.ChangeShapes Go.WideShapes Go.ChangeAt Go.RowKit Go.Maps
theorem indexf_any (G:FuncId)(caps:Array Value)(p:Int→Bool)(tags:List Int)(A:Option Addr)(c:Nat)(w:World)(hl:tags.length≤1048576)(hr:Row1 w A tags.length fun i=>.int .i64 (tags.getD i 0))
 (he:∀ (args:Array Value) (W:World),(callFunc G args).run Tryz.prog W=.ok (.enter G args) W)
 (hG:∀ x,x∈tags→Calls Tryz.prog G (#[.int .i64 x]++caps) w fun e w'=>e=.returned (.bool (p x))∧w=w'):
 Calls Tryz.prog 97 #[.slice A tags.length c,.func (.func G) #[] caps] w fun e w'=>∃ j:Int,e=.returned (.int .i64 j)∧decide (0≤j)=tags.any p∧w=w':=by
 have HR:=hid hr
 have HG:=hid (fun k (h:k<tags.length)=>hG (tags.getD k 0) (by rw[List.getD_eq_getElem?_getD,List.getElem?_eq_getElem h];exact List.getElem_mem h))
 have HE:=hid he
 have HY:=hid (fun k (h:k<tags.length) (hp:p (tags.getD k 0)=true)=>(List.any_eq_true.2 ⟨tags.getD k 0,(by rw[List.getD_eq_getElem?_getD,List.getElem?_eq_getElem h];exact List.getElem_mem h),hp⟩:tags.any p=true))
 have HNo:Hid ((∀ i,i<tags.length→p (tags.getD i 0)=false)→tags.any p=false):=fun h=>by
  cases e:tags.any p with
  | false=>rfl
  | true=>
    obtain⟨x,hx,hp⟩:=List.any_eq_true.1 e
    obtain⟨i,hi,rfl⟩:=List.mem_iff_getElem.1 hx
    have:=h i hi
    simp[hi] at this
    rw[this] at hp
    cases hp
 clear hr hG he
 generalize tags.any p=r at *
 generalize tags.length=N at *
 go_enter Tryz.func97,Tryz.ntmps97
 go_wp2_with fail
 go_loop [8] (fun i=>∃ k:Nat,k≤N∧i=.int .i64 k∧Hid (∀ i,i<k→p (tags.getD i 0)=false)) (fun i=>N - (intOf i).toNat)
 case atStart=>exact⟨0,by omega,rfl,fun i hi=>absurd hi (by omega)⟩
 case round=>
  obtain⟨k,hk,rfl,HB⟩:=hrel
  by_cases hlt:k<N
  ·obtain⟨q1,o1,rfl,hq1,hc1⟩:=HR.out.at_ hlt
   have HO:=hid (HG.out k hlt)
   have HY1:=hid (HY.out k hlt)
   have HB1:Hid (p (tags.getD k 0)=false→∀ i,i<k+1→p (tags.getD i 0)=false):=fun h i hi=>by
    rcases(show i<k∨i=k by omega) with h1|rfl
    ·exact HB.out i h1
    ·exact h
   generalize tags.getD k 0=x at *
   generalize p x=px at *
   have L5:(k:Int)<(N:Int):=by omega
   have e2:=HE.out
   go_wp2_with fail
   clear e2
   refine HO.out.mono ?_
   rintro e w1 ⟨rfl,rfl⟩
   cases px with
   | true=>
     have HR1:=hid (HY1.out rfl)
     go_wp2_with fail
     go_ret
     exact⟨_,rfl,by rw[HR1.out];simp,rfl⟩
   | false=>
     have HB2:=hid (HB1.out rfl)
     go_wp2_with fail
     go_round
     case rel=>exact⟨k+1,by omega,by go_num,HB2⟩
     case measure=>simp[intOf];omega
  ·have D1:decide (k<N)=false:=decide_eq_false hlt
   obtain rfl:k=N:=by omega
   have HR1:=hid (HNo.out HB.out)
   clear hlt
   go_wp2_with fail
   go_ret
   exact⟨_,rfl,by rw[HR1.out];simp,rfl⟩
theorem containsf_any (G:FuncId)(caps:Array Value)(p:Int→Bool)(tags:List Int)(A:Option Addr)(c:Nat)(w:World)(hl:tags.length≤1048576)(hr:Row1 w A tags.length fun i=>.int .i64 (tags.getD i 0))
 (he:∀ (args:Array Value) (W:World),(callFunc G args).run Tryz.prog W=.ok (.enter G args) W)
 (hG:∀ x,x∈tags→Calls Tryz.prog G (#[.int .i64 x]++caps) w fun e w'=>e=.returned (.bool (p x))∧w=w'):
 Calls Tryz.prog 54 #[.slice A tags.length c,.func (.func G) #[] caps] w fun e w'=>e=.returned (.bool (tags.any p))∧w=w':=by
 have HI:=hid (indexf_any G caps p tags A c w hl hr he hG)
 clear hr he hG
 generalize tags.any p=r at *
 generalize tags.length=N at *
 go_enter Tryz.func54,Tryz.ntmps54
 go_wp2_with fail
 refine HI.out.mono ?_
 rintro e w1 ⟨j,rfl,hj,rfl⟩
 go_wp2_with fail
 go_ret
 exact⟨rfl,rfl⟩
def wbad (n:Int):Bool:=decide (n<0∨1048576<n)
theorem words1_any (n:Int)(w:World):Calls Tryz.prog 55 #[.int .i64 n] w fun e w'=>e=.returned (.bool (wbad n))∧w=w':=by
 by_cases h0:n<0
 ·have HX:Hid (wbad n=true):=decide_eq_true (.inl h0)
  go_enter Tryz.func55,Tryz.ntmps55
  go_wp2_with fail
  go_ret
  exact⟨ret_bool HX.out.symm,rfl⟩
 have d0:decide (n<0)=false:=decide_eq_false h0
 by_cases h1:1048576<n
 ·have HX:Hid (wbad n=true):=decide_eq_true (.inr h1)
  clear h0
  go_enter Tryz.func55,Tryz.ntmps55
  go_wp2_with fail
  go_ret
  exact⟨ret_bool HX.out.symm,rfl⟩
 ·have HX:Hid (wbad n=false):=decide_eq_false fun h=>h.elim h0 h1
  have d1:decide (1048576<n)=false:=decide_eq_false h1
  clear h0 h1
  go_enter Tryz.func55,Tryz.ntmps55
  go_wp2_with fail
  go_ret
  exact⟨ret_bool HX.out.symm,rfl⟩
theorem law3:Keyed Tryz.prog 3:=int_keyed Tryz.underlying3
theorem zero3 (w:World):(zeroValue 3).run Tryz.prog w=.ok (.int .i64 0) w:=by kernel_rfl
theorem Keep.map {own:Nat→Prop}{w w':World}{b n:Nat}{D:DataW Unit}{P:Program}{k:TypeId}{R:Value→Option (DataW Unit×List MemPlace)}(h:Keep own w w')(hn:¬ own b)(c:w.ownsMap P k R b n D):w'.ownsMap P k R b n D:=by
 have hlt:=c.lt
 obtain⟨es,clock,hb,r⟩:=c
 exact⟨es,clock,(h.block b hlt hn).trans hb,r⟩
def Look (mb:Nat)(x c:Int)(w:World):Prop:=(Instr.lookup 111 (.map (some mb)) (.int .i64 x) false).run Tryz.prog w=.ok (.int .i64 c) w
theorem look_of {w:World}{mb n:Nat}{D:DataW Unit}{x c:Int}(h:w.ownsMap Tryz.prog 3 (plainElem Tryz.prog 3) mb n D)(hx:(Lit.int .i64 x).wf=true)(hD:D.atKey (.int .i64 x) (.lit (.int .i64 0))=.lit (.int .i64 c)):Look mb x c w:=by
 obtain⟨c',hrun,hat,_⟩:=h.lookup_int law3 Tryz.underlying111 Tryz.underlying3 (zero3 w) (keyOf_int_mk Tryz.underlying3 hx)
 rw[hD] at hat
 have e:c=c':=(Lit.int.inj (DataW.lit.inj hat)).2
 unfold Look
 rw[e]
 exact hrun
theorem words2_any (ob base fb sb tv mb:Nat)(f:Nat→Int)(k:Nat)(H:Nat→Prop)(x y a1 p1 a2 p2 fixed slot tp:Int)(va vb:Value)(ta tb:List Int)(D:DataW Unit)(w:World)(hk:k≤1099511627776)(hla:ta.length≤1048576)(hlb:tb.length≤1048576)(hva:RT0 w va ta)(hvb:RT0 w vb tb)(hJ:OutJ ob base f k H w)(hb:base≤w.heap.size)
 (hfx:w.rowIs fb 3 1 fun _=>.int .i64 fixed) (hsl:w.rowIs sb 3 1 fun _=>.int .i64 slot) (htv:w.rowIs tv 111 1 fun _=>.map (some mb)) (hmp:w.ownsMap Tryz.prog 3 (plainElem Tryz.prog 3) mb 3 D)
 (hx:(Lit.int .i64 x).wf=true) (hD:D.atKey (.int .i64 x) (.lit (.int .i64 0))=.lit (.int .i64 tp)) (hne:fb<base∧sb<base∧tv<base∧mb<base) (hno:ob≠fb∧ob≠sb∧ob≠tv∧ob≠mb)
 (b1:0≤fixed∧fixed≤1048576) (b2:0≤slot∧slot≤1048576) (b3:0≤tp∧tp≤2097152)
 (hf:f k=fixed+slot * ((max (Mc.cnt ta) (Mc.cnt tb):Nat):Int)+tp):
 Calls Tryz.prog 57 #[.agg #[.int .i64 x,.int .i64 y,.int .i64 a1,.int .i64 p1,va,.int .i64 a2,.int .i64 p2,vb],.pointer (some ⟨ob,0,none⟩),.pointer (some ⟨fb,0,none⟩),.pointer (some ⟨sb,0,none⟩),.pointer (some ⟨tv,0,none⟩)] w
  fun e w'=>e=.returned (.tuple #[])∧∃ H',OutJ ob base f (k+1) H' w'∧Keep H w w'∧∀ i,H' i→H i∨w.heap.size≤i:=by
 have hJl:=hid (OutJ.lt hJ)
 obtain⟨Ao,co,hro,hoo,hob,hH⟩:=hJ
 obtain⟨A1,c1,rfl,hr1⟩:=hva
 obtain⟨A2,c2,rfl,hr2⟩:=hvb
 have H2:=hid (fun W (h:KW w W)=>sheld_any x y a1 p1 a2 p2 (.slice A1 ta.length c1) (.slice A2 tb.length c2) ta tb W hla hlb ⟨A1,c1,rfl,hr1.k h⟩ ⟨A2,c2,rfl,hr2.k h⟩)
 have HLk:=hid (fun W (h:KW w W)=>look_of ((h.keep (own:=fun _=>False)).map (fun h=>h) hmp) hx hD)
 have HLk5:Hid (∀ W,Keep (fun i=>(Value.slice Ao k co).ownBlock=some i) w W→Look mb x tp W):=fun W h=>look_of (h.map (fun h=>by have h1:=(hoo.lt h).1;have h2:=hne.2.2.2;omega) hmp) hx hD
 have HMx:Hid (max (Mc.cnt ta) (Mc.cnt tb)≤1048576):=by
  have h1:=Mc.cnt_le ta
  have h2:=Mc.cnt_le tb
  exact hid (by omega)
 have HRS:=hid (ints_range_succ f k)
 have HRL:=hid (ints_range_len f k)
 generalize max (Mc.cnt ta) (Mc.cnt tb)=mx at *
 have hmul:slot * (mx:Int)≤1048576 * 1048576:=Int.mul_le_mul b2.2 (by have:=HMx.out;omega) (by omega) (by omega)
 have hmul0:0≤slot * (mx:Int):=Int.mul_nonneg b2.1 (by omega)
 have W1:IntKind.i64.wrap (slot * (mx:Int))=slot * (mx:Int):=IntWalk.i64_in _ (by omega)
 have W2:IntKind.i64.wrap (fixed+slot * (mx:Int))=fixed+slot * (mx:Int):=IntWalk.i64_in _ (by omega)
 have W3:IntKind.i64.wrap (fixed+slot * (mx:Int)+tp)=fixed+slot * (mx:Int)+tp:=IntWalk.i64_in _ (by omega)
 have HF:=hid hf
 clear hr1 hr2 hf hD hmul hmul0
 generalize f k=q at *
 generalize ta.length=N1 at *
 generalize tb.length=N2 at *
 have HR:=hid hro
 have HO:=hid hoo
 have HH:=hid hH
 have HB:=hid hb
 have HOB:=hid hob
 have HFx:=hid hfx
 have HSl:=hid hsl
 have HTv:=hid htv
 have HNb:=hid hne
 have HNo:=hid hno
 clear hro hoo hH hb hob hfx hsl htv hmp hne hno
 go_enter Tryz.func57,Tryz.ntmps57
 go_wp2_with fail
 refine wpCode_world (fun W=>KW w W∧w.heap.size<W.heap.size∧W.cell? ⟨w.heap.size,0,none⟩=some (.int .i64 x)∧W.cell? ⟨w.heap.size,1,none⟩=some (.int .i64 y)∧W.cell? ⟨w.heap.size,2,none⟩=some (.int .i64 a1)∧W.cell? ⟨w.heap.size,3,none⟩=some (.int .i64 p1)∧W.cell? ⟨w.heap.size,4,none⟩=some (.slice A1 N1 c1)∧W.cell? ⟨w.heap.size,5,none⟩=some (.int .i64 a2)∧W.cell? ⟨w.heap.size,6,none⟩=some (.int .i64 p2)∧W.cell? ⟨w.heap.size,7,none⟩=some (.slice A2 N2 c2)) ⟨(KW.refl w).alloc _,by simp,by go_simp,by go_simp,by go_simp,by go_simp,by go_simp,by go_simp,by go_simp,by go_simp⟩ ?_
 rintro W ⟨hkW,hs,hX⟩
 have HKW:=hid hkW
 have HSz:=hid hs
 have HX:=hid hX
 have HSS:Hid (∀ w',KW W w'→(w'.cell? ⟨w.heap.size,0,none⟩=some (.int .i64 x)∧w'.cell? ⟨w.heap.size,1,none⟩=some (.int .i64 y)∧w'.cell? ⟨w.heap.size,2,none⟩=some (.int .i64 a1)∧w'.cell? ⟨w.heap.size,3,none⟩=some (.int .i64 p1)∧w'.cell? ⟨w.heap.size,4,none⟩=some (.slice A1 N1 c1)∧w'.cell? ⟨w.heap.size,5,none⟩=some (.int .i64 a2)∧w'.cell? ⟨w.heap.size,6,none⟩=some (.int .i64 p2)∧w'.cell? ⟨w.heap.size,7,none⟩=some (.slice A2 N2 c2))∧w'.cell? ⟨fb,0,none⟩=some (.int .i64 fixed)∧w'.cell? ⟨sb,0,none⟩=some (.int .i64 slot)∧w'.cell? ⟨tv,0,none⟩=some (.map (some mb))∧(Instr.lookup 111 (.map (some mb)) (.int .i64 x) false).run Tryz.prog w'=.ok (.int .i64 tp) w'∧w'.cell? ⟨ob,0,none⟩=some (.slice Ao k co)):=fun w' hq=>
  ⟨⟨KW.cell hq HSz.out HX.out.1,KW.cell hq HSz.out HX.out.2.1,KW.cell hq HSz.out HX.out.2.2.1,KW.cell hq HSz.out HX.out.2.2.2.1,KW.cell hq HSz.out HX.out.2.2.2.2.1,KW.cell hq HSz.out HX.out.2.2.2.2.2.1,KW.cell hq HSz.out HX.out.2.2.2.2.2.2.1,KW.cell hq HSz.out HX.out.2.2.2.2.2.2.2⟩,
   KW.cell (HKW.out.t hq) HFx.out.lt (HFx.out.cell (i:=0) (by omega)),KW.cell (HKW.out.t hq) HSl.out.lt (HSl.out.cell (i:=0) (by omega)),KW.cell (HKW.out.t hq) HTv.out.lt (HTv.out.cell (i:=0) (by omega)),HLk.out w' (HKW.out.t hq),KW.cell (HKW.out.t hq) HR.out.lt (HR.out.cell (i:=0) (by omega))⟩
 clear hkW hs hX
 have hXS:=HSS.out W.drew (KW.refl W).drew
 refine wpX_region (S:=fun w'=>(w'.cell? ⟨w.heap.size,0,none⟩=some (.int .i64 x)∧w'.cell? ⟨w.heap.size,1,none⟩=some (.int .i64 y)∧w'.cell? ⟨w.heap.size,2,none⟩=some (.int .i64 a1)∧w'.cell? ⟨w.heap.size,3,none⟩=some (.int .i64 p1)∧w'.cell? ⟨w.heap.size,4,none⟩=some (.slice A1 N1 c1)∧w'.cell? ⟨w.heap.size,5,none⟩=some (.int .i64 a2)∧w'.cell? ⟨w.heap.size,6,none⟩=some (.int .i64 p2)∧w'.cell? ⟨w.heap.size,7,none⟩=some (.slice A2 N2 c2))∧w'.cell? ⟨fb,0,none⟩=some (.int .i64 fixed)∧w'.cell? ⟨sb,0,none⟩=some (.int .i64 slot)∧w'.cell? ⟨tv,0,none⟩=some (.map (some mb))∧(Instr.lookup 111 (.map (some mb)) (.int .i64 x) false).run Tryz.prog w'=.ok (.int .i64 tp) w'∧w'.cell? ⟨ob,0,none⟩=some (.slice Ao k co)) (L:=15) (by kernel_rfl) ?_
 refine tk 0 ?_ (fun _ _=>?_) hXS ?_;rotate_left;· go_simp;try rfl
 simp only[lsz,lss]
 refine tk 1 ?_ (fun _ _=>?_) hXS ?_;rotate_left;· go_simp;try rfl
 simp only[lsz,lss]
 refine tk 2 ?_ (fun _ _=>?_) hXS ?_;rotate_left;· go_simp;try rfl
 simp only[lsz,lss]
 refine tk 3 ?_ (fun _ _=>?_) hXS ?_;rotate_left;· go_simp;try rfl
 simp only[lsz,lss]
 refine tk 7 ?_ (fun _ _=>?_) hXS ?_;rotate_left;· go_simp;try rfl
 simp only[lsz,lss]
 refine tk 8 ?_ (fun _ _=>?_) hXS ?_;rotate_left;· go_simp;try rfl
 simp only[lsz,lss]
 refine tk 9 ?_ (fun _ _=>?_) hXS ?_;rotate_left;· go_simp;try rfl
 simp only[lsz,lss]
 refine tk 10 ?_ (fun _ _=>?_) hXS ?_;rotate_left;· go_simp;try rfl
 simp only[lsz,lss]
 refine tk 11 ?_ (fun _ _=>?_) hXS ?_;rotate_left;· go_simp;try rfl
 simp only[lsz,lss]
 refine wpX_hard (k:=4) (by kernel_rfl) rfl (fun K hK=>?_)
 go_simp
 (refine(H2.out _ HKW.out.drew).mono ?_;rintro e w3 ⟨rfl,hb⟩;have HB3:Hid (KW W w3):=(KW.refl W).drew.t hb)
 refine hK _ _ (fun _=>HSS.out _ HB3.out) ?_
 clear hK K
 try simp only[lsz,lss]
 clear hXS
 have hXS:=HSS.out _ HB3.out
 refine tk 5 ?_ (fun _ _=>?_) hXS ?_;rotate_left;· go_simp;try rfl
 simp only[lsz,lss]
 refine tk 6 ?_ (fun _ _=>?_) hXS ?_;rotate_left;· go_simp;try rfl
 simp only[lsz,lss]
 refine tk 12 ?_ (fun _ _=>?_) hXS ?_;rotate_left;· go_simp;try rfl
 simp only[lsz,lss]
 have HA3:=hid (HB3.out.alloc (.cells #[.int .i64 (fixed+slot * (mx:Int)+tp)] 3))
 refine wpX_hard (k:=13) (by kernel_rfl) rfl (fun K hK=>?_)
 go_simp
 refine hK _ _ (fun _=>HSS.out _ HA3.out) ?_
 clear hK K
 try simp only[lsz,lss]
 have HSz3:Hid (W.heap.size≤w3.heap.size):=HB3.out.size
 rw[← HF.out]
 clear W1 W2 W3 hXS
 refine wpX_appA (k:=14) (by kernel_rfl) rfl rfl rfl sliceInt' rfl (W:=w3.alloc (.cells #[.int .i64 q] 3)) (base:=base) (q:=1) (n:=k) (v:=.slice Ao k co) (xs:=ints ((List.range k).map f)) (ys:=[.int .i64 q]) rfl rfl (holds_one w3 _ 1 _ rfl) ?hown (by have:=HB.out;have:=HSz.out;have:=HSz3.out;simp;omega) (by omega) (by omega) ?_
 case hown=>
  have h:=HO.out.on (HKW.out.t (HB3.out.alloc (.cells #[.int .i64 q] 3)))
  unfold Owns at h
  rw[HRL.out] at h
  exact h
 intro v' w5 hown hkeep hloc
 have HO5:Hid (Owns w5 base 3 v' (ints ((List.range (k+1)).map f))):=by
  rw[HRS.out]
  show World.ownsRow _ _ _ _ _ _ _
  rw[List.length_append,HRL.out]
  exact hown
 have HK5:=hid hkeep
 have HL5:=hid hloc
 clear hown hkeep hloc
 have HA4:=hid (HB3.out.alloc (.cells #[.int .i64 q] 3))
 have HNE:Hid (∀ i,(Value.slice Ao k co).ownBlock=some i→i≠ob∧i≠w.heap.size∧i≠fb∧i≠sb∧i≠tv∧i≠mb):=fun i hi=>by
  have h1:=HO.out.lt hi
  have h2:=HOB.out
  have h3:=HNb.out
  omega
 have HRw:Hid (w5.rowIs ob 56 1 (fun _=>.slice Ao k co)):=HK5.out.row (fun h=>(HNE.out _ h).1 rfl) (KW.row (HKW.out.t HA4.out) HR.out.lt HR.out)
 have hSS5:(w5.cell? ⟨w.heap.size,0,none⟩=some (.int .i64 x)∧w5.cell? ⟨w.heap.size,1,none⟩=some (.int .i64 y)∧w5.cell? ⟨w.heap.size,2,none⟩=some (.int .i64 a1)∧w5.cell? ⟨w.heap.size,3,none⟩=some (.int .i64 p1)∧w5.cell? ⟨w.heap.size,4,none⟩=some (.slice A1 N1 c1)∧w5.cell? ⟨w.heap.size,5,none⟩=some (.int .i64 a2)∧w5.cell? ⟨w.heap.size,6,none⟩=some (.int .i64 p2)∧w5.cell? ⟨w.heap.size,7,none⟩=some (.slice A2 N2 c2))∧w5.cell? ⟨fb,0,none⟩=some (.int .i64 fixed)∧w5.cell? ⟨sb,0,none⟩=some (.int .i64 slot)∧w5.cell? ⟨tv,0,none⟩=some (.map (some mb))∧(Instr.lookup 111 (.map (some mb)) (.int .i64 x) false).run Tryz.prog w5=.ok (.int .i64 tp) w5∧w5.cell? ⟨ob,0,none⟩=some (.slice Ao k co):=by
  have h:=HSS.out _ HA4.out
  have hl:w.heap.size<(w3.alloc (.cells #[.int .i64 q] 3)).heap.size:=by have:=HSz.out;have:=HSz3.out;simp;omega
  have hc:¬ (Value.slice Ao k co).ownBlock=some w.heap.size:=fun h=>(HNE.out _ h).2.1 rfl
  have hkk:=HKW.out.t HA4.out
  exact⟨⟨(HK5.out.cell hl hc).trans h.1.1,(HK5.out.cell hl hc).trans h.1.2.1,(HK5.out.cell hl hc).trans h.1.2.2.1,(HK5.out.cell hl hc).trans h.1.2.2.2.1,(HK5.out.cell hl hc).trans h.1.2.2.2.2.1,(HK5.out.cell hl hc).trans h.1.2.2.2.2.2.1,(HK5.out.cell hl hc).trans h.1.2.2.2.2.2.2.1,(HK5.out.cell hl hc).trans h.1.2.2.2.2.2.2.2⟩,
   (HK5.out.cell (Nat.lt_of_lt_of_le HFx.out.lt hkk.size) fun h=>(HNE.out _ h).2.2.1 rfl).trans h.2.1,(HK5.out.cell (Nat.lt_of_lt_of_le HSl.out.lt hkk.size) fun h=>(HNE.out _ h).2.2.2.1 rfl).trans h.2.2.1,(HK5.out.cell (Nat.lt_of_lt_of_le HTv.out.lt hkk.size) fun h=>(HNE.out _ h).2.2.2.2.1 rfl).trans h.2.2.2.1,
   HLk5.out w5 (hkk.keep.t HK5.out),HRw.out.cell (i:=0) (by omega)⟩
 refine⟨fun _=>hSS5,?_⟩
 try simp only[lsz,lss]
 have hc0:=hSS5.2.2.2.2.2
 have hf0:=HRw.out.frozen 0
 obtain⟨A6,c6,hv6,hc6,hbb6,_⟩:=HO5.out.row
 rw[ints_range_len] at hv6
 subst hv6
 refine wpX_hard (k:=15) (by kernel_rfl) rfl (fun K hK=>?_)
 go_simp
 refine hK _ _ (fun h=>absurd rfl h) ?_
 clear hK K
 refine wpX_done (by kernel_rfl) ?_
 go_wp2_with fail
 have HL6:Hid (∀ i,(Value.slice A6 (k+1) c6).ownBlock=some i→(Value.slice Ao k co).ownBlock=some i∨w3.heap.size+1≤i):=fun i hi=>by
  rcases HL5.out with h|h
  ·exact .inl (h ▸ hi)
  ·rw[h] at hi;injection hi with hi;simp at hi;exact .inr (by omega)
 refine bodyPost_end (results_none rfl _ _ _) rfl ?_
 refine⟨rfl,(fun i=>i=ob∨(Value.slice A6 (k+1) c6).ownBlock=some i),⟨A6,c6,?_,?_,HOB.out,fun i=>Iff.rfl⟩,?_,?_⟩
 ·refine(HRw.out.set 0 _).congr fun i hi=>?_
  obtain rfl:i=0:=by omega
  exact if_pos rfl
 ·exact HO5.out.of_blocks fun i hi=>heap_setCell_other w5 _ i _ (by have:=(HO5.out.lt hi).1;have:=HOB.out;show i≠ob;omega)
 ·exact(((HKW.out.t HA4.out).keep (own:=H)).trans HK5.out fun i _ hi=>(HH.out i).2 (.inr hi)).setCell _ _ ((HH.out _).2 (.inl rfl))
 ·intro i hi
  rcases hi with rfl|hi
  ·exact .inl ((HH.out _).2 (.inl rfl))
  ·rcases HL6.out i hi with h|h
   ·exact .inl ((HH.out _).2 (.inr h))
   ·exact .inr (by have:=HKW.out.size;have:=HSz3.out;omega)
def tpv (step loss x:Int):Int:=if x=7 then step else if x=6 then step+loss else if x=5 then loss else 0
def Dw (step loss:Int):DataW Unit:=(((DataW.map []).put (.int .i64 5) (.lit (.int .i64 loss))).put (.int .i64 6) (.lit (.int .i64 (step+loss)))).put (.int .i64 7) (.lit (.int .i64 step))
theorem isKey_int (x:Int):WideAt.IsKeyLit (.int .i64 x):=by
 first|trivial|(unfold WideAt.IsKeyLit;trivial)|simp[WideAt.IsKeyLit]
theorem Dw_at (step loss x:Int):(Dw step loss).atKey (.int .i64 x) (.lit (.int .i64 0))=.lit (.int .i64 (tpv step loss x)):=by
 unfold Dw tpv
 have hne:∀ a b:Int,a≠b→(Lit.int .i64 a)≠(Lit.int .i64 b):=fun a b h e=>h (Lit.int.inj e).2
 by_cases h7:x=7
 ·subst h7
  rw[if_pos rfl,atKey_put_same ((isMap_empty.put _ _).put _ _) (isKey_int _)]
 rw[if_neg h7,atKey_put_other (hne _ _ h7)]
 by_cases h6:x=6
 ·subst h6
  rw[if_pos rfl,atKey_put_same (isMap_empty.put _ _) (isKey_int _)]
 rw[if_neg h6,atKey_put_other (hne _ _ h6)]
 by_cases h5:x=5
 ·subst h5
  rw[if_pos rfl,atKey_put_same isMap_empty (isKey_int _)]
 rw[if_neg h5,atKey_put_other (hne _ _ h5)]
 rfl
theorem tpv_b (step loss x:Int)(b3:0≤step∧step≤1048576)(b4:0≤loss∧loss≤1048576):0≤tpv step loss x∧tpv step loss x≤2097152:=by
 unfold tpv
 by_cases h7:x=7
 ·rw[if_pos h7];omega
 by_cases h6:x=6
 ·rw[if_neg h7,if_pos h6];omega
 by_cases h5:x=5
 ·rw[if_neg h7,if_neg h6,if_pos h5];omega
 ·rw[if_neg h7,if_neg h6,if_neg h5];omega
theorem wf_small (x:Int)(h0:0≤x)(h1:x≤10):(Lit.int .i64 x).wf=true:=by
 simp[Lit.wf,IntKind.min,IntKind.max,IntKind.signed,IntKind.bits];omega
def lw (m:Mc.St)(list:List Mc.Act)(fixed slot step loss:Int)(k:Nat):Int:=fixed+slot * ((max (Mc.hl m list k) (Mc.hl m list (k+1)):Nat):Int)+tpv step loss (list.getD k (0,0)).1
def WJ (ob base fb sb tv mb:Nat)(f:Nat→Int)(fixed slot step loss:Int)(k:Nat)(H:Nat→Prop)(w:World):Prop:=
 ∃ Ho,OutJ ob base f k Ho w∧(w.rowIs fb 3 1 fun _=>.int .i64 fixed)∧(w.rowIs sb 3 1 fun _=>.int .i64 slot)∧(w.rowIs tv 111 1 fun _=>.map (some mb))∧w.ownsMap Tryz.prog 3 (plainElem Tryz.prog 3) mb 3 (Dw step loss)∧∀ i,H i↔Ho i∨i=fb∨i=sb∨i=tv∨i=mb
theorem OutJ.own {ob base:Nat}{f:Nat→Int}{k:Nat}{H:Nat→Prop}{w:World}(h:OutJ ob base f k H w):∀ i,H i→i=ob∨base≤i:=by
 obtain⟨A,c,hr,ho,_,hH⟩:=h
 intro i hi
 exact((hH i).1 hi).imp id fun h=>(ho.lt h).1
theorem see_words (l:Int)(n:Nat)(l0:0≤l)(l1:l<65536)(hn:n≤1048576)(list:List Mc.Act)(hlen:list.length≤1099511627776)(ob base fb sb tv mb:Nat)(fixed slot step loss:Int)
 (hne:ob<base∧fb<base∧sb<base∧tv<base∧mb<base) (hno:ob≠fb∧ob≠sb∧ob≠tv∧ob≠mb) (b1:0≤fixed∧fixed≤1048576) (b2:0≤slot∧slot≤1048576) (b3:0≤step∧step≤1048576) (b4:0≤loss∧loss≤1048576):
 See 57 #[.pointer (some ⟨ob,0,none⟩),.pointer (some ⟨fb,0,none⟩),.pointer (some ⟨sb,0,none⟩),.pointer (some ⟨tv,0,none⟩)] (Mc.new l n) list (fun k H w=>base≤w.heap.size∧WJ ob base fb sb tv mb (lw (Mc.new l n) list fixed slot step loss) fixed slot step loss k H w):=by
 refine⟨fun args W=>by kernel_rfl,fun k H w h=>?_,fun k H w w' O h hk hn=>?_,fun k H w va vb hkl hok hJ ha hb _ _=>?_⟩
 ·obtain⟨hbs,Ho,ho,h1,h2,h3,h4,hH⟩:=h
  intro i hi
  rcases(hH i).1 hi with h|rfl|rfl|rfl|rfl
  ·exact ho.lt i h
  ·exact h1.lt
  ·exact h2.lt
  ·exact h3.lt
  ·exact h4.lt
 ·obtain⟨hbs,Ho,ho,h1,h2,h3,h4,hH⟩:=h
  exact⟨Nat.le_trans hbs hk.size,Ho,ho.keep hk fun i hi=>hn i ((hH i).2 (.inl hi)),hk.row (hn _ ((hH _).2 (by simp))) h1,hk.row (hn _ ((hH _).2 (by simp))) h2,hk.row (hn _ ((hH _).2 (by simp))) h3,hk.map (hn _ ((hH _).2 (by simp))) h4,hH⟩
 ·obtain⟨hbs,Ho,ho,h1,h2,h3,h4,hH⟩:=hJ
  have hlen1:(Mc.up (Mc.new l n) list k).tags.length≤1048576:=by rw[Mc.up_len];simpa [Mc.new] using hn
  have hlen2:(Mc.up (Mc.new l n) list (k+1)).tags.length≤1048576:=by rw[Mc.up_len];simpa [Mc.new] using hn
  have hr:=(Mc.right_of_er (hok k (by omega))).2
  have htp:=tpv_b step loss (list.getD k (0,0)).1 b3 b4
  refine(words2_any ob base fb sb tv mb _ k Ho _ _ _ _ _ _ fixed slot (tpv step loss (list.getD k (0,0)).1) va vb _ _ (Dw step loss) w (by omega) hlen1 hlen2 ha hb ho hbs h1 h2 h3 h4 ?_ (Dw_at _ _ _) ⟨hne.2.1,hne.2.2.1,hne.2.2.2.1,hne.2.2.2.2⟩ hno b1 b2 htp rfl).mono fun e w' h=>?_
  ·exact wf_small _ (by omega) (by omega)
  ·obtain⟨he,H',ho',hk',hH'⟩:=h
   have hx:∀ i,i=fb∨i=sb∨i=tv∨i=mb→¬ Ho i:=fun i hi h=>by
    rcases ho.own i h with h|h<;>omega
   refine⟨he,fun i=>H' i∨i=fb∨i=sb∨i=tv∨i=mb,⟨Nat.le_trans hbs hk'.size,H',ho',hk'.row (hx _ (by simp)) h1,hk'.row (hx _ (by simp)) h2,hk'.row (hx _ (by simp)) h3,hk'.map (hx _ (by simp)) h4,fun i=>Iff.rfl⟩,hk'.mono fun i _ hi=>(hH i).2 (.inl hi),fun i hi=>?_⟩
   rcases hi with hi|hi
   ·exact(hH' i hi).imp (fun h=>(hH i).2 (.inl h)) id
   ·exact .inl ((hH i).2 (.inr hi))
theorem row1_4 (w:World)(t:TypeId)(a b c d:Int):Row1 (w.alloc (.cells #[.int .i64 a,.int .i64 b,.int .i64 c,.int .i64 d] t)) (some ⟨w.heap.size,0,none⟩) [a,b,c,d].length fun i=>.int .i64 ([a,b,c,d].getD i 0):=by
 intro _
 refine⟨_,0,rfl,by simp,fun k hk=>?_⟩
 rcases(show k=0∨k=1∨k=2∨k=3 by simp at hk;omega) with rfl|rfl|rfl|rfl<;>go_simp
theorem anyw_b {fixed slot step loss:Int}(h:[fixed,slot,step,loss].any wbad=false):(0≤fixed∧fixed≤1048576)∧(0≤slot∧slot≤1048576)∧(0≤step∧step≤1048576)∧0≤loss∧loss≤1048576:=by
 simp only[List.any_cons,List.any_nil,Bool.or_false,Bool.or_eq_false_iff,wbad,decide_eq_false_iff_not] at h
 omega
theorem wf_word {x:Int}(h0:0≤x)(h1:x≤1099511627776):(Lit.int .i64 x).wf=true:=by
 simp[Lit.wf,IntKind.min,IntKind.max,IntKind.signed,IntKind.bits];omega
def W0F (w:World)(fixed slot step loss:Int):Prop:=
 KW w (((((w.alloc (.cells #[.int .i64 fixed] 3)).alloc (.cells #[.int .i64 slot] 3)).alloc (.cells #[.int .i64 fixed,.int .i64 slot,.int .i64 step,.int .i64 loss] 3)).alloc (.cells #[.slice none 0 0] 56)).alloc (.map #[] 0)) ∧
 (((((w.alloc (.cells #[.int .i64 fixed] 3)).alloc (.cells #[.int .i64 slot] 3)).alloc (.cells #[.int .i64 fixed,.int .i64 slot,.int .i64 step,.int .i64 loss] 3)).alloc (.cells #[.slice none 0 0] 56)).alloc (.map #[] 0)).heap.size=w.heap.size+5 ∧
 ((((((w.alloc (.cells #[.int .i64 fixed] 3)).alloc (.cells #[.int .i64 slot] 3)).alloc (.cells #[.int .i64 fixed,.int .i64 slot,.int .i64 step,.int .i64 loss] 3)).alloc (.cells #[.slice none 0 0] 56)).alloc (.map #[] 0)).rowIs w.heap.size 3 1 fun _=>.int .i64 fixed) ∧
 ((((((w.alloc (.cells #[.int .i64 fixed] 3)).alloc (.cells #[.int .i64 slot] 3)).alloc (.cells #[.int .i64 fixed,.int .i64 slot,.int .i64 step,.int .i64 loss] 3)).alloc (.cells #[.slice none 0 0] 56)).alloc (.map #[] 0)).rowIs (w.heap.size+1) 3 1 fun _=>.int .i64 slot) ∧
 ((((((w.alloc (.cells #[.int .i64 fixed] 3)).alloc (.cells #[.int .i64 slot] 3)).alloc (.cells #[.int .i64 fixed,.int .i64 slot,.int .i64 step,.int .i64 loss] 3)).alloc (.cells #[.slice none 0 0] 56)).alloc (.map #[] 0)).rowIs (w.heap.size+1+1+1) 56 1 fun _=>.slice none 0 0) ∧
 (((((w.alloc (.cells #[.int .i64 fixed] 3)).alloc (.cells #[.int .i64 slot] 3)).alloc (.cells #[.int .i64 fixed,.int .i64 slot,.int .i64 step,.int .i64 loss] 3)).alloc (.cells #[.slice none 0 0] 56)).alloc (.map #[] 0)).ownsMap Tryz.prog 3 (plainElem (H:=Unit) Tryz.prog 3) (w.heap.size+1+1+1+1) 0 (.map [])
theorem W0F_of (w:World)(fixed slot step loss:Int):W0F w fixed slot step loss:=by
 have h1:=cells1 w 3 (.int .i64 fixed)
 have h2:=cells1 (w.alloc (.cells #[.int .i64 fixed] 3)) 3 (.int .i64 slot)
 have h3:=cells1 (((w.alloc (.cells #[.int .i64 fixed] 3)).alloc (.cells #[.int .i64 slot] 3)).alloc (.cells #[.int .i64 fixed,.int .i64 slot,.int .i64 step,.int .i64 loss] 3)) 56 (.slice none 0 0)
 have h4:=World.ownsMap_made (H:=Unit) ((((w.alloc (.cells #[.int .i64 fixed] 3)).alloc (.cells #[.int .i64 slot] 3)).alloc (.cells #[.int .i64 fixed,.int .i64 slot,.int .i64 step,.int .i64 loss] 3)).alloc (.cells #[.slice none 0 0] 56)) Tryz.prog 3 (plainElem Tryz.prog 3)
 exact⟨(((((KW.refl w).alloc _).alloc _).alloc _).alloc _).alloc _,by simp,(((h1.alloc _).alloc _).alloc _).alloc _,by simpa using ((h2.alloc _).alloc _).alloc _,by simpa using h3.alloc _,by simpa using h4⟩
theorem pwords_walk (l n:Int)(A:Option Addr)(c N:Nat)(fixed slot step loss:Int)(w:World)(h:[fixed,slot,step,loss].any wbad=false)(R:Ending→World→Prop)
 (hW:∀ W5 tv,KW w W5→W5.heap.size=tv+1→w.heap.size+5≤tv→W5.rowIs w.heap.size 3 1 (fun _=>.int .i64 fixed)→W5.rowIs (w.heap.size+1) 3 1 (fun _=>.int .i64 slot)→W5.rowIs (w.heap.size+1+1+1) 56 1 (fun _=>.slice none 0 0)→W5.rowIs tv 111 1 (fun _=>.map (some (w.heap.size+1+1+1+1)))→W5.ownsMap Tryz.prog 3 (plainElem Tryz.prog 3) (w.heap.size+1+1+1+1) 3 (Dw step loss) →
   Calls Tryz.prog 56 #[.int .i64 l,.int .i64 n,.slice A N c,.func (.func 57) #[] #[.pointer (some ⟨w.heap.size+1+1+1,0,none⟩),.pointer (some ⟨w.heap.size,0,none⟩),.pointer (some ⟨w.heap.size+1,0,none⟩),.pointer (some ⟨tv,0,none⟩)]] W5 fun e w'=>
    (∃ p at_ er,er≠0∧e=.returned (.tuple #[p,.int .i64 at_,.int .i64 er])∧R (.returned (.tuple #[.slice none 0 0,.int .i64 er])) w') ∨
    (∃ p at_ Ao k co,e=.returned (.tuple #[p,.int .i64 at_,.int .i64 0])∧w'.cell? ⟨w.heap.size+1+1+1,0,none⟩=some (.slice Ao k co)∧R (.returned (.tuple #[.slice Ao k co,.int .i64 0])) w')):
 Calls Tryz.prog 22 #[.int .i64 l,.int .i64 n,.slice A N c,.int .i64 fixed,.int .i64 slot,.int .i64 step,.int .i64 loss] w R:=by
 have HC:=hid (fun W=>containsf_any 55 #[] wbad [fixed,slot,step,loss] _ 4 _ (by simp) (row1_4 W 3 fixed slot step loss) (fun args W=>by kernel_rfl) (fun x _=>words1_any x _))
 rw[h] at HC
 obtain⟨b1,b2,b3,b4⟩:=anyw_b h
 have HC2:=hid (HC.out ((w.alloc (.cells #[.int .i64 fixed] 3)).alloc (.cells #[.int .i64 slot] 3)))
 have HC3:Hid (Calls Tryz.prog 54 #[.slice (some ⟨w.heap.size+1+1,0,none⟩) 4 4,.func (.func 55) #[] #[]] (((w.alloc (.cells #[.int .i64 fixed] 3)).alloc (.cells #[.int .i64 slot] 3)).alloc (.cells #[.int .i64 fixed,.int .i64 slot,.int .i64 step,.int .i64 loss] 3)) fun e w'=>e=.returned (.bool false)∧(((w.alloc (.cells #[.int .i64 fixed] 3)).alloc (.cells #[.int .i64 slot] 3)).alloc (.cells #[.int .i64 fixed,.int .i64 slot,.int .i64 step,.int .i64 loss] 3))=w'):=by
  have h:=HC2.out
  exact hid (by simpa using h)
 have HW:=hid hW
 have Hb3:=hid b3
 have Hb4:=hid b4
 have L1:IntKind.i64.wrap (step+loss)=step+loss:=IntWalk.i64_in _ (by omega)
 have hmm:=@run_makeMap Tryz.prog
 clear h HC HC2 hW b1 b2 b3 b4
 go_enter Tryz.func22,Tryz.ntmps22
 go_wp2_with fail
 refine HC3.out.mono ?_
 rintro e w1 ⟨rfl,rfl⟩
 have HF:Hid (W0F w fixed slot step loss):=W0F_of w fixed slot step loss
 unfold W0F at HF
 go_wp2_with fail
 obtain⟨hk0,hz0,hr1,hr2,hr3,hown0⟩:=HF.out
 generalize (((((w.alloc (.cells #[.int .i64 fixed] 3)).alloc (.cells #[.int .i64 slot] 3)).alloc (.cells #[.int .i64 fixed,.int .i64 slot,.int .i64 step,.int .i64 loss] 3)).alloc (.cells #[.slice none 0 0] 56)).alloc (.map #[] 0))=W0 at *
 obtain⟨W1,e1,ho1,hg1⟩:=hown0.update (key:=.int .i64 5) (val:=.int .i64 loss) (d:=.lit (.int .i64 loss)) (ps:=[]) (kl:=.int .i64 5) law3 Tryz.underlying111 (by unfold maxLen;omega) (keyOf_int_mk Tryz.underlying3 (wf_small _ (by omega) (by omega))) (plainElem_int Tryz.underlying3 (wf_word Hb4.out.1 (by have:=Hb4.out.2;omega)))
 obtain⟨W2,e2,ho2,hg2⟩:=ho1.update (key:=.int .i64 6) (val:=.int .i64 (step+loss)) (d:=.lit (.int .i64 (step+loss))) (ps:=[]) (kl:=.int .i64 6) law3 Tryz.underlying111 (by unfold maxLen;omega) (keyOf_int_mk Tryz.underlying3 (wf_small _ (by omega) (by omega))) (plainElem_int Tryz.underlying3 (wf_word (by have:=Hb3.out.1;have:=Hb4.out.1;omega) (by have:=Hb3.out.2;have:=Hb4.out.2;omega)))
 obtain⟨W3,e3,ho3,hg3⟩:=ho2.update (key:=.int .i64 7) (val:=.int .i64 step) (d:=.lit (.int .i64 step)) (ps:=[]) (kl:=.int .i64 7) law3 Tryz.underlying111 (by unfold maxLen;omega) (keyOf_int_mk Tryz.underlying3 (wf_small _ (by omega) (by omega))) (plainElem_int Tryz.underlying3 (wf_word Hb3.out.1 (by have:=Hb3.out.2;omega)))
 have hg:=(hg1.trans hg2).trans hg3
 have hkeep:Keep (· = w.heap.size+1+1+1+1) W0 W3:=⟨hg.os,hg.tape,hg.output,hg.size,fun i hi hn=>hg.block i hi fun e=>hn (Option.some.inj e)⟩
 have HZ:Hid (w.heap.size+5≤W3.heap.size):=by have:=hg.size;exact hid (by omega)
 have HK3:Hid (KW w W3):=hk0.kept hkeep fun i hi=>by omega
 have HR1:=hid (hkeep.row (by omega) hr1)
 have HR2:=hid (hkeep.row (by omega) hr2)
 have HR3:=hid (hkeep.row (by omega) hr3)
 have HO3:=hid ho3
 clear hg hkeep ho1 ho2 ho3 hg1 hg2 hg3 hk0 hz0 hr1 hr2 hr3 hown0 HF hmm
 rw[e1]
 simp only[Result.andThen_ok,Oper.upon_skip]
 go_wp2_with fail
 refine(HW.out (W3.alloc (.cells #[.map (some (w.heap.size+1+1+1+1))] 111)) W3.heap.size (HK3.out.alloc _) (by simp) HZ.out (HR1.out.alloc _) (HR2.out.alloc _) (HR3.out.alloc _) (cells1 W3 _ _) (HO3.out.alloc _)).mono ?_
 intro e w' h
 rcases h with⟨p,at_,er,hne,rfl,hR⟩|⟨p,at_,Ao,k,co,rfl,hc,hR⟩
 ·have HRR:=hid hR
  have d:(er != 0)=true:=by simpa using hne
  have d2:(er==0)=false:=by simpa using hne
  clear hR hne
  go_wp2_with fail
  exact HRR.out
 ·have HRR:=hid hR
  clear hR
  go_wp2_with fail
  exact HRR.out
theorem pwords_yes (l:Int)(n:Nat)(A:Option Addr)(c:Nat)(list:List Mc.Act)(fixed slot step loss:Int)(w:World)(hb:[fixed,slot,step,loss].any wbad=false)(l0:0≤l)(l1:l<65536)(hn:n≤1048576)(hlen:list.length≤1099511627776)(hA:Acts w A list):
 Calls Tryz.prog 22 #[.int .i64 l,.int .i64 n,.slice A list.length c,.int .i64 fixed,.int .i64 slot,.int .i64 step,.int .i64 loss] w fun e w'=>
  (Mc.okTo (Mc.new l n) list list.length∧ListP w (some ((List.range list.length).map (lw (Mc.new l n) list fixed slot step loss))) 0 e w')∨∃ k,k<list.length∧Mc.okTo (Mc.new l n) list k∧Mc.er (Mc.new l n) list k≠0∧ListP w none (Mc.er (Mc.new l n) list k) e w':=by
 obtain⟨b1,b2,b3,b4⟩:=anyw_b hb
 refine pwords_walk l n A c list.length fixed slot step loss w hb _ fun W5 tv hk hz htv r1 r2 r3 r4 hm=>?_
 have hbs:W5.heap.size=tv+1:=hz
 have hJ0:OutJ (w.heap.size+1+1+1) W5.heap.size (lw (Mc.new l n) list fixed slot step loss) 0 (· = w.heap.size+1+1+1) W5:=
  ⟨none,0,r3,Owns.nil _ _ _,by omega,fun i=>by simp[Value.ownBlock]⟩
 refine(watch_yes l n A c list _ _ _ (fun i=>i=w.heap.size+1+1+1∨i=w.heap.size∨i=w.heap.size+1∨i=tv∨i=w.heap.size+1+1+1+1) W5 l0 l1 hn hlen (hA.kw hk) ?_
  (see_words l n l0 l1 hn list hlen (w.heap.size+1+1+1) W5.heap.size w.heap.size (w.heap.size+1) tv (w.heap.size+1+1+1+1) fixed slot step loss (by omega) (by omega) b1 b2 b3 b4) ⟨Nat.le_refl _,_,hJ0,r1,r2,r4,hm,fun i=>Iff.rfl⟩).mono ?_
 ·intro h0 b off hA'
  obtain⟨b',off',h1,h2,_⟩:=hA h0
  rw[h1] at hA';cases hA';omega
 rintro e w' ⟨hk1,h⟩
 have hkw:KW w w':=hk.kept hk1 fun i hi=>by omega
 rcases h with⟨b,v,H,hok,rfl,hm',⟨_,Ho,ho,_⟩,_,hH⟩|⟨k,hk',hok,her,rfl,_⟩
 ·obtain⟨Ao,co,hr,how,_,hHH⟩:=ho
  exact .inr ⟨_,_,_,_,_,rfl,hr.cell (i:=0) (by omega),.inl ⟨hok,⟨_,rfl,how.base (by omega)⟩,hkw⟩⟩
 ·exact .inl ⟨_,_,_,her,rfl,.inr ⟨k,hk',hok,her,rfl,hkw⟩⟩
end Go.Proofs.YtphppbonljdibaaGreat
