import Derived.Test.YtphppbonljdibaaGreatTB07
import Derived.Test.YtphppbonljdibaaGreatTB02
import Derived.IntWalk
import Derived.Deep.LoopGhost
set_option maxRecDepth 100000
set_option maxHeartbeats 4000000
set_option linter.unusedVariables false
set_option linter.unusedSimpArgs false
namespace Go.Proofs.YtphppbonljdibaaGreat
open Go.ChangeShapes Go.WideShapes Go.ChangeAt Go.RowKit
theorem zero9_row (w:World):(w.alloc (.cells #[.int .i64 0,.int .i64 0,.int .i64 0,.int .i64 0,.int .i64 0,.int .i64 0,.int .i64 0,.int .i64 0,.int .i64 0] 91)).rowIs w.heap.size 91 9 (fun _=>.int .i64 0):=
 World.rowIs_alloc w #[.int .i64 0,.int .i64 0,.int .i64 0,.int .i64 0,.int .i64 0,.int .i64 0,.int .i64 0,.int .i64 0,.int .i64 0] 91 _ fun i hi=>by
  simp at hi
  rcases(show i=0∨i=1∨i=2∨i=3∨i=4∨i=5∨i=6∨i=7∨i=8 by omega) with rfl|rfl|rfl|rfl|rfl|rfl|rfl|rfl|rfl<;>rfl
theorem psizes_any (h:Hd)(w:World)(hM:HdM w h)(hg:HGd h):Calls Tryz.prog 41 #[.agg h.v] w fun e w'=>e=.returned (.agg (ivn (szl h)))∧KW w w':=by
 have hk:=((KW.refl w).alloc (.cells h.v 27)).alloc (.cells #[.int .i64 0,.int .i64 0,.int .i64 0,.int .i64 0,.int .i64 0,.int .i64 0,.int .i64 0,.int .i64 0,.int .i64 0] 91)
 have HO:=hid (fun W (hW:KW w W)=>pof_any h W (hM.kw hW))
 have HG:=hid hg
 have HB:=hid hg.bounds
 have HA:=hid (wct_le h.st.l)
 have HA2:=hid (wct_le h.lo.l)
 have hz:=zero9_row (w.alloc (.cells h.v 27))
 rw[show(w.alloc (.cells h.v 27)).heap.size=w.heap.size+1 by simp] at hz
 have HZ:=hid hz
 have hh:=heap_alloc_new w (.cells h.v 27)
 have hlt1:w.heap.size<(w.alloc (.cells h.v 27)).heap.size:=by simp
 have HR:Hid (∀ i v,h.v[i]?=some v→((w.alloc (.cells h.v 27)).alloc (.cells #[.int .i64 0,.int .i64 0,.int .i64 0,.int .i64 0,.int .i64 0,.int .i64 0,.int .i64 0,.int .i64 0,.int .i64 0] 91)).cell? ⟨w.heap.size,i,none⟩=some v):=hid fun i v hv=>by
  refine(Below.cell ((KW.refl (w.alloc (.cells h.v 27))).alloc _) hlt1).trans ?_
  unfold World.cell?
  rw[hh]
  exact hv
 have HK:=hid hk
 have HS:Hid (szl h=[h.ts.length,h.xs.length,h.st.n.toNat,h.lo.n.toNat,max h.st.n.toNat h.lo.n.toNat,h.xs.length,h.ts.length,if h.mode=3 then wct h.lo.l else wct h.st.l+wct h.lo.l,if h.mode=3 then wct h.st.l+h.st.n.toNat else h.xs.length+1]):=hid rfl
 clear hk hM hg hz hh hlt1
 generalize szl h=SL at *
 unfold OfP at HO
 generalize HGd h=G at *
 unfold Hd.v hdv at *
 obtain⟨mode,xA,xc,xs,tA,tc,ts,⟨n,A,c,l⟩,⟨m,B,d,l'⟩,len,words⟩:=h
 simp only at *
 generalize xs.length=x at *
 generalize ts.length=t at *
 generalize l.length=N at *
 generalize l'.length=M at *
 generalize wct l=a at *
 generalize wct l'=b at *
 obtain⟨n,rfl⟩:∃ n':Nat,n=n':=⟨n.toNat,by have:=HB.out.2.1;omega⟩
 obtain⟨m,rfl⟩:∃ m':Nat,m=m':=⟨m.toNat,by have:=HB.out.2.2.1;omega⟩
 simp only[Int.toNat_natCast] at HS
 have hb:=HB.out
 have hx64:x≤64:=hb.2.2.2.1.2
 have ht64:t≤64:=hb.2.2.2.2.1
 have hn64:n≤64:=by have:=hb.2.1.2;omega
 have hm64:m≤64:=by have:=hb.2.2.1.2;omega
 have ha:=HA.out
 have hb2:=HA2.out
 clear hb
 go_enter Tryz.func41,Tryz.ntmps41
 go_wp2_with fail
 have hcells:=HR.out
 have r0:=hcells 1 _ rfl
 have r1:=hcells 2 _ rfl
 clear hcells
 go_region
 clear r0 r1
 go_wp2_with fail
 refine(HO.out _ HK.out.drew).mono ?_
 rintro e w1 ⟨a',b',rfl,hk1,hyes,_⟩
 obtain⟨rfl,rfl⟩:=hyes HG.out
 have HK1:=hid (HK.out.drew.t hk1)
 have HCl:Hid (∀ i v,(hdv mode xA x xc tA t tc n A N c m B M d len words)[i]?=some v→w1.cell? ⟨w.heap.size,i,none⟩=some v):=hid fun i v hv=>(Below.cell hk1 (by simp;omega)).trans (HR.out i v hv)
 have HZ1:=hid (KW.row hk1 (by simp) HZ.out)
 clear hk1 hyes HR HZ HO HK
 have r0:=HCl.out 0 (.int .i64 mode) rfl
 have r3:=HCl.out 3 (.int .i64 n) rfl
 have r5:=HCl.out 5 (.int .i64 m) rfl
 have hlt:w.heap.size<w1.heap.size:=by have:=HZ1.out.lt;omega
 have hz1:=HZ1.out.lt
 obtain⟨mx,hmx,hmx2⟩:∃ mx:Nat,mx=max n m∧max (n:Int) (m:Int)=(mx:Int):=⟨max n m,rfl,by omega⟩
 rw[← hmx] at HS
 have HST:∀ (cs:Array Value) (a9:Act) (W:World),True:=fun _ _ _=>trivial
 clear HST
 by_cases h3:mode=3
 ·subst h3
  simp only[if_true] at HS
  go_wp2_with fail
  have d0:w1.drew.cell? ⟨w.heap.size,3,none⟩=some (.int .i64 n):=r3
  go_region
  clear d0
  have r3:w1.drew.cell? ⟨w.heap.size,3,none⟩=some (.int .i64 n):=r3
  have r5:w1.drew.cell? ⟨w.heap.size,5,none⟩=some (.int .i64 m):=r5
  have HZ2:=hid (KW.row (KW.refl w1).drew HZ1.out.lt HZ1.out)
  go_wp2_with (refine wpList_store_is rfl 91 _ _ rfl (w.heap.size+1) 9 91 _ (fun i=>(ivn SL).getD i undef) _ rfl rfl HZ2.out (by kernel_rfl) rfl ?qa1 ?qa2 ?_)
  all_goals first
   | (intro i hi
      rw[HS.out]
      rcases(show i=0∨i=1∨i=2∨i=3∨i=4∨i=5∨i=6∨i=7∨i=8 by omega) with rfl|rfl|rfl|rfl|rfl|rfl|rfl|rfl|rfl<;>first|rfl|(simp[ivn];omega))
   | (intro W hrow hkeep hsz
      have HK2:Hid (KW w W):=hid (HK1.out.drew.kept hkeep fun i hi=>by omega)
      have HP:Hid (W.heap[w.heap.size+1]?=some (.cells (ivn SL) 91 (0,0))):=by
       have h9:=whole hrow
       have e9:((List.range 9).map fun i=>(ivn SL)[i]?.getD undef).toArray=ivn SL:=by rw[HS.out];rfl
       rw[e9] at h9
       exact hid h9
      have HN:Hid (9=(ivn SL).size):=by rw[HS.out];exact hid rfl
      clear hrow hkeep hsz
      go_wp2_with fail
      exact bodyPost_ret (results_cell_row rfl _ _ _ _ _ (0,0) _ rfl HP.out Tryz.underlying91 rfl (by rw[← HN.out];kernel_rfl)) rfl ⟨rfl,HK2.out⟩)
 ·have e3:(mode==3)=false:=beq_eq_false_iff_ne.2 h3
  simp only[h3,if_false] at HS
  clear h3
  go_wp2_with (refine wpList_store_is rfl 91 _ _ rfl (w.heap.size+1) 9 91 _ (fun i=>(ivn SL).getD i undef) _ rfl rfl HZ1.out (by kernel_rfl) rfl ?qb1 ?qb2 ?_)
  all_goals first
   | (intro i hi
      rw[HS.out]
      rcases(show i=0∨i=1∨i=2∨i=3∨i=4∨i=5∨i=6∨i=7∨i=8 by omega) with rfl|rfl|rfl|rfl|rfl|rfl|rfl|rfl|rfl<;>first|rfl|(simp[ivn];omega))
   | (intro W hrow hkeep hsz
      have HK2:Hid (KW w W):=hid (HK1.out.kept hkeep fun i hi=>by omega)
      have HP:Hid (W.heap[w.heap.size+1]?=some (.cells (ivn SL) 91 (0,0))):=by
       have h9:=whole hrow
       have e9:((List.range 9).map fun i=>(ivn SL)[i]?.getD undef).toArray=ivn SL:=by rw[HS.out];rfl
       rw[e9] at h9
       exact hid h9
      have HN:Hid (9=(ivn SL).size):=by rw[HS.out];exact hid rfl
      clear hrow hkeep hsz
      go_wp2_with fail
      exact bodyPost_ret (results_cell_row rfl _ _ _ _ _ (0,0) _ rfl HP.out Tryz.underlying91 rfl (by rw[← HN.out];kernel_rfl)) rfl ⟨rfl,HK2.out⟩)
theorem nvs_len (l:List Nat):(nvs l).length=l.length:=by simp[nvs]
theorem nvs_app (l:List Nat)(i:Nat):nvs (l++[i])=nvs l++[.int .i64 (i:Int)]:=by simp[nvs]
section
variable {ops : Array Oper} {Q : Exit → Act → World → Prop}
theorem wpList_appN {rest:List Oper}{o:Oper}{a:Act}(hgd:o.guard=none){s x:Operand}(ho:o.op=.call { callee:=.builtin .append,args:=#[s,x],argTypes:=#[56,56] }){W:World}{base c i:Nat}{v:Value}{L:List Nat}
 (hs:a.eval s=v) (hx:a.eval x=.slice (some ⟨W.heap.size,0,none⟩) 1 c) (hown:Owns W base 3 v (nvs L)) (hb:base≤W.heap.size) (hl:L.length≤1099511627776)
 (h:∀ v' w',Hid (Owns w' base 3 v' (nvs (L++[i])))→Hid (Keep (fun i=>v.ownBlock=some i) (W.alloc (.cells #[.int .i64 (i:Int)] 3)) w')→Hid (v'.ownBlock=v.ownBlock∨∃ j,v'.ownBlock=some j∧W.heap.size≤j)→wpList Tryz.prog ops Q rest (a.put o.dst v') w'):wpList Tryz.prog ops Q (o::rest) a (W.alloc (.cells #[.int .i64 (i:Int)] 3)):=by
 have hO:=hown.alloc (.cells #[.int .i64 (i:Int)] 3)
 refine wpList_appA hgd sliceInt' ho (W:=W.alloc (.cells #[.int .i64 (i:Int)] 3)) (base:=base) (k:=1) (n:=L.length) (v:=v) (u:=.slice (some ⟨W.heap.size,0,none⟩) 1 c) (xs:=nvs L) (ys:=[.int .i64 (i:Int)]) hs hx
  (holds_one W 3 c (.int .i64 (i:Int)) rfl) (by have h:=hO;unfold Owns at h;rw[nvs_len] at h;exact h) (by simp;omega) (by omega) (by omega) fun v5 w5 hown5 hkeep5 hv5=>h v5 w5 ?_ (hid hkeep5) ?_
 ·rw[nvs_app]
  unfold Owns
  rw[List.length_append,nvs_len]
  exact hid hown5
 ·rcases hv5 with h5|h5
  ·exact .inl h5
  ·exact .inr ⟨_,h5,by simp⟩
end
theorem lay1_any (g e s:Nat)(he:e≤1099511627776)(hs:s≤1099511627776)(w:World)(hv:Var w g 3 (.int .i64 e)):
 Calls Tryz.prog 123 #[.int .i64 s,.pointer (some ⟨g,0,none⟩)] w fun x w'=>x=.returned (.int .i64 e)∧Var w' g 3 (.int .i64 ((e+s:Nat):Int))∧Keep (· = g) w w':=by
 have c0:=hv.cell
 have f0:=hv.frozen
 have HS:=hid (hv.set (.int .i64 ((e+s:Nat):Int)))
 have HK:Hid (Keep (· = g) w (w.setCell ⟨g,0,none⟩ (.int .i64 ((e+s:Nat):Int)))):=hid ((Keep.refl (· = g) w).setCell ⟨g,0,none⟩ _ rfl)
 rw[Int.natCast_add] at *
 clear hv
 go_enter Tryz.func123,Tryz.ntmps123
 go_wp2_with fail
 go_ret
 exact⟨rfl,HS.out,HK.out⟩
def pfs (L:List Nat)(k:Nat):List Nat:=(List.range k).map fun j=>(L.take j).sum
theorem pfs_succ (L:List Nat)(k:Nat):pfs L (k+1)=pfs L k++[(L.take k).sum]:=by simp[pfs,List.range_succ]
def plc (L:List Nat)(n:Nat):List Nat:=pfs L 9++[(L.take 8).sum+L.getD 8 0 * n]
theorem ivn_row (w:World)(t:TypeId)(L:List Nat):(w.alloc (.cells (ivn L) t)).rowIs w.heap.size t L.length (fun i=>.int .i64 (L.getD i 0:Nat)):=by
 refine⟨ivn L,heap_alloc_new w _,by simp[ivn],fun i hi=>?_⟩
 simp[ivn,hi]
theorem take_sum_succ (L:List Nat)(k:Nat)(h:k<L.length):(L.take (k+1)).sum=(L.take k).sum+L.getD k 0:=by
 rw[List.take_succ_eq_append_getElem h,List.sum_append]
 simp[List.getD,h]
theorem take_sum_le (L:List Nat)(B k:Nat)(hB:∀ i,i<L.length→L.getD i 0≤B)(h:k≤L.length):(L.take k).sum≤B * k:=by
 induction k with
 | zero=>simp
 | succ k ih=>
   rw[take_sum_succ L k (by omega)]
   have:=ih (by omega)
   have:=hB k (by omega)
   rw[Nat.mul_succ]
   omega
theorem lay_any (s0 s1 s2 s3 s4 s5 s6 s7 s8 n:Nat)(w:World)(hB:∀ i,i<9→[s0,s1,s2,s3,s4,s5,s6,s7,s8].getD i 0≤1048576)(hn:n≤1048576):
 Calls Tryz.prog 85 #[.agg (ivn [s0,s1,s2,s3,s4,s5,s6,s7,s8]),.int .i64 n] w fun e w'=>∃ v,e=.returned v∧Owns w' w.heap.size 3 v (nvs (plc [s0,s1,s2,s3,s4,s5,s6,s7,s8] n))∧KW w w':=by
 obtain⟨L,hL⟩:∃ L,L=[s0,s1,s2,s3,s4,s5,s6,s7,s8]:=⟨_,rfl⟩
 have hLl:L.length=9:=by rw[hL];rfl
 have hrow:=ivn_row w 91 L
 rw[hLl] at hrow
 have HT:=hid (fun k (h:k<9)=>take_sum_succ L k (by omega))
 have HLe:=hid (fun k (h:k≤9)=>take_sum_le L 1048576 k (fun i hi=>by rw[hL];exact hB i (by omega)) (by omega))
 have HBd:Hid (∀ i,i<9→L.getD i 0≤1048576):=hid fun i hi=>by rw[hL];exact hB i hi
 have HP:=hid (pfs_succ L)
 have hs8:s8≤1048576:=hB 8 (by omega)
 have e8:L.getD 8 0=s8:=by rw[hL];rfl
 have hk:=(KW.refl w).alloc (.cells (ivn L) 91)
 have hrow1:=KW.row ((KW.refl (w.alloc (.cells (ivn L) 91))).alloc (.cells #[.int .i64 0] 3)) hrow.lt hrow
 have hvar:=Var.new (w.alloc (.cells (ivn L) 91)) 3 (.int .i64 0)
 rw[show(w.alloc (.cells (ivn L) 91)).heap.size=w.heap.size+1 by simp] at hvar
 have hk2:=hk.alloc (.cells #[.int .i64 0] 3)
 have hiv:ivn L=#[.int .i64 s0,.int .i64 s1,.int .i64 s2,.int .i64 s3,.int .i64 s4,.int .i64 s5,.int .i64 s6,.int .i64 s7,.int .i64 s8]:=by rw[hL];rfl
 have HC:=hid (fun g e s (he:e≤1099511627776) (hs:s≤1099511627776) W hv=>lay1_any g e s he hs W hv)
 unfold plc
 rw[← hL,e8]
 have HE8:=hid e8
 simp only[hiv] at hrow1 hvar hk2 ⊢
 have HRow:=hid hrow1
 have HVar:=hid hvar
 have HK2:=hid hk2
 have hs2:((w.alloc (.cells #[.int .i64 s0,.int .i64 s1,.int .i64 s2,.int .i64 s3,.int .i64 s4,.int .i64 s5,.int .i64 s6,.int .i64 s7,.int .i64 s8] 91)).alloc (.cells #[.int .i64 0] 3)).heap.size=w.heap.size+1+1:=by simp
 have HS2:=hid hs2
 clear hB hL hrow hrow1 hvar hk hk2 hiv e8 hs2 hLl
 go_enter Tryz.func85,Tryz.ntmps85
 go_wp2_with fail
 refine wpCode_world (fun W=>Hid (W.rowIs w.heap.size 91 9 (fun i=>.int .i64 (L.getD i 0:Nat)))∧Hid (Var W (w.heap.size+1) 3 (.int .i64 0))∧Hid (KW w W)∧Hid (W.heap.size=w.heap.size+1+1)) ⟨HRow,HVar,HK2,HS2⟩ ?_
 clear HRow HVar HK2 HS2
 rintro W0 ⟨HRow,HVar,HK0,HS0⟩
 go_loopw [7,10] (fun v i wr=>∃ k:Nat,k≤8∧i=.int .i64 k∧Hid (Owns wr W0.heap.size 3 v (nvs (pfs L k)))∧Hid (Var wr (w.heap.size+1) 3 (.int .i64 ((L.take k).sum:Nat)))∧Hid (Keep (· = w.heap.size+1) W0 wr)) (fun _ i _=>8 - (intOf i).toNat)
 case atStart=>exact⟨0,by omega,rfl,Owns.nil _ _ _,HVar,Keep.refl _ _⟩
 case round=>
  obtain⟨k,hk,rfl,HO,HV,HK⟩:=hrel
  obtain⟨Ao,co,hvo,_⟩:=HO.out.row
  rw[nvs_len] at hvo
  have hpl:(pfs L k).length=k:=by simp[pfs]
  rw[hpl] at hvo
  subst hvo
  have HPl:=hid hpl
  clear hpl
  by_cases hlt:k<8
  ·have L1:(k:Int)<8:=by omega
   have hrw:=HK.out.row (b:=w.heap.size) (by omega) HRow.out
   have c0:=hrw.cell (i:=k) (by omega)
   have hltr:=hrw.lt
   have hb1:=HBd.out k (by omega)
   have hb2:=HLe.out k (by omega)
   have HCk:=hid (HC.out (w.heap.size+1) (L.take k).sum (L.getD k 0) (by omega) (by omega) wr HV.out)
   have HTk:=hid (HT.out k (by omega))
   have HPk:=hid (HP.out k)
   generalize L.getD k 0=s at *
   generalize hsum:(L.take k).sum=m at *
   clear hrw hsum
   go_wp2_with fail
   refine HCk.out.mono ?_
   rintro e w5 ⟨rfl,hv5,hk5⟩
   have HV5:=hid hv5
   have HK5:=hid (HK.out.t hk5)
   have HO5:=hid (hk5.owns HO.out fun b hb h=>by have:=(HO.out.lt hb).1;have:=HS0.out;omega)
   have HSz:=hid (Nat.le_trans HK.out.size hk5.size)
   clear hv5 hk5 HCk c0 hltr
   go_wp2_with (at_builtin;refine wpList_appN rfl rfl (base:=W0.heap.size) (i:=m) (L:=pfs L k) (c:=1) (v:=.slice Ao k co) rfl rfl HO5.out HSz.out (by rw[HPl.out];omega) ?_;intro v7 w7 HO7 HK7 HV7)
   have HK8:Hid (Keep (· = w.heap.size+1) W0 w7):=hid ((HK5.out.alloc _).trans HK7.out fun i hi hb=>absurd (HO5.out.lt hb).1 (by omega))
   have HV8:Hid (Var w7 (w.heap.size+1) 3 (.int .i64 ((m+s:Nat):Int))):=hid ((HV5.out.keep (((KW.refl w5).alloc _).keep (own:=fun _=>False)) id).keep HK7.out fun h=>by have:=(HO5.out.lt h).1;have:=HS0.out;omega)
   go_roundw
   case rel=>exact⟨k+1,by omega,by go_num,by rw[HPk.out];exact HO7,by rw[HTk.out];exact HV8,HK8⟩
   case measure=>simp[intOf];omega
  ·obtain rfl:k=8:=by omega
   have hrw:=HK.out.row (b:=w.heap.size) (by omega) HRow.out
   have c0:=hrw.cell (i:=8) (by omega)
   have hltr:=hrw.lt
   simp only[HE8.out] at c0
   have hb2:=HLe.out 8 (by omega)
   have hmul:(s8:Int) * (n:Int)=((s8 * n:Nat):Int):=by simp
   have hmle:s8 * n≤1099511627776:=Nat.le_trans (Nat.mul_le_mul hs8 hn) (by decide)
   have HPk:=hid (HP.out 8)
   obtain⟨p,hp⟩:∃ p,p=s8 * n:=⟨_,rfl⟩
   rw[← hp] at hmul hmle
   have HCk:=hid (HC.out (w.heap.size+1) (L.take 8).sum p (by omega) (by omega) wr HV.out)
   obtain⟨m,hm⟩:∃ m,m=(L.take 8).sum:=⟨_,rfl⟩
   rw[← hm] at hb2 HCk HPk HV
   obtain⟨mp,hmp⟩:∃ mp,mp=m+p:=⟨_,rfl⟩
   have HFin:Hid (mp=(L.take 8).sum+s8 * n):=by rw[hmp,hm,hp];exact hid rfl
   rw[← hmp] at HCk
   clear hrw hlt hp hm hmp
   go_wp2_with fail
   refine HCk.out.mono ?_
   rintro e w5 ⟨rfl,hv5,hk5⟩
   have HV5:=hid hv5
   have HK5:=hid (HK.out.t hk5)
   have HO5:=hid (hk5.owns HO.out fun b hb h=>by have:=(HO.out.lt hb).1;have:=HS0.out;omega)
   have HSz:=hid (Nat.le_trans HK.out.size hk5.size)
   clear hv5 hk5 HCk c0 hltr
   have HP9:Hid ((pfs L 9).length=9):=hid (by simp[pfs])
   go_wp2_with (first
    | (at_builtin;refine wpList_appN rfl rfl (base:=W0.heap.size) (i:=m) (L:=pfs L 8) (c:=1) (v:=.slice Ao 8 co) rfl rfl HO5.out HSz.out (by rw[HPl.out];omega) ?_;intro v7 w7 HO7 HK7 HV7;have HK8:Hid (Keep (· = w.heap.size+1) W0 w7):=hid ((HK5.out.alloc _).trans HK7.out fun i hi hb=>absurd (HO5.out.lt hb).1 (by omega));have hv8:Var w7 (w.heap.size+1) 3 (.int .i64 (mp:Int)):=(HV5.out.keep (((KW.refl w5).alloc _).keep (own:=fun _=>False)) id).keep HK7.out (fun h=>absurd (HO5.out.lt h).1 (by have:=HS0.out;omega));have d0:=hv8.cell;have hlt7:=hv8.lt;have HV8:=hid hv8;clear hv8;rw[← HPk.out] at HO7;obtain⟨A7,c7,hv7,_⟩:=HO7.out.row;rw[nvs_len,HP9.out] at hv7;subst hv7;have HSz7:=hid (Nat.le_trans HK8.out.size (Nat.le_refl _)))
    | (at_builtin;refine wpList_appN rfl rfl (base:=W0.heap.size) (i:=mp) (L:=pfs L 9) (c:=1) (v:=.slice A7 9 c7) rfl rfl HO7.out HSz7.out (by rw[HP9.out];omega) ?_;intro v9 w9 HO9 HK9 HV9))
   have HKF:Hid (KW w w9):=hid (HK0.out.kept ((HK8.out.alloc _).trans HK9.out fun i hi hb=>absurd (HO7.out.lt hb).1 (by omega)) fun i hi=>by rw[hi];have:=HS0.out;omega)
   go_ret
   exact⟨v9,rfl,by rw[← HFin.out];exact HO9.out.base (show w.heap.size≤W0.heap.size by have:=HS0.out;omega),HKF.out⟩
theorem plc_len (L:List Nat)(n:Nat):(plc L n).length=10:=by simp[plc,pfs]
theorem need_any (s0 s1 s2 s3 s4 s5 s6 s7 s8 n:Nat)(w:World)(hB:∀ i,i<9→[s0,s1,s2,s3,s4,s5,s6,s7,s8].getD i 0≤1048576)(hn:n≤1048576):
 Calls Tryz.prog 42 #[.agg (ivn [s0,s1,s2,s3,s4,s5,s6,s7,s8]),.int .i64 n] w fun e w'=>e=.returned (.int .i64 ((([s0,s1,s2,s3,s4,s5,s6,s7].sum+s8 * n:Nat)):Int))∧KW w w':=by
 have hk:=(KW.refl w).alloc (.cells (ivn [s0,s1,s2,s3,s4,s5,s6,s7,s8]) 91)
 have HL:=hid (lay_any s0 s1 s2 s3 s4 s5 s6 s7 s8 n (w.alloc (.cells (ivn [s0,s1,s2,s3,s4,s5,s6,s7,s8]) 91)) hB hn)
 have HP:Hid ((plc [s0,s1,s2,s3,s4,s5,s6,s7,s8] n).getD 9 0=[s0,s1,s2,s3,s4,s5,s6,s7].sum+s8 * n):=hid (by
  unfold plc
  rw[List.getD_eq_getElem?_getD,List.getElem?_append_right (by simp[pfs])]
  simp[pfs])
 have HPl:=hid (plc_len [s0,s1,s2,s3,s4,s5,s6,s7,s8] n)
 have hiv:ivn [s0,s1,s2,s3,s4,s5,s6,s7,s8]=#[.int .i64 s0,.int .i64 s1,.int .i64 s2,.int .i64 s3,.int .i64 s4,.int .i64 s5,.int .i64 s6,.int .i64 s7,.int .i64 s8]:=rfl
 have HK:=hid hk
 clear hk
 rw[hiv] at HL HK ⊢
 generalize [s0,s1,s2,s3,s4,s5,s6,s7].sum+s8 * n=r at *
 generalize plc [s0,s1,s2,s3,s4,s5,s6,s7,s8] n=pl at *
 clear hiv hB
 go_enter Tryz.func42,Tryz.ntmps42
 go_wp2_with fail
 refine HL.out.mono ?_
 rintro e w5 ⟨v,rfl,ho,hk5⟩
 have HK5:=hid (HK.out.t hk5)
 obtain⟨A,c,rfl,hc,hA,hr⟩:=ho.row
 have h9:9<pl.length:=by rw[HPl.out];omega
 rw[nvs_len,HPl.out] at hc hA hr ⊢
 obtain⟨b,rfl,_,hb⟩:=hA (by omega)
 obtain⟨b',o',h1,_,h2⟩:=hr (by omega)
 cases h1
 have c9:=h2 9 (by omega)
 have e9:(nvs pl).getD 9 undef=.int .i64 r:=by
  have:=HP.out
  simp[nvs,h9] at this ⊢
  rw[this]
 simp only[e9,Nat.zero_add] at c9
 clear ho hk5 hr h2 e9 hA
 go_wp2_with fail
 go_ret
 exact⟨rfl,HK5.out⟩
def icell (i:Fl.I):List Value:=[.int .i64 i.o.k,.int .i64 i.o.d,.int .i64 i.o.a,.int .i64 i.o.b,.int .u64 i.o.v,.int .i64 i.t]
def icl (c:List Fl.I):List Value:=c.flatMap icell
theorem icl_cons (i:Fl.I)(c:List Fl.I):icl (i::c)=icell i++icl c:=rfl
theorem icl_app (c c':List Fl.I):icl (c++c')=icl c++icl c':=by simp[icl]
theorem icl_len (c:List Fl.I):(icl c).length=c.length * 6:=by
 induction c with
 | nil=>rfl
 | cons i c ih=>rw[icl_cons,List.length_append,ih,List.length_cons];show 6+_=_;omega
def i0:Fl.I:=⟨Fl.o0,0⟩
theorem icl_get (c:List Fl.I)(b r:Nat)(hb:b<c.length)(hr:r<6):(icl c)[b * 6+r]?=(icell (c.getD b i0))[r]?:=by
 induction c generalizing b with
 | nil=>simp at hb
 | cons i c ih=>
   rw[icl_cons]
   cases b with
   | zero=>rw[List.getElem?_append_left (by show 0 * 6+r<6;omega)];simp
   | succ b=>
     rw[List.getElem?_append_right (by show 6≤_;omega),show(b+1) * 6+r - (icell i).length=b * 6+r by show _ - 6=_;omega,ih b (by simpa using hb)]
     rfl
theorem icl_set (c:List Fl.I)(b:Nat)(x:Int)(hb:b<c.length):(icl c).set (b * 6+5) (.int .i64 x)=icl (c.set b ⟨(c.getD b i0).o,x⟩):=by
 induction c generalizing b with
 | nil=>simp at hb
 | cons i c ih=>
   rw[icl_cons]
   cases b with
   | zero=>rfl
   | succ b=>
     rw[List.set_append_right _ _ (by show 6≤_;omega),show(b+1) * 6+5 - (icell i).length=b * 6+5 by show _ - 6=_;omega,ih b (by simpa using hb)]
     rfl
def OwnsI (w:World)(base:Nat)(v:Value)(c:List Fl.I):Prop:=w.ownsRow base 278 6 v c.length (icl c)
theorem OwnsI.lt {w:World}{base:Nat}{v:Value}{c:List Fl.I}(h:OwnsI w base v c){b:Nat}(hb:v.ownBlock=some b):base≤b∧b<w.heap.size:=World.ownsRow.lt h b hb
theorem OwnsI.keep {own:Nat→Prop}{w w':World}{base:Nat}{v:Value}{c:List Fl.I}(h:OwnsI w base v c)(hk:Keep own w w')(hn:∀ b,v.ownBlock=some b→¬ own b):OwnsI w' base v c:=by
 rcases h with⟨h1,h2|⟨g,cap,cur,rfl,hb,hg,r⟩⟩
 ·exact⟨h1,.inl h2⟩
 ·exact⟨h1,.inr ⟨g,cap,cur,rfl,hb,(hk.block g (Array.getElem?_eq_some_iff.1 hg).1 (hn g rfl)).trans hg,r⟩⟩
theorem OwnsI.kw {w w':World}{base:Nat}{v:Value}{c:List Fl.I}(h:OwnsI w base v c)(hk:KW w w'):OwnsI w' base v c:=h.keep (hk.keep (own:=fun _=>False)) fun _ _=>id
theorem OwnsI.base {w:World}{base base':Nat}{v:Value}{c:List Fl.I}(h:OwnsI w base v c)(hb:base'≤base):OwnsI w base' v c:=
 ⟨h.1,h.2.imp id fun⟨g,cap,cur,hv,hg,r⟩=>⟨g,cap,cur,hv,Nat.le_trans hb hg,r⟩⟩
theorem OwnsI.nil (w:World)(base:Nat):OwnsI w base (.slice none 0 0) []:=World.ownsRow_nil _ _ _ _
theorem OwnsI.row {w:World}{base:Nat}{v:Value}{c:List Fl.I}(h:OwnsI w base v c):∃ A k,v=.slice A c.length k∧c.length≤k∧(0<c.length→∃ b,A=some ⟨b,0,none⟩∧base≤b∧b<w.heap.size∧(∀ o,w.frozen? ⟨b,o,none⟩=false)∧∀ i r,i<c.length→r<6→w.cell? ⟨b,i * 6+r,none⟩=(icell (c.getD i i0))[r]?):=by
 have hx:=h
 rcases h.2 with⟨rfl,h0⟩|⟨b,cap,cur,rfl,hb,hg,hc,hm,hs,ht⟩
 ·exact⟨none,0,by rw[h0],by omega,fun h=>absurd h (by omega)⟩
 ·have hlt:b<w.heap.size:=(Array.getElem?_eq_some_iff.1 hg).1
  refine⟨_,cap,rfl,hc,fun _=>⟨b,rfl,hb,hlt,fun o=>by unfold World.frozen?;rw[hg];rfl,fun i r hi hr=>?_⟩⟩
  rw[← icl_get c i r hi hr,← ht,List.getElem?_take,if_pos (by omega),Array.getElem?_toList]
  unfold World.cell?
  rw[hg]
  rfl
theorem OwnsI.setT {w:World}{base b n k:Nat}{c:List Fl.I}(h:OwnsI w base (.slice (some ⟨b,0,none⟩) n k) c){i:Nat}(hi:i<c.length)(x:Int):
 OwnsI (w.setCell ⟨b,i * 6+5,none⟩ (.int .i64 x)) base (.slice (some ⟨b,0,none⟩) n k) (c.set i ⟨(c.getD i i0).o,x⟩):=by
 have hx:=h
 unfold OwnsI at hx ⊢
 rcases hx.2 with⟨h0,_⟩|⟨g,cap,cur,hv,hb,hg,hc,hm,hs,ht⟩
 ·cases h0
 ·simp only[Value.slice.injEq,Option.some.injEq,Addr.mk.injEq] at hv
  obtain⟨⟨rfl,_⟩,rfl,rfl⟩:=hv
  rw[List.length_set]
  refine⟨by rw[icl_len,List.length_set],.inr ⟨b,k,cur.setIfInBounds (i * 6+5) (.int .i64 x),rfl,hb,heap_setCell_same w b _ cur _ _ hg,hc,hm,by simpa using hs,?_⟩⟩
  rw[Array.toList_setIfInBounds,List.take_set]
  refine(congrArg (fun L=>List.set L (i * 6+5) (Value.int .i64 x)) ht).trans ?_
  exact icl_set c i x hi
theorem sliceIns:SliceOfS Tryz.prog 261 278 (.agg #[.int .i64 0,.int .i64 0,.int .i64 0,.int .i64 0,.int .u64 0,.int .i64 0]) 6 48:=⟨Tryz.underlying261,by kernel_rfl,rfl,by omega⟩
section
variable {ops : Array Oper} {Q : Exit → Act → World → Prop}
theorem wpList_appI {rest:List Oper}{o:Oper}{a:Act}(hgd:o.guard=none){s x:Operand}(ho:o.op=.call { callee:=.builtin .append,args:=#[s,x],argTypes:=#[261,261] }){W:World}{base c:Nat}{i:Fl.I}{v:Value}{L:List Fl.I}
 (hs:a.eval s=v) (hx:a.eval x=.slice (some ⟨W.heap.size,0,none⟩) 1 c) (hown:OwnsI W base v L) (hb:base≤W.heap.size) (hl:L.length≤1099511627776)
 (h:∀ v' w',Hid (OwnsI w' base v' (L++[i]))→Hid (Keep (fun i=>v.ownBlock=some i) (W.alloc (.cells #[.int .i64 i.o.k,.int .i64 i.o.d,.int .i64 i.o.a,.int .i64 i.o.b,.int .u64 i.o.v,.int .i64 i.t] 278)) w')→Hid (v'.ownBlock=v.ownBlock∨∃ j,v'.ownBlock=some j∧W.heap.size≤j)→wpList Tryz.prog ops Q rest (a.put o.dst v') w'):
 wpList Tryz.prog ops Q (o::rest) a (W.alloc (.cells #[.int .i64 i.o.k,.int .i64 i.o.d,.int .i64 i.o.a,.int .i64 i.o.b,.int .u64 i.o.v,.int .i64 i.t] 278)):=by
 have hO:=hown.kw ((KW.refl W).alloc (.cells #[.int .i64 i.o.k,.int .i64 i.o.d,.int .i64 i.o.a,.int .i64 i.o.b,.int .u64 i.o.v,.int .i64 i.t] 278))
 refine wpList_appA hgd sliceIns ho (W:=W.alloc (.cells #[.int .i64 i.o.k,.int .i64 i.o.d,.int .i64 i.o.a,.int .i64 i.o.b,.int .u64 i.o.v,.int .i64 i.t] 278)) (base:=base) (k:=1) (n:=L.length) (v:=v) (u:=.slice (some ⟨W.heap.size,0,none⟩) 1 c) (xs:=icl L) (ys:=icell i) hs hx
  (Holds.new (w:=W) (t:=278) (k:=1) (size:=6) (c:=c) (ys:=icell i) rfl (by simp[icell,Value.oneCell'])) hO (by simp;omega) (by omega) (by omega) fun v5 w5 hown5 hkeep5 hv5=>h v5 w5 ?_ (hid hkeep5) ?_
 ·unfold OwnsI
  rw[List.length_append,icl_app]
  exact hid hown5
 ·rcases hv5 with h5|h5
  ·exact .inl h5
  ·exact .inr ⟨_,h5,by simp⟩
end
def CodeM (w:World)(A:Option Addr)(l:List Fl.I):Prop:=
 0<l.length→∃ b,A=some ⟨b,0,none⟩∧b<w.heap.size∧∀ i r,i<l.length→r<6→w.cell? ⟨b,i * 6+r,none⟩=(icell (l.getD i i0))[r]?
theorem CodeM.keep {own:Nat→Prop}{w w':World}{A:Option Addr}{l:List Fl.I}(h:CodeM w A l)(hk:Keep own w w')(hn:0<l.length→∀ b,A=some ⟨b,0,none⟩→¬ own b):CodeM w' A l:=by
 intro h0
 obtain⟨b,hA,hb,hc⟩:=h h0
 exact⟨b,hA,Nat.lt_of_lt_of_le hb hk.size,fun i r hi hr=>(hk.cell hb (hn h0 b hA)).trans (hc i r hi hr)⟩
theorem CodeM.kw {w w':World}{A:Option Addr}{l:List Fl.I}(h:CodeM w A l)(hk:KW w w'):CodeM w' A l:=h.keep (hk.keep (own:=fun _=>False)) fun _ _ _=>id
theorem CodeM.at_ {w:World}{A:Option Addr}{l:List Fl.I}(h:CodeM w A l){k:Nat}(hk:k<l.length):∃ b,A=some ⟨b,0,none⟩∧b<w.heap.size∧w.cell? ⟨b,k * 6,none⟩=some (.int .i64 (l.getD k i0).o.k)∧w.cell? ⟨b,k * 6+1,none⟩=some (.int .i64 (l.getD k i0).o.d) ∧
 w.cell? ⟨b,k * 6+2,none⟩=some (.int .i64 (l.getD k i0).o.a)∧w.cell? ⟨b,k * 6+3,none⟩=some (.int .i64 (l.getD k i0).o.b)∧w.cell? ⟨b,k * 6+4,none⟩=some (.int .u64 (l.getD k i0).o.v)∧w.cell? ⟨b,k * 6+5,none⟩=some (.int .i64 (l.getD k i0).t):=by
 obtain⟨b,hA,hb,hc⟩:=h (by omega)
 exact⟨b,hA,hb,hc k 0 hk (by omega),hc k 1 hk (by omega),hc k 2 hk (by omega),hc k 3 hk (by omega),hc k 4 hk (by omega),hc k 5 hk (by omega)⟩
theorem OwnsI.code {w:World}{base n k:Nat}{A:Option Addr}{c:List Fl.I}(h:OwnsI w base (.slice A n k) c):CodeM w A c:=by
 intro h0
 obtain⟨A',k',hv,_,hx⟩:=h.row
 cases hv
 obtain⟨b,hA,_,hb,_,hc⟩:=hx h0
 exact⟨b,hA,hb,hc⟩
end Go.Proofs.YtphppbonljdibaaGreat
namespace Go.Proofs.YtphppbonljdibaaGreat
namespace Fl
def app (k a b v:Int):Int:=
 if k=1 then IntKind.u64.wrap (a+b) else if k=2 then IntKind.u64.wrap (a - b) else if k=3 then IntKind.u64.wrap (a * b) else if k=4 then IntKind.u64.wrap (-a) else if k=5 then v else if k=6 then a else 0
def pda (k _a b:Int):Int:=if k=1∨k=2∨k=6 then 1 else if k=3 then b else if k=4 then 18446744073709551615 else 0
def pdb (k a _b:Int):Int:=if k=1 then 1 else if k=2 then 18446744073709551615 else if k=3 then a else 0
def rg (R:List Int)(k:Int):Int:=R.getD k.toNat 0
def st1 (R:List Int)(o:O):List Int:=R.set o.d.toNat (app o.k (rg R o.a) (rg R o.b) o.v)
def sts (R:List Int)(u:List O):List Int:=u.foldl st1 R
theorem sts_cons (R:List Int)(o:O)(u:List O):sts R (o::u)=sts (st1 R o) u:=rfl
theorem st1_len (R:List Int)(o:O):(st1 R o).length=R.length:=by simp[st1]
theorem sts_len (R:List Int)(u:List O):(sts R u).length=R.length:=by
 induction u generalizing R with
 | nil=>rfl
 | cons o u ih=>rw[sts_cons,ih,st1_len]
def tps (R:List Int):List O→List Int
 | []=>[]
 | o::u=>rg R o.d::tps (st1 R o) u
theorem tps_len (R:List Int)(u:List O):(tps R u).length=u.length:=by
 induction u generalizing R with
 | nil=>rfl
 | cons o u ih=>simp[tps,ih]
def bk1 (s:List Int×List Int)(o:O)(t:Int):List Int×List Int:=
 let g:=rg s.2 o.d
 let adj:=s.2.set o.d.toNat 0
 let R:=s.1.set o.d.toNat t
 let adj:=adj.set o.a.toNat (IntKind.u64.wrap (rg adj o.a+IntKind.u64.wrap (pda o.k (rg R o.a) (rg R o.b) * g)))
 let adj:=adj.set o.b.toNat (IntKind.u64.wrap (rg adj o.b+IntKind.u64.wrap (pdb o.k (rg R o.a) (rg R o.b) * g)))
 (R,adj)
def bks (T:List Int):List Int×List Int→List O→List Int×List Int
 | s,[]=>s
 | s,o::r=>bks T (bk1 s o (T.getD r.length 0)) r
end Fl
end Go.Proofs.YtphppbonljdibaaGreat
namespace Go.Proofs.YtphppbonljdibaaGreat
namespace Fl
def un1 (o:O)(stk:List (Int×List O)):List (Int×List O):=
 if o.k=7 then (o.v,[])::stk
 else if o.k=0 then (match stk with
  | t::p::r=>(p.1,p.2++(List.replicate t.1.toNat t.2).flatten)::r
  | _=>stk)
 else (match stk with
  | t::r=>(t.1,t.2++[o])::r
  | []=>[])
def un:List O→List (Int×List O)→List (Int×List O)
 | [],stk=>stk
 | o::l,stk=>un l (un1 o stk)
def unr (l:List O):List O:=match un l [(0,[])] with|t::_=>t.2 | []=>[]
theorem Nst.un {l u:List O}{d:Nat}(h:Nst l u d):∀ (r:List O) (t:Int×List O) (stk:List (Int×List O)),Fl.un (l++r) (t::stk)=Fl.un r ((t.1,t.2++u)::stk):=by
 induction h with
 | nil=>intro r t stk;simp
 | @op o l u d h0 h1 r ih=>
   intro r' t stk
   show Fl.un (l++r') (un1 o (t::stk))=_
   have:un1 o (t::stk)=(t.1,t.2++[o])::stk:=by
    unfold un1
    rw[if_neg (by omega),if_neg (by omega)]
   rw[this,ih]
   simp
 | @rep o e body l ub u d d' ho he hb r ihb ihr=>
   intro r' t stk
   rw[show o::(body++e::l)++r'=o::(body++(e::(l++r'))) by simp]
   show Fl.un (body++(e::(l++r'))) (un1 o (t::stk))=_
   have h1:un1 o (t::stk)=(o.v,[])::t::stk:=by
    unfold un1
    rw[if_pos ho]
   rw[h1,ihb]
   show Fl.un (l++r') (un1 e ((o.v,[]++ub)::t::stk))=_
   have h2:un1 e ((o.v,[]++ub)::t::stk)=(t.1,t.2++(List.replicate o.v.toNat ub).flatten)::stk:=by
    unfold un1
    rw[if_neg (by omega),if_pos he]
    rfl
   rw[h2,ihr]
   simp
theorem Nst.unr {l u:List O}{d:Nat}(h:Nst l u d):Fl.unr l=u:=by
 have h1:=h.un [] (0,[]) []
 rw[List.append_nil] at h1
 unfold Fl.unr
 rw[h1]
 simp[Fl.un]
end Fl
end Go.Proofs.YtphppbonljdibaaGreat
namespace Go.Proofs.YtphppbonljdibaaGreat
open Go.ChangeShapes Go.WideShapes Go.ChangeAt Go.RowKit
theorem Gd.wk {p:Pg}(h:Gd p):Fl.wk p.l 0 []=some []:=by
 have h3:=h.2.2.2
 unfold szErr at h3
 by_cases hw:Fl.wk p.l 0 []=some []
 ·exact hw
 ·rw[if_neg hw] at h3
  cases h3
theorem Gd.meas {p:Pg}(h:Gd p):∃ sz,Fl.meas p.l=some (sz,wct p.l):=by
 have h3:=h.2.2.2
 unfold szErr at h3
 rw[if_pos h.wk] at h3
 cases hm:Fl.meas p.l with
 | none=>rw[hm] at h3;cases h3
 | some x=>
   obtain⟨sz,n⟩:=x
   exact⟨sz,by rw[wct_of hm]⟩
theorem Gd.deep {p:Pg}(h:Gd p):Fl.dps p.l 0 [] 0≤8:=by
 have h2:=h.2.2.1
 unfold dErr at h2
 by_cases hd:8<Fl.dps p.l 0 [] 0
 ·rw[if_pos ⟨h.wk,hd⟩] at h2
  cases h2
 ·omega
theorem Gd.small {p:Pg}(h:Gd p):p.l.length≤4096:=by
 have h0:=h.1
 unfold fErr at h0
 by_cases hl:4096<p.l.length
 ·rw[decide_eq_true hl] at h0
  cases h0
 ·omega
theorem Gd.regs {p:Pg}(h:Gd p)(o:Fl.O)(ho:o∈p.l)(h1:1≤o.k)(h6:o.k≤6):(0≤o.d∧o.d<p.n)∧(0≤o.a∧o.a<p.n)∧(0≤o.b∧o.b<p.n):=by
 have h0:=h.1
 have hr:=h.2.1
 unfold fErr at h0
 unfold rErr at hr
 have hw:p.l.any wrongO=false:=by
  cases hx:p.l.any wrongO
  ·rfl
  ·rw[hx,Bool.or_true,Bool.or_true] at h0
   cases h0
 have hof:p.l.any (offO p.n)=false:=by
  cases hx:p.l.any (offO p.n)
  ·rfl
  ·rw[hx,Bool.or_true,Bool.or_true] at hr
   cases hr
 have hn1:¬ p.n<1:=fun hx=>by
  rw[decide_eq_true hx] at hr
  cases hr
 have w1:=List.any_eq_false.1 hw o ho
 have w2:=List.any_eq_false.1 hof o ho
 unfold wrongO Oc.right Oc.rg at w1
 unfold offO rl07 at w2
 have aD:Oc.aD o.k=true:=decide_eq_true ⟨h1,h6⟩
 rw[aD] at w1 w2
 simp only[if_true,Bool.not_eq_true',Bool.not_eq_false,Bool.and_eq_true,decide_eq_true_eq] at w1
 simp only[if_true,List.any_append,List.any_cons,List.any_nil,Bool.or_false,Bool.not_eq_true,Bool.or_eq_false_iff,decide_eq_false_iff_not] at w2
 obtain⟨⟨⟨⟨_,q1⟩,q2⟩,q3⟩,_⟩:=w1
 obtain⟨⟨v2,v3⟩,v1⟩:=w2
 refine⟨by omega,?_,?_⟩
 ·by_cases hA:Oc.aA o.k=true
  ·rw[if_pos hA] at q2 v2
   simp only[decide_eq_true_eq] at q2
   simp only[List.any_cons,List.any_nil,Bool.or_false,decide_eq_false_iff_not] at v2
   omega
  ·rw[if_neg hA] at q2
   simp only[decide_eq_true_eq] at q2
   omega
 ·by_cases hB:Oc.aB o.k=true
  ·rw[if_pos hB] at q3 v3
   simp only[decide_eq_true_eq] at q3
   simp only[List.any_cons,List.any_nil,Bool.or_false,decide_eq_false_iff_not] at v3
   omega
  ·rw[if_neg hB] at q3
   simp only[decide_eq_true_eq] at q3
   omega
structure GoodC (p:Pg)(c:List Fl.I):Prop where
 cd:∃ d,Fl.Cd 0 c (Fl.unr p.l) d∧d≤8
 len:(Fl.unr p.l).length=wct p.l
 regs:∀ o∈Fl.unr p.l,(1≤o.k∧o.k≤6)∧(0≤o.d∧o.d<p.n)∧(0≤o.a∧o.a<p.n)∧(0≤o.b∧o.b<p.n)
 small:c.length≤4096
 vs:∀ i∈c,0≤i.o.v∧i.o.v<18446744073709551616
theorem CR_mem {Pr:Fl.O→Prop}{L:List Fl.O}(hL:∀ o∈L,Pr o){sz:List Nat}{mt:List Int}{i n:Nat}{opn:List Nat}{out fin:List Fl.I}(h:Fl.CR L sz mt i opn out fin n):(∀ x∈out,Pr x.o)→∀ x∈fin,Pr x.o:=by
 induction h with
 | halt out=>exact id
 | @op i n o opn out fin h h0 h1 r ih=>
   intro ho
   refine ih fun x hx=>?_
   rcases List.mem_append.1 hx with hx|hx
   ·exact ho x hx
   ·rw[List.mem_singleton.1 hx]
    exact hL o (List.mem_of_getElem? h)
 | @skip i j n o opn out fin h hk hz hm hj hl r ih=>exact ih
 | @rep i n o opn out fin h hk hz r ih=>
   intro ho
   refine ih fun x hx=>?_
   rcases List.mem_append.1 hx with hx|hx
   ·exact ho x hx
   ·rw[List.mem_singleton.1 hx]
    exact hL o (List.mem_of_getElem? h)
 | @end_ i b n o j opn out fin h hk hb r ih=>
   intro ho
   refine ih fun x hx=>?_
   rcases List.mem_append.1 hx with hx|hx
   ·rcases List.mem_or_eq_of_mem_set hx with hx|rfl
    ·exact ho x hx
    ·exact ho j (List.mem_of_getElem? hb)
   ·rw[List.mem_singleton.1 hx]
    exact hL o (List.mem_of_getElem? h)
theorem CR_len {L:List Fl.O}{sz:List Nat}{mt:List Int}{i n:Nat}{opn:List Nat}{out fin:List Fl.I}(h:Fl.CR L sz mt i opn out fin n):i≤L.length∧fin.length≤out.length+(L.length - i):=by
 induction h with
 | halt out=>simp
 | @op i n o opn out fin h h0 h1 r ih=>have:=(List.getElem?_eq_some_iff.1 h).1;simp at ih;omega
 | @skip i j n o opn out fin h hk hz hm hj hl r ih=>have:=(List.getElem?_eq_some_iff.1 h).1;omega
 | @rep i n o opn out fin h hk hz r ih=>have:=(List.getElem?_eq_some_iff.1 h).1;simp at ih;omega
 | @end_ i b n o j opn out fin h hk hb r ih=>have:=(List.getElem?_eq_some_iff.1 h).1;simp at ih;omega
theorem Gd.code {p:Pg}(h:Gd p)(hvs:∀ o,o∈p.l→0≤o.v∧o.v<18446744073709551616):∃ (sz:List Nat) (c:List Fl.I) (k:Nat),Fl.meas p.l=some (sz,wct p.l)∧sz.length=p.l.length∧(Fl.mts p.l 0 [] (Fl.mt0 p.l)).length=p.l.length∧GoodC p c∧Fl.CR p.l sz (Fl.mts p.l 0 [] (Fl.mt0 p.l)) 0 [] [] c k:=by
 obtain⟨sz,hm⟩:=h.meas
 obtain⟨u,c,d,k,hn,hu,_,hd,hs,hml,_,⟨d',hc,hd'⟩,hr⟩:=Fl.code_of h.wk hm h.deep
 have hur:=hn.unr
 subst hur
 refine⟨sz,c,k,hm,hs,hml,⟨⟨d',hc,hd'⟩,hu,fun o ho=>?_,?_,CR_mem (Pr:=fun o=>0≤o.v∧o.v<18446744073709551616) hvs hr fun x hx=>absurd hx (by simp)⟩,hr⟩
 ·obtain⟨h1,h2,h3⟩:=hn.mem o ho
  exact⟨⟨h2,h3⟩,h.regs o h1 h2 h3⟩
 ·have h1:=(CR_len hr).2
  have h2:=h.small
  simp at h1
  omega
end Go.Proofs.YtphppbonljdibaaGreat
