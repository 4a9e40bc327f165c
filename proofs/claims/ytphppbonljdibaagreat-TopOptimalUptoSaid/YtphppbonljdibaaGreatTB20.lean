import Derived.Test.YtphppbonljdibaaGreatTB15
import Derived.Test.YtphppbonljdibaaGreatTB19
import Derived.Test.YtphppbonljdibaaGreatTB08
import Derived.Deep.Cut
set_option maxRecDepth 100000
set_option maxHeartbeats 4000000
set_option linter.unusedVariables false
set_option linter.unusedSimpArgs false
namespace Go.Proofs.YtphppbonljdibaaGreat
open Go.ChangeShapes Go.WideShapes Go.ChangeAt Go.RowKit
theorem drestore_any (bd bp cp ba bw L given bs f n x k at_:Nat)(ps Wd tags:List Int)(w:World)(hD:DrP w bd bp cp ba ps)(h15:w.cell? ⟨bd,15,none⟩=some (.pointer (some ⟨bs,0,none⟩)))(hA:ArM w ba bw L Wd given)(hS:SlM w bs f n x ba)(hB:SlB f n x given)(hT:TagsB Wd f n x tags)(hk:k<n)(hfull:0≤tags.getD k 0)
 (hp:1<ps.length) (hps:ps.length≤100) (h0:ps.getD 1 0=at_) (hfit:at_+x≤given) (hne:bd≠bw∧bp≠bw):
 Calls Tryz.prog 155 #[.pointer (some ⟨bd,0,none⟩),.int .i64 k] w fun e w'=>e=.returned (.tuple #[])∧ArM w' ba bw L (putL Wd at_ (getL Wd (f+k * (x+1)+1) x)) given∧Keep (· = bw) w w':=by
 have hgl:(getL Wd (f+k * (x+1)+1) x).length=x:=getL_len (by rw[hA.len];have:=hA.gl;have:=hB.at_ hk;omega)
 have HR:=hid (slrestore_any bs f n x ba bw L given k Wd tags w hS hA hB hT hk hfull)
 have HPt:=hid (fun W (hW:KW w W) v (hv:HU W v (getL Wd (f+k * (x+1)+1) x))=>dput_any bd bp cp ba bw L given 1 at_ ps Wd _ v W (hD.kw hW) (hA.kw hW) hp hps h0 (by rw[hgl];exact hfit) hv hne)
 generalize getL Wd (f+k * (x+1)+1) x=xs at *
 clear hD hA hS hB hT h0
 go_enter Tryz.func155,Tryz.ntmps155
 go_wp2_with fail
 refine HR.out.mono ?_
 rintro e w1 ⟨v,rfl,ho,hk1⟩
 obtain⟨Av,cv,rfl,_⟩:=ho.row
 have HK1:=hid hk1
 have HV:=hid ho.hu
 rw[u64s_len,hgl] at HV ⊢
 clear ho hk1 HR
 go_wp2_with fail
 refine(HPt.out w1 HK1.out _ HV.out).mono ?_
 rintro e w2 ⟨rfl,ha2,hk2⟩
 have HA2:=hid ha2
 have HK2:Hid (Keep (· = bw) w w2):=hid (HK1.out.kt hk2)
 clear ha2 hk2
 go_wp2_with fail
 refine bodyPost_end (results_none rfl _ _ _) rfl ?_
 exact⟨rfl,HA2.out,HK2.out⟩
theorem dfree_any (bd ba bw bm L given bs f n x k:Nat)(slot now most bud:Int)(Wd tags:List Int)(w:World)(h15:w.cell? ⟨bd,15,none⟩=some (.pointer (some ⟨bs,0,none⟩)))(h16:w.cell? ⟨bd,16,none⟩=some (.pointer (some ⟨bm,0,none⟩)))(h2:w.cell? ⟨bd,2,none⟩=some (.int .i64 slot))(hA:ArM w ba bw L Wd given)(hS:SlM w bs f n x ba)(hB:SlB f n x given)(hT:TagsB Wd f n x tags)(hM:MetM w bm now most bud)(hk:k<n)(hfull:0≤tags.getD k 0)(hsl:0≤slot∧slot≤now)(hnow:now≤1073741824)
 (hne:bd≠bw∧bm≠bw∧bs≠bw∧bd≠bm∧ba≠bm):
 Calls Tryz.prog 156 #[.pointer (some ⟨bd,0,none⟩),.int .i64 k] w fun e w'=>e=.returned (.tuple #[])∧ArM w' ba bw L (putL Wd (f+k * (x+1)) (List.replicate (x+1) 0)) given∧MetM w' bm (now - slot) (max most (now - slot)) bud∧Keep (fun b=>b=bw∨b=bm) w w':=by
 have HF:=hid (slfree_any bs f n x ba bw L given k Wd tags w hS hA hB hT hk hfull hne.2.2.1)
 have HDr:=hid (fun W (hW:Keep (· = bw) w W)=>drop_any bm now most bud slot W (hM.keep hW hne.2.1) ⟨by omega,hnow⟩ hsl)
 have HCs:=hid (fun W (hW:Keep (· = bw) w W)=>And.intro (hW.cs hne.1 h16) (hW.cs hne.1 h2))
 have HNe:=hid hne
 clear hA hS hB hT hM h16 h2 hne
 go_enter Tryz.func156,Tryz.ntmps156
 go_wp2_with fail
 refine HF.out.mono ?_
 rintro e w1 ⟨rfl,ha1,hk1⟩
 have HA1:=hid ha1
 have HK1:=hid hk1
 clear ha1 hk1 HF
 go_wp2_with fail
 have hXS:=HCs.out w1.drew HK1.out.drew
 refine wpX_region (S:=fun W=>W.cell? ⟨bd,16,none⟩=some (.pointer (some ⟨bm,0,none⟩))∧W.cell? ⟨bd,2,none⟩=some (.int .i64 slot)) (L:=99) (by kernel_rfl) ?_
 refine tk 0 ?_ (fun _ _=>?_) hXS ?_;rotate_left;· go_simp;try rfl
 simp only[lsz,lss]
 refine tk 1 ?_ (fun _ _=>?_) hXS ?_;rotate_left;· go_simp;try rfl
 simp only[lsz,lss]
 refine tk 2 ?_ (fun _ _=>?_) hXS ?_;rotate_left;· go_simp;try rfl
 simp only[lsz,lss]
 refine tk 3 ?_ (fun _ _=>?_) hXS ?_;rotate_left;· go_simp;try rfl
 simp only[lsz,lss]
 refine tk 4 ?_ (fun _ _=>?_) hXS ?_;rotate_left;· go_simp;try rfl
 simp only[lsz,lss]
 refine tk 5 ?_ (fun _ _=>?_) hXS ?_;rotate_left;· go_simp;try rfl
 simp only[lsz,lss]
 refine tk 6 ?_ (fun _ _=>?_) hXS ?_;rotate_left;· go_simp;try rfl
 simp only[lsz,lss]
 refine tk 7 ?_ (fun _ _=>?_) hXS ?_;rotate_left;· go_simp;try rfl
 simp only[lsz,lss]
 refine tk 8 ?_ (fun _ _=>?_) hXS ?_;rotate_left;· go_simp;try rfl
 simp only[lsz,lss]
 refine wpX_hard (k:=9) (by kernel_rfl) rfl (fun K hK=>?_)
 go_simp
 refine(HDr.out _ HK1.out.drew).mono ?_
 rintro e w2 ⟨rfl,hm2,hk2'⟩
 have hk2:Keep (· = bm) w1 w2:=(KW.refl w1).drew.kt hk2'
 have HM2:=hid hm2
 have HA2:=hid (HA1.out.keep hk2 HNe.out.2.2.2.2 (Ne.symm HNe.out.2.1))
 have HK2:Hid (Keep (fun b=>b=bw∨b=bm) w w2):=hid ((HK1.out.mono fun i _ h=>.inl h).t (hk2.mono fun i _ h=>.inr h))
 obtain⟨q1,q2⟩:=HCs.out w1 HK1.out
 have hXS:=And.intro (hk2.cs HNe.out.2.2.2.1 q1) (hk2.cs HNe.out.2.2.2.1 q2)
 refine hK _ _ (fun _=>hXS) ?_
 clear hK K hm2 hk2 hk2' q1 q2
 try simp only[lsz,lss]
 refine wpX_done (by kernel_rfl) ?_
 clear hXS
 go_wp2_with fail
 refine bodyPost_end (results_none rfl _ _ _) rfl ?_
 exact⟨rfl,HA2.out,HM2.out,HK2.out⟩
theorem dstore_any (bd bp cp ba bw bm L given bs f n x k at_ pl:Nat)(slot now most bud:Int)(ps Wd tags:List Int)(w:World)(hD:DrP w bd bp cp ba ps)(h15:w.cell? ⟨bd,15,none⟩=some (.pointer (some ⟨bs,0,none⟩)))(h16:w.cell? ⟨bd,16,none⟩=some (.pointer (some ⟨bm,0,none⟩)))(h2:w.cell? ⟨bd,2,none⟩=some (.int .i64 slot))(h18:w.cell? ⟨bd,18,none⟩=some (.int .i64 pl))
 (hA:ArM w ba bw L Wd given) (hS:SlM w bs f n x ba) (hB:SlB f n x given) (hT:TagsB Wd f n x tags) (hM:MetM w bm now most bud) (hk:k<n) (hfree:tags.getD k 0 = -1) (hpl:pl<65536) (hsl:0≤slot∧slot≤bud - now) (hnow:0≤now∧now≤bud) (hbud:bud≤1073741824)
 (hp:2<ps.length) (hps:ps.length≤100) (h0:ps.getD 1 0=at_) (h1:ps.getD 2 0=at_+x) (hfit:at_+x≤given)
 (hne:bd≠bw∧bm≠bw∧bs≠bw∧bd≠bm∧ba≠bm∧bp≠bm∧bs≠bm):
 Calls Tryz.prog 154 #[.pointer (some ⟨bd,0,none⟩),.int .i64 k] w fun e w'=>e=.returned (.tuple #[])∧ArM w' ba bw L (putL Wd (f+k * (x+1)) (((pl+1:Nat):Int)::getL Wd at_ x)) given∧MetM w' bm (now+slot) (max most (now+slot)) bud∧Keep (fun b=>b=bw∨b=bm) w w':=by
 have hgl:(getL Wd at_ x).length=x:=getL_len (by rw[hA.len];have:=hA.gl;omega)
 have HH:=hid (fun W (hW:KW w W)=>hold_any bm now most bud slot W (hM.kw hW) hnow hbud hsl)
 have HG:=hid (fun W (hW:Keep (· = bm) w W)=>dget_any bd bp cp ba bw L given 1 at_ x ps Wd W (hD.keep hW hne.2.2.2.1 hne.2.2.2.2.2.1) (hA.keep hW hne.2.2.2.2.1 (Ne.symm hne.2.1)) (by omega) hps h0 h1 hfit)
 have HSt:=hid (fun W (hW:Keep (· = bm) w W) v (hv:HU W v (getL Wd at_ x))=>slstore_any bs f n x ba bw L given k pl Wd _ tags v W (hS.keep hW hne.2.2.2.2.2.2) (hA.keep hW hne.2.2.2.2.1 (Ne.symm hne.2.1)) hB hT hk hgl hpl hfree hv hne.2.2.1)
 have HC1:=hid (fun W (hW:KW w W)=>And.intro (show W.cell? ⟨bd,16,none⟩=_ from(hW.keep (own:=fun _=>False)).cs id h16) (show W.cell? ⟨bd,2,none⟩=_ from(hW.keep (own:=fun _=>False)).cs id h2))
 have HC2:=hid (fun W (hW:Keep (fun b=>b=bw∨b=bm) w W)=>And.intro (hW.cs (fun h=>h.elim hne.1 hne.2.2.2.1) h15) (hW.cs (fun h=>h.elim hne.1 hne.2.2.2.1) h18))
 have HC3:=hid (fun W (hW:Keep (· = bm) w W)=>And.intro (hW.cs hne.2.2.2.1 h16) (hW.cs hne.2.2.2.1 h2))
 have HNe:=hid hne
 generalize getL Wd at_ x=xs at *
 clear hD hA hS hB hT hM h15 h16 h2 h18 h0 h1 hne
 go_enter Tryz.func154,Tryz.ntmps154
 go_wp2_with fail
 have hXS:=HC1.out w.drew (KW.refl w).drew
 refine wpX_region (S:=fun W=>W.cell? ⟨bd,16,none⟩=some (.pointer (some ⟨bm,0,none⟩))∧W.cell? ⟨bd,2,none⟩=some (.int .i64 slot)) (L:=99) (by kernel_rfl) ?_
 refine tk 0 ?_ (fun _ _=>?_) hXS ?_;rotate_left;· go_simp;try rfl
 simp only[lsz,lss]
 refine tk 1 ?_ (fun _ _=>?_) hXS ?_;rotate_left;· go_simp;try rfl
 simp only[lsz,lss]
 refine tk 2 ?_ (fun _ _=>?_) hXS ?_;rotate_left;· go_simp;try rfl
 simp only[lsz,lss]
 refine tk 3 ?_ (fun _ _=>?_) hXS ?_;rotate_left;· go_simp;try rfl
 simp only[lsz,lss]
 refine tk 4 ?_ (fun _ _=>?_) hXS ?_;rotate_left;· go_simp;try rfl
 simp only[lsz,lss]
 refine tk 5 ?_ (fun _ _=>?_) hXS ?_;rotate_left;· go_simp;try rfl
 simp only[lsz,lss]
 refine tk 6 ?_ (fun _ _=>?_) hXS ?_;rotate_left;· go_simp;try rfl
 simp only[lsz,lss]
 refine tk 7 ?_ (fun _ _=>?_) hXS ?_;rotate_left;· go_simp;try rfl
 simp only[lsz,lss]
 refine tk 8 ?_ (fun _ _=>?_) hXS ?_;rotate_left;· go_simp;try rfl
 simp only[lsz,lss]
 refine wpX_hard (k:=9) (by kernel_rfl) rfl (fun K hK=>?_)
 go_simp
 refine(HH.out _ (KW.refl w).drew).mono ?_
 rintro e w1 ⟨rfl,hm1,hk1'⟩
 have hk1:Keep (· = bm) w w1:=(KW.refl w).drew.kt hk1'
 have HM1:=hid hm1
 have HK1:=hid hk1
 have hXS:=HC3.out w1 hk1
 refine hK _ _ (fun _=>hXS) ?_
 clear hK K hm1 hk1 hk1'
 try simp only[lsz,lss]
 refine wpX_done (by kernel_rfl) ?_
 clear hXS
 go_wp2_with fail
 have hXS:=HC2.out w1.drew ((HK1.out.mono fun i _ h=>.inr h).drew)
 refine wpX_region (S:=fun W=>W.cell? ⟨bd,15,none⟩=some (.pointer (some ⟨bs,0,none⟩))∧W.cell? ⟨bd,18,none⟩=some (.int .i64 (pl:Int))) (L:=99) (by kernel_rfl) ?_
 refine tk 0 ?_ (fun _ _=>?_) hXS ?_;rotate_left;· go_simp;try rfl
 simp only[lsz,lss]
 refine tk 1 ?_ (fun _ _=>?_) hXS ?_;rotate_left;· go_simp;try rfl
 simp only[lsz,lss]
 refine tk 2 ?_ (fun _ _=>?_) hXS ?_;rotate_left;· go_simp;try rfl
 simp only[lsz,lss]
 refine tk 3 ?_ (fun _ _=>?_) hXS ?_;rotate_left;· go_simp;try rfl
 simp only[lsz,lss]
 refine tk 4 ?_ (fun _ _=>?_) hXS ?_;rotate_left;· go_simp;try rfl
 simp only[lsz,lss]
 refine tk 5 ?_ (fun _ _=>?_) hXS ?_;rotate_left;· go_simp;try rfl
 simp only[lsz,lss]
 refine tk 6 ?_ (fun _ _=>?_) hXS ?_;rotate_left;· go_simp;try rfl
 simp only[lsz,lss]
 refine tk 7 ?_ (fun _ _=>?_) hXS ?_;rotate_left;· go_simp;try rfl
 simp only[lsz,lss]
 refine tk 8 ?_ (fun _ _=>?_) hXS ?_;rotate_left;· go_simp;try rfl
 simp only[lsz,lss]
 refine tk 9 ?_ (fun _ _=>?_) hXS ?_;rotate_left;· go_simp;try rfl
 simp only[lsz,lss]
 refine wpX_hard (k:=10) (by kernel_rfl) rfl (fun K hK=>?_)
 go_simp
 refine(HG.out _ HK1.out.drew).mono ?_
 rintro e w2 ⟨v,rfl,ho2,hk2'⟩
 have hk2:KW w1 w2:=(KW.refl w1).drew.t hk2'
 have HK2:=hid (HK1.out.kwt hk2)
 have HM2:=hid (HM1.out.kw hk2)
 obtain⟨Av,cv,rfl,_⟩:=ho2.row
 have HV:=hid ho2.hu
 rw[u64s_len,hgl] at HV ⊢
 have hXS:=HC2.out w2 (HK2.out.mono fun i _ h=>.inr h)
 refine hK _ _ (fun _=>hXS) ?_
 clear hK K hk2 hk2' ho2
 try simp only[lsz,lss]
 refine wpX_hard (k:=11) (by kernel_rfl) rfl (fun K hK=>?_)
 go_simp
 refine(HSt.out w2 HK2.out _ HV.out).mono ?_
 rintro e w3 ⟨rfl,ha3,hk3⟩
 have HA3:=hid ha3
 have HM3:=hid (HM2.out.keep hk3 HNe.out.2.1)
 have HK3:Hid (Keep (fun b=>b=bw∨b=bm) w w3):=hid ((HK2.out.mono fun i _ h=>.inr h).t (hk3.mono fun i _ h=>.inl h))
 have hXS:=HC2.out w3 HK3.out
 refine hK _ _ (fun _=>hXS) ?_
 clear hK K ha3 hk3
 try simp only[lsz,lss]
 refine wpX_done (by kernel_rfl) ?_
 clear hXS
 go_wp2_with fail
 refine bodyPost_end (results_none rfl _ _ _) rfl ?_
 exact⟨rfl,HA3.out,HM3.out,HK3.out⟩
def ocell (o:Fl.O):List Value:=[.int .i64 o.k,.int .i64 o.d,.int .i64 o.a,.int .i64 o.b,.int .u64 o.v]
def ocs (l:List Fl.O):List Value:=l.flatMap ocell
theorem ocs_cons (o:Fl.O)(l:List Fl.O):ocs (o::l)=ocell o++ocs l:=rfl
theorem ocs_len (l:List Fl.O):(ocs l).length=l.length * 5:=by
 induction l with
 | nil=>rfl
 | cons i c ih=>rw[ocs_cons,List.length_append,ih,List.length_cons];show 5+_=_;omega
theorem ocs_get (l:List Fl.O)(b r:Nat)(hb:b<l.length)(hr:r<5):(ocs l)[b * 5+r]?=(ocell (l.getD b Fl.o0))[r]?:=by
 induction l generalizing b with
 | nil=>simp at hb
 | cons i c ih=>
   rw[ocs_cons]
   cases b with
   | zero=>rw[List.getElem?_append_left (by show 0 * 5+r<5;omega)];simp
   | succ b=>
     rw[List.getElem?_append_right (by show 5≤_;omega),show(b+1) * 5+r - (ocell i).length=b * 5+r by show _ - 5=_;omega,ih b (by simpa using hb)]
     rfl
theorem sliceOp:SliceOfS Tryz.prog 23 83 (.agg #[.int .i64 0,.int .i64 0,.int .i64 0,.int .i64 0,.int .u64 0]) 5 40:=⟨Tryz.underlying23,by kernel_rfl,rfl,by omega⟩
theorem OpsM.holds {w:World}{ad:Addr}{l:List Fl.O}{c:Nat}(h:OpsM w (some ad) l):Holds w (.slice (some ad) l.length c) l.length 5 (ocs l):=by
 refine⟨ocs_len l,fun y hy=>?_,.inr ⟨ad,c,rfl,fun j y hj=>?_⟩⟩
 ·obtain⟨o,_,ho⟩:=List.mem_flatMap.1 hy
  simp[ocell] at ho
  rcases ho with rfl|rfl|rfl|rfl|rfl<;>rfl
 ·have hjl:j<(ocs l).length:=(List.getElem?_eq_some_iff.1 hj).1
  rw[ocs_len] at hjl
  obtain⟨b,off,hA,_,hc⟩:=h (by omega)
  cases hA
  have hk:j / 5<l.length:=by omega
  have hr:j % 5<5:=Nat.mod_lt _ (by omega)
  have hg:=ocs_get l (j / 5) (j % 5) hk hr
  rw[show j / 5 * 5+j % 5=j by omega,hj] at hg
  obtain⟨c0,c1,c2,c3,c4⟩:=hc (j / 5) hk
  have hj5:off+j=off+j / 5 * 5+j % 5:=by omega
  rw[show(⟨b,off,none⟩:Addr).add j=⟨b,off+j,none⟩ by by_cases h0:j=0<;>simp[Addr.add,h0],hj5]
  rcases(show j % 5=0∨j % 5=1∨j % 5=2∨j % 5=3∨j % 5=4 by omega) with e|e|e|e|e<;>rw[e] at hg ⊢<;>simp only[ocell,List.getElem?_cons_zero,List.getElem?_cons_succ,Option.some.injEq] at hg<;>subst hg<;>(try simp only[Nat.add_zero])<;>assumption
theorem own_ops {w:World}{base:Nat}{v:Value}{l:List Fl.O}(h:w.ownsRow base 83 5 v l.length (ocs l)):∃ A c,v=.slice A l.length c∧OpsM w A l∧(0<l.length→∃ b,A=some ⟨b,0,none⟩∧base≤b):=by
 rcases h.2 with⟨rfl,h0⟩|⟨b,cap,cur,rfl,hb,hg,hc,hm,hs,ht⟩
 ·exact⟨none,0,by rw[h0],fun h=>absurd h (by omega),fun h=>absurd h (by omega)⟩
 ·have hlt:b<w.heap.size:=(Array.getElem?_eq_some_iff.1 hg).1
  have key:∀ k r,k<l.length→r<5→w.cell? ⟨b,k * 5+r,none⟩=(ocell (l.getD k Fl.o0))[r]?:=fun i r hi hr=>by
   rw[← ocs_get l i r hi hr,← ht,List.getElem?_take,if_pos (by omega),Array.getElem?_toList]
   unfold World.cell?
   rw[hg]
   rfl
  refine⟨_,cap,rfl,fun _=>⟨b,0,rfl,hlt,fun k hk=>?_⟩,fun _=>⟨b,rfl,hb⟩⟩
  rw[Nat.zero_add]
  exact⟨key k 0 hk (by omega),key k 1 hk (by omega),key k 2 hk (by omega),key k 3 hk (by omega),key k 4 hk (by omega)⟩
theorem cloneO_any (A:Option Addr)(c:Nat)(l:List Fl.O)(w:World)(hn:l.length≤1048576)(h:OpsM w A l):
 Calls Tryz.prog 132 #[.slice A l.length c] w fun e w'=>∃ A' c',e=.returned (.slice A' l.length c')∧OpsM w' A' l∧(0<l.length→∃ b,A'=some ⟨b,0,none⟩∧w.heap.size≤b)∧KW w w':=by
 have q23:∀ (w:World) (a:Option Addr) (n c n' c':Nat),(binOp .eql 23 (.slice a n c) (.slice none n' c')).run Tryz.prog w=.ok (.bool a.isNone) w:=fun w a n c n' c'=>Lib.run_eql_slice_nil w _ _ a n c n' c' Tryz.underlying23
 cases A with
 | none=>
   have hl:l=[]:=by
    rcases Nat.eq_zero_or_pos l.length with h0|h0
    ·exact List.length_eq_zero_iff.1 h0
    ·obtain⟨b,off,hA,_⟩:=h h0
     cases hA
   subst hl
   clear h
   go_enter Tryz.func132,Tryz.ntmps132
   go_wp2_with fail
   go_ret
   exact⟨none,0,rfl,fun h=>absurd h (by simp),fun h=>absurd h (by simp),KW.refl w⟩
 | some ad=>
   have HH:=hid (OpsM.holds (c:=c) h)
   clear h
   generalize hN:l.length=n at *
   have HN:=hid hN
   clear hN
   go_enter Tryz.func132,Tryz.ntmps132
   go_wp2_with (at_builtin;refine wpList_appS rfl sliceOp rfl (W:=w.alloc (.cells #[] 83)) (base:=w.heap.size) (k:=n) (n:=0) (xs:=[]) (ys:=ocs l) rfl rfl (HH.out.kw ((KW.refl w).alloc _)) (World.ownsRow_made w #[] 0 (Nat.le_refl _) (Nat.zero_le _) rfl) (by simp) (by omega) (by omega) ?_)
   intro v' w1 hown hkeep
   have HO:Hid (w1.ownsRow w.heap.size 83 5 v' l.length (ocs l)):=by
    show World.ownsRow _ _ _ _ _ _ _
    rw[HN.out]
    simpa using hown
   have HK:Hid (KW w w1):=((KW.refl w).alloc _).kept hkeep fun i hi=>by simp[Value.ownBlock] at hi;omega
   clear hown hkeep
   go_wp2_with fail
   go_ret
   obtain⟨A',c',rfl,h1,h2⟩:=own_ops HO.out
   exact⟨A',c',by rw[HN.out];rfl,h1,by rw[← HN.out];exact h2,HK.out⟩
def leastW (h:Hd):Nat:=if h.mode=3 then h.len.toNat else 1
def fixW (h:Hd):Nat:=((szl h).take 7).sum
def tapW (h:Hd):Nat:=(szl h).getD 7 0
def sltW (h:Hd):Nat:=(szl h).getD 8 0
def needW (h:Hd)(n:Nat):Nat:=((szl h).take 8).sum+sltW h * n
def slotsW (h:Hd):Int:=if h.mode=3 then (h.len.toNat:Int) else Int.tdiv (h.words - (fixW h:Int) - (tapW h:Int)) (sltW h:Int)
def PlOk (h:Hd):Prop:=HGd h∧(needW h (leastW h):Int)≤h.words
def MkP (h:Hd)(w:World)(e:Ending)(w':World):Prop:=
 ∃ a b c d r:Int,e=.returned (.tuple #[.agg #[.int .i64 a,.int .i64 b,.int .i64 c,.int .i64 d],.int .i64 r])∧(r=0↔PlOk h)∧(PlOk h→a=fixW h∧b=tapW h∧c=sltW h∧d=slotsW h)∧KW w w'
theorem szl_le (h:Hd)(hg:HGd h):∀ i,i<9→(szl h).getD i 0≤131072+64:=by
 have hb:=hg.bounds
 have h1:=wct_le h.st.l
 have h2:=wct_le h.lo.l
 intro i hi
 unfold szl
 rcases(show i=0∨i=1∨i=2∨i=3∨i=4∨i=5∨i=6∨i=7∨i=8 by omega) with rfl|rfl|rfl|rfl|rfl|rfl|rfl|rfl|rfl
 ·show h.ts.length≤_;omega
 ·show h.xs.length≤_;omega
 ·show h.st.n.toNat≤_;omega
 ·show h.lo.n.toNat≤_;omega
 ·show max h.st.n.toNat h.lo.n.toNat≤_;omega
 ·show h.xs.length≤_;omega
 ·show h.ts.length≤_;omega
 ·show(if h.mode=3 then wct h.lo.l else wct h.st.l+wct h.lo.l)≤_
  split<;>omega
 ·show(if h.mode=3 then wct h.st.l+h.st.n.toNat else h.xs.length+1)≤_
  split<;>omega
theorem slt_pos (h:Hd)(hg:HGd h):1≤sltW h:=by
 have hb:=hg.bounds
 unfold sltW szl
 show 1≤(if h.mode=3 then wct h.st.l+h.st.n.toNat else h.xs.length+1)
 split<;>omega
theorem make_bad (h:Hd)(w:World)(hM:HdM w h)(hg:¬ HGd h):Calls Tryz.prog 10 #[.agg h.v] w (MkP h w):=by
 have hk:=((KW.refl w).alloc (.cells h.v 27)).alloc (.cells #[.int .i64 0,.int .i64 0,.int .i64 0,.int .i64 0] 35)
 have HC:=hid (hcheck_any h _ (hM.kw hk))
 have hz:((w.alloc (.cells h.v 27)).alloc (.cells #[.int .i64 0,.int .i64 0,.int .i64 0,.int .i64 0] 35)).rowIs (w.alloc (.cells h.v 27)).heap.size 35 4 (fun _=>.int .i64 0):=
  World.rowIs_alloc _ #[.int .i64 0,.int .i64 0,.int .i64 0,.int .i64 0] 35 _ fun i hi=>by
   simp at hi
   rcases(show i=0∨i=1∨i=2∨i=3 by omega) with rfl|rfl|rfl|rfl<;>rfl
 rw[show(w.alloc (.cells h.v 27)).heap.size=w.heap.size+1 by simp] at hz
 have HZ:=hid hz
 have HG:=hid hg
 have HP:Hid (¬ PlOk h):=hid fun hp=>hg hp.1
 have HK:=hid hk
 clear hk hM hg hz
 unfold MkP
 generalize fixW h=q1 at *
 generalize tapW h=q2 at *
 generalize sltW h=q3 at *
 generalize slotsW h=q4 at *
 generalize PlOk h=C at *
 generalize HGd h=G at *
 unfold Hd.v hdv at *
 obtain⟨mode,xA,xc,xs,tA,tc,ts,⟨n,A,c,l⟩,⟨m,B,d,l'⟩,len,words⟩:=h
 simp only at *
 generalize xs.length=x at *
 generalize ts.length=t at *
 generalize l.length=N at *
 generalize l'.length=M at *
 go_enter Tryz.func10,Tryz.ntmps10
 go_wp2_with fail
 refine HC.out.mono ?_
 rintro e w1 ⟨r,rfl,hr,hk1⟩
 have h0:¬ r=0:=fun h=>HG.out (hr.1 h)
 have hne:(r==0)=false:=beq_eq_false_iff_ne.2 h0
 have HN0:=hid h0
 have HK1:=hid (HK.out.t hk1)
 have HZ1:=hid (KW.row hk1 HZ.out.lt HZ.out)
 clear h0 hr hk1
 go_wp2_with (refine wpList_store_is rfl 35 _ _ rfl (w.heap.size+1) 4 35 _ (fun _=>.int .i64 0) _ rfl rfl HZ1.out (by kernel_rfl) rfl ?qa1 ?qa2 ?_)
 case qa1=>intro i hi;rcases(show i=0∨i=1∨i=2∨i=3 by omega) with rfl|rfl|rfl|rfl<;>rfl
 case qa2=>intro i hi;rfl
 intro W hrow hkeep hsz
 have HK2:Hid (KW w W):=hid (HK1.out.kept hkeep fun i hi=>by omega)
 have HP2:=hid (whole hrow)
 clear hrow hkeep hsz
 go_wp2_with fail
 refine bodyPost_ret (results_cell_tmp rfl _ _ _ _ _ (0,0) _ rfl HP2.out Tryz.underlying35 rfl (by kernel_rfl)) rfl ?_
 exact⟨0,0,0,0,r,rfl,⟨fun h=>absurd h HN0.out,fun h=>absurd h HP.out⟩,fun h=>absurd h HP.out,HK2.out⟩
theorem fix_sum (s0 s1 s2 s3 s4 s5 s6 s7 s8 k:Nat)(h:k<7):([s0,s1,s2,s3,s4,s5,s6,s7,s8].take (k+1)).sum=([s0,s1,s2,s3,s4,s5,s6,s7,s8].take k).sum + [s0,s1,s2,s3,s4,s5,s6,s7,s8].getD k 0:=
 take_sum_succ _ k (by simp;omega)
def plf (f t s k:Int):Nat→Value
 | 0=>.int .i64 f
 | 1=>.int .i64 t
 | 2=>.int .i64 s
 | _=>.int .i64 k
theorem cells4 {a b c d:Value}{f:Nat→Value}(h0:f 0=a)(h1:f 1=b)(h2:f 2=c)(h3:f 3=d)(i:Nat)(hi:i<4):#[a,b,c,d][i]?=some (f i):=by
 rcases(show i=0∨i=1∨i=2∨i=3 by omega) with rfl|rfl|rfl|rfl
 ·rw[h0];rfl
 ·rw[h1];rfl
 ·rw[h2];rfl
 ·rw[h3];rfl
theorem plan_row (W:World)(f t s k:Int):(W.alloc (.cells #[.int .i64 f,.int .i64 t,.int .i64 s,.int .i64 k] 35)).rowIs W.heap.size 35 4 (plf f t s k):=
 World.rowIs_alloc W #[.int .i64 f,.int .i64 t,.int .i64 s,.int .i64 k] 35 _ (cells4 rfl rfl rfl rfl)
theorem make_good (h:Hd)(w:World)(hM:HdM w h)(hg:HGd h):Calls Tryz.prog 10 #[.agg h.v] w (MkP h w):=by
 obtain⟨s0,s1,s2,s3,s4,s5,s6,s7,s8,hS⟩:∃ s0 s1 s2 s3 s4 s5 s6 s7 s8:Nat,szl h=[s0,s1,s2,s3,s4,s5,s6,s7,s8]:=⟨_,_,_,_,_,_,_,_,_,rfl⟩
 have hB:=szl_le h hg
 have hsp:=slt_pos h hg
 have hbd:=hg.bounds
 have hk:=((KW.refl w).alloc (.cells h.v 27)).alloc (.cells #[.int .i64 0,.int .i64 0,.int .i64 0,.int .i64 0] 35)
 have HC:=hid (hcheck_any h _ (hM.kw hk))
 have HSz:=hid (fun W (hW:KW w W)=>psizes_any h W (hM.kw hW) hg)
 have hz:((w.alloc (.cells h.v 27)).alloc (.cells #[.int .i64 0,.int .i64 0,.int .i64 0,.int .i64 0] 35)).rowIs (w.alloc (.cells h.v 27)).heap.size 35 4 (fun _=>.int .i64 0):=
  World.rowIs_alloc _ #[.int .i64 0,.int .i64 0,.int .i64 0,.int .i64 0] 35 _ fun i hi=>by
   simp at hi
   rcases(show i=0∨i=1∨i=2∨i=3 by omega) with rfl|rfl|rfl|rfl<;>rfl
 rw[show(w.alloc (.cells h.v 27)).heap.size=w.heap.size+1 by simp] at hz
 have hh:=heap_alloc_new w (.cells h.v 27)
 have hlt1:w.heap.size<(w.alloc (.cells h.v 27)).heap.size:=by simp
 have HR:Hid (∀ i v,h.v[i]?=some v→((w.alloc (.cells h.v 27)).alloc (.cells #[.int .i64 0,.int .i64 0,.int .i64 0,.int .i64 0] 35)).cell? ⟨w.heap.size,i,none⟩=some v):=hid fun i v hv=>by
  refine(Below.cell ((KW.refl (w.alloc (.cells h.v 27))).alloc _) hlt1).trans ?_
  unfold World.cell?
  rw[hh]
  exact hv
 have HZ:=hid hz
 have HG:=hid hg
 have HF:Hid (fixW h=([s0,s1,s2,s3,s4,s5,s6,s7,s8].take 7).sum):=by unfold fixW;rw[hS];exact hid rfl
 have HT:Hid (tapW h=s7):=by unfold tapW;rw[hS];exact hid rfl
 have HL:Hid (sltW h=s8):=by unfold sltW;rw[hS];exact hid rfl
 have HN:Hid (∀ n,needW h n=[s0,s1,s2,s3,s4,s5,s6,s7].sum+s8 * n):=by unfold needW sltW;rw[hS];exact hid fun n=>rfl
 have HP:Hid (PlOk h↔(needW h (leastW h):Int)≤h.words):=hid ⟨fun x=>x.2,fun x=>⟨hg,x⟩⟩
 have HSl:Hid (slotsW h=if h.mode=3 then (h.len.toNat:Int) else Int.tdiv (h.words - (fixW h:Int) - (tapW h:Int)) (sltW h:Int)):=hid rfl
 have HLe:Hid (leastW h=if h.mode=3 then h.len.toNat else 1):=hid rfl
 rw[HL.out] at hsp
 rw[hS] at hB HSz
 have hBB:∀ i,i<9→[s0,s1,s2,s3,s4,s5,s6,s7,s8].getD i 0≤1048576:=fun i hi=>Nat.le_trans (hB i hi) (by decide)
 have HNe:=hid (fun n (hn:n≤1048576) W=>need_any s0 s1 s2 s3 s4 s5 s6 s7 s8 n W hBB hn)
 have HFs:=hid (fix_sum s0 s1 s2 s3 s4 s5 s6 s7 s8)
 have hs7:s7≤1048576:=hBB 7 (by omega)
 have hs8:s8≤1048576:=hBB 8 (by omega)
 have HB:=hid hBB
 have HTl:=hid (fun k (hk:k≤9)=>take_sum_le [s0,s1,s2,s3,s4,s5,s6,s7,s8] 1048576 k (fun i hi=>hBB i hi) hk)
 have HK:=hid hk
 have hwords:=hbd.2.2.2.2.2.2.2
 have hlen:=hbd.2.2.2.2.2.2.1
 clear hk hM hg hz hB hBB hS hh hlt1 hbd
 have hiv:ivn [s0,s1,s2,s3,s4,s5,s6,s7,s8]=#[.int .i64 s0,.int .i64 s1,.int .i64 s2,.int .i64 s3,.int .i64 s4,.int .i64 s5,.int .i64 s6,.int .i64 s7,.int .i64 s8]:=rfl
 rw[hiv] at HNe HSz
 unfold MkP
 generalize fixW h=q1 at *
 generalize tapW h=q2 at *
 generalize sltW h=q3 at *
 generalize slotsW h=q4 at *
 generalize leastW h=le at *
 generalize hnw:needW h le=nw at *
 have HNw:Hid (nw=[s0,s1,s2,s3,s4,s5,s6,s7].sum+s8 * le):=by rw[← hnw];exact hid (HN.out le)
 clear HN hnw
 generalize PlOk h=C at *
 generalize HGd h=G at *
 unfold Hd.v hdv at *
 obtain⟨mode,xA,xc,xs,tA,tc,ts,⟨n,A,c,l⟩,⟨m,B,d,l'⟩,len,words⟩:=h
 simp only at *
 generalize xs.length=x at *
 generalize ts.length=t at *
 generalize l.length=N at *
 generalize l'.length=M at *
 have hle:le≤65536:=by rw[HLe.out];split<;>omega
 have HNe2:=hid (HNe.out le (by omega))
 rw[← HNw.out] at HNe2
 go_enter Tryz.func10,Tryz.ntmps10
 go_wp2_with fail
 refine HC.out.mono ?_
 rintro e w1 ⟨r,rfl,hr,hk1⟩
 obtain rfl:r=0:=hr.2 HG.out
 have HK1:=hid (HK.out.t hk1)
 have HZ1:=hid (KW.row hk1 HZ.out.lt HZ.out)
 have HCl:Hid (∀ i v,(hdv mode xA x xc tA t tc n A N c m B M d len words)[i]?=some v→w1.cell? ⟨w.heap.size,i,none⟩=some v):=hid fun i v hv=>(Below.cell hk1 (by simp;omega)).trans (HR.out i v hv)
 clear hr hk1 HC HZ HR HK
 have hzl:=HZ1.out.lt
 have hlt:w.heap.size<w1.heap.size:=by omega
 have r0:=HCl.out 0 (.int .i64 mode) rfl
 have r1:=HCl.out 1 (.slice xA x xc) rfl
 have r2:=HCl.out 2 (.slice tA t tc) rfl
 have r3:=HCl.out 3 (.int .i64 n) rfl
 have r4:=HCl.out 4 (.slice A N c) rfl
 have r5:=HCl.out 5 (.int .i64 m) rfl
 have r6:=HCl.out 6 (.slice B M d) rfl
 have r7:=HCl.out 7 (.int .i64 len) rfl
 have r8:=HCl.out 8 (.int .i64 words) rfl
 go_wp2_with fail
 refine(HSz.out w1 HK1.out).mono ?_
 rintro e w2 ⟨rfl,hk2⟩
 have HK2:=hid (HK1.out.t hk2)
 have HZ2:=hid (KW.row hk2 HZ1.out.lt HZ1.out)
 have HCl2:Hid (∀ i v,(hdv mode xA x xc tA t tc n A N c m B M d len words)[i]?=some v→w2.cell? ⟨w.heap.size,i,none⟩=some v):=hid fun i v hv=>(Below.cell hk2 hlt).trans (HCl.out i v hv)
 have hlt2:w.heap.size<w2.heap.size:=Nat.lt_of_lt_of_le hlt (Below.size hk2)
 clear hk2 HZ1 HCl r0 r1 r2 r3 r4 r5 r6 r7 r8 hzl hlt HK1 HSz
 have r0:=HCl2.out 0 (.int .i64 mode) rfl
 have r7:=HCl2.out 7 (.int .i64 len) rfl
 have r8:=HCl2.out 8 (.int .i64 words) rfl
 have hmode:(mode=3∧len=(le:Int))∨((mode==3)=false∧le=1):=by
  by_cases hm:mode=3
  ·left
   refine⟨hm,?_⟩
   have:=HLe.out
   rw[if_pos hm] at this
   omega
  ·right
   refine⟨beq_eq_false_iff_ne.2 hm,?_⟩
   have:=HLe.out
   rw[if_neg hm] at this
   exact this
 have hrow9:=ivn_row w2 91 [s0,s1,s2,s3,s4,s5,s6,s7,s8]
 rw[hiv] at hrow9
 have HR9:Hid ((w2.alloc (.cells #[.int .i64 s0,.int .i64 s1,.int .i64 s2,.int .i64 s3,.int .i64 s4,.int .i64 s5,.int .i64 s6,.int .i64 s7,.int .i64 s8] 91)).rowIs w2.heap.size 91 9 (fun i=>.int .i64 ([s0,s1,s2,s3,s4,s5,s6,s7,s8].getD i 0:Nat))):=hid hrow9
 have hka:=(KW.refl w2).alloc (.cells #[.int .i64 s0,.int .i64 s1,.int .i64 s2,.int .i64 s3,.int .i64 s4,.int .i64 s5,.int .i64 s6,.int .i64 s7,.int .i64 s8] 91)
 have HKa:=hid hka
 have HK3:=hid (HK2.out.t hka)
 have HZ3:=hid (KW.row hka HZ2.out.lt HZ2.out)
 have HCl3:Hid (∀ i v,(hdv mode xA x xc tA t tc n A N c m B M d len words)[i]?=some v→(w2.alloc (.cells #[.int .i64 s0,.int .i64 s1,.int .i64 s2,.int .i64 s3,.int .i64 s4,.int .i64 s5,.int .i64 s6,.int .i64 s7,.int .i64 s8] 91)).cell? ⟨w.heap.size,i,none⟩=some v):=hid fun i v hv=>(Below.cell hka hlt2).trans (HCl2.out i v hv)
 have HSz3:=hid HZ2.out.lt
 clear hrow9 hka
 obtain⟨le0,hle0⟩:∃ le0:Nat,le0=le:=⟨_,rfl⟩
 have HLe0:=hid hle0
 clear hle0
 rcases hmode with⟨rfl,rfl⟩|⟨hm3,rfl⟩
 all_goals
  go_upto_region 8 with(fail)
  refine wpCode_world (fun W=>∃ b3,b3=w2.heap.size∧Hid (W.rowIs b3 91 9 (fun i=>.int .i64 ([s0,s1,s2,s3,s4,s5,s6,s7,s8].getD i 0:Nat)))∧Hid (W.rowIs (w.heap.size+1) 35 4 (fun _=>.int .i64 0))∧Hid (∀ i v,(hdv _ xA x xc tA t tc n A N c m B M d _ words)[i]?=some v→W.cell? ⟨w.heap.size,i,none⟩=some v)∧Hid (KW w W)∧Hid (w.heap.size+1<b3)) ⟨_,rfl,HR9,HZ3,HCl3,HK3,HSz3⟩ ?_
  rintro W3 ⟨b3,hb3,HR3,HZ4,HCl4,HK4,HS4⟩
  have HB3:=hid hb3
  rw[← hb3]
  clear hb3 HR9 HZ3 HCl3 HK3 HSz3 HKa HZ2 HCl2 HK2 hlt2 r0 r7 r8
  have c0:=HR3.out.cell (i:=0) (by omega)
  have c1:=HR3.out.cell (i:=1) (by omega)
  have c2:=HR3.out.cell (i:=2) (by omega)
  have c3:=HR3.out.cell (i:=3) (by omega)
  have c4:=HR3.out.cell (i:=4) (by omega)
  have c5:=HR3.out.cell (i:=5) (by omega)
  have c6:=HR3.out.cell (i:=6) (by omega)
  have c7:=HR3.out.cell (i:=7) (by omega)
  have c8:=HR3.out.cell (i:=8) (by omega)
  simp only[List.getD_cons_succ,List.getD_cons_zero] at c0 c1 c2 c3 c4 c5 c6 c7 c8
  have r8:=HCl4.out 8 (.int .i64 words) rfl
  have hXS:=And.intro c0 (And.intro c1 (And.intro c2 (And.intro c3 (And.intro c4 (And.intro c5 (And.intro c6 (And.intro c7 (And.intro c8 r8))))))))
  have HX:=hid hXS
  refine wpX_region (S:=fun w'=>w'.cell? ⟨b3,0,none⟩=some (.int .i64 s0)∧w'.cell? ⟨b3,1,none⟩=some (.int .i64 s1)∧w'.cell? ⟨b3,2,none⟩=some (.int .i64 s2)∧w'.cell? ⟨b3,3,none⟩=some (.int .i64 s3)∧w'.cell? ⟨b3,4,none⟩=some (.int .i64 s4)∧w'.cell? ⟨b3,5,none⟩=some (.int .i64 s5)∧w'.cell? ⟨b3,6,none⟩=some (.int .i64 s6)∧w'.cell? ⟨b3,7,none⟩=some (.int .i64 s7)∧w'.cell? ⟨b3,8,none⟩=some (.int .i64 s8)∧w'.cell? ⟨w.heap.size,8,none⟩=some (.int .i64 words)) (L:=99) (by kernel_rfl) ?_
  refine tk 0 ?_ (fun _ _=>?_) hXS ?_;rotate_left;· go_simp;try rfl
  simp only[lsz,lss]
  refine tk 1 ?_ (fun _ _=>?_) hXS ?_;rotate_left;· go_simp;try rfl
  simp only[lsz,lss]
  refine tk 3 ?_ (fun _ _=>?_) hXS ?_;rotate_left;· go_simp;try rfl
  simp only[lsz,lss]
  refine tk 4 ?_ (fun _ _=>?_) hXS ?_;rotate_left;· go_simp;try rfl
  simp only[lsz,lss]
  refine wpX_hard (k:=2) (by kernel_rfl) rfl (fun K hK=>?_)
  go_simp
  refine(HNe2.out _).mono ?_
  rintro e w4 ⟨rfl,hk4⟩
  have hk34:KW W3 w4:=(KW.refl W3).drew.t hk4
  have HR4:=hid (KW.row hk34 HR3.out.lt HR3.out)
  have HZ5:=hid (KW.row hk34 HZ4.out.lt HZ4.out)
  have HCl5:Hid (∀ i v,(hdv _ xA x xc tA t tc n A N c m B M d _ words)[i]?=some v→w4.cell? ⟨w.heap.size,i,none⟩=some v):=hid fun i v hv=>(Below.cell hk34 (show w.heap.size<W3.heap.size by have:=HZ4.out.lt;omega)).trans (HCl4.out i v hv)
  have HK5:=hid (HK4.out.t hk34)
  clear c0 c1 c2 c3 c4 c5 c6 c7 c8 r8 hXS HX hk4 hk34 HR3 HZ4 HCl4 HK4
  have c0:=HR4.out.cell (i:=0) (by omega)
  have c1:=HR4.out.cell (i:=1) (by omega)
  have c2:=HR4.out.cell (i:=2) (by omega)
  have c3:=HR4.out.cell (i:=3) (by omega)
  have c4:=HR4.out.cell (i:=4) (by omega)
  have c5:=HR4.out.cell (i:=5) (by omega)
  have c6:=HR4.out.cell (i:=6) (by omega)
  have c7:=HR4.out.cell (i:=7) (by omega)
  have c8:=HR4.out.cell (i:=8) (by omega)
  simp only[List.getD_cons_succ,List.getD_cons_zero] at c0 c1 c2 c3 c4 c5 c6 c7 c8
  have r8:=HCl5.out 8 (.int .i64 words) rfl
  have r0:=HCl5.out 0 (.int .i64 _) rfl
  have hXS:=And.intro c0 (And.intro c1 (And.intro c2 (And.intro c3 (And.intro c4 (And.intro c5 (And.intro c6 (And.intro c7 (And.intro c8 r8))))))))
  refine hK _ _ (fun _=>hXS) ?_
  clear hK K
  try simp only[lsz,lss]
  refine tk 5 ?_ (fun _ _=>?_) hXS ?_;rotate_left;· go_simp;try rfl
  simp only[lsz,lss]
  refine wpX_done (by kernel_rfl) ?_
  clear hXS
  by_cases hc:words<(nw:Int)
  ·have HNo:Hid (¬ C):=hid fun h=>by have:=HP.out.1 h;omega
   clear c0 c1 c2 c3 c4 c5 c6 c7 c8 r8
   go_wp2_with (refine wpList_store_is rfl 35 _ _ rfl (w.heap.size+1) 4 35 _ (fun _=>.int .i64 0) _ rfl rfl HZ5.out (by kernel_rfl) rfl (cells4 rfl rfl rfl rfl) (fun _ _=>rfl) ?_)
   intro W hrow hkeep hsz
   have HK6:Hid (KW w W):=hid (HK5.out.kept hkeep fun i hi=>by omega)
   have HP2:=hid (whole hrow)
   clear hrow hkeep hsz
   go_wp2_with fail
   refine bodyPost_ret (results_cell_tmp rfl _ _ _ _ _ (0,0) _ rfl HP2.out Tryz.underlying35 rfl (by kernel_rfl)) rfl ?_
   exact⟨0,0,0,0,13,rfl,⟨fun h=>absurd h (by decide),fun h=>absurd h HNo.out⟩,fun h=>absurd h HNo.out,HK6.out⟩
  ·have hcf:decide (words<(nw:Int))=false:=decide_eq_false hc
   have HYes:Hid C:=hid (HP.out.2 (by omega))
   rw[hcf]
   clear hc
   go_wp2_with fail
   refine wpCode_world (fun W=>∃ (b7:Nat) (lk:Int),Hid (lk=(le0:Int))∧Hid (W.rowIs b7 35 4 (plf 0 s7 s8 lk))∧b7=w4.heap.size∧Hid (W.rowIs b3 91 9 (fun i=>.int .i64 ([s0,s1,s2,s3,s4,s5,s6,s7,s8].getD i 0:Nat)))∧Hid (W.rowIs (w.heap.size+1) 35 4 (fun _=>.int .i64 0))∧Hid (∀ i v,(hdv _ xA x xc tA t tc n A N c m B M d _ words)[i]?=some v→W.cell? ⟨w.heap.size,i,none⟩=some v)∧Hid (KW w W)) ⟨_,_,by rw[HLe0.out];first|exact hid rfl|simp,plan_row w4 0 s7 s8 _,rfl,KW.row ((KW.refl w4).alloc _) HR4.out.lt HR4.out,KW.row ((KW.refl w4).alloc _) HZ5.out.lt HZ5.out,(fun i v hv=>(Below.cell ((KW.refl w4).alloc _) (show w.heap.size<w4.heap.size by have:=HZ5.out.lt;omega)).trans (HCl5.out i v hv)),HK5.out.alloc _⟩ ?_
   rintro W5 ⟨b7,lk,HLk,HR7,hb7,HR5,HZ6,HCl6,HK6⟩
   have h37:b3<b7:=by rw[hb7];exact HR4.out.lt
   have h17:w.heap.size+1<b7:=by rw[hb7];exact HZ5.out.lt
   have HB7:=hid hb7
   rw[← hb7]
   clear hb7 HR4 HZ5 HCl5 HK5 c0 c1 c2 c3 c4 c5 c6 c7 c8 r8 r0 hcf
   go_loopw [35] (fun i wr=>∃ k:Nat,k≤7∧i=.int .i64 k∧Hid (wr.rowIs b7 35 4 (plf (([s0,s1,s2,s3,s4,s5,s6,s7,s8].take k).sum:Nat) s7 s8 lk))∧Hid (Keep (· = b7) W5 wr)) (fun i _=>7 - (intOf i).toNat)
   case atStart=>exact⟨0,by omega,rfl,HR7,Keep.refl _ _⟩
   case round=>
    clear HR7
    obtain⟨k,hk,rfl,HR7,HKr⟩:=hrel
    have HR5r:=hid (HKr.out.row (b:=b3) (by omega) HR5.out)
    by_cases hlt:k<7
    ·have L1:(k:Int)<7:=by omega
     have d0:wr.drew.cell? ⟨b7,0,none⟩=some (plf (([s0,s1,s2,s3,s4,s5,s6,s7,s8].take k).sum:Nat) s7 s8 lk 0):=HR7.out.cell (i:=0) (by omega)
     have f0:wr.drew.frozen? ⟨b7,0,none⟩=false:=HR7.out.frozen 0
     have d1:wr.drew.cell? ⟨b3,k,none⟩=some (.int .i64 ([s0,s1,s2,s3,s4,s5,s6,s7,s8].getD k 0:Nat)):=HR5r.out.cell (i:=k) (by omega)
     have hb1:=HB.out k (by omega)
     have hb2:=HTl.out k (by omega)
     have HFk:=hid (HFs.out k hlt)
     have HSet:=hid (fun v=>(HR7.out.set 0 v).congr (g:=fun i=>if i=0 then v else plf (([s0,s1,s2,s3,s4,s5,s6,s7,s8].take k).sum:Nat) s7 s8 lk i) fun _ _=>rfl)
     generalize [s0,s1,s2,s3,s4,s5,s6,s7,s8].getD k 0=s at *
     generalize ([s0,s1,s2,s3,s4,s5,s6,s7,s8].take k).sum=f at *
     unfold plf at d0
     simp only at d0
     clear hlt
     go_wp2_with fail
     go_region
     have HKn:Hid (Keep (· = b7) W5 (wr.setCell ⟨b7,0,none⟩ (.int .i64 ((f:Int)+(s:Int)))).drew):=hid (HKr.out.t (((Keep.refl (· = b7) wr).setCell _ _ rfl).drew))
     have HRn:Hid ((wr.setCell ⟨b7,0,none⟩ (.int .i64 ((f:Int)+(s:Int)))).drew.rowIs b7 35 4 (plf (([s0,s1,s2,s3,s4,s5,s6,s7,s8].take (k+1)).sum:Nat) s7 s8 lk)):=by
      refine hid ((World.rowIs.congr (HSet.out _) fun i hi=>?_))
      rw[HFk.out]
      rcases(show i=0∨i=1∨i=2∨i=3 by omega) with rfl|rfl|rfl|rfl
      ·simp[plf]
      ·rfl
      ·rfl
      ·rfl
     clear d0 d1 f0
     go_wp2_with fail
     go_roundw
     case rel=>exact⟨k+1,by omega,by go_num,HRn,HKn⟩
     case measure=>simp[intOf];omega
    ·obtain rfl:k=7:=by omega
     have hlt6:=HZ6.out.lt
     have HCl7:Hid (∀ i v,(hdv _ xA x xc tA t tc n A N c m B M d _ words)[i]?=some v→wr.cell? ⟨w.heap.size,i,none⟩=some v):=hid fun i v hv=>(HKr.out.cell (b:=w.heap.size) (by omega) (by omega)).trans (HCl6.out i v hv)
     have HZ7:=hid (HKr.out.row (b:=w.heap.size+1) (by omega) HZ6.out)
     have HK7:Hid (KW w wr):=hid (HK6.out.kept HKr.out fun i hi=>by rw[hi];omega)
     have r0:=HCl7.out 0 (.int .i64 _) rfl
     have r8:=HCl7.out 8 (.int .i64 words) rfl
     have hb2:=HTl.out 7 (by omega)
     rw[← HF.out] at HR7 hb2
     have p0:=HR7.out.cell (i:=0) (by omega)
     have p1:=HR7.out.cell (i:=1) (by omega)
     have p2:=HR7.out.cell (i:=2) (by omega)
     have p3:=HR7.out.cell (i:=3) (by omega)
     have f3:=HR7.out.frozen 3
     have hb7l:=HR7.out.lt
     have hwl:=HZ7.out.lt
     have hwl0:w.heap.size<wr.heap.size:=by omega
     unfold plf at p0 p1 p2 p3
     simp only at p0 p1 p2 p3
     have hone:∀ (a b c d:Int) (i:Nat),i<4→(plf a b c d i).oneCell'=true:=fun a b c d i hi=>by
      rcases(show i=0∨i=1∨i=2∨i=3 by omega) with rfl|rfl|rfl|rfl<;>rfl
     have HOne:=hid hone
     clear hone hlt HCl7 HZ6 HCl6 HKr HR5r HB HTl HFs HR5 HK6
     try
      (have HQ4:Hid (lk=q4):=hid (by rw[HSl.out,HLk.out,HLe0.out];simp;done)
       go_upto_region 18 with(fail)
       go_wp2_with (refine wpList_store_is rfl 35 _ _ rfl (w.heap.size+1) 4 35 _ (plf q1 s7 s8 lk) _ rfl rfl HZ7.out (by kernel_rfl) rfl (cells4 rfl rfl rfl rfl) (HOne.out _ _ _ _) ?_)
       intro W hrow hkeep hsz
       have HK8:Hid (KW w W):=hid (HK7.out.kept hkeep fun i hi=>by omega)
       have HP2:=hid (whole hrow)
       clear hrow hkeep hsz
       go_wp2_with fail
       exact bodyPost_ret (results_cell_tmp rfl _ _ _ _ _ (0,0) _ rfl HP2.out Tryz.underlying35 rfl (by kernel_rfl)) rfl ⟨q1,s7,s8,lk,0,rfl,⟨fun _=>HYes.out,fun _=>rfl⟩,fun _=>⟨rfl,by rw[HT.out],by rw[HL.out],HQ4.out⟩,HK8.out⟩)
     all_goals
      (have hm:=hm3
       have hs8n:(s8:Int)≠0:=by omega
       have HQ4:Hid (Int.tdiv (words - (q1:Int) - (s7:Int)) (s8:Int)=q4):=by
        rw[HSl.out,if_neg (beq_eq_false_iff_ne.1 hm),HT.out,HL.out];exact hid rfl
       have HSet:=hid (World.rowIs.congr (g:=plf q1 s7 s8 (Int.tdiv (words - (q1:Int) - (s7:Int)) (s8:Int))) (HR7.out.set 3 (.int .i64 (Int.tdiv (words - (q1:Int) - (s7:Int)) (s8:Int)))) fun i hi=>by
        rcases(show i=0∨i=1∨i=2∨i=3 by omega) with rfl|rfl|rfl|rfl<;>rfl)
       have g0:=HSet.out.cell (i:=0) (by omega)
       have g1:=HSet.out.cell (i:=1) (by omega)
       have g2:=HSet.out.cell (i:=2) (by omega)
       have g3:=HSet.out.cell (i:=3) (by omega)
       unfold plf at g0 g1 g2 g3
       simp only at g0 g1 g2 g3
       have HZ8:=hid (HZ7.out.setOther (a:=⟨b7,3,none⟩) (show w.heap.size+1≠b7 by omega) (.int .i64 (Int.tdiv (words - (q1:Int) - (s7:Int)) (s8:Int))))
       have HK8:Hid (KW w (wr.setCell ⟨b7,3,none⟩ (.int .i64 (Int.tdiv (words - (q1:Int) - (s7:Int)) (s8:Int))))):=hid (HK7.out.kept ((Keep.refl (· = b7) wr).setCell _ _ rfl) fun i hi=>by rw[hi];omega)
       go_upto_region 18 with(fail)
       go_wp2_with (refine wpList_store_is rfl 35 _ _ rfl (w.heap.size+1) 4 35 _ (plf q1 s7 s8 (Int.tdiv (words - (q1:Int) - (s7:Int)) (s8:Int))) _ rfl rfl HZ8.out (by kernel_rfl) rfl (cells4 rfl rfl rfl rfl) (HOne.out _ _ _ _) ?_)
       intro W hrow hkeep hsz
       have HK9:=hid (HK8.out.kept hkeep fun i hi=>by omega)
       have HP2:=hid (whole hrow)
       clear hrow hkeep hsz
       go_wp2_with fail
       exact bodyPost_ret (results_cell_tmp rfl _ _ _ _ _ (0,0) _ rfl HP2.out Tryz.underlying35 rfl (by kernel_rfl)) rfl ⟨q1,s7,s8,Int.tdiv (words - (q1:Int) - (s7:Int)) (s8:Int),0,rfl,⟨fun _=>HYes.out,fun _=>rfl⟩,fun _=>⟨rfl,by rw[HT.out],by rw[HL.out],HQ4.out⟩,HK9.out⟩)
end Go.Proofs.YtphppbonljdibaaGreat
