import Derived.Test.YtphppbonljdibaaGreatTF40
import Derived.Maps.Own
import Derived.Maps.OwnOps
import Derived.Maps.Views
set_option maxRecDepth 100000
set_option maxHeartbeats 4000000
set_option linter.unusedVariables false
set_option linter.unusedSimpArgs false
namespace Go.Proofs.YtphppbonljdibaaGreat
open Go.ChangeShapes Go.WideShapes Go.ChangeAt Go.RowKit
def IWp (w:World)(v:Value)(l:List Int):Prop:=∃ A c,v=.slice A l.length c∧Row1 w A l.length fun i=>.int .i64 (l.getD i 0)
theorem IWp.kw {w w':World}{v:Value}{l:List Int}(h:IWp w v l)(hk:KW w w'):IWp w' v l:=by
 obtain⟨A,c,hv,hr⟩:=h
 exact⟨A,c,hv,hr.k hk⟩
theorem Owns.iw0 {w:World}{base:Nat}{v:Value}{l:List Int}(h:Owns w base 3 v (ints l)):IWp w v l:=by
 obtain⟨A,c,hv,hr⟩:=h.rt.rt0
 exact⟨A,c,hv,hr⟩
theorem maxite (a b:Nat):(if a<b then (b:Int) else (a:Int))=((max a b:Nat):Int):=by split<;>omega
theorem RT0.keep {own:Nat→Prop}{w w':World}{v:Value}{tags:List Int}(h:RT0 w v tags)(hk:Keep own w w')(hn:∀ b,v.ownBlock=some b→¬ own b):RT0 w' v tags:=by
 obtain⟨A,c,rfl,hr⟩:=h
 exact⟨A,c,rfl,hk.row1 hr fun b off hA=>hn b (by rw[hA];rfl)⟩
def pfv (tot pk most:Int)(kdf:Nat→Int)(s:Value):Nat→Value:=fun i=>if i=0 then .int .i64 tot else if i=1 then .int .i64 pk else if i=2 then .int .i64 most else if i=13 then s else .int .i64 (kdf (i - 3))
theorem pfv_kd (tot pk most:Int)(kdf:Nat→Int)(s:Value){c:Nat}(h:c<10):pfv tot pk most kdf s (3+c)=.int .i64 (kdf c):=by
 unfold pfv
 rw[if_neg (by omega),if_neg (by omega),if_neg (by omega),if_neg (by omega),show 3+c - 3=c by omega]
theorem pfv_set_kd (tot pk most:Int)(kdf:Nat→Int)(s:Value){q:Nat}(h:q<10)(i:Nat)(hi:i<14):(if i=3+q then Value.int .i64 (kdf q+1) else pfv tot pk most kdf s i)=pfv tot pk most (fun c=>kdf c+if c=q then 1 else 0) s i:=by
 by_cases e:i=3+q
 ·subst e
  rw[if_pos rfl,pfv_kd _ _ _ _ _ h,if_pos rfl]
 ·rw[if_neg e]
  unfold pfv
  by_cases h0:i=0
  ·rw[if_pos h0,if_pos h0]
  by_cases h1:i=1
  ·rw[if_neg h0,if_pos h1,if_neg h0,if_pos h1]
  by_cases h2:i=2
  ·rw[if_neg h0,if_neg h1,if_pos h2,if_neg h0,if_neg h1,if_pos h2]
  by_cases h3:i=13
  ·rw[if_neg h0,if_neg h1,if_neg h2,if_pos h3,if_neg h0,if_neg h1,if_neg h2,if_pos h3]
  ·rw[if_neg h0,if_neg h1,if_neg h2,if_neg h3,if_neg h0,if_neg h1,if_neg h2,if_neg h3]
   show _=Value.int .i64 (kdf (i - 3)+if i - 3=q then 1 else 0)
   rw[if_neg (by omega),Int.add_zero]
theorem pfv_set_pk (tot pk pk' most:Int)(kdf:Nat→Int)(s:Value)(i:Nat):(if i=1 then Value.int .i64 pk' else pfv tot pk most kdf s i)=pfv tot pk' most kdf s i:=by
 unfold pfv
 by_cases h1:i=1
 ·rw[if_pos h1,if_neg (by omega),if_pos h1]
 ·rw[if_neg h1,if_neg h1,if_neg h1]
theorem of1_any (pb sb L:Nat)(pk:Nat)(kdf:Nat→Int)(st:Nat→Int)(q:Nat)(y p1 p2:Int)(a1 a2:Nat)(va vb:Value)(ta tb:List Int)(w:World)(hq:1≤q∧q≤7)(ha:a1≤L∧a2≤L∧L≤65536)(haa:q=1→a1≤a2)(hpk:pk≤1048576)
 (hkd:∀ c,0≤kdf c∧kdf c≤1099511627776) (hst:∀ i,0≤st i∧st i≤1099511627776) (hla:ta.length≤1048576) (hlb:tb.length≤1048576) (hva:RT0 w va ta) (hvb:RT0 w vb tb) (hna:∀ b,va.ownBlock=some b→¬ b=pb) (hnb:∀ b,vb.ownBlock=some b→¬ b=pb) (hne:pb≠sb)
 (hp:w.rowIs pb 77 14 (pfv 0 pk 0 kdf (.slice (some ⟨sb,0,none⟩) L L))) (hs:w.rowIs sb 3 L fun i=>.int .i64 (st i)):
 Calls Tryz.prog 75 #[.agg #[.int .i64 q,.int .i64 y,.int .i64 a1,.int .i64 p1,va,.int .i64 a2,.int .i64 p2,vb],.pointer (some ⟨pb,0,none⟩)] w
  fun e w'=>e=.returned (.tuple #[])∧w'.rowIs pb 77 14 (pfv 0 ((max pk (max (Mc.cnt ta) (Mc.cnt tb)):Nat):Int) 0 (fun c=>kdf c+if c=q then 1 else 0) (.slice (some ⟨sb,0,none⟩) L L)) ∧
   (w'.rowIs sb 3 L fun i=>.int .i64 (st i+if q=1∧a1≤i∧i<a2 then 1 else 0))∧Keep (fun i=>i=pb∨i=sb) w w':=by
 have H2:=hid (fun W (hk:Keep (· = pb) w W)=>sheld_any q y a1 p1 a2 p2 va vb ta tb W hla hlb (hva.keep hk hna) (hvb.keep hk hnb))
 obtain⟨A1,c1,rfl,_⟩:=hva
 obtain⟨A2,c2,rfl,_⟩:=hvb
 generalize max (Mc.cnt ta) (Mc.cnt tb)=mx at *
 generalize ta.length=N1 at *
 generalize tb.length=N2 at *
 have HP:=hid hp
 have HS:=hid hs
 have HKd:=hid (hkd q)
 have HSt:=hid hst
 have HNe:=hid hne
 have HMx:Hid (pk≤1048576):=hpk
 clear hkd hst hna hnb
 have hlt:=hp.lt
 have hls:=hs.lt
 have cp:(w.alloc (.cells #[.int .i64 q,.int .i64 y,.int .i64 a1,.int .i64 p1,.slice A1 N1 c1,.int .i64 a2,.int .i64 p2,.slice A2 N2 c2] 115)).cell? ⟨pb,3+q,none⟩=some (.int .i64 (kdf q)):=by
  rw[(hp.alloc _).cell (i:=3+q) (by omega)]
  exact congrArg some (pfv_kd _ _ _ _ _ (by omega))
 have fp:=(hp.alloc (.cells #[.int .i64 q,.int .i64 y,.int .i64 a1,.int .i64 p1,.slice A1 N1 c1,.int .i64 a2,.int .i64 p2,.slice A2 N2 c2] 115)).frozen (3+q)
 have K1:IntKind.i64.wrap (kdf q+1)=kdf q+1:=IntWalk.i64_in _ (by have:=HKd.out;omega)
 have K2:q<10:=by omega
 have K3:(q:Int)<10:=by omega
 go_enter Tryz.func75,Tryz.ntmps75
 go_wp2_with fail
 refine wpCode_world (fun W=>Keep (· = pb) w W∧w.heap.size<W.heap.size∧(W.rowIs pb 77 14 (pfv 0 pk 0 (fun c=>kdf c+if c=q then 1 else 0) (.slice (some ⟨sb,0,none⟩) L L)))∧(W.cell? ⟨w.heap.size,0,none⟩=some (.int .i64 q)∧W.cell? ⟨w.heap.size,1,none⟩=some (.int .i64 y)∧W.cell? ⟨w.heap.size,2,none⟩=some (.int .i64 a1)∧W.cell? ⟨w.heap.size,3,none⟩=some (.int .i64 p1)∧W.cell? ⟨w.heap.size,4,none⟩=some (.slice A1 N1 c1)∧W.cell? ⟨w.heap.size,5,none⟩=some (.int .i64 a2)∧W.cell? ⟨w.heap.size,6,none⟩=some (.int .i64 p2)∧W.cell? ⟨w.heap.size,7,none⟩=some (.slice A2 N2 c2))) ⟨((Keep.refl (· = pb) w).setCell _ _ rfl).alloc _,by simp,?_,?_⟩ ?_
 ·exact((HP.out.set (3+q) _).congr fun i hi=>pfv_set_kd _ _ _ _ _ (by omega) i hi).alloc _
 ·refine⟨?_,?_,?_,?_,?_,?_,?_,?_⟩<;>go_simp
 rintro W ⟨hkW,hszW,hrW,hX⟩
 clear cp fp
 have HKW:=hid hkW
 have HZW:=hid hszW
 have HRW:=hid hrW
 have HX:=hid hX
 clear hkW hszW hrW hX
 have HSS:Hid (∀ w',KW W w'→(w'.cell? ⟨pb,1,none⟩=some (.int .i64 pk)∧w'.cell? ⟨w.heap.size,0,none⟩=some (.int .i64 q)∧w'.cell? ⟨w.heap.size,1,none⟩=some (.int .i64 y)∧w'.cell? ⟨w.heap.size,2,none⟩=some (.int .i64 a1)∧w'.cell? ⟨w.heap.size,3,none⟩=some (.int .i64 p1)∧w'.cell? ⟨w.heap.size,4,none⟩=some (.slice A1 N1 c1)∧w'.cell? ⟨w.heap.size,5,none⟩=some (.int .i64 a2)∧w'.cell? ⟨w.heap.size,6,none⟩=some (.int .i64 p2)∧w'.cell? ⟨w.heap.size,7,none⟩=some (.slice A2 N2 c2))):=fun w' hq=>
  ⟨KW.cell hq HRW.out.lt (HRW.out.cell (i:=1) (by omega)),KW.cell hq HZW.out HX.out.1,KW.cell hq HZW.out HX.out.2.1,KW.cell hq HZW.out HX.out.2.2.1,KW.cell hq HZW.out HX.out.2.2.2.1,KW.cell hq HZW.out HX.out.2.2.2.2.1,KW.cell hq HZW.out HX.out.2.2.2.2.2.1,KW.cell hq HZW.out HX.out.2.2.2.2.2.2.1,KW.cell hq HZW.out HX.out.2.2.2.2.2.2.2⟩
 have hXS:=HSS.out W.drew (KW.refl W).drew
 refine wpX_region (S:=fun w'=>w'.cell? ⟨pb,1,none⟩=some (.int .i64 pk)∧w'.cell? ⟨w.heap.size,0,none⟩=some (.int .i64 q)∧w'.cell? ⟨w.heap.size,1,none⟩=some (.int .i64 y)∧w'.cell? ⟨w.heap.size,2,none⟩=some (.int .i64 a1)∧w'.cell? ⟨w.heap.size,3,none⟩=some (.int .i64 p1)∧w'.cell? ⟨w.heap.size,4,none⟩=some (.slice A1 N1 c1)∧w'.cell? ⟨w.heap.size,5,none⟩=some (.int .i64 a2)∧w'.cell? ⟨w.heap.size,6,none⟩=some (.int .i64 p2)∧w'.cell? ⟨w.heap.size,7,none⟩=some (.slice A2 N2 c2)) (L:=6) (by kernel_rfl) ?_
 refine tk 0 ?_ (fun _ _=>?_) hXS ?_
 rotate_left
 ·go_simp;try rfl
 simp only[lsz,lss]
 refine tk 1 ?_ (fun _ _=>?_) hXS ?_
 rotate_left
 ·go_simp;try rfl
 simp only[lsz,lss]
 refine tk 2 ?_ (fun _ _=>?_) hXS ?_
 rotate_left
 ·go_simp;try rfl
 simp only[lsz,lss]
 refine wpX_hard (k:=3) (by kernel_rfl) rfl (fun K hK=>?_)
 go_simp
 (refine(H2.out _ HKW.out.drew).mono ?_;rintro e w3 ⟨rfl,hb3⟩;have HB3:Hid (KW W w3):=(KW.refl W).drew.t hb3)
 refine hK _ _ (fun _=>HSS.out _ HB3.out) ?_
 clear hK K
 try simp only[lsz,lss]
 clear hXS
 have hXS:=HSS.out _ HB3.out
 refine wpX_take (i:=4) (v:=.int .i64 ((max pk mx:Nat):Int)) rfl rfl (by kernel_rfl) (fun _ _ _ h=>h) (Or.inl ⟨rfl,fun wS hwS=>?_⟩) hXS ?_
 ·go_simp
  exact maxite pk mx
 simp only[lsz,lss]
 refine tk 5 ?_ (fun _ _=>?_) hXS ?_
 rotate_left
 ·go_simp;try rfl
 simp only[lsz,lss]
 have HR3:=hid (KW.row HB3.out HRW.out.lt HRW.out)
 have c1':=HR3.out.cell (i:=1) (by omega)
 have f1':=HR3.out.frozen 1
 clear hXS
 refine wpX_hard (k:=6) (by kernel_rfl) rfl (fun K hK=>?_)
 go_simp
 refine hK _ _ (fun h=>absurd rfl h) ?_
 clear hK K c1' f1'
 refine wpX_done (by kernel_rfl) ?_
 have HSl:Hid ((w3.setCell ⟨pb,1,none⟩ (.int .i64 ((max pk mx:Nat):Int))).rowIs sb 3 L fun i=>.int .i64 (st i)):=((HKW.out.kwt HB3.out).setCell _ _ rfl).row (fun h=>HNe.out h.symm) HS.out
 have HPl:Hid ((w3.setCell ⟨pb,1,none⟩ (.int .i64 ((max pk mx:Nat):Int))).rowIs pb 77 14 (pfv 0 ((max pk mx:Nat):Int) 0 (fun c=>kdf c+if c=q then 1 else 0) (.slice (some ⟨sb,0,none⟩) L L))):=(HR3.out.set 1 _).congr fun i hi=>pfv_set_pk _ _ _ _ _ _ i
 have HKl:Hid (Keep (fun i=>i=pb∨i=sb) w (w3.setCell ⟨pb,1,none⟩ (.int .i64 ((max pk mx:Nat):Int)))):=((HKW.out.kwt HB3.out).setCell _ _ rfl).mono fun i _ h=>.inl h
 have HXl:Hid ((w3.setCell ⟨pb,1,none⟩ (.int .i64 ((max pk mx:Nat):Int))).cell? ⟨w.heap.size,0,none⟩=some (.int .i64 q)∧(w3.setCell ⟨pb,1,none⟩ (.int .i64 ((max pk mx:Nat):Int))).cell? ⟨w.heap.size,2,none⟩=some (.int .i64 a1)∧(w3.setCell ⟨pb,1,none⟩ (.int .i64 ((max pk mx:Nat):Int))).cell? ⟨w.heap.size,5,none⟩=some (.int .i64 a2)):=by
  have hnb:w.heap.size≠pb:=by omega
  have h:=HSS.out _ HB3.out
  exact⟨(World.cell?_of_block (heap_setCell_other _ _ _ _ hnb)).trans h.2.1,(World.cell?_of_block (heap_setCell_other _ _ _ _ hnb)).trans h.2.2.2.1,(World.cell?_of_block (heap_setCell_other _ _ _ _ hnb)).trans h.2.2.2.2.2.2.1⟩
 have HZl:Hid (w.heap.size<(w3.setCell ⟨pb,1,none⟩ (.int .i64 ((max pk mx:Nat):Int))).heap.size):=by have:=HB3.out.size;have:=HZW.out;simp;exact hid (by omega)
 generalize (w3.setCell ⟨pb,1,none⟩ (.int .i64 ((max pk mx:Nat):Int)))=Wl at *
 clear HSS HR3 HB3 HX HRW HZW HKW
 have HLt:Hid (sb<w.heap.size∧pb<w.heap.size):=⟨hls,hlt⟩
 clear hp hs hlt hls K1 K2 K3
 by_cases hq1:q=1
 ·have haa1:=haa hq1
  subst hq1
  have x0:=HXl.out.1
  have x2:=HXl.out.2.1
  have x5:=HXl.out.2.2
  go_wp2_with fail
  clear x0 x2 x5
  go_loopw [3] (fun i wr=>∃ j:Nat,a1≤j∧j≤a2∧i=.int .i64 j∧Hid (wr.rowIs sb 3 L fun i=>.int .i64 (st i+if a1≤i∧i<j then 1 else 0))∧Hid (Keep (· = sb) Wl wr)) (fun i _=>a2 - (intOf i).toNat)
  case atStart=>exact⟨a1,by omega,haa1,rfl,HSl.out.congr fun i hi=>by rw[if_neg (by omega),Int.add_zero],Keep.refl _ _⟩
  case round=>
   obtain⟨j,hj1,hj2,rfl,HS1,HK1⟩:=hrel
   have hnx:¬ w.heap.size=sb:=by have:=HLt.out.1;omega
   have x0:=(HK1.out.cell (o:=0) HZl.out hnx).trans HXl.out.1
   have x5:=(HK1.out.cell (o:=5) HZl.out hnx).trans HXl.out.2.2
   have HP1:=hid (HK1.out.row (fun h=>HNe.out h) HPl.out)
   by_cases hlt:j<a2
   ·have x13:=HP1.out.cell (i:=13) (by omega)
    have e13:pfv 0 ((max pk mx:Nat):Int) 0 (fun c=>kdf c+if c=1 then 1 else 0) (.slice (some ⟨sb,0,none⟩) L L) 13=.slice (some ⟨sb,0,none⟩) L L:=rfl
    rw[e13] at x13
    have xs:=HS1.out.cell (i:=j) (by omega)
    have fs:=HS1.out.frozen j
    rw[if_neg (by omega),Int.add_zero] at xs
    have L5:(j:Int)<(a2:Int):=by omega
    have L6:(j:Int)<(L:Int):=by omega
    have L7:j<L:=by omega
    have K1:IntKind.i64.wrap (st j+1)=st j+1:=IntWalk.i64_in _ (by have:=HSt.out j;omega)
    clear e13
    go_wp2_with fail
    have HS2:Hid ((wr.setCell ⟨sb,j,none⟩ (.int .i64 (st j+1))).rowIs sb 3 L fun i=>.int .i64 (st i+if a1≤i∧i<j+1 then 1 else 0)):=(HS1.out.set j _).congr fun i hi=>by
     by_cases e:i=j
     ·subst e;rw[if_pos rfl,if_pos ⟨hj1,by omega⟩]
     ·rw[if_neg e]
      by_cases e2:a1≤i∧i<j
      ·rw[if_pos e2,if_pos ⟨e2.1,by omega⟩]
      ·rw[if_neg e2,if_neg (by omega)]
    have HK2:Hid (Keep (· = sb) Wl (wr.setCell ⟨sb,j,none⟩ (.int .i64 (st j+1)))):=HK1.out.setCell _ _ rfl
    go_roundw
    case rel=>exact⟨j+1,by omega,by omega,by go_num,HS2,HK2⟩
    case measure=>simp[intOf];omega
   ·obtain rfl:j=a2:=by omega
    clear hlt
    go_wp2_with fail
    refine bodyPost_end (results_none rfl _ _ _) rfl ?_
    exact⟨rfl,HP1.out,HS1.out.congr fun i hi=>by
     by_cases e2:a1≤i∧i<j
     ·simp[e2]
     ·simp[e2],HKl.out.trans HK1.out fun i _ h=>.inr h⟩
 ·have d1:((q:Int)==1)=false:=by simpa using fun h:(q:Int)=1=>hq1 (by omega)
  have d2:(q==1)=false:=by simpa using hq1
  have HQ:=hid hq1
  clear hq1
  have x0:=HXl.out.1
  have x2:=HXl.out.2.1
  have x5:=HXl.out.2.2
  go_wp2_with fail
  clear x0 x2 x5
  go_loopw [3] (fun i wr=>i=.int .i64 a1∧wr=Wl) (fun i _=>0)
  case atStart=>exact⟨rfl,rfl⟩
  case round=>
   obtain⟨rfl,rfl⟩:=hrel
   have x0:=HXl.out.1
   go_wp2_with fail
   refine bodyPost_end (results_none rfl _ _ _) rfl ?_
   exact⟨rfl,HPl.out,HSl.out.congr fun i hi=>by rw[if_neg fun h=>HQ.out h.1,Int.add_zero],HKl.out⟩
def OfJ (pb sb L:Nat)(m0:Mc.St)(list:List Mc.Act)(k:Nat)(H:Nat→Prop)(w:World):Prop:=
 w.rowIs pb 77 14 (pfv 0 (Mc.peak m0 list k) 0 (fun c=>Mc.kd list c k) (.slice (some ⟨sb,0,none⟩) L L))∧(w.rowIs sb 3 L fun i=>.int .i64 (Mc.sp m0 list i k))∧∀ i,H i↔i=pb∨i=sb
theorem see_of (l:Int)(n L:Nat)(l0:0≤l)(l1:l<65536)(hn:n≤1048576)(hL:(L:Int)=l)(list:List Mc.Act)(hlen:list.length≤1099511627776)(pb sb:Nat)(hne:pb≠sb):
 See 75 #[.pointer (some ⟨pb,0,none⟩)] (Mc.new l n) list (OfJ pb sb L (Mc.new l n) list):=by
 refine⟨fun args W=>by kernel_rfl,fun k H w h i hi=>?_,fun k H w w' O h hk hn'=>?_,fun k H w va vb hkl hok hJ ha hb hxa hxb=>?_⟩
 ·rcases(h.2.2 i).1 hi with rfl|rfl
  ·exact h.1.lt
  ·exact h.2.1.lt
 ·exact⟨hk.row (hn' _ ((h.2.2 _).2 (.inl rfl))) h.1,hk.row (hn' _ ((h.2.2 _).2 (.inr rfl))) h.2.1,h.2.2⟩
 ·obtain⟨h1,h2,hH⟩:=hJ
  have hI:=Mc.new_inv l n l0 l1 hn
  have hI1:=Mc.up_inv hI list k
  have hI2:=Mc.up_inv hI list (k+1)
  have hl1:=Mc.up_l (Mc.new l n) list k
  have hl2:=Mc.up_l (Mc.new l n) list (k+1)
  have hnl:(Mc.new l n).l=l:=rfl
  have hlen1:(Mc.up (Mc.new l n) list k).tags.length≤1048576:=by rw[Mc.up_len];simpa [Mc.new] using hn
  have hlen2:(Mc.up (Mc.new l n) list (k+1)).tags.length≤1048576:=by rw[Mc.up_len];simpa [Mc.new] using hn
  have hr:=(Mc.right_of_er (hok k (by omega))).2
  have hadv:=(Mc.step_adv (hok k (by omega))).1
  have hpk:Mc.peak (Mc.new l n) list k≤1048576:=Nat.le_trans (Mc.peak_le _ _ _) (by simpa [Mc.new] using hn)
  have e1:∃ q:Nat,(list.getD k (0,0)).1=q:=⟨(list.getD k (0,0)).1.toNat,by omega⟩
  have e2:∃ a1:Nat,(Mc.up (Mc.new l n) list k).at_=a1:=⟨(Mc.up (Mc.new l n) list k).at_.toNat,by have:=hI1.a0;omega⟩
  have e3:∃ a2:Nat,(Mc.up (Mc.new l n) list (k+1)).at_=a2:=⟨(Mc.up (Mc.new l n) list (k+1)).at_.toNat,by have:=hI2.a0;omega⟩
  obtain⟨q,e1⟩:=e1
  obtain⟨a1,e2⟩:=e2
  obtain⟨a2,e3⟩:=e3
  have hc:=of1_any pb sb L (Mc.peak (Mc.new l n) list k) (fun c=>Mc.kd list c k) (fun i=>Mc.sp (Mc.new l n) list i k) q (list.getD k (0,0)).2 (Mc.up (Mc.new l n) list k).pend (Mc.up (Mc.new l n) list (k+1)).pend a1 a2 va vb _ _ w (by omega)
   (by have:=hI1.a1;have:=hI2.a1;omega) (fun hq=>by
     obtain⟨h1,_,h3,_⟩:=hadv (by omega)
     have h5:(Mc.up (Mc.new l n) list (k+1)).at_=(Mc.up (Mc.new l n) list k).at_+(list.getD k (0,0)).2:=h1
     omega) hpk (fun c=>by have:=Mc.kd_b list c k;omega) (fun i=>by have:=Mc.sp_b (Mc.new l n) list i k;omega) hlen1 hlen2 ha hb (fun b hb' h=>hxa b hb' ((hH b).2 (.inl h))) (fun b hb' h=>hxb b hb' ((hH b).2 (.inl h))) hne h1 h2
  unfold sightV
  rw[e1,e2,e3]
  refine hc.mono fun e w' h=>?_
  obtain⟨he,h3,h4,h5⟩:=h
  refine⟨he,H,⟨?_,h4.congr fun i hi=>?_,hH⟩,h5.mono fun i _ hi=>(hH i).2 hi,fun i hi=>.inl hi⟩
  ·refine h3.congr fun i hi=>?_
   have e5:(fun c:Nat=>Mc.kd list c k+if c=q then 1 else 0)=fun c:Nat=>Mc.kd list c (k+1):=by
    funext c
    simp only[Mc.kd]
    rw[e1]
    by_cases h:c=q
    ·rw[if_pos h,if_pos (by omega)]
    ·rw[if_neg h,if_neg (by omega)]
   rw[e5]
   rfl
  ·simp only[Mc.sp,Mc.one]
   rw[e1,e2,e3]
   by_cases h:q=1∧a1≤i∧i<a2
   ·rw[if_pos h,if_pos ⟨by omega,by omega,by omega⟩]
   ·rw[if_neg h,if_neg (by omega)]
theorem foldl_take (l:List Int)(x:Int){k:Nat}(h:k<l.length):(l.take (k+1)).foldl max x=max ((l.take k).foldl max x) (l.getD k 0):=by
 rw[List.take_succ_eq_append_getElem h,List.foldl_append]
 simp[List.getD_eq_getElem?_getD,List.getElem?_eq_getElem h]
theorem foldl_top (f:Nat→Int)(n:Nat):((List.range n).map f).foldl max 0=Mc.top f n:=by
 induction n with
 | zero=>rfl
 | succ n ih=>rw[List.range_succ,List.map_append,List.foldl_append,ih];rfl
theorem smax_any (v:Value)(x:Int)(l:List Int)(w:World)(hl:l.length≤1099511627776)(h:IWp w v (x::l)):
 Calls Tryz.prog 76 #[v] w fun e w'=>e=.returned (.int .i64 (l.foldl max x))∧KW w w':=by
 obtain⟨A,c,rfl,hr⟩:=h
 have HR:=hid hr
 obtain⟨b0,o0,rfl,hb0,hc0⟩:=hr.at_ (k:=0) (by simp)
 have e0:(x::l).getD 0 0=x:=rfl
 rw[e0,Nat.add_zero] at hc0
 have HF:=hid (fun k (h:k<l.length)=>foldl_take l x h)
 have HE:=hid (show(l.take l.length).foldl max x=l.foldl max x by rw[List.take_length])
 have H0:=hid (show(l.take 0).foldl max x=x from rfl)
 have HC:=hid (fun k (h:k<l.length)=>(show(x::l).getD (k+1) 0=l.getD k 0 by simp))
 rw[List.length_cons] at HR
 clear hr e0
 rw[List.length_cons]
 generalize l.foldl max x=r at *
 generalize l.length=N at *
 have L1:decide ((N:Int)+1<1)=false:=decide_eq_false (by omega)
 have L2:(0:Int)<(N:Int)+1:=by omega
 have L3:¬ (N+1<1):=by omega
 go_enter Tryz.func76,Tryz.ntmps76
 go_wp2_with fail
 go_loop [3,4] (fun m i=>∃ k:Nat,k≤N∧i=.int .i64 ((k:Int)+1)∧m=.int .i64 ((l.take k).foldl max x)) (fun _ i=>N+1 - (intOf i).toNat)
 case atStart=>exact⟨0,by omega,rfl,by rw[H0.out]⟩
 case round=>
  obtain⟨k,hk,rfl,rfl⟩:=hrel
  by_cases hlt:k<N
  ·obtain⟨b1,o1,hA,hb1,hc1⟩:=HR.out.at_ (k:=k+1) (by omega)
   cases hA
   have hF:=HF.out k hlt
   rw[HC.out k hlt] at hc1
   have HF1:=hid hF
   clear hF
   generalize (l.take k).foldl max x=m at *
   generalize l.getD k 0=y at *
   have L5:(k:Int)+1<(N:Int)+1:=by omega
   have L7:((k:Int)+1).toNat=k+1:=by omega
   have L8:(0:Int)≤(k:Int)+1:=by omega
   by_cases hm:m<y
   ·have HF2:Hid ((l.take (k+1)).foldl max x=y):=by rw[HF1.out];exact hid (by omega)
    go_wp2_with fail
    go_round
    case rel=>exact⟨k+1,by omega,by go_num,by rw[HF2.out]⟩
    case measure=>simp[intOf];omega
   ·have HF2:Hid ((l.take (k+1)).foldl max x=m):=by rw[HF1.out];exact hid (by omega)
    have hm2:(m<y)=False:=by simpa using hm
    clear hm
    go_wp2_with fail
    go_round
    case rel=>exact⟨k+1,by omega,by go_num,by rw[HF2.out]⟩
    case measure=>simp[intOf];omega
  ·obtain rfl:k=N:=by omega
   clear hlt
   go_wp2_with fail
   go_ret
   exact⟨by rw[← HE.out];rfl,KW.refl w⟩
end Go.Proofs.YtphppbonljdibaaGreat
