import Derived.Test.YtphppbonljdibaaGreatTB02
import Derived.OneCell
import Derived.Laws.Rows
import Derived.RegionTactic
import Derived.Laws.OwnMore
set_option maxRecDepth 100000
set_option maxHeartbeats 4000000
set_option linter.unusedVariables false
set_option linter.unusedSimpArgs false
namespace Go.Proofs.YtphppbonljdibaaGreat
open Go.ChangeShapes Go.WideShapes Go.ChangeAt Go.RowKit
theorem Fl.wk1_len {o:Fl.O}{i:Nat}{opn opn':List Nat}(h:Fl.wk1 o i opn=some opn'):opn'.length≤opn.length+1:=by
 unfold Fl.wk1 at h
 by_cases h1:o.k<0∨7<o.k
 ·rw[if_pos h1] at h
  cases h
 rw[if_neg h1] at h
 by_cases h2:o.k=0
 ·rw[if_pos h2] at h
  cases opn with
  | nil=>cases h
  | cons a r=>cases h;simp;omega
 rw[if_neg h2] at h
 by_cases h3:o.k=7
 ·rw[if_pos h3] at h
  cases h
  simp
 ·rw[if_neg h3] at h
  cases h
  omega
def Var (w:World)(g:Nat)(t:TypeId)(v:Value):Prop:=w.heap[g]?=some (.cells #[v] t (0,0))
theorem Var.lt {w:World}{g:Nat}{t:TypeId}{v:Value}(h:Var w g t v):g<w.heap.size:=(Array.getElem?_eq_some_iff.1 h).1
theorem Var.cell {w:World}{g:Nat}{t:TypeId}{v:Value}(h:Var w g t v):w.cell? ⟨g,0,none⟩=some v:=by
 unfold World.cell?
 rw[show w.heap[g]?=_ from h]
 rfl
theorem Var.keep {own:Nat→Prop}{w w':World}{g:Nat}{t:TypeId}{v:Value}(h:Var w g t v)(hk:Keep own w w')(hn:¬ own g):Var w' g t v:=(hk.block g h.lt hn).trans h
theorem Var.new (w:World)(t:TypeId)(v:Value):Var (w.alloc (.cells #[v] t)) w.heap.size t v:=heap_alloc_new w _
theorem Var.set {w:World}{g:Nat}{t:TypeId}{v:Value}(h:Var w g t v)(u:Value):Var (w.setCell ⟨g,0,none⟩ u) g t u:=one_setCell h
theorem Var.frozen {w:World}{g:Nat}{t:TypeId}{v:Value}(h:Var w g t v):w.frozen? ⟨g,0,none⟩=false:=by
 unfold World.frozen?
 rw[show w.heap[g]?=_ from h]
 rfl
structure DeepJ (bl g:Nat)(A:Option Addr)(c:Nat)(l:List Fl.O)(k:Nat)(opn:List Nat)(H:Nat→Prop)(w:World):Prop where
 ls:Var w bl 23 (.slice A l.length c)
 ops:OpsM w A l
 low:0<l.length→∀ b off,A=some ⟨b,off,none⟩→b<bl
 own:∀ i,H i↔i=g
 deep:∃ m:Nat,m≤l.length∧Var w g 3 (.int .i64 m)∧Fl.dps l 0 [] 0=Fl.dps (l.drop k) k opn m
theorem deep1_any (bl g:Nat)(hbg:bl<g)(A:Option Addr)(c:Nat)(l:List Fl.O)(hlen:l.length≤1099511627776)(k:Nat)(opn opn':List Nat)(H:Nat→Prop)(w:World)(u:Option Addr)(n cu:Nat)(hk:k<l.length)
 (hw:Fl.wk1 (l.getD k Fl.o0) k opn=some opn') (hok:opn.length≤k) (hJ:DeepJ bl g A c l k opn H w) (hn:(l.getD k Fl.o0).k=7→n=opn.length) (hn0:n≤1099511627776):
 Calls Tryz.prog 266 #[.int .i64 k,.slice u n cu,.pointer (some ⟨bl,0,none⟩),.pointer (some ⟨g,0,none⟩)] w fun e w'=>e=.returned (.tuple #[])∧∃ H',DeepJ bl g A c l (k+1) opn' H' w'∧Keep H w w'∧∀ i,H' i→H i∨w.heap.size≤i:=by
 obtain⟨b,off,hA,hb,d0,_⟩:=hJ.ops.at_ hk
 obtain⟨m,hm,hv,hd⟩:=hJ.deep
 have hst:=Fl.dps_step hk opn m
 rw[hw] at hst
 have HD:=hid (hd.trans hst)
 have c0:=hJ.ls.cell
 have c1:=hv.cell
 have HJ:=hid hJ
 have HV:=hid hv
 have HA:=hid hA
 generalize hN:l.length=N at *
 have HN:=hid hN
 subst hA
 generalize (l.getD k Fl.o0).k=x at *
 clear hJ hv hd hst hw
 by_cases h7:x=7
 ·subst h7
  obtain rfl:=hn rfl
  have HO:=hid hok
  generalize hp:opn.length=p at *
  have e1:(max (m:Int) ((p:Int)+1))=((max m (p+1):Nat):Int):=by omega
  go_enter Tryz.func266,Tryz.ntmps266
  have f1:=HV.out.frozen
  have HE:∀ q:Int,q=((max m (p+1):Nat):Int)→Hid (Var (w.setCell ⟨g,0,none⟩ (.int .i64 q)) g 3 (.int .i64 ((max m (p+1):Nat):Int))):=fun q hq=>by rw[hq];exact hid (HV.out.set _)
  go_wp2_with fail
  all_goals refine bodyPost_end (results_none rfl _ _ _) rfl ?_
  all_goals
   refine⟨rfl,H,⟨HJ.out.ls.keep ((Keep.refl (· = g) w).setCell _ _ rfl) (by omega),HJ.out.ops.keep ((Keep.refl (· = g) w).setCell _ _ rfl) ?_,HJ.out.low,HJ.out.own,max m (p+1),by omega,(HE _ (by omega)).out,?_⟩,(Keep.refl H w).setCell _ _ ((HJ.out.own g).2 rfl),fun i h=>.inl h⟩
   ·intro h0 b' off' h1 h2
    have h3:=HJ.out.low h0 b' off' h1
    omega
   ·have h1:=HD.out
    simpa using h1
 ·have e1:(x==7)=false:=beq_eq_false_iff_ne.2 h7
  have HX:=hid h7
  clear h7
  go_enter Tryz.func266,Tryz.ntmps266
  go_wp2_with fail
  refine bodyPost_end (results_none rfl _ _ _) rfl ?_
  refine⟨rfl,H,⟨HJ.out.ls,HJ.out.ops,HJ.out.low,HJ.out.own,m,by rw[HN.out];exact hm,HV.out,?_⟩,Keep.refl _ _,fun i h=>.inl h⟩
  have h1:=HD.out
  rw[if_neg HX.out] at h1
  exact h1
theorem see_deep (bl g n:Nat)(hbg:bl<g)(hgn:g<n)(A:Option Addr)(c:Nat)(l:List Fl.O)(hlen:l.length≤1099511627776):
 SeeN 266 #[.pointer (some ⟨bl,0,none⟩),.pointer (some ⟨g,0,none⟩)] l n (DeepJ bl g A c l):=by
 refine⟨fun args W=>by kernel_rfl,fun k o H w h i hi=>?_,fun k o H w w' O h hk hn hO=>?_,fun k opn opn' H w u cu hk hw hok hJ hO hH=>?_⟩
 ·obtain⟨m,_,hv,_⟩:=h.deep
  rw[(h.own i).1 hi]
  exact hv.lt
 ·obtain⟨m,hm,hv,hd⟩:=h.deep
  refine⟨h.ls.keep hk fun h1=>?_,h.ops.keep hk fun h0 b off h1 h2=>?_,h.low,h.own,m,hm,hv.keep hk (hn g ((h.own g).2 rfl)),hd⟩
  ·have h2:=hO _ h1
   omega
  ·have h3:=hO _ h2
   have h4:=h.low h0 b off h1
   omega
 ·refine deep1_any bl g hbg A c l hlen k opn opn' H w u _ cu hk hw hok hJ (fun h=>?_) ?_
  ·rw[if_neg (by omega)]
  ·split
   ·have h1:=Fl.wk1_len hw
    omega
   ·omega
theorem deep_any (A:Option Addr)(c:Nat)(l:List Fl.O)(w:World)(hlen:l.length≤1099511627776)(hA:OpsM w A l):
 Calls Tryz.prog 257 #[.slice A l.length c] w fun e w'=>KW w w'∧((Fl.wk l 0 []=some []∧e=.returned (.tuple #[.int .i64 (Fl.dps l 0 [] 0),.int .i64 0]))∨(Fl.wk l 0 []≠some []∧e=.returned (.tuple #[.int .i64 0,.int .i64 6]))):=by
 have hk0:=((KW.refl w).alloc (.cells #[.slice A l.length c] 23)).alloc (.cells #[.int .i64 0] 3)
 have HWt:=hid (nwalk_any A c l 266 #[.pointer (some ⟨w.heap.size,0,none⟩),.pointer (some ⟨w.heap.size+1,0,none⟩)] (DeepJ w.heap.size (w.heap.size+1) A c l) (· = w.heap.size+1) ((w.alloc (.cells #[.slice A l.length c] 23)).alloc (.cells #[.int .i64 0] 3)) hlen (hA.kw hk0)
  (fun h0 b off h1 h2=>by obtain⟨b',off',h3,h4,_⟩:=hA h0;rw[h3] at h1;cases h1;omega)
  (see_deep w.heap.size (w.heap.size+1) _ (by omega) (by simp) A c l hlen)
  ⟨(Var.new w _ _).keep (((KW.refl _).alloc _).keep (own:=fun _=>False)) id,hA.kw hk0,fun h0 b off h1=>by obtain⟨b',off',h3,h4,_⟩:=hA h0;rw[h3] at h1;cases h1;exact h4,fun i=>Iff.rfl,0,Nat.zero_le _,by simpa using Var.new (w.alloc (.cells #[.slice A l.length c] 23)) 3 (.int .i64 0),rfl⟩)
 unfold WalkP at HWt
 have HK:=hid hk0
 clear hA hk0
 generalize hN:l.length=N at *
 have HN:=hid hN
 clear hN
 go_enter Tryz.func257,Tryz.ntmps257
 go_wp2_with fail
 refine HWt.out.mono ?_
 rintro e w1 ⟨hk1,h⟩
 have HK1:Hid (KW w w1):=hid (HK.out.kept hk1 fun i h=>by omega)
 clear hk1
 rcases h with⟨hw,rfl,H,hj,_⟩|⟨hw,rfl⟩
 ·obtain⟨m,hm,hv,hd⟩:=hj.deep
  have HM:Hid (Fl.dps l 0 [] 0=m):=by
   rw[hd,List.drop_eq_nil_of_le (by rw[HN.out];exact Nat.le_refl _)]
   rfl
  have HW:=hid hw
  have c0:=hv.cell
  clear hv hd hj hw
  go_wp2_with fail
  go_ret2
  refine⟨HK1.out,.inl ⟨HW.out,?_⟩⟩
  rw[HM.out]
  rfl
 ·have HW:=hid hw
  clear hw
  go_wp2_with fail
  go_ret2
  exact⟨HK1.out,.inr ⟨HW.out,rfl⟩⟩
def ivs (l:List Int):List Value:=l.map fun x=>.int .i64 x
theorem ivs_set (l:List Int)(i:Nat)(x:Int):(ivs l).set i (.int .i64 x)=ivs (l.set i x):=by simp[ivs,List.map_set]
theorem ivs_len (l:List Int):(ivs l).length=l.length:=by simp[ivs]
theorem Owns.put {w:World}{base N c:Nat}{e:TypeId}{A:Option Addr}{xs:List Value}(h:Owns w base e (.slice A N c) xs){i:Nat}(hi:i<xs.length)(u:Value):
 ∃ b,A=some ⟨b,0,none⟩∧N=xs.length∧base≤b∧b<w.heap.size∧w.frozen? ⟨b,i,none⟩=false∧w.cell? ⟨b,i,none⟩=xs[i]?∧Owns (w.setCell ⟨b,i,none⟩ u) base e (.slice A N c) (xs.set i u):=by
 have hx:=h
 unfold Owns at hx
 rcases hx.2 with⟨_,h0⟩|⟨g,cap,cur,hv,hb,hg,hc,hm,hs,ht⟩
 ·omega
 ·cases hv
  refine⟨g,rfl,rfl,hb,(Array.getElem?_eq_some_iff.1 hg).1,?_,?_,?_⟩
  ·unfold World.frozen?
   rw[hg]
   rfl
  ·rw[← ht,List.getElem?_take,if_pos (by omega),Array.getElem?_toList]
   unfold World.cell?
   rw[hg]
   rfl
  ·unfold Owns
   rw[List.length_set]
   refine⟨by rw[List.length_set];exact hx.1,.inr ⟨g,c,cur.setIfInBounds i u,rfl,hb,heap_setCell_same w g i cur e u hg,hc,hm,by simpa using hs,?_⟩⟩
   rw[Array.toList_setIfInBounds,List.take_set]
   exact congrArg (fun L=>List.set L i u) ht
structure MatchJ (bl g h:Nat)(A:Option Addr)(c:Nat)(base:Nat)(vo:Value)(l:List Fl.O)(k:Nat)(opn:List Nat)(H:Nat→Prop)(w:World):Prop where
 ls:Var w bl 23 (.slice A l.length c)
 ops:OpsM w A l
 low:0<l.length→∀ b off,A=some ⟨b,off,none⟩→b<bl
 gs:bl<base∧base≤g∧base≤h∧g≠h
 ex:∃ (mt:List Int) (u:Value),Var w g 56 vo∧Var w h 56 u∧Owns w base 3 vo (ivs mt)∧Owns w base 3 u (nts opn)∧mt.length=l.length∧(∀ i,i∈opn→i<k) ∧
  Fl.mts l 0 [] (Fl.mt0 l)=Fl.mts (l.drop k) k opn mt∧(∀ i,H i↔i=g∨i=h∨vo.ownBlock=some i∨u.ownBlock=some i)∧(∀ i,vo.ownBlock=some i→i≠g∧i≠h∧¬ u.ownBlock=some i)∧∀ i,u.ownBlock=some i→i≠g∧i≠h
theorem MatchJ.lt {bl g h:Nat}{A:Option Addr}{c base:Nat}{vo:Value}{l:List Fl.O}{k:Nat}{opn:List Nat}{H:Nat→Prop}{w:World}(hJ:MatchJ bl g h A c base vo l k opn H w):∀ i,H i→i<w.heap.size:=by
 obtain⟨mt,u,v1,v2,o1,o2,_,_,_,hH,_⟩:=hJ.ex
 intro i hi
 rcases(hH i).1 hi with rfl|rfl|h|h
 ·exact v1.lt
 ·exact v2.lt
 ·exact(o1.lt h).2
 ·exact(o2.lt h).2
theorem MatchJ.keep {bl g h:Nat}{A:Option Addr}{c base n:Nat}{vo:Value}{l:List Fl.O}{k:Nat}{opn:List Nat}{H O:Nat→Prop}{w w':World}(hJ:MatchJ bl g h A c base vo l k opn H w)(hk:Keep O w w')(hn:∀ i,H i→¬ O i)(hO:∀ i,O i→n≤i)(hb:base≤n):MatchJ bl g h A c base vo l k opn H w':=by
 obtain⟨mt,u,v1,v2,o1,o2,e1,e2,e3,hH,e4,e5⟩:=hJ.ex
 have hg:=hJ.gs
 refine⟨hJ.ls.keep hk fun h1=>?_,hJ.ops.keep hk fun h0 b off h1 h2=>?_,hJ.low,hJ.gs,mt,u,v1.keep hk (hn _ ((hH _).2 (.inl rfl))),v2.keep hk (hn _ ((hH _).2 (.inr (.inl rfl)))),hk.owns o1 fun i hi=>hn _ ((hH _).2 (.inr (.inr (.inl hi)))),hk.owns o2 fun i hi=>hn _ ((hH _).2 (.inr (.inr (.inr hi)))),e1,e2,e3,hH,e4,e5⟩
 ·have h2:=hO _ h1
  omega
 ·have h3:=hO _ h2
  have h4:=hJ.low h0 b off h1
  omega
theorem Owns.puti {w:World}{base N c:Nat}{e:TypeId}{A:Option Addr}{l:List Int}(h:Owns w base e (.slice A N c) (ivs l)){i:Nat}(hi:i<l.length)(x:Int):
 ∃ b,A=some ⟨b,0,none⟩∧N=l.length∧base≤b∧b<w.heap.size∧w.frozen? ⟨b,i,none⟩=false∧w.cell? ⟨b,i,none⟩=some (.int .i64 (l.getD i 0))∧Owns (w.setCell ⟨b,i,none⟩ (.int .i64 x)) base e (.slice A N c) (ivs (l.set i x)):=by
 obtain⟨b,h1,h2,h3,h4,h5,h6,h7⟩:=h.put (i:=i) (by rw[ivs_len];exact hi) (.int .i64 x)
 refine⟨b,h1,by rw[← ivs_len l];exact h2,h3,h4,h5,?_,by rw[← ivs_set];exact h7⟩
 rw[h6]
 simp[ivs,hi]
theorem match1_op (bl g h:Nat)(A:Option Addr)(c base:Nat)(vo:Value)(l:List Fl.O)(hlen:l.length≤1099511627776)(k:Nat)(opn:List Nat)(H:Nat→Prop)(w:World)(va:Value)(hk:k<l.length)
 (h1:1≤(l.getD k Fl.o0).k) (h6:(l.getD k Fl.o0).k≤6) (hJ:MatchJ bl g h A c base vo l k opn H w):
 Calls Tryz.prog 171 #[.int .i64 k,va,.pointer (some ⟨g,0,none⟩),.pointer (some ⟨bl,0,none⟩),.pointer (some ⟨h,0,none⟩)] w fun e w'=>e=.returned (.tuple #[])∧∃ H',MatchJ bl g h A c base vo l (k+1) opn H' w'∧Keep H w w'∧∀ i,H' i→H i∨w.heap.size≤i:=by
 obtain⟨b,off,rfl,hb,d0,_⟩:=hJ.ops.at_ hk
 obtain⟨mt,u,v1,v2,o1,o2,e1,e2,e3,hH,e4,e5⟩:=hJ.ex
 obtain⟨Ao,co,rfl,_⟩:=o1.row
 rw[ivs_len] at *
 obtain⟨bo,rfl,hN,hbb,hbl,f1,q1,o3⟩:=o1.puti (i:=k) (by omega) (-1)
 have hs:=Fl.mts_step hk opn mt
 have hw:=Fl.wk1_op (i:=k) (opn:=opn) h1 h6
 have hm:Fl.mt1 (l.getD k Fl.o0) k opn mt=mt.set k (-1):=by
  unfold Fl.mt1
  rw[if_neg (by omega)]
 rw[hw,hm] at hs
 have hE:=hid (e3.trans hs)
 have c0:=hJ.ls.cell
 have c1:=v1.cell
 have hKp:Keep (· = bo) w (w.setCell ⟨bo,k,none⟩ (.int .i64 (-1))):=(Keep.refl _ w).setCell _ _ rfl
 have hlow:=hJ.low (by omega) b off rfl
 have hgs:=hJ.gs
 have c2:=(hKp.cell (b:=bl) (o:=0) hJ.ls.lt (by omega)).trans c0
 have d1:=(hKp.cell (b:=b) (o:=off+k * 5) hb (by omega)).trans d0
 have n1:=e4 bo rfl
 have HF:Hid (∃ H',MatchJ bl g h (some ⟨b,off,none⟩) c base (.slice (some ⟨bo,0,none⟩) mt.length co) l (k+1) opn H' (w.setCell ⟨bo,k,none⟩ (.int .i64 (-1)))∧Keep H w (w.setCell ⟨bo,k,none⟩ (.int .i64 (-1)))∧∀ i,H' i→H i∨w.heap.size≤i):=by
  refine hid ⟨H,⟨hJ.ls.keep hKp (by omega),hJ.ops.keep hKp (fun _ b' off' h h'=>?_),hJ.low,hJ.gs,mt.set k (-1),u,v1.keep hKp (fun h=>n1.1 h.symm),v2.keep hKp (fun h=>n1.2.1 h.symm),o3,hKp.owns o2 (fun i hi hi'=>?_),by rw[List.length_set];exact e1,fun i hi=>Nat.lt_succ_of_lt (e2 i hi),?_,hH,e4,e5⟩,(Keep.refl H w).setCell _ _ ((hH _).2 (.inr (.inr (.inl rfl)))),fun i hi=>.inl hi⟩
  ·cases h
   omega
  ·subst hi'
   exact n1.2.2 hi
  ·exact hE.out
 have hx0:((l.getD k Fl.o0).k==7)=false:=beq_eq_false_iff_ne.2 (by omega)
 have hx1:((l.getD k Fl.o0).k==0)=false:=beq_eq_false_iff_ne.2 (by omega)
 generalize (l.getD k Fl.o0).k=x at *
 generalize hNN:mt.length=M at *
 have hkM:k<M:=by omega
 have hkl:k<l.length:=hk
 generalize l.length=N at *
 clear hE e3 hs o1 o2 o3 hJ v1 v2 hKp hm hw h1 h6 e1 hH e4 e5 e2
 go_enter Tryz.func171,Tryz.ntmps171
 go_wp2_with fail
 refine bodyPost_end (results_none rfl _ _ _) rfl ?_
 exact⟨rfl,HF.out⟩
theorem match1_rep (bl g h:Nat)(A:Option Addr)(c base:Nat)(vo:Value)(l:List Fl.O)(hlen:l.length≤1099511627776)(k:Nat)(opn:List Nat)(H:Nat→Prop)(w:World)(va:Value)(hk:k<l.length)(hok:opn.length≤k)
 (h7:(l.getD k Fl.o0).k=7) (hJ:MatchJ bl g h A c base vo l k opn H w):
 Calls Tryz.prog 171 #[.int .i64 k,va,.pointer (some ⟨g,0,none⟩),.pointer (some ⟨bl,0,none⟩),.pointer (some ⟨h,0,none⟩)] w fun e w'=>e=.returned (.tuple #[])∧∃ H',MatchJ bl g h A c base vo l (k+1) (k::opn) H' w'∧Keep H w w'∧∀ i,H' i→H i∨w.heap.size≤i:=by
 obtain⟨b,off,rfl,hb,d0,_⟩:=hJ.ops.at_ hk
 obtain⟨mt,u,v1,v2,o1,o2,e1,e2,e3,hH,e4,e5⟩:=hJ.ex
 obtain⟨Ao,co,rfl,_⟩:=o1.row
 obtain⟨Au,cu,rfl,_⟩:=o2.row
 rw[ivs_len] at *
 rw[nts_len] at *
 obtain⟨bo,rfl,hN,hbb,hbl,f1,q1,o3⟩:=o1.puti (i:=k) (by omega) (-1)
 have hs:=Fl.mts_step hk opn mt
 have hw:=Fl.wk1_rep (i:=k) (opn:=opn) h7
 have hm:Fl.mt1 (l.getD k Fl.o0) k opn mt=mt.set k (-1):=by
  unfold Fl.mt1
  rw[if_neg (by omega)]
 rw[hw,hm] at hs
 have hE:=hid (e3.trans hs)
 have c0:=hJ.ls.cell
 have c1:=v1.cell
 have hKp:Keep (· = bo) w (w.setCell ⟨bo,k,none⟩ (.int .i64 (-1))):=(Keep.refl _ w).setCell _ _ rfl
 have hlow:=hJ.low (by omega) b off rfl
 have hgs:=hJ.gs
 have c2:=(hKp.cell (b:=bl) (o:=0) hJ.ls.lt (by omega)).trans c0
 have d1:=(hKp.cell (b:=b) (o:=off+k * 5) hb (by omega)).trans d0
 have n1:=e4 bo rfl
 have v2':=v2.keep hKp (fun h=>n1.2.1 h.symm)
 have c3:=v2'.cell
 have HO2:=hid (hKp.owns o2 (fun i hi hi'=>by subst hi';exact n1.2.2 hi))
 have HV2:=hid (v2'.keep (((KW.refl _).alloc (.cells #[.int .i64 (k:Int)] 3)).keep (own:=fun _=>False)) id)
 have hge:∀ i,H i→base≤i:=fun i hi=>by
  rcases(hH i).1 hi with rfl|rfl|h|h
  ·exact hgs.2.1
  ·exact hgs.2.2.1
  ·exact(o1.lt h).1
  ·exact(o2.lt h).1
 have HF:∀ (v7:Value) (w7:World),Owns w7 base 3 v7 (nts (k::opn))→Keep (fun i=>(Value.slice Au opn.length cu).ownBlock=some i) ((w.setCell ⟨bo,k,none⟩ (.int .i64 (-1))).alloc (.cells #[.int .i64 (k:Int)] 3)) w7→(v7.ownBlock=(Value.slice Au opn.length cu).ownBlock∨∃ j,v7.ownBlock=some j∧(w.setCell ⟨bo,k,none⟩ (.int .i64 (-1))).heap.size≤j) →
  ∃ H',MatchJ bl g h (some ⟨b,off,none⟩) c base (.slice (some ⟨bo,0,none⟩) mt.length co) l (k+1) (k::opn) H' (w7.setCell ⟨h,0,none⟩ v7)∧Keep H w (w7.setCell ⟨h,0,none⟩ v7)∧∀ i,H' i→H i∨w.heap.size≤i:=by
  intro v7 w7 o7 hk7 hv7
  have hk8:Keep (· = h) w7 (w7.setCell ⟨h,0,none⟩ v7):=(Keep.refl _ w7).setCell _ _ rfl
  have hKA:Keep (fun _=>False) (w.setCell ⟨bo,k,none⟩ (.int .i64 (-1))) ((w.setCell ⟨bo,k,none⟩ (.int .i64 (-1))).alloc (.cells #[.int .i64 (k:Int)] 3)):=((KW.refl _).alloc _).keep
  have hsz:(w.setCell ⟨bo,k,none⟩ (.int .i64 (-1))).heap.size=w.heap.size:=by simp
  have hKH:Keep H w (w7.setCell ⟨h,0,none⟩ v7):=by
   refine(((Keep.refl H w).setCell ⟨bo,k,none⟩ _ ((hH _).2 (.inr (.inr (.inl rfl))))).alloc _ |>.trans hk7 (fun i _ hi=>(hH i).2 (.inr (.inr (.inr hi))))).trans hk8 (fun i _ hi=>(hH i).2 (.inr (.inl hi)))
  have hu7:∀ i,v7.ownBlock=some i→(Value.slice Au opn.length cu).ownBlock=some i∨w.heap.size≤i:=fun i hi=>by
   rcases hv7 with h1|⟨j,h1,h2⟩
   ·exact .inl (h1 ▸ hi)
   ·rw[h1] at hi
    cases hi
    rw[hsz] at h2
    exact .inr h2
  refine⟨fun i=>i=g∨i=h∨(Value.slice (some ⟨bo,0,none⟩) mt.length co).ownBlock=some i∨v7.ownBlock=some i,⟨hJ.ls.keep hKH (fun h1=>by have:=hge _ h1;omega),hJ.ops.keep hKH (fun _ b' off' h1 h2=>?_),hJ.low,hJ.gs,mt.set k (-1),v7,?_,?_,?_,?_,by rw[List.length_set];exact e1,?_,hE.out,fun i=>Iff.rfl,?_,?_⟩,hKH,?_⟩
  ·cases h1
   have:=hge _ h2
   omega
  ·exact(((v1.keep hKp (fun h=>n1.1 h.symm)).keep hKA id).keep hk7 (fun h1=>(e5 _ h1).1 rfl)).keep hk8 hgs.2.2.2
  ·exact(HV2.out.keep hk7 (fun h1=>(e5 _ h1).2 rfl)).set v7
  ·exact hk8.owns (hk7.owns (hKA.owns o3 fun _ _ h=>h) fun i hi h1=>(e4 i hi).2.2 h1) fun i hi h1=>(e4 i hi).2.1 h1
  ·exact hk8.owns o7 fun i hi h1=>by
    subst h1
    rcases hu7 _ hi with h2|h2
    ·exact(e5 _ h2).2 rfl
    ·exact absurd v2.lt (by omega)
  ·intro i hi
   rcases List.mem_cons.1 hi with rfl|hi
   ·omega
   ·exact Nat.lt_succ_of_lt (e2 i hi)
  ·intro i hi
   refine⟨(e4 i hi).1,(e4 i hi).2.1,fun h1=>?_⟩
   rcases hu7 _ h1 with h2|h2
   ·exact(e4 i hi).2.2 h2
   ·have:=(o1.lt hi).2
    omega
  ·intro i hi
   rcases hu7 _ hi with h2|h2
   ·exact e5 _ h2
   ·exact⟨fun h=>absurd v1.lt (by omega),fun h=>absurd v2.lt (by omega)⟩
  ·intro i hi
   rcases hi with h1|h1|h1|h1
   ·exact .inl ((hH i).2 (.inl h1))
   ·exact .inl ((hH i).2 (.inr (.inl h1)))
   ·exact .inl ((hH i).2 (.inr (.inr (.inl h1))))
   ·exact(hu7 i h1).imp (fun h2=>(hH i).2 (.inr (.inr (.inr h2)))) id
 have HSZ:Hid (w.heap.size=(w.setCell ⟨bo,k,none⟩ (.int .i64 (-1))).heap.size):=hid (by simp)
 have HF:=hid HF
 have HE5:=hid e5
 have hbase:base≤w.heap.size:=by omega
 have hL:opn.length≤1099511627776:=by omega
 generalize (l.getD k Fl.o0).k=x at *
 subst h7
 generalize hNN:mt.length=M at *
 generalize hPP:opn.length=p at *
 have hkM:k<M:=by omega
 have hkl:k<l.length:=hk
 generalize l.length=N at *
 clear hE e3 hs o1 o2 o3 hJ v1 v2 hKp hm hw e1 hH e4 e5 e2 hge v2'
 go_enter Tryz.func171,Tryz.ntmps171
 go_wp2_with (at_builtin;refine wpList_appE rfl rfl (base:=base) (i:=k) (L:=opn) (c:=1) (v:=.slice Au p cu) (s:=.tmp 18) (x:=.tmp 20) rfl (congrArg (fun n=>Value.slice (some ⟨n,0,none⟩) 1 1) HSZ.out) HO2.out (by rw[← HSZ.out];exact hbase) (by rw[hPP];exact hL) ?_;intro v7 w7 HO7 HK8 HV7;have hv7:=HV2.out.keep HK8.out (fun h1=>(HE5.out _ h1).2 rfl);have c7:=hv7.cell;have f7:=hv7.frozen;obtain⟨A7,cc7,rfl,_⟩:=HO7.out.row;generalize (nts (k::opn)).length=q7 at HO7 HV7 ⊢)
 refine bodyPost_end (results_none rfl _ _ _) rfl ?_
 exact⟨rfl,HF.out _ _ HO7.out HK8.out HV7.out⟩
theorem match1_end (bl g h:Nat)(A:Option Addr)(c base:Nat)(vo:Value)(l:List Fl.O)(hlen:l.length≤1099511627776)(k t:Nat)(tl:List Nat)(H:Nat→Prop)(w:World)(va:Value)(hk:k<l.length)(hok:tl.length<k)
 (h0:(l.getD k Fl.o0).k=0) (hJ:MatchJ bl g h A c base vo l k (t::tl) H w):
 Calls Tryz.prog 171 #[.int .i64 k,va,.pointer (some ⟨g,0,none⟩),.pointer (some ⟨bl,0,none⟩),.pointer (some ⟨h,0,none⟩)] w fun e w'=>e=.returned (.tuple #[])∧∃ H',MatchJ bl g h A c base vo l (k+1) tl H' w'∧Keep H w w'∧∀ i,H' i→H i∨w.heap.size≤i:=by
 obtain⟨b,off,rfl,hb,d0,_⟩:=hJ.ops.at_ hk
 obtain⟨mt,u,v1,v2,o1,o2,e1,e2,e3,hH,e4,e5⟩:=hJ.ex
 obtain⟨Ao,co,rfl,_⟩:=o1.row
 rw[nts_cons] at o2
 obtain⟨bu,cu,rfl,hcu,hbu,q2,o2p⟩:=o2.pop
 rw[ivs_len] at *
 rw[nts_len] at *
 obtain⟨bo,rfl,hN,hbb,hbl,f1,q1,o3⟩:=o1.puti (i:=k) (by omega) (-1)
 have ht:t<k:=e2 t (by simp)
 have hs:=Fl.mts_step hk (t::tl) mt
 have hw:Fl.wk1 (l.getD k Fl.o0) k (t::tl)=some tl:=Fl.wk1_end h0
 have hm:Fl.mt1 (l.getD k Fl.o0) k (t::tl) mt=(mt.set k (t:Int)).set t (k:Int):=by
  unfold Fl.mt1
  rw[if_pos h0]
 rw[hw,hm] at hs
 have hE:=hid (e3.trans hs)
 have c0:=hJ.ls.cell
 have c1:=v1.cell
 have hKp:Keep (· = bo) w (w.setCell ⟨bo,k,none⟩ (.int .i64 (-1))):=(Keep.refl _ w).setCell _ _ rfl
 have hlow:=hJ.low (by omega) b off rfl
 have hgs:=hJ.gs
 have c2:=(hKp.cell (b:=bl) (o:=0) hJ.ls.lt (by omega)).trans c0
 have d1:=(hKp.cell (b:=b) (o:=off+k * 5) hb (by omega)).trans d0
 have n1:=e4 bo rfl
 have n2:=e5 bu rfl
 have hbob:bu≠bo:=fun h=>n1.2.2 (by rw[h];rfl)
 have v1':=v1.keep hKp (fun h=>n1.1 h.symm)
 have v2':=v2.keep hKp (fun h=>n1.2.1 h.symm)
 have c3:=v2'.cell
 have f3:=v2'.frozen
 have q3:=(hKp.cell (b:=bu) (o:=tl.length) hbu hbob).trans q2
 have hKs:Keep (· = h) (w.setCell ⟨bo,k,none⟩ (.int .i64 (-1))) ((w.setCell ⟨bo,k,none⟩ (.int .i64 (-1))).setCell ⟨h,0,none⟩ (.slice (some ⟨bu,0,none⟩) tl.length cu)):=(Keep.refl _ _).setCell _ _ rfl
 have v1s:=v1'.keep hKs hgs.2.2.2
 have v2s:=v2'.set (.slice (some ⟨bu,0,none⟩) tl.length cu)
 have o4:=hKs.owns o3 (fun i hi h1=>(e4 i hi).2.1 h1)
 have c4:=v1s.cell
 have hkM:k<mt.length:=by omega
 obtain⟨bo',hb',z1,z2,z3,f4,q4,o5⟩:=o4.puti (i:=k) (by rw[List.length_set];exact hkM) (t:Int)
 cases hb'
 obtain⟨bo',hb',z4,z5,z6,f5,q5,o6⟩:=o5.puti (i:=t) (by rw[List.length_set,List.length_set];omega) (k:Int)
 cases hb'
 have f4d:((w.setCell ⟨bo,k,none⟩ (.int .i64 (-1))).setCell ⟨h,0,none⟩ (.slice (some ⟨bu,0,none⟩) tl.length cu)).drew.frozen? ⟨bo,k,none⟩=false:=f4
 have q4d:∃ v,((w.setCell ⟨bo,k,none⟩ (.int .i64 (-1))).setCell ⟨h,0,none⟩ (.slice (some ⟨bu,0,none⟩) tl.length cu)).drew.cell? ⟨bo,k,none⟩=some v:=⟨_,q4⟩
 have f5d:(((w.setCell ⟨bo,k,none⟩ (.int .i64 (-1))).setCell ⟨h,0,none⟩ (.slice (some ⟨bu,0,none⟩) tl.length cu)).setCell ⟨bo,k,none⟩ (.int .i64 (t:Int))).drew.frozen? ⟨bo,t,none⟩=false:=f5
 have q5d:∃ v,(((w.setCell ⟨bo,k,none⟩ (.int .i64 (-1))).setCell ⟨h,0,none⟩ (.slice (some ⟨bu,0,none⟩) tl.length cu)).setCell ⟨bo,k,none⟩ (.int .i64 (t:Int))).drew.cell? ⟨bo,t,none⟩=some v:=⟨_,q5⟩
 obtain⟨y4,q4d⟩:=q4d
 obtain⟨y5,q5d⟩:=q5d
 have c4d:((w.setCell ⟨bo,k,none⟩ (.int .i64 (-1))).setCell ⟨h,0,none⟩ (.slice (some ⟨bu,0,none⟩) tl.length cu)).drew.cell? ⟨g,0,none⟩=some (.slice (some ⟨bo,0,none⟩) mt.length co):=c4
 have e7:True:=trivial
 have hK3:Keep (· = bo) ((w.setCell ⟨bo,k,none⟩ (.int .i64 (-1))).setCell ⟨h,0,none⟩ (.slice (some ⟨bu,0,none⟩) tl.length cu)) (((w.setCell ⟨bo,k,none⟩ (.int .i64 (-1))).setCell ⟨h,0,none⟩ (.slice (some ⟨bu,0,none⟩) tl.length cu)).setCell ⟨bo,k,none⟩ (.int .i64 (t:Int))):=(Keep.refl _ _).setCell _ _ rfl
 have hK4:Keep (· = bo) (((w.setCell ⟨bo,k,none⟩ (.int .i64 (-1))).setCell ⟨h,0,none⟩ (.slice (some ⟨bu,0,none⟩) tl.length cu)).setCell ⟨bo,k,none⟩ (.int .i64 (t:Int))) ((((w.setCell ⟨bo,k,none⟩ (.int .i64 (-1))).setCell ⟨h,0,none⟩ (.slice (some ⟨bu,0,none⟩) tl.length cu)).setCell ⟨bo,k,none⟩ (.int .i64 (t:Int))).setCell ⟨bo,t,none⟩ (.int .i64 (k:Int))).drew:=((Keep.refl (· = bo) _).setCell _ _ rfl).kwt ((KW.refl _).drew)
 have hHb:H bo:=(hH _).2 (.inr (.inr (.inl rfl)))
 have hKH:Keep H w ((((w.setCell ⟨bo,k,none⟩ (.int .i64 (-1))).setCell ⟨h,0,none⟩ (.slice (some ⟨bu,0,none⟩) tl.length cu)).setCell ⟨bo,k,none⟩ (.int .i64 (t:Int))).setCell ⟨bo,t,none⟩ (.int .i64 (k:Int))).drew:=(((((Keep.refl H w).setCell ⟨bo,k,none⟩ _ hHb).setCell ⟨h,0,none⟩ _ ((hH _).2 (.inr (.inl rfl)))).setCell ⟨bo,k,none⟩ _ hHb).setCell ⟨bo,t,none⟩ _ hHb).kwt ((KW.refl _).drew)
 have hge:∀ i,H i→base≤i:=fun i hi=>by
  rcases(hH i).1 hi with rfl|rfl|h|h
  ·exact hgs.2.1
  ·exact hgs.2.2.1
  ·exact(o1.lt h).1
  ·exact(o2.lt h).1
 have HF:Hid (∃ H',MatchJ bl g h (some ⟨b,off,none⟩) c base (.slice (some ⟨bo,0,none⟩) mt.length co) l (k+1) tl H' ((((w.setCell ⟨bo,k,none⟩ (.int .i64 (-1))).setCell ⟨h,0,none⟩ (.slice (some ⟨bu,0,none⟩) tl.length cu)).setCell ⟨bo,k,none⟩ (.int .i64 (t:Int))).setCell ⟨bo,t,none⟩ (.int .i64 (k:Int))).drew∧Keep H w ((((w.setCell ⟨bo,k,none⟩ (.int .i64 (-1))).setCell ⟨h,0,none⟩ (.slice (some ⟨bu,0,none⟩) tl.length cu)).setCell ⟨bo,k,none⟩ (.int .i64 (t:Int))).setCell ⟨bo,t,none⟩ (.int .i64 (k:Int))).drew∧∀ i,H' i→H i∨w.heap.size≤i):=by
  refine hid ⟨H,⟨hJ.ls.keep hKH (fun h1=>by have:=hge _ h1;omega),hJ.ops.keep hKH (fun _ b' off' h1 h2=>?_),hJ.low,hJ.gs,(mt.set k (t:Int)).set t (k:Int),_,(v1s.keep hK3 fun h=>n1.1 h.symm).keep hK4 fun h=>n1.1 h.symm,(v2s.keep hK3 fun h=>n1.2.1 h.symm).keep hK4 fun h=>n1.2.1 h.symm,?_,hK4.owns (hK3.owns (hKs.owns (hKp.owns o2p ?_) ?_) ?_) ?_,by rw[List.length_set,List.length_set];exact e1,fun i hi=>Nat.lt_succ_of_lt (e2 i (List.mem_cons_of_mem _ hi)),hE.out,hH,e4,e5⟩,hKH,fun i hi=>.inl hi⟩
  ·cases h1
   have:=hge _ h2
   omega
  ·have h1:=o6.drew
   rw[List.set_set] at h1
   exact h1
  all_goals
   intro i hi h1
   subst h1
   first
    | exact n1.2.2 hi
    | exact(e5 _ hi).2 rfl
 generalize (l.getD k Fl.o0).k=x at *
 subst h0
 generalize hNN:mt.length=M at *
 generalize hPP:tl.length=p at *
 have hkl:k<l.length:=hk
 have HV:=hid (And.intro v1s v2s)
 generalize hNL:l.length=N at *
 have HW:=hid (And.intro hgs (And.intro n1 (And.intro n2 (And.intro hbob (And.intro hlow (And.intro hbb (And.intro hbl hbu)))))))
 have HX:=hid (And.intro o1 (And.intro o2 (And.intro o2p (And.intro o6 hJ))))
 have HY:=hid (And.intro hH (And.intro e4 (And.intro e5 e2)))
 clear hK3 hK4 hHb hKH hge hE e3 hs o1 o2 o3 o4 o5 o6 hJ v1 v2 hw hm e1 hH e4 e5 e2 v1' v2' v1s v2s o2p hKp hKs
 have HZ:=hid (And.intro f4d (And.intro q4d (And.intro f5d (And.intro q5d (And.intro c4d c4)))))
 clear f4d q4d f5d q5d c4d z1 z2 z3 z4 z5 z6 f4 q4 f5 q5 c4 hN n1 n2 hbob hgs hlow e7 hbu hbb hbl
 have e7:((p:Int)+1 - 1)=p:=by omega
 go_enter Tryz.func171,Tryz.ntmps171
 go_wp2_with fail
 obtain⟨f4,q4,f5,q5,c4,c5⟩:=HZ.out
 go_region
 go_wp2_with fail
 refine bodyPost_end (results_none rfl _ _ _) rfl ?_
 exact⟨rfl,HF.out⟩
theorem see_match (bl g h n:Nat)(A:Option Addr)(c base:Nat)(vo:Value)(l:List Fl.O)(hlen:l.length≤1099511627776)(hb:base≤n):
 SeeN 171 #[.pointer (some ⟨g,0,none⟩),.pointer (some ⟨bl,0,none⟩),.pointer (some ⟨h,0,none⟩)] l n (MatchJ bl g h A c base vo l):=by
 refine⟨fun args W=>by kernel_rfl,fun k o H w h=>h.lt,fun k o H w w' O h hk hn hO=>h.keep hk hn hO hb,fun k opn opn' H w u cu hk hw hok hJ hO hH=>?_⟩
 have hw':=hw
 unfold Fl.wk1 at hw
 by_cases h1:(l.getD k Fl.o0).k<0∨7<(l.getD k Fl.o0).k
 ·rw[if_pos h1] at hw
  cases hw
 rw[if_neg h1] at hw
 by_cases h2:(l.getD k Fl.o0).k=0
 ·rw[if_pos h2] at hw
  cases opn with
  | nil=>cases hw
  | cons t tl=>
    have h4:tl=opn':=Option.some.inj hw
    subst h4
    exact match1_end bl g h A c base vo l hlen k t tl H w _ hk hok h2 hJ
 rw[if_neg h2] at hw
 by_cases h3:(l.getD k Fl.o0).k=7
 ·rw[if_pos h3] at hw
  cases hw
  exact match1_rep bl g h A c base vo l hlen k opn H w _ hk hok h3 hJ
 ·rw[if_neg h3] at hw
  cases hw
  exact match1_op bl g h A c base vo l hlen k opn H w _ hk (by omega) (by omega) hJ
theorem Owns.made (w:World)(base:Nat)(n:Nat)(hb:base≤w.heap.size)(hn:n≤1048576):Owns (w.alloc (.cells (madeCells #[.int .i64 0] n) 3)) base 3 (.slice (some ⟨w.heap.size,0,none⟩) n n) (ivs (List.replicate n 0)):=by
 have hl:(ivs (List.replicate n (0:Int))).length=n:=by simp[ivs]
 unfold Owns
 rw[hl]
 exact⟨by rw[hl];omega,.inr ⟨w.heap.size,n,madeCells #[.int .i64 0] n,rfl,hb,heap_alloc_new w _,Nat.le_refl _,by unfold maxLen;omega,by rw[size_madeCells];omega,by rw[toList_madeCells_one];simp[ivs]⟩⟩
theorem match_any (A:Option Addr)(c:Nat)(l:List Fl.O)(w:World)(hlen:l.length≤1048576)(hA:OpsM w A l):
 Calls Tryz.prog 128 #[.slice A l.length c] w fun e w'=>KW w w'∧((Fl.wk l 0 []=some []∧∃ v,e=.returned (.tuple #[v,.int .i64 0])∧Owns w' w.heap.size 3 v (ivs (Fl.mts l 0 [] (Fl.mt0 l))))∨(Fl.wk l 0 []≠some []∧e=.returned (.tuple #[.slice none 0 0,.int .i64 6]))):=by
 obtain⟨w1,hw1⟩:∃ w1,w1=w.alloc (.cells #[.slice A l.length c] 23):=⟨_,rfl⟩
 obtain⟨w2,hw2⟩:∃ w2,w2=w1.alloc (.cells (madeCells #[.int .i64 0] l.length) 3):=⟨_,rfl⟩
 obtain⟨w3,hw3⟩:∃ w3,w3=w2.alloc (.cells #[.slice (some ⟨w.heap.size+1,0,none⟩) l.length l.length] 56):=⟨_,rfl⟩
 obtain⟨w4,hw4⟩:∃ w4,w4=w3.alloc (.cells #[.slice none 0 0] 56):=⟨_,rfl⟩
 have s1:w1.heap.size=w.heap.size+1:=by rw[hw1];simp
 have s2:w2.heap.size=w.heap.size+1+1:=by rw[hw2];simp[s1]
 have s3:w3.heap.size=w.heap.size+1+1+1:=by rw[hw3];simp[s2]
 have s4:w4.heap.size=w.heap.size+1+1+1+1:=by rw[hw4];simp[s3]
 have k1:KW w w1:=by rw[hw1];exact(KW.refl w).alloc _
 have k2:KW w1 w2:=by rw[hw2];exact(KW.refl w1).alloc _
 have k3:KW w2 w3:=by rw[hw3];exact(KW.refl w2).alloc _
 have k4:KW w3 w4:=by rw[hw4];exact(KW.refl w3).alloc _
 have hk0:KW w w4:=((k1.t k2).t k3).t k4
 have b1:Var w1 w.heap.size 23 (.slice A l.length c):=by rw[hw1];exact Var.new w _ _
 have b3:Var w3 (w.heap.size+1+1) 56 (.slice (some ⟨w.heap.size+1,0,none⟩) l.length l.length):=by rw[hw3,← s2];exact Var.new w2 _ _
 have b4:Var w4 (w.heap.size+1+1+1) 56 (.slice none 0 0):=by rw[hw4,← s3];exact Var.new w3 _ _
 have o2:Owns w2 (w.heap.size+1) 3 (.slice (some ⟨w.heap.size+1,0,none⟩) l.length l.length) (ivs (Fl.mt0 l)):=by
  rw[hw2,← s1]
  exact Owns.made w1 _ l.length (Nat.le_refl _) hlen
 have HWt:=hid (nwalk_any A c l 171 #[.pointer (some ⟨w.heap.size+1+1,0,none⟩),.pointer (some ⟨w.heap.size,0,none⟩),.pointer (some ⟨w.heap.size+1+1+1,0,none⟩)]
  (MatchJ w.heap.size (w.heap.size+1+1) (w.heap.size+1+1+1) A c (w.heap.size+1) (.slice (some ⟨w.heap.size+1,0,none⟩) l.length l.length) l)
  (fun i=>i=w.heap.size+1+1∨i=w.heap.size+1+1+1∨(Value.slice (some ⟨w.heap.size+1,0,none⟩) l.length l.length).ownBlock=some i∨(Value.slice none 0 0).ownBlock=some i) w4 (by omega) (hA.kw hk0)
  (fun h0 b off h1 h2=>by
    obtain⟨b',off',h3,h4,_⟩:=hA h0
    rw[h3] at h1
    cases h1
    rcases h2 with h2|h2|h2|h2
    ·omega
    ·omega
    ·have h5:w.heap.size+1=b:=Option.some.inj h2
     omega
    ·cases h2)
  (see_match w.heap.size _ _ _ A c _ _ l (by omega) (by omega))
  ⟨((b1.keep (k2.keep (own:=fun _=>False)) id).keep (k3.keep (own:=fun _=>False)) id).keep (k4.keep (own:=fun _=>False)) id,hA.kw hk0,fun h0 b off h1=>by obtain⟨b',off',h3,h4,_⟩:=hA h0;rw[h3] at h1;cases h1;exact h4,⟨by omega,by omega,by omega,by omega⟩,
   Fl.mt0 l,.slice none 0 0,b3.keep (k4.keep (own:=fun _=>False)) id,b4,(o2.on k3).on k4,by rw[nts_nil];exact Owns.nil _ _ _,by simp[Fl.mt0],fun i hi=>(by cases hi),rfl,fun i=>Iff.rfl,fun i hi=>(by have h5:w.heap.size+1=i:=Option.some.inj hi;exact⟨by omega,by omega,fun h=>by cases h⟩),fun i hi=>(by cases hi)⟩)
 unfold WalkP at HWt
 have HK:=hid hk0
 have HS:=hid s4
 clear hA hk0 b1 b3 b4 o2 k1 k2 k3 k4
 generalize hN:l.length=N at *
 have HN:=hid hN
 clear hN
 have hmk:∀ W,(Instr.makeSlice 56 (.int .i64 N) (.int .i64 N)).run Tryz.prog W=.ok (.slice (some ⟨W.heap.size,0,none⟩) N N) (W.alloc (.cells (madeCells #[.int .i64 0] N) 3)):=fun W=>run_make_row' (P:=Tryz.prog) 56 3 (.int .i64 0) 8 Tryz.underlying56 (by kernel_rfl) rfl .i64 .i64 N (by omega) (by omega) W
 subst hw4 hw3 hw2 hw1
 clear s1 s2 s3 s4
 go_enter Tryz.func128,Tryz.ntmps128
 go_wp2_with fail
 refine HWt.out.mono ?_
 rintro e w1 ⟨hk1,h⟩
 have HK1:Hid (KW w w1):=hid (HK.out.kept hk1 fun i h=>by
  rcases h with h|h|h|h
  ·omega
  ·omega
  ·have h5:w.heap.size+1=i:=Option.some.inj h
   omega
  ·cases h)
 clear hk1
 rcases h with⟨hw,rfl,H,hj,_⟩|⟨hw,rfl⟩
 ·obtain⟨mt,u,v1,v2,o1,o2,e1,e2,e3,hH,e4,e5⟩:=hj.ex
  have HM:Hid (Fl.mts l 0 [] (Fl.mt0 l)=mt):=by
   rw[e3,List.drop_eq_nil_of_le (by rw[HN.out];exact Nat.le_refl _)]
   rfl
  have HO:=hid o1
  have HW:=hid hw
  have c0:=v1.cell
  clear v1 v2 o1 o2 e1 e2 e3 hH e4 e5 hj hw
  go_wp2_with fail
  go_ret2
  refine⟨HK1.out,.inl ⟨HW.out,_,rfl,?_⟩⟩
  rw[HM.out]
  exact HO.out.base (by omega)
 ·have HW:=hid hw
  clear hw
  go_wp2_with fail
  go_ret2
  exact⟨HK1.out,.inr ⟨HW.out,rfl⟩⟩
theorem block_any (r:Nat)(hr:r≤1099511627776)(v:Int)(h0:0≤v)(h1:v<18446744073709551616)(w:World):
 Calls Tryz.prog 129 #[.int .i64 r,.int .u64 v] w fun e w'=>w'=w∧((Fl.blk r v=none∧e=.returned (.tuple #[.int .i64 0,.bool false]))∨∃ n:Nat,Fl.blk r v=some n∧e=.returned (.tuple #[.int .i64 n,.bool true])):=by
 by_cases hz:r=0
 ·subst hz
  have HB:Hid (Fl.blk 0 v=some 0):=rfl
  go_enter Tryz.func129,Tryz.ntmps129
  go_wp2_with fail
  go_ret2
  exact⟨rfl,.inr ⟨0,HB.out,rfl⟩⟩
 have e1:((r:Int)==0)=false:=beq_eq_false_iff_ne.2 (by omega)
 by_cases hb:65536<r
 ·have HB:Hid (Fl.blk r v=none):=by
   unfold Fl.blk
   rw[if_neg hz,if_pos hb]
   exact hid rfl
  have L:(65536:Int)<(r:Int):=by omega
  clear hb hz
  go_enter Tryz.func129,Tryz.ntmps129
  go_wp2_with fail
  go_ret2
  exact⟨rfl,.inl ⟨HB.out,rfl⟩⟩
 have e2:decide ((65536:Int)<(r:Int))=false:=decide_eq_false (by omega)
 have e4:(Int.tdiv 65536 (r:Int))=((65536 / r:Nat):Int):=by
  rw[Int.tdiv_eq_ediv_of_nonneg (by omega)]
  exact(Int.natCast_ediv 65536 r).symm
 have hq:65536 / r≤65536:=Nat.div_le_self 65536 r
 have hm:∀ n:Nat,n≤65536 / r→r * n≤65536:=fun n h=>Nat.le_trans (Nat.mul_le_mul_left r h) (Nat.mul_div_le 65536 r)
 by_cases hc:((65536 / r:Nat):Int)<v
 ·have HB:Hid (Fl.blk r v=none):=by
   unfold Fl.blk
   rw[if_neg hz,if_neg hb,if_pos hc]
   exact hid rfl
  generalize 65536 / r=q at *
  have hr0:(r:Int)≠0:=by omega
  clear hb hz hm
  go_enter Tryz.func129,Tryz.ntmps129
  go_wp2_with fail
  go_ret2
  exact⟨rfl,.inl ⟨HB.out,rfl⟩⟩
 ·have HB:Hid (Fl.blk r v=some (r * v.toNat)):=by
   unfold Fl.blk
   rw[if_neg hz,if_neg hb,if_neg hc]
   exact hid rfl
  obtain⟨n,rfl⟩:∃ n:Nat,v=n:=⟨v.toNat,by omega⟩
  have hp:=hm n (by omega)
  have e5:((r:Int) * (n:Int))=((r * n:Nat):Int):=by simp
  have HB2:Hid (Fl.blk r (n:Int)=some (r * n)):=by simpa using HB
  generalize 65536 / r=q at *
  generalize r * n=p at *
  have hr0:(r:Int)≠0:=by omega
  have e6:decide ((q:Int)<(n:Int))=false:=decide_eq_false hc
  clear hb hz hm HB
  go_enter Tryz.func129,Tryz.ntmps129
  go_wp2_with fail
  go_ret2
  exact⟨rfl,.inr ⟨p,HB2.out,rfl⟩⟩
theorem add_any (b off c:Nat)(x y:Nat)(hx:x≤1099511627776)(hy:y≤1099511627776)(w:World)(h0:w.cell? ⟨b,off,none⟩=some (.int .i64 x))(h1:w.cell? ⟨b,off+1,none⟩=some (.int .i64 y)):
 Calls Tryz.prog 130 #[.slice (some ⟨b,off,none⟩) 2 c] w fun e w'=>e=.returned (.int .i64 ((x+y:Nat):Int))∧w'=w:=by
 have HC:Hid (∀ k,k<2→w.cell? ⟨b,off+k,none⟩=some (.int .i64 (([x,y].getD k 0:Nat):Int))):=hid fun k hk=>by
  rcases(show k=0∨k=1 by omega) with rfl|rfl
  ·exact h0
  ·exact h1
 have HL:Hid (∀ k,k<2→[x,y].getD k 0≤1099511627776):=hid fun k hk=>by
  rcases(show k=0∨k=1 by omega) with rfl|rfl
  ·exact hx
  ·exact hy
 have HS:Hid (∀ k,k<2→([x,y].take (k+1)).sum=([x,y].take k).sum + [x,y].getD k 0):=hid fun k hk=>by
  rcases(show k=0∨k=1 by omega) with rfl|rfl
  ·simp
  ·simp
 have HT:Hid (([x,y].take 2).sum=x+y):=hid (by simp)
 have HB:Hid (∀ k,k≤2→([x,y].take k).sum≤2199023255552):=hid fun k hk=>by
  rcases(show k=0∨k=1∨k=2 by omega) with rfl|rfl|rfl
  ·simp
  ·simp;omega
  ·simp;omega
 have HZ:Hid (([x,y].take 0).sum=0):=hid rfl
 clear h0 h1
 go_enter Tryz.func130,Tryz.ntmps130
 go_wp2_with fail
 go_loopw [3,8] (fun s i wr=>∃ k:Nat,k≤2∧i=.int .i64 k∧s=.int .i64 (([x,y].take k).sum:Nat)∧Hid (wr=w)) (fun _ i _=>2 - (intOf i).toNat)
 case atStart=>exact⟨0,by omega,rfl,rfl,hid rfl⟩
 case round=>
  obtain⟨k,hk,rfl,rfl,hw⟩:=hrel
  obtain rfl:=hw.out
  by_cases hlt:k<2
  ·have L:(k:Int)<2:=by omega
   have c0:=HC.out k hlt
   have b1:=HL.out k hlt
   have b2:=HB.out k hk
   have HQ:=hid (HS.out k hlt)
   generalize [x,y].getD k 0=q at *
   generalize ([x,y].take k).sum=s at *
   clear hw
   go_wp2_with fail
   go_roundw
   case rel=>exact⟨k+1,by omega,by go_num,by rw[HQ.out];go_num,hid trivial⟩
   case measure=>simp[intOf];omega
  ·obtain rfl:k=2:=by omega
   rw[HT.out]
   clear hw hlt
   go_wp2_with fail
   go_ret
   exact⟨rfl,rfl⟩
end Go.Proofs.YtphppbonljdibaaGreat
