import Derived.Test.YtphppbonljdibaaGreatTF41
set_option maxRecDepth 100000
set_option maxHeartbeats 4000000
set_option linter.unusedVariables false
set_option linter.unusedSimpArgs false
namespace Go.Proofs.YtphppbonljdibaaGreat
open Go.ChangeShapes Go.WideShapes Go.ChangeAt Go.RowKit
theorem results_ctt {P:Program}{fn:Func}{p q r:Tmp}{ty:TypeId}(h:fn.results=#[.cell p ty,.tmp q,.tmp r])(tmps:Array Value)(w:World)(g:Nat)(t:TypeId)(cs:Array Value)(fr:Nat×Nat)(d:TypeDesc)
 (hp:tmps.getD p undef=.pointer (some ⟨g,0,none⟩)) (hg:w.heap[g]?=some (.cells cs t fr))
 (hu:P.underlying ty=some d) (hd:(match d with | .struct _ | .array _ _=>true | _=>false)=true) (hi:(P.info? ty).map (·.size)=some cs.size):
 (results fn tmps).run P w=.ok (.tuple #[.agg cs,tmps.getD q undef,tmps.getD r undef]) w:=by
 have hp':tmps[p]?.getD undef=.pointer (some ⟨g,0,none⟩):=by simpa using hp
 simp[results,h,hp',asAddr,run_loadVar_row w g t ty cs fr d hg hu hd hi]
def zero14:Array Value:=#[.int .i64 0,.int .i64 0,.int .i64 0,.int .i64 0,.int .i64 0,.int .i64 0,.int .i64 0,.int .i64 0,.int .i64 0,.int .i64 0,.int .i64 0,.int .i64 0,.int .i64 0,.slice none 0 0]
def pfA (tot pk most:Int)(kdf:Nat→Int)(s:Value):Array Value:=((List.range 14).map (pfv tot pk most kdf s)).toArray
theorem pfv_zero:zero14=pfA 0 0 0 (fun _=>0) (.slice none 0 0):=rfl
theorem pfv_one (tot pk most:Int)(kdf:Nat→Int)(s:Value)(h:s.oneCell'=true)(i:Nat):(pfv tot pk most kdf s i).oneCell'=true:=by
 unfold pfv
 repeat' split
 all_goals first|rfl|exact h
theorem pfA_get (tot pk most:Int)(kdf:Nat→Int)(s:Value)(i:Nat)(hi:i<14):(pfA tot pk most kdf s)[i]?=some (pfv tot pk most kdf s i):=by
 unfold pfA;simp[hi]
theorem pfA_size (tot pk most:Int)(kdf:Nat→Int)(s:Value):(pfA tot pk most kdf s).size=14:=by unfold pfA;simp
def ProfP (m0:Mc.St)(list:List Mc.Act)(L:Nat)(w:World)(e:Ending)(w':World):Prop:=
 KW w w'∧((Mc.okTo m0 list list.length∧∃ s,e=.returned (.tuple #[.agg (pfA (Mc.up m0 list list.length).tot (Mc.peak m0 list list.length) (Mc.top (fun i=>Mc.sp m0 list i list.length) L) (fun c=>Mc.kd list c list.length) s),.int .i64 list.length,.int .i64 0])∧IWp w' s ((List.range L).map fun(i:Nat)=>Mc.sp m0 list i list.length)) ∨
  (∃ k,k<list.length∧Mc.okTo m0 list k∧Mc.er m0 list k≠0∧e=.returned (.tuple #[.agg zero14,.int .i64 k,.int .i64 (Mc.er m0 list k)])))
theorem pof_walk (l n:Int)(L:Nat)(A:Option Addr)(c N:Nat)(w:World)(hL:(l<0∧L=0)∨(65536≤l∧L=65536)∨(0≤l∧l<65536∧(L:Int)=l))(R:Ending→World→Prop)
 (hW:∀ W,KW w W→W.rowIs w.heap.size 77 14 (pfv 0 0 0 (fun _=>0) (.slice (some ⟨w.heap.size+1,0,none⟩) L L))→(W.rowIs (w.heap.size+1) 3 L fun _=>.int .i64 0) →
   Calls Tryz.prog 56 #[.int .i64 l,.int .i64 n,.slice A N c,.func (.func 75) #[] #[.pointer (some ⟨w.heap.size,0,none⟩)]] W fun e w'=>
    (∃ p at_ er f0,er≠0∧e=.returned (.tuple #[p,.int .i64 at_,.int .i64 er])∧w'.rowIs w.heap.size 77 14 f0∧∀ w'',Keep (· = w.heap.size) w' w''→R (.returned (.tuple #[.agg zero14,.int .i64 at_,.int .i64 er])) w'') ∨
    (∃ b v m at_ pk kdf st,e=.returned (.tuple #[.pointer (some ⟨b,0,none⟩),.int .i64 at_,.int .i64 0])∧Mach w' b v m∧w'.rowIs w.heap.size 77 14 (pfv 0 pk 0 kdf (.slice (some ⟨w.heap.size+1,0,none⟩) L L))∧(w'.rowIs (w.heap.size+1) 3 L fun i=>.int .i64 (st i)) ∧
      ∀ w'',Keep (· = w.heap.size) w' w''→R (.returned (.tuple #[.agg (pfA m.tot pk (Mc.top st L) kdf (.slice (some ⟨w.heap.size+1,0,none⟩) L L)),.int .i64 at_,.int .i64 0])) w'')):
 Calls Tryz.prog 34 #[.int .i64 l,.int .i64 n,.slice A N c] w R:=by
 have hmk:=fun W=>run_make_row' (P:=Tryz.prog) 56 3 (.int .i64 0) 8 Tryz.underlying56 (by kernel_rfl) rfl .i64 .i64 L (by omega) (by omega) W
 have HL:Hid (L≤65536):=hid (by omega)
 have HW:=hid hW
 have hz:∃ z:Int,z=L∧max 0 (min l 65536)=z:=⟨L,rfl,by omega⟩
 obtain⟨z,hz1,hz2⟩:=hz
 rw[← hz1] at hmk
 have HRp:Hid (((w.alloc (.cells #[.int .i64 0,.int .i64 0,.int .i64 0,.int .i64 0,.int .i64 0,.int .i64 0,.int .i64 0,.int .i64 0,.int .i64 0,.int .i64 0,.int .i64 0,.int .i64 0,.int .i64 0,.slice (some ⟨w.heap.size+1,0,none⟩) L L] 77)).alloc (.cells (madeCells #[.int .i64 0] L) 3)).rowIs w.heap.size 77 14 (pfv 0 0 0 (fun _=>0) (.slice (some ⟨w.heap.size+1,0,none⟩) L L))):=
  (World.rowIs_alloc w #[.int .i64 0,.int .i64 0,.int .i64 0,.int .i64 0,.int .i64 0,.int .i64 0,.int .i64 0,.int .i64 0,.int .i64 0,.int .i64 0,.int .i64 0,.int .i64 0,.int .i64 0,.slice (some ⟨w.heap.size+1,0,none⟩) L L] 77 _ fun i hi=>pfA_get 0 0 0 (fun _=>0) (.slice (some ⟨w.heap.size+1,0,none⟩) L L) i (by simpa using hi)).alloc _
 have HRs:Hid (((w.alloc (.cells #[.int .i64 0,.int .i64 0,.int .i64 0,.int .i64 0,.int .i64 0,.int .i64 0,.int .i64 0,.int .i64 0,.int .i64 0,.int .i64 0,.int .i64 0,.int .i64 0,.int .i64 0,.slice (some ⟨w.heap.size+1,0,none⟩) L L] 77)).alloc (.cells (madeCells #[.int .i64 0] L) 3)).rowIs (w.heap.size+1) 3 L (fun _=>.int .i64 0)):=by
  have h:=World.rowIs_made (w.alloc (.cells #[.int .i64 0,.int .i64 0,.int .i64 0,.int .i64 0,.int .i64 0,.int .i64 0,.int .i64 0,.int .i64 0,.int .i64 0,.int .i64 0,.int .i64 0,.int .i64 0,.int .i64 0,.slice (some ⟨w.heap.size+1,0,none⟩) L L] 77)) (.int .i64 0) L 3
  exact hid (by simpa using h)
 have HZ2:=hid hz2
 have HZ1:=hid hz1
 clear hL hW hz2 hz1
 go_enter Tryz.func34,Tryz.ntmps34
 go_wp2_with fail
 ·obtain rfl:z=65536:=by have:=HZ2.out;omega
  rw[hmk]
  simp only[Result.andThen_ok,Oper.upon_value]
  go_wp2_with fail
  refine(HW.out _ (((KW.refl w).alloc _).alloc _) HRp.out HRs.out).mono ?_
  intro e w' h
  rcases h with⟨p,at_,er,f0,hne,rfl,hr,hR⟩|⟨b,v,m,at_,pk,kdf,st,rfl,hm,hr,hs,hR⟩
  ·have d:(er != 0)=true:=by simpa using hne
   have d2:(er==0)=false:=by simpa using hne
   have HR:=hid hr
   have HRR:=hid hR
   clear hr hR hne
   go_wp2_with (refine wpList_store_is rfl 77 _ _ rfl w.heap.size 14 77 _ (pfv 0 0 0 (fun _=>0) (.slice none 0 0)) zero14 rfl rfl HR.out (by kernel_rfl) rfl ?qa1 ?qa2 ?_)
   case qa1=>intro i hi;rw[pfv_zero];exact pfA_get _ _ _ _ _ _ hi
   case qa2=>intro i hi;exact pfv_one _ _ _ _ _ rfl _
   intro w2 hrow hkeep _
   have hh:w2.heap[w.heap.size]?=some (.cells zero14 77 (0,0)):=whole hrow
   have HH:=hid hh
   have HK:=hid hkeep
   clear hrow hkeep hh
   go_wp2_with fail
   refine bodyPost_ret (results_ctt rfl _ _ w.heap.size _ _ (0,0) _ rfl HH.out Tryz.underlying77 rfl (by kernel_rfl)) rfl ?_
   exact HRR.out _ HK.out
  ·have c0:=hr.cell (i:=0) (by omega)
   have e0:pfv 0 pk 0 kdf (.slice (some ⟨w.heap.size+1,0,none⟩) L L) 0=.int .i64 0:=rfl
   rw[e0] at c0
   have f0:=hr.frozen 0
   have c13:=hr.cell (i:=13) (by omega)
   have e13:pfv 0 pk 0 kdf (.slice (some ⟨w.heap.size+1,0,none⟩) L L) 13=.slice (some ⟨w.heap.size+1,0,none⟩) L L:=rfl
   rw[e13] at c13
   have HT:=hid (total_any m b v w' hm)
   have HR:=hid hr
   have HS:=hid hs
   have HRR:=hid hR
   have hlt:=hr.lt
   have hls:=hs.lt
   clear hr hs hR hm e0 e13
   generalize m.tot=tot at *
   go_wp2_with (first
    | (go_at_call 44;refine HT.out.mono ?_;rintro e w2 ⟨rfl,rfl⟩)
    | (at_builtin;refine wpList_world (fun W=>W=((w'.setCell ⟨w.heap.size,0,none⟩ (.int .i64 tot)).alloc (.cells #[.int .i64 0] 3))) ?qw ?_))
   case qw=>rfl
   intro WW hWW
   subst hWW
   have hR1:(w'.setCell ⟨w.heap.size,0,none⟩ (.int .i64 tot)).rowIs w.heap.size 77 14 (pfv tot pk 0 kdf (.slice (some ⟨w.heap.size+1,0,none⟩) L L)):=(HR.out.set 0 _).congr fun i hi=>by
    by_cases e:i=0
    ·subst e;rfl
    ·rw[if_neg e];unfold pfv;rw[if_neg e,if_neg e]
   have hS1:(w'.setCell ⟨w.heap.size,0,none⟩ (.int .i64 tot)).rowIs (w.heap.size+1) 3 L fun i=>.int .i64 (st i):=HS.out.setOther (a:=⟨w.heap.size,0,none⟩) (by show w.heap.size+1≠w.heap.size;omega) _
   have hk1:Keep (· = w.heap.size) w' (w'.setCell ⟨w.heap.size,0,none⟩ (.int .i64 tot)):=(Keep.refl (· = w.heap.size) w').setCell _ _ rfl
   have hz1:(w'.setCell ⟨w.heap.size,0,none⟩ (.int .i64 tot)).heap.size=w'.heap.size:=by simp
   have HR1:=hid hR1
   have HS1:=hid hS1
   have HK1:=hid hk1
   have HZ1:=hid hz1
   have HLt:Hid (w.heap.size<w'.heap.size∧w.heap.size+1<w'.heap.size):=⟨hlt,hls⟩
   clear hR1 hS1 hk1 hz1 c0 f0 c13 hlt hls HT HR HS
   generalize (w'.setCell ⟨w.heap.size,0,none⟩ (.int .i64 tot))=W1 at *
   refine wpList_appA rfl sliceInt' rfl (W:=W1.alloc (.cells #[.int .i64 0] 3)) (base:=W1.heap.size) (k:=L) (n:=1) (v:=.slice (some ⟨W1.heap.size,0,none⟩) 1 1) (u:=.slice (some ⟨w.heap.size+1,0,none⟩) L L) (xs:=[.int .i64 0]) (ys:=(List.range L).map fun i=>.int .i64 (st i)) (by simp[Act.eval,HZ1.out]) (by simp[Act.eval]) (rowIs_holds (HS1.out.alloc _) (Nat.le_refl _) (fun _ _=>rfl)) (Owns.new (xs:=[.int .i64 0]) (Nat.le_refl _) (by simp)) (by simp) (by have:=HL.out;omega) (by have:=HL.out;omega) ?_
   intro v3 w3 hown hkeep hloc
   have HI3:Hid (IWp w3 v3 (0::(List.range L).map st)):=by
    refine Owns.iw0 (base:=W1.heap.size) ?_
    have e:ints (0::(List.range L).map st)=[.int .i64 0]++(List.range L).map fun i=>.int .i64 (st i):=by simp[ints]
    rw[e]
    show World.ownsRow _ _ _ _ _ _ _
    have e2:([Value.int .i64 0]++(List.range L).map fun i=>Value.int .i64 (st i)).length=1+L:=by simp;omega
    rw[e2]
    exact hown
   have HK3:Hid (KW W1 w3):=((KW.refl W1).alloc _).kept hkeep fun i hi=>by simp[Value.ownBlock] at hi;omega
   have HM3:=hid (smax_any v3 0 ((List.range L).map st) w3 (by have:=HL.out;simp;omega) HI3.out)
   rw[foldl_top st L] at HM3
   obtain⟨A3,c3,hv3,_⟩:=HI3.out
   subst hv3
   clear hown hkeep hloc
   have HLen:Hid ((0::(List.range L).map st).length=L+1):=hid (by simp)
   rw[HLen.out] at HM3
   have hvl:Value.slice A3 (0::(List.range L).map st).length c3=.slice A3 (L+1) c3:=by rw[HLen.out]
   rw[hvl]
   clear hvl HI3
   generalize Mc.top st L=most at *
   go_wp2_with fail
   refine HM3.out.mono ?_
   rintro e w4 ⟨rfl,hk4⟩
   have HK4:Hid (KW W1 w4):=HK3.out.t hk4
   have HR4:=hid (KW.row HK4.out HR1.out.lt HR1.out)
   have c2:=HR4.out.cell (i:=2) (by omega)
   have f2:=HR4.out.frozen 2
   have e2:pfv tot pk 0 kdf (.slice (some ⟨w.heap.size+1,0,none⟩) L L) 2=.int .i64 0:=rfl
   rw[e2] at c2
   have hb4:=HR4.out.lt
   have HR5:Hid ((w4.setCell ⟨w.heap.size,2,none⟩ (.int .i64 most)).rowIs w.heap.size 77 14 (pfv tot pk most kdf (.slice (some ⟨w.heap.size+1,0,none⟩) L L))):=(HR4.out.set 2 _).congr fun i hi=>by
    by_cases e:i=2
    ·subst e;rfl
    ·rw[if_neg e];unfold pfv;rw[if_neg e,if_neg e]
   have HW5:Hid ((w4.setCell ⟨w.heap.size,2,none⟩ (.int .i64 most)).heap[w.heap.size]?=some (.cells (pfA tot pk most kdf (.slice (some ⟨w.heap.size+1,0,none⟩) L L)) 77 (0,0))):=whole HR5.out
   clear hk4 e2
   go_wp2_with (first
    | (refine wpList_load_row rfl 77 _ rfl w.heap.size rfl 77 _ (0,0) _ HW5.out Tryz.underlying77 rfl (by kernel_rfl) ?_)
    | (refine wpList_store_is rfl 77 _ _ rfl w.heap.size 14 77 _ (pfv tot pk most kdf (.slice (some ⟨w.heap.size+1,0,none⟩) L L)) (pfA tot pk most kdf (.slice (some ⟨w.heap.size+1,0,none⟩) L L)) rfl rfl HR5.out (by kernel_rfl) (pfA_size _ _ _ _ _) (pfA_get _ _ _ _ _) (fun i _=>pfv_one _ _ _ _ _ rfl i) ?_))
   intro w6 hrow hkeep _
   have HH:Hid (w6.heap[w.heap.size]?=some (.cells (pfA tot pk most kdf (.slice (some ⟨w.heap.size+1,0,none⟩) L L)) 77 (0,0))):=whole hrow
   have HK6:Hid (Keep (· = w.heap.size) w' w6):=((HK1.out.kwt HK4.out).setCell _ _ rfl).t hkeep
   clear hrow hkeep c2 f2 hb4
   go_wp2_with fail
   refine bodyPost_ret (results_ctt rfl _ _ w.heap.size _ _ (0,0) _ rfl HH.out Tryz.underlying77 rfl (by rw[pfA_size];kernel_rfl)) rfl ?_
   exact HRR.out _ HK6.out
 ·obtain rfl:z=l:=by have:=HZ2.out;omega
  rw[hmk]
  simp only[Result.andThen_ok,Oper.upon_value]
  go_wp2_with fail
  refine(HW.out _ (((KW.refl w).alloc _).alloc _) HRp.out HRs.out).mono ?_
  intro e w' h
  rcases h with⟨p,at_,er,f0,hne,rfl,hr,hR⟩|⟨b,v,m,at_,pk,kdf,st,rfl,hm,hr,hs,hR⟩
  ·have d:(er != 0)=true:=by simpa using hne
   have d2:(er==0)=false:=by simpa using hne
   have HR:=hid hr
   have HRR:=hid hR
   clear hr hR hne
   go_wp2_with (refine wpList_store_is rfl 77 _ _ rfl w.heap.size 14 77 _ (pfv 0 0 0 (fun _=>0) (.slice none 0 0)) zero14 rfl rfl HR.out (by kernel_rfl) rfl ?qa1 ?qa2 ?_)
   case qa1=>intro i hi;rw[pfv_zero];exact pfA_get _ _ _ _ _ _ hi
   case qa2=>intro i hi;exact pfv_one _ _ _ _ _ rfl _
   intro w2 hrow hkeep _
   have hh:w2.heap[w.heap.size]?=some (.cells zero14 77 (0,0)):=whole hrow
   have HH:=hid hh
   have HK:=hid hkeep
   clear hrow hkeep hh
   go_wp2_with fail
   refine bodyPost_ret (results_ctt rfl _ _ w.heap.size _ _ (0,0) _ rfl HH.out Tryz.underlying77 rfl (by kernel_rfl)) rfl ?_
   exact HRR.out _ HK.out
  ·have c0:=hr.cell (i:=0) (by omega)
   have e0:pfv 0 pk 0 kdf (.slice (some ⟨w.heap.size+1,0,none⟩) L L) 0=.int .i64 0:=rfl
   rw[e0] at c0
   have f0:=hr.frozen 0
   have c13:=hr.cell (i:=13) (by omega)
   have e13:pfv 0 pk 0 kdf (.slice (some ⟨w.heap.size+1,0,none⟩) L L) 13=.slice (some ⟨w.heap.size+1,0,none⟩) L L:=rfl
   rw[e13] at c13
   have HT:=hid (total_any m b v w' hm)
   have HR:=hid hr
   have HS:=hid hs
   have HRR:=hid hR
   have hlt:=hr.lt
   have hls:=hs.lt
   clear hr hs hR hm e0 e13
   generalize m.tot=tot at *
   go_wp2_with (first
    | (go_at_call 44;refine HT.out.mono ?_;rintro e w2 ⟨rfl,rfl⟩)
    | (at_builtin;refine wpList_world (fun W=>W=((w'.setCell ⟨w.heap.size,0,none⟩ (.int .i64 tot)).alloc (.cells #[.int .i64 0] 3))) ?qw ?_))
   case qw=>rfl
   intro WW hWW
   subst hWW
   have hR1:(w'.setCell ⟨w.heap.size,0,none⟩ (.int .i64 tot)).rowIs w.heap.size 77 14 (pfv tot pk 0 kdf (.slice (some ⟨w.heap.size+1,0,none⟩) L L)):=(HR.out.set 0 _).congr fun i hi=>by
    by_cases e:i=0
    ·subst e;rfl
    ·rw[if_neg e];unfold pfv;rw[if_neg e,if_neg e]
   have hS1:(w'.setCell ⟨w.heap.size,0,none⟩ (.int .i64 tot)).rowIs (w.heap.size+1) 3 L fun i=>.int .i64 (st i):=HS.out.setOther (a:=⟨w.heap.size,0,none⟩) (by show w.heap.size+1≠w.heap.size;omega) _
   have hk1:Keep (· = w.heap.size) w' (w'.setCell ⟨w.heap.size,0,none⟩ (.int .i64 tot)):=(Keep.refl (· = w.heap.size) w').setCell _ _ rfl
   have hz1:(w'.setCell ⟨w.heap.size,0,none⟩ (.int .i64 tot)).heap.size=w'.heap.size:=by simp
   have HR1:=hid hR1
   have HS1:=hid hS1
   have HK1:=hid hk1
   have HZ1:=hid hz1
   have HLt:Hid (w.heap.size<w'.heap.size∧w.heap.size+1<w'.heap.size):=⟨hlt,hls⟩
   clear hR1 hS1 hk1 hz1 c0 f0 c13 hlt hls HT HR HS
   generalize (w'.setCell ⟨w.heap.size,0,none⟩ (.int .i64 tot))=W1 at *
   refine wpList_appA rfl sliceInt' rfl (W:=W1.alloc (.cells #[.int .i64 0] 3)) (base:=W1.heap.size) (k:=L) (n:=1) (v:=.slice (some ⟨W1.heap.size,0,none⟩) 1 1) (u:=.slice (some ⟨w.heap.size+1,0,none⟩) L L) (xs:=[.int .i64 0]) (ys:=(List.range L).map fun i=>.int .i64 (st i)) (by simp[Act.eval,HZ1.out]) (by simp[Act.eval]) (rowIs_holds (HS1.out.alloc _) (Nat.le_refl _) (fun _ _=>rfl)) (Owns.new (xs:=[.int .i64 0]) (Nat.le_refl _) (by simp)) (by simp) (by have:=HL.out;omega) (by have:=HL.out;omega) ?_
   intro v3 w3 hown hkeep hloc
   have HI3:Hid (IWp w3 v3 (0::(List.range L).map st)):=by
    refine Owns.iw0 (base:=W1.heap.size) ?_
    have e:ints (0::(List.range L).map st)=[.int .i64 0]++(List.range L).map fun i=>.int .i64 (st i):=by simp[ints]
    rw[e]
    show World.ownsRow _ _ _ _ _ _ _
    have e2:([Value.int .i64 0]++(List.range L).map fun i=>Value.int .i64 (st i)).length=1+L:=by simp;omega
    rw[e2]
    exact hown
   have HK3:Hid (KW W1 w3):=((KW.refl W1).alloc _).kept hkeep fun i hi=>by simp[Value.ownBlock] at hi;omega
   have HM3:=hid (smax_any v3 0 ((List.range L).map st) w3 (by have:=HL.out;simp;omega) HI3.out)
   rw[foldl_top st L] at HM3
   obtain⟨A3,c3,hv3,_⟩:=HI3.out
   subst hv3
   clear hown hkeep hloc
   have HLen:Hid ((0::(List.range L).map st).length=L+1):=hid (by simp)
   rw[HLen.out] at HM3
   have hvl:Value.slice A3 (0::(List.range L).map st).length c3=.slice A3 (L+1) c3:=by rw[HLen.out]
   rw[hvl]
   clear hvl HI3
   generalize Mc.top st L=most at *
   go_wp2_with fail
   refine HM3.out.mono ?_
   rintro e w4 ⟨rfl,hk4⟩
   have HK4:Hid (KW W1 w4):=HK3.out.t hk4
   have HR4:=hid (KW.row HK4.out HR1.out.lt HR1.out)
   have c2:=HR4.out.cell (i:=2) (by omega)
   have f2:=HR4.out.frozen 2
   have e2:pfv tot pk 0 kdf (.slice (some ⟨w.heap.size+1,0,none⟩) L L) 2=.int .i64 0:=rfl
   rw[e2] at c2
   have hb4:=HR4.out.lt
   have HR5:Hid ((w4.setCell ⟨w.heap.size,2,none⟩ (.int .i64 most)).rowIs w.heap.size 77 14 (pfv tot pk most kdf (.slice (some ⟨w.heap.size+1,0,none⟩) L L))):=(HR4.out.set 2 _).congr fun i hi=>by
    by_cases e:i=2
    ·subst e;rfl
    ·rw[if_neg e];unfold pfv;rw[if_neg e,if_neg e]
   have HW5:Hid ((w4.setCell ⟨w.heap.size,2,none⟩ (.int .i64 most)).heap[w.heap.size]?=some (.cells (pfA tot pk most kdf (.slice (some ⟨w.heap.size+1,0,none⟩) L L)) 77 (0,0))):=whole HR5.out
   clear hk4 e2
   go_wp2_with (first
    | (refine wpList_load_row rfl 77 _ rfl w.heap.size rfl 77 _ (0,0) _ HW5.out Tryz.underlying77 rfl (by kernel_rfl) ?_)
    | (refine wpList_store_is rfl 77 _ _ rfl w.heap.size 14 77 _ (pfv tot pk most kdf (.slice (some ⟨w.heap.size+1,0,none⟩) L L)) (pfA tot pk most kdf (.slice (some ⟨w.heap.size+1,0,none⟩) L L)) rfl rfl HR5.out (by kernel_rfl) (pfA_size _ _ _ _ _) (pfA_get _ _ _ _ _) (fun i _=>pfv_one _ _ _ _ _ rfl i) ?_))
   intro w6 hrow hkeep _
   have HH:Hid (w6.heap[w.heap.size]?=some (.cells (pfA tot pk most kdf (.slice (some ⟨w.heap.size+1,0,none⟩) L L)) 77 (0,0))):=whole hrow
   have HK6:Hid (Keep (· = w.heap.size) w' w6):=((HK1.out.kwt HK4.out).setCell _ _ rfl).t hkeep
   clear hrow hkeep c2 f2 hb4
   go_wp2_with fail
   refine bodyPost_ret (results_ctt rfl _ _ w.heap.size _ _ (0,0) _ rfl HH.out Tryz.underlying77 rfl (by rw[pfA_size];kernel_rfl)) rfl ?_
   exact HRR.out _ HK6.out
 ·obtain rfl:z=0:=by have:=HZ2.out;omega
  rw[hmk]
  simp only[Result.andThen_ok,Oper.upon_value]
  go_wp2_with fail
  refine(HW.out _ (((KW.refl w).alloc _).alloc _) HRp.out HRs.out).mono ?_
  intro e w' h
  rcases h with⟨p,at_,er,f0,hne,rfl,hr,hR⟩|⟨b,v,m,at_,pk,kdf,st,rfl,hm,hr,hs,hR⟩
  ·have d:(er != 0)=true:=by simpa using hne
   have d2:(er==0)=false:=by simpa using hne
   have HR:=hid hr
   have HRR:=hid hR
   clear hr hR hne
   go_wp2_with (refine wpList_store_is rfl 77 _ _ rfl w.heap.size 14 77 _ (pfv 0 0 0 (fun _=>0) (.slice none 0 0)) zero14 rfl rfl HR.out (by kernel_rfl) rfl ?qa1 ?qa2 ?_)
   case qa1=>intro i hi;rw[pfv_zero];exact pfA_get _ _ _ _ _ _ hi
   case qa2=>intro i hi;exact pfv_one _ _ _ _ _ rfl _
   intro w2 hrow hkeep _
   have hh:w2.heap[w.heap.size]?=some (.cells zero14 77 (0,0)):=whole hrow
   have HH:=hid hh
   have HK:=hid hkeep
   clear hrow hkeep hh
   go_wp2_with fail
   refine bodyPost_ret (results_ctt rfl _ _ w.heap.size _ _ (0,0) _ rfl HH.out Tryz.underlying77 rfl (by kernel_rfl)) rfl ?_
   exact HRR.out _ HK.out
  ·have c0:=hr.cell (i:=0) (by omega)
   have e0:pfv 0 pk 0 kdf (.slice (some ⟨w.heap.size+1,0,none⟩) L L) 0=.int .i64 0:=rfl
   rw[e0] at c0
   have f0:=hr.frozen 0
   have c13:=hr.cell (i:=13) (by omega)
   have e13:pfv 0 pk 0 kdf (.slice (some ⟨w.heap.size+1,0,none⟩) L L) 13=.slice (some ⟨w.heap.size+1,0,none⟩) L L:=rfl
   rw[e13] at c13
   have HT:=hid (total_any m b v w' hm)
   have HR:=hid hr
   have HS:=hid hs
   have HRR:=hid hR
   have hlt:=hr.lt
   have hls:=hs.lt
   clear hr hs hR hm e0 e13
   generalize m.tot=tot at *
   go_wp2_with (first
    | (go_at_call 44;refine HT.out.mono ?_;rintro e w2 ⟨rfl,rfl⟩)
    | (at_builtin;refine wpList_world (fun W=>W=((w'.setCell ⟨w.heap.size,0,none⟩ (.int .i64 tot)).alloc (.cells #[.int .i64 0] 3))) ?qw ?_))
   case qw=>rfl
   intro WW hWW
   subst hWW
   have hR1:(w'.setCell ⟨w.heap.size,0,none⟩ (.int .i64 tot)).rowIs w.heap.size 77 14 (pfv tot pk 0 kdf (.slice (some ⟨w.heap.size+1,0,none⟩) L L)):=(HR.out.set 0 _).congr fun i hi=>by
    by_cases e:i=0
    ·subst e;rfl
    ·rw[if_neg e];unfold pfv;rw[if_neg e,if_neg e]
   have hS1:(w'.setCell ⟨w.heap.size,0,none⟩ (.int .i64 tot)).rowIs (w.heap.size+1) 3 L fun i=>.int .i64 (st i):=HS.out.setOther (a:=⟨w.heap.size,0,none⟩) (by show w.heap.size+1≠w.heap.size;omega) _
   have hk1:Keep (· = w.heap.size) w' (w'.setCell ⟨w.heap.size,0,none⟩ (.int .i64 tot)):=(Keep.refl (· = w.heap.size) w').setCell _ _ rfl
   have hz1:(w'.setCell ⟨w.heap.size,0,none⟩ (.int .i64 tot)).heap.size=w'.heap.size:=by simp
   have HR1:=hid hR1
   have HS1:=hid hS1
   have HK1:=hid hk1
   have HZ1:=hid hz1
   have HLt:Hid (w.heap.size<w'.heap.size∧w.heap.size+1<w'.heap.size):=⟨hlt,hls⟩
   clear hR1 hS1 hk1 hz1 c0 f0 c13 hlt hls HT HR HS
   generalize (w'.setCell ⟨w.heap.size,0,none⟩ (.int .i64 tot))=W1 at *
   refine wpList_appA rfl sliceInt' rfl (W:=W1.alloc (.cells #[.int .i64 0] 3)) (base:=W1.heap.size) (k:=L) (n:=1) (v:=.slice (some ⟨W1.heap.size,0,none⟩) 1 1) (u:=.slice (some ⟨w.heap.size+1,0,none⟩) L L) (xs:=[.int .i64 0]) (ys:=(List.range L).map fun i=>.int .i64 (st i)) (by simp[Act.eval,HZ1.out]) (by simp[Act.eval]) (rowIs_holds (HS1.out.alloc _) (Nat.le_refl _) (fun _ _=>rfl)) (Owns.new (xs:=[.int .i64 0]) (Nat.le_refl _) (by simp)) (by simp) (by have:=HL.out;omega) (by have:=HL.out;omega) ?_
   intro v3 w3 hown hkeep hloc
   have HI3:Hid (IWp w3 v3 (0::(List.range L).map st)):=by
    refine Owns.iw0 (base:=W1.heap.size) ?_
    have e:ints (0::(List.range L).map st)=[.int .i64 0]++(List.range L).map fun i=>.int .i64 (st i):=by simp[ints]
    rw[e]
    show World.ownsRow _ _ _ _ _ _ _
    have e2:([Value.int .i64 0]++(List.range L).map fun i=>Value.int .i64 (st i)).length=1+L:=by simp;omega
    rw[e2]
    exact hown
   have HK3:Hid (KW W1 w3):=((KW.refl W1).alloc _).kept hkeep fun i hi=>by simp[Value.ownBlock] at hi;omega
   have HM3:=hid (smax_any v3 0 ((List.range L).map st) w3 (by have:=HL.out;simp;omega) HI3.out)
   rw[foldl_top st L] at HM3
   obtain⟨A3,c3,hv3,_⟩:=HI3.out
   subst hv3
   clear hown hkeep hloc
   have HLen:Hid ((0::(List.range L).map st).length=L+1):=hid (by simp)
   rw[HLen.out] at HM3
   have hvl:Value.slice A3 (0::(List.range L).map st).length c3=.slice A3 (L+1) c3:=by rw[HLen.out]
   rw[hvl]
   clear hvl HI3
   generalize Mc.top st L=most at *
   go_wp2_with fail
   refine HM3.out.mono ?_
   rintro e w4 ⟨rfl,hk4⟩
   have HK4:Hid (KW W1 w4):=HK3.out.t hk4
   have HR4:=hid (KW.row HK4.out HR1.out.lt HR1.out)
   have c2:=HR4.out.cell (i:=2) (by omega)
   have f2:=HR4.out.frozen 2
   have e2:pfv tot pk 0 kdf (.slice (some ⟨w.heap.size+1,0,none⟩) L L) 2=.int .i64 0:=rfl
   rw[e2] at c2
   have hb4:=HR4.out.lt
   have HR5:Hid ((w4.setCell ⟨w.heap.size,2,none⟩ (.int .i64 most)).rowIs w.heap.size 77 14 (pfv tot pk most kdf (.slice (some ⟨w.heap.size+1,0,none⟩) L L))):=(HR4.out.set 2 _).congr fun i hi=>by
    by_cases e:i=2
    ·subst e;rfl
    ·rw[if_neg e];unfold pfv;rw[if_neg e,if_neg e]
   have HW5:Hid ((w4.setCell ⟨w.heap.size,2,none⟩ (.int .i64 most)).heap[w.heap.size]?=some (.cells (pfA tot pk most kdf (.slice (some ⟨w.heap.size+1,0,none⟩) L L)) 77 (0,0))):=whole HR5.out
   clear hk4 e2
   go_wp2_with (first
    | (refine wpList_load_row rfl 77 _ rfl w.heap.size rfl 77 _ (0,0) _ HW5.out Tryz.underlying77 rfl (by kernel_rfl) ?_)
    | (refine wpList_store_is rfl 77 _ _ rfl w.heap.size 14 77 _ (pfv tot pk most kdf (.slice (some ⟨w.heap.size+1,0,none⟩) L L)) (pfA tot pk most kdf (.slice (some ⟨w.heap.size+1,0,none⟩) L L)) rfl rfl HR5.out (by kernel_rfl) (pfA_size _ _ _ _ _) (pfA_get _ _ _ _ _) (fun i _=>pfv_one _ _ _ _ _ rfl i) ?_))
   intro w6 hrow hkeep _
   have HH:Hid (w6.heap[w.heap.size]?=some (.cells (pfA tot pk most kdf (.slice (some ⟨w.heap.size+1,0,none⟩) L L)) 77 (0,0))):=whole hrow
   have HK6:Hid (Keep (· = w.heap.size) w' w6):=((HK1.out.kwt HK4.out).setCell _ _ rfl).t hkeep
   clear hrow hkeep c2 f2 hb4
   go_wp2_with fail
   refine bodyPost_ret (results_ctt rfl _ _ w.heap.size _ _ (0,0) _ rfl HH.out Tryz.underlying77 rfl (by rw[pfA_size];kernel_rfl)) rfl ?_
   exact HRR.out _ HK6.out
theorem pof_yes (l:Int)(n L:Nat)(A:Option Addr)(c:Nat)(list:List Mc.Act)(w:World)(l0:0≤l)(l1:l<65536)(hL:(L:Int)=l)(hn:n≤1048576)(hlen:list.length≤1099511627776)(hA:Acts w A list):
 Calls Tryz.prog 34 #[.int .i64 l,.int .i64 n,.slice A list.length c] w (ProfP (Mc.new l n) list L w):=by
 refine pof_walk l n L A c list.length w (.inr (.inr ⟨l0,l1,hL⟩)) _ fun W hk hr hs=>?_
 have e0:Mc.cnt (Mc.new l n).tags=0:=Mc.cnt_new n
 have hJ0:OfJ w.heap.size (w.heap.size+1) L (Mc.new l n) list 0 (fun i=>i=w.heap.size∨i=w.heap.size+1) W:=
  ⟨hr.congr fun i hi=>by unfold pfv;rfl,hs.congr fun i hi=>rfl,fun i=>Iff.rfl⟩
 refine(watch_yes l n A c list _ _ _ (fun i=>i=w.heap.size∨i=w.heap.size+1) W l0 l1 hn hlen (hA.kw hk) ?_ (see_of l n L l0 l1 hn hL list hlen w.heap.size (w.heap.size+1) (by omega)) hJ0).mono ?_
 ·intro h0 b off hA'
  obtain⟨b',off',h1,h2,_⟩:=hA h0
  rw[h1] at hA';cases hA';omega
 rintro e w' ⟨hk1,h⟩
 have hkw:KW w w':=hk.kept hk1 fun i hi=>by omega
 rcases h with⟨b,v,H,hok,rfl,hm',⟨h1,h2,hHH⟩,_,hH⟩|⟨k,hk',hok,her,rfl,H,hjr,_⟩
 ·refine .inr ⟨b,v,_,_,_,_,_,rfl,hm',h1,h2,fun w'' hkeep=>⟨hkw.kept hkeep fun i hi=>by omega,.inl ⟨hok,_,rfl,?_⟩⟩⟩
  have h3:=hkeep.row (by omega:¬ w.heap.size+1=w.heap.size) h2
  refine⟨_,L,by simp,fun _=>⟨_,0,rfl,h3.lt,fun i hi=>?_⟩⟩
  have hi':i<L:=by simpa using hi
  rw[Nat.zero_add,h3.cell hi']
  simp[hi']
 ·exact .inl ⟨_,_,_,_,her,rfl,hjr,fun w'' hkeep=>⟨hkw.kept hkeep fun i hi=>by omega,.inr ⟨k,hk',hok,her,rfl⟩⟩⟩
end Go.Proofs.YtphppbonljdibaaGreat
