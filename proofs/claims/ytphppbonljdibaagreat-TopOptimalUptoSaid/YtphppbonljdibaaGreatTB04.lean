import Derived.Test.YtphppbonljdibaaGreatTB03
import Derived.Test.YtphppbonljdibaaGreatTB00
import Derived.Laws.StructEq
import Derived.Laws.EntriesVeiled
set_option maxRecDepth 100000
set_option maxHeartbeats 4000000
set_option linter.unusedVariables false
set_option linter.unusedSimpArgs false
namespace Go.Proofs.YtphppbonljdibaaGreat
open Go.ChangeShapes Go.WideShapes Go.ChangeAt Go.RowKit
def fcl (l:List (Int×Int)):List Value:=l.flatMap fun a=>[.int .i64 a.1,.int .i64 a.2]
theorem fcl_app (l l':List (Int×Int)):fcl (l++l')=fcl l++fcl l':=by simp[fcl]
theorem fcl_cons (a:Int×Int)(l:List (Int×Int)):fcl (a::l)=.int .i64 a.1 :: .int .i64 a.2::fcl l:=rfl
theorem fcl_len (l:List (Int×Int)):(fcl l).length=l.length * 2:=by
 induction l with
 | nil=>rfl
 | cons a l ih=>rw[fcl_cons,List.length_cons,List.length_cons,List.length_cons,ih];omega
def OwnsF (w:World)(base:Nat)(e:TypeId)(v:Value)(l:List (Int×Int)):Prop:=w.ownsRow base e 2 v l.length (fcl l)
theorem OwnsF.lt {w:World}{base:Nat}{e:TypeId}{v:Value}{l:List (Int×Int)}(h:OwnsF w base e v l){b:Nat}(hb:v.ownBlock=some b):base≤b∧b<w.heap.size:=World.ownsRow.lt h b hb
theorem OwnsF.keep {own:Nat→Prop}{w w':World}{base:Nat}{e:TypeId}{v:Value}{l:List (Int×Int)}(h:OwnsF w base e v l)(hk:Keep own w w')(hn:∀ b,v.ownBlock=some b→¬ own b):OwnsF w' base e v l:=by
 rcases h with⟨h1,h2|⟨g,cap,cur,rfl,hb,hg,r⟩⟩
 ·exact⟨h1,.inl h2⟩
 ·exact⟨h1,.inr ⟨g,cap,cur,rfl,hb,(hk.block g (Array.getElem?_eq_some_iff.1 hg).1 (hn g rfl)).trans hg,r⟩⟩
theorem OwnsF.last {w:World}{base:Nat}{e:TypeId}{v:Value}{l:List (Int×Int)}{a:Int×Int}(h:OwnsF w base e v (l++[a])):
 ∃ b cap,v=.slice (some ⟨b,0,none⟩) (l.length+1) cap∧l.length+1≤cap∧base≤b∧b<w.heap.size∧w.cell? ⟨b,l.length * 2,none⟩=some (.int .i64 a.1)∧w.cell? ⟨b,l.length * 2+1,none⟩=some (.int .i64 a.2)∧(∀ o,w.frozen? ⟨b,o,none⟩=false) ∧
  OwnsF w base e (.slice (some ⟨b,0,none⟩) l.length cap) l∧∀ n:Int,OwnsF (w.setCell ⟨b,l.length * 2+1,none⟩ (.int .i64 n)) base e v (l++[(a.1,n)]):=by
 have hlen:(l++[a]).length=l.length+1:=by simp
 have hx:=h
 unfold OwnsF at hx
 rw[hlen,fcl_app] at hx
 have hl:=fcl_len l
 rcases hx.2 with⟨_,h0⟩|⟨g,cap,cur,rfl,hb,hg,hc,hm,hs,ht⟩
 ·omega
 ·have hget:∀ i,i<(l.length+1) * 2→cur[i]?=(fcl l++fcl [a])[i]?:=fun i hi=>by
   rw[← ht,List.getElem?_take,if_pos hi,Array.getElem?_toList]
  have hcell:∀ i,i<(l.length+1) * 2→w.cell? ⟨g,i,none⟩=(fcl l++fcl [a])[i]?:=fun i hi=>by
   rw[← hget i hi]
   unfold World.cell?
   rw[hg]
   rfl
  refine⟨g,cap,rfl,hc,hb,(Array.getElem?_eq_some_iff.1 hg).1,?_,?_,fun o=>?_,?_,fun n=>?_⟩
  ·rw[hcell _ (by omega),List.getElem?_append_right (by omega),hl,Nat.sub_self]
   rfl
  ·rw[hcell _ (by omega),List.getElem?_append_right (by omega),hl,show l.length * 2+1 - l.length * 2=1 by omega]
   rfl
  ·unfold World.frozen?
   rw[hg]
   rfl
  ·refine⟨hl,.inr ⟨g,cap,cur,rfl,hb,hg,by omega,hm,hs,?_⟩⟩
   have h1:fcl l=(fcl l++fcl [a]).take (l.length * 2):=by
    rw[List.take_append_of_le_length (by omega),← hl,List.take_length]
   conv=>rhs;rw[h1]
   rw[← ht,List.take_take]
   congr 1
   omega
  ·unfold OwnsF
   rw[show(l++[(a.1,n)]).length=l.length+1 by simp,fcl_app]
   refine⟨by rw[List.length_append,hl];show l.length * 2+2=_;omega,.inr ⟨g,cap,cur.setIfInBounds (l.length * 2+1) (.int .i64 n),rfl,hb,heap_setCell_same w g _ cur e _ hg,hc,hm,by simpa using hs,?_⟩⟩
   rw[Array.toList_setIfInBounds,List.take_set]
   refine(congrArg (fun L=>List.set L (l.length * 2+1) (Value.int .i64 n)) ht).trans ?_
   show(fcl l++fcl [a]).set (l.length * 2+1) (.int .i64 n)=fcl l++fcl [(a.1,n)]
   rw[List.set_append_right _ _ (by omega),hl,show l.length * 2+1 - l.length * 2=1 by omega]
   rfl
theorem sliceFr:SliceOfS Tryz.prog 175 174 (.agg #[.int .i64 0,.int .i64 0]) 2 16:=⟨Tryz.underlying175,by kernel_rfl,rfl,by omega⟩
section
variable {ops : Array Oper} {Q : Exit → Act → World → Prop}
theorem wpList_appF {rest:List Oper}{o:Oper}{a:Act}(hgd:o.guard=none){s x:Operand}(ho:o.op=.call { callee:=.builtin .append,args:=#[s,x],argTypes:=#[175,175] }){W:World}{base c:Nat}{p n:Int}{v:Value}{L:List (Int×Int)}
 (hs:a.eval s=v) (hx:a.eval x=.slice (some ⟨W.heap.size,0,none⟩) 1 c) (hown:OwnsF W base 174 v L) (hb:base≤W.heap.size) (hl:L.length≤1099511627776)
 (h:∀ v' w',Hid (OwnsF w' base 174 v' (L++[(p,n)]))→Hid (Keep (fun i=>v.ownBlock=some i) (W.alloc (.cells #[.int .i64 p,.int .i64 n] 174)) w')→Hid (v'.ownBlock=v.ownBlock∨∃ j,v'.ownBlock=some j∧W.heap.size≤j)→wpList Tryz.prog ops Q rest (a.put o.dst v') w'):wpList Tryz.prog ops Q (o::rest) a (W.alloc (.cells #[.int .i64 p,.int .i64 n] 174)):=by
 have hO:OwnsF (W.alloc (.cells #[.int .i64 p,.int .i64 n] 174)) base 174 v L:=hown.keep (((KW.refl W).alloc _).keep (own:=fun _=>False)) fun _ _ h=>h
 refine wpList_appA hgd sliceFr ho (W:=W.alloc (.cells #[.int .i64 p,.int .i64 n] 174)) (base:=base) (k:=1) (n:=L.length) (v:=v) (u:=.slice (some ⟨W.heap.size,0,none⟩) 1 c) (xs:=fcl L) (ys:=[.int .i64 p,.int .i64 n]) hs hx
  (Holds.new (w:=W) (t:=174) (k:=1) (size:=2) (c:=c) (ys:=[.int .i64 p,.int .i64 n]) rfl (by simp[Value.oneCell'])) hO (by simp;omega) (by omega) (by omega) fun v5 w5 hown5 hkeep5 hv5=>h v5 w5 ?_ (hid hkeep5) ?_
 ·unfold OwnsF
  rw[List.length_append,fcl_app]
  exact hid hown5
 ·rcases hv5 with h5|h5
  ·exact hid (.inl h5)
  ·exact hid (.inr ⟨_,h5,by simp⟩)
end
def nvs (l:List Nat):List Value:=l.map fun(n:Nat)=>.int .i64 (n:Int)
def MeasP (l:List Fl.O)(w:World)(e:Ending)(w':World):Prop:=
 KW w w'∧((Fl.wk l 0 []≠some []∧e=.returned (.tuple #[.slice none 0 0,.slice none 0 0,.int .i64 0,.int .i64 6])) ∨
  (Fl.wk l 0 []=some []∧Fl.meas l=none∧e=.returned (.tuple #[.slice none 0 0,.slice none 0 0,.int .i64 0,.int .i64 9])) ∨
  (Fl.wk l 0 []=some []∧∃ (sz:List Nat) (n:Nat) (v v2:Value),Fl.meas l=some (sz,n)∧e=.returned (.tuple #[v,v2,.int .i64 n,.int .i64 0])∧Owns w' w.heap.size 3 v (nvs sz)))
def szErr (l:List Fl.O):Int:=if Fl.wk l 0 []=some [] then (if (Fl.meas l).isSome then 0 else 9) else 6
theorem swrites_of (A:Option Addr)(c:Nat)(l:List Fl.O)(w:World)(hM:Calls Tryz.prog 96 #[.slice A l.length c] w (MeasP l w)):
 Calls Tryz.prog 53 #[.slice A l.length c] w fun e w'=>KW w w'∧((szErr l=0∧∃ sz n,Fl.meas l=some (sz,n)∧e=.returned (.tuple #[.int .i64 (n:Nat),.int .i64 0]))∨(szErr l≠0∧e=.returned (.tuple #[.int .i64 0,.int .i64 (szErr l)]))):=by
 unfold MeasP at hM
 have HM:=hid hM
 clear hM
 generalize l.length=N at *
 go_enter Tryz.func53,Tryz.ntmps53
 go_wp2_with fail
 refine HM.out.mono ?_
 rintro e w1 ⟨hk,h⟩
 have HK:=hid hk
 clear hk
 rcases h with⟨h1,rfl⟩|⟨h1,h2,rfl⟩|⟨h1,sz,n,v,v2,h2,rfl,ho⟩
 ·have HE:Hid (szErr l=6):=by unfold szErr;rw[if_neg h1];exact hid rfl
  clear h1
  go_wp2_with fail
  go_ret2
  refine⟨HK.out,.inr ⟨by rw[HE.out];decide,by rw[HE.out];rfl⟩⟩
 ·have HE:Hid (szErr l=9):=by unfold szErr;rw[if_pos h1,h2];exact hid rfl
  clear h1 h2
  go_wp2_with fail
  go_ret2
  refine⟨HK.out,.inr ⟨by rw[HE.out];decide,by rw[HE.out];rfl⟩⟩
 ·have HE:Hid (szErr l=0):=by unfold szErr;rw[if_pos h1,h2];exact hid rfl
  have H2:=hid h2
  clear h1 h2 ho
  go_wp2_with fail
  go_ret2
  exact⟨HK.out,.inl ⟨HE.out,sz,n,H2.out,rfl⟩⟩
theorem sizes_of (A:Option Addr)(c:Nat)(l:List Fl.O)(w:World)(hM:Calls Tryz.prog 96 #[.slice A l.length c] w (MeasP l w)):
 Calls Tryz.prog 260 #[.slice A l.length c] w fun e w'=>KW w w'∧((szErr l=0∧∃ sz n v,Fl.meas l=some (sz,n)∧e=.returned (.tuple #[v,.int .i64 0])∧Owns w' w.heap.size 3 v (nvs sz))∨(szErr l≠0∧e=.returned (.tuple #[.slice none 0 0,.int .i64 (szErr l)]))):=by
 unfold MeasP at hM
 have HM:=hid hM
 clear hM
 generalize l.length=N at *
 go_enter Tryz.func260,Tryz.ntmps260
 go_wp2_with fail
 refine HM.out.mono ?_
 rintro e w1 ⟨hk,h⟩
 have HK:=hid hk
 clear hk
 rcases h with⟨h1,rfl⟩|⟨h1,h2,rfl⟩|⟨h1,sz,n,v,v2,h2,rfl,ho⟩
 ·have HE:Hid (szErr l=6):=by unfold szErr;rw[if_neg h1];exact hid rfl
  clear h1
  go_wp2_with fail
  go_ret2
  refine⟨HK.out,.inr ⟨by rw[HE.out];decide,by rw[HE.out];rfl⟩⟩
 ·have HE:Hid (szErr l=9):=by unfold szErr;rw[if_pos h1,h2];exact hid rfl
  clear h1 h2
  go_wp2_with fail
  go_ret2
  refine⟨HK.out,.inr ⟨by rw[HE.out];decide,by rw[HE.out];rfl⟩⟩
 ·have HE:Hid (szErr l=0):=by unfold szErr;rw[if_pos h1,h2];exact hid rfl
  have H2:=hid h2
  have HO:=hid ho
  clear h1 h2 ho
  go_wp2_with fail
  go_ret2
  exact⟨HK.out,.inl ⟨HE.out,sz,n,v,H2.out,rfl,HO.out⟩⟩
namespace Oc
def aD (k:Int):Bool:=decide (1≤k∧k≤6)
def aA (k:Int):Bool:=decide (1≤k∧k≤4∨k=6)
def aB (k:Int):Bool:=decide (1≤k∧k≤3)
def aV (k:Int):Bool:=decide (k=5∨k=7)
def kn (k:Int):Bool:=decide (0≤k∧k<8)
def rg (n:Int)(x:Bool):Bool:=if x=true then decide (0≤n∧n≤2147483647) else decide (n=0)
def right (k d a b v:Int):Bool:=kn k&&rg d (aD k)&&rg a (aA k)&&rg b (aB k)&&(aV k || decide (v=0))
theorem other {k:Int}(h:¬ (1≤k∧k≤7)):aD k=false∧aA k=false∧aB k=false∧aV k=false:=by
 refine⟨decide_eq_false (by omega),decide_eq_false (by omega),decide_eq_false (by omega),decide_eq_false (by omega)⟩
end Oc
def opv (k d a b v:Int):Array Value:=#[.int .i64 k,.int .i64 d,.int .i64 a,.int .i64 b,.int .u64 v]
def akv (k:Int):Array Value:=#[.bool (Oc.aD k),.bool (Oc.aA k),.bool (Oc.aB k),.bool (Oc.aV k)]
theorem known_any (k:Int)(w:World):Calls Tryz.prog 262 #[.int .i64 k] w fun e w'=>e=.returned (.bool (Oc.kn k))∧w=w':=by
 have HK:=hid (show Oc.kn k=decide (0≤k∧k<8) from rfl)
 by_cases h0:0≤k
 ·by_cases h1:k<8
  ·have H:=hid (HK.out.trans (decide_eq_true ⟨h0,h1⟩))
   go_enter Tryz.func262,Tryz.ntmps262
   go_wp2
   go_ret
   exact⟨ret_bool H.out.symm,rfl⟩
  ·have H:=hid (HK.out.trans (decide_eq_false (fun h=>h1 h.2)))
   have d1:decide (k<8)=false:=by simpa using h1
   go_enter Tryz.func262,Tryz.ntmps262
   go_wp2
   go_ret
   exact⟨ret_bool H.out.symm,rfl⟩
 ·have H:=hid (HK.out.trans (decide_eq_false (fun h=>h0 h.1)))
  have d0:decide (0≤k)=false:=by simpa using h0
  go_enter Tryz.func262,Tryz.ntmps262
  go_wp2
  go_ret
  exact⟨ret_bool H.out.symm,rfl⟩
theorem register_any (n:Int)(x:Bool)(w:World):Calls Tryz.prog 263 #[.int .i64 n,.bool x] w fun e w'=>e=.returned (.bool (Oc.rg n x))∧w=w':=by
 cases x with
 | false=>
   have HK:=hid (show Oc.rg n false=decide (n=0) from rfl)
   by_cases h:n=0
   ·have H:=hid (HK.out.trans (decide_eq_true h))
    have d:(n==0)=true:=by simpa using h
    go_enter Tryz.func263,Tryz.ntmps263
    go_wp2
    go_ret
    exact⟨ret_bool H.out.symm,rfl⟩
   ·have H:=hid (HK.out.trans (decide_eq_false h))
    have d:(n==0)=false:=by simpa using h
    go_enter Tryz.func263,Tryz.ntmps263
    go_wp2
    go_ret
    exact⟨ret_bool H.out.symm,rfl⟩
 | true=>
   have HK:=hid (show Oc.rg n true=decide (0≤n∧n≤2147483647) from rfl)
   by_cases h0:0≤n
   ·by_cases h1:n≤2147483647
    ·have H:=hid (HK.out.trans (decide_eq_true ⟨h0,h1⟩))
     go_enter Tryz.func263,Tryz.ntmps263
     go_wp2
     go_ret
     exact⟨ret_bool H.out.symm,rfl⟩
    ·have H:=hid (HK.out.trans (decide_eq_false (fun h=>h1 h.2)))
     have d1:decide (n≤2147483647)=false:=by simpa using h1
     go_enter Tryz.func263,Tryz.ntmps263
     go_wp2
     go_ret
     exact⟨ret_bool H.out.symm,rfl⟩
   ·have H:=hid (HK.out.trans (decide_eq_false (fun h=>h0 h.1)))
    have d0:decide (0≤n)=false:=by simpa using h0
    go_enter Tryz.func263,Tryz.ntmps263
    go_wp2
    go_ret
    exact⟨ret_bool H.out.symm,rfl⟩
theorem of_any (k:Int)(w:World):Calls Tryz.prog 172 #[.int .i64 k] w fun e w'=>e=.returned (.agg (akv k))∧KW w w':=by
 by_cases h:1≤k∧k≤7
 ·rcases(show k=1∨k=2∨k=3∨k=4∨k=5∨k=6∨k=7 by omega) with rfl|rfl|rfl|rfl|rfl|rfl|rfl
  all_goals
   go_enter Tryz.func172,Tryz.ntmps172
   go_wp2_with fail
   exact bodyPost_ret (results_cell_row rfl _ _ _ _ _ (0,0) _ rfl (heap_alloc_new w _) Tryz.underlying218 rfl (by kernel_rfl)) rfl ⟨by first|rfl|kernel_rfl,(KW.refl w).alloc _⟩
 ·have HO:=hid (show #[Value.bool false,.bool false,.bool false,.bool false]=akv k from by unfold akv;rw[(Oc.other h).1,(Oc.other h).2.1,(Oc.other h).2.2.1,(Oc.other h).2.2.2])
  have e1:(k==1)=false:=by simp;omega
  have e2:(k==2)=false:=by simp;omega
  have e3:(k==3)=false:=by simp;omega
  have e4:(k==4)=false:=by simp;omega
  have e5:(k==5)=false:=by simp;omega
  have e6:(k==6)=false:=by simp;omega
  have e7:(k==7)=false:=by simp;omega
  by_cases h0:1≤k
  ·have d1:decide (1≤k)=true:=decide_eq_true h0
   have d2:decide (k≤3)=false:=decide_eq_false (by omega)
   clear h0 h
   go_enter Tryz.func172,Tryz.ntmps172
   go_wp2_with fail
   exact bodyPost_ret (results_cell_row rfl _ _ _ _ _ (0,0) _ rfl (heap_alloc_new w _) Tryz.underlying218 rfl (by kernel_rfl)) rfl ⟨by rw[← HO.out],(KW.refl w).alloc _⟩
  ·have d1:decide (1≤k)=false:=decide_eq_false h0
   clear h0 h
   go_enter Tryz.func172,Tryz.ntmps172
   go_wp2_with fail
   exact bodyPost_ret (results_cell_row rfl _ _ _ _ _ (0,0) _ rfl (heap_alloc_new w _) Tryz.underlying218 rfl (by kernel_rfl)) rfl ⟨by rw[← HO.out],(KW.refl w).alloc _⟩
theorem asks_any (k:Int)(w:World):Calls Tryz.prog 199 #[.int .i64 k] w fun e w'=>e=.returned (.agg (akv k))∧KW w w':=by
 by_cases h:1≤k∧k≤7
 ·rcases(show k=1∨k=2∨k=3∨k=4∨k=5∨k=6∨k=7 by omega) with rfl|rfl|rfl|rfl|rfl|rfl|rfl
  all_goals
   go_enter Tryz.func199,Tryz.ntmps199
   go_wp2_with fail
   exact bodyPost_ret (results_cell_row rfl _ _ _ _ _ (0,0) _ rfl (heap_alloc_new w _) Tryz.underlying252 rfl (by kernel_rfl)) rfl ⟨by first|rfl|kernel_rfl,(KW.refl w).alloc _⟩
 ·have HO:=hid (show #[Value.bool false,.bool false,.bool false,.bool false]=akv k from by unfold akv;rw[(Oc.other h).1,(Oc.other h).2.1,(Oc.other h).2.2.1,(Oc.other h).2.2.2])
  have e1:(k==1)=false:=by simp;omega
  have e2:(k==2)=false:=by simp;omega
  have e3:(k==3)=false:=by simp;omega
  have e4:(k==4)=false:=by simp;omega
  have e5:(k==5)=false:=by simp;omega
  have e6:(k==6)=false:=by simp;omega
  have e7:(k==7)=false:=by simp;omega
  by_cases h0:1≤k
  ·have d1:decide (1≤k)=true:=decide_eq_true h0
   have d2:decide (k≤3)=false:=decide_eq_false (by omega)
   clear h0 h
   go_enter Tryz.func199,Tryz.ntmps199
   go_wp2_with fail
   exact bodyPost_ret (results_cell_row rfl _ _ _ _ _ (0,0) _ rfl (heap_alloc_new w _) Tryz.underlying252 rfl (by kernel_rfl)) rfl ⟨by rw[← HO.out],(KW.refl w).alloc _⟩
  ·have d1:decide (1≤k)=false:=decide_eq_false h0
   clear h0 h
   go_enter Tryz.func199,Tryz.ntmps199
   go_wp2_with fail
   exact bodyPost_ret (results_cell_row rfl _ _ _ _ _ (0,0) _ rfl (heap_alloc_new w _) Tryz.underlying252 rfl (by kernel_rfl)) rfl ⟨by rw[← HO.out],(KW.refl w).alloc _⟩
theorem oright_any (k d a b v:Int)(w:World):
 Calls Tryz.prog 252 #[.agg (opv k d a b v)] w fun e w'=>e=.returned (.bool (Oc.right k d a b v))∧KW w w':=by
 have HO:=hid (fun W=>of_any k W)
 have HR:=hid (show Oc.right k d a b v=(Oc.kn k&&Oc.rg d (Oc.aD k)&&Oc.rg a (Oc.aA k)&&Oc.rg b (Oc.aB k)&&(Oc.aV k || decide (v=0))) from rfl)
 have HKn:=hid (fun W=>known_any k W)
 have HD:=hid (fun W=>register_any d (Oc.aD k) W)
 have HA:=hid (fun W=>register_any a (Oc.aA k) W)
 have HB:=hid (fun W=>register_any b (Oc.aB k) W)
 have HV:=hid (show decide (v=0)=(v==0) from by by_cases h:v=0<;>simp[h])
 unfold akv at HO
 unfold opv
 generalize Oc.right k d a b v=r at *
 generalize Oc.kn k=kn at *
 generalize Oc.rg d (Oc.aD k)=r1 at *
 generalize Oc.rg a (Oc.aA k)=r2 at *
 generalize Oc.rg b (Oc.aB k)=r3 at *
 generalize Oc.aD k=xd at *
 generalize Oc.aA k=xa at *
 generalize Oc.aB k=xb at *
 generalize Oc.aV k=xv at *
 have hk:=(KW.refl w).alloc (.cells #[.int .i64 k,.int .i64 d,.int .i64 a,.int .i64 b,.int .u64 v] 83)
 have c0:(w.alloc (.cells #[.int .i64 k,.int .i64 d,.int .i64 a,.int .i64 b,.int .u64 v] 83)).cell? ⟨w.heap.size,0,none⟩=some (.int .i64 k):=by go_simp
 have c1:(w.alloc (.cells #[.int .i64 k,.int .i64 d,.int .i64 a,.int .i64 b,.int .u64 v] 83)).cell? ⟨w.heap.size,1,none⟩=some (.int .i64 d):=by go_simp
 have c2:(w.alloc (.cells #[.int .i64 k,.int .i64 d,.int .i64 a,.int .i64 b,.int .u64 v] 83)).cell? ⟨w.heap.size,2,none⟩=some (.int .i64 a):=by go_simp
 have c3:(w.alloc (.cells #[.int .i64 k,.int .i64 d,.int .i64 a,.int .i64 b,.int .u64 v] 83)).cell? ⟨w.heap.size,3,none⟩=some (.int .i64 b):=by go_simp
 have c4:(w.alloc (.cells #[.int .i64 k,.int .i64 d,.int .i64 a,.int .i64 b,.int .u64 v] 83)).cell? ⟨w.heap.size,4,none⟩=some (.int .u64 v):=by go_simp
 have HC:=hid (And.intro c0 (And.intro c1 (And.intro c2 (And.intro c3 c4))))
 clear c0 c1 c2 c3 c4
 go_enter Tryz.func252,Tryz.ntmps252
 go_wp2_with fail
 refine(HO.out _).mono ?_
 rintro e w1 ⟨rfl,hb⟩
 have c0:=KW.cell hb (by simp) HC.out.1
 have c1:=KW.cell hb (by simp) HC.out.2.1
 have c2:=KW.cell hb (by simp) HC.out.2.2.1
 have c3:=KW.cell hb (by simp) HC.out.2.2.2.1
 have c4:=KW.cell hb (by simp) HC.out.2.2.2.2
 have hlt:=(Nat.lt_of_lt_of_le (show w.heap.size<(w.alloc (.cells #[.int .i64 k,.int .i64 d,.int .i64 a,.int .i64 b,.int .u64 v] 83)).heap.size from by simp) hb.size)
 replace hk:=(hk.t hb).alloc (.cells #[.bool xd,.bool xa,.bool xb,.bool xv] 218)
 clear hb HC
 go_wp2_with fail
 refine(HKn.out _).mono ?_;rintro e w2 ⟨rfl,rfl⟩
 cases kn with
 | false=>
   go_wp2_with fail
   go_ret
   exact⟨ret_bool (by rw[HR.out];simp),hk⟩
 | true=>
   go_wp2_with fail
   refine(HD.out _).mono ?_;rintro e w2 ⟨rfl,rfl⟩
   cases r1 with
   | false=>
     go_wp2_with fail
     go_ret
     exact⟨ret_bool (by rw[HR.out];simp),hk⟩
   | true=>
     go_wp2_with fail
     refine(HA.out _).mono ?_;rintro e w2 ⟨rfl,rfl⟩
     cases r2 with
     | false=>
       go_wp2_with fail
       go_ret
       exact⟨ret_bool (by rw[HR.out];simp),hk⟩
     | true=>
       go_wp2_with fail
       refine(HB.out _).mono ?_;rintro e w2 ⟨rfl,rfl⟩
       cases r3 with
       | false=>
         go_wp2_with fail
         go_ret
         exact⟨ret_bool (by rw[HR.out];simp),hk⟩
       | true=>
         cases xv with
         | true=>
           go_wp2_with fail
           go_ret
           exact⟨ret_bool (by rw[HR.out];rfl),hk⟩
         | false=>
           go_wp2_with fail
           go_ret
           exact⟨ret_bool (by rw[HR.out,HV.out];rfl),hk⟩
end Go.Proofs.YtphppbonljdibaaGreat
namespace Go.Proofs.YtphppbonljdibaaGreat
open Go.ChangeShapes Go.WideShapes Go.ChangeAt Go.RowKit
def nth3 (d a b:Int)(i:Nat):Int:=if i=0 then d else if i=1 then a else b
def ask4 (k:Int)(i:Nat):Bool:=if i=0 then Oc.aD k else if i=1 then Oc.aA k else if i=2 then Oc.aB k else Oc.aV k
theorem rg_reg (n:Int)(x:Bool):Oc.rg n x = !(decide (n<0) || decide (2147483647<n) || (!x&&(n != 0))):=by
 unfold Oc.rg
 cases x with
 | true=>by_cases h0:n<0<;>by_cases h1:2147483647<n<;>simp[h0,h1]<;>omega
 | false=>by_cases h0:n=0<;>simp[h0]
theorem right_no {k d a b v:Int}{i:Nat}(hi:i<3)(h:Oc.rg (nth3 d a b i) (ask4 k i)=false):Oc.right k d a b v=false:=by
 unfold Oc.right
 rcases(show i=0∨i=1∨i=2 by omega) with rfl|rfl|rfl
 ·have h':Oc.rg d (Oc.aD k)=false:=h
  rw[h'];simp
 ·have h':Oc.rg a (Oc.aA k)=false:=h
  rw[h'];simp
 ·have h':Oc.rg b (Oc.aB k)=false:=h
  rw[h'];simp
theorem right_yes {k d a b v:Int}(hk:Oc.kn k=true)(h:∀ i,i<3→Oc.rg (nth3 d a b i) (ask4 k i)=true):Oc.right k d a b v=(Oc.aV k || decide (v=0)):=by
 unfold Oc.right
 have h0:Oc.rg d (Oc.aD k)=true:=h 0 (by omega)
 have h1:Oc.rg a (Oc.aA k)=true:=h 1 (by omega)
 have h2:Oc.rg b (Oc.aB k)=true:=h 2 (by omega)
 rw[hk,h0,h1,h2];rfl
theorem rright07_far (k d a b v:Int)(w:World)(h:Oc.kn k=false):
 Calls Tryz.prog 249 #[.agg (opv k d a b v)] w fun e w'=>e=.returned (.bool (Oc.right k d a b v))∧KW w w':=by
 have HR:Hid (false=Oc.right k d a b v):=by unfold Oc.right;rw[h];rfl
 have h':=of_decide_eq_false h
 have hk:=(KW.refl w).alloc (.cells #[.int .i64 k,.int .i64 d,.int .i64 a,.int .i64 b,.int .u64 v] 83)
 unfold opv
 by_cases h0:k<0
 ·clear h h'
  go_enter Tryz.func249,Tryz.ntmps249
  go_wp2_with fail
  go_ret
  exact⟨ret_bool HR.out,hk⟩
 ·have d0:decide (k<0)=false:=decide_eq_false h0
  have d1:7<k:=by omega
  clear h h' h0
  go_enter Tryz.func249,Tryz.ntmps249
  go_wp2_with fail
  go_ret
  exact⟨ret_bool HR.out,hk⟩
theorem rright07_near (k d a b v:Int)(w:World)(h:Oc.kn k=true):
 Calls Tryz.prog 249 #[.agg (opv k d a b v)] w fun e w'=>e=.returned (.bool (Oc.right k d a b v))∧KW w w':=by
 have HN:=hid (fun i (hi:i<3) (h:Oc.rg (nth3 d a b i) (ask4 k i)=false)=>right_no (k:=k) (d:=d) (a:=a) (b:=b) (v:=v) hi h)
 have HY:=hid (fun(hh:∀ i,i<3→Oc.rg (nth3 d a b i) (ask4 k i)=true)=>right_yes (k:=k) (d:=d) (a:=a) (b:=b) (v:=v) h hh)
 have HG:=hid (fun i=>rg_reg (nth3 d a b i) (ask4 k i))
 have HO:=hid (fun W=>asks_any k W)
 have h':=of_decide_eq_true h
 have d0:decide (k<0)=false:=decide_eq_false (by omega)
 have d1:decide (7<k)=false:=decide_eq_false (by omega)
 have HV:=hid (show decide (v=0)=(v==0) from by by_cases h:v=0<;>simp[h])
 have HX:Hid (∀ i,i<4→(akv k)[i]?=some (.bool (ask4 k i))):=by
  intro i hi
  rcases(show i=0∨i=1∨i=2∨i=3 by omega) with rfl|rfl|rfl|rfl<;>rfl
 have H4:=hid (show ask4 k 3=Oc.aV k from rfl)
 unfold opv
 unfold akv at HO HX
 generalize Oc.right k d a b v=r at *
 generalize Oc.aD k=xd at *
 generalize Oc.aA k=xa at *
 generalize Oc.aB k=xb at *
 generalize Oc.aV k=xv at *
 clear h h'
 have hk:=(KW.refl w).alloc (.cells #[.int .i64 k,.int .i64 d,.int .i64 a,.int .i64 b,.int .u64 v] 83)
 have HOp:Hid ((w.alloc (.cells #[.int .i64 k,.int .i64 d,.int .i64 a,.int .i64 b,.int .u64 v] 83)).rowIs w.heap.size 83 5 (fun i=>[.int .i64 k,.int .i64 d,.int .i64 a,.int .i64 b,.int .u64 v].getD i undef)):=World.rowIs_alloc w #[.int .i64 k,.int .i64 d,.int .i64 a,.int .i64 b,.int .u64 v] 83 _ fun i hi=>by simp at hi;simp[hi]
 go_enter Tryz.func249,Tryz.ntmps249
 go_wp2_with fail
 refine(HO.out _).mono ?_
 rintro e w1 ⟨rfl,hb⟩
 have HOp1:=hid (KW.row hb (by simp) HOp.out)
 have HK:=hid (hk.t hb)
 have c1:=HOp1.out.cell (i:=1) (by omega)
 have c2:=HOp1.out.cell (i:=2) (by omega)
 have c3:=HOp1.out.cell (i:=3) (by omega)
 simp only[List.getD_cons_succ,List.getD_cons_zero] at c1 c2 c3
 have hlt:=HOp1.out.lt
 clear hb hk HOp
 go_wp2_with fail
 have h3:w.heap.size<w1.heap.size:=hlt
 refine wpCode_world (fun W=>KW w W∧W.rowIs w1.heap.size 252 4 (fun i=>.bool (ask4 k i))∧W.rowIs (w1.heap.size+1) 289 3 (fun i=>.int .i64 (nth3 d a b i))∧W.cell? ⟨w.heap.size,4,none⟩=some (.int .u64 v)) ⟨(HK.out.alloc _).alloc _,?_,?_,?_⟩ ?_
 ·exact(World.rowIs_alloc w1 #[.bool xd,.bool xa,.bool xb,.bool xv] 252 (fun i=>.bool (ask4 k i)) HX.out).alloc _
 ·have h:=World.rowIs_alloc (w1.alloc (.cells #[.bool xd,.bool xa,.bool xb,.bool xv] 252)) #[.int .i64 d,.int .i64 a,.int .i64 b] 289 (fun i=>.int .i64 (nth3 d a b i)) fun i hi=>by
   rcases(show i=0∨i=1∨i=2 by simp at hi;omega) with rfl|rfl|rfl<;>rfl
  simpa using h
 ·have c4:=HOp1.out.cell (i:=4) (by omega)
  exact KW.cell (((KW.refl w1).alloc _).alloc _) hlt c4
 rintro W ⟨hk,hx,hn,hv⟩
 have HK2:=hid hk
 have HXr:=hid hx
 have HNr:=hid hn
 generalize hg1:w1.heap.size=g1 at *
 clear hk hx hn c1 c2 c3 hlt h3 HK HOp1 hg1
 go_loop [5] (fun i=>∃ j:Nat,j≤3∧i=.int .i64 j∧Hid (∀ q,q<j→Oc.rg (nth3 d a b q) (ask4 k q)=true)) (fun i=>3 - (intOf i).toNat)
 case atStart=>exact⟨0,by omega,rfl,fun q hq=>by omega⟩
 case round=>
  obtain⟨j,hj,rfl,HJ⟩:=hrel
  by_cases hlt:j<3
  ·have x:=HXr.out.cell (i:=j) (by omega)
   have n:=HNr.out.cell (i:=j) (by omega)
   have HNj:=hid (HN.out j hlt)
   have HGj:=hid (HG.out j)
   have HJ2:=hid (fun(h:Oc.rg (nth3 d a b j) (ask4 k j)=true) (q:Nat) (hq:q<j+1)=>(show Oc.rg (nth3 d a b q) (ask4 k q)=true from by
    rcases(show q<j∨q=j by omega) with h1|rfl
    ·exact HJ.out q h1
    ·exact h))
   generalize nth3 d a b j=z at *
   generalize ask4 k j=y at *
   have L5:(j:Int)<3:=by omega
   have bad:Oc.rg z y=false→Hid (r=false):=fun h=>HNj.out h
   by_cases h0:z<0
   ·have HF:=bad (by rw[HGj.out,decide_eq_true h0];rfl)
    clear bad
    go_wp2_with fail
    go_ret
    exact⟨ret_bool HF.out.symm,HK2.out⟩
   have d0:decide (z<0)=false:=decide_eq_false h0
   by_cases h1:2147483647<z
   ·have HF:=bad (by rw[HGj.out,d0,decide_eq_true h1];rfl)
    clear bad
    go_wp2_with fail
    go_ret
    exact⟨ret_bool HF.out.symm,HK2.out⟩
   have d1:decide (2147483647<z)=false:=decide_eq_false h1
   cases y with
   | true=>
     have HT:=hid (HJ2.out (by rw[HGj.out,d0,d1];rfl))
     clear bad
     go_wp2_with fail
     go_round
     case rel=>exact⟨j+1,by omega,by go_num,HT⟩
     case measure=>simp[intOf];omega
   | false=>
     by_cases h2:z=0
     ·have d2:(z != 0)=false:=by simp[h2]
      have d3:(z==0)=true:=by simp[h2]
      have HT:=hid (HJ2.out (by rw[HGj.out,d0,d1,d2];rfl))
      clear bad h2
      go_wp2_with fail
      go_round
      case rel=>exact⟨j+1,by omega,by go_num,HT⟩
      case measure=>simp[intOf];omega
     ·have d2:(z != 0)=true:=by simpa using h2
      have d3:(z==0)=false:=by simpa using h2
      have HF:=bad (by rw[HGj.out,d0,d1,d2];rfl)
      clear bad h2
      go_wp2_with fail
      go_ret
      exact⟨ret_bool HF.out.symm,HK2.out⟩
  ·obtain rfl:j=3:=by omega
   have HR:=hid (HY.out HJ.out)
   have x:=HXr.out.cell (i:=3) (by omega)
   simp only[H4.out] at x
   clear hlt
   cases xv with
   | true=>
     go_wp2_with fail
     go_ret
     exact⟨ret_bool (by rw[HR.out];rfl),HK2.out⟩
   | false=>
     go_wp2_with fail
     go_ret
     exact⟨ret_bool (by rw[HR.out,HV.out];rfl),HK2.out⟩
theorem rright07_any (k d a b v:Int)(w:World):
 Calls Tryz.prog 249 #[.agg (opv k d a b v)] w fun e w'=>e=.returned (.bool (Oc.right k d a b v))∧KW w w':=by
 cases h:Oc.kn k with
 | false=>exact rright07_far k d a b v w h
 | true=>exact rright07_near k d a b v w h
def u64s (l:List Int):List Value:=l.map (Value.int .u64)
theorem u64s_len (l:List Int):(u64s l).length=l.length:=by simp[u64s]
def WT (w:World)(v:Value)(l:List Int):Prop:=∃ A c,v=.slice A l.length c∧Row1 w A l.length fun i=>.int .u64 (l.getD i 0)
theorem WT.kw {w w':World}{v:Value}{l:List Int}(h:WT w v l)(hk:KW w w'):WT w' v l:=by
 obtain⟨A,c,hv,hr⟩:=h
 exact⟨A,c,hv,hr.k hk⟩
theorem WT.nil (w:World):WT w (.slice none 0 0) []:=⟨none,0,rfl,fun h=>absurd h (by simp)⟩
namespace Oc
def nn (k:Int):Nat→Nat
 | 0=>1
 | j+1=>if ask4 k j=true then nn k j+1 else nn k j
def vv (l:List Int)(k:Int)(j:Nat):Int:=if ask4 k j=true then l.getD (nn k j) 0 else 0
def cap (x:Int):Int:=min x 2147483647
end Oc
section
variable {P : Program}
theorem run_loadVar_one (w:World)(a:Addr)(ty:TypeId)(v:Value)(d:TypeDesc)(hc:w.cell? a=some v)(hu:P.underlying ty=some d)(hd:(match d with | .struct _ | .array _ _=>false | _=>true)=true):
 (loadVar ty a).run P w=.ok v w:=by
 have hagg:(isAgg ty).run P w=.ok false w:=by
  unfold isAgg
  rw[Sem.run_bind,run_underlying hu w]
  cases d<;>simp_all
 unfold loadVar
 rw[Sem.run_bind,hagg]
 simp[hc]
end
structure Cl (w:World)(nb wb sb:Nat)(n:Nat)(s:Bool)(A:Option Addr)(c:Nat)(l:List Int):Prop where
 hn:w.rowIs nb 3 1 (fun _=>.int .i64 n)
 hs:w.rowIs sb 4 1 (fun _=>.bool s)
 hw:w.cell? ⟨wb,0,none⟩=some (.slice A l.length c)
 hr:Row1 w A l.length fun i=>.int .u64 (l.getD i 0)
 hd:nb≠wb∧sb≠wb∧nb≠sb
 ha:∀ b off,A=some ⟨b,off,none⟩→b≠nb∧b≠sb
theorem Cl.next {w w':World}{nb wb sb n n':Nat}{s s':Bool}{A:Option Addr}{c:Nat}{l:List Int}(h:Cl w nb wb sb n s A c l)(h1:w'.rowIs nb 3 1 (fun _=>.int .i64 n'))(h2:w'.rowIs sb 4 1 (fun _=>.bool s'))
 (hk:Keep (fun i=>i=nb∨i=sb) w w'):Cl w' nb wb sb n' s' A c l:=
 ⟨h1,h2,(hk.cell (World.block_lt_of_cell? w _ h.hw) (fun e=>e.elim (fun e=>h.hd.1 e.symm) fun e=>h.hd.2.1 e.symm)).trans h.hw,hk.row1 h.hr (fun b off hA e=>e.elim (h.ha b off hA).1 (h.ha b off hA).2),h.hd,h.ha⟩
end Go.Proofs.YtphppbonljdibaaGreat
namespace Go.Proofs.YtphppbonljdibaaGreat
open Go.ChangeShapes Go.WideShapes Go.ChangeAt Go.RowKit
namespace Oc
def app (k a b v:Int):Int:=
 if k=1 then IntKind.u64.wrap (a+b) else if k=2 then IntKind.u64.wrap (a - b) else if k=3 then IntKind.u64.wrap (a * b) else if k=4 then IntKind.u64.wrap (-a) else if k=5 then v else if k=6 then a else 0
def pda (k a b:Int):Int:=if k=1∨k=2∨k=6 then 1 else if k=3 then b else if k=4 then 18446744073709551615 else 0
def pdb (k a b:Int):Int:=if k=1 then 1 else if k=2 then 18446744073709551615 else if k=3 then a else 0
end Oc
theorem oapply_any (k d ra rb v a b:Int)(w:World):
 Calls Tryz.prog 246 #[.agg (opv k d ra rb v),.int .u64 a,.int .u64 b] w fun e w'=>e=.returned (.int .u64 (Oc.app k a b v))∧KW w w':=by
 unfold opv
 have hk:=(KW.refl w).alloc (.cells #[.int .i64 k,.int .i64 d,.int .i64 ra,.int .i64 rb,.int .u64 v] 83)
 by_cases h:1≤k∧k≤6
 ·rcases(show k=1∨k=2∨k=3∨k=4∨k=5∨k=6 by omega) with rfl|rfl|rfl|rfl|rfl|rfl
  all_goals
   clear h
   go_enter Tryz.func246,Tryz.ntmps246
   go_wp2_with fail
   go_ret
   exact⟨rfl,hk⟩
 ·have e1:(k==1)=false:=by simp;omega
  have e2:(k==2)=false:=by simp;omega
  have e3:(k==3)=false:=by simp;omega
  have e4:(k==4)=false:=by simp;omega
  have e5:(k==5)=false:=by simp;omega
  have e6:(k==6)=false:=by simp;omega
  have HE:=hid (show Oc.app k a b v=0∧True from⟨by unfold Oc.app;rw[if_neg (by omega),if_neg (by omega),if_neg (by omega),if_neg (by omega),if_neg (by omega),if_neg (by omega)],by trivial⟩)
  clear h
  go_enter Tryz.func246,Tryz.ntmps246
  go_wp2_with fail
  go_ret
  exact⟨by rw[HE.out.1];try rfl,hk⟩
theorem opart_any (k d ra rb v a b:Int)(w:World):
 Calls Tryz.prog 267 #[.agg (opv k d ra rb v),.int .u64 a,.int .u64 b] w fun e w'=>e=.returned (.tuple #[.int .u64 (Oc.pda k a b),.int .u64 (Oc.pdb k a b)])∧KW w w':=by
 unfold opv
 have hk:=(KW.refl w).alloc (.cells #[.int .i64 k,.int .i64 d,.int .i64 ra,.int .i64 rb,.int .u64 v] 83)
 by_cases h:1≤k∧k≤6
 ·rcases(show k=1∨k=2∨k=3∨k=4∨k=5∨k=6 by omega) with rfl|rfl|rfl|rfl|rfl|rfl
  all_goals
   clear h
   go_enter Tryz.func267,Tryz.ntmps267
   go_wp2_with fail
   go_ret2
   exact⟨rfl,hk⟩
 ·have e1:(k==1)=false:=by simp;omega
  have e2:(k==2)=false:=by simp;omega
  have e3:(k==3)=false:=by simp;omega
  have e4:(k==4)=false:=by simp;omega
  have e5:(k==5)=false:=by simp;omega
  have e6:(k==6)=false:=by simp;omega
  have HE:=hid (show Oc.pda k a b=0∧Oc.pdb k a b=0 from⟨by unfold Oc.pda;rw[if_neg (by omega),if_neg (by omega),if_neg (by omega)],by unfold Oc.pdb;rw[if_neg (by omega),if_neg (by omega),if_neg (by omega)]⟩)
  clear h
  go_enter Tryz.func267,Tryz.ntmps267
  go_wp2_with fail
  go_ret2
  exact⟨by rw[HE.out.1,HE.out.2];try rfl,hk⟩
theorem opv_row' (w:World)(k d a b v:Int):(w.alloc (.cells #[.int .i64 k,.int .i64 d,.int .i64 a,.int .i64 b,.int .u64 v] 83)).rowIs w.heap.size 83 5 (fun i=>[.int .i64 k,.int .i64 d,.int .i64 a,.int .i64 b,.int .u64 v].getD i undef):=
 World.rowIs_alloc w #[.int .i64 k,.int .i64 d,.int .i64 a,.int .i64 b,.int .u64 v] 83 _ fun i hi=>by simp at hi;simp[hi]
theorem writes_any (k d a b v:Int)(w:World):
 Calls Tryz.prog 131 #[.agg (opv k d a b v)] w fun e w'=>e=.returned (.tuple #[.int .i64 (if Oc.aD k=true then d else 0),.bool (Oc.aD k)])∧KW w w':=by
 have HO:=hid (fun W=>of_any k W)
 have hop:=opv_row' w k d a b v
 have hk:=(KW.refl w).alloc (.cells (opv k d a b v) 83)
 have hf:∀ (x y z t:Bool) (W:World),(Instr.field 218 (.agg #[.bool x,.bool y,.bool z,.bool t]) 0).run Tryz.prog W=.ok (.bool x) W:=fun x y z t W=>by kernel_rfl
 unfold opv akv at *
 have HOp:=hid hop
 cases hD:Oc.aD k with
 | true=>
   rw[hD] at HO
   clear hop hD
   go_enter Tryz.func131,Tryz.ntmps131
   go_wp2_with fail
   refine(HO.out _).mono ?_
   rintro e w1 ⟨rfl,hb⟩
   have s1:=(KW.row hb HOp.out.lt HOp.out).cell (i:=1) (by omega)
   simp only[List.getD_cons_succ,List.getD_cons_zero] at s1
   have HK:=hid (hk.t hb)
   clear hb
   go_wp2_with fail
   go_ret2
   exact⟨rfl,HK.out⟩
 | false=>
   rw[hD] at HO
   clear hop hD
   go_enter Tryz.func131,Tryz.ntmps131
   go_wp2_with fail
   refine(HO.out _).mono ?_
   rintro e w1 ⟨rfl,hb⟩
   have HK:=hid (hk.t hb)
   clear hb
   go_wp2_with fail
   go_ret2
   exact⟨rfl,HK.out⟩
end Go.Proofs.YtphppbonljdibaaGreat
