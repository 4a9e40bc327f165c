import Derived.Test.YtphppbonljdibaaGreatTF19
import Derived.Test.YtphppbonljdibaaGreatTF22
import Derived.Test.YtphppbonljdibaaGreatTF13
import Derived.Test.YtphppbonljdibaaGreatTF24
import Derived.Test.YtphppbonljdibaaGreatTF31
import Derived.RegionTactic
import Derived.Test.YtphppbonljdibaaGreatTF01
set_option maxRecDepth 100000
set_option maxHeartbeats 4000000
set_option linter.unusedVariables false
set_option linter.unusedSimpArgs false
namespace Go.Proofs.YtphppbonljdibaaGreat
open Go.ChangeShapes Go.WideShapes Go.ChangeAt Go.RowKit
def actF (u v:Int):Nat→Value
 | 0=>.int .i64 u
 | _=>.int .i64 v
def AnsP (w:World)(r:Option Mc.Act)(e:Ending)(w':World):Prop:=
 e=.returned (.tuple #[.agg #[.int .i64 (r.getD (0,0)).1,.int .i64 (r.getD (0,0)).2],.bool r.isSome])∧KW w w'
section
variable {P : Program} {ops : Array Oper} {Q : Exit → Act → World → Prop}
theorem store_act {rest:List Oper}{o:Oper}{a:Act}{W:World}(hgd:o.guard=none){x y:Operand}(ho:o.op=.store 55 x y){g:Nat}{u v:Int}{f:Nat→Value}(hx:a.eval x=.pointer (some ⟨g,0,none⟩))(hy:a.eval y=.agg #[.int .i64 u,.int .i64 v])
 (hr:W.rowIs g 55 2 f) (h:∀ W',W'.heap[g]?=some (.cells #[.int .i64 u,.int .i64 v] 55 (0,0))→Keep (· = g) W W'→wpList Tryz.prog ops Q rest (a.put o.dst undef) W'):wpList Tryz.prog ops Q (o::rest) a W:=
 wpList_store_is hgd 55 x y ho g 2 55 f (actF u v) #[.int .i64 u,.int .i64 v] hx hy hr (by kernel_rfl) rfl (fun i hi=>by
  rcases(show i=0∨i=1 by omega) with rfl|rfl<;>rfl) (fun i hi=>by
  rcases(show i=0∨i=1 by omega) with rfl|rfl<;>rfl) fun W' hrow hk _=>h W' (by rw[whole hrow];rfl) hk
end
theorem blk_lt {w:World}{b:Nat}{o:Obj}(h:w.heap[b]?=some o):b<w.heap.size:=(Array.getElem?_eq_some_iff.1 h).1
theorem KW.blk {w W:World}{b:Nat}{o:Obj}(h:KW w W)(hlt:b<w.heap.size)(c:w.heap[b]?=some o):W.heap[b]?=some o:=(Below.block h b hlt).trans c
def nx0 (w:World)(a p:Int)(v:Value):World:=(w.alloc (.cells #[.int .i64 a,.int .i64 p,v] 58)).alloc (.cells #[.int .i64 0,.int .i64 0] 55)
theorem nx0_row (w:World)(a p:Int)(v:Value):(nx0 w a p v).rowIs (w.heap.size+1) 55 2 (actF 0 0):=by
 unfold nx0
 have h:=World.rowIs_alloc (w.alloc (.cells #[.int .i64 a,.int .i64 p,v] 58)) #[.int .i64 0,.int .i64 0] 55 (actF 0 0) fun i hi=>by
  rcases(show i=0∨i=1 by simp at hi;omega) with rfl|rfl<;>rfl
 simpa using h
theorem nx0_blk (w:World)(a p:Int)(v:Value):(nx0 w a p v).heap[w.heap.size]?=some (.cells #[.int .i64 a,.int .i64 p,v] 58 (0,0)):=
 KW.blk ((KW.refl (w.alloc (.cells #[.int .i64 a,.int .i64 p,v] 58))).alloc _) (by simp) (heap_alloc_new w _)
theorem nx0_kw (w:World)(a p:Int)(v:Value):KW w (nx0 w a p v):=((KW.refl w).alloc _).alloc _
def RTz (w:World)(v:Value)(tags:List Int):Prop:=∃ A c,v=.slice A tags.length c∧(A=none→c=0)∧Row1 w A tags.length fun i=>.int .i64 (tags.getD i 0)
theorem RTz.kw {w w':World}{v:Value}{tags:List Int}(h:RTz w v tags)(hk:KW w w'):RTz w' v tags:=by
 obtain⟨A,c,hv,hz,hr⟩:=h
 exact⟨A,c,hv,hz,hr.k hk⟩
theorem RTz.rt0 {w:World}{v:Value}{tags:List Int}(h:RTz w v tags):RT0 w v tags:=by
 obtain⟨A,c,hv,_,hr⟩:=h
 exact⟨A,c,hv,hr⟩
theorem Owns.rtz {w:World}{base:Nat}{v:Value}{tags:List Int}(h:Owns w base 3 v (ints tags)):RTz w v tags:=by
 obtain⟨A,c,hv,hr⟩:=h.rt.rt0
 refine⟨A,c,hv,fun hA=>?_,hr⟩
 rcases h.2 with⟨h1,_⟩|⟨g,cap,cur,h1,_⟩
 ·rw[hv] at h1;simp only[Value.slice.injEq] at h1;exact h1.2.2
 ·rw[hv,hA] at h1;cases h1
theorem sliceAct:SliceOfS Tryz.prog 28 55 (.agg #[.int .i64 0,.int .i64 0]) 2 16:=⟨Tryz.underlying28,by kernel_rfl,rfl,by omega⟩
def acl (l:List Mc.Act):List Value:=l.flatMap fun a=>[.int .i64 a.1,.int .i64 a.2]
theorem acl_app (l l':List Mc.Act):acl (l++l')=acl l++acl l':=by simp[acl]
theorem acl_len (l:List Mc.Act):(acl l).length=l.length * 2:=by
 induction l with
 | nil=>rfl
 | cons a l ih=>
   have e:acl (a::l)=[Value.int .i64 a.1,.int .i64 a.2]++acl l:=rfl
   rw[e,List.length_append,ih]
   simp only[List.length_cons,List.length_nil]
   omega
theorem acl_one' (l:List Mc.Act):(acl l).all (·.oneCell')=true:=by
 rw[List.all_eq_true]
 intro x hx
 obtain⟨a,_,ha⟩:=List.mem_flatMap.1 hx
 simp only[List.mem_cons,List.not_mem_nil,or_false] at ha
 rcases ha with rfl|rfl<;>rfl
theorem acl_get (l:List Mc.Act){k:Nat}(h:k<l.length):(acl l)[k * 2]?=some (.int .i64 (l.getD k (0,0)).1)∧(acl l)[k * 2+1]?=some (.int .i64 (l.getD k (0,0)).2):=by
 induction l generalizing k with
 | nil=>simp at h
 | cons a l ih=>
   have e:acl (a::l)=.int .i64 a.1 :: .int .i64 a.2::acl l:=rfl
   cases k with
   | zero=>rw[e];exact⟨rfl,rfl⟩
   | succ k=>
     have:=ih (k:=k) (by simpa using h)
     rw[e,show(k+1) * 2=k * 2+1+1 by omega]
     simpa using this
def OwnsA (w:World)(base:Nat)(v:Value)(l:List Mc.Act):Prop:=w.ownsRow base 55 2 v l.length (acl l)
theorem OwnsA.nil (w:World)(base:Nat):OwnsA w base (.slice none 0 0) []:=World.ownsRow_nil _ _ _ _
theorem OwnsA.slice {w:World}{base:Nat}{v:Value}{l:List Mc.Act}(h:OwnsA w base v l):∃ A c,v=.slice A l.length c∧l.length≤c∧Acts w A l:=by
 have hx:=h
 rcases h.2 with⟨rfl,h0⟩|⟨b,cap,cur,rfl,hb,hg,hc,_⟩
 ·exact⟨none,0,by rw[h0],by omega,fun h=>absurd h (by omega)⟩
 ·refine⟨_,cap,rfl,hc,fun _=>⟨b,0,rfl,(Array.getElem?_eq_some_iff.1 hg).1,fun k hk=>?_⟩⟩
  have hc:=World.ownsRow.cells hx (g:=b) (by simp[Value.ownBlock])
  have e:∀ j,(⟨b,0,none⟩:Addr).add j=⟨b,0+j,none⟩:=fun j=>by unfold Addr.add;split<;>simp_all
  obtain⟨h1,h2⟩:=acl_get l hk
  have c1:=hc _ _ h1
  have c2:=hc _ _ h2
  rw[e] at c1 c2
  exact⟨c1,c2⟩
theorem OwnsA.lt {w:World}{base:Nat}{v:Value}{l:List Mc.Act}(h:OwnsA w base v l){b:Nat}(hb:v.ownBlock=some b):base≤b∧b<w.heap.size:=World.ownsRow.lt h b hb
theorem OwnsA.keep {own:Nat→Prop}{w w':World}{base:Nat}{v:Value}{l:List Mc.Act}(h:OwnsA w base v l)(hk:Keep own w w')(hn:∀ b,v.ownBlock=some b→¬ own b):OwnsA w' base v l:=by
 refine⟨h.1,?_⟩
 rcases h.2 with hx|⟨g,cap,cur,rfl,hb,hg,rest⟩
 ·exact .inl hx
 ·exact .inr ⟨g,cap,cur,rfl,hb,(hk.block g (Array.getElem?_eq_some_iff.1 hg).1 (hn g rfl)).trans hg,rest⟩
theorem OwnsA.kw {w w':World}{base:Nat}{v:Value}{l:List Mc.Act}(h:OwnsA w base v l)(hk:KW w w'):OwnsA w' base v l:=h.keep (hk.keep (own:=fun _=>False)) fun _ _ h=>h
theorem OwnsA.base {w:World}{base base':Nat}{v:Value}{l:List Mc.Act}(h:OwnsA w base v l)(hb:base'≤base):OwnsA w base' v l:=
 ⟨h.1,h.2.imp id fun⟨g,cap,cur,hv,hg,r⟩=>⟨g,cap,cur,hv,Nat.le_trans hb hg,r⟩⟩
theorem Acts.holds {w:World}{A:Option Addr}{l:List Mc.Act}{c:Nat}(h:Acts w A l)(h0:l.length=0→A=none∧c=0∨∃ ad,A=some ad):Holds w (.slice A l.length c) l.length 2 (acl l):=by
 refine⟨acl_len l,List.all_eq_true.1 (acl_one' l),?_⟩
 by_cases hl:l.length=0
 ·rcases h0 hl with⟨rfl,rfl⟩|⟨ad,rfl⟩
  ·exact .inl ⟨hl,by rw[hl]⟩
  ·refine .inr ⟨ad,c,rfl,fun j y hj=>?_⟩
   have:=(List.getElem?_eq_some_iff.1 hj).1
   rw[acl_len,hl] at this
   omega
 ·obtain⟨b,off,rfl,hb,hc⟩:=h (by omega)
  refine .inr ⟨_,c,rfl,fun j y hj=>?_⟩
  have hlt:=(List.getElem?_eq_some_iff.1 hj).1
  rw[acl_len] at hlt
  have e:(⟨b,off,none⟩:Addr).add j=⟨b,off+j,none⟩:=by unfold Addr.add;split<;>simp_all
  rw[e]
  have hk:j / 2<l.length:=by omega
  obtain⟨g1,g2⟩:=acl_get l hk
  obtain⟨c1,c2⟩:=hc _ hk
  rcases Nat.mod_two_eq_zero_or_one j with h|h
  ·have e1:j=j / 2 * 2:=by omega
   rw[← e1] at g1 c1
   rw[hj] at g1;cases g1;exact c1
  ·have e1:j=j / 2 * 2+1:=by omega
   rw[← e1] at g2
   rw[Nat.add_assoc,← e1] at c2
   rw[hj] at g2;cases g2;exact c2
theorem OwnsA.holds {w:World}{base:Nat}{v:Value}{l:List Mc.Act}(h:OwnsA w base v l):Holds w v l.length 2 (acl l):=by
 obtain⟨A,c,rfl,hc,hA⟩:=h.slice
 refine hA.holds fun h0=>?_
 rcases h.2 with⟨hv,_⟩|⟨g,cap,cur,hv,_⟩
 ·simp only[Value.slice.injEq] at hv;exact .inl ⟨hv.1,hv.2.2⟩
 ·simp only[Value.slice.injEq] at hv;exact .inr ⟨_,hv.1⟩
theorem OwnsA.app {w:World}{base:Nat}{v:Value}{l l':List Mc.Act}(h:w.ownsRow base 55 2 v (l.length+l'.length) (acl l++acl l')):OwnsA w base v (l++l'):=by
 unfold OwnsA
 rw[List.length_append,acl_app]
 exact h
end Go.Proofs.YtphppbonljdibaaGreat
