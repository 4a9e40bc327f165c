import Derived.IntWalk
import Derived.Laws.Bits64
import Derived.Test.YtphppbonljdibaaGreatRows
import Derived.WalkKit
import Derived.ProofKit
import Derived.OpenShut
import Derived.Handy
import Derived.WalkLawsBesides
import Derived.WalkSpells
import Derived.Deep.OwnRows
import Derived.OrdersHeld
import Derived.StillTail
import Derived.Laws.AppendOwn
import Derived.Laws.Tables
import Derived.Laws.Rows
set_option maxRecDepth 100000
set_option maxHeartbeats 4000000
set_option linter.unusedVariables false
set_option linter.unusedSimpArgs false
namespace Go.Proofs.YtphppbonljdibaaGreat.Pl
open Go
theorem uw (n:Int):IntKind.u64.wrap n=n % 18446744073709551616:=IntKind.wrap_u64 n
theorem uw_nn (n:Int):0≤IntKind.u64.wrap n:=by rw[uw];omega
theorem uw_le (n:Int):IntKind.u64.wrap n≤18446744073709551615:=by rw[uw];omega
theorem uw_id {n:Int}(h0:0≤n)(h1:n≤18446744073709551615):IntKind.u64.wrap n=n:=IntWalk.u64_in n ⟨h0,h1⟩
theorem uw_addl (a b:Int):IntKind.u64.wrap (IntKind.u64.wrap a+b)=IntKind.u64.wrap (a+b):=by simp only[uw];omega
theorem uw_subl (a b:Int):IntKind.u64.wrap (IntKind.u64.wrap a - b)=IntKind.u64.wrap (a - b):=by simp only[uw];omega
theorem uw_subr (a b:Int):IntKind.u64.wrap (a - IntKind.u64.wrap b)=IntKind.u64.wrap (a - b):=by simp only[uw];omega
def sm (f:Nat→Int):Nat→Int
 | 0=>0
 | k+1=>sm f k+f k
def pr (f:Nat→Int):Nat→Int
 | 0=>1
 | k+1=>pr f k * f k
def hz (f:Nat→Int)(x:Int)(k:Nat):Int:=sm (fun j=>f j * x ^ j) k
def val (d:Nat→Int)(k:Nat):Int:=sm (fun i=>d i * 256 ^ i) k
end Go.Proofs.YtphppbonljdibaaGreat.Pl
namespace Go.Proofs.YtphppbonljdibaaGreat
open Go.ChangeShapes Go.WideShapes Go.ChangeAt Go.RowKit
theorem ret_int {k:IntKind}{a b:Int}(h:a=b):Ending.returned (.int k a)=.returned (.int k b):=by rw[h]
theorem ret_bool {a b:Bool}(h:a=b):Ending.returned (.bool a)=.returned (.bool b):=by rw[h]
theorem hid {p:Prop}(h:p):Hid p:=h
def KW (w W:World):Prop:=Below w.heap.size w W
theorem KW.refl (w:World):KW w w:=Below.refl _ _
theorem KW.size {w W:World}(h:KW w W):w.heap.size≤W.heap.size:=Below.size h
theorem KW.drew {w W:World}(h:KW w W):KW w W.drew:=Below.drew h
theorem KW.on {w W w1:World}{N:Nat}(h:KW w W)(hb:Below N W w1)(hN:W.heap.size≤N:=by first|exact Nat.le_refl _|exact Nat.le_succ _|(simp;done)):KW w w1:=
 Below.trans h (hb.mono (Nat.le_trans (Below.size h) hN))
theorem KW.alloc {w W:World}(h:KW w W)(o:Obj):KW w (W.alloc o):=Below.alloc h (Below.size h) o
theorem KW.cell {w W:World}{b o:Nat}{v:Value}(h:KW w W)(hlt:b<w.heap.size)(c:w.cell? ⟨b,o,none⟩=some v):W.cell? ⟨b,o,none⟩=some v:=(Below.cell h (p:=⟨b,o,none⟩) hlt).trans c
theorem KW.frozen {w W:World}{b o:Nat}{v:Bool}(h:KW w W)(hlt:b<w.heap.size)(c:w.frozen? ⟨b,o,none⟩=v):W.frozen? ⟨b,o,none⟩=v:=(Below.frozen h (p:=⟨b,o,none⟩) hlt).trans c
theorem KW.row {w W:World}{b n:Nat}{t:TypeId}{f:Nat→Value}(h:KW w W)(hlt:b<w.heap.size)(c:w.rowIs b t n f):W.rowIs b t n f:=c.of_block (Below.block h b hlt)
theorem KW.below {w0 w W:World}{B:Nat}(h:KW w W)(h0:Below B w0 w)(hB:B≤w.heap.size):Below B w0 W:=h0.trans (Below.mono h hB)
def Row1 (w:World)(A:Option Addr)(n:Nat)(f:Nat→Value):Prop:=
 0<n→∃ b off,A=some ⟨b,off,none⟩∧b<w.heap.size∧∀ k,k<n→w.cell? ⟨b,off+k,none⟩=some (f k)
theorem Row1.at_ {w:World}{A:Option Addr}{n:Nat}{f:Nat→Value}(h:Row1 w A n f){k:Nat}(hk:k<n):∃ b off,A=some ⟨b,off,none⟩∧b<w.heap.size∧w.cell? ⟨b,off+k,none⟩=some (f k):=by
 obtain⟨b,off,hA,hb,hc⟩:=h (by omega)
 exact⟨b,off,hA,hb,hc k hk⟩
theorem Row1.below {w w':World}{A:Option Addr}{n:Nat}{f:Nat→Value}(h:Row1 w A n f)(hb:Below w.heap.size w w'):Row1 w' A n f:=by
 intro hn
 obtain⟨b,off,hA,hlt,hc⟩:=h hn
 exact⟨b,off,hA,Nat.lt_of_lt_of_le hlt hb.size,fun k hk=>(hb.cell (p:=⟨b,off+k,none⟩) hlt).trans (hc k hk)⟩
theorem Row1.k {w0 w:World}{A:Option Addr}{n:Nat}{f:Nat→Value}(h:Row1 w0 A n f)(hk:KW w0 w):Row1 w A n f:=h.below hk
theorem KW.t {a b c:World}(h:KW a b)(k:KW b c):KW a c:=h.on k
theorem row1_new (w:World)(t:TypeId)(l:List Value):Row1 (w.alloc (.cells l.toArray t)) (some ⟨w.heap.size,0,none⟩) l.length fun k=>l.getD k undef:=by
 intro _
 refine⟨w.heap.size,0,rfl,by simp,fun k hk=>?_⟩
 rw[cell_of_row _ _ _ _ _ _ (heap_alloc_new w _)]
 simp[hk]
theorem Row1.cong {w:World}{A:Option Addr}{n:Nat}{f g:Nat→Value}(h:Row1 w A n f)(e:∀ k,k<n→f k=g k):Row1 w A n g:=by
 intro hn
 obtain⟨b,off,hA,hlt,hc⟩:=h hn
 exact⟨b,off,hA,hlt,fun k hk=>e k hk ▸ hc k hk⟩
theorem pure_kw {P:Program}{f:FuncId}{args:Array Value}{w:World}{o:Obj}{v:Value}(h:Calls P f args (w.alloc o) fun e w'=>e=.returned v∧w.alloc o=w'):
 Calls P f args (w.alloc o) fun e w'=>e=.returned v∧KW w w':=h.mono fun _ _ ⟨he,hw⟩=>⟨he,hw ▸ (KW.refl w).alloc o⟩
section
variable {P : Program} {ops : Array Oper} {Q : Exit → Act → World → Prop} {md : Region.Mode} {S : World → Prop} {L : Nat}
def wpX (P:Program)(md:Region.Mode)(ops:Array Oper)(Q:Exit→Act→World→Prop)(S:World→Prop)(L:Nat):Nat→Array Bool→Act→World→Prop
 | 0,l,a,w=>Region.ready md ops l=[]∧Q .normal a w
 | n+1,l,a,w=>(Region.ready md ops l=[]→Q .normal a w) ∧
    ∀ i∈Region.ready md ops l,wpOp P ops Q i (fun a' w'=>(i≠L→S w')∧wpX P md ops Q S L n (l.setIfInBounds i true) a' w') a w
theorem wpX_any:∀ (n:Nat) (l:Array Bool) (a:Act) (w:World),wpX P md ops Q S L n l a w→wpAny P md ops Q n l a w:=by
 intro n
 induction n with
 | zero=>exact fun _ _ _ h=>h
 | succ n ih=>exact fun l a w h=>⟨h.1,fun i hi=>wpOp_mono (fun a' w' hx=>ih _ a' w' hx.2) (h.2 i hi)⟩
theorem wpX_region {id:Nat}{a:Act}{w:World}(hm:P.follows .mixedOrders=true)(h:wpX P .any ops Q S L ops.size (Array.replicate ops.size false) a w.drew):
 (Code.region id ops true).wp P Q a w:=wp_region_any hm (wpX_any _ _ _ _ h)
def xB (md:Region.Mode)(ops:Array Oper)(l:Array Bool)(L i:Nat):Bool:=
 Region.noSelect ops&&Region.free md ops l i&&(Region.ready md ops l).contains i&&(decide (ops.size≤L) || Region.waitsFor md ops L i)
theorem wpX_first {i:Nat}{o:Oper}{v:Value}(ho:ops[i]?=some o)(hsel:∀ (j:Nat) (o':Oper) cs b,ops[j]?=some o'→o'.op≠.select cs b)
 (hQ:∀ c a w,Q (.panic c) (a.put o.dst v) w→Q (.panic c) a w) (hL:∀ l,L∈Region.ready md ops l→l.getD i true=false→False):
 ∀ (n:Nat) (l:Array Bool) (a:Act) (w:World),
  (∀ j oj,ops[j]?=some oj→j≠i→l.getD j true=false→(∀ e∈oj.after,Region.binds md e=true→e.on≠i)→o.apart ops oj=true) →
  i∈Region.ready md ops l→YieldsIf P ops S o v a→S w→wpX P md ops Q S L n (l.setIfInBounds i true) (a.put o.dst v) w→wpX P md ops Q S L (n+1) l a w:=by
 intro n
 induction n with
 | zero=>
   intro l a w _ hr hy hS H
   refine⟨fun h0=>(by rw[h0] at hr;cases hr),fun j hj=>?_⟩
   by_cases e:j=i
   ·subst e
    exact hy.wpOp ho hS ⟨fun _=>hS,H⟩
   ·have h0:=ready_mono hj e
    rw[H.1] at h0
    cases h0
 | succ n ih=>
   intro l a w hap hr hy hS H
   have hi0:=(mem_ready.1 hr).1
   refine⟨fun h0=>(by rw[h0] at hr;cases hr),fun j hj=>?_⟩
   by_cases e:j=i
   ·subst e
    exact hy.wpOp ho hS ⟨fun _=>hS,H⟩
   ·obtain⟨hj0,oj,hoj,hall⟩:=mem_ready.1 hj
    have hno:∀ x∈oj.after,Region.binds md x=true→x.on≠i:=by
     intro x hx hb hon
     have h1:=hall x hx hb
     rw[hon,getD_both hi0] at h1
     cases h1
    have hjL:j≠L:=fun h0=>hL l (h0 ▸ hj) hi0
    have hK:=wpOp_putIf hoj (hap j oj hoj e hj0 hno) (fun cs b=>hsel i o cs b ho) (fun cs b=>hsel j oj cs b hoj) hQ hy (H.2 j (ready_mono hj e))
    refine wpOp_mono (fun a' w' hx=>⟨fun _=>hx.2.1 hjL,ih _ a' w' ?_ (ready_mono hr (Ne.symm e)) hx.1 (hx.2.1 hjL) ?_⟩) hK
    ·intro k ok hk hki hun hnk
     refine hap k ok hk hki ?_ hnk
     by_cases hjk:j=k
     ·subst hjk;exact hj0
     ·rwa [getD_set_ne true hjk] at hun
    ·rw[Array.setIfInBounds_comm _ _ e]
     exact hx.2.2
theorem wpX_soft {i:Nat}{o:Oper}{v:Value}{n:Nat}{l:Array Bool}{a:Act}{w:World}(ho:ops[i]?=some o)(hB:xB md ops l L i=true)
 (hQ:∀ c a w,Q (.panic c) (a.put o.dst v) w→Q (.panic c) a w) (hy:YieldsIf P ops S o v a) (hS:S w)
 (h:wpX P md ops Q S L n (l.setIfInBounds i true) (a.put o.dst v) w):wpX P md ops Q S L (n+1) l a w:=by
 simp only[xB,Bool.and_eq_true,Bool.or_eq_true,decide_eq_true_eq] at hB
 obtain⟨⟨⟨h1,h2⟩,h3⟩,h4⟩:=hB
 refine wpX_first ho (Region.noSelect_spec h1) hQ (fun l' hr hl=>?_) n l a w (Region.free_spec ho h2) (by simpa using h3) hy hS h
 rcases h4 with h4|h4
 ·obtain⟨_,oL,hoL,_⟩:=mem_ready.1 hr
  have:=(Array.getElem?_eq_some_iff.1 hoL).1
  omega
 ·obtain⟨oL,hoL,x,hx,hb,hon⟩:=Region.waitsFor_spec h4
  obtain⟨_,oL',hoL',hall⟩:=mem_ready.1 hr
  have e:oL'=oL:=Option.some.inj (hoL'.symm.trans hoL)
  subst e
  have h5:=hall x hx hb
  rw[hon,getD_both hl] at h5
  cases h5
theorem wpX_take {i d:Nat}{o:Oper}{v:Value}{n:Nat}{l:Array Bool}{ts:List Value}{ds:List Deferred}{w:World}(ho:ops[i]?=some o)(hd:o.dst=some d)(hB:xB md ops l L i=true)
 (hQ:∀ c a w,Q (.panic c) (a.put (some d) v) w→Q (.panic c) a w) (hy:YieldsIf P ops S o v ⟨ts.toArray,ds⟩) (hS:S w)
 (h:wpX P md ops Q S L n (l.setIfInBounds i true) ⟨(ts.set d v).toArray,ds⟩ w):wpX P md ops Q S L (n+1) l ⟨ts.toArray,ds⟩ w:=by
 refine wpX_soft ho hB (by rw[hd];exact hQ) hy hS ?_
 rw[hd]
 simpa [Act.put] using h
theorem tk (i:Nat){d:Nat}{o:Oper}(v:Value){n:Nat}{l:Array Bool}{ts:List Value}{ds:List Deferred}{w:World}(hy:∀ w,S w→(execOp (Act.mk ts.toArray ds).eval o).run P w=.ok (.value v) w)(hS:S w)
 (h:wpX P md ops Q S L n (l.setIfInBounds i true) ⟨(ts.set d v).toArray,ds⟩ w) (ho:ops[i]?=some o:=by exact rfl) (hd:o.dst=some d:=by exact rfl) (hB:xB md ops l L i=true:=by kernel_rfl)
 (hQ:∀ c a w,Q (.panic c) (a.put (some d) v) w→Q (.panic c) a w:=by exact fun _ _ _ h=>h) (hw:Region.wanted o (yielded ops (Act.mk ts.toArray ds).tmps)=true:=by exact rfl):wpX P md ops Q S L (n+1) l ⟨ts.toArray,ds⟩ w:=
 wpX_take ho hd hB hQ (.inl ⟨hw,hy⟩) hS h
theorem tn (i:Nat){d:Nat}{o:Oper}{n:Nat}{l:Array Bool}{ts:List Value}{ds:List Deferred}{w:World}(hS:S w)
 (h:wpX P md ops Q S L n (l.setIfInBounds i true) ⟨(ts.set d undef).toArray,ds⟩ w) (ho:ops[i]?=some o:=by exact rfl) (hd:o.dst=some d:=by exact rfl) (hB:xB md ops l L i=true:=by kernel_rfl)
 (hQ:∀ c a w,Q (.panic c) (a.put (some d) undef) w→Q (.panic c) a w:=by exact fun _ _ _ h=>h) (hw:Region.wanted o (yielded ops (Act.mk ts.toArray ds).tmps)=false:=by exact rfl):wpX P md ops Q S L (n+1) l ⟨ts.toArray,ds⟩ w:=
 wpX_take ho hd hB hQ (.inr ⟨hw,rfl⟩) hS h
theorem lsz {α:Type}{a b:α}{q:List α}:(a::q).set 0 b=b::q:=rfl
theorem lss {α:Type}{a b:α}{q:List α}{n:Nat}:(a::q).set (n+1) b=a::q.set n b:=rfl
theorem wpX_hard {k:Nat}{o:Oper}{n:Nat}{l:Array Bool}{a:Act}{w:World}(hr:Region.ready md ops l=[k])(ho:ops[k]?=some o)
 (h:∀ K:Act→World→Prop,(∀ a' w',(k≠L→S w')→wpX P md ops Q S L n (l.setIfInBounds k true) a' w'→K a' w') →
   if Region.wanted o (yielded ops a.tmps)=true then Oper.wp P o a w K Q else K (a.put o.dst undef) w):wpX P md ops Q S L (n+1) l a w:=by
 refine⟨fun h0=>(by rw[hr] at h0;cases h0),fun i hi=>?_⟩
 rw[hr] at hi
 obtain rfl:i=k:=by simpa using hi
 have h1:=h (fun a' w'=>(i≠L→S w')∧wpX P md ops Q S L n (l.setIfInBounds i true) a' w') (fun a' w' hS hx=>⟨hS,hx⟩)
 unfold wpOp
 simp only[ho]
 split
 ·rename_i hw
  rw[if_pos hw] at h1
  exact .inl h1
 ·rename_i hw
  rwa [if_neg hw] at h1
theorem wpX_done {n:Nat}{l:Array Bool}{a:Act}{w:World}(hr:Region.ready md ops l=[])(h:Q .normal a w):wpX P md ops Q S L n l a w:=by
 cases n with
 | zero=>exact⟨hr,h⟩
 | succ n=>exact⟨fun _=>h,by rw[hr];simp⟩
end
def Owns (w:World)(base:Nat)(e:TypeId)(v:Value)(xs:List Value):Prop:=w.ownsRow base e 1 v xs.length xs
theorem Owns.nil (w:World)(base:Nat)(e:TypeId):Owns w base e (.slice none 0 0) []:=World.ownsRow_nil _ _ _ _
theorem Owns.new {w:World}{base:Nat}{e:TypeId}{xs:List Value}(hb:base≤w.heap.size)(hl:xs.length≤100000):Owns (w.alloc (.cells xs.toArray e)) base e (.slice (some ⟨w.heap.size,0,none⟩) xs.length xs.length) xs:=
 ⟨by simp,.inr ⟨w.heap.size,xs.length,xs.toArray,rfl,hb,heap_alloc_new w _,Nat.le_refl _,by unfold maxLen;omega,by simp,by simp⟩⟩
theorem Owns.row {w:World}{base:Nat}{e:TypeId}{v:Value}{xs:List Value}(h:Owns w base e v xs):
 ∃ A c,v=.slice A xs.length c∧xs.length≤c∧(0<xs.length→∃ b,A=some ⟨b,0,none⟩∧base≤b∧b<w.heap.size)∧Row1 w A xs.length fun j=>xs.getD j undef:=by
 have hx:=h
 rcases h.2 with⟨rfl,h0⟩|⟨b,cap,cur,rfl,hb,hg,hc,_⟩
 ·exact⟨none,0,by rw[h0],by omega,fun h=>absurd h (by omega),fun h=>absurd h (by omega)⟩
 ·have hlt:b<w.heap.size:=(Array.getElem?_eq_some_iff.1 hg).1
  refine⟨_,cap,rfl,hc,fun _=>⟨b,rfl,hb,hlt⟩,fun _=>⟨b,0,rfl,hlt,fun j hj=>?_⟩⟩
  have hc:=World.ownsRow.cells hx (g:=b) (by simp[Value.ownBlock]) j (xs.getD j undef) (by simp[hj])
  have e:(⟨b,0,none⟩:Addr).add j=⟨b,0+j,none⟩:=by unfold Addr.add;split<;>simp_all
  rw[← e]
  exact hc
theorem Owns.of_blocks {w w':World}{base:Nat}{e:TypeId}{v:Value}{xs:List Value}(h:Owns w base e v xs)(hk:∀ b,v.ownBlock=some b→w'.heap[b]?=w.heap[b]?):Owns w' base e v xs:=by
 refine⟨h.1,?_⟩
 rcases h.2 with hn|⟨g,cap,cur,rfl,hb,hg,rest⟩
 ·exact .inl hn
 ·exact .inr ⟨g,cap,cur,rfl,hb,by rw[hk g (by simp[Value.ownBlock])];exact hg,rest⟩
theorem Owns.lt {w:World}{base:Nat}{e:TypeId}{v:Value}{xs:List Value}(h:Owns w base e v xs){b:Nat}(hb:v.ownBlock=some b):base≤b∧b<w.heap.size:=World.ownsRow.lt h b hb
theorem Owns.on {w w':World}{base:Nat}{e:TypeId}{v:Value}{xs:List Value}(h:Owns w base e v xs)(k:KW w w'):Owns w' base e v xs:=
 h.of_blocks fun b hb=>Below.block k b (h.lt hb).2
theorem Owns.alloc {w:World}{base:Nat}{e:TypeId}{v:Value}{xs:List Value}(h:Owns w base e v xs)(o:Obj):Owns (w.alloc o) base e v xs:=h.on ((KW.refl w).alloc o)
structure SliceOf (P:Program)(t e:TypeId)(z:Value)(bytes:Nat):Prop where
 ht:P.underlying t=some (.slice e)
 hi:(P.info? e).map (fun i=>(i.zero,i.size,i.bytes))=some (some z,1,bytes)
 hz:z.cells.size=1
section
variable {P : Program} {ops : Array Oper} {Q : Exit → Act → World → Prop}
theorem wp_app1 {o:Oper}{a:Act}{K:Act→World→Prop}{s x:Operand}{t e:TypeId}{z:Value}{bytes:Nat}(T:SliceOf P t e z bytes)
 (ho:o.op=.call { callee:=.builtin .append,args:=#[s,x],argTypes:=#[t,t] }) {W:World} {base c:Nat} {v u:Value} {xs:List Value} {ce:TypeId}
 (hs:a.eval s=v) (hx:a.eval x=.slice (some ⟨W.heap.size,0,none⟩) 1 c) (hu:u.oneCell'=true) (hown:Owns W base e v xs) (hb:base≤W.heap.size) (hl:(xs.length+1) * bytes≤140737488355328) (hl2:xs.length+1≤9223372036854775807)
 (h:∀ v' w',Owns w' base e v' (xs++[u])→Below base W w'→K (a.put o.dst v') w'):o.wp P a (W.alloc (.cells #[u] ce)) K Q:=by
 obtain⟨i,hi,h0⟩:=Option.map_eq_some_iff.1 T.hi
 simp only[Prod.mk.injEq] at h0
 refine wp_append_own _ s x t ho base e i z 1 bytes T.ht hi h0.1 h0.2.1 h0.2.2 T.hz (by omega) v xs.length xs hs (hown.alloc _) ⟨W.heap.size,0,none⟩ 1 c [u] hx rfl ?_ ?_ (by unfold maxLen;omega) hl (by simp;omega) ?_
 ·intro j y hj
  match j,hj with
  | 0,hj=>
    simp only[List.getElem?_cons_zero,Option.some.injEq] at hj
    subst hj
    have e:(⟨W.heap.size,0,none⟩:Addr).add 0=⟨W.heap.size,0,none⟩:=rfl
    rw[e,World.cell?_alloc_at _ _ _ _ (by simp)]
    rfl
 ·intro y hy;simp only[List.mem_singleton] at hy;subst hy;exact hu
 ·intro v' w' h1 h2 _
  refine h v' w' (by unfold Owns;rw[List.length_append];exact h1) ?_
  exact(Below.alloc (Below.refl base W) hb _).grown h2 (by simp;omega) fun k hk=>(hown.lt hk).1
theorem wpList_app1 {rest:List Oper}{o:Oper}{a:Act}(hgd:o.guard=none){s x:Operand}{t e:TypeId}{z:Value}{bytes:Nat}(T:SliceOf P t e z bytes)
 (ho:o.op=.call { callee:=.builtin .append,args:=#[s,x],argTypes:=#[t,t] }) {W:World} {base c:Nat} {v u:Value} {xs:List Value} {ce:TypeId}
 (hs:a.eval s=v) (hx:a.eval x=.slice (some ⟨W.heap.size,0,none⟩) 1 c) (hu:u.oneCell'=true) (hown:Owns W base e v xs) (hb:base≤W.heap.size) (hl:(xs.length+1) * bytes≤140737488355328) (hl2:xs.length+1≤9223372036854775807)
 (h:∀ v' w',Owns w' base e v' (xs++[u])→Below base W w'→wpList P ops Q rest (a.put o.dst v') w'):wpList P ops Q (o::rest) a (W.alloc (.cells #[u] ce)):=
 wpList_plain hgd fun _ hK=>wp_app1 T ho hs hx hu hown hb hl hl2 fun v' w' h1 h2=>hK _ _ (h v' w' h1 h2)
end
structure Keep (own:Nat→Prop)(w w':World):Prop where
 os:w'.os=w.os
 tape:w'.tape=w.tape
 output:w'.output=w.output
 size:w.heap.size≤w'.heap.size
 block:∀ k,k<w.heap.size→¬ own k→w'.heap[k]?=w.heap[k]?
theorem KW.keep {own:Nat→Prop}{w w':World}(h:KW w w'):Keep own w w':=⟨Below.os h,Below.tape h,Below.output h,Below.size h,fun k hk _=>Below.block h k hk⟩
theorem Keep.refl (own:Nat→Prop)(w:World):Keep own w w:=(KW.refl w).keep
theorem Keep.kw {w w':World}(h:Keep (fun _=>False) w w'):KW w w':=⟨h.os,h.tape,h.output,h.size,fun k hk=>h.block k hk id⟩
theorem Keep.trans {own own':Nat→Prop}{a b c:World}(h:Keep own a b)(k:Keep own' b c)(hs:∀ i,i<a.heap.size→own' i→own i):Keep own a c:=
 ⟨k.os.trans h.os,k.tape.trans h.tape,k.output.trans h.output,Nat.le_trans h.size k.size,fun i hi hn=>(k.block i (Nat.lt_of_lt_of_le hi h.size) fun ho=>hn (hs i hi ho)).trans (h.block i hi hn)⟩
theorem Keep.t {own:Nat→Prop}{a b c:World}(h:Keep own a b)(k:Keep own b c):Keep own a c:=h.trans k fun _ _ x=>x
theorem Keep.kwt {own:Nat→Prop}{a b c:World}(h:Keep own a b)(k:KW b c):Keep own a c:=h.t k.keep
theorem KW.kt {own:Nat→Prop}{a b c:World}(h:KW a b)(k:Keep own b c):Keep own a c:=h.keep.t k
theorem KW.kept {own:Nat→Prop}{a b c:World}(h:KW a b)(k:Keep own b c)(hs:∀ i,own i→a.heap.size≤i):KW a c:=
 ((h.keep (own:=fun _=>False)).trans k fun i hi ho=>absurd (hs i ho) (by omega)).kw
theorem Keep.mono {own own':Nat→Prop}{a b:World}(h:Keep own a b)(hs:∀ i,i<a.heap.size→own i→own' i):Keep own' a b:=(Keep.refl own' a).trans h hs
theorem Keep.drew {own:Nat→Prop}{a b:World}(h:Keep own a b):Keep own a b.drew:=⟨h.os,h.tape,h.output,h.size,h.block⟩
theorem Keep.alloc {own:Nat→Prop}{a b:World}(h:Keep own a b)(o:Obj):Keep own a (b.alloc o):=h.kwt ((KW.refl b).alloc o)
theorem Keep.setCell {own:Nat→Prop}{a b:World}(h:Keep own a b)(p:Addr)(v:Value)(ho:own p.block):Keep own a (b.setCell p v):=
 h.t ⟨rfl,rfl,rfl,by simp,fun k hk hn=>heap_setCell_other b p k v fun e=>hn (e ▸ ho)⟩
theorem Keep.setRow {own:Nat→Prop}{a b:World}(h:Keep own a b)(g:Nat)(cs:Array Value)(ho:own g):Keep own a (b.setRow g cs):=
 h.t ⟨rfl,rfl,rfl,by simp,fun k hk hn=>setRow_other b g k cs fun e=>hn (by subst e;exact ho)⟩
theorem Keep.cell {own:Nat→Prop}{w w':World}{b o:Nat}(h:Keep own w w')(hb:b<w.heap.size)(hn:¬ own b):w'.cell? ⟨b,o,none⟩=w.cell? ⟨b,o,none⟩:=World.cell?_of_block (w:=w) (h.block b hb hn)
theorem Keep.frozen {own:Nat→Prop}{w w':World}{b o:Nat}(h:Keep own w w')(hb:b<w.heap.size)(hn:¬ own b):w'.frozen? ⟨b,o,none⟩=w.frozen? ⟨b,o,none⟩:=World.frozen?_of_block (w:=w) (h.block b hb hn)
theorem Keep.row {own:Nat→Prop}{w w':World}{b n:Nat}{t:TypeId}{f:Nat→Value}(h:Keep own w w')(hn:¬ own b)(c:w.rowIs b t n f):w'.rowIs b t n f:=c.of_block (h.block b c.lt hn)
theorem Keep.owns {own:Nat→Prop}{w w':World}{base:Nat}{e:TypeId}{v:Value}{xs:List Value}(h:Keep own w w')(c:Owns w base e v xs)(hn:∀ b,v.ownBlock=some b→¬ own b):Owns w' base e v xs:=
 c.of_blocks fun b hb=>h.block b (c.lt hb).2 (hn b hb)
theorem whole {w:World}{b n:Nat}{t:TypeId}{f:Nat→Value}(h:w.rowIs b t n f):w.heap[b]?=some (.cells ((List.range n).map f).toArray t (0,0)):=by
 obtain⟨c,hb,hs,hc⟩:=h
 rw[hb]
 have:c=((List.range n).map f).toArray:=by
  apply Array.ext
  ·simpa using hs
  ·intro i hi _
   have h1:=hc i (by omega)
   rw[Array.getElem?_eq_getElem hi] at h1
   injection h1 with h1
   rw[h1]
   simp
 rw[this]
theorem Keep.row1 {own:Nat→Prop}{w w':World}{A:Option Addr}{n:Nat}{f:Nat→Value}(h:Keep own w w')(c:Row1 w A n f)(hn:∀ b off,A=some ⟨b,off,none⟩→¬ own b):Row1 w' A n f:=by
 intro h0
 obtain⟨b,off,hA,hb,hc⟩:=c h0
 exact⟨b,off,hA,Nat.lt_of_lt_of_le hb h.size,fun k hk=>(h.cell hb (hn b off hA)).trans (hc k hk)⟩
theorem Owns.base {w:World}{base base':Nat}{e:TypeId}{v:Value}{xs:List Value}(h:Owns w base e v xs)(hb:base'≤base):Owns w base' e v xs:=
 ⟨h.1,h.2.imp id fun⟨g,cap,cur,hv,hg,r⟩=>⟨g,cap,cur,hv,Nat.le_trans hb hg,r⟩⟩
theorem Owns.drew {w:World}{base:Nat}{e:TypeId}{v:Value}{xs:List Value}(h:Owns w base e v xs):Owns w.drew base e v xs:=h.on (KW.refl w).drew
section
variable {P : Program} {ops : Array Oper} {Q : Exit → Act → World → Prop}
theorem wpCode_world {c:Code}{a:Act}{w0:World}(S:World→Prop)(h0:S w0)(h:∀ W,S W→Code.wp P c Q a W):Code.wp P c Q a w0:=h w0 h0
theorem wpList_store_is {rest:List Oper}{o:Oper}{a:Act}{w:World}(hgd:o.guard=none)(ty:TypeId)(x y:Operand)(ho:o.op=.store ty x y)
 (g n:Nat) (t:TypeId) (f f':Nat→Value) (cells:Array Value) (hx:a.eval x=.pointer (some ⟨g,0,none⟩)) (hy:a.eval y=.agg cells)
 (hg:w.rowIs g t n f) (hi:(P.info? ty).map (·.size)=some n) (hn:cells.size=n) (hc:∀ i,i<n→cells[i]?=some (f' i)) (h1:∀ i,i<n→(f' i).oneCell'=true)
 (h:∀ W,W.rowIs g t n f'→Keep (· = g) w W→W.heap.size=w.heap.size→wpList P ops Q rest (a.put o.dst undef) W):wpList P ops Q (o::rest) a w:=by
 obtain⟨c,hb,hs,_⟩:=hg
 subst hn
 refine wpList_store_row hgd ty x y ho g cells hx hy t c hb hi hs ?_ (h _ ⟨cells,setRow_heap w g c cells t _ hb,rfl,hc⟩ ((Keep.refl _ w).setRow g cells rfl) (by simp))
 rw[Array.all_eq_true_iff_forall_mem]
 intro v hv
 obtain⟨i,hi,rfl⟩:=Array.mem_iff_getElem.1 hv
 have:=hc i hi
 rw[Array.getElem?_eq_getElem hi] at this
 injection this with this
 rw[this];exact h1 i hi
theorem wpX_store_is {md:Region.Mode}{S:World→Prop}{L k q:Nat}{l:Array Bool}{ts:List Value}{ds:List Deferred}{o:Oper}(hr:Region.ready md ops l=[k])(hok:ops[k]?=some o)(hdst:o.dst=none)(hgd:o.guard=none)
 {w:World} (ty:TypeId) (x y:Operand) (ho:o.op=.store ty x y)
 (g n:Nat) (t:TypeId) (f f':Nat→Value) (cells:Array Value) (hx:(Act.mk ts.toArray ds).eval x=.pointer (some ⟨g,0,none⟩)) (hy:(Act.mk ts.toArray ds).eval y=.agg cells)
 (hg:w.rowIs g t n f) (hi:(P.info? ty).map (·.size)=some n) (hn:cells.size=n) (hc:∀ i,i<n→cells[i]?=some (f' i)) (h1:∀ i,i<n→(f' i).oneCell'=true)
 (h:∀ W,W.rowIs g t n f'→W.heap[g]?=some (.cells cells t (0,0))→Keep (· = g) w W→(k≠L→S W)∧wpX P md ops Q S L q (l.setIfInBounds k true) ⟨ts.toArray,ds⟩ W):wpX P md ops Q S L (q+1) l ⟨ts.toArray,ds⟩ w:=by
 obtain⟨c,hb,hs,_⟩:=hg
 subst hn
 refine wpX_hard hr hok fun K hK'=>?_
 rw[if_pos (by simp[Region.wanted,hgd])]
 have hh:=setRow_heap w g c cells t _ hb
 obtain⟨h4,h5⟩:=h _ ⟨cells,hh,rfl,hc⟩ hh ((Keep.refl _ w).setRow g cells rfl)
 refine wp_store_row ty x y ho g cells hx hy t c hb hi hs ?_ ?_
 ·rw[Array.all_eq_true_iff_forall_mem]
  intro v hv
  obtain⟨i,hi,rfl⟩:=Array.mem_iff_getElem.1 hv
  have:=hc i hi
  rw[Array.getElem?_eq_getElem hi] at this
  injection this with this
  rw[this];exact h1 i hi
 ·rw[hdst]
  exact hK' _ _ h4 h5
structure SliceOfS (P:Program)(t e:TypeId)(z:Value)(size bytes:Nat):Prop where
 ht:P.underlying t=some (.slice e)
 hi:(P.info? e).map (fun i=>(i.zero,i.size,i.bytes))=some (some z,size,bytes)
 hz:z.cells.size=size
 hs:0<size
theorem SliceOf.s {P:Program}{t e:TypeId}{z:Value}{bytes:Nat}(T:SliceOf P t e z bytes):SliceOfS P t e z 1 bytes:=⟨T.ht,T.hi,T.hz,by omega⟩
def Holds (w:World)(x:Value)(k size:Nat)(ys:List Value):Prop:=
 ys.length=k * size∧(∀ y∈ys,y.oneCell'=true)∧((k=0∧x=.slice none 0 0)∨∃ ad c,x=.slice (some ad) k c∧∀ j y,ys[j]?=some y→w.cell? (ad.add j)=some y)
theorem wp_appS {o:Oper}{a:Act}{K:Act→World→Prop}{s x:Operand}{t e:TypeId}{z:Value}{size bytes:Nat}(T:SliceOfS P t e z size bytes)
 (ho:o.op=.call { callee:=.builtin .append,args:=#[s,x],argTypes:=#[t,t] }) {W:World} {base k n:Nat} {v u:Value} {xs ys:List Value}
 (hs:a.eval s=v) (hx:a.eval x=u) (hu:Holds W u k size ys) (hown:W.ownsRow base e size v n xs) (hb:base≤W.heap.size) (hl:(n+k) * bytes≤140737488355328) (hl2:n+k≤9223372036854775807)
 (h:∀ v' w',w'.ownsRow base e size v' (n+k) (xs++ys)→Keep (fun i=>v.ownBlock=some i) W w'→K (a.put o.dst v') w'):o.wp P a W K Q:=by
 obtain⟨i,hi,h0⟩:=Option.map_eq_some_iff.1 T.hi
 simp only[Prod.mk.injEq] at h0
 obtain⟨hyl,hy1,hu⟩:=hu
 rcases hu with⟨rfl,rfl⟩|⟨ad,c,rfl,hc⟩
 ·obtain rfl:ys=[]:=List.length_eq_zero_iff.1 (by simpa using hyl)
  have hrun:=run_append_owned_none (P:=P) (w:=W) base t o.type e i size T.ht hi v n xs hown
  unfold Oper.wp
  simp[execOp,ho,resolve,invoke,builtin,hs,hx,hrun,Result.andThen]
  exact h v W (by simpa using hown) (Keep.refl _ _)
 ·refine wp_append_own _ s x t ho base e i z size bytes T.ht hi h0.1 h0.2.1 h0.2.2 T.hz T.hs v n xs hs hown ad k c ys hx hyl hc hy1 (by unfold maxLen;omega) hl hb ?_
  intro v' w' h1 h2 _
  exact h v' w' h1 ⟨h2.os,h2.tape,h2.output,h2.size,fun j hj hn=>h2.block j hj fun e=>hn e.symm⟩
theorem wpList_appS {rest:List Oper}{o:Oper}{a:Act}(hgd:o.guard=none){s x:Operand}{t e:TypeId}{z:Value}{size bytes:Nat}(T:SliceOfS P t e z size bytes)
 (ho:o.op=.call { callee:=.builtin .append,args:=#[s,x],argTypes:=#[t,t] }) {W:World} {base k n:Nat} {v u:Value} {xs ys:List Value}
 (hs:a.eval s=v) (hx:a.eval x=u) (hu:Holds W u k size ys) (hown:W.ownsRow base e size v n xs) (hb:base≤W.heap.size) (hl:(n+k) * bytes≤140737488355328) (hl2:n+k≤9223372036854775807)
 (h:∀ v' w',w'.ownsRow base e size v' (n+k) (xs++ys)→Keep (fun i=>v.ownBlock=some i) W w'→wpList P ops Q rest (a.put o.dst v') w'):wpList P ops Q (o::rest) a W:=
 wpList_plain hgd fun _ hK=>wp_appS T ho hs hx hu hown hb hl hl2 fun v' w' h1 h2=>hK _ _ (h v' w' h1 h2)
theorem Holds.new {w:World}{t:TypeId}{k size c:Nat}{ys:List Value}(hl:ys.length=k * size)(h1:ys.all (·.oneCell')=true):
 Holds (w.alloc (.cells ys.toArray t)) (.slice (some ⟨w.heap.size,0,none⟩) k c) k size ys:=
 ⟨hl,List.all_eq_true.1 h1,.inr ⟨_,_,rfl,fun j y hj=>by
  have e:(⟨w.heap.size,0,none⟩:Addr).add j=⟨w.heap.size,j,none⟩:=by unfold Addr.add;split<;>simp_all
  rw[e,cell_of_row _ _ _ _ _ _ (heap_alloc_new w _)]
  simpa using hj⟩⟩
theorem Holds.none {w:World}{size:Nat}:Holds w (.slice none 0 0) 0 size []:=⟨by simp,by simp,.inl ⟨rfl,rfl⟩⟩
theorem Holds.kw {w w':World}{x:Value}{k size:Nat}{ys:List Value}(h:Holds w x k size ys)(hk:KW w w'):Holds w' x k size ys:=by
 obtain⟨h1,h2,h3⟩:=h
 refine⟨h1,h2,h3.imp id fun⟨ad,c,hx,hc⟩=>⟨ad,c,hx,fun j y hj=>?_⟩⟩
 have h0:=hc j y hj
 have hlt:=World.block_lt_of_cell? w _ h0
 exact(Below.cell hk hlt).trans h0
theorem Row1.holds {w:World}{A:Option Addr}{n c:Nat}{f:Nat→Value}(h:Row1 w A n f)(h0:A=none→n=0∧c=0)(h1:∀ i,i<n→(f i).oneCell'=true):Holds w (.slice A n c) n 1 ((List.range n).map f):=by
 refine⟨by simp,fun y hy=>?_,?_⟩
 ·obtain⟨i,hi,rfl⟩:=List.mem_map.1 hy
  exact h1 i (by simpa using hi)
 ·cases A with
  | none=>obtain⟨rfl,rfl⟩:=h0 rfl;exact .inl ⟨rfl,rfl⟩
  | some ad=>
    refine .inr ⟨ad,c,rfl,fun j y hj=>?_⟩
    have hlt:j<n:=by
     have:=(List.getElem?_eq_some_iff.1 hj).1
     simpa using this
    obtain⟨b,off,hA,hb,hc⟩:=h.at_ hlt
    cases hA
    have e:(⟨b,off,none⟩:Addr).add j=⟨b,off+j,none⟩:=by unfold Addr.add;split<;>simp_all
    rw[e,hc]
    simp[hlt] at hj
    rw[hj]
end
end Go.Proofs.YtphppbonljdibaaGreat
