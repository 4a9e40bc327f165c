import Derived.Test.YtphppbonljdibaaGreatTB16
import Derived.Test.YtphppbonljdibaaGreatTB18
import Derived.Test.YtphppbonljdibaaGreatTB01
import Derived.Test.YtphppbonljdibaaGreatTB03
import Derived.Test.YtphppbonljdibaaGreatTB00
import Derived.RegionTactic
set_option maxRecDepth 100000
set_option maxHeartbeats 4000000
set_option linter.unusedVariables false
set_option linter.unusedSimpArgs false
namespace Go.Proofs.YtphppbonljdibaaGreat
namespace Mc
abbrev Act:=Int×Int
def chk (m:St):List Act→Nat→Int×Int×Int
 | [],k=>if m.pend=0 then (m.tot,(k:Int),0) else (0,(k:Int),19)
 | a::l,k=>if (step m a.1 a.2).2=0 then chk (step m a.1 a.2).1 l (k+1) else (0,(k:Int),(step m a.1 a.2).2)
theorem chk_nil (m:St)(k:Nat):chk m [] k=if m.pend=0 then (m.tot,(k:Int),0) else (0,(k:Int),19):=rfl
theorem drop_at (l:List Act){k:Nat}(h:k<l.length):l.drop k=l.getD k (0,0)::l.drop (k+1):=by
 rw[List.drop_eq_getElem_cons h]
 simp[List.getD,h]
def new (l:Int)(n:Nat):St:=⟨l,0,-1,0,List.replicate n (-1)⟩
theorem new_inv (l:Int)(n:Nat)(l0:0≤l)(l1:l<65536)(hn:n≤1048576):Inv (new l n):=
 ⟨l0,by show l≤65535;omega,by show(0:Int)≤0;omega,l0,by show(-1:Int)≤-1;omega,by show -1≤l;omega,fun x hx=>by
  obtain⟨_,rfl⟩:=List.mem_replicate.1 hx
  show -1≤-1∧-1≤l
  omega,by simp[new];exact hn,by show(0:Int)≤0;omega⟩
def check (l n:Int)(list:List Act):Int×Int×Int:=
 if 0≤l∧l<65536∧0≤n∧n≤1048576 then chk (new l n.toNat) list 0 else (0,0,2)
end Mc
end Go.Proofs.YtphppbonljdibaaGreat
namespace Go.Proofs.YtphppbonljdibaaGreat
open Go.ChangeShapes Go.WideShapes Go.ChangeAt Go.RowKit
def ints (l:List Int):List Value:=l.map (Value.int .i64)
theorem ints_len (l:List Int):(ints l).length=l.length:=by simp[ints]
theorem ints_get (l:List Int){i:Nat}(h:i<l.length):(ints l)[i]?=some (.int .i64 (l.getD i 0)):=by simp[ints,h]
theorem tbk_own {v:Value}{k:Nat}(h:tbk v=some k):v.ownBlock=some k:=by
 unfold tbk at h
 split at h
 ·split at h
  ·cases h
  ·exact h
 ·cases h
theorem Owns.tg {w:World}{base b:Nat}{v:Value}{tags:List Int}(h:Owns w base 3 v (ints tags))(hb:∀ k,v.ownBlock=some k→k≠b):Tg w b v tags:=by
 obtain⟨h1,h2⟩:=h
 rw[ints_len] at h2
 rcases h2 with⟨rfl,h0⟩|⟨g,cap,cur,rfl,hg,hc,hcap,_,hsz,htake⟩
 ·exact⟨none,0,by rw[h0],fun _=>rfl,fun hp=>absurd hp (by omega)⟩
 ·refine⟨_,cap,rfl,fun h=>(by cases h),fun _=>⟨g,cap,fun i=>cur.getD i undef,rfl,hb g rfl,hcap,⟨cur,hc,by omega,fun i hi=>?_⟩,fun i hi=>?_⟩⟩
  ·show cur[i]?=some (cur.getD i undef)
   rw[Array.getD_eq_getD_getElem?,Array.getElem?_eq_getElem (by omega)];rfl
  ·have e:=ints_get tags hi
   rw[← htake,Nat.mul_one,List.getElem?_take_of_lt hi] at e
   show cur.getD i undef=_
   rw[Array.getD_eq_getD_getElem?,← Array.getElem?_toList,e];rfl
theorem Tg.holds {w:World}{b:Nat}{v:Value}{tags:List Int}(h:Tg w b v tags):∃ A c,v=.slice A tags.length c∧Holds w (.slice A tags.length c) tags.length 1 (ints tags):=by
 obtain⟨A,c,rfl,hz,hx⟩:=h
 refine⟨A,c,rfl,by rw[ints_len];omega,fun y hy=>?_,?_⟩
 ·obtain⟨x,_,rfl⟩:=List.mem_map.1 hy;rfl
 ·cases A with
  | none=>
    have h0:tags.length=0:=by
     apply Classical.byContradiction
     intro h0
     obtain⟨tb,N,f,hA,_⟩:=hx (by omega)
     cases hA
    exact .inl ⟨h0,by rw[hz rfl,h0]⟩
  | some a=>
    refine .inr ⟨a,c,rfl,fun j y hj=>?_⟩
    have hlt:j<tags.length:=by
     have:=(List.getElem?_eq_some_iff.1 hj).1
     rwa [ints_len] at this
    obtain⟨tb,N,f,hA,_,hN,hr,hf⟩:=hx (by omega)
    cases hA
    have e:(⟨tb,0,none⟩:Addr).add j=⟨tb,j,none⟩:=by unfold Addr.add;split<;>simp_all
    rw[e,hr.cell (by omega),hf j hlt]
    rw[ints_get tags hlt] at hj
    exact hj
def NewP (w:World)(m:Mc.St)(e:Ending)(w':World):Prop:=
 ∃ b v,e=.returned (.tuple #[.pointer (some ⟨b,0,none⟩),.int .i64 0])∧Mach w' b v m∧(∀ k,mo b v k→w.heap.size≤k)∧KW w w'
theorem new_yes (l:Int)(n:Nat)(w:World)(l0:0≤l)(l1:l<65536)(hn:n≤1048576):
 Calls Tryz.prog 13 #[.int .i64 l,.int .i64 n] w (NewP w (Mc.new l n)):=by
 have HL:=hid (fun W=>long_any l W)
 rw[show decide (0≤l∧l<65536)=true from decide_eq_true ⟨l0,l1⟩] at HL
 have d1:decide (n<0)=false:=by simp
 have d2:decide ((n:Int)<0)=false:=by simp
 have d3:decide ((1048576:Int)<(n:Int))=false:=by simp;omega
 go_enter Tryz.func13,Tryz.ntmps13
 go_wp2_with (go_at_call 47;refine(HL.out _).mono ?_;rintro e w1 ⟨rfl,rfl⟩)
 have HRp:Hid (Calls Tryz.prog 48 #[.slice (some ⟨w.heap.size+1,0,none⟩) 1 1,.int .i64 n] ((w.alloc (.cells #[.int .i64 0,.int .i64 (-1),.int .i64 l,.int .i64 0,.slice none 0 0] 100)).alloc (.cells #[.int .i64 (-1)] 3)) (RepP (w.alloc (.cells #[.int .i64 0,.int .i64 (-1),.int .i64 l,.int .i64 0,.slice none 0 0] 100)) n)):=by
  have h:=repeat_any n (w.alloc (.cells #[.int .i64 0,.int .i64 (-1),.int .i64 l,.int .i64 0,.slice none 0 0] 100)) hn
  exact hid (by simpa using h)
 have HMr:Hid ((w.alloc (.cells #[.int .i64 0,.int .i64 (-1),.int .i64 l,.int .i64 0,.slice none 0 0] 100)).rowIs w.heap.size 100 5 (mf (Mc.new l 0) (.slice none 0 0))):=
  World.rowIs_alloc w #[.int .i64 0,.int .i64 (-1),.int .i64 l,.int .i64 0,.slice none 0 0] 100 _ fun i hi=>by
   rcases(show i=0∨i=1∨i=2∨i=3∨i=4 by simp at hi;omega) with rfl|rfl|rfl|rfl|rfl<;>rfl
 refine HRp.out.mono ?_
 rintro e w1 ⟨tb,rfl,htb,hrow,hk⟩
 have hr5:=KW.row hk HMr.out.lt HMr.out
 have f4:=hr5.frozen 4
 have c4:=hr5.cell (i:=4) (by omega)
 simp only[mf] at c4
 have hsz:=hr5.lt
 simp at htb
 have hne:tb≠w.heap.size:=by omega
 have HR5:=hid hr5
 have HROW:=hid hrow
 have HK:Hid (KW w w1):=((KW.refl w).alloc _).t hk
 have HTB:=hid htb
 have HNE:=hid hne
 clear hr5 hrow hk htb hne
 go_wp2_with fail
 go_ret2
 refine⟨w.heap.size,.slice (some ⟨tb,0,none⟩) n n,rfl,⟨(HR5.out.set 4 _).congr fun j hj=>?_,⟨_,_,by simp[Mc.new];rfl,fun h=>(by cases h),fun h0=>⟨tb,n,_,rfl,HNE.out,by simp[Mc.new],HROW.out.setOther HNE.out _,fun i hi=>?_⟩⟩⟩,?_,Below.setCell (p:=⟨w.heap.size,4,none⟩) HK.out (Nat.le_refl _) _⟩
 ·rcases(show j=0∨j=1∨j=2∨j=3∨j=4 by omega) with rfl|rfl|rfl|rfl|rfl<;>rfl
 ·have:i<n:=by simpa [Mc.new] using hi
  simp[Mc.new,this]
 ·intro k hk
  rcases hk with rfl|hk
  ·exact Nat.le_refl _
  ·have:=tbk_own hk
   simp[Value.ownBlock] at this
   have:=HTB.out
   omega
def SpotP (w:World)(m:Mc.St)(e:Ending)(w':World):Prop:=∃ v,e=.returned (.agg #[.int .i64 m.at_,.int .i64 m.pend,v])∧Owns w' w.heap.size 3 v (ints m.tags)∧KW w w'
theorem spot_any (m:Mc.St)(b:Nat)(v:Value)(w:World)(hM:Mach w b v m)(hl:m.tags.length≤1048576):
 Calls Tryz.prog 19 #[.pointer (some ⟨b,0,none⟩)] w (SpotP w m):=by
 obtain⟨A,c,hv,hh⟩:=hM.2.holds
 have c0:=hM.1.cell (i:=0) (by omega)
 have c1:=hM.1.cell (i:=1) (by omega)
 have c4:=hM.1.cell (i:=4) (by omega)
 simp only[mf] at c0 c1 c4
 rw[hv] at c4
 have hlt:=hM.size
 have HH:=hid hh
 have HC:=hid (fun W (hk:KW w W)=>clone_any A m.tags.length c (ints m.tags) W hl (hh.kw hk))
 unfold SpotP
 generalize m.at_=a at *
 generalize m.pend=p at *
 generalize ints m.tags=xs at *
 generalize m.tags.length=N at *
 clear hM hh hv
 go_enter Tryz.func19,Tryz.ntmps19
 go_wp2_with fail
 refine wpCode_world (fun W=>KW w W∧W.rowIs w.heap.size 58 3 (fun i=>#[.int .i64 0,.int .i64 0,.slice none 0 0].getD i undef)) ⟨(KW.refl w).alloc _,World.rowIs_alloc w #[.int .i64 0,.int .i64 0,.slice none 0 0] 58 _ fun i hi=>by simp at hi;simp[hi]⟩ ?_
 rintro W ⟨hk,hrow⟩
 replace c0:=KW.cell hk hlt c0
 replace c1:=KW.cell hk hlt c1
 replace c4:=KW.cell hk hlt c4
 have hbW:b<W.heap.size:=Nat.lt_of_lt_of_le hlt hk.size
 have HK:=hid hk
 have HR:=hid hrow
 have HB:=hid hbW
 clear hk hrow hbW
 have hXS:=And.intro c0 (And.intro c1 c4)
 have C:=hid hXS
 refine wpX_region (S:=fun w'=>w'.cell? ⟨b,0,none⟩=some (.int .i64 a)∧w'.cell? ⟨b,1,none⟩=some (.int .i64 p)∧w'.cell? ⟨b,4,none⟩=some (.slice A N c)) (L:=16) (by kernel_rfl) ?_
 refine tk 0 ?_ (fun _ _=>?_) hXS ?_;rotate_left;· go_simp;try rfl
 simp only[lsz,lss]
 refine tk 1 ?_ (fun _ _=>?_) hXS ?_;rotate_left;· go_simp;try rfl
 simp only[lsz,lss]
 refine tk 2 ?_ (fun _ _=>?_) hXS ?_;rotate_left;· go_simp;try rfl
 simp only[lsz,lss]
 refine tk 3 ?_ (fun _ _=>?_) hXS ?_;rotate_left;· go_simp;try rfl
 simp only[lsz,lss]
 refine tk 4 ?_ (fun _ _=>?_) hXS ?_;rotate_left;· go_simp;try rfl
 simp only[lsz,lss]
 refine tk 5 ?_ (fun _ _=>?_) hXS ?_;rotate_left;· go_simp;try rfl
 simp only[lsz,lss]
 refine tk 6 ?_ (fun _ _=>?_) hXS ?_;rotate_left;· go_simp;try rfl
 simp only[lsz,lss]
 refine tk 7 ?_ (fun _ _=>?_) hXS ?_;rotate_left;· go_simp;try rfl
 simp only[lsz,lss]
 refine tk 8 ?_ (fun _ _=>?_) hXS ?_;rotate_left;· go_simp;try rfl
 simp only[lsz,lss]
 refine tk 9 ?_ (fun _ _=>?_) hXS ?_;rotate_left;· go_simp;try rfl
 simp only[lsz,lss]
 refine tk 10 ?_ (fun _ _=>?_) hXS ?_;rotate_left;· go_simp;try rfl
 simp only[lsz,lss]
 refine tk 11 ?_ (fun _ _=>?_) hXS ?_;rotate_left;· go_simp;try rfl
 simp only[lsz,lss]
 refine tk 12 ?_ (fun _ _=>?_) hXS ?_;rotate_left;· go_simp;try rfl
 simp only[lsz,lss]
 refine tk 13 ?_ (fun _ _=>?_) hXS ?_;rotate_left;· go_simp;try rfl
 simp only[lsz,lss]
 refine wpX_hard (k:=14) (by kernel_rfl) rfl (fun K hK=>?_)
 go_simp
 (refine(HC.out _ HK.out.drew).mono ?_;rintro e w2 ⟨v2,rfl,ho,hb⟩;obtain⟨A2,k2,rfl,_⟩:=ho.row;have HO:=hid ho;have HB2:=hid hb;clear ho hb)
 refine hK _ _ (fun _=>⟨KW.cell HB2.out HB.out C.out.1,KW.cell HB2.out HB.out C.out.2.1,KW.cell HB2.out HB.out C.out.2.2⟩) ?_
 clear hK K
 try simp only[lsz,lss]
 have hXS:=And.intro (KW.cell HB2.out HB.out C.out.1) (And.intro (KW.cell HB2.out HB.out C.out.2.1) (KW.cell HB2.out HB.out C.out.2.2))
 refine tk 15 ?_ (fun _ _=>?_) hXS ?_;rotate_left;· go_simp;try rfl
 simp only[lsz,lss]
 refine wpX_store_is (k:=16) (by kernel_rfl) rfl rfl rfl 58 _ _ rfl w.heap.size 3 58 _ (fun i=>#[.int .i64 a,.int .i64 p,.slice A2 xs.length k2].getD i undef) #[.int .i64 a,.int .i64 p,.slice A2 xs.length k2] rfl rfl (KW.row HB2.out HR.out.lt HR.out) (by kernel_rfl) rfl (fun i hi=>by simp[hi]) (fun i hi=>?_) ?_
 ·rcases(show i=0∨i=1∨i=2 by omega) with rfl|rfl|rfl<;>rfl
 intro W3 hrow hheap hkeep
 refine⟨fun h=>absurd rfl h,wpX_done (by kernel_rfl) ?_⟩
 have HK3:Hid (KW w W3):=(HK.out.drew.t HB2.out).kept hkeep fun i hi=>by omega
 have HO3:Hid (Owns W3 w.heap.size 3 (.slice A2 xs.length k2) xs):=by
  have h1:=hkeep.owns HO.out fun i hi h=>by
   have:=(HO.out.lt hi).1
   have h4:=HR.out.lt
   subst h
   exact absurd (show W.heap.size≤w.heap.size from this) (by omega)
  have h2:w.heap.size≤W.heap.size:=HK.out.size
  exact h1.base h2
 have HP:=hid hheap
 clear hrow hkeep hheap hXS
 go_wp2_with fail
 exact bodyPost_ret (results_cell_row rfl _ _ _ _ _ (0,0) _ rfl HP.out Tryz.underlying58 rfl (by kernel_rfl)) rfl ⟨_,rfl,HO3.out,HK3.out⟩
def Acts (w:World)(A:Option Addr)(l:List Mc.Act):Prop:=
 0<l.length→∃ b off,A=some ⟨b,off,none⟩∧b<w.heap.size∧∀ k,k<l.length→w.cell? ⟨b,off+k * 2,none⟩=some (.int .i64 (l.getD k (0,0)).1)∧w.cell? ⟨b,off+k * 2+1,none⟩=some (.int .i64 (l.getD k (0,0)).2)
theorem Acts.at_ {w:World}{A:Option Addr}{l:List Mc.Act}(h:Acts w A l){k:Nat}(hk:k<l.length):
 ∃ b off,A=some ⟨b,off,none⟩∧b<w.heap.size∧w.cell? ⟨b,off+k * 2,none⟩=some (.int .i64 (l.getD k (0,0)).1)∧w.cell? ⟨b,off+k * 2+1,none⟩=some (.int .i64 (l.getD k (0,0)).2):=by
 obtain⟨b,off,hA,hb,hc⟩:=h (by omega)
 exact⟨b,off,hA,hb,hc k hk⟩
theorem Acts.kw {w w':World}{A:Option Addr}{l:List Mc.Act}(h:Acts w A l)(hk:KW w w'):Acts w' A l:=by
 intro hn
 obtain⟨b,off,hA,hb,hc⟩:=h hn
 exact⟨b,off,hA,Nat.lt_of_lt_of_le hb hk.size,fun k hkl=>⟨hk.cell hb (hc k hkl).1,hk.cell hb (hc k hkl).2⟩⟩
def RT0 (w:World)(v:Value)(tags:List Int):Prop:=∃ A c,v=.slice A tags.length c∧Row1 w A tags.length fun i=>.int .i64 (tags.getD i 0)
def Ty (w:World)(A:Option Addr)(n:Nat):Prop:=0<n→∃ b off cs fr,A=some ⟨b,off,none⟩∧w.heap[b]?=some (.cells cs 3 fr)
def RT (w:World)(v:Value)(tags:List Int):Prop:=∃ A c,v=.slice A tags.length c∧(Row1 w A tags.length fun i=>.int .i64 (tags.getD i 0))∧Ty w A tags.length
theorem Ty.keep {own:Nat→Prop}{w w':World}{A:Option Addr}{n:Nat}(h:Ty w A n)(k:Keep own w w')(hn:0<n→∀ b off,A=some ⟨b,off,none⟩→¬ own b):Ty w' A n:=by
 intro h0
 obtain⟨b,off,cs,fr,hA,hb⟩:=h h0
 exact⟨b,off,cs,fr,hA,by rw[k.block b (Array.getElem?_eq_some_iff.1 hb).1 (hn h0 b off hA)];exact hb⟩
theorem Ty.kw {w w':World}{A:Option Addr}{n:Nat}(h:Ty w A n)(k:KW w w'):Ty w' A n:=h.keep (k.keep (own:=fun _=>False)) fun _ _ _ _ h=>h
theorem RT.kw {w w':World}{v:Value}{tags:List Int}(h:RT w v tags)(hk:KW w w'):RT w' v tags:=by
 obtain⟨A,c,hv,hr,ht⟩:=h
 exact⟨A,c,hv,hr.k hk,ht.kw hk⟩
theorem Owns.rt {w:World}{base:Nat}{v:Value}{tags:List Int}(h:Owns w base 3 v (ints tags)):RT w v tags:=by
 have hx:=h
 obtain⟨A,c,hv,_,_,hr⟩:=h.row
 rw[ints_len] at hv hr
 refine⟨A,c,hv,hr.cong fun i hi=>by rw[List.getD_eq_getElem?_getD,ints_get tags hi];rfl,fun h0=>?_⟩
 rcases hx.2 with⟨_,hz⟩|⟨g,cap,cur,hv',_,hg,_⟩
 ·rw[ints_len] at hz;omega
 ·rw[hv] at hv'
  simp only[Value.slice.injEq] at hv'
  exact⟨g,0,cur,(0,0),hv'.1,hg⟩
theorem RT.rt0 {w:World}{v:Value}{tags:List Int}(h:RT w v tags):RT0 w v tags:=by
 obtain⟨A,c,hv,hr,_⟩:=h
 exact⟨A,c,hv,hr⟩
section
variable {P : Program}
theorem results_cell_tmp {fn:Func}{p q:Tmp}{ty:TypeId}(h:fn.results=#[.cell p ty,.tmp q])(tmps:Array Value)(w:World)(g:Nat)(t:TypeId)(cs:Array Value)(fr:Nat×Nat)(d:TypeDesc)
 (hp:tmps.getD p undef=.pointer (some ⟨g,0,none⟩)) (hg:w.heap[g]?=some (.cells cs t fr))
 (hu:P.underlying ty=some d) (hd:(match d with | .struct _ | .array _ _=>true | _=>false)=true) (hi:(P.info? ty).map (·.size)=some cs.size):
 (results fn tmps).run P w=.ok (.tuple #[.agg cs,tmps.getD q undef]) w:=by
 have hp':tmps[p]?.getD undef=.pointer (some ⟨g,0,none⟩):=by simpa using hp
 simp[results,h,hp',asAddr,run_loadVar_row w g t ty cs fr d hg hu hd hi]
end
def mtf (now most budget:Int):Nat→Value
 | 0=>.int .i64 now
 | 1=>.int .i64 most
 | _=>.int .i64 budget
def MetM (w:World)(b:Nat)(now most budget:Int):Prop:=w.rowIs b 191 3 (mtf now most budget)
theorem MetM.keep {own:Nat→Prop}{w w':World}{b:Nat}{x y z:Int}(h:MetM w b x y z)(hk:Keep own w w')(hn:¬ own b):MetM w' b x y z:=hk.row hn h
theorem MetM.kw {w w':World}{b:Nat}{x y z:Int}(h:MetM w b x y z)(hk:KW w w'):MetM w' b x y z:=h.keep (hk.keep (own:=fun _=>False)) id
theorem MetM.lt {w:World}{b:Nat}{x y z:Int}(h:MetM w b x y z):b<w.heap.size:=World.rowIs.lt h
theorem MetM.cells {w:World}{b:Nat}{x y z:Int}(h:MetM w b x y z):w.cell? ⟨b,0,none⟩=some (.int .i64 x)∧w.cell? ⟨b,1,none⟩=some (.int .i64 y)∧w.cell? ⟨b,2,none⟩=some (.int .i64 z)∧(∀ o,w.frozen? ⟨b,o,none⟩=false) ∧
 (∀ x',MetM (w.setCell ⟨b,0,none⟩ (.int .i64 x')) b x' y z)∧∀ y',MetM (w.setCell ⟨b,1,none⟩ (.int .i64 y')) b x y' z:=by
 refine⟨World.rowIs.cell h (i:=0) (by omega),World.rowIs.cell h (i:=1) (by omega),World.rowIs.cell h (i:=2) (by omega),fun o=>World.rowIs.frozen h o,fun x'=>?_,fun y'=>?_⟩
 ·refine World.rowIs.congr (World.rowIs.set h 0 (.int .i64 x')) fun i hi=>?_
  rcases(show i=0∨i=1∨i=2 by omega) with rfl|rfl|rfl<;>rfl
 ·refine World.rowIs.congr (World.rowIs.set h 1 (.int .i64 y')) fun i hi=>?_
  rcases(show i=0∨i=1∨i=2 by omega) with rfl|rfl|rfl<;>rfl
theorem MetM.new (w:World)(x y z:Int):MetM (w.alloc (.cells #[.int .i64 x,.int .i64 y,.int .i64 z] 191)) w.heap.size x y z:=
 World.rowIs_alloc w #[.int .i64 x,.int .i64 y,.int .i64 z] 191 _ fun i hi=>by
  simp at hi
  rcases(show i=0∨i=1∨i=2 by omega) with rfl|rfl|rfl<;>rfl
theorem mnew_any (n:Int)(w:World)(h0:0≤n):Calls Tryz.prog 100 #[.int .i64 n] w fun e w'=>e=.returned (.tuple #[.pointer (some ⟨w.heap.size,0,none⟩),.int .i64 0])∧w'=w.alloc (.cells #[.int .i64 0,.int .i64 0,.int .i64 n] 191):=by
 have HAt:Hid (Calls Tryz.prog 136 #[.int .i64 n,.int .i64 0,.int .i64 0] w fun e w'=>e=.returned (.tuple #[.pointer (some ⟨w.heap.size,0,none⟩),.int .i64 0])∧w'=w.alloc (.cells #[.int .i64 0,.int .i64 0,.int .i64 n] 191)):=hid (by
  have d0:decide (n<0)=false:=decide_eq_false (by omega)
  go_enter Tryz.func136,Tryz.ntmps136
  go_wp2_with fail
  go_ret2
  exact⟨rfl,rfl⟩)
 go_enter Tryz.func100,Tryz.ntmps100
 go_wp2_with fail
 refine HAt.out.mono ?_
 rintro e w1 ⟨rfl,rfl⟩
 go_wp2_with fail
 go_ret2
 exact⟨rfl,rfl⟩
theorem live_any (b:Nat)(x y z:Int)(w:World)(h:MetM w b x y z):Calls Tryz.prog 114 #[.pointer (some ⟨b,0,none⟩)] w fun e w'=>e=.returned (.int .i64 x)∧w'=w:=by
 obtain⟨c0,c1,c2,_,_,_⟩:=h.cells
 clear h
 go_enter Tryz.func114,Tryz.ntmps114
 go_wp2_with fail
 go_ret
 exact⟨rfl,rfl⟩
theorem peak_any (b:Nat)(x y z:Int)(w:World)(h:MetM w b x y z):Calls Tryz.prog 115 #[.pointer (some ⟨b,0,none⟩)] w fun e w'=>e=.returned (.int .i64 y)∧w'=w:=by
 obtain⟨c0,c1,c2,_,_,_⟩:=h.cells
 clear h
 go_enter Tryz.func115,Tryz.ntmps115
 go_wp2_with fail
 go_ret
 exact⟨rfl,rfl⟩
theorem mcadd_any (b:Nat)(x y z n:Int)(w:World)(h:MetM w b x y z)(hx:0≤x∧x≤1073741824)(hn:-1073741824≤n∧n≤1073741824):
 Calls Tryz.prog 138 #[.pointer (some ⟨b,0,none⟩),.int .i64 n] w fun e w'=>e=.returned (.tuple #[])∧MetM w' b (x+n) (max y (x+n)) z∧Keep (· = b) w w':=by
 obtain⟨c0,c1,c2,fz,hs0,_⟩:=h.cells
 have hM1:=hs0 (x+n)
 obtain⟨d0,d1,d2,fz1,_,hs1⟩:=hM1.cells
 have HM2:=hid (hs1 (max y (x+n)))
 have HM2d:∀ q:Int,q=max y (x+n)→Hid (MetM ((w.setCell ⟨b,0,none⟩ (.int .i64 (x+n))).setCell ⟨b,1,none⟩ (.int .i64 q)).drew b (x+n) (max y (x+n)) z):=fun q hq=>by rw[hq];exact hid (HM2.out.kw (KW.refl _).drew)
 have HKd:∀ q:Int,Hid (Keep (· = b) w ((w.setCell ⟨b,0,none⟩ (.int .i64 (x+n))).setCell ⟨b,1,none⟩ (.int .i64 q)).drew):=fun q=>hid ((((Keep.refl (· = b) w).setCell ⟨b,0,none⟩ _ rfl).setCell ⟨b,1,none⟩ _ rfl).drew)
 have f0:=fz 0
 have hb:=h.lt
 have e0:(w.setCell ⟨b,0,none⟩ (.int .i64 (x+n))).drew.cell? ⟨b,0,none⟩=some (.int .i64 (x+n)):=d0
 have e1:(w.setCell ⟨b,0,none⟩ (.int .i64 (x+n))).drew.cell? ⟨b,1,none⟩=some (.int .i64 y):=d1
 have f1:(w.setCell ⟨b,0,none⟩ (.int .i64 (x+n))).drew.frozen? ⟨b,1,none⟩=false:=fz1 1
 clear h hM1 hs0 hs1 fz fz1 d0 d1 d2 c1 c2 HM2
 have HA:=hid (And.intro HM2d HKd)
 clear HM2d HKd
 by_cases hyx:y≤x+n
 ·have em:max y (x+n)=x+n:=by omega
  go_enter Tryz.func138,Tryz.ntmps138
  go_wp2_with fail
  go_region
  all_goals
   refine bodyPost_end (results_none rfl _ _ _) rfl ?_
   exact⟨rfl,(HA.out.1 _ (by omega)).out,(HA.out.2 _).out⟩
 ·have em:max y (x+n)=y:=by omega
  go_enter Tryz.func138,Tryz.ntmps138
  go_wp2_with fail
  go_region
  all_goals
   refine bodyPost_end (results_none rfl _ _ _) rfl ?_
   exact⟨rfl,(HA.out.1 _ (by omega)).out,(HA.out.2 _).out⟩
theorem cwithin_any (b:Nat)(x y z n m:Int)(w:World)(h:MetM w b x y z)(hx:0≤x∧x≤1073741824)(hm:0≤m∧m≤1073741824):
 Calls Tryz.prog 137 #[.pointer (some ⟨b,0,none⟩),.int .i64 n,.int .i64 m] w fun e w'=>e=.returned (.bool (decide (n≤m - x)))∧w'=w:=by
 obtain⟨c0,c1,c2,_,_,_⟩:=h.cells
 clear h
 go_enter Tryz.func137,Tryz.ntmps137
 go_wp2_with fail
 go_ret
 exact⟨rfl,rfl⟩
theorem hold_any (b:Nat)(x y z n:Int)(w:World)(h:MetM w b x y z)(hx:0≤x∧x≤z)(hz:z≤1073741824)(hn:0≤n∧n≤z - x):
 Calls Tryz.prog 101 #[.pointer (some ⟨b,0,none⟩),.int .i64 n] w fun e w'=>e=.returned (.int .i64 0)∧MetM w' b (x+n) (max y (x+n)) z∧Keep (· = b) w w':=by
 have HC:=hid (fun W (hW:MetM W b x y z)=>cwithin_any b x y z n z W hW ⟨hx.1,by omega⟩ ⟨by omega,hz⟩)
 rw[decide_eq_true hn.2] at HC
 have HA:=hid (fun W (hW:MetM W b x y z)=>mcadd_any b x y z n W hW ⟨hx.1,by omega⟩ ⟨by omega,by omega⟩)
 have HM:=hid h
 have HMd:=hid (h.kw (KW.refl w).drew)
 obtain⟨c0,c1,c2,fz,_,_⟩:=h.cells
 have hb:=h.lt
 have d0:decide (n<0)=false:=decide_eq_false (by omega)
 clear h fz
 go_enter Tryz.func101,Tryz.ntmps101
 go_wp2_with fail
 have hXS:=c2
 refine wpX_region (S:=fun w'=>w'.cell? ⟨b,2,none⟩=some (.int .i64 z)) (L:=99) (by kernel_rfl) ?_
 refine tk 0 ?_ (fun _ _=>?_) hXS ?_;rotate_left;· go_simp;try rfl
 simp only[lsz,lss]
 refine tk 1 ?_ (fun _ _=>?_) hXS ?_;rotate_left;· go_simp;try rfl
 simp only[lsz,lss]
 refine tk 2 ?_ (fun _ _=>?_) hXS ?_;rotate_left;· go_simp;try rfl
 simp only[lsz,lss]
 refine tk 3 ?_ (fun _ _=>?_) hXS ?_;rotate_left;· go_simp;try rfl
 simp only[lsz,lss]
 refine tk 4 ?_ (fun _ _=>?_) hXS ?_;rotate_left;· go_simp;try rfl
 simp only[lsz,lss]
 refine tk 5 ?_ (fun _ _=>?_) hXS ?_;rotate_left;· go_simp;try rfl
 simp only[lsz,lss]
 refine tk 6 ?_ (fun _ _=>?_) hXS ?_;rotate_left;· go_simp;try rfl
 simp only[lsz,lss]
 refine tk 7 ?_ (fun _ _=>?_) hXS ?_;rotate_left;· go_simp;try rfl
 simp only[lsz,lss]
 refine wpX_hard (k:=8) (by kernel_rfl) rfl (fun K hK=>?_)
 go_simp
 refine(HC.out _ HMd.out).mono ?_
 rintro e w1 ⟨rfl,rfl⟩
 refine hK _ _ (fun _=>hXS) ?_
 clear hK K
 try simp only[lsz,lss]
 refine tk 9 ?_ (fun _ _=>?_) hXS ?_;rotate_left;· go_simp;try rfl
 simp only[lsz,lss]
 refine tk 10 ?_ (fun _ _=>?_) hXS ?_;rotate_left;· go_simp;try rfl
 simp only[lsz,lss]
 refine wpX_done (by kernel_rfl) ?_
 clear hXS
 go_wp2_with fail
 refine(HA.out _ HMd.out).mono ?_
 rintro e w2 ⟨rfl,hm2,hk2⟩
 have HM2:=hid hm2
 have HK2:Hid (Keep (· = b) w w2):=hid (((KW.refl w).drew).kt hk2)
 clear hm2 hk2
 go_wp2_with fail
 go_ret
 exact⟨rfl,HM2.out,HK2.out⟩
theorem drop_any (b:Nat)(x y z n:Int)(w:World)(h:MetM w b x y z)(hx:0≤x∧x≤1073741824)(hn:0≤n∧n≤x):
 Calls Tryz.prog 150 #[.pointer (some ⟨b,0,none⟩),.int .i64 n] w fun e w'=>e=.returned (.int .i64 0)∧MetM w' b (x - n) (max y (x - n)) z∧Keep (· = b) w w':=by
 have HA:=hid (mcadd_any b x y z (-n) w h hx ⟨by omega,by omega⟩)
 rw[show x + -n=x - n by omega] at HA
 obtain⟨c0,c1,c2,fz,_,_⟩:=h.cells
 have hb:=h.lt
 have d0:decide (n<0)=false:=decide_eq_false (by omega)
 have d1:decide (x<n)=false:=decide_eq_false (by omega)
 clear h fz
 go_enter Tryz.func150,Tryz.ntmps150
 go_wp2_with fail
 refine HA.out.mono ?_
 rintro e w2 ⟨rfl,hm2,hk2⟩
 have HM2:=hid hm2
 have HK2:=hid hk2
 clear hm2 hk2
 go_wp2_with fail
 go_ret
 exact⟨rfl,HM2.out,HK2.out⟩
end Go.Proofs.YtphppbonljdibaaGreat
