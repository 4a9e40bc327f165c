import Derived.Test.YtphppbonljdibaaGreatTB30
import Derived.Test.YtphppbonljdibaaGreatTB35
import Derived.Test.YtphppbonljdibaaGreatTB38
import Derived.Deep.MidRow
set_option maxRecDepth 100000
set_option maxHeartbeats 4000000
set_option linter.unusedVariables false
set_option linter.unusedSimpArgs false
namespace Go.Proofs.YtphppbonljdibaaGreat
open Go.ChangeShapes Go.WideShapes Go.ChangeAt Go.RowKit
noncomputable def nxO (S:Dy)(_:Bool):Option Mc.Act:=Rv.rv S.l S.at_ S.pend S.tags
def Dy.acts (S:Dy)(D:Ds)(L:List Mc.Act):Dy:=L.foldl (fun S a=>S.act D a.1 a.2) S
theorem rnt_goes (D:Ds)(m lim:Int)(hm:m≠2)(b:Bool)(fed l:Nat):∀ (L:List Mc.Act) (S:Dy) (m':Mc.St),S.l=l→DyI D S→Mc.Goes (Rv.nm l) S.mc L m'→Rv.nm l m'=none →
 RnT nxO D m lim L.length S b fed L (S.acts D L) b∧(S.acts D L).mc=m'∧DyI D (S.acts D L)
 | [],S,m',hl,hI,h,hn=>by
   obtain rfl:m'=S.mc:=h
   refine⟨⟨rfl,rfl,rfl,?_,.inl hm⟩,rfl,hI⟩
   rw[← hl] at hn
   exact hn
 | a::L,S,m',hl,hI,h,hn=>by
   obtain⟨h1,h2,h3⟩:=h
   have ha:=hI.act h2
   have hl':(S.act D a.1 a.2).l=l:=by
    have e:(S.act D a.1 a.2).mc.l=S.mc.l:=by rw[ha.mc,Mc.step_l]
    have e1:(S.act D a.1 a.2).mc.l=((S.act D a.1 a.2).l:Int):=rfl
    have e2:S.mc.l=(S.l:Int):=rfl
    omega
   rw[← ha.mc] at h3
   have ih:=rnt_goes D m lim hm b fed l L (S.act D a.1 a.2) m' hl' ha.inv h3 hn
   refine⟨.inl ⟨a.1,a.2,L,rfl,?_,h2,ih.1⟩,ih.2⟩
   rw[← hl] at h1
   exact h1
theorem rnt_off (D:Ds)(lim:Int)(hd:DsOk D)(hm:D.h.mode≠2):
 RnT nxO D D.h.mode lim (Rv.rl D.h.len.toNat D.n).length (Dy.new D) false 0 (Rv.rl D.h.len.toNat D.n) ((Dy.new D).acts D (Rv.rl D.h.len.toNat D.n)) false ∧
 ((Dy.new D).acts D (Rv.rl D.h.len.toNat D.n)).mc=⟨(D.h.len.toNat:Nat),0,0,Ch.tt D.h.len.toNat D.n,List.replicate D.n (-1)⟩∧DyI D ((Dy.new D).acts D (Rv.rl D.h.len.toNat D.n)):=by
 have hb:=hd.ok.1.bounds
 have hs:=(slots_ok D.h hd.ok)
 have hn:=hd.nI
 have hs1:=hs.2.2.2 hd.m3
 have hs2:=hs.2.1
 have hg:=Rv.rl_goes (l:=D.h.len.toNat) (n:=D.n) (by omega) (by omega)
 exact rnt_goes D _ lim hm false 0 _ _ (Dy.new D) _ rfl (dyI_new hd) hg (Rv.end_ _ _ _)
def wkO:List Fl.O:=[⟨3,2,0,0,0⟩,⟨1,0,0,2,0⟩,⟨5,2,0,0,9223372036854775808⟩,⟨3,0,0,2,0⟩]
def wkH (xA:Option Addr)(xc:Nat)(tA:Option Addr)(tc:Nat)(sA:Option Addr)(sc:Nat)(lA:Option Addr)(lc:Nat):Hd:=⟨1,xA,xc,[5],tA,tc,[2],⟨3,sA,sc,[]⟩,⟨3,lA,lc,wkO⟩,3,100⟩
theorem wk_ok (xA:Option Addr)(xc:Nat)(tA:Option Addr)(tc:Nat)(sA:Option Addr)(sc:Nat)(lA:Option Addr)(lc:Nat):PlOk (wkH xA xc tA tc sA sc lA lc):=by
 refine⟨fun i hi=>?_,?_⟩
 ·rcases(show i=0∨i=1∨i=2∨i=3∨i=4 by omega) with rfl|rfl|rfl|rfl|rfl
  ·show(1:Int)≤1∧(1:Int)≤3
   omega
  ·show Gd ⟨3,sA,sc,[]⟩∧Gd ⟨3,lA,lc,wkO⟩
   exact⟨⟨by kernel_rfl,by kernel_rfl,by kernel_rfl,by kernel_rfl⟩,⟨by kernel_rfl,by kernel_rfl,by kernel_rfl,by kernel_rfl⟩⟩
  ·show dimsOk 3 3 1 1=true
   kernel_rfl
  ·show(0:Int)≤3∧(3:Int)≤65535
   omega
  ·show(0:Int)≤100∧(100:Int)≤1048576
   omega
 ·have:needW (wkH xA xc tA tc sA sc lA lc) (leastW (wkH xA xc tA tc sA sc lA lc))=19:=by kernel_rfl
  rw[this]
  show(19:Int)≤100
  omega
def wkL:List Mc.Act:=[(2,0),(1,1),(2,1),(1,1),(6,0),(3,1),(7,0),(4,1),(3,0),(7,0),(4,0)]
theorem be_1 (s:Nat):Ch.be s 1=s+1:=by
 induction s with
 | zero=>rfl
 | succ s ih=>rw[show(1:Nat)=0+1 from rfl,Ch.be_two,ih,Ch.be_zero]
theorem wk_sp (n c:Nat)(hn:n=2∨n=3)(hc:2≤c):(Ch.sp n c).toNat=1:=by
 have hr:1=Ch.rp n c:=Ch.rp_is (by omega) (by rw[be_1];omega) fun j hj=>by
  obtain rfl:j=0:=by omega
  rw[Ch.be_zero]
  omega
 obtain⟨m,e,h1,h2,h3,h4,h5,_⟩:=Ch.sp_facts n c hc (by omega) (by omega)
 rw[← hr,Nat.sub_self,Ch.be_zero] at h4
 rw[e]
 omega
theorem wk_rl:Rv.rl 3 41=wkL:=by
 unfold Rv.rl
 rw[if_neg (by omega)]
 unfold Rv.pt
 rw[if_neg (by omega),Rv.lp_more 2 3 41 _ _ _ (by omega),wk_sp 3 41 (.inr rfl) (by omega)]
 unfold Rv.pt
 rw[if_neg (by omega),Rv.lp_more 1 2 40 _ _ _ (by omega),wk_sp 2 40 (.inl rfl) (by omega)]
 kernel_rfl
theorem wk_fin (bd bp cp ba bw bs bm:Nat)(xA:Option Addr)(xc:Nat)(tA:Option Addr)(tc:Nat)(sA:Option Addr)(sc:Nat)(lA:Option Addr)(lc:Nat):
 (fun(D:Ds)=>(fun(S:Dy)=>(S.loss,S.get D 5,S.get D 6)) ((Dy.new D).acts D wkL)) ⟨bd,bp,cp,ba,bw,bs,bm,wkH xA xc tA tc sA sc lA lc⟩=(0,[9223372036854775808],[0]):=by kernel_rfl
theorem wk_run (D:Ds){xA:Option Addr}{xc:Nat}{tA:Option Addr}{tc:Nat}{sA:Option Addr}{sc:Nat}{lA:Option Addr}{lc:Nat}(hD:D.h=wkH xA xc tA tc sA sc lA lc)(hd:DsOk D):
 ∃ S',RnT nxO D 1 0 11 (Dy.new D) false 0 wkL S' false∧S'.pend=0∧S'.loss=0∧S'.get D 5=[9223372036854775808]∧S'.get D 6=[0]∧nxO S' false=none:=by
 obtain⟨bd,bp,cp,ba,bw,bs,bm,h⟩:=D
 obtain rfl:h=wkH xA xc tA tc sA sc lA lc:=hD
 have hn:Ds.n ⟨bd,bp,cp,ba,bw,bs,bm,wkH xA xc tA tc sA sc lA lc⟩=41:=by kernel_rfl
 have hr:=rnt_off _ 0 hd (show(1:Int)≠2 by omega)
 rw[hn] at hr
 have e3:Int.toNat (Hd.len (Ds.h ⟨bd,bp,cp,ba,bw,bs,bm,wkH xA xc tA tc sA sc lA lc⟩))=3:=rfl
 rw[e3,wk_rl] at hr
 obtain⟨h1,h2,_⟩:=hr
 have hf:=wk_fin bd bp cp ba bw bs bm xA xc tA tc sA sc lA lc
 simp only[Prod.mk.injEq] at hf
 generalize (Dy.new ⟨bd,bp,cp,ba,bw,bs,bm,wkH xA xc tA tc sA sc lA lc⟩).acts ⟨bd,bp,cp,ba,bw,bs,bm,wkH xA xc tA tc sA sc lA lc⟩ wkL=S' at *
 refine⟨S',h1,congrArg Mc.St.pend h2,hf.1,hf.2.1,hf.2.2,?_⟩
 have e:=Rv.end_ 3 (Ch.tt 3 41) 41
 have e1:nxO S' false=Rv.nm S'.mc.l S'.mc:=rfl
 rw[e1,h2]
 exact e
theorem nine' {i:Nat}(hi:i<9):i=0∨i=1∨i=2∨i=3∨i=4∨i=5∨i=6∨i=7∨i=8:=by omega
def exV (bx bt bs:Nat):Array Value:=#[.int .i64 1,.slice (some ⟨bx,0,none⟩) 1 1,.slice (some ⟨bt,0,none⟩) 1 1,.int .i64 3,.slice (some ⟨bs,0,none⟩) 1 1,.int .i64 2,.slice none 0 0,.int .i64 3,.int .i64 100]
def ExP (w:World)(e:Ending)(w':World):Prop:=∃ bx bt bs,e=.returned (.agg (exV bx bt bs))∧w'.cell? ⟨bx,0,none⟩=some (.int .u64 5)∧w'.cell? ⟨bt,0,none⟩=some (.int .u64 2)∧w.heap.size≤bx∧w.heap.size≤bt∧bx<w'.heap.size∧bt<w'.heap.size∧KW w w'
theorem third1 (w:World)(a b d:Obj)(v:Value)(t:TypeId):((((w.alloc a).alloc (.cells #[v] t)).alloc b).alloc d).cell? ⟨w.heap.size+1,0,none⟩=some v:=by
 rw[World.cell?_alloc_past _ _ _ (by simp<;>omega),World.cell?_alloc_past _ _ _ (by simp),World.cell?_alloc_at _ _ _ _ (by simp)]
 rfl
theorem third2 (w:World)(a b d:Obj)(v:Value)(t:TypeId):((((w.alloc a).alloc b).alloc (.cells #[v] t)).alloc d).cell? ⟨w.heap.size+1+1,0,none⟩=some v:=by
 rw[World.cell?_alloc_past _ _ _ (by simp),World.cell?_alloc_at _ _ _ _ (by simp)]
 rfl
theorem example34 (w:World):Calls Tryz.prog 36 #[] w (ExP w):=by
 unfold ExP
 go_enter Tryz.func36,Tryz.ntmps36
 go_wp2_with fail
 have hb1:=KW.alloc (KW.alloc (KW.alloc (KW.refl (w.alloc (.cells (exV (w.heap.size+1) (w.heap.size+1+1) (w.heap.size+1+1+1)) 27))) (.cells #[.int .u64 5] 81)) (.cells #[.int .u64 2] 81)) (.cells #[.int .i64 1,.int .i64 0,.int .i64 0,.int .i64 2,.int .u64 0] 83)
 have hB:=(Below.block hb1 w.heap.size (by simp)).trans (heap_alloc_new w _)
 exact bodyPost_ret (results_cell_row rfl _ _ _ _ _ (0,0) _ rfl hB Tryz.underlying27 rfl (by kernel_rfl)) rfl ⟨_,_,_,rfl,third1 _ _ _ _ _ _,third2 _ _ _ _ _ _,by omega,by omega,by simp<;>omega,by simp<;>omega,(((((KW.refl w).alloc _).alloc _).alloc _).alloc _)⟩
theorem same24 (a x y:Int)(A B A' B':Nat)(c d c' d':Nat)(w:World)(h1:w.cell? ⟨A,0,none⟩=some (.int .u64 x))(h2:w.cell? ⟨B,0,none⟩=some (.int .u64 y))(h3:w.cell? ⟨A',0,none⟩=some (.int .u64 x))(h4:w.cell? ⟨B',0,none⟩=some (.int .u64 y))
 (l1:A<w.heap.size) (l2:B<w.heap.size) (l3:A'<w.heap.size) (l4:B'<w.heap.size):
 Calls Tryz.prog 39 #[.agg #[.int .u64 a,.slice (some ⟨A,0,none⟩) 1 c,.slice (some ⟨B,0,none⟩) 1 d],.agg #[.int .u64 a,.slice (some ⟨A',0,none⟩) 1 c',.slice (some ⟨B',0,none⟩) 1 d']] w fun e w'=>e=.returned (.bool true)∧KW w w':=by
 have hk:=((KW.refl w).alloc (.cells #[.int .u64 a,.slice (some ⟨A,0,none⟩) 1 c,.slice (some ⟨B,0,none⟩) 1 d] 86)).alloc (.cells #[.int .u64 a,.slice (some ⟨A',0,none⟩) 1 c',.slice (some ⟨B',0,none⟩) 1 d'] 86)
 have HK:=hid hk
 have HC:Hid (∀ W,KW w W→W.cell? ⟨A,0,none⟩=some (.int .u64 x)∧W.cell? ⟨B,0,none⟩=some (.int .u64 y)∧W.cell? ⟨A',0,none⟩=some (.int .u64 x)∧W.cell? ⟨B',0,none⟩=some (.int .u64 y)):=hid fun W hW=>⟨(Below.cell hW l1).trans h1,(Below.cell hW l2).trans h2,(Below.cell hW l3).trans h3,(Below.cell hW l4).trans h4⟩
 clear hk h1 h2 h3 h4 l1 l2 l3 l4
 have hr1:(w.alloc (.cells #[.int .u64 a,.slice (some ⟨A,0,none⟩) 1 c,.slice (some ⟨B,0,none⟩) 1 d] 86)).rowIs w.heap.size 86 3 (fun i=>[.int .u64 a,.slice (some ⟨A,0,none⟩) 1 c,.slice (some ⟨B,0,none⟩) 1 d].getD i undef):=
  World.rowIs_alloc w #[.int .u64 a,.slice (some ⟨A,0,none⟩) 1 c,.slice (some ⟨B,0,none⟩) 1 d] 86 _ fun i hi=>by
   simp at hi
   rcases(show i=0∨i=1∨i=2 by omega) with rfl|rfl|rfl<;>rfl
 have hr2:((w.alloc (.cells #[.int .u64 a,.slice (some ⟨A,0,none⟩) 1 c,.slice (some ⟨B,0,none⟩) 1 d] 86)).alloc (.cells #[.int .u64 a,.slice (some ⟨A',0,none⟩) 1 c',.slice (some ⟨B',0,none⟩) 1 d'] 86)).rowIs (w.heap.size+1) 86 3 (fun i=>[.int .u64 a,.slice (some ⟨A',0,none⟩) 1 c',.slice (some ⟨B',0,none⟩) 1 d'].getD i undef):=by
  have h:=World.rowIs_alloc (w.alloc (.cells #[.int .u64 a,.slice (some ⟨A,0,none⟩) 1 c,.slice (some ⟨B,0,none⟩) 1 d] 86)) #[.int .u64 a,.slice (some ⟨A',0,none⟩) 1 c',.slice (some ⟨B',0,none⟩) 1 d'] 86 (fun i=>[.int .u64 a,.slice (some ⟨A',0,none⟩) 1 c',.slice (some ⟨B',0,none⟩) 1 d'].getD i undef) fun i hi=>by
   simp at hi
   rcases(show i=0∨i=1∨i=2 by omega) with rfl|rfl|rfl<;>rfl
  rw[show(w.alloc (.cells #[.int .u64 a,.slice (some ⟨A,0,none⟩) 1 c,.slice (some ⟨B,0,none⟩) 1 d] 86)).heap.size=w.heap.size+1 by simp] at h
  exact h
 have HR1:=hid (KW.row ((KW.refl _).alloc (.cells #[.int .u64 a,.slice (some ⟨A',0,none⟩) 1 c',.slice (some ⟨B',0,none⟩) 1 d'] 86)) hr1.lt hr1)
 have HR2:=hid hr2
 clear hr1 hr2
 go_enter Tryz.func39,Tryz.ntmps39
 go_wp2_with fail
 generalize (w.alloc (.cells #[.int .u64 a,.slice (some ⟨A,0,none⟩) 1 c,.slice (some ⟨B,0,none⟩) 1 d] 86)).alloc (.cells #[.int .u64 a,.slice (some ⟨A',0,none⟩) 1 c',.slice (some ⟨B',0,none⟩) 1 d'] 86)=w2 at *
 have HCC:Hid (∀ W,KW w2 W→W.cell? ⟨A,0,none⟩=some (.int .u64 x)∧W.cell? ⟨B,0,none⟩=some (.int .u64 y)∧W.cell? ⟨A',0,none⟩=some (.int .u64 x)∧W.cell? ⟨B',0,none⟩=some (.int .u64 y) ∧
  W.cell? ⟨w.heap.size,1,none⟩=some (.slice (some ⟨A,0,none⟩) 1 c)∧W.cell? ⟨w.heap.size,2,none⟩=some (.slice (some ⟨B,0,none⟩) 1 d)∧W.cell? ⟨w.heap.size+1,1,none⟩=some (.slice (some ⟨A',0,none⟩) 1 c')∧W.cell? ⟨w.heap.size+1,2,none⟩=some (.slice (some ⟨B',0,none⟩) 1 d')):=hid fun W hW=>by
  obtain⟨q1,q2,q3,q4⟩:=HC.out W (HK.out.t hW)
  have r1:=KW.row hW HR1.out.lt HR1.out
  have r2:=KW.row hW HR2.out.lt HR2.out
  exact⟨q1,q2,q3,q4,r1.cell (i:=1) (by omega),r1.cell (i:=2) (by omega),r2.cell (i:=1) (by omega),r2.cell (i:=2) (by omega)⟩
 have HZ:Hid (KW w2 w2):=hid (KW.refl w2)
 clear HC HR1 HR2
 go_loopw [5] (fun i wr=>∃ q:Nat,q≤1∧i=.int .i64 q∧Hid (KW w2 wr)) (fun i _=>1 - (intOf i).toNat)
 case atStart=>exact⟨0,by omega,rfl,HZ⟩
 case round=>
  obtain⟨q,hq,rfl,HKr⟩:=hrel
  obtain⟨q1,q2,q3,q4,q5,q6,q7,q8⟩:=HCC.out _ HKr.out
  rcases(show q=0∨q=1 by omega) with rfl|rfl
  ·go_wp2_with fail
   obtain⟨d1,d2,d3,d4,d5,d6,d7,d8⟩:=HCC.out _ HKr.out.drew
   go_region
   have HKr2:=hid HKr.out.drew
   go_wp2_with fail
   go_roundw
   case rel=>exact⟨1,by omega,rfl,HKr2⟩
   case measure=>simp[intOf]
  ·go_wp2_with fail
   try simp only[Exit.inBlock]
   go_wp2_with fail
   clear q1 q2 q3 q4 q5 q6 q7 q8
   go_loopw [6] (fun i wr=>∃ q:Nat,q≤1∧i=.int .i64 q∧Hid (KW w2 wr)) (fun i _=>1 - (intOf i).toNat)
   case atStart=>exact⟨0,by omega,rfl,HKr⟩
   case round=>
    obtain⟨q,hq,rfl,HKs⟩:=hrel
    obtain⟨q1,q2,q3,q4,q5,q6,q7,q8⟩:=HCC.out _ HKs.out
    rcases(show q=0∨q=1 by omega) with rfl|rfl
    ·go_wp2_with fail
     obtain⟨d1,d2,d3,d4,d5,d6,d7,d8⟩:=HCC.out _ HKs.out.drew
     go_region
     have HKs2:=hid HKs.out.drew
     go_wp2_with fail
     go_roundw
     case rel=>exact⟨1,by omega,rfl,HKs2⟩
     case measure=>simp[intOf]
    ·go_wp2_with fail
     try simp only[Exit.inBlock]
     go_wp2_with fail
     go_ret
     exact⟨rfl,HK.out.t HKs.out⟩
theorem eoffline (be:Nat)(F:FuncId)(D:Ds)(S:Dy)(b:Bool)(w:World)(h:EnM w be F D S b):
 Calls Tryz.prog 106 #[.pointer (some ⟨be,0,none⟩)] w (AnsP w (Rv.rv S.l S.at_ S.pend S.tags)):=by
 have hk0:=(KW.refl w).alloc (.cells #[.int .i64 0,.int .i64 0] 55)
 have HLe:=hid (elen be F D S b _ (h.kw hk0))
 have HSp:=hid (espot be F D S b _ (h.kw hk0))
 have HNx:=hid (fun W v (hv:RTz W v S.tags)=>rvnext_any S.l S.at_ S.pend S.tags v W hv)
 have HA0:=hid (act2_row w 0 0)
 have HK0:=hid hk0
 unfold AnsP at *
 generalize Rv.rv S.l S.at_ S.pend S.tags=r at *
 generalize (r.getD (0,0)).1=k at *
 generalize (r.getD (0,0)).2=n at *
 generalize r.isSome=q at *
 clear h hk0
 go_enter Tryz.func106,Tryz.ntmps106
 go_wp2_with fail
 refine HLe.out.mono ?_
 rintro e w1 ⟨rfl,rfl⟩
 go_wp2_with fail
 refine HSp.out.mono ?_
 rintro e w2 ⟨v,rfl,ho2,hk2⟩
 have hz2:RTz w2 v S.tags:=Owns.rtz ho2
 obtain⟨A2,c2,rfl,_⟩:=ho2.row
 have HN2:=hid (HNx.out w2 _ hz2)
 have HK2:=hid (HK0.out.t hk2)
 have HA2:=hid (KW.row hk2 HA0.out.lt HA0.out)
 clear ho2 hk2 hz2 HNx HSp HLe HA0 HK0
 generalize (ivs S.tags).length=N at *
 go_wp2_with fail
 refine HN2.out.mono ?_
 rintro e w3 ⟨rfl,hk3⟩
 have HK3:=hid (HK2.out.t hk3)
 have HA3:=hid (KW.row hk3 HA2.out.lt HA2.out)
 clear hk3 HN2 HA2 HK2
 go_wp2_with (refine store_row rfl rfl rfl rfl HA3.out (by kernel_rfl) rfl (fun i hi=>?_) ?_)
 ·rcases(show i=0∨i=1 by have:i<2:=hi;omega) with rfl|rfl<;>rfl
 intro W4 hb4 hkeep
 have HB4:=hid hb4
 have HK4:Hid (KW w W4):=hid (HK3.out.kept hkeep fun i e=>by omega)
 clear hb4 hkeep HA3
 go_wp2_with fail
 exact bodyPost_ret (results_cell_tmp rfl _ _ _ _ _ (0,0) _ rfl HB4.out Tryz.underlying55 rfl (by kernel_rfl)) rfl ⟨rfl,HK4.out⟩
theorem nx_off (be:Nat)(D:Ds)(S:Dy)(b:Bool):NxP be 106 D S b (Rv.rv S.l S.at_ S.pend S.tags):=⟨fun args W=>by kernel_rfl,fun W h=>eoffline be _ D S b W h⟩
def wkHd (bx bt bo:Nat):Hd:=wkH (some ⟨bx,0,none⟩) 1 (some ⟨bt,0,none⟩) 1 none 0 (some ⟨bo,0,none⟩) 4
theorem nx_wk (D:Ds)(be:Nat)(S:Dy)(b:Bool):NxP be (enF 1) D S b (nxO S b):=nx_off be D S b
theorem opsM_wk (w:World):OpsM (w.alloc (.cells #[.int .i64 3,.int .i64 2,.int .i64 0,.int .i64 0,.int .u64 0,.int .i64 1,.int .i64 0,.int .i64 0,.int .i64 2,.int .u64 0,.int .i64 5,.int .i64 2,.int .i64 0,.int .i64 0,.int .u64 9223372036854775808,.int .i64 3,.int .i64 0,.int .i64 0,.int .i64 2,.int .u64 0] 83)) (some ⟨w.heap.size,0,none⟩) wkO:=by
 intro _
 refine⟨_,0,rfl,by simp,fun k hk=>?_⟩
 have hk:k<4:=hk
 rcases(show k=0∨k=1∨k=2∨k=3 by omega) with rfl|rfl|rfl|rfl <;>
  (refine⟨?_,?_,?_,?_,?_⟩<;>(rw[World.cell?_alloc_at _ _ _ _ rfl];rfl))
theorem hdM_wk {w:World}{bx bt bo:Nat}(hx:w.cell? ⟨bx,0,none⟩=some (.int .u64 5))(ht:w.cell? ⟨bt,0,none⟩=some (.int .u64 2))(lx:bx<w.heap.size)(lt:bt<w.heap.size)(ho:OpsM w (some ⟨bo,0,none⟩) wkO):HdM w (wkHd bx bt bo):=by
 refine⟨⟨fun h=>absurd h (Nat.lt_irrefl 0),Nat.zero_le _,fun o h=>absurd h (by simp[wkHd,wkH])⟩,⟨ho,show 4≤1048576 by omega,fun o h=>?_⟩,fun h=>⟨bx,0,rfl,lx,fun k hk=>?_⟩,fun h=>⟨bt,0,rfl,lt,fun k hk=>?_⟩,show 1≤1048576 by omega,show 1≤1048576 by omega,fun h=>absurd h (by simp[wkHd,wkH]),fun h=>absurd h (by simp[wkHd,wkH])⟩
 ·have h:o∈wkO:=h
  simp only[wkO,List.mem_cons,List.not_mem_nil,or_false] at h
  rcases h with rfl|rfl|rfl|rfl<;>exact⟨by decide,by decide⟩
 ·have hk:k<1:=hk
  obtain rfl:k=0:=by omega
  exact hx
 ·have hk:k<1:=hk
  obtain rfl:k=0:=by omega
  exact ht
theorem own1 {w:World}{base c:Nat}{A:Option Addr}{x:Int}(h:Owns w base 81 (.slice A 1 c) (u64s [x])):∃ b,A=some ⟨b,0,none⟩∧b<w.heap.size∧w.cell? ⟨b,0,none⟩=some (.int .u64 x):=by
 obtain⟨A',c',hv,_,hA,hr⟩:=h.row
 cases hv
 obtain⟨b,rfl,_,hb⟩:=hA (by simp[u64s])
 obtain⟨b',off,e,_,hc⟩:=hr (by simp[u64s])
 cases e
 exact⟨b,rfl,hb,hc 0 (by simp[u64s])⟩
def wkF (bx bt:Nat)(s:Value)(m:Int)(o:Value):Nat→Value
 | 0=>.int .i64 1
 | 1=>.slice (some ⟨bx,0,none⟩) 1 1
 | 2=>.slice (some ⟨bt,0,none⟩) 1 1
 | 3=>.int .i64 3
 | 4=>s
 | 5=>.int .i64 m
 | 6=>o
 | 7=>.int .i64 3
 | _=>.int .i64 100
theorem wakes_any (w:World):Calls Tryz.prog 8 #[] w fun e w'=>e=.returned (.bool true)∧KW w w':=by
 have HEx:=hid (example34 w)
 unfold ExP exV at HEx
 go_enter Tryz.func8,Tryz.ntmps8
 go_wp2_with fail
 refine HEx.out.mono ?_
 rintro e w1 ⟨bx,bt,bs,rfl,hcx,hct,_,_,hlx,hlt,hk1⟩
 go_upto_region 2 with(fail)
 have hr0:(w1.alloc (.cells (exV bx bt bs) 27)).rowIs w1.heap.size 27 9 (wkF bx bt (.slice (some ⟨bs,0,none⟩) 1 1) 2 (.slice none 0 0)):=
  World.rowIs_alloc w1 (exV bx bt bs) 27 _ fun i hi=>by
   rcases nine' hi with rfl|rfl|rfl|rfl|rfl|rfl|rfl|rfl|rfl<;>rfl
 have hkA:=(KW.refl w1).alloc (.cells (exV bx bt bs) 27)
 have HCA:Hid (∀ W,KW w1 W→W.cell? ⟨bx,0,none⟩=some (.int .u64 5)∧W.cell? ⟨bt,0,none⟩=some (.int .u64 2)∧bx<W.heap.size∧bt<W.heap.size):=hid fun W hW=>⟨(Below.cell hW hlx).trans hcx,(Below.cell hW hlt).trans hct,Nat.lt_of_lt_of_le hlx hW.size,Nat.lt_of_lt_of_le hlt hW.size⟩
 have HR0:=hid hr0
 have HKA:=hid hkA
 have HK1:=hid hk1
 have hg1:w1.heap.size<(w1.alloc (.cells (exV bx bt bs) 27)).heap.size:=by simp
 have HG1:=hid hg1
 clear hr0 hkA hcx hct hlx hlt HEx hk1 hg1
 unfold exV at HR0 HKA HG1
 generalize w1.alloc (.cells #[.int .i64 1,.slice (some ⟨bx,0,none⟩) 1 1,.slice (some ⟨bt,0,none⟩) 1 1,.int .i64 3,.slice (some ⟨bs,0,none⟩) 1 1,.int .i64 2,.slice none 0 0,.int .i64 3,.int .i64 100] 27)=wA at *
 obtain⟨g,hg⟩:∃ g,w1.heap.size=g:=⟨_,rfl⟩
 have HGe:=hid hg
 rw[hg] at HR0 HG1 ⊢
 clear hg
 have c3:wA.cell? ⟨g,3,none⟩=some (.int .i64 3):=HR0.out.cell (i:=3) (by omega)
 have f3:=HR0.out.frozen 3
 have hr3:=HR0.out.set 3 (.int .i64 3)
 have c4:(wA.setCell ⟨g,3,none⟩ (.int .i64 3)).cell? ⟨g,4,none⟩=some (.slice (some ⟨bs,0,none⟩) 1 1):=hr3.cell (i:=4) (by omega)
 have f4:=hr3.frozen 4
 clear hr3
 go_upto_region 3 with(fail)
 have hrB:((wA.setCell ⟨g,3,none⟩ (.int .i64 3)).setCell ⟨g,4,none⟩ (.slice none 0 0)).rowIs g 27 9 (wkF bx bt (.slice none 0 0) 2 (.slice none 0 0)):=
  ((HR0.out.set 3 (.int .i64 3)).set 4 (.slice none 0 0)).congr fun i hi=>by
    rcases nine' hi with rfl|rfl|rfl|rfl|rfl|rfl|rfl|rfl|rfl<;>rfl
 have hkB:KW w1 ((wA.setCell ⟨g,3,none⟩ (.int .i64 3)).setCell ⟨g,4,none⟩ (.slice none 0 0)):=HKA.out.kept (((Keep.refl (· = g) wA).setCell ⟨g,3,none⟩ (.int .i64 3) rfl).setCell ⟨g,4,none⟩ (.slice none 0 0) rfl) fun i hi=>by have:=HGe.out;omega
 have HRB:=hid hrB
 have HKB:=hid hkB
 clear hrB hkB HR0 HKA HG1 c3 f3 c4 f4
 generalize (wA.setCell ⟨g,3,none⟩ (.int .i64 3)).setCell ⟨g,4,none⟩ (.slice none 0 0)=wB at *
 have hgB:g<wB.heap.size:=HRB.out.lt
 have c5:wB.cell? ⟨g,5,none⟩=some (.int .i64 2):=HRB.out.cell (i:=5) (by omega)
 have f5:=HRB.out.frozen 5
 have hr5:=HRB.out.set 5 (.int .i64 3)
 have c6:(wB.setCell ⟨g,5,none⟩ (.int .i64 3)).cell? ⟨g,6,none⟩=some (.slice none 0 0):=hr5.cell (i:=6) (by omega)
 have f6:=hr5.frozen 6
 clear hr5
 go_upto_region 4 with(fail)
 clear c5 f5 c6 f6
 have hrC:(((wB.setCell ⟨g,5,none⟩ (.int .i64 3)).setCell ⟨g,6,none⟩ (.slice (some ⟨wB.heap.size,0,none⟩) 4 4))).rowIs g 27 9 (wkF bx bt (.slice none 0 0) 3 (.slice (some ⟨wB.heap.size,0,none⟩) 4 4)):=
  ((HRB.out.set 5 (.int .i64 3)).set 6 (.slice (some ⟨wB.heap.size,0,none⟩) 4 4)).congr fun i hi=>by
    rcases nine' hi with rfl|rfl|rfl|rfl|rfl|rfl|rfl|rfl|rfl<;>rfl
 have hkC:KW w1 ((wB.setCell ⟨g,5,none⟩ (.int .i64 3)).setCell ⟨g,6,none⟩ (.slice (some ⟨wB.heap.size,0,none⟩) 4 4)):=HKB.out.kept (((Keep.refl (· = g) wB).setCell ⟨g,5,none⟩ (.int .i64 3) rfl).setCell ⟨g,6,none⟩ (.slice (some ⟨wB.heap.size,0,none⟩) 4 4) rfl) fun i hi=>by have:=HGe.out;omega
 have hsz:((wB.setCell ⟨g,5,none⟩ (.int .i64 3)).setCell ⟨g,6,none⟩ (.slice (some ⟨wB.heap.size,0,none⟩) 4 4)).heap.size=wB.heap.size:=by simp
 have HSz:=hid hsz
 have HRC:=hid hrC
 have HKC:=hid hkC
 clear hrC hkC hsz HRB HKB
 generalize (wB.setCell ⟨g,5,none⟩ (.int .i64 3)).setCell ⟨g,6,none⟩ (.slice (some ⟨wB.heap.size,0,none⟩) 4 4)=wC at *
 obtain⟨bo,hbo⟩:∃ bo,wB.heap.size=bo:=⟨_,rfl⟩
 rw[hbo] at HSz HRC ⊢
 have hkD:=(KW.refl wC).alloc (.cells #[.int .i64 3,.int .i64 2,.int .i64 0,.int .i64 0,.int .u64 0,.int .i64 1,.int .i64 0,.int .i64 0,.int .i64 2,.int .u64 0,.int .i64 5,.int .i64 2,.int .i64 0,.int .i64 0,.int .u64 9223372036854775808,.int .i64 3,.int .i64 0,.int .i64 0,.int .i64 2,.int .u64 0] 83)
 have hrD:=KW.row hkD HRC.out.lt HRC.out
 have hOD:=opsM_wk wC
 rw[HSz.out] at hOD
 have HKD:=hid (HKC.out.t hkD)
 have HOD:=hid hOD
 have HRD:=hid hrD
 clear hkD hrD hOD hgB hbo HRC HKC HSz
 generalize wC.alloc (.cells #[.int .i64 3,.int .i64 2,.int .i64 0,.int .i64 0,.int .u64 0,.int .i64 1,.int .i64 0,.int .i64 0,.int .i64 2,.int .u64 0,.int .i64 5,.int .i64 2,.int .i64 0,.int .i64 0,.int .u64 9223372036854775808,.int .i64 3,.int .i64 0,.int .i64 0,.int .i64 2,.int .u64 0] 83)=wD at *
 obtain⟨qx,qt,lx,lt⟩:=HCA.out wD HKD.out
 have HHd:=hid (hdM_wk qx qt lx lt HOD.out)
 have HNw:Hid (Calls Tryz.prog 24 #[.agg #[.int .i64 1,.slice (some ⟨bx,0,none⟩) 1 1,.slice (some ⟨bt,0,none⟩) 1 1,.int .i64 3,.slice none 0 0,.int .i64 3,.slice (some ⟨bo,0,none⟩) 4 4,.int .i64 3,.int .i64 100]] wD fun e w'=>∃ be D xA xc tA tc sA sc lA lc,e=.returned (.tuple #[.pointer (some ⟨be,0,none⟩),.int .i64 0])∧D.h=(wkHd bx bt bo).at_ xA xc tA tc sA sc lA lc∧EnM w' be (enF 1) D (Dy.new D) false∧(∀ b,D.own b→wD.heap.size≤b)∧wD.heap.size≤be∧KW wD w'):=
  hid (enew (wkHd bx bt bo) wD HHd.out (wk_ok _ _ _ _ _ _ _ _) (show(1:Int)≠3 by omega))
 have b0:=HRD.out.cell (i:=0) (by omega)
 have b1:=HRD.out.cell (i:=1) (by omega)
 have b2:=HRD.out.cell (i:=2) (by omega)
 have b3:=HRD.out.cell (i:=3) (by omega)
 have b4:=HRD.out.cell (i:=4) (by omega)
 have b5:=HRD.out.cell (i:=5) (by omega)
 have b6:=HRD.out.cell (i:=6) (by omega)
 have b7:=HRD.out.cell (i:=7) (by omega)
 have b8:=HRD.out.cell (i:=8) (by omega)
 simp only[wkF] at b0 b1 b2 b3 b4 b5 b6 b7 b8
 have hbl:=HRD.out.lt
 clear qx qt lx lt
 go_wp2_with fail
 clear b0 b1 b2 b3 b4 b5 b6 b7 b8 hbl
 refine HNw.out.mono ?_
 rintro e w2 ⟨be,D,xA,xc,tA,tc,sA,sc,lA,lc,rfl,hDh,hE2,hown,hbe,hk2⟩
 have HOw:=hid hown
 have HK2:=hid (HKD.out.t hk2)
 have HDs:Hid (∀ b,D.own b→w1.heap.size≤b):=hid fun b hb=>Nat.le_trans HKD.out.size (hown b hb)
 obtain⟨S',hRn,hpd,hlo,h5,h6,hnn⟩:=wk_run D hDh hE2.dr.ds
 have HRu:=hid (erun nxO _ be D (Dy.new D) S' false 11 0 0 wkL w2 hE2 (fun S b=>nx_wk D be S b) hRn (dyI_new hE2.dr.ds) (bnd_new D) (by omega))
 have HDn:Hid (∀ W,EnM W be (enF 1) D S' false→Calls Tryz.prog 31 #[.pointer (some ⟨be,0,none⟩)] W fun e w'=>e=.returned (.bool true)∧KW W w'):=hid fun W hW=>by
  have h:=edone be _ D S' false (nxO S' false) W hW (nx_wk D be S' false)
  rw[hnn,hpd] at h
  exact h
 have HRs:Hid (∀ W,EnM W be (enF 1) D S' false→Calls Tryz.prog 38 #[.pointer (some ⟨be,0,none⟩)] W fun e w'=>∃ A B c d,e=.returned (.tuple #[.agg #[.int .u64 0,.slice A 1 c,.slice B 1 d],.int .i64 0])∧Owns w' W.heap.size 81 (.slice A 1 c) (u64s [9223372036854775808])∧Owns w' W.heap.size 81 (.slice B 1 d) (u64s [0])∧KW W w'):=hid fun W hW=>by
  have h:=eresult be _ D S' false W hW hpd
  unfold ResP at h
  rw[hlo,h5,h6] at h
  exact h
 clear hDh hE2 hown hbe hk2 hRn hpd hlo h5 h6 hnn HNw HHd HRD HOD
 go_wp2_with fail
 refine HRu.out.mono ?_
 rintro e w3 ⟨rfl,he3,hk3⟩
 have HE3:=hid he3
 have HK3:=hid (HK2.out.kept hk3 HDs.out)
 have HR3:=hid (HRs.out w3 he3)
 clear he3 hk3 HRu HRs
 go_wp2_with fail
 refine HR3.out.mono ?_
 rintro e w4 ⟨A,B,c,d,rfl,ho5,ho6,hk4⟩
 obtain⟨gA,rfl,lA4,cA⟩:=own1 ho5
 obtain⟨gB,rfl,lB4,cB⟩:=own1 ho6
 have HE4:=hid (HE3.out.kw hk4)
 have HK4:=hid (HK3.out.t hk4)
 have HC4:Hid (∀ W,KW w4 W→W.cell? ⟨gA,0,none⟩=some (.int .u64 9223372036854775808)∧W.cell? ⟨gB,0,none⟩=some (.int .u64 0)∧gA<W.heap.size∧gB<W.heap.size):=hid fun W hW=>⟨(Below.cell hW lA4).trans cA,(Below.cell hW lB4).trans cB,Nat.lt_of_lt_of_le lA4 hW.size,Nat.lt_of_lt_of_le lB4 hW.size⟩
 clear ho5 ho6 hk4 lA4 lB4 cA cB HR3
 go_upto_region 9 with(fail)
 have hk5:=(KW.refl w4).alloc (.cells #[.int .u64 0,.slice (some ⟨gA,0,none⟩) 1 c,.slice (some ⟨gB,0,none⟩) 1 d] 86)
 have hr5:(w4.alloc (.cells #[.int .u64 0,.slice (some ⟨gA,0,none⟩) 1 c,.slice (some ⟨gB,0,none⟩) 1 d] 86)).rowIs w4.heap.size 86 3 (fun i=>[.int .u64 0,.slice (some ⟨gA,0,none⟩) 1 c,.slice (some ⟨gB,0,none⟩) 1 d].getD i undef):=
  World.rowIs_alloc w4 #[.int .u64 0,.slice (some ⟨gA,0,none⟩) 1 c,.slice (some ⟨gB,0,none⟩) 1 d] 86 _ fun i hi=>by
   simp at hi
   rcases(show i=0∨i=1∨i=2 by omega) with rfl|rfl|rfl<;>rfl
 have HR5:=hid hr5
 have HK5:=hid (HK4.out.t hk5)
 have HC5:Hid (∀ W,KW (w4.alloc (.cells #[.int .u64 0,.slice (some ⟨gA,0,none⟩) 1 c,.slice (some ⟨gB,0,none⟩) 1 d] 86)) W→W.cell? ⟨gA,0,none⟩=some (.int .u64 9223372036854775808)∧W.cell? ⟨gB,0,none⟩=some (.int .u64 0)∧gA<W.heap.size∧gB<W.heap.size):=hid fun W hW=>HC4.out W (hk5.t hW)
 have HD5:=hid (HDn.out _ (HE4.out.kw hk5))
 clear hk5 hr5 HE4 HK4 HC4 HDn
 generalize hgw:w4.alloc (.cells #[.int .u64 0,.slice (some ⟨gA,0,none⟩) 1 c,.slice (some ⟨gB,0,none⟩) 1 d] 86)=w5 at *
 clear hgw
 obtain⟨g6,hg6⟩:∃ g6,w4.heap.size=g6:=⟨_,rfl⟩
 rw[hg6] at HR5 ⊢
 clear hg6
 go_wp2_with fail
 refine HD5.out.mono ?_
 rintro e w6 ⟨rfl,hk6⟩
 have hr6:=KW.row hk6 HR5.out.lt HR5.out
 have a0:w6.cell? ⟨g6,0,none⟩=some (.int .u64 0):=hr6.cell (i:=0) (by omega)
 have a1:w6.cell? ⟨g6,1,none⟩=some (.slice (some ⟨gA,0,none⟩) 1 c):=hr6.cell (i:=1) (by omega)
 have a2:w6.cell? ⟨g6,2,none⟩=some (.slice (some ⟨gB,0,none⟩) 1 d):=hr6.cell (i:=2) (by omega)
 have al:=hr6.lt
 have hk7:=((KW.refl w6).alloc (.cells #[.int .u64 9223372036854775808] 81)).alloc (.cells #[.int .u64 0] 81)
 obtain⟨q1,q2,l1,l2⟩:=HC5.out _ (hk6.t hk7)
 have HSm:=hid (same24 0 9223372036854775808 0 gA gB w6.heap.size (w6.heap.size+1) c d 1 1 _ q1 q2 (by rw[World.cell?_alloc_past _ _ _ (by simp),World.cell?_alloc_at _ _ _ _ rfl];rfl) (by rw[World.cell?_alloc_at _ _ _ _ (by simp)];rfl) l1 l2 (by simp<;>omega) (by simp<;>omega))
 have HK7:=hid (HK5.out.t (hk6.t hk7))
 clear hk6 hr6 hk7 q1 q2 l1 l2 HC5 HK5 HR5 HD5
 go_wp2_with fail
 refine HSm.out.mono ?_
 rintro e w8 ⟨rfl,hk8⟩
 have HK8:=hid (HK7.out.t hk8)
 clear hk8 HSm HK7 a0 a1 a2
 go_wp2_with fail
 go_ret
 exact⟨rfl,HK1.out.t HK8.out⟩
def RanP (nx:Dy→Bool→Option Mc.Act)(h:Hd)(l:Int)(T:Nat)(L:List Mc.Act)(b':Bool)(w:World)(e:Ending)(w':World):Prop:=
 ∃ be D S' v,(∃ xA xc tA tc sA sc lA lc,D.h=h.at_ xA xc tA tc sA sc lA lc)∧RnT nx D h.mode l T (Dy.new D) false 0 L S' b'∧e=.returned (.tuple #[.pointer (some ⟨be,0,none⟩),v,.bool (decide (S'.pend=0))])∧OwnsA w' w.heap.size v L∧EnM w' be (enF h.mode) D S' b'∧DyI D S'∧(∀ b,D.own b→w.heap.size≤b)∧w.heap.size≤be∧KW w w'
theorem ran_any (nx:Dy→Bool→Option Mc.Act)(h:Hd)(l:Int)(T:Nat)(L:List Mc.Act)(b':Bool)(w:World)(hM:HdM w h)(hp:PlOk h)(hm3:h.mode≠3)(hT:T<20000)
 (hx:∀ be D S b,NxP be (enF h.mode) D S b (nx S b)) (hR:∀ D,(∃ xA xc tA tc sA sc lA lc,D.h=h.at_ xA xc tA tc sA sc lA lc)→DsOk D→∃ S',RnT nx D h.mode l T (Dy.new D) false 0 L S' b'):
 Calls Tryz.prog 9 #[.agg h.v,.int .i64 l] w (RanP nx h l T L b' w):=by
 have hk0:=(KW.refl w).alloc (.cells h.v 27)
 have HNw:=hid (enew h _ (hM.kw hk0) hp hm3)
 have HK0:Hid (KW w (w.alloc (.cells #[.int .i64 h.mode,.slice h.xA h.xs.length h.xc,.slice h.tA h.ts.length h.tc,.int .i64 h.st.n,.slice h.st.A h.st.l.length h.st.c,.int .i64 h.lo.n,.slice h.lo.A h.lo.l.length h.lo.c,.int .i64 h.len,.int .i64 h.words] 27))):=hid hk0
 have hs0:(w.alloc (.cells h.v 27)).heap.size=w.heap.size+1:=by simp
 rw[hs0] at HNw
 have HX:=hid hx
 have HR:=hid hR
 unfold RanP
 clear hk0 hs0 hM hp hm3 hx hR
 unfold Hd.v hdv at *
 go_enter Tryz.func9,Tryz.ntmps9
 go_wp2_with fail
 refine HNw.out.mono ?_
 rintro e w1 ⟨be,D,xA,xc,tA,tc,sA,sc,lA,lc,rfl,hD,hE,hown,hbe,hk1⟩
 have HDe:=hid hD
 have HE1:=hid hE
 have HOw:Hid (∀ b,D.own b→w.heap.size≤b):=hid fun b hb=>Nat.le_of_succ_le (hown b hb)
 have HBe:Hid (w.heap.size≤be):=hid (Nat.le_of_succ_le hbe)
 have HK1:=hid (HK0.out.t hk1)
 obtain⟨S',hRn⟩:=HR.out D ⟨_,_,_,_,_,_,_,_,hD⟩ hE.dr.ds
 have HRn:=hid hRn
 have HI:=hid (dyI_new hE.dr.ds)
 have hk2:=(KW.refl w1).alloc (.cells #[] 55)
 have HE2:=hid (HE1.out.kw hk2)
 have HK2:=hid (HK1.out.t hk2)
 have hsz1:=HK1.out.size
 have hO2:OwnsA (w1.alloc (.cells #[] 55)) w.heap.size (.slice (some ⟨w1.heap.size,0,none⟩) 0 0) []:=
  ⟨rfl,.inr ⟨w1.heap.size,0,#[],rfl,hsz1,heap_alloc_new w1 _,Nat.le_refl _,Nat.zero_le _,rfl,rfl⟩⟩
 have HO2:=hid hO2
 have hnb:∀ b,D.own b∨b=be→b≠w1.heap.size:=fun b hb e=>by
  have h1:=hE.row.lt
  rcases hb with hb|hb
  ·exact hE.dr.low.own (Nat.le_of_eq e.symm) hb
  ·omega
 have HNb:=hid hnb
 have hl1:=hE.dr.low
 have hbe1:be<w1.heap.size:=hE.row.lt
 have HLow:=hid hl1
 have hmD:D.h.mode=h.mode:=by rw[hD];rfl
 have HMD:=hid hmD
 clear hD hE hown hbe hk1 hRn hk2 HNw HR HK0 HK1 HE1 hnb HO2 hl1 hmD HNb
 generalize hK1:w1.heap.size=K1 at *
 have HO2:Hid (OwnsA (w1.alloc (.cells #[] 55)) K1 (.slice (some ⟨K1,0,none⟩) 0 0) []):=hid ⟨rfl,.inr ⟨K1,0,#[],rfl,Nat.le_refl _,by rw[← hK1];exact heap_alloc_new w1 _,Nat.le_refl _,Nat.zero_le _,rfl,rfl⟩⟩
 clear hO2
 have hK1':w1.heap.size=K1:=hK1
 clear hK1
 have hsK:K1≤(w1.alloc (.cells #[] 55)).heap.size:=by simp;omega
 go_wp2_with fail
 try rw[hK1']
 generalize w1.alloc (.cells #[] 55)=w2 at *
 clear hK1'
 go_loopw [9,10,11] (fun v fd tn wr=>∃ (q t fed:Nat) (Sq:Dy) (b:Bool) (L1 L2:List Mc.Act),q+t=T∧tn=.int .i64 q∧fd=.int .i64 fed∧fed≤q∧L1.length≤q∧K1≤wr.heap.size∧Hid (L=L1++L2)∧Hid (OwnsA wr K1 v L1)∧Hid (RnT nx D h.mode l t Sq b fed L2 S' b')∧Hid (EnM wr be (enF h.mode) D Sq b)∧Hid (DyI D Sq)∧Hid (Bnd Sq q)∧Hid (KW w wr)) (fun _ _ tn _=>T - (intOf tn).toNat)
 case atStart=>exact⟨0,T,0,Dy.new D,false,[],L,by omega,rfl,rfl,Nat.le_refl _,Nat.le_refl _,hsK,rfl,HO2,HRn,HE2,HI,hid (bnd_new D),HK2⟩
 case round=>
  obtain⟨q,t,fed,Sq,b,L1,L2,hqt,rfl,rfl,hfq,hlq,hKr,HL,HOr,HRr,HEr,HIr,HBr,HKr⟩:=hrel
  have L20:(q:Int)<20000:=by omega
  obtain⟨Av,cv,rfl,_,_⟩:=HOr.out.slice
  have HOB:Hid (∀ b,(Value.slice Av L1.length cv).ownBlock=some b→K1≤b):=hid fun b hb=>(HOr.out.lt hb).1
  cases t with
  | zero=>
    obtain⟨rfl,rfl,rfl,hnx,hw⟩:=HRr.out
    have HX1:=hid (HX.out be D S' b')
    rw[hnx] at HX1
    have HSt:=hid (estep_none be _ D S' b' wr HEr.out HX1.out)
    go_wp2_with fail
    refine HSt.out.mono ?_
    rintro e w3 ⟨rfl,hk3⟩
    have hk3':=hk3.alloc (.cells #[.int .i64 0,.int .i64 0] 55)
    have HE3:=hid (HEr.out.kw hk3')
    have HO3:=hid (HOr.out.kw hk3')
    have HK3:=hid (HKr.out.t hk3')
    have HW3:=hid (ewaits be _ D S' b' none _ HE3.out HX1.out)
    have hwf:(!(none:Option Mc.Act).isSome&&decide (D.h.mode=2) && !b')=false:=by
     rw[HMD.out]
     rcases hw with h|h
     ·rw[decide_eq_false h];rfl
     ·rw[h];simp
    rw[hwf] at HW3
    clear hk3 hk3' HSt hwf
    go_wp2_with fail
    refine HW3.out.mono ?_
    rintro e w4 ⟨rfl,hk4⟩
    have HE4:=hid (HE3.out.kw hk4)
    have HO4:=hid (HO3.out.kw hk4)
    have HK4:=hid (HK3.out.t hk4)
    have HDn:=hid (edone be _ D S' b' none w4 HE4.out HX1.out)
    clear hk4 HW3 HE3 HO3 HK3
    go_wp2_with fail
    refine HDn.out.mono ?_
    rintro e w5 ⟨rfl,hk5⟩
    have HE5:=hid (HE4.out.kw hk5)
    have HO5:=hid (HO4.out.kw hk5)
    have HK5:=hid (HK4.out.t hk5)
    clear hk5 HDn HE4 HO4 HK4
    go_wp2_with fail
    go_ret3
    exact⟨be,D,S',_,⟨xA,xc,tA,tc,sA,sc,lA,lc,HDe.out⟩,HRn.out,rfl,by rw[HL.out,List.append_nil];exact HO5.out.base hsz1,HE5.out,HIr.out,HOw.out,HBe.out,HK5.out⟩
  | succ t=>
    rcases HRr.out with⟨k,n,L',rfl,hnx,hst,hrn⟩|⟨hnx,hm2,rfl,hfl,hpn,hll,hrn⟩|⟨hnx,hm2,rfl,hfl,hrn⟩
    ·have HX1:=hid (HX.out be D Sq b)
     rw[hnx] at HX1
     have HSt:=hid (estep_some be _ D Sq b k n wr HEr.out HX1.out HIr.out (HBr.out.small (by omega)) hst)
     have HI2:=hid (HIr.out.act hst).inv
     have HB2:=hid (HBr.out.act HIr.out hst)
     have HRn2:=hid hrn
     clear hnx hst hrn HX1 HRr
     go_wp2_with fail
     refine HSt.out.mono ?_
     rintro e w3 ⟨rfl,he3,hk3⟩
     have hk4:=((KW.refl w3).alloc (.cells #[.int .i64 k,.int .i64 n] 55)).alloc (.cells #[.int .i64 k,.int .i64 n] 55)
     have HE4:=hid (he3.kw hk4)
     have HO4:=hid ((HOr.out.keep hk3 fun b hb e=>HLow.out.own (HOB.out b hb) e).kw hk4)
     have HK4:=hid ((HKr.out.kept hk3 HOw.out).t hk4)
     have hs3:=hk3.size
     have HX4:Hid (Holds ((w3.alloc (.cells #[.int .i64 k,.int .i64 n] 55)).alloc (.cells #[.int .i64 k,.int .i64 n] 55)) (.slice (some ⟨w3.heap.size+1,0,none⟩) 1 1) 1 2 [.int .i64 k,.int .i64 n]):=hid (by
      have h:=Holds.new (w:=w3.alloc (.cells #[.int .i64 k,.int .i64 n] 55)) (t:=55) (k:=1) (size:=2) (c:=1) (ys:=[.int .i64 k,.int .i64 n]) rfl rfl
      rw[show(w3.alloc (.cells #[.int .i64 k,.int .i64 n] 55)).heap.size=w3.heap.size+1 by simp] at h
      exact h)
     have HQ3:Hid (K1≤((w3.alloc (.cells #[.int .i64 k,.int .i64 n] 55)).alloc (.cells #[.int .i64 k,.int .i64 n] 55)).heap.size):=hid (by simp;omega)
     have HQ1:Hid ((L1.length+1) * 16≤140737488355328):=hid (by omega)
     have HQ2:Hid (L1.length+1≤9223372036854775807):=hid (by omega)
     clear he3 hk3 hk4 HSt HOr HEr HKr
     go_wp2_with (at_builtin;refine wpList_appA rfl sliceAct rfl (base:=K1) (k:=1) (n:=L1.length) (v:=.slice Av L1.length cv) (u:=.slice (some ⟨w3.heap.size+1,0,none⟩) 1 1) (xs:=acl L1) (ys:=[.int .i64 k,.int .i64 n]) rfl rfl HX4.out HO4.out HQ3.out HQ1.out HQ2.out ?_;intro v5 w5 hown5 hkeep5 hv5)
     have HE5:=hid (HE4.out.keepK HLow.out hbe1 hkeep5 HOB.out)
     have HK5:=hid (HK4.out.kept hkeep5 fun b hb=>Nat.le_trans hsz1 (HOB.out b hb))
     have HO5:Hid (OwnsA w5 K1 v5 (L1++[(k,n)])):=hid (OwnsA.app (l':=[(k,n)]) hown5)
     have hs5:K1≤w5.heap.size:=Nat.le_trans HQ3.out hkeep5.size
     clear hown5 hkeep5 hv5 HE4 HO4 HK4 HX4
     go_roundw
     case rel=>exact⟨q+1,t,fed,Sq.act D k n,b,L1++[(k,n)],L',by omega,by go_num,rfl,by omega,by rw[List.length_append];simp;omega,hs5,hid (by rw[HL.out];simp),HO5,HRn2,HE5,HI2,HB2,HK5⟩
     case measure=>simp[intOf];omega
    ·have HX1:=hid (HX.out be D Sq false)
     rw[hnx] at HX1
     have HSt:=hid (estep_none be _ D Sq false wr HEr.out HX1.out)
     have HI2:=hid (HIr.out.more hll)
     have HB2:Hid (Bnd { Sq with l:=Sq.l+1 } (q+1)):=hid (let h:=HBr.out.succ;⟨h.plain,h.taped,h.losses,h.sweeps⟩)
     have HRn2:=hid hrn
     have hmD2:D.h.mode=2:=HMD.out.trans hm2
     have HM2:=hid hmD2
     have dl:decide ((fed:Int)+1≤l)=true:=decide_eq_true (by omega)
     have HPn:=hid hpn
     clear hnx hrn HRr hmD2 hm2 hpn
     go_wp2_with fail
     refine HSt.out.mono ?_
     rintro e w3 ⟨rfl,hk3⟩
     have hk3':=hk3.alloc (.cells #[.int .i64 0,.int .i64 0] 55)
     have HE3:=hid (HEr.out.kw hk3')
     have HO3:=hid (HOr.out.kw hk3')
     have HK3:=hid (HKr.out.t hk3')
     have HW3:=hid (ewaits be _ D Sq false none _ HE3.out HX1.out)
     have hwf:(!(none:Option Mc.Act).isSome&&decide (D.h.mode=2) && !false)=true:=by rw[HM2.out];rfl
     rw[hwf] at HW3
     have hs3:=Nat.le_trans hKr hk3'.size
     clear hk3 hk3' HSt hwf
     go_wp2_with fail
     refine HW3.out.mono ?_
     rintro e w4 ⟨rfl,hk4⟩
     have HE4:=hid (HE3.out.kw hk4)
     have HO4:=hid (HO3.out.kw hk4)
     have HK4:=hid (HK3.out.t hk4)
     have HFd:=hid (efeed_more be _ D Sq w4 HE4.out HX1.out HM2.out HPn.out hll)
     have hs4:=Nat.le_trans hs3 hk4.size
     clear hk4 HW3 HE3 HO3 HK3 hs3
     go_wp2_with fail
     refine HFd.out.mono ?_
     rintro e w5 ⟨rfl,he5,hk5⟩
     have HE5:=hid he5
     have HO5:=hid (HO4.out.keep hk5 fun b hb e=>by
      have h1:=HOB.out b hb
      rcases e with e|e
      ·exact HLow.out.own h1 e
      ·omega)
     have HK5:=hid (HK4.out.kept hk5 fun b e=>e.elim (HOw.out b) fun e=>e ▸ HBe.out)
     have hs5:K1≤w5.heap.size:=Nat.le_trans hs4 hk5.size
     clear he5 hk5 HFd HE4 HO4 HK4
     go_wp2_with fail
     go_roundw
     case rel=>exact⟨q+1,t,fed+1,{ Sq with l:=Sq.l+1 },false,L1,L2,by omega,by go_num,by go_num,by omega,by omega,hs5,HL,HO5,HRn2,HE5,HI2,HB2,HK5⟩
     case measure=>simp[intOf];omega
    ·have HX1:=hid (HX.out be D Sq false)
     rw[hnx] at HX1
     have HSt:=hid (estep_none be _ D Sq false wr HEr.out HX1.out)
     have HB2:Hid (Bnd Sq (q+1)):=hid HBr.out.succ
     have HRn2:=hid hrn
     have hmD2:D.h.mode=2:=HMD.out.trans hm2
     have HM2:=hid hmD2
     have dl:decide ((fed:Int)+1≤l)=false:=decide_eq_false (by omega)
     clear hnx hrn HRr hmD2 hm2
     go_wp2_with fail
     refine HSt.out.mono ?_
     rintro e w3 ⟨rfl,hk3⟩
     have hk3':=hk3.alloc (.cells #[.int .i64 0,.int .i64 0] 55)
     have HE3:=hid (HEr.out.kw hk3')
     have HO3:=hid (HOr.out.kw hk3')
     have HK3:=hid (HKr.out.t hk3')
     have HW3:=hid (ewaits be _ D Sq false none _ HE3.out HX1.out)
     have hwf:(!(none:Option Mc.Act).isSome&&decide (D.h.mode=2) && !false)=true:=by rw[HM2.out];rfl
     rw[hwf] at HW3
     have hs3:=Nat.le_trans hKr hk3'.size
     clear hk3 hk3' HSt hwf
     go_wp2_with fail
     refine HW3.out.mono ?_
     rintro e w4 ⟨rfl,hk4⟩
     have HE4:=hid (HE3.out.kw hk4)
     have HO4:=hid (HO3.out.kw hk4)
     have HK4:=hid (HK3.out.t hk4)
     have HFd:=hid (efeed_end be _ D Sq w4 HE4.out HX1.out HM2.out)
     have hs4:=Nat.le_trans hs3 hk4.size
     clear hk4 HW3 HE3 HO3 HK3 hs3
     go_wp2_with fail
     refine HFd.out.mono ?_
     rintro e w5 ⟨rfl,he5,hk5⟩
     have HE5:=hid he5
     have HO5:=hid (HO4.out.keep hk5 fun b hb e=>by
      have h1:=HOB.out b hb
      omega)
     have HK5:=hid (HK4.out.kept hk5 fun b e=>e ▸ HBe.out)
     have hs5:K1≤w5.heap.size:=Nat.le_trans hs4 hk5.size
     clear he5 hk5 HFd HE4 HO4 HK4
     go_wp2_with fail
     go_roundw
     case rel=>exact⟨q+1,t,fed+1,Sq,true,L1,L2,by omega,by go_num,by go_num,by omega,by omega,hs5,HL,HO5,HRn2,HE5,HIr,HB2,HK5⟩
     case measure=>simp[intOf];omega
end Go.Proofs.YtphppbonljdibaaGreat
