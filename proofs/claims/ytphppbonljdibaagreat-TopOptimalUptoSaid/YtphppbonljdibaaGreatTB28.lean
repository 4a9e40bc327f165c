import Derived.Test.YtphppbonljdibaaGreatTB27
import Derived.Test.YtphppbonljdibaaGreatTB13
set_option maxRecDepth 100000
set_option maxHeartbeats 4000000
set_option linter.unusedVariables false
set_option linter.unusedSimpArgs false
namespace Go.Proofs.YtphppbonljdibaaGreat
open Go.ChangeShapes Go.WideShapes Go.ChangeAt Go.RowKit
def Hd.at_ (h:Hd)(xA:Option Addr)(xc:Nat)(tA:Option Addr)(tc:Nat)(sA:Option Addr)(sc:Nat)(lA:Option Addr)(lc:Nat):Hd:={ h with xA:=xA,xc:=xc,tA:=tA,tc:=tc,st:={ h.st with A:=sA,c:=sc },lo:={ h.lo with A:=lA,c:=lc } }
theorem Hd.at_ok {h:Hd}(hp:PlOk h)(xA:Option Addr)(xc:Nat)(tA:Option Addr)(tc:Nat)(sA:Option Addr)(sc:Nat)(lA:Option Addr)(lc:Nat):PlOk (h.at_ xA xc tA tc sA sc lA lc):=by
 refine⟨fun i hi=>?_,hp.2⟩
 have:=hp.1 i hi
 rcases(show i=0∨i=1∨i=2∨i=3∨i=4 by omega) with rfl|rfl|rfl|rfl|rfl<;>exact this
def hdF (h:Hd)(xv tv sv lv:Value):Nat→Value
 | 0=>.int .i64 h.mode
 | 1=>xv
 | 2=>tv
 | 3=>.int .i64 h.st.n
 | 4=>sv
 | 5=>.int .i64 h.lo.n
 | 6=>lv
 | 7=>.int .i64 h.len
 | _=>.int .i64 h.words
def drq (h:Hd)(xv tv sv lv v13 v14 v15 v16:Value):Nat→Value
 | 0=>.int .i64 (fixW h)
 | 1=>.int .i64 (tapW h)
 | 2=>.int .i64 (sltW h)
 | 3=>.int .i64 (slotsW h)
 | 4=>.int .i64 h.mode
 | 5=>xv
 | 6=>tv
 | 7=>.int .i64 h.st.n
 | 8=>sv
 | 9=>.int .i64 h.lo.n
 | 10=>lv
 | 11=>.int .i64 h.len
 | 12=>.int .i64 h.words
 | 13=>v13
 | 14=>v14
 | 15=>v15
 | 16=>v16
 | 17=>.int .i64 h.len
 | 18=>.int .i64 0
 | 19=>.int .i64 (-1)
 | 20=>.int .i64 0
 | 21=>.int .i64 0
 | 22=>.int .i64 0
 | 23=>.int .i64 0
 | _=>.int .u64 0
theorem nine {i:Nat}(hi:i<9):i=0∨i=1∨i=2∨i=3∨i=4∨i=5∨i=6∨i=7∨i=8:=by omega
theorem twenty5 {i:Nat}(hi:i<25):(i=0∨i=1∨i=2∨i=3∨i=4∨i=5∨i=6∨i=7∨i=8∨i=9∨i=10∨i=11∨i=12)∨i=13∨i=14∨i=15∨i=16∨i=17∨i=18∨i=19∨i=20∨i=21∨i=22∨i=23∨i=24:=by omega
theorem hdF_new (w:World)(h:Hd)(xv tv sv lv:Value):(w.alloc (.cells #[.int .i64 h.mode,xv,tv,.int .i64 h.st.n,sv,.int .i64 h.lo.n,lv,.int .i64 h.len,.int .i64 h.words] 27)).rowIs w.heap.size 27 9 (hdF h xv tv sv lv):=
 World.rowIs_alloc w #[.int .i64 h.mode,xv,tv,.int .i64 h.st.n,sv,.int .i64 h.lo.n,lv,.int .i64 h.len,.int .i64 h.words] 27 _ fun i hi=>by
  rcases nine (show i<9 from hi) with rfl|rfl|rfl|rfl|rfl|rfl|rfl|rfl|rfl<;>rfl
theorem hdF_set4 {w:World}{g:Nat}{h:Hd}{xv tv sv lv:Value}(r:w.rowIs g 27 9 (hdF h xv tv sv lv))(v:Value):(w.setCell ⟨g,4,none⟩ v).rowIs g 27 9 (hdF h xv tv v lv):=(World.rowIs.set r 4 v).congr fun i hi=>by
 rcases nine hi with rfl|rfl|rfl|rfl|rfl|rfl|rfl|rfl|rfl<;>rfl
theorem hdF_set6 {w:World}{g:Nat}{h:Hd}{xv tv sv lv:Value}(r:w.rowIs g 27 9 (hdF h xv tv sv lv))(v:Value):(w.setCell ⟨g,6,none⟩ v).rowIs g 27 9 (hdF h xv tv sv v):=(World.rowIs.set r 6 v).congr fun i hi=>by
 rcases nine hi with rfl|rfl|rfl|rfl|rfl|rfl|rfl|rfl|rfl<;>rfl
theorem hdF_set1 {w:World}{g:Nat}{h:Hd}{xv tv sv lv:Value}(r:w.rowIs g 27 9 (hdF h xv tv sv lv))(v:Value):(w.setCell ⟨g,1,none⟩ v).rowIs g 27 9 (hdF h v tv sv lv):=(World.rowIs.set r 1 v).congr fun i hi=>by
 rcases nine hi with rfl|rfl|rfl|rfl|rfl|rfl|rfl|rfl|rfl<;>rfl
theorem hdF_set2 {w:World}{g:Nat}{h:Hd}{xv tv sv lv:Value}(r:w.rowIs g 27 9 (hdF h xv tv sv lv))(v:Value):(w.setCell ⟨g,2,none⟩ v).rowIs g 27 9 (hdF h xv v sv lv):=(World.rowIs.set r 2 v).congr fun i hi=>by
 rcases nine hi with rfl|rfl|rfl|rfl|rfl|rfl|rfl|rfl|rfl<;>rfl
def OpsC (K:Nat)(l:List Fl.O)(v:Value)(w:World):Prop:=∃ A c,v=.slice A l.length c∧OpsM w A l∧(0<l.length→∃ b,A=some ⟨b,0,none⟩∧K≤b)
theorem OpsC.keep {K g:Nat}{l:List Fl.O}{v:Value}{w w':World}(h:OpsC K l v w)(hk:Keep (· = g) w w')(hg:g<K):OpsC K l v w':=by
 obtain⟨A,c,hv,ho,hb⟩:=h
 refine⟨A,c,hv,ho.keep hk fun h0 b off e=>?_,hb⟩
 obtain⟨b',hb',hge⟩:=hb h0
 rw[hb'] at e
 cases e
 omega
theorem OpsC.kw {K:Nat}{l:List Fl.O}{v:Value}{w w':World}(h:OpsC K l v w)(hk:KW w w'):OpsC K l v w':=by
 obtain⟨A,c,hv,ho,hb⟩:=h
 exact⟨A,c,hv,ho.kw hk,hb⟩
theorem u64s_range (l:List Int):(List.range l.length).map (fun i=>Value.int .u64 (l.getD i 0))=u64s l:=by
 apply List.ext_getElem
 ·rw[List.length_map,List.length_range,u64s_len]
 ·intro i h1 h2
  simp[u64s] at h1 ⊢
  simp[h1]
theorem row1_hu {w:World}{A:Option Addr}{c:Nat}{l:List Int}(h:Row1 w A l.length fun i=>.int .u64 (l.getD i 0))(h0:A=none→l.length=0∧c=0):HU w (.slice A l.length c) l:=by
 have:=Row1.holds (c:=c) h h0 fun i hi=>rfl
 rw[u64s_range] at this
 exact this
theorem own_row1 {w:World}{K n c:Nat}{A:Option Addr}{l:List Int}(h:Owns w K 81 (.slice A n c) (u64s l)):(Row1 w A l.length fun i=>.int .u64 (l.getD i 0))∧(A=none→l.length=0∧c=0):=by
 constructor
 ·obtain⟨A',c',e,_,_,r⟩:=h.row
  cases e
  rw[u64s_len] at r
  intro h0
  obtain⟨b,off,hA,hb,hc⟩:=r h0
  refine⟨b,off,hA,hb,fun k hk=>?_⟩
  rw[hc k hk]
  unfold u64s
  simp[List.getD,hk]
 ·rintro rfl
  rcases h.2 with⟨e,h0⟩|⟨b,_,_,e,_⟩
  ·rw[u64s_len] at h0
   simp only[Value.slice.injEq] at e
   exact⟨h0,e.2.2⟩
  ·cases e
theorem dplans (h:Hd)(w:World)(hM:HdM w h)(hp:PlOk h):
 Calls Tryz.prog 98 #[.agg h.v] w fun e w'=>∃ bd bp cp xA xc tA tc sA sc lA lc,e=.returned (.tuple #[.pointer (some ⟨bd,0,none⟩),.int .i64 0])∧w'.rowIs bd 137 25 (drq h (.slice xA h.xs.length xc) (.slice tA h.ts.length tc) (.slice sA h.st.l.length sc) (.slice lA h.lo.l.length lc) (.slice (some ⟨bp,0,none⟩) 10 cp) (.pointer none) (.pointer none) (.pointer none)) ∧
  HdM w' (h.at_ xA xc tA tc sA sc lA lc)∧HdSep (h.at_ xA xc tA tc sA sc lA lc) (fun b=>b<w.heap.size∨bd≤b)∧(∀ i,i<10→w'.cell? ⟨bp,i,none⟩=some (.int .i64 ((psl h).getD i 0)))∧w.heap.size≤bd∧bd<bp∧KW w w':=by
 have hk0:=(KW.refl w).alloc (.cells h.v 27)
 have HMk:=hid (make_good h _ (hM.kw hk0) hp.1)
 have HPl:=hid (fun W (hW:KW w W)=>places_any h W (hM.kw hW) hp)
 have HC1:=hid (fun W (hW:KW w W)=>cloneO_any h.st.A h.st.c h.st.l W hM.st.len (hM.kw hW).st.ops)
 have HC2:=hid (fun W (hW:KW w W)=>cloneO_any h.lo.A h.lo.c h.lo.l W hM.lo.len (hM.kw hW).lo.ops)
 have HC3:=hid (fun W (hW:KW w W)=>clone64_any _ h.xs W hM.xn (row1_hu (hM.kw hW).x hM.x0))
 have HC4:=hid (fun W (hW:KW w W)=>clone64_any _ h.ts W hM.tn (row1_hu (hM.kw hW).t hM.t0))
 unfold CloneU at HC3 HC4
 have HB1:=hid (hdF_new w h (.slice h.xA h.xs.length h.xc) (.slice h.tA h.ts.length h.tc) (.slice h.st.A h.st.l.length h.st.c) (.slice h.lo.A h.lo.l.length h.lo.c))
 have HNum:=hid (And.intro hM.xn (And.intro hM.tn (And.intro hM.st.hv (And.intro hM.lo.hv (And.intro hM.st.len hM.lo.len)))))
 have HP:=hid hp
 have HK0:Hid (KW w (w.alloc (.cells #[.int .i64 h.mode,.slice h.xA h.xs.length h.xc,.slice h.tA h.ts.length h.tc,.int .i64 h.st.n,.slice h.st.A h.st.l.length h.st.c,.int .i64 h.lo.n,.slice h.lo.A h.lo.l.length h.lo.c,.int .i64 h.len,.int .i64 h.words] 27))):=hid hk0
 clear hM hp hk0
 unfold MkP at HMk
 unfold Hd.v hdv at *
 go_enter Tryz.func98,Tryz.ntmps98
 go_wp2_with fail
 refine HMk.out.mono ?_
 rintro e w1 ⟨a,b,c,d,r,rfl,hr,habcd,hk1⟩
 obtain rfl:r=0:=hr.2 HP.out
 obtain⟨rfl,rfl,rfl,rfl⟩:=habcd HP.out
 have HK1:=hid (HK0.out.t hk1)
 have HR1:=hid (KW.row hk1 HB1.out.lt HB1.out)
 have hsz1:=HK1.out.size
 have hlt1:w.heap.size<w1.heap.size:=HR1.out.lt
 clear hk1 hr habcd HMk HB1 HK0
 have b0:=HR1.out.cell (i:=0) (by omega)
 have b1:=HR1.out.cell (i:=1) (by omega)
 have b2:=HR1.out.cell (i:=2) (by omega)
 have b3:=HR1.out.cell (i:=3) (by omega)
 have b4:=HR1.out.cell (i:=4) (by omega)
 have b5:=HR1.out.cell (i:=5) (by omega)
 have b6:=HR1.out.cell (i:=6) (by omega)
 have b7:=HR1.out.cell (i:=7) (by omega)
 have b8:=HR1.out.cell (i:=8) (by omega)
 simp only[hdF] at b0 b1 b2 b3 b4 b5 b6 b7 b8
 obtain⟨g4,hg4⟩:∃ g4,w1.heap.size=g4:=⟨_,rfl⟩
 have hrp:((w1.alloc (.cells #[.int .i64 (fixW h),.int .i64 (tapW h),.int .i64 (sltW h),.int .i64 (slotsW h)] 35)).alloc (.cells #[.int .i64 h.mode,.slice h.xA h.xs.length h.xc,.slice h.tA h.ts.length h.tc,.int .i64 h.st.n,.slice h.st.A h.st.l.length h.st.c,.int .i64 h.lo.n,.slice h.lo.A h.lo.l.length h.lo.c,.int .i64 h.len,.int .i64 h.words] 27)).rowIs g4 35 4 (plf (fixW h) (tapW h) (sltW h) (slotsW h)):=by rw[← hg4];exact(plan_row w1 _ _ _ _).alloc _
 have hrh:((w1.alloc (.cells #[.int .i64 (fixW h),.int .i64 (tapW h),.int .i64 (sltW h),.int .i64 (slotsW h)] 35)).alloc (.cells #[.int .i64 h.mode,.slice h.xA h.xs.length h.xc,.slice h.tA h.ts.length h.tc,.int .i64 h.st.n,.slice h.st.A h.st.l.length h.st.c,.int .i64 h.lo.n,.slice h.lo.A h.lo.l.length h.lo.c,.int .i64 h.len,.int .i64 h.words] 27)).rowIs (g4+1) 27 9 (hdF h (.slice h.xA h.xs.length h.xc) (.slice h.tA h.ts.length h.tc) (.slice h.st.A h.st.l.length h.st.c) (.slice h.lo.A h.lo.l.length h.lo.c)):=by
  have:=hdF_new (w1.alloc (.cells #[.int .i64 (fixW h),.int .i64 (tapW h),.int .i64 (sltW h),.int .i64 (slotsW h)] 35)) h (.slice h.xA h.xs.length h.xc) (.slice h.tA h.ts.length h.tc) (.slice h.st.A h.st.l.length h.st.c) (.slice h.lo.A h.lo.l.length h.lo.c)
  rw[show(w1.alloc (.cells #[.int .i64 (fixW h),.int .i64 (tapW h),.int .i64 (sltW h),.int .i64 (slotsW h)] 35)).heap.size=g4+1 by rw[← hg4];simp] at this
  exact this
 have HRP:=hid hrp
 have HRH:=hid hrh
 have HRB:=hid ((HR1.out.alloc (.cells #[.int .i64 (fixW h),.int .i64 (tapW h),.int .i64 (sltW h),.int .i64 (slotsW h)] 35)).alloc (.cells #[.int .i64 h.mode,.slice h.xA h.xs.length h.xc,.slice h.tA h.ts.length h.tc,.int .i64 h.st.n,.slice h.st.A h.st.l.length h.st.c,.int .i64 h.lo.n,.slice h.lo.A h.lo.l.length h.lo.c,.int .i64 h.len,.int .i64 h.words] 27))
 have HK2:=hid ((HK1.out.alloc (.cells #[.int .i64 (fixW h),.int .i64 (tapW h),.int .i64 (sltW h),.int .i64 (slotsW h)] 35)).alloc (.cells #[.int .i64 h.mode,.slice h.xA h.xs.length h.xc,.slice h.tA h.ts.length h.tc,.int .i64 h.st.n,.slice h.st.A h.st.l.length h.st.c,.int .i64 h.lo.n,.slice h.lo.A h.lo.l.length h.lo.c,.int .i64 h.len,.int .i64 h.words] 27))
 have HG4:=hid hg4
 clear hrp hrh hg4
 go_upto_region 5 with(fail)
 try rw[HG4.out]
 refine wpCode_world (fun W=>Hid (W.rowIs g4 35 4 (plf (fixW h) (tapW h) (sltW h) (slotsW h)))∧Hid (W.rowIs (g4+1) 27 9 (hdF h (.slice h.xA h.xs.length h.xc) (.slice h.tA h.ts.length h.tc) (.slice h.st.A h.st.l.length h.st.c) (.slice h.lo.A h.lo.l.length h.lo.c)))∧Hid (W.rowIs w.heap.size 27 9 (hdF h (.slice h.xA h.xs.length h.xc) (.slice h.tA h.ts.length h.tc) (.slice h.st.A h.st.l.length h.st.c) (.slice h.lo.A h.lo.l.length h.lo.c)))∧Hid (KW w W)) ⟨HRP,HRH,HRB,HK2⟩ ?_
 have hgw:w.heap.size<g4:=by rw[← HG4.out];exact hlt1
 clear HRP HRH HRB HK2 HK1 HR1 b0 b1 b2 b3 b4 b5 b6 b7 b8 hsz1 hlt1 HG4
 rintro W2 ⟨HP2,HR2,HB2,HK2⟩
 have hlt2:g4+1<W2.heap.size:=HR2.out.lt
 obtain⟨gb,hgb⟩:∃ gb,w.heap.size=gb:=⟨_,rfl⟩
 have HGB:=hid hgb
 rw[hgb] at HB2 hgw ⊢
 clear hgb
 obtain⟨g6,hg6⟩:∃ g6,g4+1=g6:=⟨_,rfl⟩
 have HG6:=hid hg6
 rw[hg6] at HR2 hlt2 ⊢
 have hne6:gb≠g6∧g4≠g6:=by omega
 clear hg6
 have HCb:Hid (∀ W:World,W.rowIs gb 27 9 (hdF h (.slice h.xA h.xs.length h.xc) (.slice h.tA h.ts.length h.tc) (.slice h.st.A h.st.l.length h.st.c) (.slice h.lo.A h.lo.l.length h.lo.c))→W.cell? ⟨gb,4,none⟩=some (.slice h.st.A h.st.l.length h.st.c)∧W.cell? ⟨gb,6,none⟩=some (.slice h.lo.A h.lo.l.length h.lo.c)):=hid fun W r=>⟨r.cell (i:=4) (by omega),r.cell (i:=6) (by omega)⟩
 have hXS:=HCb.out W2.drew HB2.out
 refine wpX_region (S:=fun W=>W.cell? ⟨gb,4,none⟩=some (.slice h.st.A h.st.l.length h.st.c)∧W.cell? ⟨gb,6,none⟩=some (.slice h.lo.A h.lo.l.length h.lo.c)) (L:=99) (by kernel_rfl) ?_
 refine tk 0 ?_ (fun _ _=>?_) hXS ?_;rotate_left;· go_simp;try rfl
 simp only[lsz,lss]
 refine tk 1 ?_ (fun _ _=>?_) hXS ?_;rotate_left;· go_simp;try rfl
 simp only[lsz,lss]
 refine tk 2 ?_ (fun _ _=>?_) hXS ?_;rotate_left;· go_simp;try rfl
 simp only[lsz,lss]
 refine tk 4 ?_ (fun _ _=>?_) hXS ?_;rotate_left;· go_simp;try rfl
 simp only[lsz,lss]
 refine tk 5 ?_ (fun _ _=>?_) hXS ?_;rotate_left;· go_simp;try rfl
 simp only[lsz,lss]
 refine tk 6 ?_ (fun _ _=>?_) hXS ?_;rotate_left;· go_simp;try rfl
 simp only[lsz,lss]
 refine wpX_hard (k:=3) (by kernel_rfl) rfl (fun K hK=>?_)
 go_simp
 refine(HC1.out _ HK2.out.drew).mono ?_
 rintro e w3 ⟨A3,c3,rfl,ho3,hf3,hk3'⟩
 have hk3:KW W2 w3:=(KW.refl W2).drew.t hk3'
 have HO3:=hid (show OpsC W2.heap.size h.st.l (.slice A3 h.st.l.length c3) w3 from⟨A3,c3,rfl,ho3,hf3⟩)
 have HP3:=hid (KW.row hk3 HP2.out.lt HP2.out)
 have HR3:=hid (KW.row hk3 HR2.out.lt HR2.out)
 have HB3:=hid (KW.row hk3 HB2.out.lt HB2.out)
 have HK3:=hid (HK2.out.t hk3)
 have hsz3:=hk3.size
 have hXS:=HCb.out w3 HB3.out
 refine hK _ _ (fun _=>hXS) ?_
 clear hK K ho3 hf3 hk3 hk3' HP2 HR2 HB2
 try simp only[lsz,lss]
 refine tk 8 ?_ (fun _ _=>?_) hXS ?_;rotate_left;· go_simp;try rfl
 simp only[lsz,lss]
 refine tk 9 ?_ (fun _ _=>?_) hXS ?_;rotate_left;· go_simp;try rfl
 simp only[lsz,lss]
 clear hXS
 refine wpX_hard (k:=7) (by kernel_rfl) rfl (fun K hK=>?_)
 go_simp
 refine(HC2.out _ HK3.out).mono ?_
 rintro e w4 ⟨A7,c7,rfl,ho7,hf7,hk4⟩
 have hf7':0<h.lo.l.length→∃ b,A7=some ⟨b,0,none⟩∧W2.heap.size≤b:=fun h0=>by obtain⟨b,e,hb⟩:=hf7 h0;exact⟨b,e,Nat.le_trans hsz3 hb⟩
 have HO7:=hid (show OpsC W2.heap.size h.lo.l (.slice A7 h.lo.l.length c7) w4 from⟨A7,c7,rfl,ho7,hf7'⟩)
 have HO4:=hid (HO3.out.kw hk4)
 have HP4:=hid (KW.row hk4 HP3.out.lt HP3.out)
 have HR4:=hid (KW.row hk4 HR3.out.lt HR3.out)
 have HB4:=hid (KW.row hk4 HB3.out.lt HB3.out)
 have HK4:=hid (HK3.out.t hk4)
 have hsz4:=hk4.size
 refine hK _ _ (fun _=>HCb.out _ HB4.out) ?_
 clear hK K ho7 hf7 hf7' hk4
 try simp only[lsz,lss]
 have c64:w4.cell? ⟨g6,4,none⟩=some (.slice h.st.A h.st.l.length h.st.c):=HR4.out.cell (i:=4) (by omega)
 have f64:w4.frozen? ⟨g6,4,none⟩=false:=HR4.out.frozen 4
 have hkk:Keep (· = g6) w4 (w4.setCell ⟨g6,4,none⟩ (.slice A3 h.st.l.length c3)):=(Keep.refl _ w4).setCell _ _ rfl
 have hfin:OpsC W2.heap.size h.lo.l (.slice A7 h.lo.l.length c7) (w4.setCell ⟨g6,4,none⟩ (.slice A3 h.st.l.length c3))∧OpsC W2.heap.size h.st.l (.slice A3 h.st.l.length c3) (w4.setCell ⟨g6,4,none⟩ (.slice A3 h.st.l.length c3))∧(w4.setCell ⟨g6,4,none⟩ (.slice A3 h.st.l.length c3)).rowIs g4 35 4 (plf (fixW h) (tapW h) (sltW h) (slotsW h))∧(w4.setCell ⟨g6,4,none⟩ (.slice A3 h.st.l.length c3)).rowIs g6 27 9 (hdF h (.slice h.xA h.xs.length h.xc) (.slice h.tA h.ts.length h.tc) (.slice A3 h.st.l.length c3) (.slice h.lo.A h.lo.l.length h.lo.c))∧(w4.setCell ⟨g6,4,none⟩ (.slice A3 h.st.l.length c3)).rowIs gb 27 9 (hdF h (.slice h.xA h.xs.length h.xc) (.slice h.tA h.ts.length h.tc) (.slice h.st.A h.st.l.length h.st.c) (.slice h.lo.A h.lo.l.length h.lo.c))∧KW w (w4.setCell ⟨g6,4,none⟩ (.slice A3 h.st.l.length c3))∧W2.heap.size≤(w4.setCell ⟨g6,4,none⟩ (.slice A3 h.st.l.length c3)).heap.size:=
  ⟨HO7.out.keep hkk hlt2,HO4.out.keep hkk hlt2,hkk.row hne6.2 HP4.out,hdF_set4 HR4.out _,hkk.row hne6.1 HB4.out,HK4.out.kept hkk fun i hi=>by have h1:i=g6:=hi;have h2:=HGB.out;have h3:=HG6.out;omega,by have:=hkk.size;omega⟩
 refine wpX_hard (k:=10) (by kernel_rfl) rfl (fun K hK=>?_)
 go_simp
 refine hK _ _ (fun _=>HCb.out _ hfin.2.2.2.2.1) ?_
 clear hK K c64 f64 hkk HO7 HO4 HP4 HR4 HB4 HK4
 try simp only[lsz,lss]
 generalize w4.setCell ⟨g6,4,none⟩ (.slice A3 h.st.l.length c3)=w5 at *
 obtain⟨ho7,ho3,hp5,hr5,hb5,hk5,hs5⟩:=hfin
 have HO7:=hid ho7
 have HO5:=hid ho3
 have HP5:=hid hp5
 have HR5:=hid hr5
 have HB5:=hid hb5
 have HK5:=hid hk5
 clear ho7 ho3 hp5 hr5 hb5 hk5 HO3 HP3 HR3 HB3 HK3 hsz3
 have hXS:=HCb.out w5 HB5.out
 refine tk 11 ?_ (fun _ _=>?_) hXS ?_;rotate_left;· go_simp;try rfl
 simp only[lsz,lss]
 refine tk 12 ?_ (fun _ _=>?_) hXS ?_;rotate_left;· go_simp;try rfl
 simp only[lsz,lss]
 clear hXS
 have c66:w5.cell? ⟨g6,6,none⟩=some (.slice h.lo.A h.lo.l.length h.lo.c):=HR5.out.cell (i:=6) (by omega)
 have f66:w5.frozen? ⟨g6,6,none⟩=false:=HR5.out.frozen 6
 have hkk:Keep (· = g6) w5 (w5.setCell ⟨g6,6,none⟩ (.slice A7 h.lo.l.length c7)):=(Keep.refl _ w5).setCell _ _ rfl
 have HB6:=hid (hkk.row hne6.1 HB5.out)
 have HR6:=hid (hdF_set6 HR5.out (.slice A7 h.lo.l.length c7))
 have HP6:=hid (hkk.row hne6.2 HP5.out)
 have HO6:=hid (HO5.out.keep hkk hlt2)
 have HO8:=hid (HO7.out.keep hkk hlt2)
 have HK6:=hid (HK5.out.kept hkk fun i hi=>by have h1:i=g6:=hi;have h2:=HGB.out;have h3:=HG6.out;omega)
 have hs6:=Nat.le_trans hs5 hkk.size
 refine wpX_hard (k:=13) (by kernel_rfl) rfl (fun K hK=>?_)
 go_simp
 refine hK _ _ (fun _=>HCb.out _ HB6.out) ?_
 clear hK K c66 f66 hkk hs5 HO5 HO7 HP5 HR5 HB5 HK5 HCb
 try simp only[lsz,lss]
 refine wpX_done (by kernel_rfl) ?_
 generalize w5.setCell ⟨g6,6,none⟩ (.slice A7 h.lo.l.length c7)=w6 at *
 go_wp2_with fail
 have HCx:Hid (∀ W:World,W.rowIs gb 27 9 (hdF h (.slice h.xA h.xs.length h.xc) (.slice h.tA h.ts.length h.tc) (.slice h.st.A h.st.l.length h.st.c) (.slice h.lo.A h.lo.l.length h.lo.c))→W.cell? ⟨gb,1,none⟩=some (.slice h.xA h.xs.length h.xc)∧W.cell? ⟨gb,2,none⟩=some (.slice h.tA h.ts.length h.tc)):=hid fun W r=>⟨r.cell (i:=1) (by omega),r.cell (i:=2) (by omega)⟩
 have hXS:=HCx.out w6.drew HB6.out
 refine wpX_region (S:=fun W=>W.cell? ⟨gb,1,none⟩=some (.slice h.xA h.xs.length h.xc)∧W.cell? ⟨gb,2,none⟩=some (.slice h.tA h.ts.length h.tc)) (L:=99) (by kernel_rfl) ?_
 refine tk 0 ?_ (fun _ _=>?_) hXS ?_;rotate_left;· go_simp;try rfl
 simp only[lsz,lss]
 refine tk 1 ?_ (fun _ _=>?_) hXS ?_;rotate_left;· go_simp;try rfl
 simp only[lsz,lss]
 refine tk 3 ?_ (fun _ _=>?_) hXS ?_;rotate_left;· go_simp;try rfl
 simp only[lsz,lss]
 refine tk 4 ?_ (fun _ _=>?_) hXS ?_;rotate_left;· go_simp;try rfl
 simp only[lsz,lss]
 refine wpX_hard (k:=2) (by kernel_rfl) rfl (fun K hK=>?_)
 go_simp
 refine(HC3.out _ HK6.out.drew).mono ?_
 rintro e w7 ⟨vx,rfl,hox,hk7'⟩
 have hk7:KW w6 w7:=(KW.refl w6).drew.t hk7'
 obtain⟨Ax,cx,rfl,_⟩:=hox.row
 have HOx:=hid (hox.base (show W2.heap.size≤w6.drew.heap.size from hs6))
 rw[u64s_len] at HOx ⊢
 have HP7:=hid (KW.row hk7 HP6.out.lt HP6.out)
 have HR7:=hid (KW.row hk7 HR6.out.lt HR6.out)
 have HB7:=hid (KW.row hk7 HB6.out.lt HB6.out)
 have HK7:=hid (HK6.out.t hk7)
 have HS7:=hid (HO6.out.kw hk7)
 have HL7:=hid (HO8.out.kw hk7)
 have hs7:=Nat.le_trans hs6 hk7.size
 have hXS:=HCx.out w7 HB7.out
 refine hK _ _ (fun _=>hXS) ?_
 clear hK K hox hk7 hk7' HP6 HR6 HB6 HK6 HO6 HO8 hs6
 try simp only[lsz,lss]
 refine tk 6 ?_ (fun _ _=>?_) hXS ?_;rotate_left;· go_simp;try rfl
 simp only[lsz,lss]
 clear hXS
 refine wpX_hard (k:=5) (by kernel_rfl) rfl (fun K hK=>?_)
 go_simp
 refine(HC4.out _ HK7.out).mono ?_
 rintro e w8 ⟨vt,rfl,hot,hk8⟩
 obtain⟨At,ct,rfl,_⟩:=hot.row
 have HOt:=hid (hot.base hs7)
 rw[u64s_len] at HOt ⊢
 have HOx8:=hid (HOx.out.on hk8)
 have HS8:=hid (HS7.out.kw hk8)
 have HL8:=hid (HL7.out.kw hk8)
 have HP8:=hid (KW.row hk8 HP7.out.lt HP7.out)
 have HR8:=hid (KW.row hk8 HR7.out.lt HR7.out)
 have HB8:=hid (KW.row hk8 HB7.out.lt HB7.out)
 have HK8:=hid (HK7.out.t hk8)
 refine hK _ _ (fun _=>HCx.out w8 HB8.out) ?_
 clear hK K hot hk8
 try simp only[lsz,lss]
 have c64:w8.cell? ⟨g6,1,none⟩=some (.slice h.xA h.xs.length h.xc):=HR8.out.cell (i:=1) (by omega)
 have f64:w8.frozen? ⟨g6,1,none⟩=false:=HR8.out.frozen 1
 have hkk:Keep (· = g6) w8 (w8.setCell ⟨g6,1,none⟩ (.slice Ax h.xs.length cx)):=(Keep.refl _ w8).setCell _ _ rfl
 have hfin:Owns (w8.setCell ⟨g6,1,none⟩ (.slice Ax h.xs.length cx)) W2.heap.size 81 (.slice At h.ts.length ct) (u64s h.ts)∧Owns (w8.setCell ⟨g6,1,none⟩ (.slice Ax h.xs.length cx)) W2.heap.size 81 (.slice Ax h.xs.length cx) (u64s h.xs)∧OpsC W2.heap.size h.lo.l (.slice A7 h.lo.l.length c7) (w8.setCell ⟨g6,1,none⟩ (.slice Ax h.xs.length cx))∧OpsC W2.heap.size h.st.l (.slice A3 h.st.l.length c3) (w8.setCell ⟨g6,1,none⟩ (.slice Ax h.xs.length cx))∧(w8.setCell ⟨g6,1,none⟩ (.slice Ax h.xs.length cx)).rowIs g4 35 4 (plf (fixW h) (tapW h) (sltW h) (slotsW h))∧(w8.setCell ⟨g6,1,none⟩ (.slice Ax h.xs.length cx)).rowIs g6 27 9 (hdF h (.slice Ax h.xs.length cx) (.slice h.tA h.ts.length h.tc) (.slice A3 h.st.l.length c3) (.slice A7 h.lo.l.length c7))∧(w8.setCell ⟨g6,1,none⟩ (.slice Ax h.xs.length cx)).rowIs gb 27 9 (hdF h (.slice h.xA h.xs.length h.xc) (.slice h.tA h.ts.length h.tc) (.slice h.st.A h.st.l.length h.st.c) (.slice h.lo.A h.lo.l.length h.lo.c))∧KW w (w8.setCell ⟨g6,1,none⟩ (.slice Ax h.xs.length cx)):=
  ⟨hkk.owns HOt.out fun b hb e=>by have:=(HOt.out.lt hb).1;omega,hkk.owns HOx8.out fun b hb e=>by have:=(HOx8.out.lt hb).1;omega,HL8.out.keep hkk hlt2,HS8.out.keep hkk hlt2,hkk.row hne6.2 HP8.out,hdF_set1 HR8.out _,hkk.row hne6.1 HB8.out,HK8.out.kept hkk fun i hi=>by have h1:i=g6:=hi;have h2:=HGB.out;have h3:=HG6.out;omega⟩
 refine wpX_hard (k:=7) (by kernel_rfl) rfl (fun K hK=>?_)
 go_simp
 refine hK _ _ (fun _=>HCx.out _ hfin.2.2.2.2.2.2.1) ?_
 clear hK K c64 f64 hkk HOt HOx8 HS8 HL8 HP8 HR8 HB8 HK8
 try simp only[lsz,lss]
 generalize w8.setCell ⟨g6,1,none⟩ (.slice Ax h.xs.length cx)=w9 at *
 obtain⟨hot,hox,hol,hos,hp9,hr9,hb9,hk9⟩:=hfin
 have HOt:=hid hot
 have HOx9:=hid hox
 have HL9:=hid hol
 have HS9:=hid hos
 have HP9:=hid hp9
 have HR9:=hid hr9
 have HB9:=hid hb9
 have HK9:=hid hk9
 clear hot hox hol hos hp9 hr9 hb9 hk9 HOx HP7 HR7 HB7 HK7 HS7 HL7 hs7
 have hXS:=HCx.out w9 HB9.out
 refine tk 8 ?_ (fun _ _=>?_) hXS ?_;rotate_left;· go_simp;try rfl
 simp only[lsz,lss]
 clear hXS
 have c62:w9.cell? ⟨g6,2,none⟩=some (.slice h.tA h.ts.length h.tc):=HR9.out.cell (i:=2) (by omega)
 have f62:w9.frozen? ⟨g6,2,none⟩=false:=HR9.out.frozen 2
 have hkk:Keep (· = g6) w9 (w9.setCell ⟨g6,2,none⟩ (.slice At h.ts.length ct)):=(Keep.refl _ w9).setCell _ _ rfl
 have HBa:=hid (hkk.row hne6.1 HB9.out)
 have HRa:=hid (hdF_set2 HR9.out (.slice At h.ts.length ct))
 have HPa:=hid (hkk.row hne6.2 HP9.out)
 have HSa:=hid (HS9.out.keep hkk hlt2)
 have HLa:=hid (HL9.out.keep hkk hlt2)
 have HXa:=hid (hkk.owns HOx9.out fun b hb e=>by have:=(HOx9.out.lt hb).1;omega)
 have HTa:=hid (hkk.owns HOt.out fun b hb e=>by have:=(HOt.out.lt hb).1;omega)
 have HKa:=hid (HK9.out.kept hkk fun i hi=>by have h1:i=g6:=hi;have h2:=HGB.out;have h3:=HG6.out;omega)
 refine wpX_hard (k:=9) (by kernel_rfl) rfl (fun K hK=>?_)
 go_simp
 refine hK _ _ (fun _=>HCx.out _ HBa.out) ?_
 clear hK K c62 f62 hkk HOt HOx9 HL9 HS9 HP9 HR9 HB9 HK9 HCx
 try simp only[lsz,lss]
 refine wpX_done (by kernel_rfl) ?_
 generalize w9.setCell ⟨g6,2,none⟩ (.slice At h.ts.length ct)=wa at *
 have p0:wa.cell? ⟨g4,0,none⟩=some (.int .i64 (fixW h)):=HPa.out.cell (i:=0) (by omega)
 have p1:wa.cell? ⟨g4,1,none⟩=some (.int .i64 (tapW h)):=HPa.out.cell (i:=1) (by omega)
 have p2:wa.cell? ⟨g4,2,none⟩=some (.int .i64 (sltW h)):=HPa.out.cell (i:=2) (by omega)
 have p3:wa.cell? ⟨g4,3,none⟩=some (.int .i64 (slotsW h)):=HPa.out.cell (i:=3) (by omega)
 have d0:=HRa.out.cell (i:=0) (by omega)
 have d1:=HRa.out.cell (i:=1) (by omega)
 have d2:=HRa.out.cell (i:=2) (by omega)
 have d3:=HRa.out.cell (i:=3) (by omega)
 have d4:=HRa.out.cell (i:=4) (by omega)
 have d5:=HRa.out.cell (i:=5) (by omega)
 have d6:=HRa.out.cell (i:=6) (by omega)
 have d7:=HRa.out.cell (i:=7) (by omega)
 have d8:=HRa.out.cell (i:=8) (by omega)
 simp only[hdF] at d0 d1 d2 d3 d4 d5 d6 d7 d8
 have b7:=HBa.out.cell (i:=7) (by omega)
 simp only[hdF] at b7
 have hla:=HRa.out.lt
 have hlp:=HPa.out.lt
 have hrd:(wa.alloc (.cells #[.int .i64 (fixW h),.int .i64 (tapW h),.int .i64 (sltW h),.int .i64 (slotsW h),.int .i64 h.mode,.slice Ax h.xs.length cx,.slice At h.ts.length ct,.int .i64 h.st.n,.slice A3 h.st.l.length c3,.int .i64 h.lo.n,.slice A7 h.lo.l.length c7,.int .i64 h.len,.int .i64 h.words,.slice none 0 0,.pointer none,.pointer none,.pointer none,.int .i64 h.len,.int .i64 0,.int .i64 (-1),.int .i64 0,.int .i64 0,.int .i64 0,.int .i64 0,.int .u64 0] 137)).rowIs wa.heap.size 137 25 (drq h (.slice Ax h.xs.length cx) (.slice At h.ts.length ct) (.slice A3 h.st.l.length c3) (.slice A7 h.lo.l.length c7) (.slice none 0 0) (.pointer none) (.pointer none) (.pointer none)):=World.rowIs_alloc wa #[.int .i64 (fixW h),.int .i64 (tapW h),.int .i64 (sltW h),.int .i64 (slotsW h),.int .i64 h.mode,.slice Ax h.xs.length cx,.slice At h.ts.length ct,.int .i64 h.st.n,.slice A3 h.st.l.length c3,.int .i64 h.lo.n,.slice A7 h.lo.l.length c7,.int .i64 h.len,.int .i64 h.words,.slice none 0 0,.pointer none,.pointer none,.pointer none,.int .i64 h.len,.int .i64 0,.int .i64 (-1),.int .i64 0,.int .i64 0,.int .i64 0,.int .i64 0,.int .u64 0] 137 _ fun i hi=>by
  rcases twenty5 (show i<25 from hi) with(rfl|rfl|rfl|rfl|rfl|rfl|rfl|rfl|rfl|rfl|rfl|rfl|rfl)|rfl|rfl|rfl|rfl|rfl|rfl|rfl|rfl|rfl|rfl|rfl|rfl<;>rfl
 have hkb:=(KW.refl wa).alloc (.cells #[.int .i64 (fixW h),.int .i64 (tapW h),.int .i64 (sltW h),.int .i64 (slotsW h),.int .i64 h.mode,.slice Ax h.xs.length cx,.slice At h.ts.length ct,.int .i64 h.st.n,.slice A3 h.st.l.length c3,.int .i64 h.lo.n,.slice A7 h.lo.l.length c7,.int .i64 h.len,.int .i64 h.words,.slice none 0 0,.pointer none,.pointer none,.pointer none,.int .i64 h.len,.int .i64 0,.int .i64 (-1),.int .i64 0,.int .i64 0,.int .i64 0,.int .i64 0,.int .u64 0] 137)
 have HRD:=hid hrd
 have HBb:=hid (KW.row hkb HBa.out.lt HBa.out)
 have HKb:=hid (HKa.out.t hkb)
 have HSb:=hid (HSa.out.kw hkb)
 have HLb:=hid (HLa.out.kw hkb)
 have HXb:=hid (HXa.out.on hkb)
 have HTb:=hid (HTa.out.on hkb)
 have hlo:(∀ b,(0<h.st.l.length→∀ off,A3=some ⟨b,off,none⟩→b<wa.heap.size)∧(0<h.lo.l.length→∀ off,A7=some ⟨b,off,none⟩→b<wa.heap.size)∧(∀ off,Ax=some ⟨b,off,none⟩→b<wa.heap.size)∧(∀ off,At=some ⟨b,off,none⟩→b<wa.heap.size)):=fun b=>by
  obtain⟨_,_,e3,o3,_⟩:=HSa.out
  obtain⟨_,_,e7,o7,_⟩:=HLa.out
  cases e3
  cases e7
  refine⟨fun h0 off e=>?_,fun h0 off e=>?_,fun off e=>(HXa.out.lt (b:=b) (by rw[e];rfl)).2,fun off e=>(HTa.out.lt (b:=b) (by rw[e];rfl)).2⟩
  ·have:=o3.low h0 b off e;omega
  ·have:=o7.low h0 b off e;omega
 have HLO:=hid hlo
 have hszb:(wa.alloc (.cells #[.int .i64 (fixW h),.int .i64 (tapW h),.int .i64 (sltW h),.int .i64 (slotsW h),.int .i64 h.mode,.slice Ax h.xs.length cx,.slice At h.ts.length ct,.int .i64 h.st.n,.slice A3 h.st.l.length c3,.int .i64 h.lo.n,.slice A7 h.lo.l.length c7,.int .i64 h.len,.int .i64 h.words,.slice none 0 0,.pointer none,.pointer none,.pointer none,.int .i64 h.len,.int .i64 0,.int .i64 (-1),.int .i64 0,.int .i64 0,.int .i64 0,.int .i64 0,.int .u64 0] 137)).heap.size=wa.heap.size+1:=by simp
 have HZb:=hid hszb
 have hgea:w.heap.size≤wa.heap.size:=HKa.out.size
 clear hrd hkb hlo hszb HBa HRa HPa HSa HLa HXa HTa HKa
 go_upto_region 8 with(fail)
 clear p0 p1 p2 p3 d0 d1 d2 d3 d4 d5 d6 d7 d8 b7 hla hlp
 generalize wa.heap.size=bd at *
 refine wpCode_world (fun W=>Hid (W.rowIs bd 137 25 (drq h (.slice Ax h.xs.length cx) (.slice At h.ts.length ct) (.slice A3 h.st.l.length c3) (.slice A7 h.lo.l.length c7) (.slice none 0 0) (.pointer none) (.pointer none) (.pointer none)))∧Hid (W.rowIs gb 27 9 (hdF h (.slice h.xA h.xs.length h.xc) (.slice h.tA h.ts.length h.tc) (.slice h.st.A h.st.l.length h.st.c) (.slice h.lo.A h.lo.l.length h.lo.c)))∧Hid (KW w W)∧Hid (OpsC W2.heap.size h.st.l (.slice A3 h.st.l.length c3) W)∧Hid (OpsC W2.heap.size h.lo.l (.slice A7 h.lo.l.length c7) W)∧Hid (Owns W W2.heap.size 81 (.slice Ax h.xs.length cx) (u64s h.xs))∧Hid (Owns W W2.heap.size 81 (.slice At h.ts.length ct) (u64s h.ts))∧W.heap.size=bd+1) ⟨HRD,HBb,HKb,HSb,HLb,HXb,HTb,HZb.out⟩ ?_
 clear HRD HBb HKb HSb HLb HXb HTb HZb
 rintro wb ⟨HRD,HBb,HKb,HSb,HLb,HXb,HTb,hzb⟩
 have b0:=HBb.out.cell (i:=0) (by omega)
 have b1:=HBb.out.cell (i:=1) (by omega)
 have b2:=HBb.out.cell (i:=2) (by omega)
 have b3:=HBb.out.cell (i:=3) (by omega)
 have b4:=HBb.out.cell (i:=4) (by omega)
 have b5:=HBb.out.cell (i:=5) (by omega)
 have b6:=HBb.out.cell (i:=6) (by omega)
 have b7:=HBb.out.cell (i:=7) (by omega)
 have b8:=HBb.out.cell (i:=8) (by omega)
 simp only[hdF] at b0 b1 b2 b3 b4 b5 b6 b7 b8
 have hlb:=HBb.out.lt
 have HPb:=hid (HPl.out wb HKb.out)
 go_wp2_with fail
 refine HPb.out.mono ?_
 rintro e wc ⟨v,rfl,hov,hkc⟩
 obtain⟨Ap,cp,rfl,_,hAp,_⟩:=hov.row
 have hnl:(nvs (plc (szl h) (slotsW h).toNat)).length=10:=by rw[nvs_len,plc_len]
 rw[hnl] at hAp
 obtain⟨bp,rfl,hbp,_⟩:=hAp (by omega)
 have hov':=hov
 rw[hnl] at hov' ⊢
 have hpc:∀ i,i<10→wc.cell? ⟨bp,i,none⟩=some (.int .i64 ((psl h).getD i 0)):=fun i hi=>by
  have hc:=World.ownsRow.cells hov' (g:=bp) (by simp[Value.ownBlock]) i (.int .i64 ((psl h).getD i 0)) (by
   have hi2:i<(plc (szl h) (slotsW h).toNat).length:=by rw[plc_len];exact hi
   unfold nvs psl
   rw[List.getElem?_map,List.getElem?_eq_getElem hi2]
   simp[List.getD,hi2])
  rw[show(⟨bp,0,none⟩:Addr).add i=⟨bp,i,none⟩ by unfold Addr.add;split<;>simp_all] at hc
  exact hc
 have HPC:=hid hpc
 have HRc:=hid (KW.row hkc HRD.out.lt HRD.out)
 have HKc:=hid (HKb.out.t hkc)
 have HSc:=hid (HSb.out.kw hkc)
 have HLc:=hid (HLb.out.kw hkc)
 have HXc:=hid (HXb.out.on hkc)
 have HTc:=hid (HTb.out.on hkc)
 clear hov hov' hnl hpc hkc HRD HBb HKb HSb HLb HXb HTb HPb b0 b1 b2 b3 b4 b5 b6 b7 b8 hlb
 have cd:wc.cell? ⟨bd,13,none⟩=some (.slice none 0 0):=HRc.out.cell (i:=13) (by omega)
 have fd:wc.frozen? ⟨bd,13,none⟩=false:=HRc.out.frozen 13
 have hks:Keep (· = bd) wc (wc.setCell ⟨bd,13,none⟩ (.slice (some ⟨bp,0,none⟩) 10 cp)):=(Keep.refl _ wc).setCell _ _ rfl
 have hrs:(wc.setCell ⟨bd,13,none⟩ (.slice (some ⟨bp,0,none⟩) 10 cp)).rowIs bd 137 25 (drq h (.slice Ax h.xs.length cx) (.slice At h.ts.length ct) (.slice A3 h.st.l.length c3) (.slice A7 h.lo.l.length c7) (.slice (some ⟨bp,0,none⟩) 10 cp) (.pointer none) (.pointer none) (.pointer none)):=(World.rowIs.set HRc.out 13 _).congr fun i hi=>by
  rcases twenty5 hi with(rfl|rfl|rfl|rfl|rfl|rfl|rfl|rfl|rfl|rfl|rfl|rfl|rfl)|rfl|rfl|rfl|rfl|rfl|rfl|rfl|rfl|rfl|rfl|rfl|rfl<;>rfl
 have HRS:=hid hrs
 have HPS:Hid (∀ i,i<10→(wc.setCell ⟨bd,13,none⟩ (.slice (some ⟨bp,0,none⟩) 10 cp)).cell? ⟨bp,i,none⟩=some (.int .i64 ((psl h).getD i 0))):=hid fun i hi=>hks.cs (by omega) (HPC.out i hi)
 have HKS:=hid (HKc.out.kept hks fun i hi=>by have h1:i=bd:=hi;omega)
 have HHM:Hid (HdM (wc.setCell ⟨bd,13,none⟩ (.slice (some ⟨bp,0,none⟩) 10 cp)) (h.at_ Ax cx At ct A3 c3 A7 c7)):=hid (by
  obtain⟨_,_,e3,o3,_⟩:=HSc.out
  obtain⟨_,_,e7,o7,_⟩:=HLc.out
  cases e3
  cases e7
  have nb:∀ b,b<bd→¬ b=bd:=fun b h=>by omega
  obtain⟨rX,zX⟩:=own_row1 HXc.out
  obtain⟨rT,zT⟩:=own_row1 HTc.out
  exact⟨⟨o3.keep hks fun h0 b off e=>nb _ ((HLO.out b).1 h0 off e),HNum.out.2.2.2.2.1,HNum.out.2.2.1⟩,⟨o7.keep hks fun h0 b off e=>nb _ ((HLO.out b).2.1 h0 off e),HNum.out.2.2.2.2.2,HNum.out.2.2.2.1⟩,hks.row1' rX fun _ b off e=>nb _ ((HLO.out b).2.2.1 off e),hks.row1' rT fun _ b off e=>nb _ ((HLO.out b).2.2.2 off e),HNum.out.1,HNum.out.2.1,zX,zT⟩)
 have hs2:=HK2.out.size
 have HSep:Hid (HdSep (h.at_ Ax cx At ct A3 c3 A7 c7) (fun b=>b<w.heap.size∨bd≤b)):=hid (by
  obtain⟨_,_,e3,_,o3⟩:=HSc.out
  obtain⟨_,_,e7,_,o7⟩:=HLc.out
  cases e3
  cases e7
  refine⟨fun h0 b off e g=>?_,fun h0 b off e g=>?_,fun h0 b off e g=>?_,fun h0 b off e g=>?_⟩
  ·have h1:=(HLO.out b).1 h0 off e
   obtain⟨b',e',h2⟩:=o3 h0
   have e2:A3=some ⟨b,off,none⟩:=e
   rw[e'] at e2
   cases e2
   omega
  ·have h1:=(HLO.out b).2.1 h0 off e
   obtain⟨b',e',h2⟩:=o7 h0
   have e2:A7=some ⟨b,off,none⟩:=e
   rw[e'] at e2
   cases e2
   omega
  ·have h1:=(HLO.out b).2.2.1 off e
   have e2:Ax=some ⟨b,off,none⟩:=e
   have h2:=(HXc.out.lt (b:=b) (by rw[e2];rfl)).1
   omega
  ·have h1:=(HLO.out b).2.2.2 off e
   have e2:At=some ⟨b,off,none⟩:=e
   have h2:=(HTc.out.lt (b:=b) (by rw[e2];rfl)).1
   omega)
 clear HPC HRc HKc HSc HLc HXc HTc hks hrs
 go_wp2_with fail
 go_ret2
 exact⟨bd,bp,cp,Ax,cx,At,ct,A3,c3,A7,c7,rfl,HRS.out,HHM.out,HSep.out,HPS.out,by omega,by omega,HKS.out⟩
end Go.Proofs.YtphppbonljdibaaGreat
