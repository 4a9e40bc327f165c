import Derived.Test.YtphppbonljdibaaGreatTB20
set_option maxRecDepth 100000
set_option maxHeartbeats 4000000
set_option linter.unusedVariables false
set_option linter.unusedSimpArgs false
namespace Go.Proofs.YtphppbonljdibaaGreat
open Go.ChangeShapes Go.WideShapes Go.ChangeAt Go.RowKit
theorem szl_sum (h:Hd):((szl h).take 8).sum=fixW h+tapW h:=by
 unfold fixW tapW szl
 simp[List.take]
 omega
theorem slots_ok (h:Hd)(hp:PlOk h):0≤slotsW h∧slotsW h≤1048576∧(fixW h:Int)+tapW h+sltW h * slotsW h≤h.words∧(h.mode≠3→1≤slotsW h):=by
 have hb:=hp.1.bounds
 have hs:=slt_pos h hp.1
 have hn:=hp.2
 unfold needW at hn
 rw[szl_sum] at hn
 unfold leastW at hn
 unfold slotsW
 by_cases h3:h.mode=3
 ·rw[if_pos h3] at hn ⊢
  refine⟨by omega,by omega,?_,fun hx=>absurd h3 hx⟩
  push_cast at hn
  omega
 ·rw[if_neg h3] at hn ⊢
  generalize fixW h=f at *
  generalize tapW h=t at *
  generalize sltW h=s at *
  have h1:(0:Int)≤h.words - f - t:=by push_cast at hn;omega
  rw[Int.tdiv_eq_ediv_of_nonneg h1]
  have hs0:(0:Int)<s:=by omega
  have hd:=Int.mul_ediv_self_le (x:=h.words - f - t) (k:=(s:Int)) (by omega)
  have hlo:1≤(h.words - f - t) / (s:Int):=by
   rw[Int.le_ediv_iff_mul_le hs0]
   push_cast at hn
   omega
  have hup:(h.words - f - t) / (s:Int)≤h.words - f - t:=Int.ediv_le_self _ h1
  refine⟨by omega,by omega,by omega,fun _=>hlo⟩
theorem places_any (h:Hd)(w:World)(hM:HdM w h)(hp:PlOk h):Calls Tryz.prog 134 #[.agg h.v] w fun e w'=>∃ v,e=.returned (.tuple #[v,.int .i64 0])∧Owns w' w.heap.size 3 v (nvs (plc (szl h) (slotsW h).toNat))∧KW w w':=by
 obtain⟨s0,s1,s2,s3,s4,s5,s6,s7,s8,hS⟩:∃ s0 s1 s2 s3 s4 s5 s6 s7 s8:Nat,szl h=[s0,s1,s2,s3,s4,s5,s6,s7,s8]:=⟨_,_,_,_,_,_,_,_,_,rfl⟩
 have hB:=szl_le h hp.1
 have hsl:=slots_ok h hp
 have hk:=(KW.refl w).alloc (.cells h.v 27)
 have HMk:=hid ((make_good h _ (hM.kw hk) hp.1))
 have HSz:=hid (fun W (hW:KW w W)=>psizes_any h W (hM.kw hW) hp.1)
 have hh:=heap_alloc_new w (.cells h.v 27)
 have HR:Hid (∀ i v,h.v[i]?=some v→(w.alloc (.cells h.v 27)).cell? ⟨w.heap.size,i,none⟩=some v):=hid fun i v hv=>by
  unfold World.cell?
  rw[hh]
  exact hv
 have HPk:=hid hp
 have HK:=hid hk
 rw[hS] at hB HSz ⊢
 have hBB:∀ i,i<9→[s0,s1,s2,s3,s4,s5,s6,s7,s8].getD i 0≤1048576:=fun i hi=>Nat.le_trans (hB i hi) (by decide)
 obtain⟨sn,hsn⟩:∃ sn:Nat,slotsW h=sn:=⟨(slotsW h).toNat,by omega⟩
 have HSn:=hid hsn
 rw[hsn] at hsl ⊢
 rw[Int.toNat_natCast]
 have HLa:=hid (fun W=>lay_any s0 s1 s2 s3 s4 s5 s6 s7 s8 sn W hBB (by omega))
 have hiv:ivn [s0,s1,s2,s3,s4,s5,s6,s7,s8]=#[.int .i64 s0,.int .i64 s1,.int .i64 s2,.int .i64 s3,.int .i64 s4,.int .i64 s5,.int .i64 s6,.int .i64 s7,.int .i64 s8]:=rfl
 rw[hiv] at HSz HLa
 clear hk hM hp hB hBB hS hh hiv
 unfold MkP at HMk
 generalize plc [s0,s1,s2,s3,s4,s5,s6,s7,s8] sn=PL at *
 generalize fixW h=q1 at *
 generalize tapW h=q2 at *
 generalize sltW h=q3 at *
 generalize slotsW h=q4 at *
 generalize PlOk h=C at *
 unfold Hd.v hdv at *
 obtain⟨mode,xA,xc,xs,tA,tc,ts,⟨n,A,c,l⟩,⟨m,B,d,l'⟩,len,words⟩:=h
 simp only at *
 generalize xs.length=x at *
 generalize ts.length=t at *
 generalize l.length=N at *
 generalize l'.length=M at *
 go_enter Tryz.func134,Tryz.ntmps134
 go_wp2_with fail
 refine HMk.out.mono ?_
 rintro e w1 ⟨a1,b1,c1,k,r,rfl,hr,hq,hk1⟩
 obtain rfl:r=0:=hr.2 HPk.out
 obtain⟨rfl,rfl,rfl,rfl⟩:=hq HPk.out
 have HK1:=hid (HK.out.t hk1)
 have HCl:Hid (∀ i v,(hdv mode xA x xc tA t tc n A N c m B M d len words)[i]?=some v→w1.cell? ⟨w.heap.size,i,none⟩=some v):=hid fun i v hv=>(Below.cell hk1 (by simp)).trans (HR.out i v hv)
 have hlt:w.heap.size<w1.heap.size:=Nat.lt_of_lt_of_le (by simp) (Below.size hk1)
 clear hr hq hk1 HMk HR HK
 go_upto_region 4 with(fail)
 refine wpCode_world (fun W=>∃ b4,b4=w1.heap.size∧Hid (W.rowIs b4 35 4 (plf q1 q2 q3 sn))∧Hid (∀ i v,(hdv mode xA x xc tA t tc n A N c m B M d len words)[i]?=some v→W.cell? ⟨w.heap.size,i,none⟩=some v)∧Hid (KW w W)∧w.heap.size<W.heap.size) ⟨_,rfl,plan_row w1 q1 q2 q3 sn,fun i v hv=>(Below.cell ((KW.refl w1).alloc _) hlt).trans (HCl.out i v hv),HK1.out.alloc _,by simp;omega⟩ ?_
 rintro W3 ⟨b4,hb4,HR4,HC3,HK3,hlt3⟩
 rw[← hb4]
 clear hb4 HCl HK1 hlt
 have r0:=HC3.out 0 (.int .i64 mode) rfl
 have r1:=HC3.out 1 (.slice xA x xc) rfl
 have r2:=HC3.out 2 (.slice tA t tc) rfl
 have r3:=HC3.out 3 (.int .i64 n) rfl
 have r4:=HC3.out 4 (.slice A N c) rfl
 have r5:=HC3.out 5 (.int .i64 m) rfl
 have r6:=HC3.out 6 (.slice B M d) rfl
 have r7:=HC3.out 7 (.int .i64 len) rfl
 have r8:=HC3.out 8 (.int .i64 words) rfl
 have p3:=HR4.out.cell (i:=3) (by omega)
 unfold plf at p3
 simp only at p3
 have hXS:=And.intro r0 (And.intro r1 (And.intro r2 (And.intro r3 (And.intro r4 (And.intro r5 (And.intro r6 (And.intro r7 (And.intro r8 p3))))))))
 refine wpX_region (S:=fun w'=>w'.cell? ⟨w.heap.size,0,none⟩=some (.int .i64 mode)∧w'.cell? ⟨w.heap.size,1,none⟩=some (.slice xA x xc)∧w'.cell? ⟨w.heap.size,2,none⟩=some (.slice tA t tc)∧w'.cell? ⟨w.heap.size,3,none⟩=some (.int .i64 n)∧w'.cell? ⟨w.heap.size,4,none⟩=some (.slice A N c)∧w'.cell? ⟨w.heap.size,5,none⟩=some (.int .i64 m)∧w'.cell? ⟨w.heap.size,6,none⟩=some (.slice B M d)∧w'.cell? ⟨w.heap.size,7,none⟩=some (.int .i64 len)∧w'.cell? ⟨w.heap.size,8,none⟩=some (.int .i64 words)∧w'.cell? ⟨b4,3,none⟩=some (.int .i64 sn)) (L:=99) (by kernel_rfl) ?_
 refine tk 0 ?_ (fun _ _=>?_) hXS ?_;rotate_left;· go_simp;try rfl
 simp only[lsz,lss]
 refine tk 2 ?_ (fun _ _=>?_) hXS ?_;rotate_left;· go_simp;try rfl
 simp only[lsz,lss]
 refine tk 3 ?_ (fun _ _=>?_) hXS ?_;rotate_left;· go_simp;try rfl
 simp only[lsz,lss]
 refine wpX_hard (k:=1) (by kernel_rfl) rfl (fun K hK=>?_)
 go_simp
 refine(HSz.out _ HK3.out.drew).mono ?_
 rintro e w4 ⟨rfl,hk4⟩
 have hk34:KW W3 w4:=(KW.refl W3).drew.t hk4
 have HR5:=hid (KW.row hk34 HR4.out.lt HR4.out)
 have HC5:Hid (∀ i v,(hdv mode xA x xc tA t tc n A N c m B M d len words)[i]?=some v→w4.cell? ⟨w.heap.size,i,none⟩=some v):=hid fun i v hv=>(Below.cell hk34 hlt3).trans (HC3.out i v hv)
 have HK5:=hid (HK3.out.t hk34)
 have hlt5:w.heap.size<w4.heap.size:=Nat.lt_of_lt_of_le hlt3 (Below.size hk34)
 clear r0 r1 r2 r3 r4 r5 r6 r7 r8 p3 hXS hk4 hk34
 have r0:=HC5.out 0 (.int .i64 mode) rfl
 have r1:=HC5.out 1 (.slice xA x xc) rfl
 have r2:=HC5.out 2 (.slice tA t tc) rfl
 have r3:=HC5.out 3 (.int .i64 n) rfl
 have r4:=HC5.out 4 (.slice A N c) rfl
 have r5:=HC5.out 5 (.int .i64 m) rfl
 have r6:=HC5.out 6 (.slice B M d) rfl
 have r7:=HC5.out 7 (.int .i64 len) rfl
 have r8:=HC5.out 8 (.int .i64 words) rfl
 have p3:=HR5.out.cell (i:=3) (by omega)
 unfold plf at p3
 simp only at p3
 have hXS:=And.intro r0 (And.intro r1 (And.intro r2 (And.intro r3 (And.intro r4 (And.intro r5 (And.intro r6 (And.intro r7 (And.intro r8 p3))))))))
 refine hK _ _ (fun _=>hXS) ?_
 clear hK K
 try simp only[lsz,lss]
 refine wpX_hard (k:=4) (by kernel_rfl) rfl (fun K hK=>?_)
 go_simp
 refine(HLa.out _).mono ?_
 rintro e w6 ⟨v,rfl,ho6,hk6⟩
 have HK6:=hid (HK5.out.t hk6)
 have HO6:=hid (ho6.base (Below.size HK5.out))
 have HC6:Hid (∀ i v,(hdv mode xA x xc tA t tc n A N c m B M d len words)[i]?=some v→w6.cell? ⟨w.heap.size,i,none⟩=some v):=hid fun i v hv=>(Below.cell hk6 hlt5).trans (HC5.out i v hv)
 have HR6:=hid (KW.row hk6 HR5.out.lt HR5.out)
 clear r0 r1 r2 r3 r4 r5 r6 r7 r8 p3 hXS hk6 ho6
 have r0:=HC6.out 0 (.int .i64 mode) rfl
 have r1:=HC6.out 1 (.slice xA x xc) rfl
 have r2:=HC6.out 2 (.slice tA t tc) rfl
 have r3:=HC6.out 3 (.int .i64 n) rfl
 have r4:=HC6.out 4 (.slice A N c) rfl
 have r5:=HC6.out 5 (.int .i64 m) rfl
 have r6:=HC6.out 6 (.slice B M d) rfl
 have r7:=HC6.out 7 (.int .i64 len) rfl
 have r8:=HC6.out 8 (.int .i64 words) rfl
 have p3:=HR6.out.cell (i:=3) (by omega)
 unfold plf at p3
 simp only at p3
 have hXS:=And.intro r0 (And.intro r1 (And.intro r2 (And.intro r3 (And.intro r4 (And.intro r5 (And.intro r6 (And.intro r7 (And.intro r8 p3))))))))
 refine hK _ _ (fun _=>hXS) ?_
 clear hK K
 try simp only[lsz,lss]
 refine tk 5 ?_ (fun _ _=>?_) hXS ?_;rotate_left;· go_simp;try rfl
 simp only[lsz,lss]
 refine tk 6 ?_ (fun _ _=>?_) hXS ?_;rotate_left;· go_simp;try rfl
 simp only[lsz,lss]
 refine wpX_done (by kernel_rfl) ?_
 clear hXS r0 r1 r2 r3 r4 r5 r6 r7 r8 p3
 go_wp2_with fail
 go_ret2
 exact⟨v,rfl,HO6.out,HK6.out⟩
def HdSep (h:Hd)(P:Nat→Prop):Prop:=
 (0<h.st.l.length→∀ b off,h.st.A=some ⟨b,off,none⟩→¬ P b)∧(0<h.lo.l.length→∀ b off,h.lo.A=some ⟨b,off,none⟩→¬ P b)∧(0<h.xs.length→∀ b off,h.xA=some ⟨b,off,none⟩→¬ P b)∧(0<h.ts.length→∀ b off,h.tA=some ⟨b,off,none⟩→¬ P b)
theorem Keep.row1' {own:Nat→Prop}{w w':World}{A:Option Addr}{n:Nat}{f:Nat→Value}(h:Keep own w w')(c:Row1 w A n f)(hn:0<n→∀ b off,A=some ⟨b,off,none⟩→¬ own b):Row1 w' A n f:=fun h0=>by
 obtain⟨b,off,hA,hb,hc⟩:=c h0
 exact⟨b,off,hA,Nat.lt_of_lt_of_le hb h.size,fun k hk=>(h.cell hb (hn h0 b off hA)).trans (hc k hk)⟩
theorem PgM.keep {own:Nat→Prop}{w w':World}{p:Pg}(h:PgM w p)(hk:Keep own w w')(hs:0<p.l.length→∀ b off,p.A=some ⟨b,off,none⟩→¬ own b):PgM w' p:=⟨h.ops.keep hk hs,h.len,h.hv⟩
theorem HdM.keep {own:Nat→Prop}{w w':World}{h:Hd}(hM:HdM w h)(hk:Keep own w w')(hs:HdSep h own):HdM w' h:=
 ⟨hM.st.keep hk hs.1,hM.lo.keep hk hs.2.1,hk.row1' hM.x hs.2.2.1,hk.row1' hM.t hs.2.2.2,hM.xn,hM.tn,hM.x0,hM.t0⟩
theorem HdSep.mono {h:Hd}{P Q:Nat→Prop}(hs:HdSep h P)(hq:∀ b,Q b→P b):HdSep h Q:=
 ⟨fun a b o e q=>hs.1 a b o e (hq b q),fun a b o e q=>hs.2.1 a b o e (hq b q),fun a b o e q=>hs.2.2.1 a b o e (hq b q),fun a b o e q=>hs.2.2.2 a b o e (hq b q)⟩
def plN (h:Hd)(i:Nat):Nat:=((szl h).take i).sum
def szN (h:Hd)(i:Nat):Nat:=(szl h).getD i 0
def psl (h:Hd):List Int:=(plc (szl h) (slotsW h).toNat).map fun(n:Nat)=>(n:Int)
theorem psl_len (h:Hd):(psl h).length=10:=by simp[psl,plc_len]
theorem psl_get (h:Hd)(i:Nat)(hi:i<9):(psl h).getD i 0=(plN h i:Int):=by
 rcases(show i=0∨i=1∨i=2∨i=3∨i=4∨i=5∨i=6∨i=7∨i=8 by omega) with rfl|rfl|rfl|rfl|rfl|rfl|rfl|rfl|rfl<;>rfl
theorem plN_succ (h:Hd)(i:Nat)(hi:i<9):plN h (i+1)=plN h i+szN h i:=take_sum_succ (szl h) i (by rw[szl_len];omega)
theorem plN8 (h:Hd):plN h 8=fixW h+tapW h:=szl_sum h
theorem plN_mono (h:Hd){i j:Nat}(hij:i≤j)(hj:j≤9):plN h i≤plN h j:=by
 induction j with
 | zero=>obtain rfl:i=0:=by omega
         exact Nat.le_refl _
 | succ j ih=>
   rcases Nat.lt_or_ge i (j+1) with h1|h1
   ·have:=ih (by omega) (by omega)
    rw[plN_succ h j (by omega)]
    omega
   ·obtain rfl:i=j+1:=by omega
    exact Nat.le_refl _
structure Ds where
 bd:Nat
 bp:Nat
 cp:Nat
 ba:Nat
 bw:Nat
 bs:Nat
 bm:Nat
 h:Hd
structure Dy where
 W:List Int
 tags:List Int
 now:Int
 most:Int
 l:Nat
 at_:Nat
 pend:Int
 plain:Nat
 taped:Nat
 losses:Nat
 sweeps:Nat
 loss:Int
def Ds.own (D:Ds)(b:Nat):Prop:=b=D.bd∨b=D.bw∨b=D.bm
def Ds.x (D:Ds):Nat:=D.h.xs.length
def Ds.n (D:Ds):Nat:=(slotsW D.h).toNat
def Ds.f (D:Ds):Nat:=plN D.h 8
def Ds.L (D:Ds):Nat:=D.h.words.toNat
def Ds.given (D:Ds):Nat:=D.f+D.n * (D.x+1)
structure DsOk (D:Ds):Prop where
 ok:PlOk D.h
 m3:D.h.mode≠3
 ne:D.bd≠D.bw∧D.bd≠D.bm∧D.bw≠D.bm
 np:¬ D.own D.bp
 na:¬ D.own D.ba
 ns:¬ D.own D.bs
 sep:HdSep D.h D.own
def drs (D:Ds):Nat→Value
 | 0=>.int .i64 (fixW D.h)
 | 1=>.int .i64 (tapW D.h)
 | 2=>.int .i64 (sltW D.h)
 | 3=>.int .i64 (slotsW D.h)
 | 4=>.int .i64 D.h.mode
 | 5=>.slice D.h.xA D.h.xs.length D.h.xc
 | 6=>.slice D.h.tA D.h.ts.length D.h.tc
 | 7=>.int .i64 D.h.st.n
 | 8=>.slice D.h.st.A D.h.st.l.length D.h.st.c
 | 9=>.int .i64 D.h.lo.n
 | 10=>.slice D.h.lo.A D.h.lo.l.length D.h.lo.c
 | 11=>.int .i64 D.h.len
 | 12=>.int .i64 D.h.words
 | 13=>.slice (some ⟨D.bp,0,none⟩) 10 D.cp
 | 14=>.pointer (some ⟨D.ba,0,none⟩)
 | 15=>.pointer (some ⟨D.bs,0,none⟩)
 | _=>.pointer (some ⟨D.bm,0,none⟩)
def dry (S:Dy):Nat→Value
 | 17=>.int .i64 S.l
 | 18=>.int .i64 S.at_
 | 19=>.int .i64 S.pend
 | 20=>.int .i64 S.plain
 | 21=>.int .i64 S.taped
 | 22=>.int .i64 S.losses
 | 23=>.int .i64 S.sweeps
 | _=>.int .u64 S.loss
def drf (D:Ds)(S:Dy)(i:Nat):Value:=if i<17 then drs D i else dry S i
structure DrM (w:World)(D:Ds)(S:Dy):Prop where
 ds:DsOk D
 row:w.rowIs D.bd 137 25 (drf D S)
 hm:HdM w D.h
 pr:∀ i,i<10→w.cell? ⟨D.bp,i,none⟩=some (.int .i64 ((psl D.h).getD i 0))
 ar:ArM w D.ba D.bw D.L S.W D.given
 sl:SlM w D.bs D.f D.n D.x D.ba
 mt:MetM w D.bm S.now S.most D.h.words
 tg:TagsB S.W D.f D.n D.x S.tags
theorem DsOk.x1 {D:Ds}(h:DsOk D):1≤D.x∧D.x≤64:=h.ok.1.bounds.2.2.2.1
theorem DsOk.slt {D:Ds}(h:DsOk D):sltW D.h=D.x+1:=by
 unfold sltW szl Ds.x
 simp only[List.getD_cons_succ,List.getD_cons_zero]
 exact if_neg h.m3
theorem DsOk.nI {D:Ds}(h:DsOk D):(D.n:Int)=slotsW D.h:=Int.toNat_of_nonneg (slots_ok D.h h.ok).1
theorem DsOk.LI {D:Ds}(h:DsOk D):(D.L:Int)=D.h.words:=Int.toNat_of_nonneg h.ok.1.bounds.2.2.2.2.2.2.2.1
theorem DsOk.L20 {D:Ds}(h:DsOk D):D.L≤1048576:=by
 have:=h.LI
 have:=h.ok.1.bounds.2.2.2.2.2.2.2.2
 omega
theorem DsOk.fit {D:Ds}(h:DsOk D):D.given≤D.L:=by
 have h1:=(slots_ok D.h h.ok).2.2.1
 have h2:=h.slt
 have h3:=h.nI
 have h4:=h.LI
 have h5:=plN8 D.h
 unfold Ds.given Ds.f
 rw[h2,← h3,← h4] at h1
 have h6:((plN D.h 8+D.n * (D.x+1):Nat):Int)≤D.L:=by
  rw[h5]
  push_cast
  have:((D.x:Int)+1) * D.n=D.n * (D.x+1):=Int.mul_comm _ _
  push_cast at h1
  omega
 omega
theorem DsOk.slb {D:Ds}(h:DsOk D):SlB D.f D.n D.x D.given:=⟨Nat.le_refl _,h.x1.2,Nat.le_trans h.fit h.L20⟩
theorem DrM.cell {w:World}{D:Ds}{S:Dy}(h:DrM w D S){i:Nat}(hi:i<25):w.cell? ⟨D.bd,i,none⟩=some (drf D S i):=World.rowIs.cell h.row hi
theorem DrM.drp {w:World}{D:Ds}{S:Dy}(h:DrM w D S):DrP w D.bd D.bp D.cp D.ba (psl D.h):=
 ⟨by rw[psl_len];exact h.cell (i:=13) (by omega),h.cell (i:=14) (by omega),fun i hi=>h.pr i (by rw[psl_len] at hi;exact hi)⟩
theorem DrM.kw {w w':World}{D:Ds}{S:Dy}(h:DrM w D S)(hk:KW w w'):DrM w' D S:=
 ⟨h.ds,KW.row hk (World.rowIs.lt h.row) h.row,h.hm.kw hk,fun i hi=>(hk.keep (own:=fun _=>False)).cs id (h.pr i hi),h.ar.kw hk,h.sl.kw hk,h.mt.kw hk,h.tg⟩
theorem DrM.keep {own:Nat→Prop}{w w':World}{D:Ds}{S:Dy}(h:DrM w D S)(hk:Keep own w w')(hn:∀ b,b<w.heap.size→¬ own b):DrM w' D S:=
 h.kw (Keep.kw (hk.mono fun i hi ho=>hn i hi ho))
theorem DrM.words {w w':World}{D:Ds}{S:Dy}(h:DrM w D S)(hk:Keep (· = D.bw) w w'){W' tags':List Int}(ha:ArM w' D.ba D.bw D.L W' D.given)(ht:TagsB W' D.f D.n D.x tags'):DrM w' D { S with W:=W',tags:=tags' }:=
 have no:∀ b,¬ D.own b→¬ b=D.bw:=fun b hb e=>hb (.inr (.inl e))
 ⟨h.ds,hk.row h.ds.ne.1 h.row,h.hm.keep hk (h.ds.sep.mono fun b e=>.inr (.inl e)),fun i hi=>hk.cs (no _ h.ds.np) (h.pr i hi),ha,h.sl.keep hk (no _ h.ds.ns),h.mt.keep hk (Ne.symm h.ds.ne.2.2),ht⟩
theorem DrM.meter {w w':World}{D:Ds}{S:Dy}(h:DrM w D S)(hk:Keep (· = D.bm) w w'){x y:Int}(hm:MetM w' D.bm x y D.h.words):DrM w' D { S with now:=x,most:=y }:=
 have no:∀ b,¬ D.own b→¬ b=D.bm:=fun b hb e=>hb (.inr (.inr e))
 ⟨h.ds,hk.row h.ds.ne.2.1 h.row,h.hm.keep hk (h.ds.sep.mono fun b e=>.inr (.inr e)),fun i hi=>hk.cs (no _ h.ds.np) (h.pr i hi),h.ar.keep hk (no _ h.ds.na) h.ds.ne.2.2,h.sl.keep hk (no _ h.ds.ns),hm,h.tg⟩
theorem DrM.both {w w':World}{D:Ds}{S:Dy}(h:DrM w D S)(hk:Keep (fun b=>b=D.bw∨b=D.bm) w w'){W' tags':List Int}{x y:Int}(ha:ArM w' D.ba D.bw D.L W' D.given)(ht:TagsB W' D.f D.n D.x tags')(hm:MetM w' D.bm x y D.h.words):DrM w' D { S with W:=W',tags:=tags',now:=x,most:=y }:=
 have no:∀ b,¬ D.own b→¬ (b=D.bw∨b=D.bm):=fun b hb e=>hb (.inr e)
 ⟨h.ds,hk.row (fun e=>e.elim h.ds.ne.1 h.ds.ne.2.1) h.row,h.hm.keep hk (h.ds.sep.mono fun b e=>.inr e),fun i hi=>hk.cs (no _ h.ds.np) (h.pr i hi),ha,h.sl.keep hk (no _ h.ds.ns),hm,ht⟩
theorem DrM.setc {w:World}{D:Ds}{S:Dy}(h:DrM w D S)(i:Nat)(v:Value)(S':Dy)(h17:17≤i)(hv:∀ j,17≤j→j<25→(if j=i then v else dry S j)=dry S' j)(hs:S'.W=S.W∧S'.tags=S.tags∧S'.now=S.now∧S'.most=S.most):DrM (w.setCell ⟨D.bd,i,none⟩ v) D S':=by
 have hk:Keep (· = D.bd) w (w.setCell ⟨D.bd,i,none⟩ v):=(Keep.refl _ w).setCell _ _ rfl
 have no:∀ b,¬ D.own b→¬ b=D.bd:=fun b hb e=>hb (.inl e)
 refine⟨h.ds,(World.rowIs.set h.row i v).congr fun j hj=>?_,h.hm.keep hk (h.ds.sep.mono fun b e=>.inl e),fun i hi=>hk.cs (no _ h.ds.np) (h.pr i hi),?_,h.sl.keep hk (no _ h.ds.ns),?_,?_⟩
 ·unfold drf
  by_cases h1:j<17
  ·rw[if_pos h1,if_pos h1,if_neg (by omega)]
  ·rw[if_neg h1,if_neg h1]
   exact hv j (by omega) hj
 ·rw[hs.1];exact h.ar.keep hk (no _ h.ds.na) (Ne.symm h.ds.ne.1)
 ·rw[hs.2.2.1,hs.2.2.2];exact h.mt.keep hk (Ne.symm h.ds.ne.2.1)
 ·rw[hs.1,hs.2.1];exact h.tg
theorem DrM.setAt {w:World}{D:Ds}{S:Dy}(h:DrM w D S)(x:Nat):DrM (w.setCell ⟨D.bd,18,none⟩ (.int .i64 x)) D { S with at_:=x }:=h.setc 18 _ _ (by omega) (fun j h1 h2=>by rcases(show j=17∨j=18∨j=19∨j=20∨j=21∨j=22∨j=23∨j=24 by omega) with rfl|rfl|rfl|rfl|rfl|rfl|rfl|rfl<;>rfl) ⟨rfl,rfl,rfl,rfl⟩
theorem DrM.setL {w:World}{D:Ds}{S:Dy}(h:DrM w D S)(x:Nat):DrM (w.setCell ⟨D.bd,17,none⟩ (.int .i64 x)) D { S with l:=x }:=h.setc 17 _ _ (by omega) (fun j h1 h2=>by rcases(show j=17∨j=18∨j=19∨j=20∨j=21∨j=22∨j=23∨j=24 by omega) with rfl|rfl|rfl|rfl|rfl|rfl|rfl|rfl<;>rfl) ⟨rfl,rfl,rfl,rfl⟩
theorem DrM.setPend {w:World}{D:Ds}{S:Dy}(h:DrM w D S)(x:Int):DrM (w.setCell ⟨D.bd,19,none⟩ (.int .i64 x)) D { S with pend:=x }:=h.setc 19 _ _ (by omega) (fun j h1 h2=>by rcases(show j=17∨j=18∨j=19∨j=20∨j=21∨j=22∨j=23∨j=24 by omega) with rfl|rfl|rfl|rfl|rfl|rfl|rfl|rfl<;>rfl) ⟨rfl,rfl,rfl,rfl⟩
theorem DrM.setPlain {w:World}{D:Ds}{S:Dy}(h:DrM w D S)(x:Nat):DrM (w.setCell ⟨D.bd,20,none⟩ (.int .i64 x)) D { S with plain:=x }:=h.setc 20 _ _ (by omega) (fun j h1 h2=>by rcases(show j=17∨j=18∨j=19∨j=20∨j=21∨j=22∨j=23∨j=24 by omega) with rfl|rfl|rfl|rfl|rfl|rfl|rfl|rfl<;>rfl) ⟨rfl,rfl,rfl,rfl⟩
theorem DrM.setTaped {w:World}{D:Ds}{S:Dy}(h:DrM w D S)(x:Nat):DrM (w.setCell ⟨D.bd,21,none⟩ (.int .i64 x)) D { S with taped:=x }:=h.setc 21 _ _ (by omega) (fun j h1 h2=>by rcases(show j=17∨j=18∨j=19∨j=20∨j=21∨j=22∨j=23∨j=24 by omega) with rfl|rfl|rfl|rfl|rfl|rfl|rfl|rfl<;>rfl) ⟨rfl,rfl,rfl,rfl⟩
theorem DrM.setLosses {w:World}{D:Ds}{S:Dy}(h:DrM w D S)(x:Nat):DrM (w.setCell ⟨D.bd,22,none⟩ (.int .i64 x)) D { S with losses:=x }:=h.setc 22 _ _ (by omega) (fun j h1 h2=>by rcases(show j=17∨j=18∨j=19∨j=20∨j=21∨j=22∨j=23∨j=24 by omega) with rfl|rfl|rfl|rfl|rfl|rfl|rfl|rfl<;>rfl) ⟨rfl,rfl,rfl,rfl⟩
theorem DrM.setSweeps {w:World}{D:Ds}{S:Dy}(h:DrM w D S)(x:Nat):DrM (w.setCell ⟨D.bd,23,none⟩ (.int .i64 x)) D { S with sweeps:=x }:=h.setc 23 _ _ (by omega) (fun j h1 h2=>by rcases(show j=17∨j=18∨j=19∨j=20∨j=21∨j=22∨j=23∨j=24 by omega) with rfl|rfl|rfl|rfl|rfl|rfl|rfl|rfl<;>rfl) ⟨rfl,rfl,rfl,rfl⟩
theorem DrM.setLoss {w:World}{D:Ds}{S:Dy}(h:DrM w D S)(x:Int):DrM (w.setCell ⟨D.bd,24,none⟩ (.int .u64 x)) D { S with loss:=x }:=h.setc 24 _ _ (by omega) (fun j h1 h2=>by rcases(show j=17∨j=18∨j=19∨j=20∨j=21∨j=22∨j=23∨j=24 by omega) with rfl|rfl|rfl|rfl|rfl|rfl|rfl|rfl<;>rfl) ⟨rfl,rfl,rfl,rfl⟩
def Dy.get (S:Dy)(D:Ds)(i:Nat):List Int:=getL S.W (plN D.h i) (szN D.h i)
def Dy.put (S:Dy)(D:Ds)(i:Nat)(l:List Int):Dy:={ S with W:=putL S.W (plN D.h i) l }
theorem TagsB.low {W:List Int}{f n x p given:Nat}{tags xs:List Int}(h:TagsB W f n x tags)(hp:p+xs.length≤f)(hf:f+n * (x+1)≤W.length):TagsB (putL W p xs) f n x tags:=
 ⟨h.len,fun k hk=>by
  have h1:k * (x+1)+(x+1)≤n * (x+1):=by rw[← Nat.succ_mul];exact Nat.mul_le_mul_right _ hk
  rw[putL_get (by omega),if_neg (by omega)]
  exact h.wd k hk,h.lo⟩
theorem DrM.Wl {w:World}{D:Ds}{S:Dy}(h:DrM w D S):S.W.length=D.L:=h.ar.len
theorem DrM.part {w:World}{D:Ds}{S:Dy}(h:DrM w D S){i:Nat}(hi:i<8):plN D.h i+szN D.h i≤D.f∧D.f≤D.given∧D.given≤S.W.length:=by
 refine⟨by rw[← plN_succ D.h i (by omega)];exact plN_mono D.h (by omega) (by omega),Nat.le_add_right _ _,by rw[h.Wl];exact h.ds.fit⟩
theorem DrM.get_len {w:World}{D:Ds}{S:Dy}(h:DrM w D S){i:Nat}(hi:i<8):(S.get D i).length=szN D.h i:=getL_len (by have:=h.part hi;omega)
theorem dget (D:Ds)(S:Dy)(part:Nat)(w:World)(h:DrM w D S)(hp:part<8):
 Calls Tryz.prog 119 #[.pointer (some ⟨D.bd,0,none⟩),.int .i64 part] w fun e w'=>∃ v,e=.returned v∧Owns w' w.heap.size 81 v (u64s (S.get D part))∧KW w w':=by
 have:=h.part hp
 exact dget_any D.bd D.bp D.cp D.ba D.bw D.L D.given part (plN D.h part) (szN D.h part) (psl D.h) S.W w h.drp h.ar (by rw[psl_len];omega) (by rw[psl_len];omega) (psl_get D.h part (by omega)) (by rw[psl_get D.h (part+1) (by omega),plN_succ D.h part (by omega)];push_cast;rfl) (by omega)
theorem dput (D:Ds)(S:Dy)(part:Nat)(l:List Int)(v:Value)(w:World)(h:DrM w D S)(hp:part<8)(hv:HU w v l)(hl:l.length≤szN D.h part):
 Calls Tryz.prog 105 #[.pointer (some ⟨D.bd,0,none⟩),.int .i64 part,v] w fun e w'=>e=.returned (.tuple #[])∧DrM w' D (S.put D part l)∧Keep (· = D.bw) w w':=by
 have h8:=h.part hp
 refine(dput_any D.bd D.bp D.cp D.ba D.bw D.L D.given part (plN D.h part) (psl D.h) S.W l v w h.drp h.ar (by rw[psl_len];omega) (by rw[psl_len];omega) (psl_get D.h part (by omega)) (by omega) hv ⟨h.ds.ne.1,fun e=>h.ds.np (.inr (.inl e))⟩).mono ?_
 rintro e w' ⟨rfl,ha,hk⟩
 refine⟨rfl,h.words hk ha (h.tg.low (given:=0) (by omega) ?_),hk⟩
 have:=h.part hp
 have:=h.ds.slb.fit
 omega
def Dy.reg0 (S:Dy)(D:Ds)(N:Nat)(l1 l3:List Int):List Int:=(l1++S.get D 0++l3)++List.replicate (N - (l1.length+D.h.ts.length+l3.length)) 0
theorem Dy.reg0_len (S:Dy)(D:Ds)(N:Nat)(l1 l3:List Int)(h:l1.length+(S.get D 0).length+l3.length≤N)(ht:(S.get D 0).length=D.h.ts.length):(S.reg0 D N l1 l3).length=N:=by
 unfold Dy.reg0
 simp only[List.length_append,List.length_replicate]
 omega
theorem dbegin (D:Ds)(S:Dy)(pl c1 N n1 n3 cx c3:Nat)(A gx g3:Option Addr)(l1 l3:List Int)(w:World)(h:DrM w D S)
 (hu1:HU w (.slice gx n1 cx) l1) (hu3:HU w (.slice g3 n3 c3) l3) (hl1:l1.length=n1) (hl3:l3.length=n3) (hn1:1≤n1) (hT:n1+D.h.ts.length+n3≤N) (hN:N≤64):
 Calls Tryz.prog 180 #[.pointer (some ⟨D.bd,0,none⟩),.agg (pgv (N:Int) A pl c1),.slice gx n1 cx,.slice g3 n3 c3] w fun e w'=>∃ gr cap,e=.returned (.slice (some ⟨gr,0,none⟩) N cap)∧Owns w' w.heap.size 81 (.slice (some ⟨gr,0,none⟩) N cap) (u64s (S.reg0 D N l1 l3))∧KW w w':=by
 have h8:=h.part (i:=0) (by omega)
 have h0:szN D.h 0=D.h.ts.length:=rfl
 have hp0:plN D.h 0=0:=rfl
 refine(dbegin_any D.bd D.bp D.cp D.ba D.bw D.L D.given 0 D.h.ts.length pl c1 N n1 n3 cx c3 A gx g3 (psl D.h) S.W l1 l3 w h.drp h.ar (by rw[psl_len];omega) (by rw[psl_len];omega) (psl_get D.h 0 (by omega)) (by rw[psl_get D.h 1 (by omega),plN_succ D.h 0 (by omega),hp0,h0];push_cast;rfl) (by omega) hu1 hu3 hl1 hl3 hn1 hT hN).mono ?_
 rintro e w' ⟨gr,cap,he,ho,hk⟩
 refine⟨gr,cap,he,?_,hk⟩
 unfold Dy.reg0 Dy.get
 rw[hp0,h0,hl1,hl3]
 exact ho
def Ds.N (D:Ds):Nat:=D.h.st.n.toNat
def Ds.M (D:Ds):Nat:=D.h.lo.n.toNat
def Ds.a (D:Ds):Nat:=wct D.h.st.l
def Ds.b (D:Ds):Nat:=wct D.h.lo.l
def Dy.stepR (S:Dy)(D:Ds)(p:Nat):List Int:=Fl.sts (S.reg0 D D.N (S.get D 1) [(p:Int)]) (Fl.unr D.h.st.l)
def Dy.stepT (S:Dy)(D:Ds)(p:Nat):List Int:=Fl.tps (S.reg0 D D.N (S.get D 1) [(p:Int)]) (Fl.unr D.h.st.l)
def Dy.taped1 (S:Dy)(D:Ds):Dy:={ S.put D 2 (S.stepR D S.at_) with taped:=S.taped+1 }
def adds (g a:List Int):List Int:=List.zipWith (fun x y=>IntKind.u64.wrap (x+y)) g a
def Dy.back (S:Dy)(D:Ds)(l:List Fl.O)(R A T:List Int):Dy:=
 let A':=(Fl.bks T (R,A) (Fl.unr l).reverse).2
 let S2:=(S.put D 4 A').put D 5 (A'.take D.x)
 { S2.put D 6 (adds (S2.get D 6) (A'.drop D.x)) with sweeps:=S.sweeps+1 }
def Dy.end_ (S:Dy)(D:Ds)(x:List Int):Dy:=
 let R0:=S.reg0 D D.M x []
 let R:=Fl.sts R0 (Fl.unr D.h.lo.l)
 let S1:={ S with losses:=S.losses+1,loss:=R.getD 0 0 }
 (S1.put D 3 R).back D D.h.lo.l R (1::List.replicate (D.M - 1) 0) (Fl.tps R0 (Fl.unr D.h.lo.l))
def Dy.turn (S:Dy)(D:Ds)(R T:List Int):Dy:=S.back D D.h.st.l R (S.get D 5++List.replicate (D.N - D.x) 0) T
def Dy.hold (S:Dy)(n:Int):Dy:={ S with now:=S.now+n,most:=max S.most (S.now+n) }
def Dy.drop (S:Dy)(n:Int):Dy:={ S with now:=S.now - n,most:=max S.most (S.now - n) }
def Dy.adv1 (S:Dy)(D:Ds)(p:Nat):Dy:=
 let R:=S.stepR D p
 { (S.put D 2 R).put D 1 (R.take D.x) with plain:=S.plain+1 }
def Dy.advance (S:Dy)(D:Ds):Nat→Dy
 | 0=>S
 | n+1=>(S.advance D n).adv1 D (S.at_+n)
def Dy.store (S:Dy)(D:Ds)(k:Nat):Dy:=
 { (S.hold (D.x+1:Nat)) with W:=putL S.W (D.f+k * (D.x+1)) (((S.at_+1:Nat):Int)::S.get D 1),tags:=S.tags.set k S.at_ }
def Dy.restore (S:Dy)(D:Ds)(k:Nat):Dy:=S.put D 1 (getL S.W (D.f+k * (D.x+1)+1) D.x)
def Dy.free (S:Dy)(D:Ds)(k:Nat):Dy:=
 { (S.drop (D.x+1:Nat)) with W:=putL S.W (D.f+k * (D.x+1)) (List.replicate (D.x+1) 0),tags:=S.tags.set k (-1) }
def Dy.seed (S:Dy)(D:Ds):Dy:=(((S.hold D.b).end_ D ((S.hold D.b).get D 1))).drop D.b
def Dy.both (S:Dy)(D:Ds):Dy:=
 let S0:=S.hold (D.a+D.b:Nat)
 let R:=S0.stepR D S0.at_
 let T:=S0.stepT D S0.at_
 ((((S0.taped1 D).end_ D (R.take D.x)).turn D R T).drop (D.a+D.b:Nat))
def Dy.reverse (S:Dy)(D:Ds):Dy:=
 let S0:=S.hold D.a
 ((S0.taped1 D).turn D (S0.stepR D S0.at_) (S0.stepT D S0.at_)).drop D.a
def Dy.move (S:Dy)(D:Ds)(k:Int)(n:Nat):Dy:=
 if k=1 then S.advance D n else if k=2 then S.store D n else if k=3 then S.restore D n else if k=4 then S.free D n else if k=5 then S.seed D else if k=6 then S.both D else S.reverse D
structure DrLow (D:Ds)(K:Nat):Prop where
 bd:D.bd<K
 bp:D.bp<K
 ba:D.ba<K
 bw:D.bw<K
 bs:D.bs<K
 bm:D.bm<K
 sep:HdSep D.h (fun b=>K≤b)
theorem Row1.low {w:World}{A:Option Addr}{n:Nat}{f:Nat→Value}(c:Row1 w A n f)(h0:0<n)(b off:Nat)(e:A=some ⟨b,off,none⟩):¬ w.heap.size≤b:=by
 obtain⟨b',off',hA,hb,_⟩:=c h0
 rw[e] at hA
 cases hA
 omega
theorem OpsM.low {w:World}{A:Option Addr}{l:List Fl.O}(c:OpsM w A l)(h0:0<l.length)(b off:Nat)(e:A=some ⟨b,off,none⟩):¬ w.heap.size≤b:=by
 obtain⟨b',off',hA,hb,_⟩:=c h0
 rw[e] at hA
 cases hA
 omega
theorem World.cell?_lt {w:World}{b o:Nat}{v:Value}(h:w.cell? ⟨b,o,none⟩=some v):b<w.heap.size:=by
 apply Nat.lt_of_not_le
 intro hge
 have:w.heap[b]?=none:=Array.getElem?_eq_none hge
 unfold World.cell? at h
 simp only[this] at h
 cases h
theorem DrM.low {w:World}{D:Ds}{S:Dy}(h:DrM w D S):DrLow D w.heap.size:=
 ⟨World.rowIs.lt h.row,World.cell?_lt (h.pr 0 (by omega)),h.ar.cells.1,World.rowIs.lt h.ar.ws,h.sl.cells.1,h.mt.lt,
  fun a b o e=>h.hm.st.ops.low a b o e,fun a b o e=>h.hm.lo.ops.low a b o e,fun a b o e=>h.hm.x.low a b o e,fun a b o e=>h.hm.t.low a b o e⟩
theorem DrLow.own {D:Ds}{K:Nat}(h:DrLow D K){b:Nat}(hb:K≤b):¬ D.own b:=by
 rintro(e|e|e)
 ·have:=h.bd;omega
 ·have:=h.bw;omega
 ·have:=h.bm;omega
theorem DrM.keepK {own:Nat→Prop}{K:Nat}{w w':World}{D:Ds}{S:Dy}(h:DrM w D S)(hl:DrLow D K)(hk:Keep own w w')(hn:∀ b,own b→K≤b):DrM w' D S:=
 have no:∀ b,b<K→¬ own b:=fun b hb e=>by have:=hn b e;omega
 ⟨h.ds,hk.row (no _ hl.bd) h.row,h.hm.keep hk (hl.sep.mono hn),fun i hi=>hk.cs (no _ hl.bp) (h.pr i hi),h.ar.keep hk (no _ hl.ba) (no _ hl.bw),h.sl.keep hk (no _ hl.bs),h.mt.keep hk (no _ hl.bm),h.tg⟩
def Ds.up (D:Ds)(K:Nat)(b:Nat):Prop:=D.own b∨K≤b
theorem Keep.up {own:Nat→Prop}{w w':World}{D:Ds}{K:Nat}(h:Keep own w w')(hn:∀ b,own b→D.up K b):Keep (D.up K) w w':=h.mono fun i _ e=>hn i e
theorem Keep.upw {w w':World}{D:Ds}{K:Nat}(h:Keep (· = D.bw) w w'):Keep (D.up K) w w':=h.up fun b e=>.inl (.inr (.inl e))
theorem Keep.upd {w w':World}{D:Ds}{K:Nat}(h:Keep (· = D.bd) w w'):Keep (D.up K) w w':=h.up fun b e=>.inl (.inl e)
theorem Keep.down {w w':World}{D:Ds}(h:Keep (D.up w.heap.size) w w'):Keep D.own w w':=h.mono fun i hi e=>e.elim id fun g=>by omega
theorem regM_take {w:World}{g N c:Nat}{A:List Int}(h:RegM w (.slice (some ⟨g,0,none⟩) N c) A)(hN:A.length=N)(n c':Nat)(hn:n≤N):HU w (.slice (some ⟨g,0,none⟩) n c') (A.take n):=by
 have hl:(A.take n).length=n:=by rw[List.length_take];omega
 refine⟨by rw[u64s_len,hl];omega,u64s_one _,.inr ⟨⟨g,0,none⟩,c',by rw[hl],fun j y hj=>?_⟩⟩
 have hlt:j<(A.take n).length:=by
  have:=(List.getElem?_eq_some_iff.1 hj).1
  rw[u64s_len] at this
  exact this
 rw[hl] at hlt
 have hc:=(h.at_ (i:=j) (by omega)).2.1
 rw[show(⟨g,0,none⟩:Addr).add j=⟨g,j,none⟩ by unfold Addr.add;split<;>simp_all,hc]
 have:(u64s (A.take n))[j]?=some (.int .u64 (A.getD j 0)):=by
  unfold u64s
  rw[List.getElem?_map,List.getElem?_take,if_pos hlt,List.getElem?_eq_getElem (by omega)]
  simp[List.getD,show j<A.length by omega]
 rw[this] at hj
 exact hj
def mixs (g a:List Int)(k:Nat):List Int:=(adds g a).take k++g.drop k
theorem mixs_0 (g a:List Int):mixs g a 0=g:=by simp[mixs]
theorem adds_len {g a:List Int}(h:g.length≤a.length):(adds g a).length=g.length:=by simp[adds];omega
theorem mixs_all {g a:List Int}(h:g.length≤a.length):mixs g a g.length=adds g a:=by
 unfold mixs
 rw[List.drop_length,List.append_nil,List.take_of_length_le (by rw[adds_len h];exact Nat.le_refl _)]
theorem mixs_len {g a:List Int}(h:g.length≤a.length)(k:Nat)(hk:k≤g.length):(mixs g a k).length=g.length:=by
 unfold mixs
 rw[List.length_append,List.length_take,List.length_drop,adds_len h]
 omega
theorem mixs_get {g a:List Int}(h:g.length≤a.length)(k:Nat)(hk:k<g.length):(mixs g a k).getD k 0=g.getD k 0:=by
 have hl:((adds g a).take k).length=k:=by rw[List.length_take,adds_len h];omega
 unfold mixs
 rw[List.getD_eq_getElem?_getD,List.getElem?_append_right (by omega),hl,Nat.sub_self,List.getElem?_drop,Nat.add_zero,← List.getD_eq_getElem?_getD]
theorem mixs_set {g a:List Int}(h:g.length≤a.length)(k:Nat)(hk:k<g.length):(mixs g a k).set k (IntKind.u64.wrap (g.getD k 0+a.getD k 0))=mixs g a (k+1):=by
 have hl:((adds g a).take k).length=k:=by rw[List.length_take,adds_len h];omega
 have hk2:k<(adds g a).length:=by rw[adds_len h];exact hk
 have e1:(adds g a)[k]=IntKind.u64.wrap (g.getD k 0+a.getD k 0):=by
  have e2:(adds g a)[k]?=some (IntKind.u64.wrap (g.getD k 0+a.getD k 0)):=by
   unfold adds
   rw[List.getElem?_zipWith]
   simp[List.getD,hk,show k<a.length by omega]
  rw[List.getElem?_eq_getElem hk2] at e2
  exact Option.some.inj e2
 unfold mixs
 rw[List.set_append_right _ _ (by omega),hl,Nat.sub_self,List.drop_eq_getElem_cons hk,List.set_cons_zero,List.take_succ_eq_append_getElem hk2,e1,List.append_assoc]
 rfl
end Go.Proofs.YtphppbonljdibaaGreat
