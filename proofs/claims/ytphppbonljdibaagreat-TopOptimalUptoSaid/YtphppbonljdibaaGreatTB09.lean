import Derived.Test.YtphppbonljdibaaGreatTB08
import Derived.ScopeJumps
import Derived.WalkMore
set_option maxRecDepth 100000
set_option maxHeartbeats 4000000
set_option linter.unusedVariables false
set_option linter.unusedSimpArgs false
namespace Go.Proofs.YtphppbonljdibaaGreat
open Go.ChangeShapes Go.WideShapes Go.ChangeAt Go.RowKit
theorem nvs_get (l:List Nat){i:Nat}(h:i<l.length):(nvs l).getD i undef=.int .i64 (l.getD i 0:Nat):=by simp[nvs,h]
theorem ivs_get (l:List Int){i:Nat}(h:i<l.length):(ivs l).getD i undef=.int .i64 (l.getD i 0):=by simp[ivs,h]
theorem getD_get {α:Type}{l:List α}{i:Nat}{x d:α}(h:l[i]?=some x):l.getD i d=x:=by simp[List.getD_eq_getElem?_getD,h]
structure CB (base:Nat)(v o:Value)(out:List Fl.I)(opn:List Nat)(w:World):Prop where
 out:OwnsI w base v out
 opn:Owns w base 3 o (nts opn)
 ap:∀ b,v.ownBlock=some b→o.ownBlock≠some b
theorem CB.kw {base:Nat}{v o:Value}{out:List Fl.I}{opn:List Nat}{w w':World}(h:CB base v o out opn w)(hk:KW w w'):CB base v o out opn w':=⟨h.out.kw hk,h.opn.on hk,h.ap⟩
theorem CB.app {base:Nat}{v v' o:Value}{out:List Fl.I}{opn:List Nat}{W w':World}{ob:Obj}{i:Fl.I}(h:CB base v o out opn W)(ho:OwnsI w' base v' (out++[i]))(hk:Keep (fun b=>v.ownBlock=some b) (W.alloc ob) w')
 (hv:v'.ownBlock=v.ownBlock∨∃ j,v'.ownBlock=some j∧W.heap.size≤j):CB base v' o (out++[i]) opn w':=by
 refine⟨ho,hk.owns (h.opn.alloc ob) fun b hb hb2=>h.ap b hb2 hb,fun b hb=>?_⟩
 rcases hv with h1|⟨j,h1,h2⟩
 ·exact h.ap b (h1 ▸ hb)
 ·rw[h1] at hb
  cases hb
  intro h3
  exact absurd (h.opn.lt h3).2 (by omega)
theorem CB.push {base:Nat}{v o o':Value}{out:List Fl.I}{opn:List Nat}{W w':World}{ob:Obj}{i:Nat}(h:CB base v o out opn W)(ho:Owns w' base 3 o' (nts (i::opn)))(hk:Keep (fun b=>o.ownBlock=some b) (W.alloc ob) w')
 (hv:o'.ownBlock=o.ownBlock∨∃ j,o'.ownBlock=some j∧W.heap.size≤j):CB base v o' out (i::opn) w':=by
 refine⟨(h.out.kw ((KW.refl W).alloc ob)).keep hk fun b hb hb2=>h.ap b hb hb2,ho,fun b hb=>?_⟩
 rcases hv with h1|⟨j,h1,h2⟩
 ·rw[h1]
  exact h.ap b hb
 ·rw[h1]
  intro h3
  cases h3
  exact absurd (h.out.lt hb).2 (by omega)
theorem CB.pop {base b:Nat}{v o:Value}{out:List Fl.I}{opn:List Nat}{w:World}(h:CB base v o out (b::opn) w):
 ∃ bo cap,o=.slice (some ⟨bo,0,none⟩) (opn.length+1) cap∧opn.length+1≤cap∧bo<w.heap.size∧w.cell? ⟨bo,opn.length,none⟩=some (.int .i64 (b:Int))∧CB base v (.slice (some ⟨bo,0,none⟩) opn.length cap) out opn w:=by
 have hx:=h.opn
 rw[nts_cons] at hx
 obtain⟨bo,cap,rfl,h1,h2,h3,h4⟩:=hx.pop
 rw[nts_len] at *
 exact⟨bo,cap,rfl,h1,h2,h3,h.out,h4,h.ap⟩
theorem CB.setT {base n k b:Nat}{o:Value}{out:List Fl.I}{opn:List Nat}{w:World}(h:CB base (.slice (some ⟨b,0,none⟩) n k) o out opn w){i:Nat}(hi:i<out.length)(x:Int):
 CB base (.slice (some ⟨b,0,none⟩) n k) o (out.set i ⟨(out.getD i i0).o,x⟩) opn (w.setCell ⟨b,i * 6+5,none⟩ (.int .i64 x)):=by
 have hk:Keep (· = b) w (w.setCell ⟨b,i * 6+5,none⟩ (.int .i64 x)):=(Keep.refl _ w).setCell _ _ rfl
 exact⟨h.out.setT hi x,hk.owns h.opn fun j hj e=>h.ap b rfl (e ▸ hj),h.ap⟩
theorem op_cells {own:Nat→Prop}{wr w':World}{k d a b v:Int}{X:Obj}(hk:Keep own ((wr.alloc (.cells #[.int .i64 k,.int .i64 d,.int .i64 a,.int .i64 b,.int .u64 v] 83)).alloc X) w')(hn:¬ own wr.heap.size):
 w'.cell? ⟨wr.heap.size,0,none⟩=some (.int .i64 k)∧w'.cell? ⟨wr.heap.size,1,none⟩=some (.int .i64 d)∧w'.cell? ⟨wr.heap.size,2,none⟩=some (.int .i64 a)∧w'.cell? ⟨wr.heap.size,3,none⟩=some (.int .i64 b)∧w'.cell? ⟨wr.heap.size,4,none⟩=some (.int .u64 v)∧wr.heap.size<w'.heap.size:=by
 have hb:wr.heap.size<(wr.alloc (.cells #[.int .i64 k,.int .i64 d,.int .i64 a,.int .i64 b,.int .u64 v] 83)).heap.size:=by simp
 have hb2:wr.heap.size<((wr.alloc (.cells #[.int .i64 k,.int .i64 d,.int .i64 a,.int .i64 b,.int .u64 v] 83)).alloc X).heap.size:=by simp;omega
 have hh:=heap_alloc_new wr (.cells #[.int .i64 k,.int .i64 d,.int .i64 a,.int .i64 b,.int .u64 v] 83)
 have hc:∀ i,w'.cell? ⟨wr.heap.size,i,none⟩=(wr.alloc (.cells #[.int .i64 k,.int .i64 d,.int .i64 a,.int .i64 b,.int .u64 v] 83)).cell? ⟨wr.heap.size,i,none⟩:=fun i=>(hk.cell hb2 hn).trans (Below.cell ((KW.refl _).alloc X) hb)
 refine⟨(hc 0).trans ?_,(hc 1).trans ?_,(hc 2).trans ?_,(hc 3).trans ?_,(hc 4).trans ?_,Nat.lt_of_lt_of_le hb2 hk.size⟩<;>(unfold World.cell?;rw[hh];rfl)
theorem code_good (p:Pg)(w:World)(hM:PgM w p)(hg:Gd p):
 Calls Tryz.prog 245 #[.agg p.v] w fun e w'=>∃ v c,e=.returned (.tuple #[v,.int .i64 0])∧GoodC p c∧OwnsI w' w.heap.size v c∧KW w w':=by
 obtain⟨sz,c,k,hme,hsl,hml,hgc,hcr⟩:=hg.code hM.hv
 have hk:=(KW.refl w).alloc (.cells p.v 25)
 have HCk:=hid (cprogram_any p _ (hM.kw hk))
 have HMa:=hid (fun W (hW:KW w W)=>match_any p.A p.c p.l W hM.len (hM.ops.kw hW))
 have HSi:=hid (fun W (hW:KW w W)=>sizes_any p.A p.c p.l W hM.len (hM.ops.kw hW) hM.hv)
 have HOp:=hid (fun W (hW:KW w W)=>hM.ops.kw hW)
 have HG:=hid hg
 have HWk:=hid hg.wk
 have HS0:Hid (szErr p.l=0):=hid hg.2.2.2
 have HGC:=hid hgc
 have HCR:=hid hcr
 have HSm:=hid hg.small
 have hh:=heap_alloc_new w (.cells p.v 25)
 have HR:Hid ((w.alloc (.cells p.v 25)).cell? ⟨w.heap.size,1,none⟩=some (.slice p.A p.l.length p.c)):=hid (by
  unfold World.cell?
  rw[hh]
  rfl)
 have HK:=hid hk
 have HMe:=hid hme
 have HSl:=hid hsl
 have HMl:=hid hml
 clear hM hk hg hgc hcr hh hme hsl hml
 unfold Pg.v pgv at *
 obtain⟨n,A,cc,l⟩:=p
 simp only at *
 generalize hN:l.length=N at *
 have HN:=hid hN
 clear hN
 generalize Fl.mts l 0 [] (Fl.mt0 l)=mt at *
 go_enter Tryz.func245,Tryz.ntmps245
 go_wp2_with fail
 refine HCk.out.mono ?_
 rintro e w1 ⟨r,rfl,hr,hk1⟩
 obtain rfl:r=0:=hr.2 HG.out
 have HK1:=hid (HK.out.t hk1)
 have HR1:=hid ((Below.cell hk1 (show w.heap.size<_ by simp)).trans HR.out)
 have hlt:w.heap.size<w1.heap.size:=Nat.lt_of_lt_of_le (by simp) (Below.size hk1)
 have HLt:=hid hlt
 clear hr hk1 HCk HR HK
 have c1:=HR1.out
 go_wp2_with fail
 refine(HMa.out w1 HK1.out).mono ?_
 rintro e w2 ⟨hk2,hres⟩
 rcases hres with⟨_,vm,rfl,hom⟩|⟨hne,_⟩
 ·have HK2:=hid (HK1.out.t hk2)
  have HR2:=hid ((Below.cell hk2 HLt.out).trans HR1.out)
  have HOm:=hid (hom.base (Below.size HK1.out))
  have HLt2:=hid (Nat.lt_of_lt_of_le HLt.out (Below.size hk2))
  clear hom hk2 c1 hlt HMa
  have c1:=HR2.out
  have hlt:=HLt2.out
  go_wp2_with fail
  refine(HSi.out w2 HK2.out).mono ?_
  rintro e w3 ⟨hk3,hres⟩
  rcases hres with⟨_,sz',n',vs,hme',rfl,hos⟩|⟨hne,_⟩
  ·obtain⟨rfl,rfl⟩:sz=sz'∧wct l=n':=by
    have h:=HMe.out.symm.trans hme'
    cases h
    exact⟨rfl,rfl⟩
   have HK3:=hid (HK2.out.t hk3)
   have HR3:=hid ((Below.cell hk3 HLt2.out).trans HR2.out)
   have HOm3:=hid (HOm.out.on hk3)
   have HOs3:=hid (hos.base (Below.size HK2.out))
   have HLt3:=hid (Nat.lt_of_lt_of_le HLt2.out (Below.size hk3))
   clear hos hk3 c1 hlt hme' HSi HMe HOm
   obtain⟨As,ks,hvs,_,_,hrs⟩:=HOs3.out.row
   rw[nvs_len,HSl.out] at hvs hrs
   subst hvs
   have HRs:=hid hrs
   obtain⟨Am,km,hvm,_,_,hrm⟩:=HOm3.out.row
   rw[ivs_len,HMl.out] at hvm hrm
   subst hvm
   have HRm:=hid hrm
   clear hrs hrm HOs3 HOm3
   go_wp2_with fail
   go_loopg [9,10,11] k (fun gk v o i wr=>∃ (q:Nat) (opn:List Nat) (out:List Fl.I),q≤N∧i=.int .i64 q∧out.length≤q∧opn.length≤q∧Hid (Fl.CR l sz mt q opn out c gk)∧Hid (CB w3.heap.size v o out opn wr)∧Hid (KW w3 wr))
   case atStart=>exact⟨0,[],[],by omega,rfl,by simp,by simp,HCR,⟨OwnsI.nil _ _,by rw[nts_nil];exact Owns.nil _ _ _,fun b hb=>by cases hb⟩,KW.refl w3⟩
   case round=>
    clear HCR
    obtain⟨q,opn,out,hq,rfl,hol,hpl,HC,HB,HKr⟩:=hrel
    have HLtr:=hid (Nat.lt_of_lt_of_le HLt3.out (Below.size HKr.out))
    have hlt:=HLtr.out
    have c1:=(Below.cell HKr.out HLt3.out).trans HR3.out
    obtain⟨Ao,ko,hvo,_⟩:=HB.out.out.row
    subst hvo
    obtain⟨Bo,kb,hbo,_⟩:=HB.out.opn.row
    rw[nts_len] at hbo
    subst hbo
    have hcr:=HC.out
    have hq4:q≤1048576:=by have:=HSm.out;omega
    cases hcr with
    | halt=>
      have hn:=HN.out
      clear HN
      generalize l.length=M at *
      subst hn
      have HF:=HB
      clear hol hpl
      go_wp2_with fail
      go_ret2
      exact⟨_,c,rfl,HGC.out,HF.out.out.base (Below.size HK3.out),HK3.out.t HKr.out⟩
    | @op _ n' o _ _ _ h h0 h1 r=>
      have hql:q<l.length:=(List.getElem?_eq_some_iff.1 h).1
      have L1:(q:Int)<(N:Int):=by have:=HN.out;omega
      have HQ:=hid hql
      obtain⟨b',off,rfl,hb',c00,c01,c02,c03,c04⟩:=(HOp.out wr (HK3.out.t HKr.out)).at_ hql
      rw[getD_get h] at c00 c01 c02 c03 c04
      obtain⟨k1,d,a,bb,vv⟩:=o
      try simp only at c00 c01 c02 c03 c04 h0 h1 r
      have HRes:=hid r
      obtain⟨As',hsr1,rfl,hs2,hs3⟩:=(HRs.out.k HKr.out).at_ (show q<N by have:=HN.out;omega)
      obtain⟨Am',hmr1,rfl,hm2,hm3⟩:=(HRm.out.k HKr.out).at_ (show q<N by have:=HN.out;omega)
      try simp only at hs3 hm3
      rw[nvs_get sz (by have:=HSl.out;omega)] at hs3
      rw[ivs_get mt (by have:=HMl.out;omega)] at hm3
      clear h r hql HC
      have e7:(k1==7)=false:=beq_eq_false_iff_ne.2 (by omega)
      have e0:(k1==0)=false:=beq_eq_false_iff_ne.2 (by omega)
      have HB1:=hid (HB.out.kw ((KW.refl wr).alloc (.cells #[.int .i64 k1,.int .i64 d,.int .i64 a,.int .i64 bb,.int .u64 vv] 83)))
      have HK5:=hid (HKr.out.alloc (.cells #[.int .i64 k1,.int .i64 d,.int .i64 a,.int .i64 bb,.int .u64 vv] 83))
      have HSZ:Hid (Value.slice (some ⟨wr.heap.size+1,0,none⟩) 1 1=Value.slice (some ⟨(wr.alloc (.cells #[.int .i64 k1,.int .i64 d,.int .i64 a,.int .i64 bb,.int .u64 vv] 83)).heap.size,0,none⟩) 1 1):=hid (by simp)
      clear h0 h1
      go_wp2_with (at_builtin;go_loud (refine wpList_appI rfl rfl (s:=.tmp 96) (x:=.tmp 99) (base:=w3.heap.size) (i:=⟨⟨k1,d,a,bb,vv⟩,0⟩) (L:=out) (c:=1) (v:=.slice Ao out.length ko) rfl HSZ.out HB1.out.out (Below.size HK5.out) (by omega) ?_);intro v7 w7 HO7 HK8 HV7)
      have HB7:=hid (HB1.out.app HO7.out HK8.out HV7.out)
      have HK9:=hid ((HK5.out.alloc _).kept HK8.out fun i hi=>(HB1.out.out.lt hi).1)
      go_roundg n'
      case measure=>exact Nat.lt_succ_self _
      case rel=>exact⟨q+1,opn,_,by have:=HN.out;have:=HQ.out;omega,by go_num,by simp;omega,by omega,HRes,HB7,HK9⟩
    | @skip _ j n' o _ _ _ h hk hz hm hj hl r=>
      have hql:q<l.length:=(List.getElem?_eq_some_iff.1 h).1
      have L1:(q:Int)<(N:Int):=by have:=HN.out;omega
      have HQ:=hid hql
      obtain⟨b',off,rfl,hb',c00,c01,c02,c03,c04⟩:=(HOp.out wr (HK3.out.t HKr.out)).at_ hql
      rw[getD_get h] at c00 c01 c02 c03 c04
      obtain⟨k1,d,a,bb,vv⟩:=o
      try simp only at c00 c01 c02 c03 c04 hk r
      have HRes:=hid r
      obtain⟨As',hsr1,rfl,hs2,hs3⟩:=(HRs.out.k HKr.out).at_ (show q<N by have:=HN.out;omega)
      obtain⟨Am',hmr1,rfl,hm2,hm3⟩:=(HRm.out.k HKr.out).at_ (show q<N by have:=HN.out;omega)
      try simp only at hs3 hm3
      rw[nvs_get sz (by have:=HSl.out;omega)] at hs3
      rw[ivs_get mt (by have:=HMl.out;omega)] at hm3
      clear h r hql HC
      subst hk
      rw[hz] at hs3
      rw[hm] at hm3
      have HB1:=hid (HB.out.kw ((KW.refl wr).alloc (.cells #[.int .i64 7,.int .i64 d,.int .i64 a,.int .i64 bb,.int .u64 vv] 83)))
      have HK5:=hid (HKr.out.alloc (.cells #[.int .i64 7,.int .i64 d,.int .i64 a,.int .i64 bb,.int .u64 vv] 83))
      have HJ:=hid (And.intro hj hl)
      have hj4:j≤1048576:=by have:=HSm.out;have:=HN.out;omega
      have hs3:=(Below.cell ((KW.refl wr).alloc (.cells #[.int .i64 7,.int .i64 d,.int .i64 a,.int .i64 bb,.int .u64 vv] 83)) hs2).trans hs3
      have hm3:=(Below.cell ((KW.refl wr).alloc (.cells #[.int .i64 7,.int .i64 d,.int .i64 a,.int .i64 bb,.int .u64 vv] 83)) hm2).trans hm3
      have hs2:As'<(wr.alloc (.cells #[.int .i64 7,.int .i64 d,.int .i64 a,.int .i64 bb,.int .u64 vv] 83)).heap.size:=by simp;omega
      have hm2:Am'<(wr.alloc (.cells #[.int .i64 7,.int .i64 d,.int .i64 a,.int .i64 bb,.int .u64 vv] 83)).heap.size:=by simp;omega
      clear hz hm hj hl
      go_wp2_with fail
      go_roundg n'
      case measure=>exact Nat.lt_succ_self _
      case rel=>exact⟨j+1,opn,out,by have:=HN.out;have:=HJ.out;omega,by go_num,by have:=HJ.out;omega,by have:=HJ.out;omega,HRes,HB1,HK5⟩
    | @rep _ n' o _ _ _ h hk hz r=>
      have hql:q<l.length:=(List.getElem?_eq_some_iff.1 h).1
      have L1:(q:Int)<(N:Int):=by have:=HN.out;omega
      have HQ:=hid hql
      obtain⟨b',off,rfl,hb',c00,c01,c02,c03,c04⟩:=(HOp.out wr (HK3.out.t HKr.out)).at_ hql
      rw[getD_get h] at c00 c01 c02 c03 c04
      obtain⟨k1,d,a,bb,vv⟩:=o
      try simp only at c00 c01 c02 c03 c04 hk r
      have HRes:=hid r
      obtain⟨As',hsr1,rfl,hs2,hs3⟩:=(HRs.out.k HKr.out).at_ (show q<N by have:=HN.out;omega)
      obtain⟨Am',hmr1,rfl,hm2,hm3⟩:=(HRm.out.k HKr.out).at_ (show q<N by have:=HN.out;omega)
      try simp only at hs3 hm3
      rw[nvs_get sz (by have:=HSl.out;omega)] at hs3
      rw[ivs_get mt (by have:=HMl.out;omega)] at hm3
      clear h r hql HC
      subst hk
      have ez:(((sz.getD q 0:Nat):Int)==0)=false:=beq_eq_false_iff_ne.2 fun hh=>hz (Int.natCast_eq_zero.1 hh)
      generalize sz.getD q 0=s at *
      have HB1:=hid (HB.out.kw ((KW.refl wr).alloc (.cells #[.int .i64 7,.int .i64 d,.int .i64 a,.int .i64 bb,.int .u64 vv] 83)))
      have HK5:=hid (HKr.out.alloc (.cells #[.int .i64 7,.int .i64 d,.int .i64 a,.int .i64 bb,.int .u64 vv] 83))
      have HSZ:Hid (Value.slice (some ⟨wr.heap.size+1,0,none⟩) 1 1=Value.slice (some ⟨(wr.alloc (.cells #[.int .i64 7,.int .i64 d,.int .i64 a,.int .i64 bb,.int .u64 vv] 83)).heap.size,0,none⟩) 1 1):=hid (by simp)
      have hs3:=(Below.cell ((KW.refl wr).alloc (.cells #[.int .i64 7,.int .i64 d,.int .i64 a,.int .i64 bb,.int .u64 vv] 83)) hs2).trans hs3
      have hs2:As'<(wr.alloc (.cells #[.int .i64 7,.int .i64 d,.int .i64 a,.int .i64 bb,.int .u64 vv] 83)).heap.size:=by simp;omega
      generalize hM:out.length=M at *
      have HMl2:=hid hM
      have HOw:=hid (fun b hb=>(HB.out.opn.lt (b:=b) hb).2)
      clear hM hz hm2 hm3 HB
      go_wp2_with (first
       | (at_builtin;refine wpList_appE rfl rfl (s:=.tmp 62) (x:=.tmp 65) (base:=w3.heap.size) (i:=M) (L:=opn) (c:=1) (v:=.slice Bo opn.length kb) rfl HSZ.out HB1.out.opn (Below.size HK5.out) (by omega) ?_;intro o7 w7 HO7 HK8 HV7;have HB7:=hid (HB1.out.push HO7.out HK8.out HV7.out);have HK9:=hid ((HK5.out.alloc _).kept HK8.out fun i hi=>(HB1.out.opn.lt hi).1);obtain⟨d0,d1,d2,d3,d4,dl⟩:=op_cells HK8.out (fun h=>absurd (HOw.out _ h) (Nat.lt_irrefl _)))
       | (at_builtin;refine wpList_appI rfl rfl (s:=.tmp 96) (x:=.tmp 99) (base:=w3.heap.size) (i:=⟨⟨7,d,a,bb,vv⟩,0⟩) (L:=out) (c:=1) (v:=.slice Ao M ko) rfl rfl HB7.out.out (Below.size HK9.out) (by rw[HMl2.out];omega) ?_;intro v8 w8 HO8 HK10 HV8))
      have HB8:=hid (HB7.out.app HO8.out HK10.out HV8.out)
      have HK11:=hid ((HK9.out.alloc _).kept HK10.out fun i hi=>(HB7.out.out.lt hi).1)
      go_roundg n'
      case measure=>exact Nat.lt_succ_self _
      case rel=>exact⟨q+1,M::opn,_,by have:=HN.out;have:=HQ.out;omega,by go_num,by simp;have:=HMl2.out;omega,by simp;omega,HRes,HB8,HK11⟩
    | @end_ _ b n' o j opn' _ _ h hk hb r=>
      have hbl:b<out.length:=(List.getElem?_eq_some_iff.1 hb).1
      have hbj:out.getD b i0=j:=getD_get hb
      have hql:q<l.length:=(List.getElem?_eq_some_iff.1 h).1
      have L1:(q:Int)<(N:Int):=by have:=HN.out;omega
      have HQ:=hid hql
      obtain⟨b',off,rfl,hb',c00,c01,c02,c03,c04⟩:=(HOp.out wr (HK3.out.t HKr.out)).at_ hql
      rw[getD_get h] at c00 c01 c02 c03 c04
      obtain⟨k1,d,a,bb,vv⟩:=o
      try simp only at c00 c01 c02 c03 c04 hk r
      have HRes:=hid r
      obtain⟨As',hsr1,rfl,hs2,hs3⟩:=(HRs.out.k HKr.out).at_ (show q<N by have:=HN.out;omega)
      obtain⟨Am',hmr1,rfl,hm2,hm3⟩:=(HRm.out.k HKr.out).at_ (show q<N by have:=HN.out;omega)
      try simp only at hs3 hm3
      rw[nvs_get sz (by have:=HSl.out;omega)] at hs3
      rw[ivs_get mt (by have:=HMl.out;omega)] at hm3
      clear h r hql HC
      subst hk
      obtain⟨bo,cap,hvo,hcap,hbol,d9,HBp⟩:=HB.out.pop
      obtain⟨rfl,rfl⟩:Bo=some ⟨bo,0,none⟩∧kb=cap:=by cases hvo;exact⟨rfl,rfl⟩
      obtain⟨A',k',hv',hcap',hx'⟩:=HBp.out.row
      obtain⟨rfl,rfl⟩:Ao=A'∧ko=k':=by cases hv';exact⟨rfl,rfl⟩
      obtain⟨g,rfl,hg0,hgl,hgf,hgc⟩:=hx' (by omega)
      have f5:=hgf (b * 6+5)
      have hgc5:=hgc b 5 hbl (by omega)
      have hB2:=HBp.setT hbl ((out.length:Int)+1)
      rw[hbj] at hB2
      have HBs:=hid (hB2.kw ((KW.refl _).alloc (.cells #[.int .i64 0,.int .i64 d,.int .i64 a,.int .i64 bb,.int .u64 vv] 83)))
      have HKs:Hid (KW w3 ((wr.setCell ⟨g,b * 6+5,none⟩ (.int .i64 ((out.length:Int)+1))).alloc (.cells #[.int .i64 0,.int .i64 d,.int .i64 a,.int .i64 bb,.int .u64 vv] 83))):=hid ((HKr.out.kept ((Keep.refl (· = g) wr).setCell _ _ rfl) fun i hi=>by rw[hi];exact hg0).alloc _)
      have HSZ:Hid (Value.slice (some ⟨wr.heap.size+1,0,none⟩) 1 1=Value.slice (some ⟨((wr.setCell ⟨g,b * 6+5,none⟩ (.int .i64 ((out.length:Int)+1))).alloc (.cells #[.int .i64 0,.int .i64 d,.int .i64 a,.int .i64 bb,.int .u64 vv] 83)).heap.size,0,none⟩) 1 1):=hid (by simp)
      have hcell5:(wr.alloc (.cells #[.int .i64 0,.int .i64 d,.int .i64 a,.int .i64 bb,.int .u64 vv] 83)).cell? ⟨g,b * 6+5,none⟩=some (.int .i64 j.t):=(Below.cell ((KW.refl wr).alloc (.cells #[.int .i64 0,.int .i64 d,.int .i64 a,.int .i64 bb,.int .u64 vv] 83)) hgl).trans (hgc5.trans (by rw[hbj];rfl))
      have f5':(wr.alloc (.cells #[.int .i64 0,.int .i64 d,.int .i64 a,.int .i64 bb,.int .u64 vv] 83)).frozen? ⟨g,b * 6+5,none⟩=false:=by
       refine(World.frozen?_of_block (w:=wr) ?_).trans f5
       exact Below.block ((KW.refl wr).alloc (.cells #[.int .i64 0,.int .i64 d,.int .i64 a,.int .i64 bb,.int .u64 vv] 83)) g hgl
      have d9':=(Below.cell ((KW.refl wr).alloc (.cells #[.int .i64 0,.int .i64 d,.int .i64 a,.int .i64 bb,.int .u64 vv] 83)) hbol).trans d9
      have hbol':bo<(wr.alloc (.cells #[.int .i64 0,.int .i64 d,.int .i64 a,.int .i64 bb,.int .u64 vv] 83)).heap.size:=by simp;omega
      have hgl':g<(wr.alloc (.cells #[.int .i64 0,.int .i64 d,.int .i64 a,.int .i64 bb,.int .u64 vv] 83)).heap.size:=by simp;omega
      have hb4:b≤1048576:=by omega
      simp only[List.length_cons] at hpl hcap ⊢
      generalize hM:out.length=M at *
      have HMl2:=hid hM
      generalize hP:opn'.length=P at *
      have HPl:=hid hP
      clear hM hP hs2 hs3 hm2 hm3 HB HBp hB2 hvo hv' hgc hgc5 hgf hx' hb hbj
      go_wp2_with (at_builtin;refine wpList_appI rfl rfl (s:=.tmp 89) (x:=.tmp 94) (base:=w3.heap.size) (i:=⟨⟨0,d,a,bb,vv⟩,(b:Int)+1⟩) (L:=out.set b ⟨j.o,(M:Int)+1⟩) (c:=1) (v:=.slice (some ⟨g,0,none⟩) M ko) rfl HSZ.out HBs.out.out (Below.size HKs.out) (by rw[List.length_set,HMl2.out];omega) ?_;intro v8 w8 HO8 HK10 HV8)
      have HB8:=hid (HBs.out.app HO8.out HK10.out HV8.out)
      have HK11:=hid ((HKs.out.alloc _).kept HK10.out fun i hi=>(HBs.out.out.lt hi).1)
      go_roundg n'
      case measure=>exact Nat.lt_succ_self _
      case rel=>exact⟨q+1,opn',_,by have:=HN.out;have:=HQ.out;omega,by go_num,by simp;have:=HMl2.out;omega,by have:=HPl.out;omega,HRes,HB8,HK11⟩
  ·exact absurd HS0.out hne
 ·exact absurd HWk.out hne
section
variable {P : Program} {a : Act} {w : World} {Q : Exit → Act → World → Prop}
theorem wp_scope_goto {c b:Code}(l:Nat)(J:Nat→Act→World→Prop)(hf:findLabel c l=some (Code.skip.seq b))
 (pass:∀ n a w,J n a w→b.wp P (Exit.jump l (fun a' w'=>∃ n',n'<n∧J n' a' w') Q) a w)
 (first:(∀ n a w,J n a w→b.wp P (Exit.jump l (fun a' w'=>∃ n',J n' a' w') Q) a w)→c.wp P (Exit.jump l (fun a w=>∃ n,J n a w) Q) a w):(Code.scope c).wp P Q a w:=by
 have up:∀ {J1 J2:Act→World→Prop} {a w},(∀ a w,J1 a w→J2 a w)→b.wp P (Exit.jump l J1 Q) a w→b.wp P (Exit.jump l J2 Q) a w:=fun h hb=>wp_mono hb fun e a' w' hq=>by
  cases e with
  | goto l'=>exact⟨hq.1,h _ _ hq.2⟩
  | normal=>exact hq
  | exit id=>exact hq
  | ret=>exact hq
  | panic ch=>exact hq
  | outgrown=>exact hq
 refine wp_scope_jumps l (fun a w=>∃ n,J n a w) (fun a w=>leastOf (fun n=>J n a w)) hf (first fun n a w h=>up (fun a w h=>h.imp fun n h=>h.2) (pass n a w h)) ?_
 intro a w hJ
 have hs:=leastOf_spec hJ
 refine wp_seq (wp_skip ?_)
 exact up (fun a' w' ⟨n',h2,h3⟩=>⟨⟨n',h3⟩,Nat.lt_of_le_of_lt ((leastOf_spec ⟨n',h3⟩).2 n' h3) h2⟩) (pass _ a w hs.1)
end
def LeftM (w:World)(g:Nat)(stk:List Nat):Prop:=∃ f:Nat→Value,w.rowIs g 276 8 f∧(∀ i,i<8→∃ x,f i=.int .u64 x)∧∀ i,i<stk.length→f i=.int .u64 (stk.reverse.getD i 0:Nat)
theorem LeftM.keep {own:Nat→Prop}{w w':World}{g:Nat}{stk:List Nat}(h:LeftM w g stk)(hk:Keep own w w')(hn:¬ own g):LeftM w' g stk:=by
 obtain⟨f,h1,h2,h3⟩:=h
 exact⟨f,hk.row hn h1,h2,h3⟩
theorem LeftM.kw {w w':World}{g:Nat}{stk:List Nat}(h:LeftM w g stk)(hk:KW w w'):LeftM w' g stk:=h.keep (hk.keep (own:=fun _=>False)) id
theorem LeftM.lt {w:World}{g:Nat}{stk:List Nat}(h:LeftM w g stk):g<w.heap.size:=h.choose_spec.1.lt
theorem LeftM.new (w:World):LeftM (w.alloc (.cells #[.int .u64 0,.int .u64 0,.int .u64 0,.int .u64 0,.int .u64 0,.int .u64 0,.int .u64 0,.int .u64 0] 276)) w.heap.size []:=
 ⟨fun _=>.int .u64 0,World.rowIs_alloc w #[.int .u64 0,.int .u64 0,.int .u64 0,.int .u64 0,.int .u64 0,.int .u64 0,.int .u64 0,.int .u64 0] 276 _ fun i hi=>by
  simp at hi
  rcases(show i=0∨i=1∨i=2∨i=3∨i=4∨i=5∨i=6∨i=7 by omega) with rfl|rfl|rfl|rfl|rfl|rfl|rfl|rfl<;>rfl,fun _ _=>⟨0,rfl⟩,fun i hi=>absurd hi (by simp)⟩
theorem LeftM.push {w:World}{g:Nat}{stk:List Nat}(h:LeftM w g stk)(hd:stk.length<8)(m:Nat):
 w.frozen? ⟨g,stk.length,none⟩=false∧(∃ x,w.cell? ⟨g,stk.length,none⟩=some x)∧LeftM (w.setCell ⟨g,stk.length,none⟩ (.int .u64 (m:Nat))) g (m::stk):=by
 obtain⟨f,h1,h2,h3⟩:=h
 refine⟨h1.frozen _,⟨_,h1.cell hd⟩,_,h1.set stk.length (.int .u64 (m:Nat)),fun i hi=>?_,fun i hi=>?_⟩
 ·by_cases e:i=stk.length
  ·exact⟨m,by simp[e]⟩
  ·rw[if_neg e];exact h2 i hi
 ·rw[List.length_cons] at hi
  rw[List.reverse_cons]
  by_cases e:i=stk.length
  ·subst e
   simp
  ·rw[if_neg e,h3 i (by omega)]
   simp[List.getD_eq_getElem?_getD,List.getElem?_append_left (show i<stk.reverse.length by simp;omega)]
theorem LeftM.top {w:World}{g m:Nat}{stk:List Nat}(h:LeftM w g (m::stk))(hd:stk.length<8):
 w.frozen? ⟨g,stk.length,none⟩=false∧w.cell? ⟨g,stk.length,none⟩=some (.int .u64 (m:Nat))∧(∀ k:Nat,LeftM (w.setCell ⟨g,stk.length,none⟩ (.int .u64 (k:Nat))) g (k::stk))∧LeftM w g stk:=by
 obtain⟨f,h1,h2,h3⟩:=h
 have hpop:LeftM w g stk:=⟨f,h1,h2,fun i hi=>by
  rw[h3 i (by simp;omega),List.reverse_cons]
  simp[List.getD_eq_getElem?_getD,List.getElem?_append_left (show i<stk.reverse.length by simp;omega)]⟩
 refine⟨h1.frozen _,?_,fun k=>(hpop.push hd k).2.2,hpop⟩
 rw[h1.cell hd,h3 stk.length (by simp)]
 simp
def RegM (w:World)(v:Value)(R:List Int):Prop:=Owns w 0 81 v (u64s R)
theorem u64s_set (l:List Int)(i:Nat)(x:Int):(u64s l).set i (.int .u64 x)=u64s (l.set i x):=by simp[u64s,List.map_set]
theorem RegM.keep {own:Nat→Prop}{w w':World}{v:Value}{R:List Int}(h:RegM w v R)(hk:Keep own w w')(hn:∀ b,v.ownBlock=some b→¬ own b):RegM w' v R:=hk.owns h hn
theorem RegM.kw {w w':World}{v:Value}{R:List Int}(h:RegM w v R)(hk:KW w w'):RegM w' v R:=h.on hk
theorem RegM.lt {w:World}{v:Value}{R:List Int}(h:RegM w v R){b:Nat}(hb:v.ownBlock=some b):b<w.heap.size:=(Owns.lt h hb).2
theorem RegM.row {w:World}{v:Value}{R:List Int}(h:RegM w v R):∃ A c,v=.slice A R.length c∧R.length≤c:=by
 obtain⟨A,c,hv,hc,_⟩:=Owns.row h
 rw[u64s_len] at hv hc
 exact⟨A,c,hv,hc⟩
theorem RegM.at_ {w:World}{g n c:Nat}{R:List Int}(h:RegM w (.slice (some ⟨g,0,none⟩) n c) R){i:Nat}(hi:i<R.length):
 g<w.heap.size∧w.cell? ⟨g,i,none⟩=some (.int .u64 (R.getD i 0))∧w.frozen? ⟨g,i,none⟩=false∧∀ x,RegM (w.setCell ⟨g,i,none⟩ (.int .u64 x)) (.slice (some ⟨g,0,none⟩) n c) (R.set i x):=by
 have hi':i<(u64s R).length:=by rw[u64s_len];exact hi
 obtain⟨b,h1,h2,h3,h4,h5,h6,h7⟩:=Owns.put h hi' (.int .u64 0)
 cases h1
 refine⟨h4,?_,h5,fun x=>?_⟩
 ·rw[h6]
  simp[u64s,hi]
 ·obtain⟨b,h1,_,_,_,_,_,h7⟩:=Owns.put h hi' (.int .u64 x)
  cases h1
  rw[u64s_set] at h7
  exact h7
theorem RegM.some {w:World}{v:Value}{R:List Int}(h:RegM w v R)(h0:0<R.length):∃ g c,v=.slice (some ⟨g,0,none⟩) R.length c∧R.length≤c∧g<w.heap.size:=by
 obtain⟨A,c,hv,hc,hA,_⟩:=Owns.row h
 rw[u64s_len] at hv hc hA
 obtain⟨g,rfl,_,hg⟩:=hA h0
 exact⟨g,c,hv,hc,hg⟩
theorem run1_any (k:Int)(o:Fl.O)(w:World):Calls Tryz.prog 229 #[.int .i64 k,.agg (ocl o)] w fun e w'=>e=.returned (.tuple #[])∧KW w w':=by
 have HK:=hid ((KW.refl w).alloc (.cells (ocl o) 83))
 unfold ocl at *
 go_enter Tryz.func229,Tryz.ntmps229
 go_wp2_with fail
 refine bodyPost_end (results_none rfl _ _ _) rfl ?_
 exact⟨rfl,HK.out⟩
end Go.Proofs.YtphppbonljdibaaGreat
