import Derived.Test.YtphppbonljdibaaGreatTB14
import Derived.Lib.AppendZeros
import Derived.Lib.AppendZerosOnto
set_option maxRecDepth 100000
set_option maxHeartbeats 4000000
set_option linter.unusedVariables false
set_option linter.unusedSimpArgs false
namespace Go.Proofs.YtphppbonljdibaaGreat
open Go.ChangeShapes Go.WideShapes Go.ChangeAt Go.RowKit
theorem own_row {w:World}{g N:Nat}{t:TypeId}{f:Nat→Value}{xs:List Value}(h:w.rowIs g t N f)(hl:xs.length=N)(hN:N≤1048576)(hf:∀ i,i<N→xs[i]?=some (f i))(base:Nat)(hb:base≤g):Owns w base t (.slice (some ⟨g,0,none⟩) N N) xs:=by
 obtain⟨c,hg,hs,hc⟩:=h
 unfold Owns
 rw[hl]
 refine⟨by rw[hl];omega,.inr ⟨g,N,c,rfl,hb,hg,Nat.le_refl _,by unfold maxLen;omega,by omega,?_⟩⟩
 apply List.ext_getElem?
 intro i
 rw[List.getElem?_take]
 by_cases hi:i<N
 ·rw[if_pos (by omega),hf i hi,Array.getElem?_toList]
  exact hc i hi
 ·rw[if_neg (by omega),List.getElem?_eq_none (by omega)]
theorem fbegin_any (p:Pg)(gx N cx:Nat)(R:List Int)(w:World)(hM:PgM w p)(hg:Gd p)(hN:p.n=(N:Int))(hN0:0<N)(hN6:N≤64)(hR:RegM w (.slice (some ⟨gx,0,none⟩) N cx) R)(hRl:R.length=N):
 Calls Tryz.prog 227 #[.agg p.v,.slice (some ⟨gx,0,none⟩) N cx] w fun e w'=>∃ Ac cc c gr,e=.returned (.tuple #[.slice Ac c.length cc,.slice (some ⟨gr,0,none⟩) N N,.int .i64 0])∧GoodC p c∧CodeM w' Ac c∧(∀ b,Ac=some ⟨b,0,none⟩→0<c.length→b≠gr)∧RegM w' (.slice (some ⟨gr,0,none⟩) N N) R∧w.heap.size≤gr∧KW w w':=by
 have hk:=(KW.refl w).alloc (.cells p.v 25)
 have HCk:=hid (code_good p _ (hM.kw hk) hg)
 have hh:=heap_alloc_new w (.cells p.v 25)
 have HR:Hid ((w.alloc (.cells p.v 25)).cell? ⟨w.heap.size,0,none⟩=some (.int .i64 N)):=hid (by
  unfold World.cell?
  rw[hh,← hN]
  rfl)
 have HK:=hid hk
 have HX:=hid hR
 have HRl:=hid hRl
 have hmk:∀ W,(Instr.makeSlice 22 (.int .i64 N) (.int .i64 N)).run Tryz.prog W=.ok (.slice (some ⟨W.heap.size,0,none⟩) N N) (W.alloc (.cells (madeCells #[.int .u64 0] N) 81)):=fun W=>run_make_row' (P:=Tryz.prog) 22 81 (.int .u64 0) 8 Tryz.underlying22 (by kernel_rfl) rfl .i64 .i64 N (by omega) (by omega) W
 have HRow:Hid (∀ W:World,(W.alloc (.cells (madeCells #[.int .u64 0] N) 81)).rowIs W.heap.size 81 N (fun _=>.int .u64 0)):=hid (fun W=>by
  refine⟨madeCells #[.int .u64 0] N,heap_alloc_new W _,by simp[size_madeCells],fun i hi=>?_⟩
  rw[← Array.getElem?_toList,toList_madeCells_one]
  simp[hi])
 clear hM hk hg hh hN hR hRl
 unfold Pg.v pgv at *
 go_enter Tryz.func227,Tryz.ntmps227
 go_wp2_with fail
 refine HCk.out.mono ?_
 rintro e w1 ⟨v,c,rfl,hgc,ho,hk1⟩
 have HK1:=hid (HK.out.t hk1)
 have hlt:w.heap.size<w1.heap.size:=Nat.lt_of_lt_of_le (by simp) (Below.size hk1)
 have HR1:=hid ((Below.cell hk1 (show w.heap.size<_ by simp)).trans HR.out)
 obtain⟨Ac,cc,rfl,_,hAc⟩:=ho.row
 have HAc:=hid hAc
 have HO:=hid ho
 have HGC:=hid hgc
 have HKa:Hid (KW w (w1.alloc (.cells (madeCells #[.int .u64 0] N) 81))):=hid (HK1.out.alloc _)
 have HCs:Hid (∀ j,j<N→(w1.alloc (.cells (madeCells #[.int .u64 0] N) 81)).cell? ((⟨gx,0,none⟩:Addr).add j)=some (.int .u64 (R.getD j 0))):=hid fun j hj=>by
  have h1:=((HX.out.kw HKa.out).at_ (i:=j) (by rw[HRl.out];exact hj)).2.1
  rw[← h1]
  by_cases hj0:j=0
  ·subst hj0;simp[Addr.add]
  ·simp[Addr.add,hj0]
 clear hk1 HCk HR HK ho hAc hgc
 have c0:=HR1.out
 go_wp2_with (refine wpList_copy_is rfl rfl Tryz.underlying22 (by kernel_rfl) (m:=N) (h:=fun j=>.int .u64 (R.getD j 0)) rfl rfl (HRow.out w1) (by simp) HCs.out (by omega) (fun _ _=>rfl) ?_;intro W hrow hkeep)
 have HF:Hid (RegM W (.slice (some ⟨w1.heap.size,0,none⟩) N N) R):=hid (own_row hrow (by rw[u64s_len];exact HRl.out) (by omega) (fun i hi=>by
  have h1:i<R.length:=by rw[HRl.out];exact hi
  simp[u64s,h1,hi]) 0 (Nat.zero_le _))
 have HKW:Hid (KW w W):=hid (HK1.out.kept ((((KW.refl w1).alloc _).keep (own:=(· = w1.heap.size))).t hkeep) fun i hi=>by omega)
 have HCW:Hid (CodeM W Ac c):=hid (((HO.out.code).kw ((KW.refl w1).alloc _)).keep hkeep fun h0 b hb h=>by
  obtain⟨b2,hb2,_,hlt2,_⟩:=HAc.out h0
  rw[hb2] at hb
  cases hb
  omega)
 clear hrow hkeep hmk
 go_wp2_with fail
 go_ret3
 exact⟨Ac,cc,c,w1.heap.size,rfl,HGC.out,HCW.out,fun b hb h0=>by
  obtain⟨b2,hb2,_,hlt2,_⟩:=HAc.out h0
  rw[hb2] at hb
  cases hb
  omega,HF.out,HK1.out.size,HKW.out⟩
theorem frun_any (p:Pg)(gx N cx:Nat)(R:List Int)(w:World)(hM:PgM w p)(hg:Gd p)(hN:p.n=(N:Int))(hN0:0<N)(hN6:N≤64)(hR:RegM w (.slice (some ⟨gx,0,none⟩) N cx) R)(hRl:R.length=N):
 Calls Tryz.prog 190 #[.agg p.v,.slice (some ⟨gx,0,none⟩) N cx] w fun e w'=>∃ gr,e=.returned (.tuple #[.slice (some ⟨gr,0,none⟩) N N,.int .i64 0])∧RegM w' (.slice (some ⟨gr,0,none⟩) N N) (Fl.sts R (Fl.unr p.l))∧w.heap.size≤gr∧KW w w':=by
 have hk:=(KW.refl w).alloc (.cells p.v 25)
 have HBg:=hid (fbegin_any p gx N cx R _ (hM.kw hk) hg hN hN0 hN6 (hR.kw hk) hRl)
 have HK:=hid hk
 have HRl:=hid hRl
 have HRok:=hid (fun c (h:GoodC p c)=>h.rok hN)
 have HLn:Hid (∀ c,GoodC p c→(Fl.unr p.l).length≤65536):=hid fun c h=>by rw[h.len];exact wct_le _
 have HCd:Hid (∀ c,GoodC p c→∃ d,Fl.Cd 0 c (Fl.unr p.l) d∧d≤8):=hid fun c h=>h.cd
 generalize Fl.unr p.l=un at *
 have hsz:(w.alloc (.cells p.v 25)).heap.size=w.heap.size+1:=by simp
 rw[hsz] at HBg
 clear hM hk hg hN hR hRl hsz
 unfold Pg.v pgv at *
 go_enter Tryz.func190,Tryz.ntmps190
 go_wp2_with fail
 refine HBg.out.mono ?_
 rintro e w1 ⟨Ac,cc,c,gr,rfl,hgc,hcm,hne,hr,hge,hk1⟩
 have HK1:=hid (HK.out.t hk1)
 have HGe:=hid hge
 have HEx:=hid (fexec_any Ac cc gr N N c un R w1 hcm (fun h0 b hb=>hne b hb h0) hr HRl.out (HCd.out c hgc) (HLn.out c hgc) (HRok.out c hgc) hgc.vs hgc.small)
 clear hk1 HBg hgc hcm hne hr hge HK
 go_wp2_with fail
 refine HEx.out.mono ?_
 rintro e w2 ⟨rfl,hr2,hk2⟩
 have HR2:=hid hr2
 have HK2:=hid (HK1.out.kept hk2 fun i hi=>by subst hi;have:=HGe.out;omega)
 clear hr2 hk2 HEx
 go_wp2_with fail
 go_ret2
 exact⟨gr,rfl,HR2.out,by have:=HGe.out;omega,HK2.out⟩
theorem record_any (p:Pg)(gr gt N cr TL ct:Nat)(R0 T0:List Int)(w:World)(hM:PgM w p)(hg:Gd p)(hN:p.n=(N:Int))(hR:RegM w (.slice (some ⟨gr,0,none⟩) N cr) R0)(hRl:R0.length=N)(hT:RegM w (.slice (some ⟨gt,0,none⟩) TL ct) T0)(hTl:T0.length=TL)(hul:wct p.l≤TL)(hTL:TL≤1048576)(hne:gr≠gt):
 Calls Tryz.prog 181 #[.agg p.v,.slice (some ⟨gr,0,none⟩) N cr,.slice (some ⟨gt,0,none⟩) TL ct] w fun e w'=>e=.returned (.tuple #[.int .i64 (wct p.l:Nat),.int .i64 0])∧RegM w' (.slice (some ⟨gr,0,none⟩) N cr) (Fl.sts R0 (Fl.unr p.l))∧Keep (fun b=>b=gr∨b=gt) w w'∧∃ T,RegM w' (.slice (some ⟨gt,0,none⟩) TL ct) T∧T.length=TL∧T.take (wct p.l)=Fl.tps R0 (Fl.unr p.l):=by
 have hk:=(KW.refl w).alloc (.cells p.v 25)
 have HRd:=hid (tready_any p (some ⟨gr,0,none⟩) (some ⟨gt,0,none⟩) N cr TL ct _ (hM.kw hk) hg hN hul hTL)
 have HK:=hid hk
 have HEx:=hid (fun Ac cc c W (hgc:GoodC p c) (hW:KW w W) (hcm:CodeM W Ac c) (hco:0<c.length→∀ b,Ac=some ⟨b,0,none⟩→b≠gr∧b≠gt)=>
  texec_any gt TL ct T0 Ac cc gr N cr c (Fl.unr p.l) R0 W hcm hco (hR.kw hW) hRl hgc.cd (by rw[hgc.len];exact wct_le _) (hgc.rok hN) hgc.vs hgc.small (hT.kw hW) hTl (by rw[hgc.len];exact hul) hne hTL)
 have HLn:Hid (∀ c,GoodC p c→(Fl.unr p.l).length=wct p.l):=hid fun c h=>h.len
 have hgrw:gr<w.heap.size:=hR.lt rfl
 have hgtw:gt<w.heap.size:=hT.lt rfl
 have HGr:=hid (And.intro hgrw hgtw)
 have hsz:(w.alloc (.cells p.v 25)).heap.size=w.heap.size+1:=by simp
 rw[hsz] at HRd
 generalize wct p.l=wc at *
 generalize Fl.unr p.l=un at *
 clear hM hk hg hN hR hRl hT hTl hul hsz hgrw hgtw hne
 unfold Pg.v pgv at *
 go_enter Tryz.func181,Tryz.ntmps181
 go_wp2_with fail
 refine HRd.out.mono ?_
 rintro e w1 ⟨v,c,rfl,hgc,ho,hk1⟩
 have HK1:=hid (HK.out.t hk1)
 obtain⟨Ac,cc,rfl,_,hAc⟩:=ho.row
 have hex:=HEx.out Ac cc c w1 hgc HK1.out ho.code (fun h0 b hb=>by
  obtain⟨b2,hb2,hge,_⟩:=hAc h0
  rw[hb2] at hb
  cases hb
  have:=HGr.out
  omega)
 rw[HLn.out c hgc] at hex
 have HE:=hid hex
 clear hk1 HRd hgc ho hAc HK hex HEx
 go_wp2_with fail
 refine HE.out.mono ?_
 rintro e w2 ⟨rfl,hr2,hk2,T,hT2,hT3,hT4⟩
 have HR2:=hid hr2
 have HK2:=hid (HK1.out.kt hk2)
 have HT2:=hid hT2
 have HT3:=hid hT3
 have HT4:=hid hT4
 clear hr2 hk2 HE hT2 hT3 hT4
 go_wp2_with fail
 go_ret2
 exact⟨rfl,HR2.out,HK2.out,T,HT2.out,HT3.out,HT4.out⟩
theorem u64_info:∃ i,Tryz.prog.info? 81=some i∧i.zero=some (.int .u64 0)∧i.size=1∧i.bytes=8:=by
 have h1:(Tryz.prog.info? 81).map (·.size)=some 1:=by kernel_rfl
 have h2:(Tryz.prog.info? 81).map (·.bytes)=some 8:=by kernel_rfl
 have h3:(Tryz.prog.info? 81).bind (·.zero)=some (.int .u64 0):=by kernel_rfl
 cases h:Tryz.prog.info? 81 with
 | none=>rw[h] at h1;cases h1
 | some i=>
   rw[h] at h1 h2 h3
   exact⟨i,rfl,h3,Option.some.inj h1,Option.some.inj h2⟩
theorem sgrow_any (n:Nat)(w:World)(h1:1≤n)(h2:n≤1048576):
 Calls Tryz.prog 244 #[.slice none 0 0,.int .i64 n] w fun e w'=>∃ cap,e=.returned (.slice (some ⟨w.heap.size,0,none⟩) 0 cap)∧n≤cap∧Owns w' w.heap.size 81 (.slice (some ⟨w.heap.size,0,none⟩) 0 cap) []∧KW w w':=by
 obtain⟨i,hi,hz,hs,hb⟩:=u64_info
 have hr:=hid (fun(W:World) ty=>Lib.run_append_nil_zeros (P:=Tryz.prog) W 22 3 ty 81 i (.int .u64 0) .i64 .i64 Tryz.underlying22 Tryz.underlying3 hi hz n (by omega) (by omega) (by omega) (by rw[hb];omega))
 clear hi hz hs hb
 have d0:decide ((n:Int)<0)=false:=decide_eq_false (by omega)
 have d1:decide ((0:Int)<(n:Int))=true:=decide_eq_true (by omega)
 go_enter Tryz.func244,Tryz.ntmps244
 go_wp2_with (at_builtin;refine Lib.wpList_append_run _ rfl _ _ _ _ rfl _ _ rfl rfl _ _ (hr.out _ _) ?_)
 have hge:=grownCap_ge w n 0 81
 have hle:=grownCap_le_maxLen w n 0 81 (by unfold maxLen;omega)
 generalize grownCap w n 0 81=C at *
 go_ret
 refine⟨C,rfl,hge,⟨by simp,.inr ⟨w.heap.size,C,_,rfl,Nat.le_refl _,heap_alloc_new w _,Nat.zero_le _,hle,?_,by simp⟩⟩,((KW.refl w).alloc _).drew⟩
 simp[Builtin.zeroCells]
 omega
theorem u64s_cat (a b:List Int):u64s (a++b)=u64s a++u64s b:=by simp[u64s]
theorem concat_any (g m c:Nat)(ls:List (List Int))(vs:Nat→Value)(w:World)(hm:ls.length=m)(hm4:m≤1024)(hr:w.rowIs g 22 m vs)(hu:∀ k,k<m→HU w (vs k) (ls.getD k []))(h1:1≤ls.flatten.length)(h2:ls.flatten.length≤1048576):
 Calls Tryz.prog 223 #[.slice (some ⟨g,0,none⟩) m c] w fun e w'=>∃ v,e=.returned v∧Owns w' w.heap.size 81 v (u64s ls.flatten)∧KW w w':=by
 have HU1:=hid (fun k (hk:k<m) W (hW:KW w W)=>(hu k hk).kw hW)
 have HRw:=hid (fun W (hW:KW w W)=>hW.row hr.lt hr)
 have HStep:Hid (∀ k,k<m→(ls.take (k+1)).flatten=(ls.take k).flatten++ls.getD k []):=hid fun k hk=>by
  have h1:k<ls.length:=by omega
  rw[List.take_succ_eq_append_getElem h1,List.flatten_append]
  congr 1
  simp[h1]
 have HEnd:Hid ((ls.take m).flatten=ls.flatten):=hid (by rw[List.take_of_length_le (by omega)])
 have HLe:Hid (∀ k,(ls.take k).flatten.length≤1048576):=hid fun k=>by
  have h3:ls.flatten=(ls.take k).flatten++(ls.drop k).flatten:=by rw[← List.flatten_append,List.take_append_drop]
  have h4:=congrArg List.length h3
  rw[List.length_append] at h4
  omega
 have HL0:Hid ((ls.take 0).flatten=[]):=hid rfl
 obtain⟨T,hT⟩:∃ T,ls.flatten.length=T:=⟨_,rfl⟩
 have HT:=hid hT
 have HG:=hid (fun W=>sgrow_any T W (by omega) (by omega))
 clear hr hu h1 h2 hT
 go_enter Tryz.func223,Tryz.ntmps223
 go_wp2_with fail
 go_loopw [3,5,11] (fun sz _ i wr=>∃ k:Nat,k≤m∧i=.int .i64 k∧sz=.int .i64 ((ls.take k).flatten.length:Nat)∧Hid (KW w wr)) (fun _ _ i _=>m - (intOf i).toNat)
 case atStart=>exact⟨0,by omega,rfl,rfl,KW.refl w⟩
 case round=>
  obtain⟨k,hk,rfl,rfl,HK⟩:=hrel
  by_cases hlt:k<m
  ·have L1:(k:Int)<(m:Int):=by omega
   obtain⟨A,cv,hv,_⟩:=(HU1.out k hlt wr HK.out).row
   have c0:=(HRw.out wr HK.out).cell hlt
   rw[hv] at c0
   have hst:=congrArg List.length (HStep.out k hlt)
   rw[List.length_append] at hst
   have hle:=HLe.out (k+1)
   have HSt:=hid hst
   rw[hst] at hle
   clear hst hv
   generalize (ls.getD k []).length=nk at *
   generalize (ls.take k).flatten.length=sk at *
   have d0:¬ ((sk:Int)+(nk:Int)<0):=by omega
   go_wp2_with fail
   go_roundw
   case rel=>exact⟨k+1,by omega,by go_num,by rw[HSt.out];rfl,HK⟩
   case measure=>simp[intOf];omega
  ·obtain rfl:k=m:=by omega
   rw[HEnd.out,HT.out] 
   clear hlt
   go_wp2_with fail
   refine(HG.out wr).mono ?_
   rintro e w1 ⟨cap,rfl,hcap,ho,hk1⟩
   have HK1:=hid (HK.out.t hk1)
   have HO:=hid (ho.base HK.out.size)
   clear ho hk1 HG
   go_wp2_with fail
   go_loopw [6,8,27] (fun v _ i wr=>∃ j:Nat,j≤k∧i=.int .i64 j∧Hid (Owns wr w.heap.size 81 v (u64s (ls.take j).flatten))∧Hid (KW w wr)) (fun _ _ i _=>k - (intOf i).toNat)
   case atStart=>exact⟨0,by omega,rfl,HO,HK1⟩
   case round=>
    obtain⟨j,hj,rfl,HOj,HKj⟩:=hrel
    obtain⟨Ao,co,hvo,_⟩:=HOj.out.row
    rw[u64s_len] at hvo
    subst hvo
    by_cases hlt:j<k
    ·have L1:(j:Int)<(k:Int):=by omega
     have huj:=HU1.out j hlt wr HKj.out
     obtain⟨A,cv,hv,_⟩:=huj.row
     have c0:=(HRw.out wr HKj.out).cell hlt
     rw[hv] at c0 huj
     have hst:=congrArg List.length (HStep.out j hlt)
     rw[List.length_append] at hst
     have hle:=HLe.out (j+1)
     rw[hst] at hle
     have HStj:=hid (HStep.out j hlt)
     have hown:=HOj.out
     unfold Owns at hown
     rw[u64s_len] at hown
     unfold HU at huj
     have HOw:=hid hown
     have HUj:=hid huj
     obtain⟨nj,hnj⟩:∃ n,(ls.getD j []).length=n:=⟨_,rfl⟩
     obtain⟨sj,hsj⟩:∃ n,(ls.take j).flatten.length=n:=⟨_,rfl⟩
     have HN:=hid (And.intro hnj hsj)
     rw[hnj] at HUj c0 hle
     rw[hsj] at HOw HOj hle
     clear hst hv hown huj hnj
     rw[hsj]
     clear hsj
     go_wp2_with (at_builtin;refine wpList_appS rfl sliceU rfl (W:=wr) (base:=w.heap.size) (k:=nj) (n:=sj) (v:=.slice Ao sj co) (u:=.slice A nj cv) (xs:=u64s (ls.take j).flatten) (ys:=u64s (ls.getD j [])) rfl rfl HUj.out HOw.out (Below.size HKj.out) (by omega) (by omega) ?_;intro v7 w7 hown7 hkeep7)
     have HO7:Hid (Owns w7 w.heap.size 81 v7 (u64s (ls.take (j+1)).flatten)):=hid (by
      unfold Owns
      rw[u64s_len,HStj.out,List.length_append,u64s_cat,HN.out.1,HN.out.2]
      exact hown7)
     have HK7:Hid (KW w w7):=hid (HKj.out.kept hkeep7 fun i hi=>(HOj.out.lt hi).1)
     clear hown7 hkeep7
     go_roundw
     case rel=>exact⟨j+1,by omega,by go_num,HO7,HK7⟩
     case measure=>simp[intOf];omega
    ·obtain rfl:j=k:=by omega
     rw[HEnd.out] at HOj
     rw[HEnd.out]
     clear hlt
     go_wp2_with fail
     go_ret
     exact⟨_,rfl,HOj.out,HKj.out⟩
theorem zc_list (k:Nat):(Builtin.zeroCells #[(.int .u64 0:Value)] k).toList=List.replicate k (.int .u64 0):=by
 rw[List.eq_replicate_iff]
 constructor
 ·simp[Builtin.zeroCells]
 ·intro b hb
  simp[Builtin.zeroCells,Nat.mod_one] at hb
  exact hb.2.symm
theorem run_app_zeros (W:World)(ty:TypeId)(base g n cap k:Nat)(xs:List Value)(hown:W.ownsRow base 81 1 (.slice (some ⟨g,0,none⟩) n cap) n xs)(hb:base≤W.heap.size)(hn:n+k≤1048576):
 ∃ v' w',(Builtin.append_ #[22,3] ty #[.slice (some ⟨g,0,none⟩) n cap,.int .i64 k]).run Tryz.prog W=.ok v' w'∧w'.ownsRow base 81 1 v' (n+k) (xs++List.replicate k (.int .u64 0))∧Keep (fun i=>i=g) W w':=by
 obtain⟨i,hi,hz,hs,hby⟩:=u64_info
 have hx:=hown
 rcases hx.2 with⟨h0,_⟩|⟨g',cap',cur,hv,hbg,hg,hnc,hcm,hcs,htk⟩
 ·cases h0
 ·cases hv
  have hw:IntKind.i64.wrap (k:Int)=k:=IntWalk.i64_in _ (by omega)
  have hlen:(xs++List.replicate k (Value.int .u64 0)).length=(n+k) * 1:=by rw[List.length_append,hown.1,List.length_replicate];omega
  have hneg:¬ ((k:Int)<0):=by omega
  have h48:¬ (281474976710656<(k:Int) * 8):=by omega
  by_cases hroom:n+k≤cap
  ·by_cases hk0:k=0
   ·subst hk0
    have hw0:IntKind.i64.wrap 0=0:=by decide
    refine⟨.slice (some ⟨g,0,none⟩) n cap,W,?_,by simpa using hown,Keep.refl _ _⟩
    simp[Builtin.append_,run_underlying Tryz.underlying22,run_underlying Tryz.underlying3,sizeOf,typeInfo,hi,hs,hby,asInt,asIntOf,hw0,hnc,storeCells]
   ·have h1:∀ u∈List.replicate k (Value.int .u64 0),u.oneCell'=true:=fun u hu=>by rw[(List.mem_replicate.1 hu).2];rfl
    have hst:=run_storeCells_at Tryz.prog g (n * i.size) 81 (List.replicate k (Value.int .u64 0)) 0 cur W hg (by simp;rw[hs];omega) h1
    simp only[Nat.add_zero] at hst
    have hzc:=zc_list k
    refine⟨.slice (some ⟨g,0,none⟩) (n+k) cap,W.setRow g (cur.toList.take (n * i.size)++List.replicate k (Value.int .u64 0)++cur.toList.drop (n * i.size+(List.replicate k (Value.int .u64 0)).length)).toArray,?_,⟨hlen,.inr ⟨g,cap,_,rfl,hbg,setRow_heap W g cur _ _ _ hg,hroom,hcm,?_,?_⟩⟩,(Keep.refl _ W).setRow g _ rfl⟩
    ·simp[Builtin.append_,run_underlying Tryz.underlying22,run_underlying Tryz.underlying3,sizeOf,typeInfo,zeroValue,hi,hz,hs,hby,asInt,asIntOf,hw,hneg,h48,hk0,hroom,hzc,Addr.add_lit,hst,Value.cells]
     rw[hs] at hst
     simp only[Nat.mul_one,List.length_replicate,List.append_assoc] at hst
     rw[hst]
     rfl
    ·simp
     rw[hs]
     omega
    ·rw[hs,htk,← hlen]
     exact List.take_left
  ·have holds:∀ j u,xs[j]?=some u→W.cell? ((⟨g,0,none⟩:Addr).add j)=some u:=hown.cells (g:=g) rfl
   have hr:=Lib.run_append_grow_zeros (P:=Tryz.prog) W 22 3 ty 81 i (.int .u64 0) .i64 .i64 Tryz.underlying22 Tryz.underlying3 hi hz (some ⟨g,0,none⟩) n cap xs (run_firstCells_some (P:=Tryz.prog) W.drew i.size n ⟨g,0,none⟩ n cap xs (by rw[hs];exact hown.1) holds) k (by omega) (by omega) (by omega) (by omega) (by rw[hby];omega) (by rw[hby];exact growslice_fits (by omega) (by omega))
   have hge:=grownCap_ge W (n+k) cap 81
   have hle:=grownCap_le_maxLen W (n+k) cap 81 (by unfold maxLen;omega)
   generalize grownCap W (n+k) cap 81=C at *
   refine⟨_,_,hr,⟨hlen,.inr ⟨W.heap.size,C,_,rfl,hb,heap_alloc_new W.drew _,hge,hle,?_,?_⟩⟩,((Keep.refl _ W).drew).alloc _⟩
   ·have h9:=hown.1
    simp[size_zeroCells,Value.cells]
    omega
   ·have h9:=hown.1
    simp only[Array.toList_append,Value.cells,zc_list]
    rw[← hlen]
    exact List.take_left
section
variable {ops : Array Oper} {Q : Exit → Act → World → Prop}
theorem wpList_appK {rest:List Oper}{o:Oper}{a:Act}(hgd:o.guard=none){s x:Operand}(ho:o.op=.call { callee:=.builtin .append,args:=#[s,x],argTypes:=#[22,3] }){W:World}{base g n cap k:Nat}{L:List Int}
 (hs:a.eval s=.slice (some ⟨g,0,none⟩) n cap) (hx:a.eval x=.int .i64 k) (hown:Owns W base 81 (.slice (some ⟨g,0,none⟩) n cap) (u64s L)) (hL:L.length=n) (hb:base≤W.heap.size) (hl:n+k≤1048576)
 (h:∀ v' w',Hid (Owns w' base 81 v' (u64s (L++List.replicate k 0)))→Hid (Keep (fun i=>i=g) W w')→wpList Tryz.prog ops Q rest (a.put o.dst v') w'):wpList Tryz.prog ops Q (o::rest) a W:=by
 have hown':=hown
 unfold Owns at hown'
 rw[u64s_len,hL] at hown'
 obtain⟨v',w',hr,h2,h3⟩:=run_app_zeros W o.type base g n cap k (u64s L) hown' hb hl
 refine Lib.wpList_append_run W hgd s x _ _ ho _ _ hs hx v' w' hr (h v' w' (hid ?_) (hid h3))
 unfold Owns
 rw[u64s_len,List.length_append,List.length_replicate,hL,u64s_cat,show u64s (List.replicate k 0)=List.replicate k (.int .u64 0) by simp[u64s]]
 exact h2
theorem wp_appK {K:Act→World→Prop}{o:Oper}{a:Act}{s x:Operand}(ho:o.op=.call { callee:=.builtin .append,args:=#[s,x],argTypes:=#[22,3] }){W:World}{base g n cap k:Nat}{L:List Int}
 (hs:a.eval s=.slice (some ⟨g,0,none⟩) n cap) (hx:a.eval x=.int .i64 k) (hown:Owns W base 81 (.slice (some ⟨g,0,none⟩) n cap) (u64s L)) (hL:L.length=n) (hb:base≤W.heap.size) (hl:n+k≤1048576)
 (h:∀ v' w',Hid (Owns w' base 81 v' (u64s (L++List.replicate k 0)))→Hid (Keep (fun i=>i=g) W w')→K (a.put o.dst v') w'):o.wp Tryz.prog a W K Q:=by
 have hown':=hown
 unfold Owns at hown'
 rw[u64s_len,hL] at hown'
 obtain⟨v',w',hr,h2,h3⟩:=run_app_zeros W o.type base g n cap k (u64s L) hown' hb hl
 refine Lib.wp_append_run W s x _ _ ho _ _ hs hx v' w' hr (h v' w' (hid ?_) (hid h3))
 unfold Owns
 rw[u64s_len,List.length_append,List.length_replicate,hL,u64s_cat,show u64s (List.replicate k 0)=List.replicate k (.int .u64 0) by simp[u64s]]
 exact h2
end
theorem wide_any (A:Option Addr)(pl c1 N n c:Nat)(gx:Option Addr)(l:List Int)(w:World)(hu:HU w (.slice gx n c) l)(hl:l.length=n)(hn:1≤n)(hN:n≤N)(hN6:N≤64):
 Calls Tryz.prog 187 #[.agg (pgv (N:Int) A pl c1),.slice gx n c] w fun e w'=>∃ gr cap,e=.returned (.slice (some ⟨gr,0,none⟩) N cap)∧Owns w' w.heap.size 81 (.slice (some ⟨gr,0,none⟩) N cap) (u64s (l++List.replicate (N - n) 0))∧KW w w':=by
 have hk:=(KW.refl w).alloc (.cells (pgv (N:Int) A pl c1) 25)
 have HC:=hid (fun W (hW:KW w W)=>clone64_any _ l W (by omega) (hu.kw hW))
 have hh:=heap_alloc_new w (.cells (pgv (N:Int) A pl c1) 25)
 have HR:Hid ((w.alloc (.cells (pgv (N:Int) A pl c1) 25)).cell? ⟨w.heap.size,0,none⟩=some (.int .i64 N)):=hid (by
  unfold World.cell?
  rw[hh]
  rfl)
 have HK:=hid hk
 have HL:=hid hl
 unfold CloneU at HC
 unfold pgv at *
 have hsub:(N:Int) - (n:Int)=((N - n:Nat):Int):=by omega
 clear hu hk hh hl
 go_enter Tryz.func187,Tryz.ntmps187
 go_wp2_with fail
 generalize hW1:w.alloc (.cells #[.int .i64 (N:Int),.slice A pl c1] 25)=w1 at *
 have HSz:Hid (w.heap.size<w1.heap.size):=hid (by rw[← hW1];simp)
 clear hW1
 have hXS:=HR.out
 refine wpX_region (S:=fun W=>W.cell? ⟨w.heap.size,0,none⟩=some (.int .i64 (N:Int))) (L:=99) (by kernel_rfl) ?_
 refine tk 0 ?_ (fun _ _=>?_) hXS ?_;rotate_left;· go_simp;try rfl
 simp only[lsz,lss]
 refine tk 2 ?_ (fun _ _=>?_) hXS ?_;rotate_left;· go_simp;try rfl
 simp only[lsz,lss]
 refine tk 3 ?_ (fun _ _=>?_) hXS ?_;rotate_left;· go_simp;try rfl
 simp only[lsz,lss]
 refine tk 4 ?_ (fun _ _=>?_) hXS ?_;rotate_left;· go_simp;try rfl
 simp only[lsz,lss]
 refine tk 5 ?_ (fun _ _=>?_) hXS ?_;rotate_left;· go_simp;try rfl
 simp only[lsz,lss]
 refine tk 6 ?_ (fun _ _=>?_) hXS ?_;rotate_left;· go_simp;try rfl
 simp only[lsz,lss]
 rw[show IntKind.i64.wrap ((N - n:Nat):Int)=((N - n:Nat):Int) from IntWalk.i64_in _ (by omega)]
 refine wpX_hard (k:=1) (by kernel_rfl) rfl (fun K hK=>?_)
 go_simp
 refine(HC.out _ HK.out.drew).mono ?_
 rintro e w2 ⟨v,rfl,ho,hk2⟩
 have HO:Hid (Owns w2 w1.heap.size 81 v (u64s l)):=hid ho
 have HK2:Hid (KW w1 w2):=hid ((KW.refl w1).drew.t hk2)
 have hXS:w2.cell? ⟨w.heap.size,0,none⟩=some (.int .i64 (N:Int)):=(Below.cell HK2.out HSz.out).trans HR.out
 obtain⟨Av,cv,rfl,_,hsome,_⟩:=ho.row
 rw[u64s_len,HL.out] at hsome
 obtain⟨gr,rfl,hge,hlt⟩:=hsome (by omega)
 have HGe:=hid hge
 try rw[u64s_len,HL.out] at HO
 try rw[u64s_len,HL.out]
 refine hK _ _ (fun _=>hXS) ?_
 clear hK K hk2 ho hlt hsome
 try simp only[lsz,lss]
 refine wpX_hard (k:=7) (by kernel_rfl) rfl (fun K hK=>?_)
 rw[if_pos (by rfl)]
 refine wp_appK (base:=w1.heap.size) rfl rfl rfl HO.out HL.out (Below.size HK2.out) (by omega) ?_
 intro v3 w3 HO3 HK3
 have HK4:Hid (KW w w3):=hid ((HK.out.t HK2.out).kept HK3.out fun i hi=>by subst hi;have:=HGe.out;have:=HSz.out;simp at *;omega)
 have hgne:w.heap.size≠gr:=by have:=HGe.out;have:=HSz.out;simp at *;omega
 have hXS3:w3.cell? ⟨w.heap.size,0,none⟩=some (.int .i64 (N:Int)):=HK3.out.cs hgne hXS
 have hln:(l++List.replicate (N - n) 0).length=N:=by rw[List.length_append,List.length_replicate,HL.out];omega
 obtain⟨A3,c3,rfl,_,hs3,_⟩:=HO3.out.row
 rw[u64s_len,hln] at hs3
 obtain⟨g3,rfl,hge3,_⟩:=hs3 (by omega)
 have HO4:Hid (Owns w3 w.heap.size 81 (.slice (some ⟨g3,0,none⟩) N c3) (u64s (l++List.replicate (N - n) 0))):=hid (by
  have h:=HO3.out
  rw[u64s_len,hln] at h
  exact h.base (Nat.le_of_lt HSz.out))
 refine hK _ _ (fun _=>hXS3) ?_
 rw[u64s_len,hln]
 have hXS:=hXS3
 clear hK K hXS3 hs3 HO3 HK3 hln
 try simp only[List.set_cons_zero,List.set_cons_succ,Act.put]
 refine tk 8 ?_ (fun _ _=>?_) hXS ?_;rotate_left;· go_simp;try rfl
 simp only[lsz,lss]
 refine wpX_done (by kernel_rfl) ?_
 clear hXS
 go_wp2_with fail
 go_ret
 exact⟨g3,c3,rfl,HO4.out,HK4.out⟩
structure DrP (w:World)(bd bp cp ba:Nat)(ps:List Int):Prop where
 c13:w.cell? ⟨bd,13,none⟩=some (.slice (some ⟨bp,0,none⟩) ps.length cp)
 c14:w.cell? ⟨bd,14,none⟩=some (.pointer (some ⟨ba,0,none⟩))
 pr:∀ i,i<ps.length→w.cell? ⟨bp,i,none⟩=some (.int .i64 (ps.getD i 0))
theorem DrP.keep {own:Nat→Prop}{w w':World}{bd bp cp ba:Nat}{ps:List Int}(h:DrP w bd bp cp ba ps)(hk:Keep own w w')(h1:¬ own bd)(h2:¬ own bp):DrP w' bd bp cp ba ps:=⟨hk.cs h1 h.c13,hk.cs h1 h.c14,fun i hi=>hk.cs h2 (h.pr i hi)⟩
theorem DrP.kw {w w':World}{bd bp cp ba:Nat}{ps:List Int}(h:DrP w bd bp cp ba ps)(hk:KW w w'):DrP w' bd bp cp ba ps:=h.keep (hk.keep (own:=fun _=>False)) id id
theorem dget_any (bd bp cp ba bw L given part at_ n:Nat)(ps Wd:List Int)(w:World)(hD:DrP w bd bp cp ba ps)(hA:ArM w ba bw L Wd given)(hp:part+1<ps.length)(hps:ps.length≤100)(h0:ps.getD part 0=at_)(h1:ps.getD (part+1) 0=at_+n)(hfit:at_+n≤given):
 Calls Tryz.prog 119 #[.pointer (some ⟨bd,0,none⟩),.int .i64 part] w fun e w'=>∃ v,e=.returned v∧Owns w' w.heap.size 81 v (u64s (getL Wd at_ n))∧KW w w':=by
 have hgl:=hA.gl
 have hll:=hA.ll
 have HRd:=hid (fun W (hW:KW w W)=>read_any ba bw L given Wd at_ n W (hA.kw hW) (by omega))
 have HSA:Hid (∀ W,KW w W→W.cell? ⟨bd,13,none⟩=some (.slice (some ⟨bp,0,none⟩) ps.length cp)∧W.cell? ⟨bd,14,none⟩=some (.pointer (some ⟨ba,0,none⟩))∧W.cell? ⟨bp,part,none⟩=some (.int .i64 (at_:Int))∧W.cell? ⟨bp,part+1,none⟩=some (.int .i64 ((at_:Int)+n))):=hid fun W hW=>by
  have h:=hD.kw hW
  exact⟨h.c13,h.c14,by rw[h.pr part (by omega),h0],by rw[h.pr (part+1) hp,h1]⟩
 clear hD hA h0 h1
 generalize ps.length=P at *
 have hwp:IntKind.i64.wrap ((part:Int)+1)=(part:Int)+1:=IntWalk.i64_in _ (by omega)
 have hws:IntKind.i64.wrap ((at_:Int)+n - at_)=(n:Int):=by rw[show(at_:Int)+n - at_=(n:Int) by omega];exact IntWalk.i64_in _ (by omega)
 have hsub:(at_:Int)+n - at_=n:=by omega
 have hp1:(part:Int)+1<(P:Int):=by omega
 have hp2:(0:Int)≤(part:Int)+1:=by omega
 have hp3:((part:Int)+1).toNat=part+1:=by omega
 have hlp:part<P:=by omega
 go_enter Tryz.func119,Tryz.ntmps119
 go_wp2_with fail
 have hXS:=HSA.out w.drew (KW.refl w).drew
 refine wpX_region (S:=fun W=>W.cell? ⟨bd,13,none⟩=some (.slice (some ⟨bp,0,none⟩) P cp)∧W.cell? ⟨bd,14,none⟩=some (.pointer (some ⟨ba,0,none⟩))∧W.cell? ⟨bp,part,none⟩=some (.int .i64 (at_:Int))∧W.cell? ⟨bp,part+1,none⟩=some (.int .i64 ((at_:Int)+n))) (L:=99) (by kernel_rfl) ?_
 refine tk 0 ?_ (fun _ _=>?_) hXS ?_;rotate_left;· go_simp;try rfl
 simp only[lsz,lss]
 refine tk 1 ?_ (fun _ _=>?_) hXS ?_;rotate_left;· go_simp;try rfl
 simp only[lsz,lss]
 refine tk 2 ?_ (fun _ _=>?_) hXS ?_;rotate_left;· go_simp;try rfl
 simp only[lsz,lss]
 refine tk 3 ?_ (fun _ _=>?_) hXS ?_;rotate_left;· go_simp;try rfl
 simp only[lsz,lss]
 refine tk 4 ?_ (fun _ _=>?_) hXS ?_;rotate_left;· go_simp;try rfl
 simp only[lsz,lss]
 refine tk 5 ?_ (fun _ _=>?_) hXS ?_;rotate_left;· go_simp;try rfl
 simp only[lsz,lss]
 refine tk 6 ?_ (fun _ _=>?_) hXS ?_;rotate_left;· go_simp;try rfl
 simp only[lsz,lss]
 refine tk 7 ?_ (fun _ _=>?_) hXS ?_;rotate_left;· go_simp;try rfl
 simp only[lsz,lss]
 refine tk 8 ?_ (fun _ _=>?_) hXS ?_;rotate_left;· go_simp;try rfl
 simp only[lsz,lss]
 refine tk 9 ?_ (fun _ _=>?_) hXS ?_;rotate_left;· go_simp;try rfl
 simp only[lsz,lss]
 refine tk 10 ?_ (fun _ _=>?_) hXS ?_;rotate_left;· go_simp;try rfl
 simp only[lsz,lss]
 refine tk 11 ?_ (fun _ _=>?_) hXS ?_;rotate_left;· go_simp;try rfl
 simp only[lsz,lss]
 refine tk 12 ?_ (fun _ _=>?_) hXS ?_;rotate_left;· go_simp;try rfl
 simp only[lsz,lss]
 refine tk 13 ?_ (fun _ _=>?_) hXS ?_;rotate_left;· go_simp;try rfl
 simp only[lsz,lss]
 refine tk 14 ?_ (fun _ _=>?_) hXS ?_;rotate_left;· go_simp;try rfl
 simp only[lsz,lss]
 refine tk 15 ?_ (fun _ _=>?_) hXS ?_;rotate_left;· go_simp;try rfl
 simp only[lsz,lss]
 refine tk 16 ?_ (fun _ _=>?_) hXS ?_;rotate_left;· go_simp;try rfl
 simp only[lsz,lss]
 refine tk 17 ?_ (fun _ _=>?_) hXS ?_;rotate_left;· go_simp;try rfl
 simp only[lsz,lss]
 refine tk 18 ?_ (fun _ _=>?_) hXS ?_;rotate_left;· go_simp;try rfl
 simp only[lsz,lss]
 refine tk 19 ?_ (fun _ _=>?_) hXS ?_;rotate_left;· go_simp;try rfl
 simp only[lsz,lss]
 refine tk 20 ?_ (fun _ _=>?_) hXS ?_;rotate_left;· go_simp;try rfl
 simp only[lsz,lss]
 refine tk 21 ?_ (fun _ _=>?_) hXS ?_;rotate_left;· go_simp;try rfl
 simp only[lsz,lss]
 refine tk 22 ?_ (fun _ _=>?_) hXS ?_;rotate_left;· go_simp;try rfl
 simp only[lsz,lss]
 refine tk 23 ?_ (fun _ _=>?_) hXS ?_;rotate_left;· go_simp;try rfl
 simp only[lsz,lss]
 refine tk 24 ?_ (fun _ _=>?_) hXS ?_;rotate_left;· go_simp;try rfl
 simp only[lsz,lss]
 refine tk 25 ?_ (fun _ _=>?_) hXS ?_;rotate_left;· go_simp;try rfl
 simp only[lsz,lss]
 refine tk 26 ?_ (fun _ _=>?_) hXS ?_;rotate_left;· go_simp;try rfl
 simp only[lsz,lss]
 refine wpX_hard (k:=27) (by kernel_rfl) rfl (fun K hK=>?_)
 go_simp
 rw[show IntKind.i64.wrap (n:Int)=(n:Int) from IntWalk.i64_in _ (by omega)]
 refine(HRd.out _ (KW.refl w).drew).mono ?_
 rintro e w1 ⟨v,rfl,ho,hk1⟩
 have HO:Hid (Owns w1 w.heap.size 81 v (u64s (getL Wd at_ n))):=hid ho
 have HK:Hid (KW w w1):=hid ((KW.refl w).drew.t hk1)
 have hXS:=HSA.out w1 HK.out
 obtain⟨Av,cv,rfl,_⟩:=ho.row
 refine hK _ _ (fun _=>hXS) ?_
 clear hK K hk1 ho
 generalize (u64s (getL Wd at_ n)).length=NL at *
 try simp only[lsz,lss]
 refine tk 28 ?_ (fun _ _=>?_) hXS ?_;rotate_left;· go_simp;try rfl
 simp only[lsz,lss]
 refine tk 29 ?_ (fun _ _=>?_) hXS ?_;rotate_left;· go_simp;try rfl
 simp only[lsz,lss]
 refine tk 30 ?_ (fun _ _=>?_) hXS ?_;rotate_left;· go_simp;try rfl
 simp only[lsz,lss]
 refine tk 31 ?_ (fun _ _=>?_) hXS ?_;rotate_left;· go_simp;try rfl
 simp only[lsz,lss]
 refine tk 32 ?_ (fun _ _=>?_) hXS ?_;rotate_left;· go_simp;try rfl
 simp only[lsz,lss]
 refine wpX_done (by kernel_rfl) ?_
 clear hXS
 go_wp2_with fail
 go_ret
 exact⟨_,rfl,HO.out,HK.out⟩
theorem dput_any (bd bp cp ba bw L given part at_:Nat)(ps Wd l:List Int)(v:Value)(w:World)(hD:DrP w bd bp cp ba ps)(hA:ArM w ba bw L Wd given)(hp:part<ps.length)(hps:ps.length≤100)(h0:ps.getD part 0=at_)(hfit:at_+l.length≤given)(hv:HU w v l)(hne:bd≠bw∧bp≠bw):
 Calls Tryz.prog 105 #[.pointer (some ⟨bd,0,none⟩),.int .i64 part,v] w fun e w'=>e=.returned (.tuple #[])∧ArM w' ba bw L (putL Wd at_ l) given∧Keep (· = bw) w w':=by
 have hgl:=hA.gl
 have hll:=hA.ll
 have HWr:=hid (fun W (hW:KW w W)=>write_any ba bw L given Wd at_ v l W (hA.kw hW) hfit (hv.kw hW))
 have HSA:Hid (∀ W,KW w W→W.cell? ⟨bd,13,none⟩=some (.slice (some ⟨bp,0,none⟩) ps.length cp)∧W.cell? ⟨bd,14,none⟩=some (.pointer (some ⟨ba,0,none⟩))∧W.cell? ⟨bp,part,none⟩=some (.int .i64 (at_:Int))):=hid fun W hW=>by
  have h:=hD.kw hW
  exact⟨h.c13,h.c14,by rw[h.pr part (by omega),h0]⟩
 obtain⟨Av,cv,rfl,_⟩:=hv.row
 clear hD hA h0 hv
 generalize ps.length=P at *
 generalize l.length=nl at *
 go_enter Tryz.func105,Tryz.ntmps105
 go_wp2_with fail
 have hXS:=HSA.out w.drew (KW.refl w).drew
 refine wpX_region (S:=fun W=>W.cell? ⟨bd,13,none⟩=some (.slice (some ⟨bp,0,none⟩) P cp)∧W.cell? ⟨bd,14,none⟩=some (.pointer (some ⟨ba,0,none⟩))∧W.cell? ⟨bp,part,none⟩=some (.int .i64 (at_:Int))) (L:=99) (by kernel_rfl) ?_
 refine tk 0 ?_ (fun _ _=>?_) hXS ?_;rotate_left;· go_simp;try rfl
 simp only[lsz,lss]
 refine tk 1 ?_ (fun _ _=>?_) hXS ?_;rotate_left;· go_simp;try rfl
 simp only[lsz,lss]
 refine tk 2 ?_ (fun _ _=>?_) hXS ?_;rotate_left;· go_simp;try rfl
 simp only[lsz,lss]
 refine tk 3 ?_ (fun _ _=>?_) hXS ?_;rotate_left;· go_simp;try rfl
 simp only[lsz,lss]
 refine tk 4 ?_ (fun _ _=>?_) hXS ?_;rotate_left;· go_simp;try rfl
 simp only[lsz,lss]
 refine tk 5 ?_ (fun _ _=>?_) hXS ?_;rotate_left;· go_simp;try rfl
 simp only[lsz,lss]
 refine tk 6 ?_ (fun _ _=>?_) hXS ?_;rotate_left;· go_simp;try rfl
 simp only[lsz,lss]
 refine tk 7 ?_ (fun _ _=>?_) hXS ?_;rotate_left;· go_simp;try rfl
 simp only[lsz,lss]
 refine tk 8 ?_ (fun _ _=>?_) hXS ?_;rotate_left;· go_simp;try rfl
 simp only[lsz,lss]
 refine tk 9 ?_ (fun _ _=>?_) hXS ?_;rotate_left;· go_simp;try rfl
 simp only[lsz,lss]
 refine tk 10 ?_ (fun _ _=>?_) hXS ?_;rotate_left;· go_simp;try rfl
 simp only[lsz,lss]
 refine tk 11 ?_ (fun _ _=>?_) hXS ?_;rotate_left;· go_simp;try rfl
 simp only[lsz,lss]
 refine wpX_hard (k:=12) (by kernel_rfl) rfl (fun K hK=>?_)
 go_simp
 refine(HWr.out _ (KW.refl w).drew).mono ?_
 rintro e w1 ⟨rfl,ha1,hk1⟩
 have HA:=hid ha1
 have HK:Hid (Keep (· = bw) w w1):=hid ((KW.refl w).drew.kt hk1)
 obtain⟨q1,q2,q3⟩:=HSA.out w (KW.refl w)
 have hXS:=And.intro (HK.out.cs hne.1 q1) (And.intro (HK.out.cs hne.1 q2) (HK.out.cs hne.2 q3))
 refine hK _ _ (fun _=>hXS) ?_
 clear hK K ha1 hk1 q1 q2 q3
 try simp only[lsz,lss]
 refine wpX_done (by kernel_rfl) ?_
 clear hXS
 go_wp2_with fail
 refine bodyPost_end (results_none rfl _ _ _) rfl ?_
 exact⟨rfl,HA.out,HK.out⟩
theorem dbegin_any (bd bp cp ba bw L given at_ n pl c1 N n1 n3 cx c3:Nat)(A gx g3:Option Addr)(ps Wd l1 l3:List Int)(w:World)(hD:DrP w bd bp cp ba ps)(hA:ArM w ba bw L Wd given)(hp:1<ps.length)(hps:ps.length≤100)(h0:ps.getD 0 0=at_)(h1:ps.getD 1 0=at_+n)(hfit:at_+n≤given)
 (hu1:HU w (.slice gx n1 cx) l1) (hu3:HU w (.slice g3 n3 c3) l3) (hl1:l1.length=n1) (hl3:l3.length=n3) (hn1:1≤n1) (hT:n1+n+n3≤N) (hN:N≤64):
 Calls Tryz.prog 180 #[.pointer (some ⟨bd,0,none⟩),.agg (pgv (N:Int) A pl c1),.slice gx n1 cx,.slice g3 n3 c3] w fun e w'=>∃ gr cap,e=.returned (.slice (some ⟨gr,0,none⟩) N cap)∧Owns w' w.heap.size 81 (.slice (some ⟨gr,0,none⟩) N cap) (u64s ((l1++getL Wd at_ n++l3)++List.replicate (N - (n1+n+n3)) 0))∧KW w w':=by
 have hgl:(getL Wd at_ n).length=n:=getL_len (by rw[hA.len];have:=hA.gl;omega)
 have hk:=(KW.refl w).alloc (.cells (pgv (N:Int) A pl c1) 25)
 have HG:=hid (dget_any bd bp cp ba bw L given 0 at_ n ps Wd _ (hD.kw hk) (hA.kw hk) hp hps h0 h1 hfit)
 have hh:=heap_alloc_new w (.cells (pgv (N:Int) A pl c1) 25)
 have HR:Hid ((w.alloc (.cells (pgv (N:Int) A pl c1) 25)).cell? ⟨w.heap.size,0,none⟩=some (.int .i64 N)):=hid (by
  unfold World.cell?
  rw[hh]
  rfl)
 have HK:=hid hk
 have HU1:=hid (fun W (hW:KW w W)=>hu1.kw hW)
 have HU3:=hid (fun W (hW:KW w W)=>hu3.kw hW)
 generalize getL Wd at_ n=lt at *
 have HLn:Hid ((l1++lt++l3).length=n1+n+n3):=hid (by simp only[List.length_append];omega)
 have HLt:=hid hgl
 have HFl:Hid ([l1,lt,l3].flatten=l1++lt++l3):=hid (by simp)
 have HSz:Hid (w.heap.size<(w.alloc (.cells (pgv (N:Int) A pl c1) 25)).heap.size):=hid (by simp)
 clear hD hA hu1 hu3 hk hh h0 h1 hl1 hl3 hgl
 unfold pgv at *
 go_enter Tryz.func180,Tryz.ntmps180
 go_wp2_with fail
 refine HG.out.mono ?_
 rintro e w1 ⟨v,rfl,ho,hk1⟩
 have HK1:=hid (HK.out.t hk1)
 have HV:=hid ho.hu
 have HR1:=hid ((Below.cell hk1 HSz.out).trans HR.out)
 have HSz1:=hid (Nat.lt_of_lt_of_le HSz.out hk1.size)
 obtain⟨Av,cv,rfl,_⟩:=ho.row
 rw[u64s_len,HLt.out] at HV ⊢
 clear ho hk1 HG
 go_wp2_with fail
 have hcc:=concat_any w1.heap.size 3 3 [l1,lt,l3] (fun i=>[.slice gx n1 cx,.slice Av n cv,.slice g3 n3 c3].getD i undef) (w1.alloc (.cells #[.slice gx n1 cx,.slice Av n cv,.slice g3 n3 c3] 22)) rfl (by omega) (World.rowIs_alloc w1 #[.slice gx n1 cx,.slice Av n cv,.slice g3 n3 c3] 22 _ fun i hi=>by
  simp at hi
  rcases(show i=0∨i=1∨i=2 by omega) with rfl|rfl|rfl<;>rfl) (fun k hk=>by
  rcases(show k=0∨k=1∨k=2 by omega) with rfl|rfl|rfl
  ·exact HU1.out _ (HK1.out.alloc _)
  ·exact HV.out.kw ((KW.refl w1).alloc _)
  ·exact HU3.out _ (HK1.out.alloc _)) (by rw[HFl.out,HLn.out];omega) (by rw[HFl.out,HLn.out];omega)
 rw[HFl.out] at hcc
 refine hcc.mono ?_
 clear hcc
 rintro e w2 ⟨v2,rfl,ho2,hk2⟩
 have HK2:=hid ((HK1.out.alloc (.cells #[.slice gx n1 cx,.slice Av n cv,.slice g3 n3 c3] 22)).t hk2)
 have hkk:=((KW.refl w1).alloc (.cells #[.slice gx n1 cx,.slice Av n cv,.slice g3 n3 c3] 22)).t hk2
 have c0:=(Below.cell hkk HSz1.out).trans HR1.out
 have hlt2:=Nat.lt_of_lt_of_le HSz1.out hkk.size
 have HO2:Hid (Owns w2 w1.heap.size 81 v2 (u64s (l1++lt++l3))):=hid (ho2.base (by simp))
 obtain⟨A2,cv2,rfl,_,hs2,_⟩:=ho2.row
 rw[u64s_len,HLn.out] at hs2 HO2
 rw[u64s_len,HLn.out]
 obtain⟨g2,rfl,hge2,_⟩:=hs2 (by omega)
 have HGe:Hid (w.heap.size<g2):=hid (by have:=HSz1.out;simp at hge2;omega)
 obtain⟨T,hTe⟩:∃ T,n1+n+n3=T:=⟨_,rfl⟩
 have HLn2:Hid ((l1++lt++l3).length=T):=hid (by rw[HLn.out,hTe])
 have HTe:=hid hTe
 have hT1:1≤T:=by omega
 rw[hTe] at HO2 hT
 try rw[hTe]
 have hwk:IntKind.i64.wrap ((N:Int) - (T:Int))=((N - T:Nat):Int):=by rw[show(N:Int) - (T:Int)=((N - T:Nat):Int) by omega];exact IntWalk.i64_in _ (by omega)
 clear hk2 hkk ho2 hs2 hge2 hTe HLn
 obtain⟨LL,hLL⟩:∃ LL,l1++lt++l3=LL:=⟨_,rfl⟩
 rw[hLL] at HO2 HLn2
 have HLL:=hid hLL
 clear hLL
 have hb2:w1.heap.size≤w2.heap.size:=by have:=(HO2.out.lt (b:=g2) rfl);omega
 go_wp2_with (at_builtin;refine wpList_appK rfl rfl (base:=w1.heap.size) (L:=LL) (k:=N - T) rfl rfl HO2.out HLn2.out hb2 (by omega) ?_;intro v7 w7 HO7 HK7)
 have HK8:Hid (KW w w7):=hid (HK2.out.kept HK7.out fun i hi=>by subst hi;exact Nat.le_of_lt HGe.out)
 have hln:(LL++List.replicate (N - T) 0).length=N:=by rw[List.length_append,List.length_replicate,HLn2.out];omega
 obtain⟨A4,c4,rfl,_,hs4,_⟩:=HO7.out.row
 rw[u64s_len,hln] at hs4
 obtain⟨g4,rfl,_,_⟩:=hs4 (by omega)
 have HO8:=HO7.out.base (Nat.le_of_lt HSz1.out)
 rw[u64s_len,hln] at HO8
 rw[u64s_len,hln]
 go_ret
 refine⟨g4,c4,rfl,?_,HK8.out⟩
 rw[HLL.out,HTe.out]
 exact HO8
end Go.Proofs.YtphppbonljdibaaGreat
