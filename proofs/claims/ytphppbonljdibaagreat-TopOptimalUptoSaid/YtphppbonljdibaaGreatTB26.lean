import Derived.Test.YtphppbonljdibaaGreatTB25
set_option maxRecDepth 100000
set_option maxHeartbeats 4000000
set_option linter.unusedVariables false
set_option linter.unusedSimpArgs false
namespace Go.Proofs.YtphppbonljdibaaGreat
open Go.ChangeShapes Go.WideShapes Go.ChangeAt Go.RowKit
theorem TagsB.put {W:List Int}{f n x k:Nat}{tags xs:List Int}{t:Int}(h:TagsB W f n x tags)(hk:k<n)(hx:xs.length=x+1)(h0:xs.getD 0 0=t+1)(ht:-1≤t∧t≤65535)(hf:f+n * (x+1)≤W.length):TagsB (putL W (f+k * (x+1)) xs) f n x (tags.set k t):=by
 have hkn:k * (x+1)+(x+1)≤n * (x+1):=by rw[← Nat.succ_mul];exact Nat.mul_le_mul_right _ hk
 refine⟨by rw[List.length_set];exact h.len,fun j hj=>?_,fun j hj=>?_⟩
 ·have hjn:j * (x+1)+(x+1)≤n * (x+1):=by rw[← Nat.succ_mul];exact Nat.mul_le_mul_right _ hj
  rw[putL_get (by omega),Sd.getD_set tags k j t (by rw[h.len];exact hk)]
  by_cases e:j=k
  ·subst e
   rw[if_pos (by omega),if_pos rfl,Nat.sub_self,h0]
  ·rw[if_neg e,if_neg ?_]
   ·exact h.wd j hj
   ·rcases Nat.lt_or_gt_of_ne e with h1|h1
    ·have:j * (x+1)+(x+1)≤k * (x+1):=by rw[← Nat.succ_mul];exact Nat.mul_le_mul_right _ h1
     omega
    ·have:k * (x+1)+(x+1)≤j * (x+1):=by rw[← Nat.succ_mul];exact Nat.mul_le_mul_right _ h1
     omega
 ·rw[Sd.getD_set tags k j t (by rw[h.len];exact hk)]
  split
  ·exact ht
  ·exact h.lo j hj
theorem cnt_lt {l:List Int}{k:Nat}(hk:k<l.length)(h:l.getD k 0<0):Mc.cnt l<l.length:=by
 induction l generalizing k with
 | nil=>simp at hk
 | cons x l ih=>
   simp only[Mc.cnt,List.length_cons]
   cases k with
   | zero=>
     simp only[List.getD_cons_zero] at h
     rw[if_neg (by omega)]
     have:=cnt_le l
     omega
   | succ k=>
     have:=ih (k:=k) (by simpa using hk) (by simpa using h)
     split<;>omega
theorem cnt_gt {l:List Int}{k:Nat}(hk:k<l.length)(h:0≤l.getD k 0):0<Mc.cnt l:=by
 induction l generalizing k with
 | nil=>simp at hk
 | cons x l ih=>
   simp only[Mc.cnt]
   cases k with
   | zero=>
     simp only[List.getD_cons_zero] at h
     rw[if_pos h]
     omega
   | succ k=>
     have:=ih (k:=k) (by simpa using hk) (by simpa using h)
     omega
structure Small (S:Dy):Prop where
 plain:S.plain<2305843009213693952
 taped:S.taped<2305843009213693952
 losses:S.losses<2305843009213693952
 sweeps:S.sweeps<2305843009213693952
def mvF (k:Int):FuncId:=if k=1 then 153 else if k=2 then 154 else if k=3 then 155 else if k=4 then 156 else if k=5 then 147 else if k=6 then 157 else 158
theorem mvF_enter (k:Int)(hk:1≤k∧k≤7)(args:Array Value)(W:World):(callFunc (mvF k) args).run Tryz.prog W=.ok (.enter (mvF k) args) W:=by
 rcases(show k=1∨k=2∨k=3∨k=4∨k=5∨k=6∨k=7 by omega) with rfl|rfl|rfl|rfl|rfl|rfl|rfl<;>kernel_rfl
theorem dmove (D:Ds)(S:Dy)(k n:Int)(w:World)(h:DrM w D S)(hI:DyI D S)(hs:Small S)(e:(Mc.step S.mc k n).2=0):
 Calls Tryz.prog (mvF k) #[.pointer (some ⟨D.bd,0,none⟩),.int .i64 n] w fun e w'=>e=.returned (.tuple #[])∧DrM w' D (S.move D k n.toNat)∧Keep D.own w w':=by
 have hd:=h.ds
 have hw:=hd.ok.1.bounds.2.2.2.2.2.2.2
 have hho:=hI.hold hd
 have hinv:=hI.inv
 have hat:(S.at_:Int)≤65535:=Int.le_trans hinv.a1 hinv.l1
 have hat0:S.mc.at_=S.at_:=rfl
 have hl0:S.mc.l=S.l:=rfl
 have hl1:=hinv.l1
 have hnn:∀ p,¬ D.own p→p≠D.bw∧p≠D.bm:=fun p hp=>⟨fun e=>hp (.inr (.inl e)),fun e=>hp (.inr (.inr e))⟩
 have hx:=hd.slt
 have hp1:=psl_get D.h 1 (by omega)
 have hp2:(psl D.h).getD 2 0=(plN D.h 1:Int)+D.x:=by rw[psl_get D.h 2 (by omega),plN_succ D.h 1 (by omega)];push_cast;rfl
 have hpt:=h.part (i:=1) (by omega)
 have hpx:szN D.h 1=D.x:=rfl
 have c2:w.cell? ⟨D.bd,2,none⟩=some (.int .i64 ((D.x+1:Nat):Int)):=by rw[← hx];exact h.cell (i:=2) (by omega)
 have c15:w.cell? ⟨D.bd,15,none⟩=some (.pointer (some ⟨D.bs,0,none⟩)):=h.cell (i:=15) (by omega)
 have c16:w.cell? ⟨D.bd,16,none⟩=some (.pointer (some ⟨D.bm,0,none⟩)):=h.cell (i:=16) (by omega)
 have c18:w.cell? ⟨D.bd,18,none⟩=some (.int .i64 S.at_):=h.cell (i:=18) (by omega)
 have hta:tapW D.h=D.a+D.b:=if_neg hd.m3
 have kb:∀ {own:Nat→Prop} {w w':World},Keep own w w'→(∀ b,own b→b=D.bw∨b=D.bm)→Keep D.own w w':=fun hk hs=>hk.mono fun b _ e=>.inr (hs b e)
 have htl:S.mc.tags.length=D.n:=hI.len
 rcases Mc.gone e with⟨rfl,h1,h2,h3⟩|⟨rfl,h1,h2,h4,h3⟩|⟨rfl,h1,h2,h4,h3⟩|⟨rfl,h1,h2,h4,h3⟩|⟨rfl,rfl,h2,h4,h3⟩|⟨rfl,rfl,h2,h4,h3⟩|⟨rfl,rfl,h2,h4,h3⟩
 ·obtain⟨m,rfl⟩:∃ m:Nat,n=m:=⟨n.toNat,by omega⟩
  exact dadvance D S m w h (by omega) (by have:=hs.plain;omega)
 ·obtain⟨m,rfl⟩:∃ m:Nat,n=m:=⟨n.toNat,by omega⟩
  have hm:m<S.tags.length:=by have:S.mc.tags=S.tags:=rfl;rw[this] at h2;omega
  have hneg:S.tags.getD m 0<0:=h4
  have hlo:=(h.tg.lo m (by rw[← h.tg.len];exact hm)).1
  have hroom:=hI.room hd (cnt_lt hm hneg)
  refine(dstore_any D.bd D.bp D.cp D.ba D.bw D.bm D.L D.given D.bs D.f D.n D.x m (plN D.h 1) S.at_ ((D.x+1:Nat):Int) S.now S.most D.h.words (psl D.h) S.W S.tags w h.drp c15 c16 c2 c18 h.ar h.sl hd.slb h.tg h.mt (by rw[← h.tg.len];exact hm) (by omega) (by omega) ⟨by omega,by omega⟩ ⟨hho.1,by omega⟩ (by omega) (by rw[psl_len];omega) (by rw[psl_len];omega) hp1 hp2 (by omega) ⟨hd.ne.1,(Ne.symm hd.ne.2.2),(hnn _ hd.ns).1,hd.ne.2.1,(hnn _ hd.na).2,(hnn _ hd.np).2,(hnn _ hd.ns).2⟩).mono ?_
  rintro e w' ⟨rfl,ha,hm',hk⟩
  refine⟨rfl,?_,kb hk fun b e=>e⟩
  have hgl:(getL S.W (plN D.h 1) D.x).length=D.x:=getL_len (by omega)
  exact h.both hk ha (h.tg.put (by rw[← h.tg.len];exact hm) (by rw[List.length_cons];exact congrArg (· + 1) hgl) (by show((S.at_+1:Nat):Int)=(S.at_:Int)+1;push_cast;rfl) ⟨by omega,by omega⟩ (by have:=h.part (i:=1) (by omega);have:=hd.slb.fit;omega)) hm'
 ·obtain⟨m,rfl⟩:∃ m:Nat,n=m:=⟨n.toNat,by omega⟩
  have hm:m<S.tags.length:=by have:S.mc.tags=S.tags:=rfl;rw[this] at h2;omega
  have hpos:0≤S.tags.getD m 0:=h4
  have hmn:m<D.n:=by rw[← h.tg.len];exact hm
  have hgl:(getL S.W (D.f+m * (D.x+1)+1) D.x).length=D.x:=getL_len (by have:=hd.slb.at_ hmn;omega)
  refine(drestore_any D.bd D.bp D.cp D.ba D.bw D.L D.given D.bs D.f D.n D.x m (plN D.h 1) (psl D.h) S.W S.tags w h.drp c15 h.ar h.sl hd.slb h.tg hmn hpos (by rw[psl_len];omega) (by rw[psl_len];omega) hp1 (by omega) ⟨hd.ne.1,(hnn _ hd.np).1⟩).mono ?_
  rintro e w' ⟨rfl,ha,hk⟩
  refine⟨rfl,?_,kb hk fun b e=>.inl e⟩
  exact h.words hk ha (h.tg.low (given:=0) (by show _+(getL S.W (D.f+m * (D.x+1)+1) D.x).length≤_;rw[hgl];omega) (by have:=hd.slb.fit;omega))
 ·obtain⟨m,rfl⟩:∃ m:Nat,n=m:=⟨n.toNat,by omega⟩
  have hm:m<S.tags.length:=by have:S.mc.tags=S.tags:=rfl;rw[this] at h2;omega
  have hpos:0≤S.tags.getD m 0:=h4
  have hmn:m<D.n:=by rw[← h.tg.len];exact hm
  have hfull:=hI.full (cnt_gt hm hpos)
  refine(dfree_any D.bd D.ba D.bw D.bm D.L D.given D.bs D.f D.n D.x m ((D.x+1:Nat):Int) S.now S.most D.h.words S.W S.tags w c15 c16 c2 h.ar h.sl hd.slb h.tg h.mt hmn hpos ⟨by omega,hfull⟩ (by omega) ⟨hd.ne.1,(Ne.symm hd.ne.2.2),(hnn _ hd.ns).1,hd.ne.2.1,(hnn _ hd.na).2⟩).mono ?_
  rintro e w' ⟨rfl,ha,hm',hk⟩
  refine⟨rfl,?_,kb hk fun b e=>e⟩
  exact h.both hk ha (h.tg.put hmn (by rw[List.length_replicate]) (by show(0:Int) = -1+1;omega) ⟨by omega,by omega⟩ (by have:=h.part (i:=1) (by omega);have:=hd.slb.fit;omega)) hm'
 ·exact dseed D S 0 w h hho.1 (by omega) (by have:=hs.losses;omega) (by have:=hs.sweeps;omega)
 ·exact dboth D S 0 w h hho.1 (by omega) (by omega) hs.taped hs.losses hs.sweeps
 ·exact dreverse D S 0 w h hho.1 (by omega) (by omega) hs.taped hs.sweeps
theorem dspot (D:Ds)(S:Dy)(w:World)(h:DrM w D S):
 Calls Tryz.prog 112 #[.pointer (some ⟨D.bd,0,none⟩)] w fun e w'=>∃ v,e=.returned (.agg #[.int .i64 S.at_,.int .i64 S.pend,v])∧Owns w' w.heap.size 3 v (ivs S.tags)∧KW w w':=by
 have hk:=(KW.refl w).alloc (.cells #[.int .i64 0,.int .i64 0,.slice none 0 0] 58)
 have HTg:=hid (fun W (hW:KW w W)=>tags_any D.bs D.f D.n D.x D.ba D.bw D.L D.given S.W S.tags W (h.kw hW).sl (h.kw hW).ar h.ds.slb h.tg)
 have HC:=hid (fun W (hW:KW w W)=>And.intro ((h.kw hW).cell (i:=18) (by omega)) (And.intro ((h.kw hW).cell (i:=19) (by omega)) ((h.kw hW).cell (i:=15) (by omega))))
 have HK:=hid hk
 have HG:Hid ((w.alloc (.cells #[.int .i64 0,.int .i64 0,.slice none 0 0] 58)).rowIs w.heap.size 58 3 (fun i=>[.int .i64 0,.int .i64 0,.slice none 0 0].getD i undef)):=hid (World.rowIs_alloc w #[.int .i64 0,.int .i64 0,.slice none 0 0] 58 _ fun i hi=>by
  simp at hi
  rcases(show i=0∨i=1∨i=2 by omega) with rfl|rfl|rfl<;>rfl)
 have HC':Hid (∀ W,KW w W→W.cell? ⟨D.bd,18,none⟩=some (.int .i64 S.at_)∧W.cell? ⟨D.bd,19,none⟩=some (.int .i64 S.pend)∧W.cell? ⟨D.bd,15,none⟩=some (.pointer (some ⟨D.bs,0,none⟩))):=HC
 clear h hk HC
 go_enter Tryz.func112,Tryz.ntmps112
 go_wp2_with fail
 have hXS:=HC'.out _ HK.out.drew
 refine wpX_region (S:=fun W=>W.cell? ⟨D.bd,18,none⟩=some (.int .i64 S.at_)∧W.cell? ⟨D.bd,19,none⟩=some (.int .i64 S.pend)∧W.cell? ⟨D.bd,15,none⟩=some (.pointer (some ⟨D.bs,0,none⟩))) (L:=14) (by kernel_rfl) ?_
 refine tk 0 ?_ (fun _ _=>?_) hXS ?_;rotate_left;· go_simp;try rfl
 simp only[lsz,lss]
 refine tk 1 ?_ (fun _ _=>?_) hXS ?_;rotate_left;· go_simp;try rfl
 simp only[lsz,lss]
 refine tk 2 ?_ (fun _ _=>?_) hXS ?_;rotate_left;· go_simp;try rfl
 simp only[lsz,lss]
 refine tk 3 ?_ (fun _ _=>?_) hXS ?_;rotate_left;· go_simp;try rfl
 simp only[lsz,lss]
 refine tk 4 ?_ (fun _ _=>?_) hXS ?_;rotate_left;· go_simp;try rfl
 simp only[lsz,lss]
 refine tk 5 ?_ (fun _ _=>?_) hXS ?_;rotate_left;· go_simp;try rfl
 simp only[lsz,lss]
 refine tk 6 ?_ (fun _ _=>?_) hXS ?_;rotate_left;· go_simp;try rfl
 simp only[lsz,lss]
 refine tk 7 ?_ (fun _ _=>?_) hXS ?_;rotate_left;· go_simp;try rfl
 simp only[lsz,lss]
 refine tk 8 ?_ (fun _ _=>?_) hXS ?_;rotate_left;· go_simp;try rfl
 simp only[lsz,lss]
 refine tk 9 ?_ (fun _ _=>?_) hXS ?_;rotate_left;· go_simp;try rfl
 simp only[lsz,lss]
 refine tk 10 ?_ (fun _ _=>?_) hXS ?_;rotate_left;· go_simp;try rfl
 simp only[lsz,lss]
 refine tk 11 ?_ (fun _ _=>?_) hXS ?_;rotate_left;· go_simp;try rfl
 simp only[lsz,lss]
 refine wpX_hard (k:=12) (by kernel_rfl) rfl (fun K hK=>?_)
 go_simp
 refine(HTg.out _ HK.out.drew).mono ?_
 rintro e w1 ⟨v,rfl,ho1,hk1'⟩
 have HK1:=hid (HK.out.drew.t hk1')
 obtain⟨A1,c1,rfl,_⟩:=ho1.row
 have HO1:=hid ho1
 rw[ivs_len] at HO1 ⊢
 have HG1:=hid (HG.out.drew.of_block (Below.block hk1' _ (by simp)))
 have hXS:=HC'.out w1 HK1.out
 refine hK _ _ (fun _=>hXS) ?_
 clear hK K hk1' ho1 HTg
 try simp only[lsz,lss]
 refine tk 13 ?_ (fun _ _=>?_) hXS ?_;rotate_left;· go_simp;try rfl
 simp only[lsz,lss]
 have HXS:=hid hXS
 refine wpX_store_is (k:=14) (by kernel_rfl) rfl rfl rfl 58 _ _ rfl w.heap.size 3 58 _ (fun i=>[.int .i64 S.at_,.int .i64 S.pend,.slice A1 S.tags.length c1].getD i undef) #[.int .i64 S.at_,.int .i64 S.pend,.slice A1 S.tags.length c1] rfl rfl HG1.out (by kernel_rfl) rfl (fun i hi=>?_) (fun i hi=>?_) ?_
 ·rcases(show i=0∨i=1∨i=2 by omega) with rfl|rfl|rfl<;>rfl
 ·rcases(show i=0∨i=1∨i=2 by omega) with rfl|rfl|rfl<;>rfl
 intro W3 hrow3 hb3 hkeep3
 refine⟨fun h=>absurd rfl h,wpX_done (by kernel_rfl) ?_⟩
 have HB3:=hid hb3
 have HO3:Hid (Owns W3 w.heap.size 3 (.slice A1 S.tags.length c1) (ivs S.tags)):=hid ((hkeep3.owns HO1.out fun b hb e=>by have h1:=(HO1.out.lt hb).1;simp at h1;omega).base (by simp))
 have HK3:Hid (KW w W3):=hid (HK1.out.kept hkeep3 fun i hi=>by subst hi;exact Nat.le_refl _)
 clear hrow3 hb3 hkeep3 hXS
 go_wp2_with fail
 exact bodyPost_ret (results_cell_row rfl _ _ _ _ _ (0,0) _ rfl HB3.out Tryz.underlying58 rfl (by kernel_rfl)) rfl ⟨_,rfl,HO3.out,HK3.out⟩
theorem dlen (D:Ds)(S:Dy)(w:World)(h:DrM w D S):Calls Tryz.prog 179 #[.pointer (some ⟨D.bd,0,none⟩)] w fun e w'=>e=.returned (.int .i64 S.l)∧w'=w:=by
 have c17:w.cell? ⟨D.bd,17,none⟩=some (.int .i64 S.l):=h.cell (i:=17) (by omega)
 clear h
 go_enter Tryz.func179,Tryz.ntmps179
 go_wp2_with fail
 go_ret
 exact⟨rfl,rfl⟩
theorem dlive (D:Ds)(S:Dy)(w:World)(h:DrM w D S):Calls Tryz.prog 67 #[.pointer (some ⟨D.bd,0,none⟩)] w fun e w'=>e=.returned (.int .i64 S.now)∧w'=w:=by
 have c16:w.cell? ⟨D.bd,16,none⟩=some (.pointer (some ⟨D.bm,0,none⟩)):=h.cell (i:=16) (by omega)
 have HM:=hid (live_any D.bm _ _ _ w h.mt)
 clear h
 go_enter Tryz.func67,Tryz.ntmps67
 go_wp2_with fail
 refine HM.out.mono ?_
 rintro e w1 ⟨rfl,rfl⟩
 go_wp2_with fail
 go_ret
 exact⟨rfl,rfl⟩
theorem dpeak (D:Ds)(S:Dy)(w:World)(h:DrM w D S):Calls Tryz.prog 68 #[.pointer (some ⟨D.bd,0,none⟩)] w fun e w'=>e=.returned (.int .i64 S.most)∧w'=w:=by
 have c16:w.cell? ⟨D.bd,16,none⟩=some (.pointer (some ⟨D.bm,0,none⟩)):=h.cell (i:=16) (by omega)
 have HM:=hid (peak_any D.bm _ _ _ w h.mt)
 clear h
 go_enter Tryz.func68,Tryz.ntmps68
 go_wp2_with fail
 refine HM.out.mono ?_
 rintro e w1 ⟨rfl,rfl⟩
 go_wp2_with fail
 go_ret
 exact⟨rfl,rfl⟩
theorem dimage (D:Ds)(S:Dy)(w:World)(h:DrM w D S):Calls Tryz.prog 63 #[.pointer (some ⟨D.bd,0,none⟩)] w fun e w'=>∃ v,e=.returned v∧Owns w' w.heap.size 81 v (u64s S.W)∧KW w w':=by
 have c14:w.cell? ⟨D.bd,14,none⟩=some (.pointer (some ⟨D.ba,0,none⟩)):=h.cell (i:=14) (by omega)
 have HM:=hid (image_any D.ba D.bw D.L D.given S.W w h.ar)
 clear h
 go_enter Tryz.func63,Tryz.ntmps63
 go_wp2_with fail
 refine HM.out.mono ?_
 rintro e w1 ⟨v,rfl,ho,hk⟩
 obtain⟨A1,c1,rfl,_⟩:=ho.row
 have HO:=hid ho
 have HK:=hid hk
 rw[u64s_len] at HO ⊢
 clear ho hk
 go_wp2_with fail
 go_ret
 exact⟨_,rfl,HO.out,HK.out⟩
theorem dcount (D:Ds)(S:Dy)(w:World)(h:DrM w D S):Calls Tryz.prog 46 #[.pointer (some ⟨D.bd,0,none⟩)] w fun e w'=>e=.returned (.agg #[.int .i64 S.plain,.int .i64 S.taped,.int .i64 S.losses,.int .i64 S.sweeps])∧KW w w':=by
 have hk:=(KW.refl w).alloc (.cells #[.int .i64 0,.int .i64 0,.int .i64 0,.int .i64 0] 42)
 have h':=h.kw hk
 have c20:=h'.cell (i:=20) (by omega)
 have c21:=h'.cell (i:=21) (by omega)
 have c22:=h'.cell (i:=22) (by omega)
 have c23:=h'.cell (i:=23) (by omega)
 have hb:=h.low.bd
 have c20':(w.alloc (.cells #[.int .i64 0,.int .i64 0,.int .i64 0,.int .i64 0] 42)).cell? ⟨D.bd,20,none⟩=some (.int .i64 S.plain):=c20
 have c21':(w.alloc (.cells #[.int .i64 0,.int .i64 0,.int .i64 0,.int .i64 0] 42)).cell? ⟨D.bd,21,none⟩=some (.int .i64 S.taped):=c21
 have c22':(w.alloc (.cells #[.int .i64 0,.int .i64 0,.int .i64 0,.int .i64 0] 42)).cell? ⟨D.bd,22,none⟩=some (.int .i64 S.losses):=c22
 have c23':(w.alloc (.cells #[.int .i64 0,.int .i64 0,.int .i64 0,.int .i64 0] 42)).cell? ⟨D.bd,23,none⟩=some (.int .i64 S.sweeps):=c23
 have HK:=hid hk
 clear h h' hk c20 c21 c22 c23
 go_enter Tryz.func46,Tryz.ntmps46
 go_wp2_with fail
 exact bodyPost_ret (results_cell_row rfl _ _ _ _ _ (0,0) _ rfl (heap_alloc_new w _) Tryz.underlying42 rfl (by kernel_rfl)) rfl ⟨rfl,(KW.refl w).alloc _⟩
end Go.Proofs.YtphppbonljdibaaGreat
