import Derived.Test.YtphppbonljdibaaGreatTB22
set_option maxRecDepth 100000
set_option maxHeartbeats 4000000
set_option linter.unusedVariables false
set_option linter.unusedSimpArgs false
namespace Go.Proofs.YtphppbonljdibaaGreat
open Go.ChangeShapes Go.WideShapes Go.ChangeAt Go.RowKit
theorem HU.one (w:World)(x:Int):HU (w.alloc (.cells #[.int .u64 x] 81)) (.slice (some ⟨w.heap.size,0,none⟩) 1 1) [x]:=
 Owns.hu (base:=0) (by
  have h:=Owns.new (w:=w) (base:=0) (e:=81) (xs:=u64s [x]) (Nat.zero_le _) (by rw[u64s_len];show 1≤100000;omega)
  exact h)
theorem Owns.made64 (w:World)(base:Nat)(n:Nat)(hb:base≤w.heap.size)(hn:n≤1048576):Owns (w.alloc (.cells (madeCells #[.int .u64 0] n) 81)) base 81 (.slice (some ⟨w.heap.size,0,none⟩) n n) (u64s (List.replicate n 0)):=by
 have hl:(u64s (List.replicate n 0)).length=n:=by rw[u64s_len,List.length_replicate]
 unfold Owns
 rw[hl]
 exact⟨by rw[hl];omega,.inr ⟨w.heap.size,n,madeCells #[.int .u64 0] n,rfl,hb,heap_alloc_new w _,Nat.le_refl _,by unfold maxLen;omega,by rw[size_madeCells];omega,by rw[toList_madeCells_one];simp[u64s]⟩⟩
theorem mk64 (n:Nat)(hn:n≤1048576)(W:World):(Instr.makeSlice 22 (.int .i64 n) (.int .i64 n)).run Tryz.prog W=.ok (.slice (some ⟨W.heap.size,0,none⟩) n n) (W.alloc (.cells (madeCells #[.int .u64 0] n) 81)):=by
 exact run_make_row' (P:=Tryz.prog) 22 81 (.int .u64 0) 8 Tryz.underlying22 (by kernel_rfl) rfl .i64 .i64 n (by omega) (by omega) W
def IsO (K n:Nat)(l:List Int)(v:Value)(w:World):Prop:=∃ A c,v=.slice A n c∧Owns w K 81 v (u64s l)
def IsG (K n:Nat)(l:List Int)(v:Value)(w:World):Prop:=∃ g c,v=.slice (some ⟨g,0,none⟩) n c∧Owns w K 81 v (u64s l)
theorem IsO.keep {K n:Nat}{l:List Int}{v:Value}{w w':World}(h:IsO K n l v w)(hk:KW w w'):IsO K n l v w':=by
 obtain⟨A,c,hv,ho⟩:=h
 exact⟨A,c,hv,ho.on hk⟩
theorem IsG.keep {K n:Nat}{l:List Int}{v:Value}{w w':World}(h:IsG K n l v w)(hk:KW w w'):IsG K n l v w':=by
 obtain⟨A,c,hv,ho⟩:=h
 exact⟨A,c,hv,ho.on hk⟩
theorem IsO.lt {K n:Nat}{l:List Int}{v:Value}{w:World}(h:IsO K n l v w):∀ b,v.ownBlock=some b→b<w.heap.size:=by
 obtain⟨A,c,hv,ho⟩:=h
 exact fun b hb=>(ho.lt hb).2
theorem IsG.lt {K n:Nat}{l:List Int}{v:Value}{w:World}(h:IsG K n l v w):∀ b,v.ownBlock=some b→b<w.heap.size:=by
 obtain⟨A,c,hv,ho⟩:=h
 exact fun b hb=>(ho.lt hb).2
theorem isO_of {w:World}{K base n:Nat}{v:Value}{l:List Int}(h:Owns w base 81 v (u64s l))(hl:l.length=n)(hb:K≤base):IsO K n l v w:=by
 obtain⟨A,c,rfl,_⟩:=h.row
 exact⟨A,c,by rw[u64s_len,hl],h.base hb⟩
theorem dtaped (D:Ds)(S:Dy)(w:World)(h:DrM w D S)(hat:S.at_≤65535)(hct:S.taped<4611686018427387904):
 Calls Tryz.prog 145 #[.pointer (some ⟨D.bd,0,none⟩)] w fun e w'=>∃ gr cr gt ct,e=.returned (.tuple #[.slice (some ⟨gr,0,none⟩) D.N cr,.slice (some ⟨gt,0,none⟩) D.a ct])∧gr≠gt∧w.heap.size≤gr∧w.heap.size≤gt∧RegM w' (.slice (some ⟨gr,0,none⟩) D.N cr) (S.stepR D S.at_)∧RegM w' (.slice (some ⟨gt,0,none⟩) D.a ct) (S.stepT D S.at_)∧DrM w' D (S.taped1 D)∧Keep D.own w w':=by
 have hg:=h.ds.ok.1
 have hb:=hg.bounds
 have hgd:=(hg 1 (by omega)).1
 have HOf:=hid (pof_any D.h w h.hm)
 have hNI:D.h.st.n=(D.N:Int):=(Int.toNat_of_nonneg (by omega)).symm
 have hN64:D.N≤64∧D.x+D.h.ts.length+1≤D.N:=by unfold Ds.x;omega
 have ha:=wct_le D.h.st.l
 have hx1:=h.ds.x1
 have hl1:(S.get D 1).length=D.x:=h.get_len (by omega)
 have HGet:=hid (fun W (hW:KW w W)=>dget D S 1 W (h.kw hW) (by omega))
 have HBeg:=hid (fun W (hW:KW w W) A c g3 c3 (hu1:HU W (.slice A D.x c) (S.get D 1)) (hu3:HU W (.slice g3 1 c3) [(S.at_:Int)])=>
  dbegin D S D.h.st.l.length D.h.st.c D.N D.x 1 c c3 D.h.st.A A g3 (S.get D 1) [(S.at_:Int)] W (h.kw hW) hu1 hu3 hl1 rfl hx1.1 (by omega) hN64.1)
 have HL:=hid h.low
 have HC:Hid (∀ W,KW w W→W.cell? ⟨D.bd,7,none⟩=some (.int .i64 D.N)∧W.cell? ⟨D.bd,8,none⟩=some (.slice D.h.st.A D.h.st.l.length D.h.st.c)∧W.cell? ⟨D.bd,18,none⟩=some (.int .i64 S.at_)∧D.bd<W.heap.size):=hid fun W hW=>by
  have h':=h.kw hW
  exact⟨by rw[← hNI];exact h'.cell (i:=7) (by omega),h'.cell (i:=8) (by omega),h'.cell (i:=18) (by omega),World.rowIs.lt h'.row⟩
 have HD:=hid h
 have HR0:Hid ((S.reg0 D D.N (S.get D 1) [(S.at_:Int)]).length=D.N):=hid (Dy.reg0_len S D _ _ _ (by rw[hl1,h.get_len (by omega)];show _+D.h.ts.length+1≤_;omega) (h.get_len (by omega)))
 have HSR:=hid (show S.stepR D S.at_=Fl.sts (S.reg0 D D.N (S.get D 1) [(S.at_:Int)]) (Fl.unr D.h.st.l) from rfl)
 have HST:=hid (show S.stepT D S.at_=Fl.tps (S.reg0 D D.N (S.get D 1) [(S.at_:Int)]) (Fl.unr D.h.st.l) from rfl)
 have c4:w.cell? ⟨D.bd,4,none⟩=some (.int .i64 D.h.mode):=h.cell (i:=4) (by omega)
 have c5:w.cell? ⟨D.bd,5,none⟩=some (.slice D.h.xA D.h.xs.length D.h.xc):=h.cell (i:=5) (by omega)
 have c6:w.cell? ⟨D.bd,6,none⟩=some (.slice D.h.tA D.h.ts.length D.h.tc):=h.cell (i:=6) (by omega)
 have c7:w.cell? ⟨D.bd,7,none⟩=some (.int .i64 D.h.st.n):=h.cell (i:=7) (by omega)
 have c8:w.cell? ⟨D.bd,8,none⟩=some (.slice D.h.st.A D.h.st.l.length D.h.st.c):=h.cell (i:=8) (by omega)
 have c9:w.cell? ⟨D.bd,9,none⟩=some (.int .i64 D.h.lo.n):=h.cell (i:=9) (by omega)
 have c10:w.cell? ⟨D.bd,10,none⟩=some (.slice D.h.lo.A D.h.lo.l.length D.h.lo.c):=h.cell (i:=10) (by omega)
 have c11:w.cell? ⟨D.bd,11,none⟩=some (.int .i64 D.h.len):=h.cell (i:=11) (by omega)
 have c12:w.cell? ⟨D.bd,12,none⟩=some (.int .i64 D.h.words):=h.cell (i:=12) (by omega)
 have hbs:D.bd<w.heap.size:=h.low.bd
 have HGD:=hid hg
 have hwa:IntKind.u64.wrap (S.at_:Int)=(S.at_:Int):=by rw[IntKind.wrap_u64];omega
 have hmk:=mk64 (wct D.h.st.l) (by omega)
 have HNI:=hid hNI
 clear hNI
 unfold Hd.v hdv pgv at *
 go_enter Tryz.func145,Tryz.ntmps145
 go_wp2_with fail
 refine HOf.out.mono ?_
 rintro e w1 ⟨a,b,rfl,hk1,hab,_⟩
 obtain⟨rfl,rfl⟩:=hab HGD.out
 have HK1:Hid (KW w w1):=hid hk1
 clear hk1 hab c4 c5 c6 c7 c8 c9 c10 c11 c12 hbs HOf
 go_wp2_with fail
 have hXS:=HC.out w1.drew HK1.out.drew
 refine wpX_region (S:=fun W=>W.cell? ⟨D.bd,7,none⟩=some (.int .i64 D.N)∧W.cell? ⟨D.bd,8,none⟩=some (.slice D.h.st.A D.h.st.l.length D.h.st.c)∧W.cell? ⟨D.bd,18,none⟩=some (.int .i64 S.at_)∧D.bd<W.heap.size) (L:=99) (by kernel_rfl) ?_
 refine tk 0 ?_ (fun _ _=>?_) hXS ?_;rotate_left;· go_simp;try rfl
 simp only[lsz,lss]
 refine tk 1 ?_ (fun _ _=>?_) hXS ?_;rotate_left;· go_simp;try rfl
 simp only[lsz,lss]
 refine tk 2 ?_ (fun _ _=>?_) hXS ?_;rotate_left;· go_simp;try rfl
 simp only[lsz,lss]
 refine tk 3 ?_ (fun _ _=>?_) hXS ?_;rotate_left;· go_simp;try rfl
 simp only[lsz,lss]
 refine tk 4 ?_ (fun _ _=>?_) hXS ?_;rotate_left;· go_simp;try rfl
 simp only[lsz,lss]
 refine tk 5 ?_ (fun _ _=>?_) hXS ?_;rotate_left;· go_simp;try rfl
 simp only[lsz,lss]
 refine tk 6 ?_ (fun _ _=>?_) hXS ?_;rotate_left;· go_simp;try rfl
 simp only[lsz,lss]
 refine tk 8 ?_ (fun _ _=>?_) hXS ?_;rotate_left;· go_simp;try rfl
 simp only[lsz,lss]
 refine tk 9 ?_ (fun _ _=>?_) hXS ?_;rotate_left;· go_simp;try rfl
 simp only[lsz,lss]
 refine tk 10 ?_ (fun _ _=>?_) hXS ?_;rotate_left;· go_simp;try rfl
 simp only[lsz,lss]
 refine tk 11 ?_ (fun _ _=>?_) hXS ?_;rotate_left;· go_simp;try rfl
 simp only[lsz,lss]
 refine tk 12 ?_ (fun _ _=>?_) hXS ?_;rotate_left;· go_simp;try rfl
 simp only[lsz,lss]
 refine tk 15 ?_ (fun _ _=>?_) hXS ?_;rotate_left;· go_simp;try rfl
 simp only[lsz,lss]
 clear hXS
 have hq:=(KW.refl w1).drew
 have hsz:=HK1.out.size
 refine wpX_manyO [(7,21),(13,27),(14,28),(16,30),(17,2)] (fun i j=>(i==16&&(j==14 || j==17)) || (j==16&&(i==14 || i==17))) (fun i j=>Bool.or_comm _ _)
  (fun i=>match i with
    | 7=>IsO w.heap.size D.x (S.get D 1) | 13=>IsG w.heap.size 1 [(S.at_:Int)] | 16=>IsG w.heap.size (wct D.h.st.l) (List.replicate (wct D.h.st.l) 0) | _=>IsG w.heap.size D.N (S.reg0 D D.N (S.get D 1) [(S.at_:Int)]))
  w1 1 rfl (by kernel_rfl) (by kernel_rfl) (fun w' hq=>HC.out w' (HK1.out.t hq))
  (List.forall_mem_cons.2 ⟨fun _ _ _ h k=>IsO.keep h k,List.forall_mem_cons.2 ⟨fun _ _ _ h k=>IsG.keep h k,List.forall_mem_cons.2 ⟨fun _ _ _ h k=>IsG.keep h k,List.forall_mem_cons.2 ⟨fun _ _ _ h k=>IsG.keep h k,List.forall_mem_cons.2 ⟨fun _ _ _ h k=>IsG.keep h k,List.forall_mem_nil _⟩⟩⟩⟩⟩)
  hq
  (List.forall_mem_cons.2 ⟨fun _ _ h=>IsO.lt h,List.forall_mem_cons.2 ⟨fun _ _ h=>IsG.lt h,List.forall_mem_cons.2 ⟨fun _ _ h=>IsG.lt h,List.forall_mem_cons.2 ⟨fun _ _ h=>IsG.lt h,List.forall_mem_cons.2 ⟨fun _ _ h=>IsG.lt h,List.forall_mem_nil _⟩⟩⟩⟩⟩)
  ?_ ?_
 ·clear hq
  refine List.forall_mem_cons.2 ⟨?_,List.forall_mem_cons.2 ⟨?_,List.forall_mem_cons.2 ⟨?_,List.forall_mem_cons.2 ⟨?_,List.forall_mem_cons.2 ⟨?_,List.forall_mem_nil _⟩⟩⟩⟩⟩
  ·skip
   intro x V hV hx dn hdn hp hap
   clear hx hdn
   refine wpX_op (tv:=?_) rfl ?_ (fun K hK=>?_)
   rotate_left
   ·simp only[upd,List.foldl_cons,List.foldl_nil,List.set_cons_zero,List.set_cons_succ];rfl
   simp only[lsz,lss] at hK
   go_simp
   refine(HGet.out V (HK1.out.t hV)).mono ?_
   rintro e w4 ⟨v,rfl,ho,hb⟩
   have hvs:=(HK1.out.t hV).size
   exact hK _ _ hb ⟨isO_of ho hl1 hvs,NewA.fresh hp fun b hb=>(ho.lt hb).1⟩
  ·skip
   intro x V hV hx dn hdn hp hap
   clear hx hdn
   refine wpX_op (tv:=?_) rfl ?_ (fun K hK=>?_)
   rotate_left
   ·simp only[upd,List.foldl_cons,List.foldl_nil,List.set_cons_zero,List.set_cons_succ];rfl
   simp only[lsz,lss] at hK
   go_simp
   have hvs:=(HK1.out.t hV).size
   have ho:=Owns.new (w:=V) (base:=V.heap.size) (e:=81) (xs:=u64s [(S.at_:Int)]) (Nat.le_refl _) (by rw[u64s_len];show 1≤100000;omega)
   exact hK _ _ (KW.alloc (KW.refl _) _) ⟨⟨_,_,rfl,ho.base hvs⟩,NewA.fresh hp fun b hb=>(ho.lt hb).1⟩
  ·skip
   intro x V hV hx dn hdn hp hap
   have h7:=hx (7,21) (by simp) (by kernel_rfl)
   have k7:=hdn (7,21) (by simp) (by kernel_rfl)
   have h13:=hx (13,27) (by simp) (by kernel_rfl)
   have k13:=hdn (13,27) (by simp) (by kernel_rfl)
   clear hx hdn
   refine wpX_op (tv:=?_) rfl ?_ (fun K hK=>?_)
   rotate_left
   ·simp only[upd,List.foldl_cons,List.foldl_nil,List.set_cons_zero,List.set_cons_succ];rfl
   simp only[lsz,lss] at hK
   skip
   obtain⟨A7,c7,e7,r7⟩:=h7
   obtain⟨g13,c13,e13,r13⟩:=h13
   rw[e7] at r7
   rw[e13] at r13
   have ze7:_=_:=e7;simp only[ze7] at hK ⊢
   have ze13:_=_:=e13;simp only[ze13] at hK ⊢
   go_simp
   have hvs:=(HK1.out.t hV).size
   refine(HBeg.out V (HK1.out.t hV) A7 c7 (some ⟨g13,0,none⟩) c13 r7.hu r13.hu).mono ?_
   rintro e w4 ⟨gr,cap,rfl,ho,hb⟩
   exact hK _ _ hb ⟨⟨gr,cap,rfl,ho.base hvs⟩,NewA.fresh hp fun b hb=>(ho.lt hb).1⟩
  ·skip
   intro x V hV hx dn hdn hp hap
   clear hx hdn
   refine wpX_op (tv:=?_) rfl ?_ (fun K hK=>?_)
   rotate_left
   ·simp only[upd,List.foldl_cons,List.foldl_nil,List.set_cons_zero,List.set_cons_succ];rfl
   simp only[lsz,lss] at hK
   go_simp
   have hvs:=(HK1.out.t hV).size
   have ho:=Owns.made64 V V.heap.size (wct D.h.st.l) (Nat.le_refl _) (by omega)
   exact hK _ _ (KW.alloc (KW.refl _) _) ⟨⟨_,_,rfl,ho.base hvs⟩,NewA.fresh hp fun b hb=>(ho.lt hb).1⟩
  ·skip
   intro x V hV hx dn hdn hp hap
   have h14:=hx (14,28) (by simp) (by kernel_rfl)
   have k14:=hdn (14,28) (by simp) (by kernel_rfl)
   clear hx hdn
   refine wpX_op (tv:=?_) rfl ?_ (fun K hK=>?_)
   rotate_left
   ·simp only[upd,List.foldl_cons,List.foldl_nil,List.set_cons_zero,List.set_cons_succ];rfl
   simp only[lsz,lss] at hK
   skip
   go_simp
   exact hK _ _ (KW.refl _) ⟨h14,NewA.copy (d:=28) hap (by simp) k14 (by decide)⟩
 ·intro x V hV hx hd
  obtain⟨gr,cr,e14,r14⟩:=hx (17,2) (by simp)
  obtain⟨gt,ct,e16,r16⟩:=hx (16,30) (by simp)
  have hne:gr≠gt:=fun h=>hd (17,2) (by simp) (16,30) (by simp) rfl rfl (by simp) (by rfl) gr (by show(x 17).ownBlock=_;rw[e14];rfl) (by show(x 16).ownBlock=_;rw[e16,h];rfl)
  simp only at e14 r14 e16 r16
  rw[e14] at r14
  rw[e16] at r16
  have hXS:=HC.out V (HK1.out.t hV)
  simp only[upd,List.foldl_cons,List.foldl_nil,List.set_cons_zero,List.set_cons_succ,e14,e16]
  clear hx hd e14 e16
  refine tk 18 ?_ (fun _ _=>?_) hXS ?_;rotate_left;· go_simp;try rfl
  simp only[lsz,lss]
  refine wpX_done (by kernel_rfl) ?_
  obtain⟨c7,c8,c18,hbs⟩:=hXS
  have HR14:=hid r14
  have HR16:=hid r16
  have HKV:=hid (HK1.out.t hV)
  clear hV r14 r16 HK1
  have hgr:=(HR14.out.lt (b:=gr) rfl)
  have hgt:=(HR16.out.lt (b:=gt) rfl)
  have HM:=hid (HD.out.kw HKV.out).hm.st
  have HRec:=hid (record_any D.h.st gr gt D.N cr (wct D.h.st.l) ct _ _ V HM.out hgd HNI.out (HR14.out.base (Nat.zero_le _)) HR0.out (HR16.out.base (Nat.zero_le _)) (by rw[List.length_replicate]) (Nat.le_refl _) (by omega) hne)
  rw[← HSR.out,← HST.out] at HRec
  unfold Pg.v pgv at HRec
  rw[HNI.out] at HRec
  go_wp2_with fail
  refine HRec.out.mono ?_
  rintro e w3 ⟨rfl,hr3,hk3,T,hT3,hTl,hTt⟩
  obtain rfl:T=S.stepT D S.at_:=by rw[← hTt,List.take_of_length_le (by rw[hTl];exact Nat.le_refl _)]
  have hup:∀ b,b=gr∨b=gt→w.heap.size≤b:=fun b e=>e.elim (fun e=>e ▸ hgr.1) fun e=>e ▸ hgt.1
  have HD3:Hid (DrM w3 D S):=hid ((HD.out.kw HKV.out).keepK HL.out hk3 hup)
  have HK3:Hid (Keep (D.up w.heap.size) w w3):=hid (HKV.out.kt (hk3.up fun b e=>.inr (hup b e)))
  have HR3:=hid hr3
  have HT3:=hid hT3
  have HN3:=hid (show(S.stepR D S.at_).length=D.N by rw[HSR.out,Fl.sts_len];exact HR0.out)
  have HP3:=hid (dput D S 2 (S.stepR D S.at_) _ w3 HD3.out (by omega) hr3.hu (by rw[HN3.out];exact Nat.le_refl _))
  clear hr3 hk3 hT3 hTl hTt hup HRec HM HKV HR14 HR16 c7 c8 c18 hbs HGet HBeg
  go_wp2_with fail
  refine HP3.out.mono ?_
  rintro e w4 ⟨rfl,hd4,hk4⟩
  have HD4:=hid hd4
  have HK4:Hid (Keep (D.up w.heap.size) w w4):=hid (HK3.out.t hk4.upw)
  have hbw:=HL.out.bw
  have HR4:Hid (RegM w4 (.slice (some ⟨gr,0,none⟩) D.N cr) (S.stepR D S.at_)):=hid (HR3.out.keep hk4 fun b hb e=>by have h1:gr=b:=Option.some.inj hb;omega)
  have HT4:Hid (RegM w4 (.slice (some ⟨gt,0,none⟩) (wct D.h.st.l) ct) (S.stepT D S.at_)):=hid (HT3.out.keep hk4 fun b hb e=>by have h1:gt=b:=Option.some.inj hb;omega)
  clear hd4 hk4 HD3 HK3 HR3 HT3 HP3
  have c21:w4.cell? ⟨D.bd,21,none⟩=some (.int .i64 (S.taped:Int)):=HD4.out.cell (i:=21) (by omega)
  have f21:w4.frozen? ⟨D.bd,21,none⟩=false:=World.rowIs.frozen HD4.out.row 21
  have hwT:IntKind.i64.wrap ((S.taped:Int)+1)=((S.taped+1:Nat):Int):=IntWalk.i64_in _ (by omega)
  have HD5:=hid (HD4.out.setTaped (S.taped+1))
  have hkd:Keep (· = D.bd) w4 (w4.setCell ⟨D.bd,21,none⟩ (.int .i64 ((S.taped+1:Nat):Int))):=(Keep.refl _ w4).setCell _ _ rfl
  have HK5:=hid (HK4.out.t hkd.upd)
  have hbd:=HL.out.bd
  have HR5:=hid (HR4.out.keep hkd fun b hb e=>by have h1:gr=b:=Option.some.inj hb;omega)
  have HT5:=hid (HT4.out.keep hkd fun b hb e=>by have h1:gt=b:=Option.some.inj hb;omega)
  clear hkd HD4 HK4 HR4 HT4
  go_wp2_with fail
  go_ret2
  exact⟨gr,cr,gt,ct,rfl,hne,hgr.1,hgt.1,HR5.out,HT5.out,HD5.out,HK5.out.down⟩
theorem DrM.hc {w:World}{D:Ds}{S:Dy}(h:DrM w D S):w.cell? ⟨D.bd,4,none⟩=some (.int .i64 D.h.mode)∧w.cell? ⟨D.bd,5,none⟩=some (.slice D.h.xA D.h.xs.length D.h.xc)∧w.cell? ⟨D.bd,6,none⟩=some (.slice D.h.tA D.h.ts.length D.h.tc)∧w.cell? ⟨D.bd,7,none⟩=some (.int .i64 D.h.st.n)∧w.cell? ⟨D.bd,8,none⟩=some (.slice D.h.st.A D.h.st.l.length D.h.st.c) ∧
 w.cell? ⟨D.bd,9,none⟩=some (.int .i64 D.h.lo.n)∧w.cell? ⟨D.bd,10,none⟩=some (.slice D.h.lo.A D.h.lo.l.length D.h.lo.c)∧w.cell? ⟨D.bd,11,none⟩=some (.int .i64 D.h.len)∧w.cell? ⟨D.bd,12,none⟩=some (.int .i64 D.h.words)∧D.bd<w.heap.size:=
 ⟨h.cell (i:=4) (by omega),h.cell (i:=5) (by omega),h.cell (i:=6) (by omega),h.cell (i:=7) (by omega),h.cell (i:=8) (by omega),h.cell (i:=9) (by omega),h.cell (i:=10) (by omega),h.cell (i:=11) (by omega),h.cell (i:=12) (by omega),h.low.bd⟩
theorem dof (D:Ds)(S:Dy)(w:World)(h:DrM w D S):Calls Tryz.prog 21 #[.agg #[.int .i64 D.h.mode,.slice D.h.xA D.h.xs.length D.h.xc,.slice D.h.tA D.h.ts.length D.h.tc,.int .i64 D.h.st.n,.slice D.h.st.A D.h.st.l.length D.h.st.c,.int .i64 D.h.lo.n,.slice D.h.lo.A D.h.lo.l.length D.h.lo.c,.int .i64 D.h.len,.int .i64 D.h.words]] w fun e w'=>e=.returned (.tuple #[.int .i64 (wct D.h.st.l:Nat),.int .i64 (wct D.h.lo.l:Nat)])∧KW w w':=by
 refine(pof_any D.h w h.hm).mono ?_
 rintro e w1 ⟨a,b,rfl,hk1,hab,_⟩
 obtain⟨rfl,rfl⟩:=hab h.ds.ok.1
 exact⟨rfl,hk1⟩
theorem dend (D:Ds)(S:Dy)(w:World)(gx:Option Addr)(cx:Nat)(xs:List Int)(h:DrM w D S)(hu:HU w (.slice gx D.x cx) xs)(hxs:xs.length=D.x)(hls:S.losses<4611686018427387904)(hsw:S.sweeps<4611686018427387904):
 Calls Tryz.prog 184 #[.pointer (some ⟨D.bd,0,none⟩),.slice gx D.x cx] w fun e w'=>e=.returned (.tuple #[])∧DrM w' D (S.end_ D xs)∧Keep D.own w w':=by
 have hg:=h.ds.ok.1
 have hb:=hg.bounds
 have hgd:=(hg 1 (by omega)).2
 have HOf:=hid (dof D S w h)
 have hNI:D.h.lo.n=(D.M:Int):=(Int.toNat_of_nonneg (by omega)).symm
 have hN64:D.M≤64∧D.x+D.h.ts.length≤D.M:=by unfold Ds.x;omega
 have ha:=wct_le D.h.lo.l
 have hx1:=h.ds.x1
 have HBeg:=hid (fun W (hW:KW w W)=>
  dbegin D S D.h.lo.l.length D.h.lo.c D.M D.x 0 cx 0 D.h.lo.A gx none xs [] W (h.kw hW) (hu.kw hW) (HU.nil W) hxs rfl hx1.1 (by omega) hN64.1)
 have HL:=hid h.low
 have HC:Hid (∀ W S',DrM W D S'→W.cell? ⟨D.bd,9,none⟩=some (.int .i64 D.M)∧W.cell? ⟨D.bd,10,none⟩=some (.slice D.h.lo.A D.h.lo.l.length D.h.lo.c)∧D.bd<W.heap.size):=hid fun W S' h'=>by
  exact⟨by rw[← hNI];exact h'.cell (i:=9) (by omega),h'.cell (i:=10) (by omega),World.rowIs.lt h'.row⟩
 have HD:=hid h
 have HR0:Hid ((S.reg0 D D.M xs []).length=D.M):=hid (Dy.reg0_len S D _ _ _ (by rw[hxs,h.get_len (by omega)];show D.x+D.h.ts.length+0≤_;omega) (h.get_len (by omega)))
 obtain⟨R0,hR0⟩:∃ R0,S.reg0 D D.M xs []=R0:=⟨_,rfl⟩
 obtain⟨S',hS'⟩:∃ S',S.end_ D xs=S':=⟨_,rfl⟩
 have HS':=hid hS'
 unfold Dy.end_ at HS'
 rw[hS']
 rw[hR0] at HR0 HBeg HS'
 obtain⟨c4,c5,c6,c7,c8,c9,c10,c11,c12,hbs⟩:=h.hc
 have HNI:=hid hNI
 have hmk:=mk64 (wct D.h.lo.l) (by omega)
 have hwL:IntKind.i64.wrap ((S.losses:Int)+1)=((S.losses+1:Nat):Int):=IntWalk.i64_in _ (by omega)
 clear hNI hR0 hS' hu hg h
 unfold pgv at HBeg
 go_enter Tryz.func184,Tryz.ntmps184
 go_wp2_with fail
 refine HOf.out.mono ?_
 rintro e w1 ⟨rfl,hk1⟩
 have HK1:Hid (KW w w1):=hid hk1
 clear hk1 c4 c5 c6 c7 c8 c9 c10 c11 c12 hbs HOf
 go_wp2_with fail
 have hXS:=HC.out w1.drew S (HD.out.kw HK1.out.drew)
 refine wpX_region (S:=fun W=>W.cell? ⟨D.bd,9,none⟩=some (.int .i64 D.M)∧W.cell? ⟨D.bd,10,none⟩=some (.slice D.h.lo.A D.h.lo.l.length D.h.lo.c)∧D.bd<W.heap.size) (L:=99) (by kernel_rfl) ?_
 refine tk 0 ?_ (fun _ _=>?_) hXS ?_;rotate_left;· go_simp;try rfl
 simp only[lsz,lss]
 refine tk 1 ?_ (fun _ _=>?_) hXS ?_;rotate_left;· go_simp;try rfl
 simp only[lsz,lss]
 refine tk 2 ?_ (fun _ _=>?_) hXS ?_;rotate_left;· go_simp;try rfl
 simp only[lsz,lss]
 refine tk 3 ?_ (fun _ _=>?_) hXS ?_;rotate_left;· go_simp;try rfl
 simp only[lsz,lss]
 refine tk 4 ?_ (fun _ _=>?_) hXS ?_;rotate_left;· go_simp;try rfl
 simp only[lsz,lss]
 refine tk 5 ?_ (fun _ _=>?_) hXS ?_;rotate_left;· go_simp;try rfl
 simp only[lsz,lss]
 refine tk 6 ?_ (fun _ _=>?_) hXS ?_;rotate_left;· go_simp;try rfl
 simp only[lsz,lss]
 refine tk 8 ?_ (fun _ _=>?_) hXS ?_;rotate_left;· go_simp;try rfl
 simp only[lsz,lss]
 clear hXS
 have hq:=(KW.refl w1).drew
 have hsz:=HK1.out.size
 refine wpX_manyO [(7,23),(9,25),(10,6)] (fun i j=>(i==9&&(j==7 || j==10)) || (j==9&&(i==7 || i==10))) (fun i j=>Bool.or_comm _ _)
  (fun i=>match i with
    | 9=>IsG w.heap.size (wct D.h.lo.l) (List.replicate (wct D.h.lo.l) 0) | _=>IsG w.heap.size D.M R0)
  w1 1 rfl (by kernel_rfl) (by kernel_rfl) (fun w' hq=>HC.out w' S (HD.out.kw (HK1.out.t hq)))
  (List.forall_mem_cons.2 ⟨fun _ _ _ h k=>IsG.keep h k,List.forall_mem_cons.2 ⟨fun _ _ _ h k=>IsG.keep h k,List.forall_mem_cons.2 ⟨fun _ _ _ h k=>IsG.keep h k,List.forall_mem_nil _⟩⟩⟩)
  hq
  (List.forall_mem_cons.2 ⟨fun _ _ h=>IsG.lt h,List.forall_mem_cons.2 ⟨fun _ _ h=>IsG.lt h,List.forall_mem_cons.2 ⟨fun _ _ h=>IsG.lt h,List.forall_mem_nil _⟩⟩⟩)
  ?_ ?_
 ·clear hq
  refine List.forall_mem_cons.2 ⟨?_,List.forall_mem_cons.2 ⟨?_,List.forall_mem_cons.2 ⟨?_,List.forall_mem_nil _⟩⟩⟩
  ·skip
   intro x V hV hx dn hdn hp hap
   clear hx hdn
   refine wpX_op (tv:=?_) rfl ?_ (fun K hK=>?_)
   rotate_left
   ·simp only[upd,List.foldl_cons,List.foldl_nil,List.set_cons_zero,List.set_cons_succ];rfl
   simp only[lsz,lss] at hK
   go_simp
   have hvs:=(HK1.out.t hV).size
   refine(HBeg.out V (HK1.out.t hV)).mono ?_
   rintro e w4 ⟨gr,cap,rfl,ho,hb⟩
   exact hK _ _ hb ⟨⟨gr,cap,rfl,ho.base hvs⟩,NewA.fresh hp fun b hb=>(ho.lt hb).1⟩
  ·skip
   intro x V hV hx dn hdn hp hap
   clear hx hdn
   refine wpX_op (tv:=?_) rfl ?_ (fun K hK=>?_)
   rotate_left
   ·simp only[upd,List.foldl_cons,List.foldl_nil,List.set_cons_zero,List.set_cons_succ];rfl
   simp only[lsz,lss] at hK
   go_simp
   have hvs:=(HK1.out.t hV).size
   have ho:=Owns.made64 V V.heap.size (wct D.h.lo.l) (Nat.le_refl _) (by omega)
   exact hK _ _ (KW.alloc (KW.refl _) _) ⟨⟨_,_,rfl,ho.base hvs⟩,NewA.fresh hp fun b hb=>(ho.lt hb).1⟩
  ·skip
   intro x V hV hx dn hdn hp hap
   have h7:=hx (7,23) (by simp) (by kernel_rfl)
   have k7:=hdn (7,23) (by simp) (by kernel_rfl)
   clear hx hdn
   refine wpX_op (tv:=?_) rfl ?_ (fun K hK=>?_)
   rotate_left
   ·simp only[upd,List.foldl_cons,List.foldl_nil,List.set_cons_zero,List.set_cons_succ];rfl
   simp only[lsz,lss] at hK
   skip
   go_simp
   exact hK _ _ (KW.refl _) ⟨h7,NewA.copy (d:=23) hap (by simp) k7 (by decide)⟩
 ·intro x V hV hx hd
  obtain⟨gr,cr,e14,r14⟩:=hx (10,6) (by simp)
  obtain⟨gt,ct,e16,r16⟩:=hx (9,25) (by simp)
  have hne:gr≠gt:=fun h=>hd (10,6) (by simp) (9,25) (by simp) rfl rfl (by simp) (by rfl) gr (by show(x 10).ownBlock=_;rw[e14];rfl) (by show(x 9).ownBlock=_;rw[e16,h];rfl)
  simp only at e14 r14 e16 r16
  rw[e14] at r14
  rw[e16] at r16
  have hXS:=HC.out V S (HD.out.kw (HK1.out.t hV))
  simp only[upd,List.foldl_cons,List.foldl_nil,List.set_cons_zero,List.set_cons_succ,e14,e16]
  clear hx hd e14 e16
  refine tk 11 ?_ (fun _ _=>?_) hXS ?_;rotate_left;· go_simp;try rfl
  simp only[lsz,lss]
  refine wpX_done (by kernel_rfl) ?_
  obtain⟨c9,c10,hbs⟩:=hXS
  have HR14:=hid r14
  have HR16:=hid r16
  have HKV:=hid (HK1.out.t hV)
  clear hV r14 r16 HK1 HBeg
  have hgr:=(HR14.out.lt (b:=gr) rfl)
  have hgt:=(HR16.out.lt (b:=gt) rfl)
  have HM:=hid (HD.out.kw HKV.out).hm.lo
  have HRec:=hid (record_any D.h.lo gr gt D.M cr (wct D.h.lo.l) ct _ _ V HM.out hgd HNI.out (HR14.out.base (Nat.zero_le _)) HR0.out (HR16.out.base (Nat.zero_le _)) (by rw[List.length_replicate]) (Nat.le_refl _) (by omega) hne)
  unfold Pg.v pgv at HRec
  rw[HNI.out] at HRec
  go_wp2_with fail
  refine HRec.out.mono ?_
  rintro e w3 ⟨rfl,hr3,hk3,T,hT3,hTl,hTt⟩
  obtain rfl:T=Fl.tps R0 (Fl.unr D.h.lo.l):=by rw[← hTt,List.take_of_length_le (by rw[hTl];exact Nat.le_refl _)]
  have hN3:=(show(Fl.sts R0 (Fl.unr D.h.lo.l)).length=D.M by rw[Fl.sts_len];exact HR0.out)
  have HTl:=hid hTl
  generalize Fl.tps R0 (Fl.unr D.h.lo.l)=T at *
  generalize Fl.sts R0 (Fl.unr D.h.lo.l)=R at *
  have HN3:=hid hN3
  have hup:∀ b,b=gr∨b=gt→w.heap.size≤b:=fun b e=>e.elim (fun e=>e ▸ hgr.1) fun e=>e ▸ hgt.1
  have HD3:Hid (DrM w3 D S):=hid ((HD.out.kw HKV.out).keepK HL.out hk3 hup)
  have HK3:Hid (Keep (D.up w.heap.size) w w3):=hid (HKV.out.kt (hk3.up fun b e=>.inr (hup b e)))
  have HR3:=hid hr3
  have HT3:=hid hT3
  clear hr3 hk3 hT3 hTl hTt hN3 hup HRec HM HKV HR14 HR16 c9 c10 hbs
  have c22:w3.cell? ⟨D.bd,22,none⟩=some (.int .i64 (S.losses:Int)):=HD3.out.cell (i:=22) (by omega)
  have f22:w3.frozen? ⟨D.bd,22,none⟩=false:=World.rowIs.frozen HD3.out.row 22
  have hd4:=HD3.out.setLosses (S.losses+1)
  have hkd:Keep (· = D.bd) w3 (w3.setCell ⟨D.bd,22,none⟩ (.int .i64 ((S.losses+1:Nat):Int))):=(Keep.refl _ w3).setCell _ _ rfl
  have hbd:=HL.out.bd
  have HR4:=hid (HR3.out.keep hkd fun b hb e=>by have h1:gr=b:=Option.some.inj hb;omega)
  have HT4:=hid (HT3.out.keep hkd fun b hb e=>by have h1:gt=b:=Option.some.inj hb;omega)
  have HK4:=hid (HK3.out.t hkd.upd)
  have HD4:Hid (DrM (w3.setCell ⟨D.bd,22,none⟩ (.int .i64 ((S.losses:Int)+1))) D { S with losses:=S.losses+1 }):=hid hd4
  clear hd4 hkd HD3 HK3 HR3 HT3
  go_upto_region 4 with(fail)
  clear c22 f22
  refine wpCode_world (fun W=>Hid (DrM W D { S with losses:=S.losses+1 })∧Hid (RegM W (.slice (some ⟨gr,0,none⟩) D.M cr) R)∧Hid (RegM W (.slice (some ⟨gt,0,none⟩) (wct D.h.lo.l) ct) T)∧Hid (Keep (D.up w.heap.size) w W)) ⟨HD4,HR4,HT4,HK4⟩ ?_
  clear HD4 HR4 HT4 HK4
  rintro w4 ⟨HD4,HR4,HT4,HK4⟩
  obtain⟨x0,hx0⟩:∃ x0,R.getD 0 0=x0:=⟨_,rfl⟩
  have e0:=(HR4.out.at_ (i:=0) (by rw[HN3.out];omega)).2.1
  rw[hx0] at e0 HS'
  have hM1:0<D.M:=by omega
  have c24:w4.cell? ⟨D.bd,24,none⟩=some (.int .u64 S.loss):=HD4.out.cell (i:=24) (by omega)
  have f24:w4.frozen? ⟨D.bd,24,none⟩=false:=World.rowIs.frozen HD4.out.row 24
  have HD5:=hid (HD4.out.setLoss x0)
  have hkd:Keep (· = D.bd) w4 (w4.setCell ⟨D.bd,24,none⟩ (.int .u64 x0)):=(Keep.refl _ w4).setCell _ _ rfl
  have HR5:=hid (HR4.out.keep hkd fun b hb e=>by have h1:gr=b:=Option.some.inj hb;omega)
  have HT5:=hid (HT4.out.keep hkd fun b hb e=>by have h1:gt=b:=Option.some.inj hb;omega)
  have HK5:=hid (HK4.out.t hkd.upd)
  clear hkd hx0
  go_upto_region 5 with(fail)
  clear e0 f24 c24
  obtain⟨S1,hS1⟩:∃ S1:Dy,{ S with losses:=S.losses+1,loss:=x0 } = S1:=⟨_,rfl⟩
  have hd5:=HD5.out
  have hsw1:S1.sweeps=S.sweeps:=by rw[← hS1]
  rw[show({ ({ S with losses:=S.losses+1 }:Dy) with loss:=x0 }:Dy)=S1 from hS1] at hd5
  rw[hS1] at HS'
  refine wpCode_world (fun W=>Hid (DrM W D S1)∧Hid (RegM W (.slice (some ⟨gr,0,none⟩) D.M cr) R)∧Hid (RegM W (.slice (some ⟨gt,0,none⟩) (wct D.h.lo.l) ct) T)∧Hid (Keep (D.up w.heap.size) w W)) ⟨hid hd5,HR5,HT5,HK5⟩ ?_
  clear HD5 HR5 HT5 HK5 HD4 HR4 HT4 HK4 hd5 hS1
  rintro w5 ⟨HD5,HR5,HT5,HK5⟩
  have HP5:=hid (dput D S1 3 R _ w5 HD5.out (by omega) HR5.out.hu (by rw[HN3.out];exact Nat.le_refl _))
  go_wp2_with fail
  refine HP5.out.mono ?_
  rintro e w6 ⟨rfl,hd6,hk6⟩
  have hbw:=HL.out.bw
  have HD6:=hid hd6
  have HK6:Hid (Keep (D.up w.heap.size) w w6):=hid (HK5.out.t hk6.upw)
  have HR6:=hid (HR5.out.keep hk6 fun b hb e=>by have h1:gr=b:=Option.some.inj hb;omega)
  have HT6:=hid (HT5.out.keep hk6 fun b hb e=>by have h1:gt=b:=Option.some.inj hb;omega)
  clear hd6 hk6 HD5 HK5 HR5 HT5 HP5
  go_wp2_with fail
  have hXS:=HC.out w6.drew _ (HD6.out.kw (KW.refl w6).drew)
  refine wpX_region (S:=fun W=>W.cell? ⟨D.bd,9,none⟩=some (.int .i64 D.M)∧W.cell? ⟨D.bd,10,none⟩=some (.slice D.h.lo.A D.h.lo.l.length D.h.lo.c)∧D.bd<W.heap.size) (L:=99) (by kernel_rfl) ?_
  refine tk 0 ?_ (fun _ _=>?_) hXS ?_;rotate_left;· go_simp;try rfl
  simp only[lsz,lss]
  refine tk 1 ?_ (fun _ _=>?_) hXS ?_;rotate_left;· go_simp;try rfl
  simp only[lsz,lss]
  refine tk 2 ?_ (fun _ _=>?_) hXS ?_;rotate_left;· go_simp;try rfl
  simp only[lsz,lss]
  refine tk 3 ?_ (fun _ _=>?_) hXS ?_;rotate_left;· go_simp;try rfl
  simp only[lsz,lss]
  refine tk 4 ?_ (fun _ _=>?_) hXS ?_;rotate_left;· go_simp;try rfl
  simp only[lsz,lss]
  refine tk 5 ?_ (fun _ _=>?_) hXS ?_;rotate_left;· go_simp;try rfl
  simp only[lsz,lss]
  refine tk 6 ?_ (fun _ _=>?_) hXS ?_;rotate_left;· go_simp;try rfl
  simp only[lsz,lss]
  refine tk 7 ?_ (fun _ _=>?_) hXS ?_;rotate_left;· go_simp;try rfl
  simp only[lsz,lss]
  refine tk 8 ?_ (fun _ _=>?_) hXS ?_;rotate_left;· go_simp;try rfl
  simp only[lsz,lss]
  refine tk 9 ?_ (fun _ _=>?_) hXS ?_;rotate_left;· go_simp;try rfl
  simp only[lsz,lss]
  refine tk 10 ?_ (fun _ _=>?_) hXS ?_;rotate_left;· go_simp;try rfl
  simp only[lsz,lss]
  refine tk 11 ?_ (fun _ _=>?_) hXS ?_;rotate_left;· go_simp;try rfl
  simp only[lsz,lss]
  refine tk 14 ?_ (fun _ _=>?_) hXS ?_;rotate_left;· go_simp;try rfl
  simp only[lsz,lss]
  refine wpX_hard (k:=12) (by kernel_rfl) rfl (fun K hK=>?_)
  go_simp
  have hk7:KW w6 (w6.alloc (.cells #[.int .u64 1] 81)).drew:=((KW.refl w6).alloc _).drew
  have hu7:HU (w6.alloc (.cells #[.int .u64 1] 81)).drew (.slice (some ⟨w6.heap.size,0,none⟩) 1 1) [1]:=(HU.one w6 1).kw (KW.refl _).drew
  have HD7:=hid (HD6.out.kw hk7)
  have HK7:=hid (HK6.out.kwt hk7)
  have HR7:=hid (HR6.out.kw hk7)
  have HT7:=hid (HT6.out.kw hk7)
  have hsz7:=hk7.size
  have hsz6:=HK6.out.size
  have hXS:=HC.out _ _ HD7.out
  refine hK _ _ (fun _=>hXS) ?_
  clear hK K hk7 HD6 HK6 HR6 HT6
  obtain⟨w7,hw7⟩:∃ w7,(w6.alloc (.cells #[.int .u64 1] 81)).drew=w7:=⟨_,rfl⟩
  rw[hw7] at HD7 HK7 HR7 HT7 hXS hu7 hsz7 ⊢
  clear hw7
  try simp only[lsz,lss]
  have HWd:=hid (wide_any D.h.lo.A D.h.lo.l.length D.h.lo.c D.M 1 1 (some ⟨w6.heap.size,0,none⟩) [1] w7 hu7 rfl (Nat.le_refl _) hM1 hN64.1)
  unfold pgv at HWd
  clear hu7
  refine wpX_hard (k:=13) (by kernel_rfl) rfl (fun K hK=>?_)
  go_simp
  refine HWd.out.mono ?_
  rintro e w8 ⟨ga,ca,rfl,ho8,hk8⟩
  have hga:=ho8.lt (b:=ga) rfl
  have hgr7:=HR7.out.lt rfl
  have hgt7:=HT7.out.lt rfl
  have HD8:=hid (HD7.out.kw hk8)
  have HK8:=hid (HK7.out.kwt hk8)
  have HR8:=hid (HR7.out.kw hk8)
  have HT8:=hid (HT7.out.kw hk8)
  have HA8:Hid (RegM w8 (.slice (some ⟨ga,0,none⟩) D.M ca) ([1]++List.replicate (D.M - 1) 0)):=hid (ho8.base (Nat.zero_le _))
  have hXS:=HC.out _ _ HD8.out
  refine hK _ _ (fun _=>hXS) ?_
  clear hK K ho8 hk8 HD7 HK7 HR7 HT7 HWd
  try simp only[lsz,lss]
  have hne3:gr≠ga∧gr≠gt∧ga≠gt:=by
   have h1:gr<w7.heap.size:=hgr7
   have h2:gt<w7.heap.size:=hgt7
   exact⟨by omega,hne,by omega⟩
  have hsz8:=HK8.out.size
  have HBk:=hid (dback D (S1.put D 3 R) D.h.lo gr ga gt D.M cr ca (wct D.h.lo.l) ct w.heap.size R ([1]++List.replicate (D.M - 1) 0) T w8 HD8.out HL.out HD8.out.hm.lo hgd HNI.out hN64.1 ⟨HR8.out,HA8.out,HT8.out,HN3.out,by simp;omega,HTl.out⟩ (Nat.le_refl _) (by omega) hne3 ⟨hgr.1,by omega,hgt.1⟩ hN64.2 (by omega) (by show S1.sweeps<_;omega) hsz8)
  unfold Pg.v pgv at HBk
  rw[HNI.out] at HBk
  refine wpX_hard (k:=15) (by kernel_rfl) rfl (fun K hK=>?_)
  go_simp
  refine HBk.out.mono ?_
  rintro e w9 ⟨rfl,hd9,hk9⟩
  have HD9:=hid hd9
  have HK9:=hid (HK8.out.t hk9)
  have hXS:=HC.out _ _ HD9.out
  refine hK _ _ (fun _=>hXS) ?_
  clear hK K hd9 hk9
  try simp only[lsz,lss]
  refine wpX_done (by kernel_rfl) ?_
  clear hXS
  go_wp2_with fail
  refine bodyPost_end (results_none rfl _ _ _) rfl ?_
  refine⟨rfl,?_,HK9.out.down⟩
  rw[← HS'.out]
  exact HD9.out
theorem dturn (D:Ds)(S:Dy)(gr cr gt ct K:Nat)(R T:List Int)(w:World)(h:DrM w D S)(hl:DrLow D K)(hR:RegM w (.slice (some ⟨gr,0,none⟩) D.N cr) R)(hRl:R.length=D.N)(hT:RegM w (.slice (some ⟨gt,0,none⟩) D.a ct) T)(hTl:T.length=D.a)(hne:gr≠gt)(hK:K≤gr∧K≤gt)(hKw:K≤w.heap.size)(hsw:S.sweeps<4611686018427387904):
 Calls Tryz.prog 149 #[.pointer (some ⟨D.bd,0,none⟩),.slice (some ⟨gr,0,none⟩) D.N cr,.slice (some ⟨gt,0,none⟩) D.a ct] w fun e w'=>e=.returned (.tuple #[])∧DrM w' D (S.turn D R T)∧Keep (D.up K) w w':=by
 have hg:=h.ds.ok.1
 have hb:=hg.bounds
 have hgd:=(hg 1 (by omega)).1
 have hNI:D.h.st.n=(D.N:Int):=(Int.toNat_of_nonneg (by omega)).symm
 have hN64:D.N≤64∧D.x+D.h.ts.length+1≤D.N:=by unfold Ds.x;omega
 have ha:=wct_le D.h.st.l
 have hx1:=h.ds.x1
 have hgl:(S.get D 5).length=D.x:=h.get_len (by omega)
 have HGet:=hid (fun W (hW:KW w W)=>dget D S 5 W (h.kw hW) (by omega))
 have HL:=hid hl
 have HKK:=hid hK
 have HC:Hid (∀ W S',DrM W D S'→W.cell? ⟨D.bd,7,none⟩=some (.int .i64 D.N)∧W.cell? ⟨D.bd,8,none⟩=some (.slice D.h.st.A D.h.st.l.length D.h.st.c)∧D.bd<W.heap.size):=hid fun W S' h'=>by
  exact⟨by rw[← hNI];exact h'.cell (i:=7) (by omega),h'.cell (i:=8) (by omega),World.rowIs.lt h'.row⟩
 have HD:=hid h
 have HR:=hid hR
 have HT:=hid hT
 have HNI:=hid hNI
 have HS':=hid (show S.turn D R T=S.back D D.h.st.l R (S.get D 5++List.replicate (D.N - D.x) 0) T from rfl)
 clear hNI hR hT h hl hK
 go_enter Tryz.func149,Tryz.ntmps149
 go_wp2_with fail
 have hXS:=HC.out w.drew S (HD.out.kw (KW.refl w).drew)
 refine wpX_region (S:=fun W=>W.cell? ⟨D.bd,7,none⟩=some (.int .i64 D.N)∧W.cell? ⟨D.bd,8,none⟩=some (.slice D.h.st.A D.h.st.l.length D.h.st.c)∧D.bd<W.heap.size) (L:=99) (by kernel_rfl) ?_
 refine tk 0 ?_ (fun _ _=>?_) hXS ?_;rotate_left;· go_simp;try rfl
 simp only[lsz,lss]
 refine tk 1 ?_ (fun _ _=>?_) hXS ?_;rotate_left;· go_simp;try rfl
 simp only[lsz,lss]
 refine tk 2 ?_ (fun _ _=>?_) hXS ?_;rotate_left;· go_simp;try rfl
 simp only[lsz,lss]
 refine tk 3 ?_ (fun _ _=>?_) hXS ?_;rotate_left;· go_simp;try rfl
 simp only[lsz,lss]
 refine tk 4 ?_ (fun _ _=>?_) hXS ?_;rotate_left;· go_simp;try rfl
 simp only[lsz,lss]
 refine tk 5 ?_ (fun _ _=>?_) hXS ?_;rotate_left;· go_simp;try rfl
 simp only[lsz,lss]
 refine tk 6 ?_ (fun _ _=>?_) hXS ?_;rotate_left;· go_simp;try rfl
 simp only[lsz,lss]
 refine tk 7 ?_ (fun _ _=>?_) hXS ?_;rotate_left;· go_simp;try rfl
 simp only[lsz,lss]
 refine tk 8 ?_ (fun _ _=>?_) hXS ?_;rotate_left;· go_simp;try rfl
 simp only[lsz,lss]
 refine tk 9 ?_ (fun _ _=>?_) hXS ?_;rotate_left;· go_simp;try rfl
 simp only[lsz,lss]
 refine tk 10 ?_ (fun _ _=>?_) hXS ?_;rotate_left;· go_simp;try rfl
 simp only[lsz,lss]
 refine tk 11 ?_ (fun _ _=>?_) hXS ?_;rotate_left;· go_simp;try rfl
 simp only[lsz,lss]
 refine tk 12 ?_ (fun _ _=>?_) hXS ?_;rotate_left;· go_simp;try rfl
 simp only[lsz,lss]
 refine tk 15 ?_ (fun _ _=>?_) hXS ?_;rotate_left;· go_simp;try rfl
 simp only[lsz,lss]
 refine wpX_hard (k:=13) (by kernel_rfl) rfl (fun K hK=>?_)
 go_simp
 refine(HGet.out _ (KW.refl w).drew).mono ?_
 rintro e w1 ⟨v,rfl,ho1,hk1'⟩
 have hk1:KW w w1:=(KW.refl w).drew.t hk1'
 obtain⟨A1,c1,rfl,_⟩:=ho1.row
 have hu1:=ho1.hu
 rw[u64s_len,hgl] at hu1 ⊢
 have HD1:=hid (HD.out.kw hk1)
 have HK1:=hid hk1
 have hXS:=HC.out _ _ HD1.out
 refine hK _ _ (fun _=>hXS) ?_
 clear hK K hk1 hk1' ho1 HGet
 try simp only[lsz,lss]
 have HWd:=hid (wide_any D.h.st.A D.h.st.l.length D.h.st.c D.N D.x c1 A1 (S.get D 5) w1 hu1 hgl hx1.1 (by omega) hN64.1)
 unfold pgv at HWd
 clear hu1
 refine wpX_hard (k:=14) (by kernel_rfl) rfl (fun K hK=>?_)
 go_simp
 refine HWd.out.mono ?_
 rintro e w8 ⟨ga,ca,rfl,ho8,hk8⟩
 have hga:=ho8.lt (b:=ga) rfl
 have HD8:=hid (HD1.out.kw hk8)
 have HK8:=hid (HK1.out.t hk8)
 have HR8:=hid (HR.out.kw HK8.out)
 have HT8:=hid (HT.out.kw HK8.out)
 have hgrw:gr<w.heap.size:=HR.out.lt rfl
 have hgtw:gt<w.heap.size:=HT.out.lt rfl
 have hszw:=HK1.out.size
 have HA8:Hid (RegM w8 (.slice (some ⟨ga,0,none⟩) D.N ca) (S.get D 5++List.replicate (D.N - D.x) 0)):=hid (ho8.base (Nat.zero_le _))
 have hXS:=HC.out _ _ HD8.out
 refine hK _ _ (fun _=>hXS) ?_
 clear hK K ho8 hk8 HD1 HK1 HWd
 try simp only[lsz,lss]
 have hsz8:=HK8.out.size
 have HBk:=hid (dback D S D.h.st gr ga gt D.N cr ca D.a ct K R (S.get D 5++List.replicate (D.N - D.x) 0) T w8 HD8.out HL.out HD8.out.hm.st hgd HNI.out hN64.1 ⟨HR8.out,HA8.out,HT8.out,hRl,by rw[List.length_append,List.length_replicate,hgl];omega,hTl⟩ (Nat.le_refl _) (by show wct D.h.st.l≤_;omega) ⟨by omega,hne,by omega⟩ ⟨HKK.out.1,by omega,HKK.out.2⟩ (by omega) (by omega) hsw (by omega))
 unfold Pg.v pgv at HBk
 rw[HNI.out] at HBk
 refine wpX_hard (k:=16) (by kernel_rfl) rfl (fun K hK=>?_)
 go_simp
 refine HBk.out.mono ?_
 rintro e w9 ⟨rfl,hd9,hk9⟩
 have HD9:=hid hd9
 have HK9:=hid (HK8.out.kt hk9)
 have hXS:=HC.out _ _ HD9.out
 refine hK _ _ (fun _=>hXS) ?_
 clear hK hd9 hk9
 try simp only[lsz,lss]
 refine wpX_done (by kernel_rfl) ?_
 clear hXS
 go_wp2_with fail
 refine bodyPost_end (results_none rfl _ _ _) rfl ?_
 refine⟨rfl,?_,HK9.out⟩
 rw[HS'.out]
 exact HD9.out
end Go.Proofs.YtphppbonljdibaaGreat
