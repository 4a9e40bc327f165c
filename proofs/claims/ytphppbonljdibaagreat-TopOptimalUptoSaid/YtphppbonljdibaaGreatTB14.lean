import Derived.Test.YtphppbonljdibaaGreatTB11
import Derived.Test.YtphppbonljdibaaGreatTB13
set_option maxRecDepth 100000
set_option maxHeartbeats 4000000
set_option linter.unusedVariables false
set_option linter.unusedSimpArgs false
namespace Go.Proofs.YtphppbonljdibaaGreat
open Go.ChangeShapes Go.WideShapes Go.ChangeAt Go.RowKit
def TkS (w:World)(g:Nat)(v1 v2 v3:Value)(k d a b v:Int):Prop:=
 (w.cell? ⟨g,0,none⟩=some v1∧w.cell? ⟨g,1,none⟩=some v2∧w.cell? ⟨g,2,none⟩=some v3)∧(w.cell? ⟨g+1,0,none⟩=some (.int .i64 k)∧w.cell? ⟨g+1,1,none⟩=some (.int .i64 d)∧w.cell? ⟨g+1,2,none⟩=some (.int .i64 a)∧w.cell? ⟨g+1,3,none⟩=some (.int .i64 b)∧w.cell? ⟨g+1,4,none⟩=some (.int .u64 v))∧g+1<w.heap.size
theorem TkS.keep {own:Nat→Prop}{w w':World}{g:Nat}{v1 v2 v3:Value}{k d a b v:Int}(h:TkS w g v1 v2 v3 k d a b v)(hk:Keep own w w')(h0:¬ own g)(h1:¬ own (g+1)):TkS w' g v1 v2 v3 k d a b v:=by
 obtain⟨⟨a0,a1,a2⟩,⟨b0,b1,b2,b3,b4⟩,hl⟩:=h
 exact⟨⟨hk.cs h0 a0,hk.cs h0 a1,hk.cs h0 a2⟩,⟨hk.cs h1 b0,hk.cs h1 b1,hk.cs h1 b2,hk.cs h1 b3,hk.cs h1 b4⟩,Nat.lt_of_lt_of_le hl hk.size⟩
theorem TkS.new (w:World)(v1 v2 v3:Value)(k d a b v:Int):TkS ((w.alloc (.cells #[v1,v2,v3] 281)).alloc (.cells #[.int .i64 k,.int .i64 d,.int .i64 a,.int .i64 b,.int .u64 v] 83)) w.heap.size v1 v2 v3 k d a b v:=by
 have h0:=heap_alloc_new w (.cells #[v1,v2,v3] 281)
 have h1:=heap_alloc_new (w.alloc (.cells #[v1,v2,v3] 281)) (.cells #[.int .i64 k,.int .i64 d,.int .i64 a,.int .i64 b,.int .u64 v] 83)
 have hs:(w.alloc (.cells #[v1,v2,v3] 281)).heap.size=w.heap.size+1:=by simp
 rw[hs] at h1
 have h2:((w.alloc (.cells #[v1,v2,v3] 281)).alloc (.cells #[.int .i64 k,.int .i64 d,.int .i64 a,.int .i64 b,.int .u64 v] 83)).heap[w.heap.size]?=some (.cells #[v1,v2,v3] 281):=by
  rw[← h0]
  exact Below.block ((KW.refl (w.alloc (.cells #[v1,v2,v3] 281))).alloc _) _ (by omega)
 unfold TkS World.cell?
 rw[h1,h2]
 exact⟨⟨rfl,rfl,rfl⟩,⟨rfl,rfl,rfl,rfl,rfl⟩,by simp⟩
theorem stake_any (gr ga gt N cr ca TL ct r:Nat)(R A T:List Int)(o:Fl.O)(w:World)(ho:Rok N o)
 (hR:RegM w (.slice (some ⟨gr,0,none⟩) N cr) R) (hA:RegM w (.slice (some ⟨ga,0,none⟩) N ca) A) (hT:RegM w (.slice (some ⟨gt,0,none⟩) TL ct) T) (hRl:R.length=N) (hAl:A.length=N) (hTl:T.length=TL) (hr:r<TL) (hTL:TL≤1048576) (hne:gr≠ga∧gr≠gt∧ga≠gt):
 Calls Tryz.prog 261 #[.agg #[.slice (some ⟨gr,0,none⟩) N cr,.slice (some ⟨ga,0,none⟩) N ca,.slice (some ⟨gt,0,none⟩) TL ct],.agg (ocl o),.int .i64 r] w fun e w'=>e=.returned (.tuple #[])∧RegM w' (.slice (some ⟨gr,0,none⟩) N cr) (Fl.bk1 (R,A) o (T.getD r 0)).1∧RegM w' (.slice (some ⟨ga,0,none⟩) N ca) (Fl.bk1 (R,A) o (T.getD r 0)).2∧Keep (fun b=>b=gr∨b=ga) w w':=by
 obtain⟨k1,d,a,bb,vv⟩:=o
 obtain⟨⟨hk1,hk2⟩,⟨hd0,hd1⟩,⟨ha0,ha1⟩,⟨hb0,hb1⟩⟩:=ho
 simp only at hk1 hk2 hd0 hd1 ha0 ha1 hb0 hb1
 obtain⟨dn,rfl⟩:∃ dn:Nat,d=dn:=⟨d.toNat,by omega⟩
 obtain⟨an,rfl⟩:∃ an:Nat,a=an:=⟨a.toNat,by omega⟩
 obtain⟨bn,rfl⟩:∃ bn:Nat,bb=bn:=⟨bb.toNat,by omega⟩
 have hdN:dn<N:=by omega
 have haN:an<N:=by omega
 have hbN:bn<N:=by omega
 have hgr:gr<w.heap.size:=hR.lt rfl
 have hga:ga<w.heap.size:=hA.lt rfl
 have hgt:gt<w.heap.size:=hT.lt rfl
 have hcr:N≤cr:=by obtain⟨_,_,hv,hc⟩:=hR.row;rw[hRl] at hv hc;cases hv;exact hc
 have hca:N≤ca:=by obtain⟨_,_,hv,hc⟩:=hA.row;rw[hAl] at hv hc;cases hv;exact hc
 have hct:TL≤ct:=by obtain⟨_,_,hv,hc⟩:=hT.row;rw[hTl] at hv hc;cases hv;exact hc
 have hTk:=TkS.new w (.slice (some ⟨gr,0,none⟩) N cr) (.slice (some ⟨ga,0,none⟩) N ca) (.slice (some ⟨gt,0,none⟩) TL ct) k1 (dn:Int) (an:Int) (bn:Int) vv
 have hk0:=((KW.refl w).alloc (.cells #[.slice (some ⟨gr,0,none⟩) N cr,.slice (some ⟨ga,0,none⟩) N ca,.slice (some ⟨gt,0,none⟩) TL ct] 281)).alloc (.cells #[.int .i64 k1,.int .i64 (dn:Int),.int .i64 (an:Int),.int .i64 (bn:Int),.int .u64 vv] 83)
 have HR:=hid (hR.kw hk0)
 have HA:=hid (hA.kw hk0)
 have HT:=hid (hT.kw hk0)
 have HK:=hid hk0
 have HTk:=hid hTk
 obtain⟨y,hy⟩:∃ y,A.getD dn 0=y:=⟨_,rfl⟩
 have HY:=hid hy
 obtain⟨_,cA,fA,hsA⟩:=HA.out.at_ (i:=dn) (by omega)
 rw[hy] at cA
 have HsA:=hid hsA
 unfold ocl
 clear hR hA hT hk0 hTk hsA hy
 go_enter Tryz.func261,Tryz.ntmps261
 generalize hW:(w.alloc (.cells #[.slice (some ⟨gr,0,none⟩) N cr,.slice (some ⟨ga,0,none⟩) N ca,.slice (some ⟨gt,0,none⟩) TL ct] 281)).alloc (.cells #[.int .i64 k1,.int .i64 (dn:Int),.int .i64 (an:Int),.int .i64 (bn:Int),.int .u64 vv] 83)=W0 at *
 obtain⟨⟨s0,s1,s2⟩,⟨b0,b1,b2,b3,b4⟩,sl⟩:=HTk.out
 have n1:w.heap.size≠ga:=by omega
 have n2:w.heap.size+1≠ga:=by omega
 have n3:ga≠w.heap.size:=by omega
 have n4:ga≠w.heap.size+1:=by omega
 go_wp2_with fail
 have hkg:Keep (· = ga) W0 (W0.setCell ⟨ga,dn,none⟩ (.int .u64 0)):=(Keep.refl _ W0).setCell _ _ rfl
 have HA1:=hid (HsA.out 0)
 have HR1:=hid (HR.out.keep hkg fun b hb h=>by have:gr=b:=Option.some.inj hb;omega)
 have HT1:=hid (HT.out.keep hkg fun b hb h=>by have:gt=b:=Option.some.inj hb;omega)
 have HTk1:=hid (HTk.out.keep hkg n1 n2)
 have HK1:=hid ((HK.out.keep (own:=fun b=>b=gr∨b=ga)).t (hkg.mono (own':=fun b=>b=gr∨b=ga) fun i _ h=>.inr h))
 clear hkg s0 s1 s2 b0 b1 b2 b3 b4 sl cA fA HTk HsA HA HR HT HK
 generalize W0.setCell ⟨ga,dn,none⟩ (.int .u64 0)=W1 at *
 obtain⟨⟨s0,s1,s2⟩,⟨b0,b1,b2,b3,b4⟩,sl⟩:=HTk1.out
 obtain⟨z,hz⟩:∃ z,T.getD r 0=z:=⟨_,rfl⟩
 have HZ:=hid hz
 obtain⟨_,cT,_,_⟩:=HT1.out.at_ (i:=r) (by omega)
 rw[hz] at cT
 obtain⟨_,cR,fR,hsR⟩:=HR1.out.at_ (i:=dn) (by omega)
 have HsR:=hid hsR
 clear hsR hz
 go_region
 have hkg0:Keep (· = gr) W1 (W1.setCell ⟨gr,dn,none⟩ (.int .u64 z)):=(Keep.refl _ W1).setCell _ _ rfl
 have hkg:=hkg0.drew
 clear hkg0
 have HR2:Hid (RegM (W1.setCell ⟨gr,dn,none⟩ (.int .u64 z)).drew (.slice (some ⟨gr,0,none⟩) N cr) (R.set dn z)):=hid ((HsR.out z).kw (KW.refl _).drew)
 have n5:w.heap.size≠gr:=by omega
 have n6:w.heap.size+1≠gr:=by omega
 have HA2:=hid (HA1.out.keep hkg fun b hb h=>by have:ga=b:=Option.some.inj hb;omega)
 have HTk2:=hid (HTk1.out.keep hkg n5 n6)
 have HK2:=hid (HK1.out.t (hkg.mono (own':=fun b=>b=gr∨b=ga) fun i _ h=>.inl h))
 clear hkg s0 s1 s2 b0 b1 b2 b3 b4 sl cT cR fR HTk1 HsR HA1 HR1 HT1 HK1
 generalize (W1.setCell ⟨gr,dn,none⟩ (.int .u64 z)).drew=W2 at *
 obtain⟨x2,hx2⟩:∃ x,(R.set dn z).getD an 0=x:=⟨_,rfl⟩
 obtain⟨y2,hy2⟩:∃ x,(R.set dn z).getD bn 0=x:=⟨_,rfl⟩
 have HX:=hid hx2
 have HY2:=hid hy2
 have hl2:(R.set dn z).length=N:=by rw[List.length_set];exact hRl
 have HP:=hid (fun W=>opart_any k1 dn an bn vv x2 y2 W)
 unfold opv at HP
 have HSA:Hid (∀ W,KW W2 W→W.cell? ⟨w.heap.size,0,none⟩=some (.slice (some ⟨gr,0,none⟩) N cr)∧W.cell? ⟨w.heap.size+1,0,none⟩=some (.int .i64 k1)∧W.cell? ⟨w.heap.size+1,1,none⟩=some (.int .i64 (dn:Int))∧W.cell? ⟨w.heap.size+1,2,none⟩=some (.int .i64 (an:Int))∧W.cell? ⟨w.heap.size+1,3,none⟩=some (.int .i64 (bn:Int))∧W.cell? ⟨w.heap.size+1,4,none⟩=some (.int .u64 vv)∧W.cell? ⟨gr,an,none⟩=some (.int .u64 x2)∧W.cell? ⟨gr,bn,none⟩=some (.int .u64 y2)):=hid fun W hW=>by
  obtain⟨⟨s0,s1,s2⟩,⟨b0,b1,b2,b3,b4⟩,sl⟩:=HTk2.out.keep (hW.keep (own:=fun _=>False)) id id
  have c1:=((HR2.out.kw hW).at_ (i:=an) (by omega)).2.1
  have c2:=((HR2.out.kw hW).at_ (i:=bn) (by omega)).2.1
  rw[hx2] at c1
  rw[hy2] at c2
  exact⟨s0,b0,b1,b2,b3,b4,c1,c2⟩
 clear hx2 hy2 hl2
 go_wp2_with fail
 have hXS:=HSA.out W2.drew (KW.refl W2).drew
 refine wpX_region (S:=fun W=>W.cell? ⟨w.heap.size,0,none⟩=some (.slice (some ⟨gr,0,none⟩) N cr)∧W.cell? ⟨w.heap.size+1,0,none⟩=some (.int .i64 k1)∧W.cell? ⟨w.heap.size+1,1,none⟩=some (.int .i64 (dn:Int))∧W.cell? ⟨w.heap.size+1,2,none⟩=some (.int .i64 (an:Int))∧W.cell? ⟨w.heap.size+1,3,none⟩=some (.int .i64 (bn:Int))∧W.cell? ⟨w.heap.size+1,4,none⟩=some (.int .u64 vv)∧W.cell? ⟨gr,an,none⟩=some (.int .u64 x2)∧W.cell? ⟨gr,bn,none⟩=some (.int .u64 y2)) (L:=99) (by kernel_rfl) ?_
 refine tk 0 ?_ (fun _ _=>?_) hXS ?_;rotate_left;· go_simp;try rfl
 simp only[lsz,lss]
 refine tk 1 ?_ (fun _ _=>?_) hXS ?_;rotate_left;· go_simp;try rfl
 simp only[lsz,lss]
 refine tk 2 ?_ (fun _ _=>?_) hXS ?_;rotate_left;· go_simp;try rfl
 simp only[lsz,lss]
 refine tk 3 ?_ (fun _ _=>?_) hXS ?_;rotate_left;· go_simp;try rfl
 simp only[lsz,lss]
 refine tk 4 ?_ (fun _ _=>?_) hXS ?_;rotate_left;· go_simp;try rfl
 simp only[lsz,lss]
 refine tk 5 ?_ (fun _ _=>?_) hXS ?_;rotate_left;· go_simp;try rfl
 simp only[lsz,lss]
 refine tk 6 ?_ (fun _ _=>?_) hXS ?_;rotate_left;· go_simp;try rfl
 simp only[lsz,lss]
 refine tk 7 ?_ (fun _ _=>?_) hXS ?_;rotate_left;· go_simp;try rfl
 simp only[lsz,lss]
 refine tk 8 ?_ (fun _ _=>?_) hXS ?_;rotate_left;· go_simp;try rfl
 simp only[lsz,lss]
 refine tk 9 ?_ (fun _ _=>?_) hXS ?_;rotate_left;· go_simp;try rfl
 simp only[lsz,lss]
 refine tk 10 ?_ (fun _ _=>?_) hXS ?_;rotate_left;· go_simp;try rfl
 simp only[lsz,lss]
 refine tk 11 ?_ (fun _ _=>?_) hXS ?_;rotate_left;· go_simp;try rfl
 simp only[lsz,lss]
 refine tk 12 ?_ (fun _ _=>?_) hXS ?_;rotate_left;· go_simp;try rfl
 simp only[lsz,lss]
 refine wpX_hard (k:=13) (by kernel_rfl) rfl (fun K hK=>?_)
 go_simp
 refine(HP.out _).mono ?_
 rintro e w5 ⟨rfl,hk5'⟩
 have hk5:KW W2 w5:=(KW.refl _).drew.t hk5'
 have hXS:=HSA.out w5 hk5
 have HR5:=hid (HR2.out.kw hk5)
 have HA5:=hid (HA2.out.kw hk5)
 have HTk5:=hid (HTk2.out.keep (hk5.keep (own:=fun _=>False)) id id)
 have HK5:=hid (HK2.out.kwt hk5)
 refine hK _ _ (fun _=>hXS) ?_
 clear hK K hk5 hk5'
 try simp only[lsz,lss]
 refine tk 14 ?_ (fun _ _=>?_) hXS ?_;rotate_left;· go_simp;try rfl
 simp only[lsz,lss]
 refine tk 15 ?_ (fun _ _=>?_) hXS ?_;rotate_left;· go_simp;try rfl
 simp only[lsz,lss]
 refine tk 16 ?_ (fun _ _=>?_) hXS ?_;rotate_left;· go_simp;try rfl
 simp only[lsz,lss]
 refine tk 17 ?_ (fun _ _=>?_) hXS ?_;rotate_left;· go_simp;try rfl
 simp only[lsz,lss]
 refine tk 18 ?_ (fun _ _=>?_) hXS ?_;rotate_left;· go_simp;try rfl
 simp only[lsz,lss]
 refine wpX_done (by kernel_rfl) ?_
 clear hXS HSA HP HR2 HA2 HTk2 HK2
 obtain⟨⟨s0,s1,s2⟩,⟨b0,b1,b2,b3,b4⟩,sl⟩:=HTk5.out
 have hA1l:(A.set dn 0).length=N:=by rw[List.length_set];exact hAl
 obtain⟨p1,hp1⟩:∃ p,Oc.pda k1 x2 y2=p:=⟨_,rfl⟩
 obtain⟨p2,hp2⟩:∃ p,Oc.pdb k1 x2 y2=p:=⟨_,rfl⟩
 rw[hp1,hp2]
 obtain⟨u5,hu5⟩:∃ x,(A.set dn 0).getD an 0=x:=⟨_,rfl⟩
 obtain⟨_,cA,fA,hsA⟩:=HA5.out.at_ (i:=an) (by omega)
 rw[hu5] at cA
 have HA6:=hid (hsA (IntKind.u64.wrap (u5+IntKind.u64.wrap (p1 * y))))
 obtain⟨u6,hu6⟩:∃ x,((A.set dn 0).set an (IntKind.u64.wrap (u5+IntKind.u64.wrap (p1 * y)))).getD bn 0=x:=⟨_,rfl⟩
 obtain⟨_,cB,fB,hsB⟩:=HA6.out.at_ (i:=bn) (by rw[List.length_set];omega)
 rw[hu6] at cB
 have HA7:=hid (hsB (IntKind.u64.wrap (u6+IntKind.u64.wrap (p2 * y))))
 have HR7:=hid ((HR5.out.keep (own:=(· = ga)) ((Keep.refl _ w5).setCell ⟨ga,an,none⟩ (.int .u64 (IntKind.u64.wrap (u5+IntKind.u64.wrap (p1 * y)))) rfl) (fun b hb h=>by have:gr=b:=Option.some.inj hb;omega)).keep (own:=(· = ga)) ((Keep.refl _ _).setCell ⟨ga,bn,none⟩ (.int .u64 (IntKind.u64.wrap (u6+IntKind.u64.wrap (p2 * y)))) rfl) (fun b hb h=>by have:gr=b:=Option.some.inj hb;omega))
 have HK7:=hid ((HK5.out.setCell ⟨ga,an,none⟩ (.int .u64 (IntKind.u64.wrap (u5+IntKind.u64.wrap (p1 * y)))) (.inr rfl)).setCell ⟨ga,bn,none⟩ (.int .u64 (IntKind.u64.wrap (u6+IntKind.u64.wrap (p2 * y)))) (.inr rfl))
 have HP1:=hid hp1
 have HP2:=hid hp2
 have HU5:=hid hu5
 have HU6:=hid hu6
 clear hp1 hp2 hu5 hu6 hsA hsB HA5 HA6 HR5 HK5 HTk5
 go_wp2_with fail
 refine bodyPost_end (results_none rfl _ _ _) rfl ?_
 clear s0 s1 s2 b0 b1 b2 b3 b4 sl cA fA cB fB
 have e1:=HU6.out
 have e2:=HU5.out
 have e3:=HP1.out
 have e4:=HP2.out
 have e5:=HX.out
 have e6:=HY2.out
 have e7:=HZ.out
 have e8:=HY.out
 have hR7:=HR7.out
 have hA7:=HA7.out
 have hK7:=HK7.out
 clear HU6 HU5 HP1 HP2 HX HY2 HZ HY HR7 HA7 HK7
 refine⟨rfl,?_,?_,hK7⟩
 ·rw[← e7] at hR7
  exact hR7
 ·subst e1 e2 e3 e4 e5 e6 e7 e8
  exact hA7
theorem Fl.Back.le {c:List Fl.I}{p:Nat}{stk:List Nat}{us:List Fl.O}{n:Nat}(h:Fl.Back c p stk us n):p≤c.length:=by
 cases h with
 | halt=>exact Nat.zero_le _
 | op h _ _=>exact(List.getElem?_eq_some_iff.1 h).1
 | end_ h _ _ _ _ _ _=>exact(List.getElem?_eq_some_iff.1 h).1
 | again h _ _ _=>exact(List.getElem?_eq_some_iff.1 h).1
 | out h _ _=>exact(List.getElem?_eq_some_iff.1 h).1
structure BkM (w:World)(gr ga gt N cr ca TL ct:Nat)(R A T:List Int):Prop where
 r:RegM w (.slice (some ⟨gr,0,none⟩) N cr) R
 a:RegM w (.slice (some ⟨ga,0,none⟩) N ca) A
 t:RegM w (.slice (some ⟨gt,0,none⟩) TL ct) T
 rl:R.length=N
 al:A.length=N
 tl:T.length=TL
theorem BkM.keep {own:Nat→Prop}{w w':World}{gr ga gt N cr ca TL ct:Nat}{R A T:List Int}(h:BkM w gr ga gt N cr ca TL ct R A T)(hk:Keep own w w')(h1:¬ own gr)(h2:¬ own ga)(h3:¬ own gt):BkM w' gr ga gt N cr ca TL ct R A T:=
 ⟨h.r.keep hk fun b hb ho=>h1 (by have:gr=b:=Option.some.inj hb;rw[this];exact ho),h.a.keep hk fun b hb ho=>h2 (by have:ga=b:=Option.some.inj hb;rw[this];exact ho),h.t.keep hk fun b hb ho=>h3 (by have:gt=b:=Option.some.inj hb;rw[this];exact ho),h.rl,h.al,h.tl⟩
theorem BkM.kw {w w':World}{gr ga gt N cr ca TL ct:Nat}{R A T:List Int}(h:BkM w gr ga gt N cr ca TL ct R A T)(hk:KW w w'):BkM w' gr ga gt N cr ca TL ct R A T:=h.keep (hk.keep (own:=fun _=>False)) id id id
theorem Fl.bk1_len (R A:List Int)(o:Fl.O)(t:Int):(Fl.bk1 (R,A) o t).1.length=R.length∧(Fl.bk1 (R,A) o t).2.length=A.length:=by simp[Fl.bk1]
theorem swback_any (Ac:Option Addr)(cc gr ga gt N cr ca TL ct:Nat)(C:List Fl.I)(u:List Fl.O)(R0 A0 T:List Int)(w:World)(hC:CodeM w Ac C)(hCo:0<C.length→∀ b,Ac=some ⟨b,0,none⟩→b≠gr∧b≠ga)
 (hB:BkM w gr ga gt N cr ca TL ct R0 A0 T) (hcd:∃ d,Fl.Cd 0 C u d∧d≤8) (hul:u.length≤TL) (hTL:TL≤1048576) (hok:∀ o∈u,Rok N o) (hvs:∀ i∈C,0≤i.o.v∧i.o.v<18446744073709551616) (hsm:C.length≤4096) (hne:gr≠ga∧gr≠gt∧ga≠gt):
 Calls Tryz.prog 247 #[.agg #[.slice (some ⟨gr,0,none⟩) N cr,.slice (some ⟨ga,0,none⟩) N ca,.slice (some ⟨gt,0,none⟩) TL ct],.slice Ac C.length cc,.int .i64 u.length] w fun e w'=>e=.returned (.tuple #[])∧BkM w' gr ga gt N cr ca TL ct (Fl.bks T (R0,A0) u.reverse).1 (Fl.bks T (R0,A0) u.reverse).2 T∧Keep (fun b=>b=gr∨b=ga) w w':=by
 obtain⟨dd,hcd,hd8⟩:=hcd
 obtain⟨n0,hrun⟩:=hcd.wholeB hd8
 have HRun:=hid hrun
 have hgr:gr<w.heap.size:=hB.r.lt rfl
 have hga:ga<w.heap.size:=hB.a.lt rfl
 have hgt:gt<w.heap.size:=hB.t.lt rfl
 obtain⟨gb,hgb⟩:∃ gb,gb=w.heap.size:=⟨_,rfl⟩
 obtain⟨gl,hgl⟩:∃ gl,gl=w.heap.size+1:=⟨_,rfl⟩
 obtain⟨va,hva⟩:∃ va,va=Value.slice (some ⟨gr,0,none⟩) N cr:=⟨_,rfl⟩
 obtain⟨vb,hvb⟩:∃ va,va=Value.slice (some ⟨ga,0,none⟩) N ca:=⟨_,rfl⟩
 obtain⟨vc,hvc⟩:∃ va,va=Value.slice (some ⟨gt,0,none⟩) TL ct:=⟨_,rfl⟩
 have hLf:=LeftM.new (w.alloc (.cells #[va,vb,vc] 281))
 rw[show(w.alloc (.cells #[va,vb,vc] 281)).heap.size=gl by simp;omega] at hLf
 have hk0:=((KW.refl w).alloc (.cells #[va,vb,vc] 281)).alloc (.cells #[.int .u64 0,.int .u64 0,.int .u64 0,.int .u64 0,.int .u64 0,.int .u64 0,.int .u64 0,.int .u64 0] 276)
 have hgb0:((w.alloc (.cells #[va,vb,vc] 281)).alloc (.cells #[.int .u64 0,.int .u64 0,.int .u64 0,.int .u64 0,.int .u64 0,.int .u64 0,.int .u64 0,.int .u64 0] 276)).heap[gb]?=some (.cells #[va,vb,vc] 281):=by
  rw[hgb,← heap_alloc_new w (.cells #[va,vb,vc] 281)]
  exact Below.block ((KW.refl (w.alloc (.cells #[va,vb,vc] 281))).alloc _) _ (by simp)
 subst hva hvb hvc
 have HLf:=hid hLf
 have HK0:=hid hk0
 have HC0:=hid (hC.kw hk0)
 have HB0:=hid (hB.kw hk0)
 have HCo:Hid (0<C.length→∀ b,Ac=some ⟨b,0,none⟩→¬ (fun b=>b=gl∨b=gr∨b=ga) b):=hid fun h0 b hb h=>by
  obtain⟨b2,hb2,hb3,_⟩:=hC h0
  rw[hb2] at hb
  cases hb
  have:=hCo h0 b hb2
  rcases h with h|h|h
  ·omega
  ·exact this.1 h
  ·exact this.2 h
 have HUl:=hid hul
 have HOk:Hid (∀ o∈u.reverse,Rok N o):=hid fun o ho=>hok o (List.mem_reverse.1 ho)
 have HVs:=hid hvs
 have HSm:=hid hsm
 have HNe:=hid hne
 have HGb:=hid hgb
 have HGl:=hid hgl
 have hgl1:gb<gl:=by omega
 have hgrl:gr<gb:=by omega
 have hgal:ga<gb:=by omega
 have hgtl:gt<gb:=by omega
 clear hC hCo hB hcd hul hok hvs hsm hrun hk0 hLf hgr hga hgt hgb hgl hne
 generalize hRF:Fl.bks T (R0,A0) u.reverse=RF at *
 have HRF:=hid hRF
 clear hRF
 generalize hM:C.length=M at *
 have HM:=hid hM
 clear hM
 generalize hUL:u.length=UL at *
 have HUL:Hid (UL=u.reverse.length):=hid (by rw[List.length_reverse,hUL])
 clear hUL
 generalize u.reverse=v at *
 go_enter Tryz.func247,Tryz.ntmps247
 go_wp2_with fail
 obtain⟨W0,hW0⟩:∃ W0,W0=(w.alloc (.cells #[.slice (some ⟨gr,0,none⟩) N cr,.slice (some ⟨ga,0,none⟩) N ca,.slice (some ⟨gt,0,none⟩) TL ct] 281)).alloc (.cells #[.int .u64 0,.int .u64 0,.int .u64 0,.int .u64 0,.int .u64 0,.int .u64 0,.int .u64 0,.int .u64 0] 276):=⟨_,rfl⟩
 have HW0:=hid hW0
 rw[← hW0] at HLf HK0 HC0 HB0 hgb0
 clear hW0
 have HC:=HC0
 have HGB0:Hid ((W0.cell? ⟨gb,0,none⟩=some (.slice (some ⟨gr,0,none⟩) N cr)∧W0.cell? ⟨gb,1,none⟩=some (.slice (some ⟨ga,0,none⟩) N ca)∧W0.cell? ⟨gb,2,none⟩=some (.slice (some ⟨gt,0,none⟩) TL ct))):=hid (by
  unfold World.cell?
  rw[hgb0]
  exact⟨rfl,rfl,rfl⟩)
 clear hgb0
 refine wp_scope_goto 0 (fun n a' wr=>∃ (u9 u10 u11 u12 u13 u14 u15 u16 u17 u18 u19 u20 u21 u22 u23 u24 u25 u26 u27 u28 u29 u30 u31 u32 u33 u34 u35 u36 u37 u38 u39 u40 u41 u42 u43 u44 u45 u46 u47 u48 u49 u50 u51 u52 u53 u54 u55 u56 u57 u58 u59 u60 u61 u62:Value) (p k:Nat) (stk:List Nat) (us:List Fl.O) (R A:List Int),a' = { tmps:=#[.agg #[.slice (some ⟨gr,0,none⟩) N cr,.slice (some ⟨ga,0,none⟩) N ca,.slice (some ⟨gt,0,none⟩) TL ct],.slice Ac M cc,.int .i64 (k:Int),.pointer (some ⟨gb,0,none⟩),undef,undef,.pointer (some ⟨gl,0,none⟩),.int .i64 ((p:Int) - 1),.int .i64 (stk.length:Int),u9,u10,u11,u12,u13,u14,u15,u16,u17,u18,u19,u20,u21,u22,u23,u24,u25,u26,u27,u28,u29,u30,u31,u32,u33,u34,u35,u36,u37,u38,u39,u40,u41,u42,u43,u44,u45,u46,u47,u48,u49,u50,u51,u52,u53,u54,u55,u56,u57,u58,u59,u60,u61,u62],defers:=[] }∧Hid (Fl.Back C p stk us n)∧Hid (LeftM wr gl stk)∧Hid (BkM wr gr ga gt N cr ca TL ct R A T)∧Hid (Fl.bks T (R,A) us=RF)∧Hid (k=us.length)∧Hid (k≤TL)∧Hid (stk.length≤8)∧Hid (∀ m∈stk,m<18446744073709551616)∧Hid (∀ o∈us,Rok N o)∧Hid (Keep (fun b=>b=gl∨b=gr∨b=ga) W0 wr)) rfl ?_ ?_
 ·rintro n a' wr ⟨u9,u10,u11,u12,u13,u14,u15,u16,u17,u18,u19,u20,u21,u22,u23,u24,u25,u26,u27,u28,u29,u30,u31,u32,u33,u34,u35,u36,u37,u38,u39,u40,u41,u42,u43,u44,u45,u46,u47,u48,u49,u50,u51,u52,u53,u54,u55,u56,u57,u58,u59,u60,u61,u62,p,k,stk,us,R,A,rfl,HRun,HL,HB,HS,HKk,HKt,HDp,HSt,HOk,HK⟩
  have hr:=HRun.out
  have hglr:gl<wr.heap.size:=HL.out.lt
  cases hr with
  | halt=>
    have HE:Hid ((R,A)=RF):=HS
    have HKx:=hid (HK0.out.keep.t HK.out)
    go_wp2_with fail
    simp only[Exit.jump]
    refine bodyPost_ret (results_none rfl _ _ _) rfl ?_
    refine⟨rfl,by rw[← HE.out];exact HB.out,HKx.out.mono fun i hi ho=>?_⟩
    have h1:=HGl.out
    rcases ho with ho|ho
    ·omega
    ·exact ho
  | @end_ p _ i j _ n' m q h hk ht hj hv hd r=>
    have hpl:p<C.length:=(List.getElem?_eq_some_iff.1 h).1
    have hvs:=HVs.out i (List.mem_of_getElem? h)
    have HCm:=HC.out.keep HK.out (by rw[HM.out];exact HCo.out)
    obtain⟨bc,hAc,hbc,c0,c1,c2,c3,c4,c5⟩:=HCm.at_ hpl
    have hAc2:=hAc
    subst hAc
    rw[getD_get h] at c0 c1 c2 c3 c4 c5
    obtain⟨⟨k1,d,a,bb,vv⟩,t⟩:=i
    try simp only at c0 c1 c2 c3 c4 c5 hvs
    have HRes:=hid r
    have hpM:p<M:=by rw[← HM.out];exact hpl
    have hp4:p≤1099511627776:=by have:=HSm.out;omega
    have hM4:M≤4096:=HSm.out
    have hat:((p+1:Nat):Int) - 1=(p:Int):=by omega
    rw[hat]
    clear hat
    have ht':t=(q:Int)+1:=ht
    subst ht'
    have hk':k1=0:=hk
    subst hk'
    have hjv:=HVs.out j (List.mem_of_getElem? hj)
    have hql:q<C.length:=(List.getElem?_eq_some_iff.1 hj).1
    obtain⟨bc',hAc',_,_,_,_,_,cq,_⟩:=HCm.at_ hql
    cases hAc'
    rw[getD_get hj,hv] at cq
    rw[hv] at hjv
    have hqM:q<M:=by rw[← HM.out];exact hql
    have hkA:=(KW.refl wr).alloc (.cells #[.int .i64 0,.int .i64 d,.int .i64 a,.int .i64 bb,.int .u64 vv,.int .i64 ((q:Int)+1)] 278)
    have cqA:=(Below.cell hkA hbc).trans cq
    have hbcA:bc<(wr.alloc (.cells #[.int .i64 0,.int .i64 d,.int .i64 a,.int .i64 bb,.int .u64 vv,.int .i64 ((q:Int)+1)] 278)).heap.size:=by simp;omega
    have hdA:stk.length<8:=hd
    have hLA:=HL.out.kw hkA
    obtain⟨f0,⟨x0,d0⟩,_⟩:=hLA.push hd m
    have HL2:=hid (((HL.out.push hd m).2.2).kw ((KW.refl _).alloc (.cells #[.int .i64 0,.int .i64 d,.int .i64 a,.int .i64 bb,.int .u64 vv,.int .i64 ((q:Int)+1)] 278)))
    have HB2:=hid ((HB.out.keep (own:=(· = gl)) ((Keep.refl _ wr).setCell ⟨gl,stk.length,none⟩ (.int .u64 (m:Nat)) rfl) (by omega) (by omega) (by omega)).kw ((KW.refl _).alloc (.cells #[.int .i64 0,.int .i64 d,.int .i64 a,.int .i64 bb,.int .u64 vv,.int .i64 ((q:Int)+1)] 278)))
    have hkg:Keep (fun b=>b=gl∨b=gr∨b=ga) wr (wr.setCell ⟨gl,stk.length,none⟩ (.int .u64 (m:Nat))):=(Keep.refl _ wr).setCell _ _ (.inl rfl)
    have HK2:=hid ((HK.out.t hkg).alloc (.cells #[.int .i64 0,.int .i64 d,.int .i64 a,.int .i64 bb,.int .u64 vv,.int .i64 ((q:Int)+1)] 278))
    have HDp2:Hid ((m::stk).length≤8):=hid (by simp;omega)
    have HSt2:Hid (∀ x∈m::stk,x<18446744073709551616):=hid fun x hx=>by
     rcases List.mem_cons.1 hx with rfl|hx
     ·omega
     ·exact HSt.out x hx
    clear hLA hkg hkA h hj hv r ht hk HCm
    go_wp2_with fail
    (try go_step3)
    refine⟨rfl,n',Nat.lt_succ_self _,?_⟩
    exact⟨_,_,_,_,_,_,_,_,_,_,_,_,_,_,_,_,_,_,_,_,_,_,_,_,_,_,_,_,_,_,_,_,_,_,_,_,_,_,_,_,_,_,_,_,_,_,_,_,_,_,_,_,_,_,p,k,m::stk,us,R,A,rfl,HRes,HL2,HB2,HS,HKk,HKt,HDp2,HSt2,HOk,HK2⟩
  | @again p stk i _ n' m t0 h hk ht r=>
    have hpl:p<C.length:=(List.getElem?_eq_some_iff.1 h).1
    have hvs:=HVs.out i (List.mem_of_getElem? h)
    have HCm:=HC.out.keep HK.out (by rw[HM.out];exact HCo.out)
    obtain⟨bc,hAc,hbc,c0,c1,c2,c3,c4,c5⟩:=HCm.at_ hpl
    have hAc2:=hAc
    subst hAc
    rw[getD_get h] at c0 c1 c2 c3 c4 c5
    obtain⟨⟨k1,d,a,bb,vv⟩,t⟩:=i
    try simp only at c0 c1 c2 c3 c4 c5 hvs
    have HRes:=hid r
    have hpM:p<M:=by rw[← HM.out];exact hpl
    have hp4:p≤1099511627776:=by have:=HSm.out;omega
    have hM4:M≤4096:=HSm.out
    have hat:((p+1:Nat):Int) - 1=(p:Int):=by omega
    rw[hat]
    clear hat
    have ht':t=(t0:Int)+1:=ht
    subst ht'
    have hk':k1=7:=hk
    subst hk'
    have ht0:t0≤M:=by rw[← HM.out];exact r.le
    have hkA:=(KW.refl wr).alloc (.cells #[.int .i64 7,.int .i64 d,.int .i64 a,.int .i64 bb,.int .u64 vv,.int .i64 ((t0:Int)+1)] 278)
    have hdA:stk.length<8:=by have:=HDp.out;simp at this;omega
    obtain⟨f0,d0,hset,hpop⟩:=HL.out.top hdA
    have hset1:=hset (m+1)
    have hLA:=hset1.kw ((KW.refl _).alloc (.cells #[.int .i64 7,.int .i64 d,.int .i64 a,.int .i64 bb,.int .u64 vv,.int .i64 ((t0:Int)+1)] 278))
    have hglA:gl<(wr.alloc (.cells #[.int .i64 7,.int .i64 d,.int .i64 a,.int .i64 bb,.int .u64 vv,.int .i64 ((t0:Int)+1)] 278)).heap.size:=by simp;omega
    have d0A:=(Below.cell hkA hglr).trans d0
    have f0A:(wr.alloc (.cells #[.int .i64 7,.int .i64 d,.int .i64 a,.int .i64 bb,.int .u64 vv,.int .i64 ((t0:Int)+1)] 278)).frozen? ⟨gl,stk.length,none⟩=false:=(World.frozen?_of_block (w:=wr) (Below.block hkA gl hglr)).trans f0
    have HB2:=hid ((HB.out.keep (own:=(· = gl)) ((Keep.refl _ wr).setCell ⟨gl,stk.length,none⟩ (.int .u64 (m+1:Nat)) rfl) (by omega) (by omega) (by omega)).kw ((KW.refl _).alloc (.cells #[.int .i64 7,.int .i64 d,.int .i64 a,.int .i64 bb,.int .u64 vv,.int .i64 ((t0:Int)+1)] 278)))
    have hkg:Keep (fun b=>b=gl∨b=gr∨b=ga) wr (wr.setCell ⟨gl,stk.length,none⟩ (.int .u64 (m+1:Nat))):=(Keep.refl _ wr).setCell _ _ (.inl rfl)
    have HK2:=hid ((HK.out.t hkg).alloc (.cells #[.int .i64 7,.int .i64 d,.int .i64 a,.int .i64 bb,.int .u64 vv,.int .i64 ((t0:Int)+1)] 278))
    have hm64:m+2<18446744073709551616:=HSt.out _ (by simp)
    have HL2:=hid hLA
    have d1:(wr.setCell ⟨gl,stk.length,none⟩ (.int .u64 ((m+1:Nat):Int))).cell? ⟨gl,stk.length,none⟩=some (.int .u64 ((m+1:Nat):Int)):=(hset1.top hdA).2.1
    have hm1:((m+1:Nat):Int)=(m:Int)+2 - 1:=by omega
    rw[hm1] at HL2 HB2 HK2 d1
    have hpos:(0:Int)<(m:Int)+2 - 1:=by omega
    have hts:(t0:Int)+1 - 2=(t0:Int) - 1:=by omega
    have HDp2:Hid (((m+1)::stk).length≤8):=hid (by simp;omega)
    have HSt2:Hid (∀ x∈(m+1)::stk,x<18446744073709551616):=hid fun x hx=>by
     rcases List.mem_cons.1 hx with rfl|hx
     ·omega
     ·exact HSt.out x (List.mem_cons_of_mem _ hx)
    clear hLA hkg hkA h r ht hset hset1 hpop d0 f0 hm1 hk HCm
    simp only[List.length_cons] at *
    go_wp2_with fail
    (try go_step3)
    (try rw[hts])
    refine⟨rfl,n',Nat.lt_succ_self _,?_⟩
    exact⟨_,_,_,_,_,_,_,_,_,_,_,_,_,_,_,_,_,_,_,_,_,_,_,_,_,_,_,_,_,_,_,_,_,_,_,_,_,_,_,_,_,_,_,_,_,_,_,_,_,_,_,_,_,_,t0,k,(m+1)::stk,us,R,A,rfl,HRes,HL2,HB2,HS,HKk,HKt,HDp2,HSt2,HOk,HK2⟩
  | @out p stk i _ n' h hk r=>
    have hpl:p<C.length:=(List.getElem?_eq_some_iff.1 h).1
    have hvs:=HVs.out i (List.mem_of_getElem? h)
    have HCm:=HC.out.keep HK.out (by rw[HM.out];exact HCo.out)
    obtain⟨bc,hAc,hbc,c0,c1,c2,c3,c4,c5⟩:=HCm.at_ hpl
    have hAc2:=hAc
    subst hAc
    rw[getD_get h] at c0 c1 c2 c3 c4 c5
    obtain⟨⟨k1,d,a,bb,vv⟩,t⟩:=i
    try simp only at c0 c1 c2 c3 c4 c5 hvs
    have HRes:=hid r
    have hpM:p<M:=by rw[← HM.out];exact hpl
    have hp4:p≤1099511627776:=by have:=HSm.out;omega
    have hM4:M≤4096:=HSm.out
    have hat:((p+1:Nat):Int) - 1=(p:Int):=by omega
    rw[hat]
    clear hat
    have hk':k1=7:=hk
    subst hk'
    have hkA:=(KW.refl wr).alloc (.cells #[.int .i64 7,.int .i64 d,.int .i64 a,.int .i64 bb,.int .u64 vv,.int .i64 t] 278)
    have hdA:stk.length<8:=by have:=HDp.out;simp at this;omega
    obtain⟨f0,d0,hset,hpop⟩:=HL.out.top hdA
    have hset1:=hset (0)
    have hLA:=hset1.kw ((KW.refl _).alloc (.cells #[.int .i64 7,.int .i64 d,.int .i64 a,.int .i64 bb,.int .u64 vv,.int .i64 t] 278))
    have hglA:gl<(wr.alloc (.cells #[.int .i64 7,.int .i64 d,.int .i64 a,.int .i64 bb,.int .u64 vv,.int .i64 t] 278)).heap.size:=by simp;omega
    have d0A:=(Below.cell hkA hglr).trans d0
    have f0A:(wr.alloc (.cells #[.int .i64 7,.int .i64 d,.int .i64 a,.int .i64 bb,.int .u64 vv,.int .i64 t] 278)).frozen? ⟨gl,stk.length,none⟩=false:=(World.frozen?_of_block (w:=wr) (Below.block hkA gl hglr)).trans f0
    have HB2:=hid ((HB.out.keep (own:=(· = gl)) ((Keep.refl _ wr).setCell ⟨gl,stk.length,none⟩ (.int .u64 (0:Nat)) rfl) (by omega) (by omega) (by omega)).kw ((KW.refl _).alloc (.cells #[.int .i64 7,.int .i64 d,.int .i64 a,.int .i64 bb,.int .u64 vv,.int .i64 t] 278)))
    have hkg:Keep (fun b=>b=gl∨b=gr∨b=ga) wr (wr.setCell ⟨gl,stk.length,none⟩ (.int .u64 (0:Nat))):=(Keep.refl _ wr).setCell _ _ (.inl rfl)
    have HK2:=hid ((HK.out.t hkg).alloc (.cells #[.int .i64 7,.int .i64 d,.int .i64 a,.int .i64 bb,.int .u64 vv,.int .i64 t] 278))
    have hm64:1<18446744073709551616:=HSt.out _ (by simp)
    have HL2:=hid (((hset 0).top hdA).2.2.2.kw ((KW.refl _).alloc (.cells #[.int .i64 7,.int .i64 d,.int .i64 a,.int .i64 bb,.int .u64 vv,.int .i64 t] 278)))
    have d1:(wr.setCell ⟨gl,stk.length,none⟩ (.int .u64 0)).cell? ⟨gl,stk.length,none⟩=some (.int .u64 0):=(hset1.top hdA).2.1
    have HDp2:Hid (stk.length≤8):=hid (by omega)
    have HSt2:Hid (∀ x∈stk,x<18446744073709551616):=hid fun x hx=>HSt.out x (List.mem_cons_of_mem _ hx)
    clear hLA hkg hkA h r hset hset1 hpop d0 f0 hk HCm
    simp only[List.length_cons] at *
    go_wp2_with fail
    (try go_step3)
    refine⟨rfl,n',Nat.lt_succ_self _,?_⟩
    exact⟨_,_,_,_,_,_,_,_,_,_,_,_,_,_,_,_,_,_,_,_,_,_,_,_,_,_,_,_,_,_,_,_,_,_,_,_,_,_,_,_,_,_,_,_,_,_,_,_,_,_,_,_,_,_,p,k,stk,us,R,A,rfl,HRes,HL2,HB2,HS,HKk,HKt,HDp2,HSt2,HOk,HK2⟩
  | @op p _ i us n' h hw r=>
    have hpl:p<C.length:=(List.getElem?_eq_some_iff.1 h).1
    have hvs:=HVs.out i (List.mem_of_getElem? h)
    have HCm:=HC.out.keep HK.out (by rw[HM.out];exact HCo.out)
    obtain⟨bc,hAc,hbc,c0,c1,c2,c3,c4,c5⟩:=HCm.at_ hpl
    have hAc2:=hAc
    subst hAc
    rw[getD_get h] at c0 c1 c2 c3 c4 c5
    obtain⟨⟨k1,d,a,bb,vv⟩,t⟩:=i
    try simp only at c0 c1 c2 c3 c4 c5 hvs
    have HRes:=hid r
    have hpM:p<M:=by rw[← HM.out];exact hpl
    have hp4:p≤1099511627776:=by have:=HSm.out;omega
    have hM4:M≤4096:=HSm.out
    have hat:((p+1:Nat):Int) - 1=(p:Int):=by omega
    rw[hat]
    clear hat
    have hrok:=HOk.out _ (List.mem_cons_self ..)
    have hrk:1≤k1∧k1≤6:=hrok.1
    have e7:(k1==7)=false:=beq_eq_false_iff_ne.2 (by omega)
    have e0:(k1==0)=false:=beq_eq_false_iff_ne.2 (by omega)
    obtain⟨ku,hku⟩:∃ ku,us.length=ku:=⟨_,rfl⟩
    have hk1:k=ku+1:=by have:=HKk.out;simp at this;omega
    have hkt:=HKt.out
    have hkm:(k:Int) - 1=(ku:Int):=by omega
    have hkA:=(KW.refl wr).alloc (.cells #[.int .i64 k1,.int .i64 d,.int .i64 a,.int .i64 bb,.int .u64 vv,.int .i64 t] 278)
    obtain⟨g0,g1,g2⟩:=HGB0.out
    have hgbr:gb<wr.heap.size:=by omega
    have nb:¬ (fun b=>b=gl∨b=gr∨b=ga) gb:=fun h=>by rcases h with h|h|h<;>omega
    have s0:=(Below.cell hkA hgbr).trans (HK.out.cs nb g0)
    have s1:=(Below.cell hkA hgbr).trans (HK.out.cs nb g1)
    have s2:=(Below.cell hkA hgbr).trans (HK.out.cs nb g2)
    have hgbA:gb<(wr.alloc (.cells #[.int .i64 k1,.int .i64 d,.int .i64 a,.int .i64 bb,.int .u64 vv,.int .i64 t] 278)).heap.size:=by simp;omega
    have HTk:=hid (stake_any gr ga gt N cr ca TL ct ku R A T ⟨k1,d,a,bb,vv⟩ (wr.alloc (.cells #[.int .i64 k1,.int .i64 d,.int .i64 a,.int .i64 bb,.int .u64 vv,.int .i64 t] 278)) hrok (HB.out.kw hkA).r (HB.out.kw hkA).a (HB.out.kw hkA).t HB.out.rl HB.out.al HB.out.tl (by omega) hTL HNe.out)
    unfold ocl at HTk
    have HSu:Hid (Fl.bks T ((Fl.bk1 (R,A) ⟨k1,d,a,bb,vv⟩ (T.getD ku 0)).1,(Fl.bk1 (R,A) ⟨k1,d,a,bb,vv⟩ (T.getD ku 0)).2) us=RF):=by rw[← hku];exact HS
    have HLn:=Fl.bk1_len R A ⟨k1,d,a,bb,vv⟩ (T.getD ku 0)
    generalize (Fl.bk1 (R,A) ⟨k1,d,a,bb,vv⟩ (T.getD ku 0)).1=R' at *
    generalize (Fl.bk1 (R,A) ⟨k1,d,a,bb,vv⟩ (T.getD ku 0)).2=A' at *
    have HKu:Hid (ku=us.length):=hid hku.symm
    have HOk2:Hid (∀ o∈us,Rok N o):=hid fun o ho=>HOk.out o (List.mem_cons_of_mem _ ho)
    have hkTL:k≤1048576:=by omega
    have HKt2:Hid (ku≤TL):=hid (by omega)
    have HKA:=hid hkA
    clear hrok h hw r hkA g0 g1 g2 nb HCm hku
    go_wp2_with fail
    (try rw[hkm])
    refine HTk.out.mono ?_
    rintro e w5 ⟨rfl,hr5,ha5,hk5⟩
    have HB5:Hid (BkM w5 gr ga gt N cr ca TL ct R' A' T):=hid ⟨hr5,ha5,((HB.out.kw HKA.out).t.keep hk5 fun b hb h=>by
     have:gt=b:=Option.some.inj hb
     have:=HNe.out
     rcases h with h|h<;>omega),by rw[HLn.1];exact HB.out.rl,by rw[HLn.2];exact HB.out.al,HB.out.tl⟩
    have HL5:=hid ((HL.out.kw HKA.out).keep hk5 (by omega))
    have HK5:=hid ((HK.out.kwt HKA.out).t (hk5.mono (own':=(fun b=>b=gl∨b=gr∨b=ga)) fun i _ h=>.inr h))
    clear hr5 ha5 hk5 s0 s1 s2
    go_wp2_with fail
    (try go_step3)
    refine⟨rfl,n',Nat.lt_succ_self _,?_⟩
    exact⟨_,_,_,_,_,_,_,_,_,_,_,_,_,_,_,_,_,_,_,_,_,_,_,_,_,_,_,_,_,_,_,_,_,_,_,_,_,_,_,_,_,_,_,_,_,_,_,_,_,_,_,_,_,_,p,ku,stk,us,R',A',rfl,HRes,HL5,HB5,HSu,HKu,HKt2,HDp,HSt,HOk2,HK5⟩
 ·intro hp
  have hM4:M≤4096:=HSm.out
  go_wp2_with fail
  refine wp_label ?_
  rename_i hK
  refine hK _ _ (hp n0 _ _ ?_)
  rw[← HGl.out,← HGb.out,← HW0.out]
  exact⟨_,_,_,_,_,_,_,_,_,_,_,_,_,_,_,_,_,_,_,_,_,_,_,_,_,_,_,_,_,_,_,_,_,_,_,_,_,_,_,_,_,_,_,_,_,_,_,_,_,_,_,_,_,_,M,UL,[],v,R0,A0,rfl,HRun,HLf,HB0,HRF,HUL,HUl,hid (by simp),hid (fun m hm=>absurd hm (by simp)),HOk,Keep.refl _ _⟩
theorem GoodC.rok {p:Pg}{c:List Fl.I}{N:Nat}(h:GoodC p c)(hN:p.n=(N:Int)):∀ o∈Fl.unr p.l,Rok N o:=fun o ho=>by
 have:=h.regs o ho
 rw[hN] at this
 exact this
theorem sBack_any (p:Pg)(gr ga gt N cr ca TL ct:Nat)(R0 A0 T:List Int)(w:World)(hM:PgM w p)(hg:Gd p)(hN:p.n=(N:Int))(hB:BkM w gr ga gt N cr ca TL ct R0 A0 T)(hul:wct p.l≤TL)(hTL:TL≤1048576)(hne:gr≠ga∧gr≠gt∧ga≠gt):
 Calls Tryz.prog 226 #[.agg p.v,.slice (some ⟨gr,0,none⟩) N cr,.slice (some ⟨ga,0,none⟩) N ca,.slice (some ⟨gt,0,none⟩) TL ct] w fun e w'=>e=.returned (.int .i64 0)∧BkM w' gr ga gt N cr ca TL ct (Fl.bks T (R0,A0) (Fl.unr p.l).reverse).1 (Fl.bks T (R0,A0) (Fl.unr p.l).reverse).2 T∧Keep (fun b=>b=gr∨b=ga) w w':=by
 have hk:=(KW.refl w).alloc (.cells p.v 25)
 have HCk:=hid (code_good p _ (hM.kw hk) hg)
 have HWr:=hid (fun W (hW:KW w W)=>swrites_any p.A p.c p.l W hM.len (hM.ops.kw hW) hM.hv)
 obtain⟨sz0,hme⟩:=hg.meas
 have HMe:=hid hme
 have HS0:Hid (szErr p.l=0):=hid hg.2.2.2
 have hh:=heap_alloc_new w (.cells p.v 25)
 have HR:Hid ((w.alloc (.cells p.v 25)).cell? ⟨w.heap.size,0,none⟩=some (.int .i64 N)∧(w.alloc (.cells p.v 25)).cell? ⟨w.heap.size,1,none⟩=some (.slice p.A p.l.length p.c)):=hid (by
  unfold World.cell?
  rw[hh,← hN]
  exact⟨rfl,rfl⟩)
 have HK:=hid hk
 have HB:=hid hB
 have HRok:=hid (fun c (h:GoodC p c)=>h.rok hN)
 have HNe:=hid hne
 have hgrw:gr<w.heap.size:=hB.r.lt rfl
 have hgaw:ga<w.heap.size:=hB.a.lt rfl
 have HGr:=hid (And.intro hgrw hgaw)
 have hcp:N≤cr∧N≤ca∧TL≤ct:=by
  obtain⟨_,_,hv,hc⟩:=hB.r.row
  obtain⟨_,_,hv2,hc2⟩:=hB.a.row
  obtain⟨_,_,hv3,hc3⟩:=hB.t.row
  rw[hB.rl] at hv hc
  rw[hB.al] at hv2 hc2
  rw[hB.tl] at hv3 hc3
  cases hv
  cases hv2
  cases hv3
  exact⟨hc,hc2,hc3⟩
 obtain⟨hcr,hca,hct⟩:=hcp
 have HP:Hid (∀ c,GoodC p c→(Fl.unr p.l).length=wct p.l):=hid fun c h=>h.len
 have HBk:=hid (fun Ac cc c W hC hCo hB hcd hul hok hvs hsm=>swback_any Ac cc gr ga gt N cr ca TL ct c (Fl.unr p.l) R0 A0 T W hC hCo hB hcd hul hTL hok hvs hsm hne)
 generalize wct p.l=wc at *
 have HCd:Hid (∀ c,GoodC p c→∃ d,Fl.Cd 0 c (Fl.unr p.l) d∧d≤8):=hid fun c h=>h.cd
 generalize Fl.unr p.l=un at *
 have hwc:decide (TL<wc)=false:=decide_eq_false (by omega)
 have hwc4:wc≤1048576:=by omega
 have hNN:((N:Int)==(N:Int))=true:=beq_self_eq_true _
 have HUl:=hid hul
 clear hM hk hg hh hme hB hN hne hgrw hgaw hul
 unfold Pg.v pgv at *
 go_enter Tryz.func226,Tryz.ntmps226
 go_wp2_with fail
 refine HCk.out.mono ?_
 rintro e w1 ⟨v,c,rfl,hgc,ho,hk1⟩
 have HK1:=hid (HK.out.t hk1)
 have hlt:w.heap.size<w1.heap.size:=Nat.lt_of_lt_of_le (by simp) (Below.size hk1)
 have HR1:=hid (And.intro ((Below.cell hk1 (show w.heap.size<_ by simp)).trans HR.out.1) ((Below.cell hk1 (show w.heap.size<_ by simp)).trans HR.out.2))
 have HLt:=hid hlt
 obtain⟨Ac,cc,rfl,_,hAc⟩:=ho.row
 have HAc:=hid hAc
 have HO:=hid ho
 have HGC:=hid hgc
 clear hk1 HCk HR HK ho hAc hgc
 obtain⟨c0,c1⟩:=HR1.out
 go_wp2_with fail
 refine(HWr.out w1 HK1.out).mono ?_
 rintro e w2 ⟨hk2,hres⟩
 rcases hres with⟨_,sz,nn,hm2,rfl⟩|⟨hne,_⟩
 ·have HK2:=hid (HK1.out.t hk2)
  have HKk:=hid hk2
  have HLt2:=hid (Nat.lt_of_lt_of_le HLt.out (Below.size hk2))
  have hnn:nn=wc:=by
   rw[HMe.out] at hm2
   cases hm2
   rfl
  subst hnn
  have d0:=(Below.cell hk2 HLt.out).trans c0
  have d1:=(Below.cell hk2 HLt.out).trans c1
  have hlt2:=HLt2.out
  clear hk2 hm2 c0 c1 HWr
  go_wp2_with fail
  have hul:=HP.out c HGC.out
  have hbk:=HBk.out Ac cc c w2 (HO.out.code.kw HKk.out) (fun h0 b hb=>by
   obtain⟨b2,hb2,hge,_⟩:=HAc.out h0
   rw[hb2] at hb
   cases hb
   have:=HGr.out
   simp at hge
   omega) (HB.out.kw HK2.out) (HCd.out c HGC.out) (by rw[hul];exact HUl.out) (HRok.out c HGC.out) HGC.out.vs HGC.out.small
  rw[hul] at hbk
  refine hbk.mono ?_
  clear hbk
  rintro e w3 ⟨rfl,hb3,hk3⟩
  have HB3:=hid hb3
  have HK3:=hid (HK2.out.kt hk3)
  clear hb3 hk3 d0 d1
  go_wp2_with fail
  go_ret
  exact⟨rfl,HB3.out,HK3.out⟩
 ·exact absurd HS0.out hne
theorem tready_any (p:Pg)(A1 A2:Option Addr)(N c1 TL c2:Nat)(w:World)(hM:PgM w p)(hg:Gd p)(hN:p.n=(N:Int))(hul:wct p.l≤TL)(hTL:TL≤1048576):
 Calls Tryz.prog 224 #[.agg p.v,.slice A1 N c1,.slice A2 TL c2] w fun e w'=>∃ v c,e=.returned (.tuple #[v,.int .i64 0])∧GoodC p c∧OwnsI w' (w.heap.size+1) v c∧KW w w':=by
 have hk:=(KW.refl w).alloc (.cells p.v 25)
 have HCk:=hid (code_good p _ (hM.kw hk) hg)
 have HWr:=hid (fun W (hW:KW w W)=>swrites_any p.A p.c p.l W hM.len (hM.ops.kw hW) hM.hv)
 obtain⟨sz0,hme⟩:=hg.meas
 have HMe:=hid hme
 have HS0:Hid (szErr p.l=0):=hid hg.2.2.2
 have hh:=heap_alloc_new w (.cells p.v 25)
 have HR:Hid ((w.alloc (.cells p.v 25)).cell? ⟨w.heap.size,0,none⟩=some (.int .i64 N)∧(w.alloc (.cells p.v 25)).cell? ⟨w.heap.size,1,none⟩=some (.slice p.A p.l.length p.c)):=hid (by
  unfold World.cell?
  rw[hh,← hN]
  exact⟨rfl,rfl⟩)
 have HK:=hid hk
 have hsz:(w.alloc (.cells p.v 25)).heap.size=w.heap.size+1:=by simp
 rw[hsz] at HCk
 generalize wct p.l=wc at *
 have hwc:decide (TL<wc)=false:=decide_eq_false (by omega)
 have hwc4:wc≤1048576:=by omega
 clear hM hk hg hh hme hN hul hsz
 unfold Pg.v pgv at *
 go_enter Tryz.func224,Tryz.ntmps224
 go_wp2_with fail
 refine HCk.out.mono ?_
 rintro e w1 ⟨v,c,rfl,hgc,ho,hk1⟩
 have HK1:=hid (HK.out.t hk1)
 have hlt:w.heap.size<w1.heap.size:=Nat.lt_of_lt_of_le (by simp) (Below.size hk1)
 have HR1:=hid (And.intro ((Below.cell hk1 (show w.heap.size<_ by simp)).trans HR.out.1) ((Below.cell hk1 (show w.heap.size<_ by simp)).trans HR.out.2))
 have HLt:=hid hlt
 obtain⟨Ac,cc,rfl,_,_⟩:=ho.row
 have HO:=hid ho
 have HGC:=hid hgc
 clear hk1 HCk HR HK ho hgc
 obtain⟨c0,c1⟩:=HR1.out
 go_wp2_with fail
 refine(HWr.out w1 HK1.out).mono ?_
 rintro e w2 ⟨hk2,hres⟩
 rcases hres with⟨_,sz,nn,hm2,rfl⟩|⟨hne,_⟩
 ·have HK2:=hid (HK1.out.t hk2)
  have HO2:=hid (HO.out.kw hk2)
  have HLt2:=hid (Nat.lt_of_lt_of_le HLt.out (Below.size hk2))
  have hnn:nn=wc:=by
   rw[HMe.out] at hm2
   cases hm2
   rfl
  subst hnn
  have d0:=(Below.cell hk2 HLt.out).trans c0
  have d1:=(Below.cell hk2 HLt.out).trans c1
  have hlt2:=HLt2.out
  clear hk2 hm2 c0 c1 HWr
  go_wp2_with fail
  go_ret2
  exact⟨_,c,rfl,HGC.out,HO2.out,HK2.out⟩
 ·exact absurd HS0.out hne
end Go.Proofs.YtphppbonljdibaaGreat
