import Derived.Test.YtphppbonljdibaaGreatTB21
import Derived.Test.YtphppbonljdibaaGreatTB00
set_option maxRecDepth 100000
set_option maxHeartbeats 4000000
set_option linter.unusedVariables false
set_option linter.unusedSimpArgs false
namespace Go.Proofs.YtphppbonljdibaaGreat
open Go.ChangeShapes Go.WideShapes Go.ChangeAt Go.RowKit
theorem DrM.sz {w:World}{D:Ds}{S:Dy}(h:DrM w D S):szN D.h 0=D.h.ts.length∧szN D.h 1=D.x∧szN D.h 2=D.N∧szN D.h 3=D.M∧szN D.h 4=max D.N D.M∧szN D.h 5=D.x∧szN D.h 6=D.h.ts.length∧szN D.h 7=D.a+D.b:=
 ⟨rfl,rfl,rfl,rfl,rfl,rfl,rfl,if_neg h.ds.m3⟩
theorem dback (D:Ds)(S:Dy)(p:Pg)(gr ga gt N cr ca TL ct K:Nat)(R0 A0 T:List Int)(w:World)(h:DrM w D S)(hl:DrLow D K)(hM:PgM w p)(hg:Gd p)(hN:p.n=(N:Int))(hN6:N≤64)
 (hB:BkM w gr ga gt N cr ca TL ct R0 A0 T) (hul:wct p.l≤TL) (hTL:TL≤1048576) (hne:gr≠ga∧gr≠gt∧ga≠gt) (hK:K≤gr∧K≤ga∧K≤gt) (hx:D.x+D.h.ts.length≤N) (hN4:N≤max D.N D.M) (hsw:S.sweeps<4611686018427387904) (hKw:K≤w.heap.size):
 Calls Tryz.prog 186 #[.pointer (some ⟨D.bd,0,none⟩),.agg p.v,.slice (some ⟨gr,0,none⟩) N cr,.slice (some ⟨ga,0,none⟩) N ca,.slice (some ⟨gt,0,none⟩) TL ct] w fun e w'=>e=.returned (.tuple #[])∧DrM w' D (S.back D p.l R0 A0 T)∧Keep (D.up K) w w':=by
 have hk0:=(KW.refl w).alloc (.cells p.v 25)
 have hB0:=hB.kw hk0
 have hca:N≤ca:=by obtain⟨_,_,hv,hc⟩:=hB.a.row;rw[hB.al] at hv hc;cases hv;exact hc
 have HSB:=hid (sBack_any p gr ga gt N cr ca TL ct R0 A0 T _ (hM.kw hk0) hg hN hB0 hul hTL hne)
 have HD0:=hid (h.kw hk0)
 have HK0:Hid (Keep (D.up K) w (w.alloc (.cells p.v 25))):=hid hk0.keep
 have HSZ:=hid h.sz
 have hx64:=h.ds.x1
 have hth:=h.ds.ok.1.bounds.2.2.2.2.1
 obtain⟨A',hA'⟩:∃ A',(Fl.bks T (R0,A0) (Fl.unr p.l).reverse).2=A':=⟨_,rfl⟩
 obtain⟨S',hS'⟩:∃ S',S.back D p.l R0 A0 T=S':=⟨_,rfl⟩
 have HS':=hid hS'
 rw[hA'] at HSB
 rw[hS']
 unfold Dy.back at HS'
 rw[hA'] at HS'
 have HL:=hid hl
 have HKK:=hid hK
 have hwS:IntKind.i64.wrap ((S.sweeps:Int)+1)=((S.sweeps+1:Nat):Int):=IntWalk.i64_in _ (by omega)
 have HDS:=hid h.ds
 have HNE:=hid (show ga≠D.bw by have:=hl.bw;omega)
 have eX:D.h.xs.length=D.x:=rfl
 have HTh:Hid (∀ W S2,DrM W D S2→(S2.get D 6).length=D.h.ts.length):=hid fun W S2 h2=>h2.get_len (by omega)
 generalize hth':D.h.ts.length=th at *
 generalize hX:D.x=X at *
 clear h hM hg hB hB0 hk0 hA' hS' hne hK hl hul hN
 unfold Pg.v pgv at *
 go_enter Tryz.func186,Tryz.ntmps186
 go_wp2_with fail
 refine HSB.out.mono ?_
 rintro e w1 ⟨rfl,hb1,hk1⟩
 have HB1:=hid hb1
 have HD1:Hid (DrM w1 D S):=hid (HD0.out.keepK HL.out hk1 fun b e=>e.elim (fun e=>e ▸ HKK.out.1) fun e=>e ▸ HKK.out.2.1)
 have HK1:Hid (Keep (D.up K) w w1):=hid (HK0.out.t (hk1.up fun b e=>.inr (e.elim (fun e=>e ▸ HKK.out.1) fun e=>e ▸ HKK.out.2.1)))
 have HR1:=hid hb1.a
 have HAl:=hid hb1.al
 clear hb1 HB1 hk1 HSB HD0 HK0
 have HP1:=hid (dput D S 4 A' _ w1 HD1.out (by omega) HR1.out.hu (by rw[HAl.out,HSZ.out.2.2.2.2.1];exact hN4))
 go_wp2_with fail
 refine HP1.out.mono ?_
 rintro e w2 ⟨rfl,hd2,hk2⟩
 have HD2:=hid hd2
 have HK2:Hid (Keep (D.up K) w w2):=hid (HK1.out.t hk2.upw)
 have HR2:Hid (RegM w2 (.slice (some ⟨ga,0,none⟩) N ca) A'):=hid (HR1.out.keep hk2 fun b hb e=>HNE.out ((Option.some.inj hb).trans e))
 clear hd2 hk2 HD1 HK1 HR1 HP1
 have c5:w2.cell? ⟨D.bd,5,none⟩=some (.slice D.h.xA D.h.xs.length D.h.xc):=HD2.out.cell (i:=5) (by omega)
 rw[eX] at c5
 have hlX:(A'.take X).length=X:=by rw[List.length_take,HAl.out];omega
 have HP2:=hid (dput D _ 5 (A'.take X) (.slice (some ⟨ga,0,none⟩) X ca) w2 HD2.out (by omega) (regM_take HR2.out HAl.out X ca (by omega)) (by rw[hlX,HSZ.out.2.2.2.2.2.1];exact Nat.le_refl _))
 go_wp2_with fail
 clear c5
 refine HP2.out.mono ?_
 rintro e w3 ⟨rfl,hd3,hk3⟩
 have HD3:=hid hd3
 have HK3:Hid (Keep (D.up K) w w3):=hid (HK2.out.t hk3.upw)
 have HR3:Hid (RegM w3 (.slice (some ⟨ga,0,none⟩) N ca) A'):=hid (HR2.out.keep hk3 fun b hb e=>HNE.out ((Option.some.inj hb).trans e))
 clear hd3 hk3 HD2 HK2 HR2 HP2
 have HG3:=hid (dget D _ 6 w3 HD3.out (by omega))
 go_wp2_with fail
 refine HG3.out.mono ?_
 rintro e w4 ⟨v6,rfl,ho4,hk4⟩
 obtain⟨S2,hS2⟩:∃ S2,(S.put D 4 A').put D 5 (A'.take X)=S2:=⟨_,rfl⟩
 have hgl:(S2.get D 6).length=th:=by rw[← hS2];exact HTh.out w3 _ HD3.out
 have hb6:∀ b,v6.ownBlock=some b→b≠ga∧K≤b:=fun b hb=>by
  have h1:=(ho4.lt hb).1
  have h2:ga<w3.heap.size:=HR3.out.lt rfl
  have h3:=HKK.out.2.1
  omega
 have hO:RegM w4 v6 (S2.get D 6):=by rw[← hS2];exact ho4.base (Nat.zero_le _)
 have HD4:Hid (DrM w4 D S2):=hid (by rw[← hS2];exact HD3.out.kw hk4)
 have HK4:Hid (Keep (D.up K) w w4):=hid (HK3.out.kwt hk4)
 have HR4:Hid (RegM w4 (.slice (some ⟨ga,0,none⟩) N ca) A'):=hid (HR3.out.kw hk4)
 rw[hS2] at HS'
 have hs2:S2.sweeps=S.sweeps:=by rw[← hS2];rfl
 clear hS2 HD3 HK3 HR3 HG3 ho4 hk4
 obtain⟨gl,hgl'⟩:∃ gl,S2.get D 6=gl:=⟨_,rfl⟩
 rw[hgl'] at hO HS' hgl
 have HO:=hid hO
 obtain⟨A6,c6,rfl,hc6⟩:=hO.row
 have hA6:0<th→∃ b,A6=some ⟨b,0,none⟩:=fun h0=>by
  obtain⟨b,c,hv,_⟩:=HO.out.some (by omega)
  cases hv
  exact⟨b,rfl⟩
 rw[hgl] at hc6 hb6 HO ⊢
 obtain⟨al,hal⟩:∃ al,A'.drop X=al:=⟨_,rfl⟩
 have hall:gl.length≤al.length:=by rw[← hal,List.length_drop,HAl.out];omega
 have hag:∀ k,k<th→al.getD k 0=A'.getD (X+k) 0:=fun k hk=>by rw[← hal,List.getD_eq_getElem?_getD,List.getElem?_drop,List.getD_eq_getElem?_getD]
 rw[hal] at HS'
 have HAG:=hid hag
 have HALL:=hid hall
 have HGL:=hid hgl
 have HGL':=hid hgl'
 have HB6:=hid hb6
 have HA6:=hid hA6
 clear hO hgl' hal hag hall hgl hb6 hA6
 go_wp2_with fail
 go_loopw [36] (fun i wr=>∃ k:Nat,k≤th∧i=.int .i64 k∧Hid (RegM wr (.slice A6 th c6) (mixs gl al k))∧Hid (RegM wr (.slice (some ⟨ga,0,none⟩) N ca) A')∧Hid (DrM wr D S2)∧Hid (Keep (D.up K) w wr)) (fun i _=>th - (intOf i).toNat)
 case atStart=>exact⟨0,by omega,rfl,hid (by rw[mixs_0];exact HO.out),HR4,HD4,HK4⟩
 case round=>
  obtain⟨k,hk,rfl,HOk,HRk,HDk,HKk⟩:=hrel
  by_cases hkt:k<th
  ·obtain⟨b6,rfl⟩:=HA6.out (by omega)
   have hml:(mixs gl al k).length=th:=by rw[mixs_len HALL.out k (by rw[HGL.out];omega),HGL.out]
   obtain⟨hlt6,d1,d2,d3⟩:=HOk.out.at_ (i:=k) (by omega)
   obtain⟨_,e1,_,_⟩:=HRk.out.at_ (i:=X+k) (by rw[HAl.out];omega)
   rw[mixs_get HALL.out k (by rw[HGL.out];omega)] at d1
   rw[← HAG.out k hkt] at e1
   have hset:=d3 (IntKind.u64.wrap (gl.getD k 0+al.getD k 0))
   rw[mixs_set HALL.out k (by rw[HGL.out];omega)] at hset
   obtain⟨x,hxx⟩:∃ x,gl.getD k 0=x:=⟨_,rfl⟩
   obtain⟨y,hyy⟩:∃ y,al.getD k 0=y:=⟨_,rfl⟩
   rw[hxx] at d1 hset
   rw[hyy] at e1 hset
   have HSET:=hid hset
   have L1:(k:Int)<th:=by omega
   have hwi:IntKind.i64.wrap ((X:Int)+(k:Int))=((X+k:Nat):Int):=by rw[show(X:Int)+(k:Int)=((X+k:Nat):Int) by omega];exact IntWalk.i64_in _ (by omega)
   have hlX2:X+k<N:=by omega
   clear d3 hset hxx hyy hml
   go_wp2_with fail
   go_region
   have hkg:Keep (· = b6) wr (wr.setCell ⟨b6,k,none⟩ (.int .u64 (IntKind.u64.wrap (x+y)))):=(Keep.refl _ wr).setCell _ _ rfl
   have hb6:=HB6.out b6 rfl
   have HRk2:Hid (RegM (wr.setCell ⟨b6,k,none⟩ (.int .u64 (IntKind.u64.wrap (x+y)))).drew (.slice (some ⟨ga,0,none⟩) N ca) A'):=hid (HRk.out.keep hkg.drew fun b hb e=>hb6.1 (e.symm.trans (Option.some.inj hb).symm))
   have HDk2:Hid (DrM (wr.setCell ⟨b6,k,none⟩ (.int .u64 (IntKind.u64.wrap (x+y)))).drew D S2):=hid (HDk.out.keepK HL.out hkg.drew fun b e=>e ▸ hb6.2)
   have HKk2:Hid (Keep (D.up K) w (wr.setCell ⟨b6,k,none⟩ (.int .u64 (IntKind.u64.wrap (x+y)))).drew):=hid (HKk.out.t (hkg.drew.up fun b e=>.inr (e ▸ hb6.2)))
   have HOk2:Hid (RegM (wr.setCell ⟨b6,k,none⟩ (.int .u64 (IntKind.u64.wrap (x+y)))).drew (.slice (some ⟨b6,0,none⟩) th c6) (mixs gl al (k+1))):=hid (HSET.out.kw (KW.refl _).drew)
   clear hkg hb6 d1 d2 e1 HSET HOk HRk HDk HKk
   go_wp2_with fail
   go_roundw
   case rel=>exact⟨k+1,by omega,by go_num,HOk2,HRk2,HDk2,HKk2⟩
   case measure=>simp[intOf];omega
  ·obtain rfl:k=th:=by omega
   have hm:mixs gl al k=adds gl al:=by rw[← HGL.out];exact mixs_all HALL.out
   have hml:(adds gl al).length=k:=by rw[adds_len HALL.out,HGL.out]
   have hO:=HOk.out
   rw[hm] at hO
   have HP4:=hid (dput D S2 6 (adds gl al) _ wr HDk.out (by omega) hO.hu (by rw[hml,HSZ.out.2.2.2.2.2.2.1];exact Nat.le_refl _))
   clear hO hm hml hkt HOk HRk
   go_wp2_with fail
   refine HP4.out.mono ?_
   rintro e w7 ⟨rfl,hd7,hk7⟩
   have HD7:=hid hd7
   have HK7:Hid (Keep (D.up K) w w7):=hid (HKk.out.t hk7.upw)
   clear hd7 hk7 HP4 HDk HKk
   have c23:w7.cell? ⟨D.bd,23,none⟩=some (.int .i64 (S.sweeps:Int)):=by
    have h:=HD7.out.cell (i:=23) (by omega)
    rw[h,show(S.sweeps:Int)=(S2.sweeps:Int) by rw[hs2]]
    rfl
   have f23:w7.frozen? ⟨D.bd,23,none⟩=false:=World.rowIs.frozen HD7.out.row 23
   have hset:=HD7.out.setSweeps (S.sweeps+1)
   have HSET:=hid hset
   have hkd:Keep (· = D.bd) w7 (w7.setCell ⟨D.bd,23,none⟩ (.int .i64 ((S.sweeps+1:Nat):Int))):=(Keep.refl _ w7).setCell _ _ rfl
   have HKd:Hid (Keep (D.up K) w (w7.setCell ⟨D.bd,23,none⟩ (.int .i64 ((S.sweeps+1:Nat):Int)))):=hid (HK7.out.t hkd.upd)
   clear hset hkd
   go_wp2_with fail
   refine bodyPost_end (results_none rfl _ _ _) rfl ?_
   refine⟨rfl,?_,HKd.out⟩
   rw[← HS'.out]
   exact HSET.out
def upd (H:List (Nat×Nat))(x:Nat→Value)(ts:List Value):List Value:=H.foldl (fun t e=>t.set e.2 (x e.1)) ts
def mark (H:List (Nat×Nat))(l:Array Bool):Array Bool:=H.foldl (fun l e=>l.setIfInBounds e.1 true) l
theorem upd_cons (e:Nat×Nat)(H:List (Nat×Nat))(x:Nat→Value)(ts:List Value):upd (e::H) x ts=upd H x (ts.set e.2 (x e.1)):=rfl
theorem upd_out {H:List (Nat×Nat)}{x:Nat→Value}{d:Nat}{v:Value}:∀ {ts:List Value},d∉H.map Prod.snd→(upd H x ts).set d v=upd H x (ts.set d v):=by
 induction H with
 | nil=>intro ts _;rfl
 | cons e H ih=>
   intro ts h
   simp only[List.map_cons,List.mem_cons,not_or] at h
   rw[upd_cons,upd_cons,ih h.2,List.set_comm _ _ h.1]
theorem upd_cong {H:List (Nat×Nat)}{x y:Nat→Value}:∀ {ts:List Value},(∀ e∈H,x e.1=y e.1)→upd H x ts=upd H y ts:=by
 induction H with
 | nil=>intro ts _;rfl
 | cons e H ih=>
   intro ts h
   rw[upd_cons,upd_cons,h e (by simp),ih fun e' he'=>h e' (by simp[he'])]
theorem upd_set {H:List (Nat×Nat)}{x:Nat→Value}{i d:Nat}{v:Value}:∀ {ts:List Value},(H.map Prod.fst).Nodup→(H.map Prod.snd).Nodup→(i,d)∈H→(upd H x ts).set d v=upd H (fun j=>if j=i then v else x j) ts:=by
 induction H with
 | nil=>intro ts _ _ h;cases h
 | cons e H ih=>
   intro ts h1 h2 h
   simp only[List.map_cons,List.nodup_cons] at h1 h2
   rw[upd_cons,upd_cons]
   rcases List.mem_cons.1 h with rfl|h
   ·rw[upd_out h2.1,List.set_set]
    simp only[if_true]
    exact upd_cong fun e he=>by
     have:e.1≠i:=fun h0=>h1.1 (List.mem_map.2 ⟨e,he,h0⟩)
     rw[if_neg this]
   ·have:e.1≠i:=fun h0=>h1.1 (List.mem_map.2 ⟨(i,d),h,h0.symm⟩)
    rw[ih h1.2 h2.2 h,if_neg this]
theorem upd_self {H:List (Nat×Nat)}{x:Nat→Value}{ts:List Value}(h:∀ e∈H,ts.set e.2 (x e.1)=ts):upd H x ts=ts:=by
 induction H with
 | nil=>rfl
 | cons e H ih=>rw[upd_cons,h e (by simp)];exact ih fun e' he'=>h e' (by simp[he'])
theorem set_own (ts:List Value)(d:Nat)(z:Value):ts.set d (ts.getD d z)=ts:=by
 rcases Nat.lt_or_ge d ts.length with h|h
 ·rw[show ts.getD d z=ts[d] from by simp[List.getD,h],List.set_getElem_self]
 ·rw[List.set_eq_of_length_le h]
theorem mark_get (H:List (Nat×Nat)):∀ (l:Array Bool) (j:Nat),(mark H l)[j]?=if j∈H.map Prod.fst∧j<l.size then some true else l[j]?:=by
 induction H with
 | nil=>intro l j;simp[mark]
 | cons e H ih=>
   intro l j
   show(mark H (l.setIfInBounds e.1 true))[j]?=_
   rw[ih]
   simp only[Array.size_setIfInBounds,List.map_cons,List.mem_cons]
   by_cases hj:j<l.size
   ·by_cases h1:j∈H.map Prod.fst
    ·simp[h1,hj]
    ·by_cases h2:j=e.1
     ·subst h2;simp[h1,hj]
     ·simp[h1,h2,Array.getElem?_setIfInBounds_ne (Ne.symm h2)]
   ·simp[hj]
section
variable {P : Program} {ops : Array Oper} {Q : Exit → Act → World → Prop} {md : Region.Mode} {S : World → Prop} {L : Nat}
def okMany (md:Region.Mode)(ops:Array Oper)(H:List (Nat×Nat))(l:Array Bool):Bool:=
 decide (H.map Prod.fst).Nodup&&decide (H.map Prod.snd).Nodup &&
 H.all (fun e=>!(l.getD e.1 true)&&match ops[e.1]? with
  | some o=>o.dst==some e.2&&o.after.all fun q=>!Region.binds md q || (decide (q.on<e.1)&&(l.getD q.on false || (H.map Prod.fst).contains q.on))
  | none=>false) &&
 (List.range ops.size).all fun j=>l.getD j true || (H.map Prod.fst).contains j || H.all fun e=>Region.waitsFor md ops j e.1
theorem okMany_spec {H:List (Nat×Nat)}{l:Array Bool}(h:okMany md ops H l=true):
 (H.map Prod.fst).Nodup∧(H.map Prod.snd).Nodup ∧
 (∀ e∈H,l.getD e.1 true=false∧∃ o,ops[e.1]?=some o∧o.dst=some e.2∧∀ q∈o.after,Region.binds md q=true→q.on<e.1∧(l.getD q.on false=true∨q.on∈H.map Prod.fst)) ∧
 (∀ j,j<ops.size→l.getD j true=false→j∉H.map Prod.fst→∀ e∈H,Region.waitsFor md ops j e.1=true):=by
 simp only[okMany,Bool.and_eq_true,decide_eq_true_eq,List.all_eq_true,Bool.not_eq_true',List.mem_range,Bool.or_eq_true,List.contains_iff_mem] at h
 obtain⟨⟨⟨h1,h2⟩,h3⟩,h4⟩:=h
 refine⟨h1,h2,fun e he=>?_,fun j hj hl hn e he=>?_⟩
 ·obtain⟨h5,h6⟩:=h3 e he
  refine⟨h5,?_⟩
  split at h6
  ·rename_i o ho
   simp only[Bool.and_eq_true,beq_iff_eq,Array.all_eq_true_iff_forall_mem,Bool.or_eq_true,Bool.not_eq_true',decide_eq_true_eq,List.contains_iff_mem] at h6
   refine⟨o,ho,h6.1,fun q hq hb=>?_⟩
   rcases h6.2 q hq with h7|h7
   ·rw[hb] at h7;cases h7
   ·exact h7
  ·cases h6
 ·rcases h4 j hj with(h5|h5)|h5
  ·rw[hl] at h5;cases h5
  ·exact absurd h5 hn
  ·exact h5 e he
def undone (H:List (Nat×Nat))(l:Array Bool):List (Nat×Nat):=H.filter fun e=>!(l.getD e.1 true)
theorem undone_set {H:List (Nat×Nat)}{l:Array Bool}{e:Nat×Nat}(hn:(H.map Prod.fst).Nodup)(he:e∈H)(hl:l.getD e.1 true=false):(undone H (l.setIfInBounds e.1 true)).length+1=(undone H l).length:=by
 induction H with
 | nil=>cases he
 | cons a H ih=>
   simp only[List.map_cons,List.nodup_cons] at hn
   unfold undone at *
   rcases List.mem_cons.1 he with rfl|he
   ·have hsame:H.filter (fun e'=>!((l.setIfInBounds e.1 true).getD e'.1 true))=H.filter (fun e'=>!(l.getD e'.1 true)):=by
     apply List.filter_congr
     intro e' he'
     have:e.1≠e'.1:=fun h0=>hn.1 (List.mem_map.2 ⟨e',he',h0.symm⟩)
     rw[getD_set_ne true this]
    have hset:(l.setIfInBounds e.1 true).getD e.1 true=true:=by
     have hlt:e.1<l.size:=by
      rcases Nat.lt_or_ge e.1 l.size with h|h
      ·exact h
      ·simp[Array.getElem?_eq_none h] at hl
     simp[hlt]
    rw[List.filter_cons,List.filter_cons,hsame,hset,hl]
    simp
   ·have:e.1≠a.1:=fun h0=>hn.1 (List.mem_map.2 ⟨e,he,h0⟩)
    have:=ih hn.2 he
    rw[List.filter_cons,List.filter_cons,getD_set_ne true ‹e.1≠a.1›]
    split<;>(try simp only[List.length_cons])<;>omega
theorem wpX_many (H:List (Nat×Nat))(φ:Nat→Value→World→Prop)(W0:World)(m:Nat){n:Nat}{l:Array Bool}{ts:List Value}{ds:List Deferred}{w:World}(hn:n=H.length+m)(hok:okMany md ops H l=true)(hsz:l.size=ops.size)
 (hS:∀ w',KW W0 w'→S w') (hφ:∀ e∈H,∀ v w w',φ e.1 v w→KW w w'→φ e.1 v w') (hw:KW W0 w)
 (hop:∀ e∈H,∀ (x:Nat→Value) (w:World),KW W0 w→(∀ e'∈H,Region.waitsFor md ops e.1 e'.1=true→φ e'.1 (x e'.1) w) →
   wpOp P ops Q e.1 (fun a' w'=>∃ v,a'=⟨((upd H x ts).set e.2 v).toArray,ds⟩∧KW w w'∧φ e.1 v w') ⟨(upd H x ts).toArray,ds⟩ w)
 (hend:∀ (x:Nat→Value) (w:World),KW W0 w→(∀ e∈H,φ e.1 (x e.1) w)→wpX P md ops Q S L m (mark H l) ⟨(upd H x ts).toArray,ds⟩ w):
 wpX P md ops Q S L n l ⟨ts.toArray,ds⟩ w:=by
 obtain⟨hn1,hn2,hall,hrest⟩:=okMany_spec hok
 have key:∀ (k:Nat) (l':Array Bool) (x:Nat→Value) (w:World),(undone H l').length=k→l'.size=l.size→(∀ j,j∉H.map Prod.fst→l'[j]?=l[j]?)→KW W0 w→(∀ e∈H,l'.getD e.1 false=true→φ e.1 (x e.1) w) →
  wpX P md ops Q S L (k+m) l' ⟨(upd H x ts).toArray,ds⟩ w:=by
  intro k
  induction k with
  | zero=>
    intro l' x w hk hs hl hw hx
    have hdone:∀ e∈H,l'.getD e.1 true=true:=by
     intro e he
     have h0:undone H l'=[]:=List.length_eq_zero_iff.1 hk
     unfold undone at h0
     rw[List.filter_eq_nil_iff] at h0
     simpa using h0 e he
    have hlt:∀ e∈H,e.1<l'.size:=fun e he=>by
     obtain⟨_,o,ho,_⟩:=hall e he
     have:=(Array.getElem?_eq_some_iff.1 ho).1
     omega
    have hd2:∀ e∈H,l'.getD e.1 false=true:=fun e he=>by
     have h1:=hdone e he
     have h2:=hlt e he
     simp[h2] at h1 ⊢
     exact h1
    have e:l'=mark H l:=by
     apply Array.ext_getElem?
     intro j
     rw[mark_get]
     split
     ·rename_i h
      obtain⟨e,he,rfl⟩:=List.mem_map.1 h.1
      have h1:=hdone e he
      have h2:=hlt e he
      simp[h2] at h1 ⊢
      exact h1
     ·rename_i h
      by_cases hj:j∈H.map Prod.fst
      ·have:¬ j<l.size:=fun h0=>h ⟨hj,h0⟩
       rw[Array.getElem?_eq_none (by omega),Array.getElem?_eq_none (by omega)]
      ·exact hl j hj
    rw[Nat.zero_add,e]
    exact hend x w hw fun e he=>hx e he (hd2 e he)
  | succ k ih=>
    intro l' x w hk hs hl hw hx
    have hne:undone H l'≠[]:=fun h0=>by rw[h0] at hk;cases hk
    rw[Nat.succ_add]
    have hmem:∀ i∈Region.ready md ops l',∃ d,(i,d)∈H:=by
     intro i hi
     obtain⟨hi0,o,ho,hdep⟩:=mem_ready.1 hi
     by_cases hiH:i∈H.map Prod.fst
     ·obtain⟨e,he,rfl⟩:=List.mem_map.1 hiH
      exact⟨e.2,he⟩
     ·exfalso
      have hi1:l.getD i true=false:=by
       have:=hl i hiH
       rw[Array.getD_eq_getD_getElem?] at hi0 ⊢
       rw[← this];exact hi0
      obtain⟨e,he⟩:=List.exists_mem_of_ne_nil _ hne
      unfold undone at he
      rw[List.mem_filter] at he
      have hu:=hrest i (Array.getElem?_eq_some_iff.1 ho).1 hi1 hiH e he.1
      obtain⟨o',ho',q,hq,hb,hon⟩:=Region.waitsFor_spec hu
      rw[ho] at ho'
      cases ho'
      have h5:=hdep q hq hb
      rw[hon] at h5
      have h6:l'.getD e.1 true=false:=by simpa using he.2
      rw[getD_both h6] at h5
      cases h5
    refine⟨fun h0=>?_,fun i hi=>?_⟩
    ·
     exfalso
     have hleast:∃ e∈undone H l',∀ e'∈undone H l',e.1≤e'.1:=by
      clear hk ih
      revert hne
      generalize undone H l'=U
      intro hne
      induction U with
      | nil=>exact absurd rfl hne
      | cons a U ihU=>
        cases U with
        | nil=>exact⟨a,by simp,by simp⟩
        | cons b U=>
          obtain⟨e,he,hle⟩:=ihU (by simp)
          by_cases hae:a.1≤e.1
          ·exact⟨a,by simp,fun e' he'=>by
            rcases List.mem_cons.1 he' with rfl|he'
            ·exact Nat.le_refl _
            ·exact Nat.le_trans hae (hle e' he')⟩
          ·exact⟨e,List.mem_cons_of_mem _ he,fun e' he'=>by
            rcases List.mem_cons.1 he' with rfl|he'
            ·omega
            ·exact hle e' he'⟩
     obtain⟨e,he,hle⟩:=hleast
     have heH:=(List.mem_filter.1 he).1
     have he0:l'.getD e.1 true=false:=by simpa using (List.mem_filter.1 he).2
     obtain⟨_,o,ho,_,hdep⟩:=hall e heH
     have:e.1∈Region.ready md ops l':=by
      refine mem_ready.2 ⟨he0,o,ho,fun q hq hb=>?_⟩
      obtain⟨hlt,hor⟩:=hdep q hq hb
      by_cases hqH:q.on∈H.map Prod.fst
      ·obtain⟨e',he',hqe⟩:=List.mem_map.1 hqH
       by_cases hd:l'.getD q.on true=false
       ·have h7:e'∈undone H l':=by unfold undone;rw[List.mem_filter];exact⟨he',by rw[hqe,hd];rfl⟩
        have:=hle e' h7
        omega
       ·have h8:l'.getD q.on true=true:=by simpa using hd
        obtain⟨_,o',ho',_⟩:=hall e' he'
        have h9:=(Array.getElem?_eq_some_iff.1 ho').1
        have h10:q.on<l'.size:=by omega
        simp[h10] at h8 ⊢
        exact h8
      ·rcases hor with hor|hor
       ·have:=hl q.on hqH
        rw[Array.getD_eq_getD_getElem?] at hor ⊢
        rw[this];exact hor
       ·exact absurd hor hqH
     rw[h0] at this
     cases this
    ·obtain⟨d,hd⟩:=hmem i hi
     obtain⟨hi0,o,ho,hdep⟩:=mem_ready.1 hi
     refine wpOp_mono ?_ (hop (i,d) hd x w hw fun e' he' hwf=>?_)
     ·rintro a' w' ⟨v,rfl,hk',hv⟩
      have hw':KW W0 w':=hw.trans (Below.mono (show Below _ _ _ from hk') hw.size)
      refine⟨fun _=>hS w' hw',?_⟩
      rw[upd_set hn1 hn2 hd]
      refine ih _ _ w' (by have:=undone_set hn1 hd hi0;simp only at this;omega) (by simpa using hs) (fun j hj=>?_) hw' (fun e he hl'=>?_)
      ·have:i≠j:=fun h0=>hj (h0 ▸ List.mem_map.2 ⟨(i,d),hd,rfl⟩)
       rw[Array.getElem?_setIfInBounds_ne this]
       exact hl j hj
      ·by_cases hei:e.1=i
       ·rw[if_pos hei,hei];exact hv
       ·rw[if_neg hei]
        refine hφ e he _ _ _ (hx e he ?_) hk'
        rwa [getD_set_ne false (Ne.symm hei)] at hl'
     ·obtain⟨o',ho',q,hq,hb,hon⟩:=Region.waitsFor_spec hwf
      rw[ho] at ho'
      cases ho'
      have h5:=hdep q hq hb
      rw[hon] at h5
      exact hx e' he' h5
 have hx0:∃ x:Nat→Value,upd H x ts=ts:=by
  refine⟨fun i=>ts.getD (((ops[i]?).bind (·.dst)).getD 0) undef,upd_self fun e he=>?_⟩
  obtain⟨_,o,ho,hdst,_⟩:=hall e he
  simp only[ho,Option.bind_some,hdst,Option.getD_some]
  exact set_own _ _ _
 obtain⟨x,hx⟩:=hx0
 have hk:(undone H l).length=H.length:=by
  unfold undone
  rw[List.filter_eq_self.2 fun e he=>by rw[(hall e he).1];rfl]
 have:=key H.length l x w hk rfl (fun _ _=>rfl) hw (fun e he hl=>by
  have h1:=getD_both (hall e he).1
  rw[h1] at hl
  cases hl)
 rw[hx,← hn] at this
 exact this
theorem wpX_op {φ:Value→World→Prop}{k d:Nat}{o:Oper}{ts:List Value}{ds:List Deferred}{w:World}{tv:List Value}(ho:ops[k]?=some o)(htv:ts=tv)
 (h:∀ K:Act→World→Prop,(∀ v w',KW w w'→φ v w'→K ⟨(tv.set d v).toArray,ds⟩ w') →
   if Region.wanted o (yielded ops tv.toArray)=true then Oper.wp P o ⟨tv.toArray,ds⟩ w K Q else K (Act.put ⟨tv.toArray,ds⟩ o.dst undef) w):
 wpOp P ops Q k (fun a' w'=>∃ v,a'=⟨(ts.set d v).toArray,ds⟩∧KW w w'∧φ v w') ⟨ts.toArray,ds⟩ w:=by
 subst htv
 have h1:=h (fun a' w'=>∃ v,a'=⟨(ts.set d v).toArray,ds⟩∧KW w w'∧φ v w') (fun v w' h2 h3=>⟨v,rfl,h2,h3⟩)
 unfold wpOp
 simp only[ho]
 split
 ·rename_i hw
  rw[if_pos hw] at h1
  exact .inl h1
 ·rename_i hw
  rwa [if_neg hw] at h1
end
def apart (v u:Value):Prop:=∀ b,v.ownBlock=some b→u.ownBlock≠some b
def AllA (H:List (Nat×Nat))(sep:Nat→Nat→Bool)(dn:Nat→Bool)(x:Nat→Value):Prop:=∀ e∈H,∀ e'∈H,dn e.1=true→dn e'.1=true→e.1≠e'.1→sep e.1 e'.1=true→apart (x e.1) (x e'.1)
def NewA (H:List (Nat×Nat))(sep:Nat→Nat→Bool)(dn:Nat→Bool)(x:Nat→Value)(i:Nat)(v:Value):Prop:=∀ e'∈H,dn e'.1=true→e'.1≠i→sep i e'.1=true→apart v (x e'.1)
theorem NewA.fresh {H:List (Nat×Nat)}{sep:Nat→Nat→Bool}{dn:Nat→Bool}{x:Nat→Value}{i:Nat}{v:Value}{w:World}(hb:∀ e'∈H,dn e'.1=true→∀ b,(x e'.1).ownBlock=some b→b<w.heap.size)(hv:∀ b,v.ownBlock=some b→w.heap.size≤b):NewA H sep dn x i v:=fun e' he' hd _ _ b h1 h2=>by
 have:=hb e' he' hd b h2
 have:=hv b h1
 omega
theorem NewA.none {H:List (Nat×Nat)}{sep:Nat→Nat→Bool}{dn:Nat→Bool}{x:Nat→Value}{i:Nat}{v:Value}(hv:v.ownBlock=none):NewA H sep dn x i v:=fun e' he' hd _ _ b h1 h2=>by rw[hv] at h1;cases h1
theorem NewA.copy {H:List (Nat×Nat)}{sep:Nat→Nat→Bool}{dn:Nat→Bool}{x:Nat→Value}{i j d:Nat}(ha:AllA H sep dn x)(hj:(j,d)∈H)(hd:dn j=true)(hs:∀ e∈H,sep i e.1=true→e.1≠j∧sep j e.1=true):NewA H sep dn x i (x j):=fun e' he' hd' _ hsp b h1 h2=>
 ha (j,d) hj e' he' hd hd' (Ne.symm (hs e' he' hsp).1) (hs e' he' hsp).2 b h1 h2
section
variable {P : Program} {ops : Array Oper} {Q : Exit → Act → World → Prop} {md : Region.Mode} {S : World → Prop} {L : Nat}
theorem wpX_manyO (H:List (Nat×Nat))(sep:Nat→Nat→Bool)(hsym:∀ i j,sep i j=sep j i)(φ:Nat→Value→World→Prop)(W0:World)(m:Nat){n:Nat}{l:Array Bool}{ts:List Value}{ds:List Deferred}{w:World}(hn:n=H.length+m)(hok:okMany md ops H l=true)(hsz:l.size=ops.size)
 (hS:∀ w',KW W0 w'→S w') (hφ:∀ e∈H,∀ v w w',φ e.1 v w→KW w w'→φ e.1 v w') (hw:KW W0 w) (hlt:∀ e∈H,∀ v w,φ e.1 v w→∀ b,v.ownBlock=some b→b<w.heap.size)
 (hop:∀ e∈H,∀ (x:Nat→Value) (w:World),KW W0 w→(∀ e'∈H,Region.waitsFor md ops e.1 e'.1=true→φ e'.1 (x e'.1) w)→∀ dn:Nat→Bool,(∀ e'∈H,Region.waitsFor md ops e.1 e'.1=true→dn e'.1=true)→(∀ e'∈H,dn e'.1=true→∀ b,(x e'.1).ownBlock=some b→b<w.heap.size)→AllA H sep dn x →
   wpOp P ops Q e.1 (fun a' w'=>∃ v,a'=⟨((upd H x ts).set e.2 v).toArray,ds⟩∧KW w w'∧(φ e.1 v w'∧NewA H sep dn x e.1 v)) ⟨(upd H x ts).toArray,ds⟩ w)
 (hend:∀ (x:Nat→Value) (w:World),KW W0 w→(∀ e∈H,φ e.1 (x e.1) w)→AllA H sep (fun _=>true) x→wpX P md ops Q S L m (mark H l) ⟨(upd H x ts).toArray,ds⟩ w):
 wpX P md ops Q S L n l ⟨ts.toArray,ds⟩ w:=by
 obtain⟨hn1,hn2,hall,hrest⟩:=okMany_spec hok
 have key:∀ (k:Nat) (l':Array Bool) (x:Nat→Value) (w:World),(undone H l').length=k→l'.size=l.size→(∀ j,j∉H.map Prod.fst→l'[j]?=l[j]?)→KW W0 w→(∀ e∈H,l'.getD e.1 false=true→φ e.1 (x e.1) w)→AllA H sep (fun i=>l'.getD i false) x →
  wpX P md ops Q S L (k+m) l' ⟨(upd H x ts).toArray,ds⟩ w:=by
  intro k
  induction k with
  | zero=>
    intro l' x w hk hs hl hw hx hR
    have hdone:∀ e∈H,l'.getD e.1 true=true:=by
     intro e he
     have h0:undone H l'=[]:=List.length_eq_zero_iff.1 hk
     unfold undone at h0
     rw[List.filter_eq_nil_iff] at h0
     simpa using h0 e he
    have hlt:∀ e∈H,e.1<l'.size:=fun e he=>by
     obtain⟨_,o,ho,_⟩:=hall e he
     have:=(Array.getElem?_eq_some_iff.1 ho).1
     omega
    have hd2:∀ e∈H,l'.getD e.1 false=true:=fun e he=>by
     have h1:=hdone e he
     have h2:=hlt e he
     simp[h2] at h1 ⊢
     exact h1
    have e:l'=mark H l:=by
     apply Array.ext_getElem?
     intro j
     rw[mark_get]
     split
     ·rename_i h
      obtain⟨e,he,rfl⟩:=List.mem_map.1 h.1
      have h1:=hdone e he
      have h2:=hlt e he
      simp[h2] at h1 ⊢
      exact h1
     ·rename_i h
      by_cases hj:j∈H.map Prod.fst
      ·have:¬ j<l.size:=fun h0=>h ⟨hj,h0⟩
       rw[Array.getElem?_eq_none (by omega),Array.getElem?_eq_none (by omega)]
      ·exact hl j hj
    rw[Nat.zero_add,e]
    exact hend x w hw (fun e he=>hx e he (hd2 e he)) fun e he e' he' _ _=>hR e he e' he' (hd2 e he) (hd2 e' he')
  | succ k ih=>
    intro l' x w hk hs hl hw hx hR
    have hne:undone H l'≠[]:=fun h0=>by rw[h0] at hk;cases hk
    rw[Nat.succ_add]
    have hmem:∀ i∈Region.ready md ops l',∃ d,(i,d)∈H:=by
     intro i hi
     obtain⟨hi0,o,ho,hdep⟩:=mem_ready.1 hi
     by_cases hiH:i∈H.map Prod.fst
     ·obtain⟨e,he,rfl⟩:=List.mem_map.1 hiH
      exact⟨e.2,he⟩
     ·exfalso
      have hi1:l.getD i true=false:=by
       have:=hl i hiH
       rw[Array.getD_eq_getD_getElem?] at hi0 ⊢
       rw[← this];exact hi0
      obtain⟨e,he⟩:=List.exists_mem_of_ne_nil _ hne
      unfold undone at he
      rw[List.mem_filter] at he
      have hu:=hrest i (Array.getElem?_eq_some_iff.1 ho).1 hi1 hiH e he.1
      obtain⟨o',ho',q,hq,hb,hon⟩:=Region.waitsFor_spec hu
      rw[ho] at ho'
      cases ho'
      have h5:=hdep q hq hb
      rw[hon] at h5
      have h6:l'.getD e.1 true=false:=by simpa using he.2
      rw[getD_both h6] at h5
      cases h5
    refine⟨fun h0=>?_,fun i hi=>?_⟩
    ·
     exfalso
     have hleast:∃ e∈undone H l',∀ e'∈undone H l',e.1≤e'.1:=by
      clear hk ih
      revert hne
      generalize undone H l'=U
      intro hne
      induction U with
      | nil=>exact absurd rfl hne
      | cons a U ihU=>
        cases U with
        | nil=>exact⟨a,by simp,by simp⟩
        | cons b U=>
          obtain⟨e,he,hle⟩:=ihU (by simp)
          by_cases hae:a.1≤e.1
          ·exact⟨a,by simp,fun e' he'=>by
            rcases List.mem_cons.1 he' with rfl|he'
            ·exact Nat.le_refl _
            ·exact Nat.le_trans hae (hle e' he')⟩
          ·exact⟨e,List.mem_cons_of_mem _ he,fun e' he'=>by
            rcases List.mem_cons.1 he' with rfl|he'
            ·omega
            ·exact hle e' he'⟩
     obtain⟨e,he,hle⟩:=hleast
     have heH:=(List.mem_filter.1 he).1
     have he0:l'.getD e.1 true=false:=by simpa using (List.mem_filter.1 he).2
     obtain⟨_,o,ho,_,hdep⟩:=hall e heH
     have:e.1∈Region.ready md ops l':=by
      refine mem_ready.2 ⟨he0,o,ho,fun q hq hb=>?_⟩
      obtain⟨hlt,hor⟩:=hdep q hq hb
      by_cases hqH:q.on∈H.map Prod.fst
      ·obtain⟨e',he',hqe⟩:=List.mem_map.1 hqH
       by_cases hd:l'.getD q.on true=false
       ·have h7:e'∈undone H l':=by unfold undone;rw[List.mem_filter];exact⟨he',by rw[hqe,hd];rfl⟩
        have:=hle e' h7
        omega
       ·have h8:l'.getD q.on true=true:=by simpa using hd
        obtain⟨_,o',ho',_⟩:=hall e' he'
        have h9:=(Array.getElem?_eq_some_iff.1 ho').1
        have h10:q.on<l'.size:=by omega
        simp[h10] at h8 ⊢
        exact h8
      ·rcases hor with hor|hor
       ·have:=hl q.on hqH
        rw[Array.getD_eq_getD_getElem?] at hor ⊢
        rw[this];exact hor
       ·exact absurd hor hqH
     rw[h0] at this
     cases this
    ·obtain⟨d,hd⟩:=hmem i hi
     obtain⟨hi0,o,ho,hdep⟩:=mem_ready.1 hi
     have hwd:∀ e'∈H,Region.waitsFor md ops i e'.1=true→l'.getD e'.1 false=true:=fun e' he' hwf=>by
      obtain⟨o',ho',q,hq,hb,hon⟩:=Region.waitsFor_spec hwf
      rw[ho] at ho'
      cases ho'
      have h5:=hdep q hq hb
      rw[hon] at h5
      exact h5
     refine wpOp_mono ?_ (hop (i,d) hd x w hw (fun e' he' hwf=>hx e' he' (hwd e' he' hwf)) (fun j=>l'.getD j false) hwd (fun e' he' hdn b hb=>hlt e' he' _ _ (hx e' he' hdn) b hb) hR)
     ·rintro a' w' ⟨v,rfl,hk',hv,hvb⟩
      have hw':KW W0 w':=hw.trans (Below.mono (show Below _ _ _ from hk') hw.size)
      refine⟨fun _=>hS w' hw',?_⟩
      rw[upd_set hn1 hn2 hd]
      refine ih _ _ w' (by have:=undone_set hn1 hd hi0;simp only at this;omega) (by simpa using hs) (fun j hj=>?_) hw' (fun e he hl'=>?_) (fun e he e' he' hl1 hl2 hne hsp b hb=>?_)
      ·have:i≠j:=fun h0=>hj (h0 ▸ List.mem_map.2 ⟨(i,d),hd,rfl⟩)
       rw[Array.getElem?_setIfInBounds_ne this]
       exact hl j hj
      ·by_cases hei:e.1=i
       ·rw[if_pos hei,hei];exact hv
       ·rw[if_neg hei]
        refine hφ e he _ _ _ (hx e he ?_) hk'
        rwa [getD_set_ne false (Ne.symm hei)] at hl'
      ·simp only at hl1 hl2
       by_cases hei:e.1=i
       ·rw[if_pos hei] at hb
        have hne':e'.1≠i:=fun h0=>hne (hei.trans h0.symm)
        rw[if_neg hne']
        rw[getD_set_ne false (Ne.symm hne')] at hl2
        exact hvb e' he' hl2 hne' (hei ▸ hsp) b hb
       ·rw[if_neg hei] at hb
        rw[getD_set_ne false (Ne.symm hei)] at hl1
        by_cases hei':e'.1=i
        ·rw[if_pos hei']
         intro hb2
         exact hvb e he hl1 hei ((hsym _ _).trans (hei' ▸ hsp)) b hb2 hb
        ·rw[if_neg hei']
         rw[getD_set_ne false (Ne.symm hei')] at hl2
         exact hR e he e' he' hl1 hl2 hne hsp b hb
 have hx0:∃ x:Nat→Value,upd H x ts=ts:=by
  refine⟨fun i=>ts.getD (((ops[i]?).bind (·.dst)).getD 0) undef,upd_self fun e he=>?_⟩
  obtain⟨_,o,ho,hdst,_⟩:=hall e he
  simp only[ho,Option.bind_some,hdst,Option.getD_some]
  exact set_own _ _ _
 obtain⟨x,hx⟩:=hx0
 have hk:(undone H l).length=H.length:=by
  unfold undone
  rw[List.filter_eq_self.2 fun e he=>by rw[(hall e he).1];rfl]
 have:=key H.length l x w hk rfl (fun _ _=>rfl) hw (fun e he hl=>by
  have h1:=getD_both (hall e he).1
  rw[h1] at hl
  cases hl) (fun e he e' he' hl _=>by
  have h1:=getD_both (hall e he).1
  simp only at hl
  rw[h1] at hl
  cases hl)
 rw[hx,← hn] at this
 exact this
end
end Go.Proofs.YtphppbonljdibaaGreat
