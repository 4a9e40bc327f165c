import Derived.Test.YtphppbonljdibaaGreatTB10
set_option maxRecDepth 100000
set_option maxHeartbeats 4000000
set_option linter.unusedVariables false
set_option linter.unusedSimpArgs false
namespace Go.Proofs.YtphppbonljdibaaGreat
open Go.ChangeShapes Go.WideShapes Go.ChangeAt Go.RowKit
theorem texec_any (gt TL ct:Nat)(T0:List Int)(Ac:Option Addr)(cc gr N cr:Nat)(C:List Fl.I)(u:List Fl.O)(R0:List Int)(w:World)(hC:CodeM w Ac C)(hCo:0<C.length→∀ b,Ac=some ⟨b,0,none⟩→b≠gr∧b≠gt)
 (hR:RegM w (.slice (some ⟨gr,0,none⟩) N cr) R0) (hRl:R0.length=N) (hcd:∃ d,Fl.Cd 0 C u d∧d≤8) (hul:u.length≤65536) (hok:∀ o∈u,Rok N o) (hvs:∀ i∈C,0≤i.o.v∧i.o.v<18446744073709551616) (hsm:C.length≤4096) (hT:RegM w (.slice (some ⟨gt,0,none⟩) TL ct) T0) (hTl:T0.length=TL) (hul2:u.length≤TL) (hne:gr≠gt) (hTL:TL≤1048576):
 Calls Tryz.prog 225 #[.slice Ac C.length cc,.slice (some ⟨gr,0,none⟩) N cr,.slice (some ⟨gt,0,none⟩) TL ct] w fun e w'=>e=.returned (.int .i64 (u.length:Nat))∧RegM w' (.slice (some ⟨gr,0,none⟩) N cr) (Fl.sts R0 u)∧Keep (fun b=>b=gr∨b=gt) w w'∧∃ T,RegM w' (.slice (some ⟨gt,0,none⟩) TL ct) T∧T.length=TL∧T.take u.length=Fl.tps R0 u:=by
 obtain⟨dd,hcd,hd8⟩:=hcd
 obtain⟨n0,hrun⟩:=hcd.whole hd8
 have HRun:=hid hrun
 have hgl0:gr<w.heap.size:=hR.lt rfl
 have hgt0:gt<w.heap.size:=hT.lt rfl
 obtain⟨gl,hgl⟩:∃ gl,gl=w.heap.size:=⟨_,rfl⟩
 have HLf:=hid (LeftM.new w)
 have hk0:=(KW.refl w).alloc (.cells #[.int .u64 0,.int .u64 0,.int .u64 0,.int .u64 0,.int .u64 0,.int .u64 0,.int .u64 0,.int .u64 0] 276)
 have HK0:=hid hk0
 have HC0:=hid (hC.kw hk0)
 have HR0:=hid (hR.kw hk0)
 have HT0:=hid (hT.kw hk0)
 have HTl:=hid hTl
 have HTk:Hid (0+u.length=u.length):=hid (by omega)
 have HTt:Hid (T0.take 0++Fl.tps R0 u=Fl.tps R0 u):=hid rfl
 have HUT:=hid hul2
 have HCo:Hid (0<C.length→∀ b,Ac=some ⟨b,0,none⟩→¬ (fun b=>b=gl∨b=gr∨b=gt) b):=hid fun h0 b hb h=>by
  obtain⟨b2,hb2,hb3,_⟩:=hC h0
  rw[hb2] at hb
  cases hb
  have:=hCo h0 b hb2
  omega
 have HRl:=hid hRl
 have HUl:=hid hul
 have HOk:=hid hok
 have HVs:=hid hvs
 have HSm:=hid hsm
 clear hC hCo hR hRl hcd hul hok hvs hsm hrun hk0 hT hTl hul2
 rw[← hgl] at HLf
 have HGl:=hid hgl
 have hgrl:gr<gl:=by omega
 have hgtl:gt<gl:=by omega
 generalize hTF:Fl.tps R0 u=TF at *
 have HTt:Hid (T0.take 0++Fl.tps R0 u=TF):=hid (by rw[hTF];rfl)
 clear hTF
 generalize hUL:u.length=UL at *
 have HUL:=hid hUL
 clear hUL
 clear hgl
 generalize hRF:Fl.sts R0 u=RF at *
 have HRF:=hid hRF
 clear hRF
 generalize hM:C.length=M at *
 have HM:=hid hM
 clear hM
 go_enter Tryz.func225,Tryz.ntmps225
 go_wp2_with fail
 generalize hW0:w.alloc (.cells #[.int .u64 0,.int .u64 0,.int .u64 0,.int .u64 0,.int .u64 0,.int .u64 0,.int .u64 0,.int .u64 0] 276)=W0 at HLf HK0 HC0 HR0 HT0 ⊢
 have HC:=HC0
 have hglW:gl<W0.heap.size:=HLf.out.lt
 refine wp_scope_goto 0 (fun n a' wr=>∃ (u11 u12 u13 u14 u15 u16 u17 u18 u19 u20 u21 u22 u23 u24 u25 u26 u27 u28 u29 u30 u31 u32 u33 u34 u35 u36 u37 u38 u39 u40 u41 u42 u43 u44 u45 u46 u47 u48 u49 u50 u51 u52 u53 u54 u55 u56 u57 u58 u59 u60 u61 u62 u63 u64 u65 u66 u67 u68 u69 u70 u71 u72 u73 u74 u75 u76 u77 u78:Value) (p k:Nat) (stk:List Nat) (us:List Fl.O) (R:List Int) (T:List Int),a' = { tmps:=#[.slice Ac M cc,.slice (some ⟨gr,0,none⟩) N cr,.slice (some ⟨gt,0,none⟩) TL ct,undef,undef,undef,.int .i64 0,.pointer (some ⟨gl,0,none⟩),.int .i64 p,.int .i64 stk.length,.int .i64 k,u11,u12,u13,u14,u15,u16,u17,u18,u19,u20,u21,u22,u23,u24,u25,u26,u27,u28,u29,u30,u31,u32,u33,u34,u35,u36,u37,u38,u39,u40,u41,u42,u43,u44,u45,u46,u47,u48,u49,u50,u51,u52,u53,u54,u55,u56,u57,u58,u59,u60,u61,u62,u63,u64,u65,u66,u67,u68,u69,u70,u71,u72,u73,u74,u75,u76,u77,u78],defers:=[] }∧Hid (Fl.Run C p stk us n)∧Hid (LeftM wr gl stk)∧Hid (RegM wr (.slice (some ⟨gr,0,none⟩) N cr) R)∧Hid (R.length=N)∧Hid (Fl.sts R us=RF)∧Hid (k+us.length≤65536)∧Hid (stk.length≤8)∧Hid (∀ m∈stk,m<18446744073709551616)∧Hid (∀ o∈us,Rok N o)∧Hid (RegM wr (.slice (some ⟨gt,0,none⟩) TL ct) T)∧Hid (T.length=TL)∧Hid (k+us.length=UL)∧Hid (T.take k++Fl.tps R us=TF)∧Hid (Keep (fun b=>b=gl∨b=gr∨b=gt) W0 wr)) rfl ?_ ?_
 ·rintro n a' wr ⟨u11,u12,u13,u14,u15,u16,u17,u18,u19,u20,u21,u22,u23,u24,u25,u26,u27,u28,u29,u30,u31,u32,u33,u34,u35,u36,u37,u38,u39,u40,u41,u42,u43,u44,u45,u46,u47,u48,u49,u50,u51,u52,u53,u54,u55,u56,u57,u58,u59,u60,u61,u62,u63,u64,u65,u66,u67,u68,u69,u70,u71,u72,u73,u74,u75,u76,u77,u78,p,k,stk,us,R,T,rfl,HRun,HL,HR,HRl,HS,HKn,HDp,HSt,HOk,HT,HTl,HTk,HTt,HK⟩
  have hr:=HRun.out
  have hne:((k:Int)==(-1:Int))=false:=beq_eq_false_iff_ne.2 (by omega)
  cases hr with
  | halt=>
    have hM:=HM.out
    subst hM
    have HE:Hid (R=RF):=HS
    have HKx:=hid (HK0.out.keep.t HK.out)
    go_wp2_with fail
    simp only[Exit.jump]
    have hkU:k=UL:=by have:=HTk.out;simp at this;omega
    subst hkU
    go_ret
    exact⟨rfl,by rw[← HE.out];exact HR.out,HK0.out.keep.trans HK.out fun i hi ho=>ho.elim (fun h=>by have:=HGl.out;omega) id,T,HT.out,HTl.out,by have:=HTt.out;simpa [Fl.tps] using this⟩
  | @rep _ _ i _ n' m h hk hv hd r=>
    have hpl:p<C.length:=(List.getElem?_eq_some_iff.1 h).1
    have hvs:=HVs.out i (List.mem_of_getElem? h)
    obtain⟨bc,hAc,hbc,c0,c1,c2,c3,c4,c5⟩:=(HC.out.keep HK.out (by rw[HM.out];exact HCo.out)).at_ hpl
    have hAc2:=hAc
    subst hAc
    rw[getD_get h] at c0 c1 c2 c3 c4 c5
    obtain⟨⟨k1,d,a,bb,vv⟩,t⟩:=i
    try simp only at c0 c1 c2 c3 c4 c5 hvs
    have HRes:=hid r
    have hpM:p<M:=by rw[← HM.out];exact hpl
    have hp4:p≤1099511627776:=by have:=HSm.out;omega
    have L1:((p:Int)==(M:Int))=false:=beq_eq_false_iff_ne.2 (by omega)
    subst hk
    subst hv
    have hkA:=((KW.refl wr).alloc (.cells #[.int .i64 7,.int .i64 d,.int .i64 a,.int .i64 bb,.int .u64 m,.int .i64 t] 278)).alloc (.cells #[.int .i64 7,.int .i64 d,.int .i64 a,.int .i64 bb,.int .u64 m] 83)
    have hLA:=HL.out.kw hkA
    have hdA:stk.length<8:=hd
    obtain⟨f0,⟨x0,d0⟩,_⟩:=hLA.push hd m
    have HL2:=hid (((HL.out.push hd m).2.2).kw (((KW.refl _).alloc (.cells #[.int .i64 7,.int .i64 d,.int .i64 a,.int .i64 bb,.int .u64 m,.int .i64 t] 278)).alloc (.cells #[.int .i64 7,.int .i64 d,.int .i64 a,.int .i64 bb,.int .u64 m] 83)))
    have hkg:Keep (fun b=>b=gl∨b=gr∨b=gt) wr (wr.setCell ⟨gl,stk.length,none⟩ (.int .u64 (m:Nat))):=(Keep.refl _ wr).setCell _ _ (.inl rfl)
    have HR2:=hid ((HR.out.keep (own:=(· = gl)) ((Keep.refl _ wr).setCell ⟨gl,stk.length,none⟩ (.int .u64 (m:Nat)) rfl) (fun b hb h=>by have:gr=b:=Option.some.inj hb;omega)).kw (((KW.refl _).alloc (.cells #[.int .i64 7,.int .i64 d,.int .i64 a,.int .i64 bb,.int .u64 m,.int .i64 t] 278)).alloc (.cells #[.int .i64 7,.int .i64 d,.int .i64 a,.int .i64 bb,.int .u64 m] 83)))
    have HT2:=hid ((HT.out.keep (own:=(· = gl)) ((Keep.refl _ wr).setCell ⟨gl,stk.length,none⟩ (.int .u64 (m:Nat)) rfl) (fun b hb h=>by have:gt=b:=Option.some.inj hb;omega)).kw (((KW.refl _).alloc (.cells #[.int .i64 7,.int .i64 d,.int .i64 a,.int .i64 bb,.int .u64 m,.int .i64 t] 278)).alloc (.cells #[.int .i64 7,.int .i64 d,.int .i64 a,.int .i64 bb,.int .u64 m] 83)))
    have HK2:=hid (((HK.out.t hkg).alloc (.cells #[.int .i64 7,.int .i64 d,.int .i64 a,.int .i64 bb,.int .u64 m,.int .i64 t] 278)).alloc (.cells #[.int .i64 7,.int .i64 d,.int .i64 a,.int .i64 bb,.int .u64 m] 83))
    have hglr:gl<wr.heap.size:=HL.out.lt
    have HDp2:Hid ((m::stk).length≤8):=hid (by simp;omega)
    have HSt2:Hid (∀ x∈m::stk,x<18446744073709551616):=hid fun x hx=>by
     rcases List.mem_cons.1 hx with rfl|hx
     ·omega
     ·exact HSt.out x hx
    clear hLA hkg hkA h r
    go_wp2_with fail
    (try go_step3)
    refine⟨rfl,n',Nat.lt_succ_self _,?_⟩
    exact⟨_,_,_,_,_,_,_,_,_,_,_,_,_,_,_,_,_,_,_,_,_,_,_,_,_,_,_,_,_,_,_,_,_,_,_,_,_,_,_,_,_,_,_,_,_,_,_,_,_,_,_,_,_,_,_,_,_,_,_,_,_,_,_,_,_,_,_,_,p+1,k,m::stk,us,R,T,rfl,HRes,HL2,HR2,HRl,HS,HKn,HDp2,HSt2,HOk,HT2,HTl,HTk,HTt,HK2⟩
  | @again _ stk i _ n' m t0 h hk ht r=>
    have hpl:p<C.length:=(List.getElem?_eq_some_iff.1 h).1
    have hvs:=HVs.out i (List.mem_of_getElem? h)
    obtain⟨bc,hAc,hbc,c0,c1,c2,c3,c4,c5⟩:=(HC.out.keep HK.out (by rw[HM.out];exact HCo.out)).at_ hpl
    have hAc2:=hAc
    subst hAc
    rw[getD_get h] at c0 c1 c2 c3 c4 c5
    obtain⟨⟨k1,d,a,bb,vv⟩,t⟩:=i
    try simp only at c0 c1 c2 c3 c4 c5 hvs
    have HRes:=hid r
    have hpM:p<M:=by rw[← HM.out];exact hpl
    have hp4:p≤1099511627776:=by have:=HSm.out;omega
    have L1:((p:Int)==(M:Int))=false:=beq_eq_false_iff_ne.2 (by omega)
    have ht':t=(t0:Int):=ht
    subst ht'
    subst hk
    have hkA:=((KW.refl wr).alloc (.cells #[.int .i64 0,.int .i64 d,.int .i64 a,.int .i64 bb,.int .u64 vv,.int .i64 t0] 278)).alloc (.cells #[.int .i64 0,.int .i64 d,.int .i64 a,.int .i64 bb,.int .u64 vv] 83)
    have hdA:stk.length<8:=by have:=HDp.out;simp at this;omega
    obtain⟨f0,d0,hset,hpop⟩:=HL.out.top hdA
    have hset1:=hset (m+1)
    have hLA:=hset1.kw (((KW.refl _).alloc (.cells #[.int .i64 0,.int .i64 d,.int .i64 a,.int .i64 bb,.int .u64 vv,.int .i64 t0] 278)).alloc (.cells #[.int .i64 0,.int .i64 d,.int .i64 a,.int .i64 bb,.int .u64 vv] 83))
    have hglr:gl<wr.heap.size:=HL.out.lt
    have hglA:gl<((wr.alloc (.cells #[.int .i64 0,.int .i64 d,.int .i64 a,.int .i64 bb,.int .u64 vv,.int .i64 t0] 278)).alloc (.cells #[.int .i64 0,.int .i64 d,.int .i64 a,.int .i64 bb,.int .u64 vv] 83)).heap.size:=by simp;omega
    have d0A:=(Below.cell hkA hglr).trans d0
    have f0A:((wr.alloc (.cells #[.int .i64 0,.int .i64 d,.int .i64 a,.int .i64 bb,.int .u64 vv,.int .i64 t0] 278)).alloc (.cells #[.int .i64 0,.int .i64 d,.int .i64 a,.int .i64 bb,.int .u64 vv] 83)).frozen? ⟨gl,stk.length,none⟩=false:=(World.frozen?_of_block (w:=wr) (Below.block hkA gl hglr)).trans f0
    have hkg:Keep (fun b=>b=gl∨b=gr∨b=gt) wr (wr.setCell ⟨gl,stk.length,none⟩ (.int .u64 (m+1:Nat))):=(Keep.refl _ wr).setCell _ _ (.inl rfl)
    have HR2:=hid ((HR.out.keep (own:=(· = gl)) ((Keep.refl _ wr).setCell ⟨gl,stk.length,none⟩ (.int .u64 (m+1:Nat)) rfl) (fun b hb h=>by have:gr=b:=Option.some.inj hb;omega)).kw (((KW.refl _).alloc (.cells #[.int .i64 0,.int .i64 d,.int .i64 a,.int .i64 bb,.int .u64 vv,.int .i64 t0] 278)).alloc (.cells #[.int .i64 0,.int .i64 d,.int .i64 a,.int .i64 bb,.int .u64 vv] 83)))
    have HT2:=hid ((HT.out.keep (own:=(· = gl)) ((Keep.refl _ wr).setCell ⟨gl,stk.length,none⟩ (.int .u64 (m+1:Nat)) rfl) (fun b hb h=>by have:gt=b:=Option.some.inj hb;omega)).kw (((KW.refl _).alloc (.cells #[.int .i64 0,.int .i64 d,.int .i64 a,.int .i64 bb,.int .u64 vv,.int .i64 t0] 278)).alloc (.cells #[.int .i64 0,.int .i64 d,.int .i64 a,.int .i64 bb,.int .u64 vv] 83)))
    have HK2:=hid (((HK.out.t hkg).alloc (.cells #[.int .i64 0,.int .i64 d,.int .i64 a,.int .i64 bb,.int .u64 vv,.int .i64 t0] 278)).alloc (.cells #[.int .i64 0,.int .i64 d,.int .i64 a,.int .i64 bb,.int .u64 vv] 83))
    have hm64:m+2<18446744073709551616:=HSt.out _ (by simp)
    have HL2:=hid hLA
    have d1:(wr.setCell ⟨gl,stk.length,none⟩ (.int .u64 ((m+1:Nat):Int))).cell? ⟨gl,stk.length,none⟩=some (.int .u64 ((m+1:Nat):Int)):=(hset1.top hdA).2.1
    have hm1:((m+1:Nat):Int)=(m:Int)+2 - 1:=by omega
    rw[hm1] at HL2 HR2 HK2 d1 HT2
    have hpos:(0:Int)<(m:Int)+2 - 1:=by omega
    have HDp2:Hid (((m+1)::stk).length≤8):=hid (by simp;omega)
    have HSt2:Hid (∀ x∈(m+1)::stk,x<18446744073709551616):=hid fun x hx=>by
     rcases List.mem_cons.1 hx with rfl|hx
     ·omega
     ·exact HSt.out x (List.mem_cons_of_mem _ hx)
    clear hLA hkg hkA h r ht hset hset1 hpop d0 f0 hm1
    simp only[List.length_cons] at *
    go_wp2_with fail
    (try go_step3)
    refine⟨rfl,n',Nat.lt_succ_self _,?_⟩
    exact⟨_,_,_,_,_,_,_,_,_,_,_,_,_,_,_,_,_,_,_,_,_,_,_,_,_,_,_,_,_,_,_,_,_,_,_,_,_,_,_,_,_,_,_,_,_,_,_,_,_,_,_,_,_,_,_,_,_,_,_,_,_,_,_,_,_,_,_,_,t0,k,(m+1)::stk,us,R,T,rfl,HRes,HL2,HR2,HRl,HS,HKn,HDp2,HSt2,HOk,HT2,HTl,HTk,HTt,HK2⟩
  | @out _ stk i _ n' h hk r=>
    have hpl:p<C.length:=(List.getElem?_eq_some_iff.1 h).1
    have hvs:=HVs.out i (List.mem_of_getElem? h)
    obtain⟨bc,hAc,hbc,c0,c1,c2,c3,c4,c5⟩:=(HC.out.keep HK.out (by rw[HM.out];exact HCo.out)).at_ hpl
    have hAc2:=hAc
    subst hAc
    rw[getD_get h] at c0 c1 c2 c3 c4 c5
    obtain⟨⟨k1,d,a,bb,vv⟩,t⟩:=i
    try simp only at c0 c1 c2 c3 c4 c5 hvs
    have HRes:=hid r
    have hpM:p<M:=by rw[← HM.out];exact hpl
    have hp4:p≤1099511627776:=by have:=HSm.out;omega
    have L1:((p:Int)==(M:Int))=false:=beq_eq_false_iff_ne.2 (by omega)
    subst hk
    have hkA:=((KW.refl wr).alloc (.cells #[.int .i64 0,.int .i64 d,.int .i64 a,.int .i64 bb,.int .u64 vv,.int .i64 t] 278)).alloc (.cells #[.int .i64 0,.int .i64 d,.int .i64 a,.int .i64 bb,.int .u64 vv] 83)
    have hdA:stk.length<8:=by have:=HDp.out;simp at this;omega
    obtain⟨f0,d0,hset,hpop⟩:=HL.out.top hdA
    have hset1:=hset (0)
    have hLA:=hset1.kw (((KW.refl _).alloc (.cells #[.int .i64 0,.int .i64 d,.int .i64 a,.int .i64 bb,.int .u64 vv,.int .i64 t] 278)).alloc (.cells #[.int .i64 0,.int .i64 d,.int .i64 a,.int .i64 bb,.int .u64 vv] 83))
    have hglr:gl<wr.heap.size:=HL.out.lt
    have hglA:gl<((wr.alloc (.cells #[.int .i64 0,.int .i64 d,.int .i64 a,.int .i64 bb,.int .u64 vv,.int .i64 t] 278)).alloc (.cells #[.int .i64 0,.int .i64 d,.int .i64 a,.int .i64 bb,.int .u64 vv] 83)).heap.size:=by simp;omega
    have d0A:=(Below.cell hkA hglr).trans d0
    have f0A:((wr.alloc (.cells #[.int .i64 0,.int .i64 d,.int .i64 a,.int .i64 bb,.int .u64 vv,.int .i64 t] 278)).alloc (.cells #[.int .i64 0,.int .i64 d,.int .i64 a,.int .i64 bb,.int .u64 vv] 83)).frozen? ⟨gl,stk.length,none⟩=false:=(World.frozen?_of_block (w:=wr) (Below.block hkA gl hglr)).trans f0
    have hkg:Keep (fun b=>b=gl∨b=gr∨b=gt) wr (wr.setCell ⟨gl,stk.length,none⟩ (.int .u64 (0:Nat))):=(Keep.refl _ wr).setCell _ _ (.inl rfl)
    have HR2:=hid ((HR.out.keep (own:=(· = gl)) ((Keep.refl _ wr).setCell ⟨gl,stk.length,none⟩ (.int .u64 (0:Nat)) rfl) (fun b hb h=>by have:gr=b:=Option.some.inj hb;omega)).kw (((KW.refl _).alloc (.cells #[.int .i64 0,.int .i64 d,.int .i64 a,.int .i64 bb,.int .u64 vv,.int .i64 t] 278)).alloc (.cells #[.int .i64 0,.int .i64 d,.int .i64 a,.int .i64 bb,.int .u64 vv] 83)))
    have HT2:=hid ((HT.out.keep (own:=(· = gl)) ((Keep.refl _ wr).setCell ⟨gl,stk.length,none⟩ (.int .u64 (0:Nat)) rfl) (fun b hb h=>by have:gt=b:=Option.some.inj hb;omega)).kw (((KW.refl _).alloc (.cells #[.int .i64 0,.int .i64 d,.int .i64 a,.int .i64 bb,.int .u64 vv,.int .i64 t] 278)).alloc (.cells #[.int .i64 0,.int .i64 d,.int .i64 a,.int .i64 bb,.int .u64 vv] 83)))
    have HK2:=hid (((HK.out.t hkg).alloc (.cells #[.int .i64 0,.int .i64 d,.int .i64 a,.int .i64 bb,.int .u64 vv,.int .i64 t] 278)).alloc (.cells #[.int .i64 0,.int .i64 d,.int .i64 a,.int .i64 bb,.int .u64 vv] 83))
    have hm64:1<18446744073709551616:=HSt.out _ (by simp)
    have HL2:=hid (((hset 0).top hdA).2.2.2.kw (((KW.refl _).alloc (.cells #[.int .i64 0,.int .i64 d,.int .i64 a,.int .i64 bb,.int .u64 vv,.int .i64 t] 278)).alloc (.cells #[.int .i64 0,.int .i64 d,.int .i64 a,.int .i64 bb,.int .u64 vv] 83)))
    have d1:(wr.setCell ⟨gl,stk.length,none⟩ (.int .u64 0)).cell? ⟨gl,stk.length,none⟩=some (.int .u64 0):=(hset1.top hdA).2.1
    have HDp2:Hid (stk.length≤8):=hid (by omega)
    have HSt2:Hid (∀ x∈stk,x<18446744073709551616):=hid fun x hx=>HSt.out x (List.mem_cons_of_mem _ hx)
    clear hLA hkg hkA h r hset hset1 hpop d0 f0
    simp only[List.length_cons] at *
    go_wp2_with fail
    (try go_step3)
    refine⟨rfl,n',Nat.lt_succ_self _,?_⟩
    exact⟨_,_,_,_,_,_,_,_,_,_,_,_,_,_,_,_,_,_,_,_,_,_,_,_,_,_,_,_,_,_,_,_,_,_,_,_,_,_,_,_,_,_,_,_,_,_,_,_,_,_,_,_,_,_,_,_,_,_,_,_,_,_,_,_,_,_,_,_,p+1,k,stk,us,R,T,rfl,HRes,HL2,HR2,HRl,HS,HKn,HDp2,HSt2,HOk,HT2,HTl,HTk,HTt,HK2⟩
  | @op _ _ i us n' h hw r=>
    have hpl:p<C.length:=(List.getElem?_eq_some_iff.1 h).1
    have hvs:=HVs.out i (List.mem_of_getElem? h)
    obtain⟨bc,hAc,hbc,c0,c1,c2,c3,c4,c5⟩:=(HC.out.keep HK.out (by rw[HM.out];exact HCo.out)).at_ hpl
    have hAc2:=hAc
    subst hAc
    rw[getD_get h] at c0 c1 c2 c3 c4 c5
    obtain⟨⟨k1,d,a,bb,vv⟩,t⟩:=i
    try simp only at c0 c1 c2 c3 c4 c5 hvs
    have HRes:=hid r
    have hpM:p<M:=by rw[← HM.out];exact hpl
    have hp4:p≤1099511627776:=by have:=HSm.out;omega
    have L1:((p:Int)==(M:Int))=false:=beq_eq_false_iff_ne.2 (by omega)
    obtain⟨⟨hk1,hk2⟩,⟨hd0,hd1⟩,⟨ha0,ha1⟩,⟨hb0,hb1⟩⟩:=HOk.out _ (List.mem_cons_self ..)
    simp only at hk1 hk2 hd0 hd1 ha0 ha1 hb0 hb1
    obtain⟨dn,rfl⟩:∃ dn:Nat,d=dn:=⟨d.toNat,by omega⟩
    obtain⟨an,rfl⟩:∃ an:Nat,a=an:=⟨a.toNat,by omega⟩
    obtain⟨bn,rfl⟩:∃ bn:Nat,bb=bn:=⟨bb.toNat,by omega⟩
    have e7:(k1==7)=false:=beq_eq_false_iff_ne.2 (by omega)
    have e0:(k1==0)=false:=beq_eq_false_iff_ne.2 (by omega)
    have hdN:dn<N:=by omega
    have haN:an<N:=by omega
    have hbN:bn<N:=by omega
    have HdR:Hid (dn<R.length):=by rw[HRl.out];exact hid hdN
    have HaR:Hid (an<R.length):=by rw[HRl.out];exact hid haN
    have HbR:Hid (bn<R.length):=by rw[HRl.out];exact hid hbN
    have HTl2:=hid HTl.out
    have hkT:k<T.length:=by have h1:=HTk.out;have h2:=HUT.out;have h3:=HTl.out;simp at h1;omega
    have hkTL:k<TL:=by rw[← HTl.out];exact hkT
    have hct:TL≤ct:=by
     obtain⟨_,_,hv,hc⟩:=HT.out.row
     rw[HTl.out] at hv hc
     cases hv
     exact hc
    obtain⟨xd,hxd⟩:∃ xd,R.getD dn 0=xd:=⟨_,rfl⟩
    have HXD:=hid hxd
    obtain⟨_,cD,_,_⟩:=HR.out.at_ HdR.out
    rw[hxd] at cD
    obtain⟨htl,cT,fT,hTset⟩:=HT.out.at_ hkT
    have hkA0:=((KW.refl wr).alloc (.cells #[.int .i64 k1,.int .i64 (dn:Int),.int .i64 (an:Int),.int .i64 (bn:Int),.int .u64 vv,.int .i64 t] 278)).alloc (.cells #[.int .i64 k1,.int .i64 (dn:Int),.int .i64 (an:Int),.int .i64 (bn:Int),.int .u64 vv] 83)
    have hgrw0:gr<wr.heap.size:=HR.out.lt rfl
    have cD:=(Below.cell hkA0 hgrw0).trans cD
    have cT:=(Below.cell hkA0 htl).trans cT
    have fT:((wr.alloc (.cells #[.int .i64 k1,.int .i64 (dn:Int),.int .i64 (an:Int),.int .i64 (bn:Int),.int .u64 vv,.int .i64 t] 278)).alloc (.cells #[.int .i64 k1,.int .i64 (dn:Int),.int .i64 (an:Int),.int .i64 (bn:Int),.int .u64 vv] 83)).frozen? ⟨gt,k,none⟩=false:=(World.frozen?_of_block (w:=wr) (Below.block hkA0 gt htl)).trans fT
    have hgrA:gr<((wr.alloc (.cells #[.int .i64 k1,.int .i64 (dn:Int),.int .i64 (an:Int),.int .i64 (bn:Int),.int .u64 vv,.int .i64 t] 278)).alloc (.cells #[.int .i64 k1,.int .i64 (dn:Int),.int .i64 (an:Int),.int .i64 (bn:Int),.int .u64 vv] 83)).heap.size:=by simp;omega
    have hgtA:gt<((wr.alloc (.cells #[.int .i64 k1,.int .i64 (dn:Int),.int .i64 (an:Int),.int .i64 (bn:Int),.int .u64 vv,.int .i64 t] 278)).alloc (.cells #[.int .i64 k1,.int .i64 (dn:Int),.int .i64 (an:Int),.int .i64 (bn:Int),.int .u64 vv] 83)).heap.size:=by simp;omega
    have hkt:Keep (· = gt) wr (wr.setCell ⟨gt,k,none⟩ (.int .u64 xd)):=(Keep.refl _ wr).setCell _ _ rfl
    have HTb:=hid (hTset xd)
    have HRb:=hid (HR.out.keep hkt fun b hb h=>by have:gr=b:=Option.some.inj hb;omega)
    have HLb:=hid (HL.out.keep hkt (by omega))
    have HKb:=hid (HK.out.t (hkt.mono (own':=fun b=>b=gl∨b=gr∨b=gt) fun i _ hi=>.inr (.inr hi)))
    have hxk:k≤65536:=by have h1:=HKn.out;simp at h1;omega
    clear hkA0 hTset hkt hxd
    have HkA:=hid (((KW.refl (wr.setCell ⟨gt,k,none⟩ (.int .u64 xd))).alloc (.cells #[.int .i64 k1,.int .i64 (dn:Int),.int .i64 (an:Int),.int .i64 (bn:Int),.int .u64 vv,.int .i64 t] 278)).alloc (.cells #[.int .i64 k1,.int .i64 (dn:Int),.int .i64 (an:Int),.int .i64 (bn:Int),.int .u64 vv] 83))
    have hcr:N≤cr:=by
     obtain⟨_,_,hv,hc⟩:=HR.out.row
     rw[HRl.out] at hv hc
     cases hv
     exact hc
    have HNe:=hid (heap_alloc_new ((wr.setCell ⟨gt,k,none⟩ (.int .u64 xd)).alloc (.cells #[.int .i64 k1,.int .i64 (dn:Int),.int .i64 (an:Int),.int .i64 (bn:Int),.int .u64 vv,.int .i64 t] 278)) (.cells #[.int .i64 k1,.int .i64 (dn:Int),.int .i64 (an:Int),.int .i64 (bn:Int),.int .u64 vv] 83))
    rw[show((wr.setCell ⟨gt,k,none⟩ (.int .u64 xd)).alloc (.cells #[.int .i64 k1,.int .i64 (dn:Int),.int .i64 (an:Int),.int .i64 (bn:Int),.int .u64 vv,.int .i64 t] 278)).heap.size=wr.heap.size+1 by simp] at HNe
    have HQ:Hid (∀ w',KW (((wr.setCell ⟨gt,k,none⟩ (.int .u64 xd)).alloc (.cells #[.int .i64 k1,.int .i64 (dn:Int),.int .i64 (an:Int),.int .i64 (bn:Int),.int .u64 vv,.int .i64 t] 278)).alloc (.cells #[.int .i64 k1,.int .i64 (dn:Int),.int .i64 (an:Int),.int .i64 (bn:Int),.int .u64 vv] 83)) w'→w'.cell? ⟨wr.heap.size+1,0,none⟩=some (.int .i64 k1)∧w'.cell? ⟨wr.heap.size+1,1,none⟩=some (.int .i64 (dn:Int))∧w'.cell? ⟨wr.heap.size+1,2,none⟩=some (.int .i64 (an:Int))∧w'.cell? ⟨wr.heap.size+1,3,none⟩=some (.int .i64 (bn:Int))∧w'.cell? ⟨wr.heap.size+1,4,none⟩=some (.int .u64 vv)∧wr.heap.size+1<w'.heap.size):=hid fun w' hw=>by
     have hlt:wr.heap.size+1<(((wr.setCell ⟨gt,k,none⟩ (.int .u64 xd)).alloc (.cells #[.int .i64 k1,.int .i64 (dn:Int),.int .i64 (an:Int),.int .i64 (bn:Int),.int .u64 vv,.int .i64 t] 278)).alloc (.cells #[.int .i64 k1,.int .i64 (dn:Int),.int .i64 (an:Int),.int .i64 (bn:Int),.int .u64 vv] 83)).heap.size:=by simp
     refine⟨(Below.cell hw hlt).trans ?_,(Below.cell hw hlt).trans ?_,(Below.cell hw hlt).trans ?_,(Below.cell hw hlt).trans ?_,(Below.cell hw hlt).trans ?_,Nat.lt_of_lt_of_le hlt (Below.size hw)⟩<;>(unfold World.cell?;rw[HNe.out];rfl)
    obtain⟨x,hx⟩:∃ x,R.getD an 0=x:=⟨_,rfl⟩
    obtain⟨y,hy⟩:∃ y,R.getD bn 0=y:=⟨_,rfl⟩
    have HX:=hid hx
    have HY:=hid hy
    clear hx hy
    have HAp:=hid (fun x y W=>oapply_any k1 dn an bn vv x y W)
    unfold opv at HAp
    have hgrw:gr<wr.heap.size:=HR.out.lt rfl
    clear h r hw
    go_wp2_with fail
    obtain⟨_,ca,_,_⟩:=(HRb.out.kw HkA.out).at_ HaR.out
    obtain⟨_,cb,_,_⟩:=(HRb.out.kw HkA.out).at_ HbR.out
    rw[HX.out] at ca
    rw[HY.out] at cb
    obtain⟨q0,q1,q2,q3,q4,ql⟩:=HQ.out _ (KW.refl _)
    have hXS:=And.intro q0 (And.intro q1 (And.intro q2 (And.intro q3 (And.intro q4 (And.intro ca cb)))))
    refine wpX_region (S:=fun w'=>w'.cell? ⟨wr.heap.size+1,0,none⟩=some (.int .i64 k1)∧w'.cell? ⟨wr.heap.size+1,1,none⟩=some (.int .i64 (dn:Int))∧w'.cell? ⟨wr.heap.size+1,2,none⟩=some (.int .i64 (an:Int))∧w'.cell? ⟨wr.heap.size+1,3,none⟩=some (.int .i64 (bn:Int))∧w'.cell? ⟨wr.heap.size+1,4,none⟩=some (.int .u64 vv)∧w'.cell? ⟨gr,an,none⟩=some (.int .u64 (x))∧w'.cell? ⟨gr,bn,none⟩=some (.int .u64 (y))) (L:=16) (by kernel_rfl) ?_
    refine tk 0 ?_ (fun _ _=>?_) hXS ?_;rotate_left;· go_simp;try rfl
    simp only[lsz,lss]
    refine tk 1 ?_ (fun _ _=>?_) hXS ?_;rotate_left;· go_simp;try rfl
    simp only[lsz,lss]
    refine tk 2 ?_ (fun _ _=>?_) hXS ?_;rotate_left;· go_simp;try rfl
    simp only[lsz,lss]
    refine tk 3 ?_ (fun _ _=>?_) hXS ?_;rotate_left;· go_simp;try rfl
    simp only[lsz,lss]
    refine tk 4 ?_ (fun _ _=>?_) hXS ?_;rotate_left;· go_simp;try rfl
    simp only[lsz,lss]
    refine tk 5 ?_ (fun _ _=>?_) hXS ?_;rotate_left;· go_simp;try rfl
    simp only[lsz,lss]
    refine tk 6 ?_ (fun _ _=>?_) hXS ?_;rotate_left;· go_simp;try rfl
    simp only[lsz,lss]
    refine tk 7 ?_ (fun _ _=>?_) hXS ?_;rotate_left;· go_simp;try rfl
    simp only[lsz,lss]
    refine tk 8 ?_ (fun _ _=>?_) hXS ?_;rotate_left;· go_simp;try rfl
    simp only[lsz,lss]
    refine tk 9 ?_ (fun _ _=>?_) hXS ?_;rotate_left;· go_simp;try rfl
    simp only[lsz,lss]
    refine tk 10 ?_ (fun _ _=>?_) hXS ?_;rotate_left;· go_simp;try rfl
    simp only[lsz,lss]
    refine tk 11 ?_ (fun _ _=>?_) hXS ?_;rotate_left;· go_simp;try rfl
    simp only[lsz,lss]
    refine tk 12 ?_ (fun _ _=>?_) hXS ?_;rotate_left;· go_simp;try rfl
    simp only[lsz,lss]
    refine tk 13 ?_ (fun _ _=>?_) hXS ?_;rotate_left;· go_simp;try rfl
    simp only[lsz,lss]
    refine wpX_hard (k:=14) (by kernel_rfl) rfl (fun K hK=>?_)
    go_simp
    refine(HAp.out _ _ _).mono ?_
    rintro e w5 ⟨rfl,hk5'⟩
    have hk5:KW (((wr.setCell ⟨gt,k,none⟩ (.int .u64 xd)).alloc (.cells #[.int .i64 k1,.int .i64 (dn:Int),.int .i64 (an:Int),.int .i64 (bn:Int),.int .u64 vv,.int .i64 t] 278)).alloc (.cells #[.int .i64 k1,.int .i64 (dn:Int),.int .i64 (an:Int),.int .i64 (bn:Int),.int .u64 vv] 83)) w5:=(KW.refl _).drew.t hk5'
    have HR5:=hid (HRb.out.kw (HkA.out.t hk5))
    have HK5:=hid hk5
    clear hk5 hk5' q0 q1 q2 q3 q4 ql ca cb hXS
    obtain⟨_,ca,_,_⟩:=HR5.out.at_ HaR.out
    obtain⟨_,cb,_,_⟩:=HR5.out.at_ HbR.out
    rw[HX.out] at ca
    rw[HY.out] at cb
    obtain⟨_,cd,fd,hset⟩:=HR5.out.at_ HdR.out
    obtain⟨q0,q1,q2,q3,q4,ql⟩:=HQ.out _ HK5.out
    have hXS:=And.intro q0 (And.intro q1 (And.intro q2 (And.intro q3 (And.intro q4 (And.intro ca cb)))))
    refine hK _ _ (fun _=>hXS) ?_
    clear hK K
    try simp only[lsz,lss]
    refine tk 15 ?_ (fun _ _=>?_) hXS ?_;rotate_left;· go_simp;try rfl
    simp only[lsz,lss]
    refine wpX_hard (k:=16) (by kernel_rfl) rfl (fun K hK=>?_)
    go_simp
    refine hK _ _ (fun h=>absurd rfl h) ?_
    clear hK K
    try simp only[lsz,lss]
    refine wpX_done (by kernel_rfl) ?_
    have HSet:=hid (hset (Oc.app k1 x y vv))
    have hkg:Keep (· = gr) w5 (w5.setCell ⟨gr,dn,none⟩ (.int .u64 (Oc.app k1 x y vv))):=(Keep.refl _ w5).setCell _ _ rfl
    have hgne:wr.heap.size+1≠gr:=by omega
    have q0':=(hkg.cell (b:=wr.heap.size+1) (o:=0) ql hgne).trans q0
    have q1':=(hkg.cell (b:=wr.heap.size+1) (o:=1) ql hgne).trans q1
    have q2':=(hkg.cell (b:=wr.heap.size+1) (o:=2) ql hgne).trans q2
    have q3':=(hkg.cell (b:=wr.heap.size+1) (o:=3) ql hgne).trans q3
    have q4':=(hkg.cell (b:=wr.heap.size+1) (o:=4) ql hgne).trans q4
    have ql':=Nat.lt_of_lt_of_le ql hkg.size
    have HKg:=hid hkg
    have HS2:Hid (Fl.sts (R.set dn (Oc.app k1 x y vv)) us=RF):=by rw[← HX.out,← HY.out];exact HS
    have HRl2:Hid ((R.set dn (Oc.app k1 x y vv)).length=N):=by rw[List.length_set];exact HRl
    have HSt1:Hid (Fl.st1 R (⟨k1,dn,an,bn,vv⟩:Fl.O)=R.set dn (Oc.app k1 x y vv)):=by rw[← HX.out,← HY.out];exact hid rfl
    clear hXS q0 q1 q2 q3 q4 ql ca cb cd fd hset hkg
    generalize Oc.app k1 x y vv=nv at *
    have HK8:=hid ((HKb.out.t ((HkA.out.t HK5.out).keep)).t (HKg.out.mono (own':=fun b=>b=gl∨b=gr∨b=gt) fun i _ hi=>.inr (.inl hi)))
    have HL8:=hid ((HLb.out.kw (HkA.out.t HK5.out)).keep HKg.out (by omega))
    have HT8:=hid ((HTb.out.kw (HkA.out.t HK5.out)).keep HKg.out fun b hb h=>by have:gt=b:=Option.some.inj hb;omega)
    have HKn2:Hid (k+1+us.length≤65536):=by have:=HKn.out;simp at this;exact hid (by omega)
    have HTl3:Hid ((T.set k xd).length=TL):=by rw[List.length_set];exact HTl
    have HTk3:Hid (k+1+us.length=UL):=by have:=HTk.out;simp at this;exact hid (by omega)
    have HTt3:Hid ((T.set k xd).take (k+1)++Fl.tps (R.set dn nv) us=TF):=hid <| by
     have h1:=HTt.out
     have h2:Fl.tps R ((⟨k1,dn,an,bn,vv⟩:Fl.O)::us)=xd::Fl.tps (R.set dn nv) us:=by
      show Fl.rg R (dn:Int)::Fl.tps (Fl.st1 R ⟨k1,dn,an,bn,vv⟩) us=_
      have h3:Fl.st1 R (⟨k1,dn,an,bn,vv⟩:Fl.O)=R.set dn nv:=HSt1.out
      rw[h3]
      rw[← HXD.out]
      rfl
     rw[h2] at h1
     rw[← h1,List.take_succ_eq_append_getElem (by rw[List.length_set];exact hkT),List.take_set_of_le (Nat.le_refl k)]
     simp
    have HOk2:Hid (∀ o∈us,Rok N o):=hid fun o ho=>HOk.out o (List.mem_cons_of_mem _ ho)
    clear q0' q1' q2' q3' q4' ql'
    go_wp2_with fail
    go_step3
    refine⟨rfl,n',Nat.lt_succ_self _,?_⟩
    exact⟨_,_,_,_,_,_,_,_,_,_,_,_,_,_,_,_,_,_,_,_,_,_,_,_,_,_,_,_,_,_,_,_,_,_,_,_,_,_,_,_,_,_,_,_,_,_,_,_,_,_,_,_,_,_,_,_,_,_,_,_,_,_,_,_,_,_,_,_,p+1,k+1,stk,us,R.set dn nv,T.set k xd,rfl,HRes,HL8,HSet,HRl2,HS2,HKn2,HDp,HSt,HOk2,HT8,HTl3,HTk3,HTt3,HK8⟩
 ·intro hp
  go_wp2_with fail
  refine wp_label ?_
  rename_i hK
  refine hK _ _ (hp n0 _ _ ?_)
  rw[← HGl.out]
  exact⟨_,_,_,_,_,_,_,_,_,_,_,_,_,_,_,_,_,_,_,_,_,_,_,_,_,_,_,_,_,_,_,_,_,_,_,_,_,_,_,_,_,_,_,_,_,_,_,_,_,_,_,_,_,_,_,_,_,_,_,_,_,_,_,_,_,_,_,_,0,0,[],u,R0,T0,rfl,HRun,HLf,HR0,HRl,HRF,hid (by have:=HUl.out;have:=HUL.out;omega),hid (by simp),hid (fun m hm=>absurd hm (by simp)),HOk,HT0,HTl,hid (by have:=HUL.out;omega),HTt,Keep.refl _ _⟩
end Go.Proofs.YtphppbonljdibaaGreat
