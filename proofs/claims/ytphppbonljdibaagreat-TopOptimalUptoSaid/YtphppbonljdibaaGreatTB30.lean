import Derived.Test.YtphppbonljdibaaGreatTB29
import Derived.Test.YtphppbonljdibaaGreatTB32
import Derived.Test.YtphppbonljdibaaGreatTB09
import Derived.Test.YtphppbonljdibaaGreatTB19
set_option maxRecDepth 100000
set_option maxHeartbeats 4000000
set_option linter.unusedVariables false
set_option linter.unusedSimpArgs false
namespace Go.Proofs.YtphppbonljdibaaGreat
open Go.ChangeShapes Go.WideShapes Go.ChangeAt Go.RowKit
theorem ewaits (be:Nat)(F:FuncId)(D:Ds)(S:Dy)(b:Bool)(r:Option Mc.Act)(w:World)(h:EnM w be F D S b)(hx:NxP be F D S b r):
 Calls Tryz.prog 26 #[.pointer (some ⟨be,0,none⟩)] w fun e w'=>e=.returned (.bool (!r.isSome&&decide (D.h.mode=2) && !b))∧KW w w':=by
 have HSt:=hid (estill be F D S b r w h hx)
 have HC:=hid (fun W (hW:KW w W)=>And.intro ((h.kw hW).cell (i:=1) (by omega)) ((h.kw hW).cell (i:=3) (by omega)))
 have HC':Hid (∀ W,KW w W→W.cell? ⟨be,1,none⟩=some (.int .i64 D.h.mode)∧W.cell? ⟨be,3,none⟩=some (.bool b)):=HC
 generalize D.h.mode=m at *
 clear h hx HC
 cases hq:r.isSome with
 | true=>
   rw[hq] at HSt
   clear hq
   generalize hR:(!true&&decide (m=2) && !b)=R
   obtain rfl:R=false:=by rw[← hR];rfl
   clear hR
   go_enter Tryz.func26,Tryz.ntmps26
   go_wp2_with fail
   refine HSt.out.mono ?_
   rintro e w1 ⟨rfl,hk1⟩
   have HK1:=hid hk1
   clear hk1
   go_wp2_with fail
   go_ret
   exact⟨rfl,HK1.out⟩
 | false=>
   rw[hq] at HSt
   clear hq
   generalize hR:(!false&&decide (m=2) && !b)=R
   have HR:=hid hR
   clear hR
   by_cases hm:m=2
   ·subst hm
    obtain rfl:R = !b:=by rw[← HR.out];rfl
    clear HR
    go_enter Tryz.func26,Tryz.ntmps26
    go_wp2_with fail
    refine HSt.out.mono ?_
    rintro e w1 ⟨rfl,hk1⟩
    have HK1:=hid hk1
    obtain⟨c1,c3⟩:=HC'.out w1 hk1
    clear hk1
    go_wp2_with fail
    go_ret
    exact⟨rfl,HK1.out⟩
   ·obtain rfl:R=false:=by rw[← HR.out,decide_eq_false hm];rfl
    have hm2:(m==2)=false:=beq_eq_false_iff_ne.2 hm
    clear HR hm
    go_enter Tryz.func26,Tryz.ntmps26
    go_wp2_with fail
    refine HSt.out.mono ?_
    rintro e w1 ⟨rfl,hk1⟩
    have HK1:=hid hk1
    obtain⟨c1,c3⟩:=HC'.out w1 hk1
    clear hk1
    go_wp2_with fail
    go_ret
    exact⟨rfl,HK1.out⟩
theorem spot_pe8 (a p:Int)(A:Option Addr)(N c:Nat)(W:World):(Instr.field 58 (.agg #[.int .i64 a,.int .i64 p,.slice A N c]) 1).run Tryz.prog W=.ok (.int .i64 p) W:=by kernel_rfl
theorem edone (be:Nat)(F:FuncId)(D:Ds)(S:Dy)(b:Bool)(r:Option Mc.Act)(w:World)(h:EnM w be F D S b)(hx:NxP be F D S b r):
 Calls Tryz.prog 31 #[.pointer (some ⟨be,0,none⟩)] w fun e w'=>e=.returned (.bool (!r.isSome&&decide (S.pend=0)))∧KW w w':=by
 have HSt:=hid (estill be F D S b r w h hx)
 have HSp:=hid (fun W (hW:KW w W)=>espot be F D S b W (h.kw hW))
 generalize S.pend=p at *
 generalize hta:S.tags=tg at *
 generalize S.at_=at_ at *
 clear h hx hta
 cases hq:r.isSome with
 | true=>
   rw[hq] at HSt
   clear hq
   generalize hR:(!true&&decide (p=0))=R
   obtain rfl:R=false:=by rw[← hR];rfl
   clear hR
   go_enter Tryz.func31,Tryz.ntmps31
   go_wp2_with fail
   refine HSt.out.mono ?_
   rintro e w1 ⟨rfl,hk1⟩
   have HK1:=hid hk1
   clear hk1
   go_wp2_with fail
   go_ret
   exact⟨rfl,HK1.out⟩
 | false=>
   rw[hq] at HSt
   clear hq
   generalize hR:(!false&&decide (p=0))=R
   have HR:=hid hR
   clear hR
   go_enter Tryz.func31,Tryz.ntmps31
   go_wp2_with fail
   refine HSt.out.mono ?_
   rintro e w1 ⟨rfl,hk1⟩
   have HK1:=hid hk1
   clear hk1
   go_wp2_with fail
   refine(HSp.out w1 HK1.out).mono ?_
   rintro e w2 ⟨v,rfl,ho2,hk2⟩
   obtain⟨A2,c2,rfl,_⟩:=ho2.row
   have HK2:=hid (HK1.out.t hk2)
   clear ho2 hk2
   generalize (ivs tg).length=N at *
   have hsp:=spot_pe8 at_ p A2 N c2
   go_wp2_with fail
   go_ret
   refine⟨?_,HK2.out⟩
   rw[← HR.out]
   rcases Decidable.em (p=0) with h|h
   ·subst h;rfl
   ·rw[beq_eq_false_iff_ne.2 h,decide_eq_false h];rfl
theorem dmore (D:Ds)(S:Dy)(w:World)(h:DrM w D S)(hm:D.h.mode=2)(hp:S.pend<0)(hl:S.l<65535):Calls Tryz.prog 65 #[.pointer (some ⟨D.bd,0,none⟩)] w fun e w'=>e=.returned (.int .i64 0)∧DrM w' D { S with l:=S.l+1 }∧Keep (· = D.bd) w w':=by
 have c4:w.cell? ⟨D.bd,4,none⟩=some (.int .i64 2):=by rw[← hm];exact h.cell (i:=4) (by omega)
 have c17:w.cell? ⟨D.bd,17,none⟩=some (.int .i64 S.l):=h.cell (i:=17) (by omega)
 have c19:w.cell? ⟨D.bd,19,none⟩=some (.int .i64 S.pend):=h.cell (i:=19) (by omega)
 have f17:w.frozen? ⟨D.bd,17,none⟩=false:=World.rowIs.frozen h.row 17
 have d1:decide (0≤S.pend)=false:=decide_eq_false (by omega)
 have d2:((S.l:Int)==65535)=false:=beq_eq_false_iff_ne.2 (by omega)
 have hwL:IntKind.i64.wrap ((S.l:Int)+1)=((S.l+1:Nat):Int):=IntWalk.i64_in _ (by omega)
 have HD:=hid (h.setL (S.l+1))
 have HK:=hid ((Keep.refl (· = D.bd) w).setCell ⟨D.bd,17,none⟩ (.int .i64 ((S.l+1:Nat):Int)) rfl)
 clear h hm
 go_enter Tryz.func65,Tryz.ntmps65
 go_wp2_with fail
 go_ret
 exact⟨rfl,HD.out,HK.out⟩
theorem efeed_end (be:Nat)(F:FuncId)(D:Ds)(S:Dy)(w:World)(h:EnM w be F D S false)(hx:NxP be F D S false none)(hm:D.h.mode=2):
 Calls Tryz.prog 27 #[.pointer (some ⟨be,0,none⟩),.bool false] w fun e w'=>e=.returned (.int .i64 0)∧EnM w' be F D S true∧Keep (· = be) w w':=by
 have HW:=hid (ewaits be F D S false none w h hx)
 rw[hm] at HW
 have c4:w.cell? ⟨be,4,none⟩=some (.bool false):=h.cell (i:=4) (by omega)
 have HE:=hid h
 clear h hx hm
 go_enter Tryz.func27,Tryz.ntmps27
 go_wp2_with fail
 clear c4
 refine HW.out.mono ?_
 rintro e w1 ⟨rfl,hk1⟩
 have HE1:=hid (HE.out.kw hk1)
 have HK1:=hid hk1
 have c3:w1.cell? ⟨be,3,none⟩=some (.bool false):=HE1.out.cell (i:=3) (by omega)
 have f3:w1.frozen? ⟨be,3,none⟩=false:=HE1.out.row.frozen 3
 have HE2:=hid (HE1.out.end_ true)
 have HK2:=hid (HK1.out.keep (own:=(· = be)) |>.setCell ⟨be,3,none⟩ (.bool true) rfl)
 clear hk1 HE HE1 HK1 HW
 go_wp2_with fail
 go_ret
 exact⟨rfl,HE2.out,HK2.out⟩
theorem efeed_more (be:Nat)(F:FuncId)(D:Ds)(S:Dy)(w:World)(h:EnM w be F D S false)(hx:NxP be F D S false none)(hm:D.h.mode=2)(hp:S.pend<0)(hl:S.l<65535):
 Calls Tryz.prog 27 #[.pointer (some ⟨be,0,none⟩),.bool true] w fun e w'=>e=.returned (.int .i64 0)∧EnM w' be F D { S with l:=S.l+1 } false∧Keep (fun b=>D.own b∨b=be) w w':=by
 have HW:=hid (ewaits be F D S false none w h hx)
 have HMo:=hid (fun W (hW:KW w W)=>dmore D S W (h.kw hW).dr hm hp hl)
 rw[hm] at HW
 have c4:w.cell? ⟨be,4,none⟩=some (.bool false):=h.cell (i:=4) (by omega)
 have HE:=hid h
 clear h hx hm
 go_enter Tryz.func27,Tryz.ntmps27
 go_wp2_with fail
 clear c4
 refine HW.out.mono ?_
 rintro e w1 ⟨rfl,hk1⟩
 have HE1:=hid (HE.out.kw hk1)
 have HK1:=hid hk1
 have c0:w1.cell? ⟨be,0,none⟩=some (.pointer (some ⟨D.bd,0,none⟩)):=HE1.out.cell (i:=0) (by omega)
 clear hk1 HE HW
 go_wp2_with fail
 clear c0
 refine(HMo.out w1 HK1.out).mono ?_
 rintro e w2 ⟨rfl,hd2,hk2⟩
 have HE2:=hid (HE1.out.drive hd2 (hk2.mono fun b _ e=>.inl e))
 have HK2:Hid (Keep (fun b=>D.own b∨b=be) w w2):=hid (HK1.out.kt (hk2.mono fun b _ e=>.inl (.inl e)))
 clear hd2 hk2 HE1 HK1 HMo
 have c4:w2.cell? ⟨be,4,none⟩=some (.bool false):=HE2.out.cell (i:=4) (by omega)
 have f4:w2.frozen? ⟨be,4,none⟩=false:=HE2.out.row.frozen 4
 have hE3:EnM (w2.setCell ⟨be,4,none⟩ (.bool false)) be F D { S with l:=S.l+1 } false:=
  ⟨(World.rowIs.set HE2.out.row 4 (.bool false)).congr fun i hi=>by rcases five' hi with rfl|rfl|rfl|rfl|rfl<;>rfl,HE2.out.dr.keepK HE2.out.low ((Keep.refl (· = be) w2).setCell _ _ rfl) fun b e=>by omega,HE2.out.low⟩
 have HE3:=hid hE3
 have HK3:Hid (Keep (fun b=>D.own b∨b=be) w (w2.setCell ⟨be,4,none⟩ (.bool false))):=hid (HK2.out.setCell ⟨be,4,none⟩ (.bool false) (.inr rfl))
 clear hE3 HE2 HK2
 go_wp2_with fail
 go_ret
 exact⟨rfl,HE3.out,HK3.out⟩
def enF (m:Int):FuncId:=if m=1 then 106 else 107
theorem third_new (w:World)(a b o:Obj):(((w.alloc a).alloc b).alloc o).drew.heap[w.heap.size+1+1]?=some o:=by
 have h:=heap_alloc_new ((w.alloc a).alloc b) o
 rw[show((w.alloc a).alloc b).heap.size=w.heap.size+1+1 by simp] at h
 exact h
theorem eof (m:Int)(hm:m=1∨m=2)(bd:Nat)(xA:Option Addr)(xn xc:Nat)(tA:Option Addr)(tn tc:Nat)(n1:Int)(sA:Option Addr)(sn sc:Nat)(n2:Int)(lA:Option Addr)(ln lc:Nat)(len words:Int)(w:World):
 Calls Tryz.prog 62 #[.agg #[.int .i64 m,.slice xA xn xc,.slice tA tn tc,.int .i64 n1,.slice sA sn sc,.int .i64 n2,.slice lA ln lc,.int .i64 len,.int .i64 words],.pointer (some ⟨bd,0,none⟩)] w fun e w'=>∃ be,e=.returned (.pointer (some ⟨be,0,none⟩))∧w.heap.size≤be∧KW w w'∧w'.heap[be]?=some (.cells #[.pointer (some ⟨bd,0,none⟩),.int .i64 m,.func (.func (enF m)) #[] #[],.bool false,.bool false] 123 (0,0)):=by
 have key:∀ G:FuncId,(m=1∧G=106)∨(m=2∧G=107)→Calls Tryz.prog 62 #[.agg #[.int .i64 m,.slice xA xn xc,.slice tA tn tc,.int .i64 n1,.slice sA sn sc,.int .i64 n2,.slice lA ln lc,.int .i64 len,.int .i64 words],.pointer (some ⟨bd,0,none⟩)] w fun e w'=>∃ be,e=.returned (.pointer (some ⟨be,0,none⟩))∧w.heap.size≤be∧KW w w'∧w'.heap[be]?=some (.cells #[.pointer (some ⟨bd,0,none⟩),.int .i64 m,.func (.func G) #[] #[],.bool false,.bool false] 123 (0,0)):=by
  clear hm
  rintro G (⟨rfl,rfl⟩|⟨rfl,rfl⟩)
  all_goals
   go_enter Tryz.func62,Tryz.ntmps62
   go_wp2_with fail
   go_region
   go_wp2_with fail
   go_ret
   exact⟨w.heap.size+1+1,rfl,by omega,((((KW.refl w).alloc _).alloc _).alloc _).drew,third_new w _ _ _⟩
 rcases hm with rfl|rfl
 ·exact key _ (.inl ⟨rfl,rfl⟩)
 ·exact key _ (.inr ⟨rfl,rfl⟩)
theorem enew (h:Hd)(w:World)(hM:HdM w h)(hp:PlOk h)(hm3:h.mode≠3):
 Calls Tryz.prog 24 #[.agg h.v] w fun e w'=>∃ be D xA xc tA tc sA sc lA lc,e=.returned (.tuple #[.pointer (some ⟨be,0,none⟩),.int .i64 0])∧D.h=h.at_ xA xc tA tc sA sc lA lc∧EnM w' be (enF h.mode) D (Dy.new D) false∧(∀ b,D.own b→w.heap.size≤b)∧w.heap.size≤be∧KW w w':=by
 have hk0:=(KW.refl w).alloc (.cells h.v 27)
 have HNw:=hid (dnew h _ (hM.kw hk0) hp hm3)
 have hs0:(w.alloc (.cells h.v 27)).heap.size=w.heap.size+1:=by simp
 have hb:=hp.1.bounds.1
 have HB0:=hid (hdF_new w h (.slice h.xA h.xs.length h.xc) (.slice h.tA h.ts.length h.tc) (.slice h.st.A h.st.l.length h.st.c) (.slice h.lo.A h.lo.l.length h.lo.c))
 have HK0:Hid (KW w (w.alloc (.cells #[.int .i64 h.mode,.slice h.xA h.xs.length h.xc,.slice h.tA h.ts.length h.tc,.int .i64 h.st.n,.slice h.st.A h.st.l.length h.st.c,.int .i64 h.lo.n,.slice h.lo.A h.lo.l.length h.lo.c,.int .i64 h.len,.int .i64 h.words] 27))):=hid hk0
 rw[hs0] at HNw
 clear hk0 hs0 hM hp
 unfold Hd.v hdv at *
 go_enter Tryz.func24,Tryz.ntmps24
 go_wp2_with fail
 refine HNw.out.mono ?_
 rintro e w1 ⟨D,xA,xc,tA,tc,sA,sc,lA,lc,rfl,hD,hdm,hown,hk1⟩
 have HDe:=hid hD
 have HDM:=hid hdm
 have HOw:=hid hown
 have HK1:=hid (HK0.out.t hk1)
 have HB1:=hid (KW.row hk1 HB0.out.lt HB0.out)
 clear hD hdm hown hk1 HNw HB0 HK0
 have b0:=HB1.out.cell (i:=0) (by omega)
 have b1:=HB1.out.cell (i:=1) (by omega)
 have b2:=HB1.out.cell (i:=2) (by omega)
 have b3:=HB1.out.cell (i:=3) (by omega)
 have b4:=HB1.out.cell (i:=4) (by omega)
 have b5:=HB1.out.cell (i:=5) (by omega)
 have b6:=HB1.out.cell (i:=6) (by omega)
 have b7:=HB1.out.cell (i:=7) (by omega)
 have b8:=HB1.out.cell (i:=8) (by omega)
 simp only[hdF] at b0 b1 b2 b3 b4 b5 b6 b7 b8
 have hbl:=HB1.out.lt
 have HOf:=hid (eof h.mode (by omega) D.bd h.xA h.xs.length h.xc h.tA h.ts.length h.tc h.st.n h.st.A h.st.l.length h.st.c h.lo.n h.lo.A h.lo.l.length h.lo.c h.len h.words w1)
 go_wp2_with fail
 refine HOf.out.mono ?_
 rintro e w2 ⟨be,rfl,hbe,hk2,hrow⟩
 have hlow:=HDM.out.low
 have hEn:EnM w2 be (enF h.mode) D (Dy.new D) false:=by
  refine⟨⟨_,hrow,rfl,fun i hi=>?_⟩,HDM.out.kw hk2,⟨by have:=hlow.bd;omega,by have:=hlow.bp;omega,by have:=hlow.ba;omega,by have:=hlow.bw;omega,by have:=hlow.bs;omega,by have:=hlow.bm;omega,hlow.sep.mono fun b h=>by omega⟩⟩
  have hm:D.h.mode=h.mode:=by rw[HDe.out];rfl
  rcases five' hi with rfl|rfl|rfl|rfl|rfl<;>(first|rfl|(show some (Value.int .i64 h.mode)=some (Value.int .i64 D.h.mode);rw[hm]))
 have HEn:=hid hEn
 have HK2:=hid (HK1.out.t hk2)
 have HBe:=hid (Nat.le_trans HK1.out.size hbe)
 clear hbe hk2 hrow hlow hEn HDM b0 b1 b2 b3 b4 b5 b6 b7 b8 hbl HB1 HOf
 go_wp2_with fail
 go_ret2
 exact⟨be,D,xA,xc,tA,tc,sA,sc,lA,lc,rfl,HDe.out,HEn.out,fun b hb=>Nat.le_of_succ_le (HOw.out b hb),HBe.out,HK2.out⟩
structure Bnd (S:Dy)(k:Nat):Prop where
 plain:S.plain≤65536 * k
 taped:S.taped≤k
 losses:S.losses≤k
 sweeps:S.sweeps≤2 * k
theorem Bnd.small {S:Dy}{k:Nat}(h:Bnd S k)(hk:k≤20000):Small S:=⟨by have:=h.plain;omega,by have:=h.taped;omega,by have:=h.losses;omega,by have:=h.sweeps;omega⟩
theorem Bnd.succ {S:Dy}{k:Nat}(h:Bnd S k):Bnd S (k+1):=⟨by have:=h.plain;omega,by have:=h.taped;omega,by have:=h.losses;omega,by have:=h.sweeps;omega⟩
theorem Bnd.act {D:Ds}{S:Dy}{q:Nat}{k n:Int}(h:Bnd S q)(hI:DyI D S)(e:(Mc.step S.mc k n).2=0):Bnd (S.act D k n) (q+1):=by
 have ha:=hI.act e
 have ht:=(Mc.step_tot S.mc k n).2
 have h1:(S.act D k n).mc.tot=(Mc.step S.mc k n).1.tot:=by rw[ha.mc]
 have h2:((S.act D k n).plain:Int)=(S.act D k n).mc.tot:=rfl
 have h3:S.mc.tot=S.plain:=rfl
 have hc:(⟨(S.act D k n).taped,(S.act D k n).losses,(S.act D k n).sweeps⟩:Cn)=S.cn.add k:=ha.cn
 have e1:(S.act D k n).taped=(S.cn.add k).taped:=by rw[← hc]
 have e2:(S.act D k n).losses=(S.cn.add k).losses:=by rw[← hc]
 have e3:(S.act D k n).sweeps=(S.cn.add k).sweeps:=by rw[← hc]
 have d1:(S.cn.add k).taped≤S.taped+1∧(S.cn.add k).losses≤S.losses+1∧(S.cn.add k).sweeps≤S.sweeps+2:=by
  unfold Cn.add Dy.cn
  split
  ·exact⟨by show S.taped≤_;omega,by show S.losses+1≤_;omega,by show S.sweeps+1≤_;omega⟩
  ·split
   ·exact⟨by show S.taped+1≤_;omega,by show S.losses+1≤_;omega,by show S.sweeps+2≤_;omega⟩
   ·split
    ·exact⟨by show S.taped+1≤_;omega,by show S.losses≤_;omega,by show S.sweeps+1≤_;omega⟩
    ·exact⟨by show S.taped≤_;omega,by show S.losses≤_;omega,by show S.sweeps≤_;omega⟩
 have b1:=h.plain
 have b2:=h.taped
 have b3:=h.losses
 have b4:=h.sweeps
 exact⟨by omega,by omega,by omega,by omega⟩
theorem cnt_rep (n:Nat):Mc.cnt (List.replicate n (-1:Int))=0:=by
 induction n with
 | zero=>rfl
 | succ n ih=>rw[List.replicate_succ];simp only[Mc.cnt];rw[ih];rfl
theorem Dy.new_mc (D:Ds):(Dy.new D).mc=Mc.new (D.h.len.toNat:Nat) D.n:=rfl
theorem dyI_new {D:Ds}(hd:DsOk D):DyI D (Dy.new D):=by
 have hb:=hd.ok.1.bounds
 have hs:=(slots_ok D.h hd.ok).2.1
 have hn:=hd.nI
 refine⟨?_,List.length_replicate,?_,Int.le_refl _⟩
 ·rw[Dy.new_mc]
  exact Mc.new_inv _ _ (by omega) (by omega) (by omega)
 ·show(fixW D.h:Int)=_+_ * ((Mc.cnt (List.replicate D.n (-1)):Nat):Int)
  rw[cnt_rep]
  simp
theorem bnd_new (D:Ds):Bnd (Dy.new D) 0:=⟨Nat.le_refl 0,Nat.le_refl 0,Nat.le_refl 0,Nat.le_refl 0⟩
theorem DyI.more {D:Ds}{S:Dy}(h:DyI D S)(hl:S.l<65535):DyI D { S with l:=S.l+1 }:=by
 have i:=h.inv
 refine⟨⟨?_,?_,i.a0,?_,i.p0,?_,fun x hx=>?_,i.ln,i.t0⟩,h.len,h.now,h.most⟩
 ·show(0:Int)≤((S.l+1:Nat):Int);omega
 ·show((S.l+1:Nat):Int)≤65535;omega
 ·have:(S.at_:Int)≤S.l:=i.a1
  show(S.at_:Int)≤((S.l+1:Nat):Int)
  omega
 ·have:S.pend≤S.l:=i.p1
  show S.pend≤((S.l+1:Nat):Int)
  omega
 ·have:=i.tg x hx
  have e:S.mc.l=S.l:=rfl
  refine⟨this.1,?_⟩
  show x≤((S.l+1:Nat):Int)
  omega
def RnT (nx:Dy→Bool→Option Mc.Act)(D:Ds)(m:Int)(l:Int):Nat→Dy→Bool→Nat→List Mc.Act→Dy→Bool→Prop
 | 0,S,b,_,L,S',b'=>L=[]∧S'=S∧b'=b∧nx S b=none∧(m≠2∨b=true)
 | t+1,S,b,fed,L,S',b'=>
   (∃ k n L',L=(k,n)::L'∧nx S b=some (k,n)∧(Mc.step S.mc k n).2=0∧RnT nx D m l t (S.act D k n) b fed L' S' b') ∨
   (nx S b=none∧m=2∧b=false∧((fed+1:Nat):Int)≤l∧S.pend<0∧S.l<65535∧RnT nx D m l t { S with l:=S.l+1 } false (fed+1) L S' b') ∨
   (nx S b=none∧m=2∧b=false∧¬ ((fed+1:Nat):Int)≤l∧RnT nx D m l t S true (fed+1) L S' b')
theorem erun (nx:Dy→Bool→Option Mc.Act)(F:FuncId)(be:Nat)(D:Ds)(S S':Dy)(b':Bool)(T fed:Nat)(l:Int)(L:List Mc.Act)(w:World)(h:EnM w be F D S false)
 (hx:∀ S b,NxP be F D S b (nx S b)) (hR:RnT nx D 1 l T S false fed L S' b') (hI:DyI D S) (hB:Bnd S 0) (hT:T<20000):
 Calls Tryz.prog 37 #[.pointer (some ⟨be,0,none⟩)] w fun e w'=>e=.returned (.tuple #[.int .i64 T,.int .i64 0])∧EnM w' be F D S' b'∧Keep D.own w w':=by
 have HE0:=hid h
 have HX:=hid hx
 have HR0:=hid hR
 have HI0:=hid hI
 have HB0:=hid hB
 have HLw:Hid (∀ b,D.own b→b<w.heap.size):=hid fun b hb=>by
  rcases Nat.lt_or_ge b w.heap.size with h1|h1
  ·exact h1
  ·exact absurd hb (h.dr.low.own h1)
 clear h hx hR hI hB
 go_enter Tryz.func37,Tryz.ntmps37
 go_wp2_with fail
 refine wp_scope_goto 0 (fun n a' wr=>∃ (u5 u6 u7 u8 u9 u10 u11 u12 u13 u14 u15 u16 u17 u18 u19 u20:Value) (q:Nat) (Sq:Dy) (b:Bool) (L2:List Mc.Act),a' = { tmps:=#[.pointer (some ⟨be,0,none⟩),undef,.int .i64 0,.int .i64 0,.int .i64 q,u5,u6,u7,u8,u9,u10,u11,u12,u13,u14,u15,u16,u17,u18,u19,u20],defers:=[] }∧q+n=T∧Hid (RnT nx D 1 l n Sq b fed L2 S' b')∧Hid (EnM wr be F D Sq b)∧Hid (DyI D Sq)∧Hid (Bnd Sq q)∧Hid (Keep D.own w wr)) rfl ?_ ?_
 ·rintro n a' wr ⟨u5,u6,u7,u8,u9,u10,u11,u12,u13,u14,u15,u16,u17,u18,u19,u20,q,Sq,b,L2,rfl,hqn,HRr,HEr,HIr,HBr,HKr⟩
  have L20:(q:Int)<20000:=by omega
  cases n with
  | zero=>
    obtain⟨rfl,rfl,rfl,hnx,hw⟩:=HRr.out
    have HX1:=hid (HX.out S' b')
    rw[hnx] at HX1
    have HSt:=hid (estep_none be _ D S' b' wr HEr.out HX1.out)
    obtain rfl:q=T:=by omega
    go_wp2_with fail
    refine HSt.out.mono ?_
    rintro e w3 ⟨rfl,hk3⟩
    have hk3':=hk3.alloc (.cells #[.int .i64 0,.int .i64 0] 55)
    have HE3:=hid (HEr.out.kw hk3')
    have HK3:=hid (HKr.out.kwt hk3')
    clear hk3 hk3' HSt
    go_wp2_with fail
    simp only[Exit.jump]
    go_ret2
    exact⟨rfl,HE3.out,HK3.out⟩
  | succ t=>
    rcases HRr.out with⟨k,n,L',rfl,hnx,hst,hrn⟩|⟨hnx,hm2,_⟩|⟨hnx,hm2,_⟩
    ·have HX1:=hid (HX.out Sq b)
     rw[hnx] at HX1
     have HSt:=hid (estep_some be _ D Sq b k n wr HEr.out HX1.out HIr.out (HBr.out.small (by omega)) hst)
     have HI2:=hid (HIr.out.act hst).inv
     have HB2:=hid (HBr.out.act HIr.out hst)
     have HRn2:=hid hrn
     clear hnx hst hrn HX1 HRr
     go_wp2_with fail
     refine HSt.out.mono ?_
     rintro e w3 ⟨rfl,he3,hk3⟩
     have HE4:=hid (he3.kw ((KW.refl w3).alloc (.cells #[.int .i64 k,.int .i64 n] 55)))
     have HK4:=hid ((HKr.out.trans hk3 fun i hi ho=>ho).alloc (.cells #[.int .i64 k,.int .i64 n] 55))
     clear he3 hk3 HSt HEr HKr
     go_wp2_with fail
     (try go_step3)
     refine⟨rfl,t,Nat.lt_succ_self _,?_⟩
     exact⟨_,_,_,_,_,_,_,_,_,_,_,_,_,_,_,_,q+1,Sq.act D k n,b,L',rfl,by omega,HRn2,HE4,HI2,HB2,HK4⟩
    ·exact absurd hm2 (by omega)
    ·exact absurd hm2 (by omega)
 ·intro hp
  go_wp2_with fail
  refine wp_label ?_
  rename_i hK
  refine hK _ _ (hp T _ _ ?_)
  exact⟨_,_,_,_,_,_,_,_,_,_,_,_,_,_,_,_,0,S,false,L,rfl,by omega,HR0,HE0,HI0,HB0,Keep.refl _ _⟩
def ResP (D:Ds)(S:Dy)(w:World)(e:Ending)(w':World):Prop:=
 ∃ A B c d,e=.returned (.tuple #[.agg #[.int .u64 S.loss,.slice A (S.get D 5).length c,.slice B (S.get D 6).length d],.int .i64 0])∧Owns w' w.heap.size 81 (.slice A (S.get D 5).length c) (u64s (S.get D 5))∧Owns w' w.heap.size 81 (.slice B (S.get D 6).length d) (u64s (S.get D 6))∧KW w w'
theorem res3_row (w:World):(w.alloc (.cells #[.int .u64 0,.slice none 0 0,.slice none 0 0] 86)).rowIs w.heap.size 86 3 (fun i=>[.int .u64 0,.slice none 0 0,.slice none 0 0].getD i undef):=
 World.rowIs_alloc w #[.int .u64 0,.slice none 0 0,.slice none 0 0] 86 _ fun i hi=>by
  simp at hi
  rcases(show i=0∨i=1∨i=2 by omega) with rfl|rfl|rfl<;>rfl
theorem dresult (D:Ds)(S:Dy)(w:World)(h:DrM w D S)(hp:S.pend=0):
 Calls Tryz.prog 79 #[.pointer (some ⟨D.bd,0,none⟩)] w (ResP D S w):=by
 have hk:=(KW.refl w).alloc (.cells #[.int .u64 0,.slice none 0 0,.slice none 0 0] 86)
 have HC:=hid (fun W (hW:KW w W)=>And.intro ((h.kw hW).cell (i:=19) (by omega)) ((h.kw hW).cell (i:=24) (by omega)))
 have HC':Hid (∀ W,KW w W→W.cell? ⟨D.bd,19,none⟩=some (.int .i64 0)∧W.cell? ⟨D.bd,24,none⟩=some (.int .u64 S.loss)):=hid fun W hW=>⟨by rw[← hp];exact(HC.out W hW).1,(HC.out W hW).2⟩
 have HG5:=hid (fun W (hW:KW w W)=>dget D S 5 W (h.kw hW) (by omega))
 have HG6:=hid (fun W (hW:KW w W)=>dget D S 6 W (h.kw hW) (by omega))
 have HK:=hid hk
 have HG:=hid (res3_row w)
 unfold ResP
 generalize hl5:(S.get D 5)=l5 at *
 generalize hl6:(S.get D 6)=l6 at *
 generalize S.loss=lo at *
 have c19:=(HC'.out _ hk).1
 have HBd:=hid (show D.bd<w.heap.size from World.rowIs.lt h.row)
 clear h hk HC hp hl5 hl6
 go_enter Tryz.func79,Tryz.ntmps79
 go_wp2_with fail
 clear c19
 have hXS:=(HC'.out _ HK.out.drew).2
 refine wpX_region (S:=fun W=>W.cell? ⟨D.bd,24,none⟩=some (.int .u64 lo)) (L:=99) (by kernel_rfl) ?_
 refine tk 0 ?_ (fun _ _=>?_) hXS ?_;rotate_left;· go_simp;try rfl
 simp only[lsz,lss]
 refine tk 1 ?_ (fun _ _=>?_) hXS ?_;rotate_left;· go_simp;try rfl
 simp only[lsz,lss]
 refine tk 2 ?_ (fun _ _=>?_) hXS ?_;rotate_left;· go_simp;try rfl
 simp only[lsz,lss]
 refine tk 3 ?_ (fun _ _=>?_) hXS ?_;rotate_left;· go_simp;try rfl
 simp only[lsz,lss]
 refine tk 4 ?_ (fun _ _=>?_) hXS ?_;rotate_left;· go_simp;try rfl
 simp only[lsz,lss]
 refine tk 6 ?_ (fun _ _=>?_) hXS ?_;rotate_left;· go_simp;try rfl
 simp only[lsz,lss]
 refine wpX_hard (k:=5) (by kernel_rfl) rfl (fun K hK=>?_)
 go_simp
 refine(HG5.out _ HK.out.drew).mono ?_
 rintro e w1 ⟨v,rfl,ho1,hk1'⟩
 have HK1:=hid (HK.out.drew.t hk1')
 obtain⟨A1,c1,rfl,_⟩:=ho1.row
 rw[u64s_len] at ho1 ⊢
 have HO1:=hid ho1
 have HR1:=hid (KW.row hk1' HG.out.drew.lt HG.out.drew)
 have hXS:=(HC'.out w1 HK1.out).2
 refine hK _ _ (fun _=>hXS) ?_
 clear hK K hk1' ho1 HG5 HG
 try simp only[lsz,lss]
 skip
 refine wpX_hard (k:=7) (by kernel_rfl) rfl (fun K hK=>?_)
 go_simp
 refine(HG6.out _ HK1.out).mono ?_
 rintro e w2 ⟨v,rfl,ho2,hk2⟩
 have HK2:=hid (HK1.out.t hk2)
 obtain⟨A2,c2,rfl,_⟩:=ho2.row
 rw[u64s_len] at ho2 ⊢
 have HO1':=hid (HO1.out.on hk2)
 have HO2:=hid ho2
 have HR2:=hid (KW.row hk2 HR1.out.lt HR1.out)
 have hs1:=HK1.out.size
 have HLt1:=hid HR1.out.lt
 have hXS:=(HC'.out w2 HK2.out).2
 refine hK _ _ (fun _=>hXS) ?_
 clear hK K hk2 ho2 HG6 HR1 HO1
 try simp only[lsz,lss]
 refine tk 8 ?_ (fun _ _=>?_) hXS ?_;rotate_left;· go_simp;try rfl
 simp only[lsz,lss]
 have HXS:=hid hXS
 have hbR:=HR2.out.lt
 refine wpX_store_is (k:=9) (by kernel_rfl) rfl rfl rfl 86 _ _ rfl w.heap.size 3 86 _ (fun i=>[.int .u64 lo,.slice A1 l5.length c1,.slice A2 l6.length c2].getD i undef) #[.int .u64 lo,.slice A1 l5.length c1,.slice A2 l6.length c2] rfl rfl HR2.out (by kernel_rfl) rfl (fun i hi=>?_) (fun i hi=>?_) ?_
 ·rcases(show i=0∨i=1∨i=2 by omega) with rfl|rfl|rfl<;>rfl
 ·rcases(show i=0∨i=1∨i=2 by omega) with rfl|rfl|rfl<;>rfl
 intro W3 hrow3 hb3 hkeep3
 have hXS:=hkeep3.cs (show ¬ D.bd=w.heap.size by have:=HBd.out;omega) HXS.out
 refine⟨fun _=>hXS,?_⟩
 clear HXS hrow3 hbR
 refine tk 10 ?_ (fun _ _=>?_) hXS ?_;rotate_left;· go_simp;try rfl
 simp only[lsz,lss]
 refine wpX_done (by kernel_rfl) ?_
 have HB3:=hid hb3
 have HA3:Hid (Owns W3 w.heap.size 81 (.slice A1 l5.length c1) (u64s l5)):=hid ((hkeep3.owns HO1'.out fun b hb e=>by have h1:=(HO1'.out.lt hb).1;simp at h1;omega).base (by simp))
 have HA4:Hid (Owns W3 w.heap.size 81 (.slice A2 l6.length c2) (u64s l6)):=hid ((hkeep3.owns HO2.out fun b hb e=>by have h1:=(HO2.out.lt hb).1;have h2:=HLt1.out;omega).base hs1)
 have HK3:Hid (KW w W3):=hid (HK2.out.kept hkeep3 fun i hi=>by subst hi;exact Nat.le_refl _)
 clear hb3 hkeep3
 go_wp2_with fail
 exact bodyPost_ret (results_cell_tmp rfl _ _ _ _ _ (0,0) _ rfl HB3.out Tryz.underlying86 rfl (by kernel_rfl)) rfl ⟨_,_,_,_,rfl,HA3.out,HA4.out,HK3.out⟩
theorem eresult (be:Nat)(F:FuncId)(D:Ds)(S:Dy)(b:Bool)(w:World)(h:EnM w be F D S b)(hp:S.pend=0):
 Calls Tryz.prog 38 #[.pointer (some ⟨be,0,none⟩)] w (ResP D S w):=by
 have hk:=(KW.refl w).alloc (.cells #[.int .u64 0,.slice none 0 0,.slice none 0 0] 86)
 have HO:=hid (eown be F D S b _ (h.kw hk))
 have HL:=hid (dresult D S _ (h.dr.kw hk) hp)
 have HR:=hid (res3_row w)
 have HK:=hid hk
 unfold ResP at *
 generalize hl5:(S.get D 5)=l5 at *
 generalize hl6:(S.get D 6)=l6 at *
 generalize S.loss=lo at *
 clear h hk hp hl5 hl6
 go_enter Tryz.func38,Tryz.ntmps38
 go_wp2_with fail
 refine HO.out.mono ?_
 rintro e w1 ⟨rfl,rfl⟩
 go_wp2_with fail
 refine HL.out.mono ?_
 rintro e w1 ⟨A1,A2,c1,c2,rfl,ho1,ho2,hk1⟩
 have HO1:=hid ho1
 have HO2:=hid ho2
 have HK1:=hid (HK.out.t hk1)
 have HR1:=hid (KW.row hk1 HR.out.lt HR.out)
 clear hk1 HK HR ho1 ho2
 go_wp2_with (refine store_row rfl rfl rfl rfl HR1.out (by kernel_rfl) rfl (fun i hi=>?_) ?_)
 ·rcases(show i=0∨i=1∨i=2 by have:i<3:=hi;omega) with rfl|rfl|rfl<;>rfl
 intro W3 hb3 hkeep3
 have HB3:=hid hb3
 have HA3:Hid (Owns W3 w.heap.size 81 (.slice A1 l5.length c1) (u64s l5)):=hid ((hkeep3.owns HO1.out fun b hb e=>by have h1:=(HO1.out.lt hb).1;simp at h1;omega).base (by simp))
 have HA4:Hid (Owns W3 w.heap.size 81 (.slice A2 l6.length c2) (u64s l6)):=hid ((hkeep3.owns HO2.out fun b hb e=>by have h1:=(HO2.out.lt hb).1;simp at h1;omega).base (by simp))
 have HK3:Hid (KW w W3):=hid (HK1.out.kept hkeep3 fun i hi=>by subst hi;exact Nat.le_refl _)
 clear hb3 hkeep3
 go_wp2_with fail
 exact bodyPost_ret (results_cell_tmp rfl _ _ _ _ _ (0,0) _ rfl HB3.out Tryz.underlying86 rfl (by kernel_rfl)) rfl ⟨_,_,_,_,rfl,HA3.out,HA4.out,HK3.out⟩
end Go.Proofs.YtphppbonljdibaaGreat
