import Derived.Test.YtphppbonljdibaaGreatTB42
import Derived.Test.YtphppbonljdibaaGreatTB46
import Derived.Test.YtphppbonljdibaaGreatTB33
set_option maxRecDepth 100000
set_option maxHeartbeats 4000000
set_option linter.unusedVariables false
set_option linter.unusedSimpArgs false
namespace Go.Proofs.YtphppbonljdibaaGreat
open Go.ChangeShapes Go.WideShapes Go.ChangeAt Go.RowKit
theorem rnt_nil (nx:Dy→Bool→Option Mc.Act)(D:Ds)(m lim:Int):∀ (T:Nat) (S:Dy) (b:Bool) (fed:Nat) (S':Dy) (b':Bool),RnT nx D m lim T S b fed [] S' b'→nx S b=none∧S'.pend=S.pend
 | 0,S,b,fed,S',b',h=>by
   obtain⟨_,rfl,_,h,_⟩:=h
   exact⟨h,rfl⟩
 | T+1,S,b,fed,S',b',h=>by
   rcases h with⟨_,_,_,e,_⟩|⟨h1,_,_,_,_,_,h⟩|⟨h1,_,_,_,h⟩
   ·cases e
   ·exact⟨h1,(rnt_nil nx D m lim T _ _ _ _ _ h).2⟩
   ·exact⟨h1,(rnt_nil nx D m lim T _ _ _ _ _ h).2⟩
theorem step_long {m:Mc.St}{k n L:Int}(h:(Mc.step m k n).2=0)(g:(Mc.step { m with l:=L } k n).2=0):(Mc.step { m with l:=L } k n).1 = { (Mc.step m k n).1 with l:=L }:=by
 rcases Mc.gone h with⟨h1,_,_,e⟩|⟨h1,_,_,_,e⟩|⟨h1,_,_,_,e⟩|⟨h1,_,_,_,e⟩|⟨h1,_,_,_,e⟩|⟨h1,_,_,_,e⟩|⟨h1,_,_,_,e⟩ <;>
 rcases Mc.gone g with⟨g1,_,_,e2⟩|⟨g1,_,_,_,e2⟩|⟨g1,_,_,_,e2⟩|⟨g1,_,_,_,e2⟩|⟨g1,_,_,_,e2⟩|⟨g1,_,_,_,e2⟩|⟨g1,_,_,_,e2⟩ <;>
 first
 | (exfalso;omega)
 | (rw[e,e2];done)
 | (rw[e,e2];rfl)
def BdI (D:Ds)(lf:Nat)(L:List Mc.Act)(i:Nat)(S:Dy):Prop:=Mc.up (Mc.new lf D.n) L i = { S.mc with l:=lf }
structure BdP (D:Ds)(lf:Nat)(L:List Mc.Act)(i:Nat)(S S':Dy):Prop where
 bd:BdI D lf L (i+1) S'
 words:lw (Mc.new lf D.n) L (fixW D.h) (sltW D.h) D.a D.b i≤D.h.words
 most:S'.most=max S.most (lw (Mc.new lf D.n) L (fixW D.h) (sltW D.h) D.a D.b i)
 held:(Mc.hl (Mc.new lf D.n) L (i+1):Int)≤slotsW D.h
 now:S'.now=fixW D.h+sltW D.h * (Mc.hl (Mc.new lf D.n) L (i+1):Int)
theorem tapW_ab {D:Ds}(hd:DsOk D):tapW D.h=(D.a:Int)+D.b:=by
 have e:tapW D.h=if D.h.mode=3 then wct D.h.lo.l else wct D.h.st.l+wct D.h.lo.l:=rfl
 rw[e,if_neg hd.m3]
 exact Int.natCast_add _ _
theorem bd_step {D:Ds}{lf:Nat}{L:List Mc.Act}{i:Nat}{S:Dy}{k n:Int}(hd:DsOk D)(hI:DyI D S)(hb:BdI D lf L i S)(hok:Mc.okTo (Mc.new lf D.n) L L.length)(hi:i<L.length)(hg:L.getD i (0,0)=(k,n))(hs:(Mc.step S.mc k n).2=0):
 BdP D lf L i S (S.act D k n):=by
 have ha:=hI.act hs
 have ho:=hok i hi
 unfold Mc.er at ho
 rw[hg,hb] at ho
 have hu:Mc.up (Mc.new lf D.n) L (i+1) = { (S.act D k n).mc with l:=(lf:Int) }:=by
  rw[Mc.up_succ,hg,hb,step_long hs ho,ha.mc]
 have e1:Mc.hl (Mc.new lf D.n) L i=Mc.cnt S.tags:=by unfold Mc.hl;rw[hb];rfl
 have e2:Mc.hl (Mc.new lf D.n) L (i+1)=Mc.cnt (S.act D k n).tags:=by unfold Mc.hl;rw[hu];rfl
 have et:tpv D.a D.b k=(D.tape k:Int):=by
  unfold tpv Ds.tape
  by_cases k7:k=7
  ·rw[if_pos k7,if_neg (by omega),if_neg (by omega),if_pos k7]
  by_cases k6:k=6
  ·rw[if_neg k7,if_pos k6,if_neg (by omega),if_pos k6];omega
  by_cases k5:k=5
  ·rw[if_neg k7,if_neg k6,if_pos k5,if_pos k5]
  ·rw[if_neg k7,if_neg k6,if_neg k5,if_neg k5,if_neg k6,if_neg k7];rfl
 have el:lw (Mc.new lf D.n) L (fixW D.h) (sltW D.h) D.a D.b i=fixW D.h+(D.x+1:Nat) * (max (Mc.cnt S.tags) (Mc.cnt (S.act D k n).tags):Nat)+D.tape k:=by
  unfold lw
  rw[e1,e2,hg,hd.slt,et]
 have hw1:=hI.hold hd
 have hw2:=ha.inv.hold hd
 have n1:=hI.now
 have n2:=ha.inv.now
 have hta:=tapW_ab hd
 have htp:(D.tape k:Int)≤tapW D.h:=by
  rw[hta]
  unfold Ds.tape
  split
  ·omega
  ·split
   ·omega
   ·split<;>omega
 have hc2:=cnt_le (S.act D k n).tags
 have hl2:=ha.inv.len
 have hnI:=hd.nI
 refine⟨hu,?_,?_,?_,?_⟩
 ·rw[el]
  rcases Nat.le_total (Mc.cnt S.tags) (Mc.cnt (S.act D k n).tags) with c|c
  ·rw[Nat.max_eq_right c];omega
  ·rw[Nat.max_eq_left c];omega
 ·rw[el];exact ha.most
 ·rw[e2];omega
 ·rw[e2,hd.slt];exact n2
structure Whole (nx:Dy→Bool→Option Mc.Act)(h:Hd)(lf T:Nat)(L:List Mc.Act)(b':Bool):Prop where
 nxp:∀ be D S b,NxP be (enF h.mode) D S b (nx S b)
 run:∀ D,(∃ xA xc tA tc sA sc lA lc,D.h=h.at_ xA xc tA tc sA sc lA lc)→DsOk D→∃ S',RnT nx D h.mode lf T (Dy.new D) false 0 L S' b'∧S'.pend=0
 does:Mc.okTo (Mc.new lf h.n) L L.length
 T20:T<20000
 L20:L.length<20000
 lf40:lf≤40
theorem whole_of (h:Hd)(hr:Right h)(hm:h.mode≠3)(more:Int)(bm0:0≤more)(bm1:more≤255):∃ nx lf T L b',Whole nx h lf T L b'∧(lf:Int)=if h.mode=2 then more % 41 else h.len:=by
 obtain⟨hn,hn1,hn2⟩:=right_n hr hm
 have hb:=hr.ok.1.bounds
 by_cases h2:h.mode=2
 ·refine⟨nxS,(more % 41).toNat,(Sd.lA h.n (more % 41).toNat).length+(more % 41).toNat+1,Sd.lA h.n (more % 41).toNat,true,⟨fun be D S b=>by rw[h2];exact nx_on2 be D S b,fun D hD hd=>?_,?_,?_,?_,by omega⟩,by rw[if_pos h2];omega⟩
  ·obtain⟨e2,e3⟩:=on_key h h2 D hD
   obtain⟨S',ho,hmc⟩:=rnt_on D (more % 41).toNat (by omega) hd e3
   rw[e2,e3] at ho
   rw[h2]
   exact⟨S',ho,congrArg Mc.St.pend hmc⟩
  ·exact does_er _ _ _ (Sd.does_all (n:=h.n) (l:=(more % 41).toNat) (by omega) ⟨hn1,hn2⟩)
  ·have:=lA_40 h.n (more % 41).toNat (by omega);omega
  ·have:=lA_40 h.n (more % 41).toNat (by omega);omega
 ·have h1:h.mode=1:=by omega
  have hlen:=Rv.rl_len (l:=h.l) (n:=h.n) (by have:=(right_nl hr hm h2).2.2.2.2;omega) hn1
  obtain⟨_,hl,_,_,hl4⟩:=right_nl hr hm h2
  refine⟨nxO,h.l,(Rv.rl h.l h.n).length,Rv.rl h.l h.n,false,⟨fun be D S b=>by rw[h1];exact nx_wk D be S b,fun D hD hd=>?_,?_,by omega,by omega,hl4⟩,by rw[if_neg h2];exact hl⟩
  ·obtain⟨xA,xc,tA,tc,sA,sc,lA,lc,e⟩:=hD
   have e1:D.h.len.toNat=h.l:=by rw[e];rfl
   have e2:D.n=h.n:=by unfold Ds.n Hd.n;rw[e];rfl
   have e3:D.h.mode=1:=by rw[e];exact h1
   have ho:=rnt_off D h.l hd (by omega)
   rw[e1,e2,e3] at ho
   rw[h1]
   exact⟨_,ho.1,congrArg Mc.St.pend ho.2.1⟩
  ·exact does_er _ _ _ (Rv.rl_goes (l:=h.l) (n:=h.n) (by omega) ⟨hn1,hn2⟩).does
theorem steps_any (h:Hd)(more:Int)(w:World)(bm0:0≤more)(bm1:more≤255):Calls Tryz.prog 20 #[.agg h.v,.int .u8 more] w fun e w'=>e=.returned (.int .i64 (if h.mode=2 then more % 41 else h.len))∧KW w w':=by
 have HK0:=hid ((KW.refl w).alloc (.cells h.v 27))
 generalize hR:(if h.mode=2 then more % 41 else h.len)=R
 unfold Hd.v hdv at *
 by_cases hm:h.mode=2
 ·rw[if_pos hm] at hR
  subst hR
  have em:(h.mode==2)=true:=by simp[hm]
  clear hm
  go_enter Tryz.func20,Tryz.ntmps20
  go_wp2_with fail
  go_ret
  exact⟨rfl,HK0.out⟩
 ·rw[if_neg hm] at hR
  subst hR
  have em:(h.mode==2)=false:=by simp[hm]
  clear hm
  go_enter Tryz.func20,Tryz.ntmps20
  go_wp2_with fail
  go_ret
  exact⟨rfl,HK0.out⟩
def RanW (L:List Mc.Act)(w:World)(e:Ending)(w':World):Prop:=
 ∃ be v,e=.returned (.tuple #[.pointer (some ⟨be,0,none⟩),v,.bool true])∧OwnsA w' w.heap.size v L∧KW w w'
theorem ran_whole {nx:Dy→Bool→Option Mc.Act}{h:Hd}{lf T:Nat}{L:List Mc.Act}{b':Bool}(hW:Whole nx h lf T L b')(hr:Right h)(hm:h.mode≠3)(w:World)(hM:HdM w h):
 Calls Tryz.prog 9 #[.agg h.v,.int .i64 lf] w (RanW L w):=by
 refine(ran_any nx h lf T L b' w hM hr.ok hm hW.T20 hW.nxp fun D hD hd=>let ⟨S',a,_⟩:=hW.run D hD hd;⟨S',a⟩).mono ?_
 rintro e w1 ⟨be,D,S',v,hD,hR,rfl,ho,hE,hI,_,_,hk⟩
 obtain⟨S2,h2,hp⟩:=hW.run D hD hE.dr.ds
 obtain rfl:=rnt_uniq _ _ _ _ _ _ _ _ _ _ _ _ _ hR h2
 exact⟨be,v,by rw[hp];rfl,ho,hk⟩
def RowF (w:World)(A:Option Addr)(N:Nat)(f:Nat→Int):Prop:=∀ i,i<N→∃ b off,A=some ⟨b,off,none⟩∧b<w.heap.size∧w.cell? ⟨b,off+i,none⟩=some (.int .i64 (f i))
theorem RowF.kw {w w':World}{A:Option Addr}{N:Nat}{f:Nat→Int}(h:RowF w A N f)(hk:KW w w'):RowF w' A N f:=fun i hi=>by
 obtain⟨b,off,e,hb,hc⟩:=h i hi
 exact⟨b,off,e,Nat.lt_of_lt_of_le hb hk.size,hk.cell hb hc⟩
theorem rowF_of {w w0:World}{N:Nat}{f:Nat→Int}{e:Ending}(h:ListP w0 (some ((List.range N).map f)) 0 e w):∃ A c,e=.returned (.tuple #[.slice A N c,.int .i64 0])∧RowF w A N f∧KW w0 w:=by
 obtain⟨⟨v,he,ho⟩,hk⟩:=h
 have hl:(ints ((List.range N).map f)).length=N:=ints_range_len f N
 obtain⟨A,c,rfl,_,_,hr⟩:=ho.row
 rw[hl] at he hr
 refine⟨A,c,he,fun i hi=>?_,hk⟩
 obtain⟨b,off,hA,hb,hc⟩:=hr.at_ hi
 refine⟨b,off,hA,hb,hc.trans ?_⟩
 simp[ints,hi]
theorem words_whole {nx:Dy→Bool→Option Mc.Act}{h:Hd}{lf T:Nat}{L:List Mc.Act}{b':Bool}(hW:Whole nx h lf T L b')(hr:Right h)(hm:h.mode≠3)(A:Option Addr)(c:Nat)(w:World)(hA:Acts w A L):
 Calls Tryz.prog 22 #[.int .i64 lf,.int .i64 h.n,.slice A L.length c,.int .i64 (fixW h),.int .i64 (sltW h),.int .i64 (wct h.st.l),.int .i64 (wct h.lo.l)] w fun e w'=>
  ∃ A' c',e=.returned (.tuple #[.slice A' L.length c',.int .i64 0])∧RowF w' A' L.length (lw (Mc.new lf h.n) L (fixW h) (sltW h) (wct h.st.l) (wct h.lo.l))∧KW w w':=by
 obtain⟨hn,hn1,hn2⟩:=right_n hr hm
 have hs:=slots_ok h hr.ok
 have hb:=hr.ok.1.bounds
 have h1:=hs.2.2.2 hm
 have ht:tapW h=wct h.st.l+wct h.lo.l:=by
  have e:tapW h=if h.mode=3 then wct h.lo.l else wct h.st.l+wct h.lo.l:=rfl
  rw[e,if_neg hm]
 have hx:sltW h=h.xs.length+1:=by
  have e:sltW h=if h.mode=3 then wct h.st.l+h.st.n.toNat else h.xs.length+1:=rfl
  rw[e,if_neg hm]
 have hp:0≤(sltW h:Int) * slotsW h:=Int.mul_nonneg (by omega) (by omega)
 have hwb:∀ x:Int,0≤x→x≤1048576→wbad x=false:=fun x a b=>decide_eq_false (by omega)
 have hlf:=hW.lf40
 have hl20:=hW.L20
 refine(pwords_yes lf h.n A c L (fixW h) (sltW h) (wct h.st.l) (wct h.lo.l) w ?_ (by omega) (by omega) hn2 (by omega) hA).mono ?_
 ·simp only[List.any_cons,List.any_nil,Bool.or_false]
  rw[hwb _ (by omega) (by omega),hwb _ (by omega) (by omega),hwb _ (by omega) (by omega),hwb _ (by omega) (by omega)]
  rfl
 ·rintro e w' (⟨_,h⟩|⟨k,hk,_,he,_⟩)
  ·exact rowF_of h
  ·exact absurd (hW.does k hk) he
theorem held_whole {nx:Dy→Bool→Option Mc.Act}{h:Hd}{lf T:Nat}{L:List Mc.Act}{b':Bool}(hW:Whole nx h lf T L b')(hn2:h.n≤1048576)(A:Option Addr)(c:Nat)(w:World)(hA:Acts w A L):
 Calls Tryz.prog 23 #[.int .i64 lf,.int .i64 h.n,.slice A L.length c] w fun e w'=>
  ∃ A' c',e=.returned (.tuple #[.slice A' L.length c',.int .i64 0])∧RowF w' A' L.length (fun i=>(Mc.hl (Mc.new lf h.n) L (i+1):Int))∧KW w w':=by
 have hlf:=hW.lf40
 have hl20:=hW.L20
 refine(pheld_yes lf h.n A c L w (by omega) (by omega) hn2 (by omega) hA).mono ?_
 rintro e w' (⟨_,h⟩|⟨k,hk,_,he,_⟩)
 ·exact rowF_of h
 ·exact absurd (hW.does k hk) he
end Go.Proofs.YtphppbonljdibaaGreat
