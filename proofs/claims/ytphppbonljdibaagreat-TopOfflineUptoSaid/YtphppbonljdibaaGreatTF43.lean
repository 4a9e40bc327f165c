import Derived.Test.YtphppbonljdibaaGreatTF38
import Derived.Test.YtphppbonljdibaaGreatTF39
import Derived.Test.YtphppbonljdibaaGreatTF36
import Derived.Test.YtphppbonljdibaaGreatTF19
import Derived.Test.YtphppbonljdibaaGreatTF24
import Derived.Test.YtphppbonljdibaaGreatTF42
import Derived.Test.YtphppbonljdibaaGreatTF35
import Derived.Test.YtphppbonljdibaaGreatTF40
set_option maxRecDepth 100000
set_option maxHeartbeats 4000000
set_option linter.unusedVariables false
set_option linter.unusedSimpArgs false
namespace Go.Proofs.YtphppbonljdibaaGreat
open Go.ChangeShapes Go.WideShapes Go.ChangeAt Go.RowKit
theorem rnt_fin (nx:Dy→Bool→Option Mc.Act)(D:Ds)(m lim:Int)(hm:m≠2):∀ (T:Nat) (S:Dy) (b:Bool) (fed:Nat) (L:List Mc.Act) (S':Dy) (b':Bool),RnT nx D m lim T S b fed L S' b'→S'=S.acts D L∧b'=b
 | 0,S,b,fed,L,S',b',h=>by
   obtain⟨rfl,rfl,rfl,_⟩:=h
   exact⟨rfl,rfl⟩
 | T+1,S,b,fed,L,S',b',h=>by
   rcases h with⟨k,n,L',rfl,_,_,h⟩|⟨_,h,_⟩|⟨_,h,_⟩
   ·have g:=rnt_fin nx D m lim hm T (S.act D k n) b fed L' S' b' h
    exact g
   ·exact absurd h hm
   ·exact absurd h hm
def Hd.n (h:Hd):Nat:=(slotsW h).toNat
def Hd.l (h:Hd):Nat:=h.len.toNat
theorem right_nl {h:Hd}(hr:Right h)(hm:h.mode≠3)(hm2:h.mode≠2):(h.n:Int)=slotsW h∧(h.l:Int)=h.len∧1≤h.n∧h.n≤1048576∧h.l≤40:=by
 have hb:=hr.ok.1.bounds
 have hs:=slots_ok h hr.ok
 have h1:=hs.2.2.2 hm
 have h2:=hs.2.1
 have h3:=hr.len
 unfold Hd.n Hd.l
 omega
def RanO (h:Hd)(w:World)(e:Ending)(w':World):Prop:=
 ∃ be D S' v,e=.returned (.tuple #[.pointer (some ⟨be,0,none⟩),v,.bool true])∧OwnsA w' w.heap.size v (Rv.rl h.l h.n)∧EnM w' be (enF 1) D S' false∧S'.mc=⟨h.l,0,0,Ch.tt h.l h.n,List.replicate h.n (-1)⟩∧S'=(Dy.new D).acts D (Rv.rl h.l h.n)∧(Dy.new D).mc=Mc.new h.l h.n∧KW w w'
theorem ran_off (h:Hd)(w:World)(hM:HdM w h)(hr:Right h)(hm:h.mode=1):Calls Tryz.prog 9 #[.agg h.v,.int .i64 0] w (RanO h w):=by
 obtain⟨hn,hl,hn1,hn2,hl4⟩:=right_nl hr (by omega) (by omega)
 have hlen:=Rv.rl_len (l:=h.l) (n:=h.n) (by omega) hn1
 have key:∀ D:Ds,(∃ xA xc tA tc sA sc lA lc,D.h=h.at_ xA xc tA tc sA sc lA lc)→D.h.len.toNat=h.l∧D.n=h.n∧D.h.mode=1∧(Dy.new D).mc=Mc.new h.l h.n:=by
  rintro D ⟨xA,xc,tA,tc,sA,sc,lA,lc,e⟩
  have e1:D.h.len.toNat=h.l:=by rw[e];rfl
  have e2:D.n=h.n:=by unfold Ds.n Hd.n;rw[e];rfl
  exact⟨e1,e2,by rw[e];exact hm,by rw[Dy.new_mc,e1,e2]⟩
 have hq:=ran_any nxO h 0 (Rv.rl h.l h.n).length (Rv.rl h.l h.n) false w hM hr.ok (by omega) (by omega) (fun be D S b=>by rw[hm];exact nx_wk D be S b) (fun D hD hd=>by
  obtain⟨e1,e2,e3,_⟩:=key D hD
  have ho:=rnt_off D 0 hd (by omega)
  rw[e1,e2,e3] at ho
  rw[hm]
  exact⟨_,ho.1⟩)
 refine hq.mono ?_
 rintro e w1 ⟨be,D,S',v,hD,hR,rfl,ho,hE,hI,_,_,hk⟩
 obtain⟨e1,e2,e3,e4⟩:=key D hD
 obtain⟨rfl,_⟩:=rnt_fin nxO D _ 0 (by omega) _ _ _ _ _ _ _ hR
 have hoo:=rnt_off D 0 hE.dr.ds (by omega)
 rw[e1,e2,e3] at hoo
 have hp:((Dy.new D).acts D (Rv.rl h.l h.n)).pend=0:=congrArg Mc.St.pend hoo.2.1
 refine⟨be,D,_,v,by rw[hp];rfl,ho,by rw[hm] at hE;exact hE,hoo.2.1,rfl,e4,hk⟩
theorem up_cons (m:Mc.St)(a:Mc.Act)(l:List Mc.Act):∀ k,Mc.up m (a::l) (k+1)=Mc.up (Mc.step m a.1 a.2).1 l k
 | 0=>rfl
 | k+1=>by
   rw[Mc.up,up_cons m a l k]
   rfl
theorem er_cons (m:Mc.St)(a:Mc.Act)(l:List Mc.Act)(k:Nat):Mc.er m (a::l) (k+1)=Mc.er (Mc.step m a.1 a.2).1 l k:=by
 unfold Mc.er
 rw[up_cons]
 rfl
theorem does_er:∀ (l:List Mc.Act) (m m':Mc.St),Mc.Does m l m'→∀ k,k<l.length→Mc.er m l k=0
 | [],_,_,_,k,hk=>absurd hk (Nat.not_lt_zero _)
 | a::l,m,m',⟨h1,h2⟩,0,_=>h1
 | a::l,m,m',⟨h1,h2⟩,k+1,hk=>by
   rw[er_cons]
   exact does_er l _ _ h2 k (by simpa using hk)
theorem one_cons (m:Mc.St)(a:Mc.Act)(l:List Mc.Act)(i:Int)(k:Nat):Mc.one m (a::l) i (k+1)=Mc.one (Mc.step m a.1 a.2).1 l i k:=by
 unfold Mc.one
 rw[up_cons,up_cons]
 rfl
theorem sp_cons (m:Mc.St)(a:Mc.Act)(l:List Mc.Act)(i:Int):∀ k,Mc.sp m (a::l) i (k+1)=Mc.one m (a::l) i 0+Mc.sp (Mc.step m a.1 a.2).1 l i k
 | 0=>by simp[Mc.sp]
 | k+1=>by
   rw[Mc.sp,sp_cons m a l i k,one_cons,Mc.sp]
   omega
theorem sp_oft:∀ (l:List Mc.Act) (m m':Mc.St) (i:Int),Mc.Does m l m'→Mc.sp m l i l.length=Rv.oft m l i
 | [],_,_,_,_=>rfl
 | a::l,m,m',i,⟨h1,h2⟩=>by
   rw[List.length_cons,sp_cons,sp_oft l _ m' i h2]
   show _=(((if a.1=1∧m.at_≤i∧i<m.at_+a.2 then 1 else 0)+Rv.oft (Mc.step m a.1 a.2).1 l i:Nat):Int)
   have e:Mc.one m (a::l) i 0=((if a.1=1∧m.at_≤i∧i<m.at_+a.2 then 1 else 0:Nat):Int):=by
    show(if a.1=1∧m.at_≤i∧i<(Mc.step m a.1 a.2).1.at_ then (1:Int) else 0)=_
    by_cases k1:a.1=1
    ·have hx:(Mc.step m a.1 a.2).1.at_=m.at_+a.2:=by
      rcases Mc.gone h1 with⟨_,_,_,h3⟩|⟨k,_⟩|⟨k,_⟩|⟨k,_⟩|⟨k,_⟩|⟨k,_⟩|⟨k,_⟩
      ·rw[h3]
      all_goals exact absurd (k1.symm.trans k) (by decide)
     rw[hx]
     split<;>rfl
    ·rw[if_neg fun h=>k1 h.1,if_neg fun h=>k1 h.1]
     rfl
   rw[e]
   push_cast
   rfl
theorem top_le (f:Nat→Int)(r:Int)(h0:0≤r):∀ n,(∀ i,i<n→f i≤r)→Mc.top f n≤r
 | 0,_=>h0
 | n+1,h=>by
   have h1:=top_le f r h0 n fun i hi=>h i (by omega)
   have h2:=h n (by omega)
   show max (Mc.top f n) (f n)≤r
   omega
theorem acts_cn (D:Ds):∀ (L:List Mc.Act) (S:Dy) (m':Mc.St),DyI D S→Mc.Does S.mc L m' →
 ((S.acts D L).taped:Int)=S.taped+Sd.cnk 6 L+Sd.cnk 7 L∧((S.acts D L).losses:Int)=S.losses+Sd.cnk 5 L+Sd.cnk 6 L∧((S.acts D L).sweeps:Int)=S.sweeps+Sd.cnk 5 L+2 * Sd.cnk 6 L+Sd.cnk 7 L
 | [],S,m',hI,h=>by simp[Dy.acts,Sd.cnk]
 | a::L,S,m',hI,⟨h1,h2⟩=>by
   have ha:=hI.act h1
   rw[← ha.mc] at h2
   have ih:=acts_cn D L (S.act D a.1 a.2) m' ha.inv h2
   have e:(S.act D a.1 a.2).cn=S.cn.add a.1:=ha.cn
   have et:(S.act D a.1 a.2).taped=(S.cn.add a.1).taped:=congrArg Cn.taped e
   have el:(S.act D a.1 a.2).losses=(S.cn.add a.1).losses:=congrArg Cn.losses e
   have es:(S.act D a.1 a.2).sweeps=(S.cn.add a.1).sweeps:=congrArg Cn.sweeps e
   have hc:(S.acts D (a::L))=(S.act D a.1 a.2).acts D L:=rfl
   rw[hc]
   simp only[Sd.cnk]
   unfold Cn.add Dy.cn at et el es
   by_cases k5:a.1=5
   ·rw[if_pos k5] at et el es
    simp only at et el es
    rw[if_pos k5,if_neg (show ¬ a.1=6 by omega),if_neg (show ¬ a.1=7 by omega)]
    omega
   ·by_cases k6:a.1=6
    ·rw[if_neg k5,if_pos k6] at et el es
     simp only at et el es
     rw[if_neg k5,if_pos k6,if_neg (show ¬ a.1=7 by omega)]
     omega
    ·by_cases k7:a.1=7
     ·rw[if_neg k5,if_neg k6,if_pos k7] at et el es
      simp only at et el es
      rw[if_neg k5,if_neg k6,if_pos k7]
      omega
     ·rw[if_neg k5,if_neg k6,if_neg k7] at et el es
      simp only at et el es
      rw[if_neg k5,if_neg k6,if_neg k7]
      omega
theorem cnt_eq (w:World)(p q r:Int):(binOp .eql 42 (.agg #[.int .i64 p,.int .i64 q,.int .i64 1,.int .i64 r]) (.agg #[.int .i64 p,.int .i64 q,.int .i64 1,.int .i64 r])).run Tryz.prog w=.ok (.bool true) w:=by
 have u3:=Tryz.underlying3
 have a3:=Tryz.isAgg3
 have z3:=Tryz.sizeOf3
 have hS:Tryz.prog.underlying 42=some (.struct (Tryz.prog.fieldsOf 42)):=by kernel_rfl
 have hp:Tryz.prog.stoodInHeld 42=false:=by kernel_rfl
 rw[run_eql_struct,show(10000:Nat)=9999+1 from rfl,run_equalIn_agg w 9999 42 _ _ hS hp]
 simp only[Program.fieldsOf,Tryz.underlying42]
 go_simp
theorem pfA14 (tot pk most:Int)(kdf:Nat→Int)(s:Value):pfA tot pk most kdf s=#[.int .i64 tot,.int .i64 pk,.int .i64 most,.int .i64 (kdf 0),.int .i64 (kdf 1),.int .i64 (kdf 2),.int .i64 (kdf 3),.int .i64 (kdf 4),.int .i64 (kdf 5),.int .i64 (kdf 6),.int .i64 (kdf 7),.int .i64 (kdf 8),.int .i64 (kdf 9),s]:=rfl
def ProO (h:Hd)(NL:Nat)(w:World)(e:Ending)(w':World):Prop:=
 ∃ t pk mo k0 k1 k2 k3 k4 k5 k8 k9 A9 n9 c9,e=.returned (.tuple #[.agg #[.int .i64 t,.int .i64 pk,.int .i64 mo,.int .i64 k0,.int .i64 k1,.int .i64 k2,.int .i64 k3,.int .i64 k4,.int .i64 k5,.int .i64 (if h.l=0 then 0 else 1),.int .i64 ((h.l - 1:Nat):Int),.int .i64 k8,.int .i64 k9,.slice A9 n9 c9],.int .i64 NL,.int .i64 0])∧mo≤(Ch.rp h.l h.n:Nat)∧KW w w'
theorem pro_off (h:Hd)(A:Option Addr)(c:Nat)(w:World)(hl:(h.l:Int)=h.len)(hl4:h.l≤40)(hn1:1≤h.n)(hn2:h.n≤1048576)(hA:Acts w A (Rv.rl h.l h.n)):
 Calls Tryz.prog 34 #[.int .i64 h.len,.int .i64 h.n,.slice A (Rv.rl h.l h.n).length c] w (ProO h (Rv.rl h.l h.n).length w):=by
 have hlen:=Rv.rl_len (l:=h.l) (n:=h.n) (by omega) hn1
 have hp:=pof_yes h.len h.n h.l A c (Rv.rl h.l h.n) w (by omega) (by omega) hl hn2 (by omega) hA
 refine hp.mono ?_
 rintro e w' ⟨hk,hx⟩
 have hd:Mc.Does (Mc.new h.l h.n) (Rv.rl h.l h.n) _:=(Rv.rl_goes (l:=h.l) (n:=h.n) (by omega) ⟨hn1,hn2⟩).does
 rw[hl] at hd
 rcases hx with⟨_,s,rfl,hs⟩|⟨k,hk,_,he,_⟩
 ·have hmo:Mc.top (fun i=>Mc.sp (Mc.new h.len h.n) (Rv.rl h.l h.n) i (Rv.rl h.l h.n).length) h.l≤(Ch.rp h.l h.n:Nat):=by
   refine top_le _ _ (by omega) _ fun i hi=>?_
   rw[sp_oft _ _ _ _ hd,← hl]
   have:=Rv.rl_oft (l:=h.l) (n:=h.n) (by omega) (by omega) ⟨hn1,hn2⟩ i
   omega
  have hk6:Mc.kd (Rv.rl h.l h.n) 6 (Rv.rl h.l h.n).length=if h.l=0 then 0 else 1:=by
   rw[Sd.cnk_all]
   by_cases h0:h.l=0
   ·rw[if_pos h0,h0];rfl
   ·rw[if_neg h0];exact(Rv.rl_cnk (by omega) (by omega) hn1).2.1
  have hk7:Mc.kd (Rv.rl h.l h.n) 7 (Rv.rl h.l h.n).length=((h.l - 1:Nat):Int):=by
   rw[Sd.cnk_all]
   by_cases h0:h.l=0
   ·rw[h0];rfl
   ·rw[(Rv.rl_cnk (l:=h.l) (n:=h.n) (by omega) (by omega) hn1).2.2];omega
  obtain⟨A2,c2,rfl,_⟩:=hs
  rw[pfA14,show((6:Nat):Int)=6 from rfl,show((7:Nat):Int)=7 from rfl,hk6,hk7]
  exact⟨_,_,_,_,_,_,_,_,_,_,_,_,_,_,rfl,hmo,hk⟩
 ·exact absurd (does_er _ _ _ hd k hk) he
theorem cnt_off (h:Hd)(D:Ds)(S':Dy)(hS:S'=(Dy.new D).acts D (Rv.rl h.l h.n))(hI:DyI D (Dy.new D))(hd:Mc.Does (Dy.new D).mc (Rv.rl h.l h.n) S'.mc)(hl4:h.l≤40)(hn1:1≤h.n):
 (S'.taped:Int)=h.l∧(S'.losses:Int)=1∧(S'.sweeps:Int)=(h.l:Int)+1:=by
 have hc:=acts_cn D (Rv.rl h.l h.n) (Dy.new D) _ hI hd
 rw[← hS] at hc
 have e1:(Dy.new D).taped=0:=rfl
 have e2:(Dy.new D).losses=0:=rfl
 have e3:(Dy.new D).sweeps=0:=rfl
 rw[e1,e2,e3] at hc
 by_cases h0:h.l=0
 ·have q:Rv.rl h.l h.n=[(5,0)]:=by rw[h0];rfl
  rw[q] at hc
  simp[Sd.cnk] at hc
  omega
 ·obtain⟨q5,q6,q7⟩:=Rv.rl_cnk (l:=h.l) (n:=h.n) (by omega) (by omega) hn1
  rw[q5,q6,q7] at hc
  omega
end Go.Proofs.YtphppbonljdibaaGreat
