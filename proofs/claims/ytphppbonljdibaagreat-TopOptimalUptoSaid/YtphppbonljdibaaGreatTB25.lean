import Derived.Test.YtphppbonljdibaaGreatTB24
import Derived.Test.YtphppbonljdibaaGreatTB21
import Derived.Test.YtphppbonljdibaaGreatTB23
set_option maxRecDepth 100000
set_option maxHeartbeats 4000000
set_option linter.unusedVariables false
set_option linter.unusedSimpArgs false
namespace Go.Proofs.YtphppbonljdibaaGreat
namespace Mc
def Gone (m:St)(k n:Int)(m':St):Prop:=
 (k=1∧1≤n∧m.at_+n≤m.l∧m' = { m with at_:=m.at_+n,tot:=m.tot+n }) ∨
 (k=2∧0≤n∧n<m.tags.length∧m.tag n<0∧m' = { m with tags:=m.tags.set n.toNat m.at_ }) ∨
 (k=3∧0≤n∧n<m.tags.length∧0≤m.tag n∧m' = { m with at_:=m.tag n }) ∨
 (k=4∧0≤n∧n<m.tags.length∧0≤m.tag n∧m' = { m with tags:=m.tags.set n.toNat (-1) }) ∨
 (k=5∧n=0∧m.pend = -1∧m.at_=m.l∧m' = { m with pend:=m.at_ }) ∨
 (k=6∧n=0∧m.pend = -1∧m.at_=m.l - 1∧m' = { m with pend:=m.at_ }) ∨
 (k=7∧n=0∧0<m.pend∧m.at_=m.pend - 1∧m' = { m with pend:=m.at_ })
theorem gone {m:St}{k n:Int}(h:(step m k n).2=0):Gone m k n (step m k n).1:=by
 unfold Gone
 unfold step at h ⊢
 by_cases h1:right k n=false∨7<k
 ·rw[if_pos h1] at h;simp at h
 rw[if_neg h1] at h ⊢
 have hr:right k n=true:=by
  cases e:right k n
  ·exact absurd (.inl e) h1
  ·rfl
 have hlo:=right_lo hr
 by_cases h2:2≤k∧k≤4∧(m.tags.length:Int)≤n
 ·rw[if_pos h2] at h;simp at h
 rw[if_neg h2] at h ⊢
 by_cases k1:k=1
 ·rw[if_pos k1] at h ⊢
  by_cases c:m.l - m.at_<n
  ·rw[if_pos c] at h;simp at h
  ·rw[if_neg c]
   have:=right_one hr k1
   exact .inl ⟨k1,this.1,by omega,rfl⟩
 rw[if_neg k1] at h ⊢
 by_cases k2:k=2
 ·rw[if_pos k2] at h ⊢
  have:=right_slot hr (by omega) (by omega)
  by_cases c:0≤m.tag n
  ·rw[if_pos c] at h;simp at h
  ·rw[if_neg c]
   exact .inr (.inl ⟨k2,this.1,by omega,by omega,rfl⟩)
 rw[if_neg k2] at h ⊢
 by_cases k3:k=3
 ·rw[if_pos k3] at h ⊢
  have:=right_slot hr (by omega) (by omega)
  by_cases c:m.tag n<0
  ·rw[if_pos c] at h;simp at h
  ·rw[if_neg c]
   exact .inr (.inr (.inl ⟨k3,this.1,by omega,by omega,rfl⟩))
 rw[if_neg k3] at h ⊢
 by_cases k4:k=4
 ·rw[if_pos k4] at h ⊢
  have:=right_slot hr (by omega) (by omega)
  by_cases c:m.tag n<0
  ·rw[if_pos c] at h;simp at h
  ·rw[if_neg c]
   exact .inr (.inr (.inr (.inl ⟨k4,this.1,by omega,by omega,rfl⟩)))
 rw[if_neg k4] at h ⊢
 have hn:=right_none hr (by omega)
 by_cases k5:k=5
 ·rw[if_pos k5] at h ⊢
  unfold begin_ at h ⊢
  by_cases c:m.pend≠-1
  ·rw[if_pos c] at h;simp at h
  rw[if_neg c] at h ⊢
  by_cases d:m.at_≠m.l - 0
  ·rw[if_pos d] at h;simp at h
  rw[if_neg d]
  exact .inr (.inr (.inr (.inr (.inl ⟨k5,hn.1,by omega,by omega,rfl⟩))))
 rw[if_neg k5] at h ⊢
 by_cases k6:k=6
 ·rw[if_pos k6] at h ⊢
  unfold begin_ at h ⊢
  by_cases c:m.pend≠-1
  ·rw[if_pos c] at h;simp at h
  rw[if_neg c] at h ⊢
  by_cases d:m.at_≠m.l - 1
  ·rw[if_pos d] at h;simp at h
  rw[if_neg d]
  exact .inr (.inr (.inr (.inr (.inr (.inl ⟨k6,hn.1,by omega,by omega,rfl⟩)))))
 rw[if_neg k6] at h ⊢
 unfold reverse at h ⊢
 by_cases c:m.pend≤0
 ·rw[if_pos c] at h;simp at h
 rw[if_neg c] at h ⊢
 by_cases d:m.at_≠m.pend - 1
 ·rw[if_pos d] at h;simp at h
 rw[if_neg d]
 exact .inr (.inr (.inr (.inr (.inr (.inr ⟨by omega,hn.1,by omega,by omega,rfl⟩)))))
def alk (x y:St×Int):Prop:=x.2=y.2∧x.1.at_=y.1.at_∧x.1.pend=y.1.pend∧x.1.tags=y.1.tags
theorem alk_if {c:Prop}[Decidable c]{a b a' b':St×Int}(h1:alk a a')(h2:alk b b'):alk (if c then a else b) (if c then a' else b'):=by
 by_cases h:c
 ·rw[if_pos h,if_pos h];exact h1
 ·rw[if_neg h,if_neg h];exact h2
theorem step_any_tot (m:St)(t k n:Int):alk (step { m with tot:=t } k n) (step m k n):=by
 have r:∀ (x y:St) (e:Int),x.at_=y.at_→x.pend=y.pend→x.tags=y.tags→alk (x,e) (y,e):=fun x y e h1 h2 h3=>⟨rfl,h1,h2,h3⟩
 unfold step begin_ reverse
 refine alk_if (r _ _ _ rfl rfl rfl) (alk_if (r _ _ _ rfl rfl rfl) (alk_if (alk_if (r _ _ _ rfl rfl rfl) (r _ _ _ rfl rfl rfl)) (alk_if (alk_if (r _ _ _ rfl rfl rfl) (r _ _ _ rfl rfl rfl)) (alk_if (alk_if (r _ _ _ rfl rfl rfl) (r _ _ _ rfl rfl rfl)) (alk_if (alk_if (r _ _ _ rfl rfl rfl) (r _ _ _ rfl rfl rfl)) (alk_if ?_ (alk_if ?_ ?_)))))))
 all_goals exact alk_if (r _ _ _ rfl rfl rfl) (alk_if (r _ _ _ rfl rfl rfl) (r _ _ _ rfl rfl rfl))
end Mc
end Go.Proofs.YtphppbonljdibaaGreat
namespace Go.Proofs.YtphppbonljdibaaGreat
def Dy.mc (S:Dy):Mc.St:=⟨S.l,S.at_,S.pend,S.plain,S.tags⟩
def Dy.act (S:Dy)(D:Ds)(k n:Int):Dy:={ S.move D k n.toNat with at_:=(Mc.step S.mc k n).1.at_.toNat,pend:=(Mc.step S.mc k n).1.pend }
structure Dy.Same (S S':Dy):Prop where
 l:S'.l=S.l
 tags:S'.tags=S.tags
 now:S'.now=S.now
 plain:S'.plain=S.plain
theorem Dy.advance_f (S:Dy)(D:Ds)(n:Nat):(S.advance D n).l=S.l∧(S.advance D n).tags=S.tags∧(S.advance D n).now=S.now∧(S.advance D n).most=S.most∧(S.advance D n).plain=S.plain+n∧(S.advance D n).taped=S.taped∧(S.advance D n).losses=S.losses∧(S.advance D n).sweeps=S.sweeps∧(S.advance D n).at_=S.at_∧(S.advance D n).pend=S.pend:=by
 induction n with
 | zero=>exact⟨rfl,rfl,rfl,rfl,rfl,rfl,rfl,rfl,rfl,rfl⟩
 | succ n ih=>
   obtain⟨a,b,c,d,e,f,g,h,i,j⟩:=ih
   exact⟨a,b,c,d,by show(S.advance D n).plain+1=_;omega,f,g,h,i,j⟩
structure Cn where
 taped:Nat
 losses:Nat
 sweeps:Nat
def Dy.cn (S:Dy):Cn:=⟨S.taped,S.losses,S.sweeps⟩
def Cn.add (c:Cn)(k:Int):Cn:=
 if k=5 then ⟨c.taped,c.losses+1,c.sweeps+1⟩ else if k=6 then ⟨c.taped+1,c.losses+1,c.sweeps+2⟩ else if k=7 then ⟨c.taped+1,c.losses,c.sweeps+1⟩ else c
def Ds.tape (D:Ds)(k:Int):Nat:=if k=5 then D.b else if k=6 then D.a+D.b else if k=7 then D.a else 0
structure DyI (D:Ds)(S:Dy):Prop where
 inv:Mc.Inv S.mc
 len:S.tags.length=D.n
 now:S.now=fixW D.h+(D.x+1:Nat) * (Mc.cnt S.tags:Nat)
 most:S.now≤S.most
theorem cnt_le (l:List Int):Mc.cnt l≤l.length:=by
 induction l with
 | nil=>exact Nat.le_refl _
 | cons x l ih=>simp only[Mc.cnt,List.length_cons];split<;>omega
theorem DyI.hold {D:Ds}{S:Dy}(h:DyI D S)(hd:DsOk D):0≤S.now∧S.now+tapW D.h≤D.h.words:=by
 have h1:=cnt_le S.tags
 have h2:=(slots_ok D.h hd.ok).2.2.1
 have h3:=hd.slt
 have h4:=hd.nI
 have h5:=h.now
 have h6:(Mc.cnt S.tags:Int)≤slotsW D.h:=by rw[← h4,← h.len];omega
 have h7:((D.x+1:Nat):Int) * (Mc.cnt S.tags:Nat)≤((D.x+1:Nat):Int) * slotsW D.h:=Int.mul_le_mul_of_nonneg_left h6 (by omega)
 have h8:0≤((D.x+1:Nat):Int) * (Mc.cnt S.tags:Nat):=Int.mul_nonneg (by omega) (by omega)
 rw[h3] at h2
 omega
theorem DyI.room {D:Ds}{S:Dy}(h:DyI D S)(hd:DsOk D)(hc:Mc.cnt S.tags<S.tags.length):S.now+(D.x+1:Nat)≤D.h.words:=by
 have h2:=(slots_ok D.h hd.ok).2.2.1
 have h3:=hd.slt
 have h4:=hd.nI
 have h5:=h.now
 have h6:(Mc.cnt S.tags:Int)+1≤slotsW D.h:=by rw[← h4,← h.len];omega
 have h7:((D.x+1:Nat):Int) * ((Mc.cnt S.tags:Nat)+1)≤((D.x+1:Nat):Int) * slotsW D.h:=Int.mul_le_mul_of_nonneg_left h6 (by omega)
 rw[Int.mul_add,Int.mul_one] at h7
 rw[h3] at h2
 omega
theorem DyI.full {D:Ds}{S:Dy}(h:DyI D S)(hc:0<Mc.cnt S.tags):((D.x+1:Nat):Int)≤S.now:=by
 have h5:=h.now
 have h7:((D.x+1:Nat):Int) * 1≤((D.x+1:Nat):Int) * (Mc.cnt S.tags:Nat):=Int.mul_le_mul_of_nonneg_left (by omega) (by omega)
 rw[Int.mul_one] at h7
 omega
structure ActP (D:Ds)(S S':Dy)(k n:Int):Prop where
 inv:DyI D S'
 mc:S'.mc=(Mc.step S.mc k n).1
 cn:S'.cn=S.cn.add k
 most:S'.most=max S.most (fixW D.h+(D.x+1:Nat) * (max (Mc.cnt S.tags) (Mc.cnt S'.tags):Nat)+D.tape k)
theorem mc_eq {S:Dy}{D:Ds}{k n:Int}{m':Mc.St}(h:(Mc.step S.mc k n).1=m')(ha:0≤m'.at_)(hl:((S.move D k n.toNat).l:Int)=m'.l)(hp:((S.move D k n.toNat).plain:Int)=m'.tot)(ht:(S.move D k n.toNat).tags=m'.tags):(S.act D k n).mc=m':=by
 have e:(S.act D k n).mc=⟨(S.move D k n.toNat).l,((Mc.step S.mc k n).1.at_.toNat:Nat),(Mc.step S.mc k n).1.pend,(S.move D k n.toNat).plain,(S.move D k n.toNat).tags⟩:=rfl
 rw[e,h,hl,hp,ht,Int.toNat_of_nonneg ha]
theorem DyI.act {D:Ds}{S:Dy}{k n:Int}(h:DyI D S)(e:(Mc.step S.mc k n).2=0):ActP D S (S.act D k n) k n:=by
 have hI:=h.inv.step k n
 have hg:=Mc.gone e
 have hnow:=h.now
 have hmost:=h.most
 have hlen:=h.len
 have ha0:0≤(Mc.step S.mc k n).1.at_:=hI.a0
 have hat:(((Mc.step S.mc k n).1.at_.toNat:Nat):Int)=(Mc.step S.mc k n).1.at_:=Int.toNat_of_nonneg ha0
 have key:(S.act D k n).mc=(Mc.step S.mc k n).1∧(S.act D k n).now=fixW D.h+(D.x+1:Nat) * (Mc.cnt (S.act D k n).tags:Nat)∧(S.act D k n).now≤(S.act D k n).most∧(S.act D k n).cn=S.cn.add k∧(S.act D k n).most=max S.most (fixW D.h+(D.x+1:Nat) * (max (Mc.cnt S.tags) (Mc.cnt (S.act D k n).tags):Nat)+D.tape k):=by
  rcases hg with⟨rfl,h1,h2,h3⟩|⟨rfl,h1,h2,h4,h3⟩|⟨rfl,h1,h2,h4,h3⟩|⟨rfl,h1,h2,h4,h3⟩|⟨rfl,rfl,h2,h4,h3⟩|⟨rfl,rfl,h2,h4,h3⟩|⟨rfl,rfl,h2,h4,h3⟩
  ·obtain⟨f1,f2,f3,f4,f5,f6,f7,f8,f9,f10⟩:=S.advance_f D n.toNat
   have em:S.move D 1 n.toNat=S.advance D n.toNat:=rfl
   have et:(S.act D 1 n).tags=S.tags:=f2
   refine⟨?_,?_,?_,?_,?_⟩
   ·rw[h3];exact mc_eq h3 (h3 ▸ ha0) (by rw[em,f1];rfl) (by rw[em,f5];show((S.plain+n.toNat:Nat):Int)=(S.plain:Int)+n;omega) (by rw[em,f2];rfl)
   ·rw[et];show(S.advance D n.toNat).now=_;rw[f3];exact hnow
   ·show(S.advance D n.toNat).now≤(S.advance D n.toNat).most;rw[f3,f4];exact hmost
   ·show(⟨(S.advance D n.toNat).taped,(S.advance D n.toNat).losses,(S.advance D n.toNat).sweeps⟩:Cn)=_;rw[f6,f7,f8];rfl
   ·rw[et,Nat.max_self,← hnow];show(S.advance D n.toNat).most=_;rw[f4];show _=max S.most (S.now+0);omega
  ·have hc:=Sd.cnt_set S.tags n.toNat S.at_ (by have:S.mc.tags=S.tags:=rfl;rw[this] at h2;omega)
   have hneg:¬ (0:Int)≤S.tags.getD n.toNat 0:=by have:S.mc.tag n=S.tags.getD n.toNat 0:=rfl;omega
   rw[if_neg hneg,if_pos (show(0:Int)≤(S.at_:Int) by omega)] at hc
   have et:(S.act D 2 n).tags=S.tags.set n.toNat S.at_:=rfl
   have ec:Mc.cnt (S.tags.set n.toNat S.at_)=Mc.cnt S.tags+1:=by omega
   have en:(S.act D 2 n).now=S.now+(D.x+1:Nat):=rfl
   have eo:(S.act D 2 n).most=max S.most (S.now+(D.x+1:Nat)):=rfl
   have ex:fixW D.h+(D.x+1:Nat) * ((Mc.cnt S.tags+1:Nat):Int)=S.now+(D.x+1:Nat):=by rw[hnow];push_cast;rw[Int.mul_add,Int.mul_one];omega
   refine⟨?_,?_,?_,rfl,?_⟩
   ·rw[h3];exact mc_eq h3 (h3 ▸ ha0) rfl rfl rfl
   ·rw[et,ec,en,ex]
   ·rw[en,eo];omega
   ·rw[et,ec,eo,Nat.max_eq_right (by omega),ex];show _=max S.most (S.now+(D.x+1:Nat)+0);omega
  ·have et:(S.act D 3 n).tags=S.tags:=rfl
   refine⟨?_,hnow,hmost,rfl,?_⟩
   ·rw[h3];exact mc_eq h3 (h3 ▸ ha0) rfl rfl rfl
   ·rw[et,Nat.max_self,← hnow];show S.most=max S.most (S.now+0);omega
  ·have hc:=Sd.cnt_set S.tags n.toNat (-1) (by have:S.mc.tags=S.tags:=rfl;rw[this] at h2;omega)
   have hpos:(0:Int)≤S.tags.getD n.toNat 0:=h4
   rw[if_pos hpos,if_neg (show ¬ (0:Int)≤-1 by omega)] at hc
   have et:(S.act D 4 n).tags=S.tags.set n.toNat (-1):=rfl
   have ec:Mc.cnt S.tags=Mc.cnt (S.tags.set n.toNat (-1))+1:=by omega
   have en:(S.act D 4 n).now=S.now - (D.x+1:Nat):=rfl
   have eo:(S.act D 4 n).most=max S.most (S.now - (D.x+1:Nat)):=rfl
   have ex:S.now - (D.x+1:Nat)=fixW D.h+(D.x+1:Nat) * ((Mc.cnt (S.tags.set n.toNat (-1)):Nat):Int):=by rw[hnow,ec];push_cast;rw[Int.mul_add,Int.mul_one];omega
   refine⟨?_,?_,?_,rfl,?_⟩
   ·rw[h3];exact mc_eq h3 (h3 ▸ ha0) rfl rfl rfl
   ·rw[et,en,ex]
   ·rw[en,eo];omega
   ·rw[et,eo,Nat.max_eq_left (by omega),← hnow];show _=max S.most (S.now+0);omega
  ·have et:(S.act D 5 0).tags=S.tags:=rfl
   have en:(S.act D 5 0).now=S.now+D.b - D.b:=rfl
   have eo:(S.act D 5 0).most=max (max S.most (S.now+D.b)) (S.now+D.b - D.b):=rfl
   refine⟨?_,?_,?_,rfl,?_⟩
   ·rw[h3];exact mc_eq h3 (h3 ▸ ha0) rfl rfl rfl
   ·rw[et,en];omega
   ·rw[en,eo];omega
   ·rw[et,eo,Nat.max_self,← hnow];show _=max S.most (S.now+D.b);omega
  ·have et:(S.act D 6 0).tags=S.tags:=rfl
   have en:(S.act D 6 0).now=S.now+(D.a+D.b:Nat) - (D.a+D.b:Nat):=rfl
   have eo:(S.act D 6 0).most=max (max S.most (S.now+(D.a+D.b:Nat))) (S.now+(D.a+D.b:Nat) - (D.a+D.b:Nat)):=rfl
   refine⟨?_,?_,?_,rfl,?_⟩
   ·rw[h3];exact mc_eq h3 (h3 ▸ ha0) rfl rfl rfl
   ·rw[et,en];omega
   ·rw[en,eo];omega
   ·rw[et,eo,Nat.max_self,← hnow];show _=max S.most (S.now+(D.a+D.b:Nat));omega
  ·have et:(S.act D 7 0).tags=S.tags:=rfl
   have en:(S.act D 7 0).now=S.now+D.a - D.a:=rfl
   have eo:(S.act D 7 0).most=max (max S.most (S.now+D.a)) (S.now+D.a - D.a):=rfl
   refine⟨?_,?_,?_,rfl,?_⟩
   ·rw[h3];exact mc_eq h3 (h3 ▸ ha0) rfl rfl rfl
   ·rw[et,en];omega
   ·rw[en,eo];omega
   ·rw[et,eo,Nat.max_self,← hnow];show _=max S.most (S.now+D.a);omega
 obtain⟨k1,k2,k3,k4,k5⟩:=key
 have k6:(S.act D k n).tags.length=D.n:=by
  have:(S.act D k n).mc.tags=(Mc.step S.mc k n).1.tags:=by rw[k1]
  show(S.act D k n).mc.tags.length=_
  rw[this,Mc.step_len]
  exact hlen
 exact⟨⟨by rw[k1];exact hI,k6,k2,k3⟩,k1,k4,k5⟩
end Go.Proofs.YtphppbonljdibaaGreat
namespace Go.Proofs.YtphppbonljdibaaGreat
open Go.ChangeShapes Go.WideShapes Go.ChangeAt Go.RowKit
def IsR (K N:Nat)(R:List Int)(v:Value)(w:World):Prop:=∃ g,v=.slice (some ⟨g,0,none⟩) N N∧K≤g∧RegM w v R
theorem IsR.keep {K n:Nat}{l:List Int}{v:Value}{w w':World}(h:IsR K n l v w)(hk:KW w w'):IsR K n l v w':=by
 obtain⟨g,hv,hg,ho⟩:=h
 exact⟨g,hv,hg,ho.kw hk⟩
def IsRE (K N:Nat)(R:List Int)(v:Value)(w:World):Prop:=∃ u,v=.tuple #[u,.int .i64 0]∧IsR K N R u w
theorem IsRE.keep {K n:Nat}{l:List Int}{v:Value}{w w':World}(h:IsRE K n l v w)(hk:KW w w'):IsRE K n l v w':=by
 obtain⟨u,hv,hg⟩:=h
 exact⟨u,hv,hg.keep hk⟩
def IsI (x:Value)(v:Value)(_:World):Prop:=v=x
theorem dadvance (D:Ds)(S:Dy)(n:Nat)(w:World)(h:DrM w D S)(hat:S.at_+n≤65535)(hpl:S.plain+n<4611686018427387904):
 Calls Tryz.prog 153 #[.pointer (some ⟨D.bd,0,none⟩),.int .i64 n] w fun e w'=>e=.returned (.tuple #[])∧DrM w' D (S.advance D n)∧Keep D.own w w':=by
 have hg:=h.ds.ok.1
 have hb:=hg.bounds
 have hgd:=(hg 1 (by omega)).1
 have hNI:D.h.st.n=(D.N:Int):=(Int.toNat_of_nonneg (by omega)).symm
 have hN64:D.N≤64∧D.x+D.h.ts.length+1≤D.N:=by unfold Ds.x;omega
 have hx1:=h.ds.x1
 have HL:=hid h.low
 have HNI:=hid hNI
 have HC:Hid (∀ W S',DrM W D S'→W.cell? ⟨D.bd,7,none⟩=some (.int .i64 D.N)∧W.cell? ⟨D.bd,8,none⟩=some (.slice D.h.st.A D.h.st.l.length D.h.st.c)∧W.cell? ⟨D.bd,18,none⟩=some (.int .i64 S'.at_)∧D.bd<W.heap.size):=hid fun W S' h'=>by
  exact⟨by rw[← hNI];exact h'.cell (i:=7) (by omega),h'.cell (i:=8) (by omega),h'.cell (i:=18) (by omega),World.rowIs.lt h'.row⟩
 have HD0:=hid h
 clear h hNI
 go_enter Tryz.func153,Tryz.ntmps153
 go_wp2_with fail
 go_loopw [8] (fun i wr=>∃ k:Nat,k≤n∧i=.int .i64 k∧Hid (DrM wr D (S.advance D k))∧Hid (Keep (D.up w.heap.size) w wr)) (fun i _=>n - (intOf i).toNat)
 case atStart=>exact⟨0,by omega,rfl,HD0,hid (Keep.refl _ w)⟩
 case round=>
  obtain⟨k,hk,rfl,HDk,HKk⟩:=hrel
  by_cases hkn:k<n
  ·obtain⟨_,_,_,_,f5,_,_,_,f9,_⟩:=S.advance_f D k
   obtain⟨Sk,hSk⟩:∃ Sk,S.advance D k=Sk:=⟨_,rfl⟩
   have HSk:=hid (show S.advance D (k+1)=Sk.adv1 D (S.at_+k) by rw[← hSk];rfl)
   rw[hSk] at HDk f5 f9
   have L1:(k:Int)<n:=by omega
   have h:=HDk.out
   obtain⟨p,hp⟩:∃ p,S.at_+k=p:=⟨_,rfl⟩
   have hwp:IntKind.i64.wrap ((S.at_:Int)+(k:Int))=(p:Int):=by rw[show(S.at_:Int)+(k:Int)=(p:Int) by omega];exact IntWalk.i64_in _ (by omega)
   have hup:IntKind.u64.wrap (p:Int)=(p:Int):=by rw[IntKind.wrap_u64];omega
   have hl1:(Sk.get D 1).length=D.x:=h.get_len (by omega)
   have HGet:=hid (fun W (hW:KW wr W)=>dget D Sk 1 W (h.kw hW) (by omega))
   have HBeg:=hid (fun W (hW:KW wr W) A c g3 c3 (hu1:HU W (.slice A D.x c) (Sk.get D 1)) (hu3:HU W (.slice g3 1 c3) [(p:Int)])=>
    dbegin D Sk D.h.st.l.length D.h.st.c D.N D.x 1 c c3 D.h.st.A A g3 (Sk.get D 1) [(p:Int)] W (h.kw hW) hu1 hu3 hl1 rfl hx1.1 (by omega) hN64.1)
   have hR0:(Sk.reg0 D D.N (Sk.get D 1) [(p:Int)]).length=D.N:=Dy.reg0_len Sk D _ _ _ (by rw[hl1,h.get_len (by omega)];show _+D.h.ts.length+1≤_;omega) (h.get_len (by omega))
   have HRun:=hid (fun W (hW:KW wr W) gx cx (hR:RegM W (.slice (some ⟨gx,0,none⟩) D.N cx) (Sk.reg0 D D.N (Sk.get D 1) [(p:Int)]))=>frun_any D.h.st gx D.N cx _ W (h.kw hW).hm.st hgd HNI.out (by omega) hN64.1 hR hR0)
   have hSR:Fl.sts (Sk.reg0 D D.N (Sk.get D 1) [(p:Int)]) (Fl.unr D.h.st.l)=Sk.stepR D p:=rfl
   have hSRl:(Sk.stepR D p).length=D.N:=by rw[← hSR,Fl.sts_len];exact hR0
   rw[hSR] at HRun
   rw[hp] at HSk
   have HSR:=hid hSRl
   have hszr:=HKk.out.size
   have HCk:Hid (∀ W,KW wr W→W.cell? ⟨D.bd,7,none⟩=some (.int .i64 D.N)∧W.cell? ⟨D.bd,8,none⟩=some (.slice D.h.st.A D.h.st.l.length D.h.st.c)∧W.cell? ⟨D.bd,18,none⟩=some (.int .i64 S.at_)∧D.bd<W.heap.size):=hid fun W hW=>by
    have:=HC.out W Sk (h.kw hW)
    rw[f9] at this
    exact this
   unfold Pg.v pgv at *
   rw[HNI.out] at HRun
   have hpk:Sk.plain<4611686018427387904:=by omega
   clear h hR0 hSR hSRl hSk hp f9 f5
   go_wp2_with fail
   have hXS:=HCk.out wr.drew (KW.refl wr).drew
   refine wpX_region (S:=fun W=>W.cell? ⟨D.bd,7,none⟩=some (.int .i64 D.N)∧W.cell? ⟨D.bd,8,none⟩=some (.slice D.h.st.A D.h.st.l.length D.h.st.c)∧W.cell? ⟨D.bd,18,none⟩=some (.int .i64 S.at_)∧D.bd<W.heap.size) (L:=99) (by kernel_rfl) ?_
   refine tk 0 ?_ (fun _ _=>?_) hXS ?_;rotate_left;· go_simp;try rfl
   simp only[lsz,lss]
   refine tk 1 ?_ (fun _ _=>?_) hXS ?_;rotate_left;· go_simp;try rfl
   simp only[lsz,lss]
   refine tk 2 ?_ (fun _ _=>?_) hXS ?_;rotate_left;· go_simp;try rfl
   simp only[lsz,lss]
   refine tk 3 ?_ (fun _ _=>?_) hXS ?_;rotate_left;· go_simp;try rfl
   simp only[lsz,lss]
   refine tk 4 ?_ (fun _ _=>?_) hXS ?_;rotate_left;· go_simp;try rfl
   simp only[lsz,lss]
   refine tk 5 ?_ (fun _ _=>?_) hXS ?_;rotate_left;· go_simp;try rfl
   simp only[lsz,lss]
   refine tk 6 ?_ (fun _ _=>?_) hXS ?_;rotate_left;· go_simp;try rfl
   simp only[lsz,lss]
   refine tk 7 ?_ (fun _ _=>?_) hXS ?_;rotate_left;· go_simp;try rfl
   simp only[lsz,lss]
   refine tk 8 ?_ (fun _ _=>?_) hXS ?_;rotate_left;· go_simp;try rfl
   simp only[lsz,lss]
   refine tk 9 ?_ (fun _ _=>?_) hXS ?_;rotate_left;· go_simp;try rfl
   simp only[lsz,lss]
   refine tk 10 ?_ (fun _ _=>?_) hXS ?_;rotate_left;· go_simp;try rfl
   simp only[lsz,lss]
   refine tk 11 ?_ (fun _ _=>?_) hXS ?_;rotate_left;· go_simp;try rfl
   simp only[lsz,lss]
   refine tk 13 ?_ (fun _ _=>?_) hXS ?_;rotate_left;· go_simp;try rfl
   simp only[lsz,lss]
   refine tk 14 ?_ (fun _ _=>?_) hXS ?_;rotate_left;· go_simp;try rfl
   simp only[lsz,lss]
   refine tk 15 ?_ (fun _ _=>?_) hXS ?_;rotate_left;· go_simp;try rfl
   simp only[lsz,lss]
   refine tk 16 ?_ (fun _ _=>?_) hXS ?_;rotate_left;· go_simp;try rfl
   simp only[lsz,lss]
   refine tk 17 ?_ (fun _ _=>?_) hXS ?_;rotate_left;· go_simp;try rfl
   simp only[lsz,lss]
   refine tk 18 ?_ (fun _ _=>?_) hXS ?_;rotate_left;· go_simp;try rfl
   simp only[lsz,lss]
   refine tk 19 ?_ (fun _ _=>?_) hXS ?_;rotate_left;· go_simp;try rfl
   simp only[lsz,lss]
   clear hXS
   have hq:=(KW.refl wr).drew
   refine wpX_many [(12,24),(20,32),(21,33),(22,34),(23,11),(24,35),(25,36),(26,5)]
    (fun i=>match i with
      | 12=>IsO wr.heap.size D.x (Sk.get D 1) | 20=>IsG wr.heap.size 1 [(p:Int)] | 21=>IsG wr.heap.size D.N (Sk.reg0 D D.N (Sk.get D 1) [(p:Int)])
      | 22=>IsRE wr.heap.size D.N (Sk.stepR D p) | 23=>IsRE wr.heap.size D.N (Sk.stepR D p) | 25=>IsI (.int .i64 0) | _=>IsR wr.heap.size D.N (Sk.stepR D p))
    wr 1 rfl (by kernel_rfl) (by kernel_rfl) (fun w' hq=>HCk.out w' hq)
    (List.forall_mem_cons.2 ⟨fun _ _ _ h k=>IsO.keep h k,List.forall_mem_cons.2 ⟨fun _ _ _ h k=>IsG.keep h k,List.forall_mem_cons.2 ⟨fun _ _ _ h k=>IsG.keep h k,List.forall_mem_cons.2 ⟨fun _ _ _ h k=>IsRE.keep h k,List.forall_mem_cons.2 ⟨fun _ _ _ h k=>IsRE.keep h k,List.forall_mem_cons.2 ⟨fun _ _ _ h k=>IsR.keep h k,List.forall_mem_cons.2 ⟨fun _ _ _ h k=>h,List.forall_mem_cons.2 ⟨fun _ _ _ h k=>IsR.keep h k,List.forall_mem_nil _⟩⟩⟩⟩⟩⟩⟩⟩)
    hq ?_ ?_
   ·clear hq
    refine List.forall_mem_cons.2 ⟨?_,List.forall_mem_cons.2 ⟨?_,List.forall_mem_cons.2 ⟨?_,List.forall_mem_cons.2 ⟨?_,List.forall_mem_cons.2 ⟨?_,List.forall_mem_cons.2 ⟨?_,List.forall_mem_cons.2 ⟨?_,List.forall_mem_cons.2 ⟨?_,List.forall_mem_nil _⟩⟩⟩⟩⟩⟩⟩⟩
    ·skip
     intro x V hV hx
     clear hx
     refine wpX_op (tv:=?_) rfl ?_ (fun K hK=>?_)
     rotate_left
     ·simp only[upd,List.foldl_cons,List.foldl_nil,List.set_cons_zero,List.set_cons_succ];rfl
     simp only[lsz,lss] at hK
     go_simp
     refine(HGet.out V hV).mono ?_
     rintro e w4 ⟨v,rfl,ho,hb⟩
     exact hK _ _ hb (isO_of ho hl1 hV.size)
    ·skip
     intro x V hV hx
     clear hx
     refine wpX_op (tv:=?_) rfl ?_ (fun K hK=>?_)
     rotate_left
     ·simp only[upd,List.foldl_cons,List.foldl_nil,List.set_cons_zero,List.set_cons_succ];rfl
     simp only[lsz,lss] at hK
     go_simp
     have ho:=Owns.new (w:=V) (base:=V.heap.size) (e:=81) (xs:=u64s [(p:Int)]) (Nat.le_refl _) (by rw[u64s_len];show 1≤100000;omega)
     exact hK _ _ (KW.alloc (KW.refl _) _) ⟨_,_,rfl,ho.base hV.size⟩
    ·skip
     intro x V hV hx
     have h12:=hx (12,24) (by simp) (by kernel_rfl)
     have h20:=hx (20,32) (by simp) (by kernel_rfl)
     clear hx
     refine wpX_op (tv:=?_) rfl ?_ (fun K hK=>?_)
     rotate_left
     ·simp only[upd,List.foldl_cons,List.foldl_nil,List.set_cons_zero,List.set_cons_succ];rfl
     simp only[lsz,lss] at hK
     skip
     obtain⟨A7,c7,e7,r7⟩:=h12
     obtain⟨g13,c13,e13,r13⟩:=h20
     rw[e7] at r7
     rw[e13] at r13
     have ze7:_=_:=e7;simp only[ze7] at hK ⊢
     have ze13:_=_:=e13;simp only[ze13] at hK ⊢
     go_simp
     refine(HBeg.out V hV A7 c7 (some ⟨g13,0,none⟩) c13 r7.hu r13.hu).mono ?_
     rintro e w4 ⟨gr,cap,rfl,ho,hb⟩
     exact hK _ _ hb ⟨gr,cap,rfl,ho.base hV.size⟩
    ·skip
     intro x V hV hx
     have h21:=hx (21,33) (by simp) (by kernel_rfl)
     clear hx
     refine wpX_op (tv:=?_) rfl ?_ (fun K hK=>?_)
     rotate_left
     ·simp only[upd,List.foldl_cons,List.foldl_nil,List.set_cons_zero,List.set_cons_succ];rfl
     simp only[lsz,lss] at hK
     skip
     obtain⟨g7,c7,e7,r7⟩:=h21
     rw[e7] at r7
     have ze7:_=_:=e7;simp only[ze7] at hK ⊢
     go_simp
     refine(HRun.out V hV g7 c7 (r7.base (Nat.zero_le _))).mono ?_
     rintro e w4 ⟨gr,rfl,hr,hge,hb⟩
     exact hK _ _ hb ⟨_,rfl,gr,rfl,Nat.le_trans hV.size hge,hr⟩
    ·skip
     intro x V hV hx
     have h22:=hx (22,34) (by simp) (by kernel_rfl)
     clear hx
     refine wpX_op (tv:=?_) rfl ?_ (fun K hK=>?_)
     rotate_left
     ·simp only[upd,List.foldl_cons,List.foldl_nil,List.set_cons_zero,List.set_cons_succ];rfl
     simp only[lsz,lss] at hK
     skip
     go_simp
     exact hK _ _ (KW.refl _) h22
    ·skip
     intro x V hV hx
     have h23:=hx (23,11) (by simp) (by kernel_rfl)
     clear hx
     refine wpX_op (tv:=?_) rfl ?_ (fun K hK=>?_)
     rotate_left
     ·simp only[upd,List.foldl_cons,List.foldl_nil,List.set_cons_zero,List.set_cons_succ];rfl
     simp only[lsz,lss] at hK
     skip
     obtain⟨u,e7,r7⟩:=h23
     have ze7:_=_:=e7;simp only[ze7] at hK ⊢
     go_simp
     exact hK _ _ (KW.refl _) r7
    ·skip
     intro x V hV hx
     have h23:=hx (23,11) (by simp) (by kernel_rfl)
     clear hx
     refine wpX_op (tv:=?_) rfl ?_ (fun K hK=>?_)
     rotate_left
     ·simp only[upd,List.foldl_cons,List.foldl_nil,List.set_cons_zero,List.set_cons_succ];rfl
     simp only[lsz,lss] at hK
     skip
     obtain⟨u,e7,r7⟩:=h23
     have ze7:_=_:=e7;simp only[ze7] at hK ⊢
     go_simp
     exact hK _ _ (KW.refl _) rfl
    ·skip
     intro x V hV hx
     have h24:=hx (24,35) (by simp) (by kernel_rfl)
     clear hx
     refine wpX_op (tv:=?_) rfl ?_ (fun K hK=>?_)
     rotate_left
     ·simp only[upd,List.foldl_cons,List.foldl_nil,List.set_cons_zero,List.set_cons_succ];rfl
     simp only[lsz,lss] at hK
     skip
     go_simp
     exact hK _ _ (KW.refl _) h24
   ·intro x V hV hx
    obtain⟨gr,e26,hge,r26⟩:=hx (26,5) (by simp)
    have e25:=hx (25,36) (by simp)
    obtain⟨u23,e23,_⟩:=hx (23,11) (by simp)
    simp only at e26 r26 e23
    have e25':x 25=.int .i64 0:=e25
    rw[e26] at r26
    have hXS:=HCk.out V hV
    simp only[upd,List.foldl_cons,List.foldl_nil,List.set_cons_zero,List.set_cons_succ,e26,e25',e23]
    have HRg:=hid r26
    have HDV:=hid (HDk.out.kw hV)
    have HKV:=hid (HKk.out.kwt hV)
    have hszV:=hV.size
    clear hx e26 e25 e25' e23 r26 hV HGet HBeg HRun
    refine tk 27 ?_ (fun _ _=>?_) hXS ?_;rotate_left;· go_simp;try rfl
    simp only[lsz,lss]
    refine wpX_done (by kernel_rfl) ?_
    clear hXS
    have HP1:=hid (dput D Sk 2 (Sk.stepR D p) _ V HDV.out (by omega) HRg.out.hu (by rw[HSR.out];exact Nat.le_refl _))
    go_wp2_with fail
    refine HP1.out.mono ?_
    rintro e w4 ⟨rfl,hd4,hk4⟩
    have HD4:=hid hd4
    have HK4:Hid (Keep (D.up w.heap.size) w w4):=hid (HKV.out.t hk4.upw)
    have hbw:=HL.out.bw
    have HR4:=hid (HRg.out.keep hk4 fun b hb e=>by have h1:gr=b:=Option.some.inj hb;omega)
    clear hd4 hk4 HDV HKV HRg HP1
    have c5:w4.cell? ⟨D.bd,5,none⟩=some (.slice D.h.xA D.x D.h.xc):=HD4.out.cell (i:=5) (by omega)
    have hlX:((Sk.stepR D p).take D.x).length=D.x:=by rw[List.length_take,HSR.out];omega
    have HP2:=hid (dput D _ 1 ((Sk.stepR D p).take D.x) (.slice (some ⟨gr,0,none⟩) D.x D.N) w4 HD4.out (by omega) (regM_take HR4.out HSR.out D.x D.N (by omega)) (by rw[hlX];exact Nat.le_refl _))
    go_wp2_with fail
    clear c5
    refine HP2.out.mono ?_
    rintro e w5 ⟨rfl,hd5,hk5⟩
    have HD5:=hid hd5
    have HK5:Hid (Keep (D.up w.heap.size) w w5):=hid (HK4.out.t hk5.upw)
    clear hd5 hk5 HD4 HK4 HR4 HP2
    have c20:w5.cell? ⟨D.bd,20,none⟩=some (.int .i64 (Sk.plain:Int)):=HD5.out.cell (i:=20) (by omega)
    have f20:w5.frozen? ⟨D.bd,20,none⟩=false:=World.rowIs.frozen HD5.out.row 20
    have hwP:IntKind.i64.wrap ((Sk.plain:Int)+1)=((Sk.plain+1:Nat):Int):=IntWalk.i64_in _ (by omega)
    have HD6:=hid (HD5.out.setPlain (Sk.plain+1))
    have hkd:Keep (· = D.bd) w5 (w5.setCell ⟨D.bd,20,none⟩ (.int .i64 ((Sk.plain+1:Nat):Int))):=(Keep.refl _ w5).setCell _ _ rfl
    have HK6:=hid (HK5.out.t hkd.upd)
    clear hkd HD5 HK5
    go_wp2_with fail
    go_roundw
    case rel=>exact⟨k+1,by omega,by go_num,hid (by rw[HSk.out];exact HD6.out),HK6⟩
    case measure=>simp[intOf];omega
  ·obtain rfl:k=n:=by omega
   clear hkn
   go_wp2_with fail
   refine bodyPost_end (results_none rfl _ _ _) rfl ?_
   exact⟨rfl,HDk.out,HKk.out.down⟩
theorem dwithin (D:Ds)(S S':Dy)(n:Nat)(F:FuncId)(caps:Array Value)(w:World)(h:DrM w D S)(hnow:0≤S.now)(hn:S.now+n≤D.h.words)(hS':S'.now=S.now+n)
 (he:∀ (args:Array Value) (W:World),(callFunc F args).run Tryz.prog W=.ok (.enter F args) W)
 (hF:∀ W,DrM W D (S.hold n)→Keep D.own w W→Calls Tryz.prog F caps W fun e w'=>e=.returned (.tuple #[])∧DrM w' D S'∧Keep D.own W w'):
 Calls Tryz.prog 182 #[.pointer (some ⟨D.bd,0,none⟩),.int .i64 n,.func (.func F) #[] caps] w fun e w'=>e=.returned (.tuple #[])∧DrM w' D (S'.drop n)∧Keep D.own w w':=by
 have hwd:=h.ds.ok.1.bounds.2.2.2.2.2.2.2
 have HH:=hid (hold_any D.bm S.now S.most D.h.words n w h.mt ⟨hnow,by omega⟩ (by omega) ⟨by omega,by omega⟩)
 have c16:w.cell? ⟨D.bd,16,none⟩=some (.pointer (some ⟨D.bm,0,none⟩)):=h.cell (i:=16) (by omega)
 have HD:=hid h
 have HF:=hid hF
 clear h hF
 go_enter Tryz.func182,Tryz.ntmps182
 go_wp2_with fail
 clear c16
 refine HH.out.mono ?_
 rintro e w1 ⟨rfl,hm1,hk1⟩
 have HD1:Hid (DrM w1 D (S.hold n)):=hid (HD.out.meter hk1 hm1)
 have HK1:Hid (Keep D.own w w1):=hid (hk1.mono fun b _ e=>.inr (.inr e))
 have HFc:=hid (HF.out w1 HD1.out HK1.out)
 clear hm1 hk1 HH HD HF
 go_wp2_with fail
 refine HFc.out.mono ?_
 rintro e w2 ⟨rfl,hd2,hk2⟩
 have HD2:=hid hd2
 have HK2:Hid (Keep D.own w w2):=hid (HK1.out.t hk2)
 have c16:w2.cell? ⟨D.bd,16,none⟩=some (.pointer (some ⟨D.bm,0,none⟩)):=hd2.cell (i:=16) (by omega)
 have HH2:=hid (drop_any D.bm S'.now S'.most D.h.words n w2 hd2.mt ⟨by omega,by omega⟩ ⟨by omega,by omega⟩)
 clear hd2 hk2 HD1 HK1 HFc he
 go_wp2_with fail
 refine HH2.out.mono ?_
 rintro e w3 ⟨rfl,hm3,hk3⟩
 have HD3:Hid (DrM w3 D (S'.drop n)):=hid (HD2.out.meter hk3 hm3)
 have HK3:Hid (Keep D.own w w3):=hid (HK2.out.t (hk3.mono fun b _ e=>.inr (.inr e)))
 clear hm3 hk3 HD2 HK2 c16
 go_wp2_with fail
 refine bodyPost_end (results_none rfl _ _ _) rfl ?_
 exact⟨rfl,HD3.out,HK3.out⟩
theorem seed1 (D:Ds)(S:Dy)(g:Nat)(w:World)(h:DrM w D S)(hv:Var w g 94 (.pointer (some ⟨D.bd,0,none⟩)))(hno:¬ D.own g)(hls:S.losses<4611686018427387904)(hsw:S.sweeps<4611686018427387904):
 Calls Tryz.prog 183 #[.pointer (some ⟨g,0,none⟩)] w fun e w'=>e=.returned (.tuple #[])∧DrM w' D (S.end_ D (S.get D 1))∧Keep D.own w w':=by
 have hl1:(S.get D 1).length=D.x:=h.get_len (by omega)
 have HGet:=hid (fun W (hW:KW w W)=>dget D S 1 W (h.kw hW) (by omega))
 have HEnd:=hid (fun W (hW:KW w W) A c (hu1:HU W (.slice A D.x c) (S.get D 1))=>dend D S W A c (S.get D 1) (h.kw hW) hu1 hl1 hls hsw)
 have HV:=hid (fun W (hW:KW w W)=>(hv.keep (hW.keep (own:=fun _=>False)) id).cell)
 clear h hv
 go_enter Tryz.func183,Tryz.ntmps183
 go_wp2_with fail
 have hXS:=HV.out _ (KW.refl w).drew
 refine wpX_region (S:=fun W=>W.cell? ⟨g,0,none⟩=some (.pointer (some ⟨D.bd,0,none⟩))) (L:=99) (by kernel_rfl) ?_
 refine tk 0 ?_ (fun _ _=>?_) hXS ?_;rotate_left;· go_simp;try rfl
 simp only[lsz,lss]
 refine tk 1 ?_ (fun _ _=>?_) hXS ?_;rotate_left;· go_simp;try rfl
 simp only[lsz,lss]
 refine wpX_hard (k:=2) (by kernel_rfl) rfl (fun K hK=>?_)
 go_simp
 refine(HGet.out _ (KW.refl w).drew).mono ?_
 rintro e w1 ⟨v,rfl,ho1,hk1'⟩
 have hk1:KW w w1:=(KW.refl w).drew.t hk1'
 obtain⟨A1,c1,rfl,_⟩:=ho1.row
 have hu1:=ho1.hu
 rw[u64s_len,hl1] at hu1 ⊢
 have HE:=hid (HEnd.out w1 hk1 A1 c1 hu1)
 have HK1:=hid hk1
 have hXS:=HV.out w1 hk1
 refine hK _ _ (fun _=>hXS) ?_
 clear hK K hk1 hk1' ho1 hu1 HGet HEnd
 try simp only[lsz,lss]
 refine wpX_hard (k:=3) (by kernel_rfl) rfl (fun K hK=>?_)
 go_simp
 refine HE.out.mono ?_
 rintro e w2 ⟨rfl,hd2,hk2⟩
 have HD2:=hid hd2
 have HK2:=hid (HK1.out.kt hk2)
 have hXS:=hk2.cs hno hXS
 refine hK _ _ (fun _=>hXS) ?_
 clear hK K hd2 hk2
 try simp only[lsz,lss]
 refine wpX_done (by kernel_rfl) ?_
 clear hXS
 go_wp2_with fail
 refine bodyPost_end (results_none rfl _ _ _) rfl ?_
 exact⟨rfl,HD2.out,HK2.out⟩
theorem dseed (D:Ds)(S:Dy)(k:Int)(w:World)(h:DrM w D S)(hnow:0≤S.now)(hn:S.now+D.b≤D.h.words)(hls:S.losses<4611686018427387904)(hsw:S.sweeps<4611686018427387904):
 Calls Tryz.prog 147 #[.pointer (some ⟨D.bd,0,none⟩),.int .i64 k] w fun e w'=>e=.returned (.tuple #[])∧DrM w' D (S.seed D)∧Keep D.own w w':=by
 have hk:=(KW.refl w).alloc (.cells #[.pointer (some ⟨D.bd,0,none⟩)] 94)
 have hd:=h.kw hk
 have hv:=Var.new w 94 (.pointer (some ⟨D.bd,0,none⟩))
 have hno:¬ D.own w.heap.size:=h.low.own (Nat.le_refl _)
 have HOf:=hid (dof D S _ hd)
 have HW:=hid (fun W (hW:KW (w.alloc (.cells #[.pointer (some ⟨D.bd,0,none⟩)] 94)) W)=>dwithin D S ((S.hold D.b).end_ D ((S.hold D.b).get D 1)) D.b 183 #[.pointer (some ⟨w.heap.size,0,none⟩)] W (hd.kw hW) hnow hn rfl (fun args W=>by kernel_rfl)
  (fun W2 h2 k2=>seed1 D (S.hold D.b) w.heap.size W2 h2 ((hv.keep (hW.keep (own:=fun _=>False)) id).keep k2 hno) hno hls hsw))
 obtain⟨c4,c5,c6,c7,c8,c9,c10,c11,c12,hbs⟩:=hd.hc
 have HK:=hid hk
 have HV:=hid hv.cell
 clear h hk hd hv hno
 go_enter Tryz.func147,Tryz.ntmps147
 go_wp2_with fail
 refine HOf.out.mono ?_
 rintro e w1 ⟨rfl,hk1⟩
 have HK1:=hid (HK.out.t hk1)
 have cv:w1.cell? ⟨w.heap.size,0,none⟩=some (.pointer (some ⟨D.bd,0,none⟩)):=(hk1.keep (own:=fun _=>False)).cs id HV.out
 have HW1:=hid (HW.out w1 hk1)
 clear hk1 HOf HW c4 c5 c6 c7 c8 c9 c10 c11 c12 hbs
 go_wp2_with fail
 refine HW1.out.mono ?_
 rintro e w2 ⟨rfl,hd2,hk2⟩
 have HD2:=hid hd2
 have HK2:=hid (HK1.out.kt hk2)
 clear hd2 hk2
 go_wp2_with fail
 refine bodyPost_end (results_none rfl _ _ _) rfl ?_
 exact⟨rfl,HD2.out,HK2.out⟩
theorem Dy.stepR_len {w:World}{D:Ds}{S:Dy}(h:DrM w D S)(p:Nat):(S.stepR D p).length=D.N∧(S.stepT D p).length=(Fl.unr D.h.st.l).length:=by
 have hb:=h.ds.ok.1.bounds
 have hr0:(S.reg0 D D.N (S.get D 1) [(p:Int)]).length=D.N:=Dy.reg0_len S D _ _ _ (by rw[h.get_len (by omega),h.get_len (by omega)];show D.x+D.h.ts.length+1≤D.N;unfold Ds.x Ds.N;omega) (h.get_len (by omega))
 exact⟨by unfold Dy.stepR;rw[Fl.sts_len];exact hr0,by unfold Dy.stepT;rw[Fl.tps_len]⟩
theorem Dy.stepT_len {w:World}{D:Ds}{S:Dy}(h:DrM w D S)(p:Nat):(S.stepT D p).length=D.a:=by
 rw[(Dy.stepR_len h p).2]
 obtain⟨sz,c,k,_,_,_,hc,_⟩:=Gd.code (h.ds.ok.1 1 (by omega)).1 h.hm.st.hv
 exact hc.len
theorem both1 (D:Ds)(S:Dy)(g:Nat)(w:World)(h:DrM w D S)(hv:Var w g 94 (.pointer (some ⟨D.bd,0,none⟩)))(hno:¬ D.own g)(hat:S.at_≤65535)(hct:S.taped<2305843009213693952)(hls:S.losses<2305843009213693952)(hsw:S.sweeps<2305843009213693952):
 Calls Tryz.prog 194 #[.pointer (some ⟨g,0,none⟩)] w fun e w'=>e=.returned (.tuple #[])∧DrM w' D (((S.taped1 D).end_ D ((S.stepR D S.at_).take D.x)).turn D (S.stepR D S.at_) (S.stepT D S.at_))∧Keep D.own w w':=by
 have hxN:D.x≤D.N:=by have hb:=h.ds.ok.1.bounds;unfold Ds.x Ds.N;omega
 obtain⟨hRl,_⟩:=Dy.stepR_len h S.at_
 have hTl:=Dy.stepT_len h S.at_
 have HTp:=hid (dtaped D S w h hat (by omega))
 have cg:w.cell? ⟨g,0,none⟩=some (.pointer (some ⟨D.bd,0,none⟩)):=hv.cell
 have HV:=hid hv
 have HL:=hid h.low
 have hsz0:D.own=D.own:=rfl
 generalize S.stepR D S.at_=R at *
 generalize S.stepT D S.at_=T at *
 clear h hv hsz0
 go_enter Tryz.func194,Tryz.ntmps194
 go_wp2_with fail
 clear cg
 refine HTp.out.mono ?_
 rintro e w1 ⟨gr,cr,gt,ct,rfl,hne,hgr,hgt,hr1,ht1,hd1,hk1⟩
 have HD1:=hid hd1
 have HK1:=hid hk1
 have HR1:=hid hr1
 have HT1:=hid ht1
 have HV1:=hid (HV.out.keep hk1 hno)
 clear hr1 ht1 hd1 hk1 HTp HV
 go_wp2_with fail
 have hC:∀ W S',DrM W D S'→Var W g 94 (.pointer (some ⟨D.bd,0,none⟩))→W.cell? ⟨g,0,none⟩=some (.pointer (some ⟨D.bd,0,none⟩))∧W.cell? ⟨D.bd,5,none⟩=some (.slice D.h.xA D.x D.h.xc):=fun W S' h' hv=>⟨hv.cell,h'.cell (i:=5) (by omega)⟩
 have HC:=hid hC
 have hXS:=hC w1.drew _ (HD1.out.kw (KW.refl w1).drew) HV1.out
 clear hC
 refine wpX_region (S:=fun W=>W.cell? ⟨g,0,none⟩=some (.pointer (some ⟨D.bd,0,none⟩))∧W.cell? ⟨D.bd,5,none⟩=some (.slice D.h.xA D.x D.h.xc)) (L:=99) (by kernel_rfl) ?_
 have hcr:D.N≤cr:=by obtain⟨_,_,hv,hc⟩:=HR1.out.row;rw[hRl] at hv hc;cases hv;exact hc
 have hxc:D.x≤cr:=by omega
 refine tk 0 ?_ (fun _ _=>?_) hXS ?_;rotate_left;· go_simp;try rfl
 simp only[lsz,lss]
 refine tk 1 ?_ (fun _ _=>?_) hXS ?_;rotate_left;· go_simp;try rfl
 simp only[lsz,lss]
 refine tk 2 ?_ (fun _ _=>?_) hXS ?_;rotate_left;· go_simp;try rfl
 simp only[lsz,lss]
 refine tk 3 ?_ (fun _ _=>?_) hXS ?_;rotate_left;· go_simp;try rfl
 simp only[lsz,lss]
 refine tk 4 ?_ (fun _ _=>?_) hXS ?_;rotate_left;· go_simp;try rfl
 simp only[lsz,lss]
 refine tk 5 ?_ (fun _ _=>?_) hXS ?_;rotate_left;· go_simp;try rfl
 simp only[lsz,lss]
 refine tk 6 ?_ (fun _ _=>?_) hXS ?_;rotate_left;· go_simp;try rfl
 simp only[lsz,lss]
 refine tk 7 ?_ (fun _ _=>?_) hXS ?_;rotate_left;· go_simp;try rfl
 simp only[lsz,lss]
 refine tk 8 ?_ (fun _ _=>?_) hXS ?_;rotate_left;· go_simp;try rfl
 simp only[lsz,lss]
 have hlX:(R.take D.x).length=D.x:=by rw[List.length_take,hRl];omega
 have HE:=hid (fun c=>dend D (S.taped1 D) w1.drew (some ⟨gr,0,none⟩) c (R.take D.x) (HD1.out.kw (KW.refl w1).drew) ((regM_take HR1.out hRl D.x c hxN).kw (KW.refl w1).drew) hlX (show S.losses<_ by omega) (show S.sweeps<_ by omega))
 refine wpX_hard (k:=9) (by kernel_rfl) rfl (fun K hK=>?_)
 go_simp
 refine(HE.out _).mono ?_
 rintro e w2 ⟨rfl,hd2,hk2'⟩
 have hk2:Keep D.own w1 w2:=(KW.refl w1).drew.kt hk2'
 have HD2:=hid hd2
 have HK2:=hid (HK1.out.t hk2)
 have HV2:=hid (HV1.out.keep hk2 hno)
 have hgr1:gr<w1.heap.size:=HR1.out.lt rfl
 have hgt1:gt<w1.heap.size:=HT1.out.lt rfl
 have HR2:=hid (HR1.out.keep hk2 fun b hb e=>by have h1:gr=b:=Option.some.inj hb;exact HL.out.own (h1 ▸ hgr) e)
 have HT2:=hid (HT1.out.keep hk2 fun b hb e=>by have h1:gt=b:=Option.some.inj hb;exact HL.out.own (h1 ▸ hgt) e)
 have hXS:=HC.out w2 _ HD2.out HV2.out
 refine hK _ _ (fun _=>hXS) ?_
 clear hK K hd2 hk2 hk2' HE
 try simp only[lsz,lss]
 refine wpX_done (by kernel_rfl) ?_
 obtain⟨cg,_⟩:=hXS
 have HTu:=hid (dturn D _ gr cr gt ct w.heap.size R T w2 HD2.out HL.out HR2.out hRl HT2.out hTl hne ⟨hgr,hgt⟩ HK2.out.size (show S.sweeps+1<_ by omega))
 go_wp2_with fail
 refine HTu.out.mono ?_
 rintro e w3 ⟨rfl,hd3,hk3⟩
 have HD3:=hid hd3
 have HK3:=hid (HK2.out.up (D:=D) (K:=w.heap.size) (fun b e=>.inl e) |>.t hk3)
 clear hd3 hk3
 go_wp2_with fail
 refine bodyPost_end (results_none rfl _ _ _) rfl ?_
 exact⟨rfl,HD3.out,HK3.out.down⟩
theorem dboth (D:Ds)(S:Dy)(k:Int)(w:World)(h:DrM w D S)(hnow:0≤S.now)(hn:S.now+(D.a+D.b:Nat)≤D.h.words)(hat:S.at_≤65535)(hct:S.taped<2305843009213693952)(hls:S.losses<2305843009213693952)(hsw:S.sweeps<2305843009213693952):
 Calls Tryz.prog 157 #[.pointer (some ⟨D.bd,0,none⟩),.int .i64 k] w fun e w'=>e=.returned (.tuple #[])∧DrM w' D (S.both D)∧Keep D.own w w':=by
 have hk:=(KW.refl w).alloc (.cells #[.pointer (some ⟨D.bd,0,none⟩)] 94)
 have hd:=h.kw hk
 have hv:=Var.new w 94 (.pointer (some ⟨D.bd,0,none⟩))
 have hno:¬ D.own w.heap.size:=h.low.own (Nat.le_refl _)
 have HOf:=hid (dof D S _ hd)
 have HW:=hid (fun W (hW:KW (w.alloc (.cells #[.pointer (some ⟨D.bd,0,none⟩)] 94)) W)=>dwithin D S _ (D.a+D.b) 194 #[.pointer (some ⟨w.heap.size,0,none⟩)] W (hd.kw hW) hnow hn rfl (fun args W=>by kernel_rfl)
  (fun W2 h2 k2=>both1 D (S.hold (D.a+D.b:Nat)) w.heap.size W2 h2 ((hv.keep (hW.keep (own:=fun _=>False)) id).keep k2 hno) hno hat hct hls hsw))
 obtain⟨c4,c5,c6,c7,c8,c9,c10,c11,c12,hbs⟩:=hd.hc
 have HK:=hid hk
 have HV:=hid hv.cell
 have ha:=wct_le D.h.st.l
 have hb:=wct_le D.h.lo.l
 have hwab:IntKind.i64.wrap ((wct D.h.st.l:Int)+(wct D.h.lo.l:Int))=((D.a+D.b:Nat):Int):=by rw[show(wct D.h.st.l:Int)+(wct D.h.lo.l:Int)=((D.a+D.b:Nat):Int) by unfold Ds.a Ds.b;push_cast;rfl];exact IntWalk.i64_in _ (by unfold Ds.a Ds.b;omega)
 clear h hk hd hv hno
 go_enter Tryz.func157,Tryz.ntmps157
 go_wp2_with fail
 refine HOf.out.mono ?_
 rintro e w1 ⟨rfl,hk1⟩
 have HK1:=hid (HK.out.t hk1)
 have cv:w1.cell? ⟨w.heap.size,0,none⟩=some (.pointer (some ⟨D.bd,0,none⟩)):=(hk1.keep (own:=fun _=>False)).cs id HV.out
 have HW1:=hid (HW.out w1 hk1)
 clear hk1 HOf HW c4 c5 c6 c7 c8 c9 c10 c11 c12 hbs
 generalize hab:D.a+D.b=ab at *
 have HAB:=hid hab
 clear hab
 go_wp2_with fail
 refine HW1.out.mono ?_
 rintro e w2 ⟨rfl,hd2,hk2⟩
 have HD2:=hid hd2
 have HK2:=hid (HK1.out.kt hk2)
 clear hd2 hk2
 go_wp2_with fail
 refine bodyPost_end (results_none rfl _ _ _) rfl ?_
 refine⟨rfl,?_,HK2.out⟩
 have h:=HD2.out
 rw[← HAB.out] at h
 exact h
theorem dreverse1 (D:Ds)(S:Dy)(g:Nat)(w:World)(h:DrM w D S)(hv:Var w g 94 (.pointer (some ⟨D.bd,0,none⟩)))(hno:¬ D.own g)(hat:S.at_≤65535)(hct:S.taped<2305843009213693952)(hsw:S.sweeps<2305843009213693952):
 Calls Tryz.prog 195 #[.pointer (some ⟨g,0,none⟩)] w fun e w'=>e=.returned (.tuple #[])∧DrM w' D ((S.taped1 D).turn D (S.stepR D S.at_) (S.stepT D S.at_))∧Keep D.own w w':=by
 obtain⟨hRl,_⟩:=Dy.stepR_len h S.at_
 have hTl:=Dy.stepT_len h S.at_
 have HTp:=hid (dtaped D S w.drew (h.kw (KW.refl w).drew) hat (by omega))
 have HV:=hid hv
 have hgw:=hv.lt
 have HL:=hid h.low
 generalize S.stepR D S.at_=R at *
 generalize S.stepT D S.at_=T at *
 clear h hv
 go_enter Tryz.func195,Tryz.ntmps195
 go_wp2_with fail
 have hXS:w.drew.cell? ⟨g,0,none⟩=some (.pointer (some ⟨D.bd,0,none⟩)):=HV.out.cell
 refine wpX_region (S:=fun W=>W.cell? ⟨g,0,none⟩=some (.pointer (some ⟨D.bd,0,none⟩))) (L:=99) (by kernel_rfl) ?_
 refine tk 0 ?_ (fun _ _=>?_) hXS ?_;rotate_left;· go_simp;try rfl
 simp only[lsz,lss]
 refine tk 1 ?_ (fun _ _=>?_) hXS ?_;rotate_left;· go_simp;try rfl
 simp only[lsz,lss]
 refine wpX_hard (k:=2) (by kernel_rfl) rfl (fun K hK=>?_)
 go_simp
 refine HTp.out.mono ?_
 rintro e w1 ⟨gr,cr,gt,ct,rfl,hne,hgr,hgt,hr1,ht1,hd1,hk1'⟩
 have hk1:Keep D.own w w1:=(KW.refl w).drew.kt hk1'
 have HD1:=hid hd1
 have HK1:=hid hk1
 have HR1:=hid hr1
 have HT1:=hid ht1
 have hXS:w1.cell? ⟨g,0,none⟩=some (.pointer (some ⟨D.bd,0,none⟩)):=(HV.out.keep hk1 hno).cell
 have HV1:=hid (HV.out.keep hk1 hno)
 refine hK _ _ (fun _=>hXS) ?_
 clear hK K hr1 ht1 hd1 hk1 hk1' HTp HV
 try simp only[lsz,lss]
 refine tk 3 ?_ (fun _ _=>?_) hXS ?_;rotate_left;· go_simp;try rfl
 simp only[lsz,lss]
 refine tk 4 ?_ (fun _ _=>?_) hXS ?_;rotate_left;· go_simp;try rfl
 simp only[lsz,lss]
 have HTu:=hid (dturn D _ gr cr gt ct w.heap.size R T w1 HD1.out HL.out HR1.out hRl HT1.out hTl hne ⟨hgr,hgt⟩ HK1.out.size (show S.sweeps<_ by omega))
 refine wpX_hard (k:=5) (by kernel_rfl) rfl (fun K hK=>?_)
 go_simp
 refine HTu.out.mono ?_
 rintro e w3 ⟨rfl,hd3,hk3⟩
 have HD3:=hid hd3
 have HK3:=hid (HK1.out.up (D:=D) (K:=w.heap.size) (fun b e=>.inl e) |>.t hk3)
 have hXS:=hk3.cs (fun e:D.up w.heap.size g=>e.elim hno fun h=>by omega) hXS
 refine hK _ _ (fun _=>hXS) ?_
 clear hK K hd3 hk3
 try simp only[lsz,lss]
 refine wpX_done (by kernel_rfl) ?_
 clear hXS
 go_wp2_with fail
 refine bodyPost_end (results_none rfl _ _ _) rfl ?_
 exact⟨rfl,HD3.out,HK3.out.down⟩
theorem dreverse (D:Ds)(S:Dy)(k:Int)(w:World)(h:DrM w D S)(hnow:0≤S.now)(hn:S.now+D.a≤D.h.words)(hat:S.at_≤65535)(hct:S.taped<2305843009213693952)(hsw:S.sweeps<2305843009213693952):
 Calls Tryz.prog 158 #[.pointer (some ⟨D.bd,0,none⟩),.int .i64 k] w fun e w'=>e=.returned (.tuple #[])∧DrM w' D (S.reverse D)∧Keep D.own w w':=by
 have hk:=(KW.refl w).alloc (.cells #[.pointer (some ⟨D.bd,0,none⟩)] 94)
 have hd:=h.kw hk
 have hv:=Var.new w 94 (.pointer (some ⟨D.bd,0,none⟩))
 have hno:¬ D.own w.heap.size:=h.low.own (Nat.le_refl _)
 have HOf:=hid (dof D S _ hd)
 have HW:=hid (fun W (hW:KW (w.alloc (.cells #[.pointer (some ⟨D.bd,0,none⟩)] 94)) W)=>dwithin D S _ D.a 195 #[.pointer (some ⟨w.heap.size,0,none⟩)] W (hd.kw hW) hnow hn rfl (fun args W=>by kernel_rfl)
  (fun W2 h2 k2=>dreverse1 D (S.hold D.a) w.heap.size W2 h2 ((hv.keep (hW.keep (own:=fun _=>False)) id).keep k2 hno) hno hat hct hsw))
 obtain⟨c4,c5,c6,c7,c8,c9,c10,c11,c12,hbs⟩:=hd.hc
 have HK:=hid hk
 have HV:=hid hv.cell
 clear h hk hd hv hno
 go_enter Tryz.func158,Tryz.ntmps158
 go_wp2_with fail
 refine HOf.out.mono ?_
 rintro e w1 ⟨rfl,hk1⟩
 have HK1:=hid (HK.out.t hk1)
 have cv:w1.cell? ⟨w.heap.size,0,none⟩=some (.pointer (some ⟨D.bd,0,none⟩)):=(hk1.keep (own:=fun _=>False)).cs id HV.out
 have HW1:=hid (HW.out w1 hk1)
 clear hk1 HOf HW c4 c5 c6 c7 c8 c9 c10 c11 c12 hbs
 go_wp2_with fail
 refine HW1.out.mono ?_
 rintro e w2 ⟨rfl,hd2,hk2⟩
 have HD2:=hid hd2
 have HK2:=hid (HK1.out.kt hk2)
 clear hd2 hk2
 go_wp2_with fail
 refine bodyPost_end (results_none rfl _ _ _) rfl ?_
 exact⟨rfl,HD2.out,HK2.out⟩
end Go.Proofs.YtphppbonljdibaaGreat
