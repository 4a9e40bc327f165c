import Derived.Test.YtphppbonljdibaaGreatTB41
import Derived.Test.YtphppbonljdibaaGreatTB24
import Derived.Test.YtphppbonljdibaaGreatTB40
import Derived.Test.YtphppbonljdibaaGreatTB38
import Derived.Test.YtphppbonljdibaaGreatTB19
import Derived.Test.YtphppbonljdibaaGreatTB30
import Derived.Test.YtphppbonljdibaaGreatTB32
set_option maxRecDepth 100000
set_option maxHeartbeats 4000000
set_option linter.unusedVariables false
set_option linter.unusedSimpArgs false
namespace Go.Proofs.YtphppbonljdibaaGreat
open Go.ChangeShapes Go.WideShapes Go.ChangeAt Go.RowKit
noncomputable def nxS (S:Dy)(b:Bool):Option Mc.Act:=Sd.nx S.l b S.at_ S.pend S.tags
theorem nxS_nm (S:Dy)(b:Bool):nxS S b=Sd.nm S.mc.l b S.mc:=rfl
theorem on_none {L tot:Int}{k n:Nat}{T:List Int}(hl:T.length=n)(h:Sd.Held (fun x=>x<(k+1:Nat)∧x % Sd.sd k n=0) T)(hk:k<65536)(hn:1≤n∧n≤1048576):Sd.nm k false ⟨L,k,-1,tot,T⟩=none:=by
 unfold Sd.nm Sd.nx
 have hoff:Sd.off (Sd.sd k T.length) T = -1:=by
  rw[hl]
  rcases Sd.off_cases (Sd.sd k n) T with⟨h1,_⟩|⟨i,hi,_,h2,_⟩
  ·exact h1
  ·unfold Sd.bad at h2
   simp only[Bool.and_eq_true,decide_eq_true_eq] at h2
   rcases h.all i hi with a|⟨_,_,b⟩
   ·omega
   ·exact absurd b h2.2
 rw[if_neg (not_not_intro (h.okS (by omega) (by show(0:Int)≤(k:Int)∧(k:Int)≤k;omega) (by show(-1:Int)≤-1∧(-1:Int)≤k;omega) (by rw[hl];exact hn) fun x hx hp=>by omega)),if_pos (by show(-1:Int)<0;omega),if_neg (by show ¬ (k:Int)<k;omega),hoff,if_neg (by omega),if_neg ?_,if_neg (by simp)]
 rintro⟨h1,h2,_⟩
 rw[hl] at h1
 have:=(h.sl1 (t:=(k:Int)) (by omega)).1 ⟨by omega,h1⟩
 have h3:Sd.slot T k<0:=h2
 omega
theorem on_end (l n:Nat)(tot:Int)(T:List Int){P:Int→Prop}(h:Sd.Held P T)(hl:l<65536)(hn:1≤T.length∧T.length≤1048576):Sd.nm l true ⟨l,0,0,tot,Sd.cut T 0⟩=none:=by
 have hc:=h.cut 0
 have hcl:=Sd.cut_len T 0
 have hb:Sd.base (Sd.cut T 0) = -1:=by
  rcases Sd.base_cases (Sd.cut T 0) with⟨h1,_⟩|⟨k,hk,_,h2,_⟩
  ·exact h1
  ·rcases hc.all k hk with a|⟨_,_,b⟩<;>omega
 unfold Sd.nm Sd.nx
 rw[if_neg (not_not_intro (hc.okS (by omega) (by show(0:Int)≤0∧(0:Int)≤l;omega) (by show(-1:Int)≤0∧(0:Int)≤l;omega) (by rw[hcl];exact hn) fun t h0 ht=>by omega)),if_neg (by show ¬ (0:Int)<0;omega),hb,if_neg (by omega),if_pos rfl]
theorem runs_goes {nx:Mc.St→Option Mc.Act}{L:List Mc.Act}{m m':Mc.St}(h:Mc.Runs nx m L m'):Mc.Goes nx m L m':=by
 rw[← List.append_nil L] at h
 obtain⟨m1,h1,h2⟩:=h.cut
 rw[List.append_nil] at *
 obtain rfl:m'=m1:=h2.1
 exact h1
theorem rnt_pre (D:Ds)(m lim:Int)(b:Bool)(fed:Nat){L2:List Mc.Act}{S':Dy}{b':Bool}{t:Nat}(l:Nat):∀ (L:List Mc.Act) (S:Dy) (m':Mc.St),S.l=l→DyI D S→Mc.Goes (Sd.nm l b) S.mc L m' →
 ((S.acts D L).mc=m'∧DyI D (S.acts D L))∧(RnT nxS D m lim t (S.acts D L) b fed L2 S' b'→RnT nxS D m lim (L.length+t) S b fed (L++L2) S' b')
 | [],S,m',hl,hI,h=>by
   obtain rfl:m'=S.mc:=h
   exact⟨⟨rfl,hI⟩,fun g=>by rw[List.length_nil,Nat.zero_add];exact g⟩
 | a::L,S,m',hl,hI,h=>by
   obtain⟨h1,h2,h3⟩:=h
   have ha:=hI.act h2
   have hl':(S.act D a.1 a.2).l=l:=by
    have e:(S.act D a.1 a.2).mc.l=S.mc.l:=by rw[ha.mc,Mc.step_l]
    have e1:(S.act D a.1 a.2).mc.l=((S.act D a.1 a.2).l:Int):=rfl
    have e2:S.mc.l=(S.l:Int):=rfl
    omega
   rw[← ha.mc] at h3
   have ih:=rnt_pre D m lim b fed (t:=t) (L2:=L2) (S':=S') (b':=b') l L (S.act D a.1 a.2) m' hl' ha.inv h3
   refine⟨ih.1,fun g=>?_⟩
   rw[show(a::L).length+t=(L.length+t)+1 by simp only[List.length_cons];omega]
   refine .inl ⟨a.1,a.2,L++L2,rfl,?_,h2,ih.2 g⟩
   rw[← hl] at h1
   exact h1
def Dy.on (D:Ds):Nat→Dy
 | 0=>(Dy.new D).acts D (Sd.rA D.n 0)
 | k+1=>Dy.acts { Dy.on D k with l:=(Dy.on D k).l+1 } D (Sd.rA D.n (k+1))
theorem on_facts {D:Ds}(hd:DsOk D)(hm:D.h.mode=2)(hn:1≤D.n∧D.n≤1048576)(lim:Int):∀ k:Nat,k≤65535→(k:Int)≤lim →
 ((Dy.on D k).mc=Sd.mA k D.n k∧DyI D (Dy.on D k))∧∀ t L2 S' b',RnT nxS D 2 lim t (Dy.on D k) false k L2 S' b'→RnT nxS D 2 lim ((Sd.aA D.n k).length+k+t) (Dy.new D) false 0 (Sd.aA D.n k++L2) S' b'
 | 0,hk,hlim=>by
   have h0:(Dy.new D).mc=Sd.mZ (0:Nat) D.n 0:=by
    rw[Dy.new_mc]
    have:=(hd.ok.1.bounds.2.2.2.2.2.2.1.2.2 hm)
    rw[this];rfl
   have hg:=runs_goes (Sd.run_ahead (L:=(0:Nat)) (n:=D.n) (k:=0) (by omega) (by omega) hn)
   rw[← h0] at hg
   have hl:(Dy.new D).l=0:=by
    have e:((Dy.new D).l:Int)=(Dy.new D).mc.l:=rfl
    rw[h0] at e
    have e2:(Sd.mZ ((0:Nat):Int) D.n 0).l=0:=rfl
    omega
   refine⟨(rnt_pre D 2 lim false 0 (t:=0) (L2:=[]) (S':=Dy.new D) (b':=false) 0 _ (Dy.new D) _ hl (dyI_new hd) hg).1,fun t L2 S' b' g=>?_⟩
   exact(rnt_pre D 2 lim false 0 0 _ (Dy.new D) _ hl (dyI_new hd) hg).2 g
 | k+1,hk,hlim=>by
   obtain⟨⟨h1,h2⟩,h3⟩:=on_facts hd hm hn lim k (by omega) (by omega)
   have hl:(Dy.on D k).l=k:=by
    have e:((Dy.on D k).l:Int)=(Dy.on D k).mc.l:=rfl
    rw[h1] at e
    have e2:(Sd.mA (k:Int) D.n k).l=k:=rfl
    omega
   have hp:(Dy.on D k).pend = -1:=by
    have e:(Dy.on D k).pend=(Dy.on D k).mc.pend:=rfl
    rw[e,h1];rfl
   have hI:=h2.more (by omega)
   have hmc:Dy.mc { Dy.on D k with l:=(Dy.on D k).l+1 } = Sd.mZ (k+1:Nat) D.n (k+1):=by
    have e:Dy.mc { Dy.on D k with l:=(Dy.on D k).l+1 } = { (Dy.on D k).mc with l:=(((Dy.on D k).l+1:Nat):Int) }:=rfl
    rw[e,h1,hl];rfl
   have hg:=runs_goes (Sd.run_ahead (L:=(k+1:Nat)) (n:=D.n) (k:=k+1) (by omega) (by omega) hn)
   rw[← hmc] at hg
   have hnx:nxS (Dy.on D k) false=none:=by
    rw[nxS_nm,h1]
    exact on_none (Sd.aT_len _ _) (Sd.aT_held (by omega) hn) (by omega) hn
   have hp2:=fun t L2 S' b'=>rnt_pre D 2 lim false (k+1) (t:=t) (L2:=L2) (S':=S') (b':=b') (k+1) _ { Dy.on D k with l:=(Dy.on D k).l+1 } _ (by show(Dy.on D k).l+1=k+1;omega) hI hg
   refine⟨(hp2 0 [] (Dy.new D) false).1,fun t L2 S' b' g=>?_⟩
   have g2:=(hp2 t L2 S' b').2 g
   have g3:=h3 ((Sd.rA D.n (k+1)).length+t+1) (Sd.rA D.n (k+1)++L2) S' b' (Or.inr (Or.inl ⟨hnx,rfl,rfl,by omega,by rw[hp];omega,by omega,g2⟩))
   have e1:Sd.aA D.n (k+1)=Sd.aA D.n k++Sd.rA D.n (k+1):=rfl
   rw[e1,List.append_assoc,List.length_append]
   rw[show(Sd.aA D.n k).length+(Sd.rA D.n (k+1)).length+(k+1)+t=(Sd.aA D.n k).length+k+((Sd.rA D.n (k+1)).length+t+1) by omega]
   exact g3
theorem rnt_on (D:Ds)(l:Nat)(hl:l≤65535)(hd:DsOk D)(hm:D.h.mode=2):
 ∃ S',RnT nxS D D.h.mode l ((Sd.lA D.n l).length+l+1) (Dy.new D) false 0 (Sd.lA D.n l) S' true∧S'.mc=⟨l,0,0,Sd.tot l (Sd.sd l D.n),Sd.cut (Sd.aT D.n l) 0⟩:=by
 have hb:=hd.ok.1.bounds
 have hs:=(slots_ok D.h hd.ok)
 have hnI:=hd.nI
 have hs1:=hs.2.2.2 hd.m3
 have hs2:=hs.2.1
 have hn:1≤D.n∧D.n≤1048576:=by omega
 obtain⟨⟨h1,h2⟩,h3⟩:=on_facts hd hm hn l l hl (by omega)
 have hll:(Dy.on D l).l=l:=by
  have e:((Dy.on D l).l:Int)=(Dy.on D l).mc.l:=rfl
  rw[h1] at e
  have e2:(Sd.mA (l:Int) D.n l).l=l:=rfl
  omega
 have hg:=runs_goes (Sd.back_runs (n:=D.n) (l:=l) (by omega) hn)
 rw[← h1] at hg
 have hp:=rnt_pre D 2 (l:Int) true (l+1) (t:=0) (L2:=[]) (S':=(Dy.on D l).acts D (Sd.bL (Sd.sd l D.n) (Sd.aT D.n l) l)) (b':=true) l _ (Dy.on D l) _ hll h2 hg
 have hnx:nxS (Dy.on D l) false=none:=by
  rw[nxS_nm,h1]
  exact on_none (Sd.aT_len _ _) (Sd.aT_held (by omega) hn) (by omega) hn
 have hne:nxS ((Dy.on D l).acts D (Sd.bL (Sd.sd l D.n) (Sd.aT D.n l) l)) true=none:=by
  rw[nxS_nm,hp.1.1]
  exact on_end l D.n _ _ (Sd.aT_held (by omega) hn) (by omega) (by rw[Sd.aT_len];exact hn)
 have g:=hp.2 ⟨rfl,rfl,rfl,hne,.inr rfl⟩
 rw[List.append_nil,Nat.add_zero] at g
 have g3:=h3 ((Sd.bL (Sd.sd l D.n) (Sd.aT D.n l) l).length+1) (Sd.bL (Sd.sd l D.n) (Sd.aT D.n l) l) ((Dy.on D l).acts D (Sd.bL (Sd.sd l D.n) (Sd.aT D.n l) l)) true (Or.inr (Or.inr ⟨hnx,rfl,rfl,by omega,g⟩))
 refine⟨_,?_,hp.1.1⟩
 rw[hm]
 have e:Sd.lA D.n l=Sd.aA D.n l++Sd.bL (Sd.sd l D.n) (Sd.aT D.n l) l:=rfl
 rw[e,List.length_append]
 rw[show(Sd.aA D.n l).length+(Sd.bL (Sd.sd l D.n) (Sd.aT D.n l) l).length+l+1=(Sd.aA D.n l).length+l+((Sd.bL (Sd.sd l D.n) (Sd.aT D.n l) l).length+1) by omega]
 exact g3
theorem lA_40 (n l:Nat)(hl:l≤40):(Sd.lA n l).length≤2000:=by
 have e:Sd.lA n l=Sd.aA n l++Sd.bL (Sd.sd l n) (Sd.aT n l) l:=rfl
 have h1:=Sd.aB_le n (L:=40) (l+1) (by omega)
 rw[Sd.aB_aA] at h1
 have h2:=Sd.bL_le (Sd.sd l n) (Sd.aT n l) l
 have h3:(l+1) * (40+2)≤41 * 42:=Nat.mul_le_mul (by omega) (by omega)
 rw[e,List.length_append]
 omega
theorem rnt_uniq (nx:Dy→Bool→Option Mc.Act)(D:Ds)(m lim:Int):∀ (T:Nat) (S:Dy) (b:Bool) (fed:Nat) (L:List Mc.Act) (S1 S2:Dy) (b1 b2:Bool),RnT nx D m lim T S b fed L S1 b1→RnT nx D m lim T S b fed L S2 b2→S1=S2
 | 0,S,b,fed,L,S1,S2,b1,b2,h,g=>by
   obtain⟨_,rfl,_⟩:=h
   exact g.2.1.symm
 | T+1,S,b,fed,L,S1,S2,b1,b2,h,g=>by
   rcases h with⟨k,n,L',rfl,h1,h2,h⟩|⟨h1,h2,h3,h4,h5,h6,h⟩|⟨h1,h2,h3,h4,h⟩
   ·rcases g with⟨k',n',L'',e,g1,g2,g⟩|⟨g1,_⟩|⟨g1,_⟩
    ·cases e
     exact rnt_uniq nx D m lim T _ _ _ _ _ _ _ _ h g
    ·rw[h1] at g1;cases g1
    ·rw[h1] at g1;cases g1
   ·rcases g with⟨k',n',L'',e,g1,g2,g⟩|⟨g1,_,_,g4,_,_,g⟩|⟨g1,_,_,g4,_⟩
    ·rw[h1] at g1;cases g1
    ·exact rnt_uniq nx D m lim T _ _ _ _ _ _ _ _ h g
    ·exact absurd h4 g4
   ·rcases g with⟨k',n',L'',e,g1,g2,g⟩|⟨g1,_,_,g4,_,_,g⟩|⟨g1,_,_,g4,g⟩
    ·rw[h1] at g1;cases g1
    ·exact absurd g4 h4
    ·exact rnt_uniq nx D m lim T _ _ _ _ _ _ _ _ h g
def Hd.n (h:Hd):Nat:=(slotsW h).toNat
def Hd.l (h:Hd):Nat:=h.len.toNat
theorem right_nl {h:Hd}(hr:Right h)(hm:h.mode≠3)(hm2:h.mode≠2):(h.n:Int)=slotsW h∧(h.l:Int)=h.len∧1≤h.n∧h.n≤1048576∧h.l≤40:=by
 have hb:=hr.ok.1.bounds
 have hs:=slots_ok h hr.ok
 have h1:=hs.2.2.2 hm
 have h2:=hs.2.1
 have h3:=hr.len
 unfold Hd.n Hd.l
 omega
theorem eonline (be:Nat)(F:FuncId)(D:Ds)(S:Dy)(b:Bool)(w:World)(h:EnM w be F D S b):
 Calls Tryz.prog 107 #[.pointer (some ⟨be,0,none⟩)] w (AnsP w (Sd.nx S.l b S.at_ S.pend S.tags)):=by
 have hk0:=(KW.refl w).alloc (.cells #[.int .i64 0,.int .i64 0] 55)
 have HLe:=hid (elen be F D S b _ (h.kw (hk0.drew)))
 have HSp:=hid (espot be F D S b _ (h.kw (hk0.drew)))
 have HNx:=hid (fun W v (hv:RTz W v S.tags)=>snext_any S.l b S.at_ S.pend S.tags v W hv)
 have HA0:=hid (act2_row w 0 0)
 have HK0:=hid hk0
 have HC:Hid (∀ W,KW w W→W.cell? ⟨be,3,none⟩=some (.bool b)):=hid fun W hW=>(h.kw hW).cell (i:=3) (by omega)
 unfold AnsP at *
 generalize Sd.nx S.l b S.at_ S.pend S.tags=r at *
 generalize (r.getD (0,0)).1=k at *
 generalize (r.getD (0,0)).2=n at *
 generalize r.isSome=q at *
 clear h hk0
 go_enter Tryz.func107,Tryz.ntmps107
 go_wp2_with fail
 have hXS:=HC.out _ HK0.out.drew
 refine wpX_region (S:=fun W=>W.cell? ⟨be,3,none⟩=some (.bool b)) (L:=99) (by kernel_rfl) ?_
 refine tk 0 ?_ (fun _ _=>?_) hXS ?_;rotate_left;· go_simp;try rfl
 simp only[lsz,lss]
 refine tk 2 ?_ (fun _ _=>?_) hXS ?_;rotate_left;· go_simp;try rfl
 simp only[lsz,lss]
 refine tk 3 ?_ (fun _ _=>?_) hXS ?_;rotate_left;· go_simp;try rfl
 simp only[lsz,lss]
 refine tk 4 ?_ (fun _ _=>?_) hXS ?_;rotate_left;· go_simp;try rfl
 simp only[lsz,lss]
 refine tk 5 ?_ (fun _ _=>?_) hXS ?_;rotate_left;· go_simp;try rfl
 simp only[lsz,lss]
 refine tk 6 ?_ (fun _ _=>?_) hXS ?_;rotate_left;· go_simp;try rfl
 simp only[lsz,lss]
 refine wpX_hard (k:=1) (by kernel_rfl) rfl (fun K hK=>?_)
 go_simp
 refine HLe.out.mono ?_
 rintro e w1 ⟨rfl,rfl⟩
 refine hK _ _ (fun _=>hXS) ?_
 clear hK K
 try simp only[lsz,lss]
 refine wpX_hard (k:=7) (by kernel_rfl) rfl (fun K hK=>?_)
 go_simp
 refine HSp.out.mono ?_
 rintro e w2 ⟨v,rfl,ho2,hk2⟩
 have hz2:RTz w2 v S.tags:=Owns.rtz ho2
 obtain⟨A2,c2,rfl,_⟩:=ho2.row
 have HN2:=hid (HNx.out w2 _ hz2)
 have HK2:=hid (HK0.out.drew.t hk2)
 have HA2:=hid (KW.row hk2 HA0.out.lt HA0.out.drew)
 have hXS:=HC.out w2 HK2.out
 refine hK _ _ (fun _=>hXS) ?_
 clear hK K ho2 hk2 hz2 HNx HSp HLe HA0 HK0
 generalize (ivs S.tags).length=N at *
 try simp only[lsz,lss]
 refine wpX_hard (k:=8) (by kernel_rfl) rfl (fun K hK=>?_)
 go_simp
 refine HN2.out.mono ?_
 rintro e w3 ⟨rfl,hk3⟩
 have HK3:=hid (HK2.out.t hk3)
 have HA3:=hid (KW.row hk3 HA2.out.lt HA2.out)
 have hXS:=HC.out w3 HK3.out
 refine hK _ _ (fun _=>hXS) ?_
 clear hK K hk3 HN2 HA2 HK2
 try simp only[lsz,lss]
 refine tk 9 ?_ (fun _ _=>?_) hXS ?_;rotate_left;· go_simp;try rfl
 simp only[lsz,lss]
 refine tk 10 ?_ (fun _ _=>?_) hXS ?_;rotate_left;· go_simp;try rfl
 simp only[lsz,lss]
 refine wpX_store_is (k:=11) (by kernel_rfl) rfl rfl rfl 55 _ _ rfl w.heap.size 2 55 _ (actF k n) #[.int .i64 k,.int .i64 n] rfl rfl HA3.out (by kernel_rfl) rfl (fun i hi=>?_) (fun i hi=>?_) ?_
 ·rcases(show i=0∨i=1 by omega) with rfl|rfl<;>rfl
 ·rcases(show i=0∨i=1 by omega) with rfl|rfl<;>rfl
 intro W4 hrow4 hb4 hkeep
 have HB4:=hid hb4
 have HK4:Hid (KW w W4):=hid (HK3.out.kept hkeep fun i e=>by omega)
 have hXS:=HC.out W4 HK4.out
 refine⟨fun _=>hXS,?_⟩
 clear hb4 hkeep HA3 hrow4
 refine tk 12 ?_ (fun _ _=>?_) hXS ?_;rotate_left;· go_simp;try rfl
 simp only[lsz,lss]
 refine wpX_done (by kernel_rfl) ?_
 clear hXS
 go_wp2_with fail
 exact bodyPost_ret (results_cell_tmp rfl _ _ _ _ _ (0,0) _ rfl HB4.out Tryz.underlying55 rfl (by kernel_rfl)) rfl ⟨rfl,HK4.out⟩
theorem nx_on (be:Nat)(D:Ds)(S:Dy)(b:Bool):NxP be 107 D S b (Sd.nx S.l b S.at_ S.pend S.tags):=⟨fun args W=>by kernel_rfl,fun W h=>eonline be _ D S b W h⟩
theorem right_n {h:Hd}(hr:Right h)(hm:h.mode≠3):(h.n:Int)=slotsW h∧1≤h.n∧h.n≤1048576:=by
 have hb:=hr.ok.1.bounds
 have hs:=slots_ok h hr.ok
 have h1:=hs.2.2.2 hm
 have h2:=hs.2.1
 unfold Hd.n
 omega
theorem nx_on2 (be:Nat)(D:Ds)(S:Dy)(b:Bool):NxP be (enF 2) D S b (nxS S b):=nx_on be D S b
def RanN (h:Hd)(l:Nat)(w:World)(e:Ending)(w':World):Prop:=
 ∃ be D S' v,e=.returned (.tuple #[.pointer (some ⟨be,0,none⟩),v,.bool true])∧OwnsA w' w.heap.size v (Sd.lA h.n l)∧EnM w' be (enF 2) D S' true∧(S'.plain:Int)=Sd.tot l (Sd.sd l h.n)∧KW w w'
theorem on_key (h:Hd)(hm:h.mode=2)(D:Ds):(∃ xA xc tA tc sA sc lA lc,D.h=h.at_ xA xc tA tc sA sc lA lc)→D.n=h.n∧D.h.mode=2:=by
 rintro⟨xA,xc,tA,tc,sA,sc,lA,lc,e⟩
 have e2:D.n=h.n:=by unfold Ds.n Hd.n;rw[e];rfl
 exact⟨e2,by rw[e];exact hm⟩
theorem ran_on (h:Hd)(l:Nat)(hl:l≤40)(w:World)(hM:HdM w h)(hr:Right h)(hm:h.mode=2):Calls Tryz.prog 9 #[.agg h.v,.int .i64 l] w (RanN h l w):=by
 have hlen:=lA_40 h.n l hl
 have hq:=ran_any nxS h l ((Sd.lA h.n l).length+l+1) (Sd.lA h.n l) true w hM hr.ok (by omega) (by omega) (fun be D S b=>by rw[hm];exact nx_on2 be D S b) (fun D hD hd=>by
  obtain⟨e2,e3⟩:=on_key h hm D hD
  obtain⟨S',ho,_⟩:=rnt_on D l (by omega) hd e3
  rw[e2,e3] at ho
  rw[hm]
  exact⟨_,ho⟩)
 refine hq.mono ?_
 rintro e w1 ⟨be,D,S',v,hD,hR,rfl,ho,hE,hI,_,_,hk⟩
 obtain⟨e2,e3⟩:=on_key h hm D hD
 obtain⟨S2,ho2,hmc⟩:=rnt_on D l (by omega) hE.dr.ds e3
 rw[e2] at hmc
 rw[e2,e3] at ho2
 rw[hm] at hR hE
 obtain rfl:=rnt_uniq _ _ _ _ _ _ _ _ _ _ _ _ _ hR ho2
 have hp:S'.pend=0:=congrArg Mc.St.pend hmc
 exact⟨be,D,S',v,by rw[hp];rfl,ho,hE,congrArg Mc.St.tot hmc,hk⟩
theorem count_at0 (a b c d:Int)(W:World):(Instr.field 42 (.agg #[.int .i64 a,.int .i64 b,.int .i64 c,.int .i64 d]) 0).run Tryz.prog W=.ok (.int .i64 a) W:=by kernel_rfl
theorem up_cons (m:Mc.St)(a:Mc.Act)(l:List Mc.Act):∀ k,Mc.up m (a::l) (k+1)=Mc.up (Mc.step m a.1 a.2).1 l k
 | 0=>rfl
 | k+1=>by
   rw[Mc.up,up_cons m a l k]
   rfl
theorem er_cons (m:Mc.St)(a:Mc.Act)(l:List Mc.Act)(k:Nat):Mc.er m (a::l) (k+1)=Mc.er (Mc.step m a.1 a.2).1 l k:=by
 unfold Mc.er
 rw[up_cons]
 rfl
theorem does_er:∀ (l:List Mc.Act) (m m':Mc.St),Mc.Does m l m'→∀ k,k<l.length→Mc.er m l k=0
 | [],_,_,_,k,hk=>absurd hk (Nat.not_lt_zero _)
 | a::l,m,m',⟨h1,h2⟩,0,_=>h1
 | a::l,m,m',⟨h1,h2⟩,k+1,hk=>by
   rw[er_cons]
   exact does_er l _ _ h2 k (by simpa using hk)
end Go.Proofs.YtphppbonljdibaaGreat
