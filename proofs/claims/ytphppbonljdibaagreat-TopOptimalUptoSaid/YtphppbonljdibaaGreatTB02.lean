import Derived.Test.YtphppbonljdibaaGreatTB01
import Derived.WalkMore
import Derived.Scope
set_option maxRecDepth 100000
set_option maxHeartbeats 4000000
set_option linter.unusedVariables false
set_option linter.unusedSimpArgs false
namespace Go.Proofs.YtphppbonljdibaaGreat
namespace Fl
theorem Nst.sized {l u:List O}{d:Nat}(h:Nst l u d):∀ (r:List O) (i:Nat) (t:Fr) (fr:List Fr) (sz:List Nat),i+l.length≤sz.length→Fl.szs (l++r) i (t::fr) sz≠none→Nsz l u d:=by
 induction h with
 | nil=>intro r i t fr sz _ _;exact .nil
 | @op o l u d h0 h1 r ih=>
   intro r' i t fr sz hi hne
   rw[List.length_cons] at hi
   refine .op h0 h1 (ih r' (i+1) { t with w:=t.w+1 } fr (sz.set i 1) (by simp;omega) ?_)
   have:sz1 o i (t::fr) sz=some ({ t with w:=t.w+1 } :: fr,sz.set i 1):=by
    unfold sz1
    rw[if_neg (by omega),if_neg (by omega)]
   have e:Fl.szs (o::l++r') i (t::fr) sz=Fl.szs (l++r') (i+1) ({ t with w:=t.w+1 } :: fr) (sz.set i 1):=by
    show(match sz1 o i (t::fr) sz with|none=>none|some (fr',sz')=>Fl.szs (l++r') (i+1) fr' sz')=_
    rw[this]
   rwa [e] at hne
 | @rep o e body l ub u d d' ho he hb r ihb ihr=>
   intro r' i t fr sz hi hne
   simp only[List.length_cons,List.length_append] at hi
   rw[show o::(body++e::l)++r'=o::(body++(e::(l++r'))) by simp] at hne
   have h1:sz1 o i (t::fr) sz=some (⟨i,o.v,0⟩::t::fr,sz):=by
    unfold sz1
    rw[if_pos ho]
   have e1:Fl.szs (o::(body++(e::(l++r')))) i (t::fr) sz=Fl.szs (body++(e::(l++r'))) (i+1) (⟨i,o.v,0⟩::t::fr) sz:=by
    show(match sz1 o i (t::fr) sz with|none=>none|some (fr',sz')=>Fl.szs (body++(e::(l++r'))) (i+1) fr' sz')=_
    rw[h1]
   rw[e1] at hne
   have hB:=ihb (e::(l++r')) (i+1) ⟨i,o.v,0⟩ (t::fr) sz (by omega) hne
   obtain⟨s1,a1,a2,a3,a4⟩:=hB.szs (e::(l++r')) (i+1) ⟨i,o.v,0⟩ (t::fr) sz (by omega)
   rw[a1] at hne
   cases hn:blk ub.length o.v with
   | none=>
     exfalso
     apply hne
     show(match sz1 e (i+1+body.length) (⟨i,o.v,0+ub.length⟩::t::fr) s1 with|none=>none|some (fr',sz')=>Fl.szs (l++r') (i+1+body.length+1) fr' sz')=_
     have h2:sz1 e (i+1+body.length) (⟨i,o.v,0+ub.length⟩::t::fr) s1=none:=by
      unfold sz1
      rw[if_neg (by omega),if_pos he]
      simp only[Nat.zero_add,hn]
     rw[h2]
   | some n=>
     have h2:sz1 e (i+1+body.length) (⟨i,o.v,0+ub.length⟩::t::fr) s1=some ({ t with w:=t.w+n } :: fr,s1.set i n):=by
      unfold sz1
      rw[if_neg (by omega),if_pos he]
      simp only[Nat.zero_add,hn]
     have e2:Fl.szs (e::(l++r')) (i+1+body.length) (⟨i,o.v,0+ub.length⟩::t::fr) s1=Fl.szs (l++r') (i+1+body.length+1) ({ t with w:=t.w+n } :: fr) (s1.set i n):=by
      show(match sz1 e (i+1+body.length) (⟨i,o.v,0+ub.length⟩::t::fr) s1 with|none=>none|some (fr',sz')=>Fl.szs (l++r') (i+1+body.length+1) fr' sz')=_
      rw[h2]
     rw[show Fl.szs (e::(l++r')) (i+1+body.length) ({ (⟨i,o.v,0⟩:Fr) with w:=(⟨i,o.v,0⟩:Fr).w+ub.length } :: t::fr) s1=Fl.szs (e::(l++r')) (i+1+body.length) (⟨i,o.v,0+ub.length⟩::t::fr) s1 from rfl,e2] at hne
     exact .rep ho he hn hB (ihr r' (i+1+body.length+1) { t with w:=t.w+n } fr (s1.set i n) (by simp[a2];omega) hne)
inductive An (sz:List Nat) (mt:List Int):Nat→List O→List O→Nat→Prop
 | nil (p:Nat):An sz mt p [] [] 0
 | op {p:Nat} {o:O} {l u:List O} {d:Nat} (h0:1≤o.k) (h1:o.k≤6) (r:An sz mt (p+1) l u d):An sz mt p (o::l) (o::u) d
 | rep {p n:Nat} {o e:O} {body l ub u:List O} {d d':Nat} (ho:o.k=7) (he:e.k=0) (hn:blk ub.length o.v=some n) (hs:sz.getD p 0=n) (hm:mt.getD p 0=((p+1+body.length:Nat):Int)) (hb:An sz mt (p+1) body ub d) (r:An sz mt (p+body.length+2) l u d'):
    An sz mt p (o::(body++e::l)) ((List.replicate o.v.toNat ub).flatten++u) (max (d+1) d')
theorem An.congr {sz sz2:List Nat}{mt mt2:List Int}{p:Nat}{l u:List O}{d:Nat}(h:An sz mt p l u d)(hs:∀ q,p≤q→q<p+l.length→sz2.getD q 0=sz.getD q 0)(hm:∀ q,p≤q→q<p+l.length→mt2.getD q 0=mt.getD q 0):An sz2 mt2 p l u d:=by
 induction h with
 | nil p=>exact .nil p
 | op h0 h1 r ih=>exact .op h0 h1 (ih (fun q h1 h2=>hs q (by omega) (by simp only[List.length_cons];omega)) (fun q h1 h2=>hm q (by omega) (by simp only[List.length_cons];omega)))
 | @rep p n o e body l ub u d d' ho he hn hs' hm' hb r ihb ihr=>
   simp only[List.length_cons,List.length_append] at hs hm
   exact .rep ho he hn ((hs p (by omega) (by omega)).trans hs') ((hm p (by omega) (by omega)).trans hm') (ihb (fun q h1 h2=>hs q (by omega) (by omega)) (fun q h1 h2=>hm q (by omega) (by omega))) (ihr (fun q h1 h2=>hs q (by omega) (by omega)) (fun q h1 h2=>hm q (by omega) (by omega)))
inductive CR (L:List O) (sz:List Nat) (mt:List Int):Nat→List Nat→List I→List I→Nat→Prop
 | halt (out:List I):CR L sz mt L.length [] out out 0
 | op {i n:Nat} {o:O} {opn:List Nat} {out fin:List I} (h:L[i]?=some o) (h0:1≤o.k) (h1:o.k≤6) (r:CR L sz mt (i+1) opn (out++[⟨o,0⟩]) fin n):CR L sz mt i opn out fin (n+1)
 | skip {i j n:Nat} {o:O} {opn:List Nat} {out fin:List I} (h:L[i]?=some o) (hk:o.k=7) (hz:sz.getD i 0=0) (hm:mt.getD i 0=(j:Int)) (hj:i<j) (hl:j<L.length) (r:CR L sz mt (j+1) opn out fin n):CR L sz mt i opn out fin (n+1)
 | rep {i n:Nat} {o:O} {opn:List Nat} {out fin:List I} (h:L[i]?=some o) (hk:o.k=7) (hz:sz.getD i 0≠0) (r:CR L sz mt (i+1) (out.length::opn) (out++[⟨o,0⟩]) fin n):CR L sz mt i opn out fin (n+1)
 | end_ {i b n:Nat} {o:O} {j:I} {opn:List Nat} {out fin:List I} (h:L[i]?=some o) (hk:o.k=0) (hb:out[b]?=some j) (r:CR L sz mt (i+1) opn (out.set b ⟨j.o,((out.length+1:Nat):Int)⟩++[⟨o,((b+1:Nat):Int)⟩]) fin n):CR L sz mt i (b::opn) out fin (n+1)
theorem An.code {sz:List Nat}{mt:List Int}{p:Nat}{l u:List O}{d:Nat}(h:An sz mt p l u d):∀ {pre post:List O} {opn:List Nat} {out:List I},pre.length=p →
 ∃ seg d',Cd out.length seg u d'∧d'≤d∧∀ {fin:List I} {n:Nat},CR (pre++l++post) sz mt (p+l.length) opn (out++seg) fin n→∃ n',CR (pre++l++post) sz mt p opn out fin n':=by
 induction h with
 | nil p=>intro pre post opn out hp;exact⟨[],0,.nil _,Nat.le_refl _,fun {fin n} hr=>⟨n,by simpa using hr⟩⟩
 | @op p o l u d h0 h1 r ih=>
   intro pre post opn out hp
   have e:pre++(o::l)++post=(pre++[o])++l++post:=by simp
   obtain⟨seg,d',q1,q2,q3⟩:=ih (pre:=pre++[o]) (post:=post) (opn:=opn) (out:=out++[⟨o,0⟩]) (by simp[hp])
   rw[List.length_append,List.length_singleton] at q1
   refine⟨⟨o,0⟩::seg,d',.op ⟨by omega,by omega⟩ q1,q2,fun {fin n} hr=>?_⟩
   rw[e] at hr ⊢
   obtain⟨n',q4⟩:=q3 (fin:=fin) (n:=n) (by
    rw[show p+1+l.length=p+(o::l).length by simp only[List.length_cons];omega,show out++[⟨o,0⟩]++seg=out ++ ⟨o,0⟩::seg by simp]
    exact hr)
   refine⟨n'+1,.op ?_ h0 h1 q4⟩
   rw[← e,← hp,List.append_assoc]
   exact at_mid pre _ _
 | @rep p n o e body l ub u d d' ho he hn hs hm hb r ihb ihr=>
   intro pre post opn out hp
   obtain⟨c,hc⟩:∃ c,c=pre++(o::(body++e::l))++post:=⟨_,rfl⟩
   have c1:c=(pre++[o])++body++(e::(l++post)):=by rw[hc];simp
   have c2:c=(pre++o::(body++[e]))++l++post:=by rw[hc];simp
   have p0:c[p]?=some o:=by rw[hc,← hp,List.append_assoc];exact at_mid pre _ _
   have p1:c[p+1+body.length]?=some e:=by
    have:=at_mid (pre++[o]++body) e (l++post)
    rw[← c1] at this
    rw[show(pre++[o]++body).length=p+1+body.length by simp[hp];omega] at this
    exact this
   have hlen:p+(o::(body++e::l)).length=p+body.length+2+l.length:=by simp only[List.length_cons,List.length_append];omega
   by_cases hz:n=0
   ·
    subst hz
    have hub:(List.replicate o.v.toNat ub).flatten=[]:=List.length_eq_zero_iff.1 (blk_len hn)
    obtain⟨seg,d2,q1,q2,q3⟩:=ihr (pre:=pre++o::(body++[e])) (post:=post) (opn:=opn) (out:=out) (by simp[hp];omega)
    rw[hub,List.nil_append]
    refine⟨seg,d2,q1,by omega,fun {fin m} hr=>?_⟩
    rw[hlen] at hr
    rw[← hc] at hr ⊢
    rw[← c2] at q3
    obtain⟨n',q4⟩:=q3 hr
    refine⟨n'+1,.skip p0 ho hs hm (by omega) (List.getElem?_eq_some_iff.1 p1).1 ?_⟩
    rw[show p+1+body.length+1=p+body.length+2 by omega]
    exact q4
   ·obtain⟨sb,db,b1,b2,b3⟩:=ihb (pre:=pre++[o]) (post:=e::(l++post)) (opn:=out.length::opn) (out:=out++[⟨o,0⟩]) (by simp[hp])
    rw[List.length_append,List.length_singleton] at b1
    have hlo:(out++[(⟨o,((out.length+sb.length+2:Nat):Int)⟩:I)]++sb++[(⟨e,((out.length+1:Nat):Int)⟩:I)]).length=out.length+sb.length+2:=by simp;omega
    obtain⟨sl,dl,l1,l2,l3⟩:=ihr (pre:=pre++o::(body++[e])) (post:=post) (opn:=opn) (out:=out++[⟨o,((out.length+sb.length+2:Nat):Int)⟩]++sb++[⟨e,((out.length+1:Nat):Int)⟩]) (by simp[hp];omega)
    rw[hlo] at l1
    have hv:1≤o.v.toNat:=by
     rcases Nat.eq_zero_or_pos o.v.toNat with h0|h0
     ·have:=blk_len hn
      rw[h0] at this
      simp at this
      omega
     ·exact h0
    have hvv:o.v=(o.v.toNat:Int):=by omega
    refine⟨⟨o,((out.length+sb.length+2:Nat):Int)⟩::(sb ++ ⟨e,((out.length+1:Nat):Int)⟩::sl),max (db+1) dl,.rep ho he hvv hv b1 l1,by omega,fun {fin m} hr=>?_⟩
    rw[hlen] at hr
    rw[← hc] at hr ⊢
    rw[← c2] at l3
    rw[← c1] at b3
    obtain⟨n1,q1⟩:=l3 (fin:=fin) (n:=m) (by simpa using hr)
    have q2:CR c sz mt (p+1+body.length) (out.length::opn) (out++[⟨o,0⟩]++sb) fin (n1+1):=by
     refine .end_ (j:=⟨o,0⟩) p1 he (by rw[List.append_assoc];exact at_mid out _ _) ?_
     rw[show p+1+body.length+1=p+body.length+2 by omega]
     have e1:(out++[(⟨o,0⟩:I)]++sb).set out.length (⟨o,(((out++[(⟨o,0⟩:I)]++sb).length+1:Nat):Int)⟩:I)=out++[⟨o,((out.length+sb.length+2:Nat):Int)⟩]++sb:=by
      rw[show(out++[(⟨o,0⟩:I)]++sb).length+1=out.length+sb.length+2 by simp;omega]
      simp
     rw[e1]
     exact q1
    obtain⟨n2,q3⟩:=b3 q2
    exact⟨n2+1,.rep p0 ho (by rw[hs];exact hz) q3⟩
end Fl
end Go.Proofs.YtphppbonljdibaaGreat
namespace Go.Proofs.YtphppbonljdibaaGreat
namespace Fl
def mts:List O→Nat→List Nat→List Int→List Int
 | [],_,_,out=>out
 | o::l,i,opn,out=>mts l (i+1) ((wk1 o i opn).getD []) (mt1 o i opn out)
theorem getD_set' {α:Type}(L:List α)(i q:Nat)(x d:α)(h:i≠q):(L.set i x).getD q d=L.getD q d:=by
 simp[List.getD_eq_getElem?_getD,List.getElem?_set_ne h]
theorem getD_set_eq {α:Type}(L:List α)(i:Nat)(x d:α)(h:i<L.length):(L.set i x).getD i d=x:=by
 simp[List.getD_eq_getElem?_getD,h]
theorem Nsz.an {l u:List O}{d:Nat}(h:Nsz l u d):∀ (r:List O) (i:Nat) (t:Fr) (fr:List Fr) (sz:List Nat) (opn:List Nat) (mt:List Int),i+l.length≤sz.length→i+l.length≤mt.length →
 ∃ sz' mt',Fl.szs (l++r) i (t::fr) sz=Fl.szs r (i+l.length) ({ t with w:=t.w+u.length } :: fr) sz'∧mts (l++r) i opn mt=mts r (i+l.length) opn mt'∧sz'.length=sz.length∧mt'.length=mt.length ∧
  (∀ q,q<i→sz'.getD q 0=sz.getD q 0∧mt'.getD q 0=mt.getD q 0)∧(∀ q,i+l.length≤q→sz'.getD q 0=sz.getD q 0∧mt'.getD q 0=mt.getD q 0)∧An sz' mt' i l u d:=by
 induction h with
 | nil=>intro r i t fr sz opn mt _ _;exact⟨sz,mt,rfl,rfl,rfl,rfl,fun _ _=>⟨rfl,rfl⟩,fun _ _=>⟨rfl,rfl⟩,.nil _⟩
 | @op o l u d h0 h1 r ih=>
   intro r' i t fr sz opn mt hi hj
   rw[List.length_cons] at hi hj
   obtain⟨sz',mt',e1,e2,e3,e4,e5,e6,e7⟩:=ih r' (i+1) { t with w:=t.w+1 } fr (sz.set i 1) opn (mt.set i (-1)) (by simp;omega) (by simp;omega)
   have hs1:sz1 o i (t::fr) sz=some ({ t with w:=t.w+1 } :: fr,sz.set i 1):=by
    unfold sz1
    rw[if_neg (by omega),if_neg (by omega)]
   have hm1:mt1 o i opn mt=mt.set i (-1):=by
    unfold mt1
    rw[if_neg (by omega)]
   refine⟨sz',mt',?_,?_,by rw[e3];simp,by rw[e4];simp,fun q hq=>?_,fun q hq=>?_,.op h0 h1 e7⟩
   ·show(match sz1 o i (t::fr) sz with|none=>none|some (fr',sz')=>Fl.szs (l++r') (i+1) fr' sz')=_
    rw[hs1]
    show Fl.szs (l++r') (i+1) _ _=_
    rw[e1,List.length_cons,List.length_cons,show i+1+l.length=i+(l.length+1) by omega,show t.w+1+u.length=t.w+(u.length+1) by omega]
   ·show mts (l++r') (i+1) ((wk1 o i opn).getD []) (mt1 o i opn mt)=_
    rw[wk1_op h0 h1,hm1]
    show mts (l++r') (i+1) opn (mt.set i (-1))=_
    rw[e2,List.length_cons,show i+1+l.length=i+(l.length+1) by omega]
   ·obtain⟨q1,q2⟩:=e5 q (by omega)
    exact⟨q1.trans (getD_set' _ _ _ _ _ (by omega)),q2.trans (getD_set' _ _ _ _ _ (by omega))⟩
   ·rw[List.length_cons] at hq
    obtain⟨q1,q2⟩:=e6 q (by omega)
    exact⟨q1.trans (getD_set' _ _ _ _ _ (by omega)),q2.trans (getD_set' _ _ _ _ _ (by omega))⟩
 | @rep o e body l ub u d d' n ho he hn hb r ihb ihr=>
   intro r' i t fr sz opn mt hi hj
   simp only[List.length_cons,List.length_append] at hi hj
   have hm0:mt1 o i opn mt=mt.set i (-1):=by
    unfold mt1
    rw[if_neg (by omega)]
   obtain⟨s1,m1,a1,a2,a3,a4,a5,a6,a7⟩:=ihb (e::(l++r')) (i+1) ⟨i,o.v,0⟩ (t::fr) sz (i::opn) (mt.set i (-1)) (by omega) (by simp;omega)
   have hm2:mt1 e (i+1+body.length) (i::opn) m1=(m1.set (i+1+body.length) (i:Int)).set i ((i+1+body.length:Nat):Int):=by
    unfold mt1
    rw[if_pos he]
   obtain⟨s2,m2,b1,b2,b3,b4,b5,b6,b7⟩:=ihr r' (i+1+body.length+1) { t with w:=t.w+n } fr (s1.set i n) opn ((m1.set (i+1+body.length) (i:Int)).set i ((i+1+body.length:Nat):Int)) (by simp[a3];omega) (by simp[a4];omega)
   have hil:i+(o::(body++e::l)).length=i+1+body.length+1+l.length:=by simp only[List.length_cons,List.length_append];omega
   have h1:sz1 o i (t::fr) sz=some (⟨i,o.v,0⟩::t::fr,sz):=by
    unfold sz1
    rw[if_pos ho]
   have h2:sz1 e (i+1+body.length) (⟨i,o.v,0+ub.length⟩::t::fr) s1=some ({ t with w:=t.w+n } :: fr,s1.set i n):=by
    unfold sz1
    rw[if_neg (by omega),if_pos he]
    simp only[Nat.zero_add,hn]
   have hm1l:m1.length=mt.length:=by rw[a4];simp
   refine⟨s2,m2,?_,?_,by rw[b3];simp[a3],by rw[b4];simp[a4],fun q hq=>?_,fun q hq=>?_,?_⟩
   ·rw[show o::(body++e::l)++r'=o::(body++(e::(l++r'))) by simp]
    show(match sz1 o i (t::fr) sz with|none=>none|some (fr',sz')=>Fl.szs (body++(e::(l++r'))) (i+1) fr' sz')=_
    rw[h1]
    show Fl.szs (body++(e::(l++r'))) (i+1) (⟨i,o.v,0⟩::t::fr) sz=_
    rw[a1]
    show(match sz1 e (i+1+body.length) (⟨i,o.v,0+ub.length⟩::t::fr) s1 with|none=>none|some (fr',sz')=>Fl.szs (l++r') (i+1+body.length+1) fr' sz')=_
    rw[h2]
    show Fl.szs (l++r') (i+1+body.length+1) _ _=_
    rw[b1,hil]
    have e2:t.w+n+u.length=t.w+((List.replicate o.v.toNat ub).flatten++u).length:=by rw[List.length_append,blk_len hn];omega
    simp only[e2]
   ·rw[show o::(body++e::l)++r'=o::(body++(e::(l++r'))) by simp]
    show mts (body++(e::(l++r'))) (i+1) ((wk1 o i opn).getD []) (mt1 o i opn mt)=_
    rw[wk1_rep ho,hm0]
    show mts (body++(e::(l++r'))) (i+1) (i::opn) (mt.set i (-1))=_
    rw[a2]
    show mts (l++r') (i+1+body.length+1) ((wk1 e (i+1+body.length) (i::opn)).getD []) (mt1 e (i+1+body.length) (i::opn) m1)=_
    rw[wk1_end he,hm2]
    show mts (l++r') (i+1+body.length+1) opn _=_
    rw[b2,hil]
   ·obtain⟨q1,q2⟩:=b5 q (by omega)
    obtain⟨q3,q4⟩:=a5 q (by omega)
    refine⟨(q1.trans (getD_set' _ _ _ _ _ (by omega))).trans q3,?_⟩
    rw[q2,getD_set' _ _ _ _ _ (by omega),getD_set' _ _ _ _ _ (by omega),q4,getD_set' _ _ _ _ _ (by omega)]
   ·rw[hil] at hq
    obtain⟨q1,q2⟩:=b6 q (by omega)
    obtain⟨q3,q4⟩:=a6 q (by omega)
    refine⟨(q1.trans (getD_set' _ _ _ _ _ (by omega))).trans q3,?_⟩
    rw[q2,getD_set' _ _ _ _ _ (by omega),getD_set' _ _ _ _ _ (by omega),q4,getD_set' _ _ _ _ _ (by omega)]
   ·refine .rep ho he hn ?_ ?_ (a7.congr (fun q h3 h4=>?_) (fun q h3 h4=>?_)) ?_
    ·rw[(b5 i (by omega)).1,getD_set_eq _ _ _ _ (by omega)]
    ·rw[(b5 i (by omega)).2,getD_set_eq _ _ _ _ (by simp[hm1l];omega)]
    ·rw[(b5 q (by omega)).1,getD_set' _ _ _ _ _ (by omega)]
    ·rw[(b5 q (by omega)).2,getD_set' _ _ _ _ _ (by omega),getD_set' _ _ _ _ _ (by omega)]
    ·rw[show i+body.length+2=i+1+body.length+1 by omega]
     exact b7
def dps:List O→Nat→List Nat→Nat→Nat
 | [],_,_,m=>m
 | o::l,i,opn,m=>dps l (i+1) ((wk1 o i opn).getD []) (if o.k=7 then max m (opn.length+1) else m)
theorem Nst.dps {l u:List O}{d:Nat}(h:Nst l u d):∀ (r:List O) (i:Nat) (opn:List Nat) (m:Nat),Fl.dps (l++r) i opn m=Fl.dps r (i+l.length) opn (if d=0 then m else max m (opn.length+d)):=by
 induction h with
 | nil=>intro r i opn m;rfl
 | @op o l u d h0 h1 r ih=>
   intro r' i opn m
   show Fl.dps (l++r') (i+1) ((wk1 o i opn).getD []) (if o.k=7 then max m (opn.length+1) else m)=_
   rw[wk1_op h0 h1,if_neg (by omega)]
   show Fl.dps (l++r') (i+1) opn m=_
   rw[ih,List.length_cons,show i+1+l.length=i+(l.length+1) by omega]
 | @rep o e body l ub u d d' ho he hb r ihb ihr=>
   intro r' i opn m
   rw[show o::(body++e::l)++r'=o::(body++(e::(l++r'))) by simp]
   show Fl.dps (body++(e::(l++r'))) (i+1) ((wk1 o i opn).getD []) (if o.k=7 then max m (opn.length+1) else m)=_
   rw[wk1_rep ho,if_pos ho]
   show Fl.dps (body++(e::(l++r'))) (i+1) (i::opn) (max m (opn.length+1))=_
   rw[ihb]
   show Fl.dps (l++r') (i+1+body.length+1) ((wk1 e (i+1+body.length) (i::opn)).getD []) (if e.k=7 then _ else (if d=0 then max m (opn.length+1) else max (max m (opn.length+1)) ((i::opn).length+d)))=_
   rw[wk1_end he,if_neg (by omega)]
   show Fl.dps (l++r') (i+1+body.length+1) opn _=_
   rw[ihr]
   have e1:i+1+body.length+1+l.length=i+(o::(body++e::l)).length:=by simp only[List.length_cons,List.length_append];omega
   rw[e1]
   congr 1
   simp only[List.length_cons]
   by_cases h1:d=0<;>by_cases h2:d'=0
   ·rw[if_pos h1,if_pos h2,if_neg (by omega)];omega
   ·rw[if_pos h1,if_neg h2,if_neg (by omega)];omega
   ·rw[if_neg h1,if_pos h2,if_neg (by omega)];omega
   ·rw[if_neg h1,if_neg h2,if_neg (by omega)];omega
end Fl
end Go.Proofs.YtphppbonljdibaaGreat
namespace Go.Proofs.YtphppbonljdibaaGreat
namespace Fl
theorem Nst.mem {l u:List O}{d:Nat}(h:Nst l u d):∀ o∈u,o∈l∧1≤o.k∧o.k≤6:=by
 induction h with
 | nil=>intro o ho;cases ho
 | @op o l u d h0 h1 r ih=>
   intro x hx
   rcases List.mem_cons.1 hx with rfl|hx
   ·exact⟨by simp,h0,h1⟩
   ·obtain⟨q1,q2⟩:=ih x hx
    exact⟨by simp[q1],q2⟩
 | @rep o e body l ub u d d' ho he hb r ihb ihr=>
   intro x hx
   rcases List.mem_append.1 hx with hx|hx
   ·obtain⟨L,hL,hx'⟩:=List.mem_flatten.1 hx
    have hLu:=(List.mem_replicate.1 hL).2
    rw[hLu] at hx'
    obtain⟨q1,q2⟩:=ihb x hx'
    exact⟨by simp[q1],q2⟩
   ·obtain⟨q1,q2⟩:=ihr x hx
    exact⟨by simp[q1],q2⟩
def sz0 (l:List O):List Nat:=List.replicate l.length 0
def mt0 (l:List O):List Int:=List.replicate l.length 0
def meas (l:List O):Option (List Nat×Nat):=
 match szs l 0 [⟨0,0,0⟩] (sz0 l) with
 | some (t::_,sz)=>if 65536<t.w then none else some (sz,t.w)
 | _=>none
theorem code_of {l:List O}(hw:wk l 0 []=some []){sz:List Nat}{n:Nat}(hm:meas l=some (sz,n))(hd:dps l 0 [] 0≤8):
 ∃ (u:List O) (c:List I) (d k:Nat),Nst l u d∧u.length=n∧n≤65536∧d≤8∧sz.length=l.length∧(mts l 0 [] (mt0 l)).length=l.length∧An sz (mts l 0 [] (mt0 l)) 0 l u d∧(∃ d',Cd 0 c u d'∧d'≤8)∧CR l sz (mts l 0 [] (mt0 l)) 0 [] [] c k:=by
 obtain⟨u,d,hn⟩:=wk_nst hw
 have hs:szs l 0 [⟨0,0,0⟩] (sz0 l)≠none:=fun h=>by
  unfold meas at hm
  rw[h] at hm
  cases hm
 have hdd:=hn.dps [] 0 [] 0
 rw[List.append_nil] at hdd
 have hd8:d≤8:=by
  rw[hdd] at hd
  simp only[dps,List.length_nil,Nat.zero_add] at hd
  by_cases h0:d=0
  ·omega
  ·rw[if_neg h0] at hd
   omega
 have l0:(sz0 l).length=l.length:=by simp[sz0]
 have l1:(mt0 l).length=l.length:=by simp[mt0]
 -- a frame below the first one, for the law's sake: its place is no place of the program
 have key:∀ (t:Fr),∃ sz' mt',szs l 0 (t::[]) (sz0 l)=some ({ t with w:=t.w+u.length } :: [],sz')∧mts l 0 [] (mt0 l)=mt'∧sz'.length=l.length∧mt'.length=l.length∧An sz' mt' 0 l u d:=by
  intro t
  have hz:Nsz l u d:=hn.sized [] 0 ⟨0,0,0⟩ [] (sz0 l) (by omega) (by rw[List.append_nil];exact hs)
  obtain⟨sz',mt',e1,e2,e3,e4,_,_,e7⟩:=hz.an [] 0 t [] (sz0 l) [] (mt0 l) (by omega) (by omega)
  rw[List.append_nil] at e1 e2
  exact⟨sz',mt',e1,e2,by rw[e3,l0],by rw[e4,l1],e7⟩
 obtain⟨sz',mt',e1,e2,e3,e4,e5⟩:=key ⟨0,0,0⟩
 unfold meas at hm
 rw[e1] at hm
 simp only[Nat.zero_add] at hm
 by_cases hb:65536<u.length
 ·rw[if_pos hb] at hm
  cases hm
 ·rw[if_neg hb] at hm
  cases hm
  rw[e2] at *
  obtain⟨seg,d',q1,q2,q3⟩:=e5.code (pre:=[]) (post:=[]) (opn:=[]) (out:=[]) rfl
  obtain⟨k,q4⟩:=q3 (fin:=seg) (n:=0) (by
   have:=CR.halt (L:=l) (sz:=sz) (mt:=mt') seg
   simpa using this)
  refine⟨u,seg,d,k,hn,rfl,by omega,hd8,e3,e4,e5,⟨d',q1,by omega⟩,by simpa using q4⟩
def o0:O:=⟨0,0,0,0,0⟩
theorem drop_cons {l:List O}{i:Nat}(h:i<l.length):l.drop i=l.getD i o0::l.drop (i+1):=by
 rw[List.drop_eq_getElem_cons h]
 simp[List.getD,h]
theorem wk_step {l:List O}{i:Nat}(h:i<l.length)(opn:List Nat):wk (l.drop i) i opn=match wk1 (l.getD i o0) i opn with|none=>none|some opn'=>wk (l.drop (i+1)) (i+1) opn':=by
 rw[drop_cons h]
 rfl
theorem mts_step {l:List O}{i:Nat}(h:i<l.length)(opn:List Nat)(out:List Int):mts (l.drop i) i opn out=mts (l.drop (i+1)) (i+1) ((wk1 (l.getD i o0) i opn).getD []) (mt1 (l.getD i o0) i opn out):=by
 rw[drop_cons h]
 rfl
theorem szs_step {l:List O}{i:Nat}(h:i<l.length)(fr:List Fr)(sz:List Nat):szs (l.drop i) i fr sz=match sz1 (l.getD i o0) i fr sz with|none=>none|some (fr',sz')=>szs (l.drop (i+1)) (i+1) fr' sz':=by
 rw[drop_cons h]
 rfl
theorem dps_step {l:List O}{i:Nat}(h:i<l.length)(opn:List Nat)(m:Nat):dps (l.drop i) i opn m=dps (l.drop (i+1)) (i+1) ((wk1 (l.getD i o0) i opn).getD []) (if (l.getD i o0).k=7 then max m (opn.length+1) else m):=by
 rw[drop_cons h]
 rfl
end Fl
end Go.Proofs.YtphppbonljdibaaGreat
namespace Go.Proofs.YtphppbonljdibaaGreat
open Go.ChangeShapes Go.WideShapes Go.ChangeAt Go.RowKit
def OpsM (w:World)(A:Option Addr)(l:List Fl.O):Prop:=
 0<l.length→∃ b off,A=some ⟨b,off,none⟩∧b<w.heap.size∧∀ k,k<l.length→w.cell? ⟨b,off+k * 5,none⟩=some (.int .i64 (l.getD k Fl.o0).k)∧w.cell? ⟨b,off+k * 5+1,none⟩=some (.int .i64 (l.getD k Fl.o0).d) ∧
  w.cell? ⟨b,off+k * 5+2,none⟩=some (.int .i64 (l.getD k Fl.o0).a)∧w.cell? ⟨b,off+k * 5+3,none⟩=some (.int .i64 (l.getD k Fl.o0).b)∧w.cell? ⟨b,off+k * 5+4,none⟩=some (.int .u64 (l.getD k Fl.o0).v)
theorem OpsM.keep {own:Nat→Prop}{w w':World}{A:Option Addr}{l:List Fl.O}(h:OpsM w A l)(hk:Keep own w w')(hn:0<l.length→∀ b off,A=some ⟨b,off,none⟩→¬ own b):OpsM w' A l:=by
 intro h0
 obtain⟨b,off,hA,hb,hc⟩:=h h0
 have hno:=hn h0 b off hA
 refine⟨b,off,hA,Nat.lt_of_lt_of_le hb hk.size,fun k hkl=>?_⟩
 obtain⟨c0,c1,c2,c3,c4⟩:=hc k hkl
 exact⟨(hk.cell hb hno).trans c0,(hk.cell hb hno).trans c1,(hk.cell hb hno).trans c2,(hk.cell hb hno).trans c3,(hk.cell hb hno).trans c4⟩
theorem OpsM.kw {w w':World}{A:Option Addr}{l:List Fl.O}(h:OpsM w A l)(hk:KW w w'):OpsM w' A l:=h.keep (hk.keep (own:=fun _=>False)) fun _ _ _ _ h=>h
theorem OpsM.at_ {w:World}{A:Option Addr}{l:List Fl.O}(h:OpsM w A l){k:Nat}(hk:k<l.length):∃ b off,A=some ⟨b,off,none⟩∧b<w.heap.size∧w.cell? ⟨b,off+k * 5,none⟩=some (.int .i64 (l.getD k Fl.o0).k)∧w.cell? ⟨b,off+k * 5+1,none⟩=some (.int .i64 (l.getD k Fl.o0).d) ∧
 w.cell? ⟨b,off+k * 5+2,none⟩=some (.int .i64 (l.getD k Fl.o0).a)∧w.cell? ⟨b,off+k * 5+3,none⟩=some (.int .i64 (l.getD k Fl.o0).b)∧w.cell? ⟨b,off+k * 5+4,none⟩=some (.int .u64 (l.getD k Fl.o0).v):=by
 obtain⟨b,off,hA,hb,hc⟩:=h (by omega)
 exact⟨b,off,hA,hb,hc k hk⟩
def nts (opn:List Nat):List Value:=opn.reverse.map fun(i:Nat)=>.int .i64 (i:Int)
theorem nts_nil:nts []=[]:=rfl
theorem nts_cons (i:Nat)(opn:List Nat):nts (i::opn)=nts opn++[.int .i64 i]:=by simp[nts]
theorem nts_len (opn:List Nat):(nts opn).length=opn.length:=by simp[nts]
section
variable {ops : Array Oper} {Q : Exit → Act → World → Prop}
theorem wpList_appE {rest:List Oper}{o:Oper}{a:Act}(hgd:o.guard=none){s x:Operand}(ho:o.op=.call { callee:=.builtin .append,args:=#[s,x],argTypes:=#[56,56] }){W:World}{base c i:Nat}{v:Value}{L:List Nat}
 (hs:a.eval s=v) (hx:a.eval x=.slice (some ⟨W.heap.size,0,none⟩) 1 c) (hown:Owns W base 3 v (nts L)) (hb:base≤W.heap.size) (hl:L.length≤1099511627776)
 (h:∀ v' w',Hid (Owns w' base 3 v' (nts (i::L)))→Hid (Keep (fun i=>v.ownBlock=some i) (W.alloc (.cells #[.int .i64 (i:Int)] 3)) w')→Hid (v'.ownBlock=v.ownBlock∨∃ j,v'.ownBlock=some j∧W.heap.size≤j)→wpList Tryz.prog ops Q rest (a.put o.dst v') w'):wpList Tryz.prog ops Q (o::rest) a (W.alloc (.cells #[.int .i64 (i:Int)] 3)):=by
 have hO:=hown.alloc (.cells #[.int .i64 (i:Int)] 3)
 refine wpList_appA hgd sliceInt' ho (W:=W.alloc (.cells #[.int .i64 (i:Int)] 3)) (base:=base) (k:=1) (n:=L.length) (v:=v) (u:=.slice (some ⟨W.heap.size,0,none⟩) 1 c) (xs:=nts L) (ys:=[.int .i64 (i:Int)]) hs hx
  (holds_one W 3 c (.int .i64 (i:Int)) rfl) (by have h:=hO;unfold Owns at h;rw[nts_len] at h;exact h) (by simp;omega) (by omega) (by omega) fun v5 w5 hown5 hkeep5 hv5=>h v5 w5 ?_ (hid hkeep5) ?_
 ·rw[nts_cons]
  unfold Owns
  rw[List.length_append,nts_len]
  exact hid hown5
 ·rcases hv5 with h5|h5
  ·exact .inl h5
  ·exact .inr ⟨_,h5,by simp⟩
end
theorem Owns.pop {w:World}{base:Nat}{e:TypeId}{v x:Value}{xs:List Value}(h:Owns w base e v (xs++[x])):∃ b cap,v=.slice (some ⟨b,0,none⟩) (xs.length+1) cap∧xs.length+1≤cap∧b<w.heap.size∧w.cell? ⟨b,xs.length,none⟩=some x∧Owns w base e (.slice (some ⟨b,0,none⟩) xs.length cap) xs:=by
 have hlen:(xs++[x]).length=xs.length+1:=by simp
 have hx:=h
 unfold Owns at hx
 rw[hlen] at hx
 rcases hx.2 with⟨_,h0⟩|⟨g,cap,cur,rfl,hb,hg,hc,hm,hs,ht⟩
 ·omega
 ·refine⟨g,cap,rfl,hc,(Array.getElem?_eq_some_iff.1 hg).1,?_,by rw[Nat.mul_one],.inr ⟨g,cap,cur,rfl,hb,hg,by omega,hm,hs,?_⟩⟩
  ·have h1:(xs++[x])[xs.length]?=some x:=by simp
   rw[← ht,List.getElem?_take,if_pos (by omega),Array.getElem?_toList] at h1
   simp only[World.cell?,hg]
   exact h1
  ·have h1:xs=(xs++[x]).take xs.length:=by simp
   rw[Nat.mul_one] at ht ⊢
   conv=>rhs;rw[h1]
   rw[← ht,List.take_take]
   congr 1
   omega
structure SeeN (F:FuncId)(caps:Array Value)(l:List Fl.O)(n:Nat)(J:Nat→List Nat→(Nat→Prop)→World→Prop):Prop where
 enter:∀ (args:Array Value) (W:World),(callFunc F args).run Tryz.prog W=.ok (.enter F args) W
 lt:∀ k o H w,J k o H w→∀ i,H i→i<w.heap.size
 keep:∀ k o H w w' O,J k o H w→Keep O w w'→(∀ i,H i→¬ O i)→(∀ i,O i→n≤i)→J k o H w'
 call:∀ k opn opn' H w u c,k<l.length→Fl.wk1 (l.getD k Fl.o0) k opn=some opn'→opn.length≤k→J k opn H w→Owns w 0 3 (.slice u (if (l.getD k Fl.o0).k=0 then opn' else opn).length c) (nts (if (l.getD k Fl.o0).k=0 then opn' else opn)) →
  (∀ b,(Value.slice u (if (l.getD k Fl.o0).k=0 then opn' else opn).length c).ownBlock=some b→¬ H b) →
  Calls Tryz.prog F (#[.int .i64 k,.slice u (if (l.getD k Fl.o0).k=0 then opn' else opn).length c]++caps) w fun e w'=>e=.returned (.tuple #[])∧∃ H',J (k+1) opn' H' w'∧Keep H w w'∧∀ i,H' i→H i∨w.heap.size≤i
def WalkP (l:List Fl.O)(J:Nat→List Nat→(Nat→Prop)→World→Prop)(H0:Nat→Prop)(w:World)(e:Ending)(w':World):Prop:=
 Keep H0 w w'∧((Fl.wk l 0 []=some []∧e=.returned (.bool true)∧∃ H,J l.length [] H w'∧∀ i,H i→H0 i∨w.heap.size≤i)∨(Fl.wk l 0 []≠some []∧e=.returned (.bool false)))
theorem nwalk_any (A:Option Addr)(c:Nat)(l:List Fl.O)(F:FuncId)(caps:Array Value)(J:Nat→List Nat→(Nat→Prop)→World→Prop)(H0:Nat→Prop)(w:World)(hlen:l.length≤1099511627776)
 (hA:OpsM w A l) (hAH:0<l.length→∀ b off,A=some ⟨b,off,none⟩→¬ H0 b) (hS:SeeN F caps l w.heap.size J) (hJ:J 0 [] H0 w):
 Calls Tryz.prog 170 #[.slice A l.length c,.func (.func F) #[] caps] w (WalkP l J H0 w):=by
 have HA:=hid hA
 have HAH:=hid hAH
 have HS:=hid hS
 have HJ:=hid hJ
 have HW0:Hid (Fl.wk l 0 []=Fl.wk (l.drop 0) 0 []):=rfl
 have HStep:=hid (fun i (h:i<l.length) opn=>Fl.wk_step h opn)
 clear hA hAH hS hJ
 unfold WalkP
 generalize hN:l.length=N at *
 have HN:=hid hN
 have HDr:Hid (l.drop N=[]):=by rw[← hN];exact hid (List.drop_length ..)
 clear hN
 go_enter Tryz.func170,Tryz.ntmps170
 go_wp2_with fail
 refine wp_scope_straight ?_
 go_wp2_with fail
 refine wp_label ?_
 go_wp2_with fail
 go_loopw [5,6,11] (fun v t6 i wr=>∃ (q:Nat) (opn:List Nat) (H:Nat→Prop),q≤N∧i=.int .i64 q∧t6=.bool true∧opn.length≤q∧Hid (Fl.wk l 0 []=Fl.wk (l.drop q) q opn)∧Hid (Owns wr w.heap.size 3 v (nts opn))∧Hid (J q opn H wr)∧Hid (∀ b,v.ownBlock=some b→¬ H b)∧Hid (∀ i,H i→H0 i∨w.heap.size≤i)∧Hid (Keep H0 w wr)) (fun _ _ i _=>N - (intOf i).toNat)
 case atStart=>exact⟨0,[],H0,by omega,rfl,rfl,Nat.le_refl _,HW0,by rw[nts_nil];exact Owns.nil _ _ _,HJ,fun b h=>(by cases h),fun i h=>.inl h,Keep.refl _ _⟩
 case round=>
  clear HW0 HJ
  obtain⟨q,opn,H,hq,rfl,rfl,hol,HW,HO,HJ,HB,HG,HK⟩:=hrel
  obtain⟨Ao,co,hvo,_⟩:=HO.out.row
  rw[nts_len] at hvo
  subst hvo
  by_cases hlt:q<N
  ·have L1:(q:Int)<(N:Int):=by omega
   obtain⟨b',off,rfl,hb',c0,c1,c2,c3,c4⟩:=(HA.out.keep HK.out (by rw[HN.out];exact HAH.out)).at_ (k:=q) (by rw[HN.out];exact hlt)
   have HWS:=hid (HW.out.trans (HStep.out q hlt opn))
   have HCall:=hid (fun opn' H w u c h1 h2 h3 h4=>HS.out.call q opn opn' H w u c (by rw[HN.out];exact hlt) h1 hol h2 h3 h4)
   have e2:=HS.out.enter
   have HLt:=hid (HS.out.lt q opn H wr HJ.out)
   generalize l.getD q Fl.o0=o at *
   have HK1:=hid (HK.out.alloc (.cells #[.int .i64 o.k,.int .i64 o.d,.int .i64 o.a,.int .i64 o.b,.int .u64 o.v] 83))
   have HO1:=hid (HO.out.alloc (.cells #[.int .i64 o.k,.int .i64 o.d,.int .i64 o.a,.int .i64 o.b,.int .u64 o.v] 83))
   have HJ1:=hid (HS.out.keep q opn H wr _ (fun _=>False) HJ.out ((KW.refl wr).alloc (.cells #[.int .i64 o.k,.int .i64 o.d,.int .i64 o.a,.int .i64 o.b,.int .u64 o.v] 83)).keep (fun _ _ h=>h) fun _ h=>h.elim)
   have HBk:=hid (heap_alloc_new wr (.cells #[.int .i64 o.k,.int .i64 o.d,.int .i64 o.a,.int .i64 o.b,.int .u64 o.v] 83))
   obtain⟨k,d,a,bb,vv⟩:=o
   simp only at c0 c1 c2 c3 c4 HK1 HO1 HJ1 HBk HWS HCall
   by_cases hbad:k<0∨7<k∨(k=0∧opn=[])
   ·have hne:Fl.wk l 0 []≠some []:=by
     have h1:=HWS.out
     have h2:Fl.wk1 ⟨k,d,a,bb,vv⟩ q opn=none:=by
      unfold Fl.wk1
      rcases hbad with h|h|⟨h,rfl⟩
      ·rw[if_pos (Or.inl h)]
      ·rw[if_pos (Or.inr h)]
      ·simp only at h ⊢
       rw[if_neg (by omega),if_pos h]
     rw[h2] at h1
     rw[h1]
     simp
    have HNe:=hid hne
    clear hne HCall e2
    have hx:k<0∨(decide (k<0)=false∧7<k)∨(k=0∧opn.length=0):=by
     rcases hbad with h|h|⟨h,rfl⟩
     ·exact .inl h
     ·exact .inr (.inl ⟨decide_eq_false (by omega),h⟩)
     ·exact .inr (.inr ⟨h,rfl⟩)
    clear hbad
    rcases hx with h|⟨h,h'⟩|⟨rfl,h⟩
    ·go_wp2_with fail
     simp only[Exit.noGoto]
     go_ret
     exact⟨HK1.out,.inr ⟨HNe.out,rfl⟩⟩
    ·go_wp2_with fail
     simp only[Exit.noGoto]
     go_ret
     exact⟨HK1.out,.inr ⟨HNe.out,rfl⟩⟩
    ·generalize opn.length=m at *
     subst h
     go_wp2_with fail
     simp only[Exit.noGoto]
     go_ret
     exact⟨HK1.out,.inr ⟨HNe.out,rfl⟩⟩
   ·have hHn:¬ H wr.heap.size:=fun h=>absurd (HLt.out _ h) (Nat.lt_irrefl _)
    by_cases hz:k=0
    ·subst hz
     obtain⟨t,tl,rfl⟩:=List.exists_cons_of_ne_nil (fun h=>hbad (.inr (.inr ⟨rfl,h⟩)))
     have hp:=HO1.out
     rw[nts_cons] at hp
     obtain⟨bo,cap,hv,hcap,hbo,_,hpop⟩:=hp.pop
     rw[nts_len] at hv hcap hpop
     have hv':Ao=some ⟨bo,0,none⟩∧co=cap:=by cases hv;exact⟨rfl,rfl⟩
     obtain⟨rfl,rfl⟩:=hv'
     clear hp hv hbad
     have hwk:Fl.wk1 ⟨0,d,a,bb,vv⟩ q (t::tl)=some tl:=Fl.wk1_end rfl
     have HCl:=hid (HCall.out tl H)
     have HW2:Hid (Fl.wk l 0 []=Fl.wk (l.drop (q+1)) (q+1) tl):=by have h1:=HWS.out;rw[hwk] at h1;exact hid h1
     have HWk:=hid hwk
     simp only[if_true] at HCl
     clear HCall HWS hwk HO HO1 HJ HW
     have e1:(((t::tl).length:Int)==0)=false:=by simp;omega
     have HP:=hid hpop
     clear hpop
     simp only[List.length_cons] at *
     have HTl:Hid (tl.length≤q+1):=hid (by omega)
     generalize hm:tl.length=m at *
     have HM:=hid hm
     clear hm
     go_wp2_with fail
     clear e2
     refine(HCl.out _ _ _ HWk.out HJ1.out (HP.out.base (Nat.zero_le _)) HB.out).mono ?_
     rintro e w6 ⟨rfl,H',hj6,hk6,hh6⟩
     have HD0:Hid (w6.cell? ⟨wr.heap.size,0,none⟩=some (.int .i64 0)):=hid ((hk6.cell (by simp) hHn).trans (by unfold World.cell?;rw[HBk.out];rfl))
     have d0:=HD0.out
     have HLt6:=hid (HS.out.lt (q+1) tl H' w6 hj6)
     have HJ6:=hid hj6
     have HK6:=hid hk6
     have HH6:=hid hh6
     have HO6:=hid (hk6.owns HP.out HB.out)
     have HB6:Hid (∀ b,(Value.slice (some ⟨bo,0,none⟩) m co).ownBlock=some b→¬ H' b):=hid fun b h h1=>(hh6 b h1).elim (HB.out b h) fun h2=>absurd (HP.out.lt h).2 (by omega)
     have HG6:Hid (∀ i,H' i→H0 i∨w.heap.size≤i):=hid fun i h=>(hh6 i h).elim (HG.out i) fun h2=>.inr (by have h3:=HK1.out.size;omega)
     have HK7:=hid (HK1.out.trans hk6 fun i hi ho=>(HG.out i ho).elim id fun h=>absurd h (by omega))
     clear hj6 hk6 hh6
     clear HCl HLt e1
     go_wp2_with fail
     go_roundw
     case rel=>exact⟨q+1,tl,H',by omega,by go_num,rfl,by rw[HM.out];exact HTl.out,HW2,HO6,HJ6,HB6,HG6,HK7⟩
     case measure=>simp[intOf];omega
    ·by_cases h7:k=7
     ·subst h7
      have HCl:=hid (HCall.out (q::opn) H)
      have hwk:Fl.wk1 ⟨7,d,a,bb,vv⟩ q opn=some (q::opn):=Fl.wk1_rep rfl
      have HW2:Hid (Fl.wk l 0 []=Fl.wk (l.drop (q+1)) (q+1) (q::opn)):=by have h1:=HWS.out;rw[hwk] at h1;exact hid h1
      have HWk:=hid hwk
      simp only[show ¬ ((7:Int)=0) by decide,if_false] at HCl
      clear HCall HWS hwk HO HJ HW hbad hz
      have HTl:Hid ((q::opn).length≤q+1):=hid (by simp;omega)
      have HQ:=hid hol
      generalize hm:opn.length=m at *
      have HM:=hid hm
      clear hm
      go_wp2_with fail
      clear e2
      refine(HCl.out _ _ _ HWk.out HJ1.out (HO1.out.base (Nat.zero_le _)) HB.out).mono ?_
      rintro e w6 ⟨rfl,H',hj6,hk6,hh6⟩
      have HD0:Hid (w6.cell? ⟨wr.heap.size,0,none⟩=some (.int .i64 7)):=hid ((hk6.cell (by simp) hHn).trans (by unfold World.cell?;rw[HBk.out];rfl))
      have d0:=HD0.out
      have HLt6:=hid (HS.out.lt (q+1) (q::opn) H' w6 hj6)
      have HJ6:=hid hj6
      have HK6:=hid hk6
      have HH6:=hid hh6
      have HO6:=hid (hk6.owns HO1.out HB.out)
      have HB6:Hid (∀ b,(Value.slice Ao m co).ownBlock=some b→¬ H' b):=hid fun b h h1=>(hh6 b h1).elim (HB.out b h) fun h2=>absurd (HO1.out.lt h).2 (by omega)
      have HG6:Hid (∀ i,H' i→H0 i∨w.heap.size≤i):=hid fun i h=>(hh6 i h).elim (HG.out i) fun h2=>.inr (by have h3:=HK1.out.size;omega)
      have HK7:=hid (HK1.out.trans hk6 fun i hi ho=>(HG.out i ho).elim id fun h=>absurd h (by omega))
      clear hj6 hk6 hh6
      clear HCl HLt
      go_wp2_with (at_builtin;refine wpList_appE rfl rfl (base:=w.heap.size) (i:=q) (L:=opn) (c:=1) (v:=.slice Ao m co) rfl rfl HO6.out HK7.out.size (by rw[HM.out];omega) ?_;intro v7 w7 HO7 HK8 HV7)
      have HJ7:Hid (J (q+1) (q::opn) H' w7):=hid (HS.out.keep _ _ H' _ _ _ (HS.out.keep _ _ H' _ _ (fun _=>False) HJ6.out ((KW.refl w6).alloc _).keep (fun _ _ h=>h) fun _ h=>h.elim) HK8.out (fun i hi ho=>HB6.out i ho hi) fun i ho=>(HO6.out.lt ho).1)
      have HB7:Hid (∀ b,v7.ownBlock=some b→¬ H' b):=hid fun b h h1=>by
       rcases HV7.out with h2|⟨j,h2,h3⟩
       ·exact HB6.out b (h2 ▸ h) h1
       ·rw[h2] at h
        cases h
        exact absurd (HLt6.out _ h1) (by omega)
      have HK9:Hid (Keep H0 w w7):=hid ((HK7.out.alloc _).trans HK8.out fun i hi ho=>absurd (HO6.out.lt ho).1 (by omega))
      go_roundw
      case rel=>exact⟨q+1,q::opn,H',by omega,by go_num,rfl,HTl.out,HW2,HO7,HJ7,HB7,HG6,HK9⟩
      case measure=>simp[intOf];omega
     ·have hk:1≤k∧k≤6:=⟨by omega,by omega⟩
      have HCl:=hid (HCall.out opn H)
      have hwk:Fl.wk1 ⟨k,d,a,bb,vv⟩ q opn=some opn:=Fl.wk1_op hk.1 hk.2
      have HW2:Hid (Fl.wk l 0 []=Fl.wk (l.drop (q+1)) (q+1) opn):=by have h1:=HWS.out;rw[hwk] at h1;exact hid h1
      have HWk:=hid hwk
      simp only[hz,if_false] at HCl
      clear HCall HWS hwk HO HJ HW hbad
      have e3:decide (k<0)=false:=decide_eq_false (by omega)
      have e4:decide (7<k)=false:=decide_eq_false (by omega)
      have e5:(k==0)=false:=beq_eq_false_iff_ne.2 hz
      have e6:(k==7)=false:=beq_eq_false_iff_ne.2 h7
      have HTl:Hid (opn.length≤q+1):=hid (by omega)
      generalize hm:opn.length=m at *
      have HM:=hid hm
      clear hm
      clear hz h7 hk
      go_wp2_with fail
      clear e2
      refine(HCl.out _ _ _ HWk.out HJ1.out (HO1.out.base (Nat.zero_le _)) HB.out).mono ?_
      rintro e w6 ⟨rfl,H',hj6,hk6,hh6⟩
      have HD0:Hid (w6.cell? ⟨wr.heap.size,0,none⟩=some (.int .i64 k)):=hid ((hk6.cell (by simp) hHn).trans (by unfold World.cell?;rw[HBk.out];rfl))
      have d0:=HD0.out
      have HLt6:=hid (HS.out.lt (q+1) opn H' w6 hj6)
      have HJ6:=hid hj6
      have HK6:=hid hk6
      have HH6:=hid hh6
      have HO6:=hid (hk6.owns HO1.out HB.out)
      have HB6:Hid (∀ b,(Value.slice Ao m co).ownBlock=some b→¬ H' b):=hid fun b h h1=>(hh6 b h1).elim (HB.out b h) fun h2=>absurd (HO1.out.lt h).2 (by omega)
      have HG6:Hid (∀ i,H' i→H0 i∨w.heap.size≤i):=hid fun i h=>(hh6 i h).elim (HG.out i) fun h2=>.inr (by have h3:=HK1.out.size;omega)
      have HK7:=hid (HK1.out.trans hk6 fun i hi ho=>(HG.out i ho).elim id fun h=>absurd h (by omega))
      clear hj6 hk6 hh6
      clear HCl HLt
      go_wp2_with fail
      go_roundw
      case rel=>exact⟨q+1,opn,H',by omega,by go_num,rfl,by rw[HM.out];exact HTl.out,HW2,HO6,HJ6,HB6,HG6,HK7⟩
      case measure=>simp[intOf];omega
  ·obtain rfl:q=N:=by omega
   rw[HDr.out] at HW
   have HW':Hid (Fl.wk l 0 []=some opn):=HW
   by_cases h0:opn=[]
   ·subst h0
    have HF:Hid (J l.length [] H wr):=by rw[HN.out];exact HJ
    clear hlt
    go_wp2_with fail
    simp only[Exit.noGoto]
    go_ret
    exact⟨HK.out,.inl ⟨HW'.out,rfl,H,by rw[← HN.out];exact HF.out,HG.out⟩⟩
   ·have HNe:Hid (Fl.wk l 0 []≠some []):=fun h=>by
     rw[HW'.out] at h
     cases h
     exact h0 rfl
    have hm:((opn.length:Int)==0)=false:=beq_eq_false_iff_ne.2 (by
     have:opn.length≠0:=fun h=>h0 (List.length_eq_zero_iff.1 h)
     omega)
    generalize opn.length=m at *
    clear hlt h0
    go_wp2_with fail
    simp only[Exit.noGoto]
    go_ret
    exact⟨HK.out,.inr ⟨HNe.out,rfl⟩⟩
end Go.Proofs.YtphppbonljdibaaGreat
