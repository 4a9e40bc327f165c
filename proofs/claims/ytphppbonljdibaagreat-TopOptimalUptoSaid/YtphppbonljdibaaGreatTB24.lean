import Derived.Test.YtphppbonljdibaaGreatTB19
set_option maxRecDepth 100000
set_option maxHeartbeats 4000000
set_option linter.unusedVariables false
set_option linter.unusedSimpArgs false
namespace Go.Proofs.YtphppbonljdibaaGreat
namespace Mc
def up (m:St)(l:List Act):Nat→St
 | 0=>m
 | k+1=>(step (up m l k) (l.getD k (0,0)).1 (l.getD k (0,0)).2).1
def er (m:St)(l:List Act)(k:Nat):Int:=(step (up m l k) (l.getD k (0,0)).1 (l.getD k (0,0)).2).2
theorem up_succ (m:St)(l:List Act)(k:Nat):up m l (k+1)=(step (up m l k) (l.getD k (0,0)).1 (l.getD k (0,0)).2).1:=rfl
theorem up_inv {m:St}(h:Inv m)(l:List Act)(k:Nat):Inv (up m l k):=by
 induction k with
 | zero=>exact h
 | succ k ih=>exact ih.step _ _
theorem up_len (m:St)(l:List Act)(k:Nat):(up m l k).tags.length=m.tags.length:=by
 induction k with
 | zero=>rfl
 | succ k ih=>rw[up_succ,step_len,ih]
theorem up_tot (m:St)(l:List Act)(k:Nat):m.tot≤(up m l k).tot∧(up m l k).tot≤m.tot+65535 * k:=by
 induction k with
 | zero=>simp only[up];omega
 | succ k ih=>
   have:=step_tot (up m l k) (l.getD k (0,0)).1 (l.getD k (0,0)).2
   rw[up_succ]
   omega
def okTo (m:St)(l:List Act)(k:Nat):Prop:=∀ j,j<k→er m l j=0
theorem cases_er (m:St)(l:List Act):∀ n,okTo m l n∨∃ k,k<n∧okTo m l k∧er m l k≠0:=by
 intro n
 induction n with
 | zero=>exact .inl fun j hj=>absurd hj (by omega)
 | succ n ih=>
   rcases ih with h|⟨k,hk,h1,h2⟩
   ·by_cases e:er m l n=0
    ·refine .inl fun j hj=>?_
     rcases(show j<n∨j=n by omega) with h3|rfl
     ·exact h j h3
     ·exact e
    ·exact .inr ⟨n,by omega,h,e⟩
   ·exact .inr ⟨k,by omega,h1,h2⟩
theorem right_of_er {m:St}{l:List Act}{k:Nat}(h:er m l k=0):right (l.getD k (0,0)).1 (l.getD k (0,0)).2=true∧1≤(l.getD k (0,0)).1∧(l.getD k (0,0)).1≤7:=by
 unfold er step at h
 by_cases h1:right (l.getD k (0,0)).1 (l.getD k (0,0)).2=false∨7<(l.getD k (0,0)).1
 ·rw[if_pos h1] at h;simp at h
 ·have hr:right (l.getD k (0,0)).1 (l.getD k (0,0)).2=true:=by
   cases e:right (l.getD k (0,0)).1 (l.getD k (0,0)).2
   ·exact absurd (Or.inl e) h1
   ·rfl
  have:=right_lo hr
  exact⟨hr,by omega,by omega⟩
theorem step_adv {m:St}{k n:Int}(h:(step m k n).2=0):(k=1→(step m k n).1.at_=m.at_+n∧(step m k n).1.tot=m.tot+n∧1≤n∧m.at_+n≤m.l)∧(k≠1→(step m k n).1.tot=m.tot):=by
 revert h
 unfold step
 by_cases h1:right k n=false∨7<k
 ·rw[if_pos h1];intro h;simp at h
 rw[if_neg h1]
 have hr:right k n=true:=by
  cases e:right k n
  ·exact absurd (Or.inl e) h1
  ·rfl
 split
 ·intro h;simp at h
 split
 ·rename_i e1
  have:=right_one hr e1
  split
  ·intro h;simp at h
  ·intro _
   exact⟨fun _=>⟨rfl,rfl,this.1,by omega⟩,fun h=>absurd e1 h⟩
 ·rename_i e1
  intro _
  refine⟨fun h=>absurd h e1,fun _=>?_⟩
  unfold begin_ reverse
  repeat' (first|split|rfl)
def cnt:List Int→Nat
 | []=>0
 | x::l=>(if 0≤x then 1 else 0)+cnt l
theorem cnt_app (l:List Int)(x:Int):cnt (l++[x])=cnt l+(if 0≤x then 1 else 0):=by
 induction l with
 | nil=>simp[cnt]
 | cons y l ih=>simp only[List.cons_append,cnt,ih];omega
theorem cnt_le (l:List Int):cnt l≤l.length:=by
 induction l with
 | nil=>simp[cnt]
 | cons y l ih=>simp only[cnt,List.length_cons];split<;>omega
theorem cnt_take (l:List Int){k:Nat}(h:k<l.length):cnt (l.take (k+1))=cnt (l.take k)+(if 0≤l.getD k 0 then 1 else 0):=by
 rw[List.take_succ_eq_append_getElem h,cnt_app]
 simp[List.getD_eq_getElem?_getD,List.getElem?_eq_getElem h]
def hl (m:St)(l:List Act)(k:Nat):Nat:=cnt (up m l k).tags
def one (m:St)(l:List Act)(i:Int)(k:Nat):Int:=if (l.getD k (0,0)).1=1∧(up m l k).at_≤i∧i<(up m l (k+1)).at_ then 1 else 0
def sp (m:St)(l:List Act)(i:Int):Nat→Int
 | 0=>0
 | k+1=>sp m l i k+one m l i k
def sum (f:Nat→Int):Nat→Int
 | 0=>0
 | n+1=>sum f n+f n
def top (f:Nat→Int):Nat→Int
 | 0=>0
 | n+1=>max (top f n) (f n)
theorem sum_add (f g:Nat→Int)(n:Nat):sum (fun i=>f i+g i) n=sum f n+sum g n:=by
 induction n with
 | zero=>rfl
 | succ n ih=>simp only[sum,ih];omega
theorem sum_zero (n:Nat):sum (fun _=>0) n=0:=by
 induction n with
 | zero=>rfl
 | succ n ih=>simp only[sum,ih];omega
theorem sum_cong {f g:Nat→Int}(n:Nat)(h:∀ i,i<n→f i=g i):sum f n=sum g n:=by
 induction n with
 | zero=>rfl
 | succ n ih=>simp only[sum];rw[ih fun i hi=>h i (by omega),h n (by omega)]
theorem sum_ind (a b:Int)(n:Nat)(h0:0≤a)(h1:a≤b):sum (fun i=>if a≤(i:Int)∧(i:Int)<b then 1 else 0) n=min b n - min a n:=by
 induction n with
 | zero=>simp only[sum];omega
 | succ n ih=>
   simp only[sum]
   rw[ih]
   split<;>omega
theorem sum_le (f:Nat→Int)(n:Nat)(b:Int)(h:∀ i,i<n→f i≤b):sum f n≤n * b:=by
 induction n with
 | zero=>simp[sum]
 | succ n ih=>
   have h1:=ih fun i hi=>h i (by omega)
   have h2:=h n (by omega)
   have e:((n+1:Nat):Int) * b=n * b+b:=by rw[Int.natCast_add,Int.add_mul];simp
   rw[e]
   simp only[sum]
   omega
theorem sum_nn (f:Nat→Int)(n:Nat)(h:∀ i,i<n→0≤f i):0≤sum f n:=by
 induction n with
 | zero=>simp[sum]
 | succ n ih=>
   have h1:=ih fun i hi=>h i (by omega)
   have h2:=h n (by omega)
   simp only[sum]
   omega
end Mc
end Go.Proofs.YtphppbonljdibaaGreat
namespace Go.Proofs.YtphppbonljdibaaGreat
namespace Sd
def p2 (j:Nat):Int:=((2 ^ j:Nat):Int)
theorem p2_succ (j:Nat):p2 (j+1)=p2 j * 2:=by unfold p2;rw[Nat.pow_succ];simp
theorem p2_pos (j:Nat):1≤p2 j:=by
 unfold p2
 have:0<2 ^ j:=Nat.pow_pos (by decide)
 omega
theorem p2_le {i j:Nat}(h:i≤j):p2 i≤p2 j:=by
 unfold p2
 have:2 ^ i≤2 ^ j:=Nat.pow_le_pow_right (by decide) h
 omega
def Is (k s:Int)(j:Nat):Prop:=k<s * p2 j∧∀ i,i<j→s * p2 i≤k
theorem Is.eq {k s:Int}{i j:Nat}(h:Is k s i)(g:Is k s j):i=j:=by
 rcases Nat.lt_trichotomy i j with c|c|c
 ·have:=g.2 i c;have:=h.1;omega
 ·exact c
 ·have:=h.2 j c;have:=g.1;omega
def ex (k s:Int):Nat→Nat→Nat
 | 0,j=>j
 | f+1,j=>if k<s * p2 j then j else ex k s f (j+1)
theorem ex_is (k s:Int)(hs:1≤s):∀ f j,(∀ i,i<j→s * p2 i≤k)→k<s * p2 (j+f)→Is k s (ex k s f j):=by
 intro f
 induction f with
 | zero=>intro j h1 h2;exact⟨h2,h1⟩
 | succ f ih=>
   intro j h1 h2
   unfold ex
   by_cases c:k<s * p2 j
   ·rw[if_pos c];exact⟨c,h1⟩
   ·rw[if_neg c]
    refine ih (j+1) (fun i hi=>?_) (by rw[show j+1+f=j+(f+1) by omega];exact h2)
    rcases(show i<j∨i=j by omega) with h|rfl
    ·exact h1 i h
    ·omega
def jx (k s:Int):Nat:=ex k s 16 0
def sd (k s:Int):Int:=p2 (jx k s)
theorem jx_is {k s:Int}(hk:k<65536)(hs:1≤s):Is k s (jx k s):=by
 refine ex_is k s hs 16 0 (fun i hi=>absurd hi (by omega)) ?_
 rw[show p2 (0+16)=65536 from by decide]
 omega
theorem Is.le {k s:Int}{j:Nat}(h:Is k s j)(hk:k<65536)(hs:1≤s):j≤16:=by
 apply Classical.byContradiction
 intro c
 have:=h.2 16 (by omega)
 rw[show p2 16=65536 from by decide] at this
 omega
theorem jx_le {k s:Int}(hk:k<65536)(hs:1≤s):jx k s≤16:=(jx_is hk hs).le hk hs
theorem sd_pos (k s:Int):1≤sd k s:=p2_pos _
theorem sd_le {k s:Int}(hk:k<65536)(hs:1≤s):sd k s≤65536:=by
 have:=p2_le (jx_le hk hs)
 rw[show p2 16=65536 from by decide] at this
 exact this
def tot (l:Nat)(d:Int):Int:=l+Mc.sum (fun i=>(i:Int) % d) l
def tri (x:Int):Int:=x * (x - 1) / 2
theorem tri_succ (x:Int):tri (x+1)=tri x+x:=by
 unfold tri
 have e:(x+1) * (x+1 - 1)=x * (x - 1)+2 * x:=by
  rw[show x+1 - 1=x by omega,Int.add_mul,Int.mul_sub]
  simp only[Int.mul_one,Int.one_mul]
  omega
 rw[e]
 omega
theorem sum_mod (d:Nat)(hd:0<d)(l:Nat):Mc.sum (fun i=>(i:Int) % (d:Int)) l=((l / d:Nat):Int) * tri d+tri ((l % d:Nat):Int):=by
 induction l with
 | zero=>simp[Mc.sum,tri]
 | succ l ih=>
   simp only[Mc.sum]
   rw[ih]
   have e0:d * (l / d)+l % d=l:=Nat.div_add_mod l d
   have hlt:=Nat.mod_lt l hd
   have em:(l:Int) % (d:Int)=((l % d:Nat):Int):=by simp
   rw[em]
   by_cases c:l % d+1<d
   ·have e3:l+1=d * (l / d)+(l % d+1):=by omega
    have e1:(l+1) / d=l / d:=by
     rw[e3,Nat.mul_add_div hd,Nat.div_eq_of_lt c,Nat.add_zero]
    have e2:(l+1) % d=l % d+1:=by
     rw[e3,Nat.mul_add_mod,Nat.mod_eq_of_lt c]
    rw[e1,e2]
    have:=tri_succ ((l % d:Nat):Int)
    rw[show(((l % d+1:Nat)):Int)=((l % d:Nat):Int)+1 by omega,this]
    omega
   ·have e3:l+1=d * (l / d+1):=by rw[Nat.mul_add];omega
    have e1:(l+1) / d=l / d+1:=by rw[e3,Nat.mul_div_cancel_left _ hd]
    have e2:(l+1) % d=0:=by rw[e3,Nat.mul_mod_right]
    have e4:l % d=d - 1:=by omega
    rw[e1,e2,e4]
    have h5:=tri_succ ((d - 1:Nat):Int)
    rw[show(((d - 1:Nat)):Int)+1=(d:Int) by omega] at h5
    have h6:tri ((0:Nat):Int)=0:=by decide
    have h7:(((l / d+1:Nat)):Int) * tri (d:Int)=((l / d:Nat):Int) * tri (d:Int)+tri (d:Int):=by
     rw[Int.natCast_add,Int.add_mul];simp
    rw[h6,h7]
    omega
end Sd
end Go.Proofs.YtphppbonljdibaaGreat
namespace Go.Proofs.YtphppbonljdibaaGreat
namespace Sd
theorem jx_eq {k s:Int}(hk:k<65536)(hs:1≤s){j:Nat}(hj:j≤jx k s)(c:k<s * p2 j):j=jx k s:=
 Is.eq ⟨c,fun i hi=>(jx_is hk hs).2 i (by omega)⟩ (jx_is hk hs)
theorem jx_lt {k s:Int}(hk:k<65536)(hs:1≤s){j:Nat}(hj:j≤jx k s)(c:¬ k<s * p2 j):j+1≤jx k s:=by
 apply Classical.byContradiction
 intro h
 obtain rfl:j=jx k s:=by omega
 exact c (jx_is hk hs).1
theorem p2_hi {j:Nat}(h:j≤16):p2 j≤65536:=by
 have:=p2_le h
 rw[show p2 16=65536 from by decide] at this
 exact this
theorem mul_b {a b x y:Int}(h0:0≤a)(h1:a≤x)(h2:0≤b)(h3:b≤y):0≤a * b∧a * b≤x * y:=
 ⟨Int.mul_nonneg h0 h2,Int.mul_le_mul h1 h3 h2 (by omega)⟩
theorem tot_b {l:Nat}{d:Int}(hl:l≤65535)(hd:1≤d)(hd2:d≤65536)(k:Nat)(hk:k≤l):0≤Mc.sum (fun i=>(i:Int) % d) k∧Mc.sum (fun i=>(i:Int) % d) k≤4294836225:=by
 refine⟨Mc.sum_nn _ _ fun i _=>Int.emod_nonneg _ (by omega),?_⟩
 have:=Mc.sum_le (fun i=>(i:Int) % d) k 65535 fun i _=>by have:=Int.emod_lt_of_pos (i:Int) (show 0<d by omega);omega
 omega
theorem tot_ref {l:Nat}{d:Int}(hd:1≤d):tot l d=l+(l:Int) / d * (d * (d - 1) / 2)+(l:Int) % d * ((l:Int) % d - 1) / 2:=by
 obtain⟨e,rfl⟩:∃ e:Nat,d=e:=⟨d.toNat,by omega⟩
 unfold tot
 rw[sum_mod e (by omega) l]
 unfold tri
 have h1:((l:Int) % (e:Int))=((l % e:Nat):Int):=by simp
 have h2:((l:Int) / (e:Int))=((l / e:Nat):Int):=by simp
 rw[h1,h2]
 omega
end Sd
end Go.Proofs.YtphppbonljdibaaGreat
namespace Go.Proofs.YtphppbonljdibaaGreat
namespace Sd
open Mc (St Act step)
def slot:List Int→Int→Int
 | [],_=>-1
 | x::l,t=>if x=t then 0 else if slot l t<0 then -1 else slot l t+1
theorem slot_cases (tags:List Int)(t:Int):(slot tags t = -1∧∀ j,j<tags.length→tags.getD j 0≠t)∨∃ k:Nat,k<tags.length∧slot tags t=k∧tags.getD k 0=t∧∀ j,j<k→tags.getD j 0≠t:=by
 induction tags with
 | nil=>exact .inl ⟨rfl,fun j h=>absurd h (by simp)⟩
 | cons x l ih=>
   unfold slot
   by_cases e:x=t
   ·rw[if_pos e]
    exact .inr ⟨0,by simp,rfl,by simpa using e,fun j h=>absurd h (by omega)⟩
   ·rw[if_neg e]
    rcases ih with⟨h1,h2⟩|⟨k,hk,h1,h2,h3⟩
    ·rw[if_pos (by omega)]
     refine .inl ⟨rfl,fun j hj=>?_⟩
     match j with
     | 0=>simpa using e
     | j+1=>simpa using h2 j (by simpa using hj)
    ·rw[if_neg (by omega)]
     refine .inr ⟨k+1,by simpa using hk,by omega,by simpa using h2,fun j hj=>?_⟩
     match j with
     | 0=>simpa using e
     | j+1=>simpa using h3 j (by omega)
theorem slot_is {tags:List Int}{t:Int}{k:Nat}(hk:k<tags.length)(h:tags.getD k 0=t)(h2:∀ j,j<k→tags.getD j 0≠t):slot tags t=k:=by
 rcases slot_cases tags t with⟨_,h3⟩|⟨i,hi,h3,h4,h5⟩
 ·exact absurd h (h3 k hk)
 ·rcases Nat.lt_trichotomy i k with c|c|c
  ·exact absurd h4 (h2 i c)
  ·rw[h3,c]
  ·exact absurd h (h5 k c)
theorem slot_none {tags:List Int}{t:Int}(h:∀ j,j<tags.length→tags.getD j 0≠t):slot tags t = -1:=by
 rcases slot_cases tags t with⟨h3,_⟩|⟨i,hi,h3,h4,h5⟩
 ·exact h3
 ·exact absurd h4 (h i hi)
theorem slot_lo (tags:List Int)(t:Int):-1≤slot tags t∧slot tags t<tags.length:=by
 rcases slot_cases tags t with⟨h3,_⟩|⟨i,hi,h3,h4,h5⟩<;>omega
theorem slot_nn {tags:List Int}{t:Int}(h:0≤slot tags t):(slot tags t).toNat<tags.length∧tags.getD (slot tags t).toNat 0=t:=by
 rcases slot_cases tags t with⟨h3,_⟩|⟨i,hi,h3,h4,h5⟩
 ·omega
 ·rw[h3];exact⟨by simpa using hi,by simpa using h4⟩
def bst (is:Int→Bool)(lt:Int→Int→Bool)(tags:List Int):Nat→Int
 | 0=>-1
 | i+1=>if is (tags.getD i 0)&&(decide (bst is lt tags i<0) || lt (tags.getD i 0) (tags.getD (bst is lt tags i).toNat 0)) then i else bst is lt tags i
theorem bst_cases (is:Int→Bool)(f:Int→Int)(tags:List Int)(n:Nat):
 (bst is (fun a b=>decide (f a<f b)) tags n = -1∧∀ j,j<n→is (tags.getD j 0)=false) ∨
 ∃ k:Nat,k<n∧bst is (fun a b=>decide (f a<f b)) tags n=k∧is (tags.getD k 0)=true∧(∀ j,j<n→is (tags.getD j 0)=true→f (tags.getD k 0)≤f (tags.getD j 0))∧∀ j,j<k→is (tags.getD j 0)=true→f (tags.getD k 0)<f (tags.getD j 0):=by
 induction n with
 | zero=>exact .inl ⟨rfl,fun j h=>absurd h (by omega)⟩
 | succ n ih=>
   unfold bst
   by_cases e:is (tags.getD n 0)=true
   ·rcases ih with⟨h1,h2⟩|⟨k,hk,h1,h2,h3,h4⟩
    ·rw[if_pos (by rw[h1,e];rfl)]
     refine .inr ⟨n,by omega,rfl,e,fun j hj h=>?_,fun j hj h=>?_⟩
     ·rcases(show j<n∨j=n by omega) with c|rfl
      ·rw[h2 j c] at h;cases h
      ·exact Int.le_refl _
     ·rw[h2 j hj] at h;cases h
    ·by_cases c:f (tags.getD n 0)<f (tags.getD k 0)
     ·rw[if_pos (by rw[h1,e,Int.toNat_natCast,decide_eq_true c];simp)]
      refine .inr ⟨n,by omega,rfl,e,fun j hj h=>?_,fun j hj h=>?_⟩
      ·rcases(show j<n∨j=n by omega) with c|rfl
       ·have:=h3 j c h;omega
       ·exact Int.le_refl _
      ·have:=h3 j hj h;omega
     ·rw[if_neg (by rw[h1,e,Int.toNat_natCast,decide_eq_false c];simp)]
      refine .inr ⟨k,by omega,h1,h2,fun j hj h=>?_,h4⟩
      rcases(show j<n∨j=n by omega) with c'|rfl
      ·exact h3 j c' h
      ·omega
   ·have e':is (tags.getD n 0)=false:=by cases h:is (tags.getD n 0)<;>simp_all
    rw[if_neg (by rw[e'];simp)]
    rcases ih with⟨h1,h2⟩|⟨k,hk,h1,h2,h3,h4⟩
    ·refine .inl ⟨h1,fun j hj=>?_⟩
     rcases(show j<n∨j=n by omega) with c|rfl
     ·exact h2 j c
     ·exact e'
    ·refine .inr ⟨k,by omega,h1,h2,fun j hj h=>?_,h4⟩
     rcases(show j<n∨j=n by omega) with c|rfl
     ·exact h3 j c h
     ·rw[e'] at h;cases h
def less (a b:Int):Bool:=decide (a<b)
def greater (a b:Int):Bool:=decide (b<a)
theorem less_eq:less=fun a b=>decide (id a<id b):=rfl
theorem greater_eq:greater=fun a b=>decide (-a < -b):=by
 funext a b
 unfold greater
 rw[decide_eq_decide]
 omega
def bad (d t:Int):Bool:=decide (0≤t)&&decide (t % d≠0)
def holds (t:Int):Bool:=decide (0≤t)
def off (d:Int)(tags:List Int):Int:=bst (bad d) less tags tags.length
def base (tags:List Int):Int:=bst holds greater tags tags.length
theorem base_cases (tags:List Int):(base tags = -1∧∀ j,j<tags.length→tags.getD j 0<0)∨∃ k:Nat,k<tags.length∧base tags=k∧0≤tags.getD k 0∧(∀ j,j<tags.length→tags.getD j 0≤tags.getD k 0)∧∀ j,j<k→tags.getD j 0<tags.getD k 0:=by
 unfold base
 rw[greater_eq]
 rcases bst_cases holds (fun a=>-a) tags tags.length with⟨h1,h2⟩|⟨k,hk,h1,h2,h3,h4⟩
 ·exact .inl ⟨h1,fun j hj=>by have:=h2 j hj;simpa [holds] using this⟩
 ·have h2':0≤tags.getD k 0:=by simpa [holds] using h2
  refine .inr ⟨k,hk,h1,h2',fun j hj=>?_,fun j hj=>?_⟩
  ·by_cases c:0≤tags.getD j 0
   ·have:=h3 j hj (by simpa [holds] using c);omega
   ·omega
  ·by_cases c:0≤tags.getD j 0
   ·have:=h4 j hj (by simpa [holds] using c);omega
   ·omega
theorem off_cases (d:Int)(tags:List Int):(off d tags = -1∧∀ j,j<tags.length→bad d (tags.getD j 0)=false)∨∃ k:Nat,k<tags.length∧off d tags=k∧bad d (tags.getD k 0)=true∧(∀ j,j<tags.length→bad d (tags.getD j 0)=true→tags.getD k 0≤tags.getD j 0)∧∀ j,j<k→tags.getD j 0≠tags.getD k 0:=by
 unfold off
 rw[less_eq]
 rcases bst_cases (bad d) id tags tags.length with⟨h1,h2⟩|⟨k,hk,h1,h2,h3,h4⟩
 ·exact .inl ⟨h1,h2⟩
 ·refine .inr ⟨k,hk,h1,h2,h3,fun j hj e=>?_⟩
  have:=h4 j hj (by rw[e];exact h2)
  simp only[id] at this
  omega
theorem bst_eq (is:Int→Bool)(t:Int)(tags:List Int)(h:∀ j,j<tags.length→is (tags.getD j 0)=decide (tags.getD j 0=t)):bst is less tags tags.length=slot tags t:=by
 rw[less_eq]
 rcases bst_cases is id tags tags.length with⟨h1,h2⟩|⟨k,hk,h1,h2,h3,h4⟩
 ·rw[h1,slot_none fun j hj e=>?_]
  have:=h2 j hj
  rw[h j hj,e] at this
  simp at this
 ·rw[h1]
  have ek:tags.getD k 0=t:=by rw[h k hk] at h2;simpa using h2
  refine(slot_is hk ek fun j hj e=>?_).symm
  have:=h4 j hj (by rw[h j (by omega)];simpa using e)
  simp only[id] at this
  omega
def okS (k a p:Int)(tags:List Int):Prop:=(0≤k∧k<65536)∧(0≤a∧a≤k)∧(-1≤p∧p≤k)∧(1≤tags.length∧tags.length≤1048576)∧∀ i,i<tags.length→-1≤tags.getD i 0∧tags.getD i 0≤k
open Classical in
noncomputable def nx (k:Int)(ended:Bool)(a p:Int)(tags:List Int):Option Mc.Act:=
 if ¬ okS k a p tags then none
 else if p<0 then
  if a<k then some (1,k - a)
  else if 0≤off (sd k tags.length) tags then some (4,off (sd k tags.length) tags)
  else if k % sd k tags.length=0∧slot tags k<0∧0≤slot tags (-1) then some (2,slot tags (-1))
  else if ended=true then some (5,0) else none
 else if 0≤base tags∧p≤tags.getD (base tags).toNat 0 then some (4,base tags)
 else if p=0 then none
 else if a=p - 1 then some (7,0)
 else if 0≤base tags∧(a<tags.getD (base tags).toNat 0∨p≤a) then some (3,base tags)
 else if a<p then some (1,p - 1 - a)
 else none
end Sd
namespace Mc
def Runs (nx:St→Option Mc.Act):St→List Mc.Act→St→Prop
 | m,[],m'=>m'=m∧(nx m=none∨∃ a,nx m=some a∧(step m a.1 a.2).2≠0)
 | m,a::l,m'=>nx m=some a∧(step m a.1 a.2).2=0∧Runs nx (step m a.1 a.2).1 l m'
def Goes (nx:St→Option Mc.Act):St→List Mc.Act→St→Prop
 | m,[],m'=>m'=m
 | m,a::l,m'=>nx m=some a∧(step m a.1 a.2).2=0∧Goes nx (step m a.1 a.2).1 l m'
theorem Goes.run {nx:St→Option Mc.Act}:∀ {l:List Mc.Act} {m m' m'':St} {l':List Mc.Act},Goes nx m l m'→Runs nx m' l' m''→Runs nx m (l++l') m''
 | [],m,m',m'',l',h,g=>by cases h;exact g
 | a::l,m,m',m'',l',⟨h1,h2,h3⟩,g=>⟨h1,h2,Goes.run h3 g⟩
theorem Goes.trans {nx:St→Option Mc.Act}:∀ {l:List Mc.Act} {m m' m'':St} {l':List Mc.Act},Goes nx m l m'→Goes nx m' l' m''→Goes nx m (l++l') m''
 | [],m,m',m'',l',h,g=>by cases h;exact g
 | a::l,m,m',m'',l',⟨h1,h2,h3⟩,g=>⟨h1,h2,Goes.trans h3 g⟩
theorem Goes.one {nx:St→Option Mc.Act}{m:St}{a:Mc.Act}(h:nx m=some a)(e:(step m a.1 a.2).2=0):Goes nx m [a] (step m a.1 a.2).1:=⟨h,e,rfl⟩
theorem Runs.stop {nx:St→Option Mc.Act}{m:St}(h:nx m=none):Runs nx m [] m:=⟨rfl,.inl h⟩
def Does:St→List Mc.Act→St→Prop
 | m,[],m'=>m'=m
 | m,a::l,m'=>(step m a.1 a.2).2=0∧Does (step m a.1 a.2).1 l m'
theorem Runs.does {nx:St→Option Mc.Act}:∀ {l:List Mc.Act} {m m':St},Runs nx m l m'→Does m l m'
 | [],m,m',h=>h.1
 | a::l,m,m',⟨_,h2,h3⟩=>⟨h2,Runs.does h3⟩
theorem Goes.does {nx:St→Option Mc.Act}:∀ {l:List Mc.Act} {m m':St},Goes nx m l m'→Does m l m'
 | [],m,m',h=>h
 | a::l,m,m',⟨_,h2,h3⟩=>⟨h2,Goes.does h3⟩
theorem Does.trans:∀ {l:List Mc.Act} {m m' m'':St} {l':List Mc.Act},Does m l m'→Does m' l' m''→Does m (l++l') m''
 | [],m,m',m'',l',h,g=>by cases h;exact g
 | a::l,m,m',m'',l',⟨h2,h3⟩,g=>⟨h2,Does.trans h3 g⟩
theorem Does.chk:∀ {l:List Mc.Act} {m m':St} (k:Nat),Does m l m'→chk m l k=if m'.pend=0 then (m'.tot,((k+l.length:Nat):Int),0) else (0,((k+l.length:Nat):Int),19)
 | [],m,m',k,h=>by cases h;simp[chk_nil]
 | a::l,m,m',k,⟨h2,h3⟩=>by
   rw[Mc.chk,if_pos h2,Does.chk (k+1) h3]
   rw[show k+1+l.length=k+(a::l).length by simp only[List.length_cons];omega]
theorem Does.len:∀ {l:List Mc.Act} {m m':St},Does m l m'→m'.tags.length=m.tags.length∧m'.l=m.l
 | [],m,m',h=>by cases h;exact⟨rfl,rfl⟩
 | a::l,m,m',⟨h2,h3⟩=>by have:=Does.len h3;rw[step_len,step_l] at this;exact this
theorem Does.inv:∀ {l:List Mc.Act} {m m':St},Does m l m'→Inv m→Inv m'
 | [],m,m',h,i=>by cases h;exact i
 | a::l,m,m',⟨h2,h3⟩,i=>Does.inv h3 (i.step _ _)
theorem Does.split:∀ {l l':List Mc.Act} {m m'':St},Does m (l++l') m''→∃ m',Does m l m'∧Does m' l' m''
 | [],l',m,m'',h=>⟨m,rfl,h⟩
 | a::l,l',m,m'',⟨h2,h3⟩=>by obtain⟨m',h4,h5⟩:=Does.split h3;exact⟨m',⟨h2,h4⟩,h5⟩
theorem Runs.cut {nx:St→Option Mc.Act}:∀ {l l':List Mc.Act} {m m'':St},Runs nx m (l++l') m''→∃ m',Goes nx m l m'∧Runs nx m' l' m''
 | [],l',m,m'',h=>⟨m,rfl,h⟩
 | a::l,l',m,m'',⟨h1,h2,h3⟩=>by obtain⟨m',h4,h5⟩:=Runs.cut h3;exact⟨m',⟨h1,h2,h4⟩,h5⟩
theorem Does.eq:∀ {l:List Mc.Act} {m a b:St},Does m l a→Does m l b→a=b
 | [],m,a,b,h,g=>by cases h;cases g;rfl
 | _::l,m,a,b,⟨_,h⟩,⟨_,g⟩=>Does.eq h g
theorem Does.up:∀ {l:List Mc.Act} {m m':St},Does m l m'→∀ {pre:List Mc.Act} {m0:St},Mc.up m0 (pre++l) pre.length=m→Mc.up m0 (pre++l) (pre.length+l.length)=m'
 | [],m,m',h,pre,m0,e=>by cases h;simpa using e
 | a::l,m,m',⟨h2,h3⟩,pre,m0,e=>by
   have e1:pre++a::l=(pre++[a])++l:=by simp
   have e2:Mc.up m0 (pre++a::l) (pre.length+1)=(step m a.1 a.2).1:=by
    rw[up_succ,e]
    simp
   have:=Does.up h3 (pre:=pre++[a]) (m0:=m0) (by rw[← e1];simpa using e2)
   rw[← e1] at this
   rw[← this]
   simp only[List.length_append,List.length_cons,List.length_nil]
   congr 1
   omega
end Mc
end Go.Proofs.YtphppbonljdibaaGreat
namespace Go.Proofs.YtphppbonljdibaaGreat
namespace Sd
open Mc (St Act step Goes Runs Does)
structure Held (P:Int→Prop)(tags:List Int):Prop where
 all:∀ j,j<tags.length→tags.getD j 0 = -1∨(0≤tags.getD j 0∧P (tags.getD j 0))
 has:∀ t,0≤t→P t→∃ j,j<tags.length∧tags.getD j 0=t
 one:∀ i j,i<tags.length→j<tags.length→tags.getD i 0=tags.getD j 0→0≤tags.getD i 0→i=j
theorem getD_set (tags:List Int)(k j:Nat)(x:Int)(hk:k<tags.length):(tags.set k x).getD j 0=if j=k then x else tags.getD j 0:=by
 by_cases e:j=k
 ·subst e;simp[hk]
 ·rw[if_neg e];simp[List.getD_eq_getElem?_getD,List.getElem?_set_ne (Ne.symm e)]
theorem Held.cong {P Q:Int→Prop}{tags:List Int}(h:Held P tags)(e:∀ t,0≤t→(P t↔Q t)):Held Q tags:=
 ⟨fun j hj=>(h.all j hj).imp id fun⟨a,b⟩=>⟨a,(e _ a).1 b⟩,fun t h0 q=>h.has t h0 ((e t h0).2 q),h.one⟩
theorem Held.free {P:Int→Prop}{tags:List Int}(h:Held P tags){k:Nat}(hk:k<tags.length)(h0:0≤tags.getD k 0):Held (fun t=>P t∧t≠tags.getD k 0) (tags.set k (-1)):=by
 refine⟨fun j hj=>?_,fun t ht ⟨q,ne⟩=>?_,fun i j hi hj e hn=>?_⟩
 ·rw[List.length_set] at hj
  rw[getD_set _ _ _ _ hk]
  by_cases e:j=k
  ·rw[if_pos e];exact .inl rfl
  ·rw[if_neg e]
   rcases h.all j hj with a|⟨a,b⟩
   ·exact .inl a
   ·exact .inr ⟨a,b,fun e2=>e (h.one j k hj hk e2 a)⟩
 ·obtain⟨j,hj,e⟩:=h.has t ht q
  refine⟨j,by rw[List.length_set];exact hj,?_⟩
  rw[getD_set _ _ _ _ hk,if_neg fun e2=>ne (by rw[← e,e2])]
  exact e
 ·rw[List.length_set] at hi hj
  rw[getD_set _ _ _ _ hk] at hn
  rw[getD_set _ _ _ _ hk,getD_set _ _ _ _ hk] at e
  by_cases c:i=k
  ·rw[if_pos c] at hn;omega
  ·rw[if_neg c] at e hn
   by_cases c2:j=k
   ·rw[if_pos c2] at e;omega
   ·rw[if_neg c2] at e;exact h.one i j hi hj e hn
theorem Held.store {P:Int→Prop}{tags:List Int}(h:Held P tags){k:Nat}(hk:k<tags.length)(h0:tags.getD k 0 = -1){x:Int}(hx:0≤x)(hP:¬ P x):Held (fun t=>P t∨t=x) (tags.set k x):=by
 refine⟨fun j hj=>?_,fun t ht q=>?_,fun i j hi hj e hn=>?_⟩
 ·rw[List.length_set] at hj
  rw[getD_set _ _ _ _ hk]
  by_cases e:j=k
  ·rw[if_pos e];exact .inr ⟨hx,.inr rfl⟩
  ·rw[if_neg e]
   rcases h.all j hj with a|⟨a,b⟩
   ·exact .inl a
   ·exact .inr ⟨a,.inl b⟩
 ·by_cases c:t=x
  ·exact⟨k,by rw[List.length_set];exact hk,by rw[getD_set _ _ _ _ hk,if_pos rfl,c]⟩
  ·obtain⟨j,hj,e⟩:=h.has t ht (q.resolve_right c)
   refine⟨j,by rw[List.length_set];exact hj,?_⟩
   rw[getD_set _ _ _ _ hk,if_neg fun e2=>by rw[e2,h0] at e;omega]
   exact e
 ·rw[List.length_set] at hi hj
  rw[getD_set _ _ _ _ hk] at hn
  rw[getD_set _ _ _ _ hk,getD_set _ _ _ _ hk] at e
  have key:∀ q,q<tags.length→tags.getD q 0=x→False:=fun q hq e=>by
   rcases h.all q hq with a|⟨a,b⟩
   ·omega
   ·exact hP (e ▸ b)
  by_cases c:i=k
  ·by_cases c2:j=k
   ·rw[c,c2]
   ·rw[if_pos c,if_neg c2] at e;exact absurd e.symm (key j hj)
  ·rw[if_neg c] at e hn
   by_cases c2:j=k
   ·rw[if_pos c2] at e;exact absurd e (key i hi)
   ·rw[if_neg c2] at e;exact h.one i j hi hj e hn
theorem Held.new (n:Nat):Held (fun _=>False) (List.replicate n (-1)):=by
 have e:∀ j,j<n→(List.replicate n (-1:Int)).getD j 0 = -1:=fun j hj=>by simp[hj]
 refine⟨fun j hj=>.inl (e j (by simpa using hj)),fun t _ h=>h.elim,fun i j hi hj _ h=>?_⟩
 rw[e i (by simpa using hi)] at h
 omega
theorem Held.sl1 {P:Int→Prop}{tags:List Int}(h:Held P tags){t:Int}(h0:0≤t):(P t→0≤slot tags t)∧(¬ P t→slot tags t = -1):=by
 refine⟨fun hp=>?_,fun hp=>slot_none fun j hj e=>?_⟩
 ·obtain⟨j,hj,e⟩:=h.has t h0 hp
  rcases slot_cases tags t with⟨_,h2⟩|⟨k,_,h2,_⟩
  ·exact absurd e (h2 j hj)
  ·omega
 ·rcases h.all j hj with a|⟨a,b⟩
  ·omega
  ·exact hp (e ▸ b)
theorem cnt_sum (M:Nat):∀ tags:List Int,(∀ x∈tags,x<M)→tags.Pairwise (fun a b=>0≤a→a≠b)→(Mc.cnt tags:Int)=Mc.sum (fun t=>if (t:Int)∈tags then 1 else 0) M:=by
 intro tags
 induction tags with
 | nil=>intro _ _;rw[show(fun(t:Nat)=>if (t:Int)∈([]:List Int) then (1:Int) else 0)=fun _=>0 by funext t;simp,Mc.sum_zero];rfl
 | cons x l ih=>
   intro h1 h2
   rw[List.pairwise_cons] at h2
   have h3:=ih (fun y hy=>h1 y (List.mem_cons_of_mem _ hy)) h2.2
   have hx:=h1 x (by simp)
   unfold Mc.cnt
   by_cases c:0≤x
   ·rw[if_pos c]
    have hn:¬ x∈l:=fun hm=>h2.1 x hm c rfl
    have e:Mc.sum (fun t=>if (t:Int)∈x::l then 1 else 0) M=Mc.sum (fun t=>(if x≤(t:Int)∧(t:Int)<x+1 then 1 else 0)+(if (t:Int)∈l then 1 else 0)) M:=by
     refine Mc.sum_cong _ fun t _=>?_
     by_cases ct:(t:Int)=x
     ·rw[if_pos (by rw[ct];simp),if_pos (by omega),if_neg (by rw[ct];exact hn)];rfl
     ·rw[if_neg (c:=x≤(t:Int)∧(t:Int)<x+1) (by omega)]
      by_cases cl:(t:Int)∈l
      ·rw[if_pos (List.mem_cons_of_mem _ cl),if_pos cl];rfl
      ·rw[if_neg (by simp[cl,ct]),if_neg cl];rfl
    rw[e,Mc.sum_add,Mc.sum_ind _ _ _ c (by omega),← h3]
    omega
   ·rw[if_neg c]
    have e:Mc.sum (fun t=>if (t:Int)∈x::l then 1 else 0) M=Mc.sum (fun t=>if (t:Int)∈l then 1 else 0) M:=by
     refine Mc.sum_cong _ fun t _=>?_
     by_cases cl:(t:Int)∈l
     ·rw[if_pos (List.mem_cons_of_mem _ cl),if_pos cl]
     ·rw[if_neg (by simp[cl];omega),if_neg cl]
    rw[e,← h3]
    omega
theorem Held.cnt {P:Int→Prop}[DecidablePred P]{tags:List Int}(h:Held P tags)(M:Nat)(hM:∀ t,0≤t→P t→t<M):(Mc.cnt tags:Int)=Mc.sum (fun t=>if P (t:Int) then 1 else 0) M:=by
 have hg:∀ j,(hj:j<tags.length)→tags[j]=tags.getD j 0:=fun j hj=>by simp[hj]
 rw[cnt_sum M tags ?_ ?_]
 ·refine Mc.sum_cong _ fun t _=>?_
  by_cases c:P (t:Int)
  ·rw[if_pos c,if_pos]
   obtain⟨j,hj,e⟩:=h.has t (by omega) c
   rw[← e,← hg j hj]
   exact List.getElem_mem hj
  ·rw[if_neg c,if_neg]
   intro hm
   obtain⟨j,hj,e⟩:=List.mem_iff_getElem.1 hm
   rw[hg j hj] at e
   rcases h.all j hj with a|⟨a,b⟩
   ·omega
   ·exact c (e ▸ b)
 ·intro x hx
  obtain⟨j,hj,e⟩:=List.mem_iff_getElem.1 hx
  rw[hg j hj] at e
  rcases h.all j hj with a|⟨a,b⟩
  ·omega
  ·have:=hM _ a b;omega
 ·rw[List.pairwise_iff_getElem]
  intro i j hi hj hij h0 e
  rw[hg i hi] at h0
  rw[hg i hi,hg j hj] at e
  have:=h.one i j hi hj e h0
  omega
theorem cnt_full {tags:List Int}(h:∀ j,j<tags.length→0≤tags.getD j 0):Mc.cnt tags=tags.length:=by
 induction tags with
 | nil=>rfl
 | cons x l ih=>
   unfold Mc.cnt
   have h0:=h 0 (by simp)
   simp only[List.getD_cons_zero] at h0
   rw[if_pos h0,ih fun j hj=>by have:=h (j+1) (by simpa using hj);simpa using this,List.length_cons]
   omega
theorem Held.vacant {P:Int→Prop}{tags:List Int}(h:Held P tags)(hc:Mc.cnt tags<tags.length):0≤slot tags (-1):=by
 rcases slot_cases tags (-1) with⟨_,h2⟩|⟨k,_,h2,_⟩
 ·have:Mc.cnt tags=tags.length:=cnt_full fun j hj=>by
   rcases h.all j hj with a|⟨a,_⟩
   ·exact absurd a (h2 j hj)
   ·exact a
  omega
 ·omega
theorem sum_mult (d:Int)(hd:1≤d)(k:Nat):Mc.sum (fun t=>if (t:Int) % d=0 then 1 else 0) (k+1)=k / d+1:=by
 obtain⟨d,rfl⟩:∃ e:Nat,d=e:=⟨d.toNat,by omega⟩
 induction k with
 | zero=>simp[Mc.sum]
 | succ k ih=>
   rw[Mc.sum,ih]
   have h1:(((k+1:Nat):Int) % (d:Int))=(((k+1) % d:Nat):Int):=by simp
   have h2:(((k+1:Nat):Int) / (d:Int))=(((k+1) / d:Nat):Int):=by simp
   have h3:((k:Int) / (d:Int))=((k / d:Nat):Int):=by simp
   rw[h1,h2,h3,Nat.succ_div]
   by_cases c:d ∣ k+1
   ·rw[if_pos c,if_pos (by rw[Nat.mod_eq_zero_of_dvd c];rfl)];omega
   ·rw[if_neg c,if_neg (by intro e;exact c (Nat.dvd_of_mod_eq_zero (by omega)))];omega
theorem sum_mult' (d:Int)(hd:1≤d)(k:Nat)(h:(k:Int) % d=0):Mc.sum (fun t=>if (t:Int) % d=0 then 1 else 0) k=k / d:=by
 have:=sum_mult d hd k
 rw[Mc.sum,if_pos h] at this
 omega
def frT (d:Int)(tags:List Int):Nat→List Int
 | 0=>tags
 | t+1=>if (t:Int) % d≠0∧0≤slot (frT d tags t) t then (frT d tags t).set (slot (frT d tags t) t).toNat (-1) else frT d tags t
def frA (d:Int)(tags:List Int):Nat→List Mc.Act
 | 0=>[]
 | t+1=>frA d tags t++if (t:Int) % d≠0∧0≤slot (frT d tags t) t then [(4,slot (frT d tags t) t)] else []
theorem frT_succ (d:Int)(tags:List Int)(t:Nat):frT d tags (t+1)=if (t:Int) % d≠0∧0≤slot (frT d tags t) t then (frT d tags t).set (slot (frT d tags t) t).toNat (-1) else frT d tags t:=rfl
theorem frA_succ (d:Int)(tags:List Int)(t:Nat):frA d tags (t+1)=frA d tags t++if (t:Int) % d≠0∧0≤slot (frT d tags t) t then [(4,slot (frT d tags t) t)] else []:=rfl
theorem frT_len (d:Int)(tags:List Int)(t:Nat):(frT d tags t).length=tags.length:=by
 induction t with
 | zero=>rfl
 | succ t ih=>unfold frT;split<;>simp[ih]
noncomputable def nm (k:Int)(ended:Bool)(m:St):Option Mc.Act:=nx k ended m.at_ m.pend m.tags
theorem step_free {m:St}{n:Nat}(hn:n<m.tags.length)(hl:m.tags.length≤1048576)(h:0≤m.tags.getD n 0):Mc.step m 4 n=({ m with tags:=m.tags.set n (-1) },0):=by
 have hr:Mc.right 4 n=true:=by simp[Mc.right];omega
 unfold Mc.step St.tag
 rw[hr,if_neg (by decide),if_neg (by omega),if_neg (by decide),if_neg (by decide),if_neg (by decide),if_pos rfl,Int.toNat_natCast,if_neg (by omega)]
theorem step_store {m:St}{n:Nat}(hn:n<m.tags.length)(hl:m.tags.length≤1048576)(h:m.tags.getD n 0<0):Mc.step m 2 n=({ m with tags:=m.tags.set n m.at_ },0):=by
 have hr:Mc.right 2 n=true:=by simp[Mc.right];omega
 unfold Mc.step St.tag
 rw[hr,if_neg (by decide),if_neg (by omega),if_neg (by decide),if_pos rfl,Int.toNat_natCast,if_neg (by omega)]
theorem step_restore {m:St}{n:Nat}(hn:n<m.tags.length)(hl:m.tags.length≤1048576)(h:0≤m.tags.getD n 0):Mc.step m 3 n=({ m with at_:=m.tags.getD n 0 },0):=by
 have hr:Mc.right 3 n=true:=by simp[Mc.right];omega
 unfold Mc.step St.tag
 rw[hr,if_neg (by decide),if_neg (by omega),if_neg (by decide),if_neg (by decide),if_pos rfl,Int.toNat_natCast,if_neg (by omega)]
theorem step_adv {m:St}{n:Int}(h1:1≤n)(h2:n<65536)(h:n≤m.l - m.at_):Mc.step m 1 n=({ m with at_:=m.at_+n,tot:=m.tot+n },0):=by
 have hr:Mc.right 1 n=true:=by simp[Mc.right];omega
 unfold Mc.step
 rw[hr,if_neg (by decide),if_neg (by omega),if_pos rfl,if_neg (by omega)]
theorem step_seed {m:St}(h1:m.pend = -1)(h:m.at_=m.l):Mc.step m 5 0=({ m with pend:=m.at_ },0):=by
 have hr:Mc.right 5 0=true:=by decide
 unfold Mc.step Mc.begin_
 rw[hr,if_neg (by decide),if_neg (by omega),if_neg (by decide),if_neg (by decide),if_neg (by decide),if_neg (by decide),if_pos rfl,if_neg (by omega),if_neg (by omega)]
theorem step_both {m:St}(h1:m.pend = -1)(h:m.at_=m.l - 1):Mc.step m 6 0=({ m with pend:=m.at_ },0):=by
 have hr:Mc.right 6 0=true:=by decide
 unfold Mc.step Mc.begin_
 rw[hr,if_neg (by decide),if_neg (by omega),if_neg (by decide),if_neg (by decide),if_neg (by decide),if_neg (by decide),if_neg (by decide),if_pos rfl,if_neg (by omega),if_neg (by omega)]
theorem step_rev {m:St}(h1:1≤m.pend)(h:m.at_=m.pend - 1):Mc.step m 7 0=({ m with pend:=m.at_ },0):=by
 have hr:Mc.right 7 0=true:=by decide
 unfold Mc.step Mc.reverse
 rw[hr,if_neg (by decide),if_neg (by omega),if_neg (by decide),if_neg (by decide),if_neg (by decide),if_neg (by decide),if_neg (by decide),if_neg (by decide),if_neg (by omega),if_neg (by omega)]
theorem Held.okS {P:Int→Prop}{tags:List Int}(h:Held P tags){k a p:Int}(hk:0≤k∧k<65536)(ha:0≤a∧a≤k)(hp:-1≤p∧p≤k)(hn:1≤tags.length∧tags.length≤1048576)(hP:∀ t,0≤t→P t→t≤k):okS k a p tags:=
 ⟨hk,ha,hp,hn,fun i hi=>by
  rcases h.all i hi with e|⟨e,q⟩
  ·omega
  ·have:=hP _ e q;omega⟩
theorem fr_goes {P:Int→Prop}{L:Int}{k:Nat}{tot:Int}{tags:List Int}(h:Held P tags)(hk:k<65536)(hn:1≤tags.length∧tags.length≤1048576)(hP:∀ t,0≤t→P t→t≤k)(t:Nat)(ht:t≤k+1):
 Goes (nm k false) ⟨L,k,-1,tot,tags⟩ (frA (sd k tags.length) tags t) ⟨L,k,-1,tot,frT (sd k tags.length) tags t⟩∧Held (fun x=>P x∧(x % sd k tags.length=0∨(t:Int)≤x)) (frT (sd k tags.length) tags t):=by
 generalize hd:sd k tags.length=d
 induction t with
 | zero=>exact⟨rfl,h.cong fun x hx=>⟨fun p=>⟨p,.inr hx⟩,fun p=>p.1⟩⟩
 | succ t ih=>
   obtain⟨hg,hh⟩:=ih (by omega)
   have hl:=frT_len d tags t
   rw[frA_succ,frT_succ]
   generalize frT d tags t=T at *
   by_cases c:(t:Int) % d≠0∧0≤slot T t
   ·rw[if_pos c,if_pos c]
    obtain⟨c1,c2⟩:=c
    obtain⟨q1,q2⟩:=slot_nn c2
    obtain⟨s,hs⟩:∃ s:Nat,slot T t=s:=⟨(slot T t).toNat,by omega⟩
    rw[hs,Int.toNat_natCast] at q1 q2 ⊢
    have hP':P t:=by
     rcases hh.all s q1 with a|⟨_,b⟩
     ·omega
     ·rw[q2] at b;exact b.1
    have hbad:bad d (t:Int)=true:=by unfold bad;rw[decide_eq_true c1,decide_eq_true (by omega)];rfl
    have ho:off d T=s:=by
     rcases off_cases d T with⟨_,h2⟩|⟨i,hi,h1,h2,h3,h4⟩
     ·have:=h2 s q1;rw[q2,hbad] at this;cases this
     ·have e1:=h3 s q1 (by rw[q2];exact hbad)
      rw[q2] at e1
      have hb2:=h2
      unfold bad at hb2
      simp only[Bool.and_eq_true,decide_eq_true_eq] at hb2
      have e2:(t:Int)≤T.getD i 0:=by
       rcases hh.all i hi with a|⟨_,_,b⟩
       ·omega
       ·exact b.resolve_left hb2.2
      rw[h1]
      have:=hh.one i s hi q1 (by omega) (by omega)
      omega
    refine⟨hg.trans ?_,?_⟩
    ·have e:=step_free (m:=⟨L,k,-1,tot,T⟩) (n:=s) q1 (by show T.length≤1048576;omega) (by show(0:Int)≤T.getD s 0;omega)
     have hx:nm k false ⟨L,k,-1,tot,T⟩=some (4,(s:Int)):=by
      unfold nm nx
      rw[if_neg (not_not_intro (hh.okS (by omega) (by show(0:Int)≤(k:Int)∧(k:Int)≤k;omega) (by show(-1:Int)≤-1∧(-1:Int)≤k;omega) (by rw[hl];exact hn) fun x hx hp=>hP x hx hp.1)),if_pos (by show(-1:Int)<0;omega),if_neg (by show ¬ (k:Int)<k;omega),hl,hd,ho,if_pos (by omega)]
     have:=Goes.one hx (by rw[e])
     rw[e] at this
     exact this
    ·refine(hh.free q1 (by omega)).cong fun x hx=>?_
     rw[q2]
     constructor
     ·rintro⟨⟨p,q⟩,r⟩
      exact⟨p,by rcases q with q|q;exact .inl q;exact .inr (by omega)⟩
     ·rintro⟨p,q⟩
      refine⟨⟨p,by rcases q with q|q;exact .inl q;exact .inr (by omega)⟩,fun e=>?_⟩
      subst e
      rcases q with q|q
      ·exact c1 q
      ·omega
   ·rw[if_neg c,if_neg c,List.append_nil]
    refine⟨hg,hh.cong fun x hx=>?_⟩
    constructor
    ·rintro⟨p,q⟩
     refine⟨p,?_⟩
     rcases q with q|q
     ·exact .inl q
     ·by_cases e:x=t
      ·subst e
       by_cases z:(t:Int) % d=0
       ·exact .inl z
       ·have:=(hh.sl1 (t:=(t:Int)) (by omega)).1 ⟨p,.inr (by omega)⟩
        exact absurd ⟨z,this⟩ c
      ·exact .inr (by omega)
    ·rintro⟨p,q⟩
     exact⟨p,by rcases q with q|q;exact .inl q;exact .inr (by omega)⟩
end Sd
end Go.Proofs.YtphppbonljdibaaGreat
namespace Go.Proofs.YtphppbonljdibaaGreat
namespace Sd
open Mc (St Act Goes Runs Does)
theorem p2_add (i j:Nat):p2 (i+j)=p2 i * p2 j:=by unfold p2;rw[Nat.pow_add];simp
theorem jx_mono {k n:Int}(hk:k+1<65536)(hs:1≤n):jx k n≤jx (k+1) n:=by
 apply Classical.byContradiction
 intro c
 have h1:=(jx_is (k:=k) (by omega) hs).2 (jx (k+1) n) (by omega)
 have h2:=(jx_is hk hs).1
 omega
theorem sd_step {k n:Int}(hk:k+1<65536)(hs:1≤n):∃ q:Int,sd (k+1) n=sd k n * q:=by
 refine⟨p2 (jx (k+1) n - jx k n),?_⟩
 unfold sd
 rw[← p2_add]
 have:=jx_mono hk hs
 congr 1
 omega
theorem sd_gt {k n:Int}(hk:k<65536)(hs:1≤n):k<n * sd k n:=(jx_is hk hs).1
theorem mod_of {x d q:Int}(h:x % (d * q)=0):x % d=0:=by
 have h1:=Int.dvd_of_emod_eq_zero h
 exact Int.emod_eq_zero_of_dvd (Int.dvd_trans (Int.dvd_mul_right d q) h1)
def gT (tags:List Int)(k:Nat):List Int:=
 if (k:Int) % sd k tags.length=0 then (frT (sd k tags.length) tags k).set (slot (frT (sd k tags.length) tags k) (-1)).toNat k else frT (sd k tags.length) tags k
def gA (tags:List Int)(k:Nat):List Mc.Act:=
 frA (sd k tags.length) tags k++if (k:Int) % sd k tags.length=0 then [(2,slot (frT (sd k tags.length) tags k) (-1))] else []
theorem gT_len (tags:List Int)(k:Nat):(gT tags k).length=tags.length:=by
 unfold gT;split<;>simp[frT_len]
theorem grow_runs {L:Int}{k:Nat}{tot d0:Int}{tags:List Int}(h:Held (fun x=>x<k∧x % d0=0) tags)(hq:∃ q,sd k tags.length=d0 * q)(hk:k<65536)(hn:1≤tags.length∧tags.length≤1048576):
 Runs (nm k false) ⟨L,k,-1,tot,tags⟩ (gA tags k) ⟨L,k,-1,tot,gT tags k⟩∧Held (fun x=>x<(k+1:Nat)∧x % sd k tags.length=0) (gT tags k):=by
 obtain⟨hg,hh⟩:=fr_goes (L:=L) (tot:=tot) h hk hn (fun t _ p=>by omega) k (by omega)
 have hl:=frT_len (sd k tags.length) tags k
 have hd:=sd_pos (k:Int) tags.length
 have hgt:=sd_gt (k:=(k:Int)) (n:=tags.length) (by omega) (by omega)
 have hsd:sd k (frT (sd k tags.length) tags k).length=sd k tags.length:=by rw[hl]
 unfold gA gT
 generalize frT (sd k tags.length) tags k=T at *
 obtain⟨q,hq⟩:=hq
 have hh2:Held (fun x=>x<(k:Int)∧x % sd k tags.length=0) T:=hh.cong fun x hx=>by
  constructor
  ·rintro⟨⟨a,b⟩,c|c⟩
   ·exact⟨a,c⟩
   ·omega
  ·rintro⟨a,b⟩
   exact⟨⟨a,by rw[hq] at b;exact mod_of b⟩,.inl b⟩
 generalize sd k tags.length=d at *
 clear hh hq
 have hend:∀ T':List Int,T'.length=tags.length→Held (fun x=>x<(k+1:Nat)∧x % d=0) T'→nm k false ⟨L,k,-1,tot,T'⟩=none:=by
  intro T' hl' hT
  have e:sd k T'.length=d:=by rw[hl',← hl];exact hsd
  unfold nm nx
  have hoff:off d T' = -1:=by
   rcases off_cases d T' with⟨h1,_⟩|⟨i,hi,_,h2,_⟩
   ·exact h1
   ·unfold bad at h2
    simp only[Bool.and_eq_true,decide_eq_true_eq] at h2
    rcases hT.all i hi with a|⟨_,_,b⟩
    ·omega
    ·exact absurd b h2.2
  rw[if_neg (not_not_intro (hT.okS (by omega) (by show(0:Int)≤(k:Int)∧(k:Int)≤k;omega) (by show(-1:Int)≤-1∧(-1:Int)≤k;omega) (by rw[hl'];exact hn) fun x hx hp=>by omega)),if_pos (by show(-1:Int)<0;omega),if_neg (by show ¬ (k:Int)<k;omega),e,hoff,if_neg (by omega),if_neg ?_,if_neg (by simp)]
  rintro⟨h1,h2,_⟩
  have:=(hT.sl1 (t:=(k:Int)) (by omega)).1 ⟨by omega,h1⟩
  have h3:slot T' k<0:=h2
  omega
 by_cases c:(k:Int) % d=0
 ·rw[if_pos c,if_pos c]
  have hc:=hh2.cnt k (fun t _ p=>p.1)
  have e1:Mc.sum (fun(t:Nat)=>if ((t:Int)<(k:Int)∧(t:Int) % d=0) then (1:Int) else 0) k=Mc.sum (fun(t:Nat)=>if (t:Int) % d=0 then (1:Int) else 0) k:=Mc.sum_cong _ fun t ht=>by
   by_cases z:(t:Int) % d=0
   ·rw[if_pos z,if_pos ⟨by omega,z⟩]
   ·rw[if_neg z,if_neg fun h=>z h.2]
  rw[e1,sum_mult' d hd k c] at hc
  have hlt:(k:Int) / d<tags.length:=Int.ediv_lt_of_lt_mul (by omega) hgt
  have hv:=hh2.vacant (by rw[hl];omega)
  obtain⟨q1,q2⟩:=slot_nn hv
  obtain⟨s,hs⟩:∃ s:Nat,slot T (-1)=s:=⟨(slot T (-1)).toNat,by omega⟩
  rw[hs,Int.toNat_natCast] at q1 q2 ⊢
  have hst:=hh2.store q1 q2 (x:=(k:Int)) (by omega) (by omega)
  have hT:Held (fun x=>x<(k+1:Nat)∧x % d=0) (T.set s k):=hst.cong fun x hx=>by
   constructor
   ·rintro(⟨a,b⟩|rfl)
    ·exact⟨by omega,b⟩
    ·exact⟨by omega,c⟩
   ·rintro⟨a,b⟩
    by_cases e:x=k
    ·exact .inr e
    ·exact .inl ⟨by omega,b⟩
  refine⟨hg.run ?_,hT⟩
  have e:=step_store (m:=⟨L,k,-1,tot,T⟩) (n:=s) q1 (by show T.length≤1048576;omega) (by show T.getD s 0<0;omega)
  have hx:nm k false ⟨L,k,-1,tot,T⟩=some (2,(s:Int)):=by
   have hoff:off d T = -1:=by
    rcases off_cases d T with⟨h1,_⟩|⟨i,hi,_,h2,_⟩
    ·exact h1
    ·unfold bad at h2
     simp only[Bool.and_eq_true,decide_eq_true_eq] at h2
     rcases hh2.all i hi with a|⟨_,_,b⟩
     ·omega
     ·exact absurd b h2.2
   have hsl:=(hh2.sl1 (t:=(k:Int)) (by omega)).2 (by omega)
   unfold nm nx
   rw[if_neg (not_not_intro (hh2.okS (by omega) (by show(0:Int)≤(k:Int)∧(k:Int)≤k;omega) (by show(-1:Int)≤-1∧(-1:Int)≤k;omega) (by rw[hl];exact hn) fun x hx hp=>by omega)),if_pos (by show(-1:Int)<0;omega),if_neg (by show ¬ (k:Int)<k;omega),hsd,hoff,if_neg (by omega),if_pos ⟨c,by show slot T k<0;omega,by rw[hs];omega⟩,hs]
  refine⟨hx,by rw[e],?_⟩
  rw[e]
  exact Runs.stop (hend _ (by rw[List.length_set];exact hl) hT)
 ·rw[if_neg c,if_neg c]
  have hT:Held (fun x=>x<(k+1:Nat)∧x % d=0) T:=hh2.cong fun x hx=>by
   constructor
   ·rintro⟨a,b⟩;exact⟨by omega,b⟩
   ·rintro⟨a,b⟩
    refine⟨?_,b⟩
    by_cases e:x=k
    ·subst e;exact absurd b c
    ·omega
  exact⟨hg.run (Runs.stop (hend T hl hT)),hT⟩
def aT (n:Nat):Nat→List Int
 | 0=>gT (List.replicate n (-1)) 0
 | k+1=>gT (aT n k) (k+1)
def rA (n:Nat):Nat→List Mc.Act
 | 0=>gA (List.replicate n (-1)) 0
 | k+1=>(1,1)::gA (aT n k) (k+1)
def aA (n:Nat):Nat→List Mc.Act
 | 0=>rA n 0
 | k+1=>aA n k++rA n (k+1)
theorem aT_len (n k:Nat):(aT n k).length=n:=by
 induction k with
 | zero=>unfold aT;rw[gT_len];simp
 | succ k ih=>unfold aT;rw[gT_len,ih]
def mA (L:Int)(n k:Nat):St:=⟨L,k,-1,k,aT n k⟩
def mZ (L:Int)(n:Nat):Nat→St
 | 0=>Mc.new L n
 | k+1=>mA L n k
theorem aT_held {n k:Nat}(hk:k<65536)(hn:1≤n∧n≤1048576):Held (fun x=>x<(k+1:Nat)∧x % sd k n=0) (aT n k):=by
 induction k with
 | zero=>
   have h0:Held (fun x=>x<((0:Nat):Int)∧x % 1=0) (List.replicate n (-1)):=(Held.new n).cong fun x hx=>⟨fun h=>h.elim,fun h=>by omega⟩
   have:=(grow_runs (L:=0) (tot:=0) h0 ⟨_,(Int.one_mul _).symm⟩ (by omega) (by simpa using hn)).2
   simpa [aT] using this
 | succ k ih=>
   have h0:=ih (by omega)
   have hq:∃ q,sd ((k+1:Nat):Int) (aT n k).length=sd k n * q:=by rw[aT_len];exact sd_step (k:=(k:Int)) (n:=(n:Int)) (by omega) (by omega)
   have:=(grow_runs (L:=0) (tot:=0) h0 hq hk (by rw[aT_len];exact hn)).2
   rw[aT_len] at this
   exact this
theorem run_ahead {L:Int}{n k:Nat}(hL:L<65536)(hk:(k:Int)≤L)(hn:1≤n∧n≤1048576):Runs (nm k false) (mZ L n k) (rA n k) (mA L n k):=by
 cases k with
 | zero=>
   have h0:Held (fun x=>x<((0:Nat):Int)∧x % 1=0) (List.replicate n (-1)):=(Held.new n).cong fun x hx=>⟨fun h=>h.elim,fun h=>by omega⟩
   exact(grow_runs (L:=L) (tot:=0) h0 ⟨_,(Int.one_mul _).symm⟩ (by omega) (by simpa using hn)).1
 | succ k=>
   have h0:=aT_held (n:=n) (k:=k) (by omega) hn
   have hq:∃ q,sd ((k+1:Nat):Int) (aT n k).length=sd k n * q:=by rw[aT_len];exact sd_step (k:=(k:Int)) (n:=(n:Int)) (by omega) (by omega)
   have hr:=(grow_runs (L:=L) (tot:=((k+1:Nat):Int)) h0 hq (by omega) (by rw[aT_len];exact hn)).1
   have e:=step_adv (m:=mA L n k) (n:=1) (by omega) (by omega) (by show(1:Int)≤L - k;omega)
   have hx:nm ((k+1:Nat):Int) false (mA L n k)=some (1,1):=by
    unfold nm nx mA
    rw[if_neg (not_not_intro (h0.okS (by omega) (by show(0:Int)≤(k:Int)∧(k:Int)≤_;omega) (by show(-1:Int)≤-1∧(-1:Int)≤_;omega) (by rw[aT_len];exact hn) fun x hx hp=>by omega)),if_pos (by show(-1:Int)<0;omega),if_pos (by show(k:Int)<_;omega)]
    congr 2
    show((k+1:Nat):Int) - (k:Int)=1
    omega
   refine⟨hx,by show(Mc.step (mA L n k) 1 1).2=0;rw[e],?_⟩
   show Runs _ (Mc.step (mA L n k) 1 1).1 _ _
   rw[e]
   exact hr
theorem does_ahead {L:Int}{n:Nat}(hL:L<65536)(hn:1≤n∧n≤1048576):∀ k:Nat,(k:Int)≤L→Does (Mc.new L n) (aA n k) (mA L n k):=by
 intro k
 induction k with
 | zero=>intro h;exact(run_ahead hL h hn).does
 | succ k ih=>intro h;exact(ih (by omega)).trans (run_ahead hL h hn).does
end Sd
end Go.Proofs.YtphppbonljdibaaGreat
namespace Go.Proofs.YtphppbonljdibaaGreat
namespace Sd
open Mc (St Act Goes Runs Does)
theorem st_tags {l a p t:Int}{T T':List Int}(h:T=T'):(⟨l,a,p,t,T⟩:St)=⟨l,a,p,t,T'⟩:=by rw[h]
def cut (tags:List Int)(p:Int):List Int:=tags.map fun t=>if p≤t then -1 else t
theorem cut_len (tags:List Int)(p:Int):(cut tags p).length=tags.length:=by simp[cut]
theorem cut_get (tags:List Int)(p:Int){j:Nat}(hj:j<tags.length):(cut tags p).getD j 0=if p≤tags.getD j 0 then -1 else tags.getD j 0:=by simp[cut,hj]
theorem list_ext {a b:List Int}(hl:a.length=b.length)(h:∀ j,j<a.length→a.getD j 0=b.getD j 0):a=b:=by
 apply List.ext_getElem hl
 intro i h1 h2
 have:=h i h1
 simpa [h1,h2] using this
theorem Held.cut {P:Int→Prop}{tags:List Int}(h:Held P tags)(p:Int):Held (fun x=>P x∧x<p) (cut tags p):=by
 refine⟨fun j hj=>?_,fun t ht ⟨q,hp⟩=>?_,fun i j hi hj e hn=>?_⟩
 ·rw[cut_len] at hj
  rw[cut_get _ _ hj]
  split
  ·exact .inl rfl
  ·rename_i c
   exact(h.all j hj).imp id fun⟨a,b⟩=>⟨a,b,by omega⟩
 ·obtain⟨j,hj,e⟩:=h.has t ht q
  exact⟨j,by rw[cut_len];exact hj,by rw[cut_get _ _ hj,if_neg (by omega)];exact e⟩
 ·rw[cut_len] at hi hj
  rw[cut_get _ _ hi] at hn
  rw[cut_get _ _ hi,cut_get _ _ hj] at e
  by_cases c:p≤tags.getD i 0
  ·rw[if_pos c] at hn;omega
  ·rw[if_neg c] at e hn
   by_cases c2:p≤tags.getD j 0
   ·rw[if_pos c2] at e;omega
   ·rw[if_neg c2] at e
    exact h.one i j hi hj e hn
theorem slot_one {P:Int→Prop}{tags:List Int}(h:Held P tags){j:Nat}(hj:j<tags.length)(h0:0≤tags.getD j 0):slot tags (tags.getD j 0)=j:=
 slot_is hj rfl fun i hi e=>by have:=h.one j i hj (by omega) e.symm h0;omega
theorem base_one {P:Int→Prop}{tags:List Int}(h:Held P tags){j:Nat}(hj:j<tags.length)(h0:0≤tags.getD j 0)(ht:∀ t,0≤t→P t→t≤tags.getD j 0):base tags=j:=by
 rcases base_cases tags with⟨_,h2⟩|⟨k,hk,h1,h2,h3,h4⟩
 ·have:=h2 j hj;omega
 ·rw[h1]
  have e1:=h3 j hj
  have e2:tags.getD k 0≤tags.getD j 0:=by
   rcases h.all k hk with a|⟨a,b⟩
   ·omega
   ·exact ht _ a b
  have:=h.one k j hk hj (by omega) h2
  omega
def bR (d:Int)(T:List Int)(i:Nat):List Mc.Act:=
 (3,slot T (i - i % d))::((if 0<(i:Int) % d then [(1,(i:Int) % d)] else [])++(7,0)::(if (i:Int) % d=0 then [(4,slot T (i - i % d))] else []))
def bD (d:Int)(T:List Int):Nat→List Mc.Act
 | 0=>[]
 | i+1=>bR d T i++bD d T i
def bL (d:Int)(T:List Int)(l:Nat):List Mc.Act:=(5,0)::((if (l:Int) % d=0 then [(4,slot T l)] else [])++bD d T l)
theorem cut_free {P:Int→Prop}{T:List Int}(h:Held P T){j:Nat}(hj:j<T.length){i:Nat}(e:T.getD j 0=i)(htop:∀ t,0≤t→P t→t<(i+1:Nat)→t≤i):(cut T (i+1:Nat)).set j (-1)=cut T i:=by
 refine list_ext (by rw[List.length_set,cut_len,cut_len]) fun k hk=>?_
 rw[List.length_set,cut_len] at hk
 rw[getD_set _ _ _ _ (by rw[cut_len];exact hj),cut_get _ _ hk,cut_get _ _ hk]
 by_cases c:k=j
 ·subst c;rw[if_pos rfl,if_pos (by omega)]
 ·rw[if_neg c]
  have hne:T.getD k 0≠i:=fun e2=>c (h.one k j hk hj (by omega) (by omega))
  by_cases c2:((i:Nat):Int)≤T.getD k 0
  ·rw[if_pos (by omega),if_pos c2]
  ·rw[if_neg (by omega),if_neg c2]
theorem cut_same {P:Int→Prop}{T:List Int}(h:Held P T){i:Nat}(hP:¬ P i):cut T (i+1:Nat)=cut T i:=by
 refine list_ext (by rw[cut_len,cut_len]) fun k hk=>?_
 rw[cut_len] at hk
 rw[cut_get _ _ hk,cut_get _ _ hk]
 have hne:T.getD k 0≠i:=fun e2=>by
  rcases h.all k hk with a|⟨_,b⟩
  ·omega
  ·rw[e2] at b;exact hP b
 by_cases c2:((i:Nat):Int)≤T.getD k 0
 ·rw[if_pos (by omega),if_pos c2]
 ·rw[if_neg (by omega),if_neg c2]
theorem back_goes {l i:Nat}{d tot:Int}{T:List Int}{P:Int→Prop}(hP:∀ x:Int,0≤x→x≤(l:Int)→(P x↔x % d=0))(h:Held P T)(hPl:∀ x:Int,0≤x→P x→x≤(l:Int))(hd:1≤d)(hl:l<65536)(hn:1≤T.length∧T.length≤1048576)(hi:i<l)(e:Bool):
 Goes (nm l e) ⟨l,(i+1:Nat),(i+1:Nat),tot,cut T (i+1:Nat)⟩ (bR d T i) ⟨l,i,i,tot+i % d,cut T i⟩:=by
 have hmod:=Int.emod_nonneg (i:Int) (show d≠0 by omega)
 have hlt:=Int.emod_lt_of_pos (i:Int) (show 0<d by omega)
 have hle:(i:Int) % d≤i:=by
  obtain⟨D,rfl⟩:∃ D:Nat,d=D:=⟨d.toNat,by omega⟩
  have:=Nat.mod_le i D
  have e:((i:Int) % (D:Int))=((i % D:Nat):Int):=by simp
  rw[e];omega
 have hb0:((i:Int) - i % d) % d=0:=by
  rw[Int.sub_emod,Int.emod_emod_of_dvd _ (Int.dvd_refl d),Int.sub_self,Int.zero_emod]
 have htop:∀ t,0≤t→P t→t<(i+1:Nat)→t≤(i:Int) - i % d:=by
  intro t h0 hp ht
  have hz:=(hP t h0 (by omega)).1 hp
  have h2:t / d * d+t % d=t:=Int.ediv_mul_add_emod t d
  have h3:(i:Int) / d * d+(i:Int) % d=i:=Int.ediv_mul_add_emod i d
  have h4:t / d≤(i:Int) / d:=Int.ediv_le_ediv (by omega) (by omega)
  have h5:t / d * d≤(i:Int) / d * d:=Int.mul_le_mul_of_nonneg_right h4 (by omega)
  omega
 obtain⟨j,hj,ej⟩:=h.has ((i:Int) - i % d) (by omega) ((hP _ (by omega) (by omega)).2 hb0)
 have hs:slot T ((i:Int) - i % d)=j:=by rw[← ej];exact slot_one h hj (by omega)
 have hc:=h.cut (i+1:Nat)
 have hcj:(cut T (i+1:Nat)).getD j 0=(i:Int) - i % d:=by rw[cut_get _ _ hj,if_neg (by omega),ej]
 have hcl:=cut_len T (i+1:Nat)
 have hbase:base (cut T (i+1:Nat))=j:=base_one hc (by rw[hcl];exact hj) (by rw[hcj];omega) (by rw[hcj];exact fun t h0 hp=>htop t h0 hp.1 hp.2)
 have hok:∀ a p:Int,0≤a∧a≤l→-1≤p∧p≤l→okS l a p (cut T (i+1:Nat)):=fun a p ha hp=>hc.okS (by omega) ha hp (by rw[hcl];exact hn) fun t h0 ht=>hPl t h0 ht.1
 unfold bR
 rw[hs]
 have hend:cut T i=if (i:Int) % d=0 then (cut T (i+1:Nat)).set j (-1) else cut T (i+1:Nat):=by
  by_cases c:(i:Int) % d=0
  ·rw[if_pos c,cut_free h hj (by omega) (fun t _ _ ht=>by omega)]
  ·rw[if_neg c,cut_same h fun hp=>c ((hP i (by omega) (by omega)).1 hp)]
 rw[hend]
 generalize cut T (i+1:Nat)=C at *
 -- restore
 have s1:=step_restore (m:=⟨l,(i+1:Nat),(i+1:Nat),tot,C⟩) (n:=j) (by show j<C.length;omega) (by show C.length≤1048576;omega) (by show(0:Int)≤C.getD j 0;omega)
 have x1:nm l e ⟨l,(i+1:Nat),(i+1:Nat),tot,C⟩=some (3,(j:Int)):=by
  unfold nm nx
  rw[if_neg (not_not_intro (hok _ _ (by dsimp only;omega) (by dsimp only;omega))),if_neg (by show ¬ ((i+1:Nat):Int)<0;omega),hbase,Int.toNat_natCast,if_neg (by simp only[hcj];omega),if_neg (by show ¬ ((i+1:Nat):Int)=0;omega),if_neg (by show ¬ ((i+1:Nat):Int)=((i+1:Nat):Int) - 1;omega),if_pos ⟨by omega,.inr (by show((i+1:Nat):Int)≤((i+1:Nat):Int);omega)⟩]
 refine⟨x1,by rw[s1],?_⟩
 rw[s1]
 simp only[hcj]
 -- advance
 have key:∀ a t:Int,a=i→Goes (nm l e) ⟨l,a,(i+1:Nat),t,C⟩ ((7,0)::(if (i:Int) % d=0 then [(4,(j:Int))] else [])) ⟨l,i,i,t,if (i:Int) % d=0 then C.set j (-1) else C⟩:=by
  intro a t ha
  subst ha
  have s2:=step_rev (m:=⟨l,i,(i+1:Nat),t,C⟩) (by show(1:Int)≤((i+1:Nat):Int);omega) (by show(i:Int)=((i+1:Nat):Int) - 1;omega)
  have x2:nm l e ⟨l,i,(i+1:Nat),t,C⟩=some (7,0):=by
   unfold nm nx
   rw[if_neg (not_not_intro (hok _ _ (by dsimp only;omega) (by dsimp only;omega))),if_neg (by show ¬ ((i+1:Nat):Int)<0;omega),hbase,Int.toNat_natCast,if_neg (by simp only[hcj];omega),if_neg (by show ¬ ((i+1:Nat):Int)=0;omega),if_pos (by show(i:Int)=((i+1:Nat):Int) - 1;omega)]
  refine⟨x2,by rw[s2],?_⟩
  rw[s2]
  by_cases c:(i:Int) % d=0
  ·rw[if_pos c,if_pos c]
   have s3:=step_free (m:=⟨l,i,i,t,C⟩) (n:=j) (by show j<C.length;omega) (by show C.length≤1048576;omega) (by show(0:Int)≤C.getD j 0;omega)
   have x3:nm l e ⟨l,i,i,t,C⟩=some (4,(j:Int)):=by
    unfold nm nx
    rw[if_neg (not_not_intro (hok _ _ (by dsimp only;omega) (by dsimp only;omega))),if_neg (by show ¬ (i:Int)<0;omega),hbase,Int.toNat_natCast,if_pos (by simp only[hcj];omega)]
   refine⟨x3,by rw[s3],?_⟩
   rw[s3]
   exact(rfl:(⟨(l:Int),i,i,t,C.set j (-1)⟩:St)=_)
  ·rw[if_neg c,if_neg c];rfl
 by_cases c:0<(i:Int) % d
 ·rw[if_pos c]
  have s2:=step_adv (m:=⟨l,(i:Int) - i % d,(i+1:Nat),tot,C⟩) (n:=(i:Int) % d) (by omega) (by omega) (by show(i:Int) % d≤(l:Int) - ((i:Int) - i % d);omega)
  have x2:nm l e ⟨l,(i:Int) - i % d,(i+1:Nat),tot,C⟩=some (1,(i:Int) % d):=by
   unfold nm nx
   rw[if_neg (not_not_intro (hok _ _ (by dsimp only;omega) (by dsimp only;omega))),if_neg (by show ¬ ((i+1:Nat):Int)<0;omega),hbase,Int.toNat_natCast,if_neg (by simp only[hcj];omega),if_neg (by show ¬ ((i+1:Nat):Int)=0;omega),if_neg (by show ¬ (i:Int) - i % d=((i+1:Nat):Int) - 1;omega),if_neg (by dsimp only;rw[hcj];omega),if_pos (by show(i:Int) - i % d<((i+1:Nat):Int);omega)]
   refine congrArg (fun z=>some ((1:Int),z)) ?_
   show((i+1:Nat):Int) - 1 - ((i:Int) - i % d)=_
   omega
  refine⟨x2,by rw[s2],?_⟩
  rw[s2]
  exact key ((i:Int) - i % d+i % d) (tot+i % d) (by omega)
 ·rw[if_neg c]
  have e0:(i:Int) % d=0:=by omega
  have:=key ((i:Int) - i % d) tot (by omega)
  rw[e0] at this ⊢
  simpa using this
theorem down_goes {l:Nat}{d:Int}{T:List Int}{P:Int→Prop}(hP:∀ x:Int,0≤x→x≤(l:Int)→(P x↔x % d=0))(h:Held P T)(hPl:∀ x:Int,0≤x→P x→x≤(l:Int))(hd:1≤d)(hl:l<65536)(hn:1≤T.length∧T.length≤1048576)(e:Bool):
 ∀ i tot,i≤l→Goes (nm l e) ⟨l,i,i,tot,cut T i⟩ (bD d T i) ⟨l,0,0,tot+Mc.sum (fun i=>(i:Int) % d) i,cut T 0⟩:=by
 intro i
 induction i with
 | zero=>intro tot _;unfold bD;simp[Goes,Mc.sum]
 | succ i ih=>
   intro tot hi
   have h1:=back_goes (tot:=tot) hP h hPl hd hl hn (i:=i) (by omega) e
   have h2:=ih (tot+i % d) (by omega)
   have:=h1.trans h2
   rw[show tot+(i:Int) % d+Mc.sum (fun i=>(i:Int) % d) i=tot+Mc.sum (fun i=>(i:Int) % d) (i+1) by simp only[Mc.sum];omega] at this
   exact this
theorem back_runs {n l:Nat}(hl:l<65536)(hn:1≤n∧n≤1048576):
 Runs (nm l true) (mA l n l) (bL (sd l n) (aT n l) l) ⟨l,0,0,tot l (sd l n),cut (aT n l) 0⟩:=by
 have h:=aT_held (n:=n) (k:=l) hl hn
 have hlen:=aT_len n l
 have hd:=sd_pos (l:Int) (n:Int)
 have hP:∀ x:Int,0≤x→x≤l→((x<(l+1:Nat)∧x % sd l n=0)↔x % sd l n=0):=fun x _ h=>⟨fun a=>a.2,fun a=>⟨by omega,a⟩⟩
 have hPl:∀ x:Int,0≤x→(x<(l+1:Nat)∧x % sd l n=0)→x≤l:=fun x _ h=>by omega
 have hdn:=down_goes hP h hPl hd hl (by rw[hlen];exact hn) true l l (by omega)
 unfold mA bL tot
 have hsd:sd l (aT n l).length=sd l n:=by rw[hlen]
 generalize aT n l=T at *
 generalize sd l n=d at *
 have hoff:off d T = -1:=by
  rcases off_cases d T with⟨h1,_⟩|⟨i,hi,_,h2,_⟩
  ·exact h1
  ·unfold bad at h2
   simp only[Bool.and_eq_true,decide_eq_true_eq] at h2
   rcases h.all i hi with a|⟨_,_,b⟩
   ·omega
   ·exact absurd b h2.2
 have hok:∀ a p:Int,0≤a∧a≤l→-1≤p∧p≤l→okS l a p T:=fun a p ha hp=>h.okS (by omega) ha hp (by rw[hlen];exact hn) hPl
 have s1:=step_seed (m:=⟨l,l,-1,l,T⟩) rfl rfl
 have x1:nm l true ⟨l,l,-1,l,T⟩=some (5,0):=by
  unfold nm nx
  rw[if_neg (not_not_intro (hok _ _ (by show(0:Int)≤(l:Int)∧(l:Int)≤l;omega) (by show(-1:Int)≤-1∧(-1:Int)≤l;omega))),if_pos (by show(-1:Int)<0;omega),if_neg (by show ¬ (l:Int)<l;omega),hsd,hoff,if_neg (by omega),if_neg ?_,if_pos rfl]
  rintro⟨h1,h2,_⟩
  have:=(h.sl1 (t:=(l:Int)) (by omega)).1 ⟨by omega,h1⟩
  have h3:slot T l<0:=h2
  omega
 refine⟨x1,by rw[s1],?_⟩
 rw[s1]
 have hstop:nm l true ⟨l,0,0,(l:Int)+Mc.sum (fun i=>(i:Int) % d) l,cut T 0⟩=none:=by
  have hc:=h.cut 0
  have hcl:=cut_len T 0
  have hb:base (cut T 0) = -1:=by
   rcases base_cases (cut T 0) with⟨h1,_⟩|⟨k,hk,_,h2,_⟩
   ·exact h1
   ·rcases hc.all k hk with a|⟨_,_,b⟩<;>omega
  unfold nm nx
  rw[if_neg (not_not_intro (hc.okS (by omega) (by show(0:Int)≤0∧(0:Int)≤l;omega) (by show(-1:Int)≤0∧(0:Int)≤l;omega) (by rw[hcl,hlen];exact hn) fun t h0 ht=>by omega)),if_neg (by show ¬ (0:Int)<0;omega),hb,if_neg (by omega),if_pos rfl]
 refine Goes.run ?_ (hdn.run (Runs.stop hstop):Runs _ _ (bD d T l++[]) _) |> fun h=>by rw[List.append_nil] at h;exact h
 by_cases c:(l:Int) % d=0
 ·rw[if_pos c]
  obtain⟨j,hj,ej⟩:=h.has (l:Int) (by omega) ⟨by omega,c⟩
  have hs:slot T l=j:=by rw[← ej];exact slot_one h hj (by omega)
  have hbase:base T=j:=base_one h hj (by omega) (by rw[ej];exact hPl)
  have s2:=step_free (m:=⟨l,l,l,l,T⟩) (n:=j) hj (by show T.length≤1048576;omega) (by show(0:Int)≤T.getD j 0;omega)
  have x2:nm l true ⟨l,l,l,l,T⟩=some (4,(j:Int)):=by
   unfold nm nx
   rw[if_neg (not_not_intro (hok _ _ (by show(0:Int)≤(l:Int)∧(l:Int)≤l;omega) (by show(-1:Int)≤(l:Int)∧(l:Int)≤l;omega))),if_neg (by show ¬ (l:Int)<0;omega),hbase,Int.toNat_natCast,if_pos (by simp only[ej];omega)]
  rw[hs]
  refine⟨x2,by rw[s2],?_⟩
  rw[s2]
  show(⟨(l:Int),l,l,l,cut T l⟩:St)=⟨l,l,l,l,T.set j (-1)⟩
  refine st_tags ?_
  refine list_ext (by rw[List.length_set,cut_len]) fun k hk=>?_
  rw[cut_len] at hk
  rw[getD_set _ _ _ _ hj,cut_get _ _ hk]
  by_cases e:k=j
  ·rw[if_pos e,if_pos (by rw[e];omega)]
  ·rw[if_neg e,if_neg]
   intro hle
   have h3:T.getD k 0=l:=by
    rcases h.all k hk with a|⟨a,b,_⟩<;>omega
   exact e (h.one k j hk hj (by omega) (by omega))
 ·rw[if_neg c]
  show(⟨(l:Int),l,l,l,cut T l⟩:St)=⟨l,l,l,l,T⟩
  refine st_tags ?_
  refine list_ext (by rw[cut_len]) fun k hk=>?_
  rw[cut_len] at hk
  rw[cut_get _ _ hk,if_neg]
  intro hle
  rcases h.all k hk with a|⟨a,b,b2⟩
  ·omega
  ·have h3:T.getD k 0=l:=by omega
   rw[h3] at b2;exact c b2
def lA (n l:Nat):List Mc.Act:=aA n l++bL (sd l n) (aT n l) l
theorem does_all {n l:Nat}(hl:l<65536)(hn:1≤n∧n≤1048576):Does (Mc.new l n) (lA n l) ⟨l,0,0,tot l (sd l n),cut (aT n l) 0⟩:=
 (does_ahead (L:=(l:Int)) (by omega) hn l (by omega)).trans (back_runs hl hn).does
end Sd
end Go.Proofs.YtphppbonljdibaaGreat
namespace Go.Proofs.YtphppbonljdibaaGreat
namespace Sd
open Mc (St Act Goes Runs Does)
theorem frA_le (d:Int)(tags:List Int)(t:Nat):(frA d tags t).length≤t:=by
 induction t with
 | zero=>simp[frA]
 | succ t ih=>rw[frA_succ,List.length_append];split<;>simp<;>omega
theorem gA_le (tags:List Int)(k:Nat):(gA tags k).length≤k+1:=by
 unfold gA
 have:=frA_le (sd k tags.length) tags k
 rw[List.length_append]
 split<;>simp<;>omega
theorem rA_le (n k:Nat):(rA n k).length≤k+2:=by
 cases k with
 | zero=>have:=gA_le (List.replicate n (-1)) 0;show(gA (List.replicate n (-1)) 0).length≤0+2;omega
 | succ k=>have:=gA_le (aT n k) (k+1);show((1,1)::gA (aT n k) (k+1)).length≤_;simp only[List.length_cons];omega
def aB (n:Nat):Nat→List Mc.Act
 | 0=>[]
 | k+1=>aB n k++rA n k
theorem aB_aA (n k:Nat):aB n (k+1)=aA n k:=by
 induction k with
 | zero=>simp[aB,aA]
 | succ k ih=>
   show aB n (k+1)++rA n (k+1)=aA n k++rA n (k+1)
   rw[ih]
theorem aB_le (n:Nat){L:Nat}:∀ k,k≤L+1→(aB n k).length≤k * (L+2):=by
 intro k
 induction k with
 | zero=>intro _;simp[aB]
 | succ k ih=>
   intro h
   have h1:=ih (by omega)
   have h2:=rA_le n k
   show(aB n k++rA n k).length≤_
   rw[List.length_append,Nat.add_mul]
   omega
theorem aB_b (n:Nat){k:Nat}(hk:k≤65536):(aB n k).length≤4296000000:=by
 have h:=aB_le n (L:=65535) k (by omega)
 have:k * (65535+2)≤65536 * (65535+2):=Nat.mul_le_mul_right _ hk
 omega
theorem bR_le (d:Int)(T:List Int)(i:Nat):(bR d T i).length≤4:=by
 unfold bR
 simp only[List.length_cons,List.length_append]
 split<;>split<;>simp
theorem bD_le (d:Int)(T:List Int)(l:Nat):(bD d T l).length≤4 * l:=by
 induction l with
 | zero=>simp[bD]
 | succ l ih=>
   have:=bR_le d T l
   show(bR d T l++bD d T l).length≤_
   rw[List.length_append]
   omega
theorem bL_le (d:Int)(T:List Int)(l:Nat):(bL d T l).length≤4 * l+2:=by
 have:=bD_le d T l
 unfold bL
 simp only[List.length_cons,List.length_append]
 split<;>simp<;>omega
theorem mZ_inv {L:Int}{n k:Nat}(hL0:0≤L)(hL:L<65536)(hk:(k:Int)≤L+1)(hn:1≤n∧n≤1048576):Mc.Inv (mZ L n k):=by
 cases k with
 | zero=>exact Mc.new_inv L n hL0 hL hn.2
 | succ k=>exact(does_ahead hL hn k (by omega)).inv (Mc.new_inv L n hL0 hL hn.2)
theorem mZ_tot (L:Int)(n k:Nat):(mZ L n k).tot≤k:=by
 cases k with
 | zero=>exact Int.le_refl _
 | succ k=>show(k:Int)≤_;omega
end Sd
end Go.Proofs.YtphppbonljdibaaGreat
namespace Go.Proofs.YtphppbonljdibaaGreat
namespace Sd
open Mc (St Act)
def cnk (c:Int):List Mc.Act→Int
 | []=>0
 | a::l=>(if a.1=c then 1 else 0)+cnk c l
theorem cnk_app (c:Int)(l l':List Mc.Act):cnk c (l++l')=cnk c l+cnk c l':=by
 induction l with
 | nil=>simp[cnk]
 | cons a l ih=>simp only[List.cons_append,cnk,ih];omega
theorem cnt_set (tags:List Int)(k:Nat)(x:Int)(hk:k<tags.length):(Mc.cnt (tags.set k x):Int)+(if 0≤tags.getD k 0 then 1 else 0)=Mc.cnt tags+(if 0≤x then 1 else 0):=by
 induction tags generalizing k with
 | nil=>simp at hk
 | cons y l ih=>
   cases k with
   | zero=>simp only[List.set_cons_zero,Mc.cnt,List.getD_cons_zero];split<;>split<;>omega
   | succ k=>
     have:=ih k (by simpa using hk)
     simp only[List.set_cons_succ,Mc.cnt,List.getD_cons_succ]
     split<;>omega
theorem sum_half (d l:Nat)(hd:0<d):2 * Mc.sum (fun i=>(i:Int) % (d:Int)) l≤(l:Int) * ((d:Int) - 1):=by
 rw[sum_mod d hd l]
 have e0:(l:Int)=(d:Int) * ((l / d:Nat):Int)+((l % d:Nat):Int):=by
  have:=Nat.div_add_mod l d
  have h2:((d * (l / d)+l % d:Nat):Int)=(l:Int):=by rw[this]
  rw[← h2];simp
 have hr:((l % d:Nat):Int)≤(d:Int):=by have:=Nat.mod_lt l hd;omega
 have t2:∀ x:Int,2 * tri x=x * (x - 1):=fun x=>by
  unfold tri
  have:x * (x - 1) % 2=0:=by
   rcases Int.emod_two_eq x with h|h
   ·rw[Int.mul_emod,h];simp
   ·rw[Int.mul_emod,show(x - 1) % 2=0 by omega];simp
  omega
 generalize hq:((l / d:Nat):Int)=q at *
 generalize hrr:((l % d:Nat):Int)=r at *
 have hr0:0≤r:=by rw[← hrr];omega
 have a1:2 * (q * tri (d:Int))=q * ((d:Int) * ((d:Int) - 1)):=by rw[← t2];rw[Int.mul_left_comm]
 have a2:r * (r - 1)≤r * ((d:Int) - 1):=Int.mul_le_mul_of_nonneg_left (by omega) hr0
 rw[e0,Int.add_mul,Int.mul_add,a1,t2]
 have a3:q * ((d:Int) * ((d:Int) - 1))=(d:Int) * q * ((d:Int) - 1):=by rw[← Int.mul_assoc,Int.mul_comm q]
 omega
theorem sd_one {n l:Int}(hl:0≤l)(hl2:l<65536)(hn:1≤n)(h:l<n):sd l n=1:=by
 have e:(0:Nat)=jx l n:=Is.eq ⟨by rw[show p2 0=1 from by decide];omega,fun i hi=>absurd hi (by omega)⟩ (jx_is hl2 hn)
 unfold sd
 rw[← e]
 decide
theorem tot_bound {n l:Nat}(hl:l<65536)(hn:1≤n):(n:Int) * (tot l (sd l n) - l)≤(l:Int) * l:=by
 have hd:=sd_pos (l:Int) (n:Int)
 have e:tot l (sd l n) - l=Mc.sum (fun i=>(i:Int) % sd l n) l:=by unfold tot;omega
 rw[e]
 by_cases h1:jx l n=0
 ·have e1:sd l n=1:=by unfold sd;rw[h1];decide
  rw[e1]
  have:Mc.sum (fun(i:Nat)=>(i:Int) % 1) l=0:=by
   rw[show(fun(i:Nat)=>(i:Int) % 1)=fun _=>0 by funext i;omega,Mc.sum_zero]
  rw[this,Int.mul_zero]
  exact Int.mul_nonneg (by omega) (by omega)
 ·have h2:=(jx_is (k:=(l:Int)) (s:=(n:Int)) (by omega) (by omega)).2 (jx l n - 1) (by omega)
  have h3:=p2_succ (jx l n - 1)
  rw[show jx l n - 1+1=jx l n by omega] at h3
  have h4:sd l n=p2 (jx l n - 1) * 2:=h3
  obtain⟨D,hD⟩:∃ D:Nat,sd l n=D:=⟨(sd l n).toNat,by omega⟩
  have h5:=sum_half D l (by omega)
  rw[hD] at h4 ⊢
  generalize Mc.sum (fun i=>(i:Int) % (D:Int)) l=S at *
  generalize p2 (jx l n - 1)=P at *
  have h6:(n:Int) * (2 * S)≤(n:Int) * ((l:Int) * ((D:Int) - 1)):=Int.mul_le_mul_of_nonneg_left h5 (by omega)
  have h7:(n:Int) * ((l:Int) * ((D:Int) - 1))=(l:Int) * ((n:Int) * ((D:Int) - 1)):=Int.mul_left_comm _ _ _
  have h8:(n:Int) * ((D:Int) - 1)≤2 * l:=by
   rw[Int.mul_sub,h4,← Int.mul_assoc]
   omega
  have h9:(l:Int) * ((n:Int) * ((D:Int) - 1))≤(l:Int) * (2 * l):=Int.mul_le_mul_of_nonneg_left h8 (by omega)
  have e1:(n:Int) * (2 * S)=2 * ((n:Int) * S):=Int.mul_left_comm _ _ _
  have e2:(l:Int) * (2 * l)=2 * ((l:Int) * l):=Int.mul_left_comm _ _ _
  omega
end Sd
end Go.Proofs.YtphppbonljdibaaGreat
namespace Go.Proofs.YtphppbonljdibaaGreat
namespace Sd
open Mc (St Act)
def tmx (tags:List Int):Nat→Int
 | 0=>-1
 | i+1=>max (tmx tags i) (tags.getD i 0)
theorem tmx_ge (tags:List Int)(n:Nat):-1≤tmx tags n∧∀ i,i<n→tags.getD i 0≤tmx tags n:=by
 induction n with
 | zero=>exact⟨Int.le_refl _,fun i h=>absurd h (by omega)⟩
 | succ n ih=>
   refine⟨by simp only[tmx];omega,fun i hi=>?_⟩
   rcases(show i<n∨i=n by omega) with h|rfl
   ·have:=ih.2 i h;simp only[tmx];omega
   ·simp only[tmx];omega
theorem tmx_le (tags:List Int)(x:Int)(hx:-1≤x)(n:Nat)(h:∀ i,i<n→tags.getD i 0≤x):tmx tags n≤x:=by
 induction n with
 | zero=>exact hx
 | succ n ih=>have:=ih fun i hi=>h i (by omega);have:=h n (by omega);simp only[tmx];omega
theorem tmx_base (tags:List Int):(base tags = -1∧tmx tags tags.length = -1)∨∃ j:Nat,j<tags.length∧base tags=j∧0≤tags.getD j 0∧tmx tags tags.length=tags.getD j 0∧slot tags (tags.getD j 0)=j:=by
 rcases base_cases tags with⟨h1,h2⟩|⟨j,hj,h1,h2,h3,h4⟩
 ·refine .inl ⟨h1,?_⟩
  have a:=(tmx_ge tags tags.length).1
  have b:=tmx_le tags (-1) (by omega) tags.length fun i hi=>by have:=h2 i hi;omega
  omega
 ·refine .inr ⟨j,hj,h1,h2,?_,slot_is hj rfl fun i hi e=>by have:=h4 i hi;omega⟩
  have a:=(tmx_ge tags tags.length).2 j hj
  have b:=tmx_le tags (tags.getD j 0) (by omega) tags.length h3
  omega
def nxA (k:Int)(ended:Bool)(a:Int)(tags:List Int):Option Mc.Act:=
 if a<k then some (1,k - a)
 else if 0≤off (sd k tags.length) tags then some (4,off (sd k tags.length) tags)
 else if k % sd k tags.length=0∧slot tags k<0∧0≤slot tags (-1) then some (2,slot tags (-1))
 else if ended=true then some (5,0) else none
def nxB (a p:Int)(tags:List Int):Option Mc.Act:=
 if 0≤base tags∧p≤tags.getD (base tags).toNat 0 then some (4,base tags)
 else if p=0 then none
 else if a=p - 1 then some (7,0)
 else if 0≤base tags∧(a<tags.getD (base tags).toNat 0∨p≤a) then some (3,base tags)
 else if a<p then some (1,p - 1 - a)
 else none
open Classical in
theorem nx_eq (k:Int)(ended:Bool)(a p:Int)(tags:List Int):nx k ended a p tags=if ¬ okS k a p tags then none else if p<0 then nxA k ended a tags else nxB a p tags:=rfl
end Sd
end Go.Proofs.YtphppbonljdibaaGreat
