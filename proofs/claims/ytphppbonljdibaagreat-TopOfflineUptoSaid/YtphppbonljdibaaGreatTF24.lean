import Derived.Test.YtphppbonljdibaaGreatTF19
set_option maxRecDepth 100000
set_option maxHeartbeats 4000000
set_option linter.unusedVariables false
set_option linter.unusedSimpArgs false
namespace Go.Proofs.YtphppbonljdibaaGreat
namespace Mc
def up (m:St)(l:List Act):Nat→St
 | 0=>m
 | k+1=>(step (up m l k) (l.getD k (0,0)).1 (l.getD k (0,0)).2).1
def er (m:St)(l:List Act)(k:Nat):Int:=(step (up m l k) (l.getD k (0,0)).1 (l.getD k (0,0)).2).2
theorem up_succ (m:St)(l:List Act)(k:Nat):up m l (k+1)=(step (up m l k) (l.getD k (0,0)).1 (l.getD k (0,0)).2).1:=rfl
theorem up_inv {m:St}(h:Inv m)(l:List Act)(k:Nat):Inv (up m l k):=by
 induction k with
 | zero=>exact h
 | succ k ih=>exact ih.step _ _
theorem up_len (m:St)(l:List Act)(k:Nat):(up m l k).tags.length=m.tags.length:=by
 induction k with
 | zero=>rfl
 | succ k ih=>rw[up_succ,step_len,ih]
theorem up_l (m:St)(l:List Act)(k:Nat):(up m l k).l=m.l:=by
 induction k with
 | zero=>rfl
 | succ k ih=>rw[up_succ,step_l,ih]
theorem up_tot (m:St)(l:List Act)(k:Nat):m.tot≤(up m l k).tot∧(up m l k).tot≤m.tot+65535 * k:=by
 induction k with
 | zero=>simp only[up];omega
 | succ k ih=>
   have:=step_tot (up m l k) (l.getD k (0,0)).1 (l.getD k (0,0)).2
   rw[up_succ]
   omega
def okTo (m:St)(l:List Act)(k:Nat):Prop:=∀ j,j<k→er m l j=0
theorem right_of_er {m:St}{l:List Act}{k:Nat}(h:er m l k=0):right (l.getD k (0,0)).1 (l.getD k (0,0)).2=true∧1≤(l.getD k (0,0)).1∧(l.getD k (0,0)).1≤7:=by
 unfold er step at h
 by_cases h1:right (l.getD k (0,0)).1 (l.getD k (0,0)).2=false∨7<(l.getD k (0,0)).1
 ·rw[if_pos h1] at h;simp at h
 ·have hr:right (l.getD k (0,0)).1 (l.getD k (0,0)).2=true:=by
   cases e:right (l.getD k (0,0)).1 (l.getD k (0,0)).2
   ·exact absurd (Or.inl e) h1
   ·rfl
  have:=right_lo hr
  exact⟨hr,by omega,by omega⟩
theorem step_adv {m:St}{k n:Int}(h:(step m k n).2=0):(k=1→(step m k n).1.at_=m.at_+n∧(step m k n).1.tot=m.tot+n∧1≤n∧m.at_+n≤m.l)∧(k≠1→(step m k n).1.tot=m.tot):=by
 revert h
 unfold step
 by_cases h1:right k n=false∨7<k
 ·rw[if_pos h1];intro h;simp at h
 rw[if_neg h1]
 have hr:right k n=true:=by
  cases e:right k n
  ·exact absurd (Or.inl e) h1
  ·rfl
 split
 ·intro h;simp at h
 split
 ·rename_i e1
  have:=right_one hr e1
  split
  ·intro h;simp at h
  ·intro _
   exact⟨fun _=>⟨rfl,rfl,this.1,by omega⟩,fun h=>absurd e1 h⟩
 ·rename_i e1
  intro _
  refine⟨fun h=>absurd h e1,fun _=>?_⟩
  unfold begin_ reverse
  repeat' (first|split|rfl)
def cnt:List Int→Nat
 | []=>0
 | x::l=>(if 0≤x then 1 else 0)+cnt l
theorem cnt_app (l:List Int)(x:Int):cnt (l++[x])=cnt l+(if 0≤x then 1 else 0):=by
 induction l with
 | nil=>simp[cnt]
 | cons y l ih=>simp only[List.cons_append,cnt,ih];omega
theorem cnt_le (l:List Int):cnt l≤l.length:=by
 induction l with
 | nil=>simp[cnt]
 | cons y l ih=>simp only[cnt,List.length_cons];split<;>omega
theorem cnt_take (l:List Int){k:Nat}(h:k<l.length):cnt (l.take (k+1))=cnt (l.take k)+(if 0≤l.getD k 0 then 1 else 0):=by
 rw[List.take_succ_eq_append_getElem h,cnt_app]
 simp[List.getD_eq_getElem?_getD,List.getElem?_eq_getElem h]
theorem cnt_new (n:Nat):cnt (List.replicate n (-1))=0:=by
 induction n with
 | zero=>rfl
 | succ n ih=>rw[List.replicate_succ,cnt,ih];rfl
def hl (m:St)(l:List Act)(k:Nat):Nat:=cnt (up m l k).tags
def peak (m:St)(l:List Act):Nat→Nat
 | 0=>0
 | k+1=>max (peak m l k) (max (hl m l k) (hl m l (k+1)))
theorem hl_le (m:St)(l:List Act)(k:Nat):hl m l k≤m.tags.length:=by
 have:=cnt_le (up m l k).tags
 rw[up_len] at this
 exact this
theorem peak_le (m:St)(l:List Act)(k:Nat):peak m l k≤m.tags.length:=by
 induction k with
 | zero=>simp[peak]
 | succ k ih=>
   have:=hl_le m l k
   have:=hl_le m l (k+1)
   rw[peak]
   omega
def one (m:St)(l:List Act)(i:Int)(k:Nat):Int:=if (l.getD k (0,0)).1=1∧(up m l k).at_≤i∧i<(up m l (k+1)).at_ then 1 else 0
def sp (m:St)(l:List Act)(i:Int):Nat→Int
 | 0=>0
 | k+1=>sp m l i k+one m l i k
theorem one_b (m:St)(l:List Act)(i:Int)(k:Nat):0≤one m l i k∧one m l i k≤1:=by unfold one;split<;>omega
theorem sp_b (m:St)(l:List Act)(i:Int)(k:Nat):0≤sp m l i k∧sp m l i k≤k:=by
 induction k with
 | zero=>simp[sp]
 | succ k ih=>have:=one_b m l i k;rw[sp];omega
def kd (l:List Act)(c:Int):Nat→Int
 | 0=>0
 | k+1=>kd l c k+if (l.getD k (0,0)).1=c then 1 else 0
theorem kd_b (l:List Act)(c:Int)(k:Nat):0≤kd l c k∧kd l c k≤k:=by
 induction k with
 | zero=>simp[kd]
 | succ k ih=>rw[kd];split<;>omega
def sum (f:Nat→Int):Nat→Int
 | 0=>0
 | n+1=>sum f n+f n
def top (f:Nat→Int):Nat→Int
 | 0=>0
 | n+1=>max (top f n) (f n)
theorem sum_add (f g:Nat→Int)(n:Nat):sum (fun i=>f i+g i) n=sum f n+sum g n:=by
 induction n with
 | zero=>rfl
 | succ n ih=>simp only[sum,ih];omega
theorem sum_zero (n:Nat):sum (fun _=>0) n=0:=by
 induction n with
 | zero=>rfl
 | succ n ih=>simp only[sum,ih];omega
theorem sum_cong {f g:Nat→Int}(n:Nat)(h:∀ i,i<n→f i=g i):sum f n=sum g n:=by
 induction n with
 | zero=>rfl
 | succ n ih=>simp only[sum];rw[ih fun i hi=>h i (by omega),h n (by omega)]
theorem sum_ind (a b:Int)(n:Nat)(h0:0≤a)(h1:a≤b):sum (fun i=>if a≤(i:Int)∧(i:Int)<b then 1 else 0) n=min b n - min a n:=by
 induction n with
 | zero=>simp only[sum];omega
 | succ n ih=>
   simp only[sum]
   rw[ih]
   split<;>omega
theorem sum_le (f:Nat→Int)(n:Nat)(b:Int)(h:∀ i,i<n→f i≤b):sum f n≤n * b:=by
 induction n with
 | zero=>simp[sum]
 | succ n ih=>
   have h1:=ih fun i hi=>h i (by omega)
   have h2:=h n (by omega)
   have e:((n+1:Nat):Int) * b=n * b+b:=by rw[Int.natCast_add,Int.add_mul];simp
   rw[e]
   simp only[sum]
   omega
end Mc
end Go.Proofs.YtphppbonljdibaaGreat
namespace Go.Proofs.YtphppbonljdibaaGreat
namespace Sd
def p2 (j:Nat):Int:=((2 ^ j:Nat):Int)
def Is (k s:Int)(j:Nat):Prop:=k<s * p2 j∧∀ i,i<j→s * p2 i≤k
def ex (k s:Int):Nat→Nat→Nat
 | 0,j=>j
 | f+1,j=>if k<s * p2 j then j else ex k s f (j+1)
theorem ex_is (k s:Int)(hs:1≤s):∀ f j,(∀ i,i<j→s * p2 i≤k)→k<s * p2 (j+f)→Is k s (ex k s f j):=by
 intro f
 induction f with
 | zero=>intro j h1 h2;exact⟨h2,h1⟩
 | succ f ih=>
   intro j h1 h2
   unfold ex
   by_cases c:k<s * p2 j
   ·rw[if_pos c];exact⟨c,h1⟩
   ·rw[if_neg c]
    refine ih (j+1) (fun i hi=>?_) (by rw[show j+1+f=j+(f+1) by omega];exact h2)
    rcases(show i<j∨i=j by omega) with h|rfl
    ·exact h1 i h
    ·omega
def jx (k s:Int):Nat:=ex k s 16 0
def sd (k s:Int):Int:=p2 (jx k s)
theorem jx_is {k s:Int}(hk:k<65536)(hs:1≤s):Is k s (jx k s):=by
 refine ex_is k s hs 16 0 (fun i hi=>absurd hi (by omega)) ?_
 rw[show p2 (0+16)=65536 from by decide]
 omega
theorem Is.le {k s:Int}{j:Nat}(h:Is k s j)(hk:k<65536)(hs:1≤s):j≤16:=by
 apply Classical.byContradiction
 intro c
 have:=h.2 16 (by omega)
 rw[show p2 16=65536 from by decide] at this
 omega
def tot (l:Nat)(d:Int):Int:=l+Mc.sum (fun i=>(i:Int) % d) l
def tri (x:Int):Int:=x * (x - 1) / 2
theorem tri_succ (x:Int):tri (x+1)=tri x+x:=by
 unfold tri
 have e:(x+1) * (x+1 - 1)=x * (x - 1)+2 * x:=by
  rw[show x+1 - 1=x by omega,Int.add_mul,Int.mul_sub]
  simp only[Int.mul_one,Int.one_mul]
  omega
 rw[e]
 omega
end Sd
end Go.Proofs.YtphppbonljdibaaGreat
namespace Go.Proofs.YtphppbonljdibaaGreat
namespace Sd
end Sd
end Go.Proofs.YtphppbonljdibaaGreat
namespace Go.Proofs.YtphppbonljdibaaGreat
namespace Sd
open Mc (St Act step)
def slot:List Int→Int→Int
 | [],_=>-1
 | x::l,t=>if x=t then 0 else if slot l t<0 then -1 else slot l t+1
theorem slot_cases (tags:List Int)(t:Int):(slot tags t = -1∧∀ j,j<tags.length→tags.getD j 0≠t)∨∃ k:Nat,k<tags.length∧slot tags t=k∧tags.getD k 0=t∧∀ j,j<k→tags.getD j 0≠t:=by
 induction tags with
 | nil=>exact .inl ⟨rfl,fun j h=>absurd h (by simp)⟩
 | cons x l ih=>
   unfold slot
   by_cases e:x=t
   ·rw[if_pos e]
    exact .inr ⟨0,by simp,rfl,by simpa using e,fun j h=>absurd h (by omega)⟩
   ·rw[if_neg e]
    rcases ih with⟨h1,h2⟩|⟨k,hk,h1,h2,h3⟩
    ·rw[if_pos (by omega)]
     refine .inl ⟨rfl,fun j hj=>?_⟩
     match j with
     | 0=>simpa using e
     | j+1=>simpa using h2 j (by simpa using hj)
    ·rw[if_neg (by omega)]
     refine .inr ⟨k+1,by simpa using hk,by omega,by simpa using h2,fun j hj=>?_⟩
     match j with
     | 0=>simpa using e
     | j+1=>simpa using h3 j (by omega)
theorem slot_is {tags:List Int}{t:Int}{k:Nat}(hk:k<tags.length)(h:tags.getD k 0=t)(h2:∀ j,j<k→tags.getD j 0≠t):slot tags t=k:=by
 rcases slot_cases tags t with⟨_,h3⟩|⟨i,hi,h3,h4,h5⟩
 ·exact absurd h (h3 k hk)
 ·rcases Nat.lt_trichotomy i k with c|c|c
  ·exact absurd h4 (h2 i c)
  ·rw[h3,c]
  ·exact absurd h (h5 k c)
theorem slot_none {tags:List Int}{t:Int}(h:∀ j,j<tags.length→tags.getD j 0≠t):slot tags t = -1:=by
 rcases slot_cases tags t with⟨h3,_⟩|⟨i,hi,h3,h4,h5⟩
 ·exact h3
 ·exact absurd h4 (h i hi)
theorem slot_lo (tags:List Int)(t:Int):-1≤slot tags t∧slot tags t<tags.length:=by
 rcases slot_cases tags t with⟨h3,_⟩|⟨i,hi,h3,h4,h5⟩<;>omega
theorem slot_nn {tags:List Int}{t:Int}(h:0≤slot tags t):(slot tags t).toNat<tags.length∧tags.getD (slot tags t).toNat 0=t:=by
 rcases slot_cases tags t with⟨h3,_⟩|⟨i,hi,h3,h4,h5⟩
 ·omega
 ·rw[h3];exact⟨by simpa using hi,by simpa using h4⟩
def bst (is:Int→Bool)(lt:Int→Int→Bool)(tags:List Int):Nat→Int
 | 0=>-1
 | i+1=>if is (tags.getD i 0)&&(decide (bst is lt tags i<0) || lt (tags.getD i 0) (tags.getD (bst is lt tags i).toNat 0)) then i else bst is lt tags i
theorem bst_cases (is:Int→Bool)(f:Int→Int)(tags:List Int)(n:Nat):
 (bst is (fun a b=>decide (f a<f b)) tags n = -1∧∀ j,j<n→is (tags.getD j 0)=false) ∨
 ∃ k:Nat,k<n∧bst is (fun a b=>decide (f a<f b)) tags n=k∧is (tags.getD k 0)=true∧(∀ j,j<n→is (tags.getD j 0)=true→f (tags.getD k 0)≤f (tags.getD j 0))∧∀ j,j<k→is (tags.getD j 0)=true→f (tags.getD k 0)<f (tags.getD j 0):=by
 induction n with
 | zero=>exact .inl ⟨rfl,fun j h=>absurd h (by omega)⟩
 | succ n ih=>
   unfold bst
   by_cases e:is (tags.getD n 0)=true
   ·rcases ih with⟨h1,h2⟩|⟨k,hk,h1,h2,h3,h4⟩
    ·rw[if_pos (by rw[h1,e];rfl)]
     refine .inr ⟨n,by omega,rfl,e,fun j hj h=>?_,fun j hj h=>?_⟩
     ·rcases(show j<n∨j=n by omega) with c|rfl
      ·rw[h2 j c] at h;cases h
      ·exact Int.le_refl _
     ·rw[h2 j hj] at h;cases h
    ·by_cases c:f (tags.getD n 0)<f (tags.getD k 0)
     ·rw[if_pos (by rw[h1,e,Int.toNat_natCast,decide_eq_true c];simp)]
      refine .inr ⟨n,by omega,rfl,e,fun j hj h=>?_,fun j hj h=>?_⟩
      ·rcases(show j<n∨j=n by omega) with c|rfl
       ·have:=h3 j c h;omega
       ·exact Int.le_refl _
      ·have:=h3 j hj h;omega
     ·rw[if_neg (by rw[h1,e,Int.toNat_natCast,decide_eq_false c];simp)]
      refine .inr ⟨k,by omega,h1,h2,fun j hj h=>?_,h4⟩
      rcases(show j<n∨j=n by omega) with c'|rfl
      ·exact h3 j c' h
      ·omega
   ·have e':is (tags.getD n 0)=false:=by cases h:is (tags.getD n 0)<;>simp_all
    rw[if_neg (by rw[e'];simp)]
    rcases ih with⟨h1,h2⟩|⟨k,hk,h1,h2,h3,h4⟩
    ·refine .inl ⟨h1,fun j hj=>?_⟩
     rcases(show j<n∨j=n by omega) with c|rfl
     ·exact h2 j c
     ·exact e'
    ·refine .inr ⟨k,by omega,h1,h2,fun j hj h=>?_,h4⟩
     rcases(show j<n∨j=n by omega) with c|rfl
     ·exact h3 j c h
     ·rw[e'] at h;cases h
def less (a b:Int):Bool:=decide (a<b)
def greater (a b:Int):Bool:=decide (b<a)
theorem greater_eq:greater=fun a b=>decide (-a < -b):=by
 funext a b
 unfold greater
 rw[decide_eq_decide]
 omega
def bad (d t:Int):Bool:=decide (0≤t)&&decide (t % d≠0)
def holds (t:Int):Bool:=decide (0≤t)
def off (d:Int)(tags:List Int):Int:=bst (bad d) less tags tags.length
def base (tags:List Int):Int:=bst holds greater tags tags.length
theorem base_cases (tags:List Int):(base tags = -1∧∀ j,j<tags.length→tags.getD j 0<0)∨∃ k:Nat,k<tags.length∧base tags=k∧0≤tags.getD k 0∧(∀ j,j<tags.length→tags.getD j 0≤tags.getD k 0)∧∀ j,j<k→tags.getD j 0<tags.getD k 0:=by
 unfold base
 rw[greater_eq]
 rcases bst_cases holds (fun a=>-a) tags tags.length with⟨h1,h2⟩|⟨k,hk,h1,h2,h3,h4⟩
 ·exact .inl ⟨h1,fun j hj=>by have:=h2 j hj;simpa [holds] using this⟩
 ·have h2':0≤tags.getD k 0:=by simpa [holds] using h2
  refine .inr ⟨k,hk,h1,h2',fun j hj=>?_,fun j hj=>?_⟩
  ·by_cases c:0≤tags.getD j 0
   ·have:=h3 j hj (by simpa [holds] using c);omega
   ·omega
  ·by_cases c:0≤tags.getD j 0
   ·have:=h4 j hj (by simpa [holds] using c);omega
   ·omega
def okS (k a p:Int)(tags:List Int):Prop:=(0≤k∧k<65536)∧(0≤a∧a≤k)∧(-1≤p∧p≤k)∧(1≤tags.length∧tags.length≤1048576)∧∀ i,i<tags.length→-1≤tags.getD i 0∧tags.getD i 0≤k
open Classical in
noncomputable def nx (k:Int)(ended:Bool)(a p:Int)(tags:List Int):Option Mc.Act:=
 if ¬ okS k a p tags then none
 else if p<0 then
  if a<k then some (1,k - a)
  else if 0≤off (sd k tags.length) tags then some (4,off (sd k tags.length) tags)
  else if k % sd k tags.length=0∧slot tags k<0∧0≤slot tags (-1) then some (2,slot tags (-1))
  else if ended=true then some (5,0) else none
 else if 0≤base tags∧p≤tags.getD (base tags).toNat 0 then some (4,base tags)
 else if p=0 then none
 else if a=p - 1 then some (7,0)
 else if 0≤base tags∧(a<tags.getD (base tags).toNat 0∨p≤a) then some (3,base tags)
 else if a<p then some (1,p - 1 - a)
 else none
end Sd
namespace Mc
def Runs (nx:St→Option Mc.Act):St→List Mc.Act→St→Prop
 | m,[],m'=>m'=m∧(nx m=none∨∃ a,nx m=some a∧(step m a.1 a.2).2≠0)
 | m,a::l,m'=>nx m=some a∧(step m a.1 a.2).2=0∧Runs nx (step m a.1 a.2).1 l m'
def Goes (nx:St→Option Mc.Act):St→List Mc.Act→St→Prop
 | m,[],m'=>m'=m
 | m,a::l,m'=>nx m=some a∧(step m a.1 a.2).2=0∧Goes nx (step m a.1 a.2).1 l m'
theorem Goes.run {nx:St→Option Mc.Act}:∀ {l:List Mc.Act} {m m' m'':St} {l':List Mc.Act},Goes nx m l m'→Runs nx m' l' m''→Runs nx m (l++l') m''
 | [],m,m',m'',l',h,g=>by cases h;exact g
 | a::l,m,m',m'',l',⟨h1,h2,h3⟩,g=>⟨h1,h2,Goes.run h3 g⟩
theorem Goes.trans {nx:St→Option Mc.Act}:∀ {l:List Mc.Act} {m m' m'':St} {l':List Mc.Act},Goes nx m l m'→Goes nx m' l' m''→Goes nx m (l++l') m''
 | [],m,m',m'',l',h,g=>by cases h;exact g
 | a::l,m,m',m'',l',⟨h1,h2,h3⟩,g=>⟨h1,h2,Goes.trans h3 g⟩
theorem Goes.one {nx:St→Option Mc.Act}{m:St}{a:Mc.Act}(h:nx m=some a)(e:(step m a.1 a.2).2=0):Goes nx m [a] (step m a.1 a.2).1:=⟨h,e,rfl⟩
def Does:St→List Mc.Act→St→Prop
 | m,[],m'=>m'=m
 | m,a::l,m'=>(step m a.1 a.2).2=0∧Does (step m a.1 a.2).1 l m'
theorem Runs.does {nx:St→Option Mc.Act}:∀ {l:List Mc.Act} {m m':St},Runs nx m l m'→Does m l m'
 | [],m,m',h=>h.1
 | a::l,m,m',⟨_,h2,h3⟩=>⟨h2,Runs.does h3⟩
theorem Goes.does {nx:St→Option Mc.Act}:∀ {l:List Mc.Act} {m m':St},Goes nx m l m'→Does m l m'
 | [],m,m',h=>h
 | a::l,m,m',⟨_,h2,h3⟩=>⟨h2,Goes.does h3⟩
theorem Does.trans:∀ {l:List Mc.Act} {m m' m'':St} {l':List Mc.Act},Does m l m'→Does m' l' m''→Does m (l++l') m''
 | [],m,m',m'',l',h,g=>by cases h;exact g
 | a::l,m,m',m'',l',⟨h2,h3⟩,g=>⟨h2,Does.trans h3 g⟩
theorem Does.chk:∀ {l:List Mc.Act} {m m':St} (k:Nat),Does m l m'→chk m l k=if m'.pend=0 then (m'.tot,((k+l.length:Nat):Int),0) else (0,((k+l.length:Nat):Int),19)
 | [],m,m',k,h=>by cases h;simp[chk_nil]
 | a::l,m,m',k,⟨h2,h3⟩=>by
   rw[Mc.chk,if_pos h2,Does.chk (k+1) h3]
   rw[show k+1+l.length=k+(a::l).length by simp only[List.length_cons];omega]
theorem Does.len:∀ {l:List Mc.Act} {m m':St},Does m l m'→m'.tags.length=m.tags.length∧m'.l=m.l
 | [],m,m',h=>by cases h;exact⟨rfl,rfl⟩
 | a::l,m,m',⟨h2,h3⟩=>by have:=Does.len h3;rw[step_len,step_l] at this;exact this
theorem Does.inv:∀ {l:List Mc.Act} {m m':St},Does m l m'→Inv m→Inv m'
 | [],m,m',h,i=>by cases h;exact i
 | a::l,m,m',⟨h2,h3⟩,i=>Does.inv h3 (i.step _ _)
theorem Does.split:∀ {l l':List Mc.Act} {m m'':St},Does m (l++l') m''→∃ m',Does m l m'∧Does m' l' m''
 | [],l',m,m'',h=>⟨m,rfl,h⟩
 | a::l,l',m,m'',⟨h2,h3⟩=>by obtain⟨m',h4,h5⟩:=Does.split h3;exact⟨m',⟨h2,h4⟩,h5⟩
theorem Does.up:∀ {l:List Mc.Act} {m m':St},Does m l m'→∀ {pre:List Mc.Act} {m0:St},Mc.up m0 (pre++l) pre.length=m→Mc.up m0 (pre++l) (pre.length+l.length)=m'
 | [],m,m',h,pre,m0,e=>by cases h;simpa using e
 | a::l,m,m',⟨h2,h3⟩,pre,m0,e=>by
   have e1:pre++a::l=(pre++[a])++l:=by simp
   have e2:Mc.up m0 (pre++a::l) (pre.length+1)=(step m a.1 a.2).1:=by
    rw[up_succ,e]
    simp
   have:=Does.up h3 (pre:=pre++[a]) (m0:=m0) (by rw[← e1];simpa using e2)
   rw[← e1] at this
   rw[← this]
   simp only[List.length_append,List.length_cons,List.length_nil]
   congr 1
   omega
end Mc
end Go.Proofs.YtphppbonljdibaaGreat
namespace Go.Proofs.YtphppbonljdibaaGreat
namespace Sd
open Mc (St Act step Goes Runs Does)
structure Held (P:Int→Prop)(tags:List Int):Prop where
 all:∀ j,j<tags.length→tags.getD j 0 = -1∨(0≤tags.getD j 0∧P (tags.getD j 0))
 has:∀ t,0≤t→P t→∃ j,j<tags.length∧tags.getD j 0=t
 one:∀ i j,i<tags.length→j<tags.length→tags.getD i 0=tags.getD j 0→0≤tags.getD i 0→i=j
theorem getD_set (tags:List Int)(k j:Nat)(x:Int)(hk:k<tags.length):(tags.set k x).getD j 0=if j=k then x else tags.getD j 0:=by
 by_cases e:j=k
 ·subst e;simp[hk]
 ·rw[if_neg e];simp[List.getD_eq_getElem?_getD,List.getElem?_set_ne (Ne.symm e)]
theorem Held.cong {P Q:Int→Prop}{tags:List Int}(h:Held P tags)(e:∀ t,0≤t→(P t↔Q t)):Held Q tags:=
 ⟨fun j hj=>(h.all j hj).imp id fun⟨a,b⟩=>⟨a,(e _ a).1 b⟩,fun t h0 q=>h.has t h0 ((e t h0).2 q),h.one⟩
theorem Held.free {P:Int→Prop}{tags:List Int}(h:Held P tags){k:Nat}(hk:k<tags.length)(h0:0≤tags.getD k 0):Held (fun t=>P t∧t≠tags.getD k 0) (tags.set k (-1)):=by
 refine⟨fun j hj=>?_,fun t ht ⟨q,ne⟩=>?_,fun i j hi hj e hn=>?_⟩
 ·rw[List.length_set] at hj
  rw[getD_set _ _ _ _ hk]
  by_cases e:j=k
  ·rw[if_pos e];exact .inl rfl
  ·rw[if_neg e]
   rcases h.all j hj with a|⟨a,b⟩
   ·exact .inl a
   ·exact .inr ⟨a,b,fun e2=>e (h.one j k hj hk e2 a)⟩
 ·obtain⟨j,hj,e⟩:=h.has t ht q
  refine⟨j,by rw[List.length_set];exact hj,?_⟩
  rw[getD_set _ _ _ _ hk,if_neg fun e2=>ne (by rw[← e,e2])]
  exact e
 ·rw[List.length_set] at hi hj
  rw[getD_set _ _ _ _ hk] at hn
  rw[getD_set _ _ _ _ hk,getD_set _ _ _ _ hk] at e
  by_cases c:i=k
  ·rw[if_pos c] at hn;omega
  ·rw[if_neg c] at e hn
   by_cases c2:j=k
   ·rw[if_pos c2] at e;omega
   ·rw[if_neg c2] at e;exact h.one i j hi hj e hn
theorem Held.store {P:Int→Prop}{tags:List Int}(h:Held P tags){k:Nat}(hk:k<tags.length)(h0:tags.getD k 0 = -1){x:Int}(hx:0≤x)(hP:¬ P x):Held (fun t=>P t∨t=x) (tags.set k x):=by
 refine⟨fun j hj=>?_,fun t ht q=>?_,fun i j hi hj e hn=>?_⟩
 ·rw[List.length_set] at hj
  rw[getD_set _ _ _ _ hk]
  by_cases e:j=k
  ·rw[if_pos e];exact .inr ⟨hx,.inr rfl⟩
  ·rw[if_neg e]
   rcases h.all j hj with a|⟨a,b⟩
   ·exact .inl a
   ·exact .inr ⟨a,.inl b⟩
 ·by_cases c:t=x
  ·exact⟨k,by rw[List.length_set];exact hk,by rw[getD_set _ _ _ _ hk,if_pos rfl,c]⟩
  ·obtain⟨j,hj,e⟩:=h.has t ht (q.resolve_right c)
   refine⟨j,by rw[List.length_set];exact hj,?_⟩
   rw[getD_set _ _ _ _ hk,if_neg fun e2=>by rw[e2,h0] at e;omega]
   exact e
 ·rw[List.length_set] at hi hj
  rw[getD_set _ _ _ _ hk] at hn
  rw[getD_set _ _ _ _ hk,getD_set _ _ _ _ hk] at e
  have key:∀ q,q<tags.length→tags.getD q 0=x→False:=fun q hq e=>by
   rcases h.all q hq with a|⟨a,b⟩
   ·omega
   ·exact hP (e ▸ b)
  by_cases c:i=k
  ·by_cases c2:j=k
   ·rw[c,c2]
   ·rw[if_pos c,if_neg c2] at e;exact absurd e.symm (key j hj)
  ·rw[if_neg c] at e hn
   by_cases c2:j=k
   ·rw[if_pos c2] at e;exact absurd e (key i hi)
   ·rw[if_neg c2] at e;exact h.one i j hi hj e hn
theorem Held.new (n:Nat):Held (fun _=>False) (List.replicate n (-1)):=by
 have e:∀ j,j<n→(List.replicate n (-1:Int)).getD j 0 = -1:=fun j hj=>by simp[hj]
 refine⟨fun j hj=>.inl (e j (by simpa using hj)),fun t _ h=>h.elim,fun i j hi hj _ h=>?_⟩
 rw[e i (by simpa using hi)] at h
 omega
theorem cnt_sum (M:Nat):∀ tags:List Int,(∀ x∈tags,x<M)→tags.Pairwise (fun a b=>0≤a→a≠b)→(Mc.cnt tags:Int)=Mc.sum (fun t=>if (t:Int)∈tags then 1 else 0) M:=by
 intro tags
 induction tags with
 | nil=>intro _ _;rw[show(fun(t:Nat)=>if (t:Int)∈([]:List Int) then (1:Int) else 0)=fun _=>0 by funext t;simp,Mc.sum_zero];rfl
 | cons x l ih=>
   intro h1 h2
   rw[List.pairwise_cons] at h2
   have h3:=ih (fun y hy=>h1 y (List.mem_cons_of_mem _ hy)) h2.2
   have hx:=h1 x (by simp)
   unfold Mc.cnt
   by_cases c:0≤x
   ·rw[if_pos c]
    have hn:¬ x∈l:=fun hm=>h2.1 x hm c rfl
    have e:Mc.sum (fun t=>if (t:Int)∈x::l then 1 else 0) M=Mc.sum (fun t=>(if x≤(t:Int)∧(t:Int)<x+1 then 1 else 0)+(if (t:Int)∈l then 1 else 0)) M:=by
     refine Mc.sum_cong _ fun t _=>?_
     by_cases ct:(t:Int)=x
     ·rw[if_pos (by rw[ct];simp),if_pos (by omega),if_neg (by rw[ct];exact hn)];rfl
     ·rw[if_neg (c:=x≤(t:Int)∧(t:Int)<x+1) (by omega)]
      by_cases cl:(t:Int)∈l
      ·rw[if_pos (List.mem_cons_of_mem _ cl),if_pos cl];rfl
      ·rw[if_neg (by simp[cl,ct]),if_neg cl];rfl
    rw[e,Mc.sum_add,Mc.sum_ind _ _ _ c (by omega),← h3]
    omega
   ·rw[if_neg c]
    have e:Mc.sum (fun t=>if (t:Int)∈x::l then 1 else 0) M=Mc.sum (fun t=>if (t:Int)∈l then 1 else 0) M:=by
     refine Mc.sum_cong _ fun t _=>?_
     by_cases cl:(t:Int)∈l
     ·rw[if_pos (List.mem_cons_of_mem _ cl),if_pos cl]
     ·rw[if_neg (by simp[cl];omega),if_neg cl]
    rw[e,← h3]
    omega
theorem Held.cnt {P:Int→Prop}[DecidablePred P]{tags:List Int}(h:Held P tags)(M:Nat)(hM:∀ t,0≤t→P t→t<M):(Mc.cnt tags:Int)=Mc.sum (fun t=>if P (t:Int) then 1 else 0) M:=by
 have hg:∀ j,(hj:j<tags.length)→tags[j]=tags.getD j 0:=fun j hj=>by simp[hj]
 rw[cnt_sum M tags ?_ ?_]
 ·refine Mc.sum_cong _ fun t _=>?_
  by_cases c:P (t:Int)
  ·rw[if_pos c,if_pos]
   obtain⟨j,hj,e⟩:=h.has t (by omega) c
   rw[← e,← hg j hj]
   exact List.getElem_mem hj
  ·rw[if_neg c,if_neg]
   intro hm
   obtain⟨j,hj,e⟩:=List.mem_iff_getElem.1 hm
   rw[hg j hj] at e
   rcases h.all j hj with a|⟨a,b⟩
   ·omega
   ·exact c (e ▸ b)
 ·intro x hx
  obtain⟨j,hj,e⟩:=List.mem_iff_getElem.1 hx
  rw[hg j hj] at e
  rcases h.all j hj with a|⟨a,b⟩
  ·omega
  ·have:=hM _ a b;omega
 ·rw[List.pairwise_iff_getElem]
  intro i j hi hj hij h0 e
  rw[hg i hi] at h0
  rw[hg i hi,hg j hj] at e
  have:=h.one i j hi hj e h0
  omega
def frT (d:Int)(tags:List Int):Nat→List Int
 | 0=>tags
 | t+1=>if (t:Int) % d≠0∧0≤slot (frT d tags t) t then (frT d tags t).set (slot (frT d tags t) t).toNat (-1) else frT d tags t
def frA (d:Int)(tags:List Int):Nat→List Mc.Act
 | 0=>[]
 | t+1=>frA d tags t++if (t:Int) % d≠0∧0≤slot (frT d tags t) t then [(4,slot (frT d tags t) t)] else []
noncomputable def nm (k:Int)(ended:Bool)(m:St):Option Mc.Act:=nx k ended m.at_ m.pend m.tags
theorem step_free {m:St}{n:Nat}(hn:n<m.tags.length)(hl:m.tags.length≤1048576)(h:0≤m.tags.getD n 0):Mc.step m 4 n=({ m with tags:=m.tags.set n (-1) },0):=by
 have hr:Mc.right 4 n=true:=by simp[Mc.right];omega
 unfold Mc.step St.tag
 rw[hr,if_neg (by decide),if_neg (by omega),if_neg (by decide),if_neg (by decide),if_neg (by decide),if_pos rfl,Int.toNat_natCast,if_neg (by omega)]
theorem step_store {m:St}{n:Nat}(hn:n<m.tags.length)(hl:m.tags.length≤1048576)(h:m.tags.getD n 0<0):Mc.step m 2 n=({ m with tags:=m.tags.set n m.at_ },0):=by
 have hr:Mc.right 2 n=true:=by simp[Mc.right];omega
 unfold Mc.step St.tag
 rw[hr,if_neg (by decide),if_neg (by omega),if_neg (by decide),if_pos rfl,Int.toNat_natCast,if_neg (by omega)]
theorem step_restore {m:St}{n:Nat}(hn:n<m.tags.length)(hl:m.tags.length≤1048576)(h:0≤m.tags.getD n 0):Mc.step m 3 n=({ m with at_:=m.tags.getD n 0 },0):=by
 have hr:Mc.right 3 n=true:=by simp[Mc.right];omega
 unfold Mc.step St.tag
 rw[hr,if_neg (by decide),if_neg (by omega),if_neg (by decide),if_neg (by decide),if_pos rfl,Int.toNat_natCast,if_neg (by omega)]
theorem step_adv {m:St}{n:Int}(h1:1≤n)(h2:n<65536)(h:n≤m.l - m.at_):Mc.step m 1 n=({ m with at_:=m.at_+n,tot:=m.tot+n },0):=by
 have hr:Mc.right 1 n=true:=by simp[Mc.right];omega
 unfold Mc.step
 rw[hr,if_neg (by decide),if_neg (by omega),if_pos rfl,if_neg (by omega)]
theorem step_seed {m:St}(h1:m.pend = -1)(h:m.at_=m.l):Mc.step m 5 0=({ m with pend:=m.at_ },0):=by
 have hr:Mc.right 5 0=true:=by decide
 unfold Mc.step Mc.begin_
 rw[hr,if_neg (by decide),if_neg (by omega),if_neg (by decide),if_neg (by decide),if_neg (by decide),if_neg (by decide),if_pos rfl,if_neg (by omega),if_neg (by omega)]
theorem step_both {m:St}(h1:m.pend = -1)(h:m.at_=m.l - 1):Mc.step m 6 0=({ m with pend:=m.at_ },0):=by
 have hr:Mc.right 6 0=true:=by decide
 unfold Mc.step Mc.begin_
 rw[hr,if_neg (by decide),if_neg (by omega),if_neg (by decide),if_neg (by decide),if_neg (by decide),if_neg (by decide),if_neg (by decide),if_pos rfl,if_neg (by omega),if_neg (by omega)]
theorem step_rev {m:St}(h1:1≤m.pend)(h:m.at_=m.pend - 1):Mc.step m 7 0=({ m with pend:=m.at_ },0):=by
 have hr:Mc.right 7 0=true:=by decide
 unfold Mc.step Mc.reverse
 rw[hr,if_neg (by decide),if_neg (by omega),if_neg (by decide),if_neg (by decide),if_neg (by decide),if_neg (by decide),if_neg (by decide),if_neg (by decide),if_neg (by omega),if_neg (by omega)]
theorem Held.okS {P:Int→Prop}{tags:List Int}(h:Held P tags){k a p:Int}(hk:0≤k∧k<65536)(ha:0≤a∧a≤k)(hp:-1≤p∧p≤k)(hn:1≤tags.length∧tags.length≤1048576)(hP:∀ t,0≤t→P t→t≤k):okS k a p tags:=
 ⟨hk,ha,hp,hn,fun i hi=>by
  rcases h.all i hi with e|⟨e,q⟩
  ·omega
  ·have:=hP _ e q;omega⟩
end Sd
end Go.Proofs.YtphppbonljdibaaGreat
namespace Go.Proofs.YtphppbonljdibaaGreat
namespace Sd
open Mc (St Act Goes Runs Does)
def gT (tags:List Int)(k:Nat):List Int:=
 if (k:Int) % sd k tags.length=0 then (frT (sd k tags.length) tags k).set (slot (frT (sd k tags.length) tags k) (-1)).toNat k else frT (sd k tags.length) tags k
def gA (tags:List Int)(k:Nat):List Mc.Act:=
 frA (sd k tags.length) tags k++if (k:Int) % sd k tags.length=0 then [(2,slot (frT (sd k tags.length) tags k) (-1))] else []
def aT (n:Nat):Nat→List Int
 | 0=>gT (List.replicate n (-1)) 0
 | k+1=>gT (aT n k) (k+1)
def rA (n:Nat):Nat→List Mc.Act
 | 0=>gA (List.replicate n (-1)) 0
 | k+1=>(1,1)::gA (aT n k) (k+1)
def aA (n:Nat):Nat→List Mc.Act
 | 0=>rA n 0
 | k+1=>aA n k++rA n (k+1)
end Sd
end Go.Proofs.YtphppbonljdibaaGreat
namespace Go.Proofs.YtphppbonljdibaaGreat
namespace Sd
open Mc (St Act Goes Runs Does)
def bR (d:Int)(T:List Int)(i:Nat):List Mc.Act:=
 (3,slot T (i - i % d))::((if 0<(i:Int) % d then [(1,(i:Int) % d)] else [])++(7,0)::(if (i:Int) % d=0 then [(4,slot T (i - i % d))] else []))
def bD (d:Int)(T:List Int):Nat→List Mc.Act
 | 0=>[]
 | i+1=>bR d T i++bD d T i
def bL (d:Int)(T:List Int)(l:Nat):List Mc.Act:=(5,0)::((if (l:Int) % d=0 then [(4,slot T l)] else [])++bD d T l)
def lA (n l:Nat):List Mc.Act:=aA n l++bL (sd l n) (aT n l) l
end Sd
end Go.Proofs.YtphppbonljdibaaGreat
namespace Go.Proofs.YtphppbonljdibaaGreat
namespace Sd
open Mc (St Act Goes Runs Does)
def aB (n:Nat):Nat→List Mc.Act
 | 0=>[]
 | k+1=>aB n k++rA n k
end Sd
end Go.Proofs.YtphppbonljdibaaGreat
namespace Go.Proofs.YtphppbonljdibaaGreat
namespace Sd
open Mc (St Act)
def cnk (c:Int):List Mc.Act→Int
 | []=>0
 | a::l=>(if a.1=c then 1 else 0)+cnk c l
theorem cnk_app (c:Int)(l l':List Mc.Act):cnk c (l++l')=cnk c l+cnk c l':=by
 induction l with
 | nil=>simp[cnk]
 | cons a l ih=>simp only[List.cons_append,cnk,ih];omega
theorem cnk_kd (c:Int)(l:List Mc.Act):∀ k,k≤l.length→Mc.kd l c k=cnk c (l.take k):=by
 intro k
 induction k with
 | zero=>intro _;simp[Mc.kd,cnk]
 | succ k ih=>
   intro h
   rw[Mc.kd,ih (by omega),List.take_succ_eq_append_getElem (by omega),cnk_app]
   simp[cnk,List.getD_eq_getElem?_getD,List.getElem?_eq_getElem (show k<l.length by omega)]
theorem cnk_all (c:Int)(l:List Mc.Act):Mc.kd l c l.length=cnk c l:=by rw[cnk_kd c l l.length (Nat.le_refl _),List.take_length]
theorem cnt_set (tags:List Int)(k:Nat)(x:Int)(hk:k<tags.length):(Mc.cnt (tags.set k x):Int)+(if 0≤tags.getD k 0 then 1 else 0)=Mc.cnt tags+(if 0≤x then 1 else 0):=by
 induction tags generalizing k with
 | nil=>simp at hk
 | cons y l ih=>
   cases k with
   | zero=>simp only[List.set_cons_zero,Mc.cnt,List.getD_cons_zero];split<;>split<;>omega
   | succ k=>
     have:=ih k (by simpa using hk)
     simp only[List.set_cons_succ,Mc.cnt,List.getD_cons_succ]
     split<;>omega
end Sd
end Go.Proofs.YtphppbonljdibaaGreat
namespace Go.Proofs.YtphppbonljdibaaGreat
namespace Sd
open Mc (St Act)
def tmx (tags:List Int):Nat→Int
 | 0=>-1
 | i+1=>max (tmx tags i) (tags.getD i 0)
theorem tmx_ge (tags:List Int)(n:Nat):-1≤tmx tags n∧∀ i,i<n→tags.getD i 0≤tmx tags n:=by
 induction n with
 | zero=>exact⟨Int.le_refl _,fun i h=>absurd h (by omega)⟩
 | succ n ih=>
   refine⟨by simp only[tmx];omega,fun i hi=>?_⟩
   rcases(show i<n∨i=n by omega) with h|rfl
   ·have:=ih.2 i h;simp only[tmx];omega
   ·simp only[tmx];omega
theorem tmx_le (tags:List Int)(x:Int)(hx:-1≤x)(n:Nat)(h:∀ i,i<n→tags.getD i 0≤x):tmx tags n≤x:=by
 induction n with
 | zero=>exact hx
 | succ n ih=>have:=ih fun i hi=>h i (by omega);have:=h n (by omega);simp only[tmx];omega
theorem tmx_base (tags:List Int):(base tags = -1∧tmx tags tags.length = -1)∨∃ j:Nat,j<tags.length∧base tags=j∧0≤tags.getD j 0∧tmx tags tags.length=tags.getD j 0∧slot tags (tags.getD j 0)=j:=by
 rcases base_cases tags with⟨h1,h2⟩|⟨j,hj,h1,h2,h3,h4⟩
 ·refine .inl ⟨h1,?_⟩
  have a:=(tmx_ge tags tags.length).1
  have b:=tmx_le tags (-1) (by omega) tags.length fun i hi=>by have:=h2 i hi;omega
  omega
 ·refine .inr ⟨j,hj,h1,h2,?_,slot_is hj rfl fun i hi e=>by have:=h4 i hi;omega⟩
  have a:=(tmx_ge tags tags.length).2 j hj
  have b:=tmx_le tags (tags.getD j 0) (by omega) tags.length h3
  omega
end Sd
end Go.Proofs.YtphppbonljdibaaGreat
