import Derived.IntWalk
import Derived.Test.YtphppbonljdibaaGreatTB24
set_option maxRecDepth 100000
set_option maxHeartbeats 4000000
set_option linter.unusedVariables false
set_option linter.unusedSimpArgs false
namespace Go.Proofs.YtphppbonljdibaaGreat.Ch
def bin:Nat→Nat→Nat
 | _,0=>1
 | 0,_+1=>0
 | n+1,k+1=>bin n k+bin n (k+1)
theorem bin_zero (n:Nat):bin n 0=1:=by cases n<;>rfl
theorem bin_succ (n k:Nat):bin (n+1) (k+1)=bin n k+bin n (k+1):=rfl
theorem bin_none {n k:Nat}(h:n<k):bin n k=0:=by
 induction n generalizing k with
 | zero=>cases k with
   | zero=>omega
   | succ k=>rfl
 | succ n ih=>cases k with
   | zero=>omega
   | succ k=>rw[bin_succ,ih (by omega),ih (by omega)]
theorem bin_self (n:Nat):bin n n=1:=by
 induction n with
 | zero=>rfl
 | succ n ih=>rw[bin_succ,ih,bin_none (by omega)]
theorem bin_one (n:Nat):bin n 1=n:=by
 induction n with
 | zero=>rfl
 | succ n ih=>rw[bin_succ,bin_zero,ih];omega
theorem bin_pos {n k:Nat}(h:k≤n):1≤bin n k:=by
 induction n generalizing k with
 | zero=>cases k with
   | zero=>decide
   | succ k=>omega
 | succ n ih=>cases k with
   | zero=>rw[bin_zero];omega
   | succ k=>rw[bin_succ];have:=ih (k:=k) (by omega);omega
theorem bin_sym (a b:Nat):bin (a+b) a=bin (a+b) b:=by
 induction a generalizing b with
 | zero=>rw[bin_zero,Nat.zero_add,bin_self]
 | succ a ih=>
   induction b with
   | zero=>rw[bin_zero,Nat.add_zero,bin_self]
   | succ b ihb=>
     have e:a+1+(b+1)=(a+1+b)+1:=by omega
     rw[e,bin_succ,bin_succ]
     have h1:=ih (b+1)
     rw[show a+(b+1)=a+1+b from by omega] at h1
     rw[h1,ihb];omega
theorem bin_other {n k:Nat}(h:k≤n):bin n k=bin n (n - k):=by
 have:=bin_sym k (n - k)
 rwa [show k+(n - k)=n from by omega] at this
theorem bin_mul (n k:Nat):bin (n+1) (k+1) * (k+1)=bin n k * (n+1):=by
 induction n generalizing k with
 | zero=>cases k with
   | zero=>rfl
   | succ k=>rw[bin_none (by omega),bin_none (by omega)];omega
 | succ n ih=>cases k with
   | zero=>rw[bin_one,bin_zero];omega
   | succ k=>
     have h1:=ih k
     have h2:=ih (k+1)
     have e:bin (n+1+1) (k+1+1)=bin (n+1) (k+1)+bin (n+1) (k+1+1):=rfl
     rw[e,Nat.add_mul,h2,show k+1+1=(k+1)+1 from rfl,Nat.mul_add,Nat.mul_one,h1]
     have e2:bin (n+1) (k+1)=bin n k+bin n (k+1):=rfl
     rw[e2]
     grind
theorem bin_up (n k:Nat):bin n k≤bin (n+1) k:=by
 cases k with
 | zero=>rw[bin_zero,bin_zero];omega
 | succ k=>rw[bin_succ];omega
theorem bin_le {n m k:Nat}(h:n≤m):bin n k≤bin m k:=by
 obtain⟨d,rfl⟩:∃ d,m=n+d:=⟨m - n,by omega⟩
 clear h
 induction d with
 | zero=>exact Nat.le_refl _
 | succ d ih=>exact Nat.le_trans ih (bin_up _ _)
theorem bin_diag (d j e:Nat):bin (d+j) j≤bin (d+(j+e)) (j+e):=by
 induction e with
 | zero=>exact Nat.le_refl _
 | succ e ih=>
   have h:d+(j+(e+1))=(d+(j+e))+1:=by omega
   rw[h,show j+(e+1)=(j+e)+1 from rfl,bin_succ];omega
theorem bin_step (d j:Nat):bin (d+(j+1)) (j+1)=bin (d+j) j * (d+(j+1)) / (j+1):=by
 have h:=bin_mul (d+j) j
 rw[← Nat.add_assoc,← h,Nat.mul_div_cancel _ (by omega)]
theorem bin_two {d j:Nat}(h:j≤d):2 ^ j≤bin (d+j) j:=by
 induction j with
 | zero=>rw[bin_zero];decide
 | succ j ih=>
   have h1:=ih (by omega)
   have h2:=bin_mul (d+j) j
   have h3:bin (d+j) j * (2 * (j+1))≤bin (d+j) j * (d+j+1):=Nat.mul_le_mul_left _ (by omega)
   rw[← h2] at h3
   have h4:bin (d+j) j * (2 * (j+1))=(bin (d+j) j * 2) * (j+1):=by grind
   rw[h4] at h3
   have h5:=Nat.le_of_mul_le_mul_right h3 (by omega)
   rw[Nat.pow_succ,← Nat.add_assoc];omega
theorem bin_ge {n k:Nat}(h0:0<k)(h1:k<n):n≤bin n k:=by
 induction n generalizing k with
 | zero=>omega
 | succ n ih=>
   obtain⟨k,rfl⟩:∃ j,k=j+1:=⟨k - 1,by omega⟩
   rw[bin_succ]
   by_cases hk:k=0
   ·subst hk;rw[bin_zero,bin_one];omega
   ·have a:=ih (k:=k) (by omega) (by omega)
    have b:=bin_pos (n:=n) (k:=k+1) (by omega)
    omega
def most:Int:=1099511627776
def held (n:Int):Int:=min (max n 0) 1099511627776
def hs (f:Nat→Int):Nat→Int
 | 0=>0
 | k+1=>hs f k+held (f k)
def hp (f:Nat→Int):Nat→Int
 | 0=>1
 | k+1=>hp f k * held (f k)
def ch (n k:Int):Int:=if n<0∨k<0∨n<k then 0 else min (bin n.toNat k.toNat) 1099511627776
theorem ch_none {n k:Int}(h:n<0∨k<0∨n<k):ch n k=0:=by unfold ch;rw[if_pos h]
theorem ch_at {n k:Int}(h0:0≤k)(h1:k≤n):ch n k=min ((bin n.toNat k.toNat:Nat):Int) 1099511627776:=by unfold ch;rw[if_neg (by omega)]
theorem ch_nn (n k:Int):0≤ch n k:=by unfold ch;split<;>omega
theorem ch_le (n k:Int):ch n k≤1099511627776:=by unfold ch;split<;>omega
theorem ch_other {n k:Int}(h0:0≤k)(h1:k≤n):ch n (n - k)=ch n k:=by
 rw[ch_at h0 h1,ch_at (by omega) (by omega),bin_other (n:=n.toNat) (k:=k.toNat) (by omega),show(n - k).toNat=n.toNat - k.toNat from by omega]
theorem ch_ge {n k:Int}(h0:0<k)(h1:k<n):min n 1099511627776≤ch n k:=by
 rw[ch_at (by omega) (by omega)];have:=bin_ge (n:=n.toNat) (k:=k.toNat) (by omega) (by omega);omega
end Go.Proofs.YtphppbonljdibaaGreat.Ch
namespace Go.Proofs.YtphppbonljdibaaGreat.Ch
def be (s r:Nat):Nat:=bin (s+r) s
theorem be_zero (s:Nat):be s 0=1:=bin_self s
theorem be_le {s r q:Nat}(h:r≤q):be s r≤be s q:=bin_le (by omega)
theorem be_ge (s r:Nat)(hs:1≤s):r+1≤be s r:=by
 induction r with
 | zero=>rw[be_zero];omega
 | succ r ih=>
   obtain⟨t,rfl⟩:∃ t,s=t+1:=⟨s - 1,by omega⟩
   have e:be (t+1) (r+1)=bin (t+1+r) t+be (t+1) r:=by
    show bin (t+1+(r+1)) (t+1)=_
    rw[show t+1+(r+1)=(t+1+r)+1 from by omega,bin_succ];rfl
   have:=bin_pos (n:=t+1+r) (k:=t) (by omega)
   omega
theorem be_one (r:Nat):be 1 r=r+1:=by unfold be;rw[bin_one];omega
theorem be_two (s r:Nat):be (s+1) (r+1)=be s (r+1)+be (s+1) r:=by
 show bin (s+1+(r+1)) (s+1)=bin (s+(r+1)) s+bin (s+1+r) (s+1)
 rw[show s+1+(r+1)=(s+(r+1))+1 from by omega,bin_succ,show s+(r+1)=s+1+r from by omega]
theorem sum_step (s r:Nat):bin (s+(r+1)) (s+1)=be s r+bin (s+r) (s+1):=by
 rw[show s+(r+1)=(s+r)+1 from by omega,bin_succ];rfl
theorem sum_zero (s:Nat):bin (s+0) (s+1)=0:=bin_none (by omega)
def rpF (l s:Nat):Nat→Nat→Nat
 | 0,r=>r
 | f+1,r=>if l≤be s r then r else rpF l s f (r+1)
def rp (l s:Nat):Nat:=rpF l s l 0
theorem rpF_spec (l s:Nat)(hs:1≤s):∀ (f r:Nat),l≤r+f→(∀ j,j<r→be s j<l)→l≤be s (rpF l s f r)∧(∀ j,j<rpF l s f r→be s j<l)∧rpF l s f r≤r+f:=by
 intro f
 induction f with
 | zero=>intro r h hj;exact⟨by have:=be_ge s r hs;show l≤be s r;omega,hj,by show r≤r+0;omega⟩
 | succ f ih=>
   intro r h hj
   unfold rpF
   split
   ·rename_i h1;exact⟨h1,hj,by omega⟩
   ·rename_i h1
    obtain⟨a,b,c⟩:=ih (r+1) (by omega) (fun j h2=>by
     by_cases e:j=r
     ·subst e;omega
     ·exact hj j (by omega))
    exact⟨a,b,by omega⟩
theorem rp_enough (l s:Nat)(hs:1≤s):l≤be s (rp l s):=(rpF_spec l s hs l 0 (by omega) (fun j h=>by omega)).1
theorem rp_less (l s:Nat)(hs:1≤s){j:Nat}(h:j<rp l s):be s j<l:=(rpF_spec l s hs l 0 (by omega) (fun j h=>by omega)).2.1 j h
theorem rp_le (l s:Nat)(hs:1≤s):rp l s≤l:=by have:=(rpF_spec l s hs l 0 (by omega) (fun j h=>by omega)).2.2;unfold rp;omega
theorem rp_is {l s r:Nat}(hs:1≤s)(h:l≤be s r)(h2:∀ j,j<r→be s j<l):r=rp l s:=by
 rcases Nat.lt_trichotomy r (rp l s) with h3|h3|h3
 ·have:=rp_less l s hs h3;omega
 ·exact h3
 ·have:=h2 _ h3;have:=rp_enough l s hs;omega
theorem rp_pos {l s:Nat}(hs:1≤s)(h:2≤l):1≤rp l s:=by
 apply Nat.lt_of_not_le
 intro h0
 have:=rp_enough l s hs
 rw[show rp l s=0 from by omega,be_zero] at this;omega
def gt (l s r:Nat):Int:=(r:Int) * l - (bin (s+r) (s+1):Nat)
def tt (l s:Nat):Int:=gt l s (rp l s)
theorem gt_step (l s r:Nat):gt l s (r+1)=gt l s r+((l:Int) - (be s r:Nat)):=by
 unfold gt;rw[sum_step];push_cast;grind
theorem gt_up (l s:Nat)(hs:1≤s){r:Nat}(d:Nat)(h:r+d≤rp l s):gt l s r≤gt l s (r+d):=by
 induction d with
 | zero=>exact Int.le_refl _
 | succ d ih=>
   have h1:=ih (by omega)
   have h2:=rp_less l s hs (j:=r+d) (by omega)
   rw[← Nat.add_assoc,gt_step];omega
theorem gt_down (l s:Nat)(hs:1≤s)(d:Nat):gt l s (rp l s+d)≤gt l s (rp l s):=by
 induction d with
 | zero=>exact Int.le_refl _
 | succ d ih=>
   have h1:=rp_enough l s hs
   have h2:=be_le (s:=s) (r:=rp l s) (q:=rp l s+d) (by omega)
   rw[← Nat.add_assoc,gt_step];omega
theorem gt_tt (l s r:Nat)(hs:1≤s):gt l s r≤tt l s:=by
 rcases Nat.le_total r (rp l s) with h|h
 ·have:=gt_up l s hs (r:=r) (rp l s - r) (by omega)
  rwa [show r+(rp l s - r)=rp l s from by omega] at this
 ·have:=gt_down l s hs (r - rp l s)
  rwa [show rp l s+(r - rp l s)=r from by omega] at this
theorem tt_is {l s r:Nat}(hs:1≤s)(h:l≤be s r)(h2:∀ j,j<r→be s j≤l):tt l s=gt l s r:=by
 have hle:rp l s≤r:=by
  apply Nat.le_of_not_lt
  intro h3
  have:=rp_less l s hs h3;omega
 have key:∀ d,rp l s+d≤r→gt l s (rp l s+d)=tt l s:=by
  intro d
  induction d with
  | zero=>intro _;rfl
  | succ d ih=>
    intro hd
    have h1:=ih (by omega)
    have h3:=rp_enough l s hs
    have h4:=be_le (s:=s) (r:=rp l s) (q:=rp l s+d) (by omega)
    have h5:=h2 (rp l s+d) (by omega)
    rw[← Nat.add_assoc,gt_step,h1];omega
 have:=key (r - rp l s) (by omega)
 rw[show rp l s+(r - rp l s)=r from by omega] at this
 exact this.symm
theorem tt_nn (l s:Nat)(hs:1≤s):0≤tt l s:=by
 have:=gt_tt l s 0 hs
 unfold gt at this
 rw[sum_zero] at this
 simp at this;exact this
theorem sum_le (l s:Nat)(hs:1≤s):((bin (s+rp l s) (s+1):Nat):Int)≤(rp l s:Int) * l:=by
 have:=tt_nn l s hs;unfold tt gt at this;omega
theorem rp_one (l:Nat)(hl:1≤l):rp l 1=l - 1:=(rp_is (Nat.le_refl 1) (by rw[be_one];omega) (fun j h=>by rw[be_one];omega)).symm
theorem tt_one (l:Nat)(hl:1≤l):tt l 1=(l:Int) * ((l:Int) - 1) / 2:=by
 obtain⟨m,rfl⟩:∃ m,l=m+1:=⟨l - 1,by omega⟩
 unfold tt gt
 rw[rp_one _ hl,show m+1 - 1=m from by omega]
 have h:=bin_mul m 1
 rw[bin_one] at h
 have e:1+m=m+1:=by omega
 rw[e]
 have h2:((bin (m+1) (1+1):Nat):Int) * 2=(m:Int) * ((m:Int)+1):=by exact_mod_cast h
 have h3:((m+1:Nat):Int)=(m:Int)+1:=by omega
 rw[h3,show(m:Int)+1 - 1=(m:Int) from by omega]
 have h4:((m:Int)+1) * (m:Int)=(m:Int) * ((m:Int)+1):=Int.mul_comm _ _
 rw[h4]
 generalize (m:Int) * ((m:Int)+1)=p at *
 omega
theorem tt_parts (n c k:Nat)(hc:2≤c)(hn:2≤n)(hk:k≤n):tt n c≤k+tt (n - k) (c - 1)+tt k c:=by
 obtain⟨b,rfl⟩:∃ b,c=b+1:=⟨c - 1,by omega⟩
 have hr:=rp_pos (l:=n) (s:=b+1) (by omega) hn
 obtain⟨r,hr⟩:∃ r,rp n (b+1)=r+1:=⟨rp n (b+1) - 1,by omega⟩
 have h1:=gt_tt (n - k) b (r+1) (by omega)
 have h2:=gt_tt k (b+1) r (by omega)
 have e:tt n (b+1)=k+gt (n - k) b (r+1)+gt k (b+1) r:=by
  unfold tt gt
  rw[hr]
  have e1:bin (b+1+(r+1)) (b+1+1)=bin (b+(r+1)) (b+1)+bin (b+1+r) (b+1+1):=by
   rw[show b+1+(r+1)=(b+(r+1))+1 from by omega,bin_succ,show b+(r+1)=b+1+r from by omega]
  have e2:((n - k:Nat):Int)=(n:Int) - k:=by omega
  rw[e1,e2];push_cast;grind
 rw[show b+1 - 1=b from by omega]
 omega
theorem tt_split (n c m:Nat)(hc:2≤c)(hn:2≤n)(h1:1≤m)(h2:n≤m+be (c - 1) (rp n c))
 (h3:m≤be c (rp n c - 1)) (h4:m+be (c - 1) (rp n c - 1)≤n) (h5:2≤rp n c→be c (rp n c - 2)≤m):tt n c=m+tt (n - m) (c - 1)+tt m c:=by
 obtain⟨b,rfl⟩:∃ b,c=b+1:=⟨c - 1,by omega⟩
 have hr:=rp_pos (l:=n) (s:=b+1) (by omega) hn
 obtain⟨r,hr⟩:∃ r,rp n (b+1)=r+1:=⟨rp n (b+1) - 1,by omega⟩
 rw[hr] at h2 h3 h4 h5
 rw[show b+1 - 1=b from by omega] at *
 rw[show r+1 - 1=r from by omega] at *
 have g1:tt (n - m) b=gt (n - m) b (r+1):=tt_is (by omega) (by omega) (fun j hj=>by
  have:=be_le (s:=b) (r:=j) (q:=r) (by omega);omega)
 have g2:tt m (b+1)=gt m (b+1) r:=tt_is (by omega) h3 (fun j hj=>by
  have h6:=h5 (by omega)
  have:=be_le (s:=b+1) (r:=j) (q:=r+1 - 2) (by omega);omega)
 rw[g1,g2]
 unfold tt gt
 rw[hr]
 have e1:bin (b+1+(r+1)) (b+1+1)=bin (b+(r+1)) (b+1)+bin (b+1+r) (b+1+1):=by
  rw[show b+1+(r+1)=(b+(r+1))+1 from by omega,bin_succ,show b+(r+1)=b+1+r from by omega]
 have e2:((n - m:Nat):Int)=(n:Int) - m:=by omega
 rw[e1,e2];push_cast;grind
def sp (n c:Nat):Int:=max 1 (max (ch ((c:Int)+rp n c - 2) c) ((n:Int) - ch ((c:Int)+rp n c - 1) ((c:Int) - 1)))
theorem ch_be {s r:Nat}:ch ((s:Int)+r) s=min ((be s r:Nat):Int) 1099511627776:=by
 rw[ch_at (by omega) (by omega),show((s:Int)+r).toNat=s+r from by omega,Int.toNat_natCast];rfl
theorem sp_facts (n c:Nat)(hc:2≤c)(hn:2≤n)(hn2:n≤1099511627776):∃ m:Nat,sp n c=m∧1≤m∧m<n∧n≤m+be (c - 1) (rp n c)∧m≤be c (rp n c - 1)∧m+be (c - 1) (rp n c - 1)≤n∧(2≤rp n c→be c (rp n c - 2)≤m):=by
 obtain⟨b,rfl⟩:∃ b,c=b+1:=⟨c - 1,by omega⟩
 have hp:=rp_pos (l:=n) (s:=b+1) (by omega) hn
 have he:=rp_enough n (b+1) (by omega)
 have hl:=rp_less n (b+1) (by omega) (j:=rp n (b+1) - 1) (by omega)
 unfold sp
 generalize rp n (b+1)=R at *
 obtain⟨r,rfl⟩:∃ r,R=r+1:=⟨R - 1,by omega⟩
 rw[show b+1 - 1=b from by omega]
 rw[show r+1 - 1=r from by omega] at *
 have e1:((b+1:Nat):Int)+((r+1:Nat):Int) - 1=(b:Int)+(r+1:Nat):=by omega
 have e2:((b+1:Nat):Int) - 1=(b:Int):=by omega
 rw[e1,e2,ch_be]
 have ht:=be_two b r
 have hbr:=be_le (s:=b) (r:=r) (q:=r+1) (by omega)
 have hb1:1≤be b r:=bin_pos (by omega)
 cases r with
 | zero=>
   have e3:ch (((b+1:Nat):Int)+((0+1:Nat):Int) - 2) ((b+1:Nat):Int)=0:=ch_none (by omega)
   rw[e3]
   rw[be_zero] at hl
   have h0:be b 0=1:=be_zero b
   have h0':be (b+1) 0=1:=be_zero _
   refine⟨(max 1 (max 0 ((n:Int) - min ((be b (0+1):Nat):Int) 1099511627776))).toNat,by omega,by omega,by omega,by omega,by omega,by omega,fun h=>by omega⟩
 | succ r=>
   have e3:((b+1:Nat):Int)+((r+1+1:Nat):Int) - 2=((b+1:Nat):Int)+(r:Nat):=by omega
   rw[e3,ch_be]
   have ht2:=be_two b r
   have hb2:1≤be (b+1) r:=bin_pos (by omega)
   refine⟨(max 1 (max (min ((be (b+1) r:Nat):Int) 1099511627776) ((n:Int) - min ((be b (r+1+1):Nat):Int) 1099511627776))).toNat,by omega,by omega,by omega,by omega,by omega,by omega,fun _=>?_⟩
   rw[show r+1+1 - 2=r from by omega];omega
end Go.Proofs.YtphppbonljdibaaGreat.Ch
namespace Go.Proofs.YtphppbonljdibaaGreat
namespace Rv
open Mc (St Goes Runs Does)
open Sd (slot tmx okS getD_set cnk)
def vac:List Int→Nat
 | []=>0
 | x::l=>(if x<0 then 1 else 0)+vac l
theorem vac_le (tags:List Int):vac tags≤tags.length:=by
 induction tags with
 | nil=>exact Nat.le_refl _
 | cons x l ih=>simp only[vac,List.length_cons];split<;>omega
theorem vac_cnt (tags:List Int):vac tags+Mc.cnt tags=tags.length:=by
 induction tags with
 | nil=>rfl
 | cons x l ih=>simp only[vac,Mc.cnt,List.length_cons];split<;>split<;>omega
theorem vac_set (tags:List Int)(k:Nat)(x:Int)(hk:k<tags.length):(vac (tags.set k x):Int)+(if tags.getD k 0<0 then 1 else 0)=vac tags+(if x<0 then 1 else 0):=by
 have h1:=vac_cnt tags
 have h2:=vac_cnt (tags.set k x)
 have h3:=Sd.cnt_set tags k x hk
 rw[List.length_set] at h2
 split at h3<;>split at h3<;>split<;>split<;>omega
theorem vac_pos {tags:List Int}(h:∀ i,i<tags.length→-1≤tags.getD i 0):0<vac tags↔0≤slot tags (-1):=by
 induction tags with
 | nil=>simp[vac,slot]
 | cons x l ih=>
   have h0:=h 0 (by simp)
   simp only[List.getD_cons_zero] at h0
   have ih:=ih fun i hi=>by have:=h (i+1) (by simpa using hi);simpa using this
   simp only[vac,slot]
   have hs:=Sd.slot_lo l (-1)
   by_cases e:x = -1
   ·rw[if_pos e,if_pos (by omega)];omega
   ·rw[if_neg e,if_neg (by omega)]
    split
    ·omega
    ·omega
def en (l p:Int):Int:=if p<0 then l else p
def rw0 (l a p:Int)(tags:List Int):Option Mc.Act:=
 if 0≤p∧en l p≤tmx tags tags.length then some (4,slot tags (tmx tags tags.length))
 else if p=0 then none
 else if p<0∧a=l then some (5,0)
 else if a=en l p - 1 then some (if 0≤p then 7 else 6,0)
 else if tmx tags tags.length<0 then (if a<en l p then some (2,0) else none)
 else if a<tmx tags tags.length∨en l p≤a then some (3,slot tags (tmx tags tags.length))
 else if tmx tags tags.length<a then (if 0<vac tags then some (2,slot tags (-1)) else some (1,en l p - 1 - a))
 else some (1,Ch.sp (en l p - tmx tags tags.length).toNat (vac tags+1))
open Classical in
noncomputable def rv (l a p:Int)(tags:List Int):Option Mc.Act:=if ¬ okS l a p tags then none else rw0 l a p tags
noncomputable def nm (l:Int)(m:St):Option Mc.Act:=rv l m.at_ m.pend m.tags
theorem rv_ok {l a p:Int}{tags:List Int}(h:okS l a p tags):rv l a p tags=rw0 l a p tags:=by unfold rv;rw[if_neg (fun g=>g h)]
theorem rv_no {l a p:Int}{tags:List Int}(h:¬ okS l a p tags):rv l a p tags=none:=by unfold rv;rw[if_pos h]
def lst:List Bool→Nat
 | []=>0
 | b::l=>if b then lst l+1 else 0
def hb (tags:List Int):List Bool:=tags.map fun t=>decide (0≤t)
theorem hb_set (tags:List Int)(k:Nat)(x:Int):hb (tags.set k x)=(hb tags).set k (decide (0≤x)):=by unfold hb;rw[List.map_set]
theorem hb_new (n:Nat):hb (List.replicate n (-1))=List.replicate n false:=by unfold hb;rw[List.map_replicate];rfl
theorem lst_slot {tags:List Int}(h:∀ i,i<tags.length→-1≤tags.getD i 0)(hv:0<vac tags):slot tags (-1)=lst (hb tags):=by
 induction tags with
 | nil=>simp[vac] at hv
 | cons x l ih=>
   have h0:=h 0 (by simp)
   simp only[List.getD_cons_zero] at h0
   have h':∀ i,i<l.length→-1≤l.getD i 0:=fun i hi=>by have:=h (i+1) (by simpa using hi);simpa using this
   simp only[vac] at hv
   simp only[slot,hb,List.map_cons,lst]
   by_cases e:x = -1
   ·rw[if_pos e,e];rfl
   ·rw[if_neg e,decide_eq_true (show 0≤x by omega),if_pos rfl]
    rw[if_neg (show ¬ x<0 by omega)] at hv
    have hv':0<vac l:=by omega
    have h2:=(vac_pos h').1 hv'
    have h3:slot l (-1)=lst (l.map fun t=>decide (0≤t)):=ih h' hv'
    rw[if_neg (by omega),h3]
    omega
def turn (last:Bool):Mc.Act:=(if last then 6 else 7,0)
def lp:Nat→Nat→Nat→Nat→List Bool→Bool→List Mc.Act
 | 0,_,_,_,_,_=>[]
 | f+1,n,c,k,own,last=>
   if n≤1 then [(7,0),(4,(k:Int))]
   else (1,((Ch.sp n c).toNat:Int)) ::
    ((if n - (Ch.sp n c).toNat=1 then [turn last] else (2,(lst own:Int))::lp f (n - (Ch.sp n c).toNat) (c - 1) (lst own) (own.set (lst own) true) last) ++
      (3,(k:Int))::lp f (Ch.sp n c).toNat c k own false)
def pt (f n c:Nat)(held:List Bool)(last:Bool):List Mc.Act:=
 if n=1 then [turn last] else (2,(lst held:Int))::lp f n c (lst held) (held.set (lst held) true) last
theorem lp_one (f c k:Nat)(own:List Bool)(last:Bool):lp (f+1) 1 c k own last=[(7,0),(4,(k:Int))]:=rfl
theorem lp_more (f n c k:Nat)(own:List Bool)(last:Bool)(h:2≤n):lp (f+1) n c k own last =
 (1,((Ch.sp n c).toNat:Int))::(pt f (n - (Ch.sp n c).toNat) (c - 1) own last++(3,(k:Int))::lp f (Ch.sp n c).toNat c k own false):=by
 rw[lp,if_neg (by omega)]
 rfl
theorem rp_1 (c:Nat):Ch.rp 1 c=0:=by
 show Ch.rpF 1 c 1 0=0
 rw[Ch.rpF,if_pos (by rw[Ch.be_zero];exact Nat.le_refl _)]
theorem tt_1 (c:Nat):Ch.tt 1 c=0:=by
 unfold Ch.tt Ch.gt
 rw[rp_1,Ch.sum_zero]
 rfl
theorem tt_0 (c:Nat):Ch.tt 0 c=0:=by
 unfold Ch.tt Ch.gt
 rw[show Ch.rp 0 c=0 from rfl,Ch.sum_zero]
 rfl
theorem sp_one {n:Nat}(hn:2≤n)(hn2:n≤1099511627776):Ch.sp n 1=((n - 1:Nat):Int):=by
 unfold Ch.sp
 rw[Ch.rp_one n (by omega)]
 have e1:((1:Nat):Int)+((n - 1:Nat):Int) - 2=((n - 2:Nat):Int):=by omega
 have e2:((1:Nat):Int)+((n - 1:Nat):Int) - 1=((n - 1:Nat):Int):=by omega
 have e3:((1:Nat):Int) - 1=((0:Nat):Int):=rfl
 rw[e1,e2,e3]
 have c1:Ch.ch ((n - 1:Nat):Int) ((0:Nat):Int)=1:=by
  rw[Ch.ch_at (by omega) (by omega),Int.toNat_natCast,Int.toNat_natCast,Ch.bin_zero];decide
 rw[c1]
 by_cases c:n=2
 ·subst c
  rw[Ch.ch_none (by omega)];decide
 ·rw[Ch.ch_at (by omega) (by omega),Int.toNat_natCast,Int.toNat_natCast,Ch.bin_one]
  omega
theorem rp_min {l s r:Nat}(hs:1≤s)(h:l≤Ch.be s r):Ch.rp l s≤r:=by
 apply Nat.le_of_not_lt
 intro h2
 have:=Ch.rp_less l s hs h2
 omega
theorem sp_all (n c:Nat)(hc:1≤c)(hn:2≤n)(hn2:n≤65536):∃ m:Nat,Ch.sp n c=m∧1≤m∧m<n∧(c=1→n - m=1)∧Ch.tt n c=m+Ch.tt (n - m) (c - 1)+Ch.tt m c∧Ch.rp m c+1≤Ch.rp n c∧Ch.rp (n - m) (c - 1)≤Ch.rp n c:=by
 by_cases h1:c=1
 ·subst h1
  refine⟨n - 1,sp_one hn (by omega),by omega,by omega,fun _=>by omega,?_,?_,?_⟩
  ·rw[show n - (n - 1)=1 by omega,tt_1,Ch.tt_one n (by omega),Ch.tt_one (n - 1) (by omega)]
   have e:=Sd.tri_succ ((n - 1:Nat):Int)
   unfold Sd.tri at e
   rw[show((n - 1:Nat):Int)+1=(n:Int) by omega] at e
   rw[e]
   omega
  ·rw[Ch.rp_one n (by omega),Ch.rp_one (n - 1) (by omega)];omega
  ·rw[show n - (n - 1)=1 by omega,rp_1];omega
 ·obtain⟨m,e,q1,q2,q3,q4,q5,q6⟩:=Ch.sp_facts n c (by omega) hn (by omega)
  have hp:=Ch.rp_pos (l:=n) (s:=c) (by omega) hn
  refine⟨m,e,q1,q2,fun h=>absurd h h1,Ch.tt_split n c m (by omega) hn q1 q3 q4 q5 q6,?_,?_⟩
  ·have:=rp_min (by omega) q4;omega
  ·exact rp_min (by omega) (by omega)
def oft (m:St):List Mc.Act→Int→Nat
 | [],_=>0
 | a::l,x=>(if a.1=1∧m.at_≤x∧x<m.at_+a.2 then 1 else 0)+oft (Mc.step m a.1 a.2).1 l x
theorem oft_app:∀ {l l':List Mc.Act} {m m':St} (x:Int),Does m l m'→oft m (l++l') x=oft m l x+oft m' l' x
 | [],l',m,m',x,h=>by cases h;simp[oft]
 | a::l,l',m,m',x,⟨h2,h3⟩=>by
   simp only[List.cons_append,oft]
   rw[oft_app x h3]
   omega
theorem tmx_is {tags:List Int}{k:Nat}(hk:k<tags.length){a:Int}(h:tags.getD k 0=a)(h0:-1≤a)(h2:∀ i,i<tags.length→tags.getD i 0≤a):tmx tags tags.length=a:=by
 have h3:=(Sd.tmx_ge tags tags.length).2 k hk
 have h4:=Sd.tmx_le tags a h0 tags.length h2
 omega
theorem set_back (tags:List Int)(k:Nat)(x:Int)(hk:k<tags.length)(h:tags.getD k 0 = -1):(tags.set k x).set k (-1)=tags:=by
 rw[List.set_set]
 apply List.ext_getElem (by simp)
 intro i h1 h2
 rw[List.getElem_set]
 split
 ·rename_i e
  subst e
  simpa [hk] using h.symm
 ·rfl
structure Part (l:Int)(n c:Nat)(a p tot:Int)(T T':List Int)(L:List Mc.Act):Prop where
 goes:Goes (nm l) ⟨l,a,p,tot,T⟩ L ⟨l,a,a,tot+Ch.tt n c,T'⟩
 oft:∀ x,oft ⟨l,a,p,tot,T⟩ L x≤if a≤x∧x<a+n then Ch.rp n c else 0
theorem pt_part {f:Nat}(ih:∀ (n c k:Nat) (T:List Int) (last:Bool) (l a p tot:Int),n≤f→1≤n→(n=1→last=false)→l<65536→0≤a→a+n≤l→(last=true→a+n=l)→p=(if last then -1 else a+n) →
 T.length≤1048576→(hk:k<T.length)→T.getD k 0=a→(∀ i,i<T.length→-1≤T.getD i 0∧(T.getD i 0<a∨i=k))→vac T+1=c→Part l n c a p tot T (T.set k (-1)) (lp f n c k (hb T) last))
 (n c:Nat) (T:List Int) (last:Bool) (l a p tot:Int) (hf:n≤f) (hn:1≤n) (hl:l<65536) (ha:0≤a) (hal:a+n≤l) (hla:last=true→a+n=l) (hp:p=(if last then -1 else a+n))
 (hT0:1≤T.length) (hT:T.length≤1048576) (ht:∀ i,i<T.length→-1≤T.getD i 0∧T.getD i 0<a) (hv:vac T=c) (hc:2≤n→1≤c):Part l n c a p tot T T (pt f n c (hb T) last):=by
 have hB:tmx T T.length<a:=by
  rcases Sd.tmx_base T with⟨_,h⟩|⟨j,hj,_,h,h2,_⟩
  ·rw[h];omega
  ·rw[h2];exact(ht j hj).2
 have hB1:=(Sd.tmx_ge T T.length).1
 have hp2:p = -1∧last=true∨p=a+n∧last=false:=by
  cases last
  ·exact .inr ⟨by simpa using hp,rfl⟩
  ·exact .inl ⟨by simpa using hp,rfl⟩
 have hen:en l p=a+n:=by
  unfold en
  rcases hp2 with⟨h,h2⟩|⟨h,h2⟩
  ·rw[if_pos (by omega)];have:=hla h2;omega
  ·rw[if_neg (by omega)];exact h
 have hok:okS l a p T:=⟨⟨by omega,hl⟩,⟨ha,by omega⟩,⟨by omega,by omega⟩,⟨hT0,hT⟩,fun i hi=>by have:=ht i hi;omega⟩
 unfold pt
 by_cases h1:n=1
 ·subst h1
  rw[if_pos rfl]
  have hx:nm l ⟨l,a,p,tot,T⟩=some (turn last):=by
   show rv l a p T=_
   rw[rv_ok hok]
   unfold rw0
   rw[hen,if_neg (by omega),if_neg (by omega),if_neg (by omega),if_pos (by omega)]
   rcases hp2 with⟨h,h2⟩|⟨h,h2⟩
   ·rw[if_neg (by omega),h2];rfl
   ·rw[if_pos (by omega),h2];rfl
  have hs:Mc.step ⟨l,a,p,tot,T⟩ (turn last).1 (turn last).2=(⟨l,a,a,tot,T⟩,0):=by
   rcases hp2 with⟨h,h2⟩|⟨h,h2⟩
   ·rw[h2]
    exact Sd.step_both (m:=⟨l,a,p,tot,T⟩) h (by have:=hla h2;show a=l - 1;omega)
   ·rw[h2]
    exact Sd.step_rev (m:=⟨l,a,p,tot,T⟩) (by show 1≤p;omega) (by show a=p - 1;omega)
  refine⟨⟨hx,by rw[hs],?_⟩,fun x=>?_⟩
  ·rw[hs,tt_1,Int.add_zero];rfl
  ·have:(turn last).1≠1:=by cases last<;>decide
   simp only[oft,if_neg (fun h:_∧_=>this h.1)]
   omega
 ·rw[if_neg h1]
  have hv1:0<vac T:=by have:=hc (by omega);omega
  have hsl:=lst_slot (fun i hi=>(ht i hi).1) hv1
  have hs0:=(vac_pos (fun i hi=>(ht i hi).1)).1 hv1
  have hsn:=Sd.slot_nn hs0
  rw[hsl,Int.toNat_natCast] at hsn
  generalize lst (hb T)=k at *
  have hx:nm l ⟨l,a,p,tot,T⟩=some (2,(k:Int)):=by
   show rv l a p T=_
   rw[rv_ok hok]
   unfold rw0
   rw[hen,if_neg (by omega),if_neg (by omega),if_neg (by omega),if_neg (by omega)]
   by_cases hneg:tmx T T.length<0
   ·rw[if_pos hneg,if_pos (by omega)]
    have h0:slot T (-1)=((0:Nat):Int):=Sd.slot_is (by omega) (by have:=(Sd.tmx_ge T T.length).2 0 (by omega);have:=(ht 0 (by omega)).1;omega) (fun j hj=>absurd hj (by omega))
    rw[hsl] at h0
    rw[h0];rfl
   ·rw[if_neg hneg,if_neg (by omega),if_pos (by omega),if_pos hv1,hsl]
  have hs:Mc.step ⟨l,a,p,tot,T⟩ 2 (k:Int)=(⟨l,a,p,tot,T.set k a⟩,0):=
   Sd.step_store (m:=⟨l,a,p,tot,T⟩) hsn.1 hT (by show T.getD k 0<0;rw[hsn.2];decide)
  have hvs:=vac_set T k a hsn.1
  rw[hsn.2,if_pos (by decide),if_neg (by omega)] at hvs
  have hI:=ih n c k (T.set k a) last l a p tot hf hn (fun h=>absurd h h1) hl ha hal hla hp (by rw[List.length_set];exact hT) (by rw[List.length_set];exact hsn.1)
   (by rw[getD_set _ _ _ _ hsn.1,if_pos rfl]) (fun i hi=>by
     rw[List.length_set] at hi
     rw[getD_set _ _ _ _ hsn.1]
     by_cases e:i=k
     ·rw[if_pos e];exact⟨by omega,.inr e⟩
     ·rw[if_neg e];exact⟨(ht i hi).1,.inl (ht i hi).2⟩) (by omega)
  rw[set_back T k a hsn.1 hsn.2,hb_set,decide_eq_true ha] at hI
  refine⟨⟨hx,by rw[hs],?_⟩,fun x=>?_⟩
  ·rw[hs];exact hI.goes
  ·have:=hI.oft x
   show _+oft (Mc.step ⟨l,a,p,tot,T⟩ 2 (k:Int)).1 _ x≤_
   rw[hs,if_neg (fun h=>absurd h.1 (show(2:Int)≠1 by decide))]
   dsimp only
   omega
theorem lp_part:∀ (f n c k:Nat) (T:List Int) (last:Bool) (l a p tot:Int),n≤f→1≤n→(n=1→last=false)→l<65536→0≤a→a+n≤l→(last=true→a+n=l)→p=(if last then -1 else a+n) →
 T.length≤1048576→(hk:k<T.length)→T.getD k 0=a→(∀ i,i<T.length→-1≤T.getD i 0∧(T.getD i 0<a∨i=k))→vac T+1=c→Part l n c a p tot T (T.set k (-1)) (lp f n c k (hb T) last):=by
 intro f
 induction f with
 | zero=>intro n c k T last l a p tot hf hn;omega
 | succ f ih=>
   intro n c k T last l a p tot hf hn h1 hl ha hal hla hp hT hk hTk ht hv
   have hB:tmx T T.length=a:=tmx_is hk hTk (by omega) fun i hi=>by
    rcases(ht i hi).2 with h|h
    ·omega
    ·rw[h,hTk];exact Int.le_refl _
   have hsl:slot T a=(k:Int):=Sd.slot_is hk hTk fun j hj e=>by
    rcases(ht j (by omega)).2 with h|h<;>omega
   have hp2:p = -1∧last=true∨p=a+n∧last=false:=by
    cases last
    ·exact .inr ⟨by simpa using hp,rfl⟩
    ·exact .inl ⟨by simpa using hp,rfl⟩
   have hen:en l p=a+n:=by
    unfold en
    rcases hp2 with⟨h,h2⟩|⟨h,h2⟩
    ·rw[if_pos (by omega)];have:=hla h2;omega
    ·rw[if_neg (by omega)];exact h
   have htl:∀ i,i<T.length→-1≤T.getD i 0∧T.getD i 0≤a:=fun i hi=>by
    rcases ht i hi with⟨h,h2|h2⟩
    ·omega
    ·rw[h2,hTk];omega
   have hok:∀ x q,0≤x→x≤l→-1≤q→q≤l→okS l x q T:=fun x q x0 x1 q0 q1=>⟨⟨by omega,hl⟩,⟨x0,x1⟩,⟨q0,q1⟩,⟨by omega,hT⟩,fun i hi=>by have:=htl i hi;omega⟩
   by_cases hn1:n=1
   ·subst hn1
    have hlast:=h1 rfl
    subst hlast
    have hp3:p=a+1:=by simpa using hp
    subst hp3
    rw[lp_one]
    have x1:nm l ⟨l,a,a+1,tot,T⟩=some (7,0):=by
     show rv l a (a+1) T=_
     rw[rv_ok (hok _ _ (by omega) (by omega) (by omega) (by omega))]
     unfold rw0
     rw[hB,hen,if_neg (by omega),if_neg (by omega),if_neg (by omega),if_pos (by omega),if_pos (by omega)]
    have s1:Mc.step ⟨l,a,a+1,tot,T⟩ 7 0=(⟨l,a,a,tot,T⟩,0):=
     Sd.step_rev (m:=⟨l,a,a+1,tot,T⟩) (by show 1≤a+1;omega) (by show a=a+1 - 1;omega)
    have x2:nm l ⟨l,a,a,tot,T⟩=some (4,(k:Int)):=by
     show rv l a a T=_
     rw[rv_ok (hok _ _ (by omega) (by omega) (by omega) (by omega))]
     unfold rw0
     rw[hB,show en l a=a by unfold en;rw[if_neg (by omega)],if_pos ⟨ha,Int.le_refl _⟩,hsl]
    have s2:Mc.step ⟨l,a,a,tot,T⟩ 4 (k:Int)=(⟨l,a,a,tot,T.set k (-1)⟩,0):=
     Sd.step_free (m:=⟨l,a,a,tot,T⟩) hk hT (by show 0≤T.getD k 0;omega)
    refine⟨⟨x1,by rw[s1],by rw[s1];exact x2,by rw[s1];show(Mc.step _ 4 (k:Int)).2=0;rw[s2],?_⟩,fun x=>?_⟩
    ·rw[s1]
     show _=(Mc.step _ 4 (k:Int)).1
     rw[s2,tt_1,Int.add_zero]
    ·simp only[oft]
     rw[if_neg (fun h=>absurd h.1 (by decide)),if_neg (fun h=>absurd h.1 (by decide))]
     omega
   ·rw[lp_more _ _ _ _ _ _ (by omega)]
    obtain⟨m,hm,m1,m2,m3,m4,m5,m6⟩:=sp_all n c (by omega) (by omega) (by omega)
    rw[hm,Int.toNat_natCast]
    have x1:nm l ⟨l,a,p,tot,T⟩=some (1,(m:Int)):=by
     show rv l a p T=_
     rw[rv_ok (hok _ _ (by omega) (by omega) (by omega) (by omega))]
     unfold rw0
     rw[hB,hen,if_neg (by omega),if_neg (by omega),if_neg (by omega),if_neg (by omega),if_neg (by omega),if_neg (by omega),if_neg (by omega),hv,show(a+(n:Int) - a).toNat=n by omega,hm]
    have s1:Mc.step ⟨l,a,p,tot,T⟩ 1 (m:Int)=(⟨l,a+m,p,tot+m,T⟩,0):=
     Sd.step_adv (m:=⟨l,a,p,tot,T⟩) (by omega) (by omega) (by show(m:Int)≤l - a;omega)
    have hP:=pt_part ih (n - m) (c - 1) T last l (a+m) p (tot+m) (by omega) (by omega) hl (by omega) (by omega) (fun h=>by have:=hla h;omega) (by rw[hp];cases last<;>simp;omega)
     (by omega) hT (fun i hi=>by have:=htl i hi;omega) (by omega) (fun h=>by
       apply Classical.byContradiction
       intro h2
       have:=m3 (by omega)
       omega)
    have x2:nm l ⟨l,a+m,a+m,tot+m+Ch.tt (n - m) (c - 1),T⟩=some (3,(k:Int)):=by
     show rv l (a+m) (a+m) T=_
     rw[rv_ok (hok _ _ (by omega) (by omega) (by omega) (by omega))]
     unfold rw0
     rw[hB,show en l (a+m)=a+m by unfold en;rw[if_neg (by omega)],if_neg (by omega),if_neg (by omega),if_neg (by omega),if_neg (by omega),if_neg (by omega),if_pos (by omega),hsl]
    have s2:Mc.step ⟨l,a+m,a+m,tot+m+Ch.tt (n - m) (c - 1),T⟩ 3 (k:Int)=(⟨l,a,a+m,tot+m+Ch.tt (n - m) (c - 1),T⟩,0):=by
     rw[Sd.step_restore (m:=⟨l,a+m,a+m,tot+m+Ch.tt (n - m) (c - 1),T⟩) hk hT (by show 0≤T.getD k 0;omega)]
     show((⟨l,T.getD k 0,a+m,_,T⟩:St),(0:Int))=_
     rw[hTk]
    have hL:=ih m c k T false l a (a+m) (tot+m+Ch.tt (n - m) (c - 1)) (by omega) m1 (fun _=>rfl) hl ha (by omega) (fun h=>by cases h) rfl hT hk hTk ht hv
    have e:tot+m+Ch.tt (n - m) (c - 1)+Ch.tt m c=tot+Ch.tt n c:=by omega
    refine⟨⟨x1,by show(Mc.step _ 1 (m:Int)).2=0;rw[s1],?_⟩,fun x=>?_⟩
    ·show Goes (nm l) (Mc.step _ 1 (m:Int)).1 _ _
     rw[s1]
     refine hP.goes.trans ⟨x2,by show(Mc.step _ 3 (k:Int)).2=0;rw[s2],?_⟩
     show Goes (nm l) (Mc.step _ 3 (k:Int)).1 _ _
     rw[s2,← e]
     exact hL.goes
    ·have q1:=hP.oft x
     have q2:=hL.oft x
     show(if (1:Int)=1∧a≤x∧x<a+m then 1 else 0)+oft (Mc.step ⟨l,a,p,tot,T⟩ 1 (m:Int)).1 _ x≤_
     rw[s1,oft_app x hP.goes.does]
     show _+(_+((if (3:Int)=1∧_ then 1 else 0)+oft (Mc.step _ 3 (k:Int)).1 _ x))≤_
     rw[s2,if_neg (c:=(3:Int)=1∧_) (fun h=>absurd h.1 (by decide))]
     dsimp only
     split at q1<;>split at q2<;>split<;>split<;>omega
def rl (l n:Nat):List Mc.Act:=if l=0 then [(5,0)] else pt l l n (List.replicate n false) true
theorem rep_get {n i:Nat}(h:i<n):(List.replicate n (-1:Int)).getD i 0 = -1:=by simp[h]
theorem vac_rep (n:Nat):vac (List.replicate n (-1))=n:=by
 induction n with
 | zero=>rfl
 | succ n ih=>rw[List.replicate_succ,vac,ih,if_pos (by decide)];omega
theorem rl_part {l n:Nat}(h0:1≤l)(hl:l<65536)(hn:1≤n∧n≤1048576):Part l l n 0 (-1) 0 (List.replicate n (-1)) (List.replicate n (-1)) (rl l n):=by
 unfold rl
 rw[if_neg (by omega),← hb_new]
 exact pt_part (lp_part l) l n (List.replicate n (-1)) true l 0 (-1) 0 (Nat.le_refl _) h0 (by omega) (by omega) (by omega) (fun _=>by omega) rfl (by simpa using hn.1) (by simpa using hn.2)
  (fun i hi=>by rw[rep_get (by simpa using hi)];omega) (vac_rep n) (fun _=>hn.1)
theorem end_ (l:Int)(tot:Int)(n:Nat):nm l ⟨l,0,0,tot,List.replicate n (-1)⟩=none:=by
 show rv l 0 0 (List.replicate n (-1))=none
 by_cases h:okS l 0 0 (List.replicate n (-1))
 ·rw[rv_ok h]
  unfold rw0
  have:tmx (List.replicate n (-1)) (List.replicate n (-1:Int)).length≤-1:=Sd.tmx_le _ _ (by omega) _ fun i hi=>by rw[rep_get (by simpa using hi)];exact Int.le_refl _
  rw[show en l 0=0 from rfl,if_neg (by omega),if_pos rfl]
 ·exact rv_no h
theorem rl_goes {l n:Nat}(hl:l<65536)(hn:1≤n∧n≤1048576):Goes (nm l) (Mc.new l n) (rl l n) ⟨l,0,0,Ch.tt l n,List.replicate n (-1)⟩:=by
 by_cases h0:l=0
 ·subst h0
  have hx:nm (0:Nat) (Mc.new (0:Nat) n)=some (5,0):=by
   show rv 0 0 (-1) (List.replicate n (-1))=_
   have hok:okS 0 0 (-1) (List.replicate n (-1)):=⟨⟨by omega,by omega⟩,⟨by omega,by omega⟩,⟨by omega,by omega⟩,⟨by simpa using hn.1,by simpa using hn.2⟩,fun i hi=>by rw[rep_get (by simpa using hi)];omega⟩
   rw[rv_ok hok]
   unfold rw0
   rw[if_neg (by omega),if_neg (by omega),if_pos ⟨by omega,rfl⟩]
  have hs:Mc.step (Mc.new (0:Nat) n) 5 0=(⟨((0:Nat):Int),0,0,0,List.replicate n (-1)⟩,0):=Sd.step_seed (m:=Mc.new (0:Nat) n) rfl rfl
  refine⟨hx,by rw[hs],?_⟩
  rw[hs,tt_0]
  rfl
 ·have:=(rl_part (by omega) hl hn).goes
  rw[Int.zero_add] at this
  exact this
theorem lp_cnk:∀ (f n c k:Nat) (own:List Bool) (last:Bool),n≤f→1≤n→(n=1→last=false)→1≤c→n≤65536 →
 cnk 5 (lp f n c k own last)=0∧cnk 6 (lp f n c k own last)=(if last then 1 else 0)∧cnk 7 (lp f n c k own last)+(if last then 1 else 0)=n∧(lp f n c k own last).length+3≤5 * n:=by
 intro f
 induction f with
 | zero=>intro n c k own last hf hn;omega
 | succ f ih=>
   intro n c k own last hf hn h1 hc hn2
   by_cases hn1:n=1
   ·subst hn1
    have:=h1 rfl
    subst this
    rw[lp_one]
    simp[cnk]
   ·rw[lp_more _ _ _ _ _ _ (by omega)]
    obtain⟨m,hm,m1,m2,m3,_⟩:=sp_all n c (by omega) (by omega) (by omega)
    rw[hm,Int.toNat_natCast]
    have hL:=ih m c k own false (by omega) m1 (fun _=>rfl) hc (by omega)
    have hP:cnk 5 (pt f (n - m) (c - 1) own last)=0∧cnk 6 (pt f (n - m) (c - 1) own last)=(if last then 1 else 0)∧cnk 7 (pt f (n - m) (c - 1) own last)+(if last then 1 else 0)=((n - m:Nat):Int)∧(pt f (n - m) (c - 1) own last).length+2≤5 * (n - m):=by
     unfold pt
     by_cases e:n - m=1
     ·rw[if_pos e,e]
      cases last<;>simp[turn,cnk]
     ·rw[if_neg e]
      have:=ih (n - m) (c - 1) (lst own) (own.set (lst own) true) last (by omega) (by omega) (fun h=>absurd h e) (by
       apply Classical.byContradiction
       intro h2
       exact e (m3 (by omega))) (by omega)
      simp only[cnk,List.length_cons]
      omega
    simp only[cnk,Sd.cnk_app,List.length_cons,List.length_append]
    simp only[Bool.false_eq_true,if_false] at hL
    omega
theorem rl_len {l n:Nat}(hl:l<65536)(hn:1≤n):(rl l n).length≤5 * l+1:=by
 unfold rl
 by_cases h0:l=0
 ·rw[if_pos h0];simp
 rw[if_neg h0]
 unfold pt
 by_cases e:l=1
 ·rw[if_pos e];simp
 ·rw[if_neg e]
  have:=lp_cnk l l n (lst (List.replicate n false)) ((List.replicate n false).set (lst (List.replicate n false)) true) true (Nat.le_refl _) (by omega) (fun h=>absurd h e) hn (by omega)
  simp only[List.length_cons]
  omega
end Rv
end Go.Proofs.YtphppbonljdibaaGreat
