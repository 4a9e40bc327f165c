import Derived.LoadGo2
import Derived.Test.YtphppbonljdibaaGreatTB00
import Derived.Laws.EntriesVeiled
set_option maxRecDepth 100000
set_option maxHeartbeats 4000000
set_option linter.unusedVariables false
set_option linter.unusedSimpArgs false
namespace Go.Proofs.YtphppbonljdibaaGreat
namespace Mc
structure St where
 l:Int
 at_:Int
 pend:Int
 tot:Int
 tags:List Int
def right (k n:Int):Bool:=
 if k<1∨9<k then false
 else if k=1 then decide (1≤n∧n<65536)
 else if k≤4 then decide (0≤n∧n<1048576)
 else decide (n=0)
theorem right_def (k n:Int):right k n=if k<1∨9<k then false else if k=1 then decide (1≤n∧n<65536) else if k≤4 then decide (0≤n∧n<1048576) else decide (n=0):=rfl
def St.tag (m:St)(n:Int):Int:=m.tags.getD n.toNat 0
def begin_ (m:St)(a:Int):St×Int:=
 if m.pend≠-1 then (m,18) else if m.at_≠m.l - a then (m,17) else ({ m with pend:=m.at_ },0)
def reverse (m:St):St×Int:=
 if m.pend≤0 then (m,18) else if m.at_≠m.pend - 1 then (m,17) else ({ m with pend:=m.at_ },0)
def step (m:St)(k n:Int):St×Int:=
 if right k n=false∨7<k then (m,2)
 else if 2≤k∧k≤4∧(m.tags.length:Int)≤n then (m,2)
 else if k=1 then (if m.l - m.at_<n then (m,17) else ({ m with at_:=m.at_+n,tot:=m.tot+n },0))
 else if k=2 then (if 0≤m.tag n then (m,15) else ({ m with tags:=m.tags.set n.toNat m.at_ },0))
 else if k=3 then (if m.tag n<0 then (m,16) else ({ m with at_:=m.tag n },0))
 else if k=4 then (if m.tag n<0 then (m,16) else ({ m with tags:=m.tags.set n.toNat (-1) },0))
 else if k=5 then begin_ m 0
 else if k=6 then begin_ m 1
 else reverse m
structure Inv (m:St):Prop where
 l0:0≤m.l
 l1:m.l≤65535
 a0:0≤m.at_
 a1:m.at_≤m.l
 p0:-1≤m.pend
 p1:m.pend≤m.l
 tg:∀ x∈m.tags,-1≤x∧x≤m.l
 ln:m.tags.length≤1048576
 t0:0≤m.tot
theorem Inv.tag {m:St}(h:Inv m)(n:Int)(h0:0≤n)(h1:n<m.tags.length):-1≤m.tag n∧m.tag n≤m.l:=by
 have hlt:n.toNat<m.tags.length:=by omega
 have e:m.tag n=m.tags[n.toNat]:=by simp[St.tag,hlt]
 rw[e]
 exact h.tg _ (List.getElem_mem hlt)
theorem right_one {k n:Int}(h:right k n=true)(h1:k=1):1≤n∧n<65536:=by
 subst h1
 simpa [right] using h
theorem right_slot {k n:Int}(h:right k n=true)(h2:2≤k)(h4:k≤4):0≤n∧n<1048576:=by
 have h0:¬ (k<1∨9<k):=by omega
 simpa [right,h0,show k≠1 by omega,h4] using h
theorem right_none {k n:Int}(h:right k n=true)(h5:4<k):n=0∧k≤9:=by
 by_cases h0:k<1∨9<k
 ·simp[right,h0] at h
 ·refine⟨?_,by omega⟩
  simpa [right,h0,show k≠1 by omega,show ¬ k≤4 by omega] using h
theorem right_lo {k n:Int}(h:right k n=true):1≤k∧k≤9:=by
 by_cases h0:k<1∨9<k
 ·simp[right,h0] at h
 ·omega
theorem Inv.step {m:St}(h:Inv m)(k n:Int):Inv (step m k n).1:=by
 unfold Mc.step
 by_cases h1:right k n=false∨7<k
 ·rw[if_pos h1];exact h
 rw[if_neg h1]
 have hr:right k n=true:=by
  cases e:right k n
  ·exact absurd (Or.inl e) h1
  ·rfl
 have hk:=right_lo hr
 by_cases h2:2≤k∧k≤4∧(m.tags.length:Int)≤n
 ·rw[if_pos h2];exact h
 rw[if_neg h2]
 obtain⟨l0,l1,a0,a1,p0,p1,tg,ln,t0⟩:=h
 by_cases e1:k=1
 ·rw[if_pos e1]
  have:=right_one hr e1
  split
  ·exact⟨l0,l1,a0,a1,p0,p1,tg,ln,t0⟩
  ·exact⟨l0,l1,by simp only;omega,by simp only;omega,p0,p1,tg,ln,by simp only;omega⟩
 rw[if_neg e1]
 by_cases e2:k=2
 ·rw[if_pos e2]
  split
  ·exact⟨l0,l1,a0,a1,p0,p1,tg,ln,t0⟩
  ·refine⟨l0,l1,a0,a1,p0,p1,fun x hx=>?_,by simpa using ln,t0⟩
   rcases List.mem_or_eq_of_mem_set hx with h|rfl
   ·exact tg x h
   ·simp only;omega
 rw[if_neg e2]
 by_cases e3:k=3
 ·rw[if_pos e3]
  have hn:=right_slot hr (by omega) (by omega)
  have ht:=Inv.tag ⟨l0,l1,a0,a1,p0,p1,tg,ln,t0⟩ n hn.1 (by omega)
  split
  ·exact⟨l0,l1,a0,a1,p0,p1,tg,ln,t0⟩
  ·exact⟨l0,l1,by simp only;omega,by simp only;omega,p0,p1,tg,ln,t0⟩
 rw[if_neg e3]
 by_cases e4:k=4
 ·rw[if_pos e4]
  split
  ·exact⟨l0,l1,a0,a1,p0,p1,tg,ln,t0⟩
  ·refine⟨l0,l1,a0,a1,p0,p1,fun x hx=>?_,by simpa using ln,t0⟩
   rcases List.mem_or_eq_of_mem_set hx with h|rfl
   ·exact tg x h
   ·simp only;omega
 rw[if_neg e4]
 have hb:∀ a,Inv (begin_ m a).1:=by
  intro a
  unfold begin_
  split
  ·exact⟨l0,l1,a0,a1,p0,p1,tg,ln,t0⟩
  ·split
   ·exact⟨l0,l1,a0,a1,p0,p1,tg,ln,t0⟩
   ·exact⟨l0,l1,a0,a1,by simp only;omega,by simp only;omega,tg,ln,t0⟩
 by_cases e5:k=5
 ·rw[if_pos e5];exact hb 0
 rw[if_neg e5]
 by_cases e6:k=6
 ·rw[if_pos e6];exact hb 1
 rw[if_neg e6]
 unfold Mc.reverse
 split
 ·exact⟨l0,l1,a0,a1,p0,p1,tg,ln,t0⟩
 ·split
  ·exact⟨l0,l1,a0,a1,p0,p1,tg,ln,t0⟩
  ·exact⟨l0,l1,a0,a1,by simp only;omega,by simp only;omega,tg,ln,t0⟩
theorem step_len (m:St)(k n:Int):(step m k n).1.tags.length=m.tags.length:=by
 unfold step begin_ reverse
 repeat' (first|split|rfl|(simp only[List.length_set]))
theorem step_l (m:St)(k n:Int):(step m k n).1.l=m.l:=by
 unfold step begin_ reverse
 repeat' (first|split|rfl)
theorem step_tot (m:St)(k n:Int):m.tot≤(step m k n).1.tot∧(step m k n).1.tot≤m.tot+65535:=by
 unfold step
 by_cases h1:right k n=false∨7<k
 ·rw[if_pos h1];simp only;omega
 rw[if_neg h1]
 have hr:right k n=true:=by
  cases e:right k n
  ·exact absurd (Or.inl e) h1
  ·rfl
 split
 ·simp only;omega
 split
 ·rename_i e1
  have:=right_one hr e1
  split<;>(simp only;omega)
 all_goals
  unfold begin_ reverse
  repeat' (first|split|(simp only;omega))
theorem step_err (m:St)(k n:Int)(h:(step m k n).2≠0):(step m k n).1=m:=by
 revert h
 unfold step begin_ reverse
 repeat' (first|split|(intro _;rfl)|(intro h;exact absurd rfl h))
end Mc
end Go.Proofs.YtphppbonljdibaaGreat
namespace Go.Proofs.YtphppbonljdibaaGreat
open Go.ChangeShapes Go.WideShapes Go.ChangeAt Go.RowKit
def tbk:Value→Option Nat
 | .slice (some a) n _=>if n=0 then none else some a.block
 | _=>none
def mo (b:Nat)(v:Value)(k:Nat):Prop:=k=b∨tbk v=some k
def Tg (w:World)(b:Nat)(v:Value)(tags:List Int):Prop:=
 ∃ A c,v=.slice A tags.length c∧(A=none→c=0)∧(0<tags.length→∃ tb N f,A=some ⟨tb,0,none⟩∧tb≠b∧tags.length≤N∧w.rowIs tb 3 N f∧∀ i,i<tags.length→f i=.int .i64 (tags.getD i 0))
def mf (m:Mc.St)(v:Value):Nat→Value
 | 0=>.int .i64 m.at_
 | 1=>.int .i64 m.pend
 | 2=>.int .i64 m.l
 | 3=>.int .i64 m.tot
 | _=>v
def Mach (w:World)(b:Nat)(v:Value)(m:Mc.St):Prop:=w.rowIs b 100 5 (mf m v)∧Tg w b v m.tags
theorem Tg.keep {own:Nat→Prop}{w w':World}{b:Nat}{v:Value}{tags:List Int}(h:Tg w b v tags)(hk:Keep own w w')(hn:∀ k,tbk v=some k→¬ own k):Tg w' b v tags:=by
 obtain⟨A,c,rfl,hz,hx⟩:=h
 refine⟨A,c,rfl,hz,fun h0=>?_⟩
 obtain⟨tb,N,f,rfl,hne,hN,hr,hf⟩:=hx h0
 exact⟨tb,N,f,rfl,hne,hN,hk.row (hn tb (by show(if tags.length=0 then none else some tb)=some tb;rw[if_neg (by omega)])) hr,hf⟩
theorem Mach.keep {own:Nat→Prop}{w w':World}{b:Nat}{v:Value}{m:Mc.St}(h:Mach w b v m)(hk:Keep own w w')(hn:∀ k,mo b v k→¬ own k):Mach w' b v m:=
 ⟨hk.row (hn b (.inl rfl)) h.1,h.2.keep hk fun k hk'=>hn k (.inr hk')⟩
theorem Mach.kw {w w':World}{b:Nat}{v:Value}{m:Mc.St}(h:Mach w b v m)(hk:KW w w'):Mach w' b v m:=h.keep (hk.keep (own:=fun _=>False)) fun _ _ h=>h
theorem Mach.lt {w:World}{b:Nat}{v:Value}{m:Mc.St}(h:Mach w b v m){k:Nat}(hk:mo b v k):k<w.heap.size:=by
 rcases hk with rfl|hk
 ·exact h.1.lt
 ·obtain⟨A,c,rfl,_,hx⟩:=h.2
  cases A with
  | none=>cases hk
  | some a=>
    by_cases h0:m.tags.length=0
    ·simp[tbk,h0] at hk
    ·obtain⟨tb,N,f,hA,_,_,hr,_⟩:=hx (by omega)
     cases hA
     simp[tbk,h0] at hk
     subst hk
     exact hr.lt
theorem Mach.size {w:World}{b:Nat}{v:Value}{m:Mc.St}(h:Mach w b v m):b<w.heap.size:=h.1.lt
theorem Mach.tag {w:World}{b:Nat}{v:Value}{m:Mc.St}(h:Mach w b v m){n:Nat}(hn:n<m.tags.length):
 ∃ tb c,v=.slice (some ⟨tb,0,none⟩) m.tags.length c∧tb≠b∧tb<w.heap.size∧w.cell? ⟨tb,n,none⟩=some (.int .i64 (m.tags.getD n 0))∧w.frozen? ⟨tb,n,none⟩=false:=by
 obtain⟨A,c,hv,_,hx⟩:=h.2
 obtain⟨tb,N,f,rfl,hne,hN,hr,hf⟩:=hx (by omega)
 exact⟨tb,c,hv,hne,hr.lt,by rw[hr.cell (by omega),hf n hn],hr.frozen n⟩
theorem Mach.setTag {w:World}{b tb c:Nat}{v:Value}{m:Mc.St}(h:Mach w b v m)(hv:v=.slice (some ⟨tb,0,none⟩) m.tags.length c){n:Nat}(hn:n<m.tags.length)(x:Int):
 Mach (w.setCell ⟨tb,n,none⟩ (.int .i64 x)) b v { m with tags:=m.tags.set n x }:=by
 obtain⟨h1,A,c',hv',hz,hx⟩:=h
 subst hv
 obtain⟨tb',N,f,rfl,hne,hN,hr,hf⟩:=hx (by omega)
 simp only[Value.slice.injEq,Option.some.injEq,Addr.mk.injEq] at hv'
 obtain⟨⟨rfl,_⟩,_,rfl⟩:=hv'
 refine⟨h1.setOther (Ne.symm hne) _,_,c,by simp,hz,fun _=>⟨tb,N,_,rfl,hne,by simpa using hN,hr.set n _,fun i hi=>?_⟩⟩
 simp only[List.length_set] at hi
 by_cases e:i=n
 ·subst e;simp[hi]
 ·rw[if_neg e,hf i hi]
  simp[List.getElem?_set_ne (Ne.symm e)]
theorem Mach.set {w:World}{b:Nat}{v:Value}{m m':Mc.St}(h:Mach w b v m)(i:Nat)(x:Value)(ht:m'.tags=m.tags)(hi:∀ j,j<5→mf m' v j=if j=i then x else mf m v j):
 Mach (w.setCell ⟨b,i,none⟩ x) b v m':=by
 refine⟨(h.1.set i x).congr fun j hj=>(hi j hj).symm,?_⟩
 rw[ht]
 obtain⟨A,c,rfl,hz,hx⟩:=h.2
 refine⟨A,c,rfl,hz,fun h0=>?_⟩
 obtain⟨tb,N,f,rfl,hne,hN,hr,hf⟩:=hx h0
 exact⟨tb,N,f,rfl,hne,hN,hr.setOther hne _,hf⟩
theorem Mach.len {w:World}{b:Nat}{v:Value}{m:Mc.St}(h:Mach w b v m):∃ A c,v=.slice A m.tags.length c:=by
 obtain⟨A,c,hv,_,_⟩:=h.2
 exact⟨A,c,hv⟩
theorem long_any (l:Int)(w:World):Calls Tryz.prog 47 #[.int .i64 l] w fun e w'=>e=.returned (.bool (decide (0≤l∧l<65536)))∧w=w':=by
 by_cases h0:0≤l
 ·by_cases h1:l<65536
  ·go_enter Tryz.func47,Tryz.ntmps47
   go_wp2
   go_ret
   exact⟨ret_bool (by first|rfl|exact(decide_eq_true ⟨h0,h1⟩).symm),rfl⟩
  ·have d1:decide (l<65536)=false:=by simpa using h1
   go_enter Tryz.func47,Tryz.ntmps47
   go_wp2
   go_ret
   exact⟨ret_bool (by first|rfl|exact(decide_eq_false (by omega)).symm),rfl⟩
 ·have d0:decide (0≤l)=false:=by simpa using h0
  go_enter Tryz.func47,Tryz.ntmps47
  go_wp2
  go_ret
  exact⟨ret_bool (by first|rfl|exact(decide_eq_false (by omega)).symm),rfl⟩
theorem numbered_any (k:Int)(w:World):Calls Tryz.prog 88 #[.int .i64 k] w fun e w'=>e=.returned (.bool (decide (1≤k∧k≤4)))∧w=w':=by
 by_cases h0:1≤k
 ·by_cases h1:k≤4
  ·go_enter Tryz.func88,Tryz.ntmps88
   go_wp2
   go_ret
   exact⟨ret_bool (by first|rfl|exact(decide_eq_true ⟨h0,h1⟩).symm),rfl⟩
  ·have d1:decide (k≤4)=false:=by simpa using h1
   go_enter Tryz.func88,Tryz.ntmps88
   go_wp2
   go_ret
   exact⟨ret_bool (by first|rfl|exact(decide_eq_false (by omega)).symm),rfl⟩
 ·have d0:decide (1≤k)=false:=by simpa using h0
  go_enter Tryz.func88,Tryz.ntmps88
  go_wp2
  go_ret
  exact⟨ret_bool (by first|rfl|exact(decide_eq_false (by omega)).symm),rfl⟩
theorem right_any (k n:Int)(w:World):Calls Tryz.prog 50 #[.agg #[.int .i64 k,.int .i64 n]] w fun e w'=>e=.returned (.bool (Mc.right k n))∧KW w w':=by
 have HR:=hid (Mc.right_def k n)
 have hN:=hid (fun W=>numbered_any k W)
 have hk:=(KW.refl w).alloc (.cells #[.int .i64 k,.int .i64 n] 55)
 have HK:=hid hk
 by_cases h0:k<1
 ·go_enter Tryz.func50,Tryz.ntmps50
  go_wp2
  go_ret
  exact⟨ret_bool (by rw[HR.out,if_pos (Or.inl h0)]),HK.out⟩
 have d0:decide (k<1)=false:=by simpa using h0
 by_cases h1:9<k
 ·go_enter Tryz.func50,Tryz.ntmps50
  go_wp2
  go_ret
  exact⟨ret_bool (by rw[HR.out,if_pos (Or.inr h1)]),HK.out⟩
 have d1:decide (9<k)=false:=by simpa using h1
 have h01:¬ (k<1∨9<k):=by omega
 by_cases h2:k=1
 ·subst h2
  rw[if_neg (by omega),if_pos rfl] at HR
  by_cases h3:1≤n
  ·by_cases h4:n<65536
   ·go_enter Tryz.func50,Tryz.ntmps50
    go_wp2
    go_ret
    exact⟨ret_bool (by rw[HR.out];first|exact decide_eq_true (by omega)|exact(decide_eq_true (by omega)).symm),HK.out⟩
   ·have d3:decide (n<65536)=false:=by simpa using h4
    go_enter Tryz.func50,Tryz.ntmps50
    go_wp2
    go_ret
    exact⟨ret_bool (by rw[HR.out];first|exact decide_eq_false (by omega)|exact(decide_eq_false (by omega)).symm),HK.out⟩
  ·have d3:decide (1≤n)=false:=by simpa using h3
   go_enter Tryz.func50,Tryz.ntmps50
   go_wp2
   go_ret
   exact⟨ret_bool (by rw[HR.out];first|exact decide_eq_false (by omega)|exact(decide_eq_false (by omega)).symm),HK.out⟩
 have d2:(k==1)=false:=by simpa using h2
 rw[if_neg h01,if_neg h2] at HR
 by_cases h5:k≤4
 ·rw[if_pos h5] at HR
  have HN:=hid (fun W=>hN.out W)
  rw[show decide (1≤k∧k≤4)=true from by simp;omega] at HN
  by_cases h3:0≤n
  ·by_cases h4:n<1048576
   ·go_enter Tryz.func50,Tryz.ntmps50
    go_wp2_with (go_at_call 88;refine(HN.out _).mono ?_;rintro e w1 ⟨rfl,rfl⟩)
    go_ret
    exact⟨ret_bool (by rw[HR.out];first|exact decide_eq_true (by omega)|exact(decide_eq_true (by omega)).symm),HK.out⟩
   ·have d3:decide (n<1048576)=false:=by simpa using h4
    go_enter Tryz.func50,Tryz.ntmps50
    go_wp2_with (go_at_call 88;refine(HN.out _).mono ?_;rintro e w1 ⟨rfl,rfl⟩)
    go_ret
    exact⟨ret_bool (by rw[HR.out];first|exact decide_eq_false (by omega)|exact(decide_eq_false (by omega)).symm),HK.out⟩
  ·have d3:decide (0≤n)=false:=by simpa using h3
   go_enter Tryz.func50,Tryz.ntmps50
   go_wp2_with (go_at_call 88;refine(HN.out _).mono ?_;rintro e w1 ⟨rfl,rfl⟩)
   go_ret
   exact⟨ret_bool (by rw[HR.out];first|exact decide_eq_false (by omega)|exact(decide_eq_false (by omega)).symm),HK.out⟩
 ·rw[if_neg h5] at HR
  have HN:=hid (fun W=>hN.out W)
  rw[show decide (1≤k∧k≤4)=false from by simp;omega] at HN
  by_cases h3:n=0
  ·subst h3
   go_enter Tryz.func50,Tryz.ntmps50
   go_wp2_with (go_at_call 88;refine(HN.out _).mono ?_;rintro e w1 ⟨rfl,rfl⟩)
   go_ret
   exact⟨ret_bool (by rw[HR.out];simp),HK.out⟩
  ·have d3:(n==0)=false:=by simpa using h3
   go_enter Tryz.func50,Tryz.ntmps50
   go_wp2_with (go_at_call 88;refine(HN.out _).mono ?_;rintro e w1 ⟨rfl,rfl⟩)
   go_ret
   exact⟨ret_bool (by rw[HR.out];first|exact decide_eq_false (by omega)|exact(decide_eq_false (by omega)).symm),HK.out⟩
def mvs (b:Nat):Array Value:=#[.nilFunc,.func (.func 89) #[.pointer (some ⟨b,0,none⟩)] #[],.func (.func 90) #[.pointer (some ⟨b,0,none⟩)] #[],.func (.func 91) #[.pointer (some ⟨b,0,none⟩)] #[],.func (.func 92) #[.pointer (some ⟨b,0,none⟩)] #[],.func (.func 93) #[.pointer (some ⟨b,0,none⟩)] #[],.func (.func 94) #[.pointer (some ⟨b,0,none⟩)] #[],.func (.func 95) #[.pointer (some ⟨b,0,none⟩)] #[]]
theorem moves_any (b:Nat)(w:World):
 Calls Tryz.prog 51 #[.pointer (some ⟨b,0,none⟩)] w fun e w'=>e=.returned (.agg (mvs b))∧KW w w':=by
 go_enter Tryz.func51,Tryz.ntmps51
 go_wp2_with fail
 exact bodyPost_ret (results_cell_row rfl _ _ _ _ _ (0,0) _ rfl (heap_alloc_new w _) Tryz.underlying106 rfl (by kernel_rfl)) rfl ⟨rfl,(KW.refl w).alloc _⟩
def Did (w:World)(b:Nat)(v:Value)(m':Mc.St)(c:Int)(e:Ending)(w':World):Prop:=e=.returned (.int .i64 c)∧Mach w' b v m'∧Keep (mo b v) w w'
theorem advance_any (l a p t:Int)(tags:List Int)(n:Int)(b:Nat)(v:Value)(w:World)(hM:Mach w b v ⟨l,a,p,t,tags⟩)(hI:Mc.Inv ⟨l,a,p,t,tags⟩)(ht:t≤4611686018427387904)(n0:0≤n)(n1:n≤65535):
 Calls Tryz.prog 89 #[.pointer (some ⟨b,0,none⟩),.int .i64 n] w (Did w b v (if l - a<n then ⟨l,a,p,t,tags⟩ else ⟨l,a+n,p,t+n,tags⟩) (if l - a<n then 17 else 0)):=by
 obtain⟨l0,l1,a0,a1,p0,p1,tg,ln,t0⟩:=hI
 simp only at l0 l1 a0 a1 p0 p1 t0
 clear tg ln
 have c0:=hM.1.cell (i:=0) (by omega)
 have c2:=hM.1.cell (i:=2) (by omega)
 have c3:=hM.1.cell (i:=3) (by omega)
 have f0:=hM.1.frozen 0
 have f3:=hM.1.frozen 3
 simp only[mf] at c0 c2 c3
 have HM:=hid hM
 clear hM
 have hcmp:Hid (l - a<n)∨Hid (¬ l - a<n):=by by_cases h:l - a<n;exact .inl h;exact .inr h
 have L1:IntKind.i64.wrap (l - a)=l - a:=IntWalk.i64_in _ (by omega)
 rcases hcmp with hc|hc
 ·rw[if_pos hc.out,if_pos hc.out]
  have D:=hc.out
  go_enter Tryz.func89,Tryz.ntmps89
  go_wp2_with fail
  have hXS:=And.intro c0 c2
  refine wpX_region (S:=fun w'=>w'.cell? ⟨b,0,none⟩=some (.int .i64 a)∧w'.cell? ⟨b,2,none⟩=some (.int .i64 l)) (L:=99) (by kernel_rfl) ?_
  refine tk 0 ?_ (fun _ _=>?_) hXS ?_;rotate_left;· go_simp;try rfl
  simp only[lsz,lss]
  refine tk 1 ?_ (fun _ _=>?_) hXS ?_;rotate_left;· go_simp;try rfl
  simp only[lsz,lss]
  refine tk 2 ?_ (fun _ _=>?_) hXS ?_;rotate_left;· go_simp;try rfl
  simp only[lsz,lss]
  refine tk 3 ?_ (fun _ _=>?_) hXS ?_;rotate_left;· go_simp;try rfl
  simp only[lsz,lss]
  refine tk 4 ?_ (fun _ _=>?_) hXS ?_;rotate_left;· go_simp;try rfl
  simp only[lsz,lss]
  refine tk 5 ?_ (fun _ _=>?_) hXS ?_;rotate_left;· go_simp;try rfl
  simp only[lsz,lss]
  refine tk 6 ?_ (fun _ _=>?_) hXS ?_;rotate_left;· go_simp;try rfl
  simp only[lsz,lss]
  refine tk 7 ?_ (fun _ _=>?_) hXS ?_;rotate_left;· go_simp;try rfl
  simp only[lsz,lss]
  refine tk 8 ?_ (fun _ _=>?_) hXS ?_;rotate_left;· go_simp;try rfl
  simp only[lsz,lss]
  refine tk 9 ?_ (fun _ _=>?_) hXS ?_;rotate_left;· go_simp;try rfl
  simp only[lsz,lss]
  refine tk 10 ?_ (fun _ _=>?_) hXS ?_;rotate_left;· go_simp;try rfl
  simp only[lsz,lss]
  refine tk 11 ?_ (fun _ _=>?_) hXS ?_;rotate_left;· go_simp;try rfl
  simp only[lsz,lss]
  refine wpX_done (by kernel_rfl) ?_
  go_wp2_with fail
  go_ret
  exact⟨rfl,HM.out.kw (KW.refl w).drew,(KW.refl w).drew.keep⟩
 ·rw[if_neg hc.out,if_neg hc.out]
  have D:decide (l - a<n)=false:=decide_eq_false hc.out
  have B1:a+n≤65535:=by have:=hc.out;omega
  go_enter Tryz.func89,Tryz.ntmps89
  go_wp2_with fail
  have hXS:=And.intro c0 c2
  refine wpX_region (S:=fun w'=>w'.cell? ⟨b,0,none⟩=some (.int .i64 a)∧w'.cell? ⟨b,2,none⟩=some (.int .i64 l)) (L:=99) (by kernel_rfl) ?_
  refine tk 0 ?_ (fun _ _=>?_) hXS ?_;rotate_left;· go_simp;try rfl
  simp only[lsz,lss]
  refine tk 1 ?_ (fun _ _=>?_) hXS ?_;rotate_left;· go_simp;try rfl
  simp only[lsz,lss]
  refine tk 2 ?_ (fun _ _=>?_) hXS ?_;rotate_left;· go_simp;try rfl
  simp only[lsz,lss]
  refine tk 3 ?_ (fun _ _=>?_) hXS ?_;rotate_left;· go_simp;try rfl
  simp only[lsz,lss]
  refine tk 4 ?_ (fun _ _=>?_) hXS ?_;rotate_left;· go_simp;try rfl
  simp only[lsz,lss]
  refine tk 5 ?_ (fun _ _=>?_) hXS ?_;rotate_left;· go_simp;try rfl
  simp only[lsz,lss]
  refine tk 6 ?_ (fun _ _=>?_) hXS ?_;rotate_left;· go_simp;try rfl
  simp only[lsz,lss]
  refine tk 7 ?_ (fun _ _=>?_) hXS ?_;rotate_left;· go_simp;try rfl
  simp only[lsz,lss]
  refine tk 8 ?_ (fun _ _=>?_) hXS ?_;rotate_left;· go_simp;try rfl
  simp only[lsz,lss]
  refine tk 9 ?_ (fun _ _=>?_) hXS ?_;rotate_left;· go_simp;try rfl
  simp only[lsz,lss]
  refine tk 10 ?_ (fun _ _=>?_) hXS ?_;rotate_left;· go_simp;try rfl
  simp only[lsz,lss]
  refine tk 11 ?_ (fun _ _=>?_) hXS ?_;rotate_left;· go_simp;try rfl
  simp only[lsz,lss]
  refine wpX_done (by kernel_rfl) ?_
  clear L1
  go_wp2_with fail
  go_ret
  refine⟨rfl,?_,?_⟩
  ·exact Mach.set (m:=⟨l,a+n,p,t,tags⟩) (Mach.set (m:=⟨l,a,p,t,tags⟩) (HM.out.kw (KW.refl w).drew) 0 _ rfl (fun j hj=>by rcases(show j=0∨j=1∨j=2∨j=3∨j=4 by omega) with rfl|rfl|rfl|rfl|rfl<;>rfl)) 3 _ rfl (fun j hj=>by rcases(show j=0∨j=1∨j=2∨j=3∨j=4 by omega) with rfl|rfl|rfl|rfl|rfl<;>rfl)
  ·exact((Keep.refl _ w).drew.setCell _ _ (.inl rfl)).setCell _ _ (.inl rfl)
theorem store_any (l a p t:Int)(tags:List Int)(n:Nat)(b:Nat)(v:Value)(w:World)(hM:Mach w b v ⟨l,a,p,t,tags⟩)(hn:n<tags.length)(hl:tags.length≤1048576):
 Calls Tryz.prog 90 #[.pointer (some ⟨b,0,none⟩),.int .i64 n] w (Did w b v (if 0≤tags.getD n 0 then ⟨l,a,p,t,tags⟩ else ⟨l,a,p,t,tags.set n a⟩) (if 0≤tags.getD n 0 then 15 else 0)):=by
 have c0:=hM.1.cell (i:=0) (by omega)
 have c4:=hM.1.cell (i:=4) (by omega)
 simp only[mf] at c0 c4
 obtain⟨tb,c,hv,hne,hlt,ct,ft⟩:=hM.tag hn
 simp only at hv ct
 have HM:=hid hM
 have HV:=hid hv
 have HW:=hid (fun(w:World) (hM:Mach w b v ⟨l,a,p,t,tags⟩)=>hM.setTag hv (n:=n) hn a)
 rw[hv] at c4
 clear hM hv
 have hcmp:Hid (0≤tags.getD n 0)∨Hid (¬ 0≤tags.getD n 0):=by by_cases h:0≤tags.getD n 0;exact .inl h;exact .inr h
 generalize tags.getD n 0=x at *
 generalize tags.length=N at *
 have HB:=hid hlt
 have HN:=hid hne
 clear hlt
 rcases hcmp with hc|hc
 ·rw[if_pos hc.out,if_pos hc.out]
  have D:=hc.out
  go_enter Tryz.func90,Tryz.ntmps90
  go_wp2_with fail
  go_ret
  exact⟨rfl,HM.out,Keep.refl _ w⟩
 ·rw[if_neg hc.out,if_neg hc.out]
  have D:decide (0≤x)=false:=decide_eq_false hc.out
  go_enter Tryz.func90,Tryz.ntmps90
  go_wp2_with fail
  have hXS:=And.intro c0 c4
  refine wpX_region (S:=fun w'=>w'.cell? ⟨b,0,none⟩=some (.int .i64 a)∧w'.cell? ⟨b,4,none⟩=some (.slice (some ⟨tb,0,none⟩) N c)) (L:=11) (by kernel_rfl) ?_
  refine tk 0 ?_ (fun _ _=>?_) hXS ?_;rotate_left;· go_simp;try rfl
  simp only[lsz,lss]
  refine tk 1 ?_ (fun _ _=>?_) hXS ?_;rotate_left;· go_simp;try rfl
  simp only[lsz,lss]
  refine tk 2 ?_ (fun _ _=>?_) hXS ?_;rotate_left;· go_simp;try rfl
  simp only[lsz,lss]
  refine tk 3 ?_ (fun _ _=>?_) hXS ?_;rotate_left;· go_simp;try rfl
  simp only[lsz,lss]
  refine tk 4 ?_ (fun _ _=>?_) hXS ?_;rotate_left;· go_simp;try rfl
  simp only[lsz,lss]
  refine tk 5 ?_ (fun _ _=>?_) hXS ?_;rotate_left;· go_simp;try rfl
  simp only[lsz,lss]
  refine tk 6 ?_ (fun _ _=>?_) hXS ?_;rotate_left;· go_simp;try rfl
  simp only[lsz,lss]
  refine tk 7 ?_ (fun _ _=>?_) hXS ?_;rotate_left;· go_simp;try rfl
  simp only[lsz,lss]
  refine tk 8 ?_ (fun _ _=>?_) hXS ?_;rotate_left;· go_simp;try rfl
  simp only[lsz,lss]
  refine tk 9 ?_ (fun _ _=>?_) hXS ?_;rotate_left;· go_simp;try rfl
  simp only[lsz,lss]
  refine tk 10 ?_ (fun _ _=>?_) hXS ?_;rotate_left;· go_simp;try rfl
  simp only[lsz,lss]
  refine wpX_hard (k:=11) (by kernel_rfl) rfl (fun K hK=>?_)
  go_simp
  refine hK _ _ (fun h=>absurd rfl h) ?_
  clear hK K
  refine wpX_done (by kernel_rfl) ?_
  go_wp2_with fail
  go_ret
  exact⟨rfl,(HW.out _ HM.out).kw (KW.refl _).drew,((Keep.refl _ w).setCell _ _ (.inr (by rw[HV.out];simp[tbk];omega))).drew⟩
theorem restore_any (l a p t:Int)(tags:List Int)(n:Nat)(b:Nat)(v:Value)(w:World)(hM:Mach w b v ⟨l,a,p,t,tags⟩)(hn:n<tags.length)(hl:tags.length≤1048576):
 Calls Tryz.prog 91 #[.pointer (some ⟨b,0,none⟩),.int .i64 n] w (Did w b v (if tags.getD n 0<0 then ⟨l,a,p,t,tags⟩ else ⟨l,tags.getD n 0,p,t,tags⟩) (if tags.getD n 0<0 then 16 else 0)):=by
 have c0:=hM.1.cell (i:=0) (by omega)
 have c4:=hM.1.cell (i:=4) (by omega)
 have f0:=hM.1.frozen 0
 simp only[mf] at c0 c4
 obtain⟨tb,c,hv,hne,hlt,ct,ft⟩:=hM.tag hn
 simp only at hv ct
 have HM:=hid hM
 have HV:=hid hv
 rw[hv] at c4
 clear hM hv
 have hcmp:Hid (tags.getD n 0<0)∨Hid (¬ tags.getD n 0<0):=by by_cases h:tags.getD n 0<0;exact .inl h;exact .inr h
 generalize tags.getD n 0=x at *
 generalize tags.length=N at *
 have HB:=hid hlt
 have HN:=hid hne
 clear hlt
 rcases hcmp with hc|hc
 ·rw[if_pos hc.out,if_pos hc.out]
  have D:=hc.out
  go_enter Tryz.func91,Tryz.ntmps91
  go_wp2_with fail
  go_ret
  exact⟨rfl,HM.out,Keep.refl _ w⟩
 ·rw[if_neg hc.out,if_neg hc.out]
  have D:decide (x<0)=false:=decide_eq_false hc.out
  go_enter Tryz.func91,Tryz.ntmps91
  go_wp2_with fail
  go_ret
  exact⟨rfl,Mach.set (m:=⟨l,a,p,t,tags⟩) HM.out 0 _ rfl (fun j hj=>by rcases(show j=0∨j=1∨j=2∨j=3∨j=4 by omega) with rfl|rfl|rfl|rfl|rfl<;>rfl),(Keep.refl _ w).setCell _ _ (.inl rfl)⟩
theorem free_any (l a p t:Int)(tags:List Int)(n:Nat)(b:Nat)(v:Value)(w:World)(hM:Mach w b v ⟨l,a,p,t,tags⟩)(hn:n<tags.length)(hl:tags.length≤1048576):
 Calls Tryz.prog 92 #[.pointer (some ⟨b,0,none⟩),.int .i64 n] w (Did w b v (if tags.getD n 0<0 then ⟨l,a,p,t,tags⟩ else ⟨l,a,p,t,tags.set n (-1)⟩) (if tags.getD n 0<0 then 16 else 0)):=by
 have c4:=hM.1.cell (i:=4) (by omega)
 simp only[mf] at c4
 obtain⟨tb,c,hv,hne,hlt,ct,ft⟩:=hM.tag hn
 simp only at hv ct
 have HM:=hid hM
 have HV:=hid hv
 have HW:=hid (fun(w:World) (hM:Mach w b v ⟨l,a,p,t,tags⟩)=>hM.setTag hv (n:=n) hn (-1))
 rw[hv] at c4
 clear hM hv
 have hcmp:Hid (tags.getD n 0<0)∨Hid (¬ tags.getD n 0<0):=by by_cases h:tags.getD n 0<0;exact .inl h;exact .inr h
 generalize tags.getD n 0=x at *
 generalize tags.length=N at *
 have HB:=hid hlt
 have HN:=hid hne
 clear hlt
 rcases hcmp with hc|hc
 ·rw[if_pos hc.out,if_pos hc.out]
  have D:=hc.out
  go_enter Tryz.func92,Tryz.ntmps92
  go_wp2_with fail
  go_ret
  exact⟨rfl,HM.out,Keep.refl _ w⟩
 ·rw[if_neg hc.out,if_neg hc.out]
  have D:decide (x<0)=false:=decide_eq_false hc.out
  go_enter Tryz.func92,Tryz.ntmps92
  go_wp2_with fail
  go_ret
  exact⟨rfl,HW.out _ HM.out,(Keep.refl _ w).setCell _ _ (.inr (by rw[HV.out];simp[tbk];omega))⟩
theorem reverse_any (l a p t:Int)(tags:List Int)(n:Int)(b:Nat)(v:Value)(w:World)(hM:Mach w b v ⟨l,a,p,t,tags⟩)(hI:Mc.Inv ⟨l,a,p,t,tags⟩):
 Calls Tryz.prog 95 #[.pointer (some ⟨b,0,none⟩),.int .i64 n] w (Did w b v (Mc.reverse ⟨l,a,p,t,tags⟩).1 (Mc.reverse ⟨l,a,p,t,tags⟩).2):=by
 obtain⟨l0,l1,a0,a1,p0,p1,tg,ln,t0⟩:=hI
 simp only at l0 l1 a0 a1 p0 p1 t0
 clear tg ln
 have c0:=hM.1.cell (i:=0) (by omega)
 have c1:=hM.1.cell (i:=1) (by omega)
 have f1:=hM.1.frozen 1
 simp only[mf] at c0 c1
 have HM:=hid hM
 clear hM
 by_cases h1:p≤0
 ·have HE:=hid (show Mc.reverse ⟨l,a,p,t,tags⟩=(⟨l,a,p,t,tags⟩,18) from by unfold Mc.reverse;rw[if_pos h1])
  rw[HE.out]
  go_enter Tryz.func95,Tryz.ntmps95
  go_wp2_with fail
  go_ret
  exact⟨rfl,HM.out,Keep.refl _ w⟩
 have d1:decide (p≤0)=false:=decide_eq_false h1
 have L1:IntKind.i64.wrap (p - 1)=p - 1:=IntWalk.i64_in _ (by omega)
 by_cases h2:a=p - 1
 ·have HE:=hid (show Mc.reverse ⟨l,a,p,t,tags⟩=(⟨l,a,a,t,tags⟩,0) from by unfold Mc.reverse;rw[if_neg h1,if_neg (by simpa using h2)])
  rw[HE.out]
  have d2:(a != p - 1)=false:=by simpa using h2
  have H2:=hid h2
  clear h2
  go_enter Tryz.func95,Tryz.ntmps95
  go_wp2_with fail
  have hXS:=And.intro c0 c1
  refine wpX_region (S:=fun w'=>w'.cell? ⟨b,0,none⟩=some (.int .i64 a)∧w'.cell? ⟨b,1,none⟩=some (.int .i64 p)) (L:=99) (by kernel_rfl) ?_
  refine tk 0 ?_ (fun _ _=>?_) hXS ?_;rotate_left;· go_simp;try rfl
  simp only[lsz,lss]
  refine tk 1 ?_ (fun _ _=>?_) hXS ?_;rotate_left;· go_simp;try rfl
  simp only[lsz,lss]
  refine tk 2 ?_ (fun _ _=>?_) hXS ?_;rotate_left;· go_simp;try rfl
  simp only[lsz,lss]
  refine tk 3 ?_ (fun _ _=>?_) hXS ?_;rotate_left;· go_simp;try rfl
  simp only[lsz,lss]
  refine tk 4 ?_ (fun _ _=>?_) hXS ?_;rotate_left;· go_simp;try rfl
  simp only[lsz,lss]
  refine tk 5 ?_ (fun _ _=>?_) hXS ?_;rotate_left;· go_simp;try rfl
  simp only[lsz,lss]
  refine tk 6 ?_ (fun _ _=>?_) hXS ?_;rotate_left;· go_simp;try rfl
  simp only[lsz,lss]
  refine tk 7 ?_ (fun _ _=>?_) hXS ?_;rotate_left;· go_simp;try rfl
  simp only[lsz,lss]
  refine tk 8 ?_ (fun _ _=>?_) hXS ?_;rotate_left;· go_simp;try rfl
  simp only[lsz,lss]
  refine tk 9 ?_ (fun _ _=>?_) hXS ?_;rotate_left;· go_simp;try rfl
  simp only[lsz,lss]
  refine tk 10 ?_ (fun _ _=>?_) hXS ?_;rotate_left;· go_simp;try rfl
  simp only[lsz,lss]
  refine tk 11 ?_ (fun _ _=>?_) hXS ?_;rotate_left;· go_simp;try rfl
  simp only[lsz,lss]
  refine tk 12 ?_ (fun _ _=>?_) hXS ?_;rotate_left;· go_simp;try rfl
  simp only[lsz,lss]
  refine wpX_done (by kernel_rfl) ?_
  go_wp2_with fail
  go_ret
  exact⟨rfl,Mach.set (m:=⟨l,a,p,t,tags⟩) (HM.out.kw (KW.refl w).drew) 1 _ rfl (fun j hj=>by rcases(show j=0∨j=1∨j=2∨j=3∨j=4 by omega) with rfl|rfl|rfl|rfl|rfl<;>rfl),(Keep.refl _ w).drew.setCell _ _ (.inl rfl)⟩
 ·have HE:=hid (show Mc.reverse ⟨l,a,p,t,tags⟩=(⟨l,a,p,t,tags⟩,17) from by unfold Mc.reverse;rw[if_neg h1,if_pos (by simpa using h2)])
  rw[HE.out]
  have d2:(a != p - 1)=true:=by simpa using h2
  clear h2
  go_enter Tryz.func95,Tryz.ntmps95
  go_wp2_with fail
  have hXS:=And.intro c0 c1
  refine wpX_region (S:=fun w'=>w'.cell? ⟨b,0,none⟩=some (.int .i64 a)∧w'.cell? ⟨b,1,none⟩=some (.int .i64 p)) (L:=99) (by kernel_rfl) ?_
  refine tk 0 ?_ (fun _ _=>?_) hXS ?_;rotate_left;· go_simp;try rfl
  simp only[lsz,lss]
  refine tk 1 ?_ (fun _ _=>?_) hXS ?_;rotate_left;· go_simp;try rfl
  simp only[lsz,lss]
  refine tk 2 ?_ (fun _ _=>?_) hXS ?_;rotate_left;· go_simp;try rfl
  simp only[lsz,lss]
  refine tk 3 ?_ (fun _ _=>?_) hXS ?_;rotate_left;· go_simp;try rfl
  simp only[lsz,lss]
  refine tk 4 ?_ (fun _ _=>?_) hXS ?_;rotate_left;· go_simp;try rfl
  simp only[lsz,lss]
  refine tk 5 ?_ (fun _ _=>?_) hXS ?_;rotate_left;· go_simp;try rfl
  simp only[lsz,lss]
  refine tk 6 ?_ (fun _ _=>?_) hXS ?_;rotate_left;· go_simp;try rfl
  simp only[lsz,lss]
  refine tk 7 ?_ (fun _ _=>?_) hXS ?_;rotate_left;· go_simp;try rfl
  simp only[lsz,lss]
  refine tk 8 ?_ (fun _ _=>?_) hXS ?_;rotate_left;· go_simp;try rfl
  simp only[lsz,lss]
  refine tk 9 ?_ (fun _ _=>?_) hXS ?_;rotate_left;· go_simp;try rfl
  simp only[lsz,lss]
  refine tk 10 ?_ (fun _ _=>?_) hXS ?_;rotate_left;· go_simp;try rfl
  simp only[lsz,lss]
  refine tk 11 ?_ (fun _ _=>?_) hXS ?_;rotate_left;· go_simp;try rfl
  simp only[lsz,lss]
  refine tk 12 ?_ (fun _ _=>?_) hXS ?_;rotate_left;· go_simp;try rfl
  simp only[lsz,lss]
  refine wpX_done (by kernel_rfl) ?_
  go_wp2_with fail
  go_ret
  exact⟨rfl,HM.out.kw (KW.refl w).drew,(KW.refl w).drew.keep⟩
end Go.Proofs.YtphppbonljdibaaGreat
