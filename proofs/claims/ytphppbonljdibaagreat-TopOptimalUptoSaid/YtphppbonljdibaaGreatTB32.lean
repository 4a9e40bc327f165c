import Derived.Test.YtphppbonljdibaaGreatTB19
import Derived.Test.YtphppbonljdibaaGreatTB22
import Derived.Test.YtphppbonljdibaaGreatTB31
import Derived.Test.YtphppbonljdibaaGreatTB13
import Derived.Test.YtphppbonljdibaaGreatTB24
import Derived.RegionTactic
import Derived.Test.YtphppbonljdibaaGreatTB01
set_option maxRecDepth 100000
set_option maxHeartbeats 4000000
set_option linter.unusedVariables false
set_option linter.unusedSimpArgs false
namespace Go.Proofs.YtphppbonljdibaaGreat
open Go.ChangeShapes Go.WideShapes Go.ChangeAt Go.RowKit
theorem ret_i2 {k k2:IntKind}{a b c:Int}(h:a=b):Ending.returned (.tuple #[.int k a,.int k2 c])=.returned (.tuple #[.int k b,.int k2 c]):=by rw[h]
theorem stride_yes (k s:Int)(w:World)(k0:0≤k)(k1:k<65536)(s0:1≤s)(s1:s≤1048576):
 Calls Tryz.prog 15 #[.int .i64 k,.int .i64 s] w fun e w'=>e=.returned (.tuple #[.int .i64 (Sd.sd k s),.int .i64 0])∧w=w':=by
 have HE:=hid (fun j hj c=>Sd.jx_eq (k:=k) (s:=s) (j:=j) k1 s0 hj c)
 have HL:=hid (fun j hj c=>Sd.jx_lt (k:=k) (s:=s) (j:=j) k1 s0 hj c)
 have HU:=hid (Sd.jx_le (k:=k) (s:=s) k1 s0)
 have HD:=hid (show Sd.sd k s=Sd.p2 (Sd.jx k s) from rfl)
 generalize Sd.sd k s=d at *
 generalize Sd.jx k s=J at *
 have d0:decide (k<0)=false:=decide_eq_false (by omega)
 have d1:decide (65536≤k)=false:=decide_eq_false (by omega)
 have d2:decide (s<1)=false:=decide_eq_false (by omega)
 have d3:decide (1048576<s)=false:=decide_eq_false (by omega)
 go_enter Tryz.func15,Tryz.ntmps15
 go_wp2_with fail
 go_step3
 go_wp2_with fail
 go_step3
 go_wp2_with fail
 go_loop [6] (fun x=>∃ j:Nat,j≤J∧x=.int .i64 (Sd.p2 j)) (fun x=>(131072 - intOf x).toNat)
 case atStart=>exact⟨0,by omega,rfl⟩
 case round=>
  obtain⟨j,hj,rfl⟩:=hrel
  have hp:=Sd.p2_pos j
  have hh:=Sd.p2_hi (j:=j) (by have:=HU.out;omega)
  have hs:=Sd.p2_succ j
  have hE:=HE.out j hj
  have hL:=HL.out j hj
  have hb:=Sd.mul_b (show 0≤s by omega) s1 (show 0≤Sd.p2 j by omega) hh
  have HD2:Hid (j=J→d=Sd.p2 j):=fun h=>by rw[h];exact HD.out
  have HS:=hid hs
  have HE1:=hid hE
  have HL1:=hid hL
  clear hs hE hL
  generalize Sd.p2 j=x at *
  by_cases c:k<s * x
  ·go_wp2_with fail
   go_ret2
   exact⟨ret_i2 (HD2.out (HE1.out c)).symm,rfl⟩
  ·have dc:decide (k<s * x)=false:=decide_eq_false c
   go_wp2_with fail
   go_round
   case rel=>exact⟨j+1,HL1.out (by omega),by rw[HS.out]⟩
   case measure=>simp[intOf];omega
theorem stotal_yes (l:Nat)(s:Int)(w:World)(k1:l<65536)(s0:1≤s)(s1:s≤1048576):
 Calls Tryz.prog 16 #[.int .i64 l,.int .i64 s] w fun e w'=>e=.returned (.tuple #[.int .i64 (Sd.tot l (Sd.sd l s)),.int .i64 0])∧w=w':=by
 have HN:=hid (fun W=>stride_yes l s W (by omega) (by omega) s0 s1)
 have hd:=Sd.sd_pos (l:Int) s
 have hd2:=Sd.sd_le (k:=(l:Int)) (s:=s) (by omega) s0
 have HB:=hid (fun k hk=>Sd.tot_b (l:=l) (d:=Sd.sd l s) (by omega) hd hd2 k hk)
 have HT:=hid (show Sd.tot l (Sd.sd l s)=l+Mc.sum (fun i=>(i:Int) % Sd.sd l s) l from rfl)
 generalize Sd.tot l (Sd.sd l s)=t at *
 generalize Sd.sd l s=d at *
 go_enter Tryz.func16,Tryz.ntmps16
 go_wp2_with (go_at_call 15;refine(HN.out _).mono ?_;rintro e w1 ⟨rfl,rfl⟩)
 go_loop [8,21] (fun n i=>∃ k:Nat,k≤l∧i=.int .i64 k∧n=.int .i64 (l+Mc.sum (fun i=>(i:Int) % d) k)) (fun _ i=>l - (intOf i).toNat)
 case atStart=>exact⟨0,by omega,rfl,by simp[Mc.sum]⟩
 case round=>
  obtain⟨k,hk,rfl,rfl⟩:=hrel
  have hb:=HB.out k hk
  by_cases hlt:k<l
  ·have hb2:=HB.out (k+1) hlt
   have hm:=Int.emod_nonneg (k:Int) (show d≠0 by omega)
   have hm2:=Int.emod_lt_of_pos (k:Int) (show 0<d by omega)
   have HS:Hid (Mc.sum (fun i=>(i:Int) % d) (k+1)=Mc.sum (fun i=>(i:Int) % d) k+k % d):=rfl
   generalize Mc.sum (fun i=>(i:Int) % d) k=s0 at *
   have L5:(k:Int)<(l:Int):=by omega
   go_wp2_with fail
   go_round
   case rel=>exact⟨k+1,by omega,by go_num,by rw[HS.out,Int.add_assoc]⟩
   case measure=>simp[intOf];omega
  ·obtain rfl:k=l:=by omega
   clear hlt
   go_wp2_with fail
   go_ret2
   exact⟨ret_i2 (HT.out).symm,rfl⟩
theorem act_any (k n:Int)(w:World):Calls Tryz.prog 201 #[.int .i64 k,.int .i64 n] w fun e w'=>e=.returned (.tuple #[.agg #[.int .i64 k,.int .i64 n],.bool true])∧KW w w':=by
 go_enter Tryz.func201,Tryz.ntmps201
 go_wp2_with fail
 exact bodyPost_ret (results_cell_tmp rfl _ _ _ _ _ (0,0) _ rfl (heap_alloc_new w _) Tryz.underlying55 rfl (by kernel_rfl)) rfl ⟨rfl,(KW.refl w).alloc _⟩
theorem nothing_any (w:World):Calls Tryz.prog 167 #[] w fun e w'=>e=.returned (.tuple #[.agg #[.int .i64 0,.int .i64 0],.bool false])∧KW w w':=by
 go_enter Tryz.func167,Tryz.ntmps167
 go_wp2_with fail
 exact bodyPost_ret (results_cell_tmp rfl _ _ _ _ _ (0,0) _ rfl (heap_alloc_new w _) Tryz.underlying55 rfl (by kernel_rfl)) rfl ⟨rfl,(KW.refl w).alloc _⟩
theorem less_any (a b:Int)(w:World):Calls Tryz.prog 204 #[.int .i64 a,.int .i64 b] w fun e w'=>e=.returned (.bool (Sd.less a b))∧w=w':=by
 unfold Sd.less
 go_enter Tryz.func204,Tryz.ntmps204
 go_wp2_with fail
 go_ret
 exact⟨rfl,rfl⟩
theorem greater_any (a b:Int)(w:World):Calls Tryz.prog 208 #[.int .i64 a,.int .i64 b] w fun e w'=>e=.returned (.bool (Sd.greater a b))∧w=w':=by
 unfold Sd.greater
 go_enter Tryz.func208,Tryz.ntmps208
 go_wp2_with fail
 go_ret
 exact⟨rfl,rfl⟩
theorem holds_any (a:Int)(w:World):Calls Tryz.prog 207 #[.int .i64 a] w fun e w'=>e=.returned (.bool (Sd.holds a))∧w=w':=by
 unfold Sd.holds
 go_enter Tryz.func207,Tryz.ntmps207
 go_wp2_with fail
 go_ret
 exact⟨rfl,rfl⟩
theorem ahead1_any (a d:Int)(b:Nat)(w:World)(hd:1≤d)(hc:w.cell? ⟨b,0,none⟩=some (.int .i64 d)):Calls Tryz.prog 203 #[.int .i64 a,.pointer (some ⟨b,0,none⟩)] w fun e w'=>e=.returned (.bool (Sd.bad d a))∧w=w':=by
 unfold Sd.bad
 by_cases h0:0≤a
 ·have h1:=Int.emod_nonneg a (show d≠0 by omega)
  have h2:=Int.emod_lt_of_pos a (show 0<d by omega)
  by_cases h3:a % d=0
  ·have d3:(a % d != 0)=false:=by simpa using h3
   have HH:=hid h3
   clear h3 h1 h2
   go_enter Tryz.func203,Tryz.ntmps203
   go_wp2_with fail
   go_ret
   exact⟨ret_bool (by rw[decide_eq_false (p:=a % d≠0) (fun h=>h HH.out)];simp),rfl⟩
  ·have d3:(a % d != 0)=true:=by simpa using h3
   have HH:=hid h3
   clear h3 h1 h2
   go_enter Tryz.func203,Tryz.ntmps203
   go_wp2_with fail
   go_ret
   exact⟨ret_bool (by rw[decide_eq_true (p:=a % d≠0) HH.out,decide_eq_true h0];rfl),rfl⟩
 ·have d0:decide (0≤a)=false:=decide_eq_false h0
  have HH:=hid h0
  clear h0
  go_enter Tryz.func203,Tryz.ntmps203
  go_wp2_with fail
  go_ret
  exact⟨ret_bool (by have:=HH.out;first|rfl|(rw[decide_eq_false (show ¬ 0≤a by omega)];rfl)|simp),rfl⟩
theorem ahead2_any (a k:Int)(b:Nat)(w:World)(hc:w.cell? ⟨b,0,none⟩=some (.int .i64 k)):Calls Tryz.prog 205 #[.int .i64 a,.pointer (some ⟨b,0,none⟩)] w fun e w'=>e=.returned (.bool (a==k))∧w=w':=by
 go_enter Tryz.func205,Tryz.ntmps205
 go_wp2_with fail
 go_ret
 exact⟨rfl,rfl⟩
theorem ahead3_any (a:Int)(w:World):Calls Tryz.prog 206 #[.int .i64 a] w fun e w'=>e=.returned (.bool (decide (a<0)))∧w=w':=by
 go_enter Tryz.func206,Tryz.ntmps206
 go_wp2_with fail
 go_ret
 exact⟨rfl,rfl⟩
theorem bst_rng (is:Int→Bool)(lt:Int→Int→Bool)(tags:List Int)(n:Nat):Sd.bst is lt tags n = -1∨∃ j:Nat,j<n∧Sd.bst is lt tags n=j:=by
 induction n with
 | zero=>exact .inl rfl
 | succ n ih=>
   unfold Sd.bst
   split
   ·exact .inr ⟨n,by omega,rfl⟩
   ·exact ih.imp id fun⟨j,hj,e⟩=>⟨j,by omega,e⟩
theorem bst_no {is:Int→Bool}{lt:Int→Int→Bool}{tags:List Int}{n:Nat}(h:is (tags.getD n 0)=false):Sd.bst is lt tags (n+1)=Sd.bst is lt tags n:=by
 show(if _ then _ else _)=_
 rw[h];rfl
theorem bst_new {is:Int→Bool}{lt:Int→Int→Bool}{tags:List Int}{n:Nat}(h:is (tags.getD n 0)=true)(e:Sd.bst is lt tags n = -1):Sd.bst is lt tags (n+1)=n:=by
 show(if _ then _ else _)=_
 rw[h,e];rfl
theorem bst_lt {is:Int→Bool}{lt:Int→Int→Bool}{tags:List Int}{n j:Nat}(h:is (tags.getD n 0)=true)(e:Sd.bst is lt tags n=j):Sd.bst is lt tags (n+1)=if lt (tags.getD n 0) (tags.getD j 0) then (n:Int) else j:=by
 show(if _ then _ else _)=_
 rw[h,e,Int.toNat_natCast,decide_eq_false (by omega)];rfl
theorem best_any (G H:FuncId)(caps:Array Value)(p:Int→Bool)(lt:Int→Int→Bool)(tags:List Int)(A:Option Addr)(c:Nat)(w:World)(hl:tags.length≤1048576)(hr:Row1 w A tags.length fun i=>.int .i64 (tags.getD i 0))
 (he:∀ (args:Array Value) (W:World),(callFunc G args).run Tryz.prog W=.ok (.enter G args) W)
 (he2:∀ (args:Array Value) (W:World),(callFunc H args).run Tryz.prog W=.ok (.enter H args) W)
 (hG:∀ x,Calls Tryz.prog G (#[.int .i64 x]++caps) w fun e w'=>e=.returned (.bool (p x))∧w=w')
 (hH:∀ x y,Calls Tryz.prog H #[.int .i64 x,.int .i64 y] w fun e w'=>e=.returned (.bool (lt x y))∧w=w'):
 Calls Tryz.prog 202 #[.slice A tags.length c,.func (.func G) #[] caps,.func (.func H) #[] #[]] w fun e w'=>e=.returned (.int .i64 (Sd.bst p lt tags tags.length))∧w=w':=by
 have HR:=hid hr
 have HG:=hid hG
 have HH:=hid hH
 have HE:=hid he
 have HE2:=hid he2
 clear hr hG hH he he2
 have HB:=hid (fun n=>bst_rng p lt tags n)
 have HN:=hid (fun n h=>bst_no (is:=p) (lt:=lt) (tags:=tags) (n:=n) h)
 have HW:=hid (fun n h e=>bst_new (is:=p) (lt:=lt) (tags:=tags) (n:=n) h e)
 have HL:=hid (fun n j h e=>bst_lt (is:=p) (lt:=lt) (tags:=tags) (n:=n) (j:=j) h e)
 generalize hb:Sd.bst p lt tags=bb at *
 clear hb
 have H0:Hid (bb 0 = -1):=by
  rcases HB.out 0 with h|⟨j,hj,_⟩
  ·exact h
  ·omega
 generalize tags.length=N at *
 go_enter Tryz.func202,Tryz.ntmps202
 go_wp2_with fail
 go_loop [7,12] (fun b i=>∃ k:Nat,k≤N∧i=.int .i64 k∧b=.int .i64 (bb k)) (fun _ i=>N - (intOf i).toNat)
 case atStart=>exact⟨0,by omega,rfl,by rw[H0.out]⟩
 case round=>
  obtain⟨k,hk,rfl,rfl⟩:=hrel
  by_cases hlt:k<N
  ·obtain⟨q1,o1,rfl,hq1,hc1⟩:=HR.out.at_ hlt
   have HO:=hid (HG.out (tags.getD k 0))
   have HHk:=hid (HH.out (tags.getD k 0))
   have HNk:=hid (HN.out k)
   have HWk:=hid (HW.out k)
   have HLk:=hid (HL.out k)
   have hB:=HB.out k
   have hB2:=HB.out (k+1)
   have L5:(k:Int)<(N:Int):=by omega
   rcases hB with hB|⟨j,hj,hB⟩
   ·have HBk:=hid hB
    rw[hB] at HNk ⊢
    clear hB hB2
    generalize tags.getD k 0=x at *
    generalize p x=px at *
    have e2:=HE.out
    go_wp2_with fail
    clear e2
    refine HO.out.mono ?_
    rintro e w1 ⟨rfl,rfl⟩
    cases px with
    | true=>
      have HR1:=hid (HWk.out rfl HBk.out)
      go_wp2_with fail
      go_round
      case rel=>exact⟨k+1,by omega,by go_num,by rw[HR1.out]⟩
      case measure=>simp[intOf];omega
    | false=>
      have HR1:=hid (HNk.out rfl)
      go_wp2_with fail
      go_round
      case rel=>exact⟨k+1,by omega,by go_num,by rw[HR1.out]⟩
      case measure=>simp[intOf];omega
   ·have HBk:=hid hB
    obtain⟨q2,o2,hqq,_,hc2⟩:=HR.out.at_ (show j<N by omega)
    cases hqq
    rw[hB] at HNk ⊢
    have HLj:=hid (fun h=>HLk.out j h HBk.out)
    have HHj:=hid (HHk.out (tags.getD j 0))
    have L6:(j:Int)<(k:Int):=by omega
    clear hB hB2 HLk HHk
    generalize tags.getD k 0=x at *
    generalize tags.getD j 0=y at *
    generalize p x=px at *
    generalize lt x y=lxy at *
    have e2:=HE.out
    have e3:=HE2.out
    go_wp2_with fail
    clear e2
    refine HO.out.mono ?_
    rintro e w1 ⟨rfl,rfl⟩
    cases px with
    | true=>
      have HR1:=hid (HLj.out rfl)
      go_wp2_with fail
      clear e3
      refine HHj.out.mono ?_
      rintro e w1 ⟨rfl,rfl⟩
      cases lxy with
      | true=>
        go_wp2_with fail
        go_round
        case rel=>exact⟨k+1,by omega,by go_num,by rw[HR1.out];rfl⟩
        case measure=>simp[intOf];omega
      | false=>
        go_wp2_with fail
        go_round
        case rel=>exact⟨k+1,by omega,by go_num,by rw[HR1.out];rfl⟩
        case measure=>simp[intOf];omega
    | false=>
      have HR1:=hid (HNk.out rfl)
      clear e3
      go_wp2_with fail
      go_round
      case rel=>exact⟨k+1,by omega,by go_num,by rw[HR1.out]⟩
      case measure=>simp[intOf];omega
  ·have D1:decide (k<N)=false:=decide_eq_false hlt
   obtain rfl:k=N:=by omega
   clear hlt
   go_wp2_with fail
   go_ret
   exact⟨rfl,rfl⟩
def actF (u v:Int):Nat→Value
 | 0=>.int .i64 u
 | _=>.int .i64 v
def AnsP (w:World)(r:Option Mc.Act)(e:Ending)(w':World):Prop:=
 e=.returned (.tuple #[.agg #[.int .i64 (r.getD (0,0)).1,.int .i64 (r.getD (0,0)).2],.bool r.isSome])∧KW w w'
section
variable {P : Program} {ops : Array Oper} {Q : Exit → Act → World → Prop}
theorem store_act {rest:List Oper}{o:Oper}{a:Act}{W:World}(hgd:o.guard=none){x y:Operand}(ho:o.op=.store 55 x y){g:Nat}{u v:Int}{f:Nat→Value}(hx:a.eval x=.pointer (some ⟨g,0,none⟩))(hy:a.eval y=.agg #[.int .i64 u,.int .i64 v])
 (hr:W.rowIs g 55 2 f) (h:∀ W',W'.heap[g]?=some (.cells #[.int .i64 u,.int .i64 v] 55 (0,0))→Keep (· = g) W W'→wpList Tryz.prog ops Q rest (a.put o.dst undef) W'):wpList Tryz.prog ops Q (o::rest) a W:=
 wpList_store_is hgd 55 x y ho g 2 55 f (actF u v) #[.int .i64 u,.int .i64 v] hx hy hr (by kernel_rfl) rfl (fun i hi=>by
  rcases(show i=0∨i=1 by omega) with rfl|rfl<;>rfl) (fun i hi=>by
  rcases(show i=0∨i=1 by omega) with rfl|rfl<;>rfl) fun W' hrow hk _=>h W' (by rw[whole hrow];rfl) hk
end
theorem sahead_any (k:Int)(ended:Bool)(a p:Int)(tags:List Int)(A:Option Addr)(c:Nat)(w:World)(k0:0≤k)(k1:k<65536)(a0:0≤a)(a1:a≤k)(n0:1≤tags.length)(n1:tags.length≤1048576)
 (ht:∀ i,i<tags.length→-1≤tags.getD i 0) (hr:Row1 w A tags.length fun i=>.int .i64 (tags.getD i 0)):
 Calls Tryz.prog 168 #[.int .i64 k,.bool ended,.agg #[.int .i64 a,.int .i64 p,.slice A tags.length c]] w (AnsP w (Sd.nxA k ended a tags)):=by
 have HN:=hid (fun W=>stride_yes k tags.length W k0 k1 (by omega) (by omega))
 have hd:=Sd.sd_pos k tags.length
 have hk:=((((KW.refl w).alloc (.cells #[.int .i64 k] 3)).alloc (.cells #[.int .i64 a,.int .i64 p,.slice A tags.length c] 58)).alloc (.cells #[.int .i64 0,.int .i64 0] 55)).alloc (.cells #[.int .i64 (Sd.sd k tags.length)] 3)
 have HB1:=hid (fun W b (h:KW w W) (hc:W.cell? ⟨b,0,none⟩=some (.int .i64 (Sd.sd k tags.length)))=>best_any 203 204 #[.pointer (some ⟨b,0,none⟩)] _ _ tags A c W n1 (hr.k h) (fun args W=>by kernel_rfl) (fun args W=>by kernel_rfl) (fun x=>ahead1_any x _ b W hd hc) (fun x y=>less_any x y W))
 have HB2:=hid (fun W b (h:KW w W) (hc:W.cell? ⟨b,0,none⟩=some (.int .i64 k))=>best_any 205 204 #[.pointer (some ⟨b,0,none⟩)] _ _ tags A c W n1 (hr.k h) (fun args W=>by kernel_rfl) (fun args W=>by kernel_rfl) (fun x=>ahead2_any x _ b W hc) (fun x y=>less_any x y W))
 have HB3:=hid (fun W (h:KW w W)=>best_any 206 204 #[] _ _ tags A c W n1 (hr.k h) (fun args W=>by kernel_rfl) (fun args W=>by kernel_rfl) (fun x=>ahead3_any x W) (fun x y=>less_any x y W))
 rw[Sd.bst_eq _ k tags fun j hj=>by rw[Bool.eq_iff_iff];simp] at HB2
 rw[Sd.bst_eq _ (-1) tags fun j hj=>by have:=ht j hj;rw[decide_eq_decide];omega] at HB3
 have HB1':Hid (∀ W b,KW w W→W.cell? ⟨b,0,none⟩=some (.int .i64 (Sd.sd k tags.length))→Calls Tryz.prog 202 #[.slice A tags.length c,.func (.func 203) #[] #[.pointer (some ⟨b,0,none⟩)],.func (.func 204) #[] #[]] W fun e w'=>e=.returned (.int .i64 (Sd.off (Sd.sd k tags.length) tags))∧W=w'):=HB1.out
 have hr1:=Sd.slot_lo tags k
 have hr2:=Sd.slot_lo tags (-1)
 have hr0:-1≤Sd.off (Sd.sd k tags.length) tags∧Sd.off (Sd.sd k tags.length) tags<tags.length:=by
  rcases Sd.off_cases (Sd.sd k tags.length) tags with⟨h,_⟩|⟨i,hi,h,_⟩<;>omega
 unfold Sd.nxA
 have hF:(((((w.alloc (.cells #[.int .i64 k] 3)).alloc (.cells #[.int .i64 a,.int .i64 p,.slice A tags.length c] 58)).alloc (.cells #[.int .i64 0,.int .i64 0] 55)).alloc (.cells #[.int .i64 (Sd.sd k tags.length)] 3)).rowIs (w.heap.size+1+1) 55 2 (actF 0 0)):=by
  have h:=World.rowIs_alloc ((w.alloc (.cells #[.int .i64 k] 3)).alloc (.cells #[.int .i64 a,.int .i64 p,.slice A tags.length c] 58)) #[.int .i64 0,.int .i64 0] 55 (actF 0 0) fun i hi=>by
   rcases(show i=0∨i=1 by simp at hi;omega) with rfl|rfl<;>rfl
  simpa using h.alloc _
 have HF:=hid hF
 have HK:=hid hk
 generalize Sd.off (Sd.sd k tags.length) tags=o at *
 generalize Sd.slot tags k=sk at *
 generalize Sd.slot tags (-1)=sv at *
 generalize Sd.sd k tags.length=d at *
 have hmod:=Int.emod_nonneg k (show d≠0 by omega)
 have hmod2:=Int.emod_lt_of_pos k (show 0<d by omega)
 clear HB1 hF hk hr ht
 by_cases c1:a<k
 ·rw[if_pos c1]
  go_enter Tryz.func168,Tryz.ntmps168
  go_wp2_with (go_at_call 15;refine(HN.out _).mono ?_;rintro e w1 ⟨rfl,rfl⟩)
  refine(act_any _ _ _).mono ?_
  rintro e w1 ⟨rfl,hk1⟩
  have HF1:=hid (KW.row hk1 HF.out.lt HF.out)
  have HK1:=hid (HK.out.t hk1)
  clear hk1
  go_wp2_with (refine store_act rfl rfl rfl rfl HF1.out ?_;intro W2 hb2 hkeep)
  exact bodyPost_ret (results_cell_tmp rfl _ _ _ _ _ (0,0) _ rfl hb2 Tryz.underlying55 rfl (by kernel_rfl)) rfl ⟨rfl,HK1.out.kept hkeep fun i hi=>by omega⟩
 rw[if_neg c1]
 have d1:decide (a<k)=false:=decide_eq_false c1
 clear c1
 by_cases c2:0≤o
 ·rw[if_pos c2]
  go_enter Tryz.func168,Tryz.ntmps168
  go_wp2_with (go_at_call 15;refine(HN.out _).mono ?_;rintro e w1 ⟨rfl,rfl⟩)
  refine(HB1'.out _ _ HK.out (by go_simp)).mono ?_
  rintro e w1 ⟨rfl,rfl⟩
  go_wp2_with fail
  refine(act_any _ _ _).mono ?_
  rintro e w1 ⟨rfl,hk1⟩
  have HF1:=hid (KW.row hk1 HF.out.lt HF.out)
  have HK1:=hid (HK.out.t hk1)
  clear hk1
  go_wp2_with (refine store_act rfl rfl rfl rfl HF1.out ?_;intro W2 hb2 hkeep)
  exact bodyPost_ret (results_cell_tmp rfl _ _ _ _ _ (0,0) _ rfl hb2 Tryz.underlying55 rfl (by kernel_rfl)) rfl ⟨rfl,HK1.out.kept hkeep fun i hi=>by omega⟩
 rw[if_neg c2]
 have d2:decide (0≤o)=false:=decide_eq_false c2
 clear c2
 by_cases c3:k % d=0
 ·by_cases c4:sk<0
  ·by_cases c5:0≤sv
   ·rw[if_pos ⟨c3,c4,c5⟩]
    have d3:(k % d==0)=true:=by simpa using c3
    clear c3
    go_enter Tryz.func168,Tryz.ntmps168
    go_wp2_with (go_at_call 15;refine(HN.out _).mono ?_;rintro e w1 ⟨rfl,rfl⟩)
    refine(HB1'.out _ _ HK.out (by go_simp)).mono ?_
    rintro e w1 ⟨rfl,rfl⟩
    go_wp2_with fail
    refine(HB2.out _ _ HK.out (by go_simp)).mono ?_
    rintro e w1 ⟨rfl,rfl⟩
    go_wp2_with fail
    refine(HB3.out _ HK.out).mono ?_
    rintro e w1 ⟨rfl,rfl⟩
    go_wp2_with fail
    refine(act_any _ _ _).mono ?_
    rintro e w1 ⟨rfl,hk1⟩
    have HF1:=hid (KW.row hk1 HF.out.lt HF.out)
    have HK1:=hid (HK.out.t hk1)
    clear hk1
    go_wp2_with (refine store_act rfl rfl rfl rfl HF1.out ?_;intro W2 hb2 hkeep)
    exact bodyPost_ret (results_cell_tmp rfl _ _ _ _ _ (0,0) _ rfl hb2 Tryz.underlying55 rfl (by kernel_rfl)) rfl ⟨rfl,HK1.out.kept hkeep fun i hi=>by omega⟩
   ·rw[if_neg (fun h=>c5 h.2.2)]
    have d3:(k % d==0)=true:=by simpa using c3
    have d5:decide (0≤sv)=false:=decide_eq_false c5
    clear c3 c5
    cases ended with
    | false=>
      rw[if_neg (by simp)]
      go_enter Tryz.func168,Tryz.ntmps168
      go_wp2_with (go_at_call 15;refine(HN.out _).mono ?_;rintro e w1 ⟨rfl,rfl⟩)
      refine(HB1'.out _ _ HK.out (by go_simp)).mono ?_
      rintro e w1 ⟨rfl,rfl⟩
      go_wp2_with fail
      refine(HB2.out _ _ HK.out (by go_simp)).mono ?_
      rintro e w1 ⟨rfl,rfl⟩
      go_wp2_with fail
      refine(HB3.out _ HK.out).mono ?_
      rintro e w1 ⟨rfl,rfl⟩
      go_wp2_with fail
      refine(nothing_any _).mono ?_
      rintro e w1 ⟨rfl,hk1⟩
      have HF1:=hid (KW.row hk1 HF.out.lt HF.out)
      have HK1:=hid (HK.out.t hk1)
      clear hk1
      go_wp2_with (refine store_act rfl rfl rfl rfl HF1.out ?_;intro W2 hb2 hkeep)
      exact bodyPost_ret (results_cell_tmp rfl _ _ _ _ _ (0,0) _ rfl hb2 Tryz.underlying55 rfl (by kernel_rfl)) rfl ⟨rfl,HK1.out.kept hkeep fun i hi=>by omega⟩
    | true=>
      rw[if_pos rfl]
      go_enter Tryz.func168,Tryz.ntmps168
      go_wp2_with (go_at_call 15;refine(HN.out _).mono ?_;rintro e w1 ⟨rfl,rfl⟩)
      refine(HB1'.out _ _ HK.out (by go_simp)).mono ?_
      rintro e w1 ⟨rfl,rfl⟩
      go_wp2_with fail
      refine(HB2.out _ _ HK.out (by go_simp)).mono ?_
      rintro e w1 ⟨rfl,rfl⟩
      go_wp2_with fail
      refine(HB3.out _ HK.out).mono ?_
      rintro e w1 ⟨rfl,rfl⟩
      go_wp2_with fail
      refine(act_any _ _ _).mono ?_
      rintro e w1 ⟨rfl,hk1⟩
      have HF1:=hid (KW.row hk1 HF.out.lt HF.out)
      have HK1:=hid (HK.out.t hk1)
      clear hk1
      go_wp2_with (refine store_act rfl rfl rfl rfl HF1.out ?_;intro W2 hb2 hkeep)
      exact bodyPost_ret (results_cell_tmp rfl _ _ _ _ _ (0,0) _ rfl hb2 Tryz.underlying55 rfl (by kernel_rfl)) rfl ⟨rfl,HK1.out.kept hkeep fun i hi=>by omega⟩
  ·rw[if_neg (fun h=>c4 h.2.1)]
   have d3:(k % d==0)=true:=by simpa using c3
   have d4:decide (sk<0)=false:=decide_eq_false c4
   clear c3 c4
   cases ended with
   | false=>
     rw[if_neg (by simp)]
     go_enter Tryz.func168,Tryz.ntmps168
     go_wp2_with (go_at_call 15;refine(HN.out _).mono ?_;rintro e w1 ⟨rfl,rfl⟩)
     refine(HB1'.out _ _ HK.out (by go_simp)).mono ?_
     rintro e w1 ⟨rfl,rfl⟩
     go_wp2_with fail
     refine(HB2.out _ _ HK.out (by go_simp)).mono ?_
     rintro e w1 ⟨rfl,rfl⟩
     go_wp2_with fail
     refine(HB3.out _ HK.out).mono ?_
     rintro e w1 ⟨rfl,rfl⟩
     go_wp2_with fail
     refine(nothing_any _).mono ?_
     rintro e w1 ⟨rfl,hk1⟩
     have HF1:=hid (KW.row hk1 HF.out.lt HF.out)
     have HK1:=hid (HK.out.t hk1)
     clear hk1
     go_wp2_with (refine store_act rfl rfl rfl rfl HF1.out ?_;intro W2 hb2 hkeep)
     exact bodyPost_ret (results_cell_tmp rfl _ _ _ _ _ (0,0) _ rfl hb2 Tryz.underlying55 rfl (by kernel_rfl)) rfl ⟨rfl,HK1.out.kept hkeep fun i hi=>by omega⟩
   | true=>
     rw[if_pos rfl]
     go_enter Tryz.func168,Tryz.ntmps168
     go_wp2_with (go_at_call 15;refine(HN.out _).mono ?_;rintro e w1 ⟨rfl,rfl⟩)
     refine(HB1'.out _ _ HK.out (by go_simp)).mono ?_
     rintro e w1 ⟨rfl,rfl⟩
     go_wp2_with fail
     refine(HB2.out _ _ HK.out (by go_simp)).mono ?_
     rintro e w1 ⟨rfl,rfl⟩
     go_wp2_with fail
     refine(HB3.out _ HK.out).mono ?_
     rintro e w1 ⟨rfl,rfl⟩
     go_wp2_with fail
     refine(act_any _ _ _).mono ?_
     rintro e w1 ⟨rfl,hk1⟩
     have HF1:=hid (KW.row hk1 HF.out.lt HF.out)
     have HK1:=hid (HK.out.t hk1)
     clear hk1
     go_wp2_with (refine store_act rfl rfl rfl rfl HF1.out ?_;intro W2 hb2 hkeep)
     exact bodyPost_ret (results_cell_tmp rfl _ _ _ _ _ (0,0) _ rfl hb2 Tryz.underlying55 rfl (by kernel_rfl)) rfl ⟨rfl,HK1.out.kept hkeep fun i hi=>by omega⟩
 ·rw[if_neg (fun h=>c3 h.1)]
  have d3:(k % d==0)=false:=by simpa using c3
  clear c3
  cases ended with
  | false=>
    rw[if_neg (by simp)]
    go_enter Tryz.func168,Tryz.ntmps168
    go_wp2_with (go_at_call 15;refine(HN.out _).mono ?_;rintro e w1 ⟨rfl,rfl⟩)
    refine(HB1'.out _ _ HK.out (by go_simp)).mono ?_
    rintro e w1 ⟨rfl,rfl⟩
    go_wp2_with fail
    refine(HB2.out _ _ HK.out (by go_simp)).mono ?_
    rintro e w1 ⟨rfl,rfl⟩
    go_wp2_with fail
    refine(HB3.out _ HK.out).mono ?_
    rintro e w1 ⟨rfl,rfl⟩
    go_wp2_with fail
    refine(nothing_any _).mono ?_
    rintro e w1 ⟨rfl,hk1⟩
    have HF1:=hid (KW.row hk1 HF.out.lt HF.out)
    have HK1:=hid (HK.out.t hk1)
    clear hk1
    go_wp2_with (refine store_act rfl rfl rfl rfl HF1.out ?_;intro W2 hb2 hkeep)
    exact bodyPost_ret (results_cell_tmp rfl _ _ _ _ _ (0,0) _ rfl hb2 Tryz.underlying55 rfl (by kernel_rfl)) rfl ⟨rfl,HK1.out.kept hkeep fun i hi=>by omega⟩
  | true=>
    rw[if_pos rfl]
    go_enter Tryz.func168,Tryz.ntmps168
    go_wp2_with (go_at_call 15;refine(HN.out _).mono ?_;rintro e w1 ⟨rfl,rfl⟩)
    refine(HB1'.out _ _ HK.out (by go_simp)).mono ?_
    rintro e w1 ⟨rfl,rfl⟩
    go_wp2_with fail
    refine(HB2.out _ _ HK.out (by go_simp)).mono ?_
    rintro e w1 ⟨rfl,rfl⟩
    go_wp2_with fail
    refine(HB3.out _ HK.out).mono ?_
    rintro e w1 ⟨rfl,rfl⟩
    go_wp2_with fail
    refine(act_any _ _ _).mono ?_
    rintro e w1 ⟨rfl,hk1⟩
    have HF1:=hid (KW.row hk1 HF.out.lt HF.out)
    have HK1:=hid (HK.out.t hk1)
    clear hk1
    go_wp2_with (refine store_act rfl rfl rfl rfl HF1.out ?_;intro W2 hb2 hkeep)
    exact bodyPost_ret (results_cell_tmp rfl _ _ _ _ _ (0,0) _ rfl hb2 Tryz.underlying55 rfl (by kernel_rfl)) rfl ⟨rfl,HK1.out.kept hkeep fun i hi=>by omega⟩
theorem sback_any (a p:Int)(tags:List Int)(A:Option Addr)(c:Nat)(w:World)(p0:0≤p)(p1:p<65536)(a0:0≤a)(a1:a<65536)(n1:tags.length≤1048576)
 (ht:∀ i,i<tags.length→-1≤tags.getD i 0∧tags.getD i 0<65536) (hr:Row1 w A tags.length fun i=>.int .i64 (tags.getD i 0)):
 Calls Tryz.prog 169 #[.agg #[.int .i64 a,.int .i64 p,.slice A tags.length c]] w (AnsP w (Sd.nxB a p tags)):=by
 have hk:=((KW.refl w).alloc (.cells #[.int .i64 a,.int .i64 p,.slice A tags.length c] 58)).alloc (.cells #[.int .i64 0,.int .i64 0] 55)
 have HB0:=hid (fun W (h:KW w W)=>best_any 207 208 #[] Sd.holds Sd.greater tags A c W n1 (hr.k h) (fun args W=>by kernel_rfl) (fun args W=>by kernel_rfl) (fun x=>holds_any x W) (fun x y=>greater_any x y W))
 have HB:Hid (∀ W,KW w W→Calls Tryz.prog 202 #[.slice A tags.length c,.func (.func 207) #[] #[],.func (.func 208) #[] #[]] W fun e w'=>e=.returned (.int .i64 (Sd.base tags))∧W=w'):=HB0.out
 have hF:((w.alloc (.cells #[.int .i64 a,.int .i64 p,.slice A tags.length c] 58)).alloc (.cells #[.int .i64 0,.int .i64 0] 55)).rowIs (w.heap.size+1) 55 2 (actF 0 0):=by
  have h:=World.rowIs_alloc (w.alloc (.cells #[.int .i64 a,.int .i64 p,.slice A tags.length c] 58)) #[.int .i64 0,.int .i64 0] 55 (actF 0 0) fun i hi=>by
   rcases(show i=0∨i=1 by simp at hi;omega) with rfl|rfl<;>rfl
  simpa using h
 have HF:=hid hF
 have HK:=hid hk
 have hbc:=Sd.base_cases tags
 unfold Sd.nxB
 generalize Sd.base tags=b at *
 clear HB0 hF hk
 rcases hbc with⟨hb,_⟩|⟨j,hj,hb,hx0,_,_⟩
 ·subst hb
  rw[if_neg (by omega)]
  clear ht hr
  by_cases c1:p=0
  ·rw[if_pos c1]
   subst c1
   go_enter Tryz.func169,Tryz.ntmps169
   go_wp2_with fail
   refine(HB.out _ HK.out).mono ?_
   rintro e w1 ⟨rfl,rfl⟩
   go_wp2_with fail
   refine(nothing_any _).mono ?_
   rintro e w1 ⟨rfl,hk1⟩
   have HF1:=hid (KW.row hk1 HF.out.lt HF.out)
   have HK1:=hid (HK.out.t hk1)
   clear hk1
   go_wp2_with (refine store_act rfl rfl rfl rfl HF1.out ?_;intro W2 hb2 hkeep)
   exact bodyPost_ret (results_cell_tmp rfl _ _ _ _ _ (0,0) _ rfl hb2 Tryz.underlying55 rfl (by kernel_rfl)) rfl ⟨rfl,HK1.out.kept hkeep fun i hi=>by omega⟩
  rw[if_neg c1]
  have d1:(p==0)=false:=by simpa using c1
  have hp:1≤p:=by omega
  clear c1
  by_cases c2:a=p - 1
  ·rw[if_pos c2]
   have d2:(a==p - 1)=true:=by simpa using c2
   clear c2
   go_enter Tryz.func169,Tryz.ntmps169
   go_wp2_with fail
   refine(HB.out _ HK.out).mono ?_
   rintro e w1 ⟨rfl,rfl⟩
   go_wp2_with fail
   refine(act_any _ _ _).mono ?_
   rintro e w1 ⟨rfl,hk1⟩
   have HF1:=hid (KW.row hk1 HF.out.lt HF.out)
   have HK1:=hid (HK.out.t hk1)
   clear hk1
   go_wp2_with (refine store_act rfl rfl rfl rfl HF1.out ?_;intro W2 hb2 hkeep)
   exact bodyPost_ret (results_cell_tmp rfl _ _ _ _ _ (0,0) _ rfl hb2 Tryz.underlying55 rfl (by kernel_rfl)) rfl ⟨rfl,HK1.out.kept hkeep fun i hi=>by omega⟩
  rw[if_neg c2,if_neg (by omega)]
  have d2:(a==p - 1)=false:=by simpa using c2
  clear c2
  by_cases c3:a<p
  ·rw[if_pos c3]
   go_enter Tryz.func169,Tryz.ntmps169
   go_wp2_with fail
   refine(HB.out _ HK.out).mono ?_
   rintro e w1 ⟨rfl,rfl⟩
   go_wp2_with fail
   go_region
   go_wp2_with fail
   refine(act_any _ _ _).mono ?_
   rintro e w1 ⟨rfl,hk1⟩
   have HF1:=hid (KW.row hk1 HF.out.lt HF.out)
   have HK1:=hid (HK.out.drew.t hk1)
   clear hk1
   go_wp2_with (refine store_act rfl rfl rfl rfl HF1.out ?_;intro W2 hb2 hkeep)
   exact bodyPost_ret (results_cell_tmp rfl _ _ _ _ _ (0,0) _ rfl hb2 Tryz.underlying55 rfl (by kernel_rfl)) rfl ⟨rfl,HK1.out.kept hkeep fun i hi=>by omega⟩
  rw[if_neg c3]
  have d3:decide (a<p)=false:=decide_eq_false c3
  clear c3
  go_enter Tryz.func169,Tryz.ntmps169
  go_wp2_with fail
  refine(HB.out _ HK.out).mono ?_
  rintro e w1 ⟨rfl,rfl⟩
  go_wp2_with fail
  go_region
  go_wp2_with fail
  refine(nothing_any _).mono ?_
  rintro e w1 ⟨rfl,hk1⟩
  have HF1:=hid (KW.row hk1 HF.out.lt HF.out)
  have HK1:=hid (HK.out.drew.t hk1)
  clear hk1
  go_wp2_with (refine store_act rfl rfl rfl rfl HF1.out ?_;intro W2 hb2 hkeep)
  exact bodyPost_ret (results_cell_tmp rfl _ _ _ _ _ (0,0) _ rfl hb2 Tryz.underlying55 rfl (by kernel_rfl)) rfl ⟨rfl,HK1.out.kept hkeep fun i hi=>by omega⟩
 ·subst hb
  have hx1:=(ht j hj).2
  obtain⟨q1,o1,rfl,hq1,hc1⟩:=hr.at_ hj
  rw[Int.toNat_natCast]
  have hjl:(j:Int)<(tags.length:Int):=by omega
  generalize tags.getD j 0=x at *
  clear ht hr
  generalize tags.length=N at *
  by_cases c1:p≤x
  ·rw[if_pos ⟨by omega,c1⟩]
   go_enter Tryz.func169,Tryz.ntmps169
   go_wp2_with fail
   refine(HB.out _ HK.out).mono ?_
   rintro e w1 ⟨rfl,rfl⟩
   go_wp2_with fail
   refine(act_any _ _ _).mono ?_
   rintro e w1 ⟨rfl,hk1⟩
   have HF1:=hid (KW.row hk1 HF.out.lt HF.out)
   have HK1:=hid (HK.out.t hk1)
   clear hk1
   go_wp2_with (refine store_act rfl rfl rfl rfl HF1.out ?_;intro W2 hb2 hkeep)
   exact bodyPost_ret (results_cell_tmp rfl _ _ _ _ _ (0,0) _ rfl hb2 Tryz.underlying55 rfl (by kernel_rfl)) rfl ⟨rfl,HK1.out.kept hkeep fun i hi=>by omega⟩
  rw[if_neg (fun h=>c1 h.2)]
  have d1:decide (p≤x)=false:=decide_eq_false c1
  have hxp:x<p:=by omega
  clear c1
  rw[if_neg (by omega)]
  have d0:(p==0)=false:=by simp;omega
  by_cases c2:a=p - 1
  ·rw[if_pos c2]
   have d2:(a==p - 1)=true:=by simpa using c2
   clear c2
   go_enter Tryz.func169,Tryz.ntmps169
   go_wp2_with fail
   refine(HB.out _ HK.out).mono ?_
   rintro e w1 ⟨rfl,rfl⟩
   go_wp2_with fail
   refine(act_any _ _ _).mono ?_
   rintro e w1 ⟨rfl,hk1⟩
   have HF1:=hid (KW.row hk1 HF.out.lt HF.out)
   have HK1:=hid (HK.out.t hk1)
   clear hk1
   go_wp2_with (refine store_act rfl rfl rfl rfl HF1.out ?_;intro W2 hb2 hkeep)
   exact bodyPost_ret (results_cell_tmp rfl _ _ _ _ _ (0,0) _ rfl hb2 Tryz.underlying55 rfl (by kernel_rfl)) rfl ⟨rfl,HK1.out.kept hkeep fun i hi=>by omega⟩
  rw[if_neg c2]
  have d2:(a==p - 1)=false:=by simpa using c2
  clear c2
  by_cases c3:a<x
  ·rw[if_pos ⟨by omega,Or.inl c3⟩]
   go_enter Tryz.func169,Tryz.ntmps169
   go_wp2_with fail
   refine(HB.out _ HK.out).mono ?_
   rintro e w1 ⟨rfl,rfl⟩
   go_wp2_with fail
   go_region
   go_wp2_with fail
   refine(act_any _ _ _).mono ?_
   rintro e w1 ⟨rfl,hk1⟩
   have HF1:=hid (KW.row hk1 HF.out.lt HF.out)
   have HK1:=hid (HK.out.drew.t hk1)
   clear hk1
   go_wp2_with (refine store_act rfl rfl rfl rfl HF1.out ?_;intro W2 hb2 hkeep)
   exact bodyPost_ret (results_cell_tmp rfl _ _ _ _ _ (0,0) _ rfl hb2 Tryz.underlying55 rfl (by kernel_rfl)) rfl ⟨rfl,HK1.out.kept hkeep fun i hi=>by omega⟩
  have d3:decide (a<x)=false:=decide_eq_false c3
  by_cases c4:p≤a
  ·rw[if_pos ⟨by omega,Or.inr c4⟩]
   clear c3
   go_enter Tryz.func169,Tryz.ntmps169
   go_wp2_with fail
   refine(HB.out _ HK.out).mono ?_
   rintro e w1 ⟨rfl,rfl⟩
   go_wp2_with fail
   go_region
   go_wp2_with fail
   refine(act_any _ _ _).mono ?_
   rintro e w1 ⟨rfl,hk1⟩
   have HF1:=hid (KW.row hk1 HF.out.lt HF.out)
   have HK1:=hid (HK.out.drew.t hk1)
   clear hk1
   go_wp2_with (refine store_act rfl rfl rfl rfl HF1.out ?_;intro W2 hb2 hkeep)
   exact bodyPost_ret (results_cell_tmp rfl _ _ _ _ _ (0,0) _ rfl hb2 Tryz.underlying55 rfl (by kernel_rfl)) rfl ⟨rfl,HK1.out.kept hkeep fun i hi=>by omega⟩
  have d4:decide (p≤a)=false:=decide_eq_false c4
  have c5:a<p:=by omega
  rw[if_neg (by rintro⟨_,h|h⟩<;>omega),if_pos c5]
  clear c3 c4
  go_enter Tryz.func169,Tryz.ntmps169
  go_wp2_with fail
  refine(HB.out _ HK.out).mono ?_
  rintro e w1 ⟨rfl,rfl⟩
  go_wp2_with fail
  go_region
  go_wp2_with fail
  refine(act_any _ _ _).mono ?_
  rintro e w1 ⟨rfl,hk1⟩
  have HF1:=hid (KW.row hk1 HF.out.lt HF.out)
  have HK1:=hid (HK.out.drew.t hk1)
  clear hk1
  go_wp2_with (refine store_act rfl rfl rfl rfl HF1.out ?_;intro W2 hb2 hkeep)
  exact bodyPost_ret (results_cell_tmp rfl _ _ _ _ _ (0,0) _ rfl hb2 Tryz.underlying55 rfl (by kernel_rfl)) rfl ⟨rfl,HK1.out.kept hkeep fun i hi=>by omega⟩
theorem blk_lt {w:World}{b:Nat}{o:Obj}(h:w.heap[b]?=some o):b<w.heap.size:=(Array.getElem?_eq_some_iff.1 h).1
theorem KW.blk {w W:World}{b:Nat}{o:Obj}(h:KW w W)(hlt:b<w.heap.size)(c:w.heap[b]?=some o):W.heap[b]?=some o:=(Below.block h b hlt).trans c
def nx0 (w:World)(a p:Int)(v:Value):World:=(w.alloc (.cells #[.int .i64 a,.int .i64 p,v] 58)).alloc (.cells #[.int .i64 0,.int .i64 0] 55)
theorem nx0_row (w:World)(a p:Int)(v:Value):(nx0 w a p v).rowIs (w.heap.size+1) 55 2 (actF 0 0):=by
 unfold nx0
 have h:=World.rowIs_alloc (w.alloc (.cells #[.int .i64 a,.int .i64 p,v] 58)) #[.int .i64 0,.int .i64 0] 55 (actF 0 0) fun i hi=>by
  rcases(show i=0∨i=1 by simp at hi;omega) with rfl|rfl<;>rfl
 simpa using h
theorem nx0_blk (w:World)(a p:Int)(v:Value):(nx0 w a p v).heap[w.heap.size]?=some (.cells #[.int .i64 a,.int .i64 p,v] 58 (0,0)):=
 KW.blk ((KW.refl (w.alloc (.cells #[.int .i64 a,.int .i64 p,v] 58))).alloc _) (by simp) (heap_alloc_new w _)
theorem nx0_kw (w:World)(a p:Int)(v:Value):KW w (nx0 w a p v):=((KW.refl w).alloc _).alloc _
theorem snext_no1 (k:Int)(ended:Bool)(a p:Int)(N c:Nat)(A:Option Addr)(w:World)
 (h:∀ W,KW w W→Calls Tryz.prog 111 #[.int .i64 k,.agg #[.int .i64 a,.int .i64 p,.slice A N c]] W fun e w'=>e=.returned (.tuple #[.pointer none,.int .i64 2])∧KW W w'):
 Calls Tryz.prog 126 #[.int .i64 k,.bool ended,.agg #[.int .i64 a,.int .i64 p,.slice A N c]] w (AnsP w none):=by
 have H:=hid h
 have HF:=hid (nx0_row w a p (.slice A N c))
 have HK:=hid (nx0_kw w a p (.slice A N c))
 clear h
 unfold nx0 at HF HK
 go_enter Tryz.func126,Tryz.ntmps126
 go_wp2_with fail
 refine(H.out _ HK.out).mono ?_
 rintro e w1 ⟨rfl,hk1⟩
 have HF1:=hid (KW.row hk1 HF.out.lt HF.out)
 have HK1:=hid (HK.out.t hk1)
 clear hk1
 go_wp2_with fail
 refine(nothing_any _).mono ?_
 rintro e w2 ⟨rfl,hk2⟩
 have HF2:=hid (KW.row hk2 HF1.out.lt HF1.out)
 have HK2:=hid (HK1.out.t hk2)
 clear hk2
 go_wp2_with (refine store_act rfl rfl rfl rfl HF2.out ?_;intro W2 hb2 hkeep)
 exact bodyPost_ret (results_cell_tmp rfl _ _ _ _ _ (0,0) _ rfl hb2 Tryz.underlying55 rfl (by kernel_rfl)) rfl ⟨rfl,HK2.out.kept hkeep fun i hi=>by omega⟩
theorem snext_no2 (k:Int)(ended:Bool)(a p:Int)(c:Nat)(A:Option Addr)(w:World)(m:Mc.St)
 (h:∀ W,KW w W→Calls Tryz.prog 111 #[.int .i64 k,.agg #[.int .i64 a,.int .i64 p,.slice A 0 c]] W (NewP W m)):
 Calls Tryz.prog 126 #[.int .i64 k,.bool ended,.agg #[.int .i64 a,.int .i64 p,.slice A 0 c]] w (AnsP w none):=by
 have H:=hid h
 have HF:=hid (nx0_row w a p (.slice A 0 c))
 have HB:=hid (nx0_blk w a p (.slice A 0 c))
 have HK:=hid (nx0_kw w a p (.slice A 0 c))
 clear h
 unfold nx0 at HF HK HB
 go_enter Tryz.func126,Tryz.ntmps126
 go_wp2_with fail
 refine(H.out _ HK.out).mono ?_
 rintro e w1 ⟨mb,mv,rfl,_,_,hk1⟩
 have HF1:=hid (KW.row hk1 HF.out.lt HF.out)
 have HB1:=hid (KW.blk hk1 (blk_lt HB.out) HB.out)
 have c2:w1.cell? ⟨w.heap.size,2,none⟩=some (.slice A 0 c):=by rw[cell_of_row _ _ _ _ _ _ HB1.out];rfl
 have HK1:=hid (HK.out.t hk1)
 clear hk1
 go_wp2_with fail
 refine(nothing_any _).mono ?_
 rintro e w2 ⟨rfl,hk2⟩
 have HF2:=hid (KW.row hk2 HF1.out.lt HF1.out)
 have HK2:=hid (HK1.out.t hk2)
 clear hk2
 go_wp2_with (refine store_act rfl rfl rfl rfl HF2.out ?_;intro W2 hb2 hkeep)
 exact bodyPost_ret (results_cell_tmp rfl _ _ _ _ _ (0,0) _ rfl hb2 Tryz.underlying55 rfl (by kernel_rfl)) rfl ⟨rfl,HK2.out.kept hkeep fun i hi=>by omega⟩
theorem snext_on (k:Int)(ended:Bool)(a p:Int)(N c:Nat)(A:Option Addr)(w:World)(m:Mc.St)(hN:1≤N)(r:Option Mc.Act)
 (h:∀ W,KW w W→Calls Tryz.prog 111 #[.int .i64 k,.agg #[.int .i64 a,.int .i64 p,.slice A N c]] W (NewP W m))
 (hp:p<0∧(∀ W,KW w W→Calls Tryz.prog 168 #[.int .i64 k,.bool ended,.agg #[.int .i64 a,.int .i64 p,.slice A N c]] W (AnsP W r)) ∨
   0≤p∧∀ W,KW w W→Calls Tryz.prog 169 #[.agg #[.int .i64 a,.int .i64 p,.slice A N c]] W (AnsP W r)):
 Calls Tryz.prog 126 #[.int .i64 k,.bool ended,.agg #[.int .i64 a,.int .i64 p,.slice A N c]] w (AnsP w r):=by
 have H:=hid h
 have HF:=hid (nx0_row w a p (.slice A N c))
 have HB:=hid (nx0_blk w a p (.slice A N c))
 have HK:=hid (nx0_kw w a p (.slice A N c))
 have hN2:((N:Int)==0)=false:=by simp;omega
 have hN3:(N==0)=false:=by simp;omega
 clear h
 unfold nx0 at HF HK HB
 have HPs:=hid hp
 clear hp
 unfold AnsP at *
 generalize hx:(r.getD (0,0)).1=x at *
 generalize hy:(r.getD (0,0)).2=y at *
 generalize r.isSome=bb at *
 clear hx hy
 go_enter Tryz.func126,Tryz.ntmps126
 go_wp2_with fail
 refine(H.out _ HK.out).mono ?_
 rintro e w1 ⟨mb,mv,rfl,_,_,hk1⟩
 have HF1:=hid (KW.row hk1 HF.out.lt HF.out)
 have HB1:=hid (KW.blk hk1 (blk_lt HB.out) HB.out)
 have c2:w1.cell? ⟨w.heap.size,2,none⟩=some (.slice A N c):=by rw[cell_of_row _ _ _ _ _ _ HB1.out];rfl
 have c1:w1.cell? ⟨w.heap.size,1,none⟩=some (.int .i64 p):=by rw[cell_of_row _ _ _ _ _ _ HB1.out];rfl
 have HK1:=hid (HK.out.t hk1)
 clear hk1
 rcases HPs.out with⟨hp,hP⟩|⟨hp,hP⟩
 ·have HP:=hid hP
  clear hP
  go_wp2_with (refine wpList_load_row rfl 58 _ rfl w.heap.size rfl 58 _ (0,0) _ HB1.out Tryz.underlying58 rfl (by kernel_rfl) ?_)
  refine(HP.out _ HK1.out).mono ?_
  rintro e w2 ⟨rfl,hk2⟩
  have HF2:=hid (KW.row hk2 HF1.out.lt HF1.out)
  have HK2:=hid (HK1.out.t hk2)
  clear hk2
  go_wp2_with (refine store_act rfl rfl rfl rfl HF2.out ?_;intro W2 hb2 hkeep)
  exact bodyPost_ret (results_cell_tmp rfl _ _ _ _ _ (0,0) _ rfl hb2 Tryz.underlying55 rfl (by kernel_rfl)) rfl ⟨rfl,HK2.out.kept hkeep fun i hi=>by omega⟩
 ·have HP:=hid hP
  clear hP
  have dp:decide (p<0)=false:=decide_eq_false (by omega)
  go_wp2_with (refine wpList_load_row rfl 58 _ rfl w.heap.size rfl 58 _ (0,0) _ HB1.out Tryz.underlying58 rfl (by kernel_rfl) ?_)
  refine(HP.out _ HK1.out).mono ?_
  rintro e w2 ⟨rfl,hk2⟩
  have HF2:=hid (KW.row hk2 HF1.out.lt HF1.out)
  have HK2:=hid (HK1.out.t hk2)
  clear hk2
  go_wp2_with (refine store_act rfl rfl rfl rfl HF2.out ?_;intro W2 hb2 hkeep)
  exact bodyPost_ret (results_cell_tmp rfl _ _ _ _ _ (0,0) _ rfl hb2 Tryz.underlying55 rfl (by kernel_rfl)) rfl ⟨rfl,HK2.out.kept hkeep fun i hi=>by omega⟩
def RTz (w:World)(v:Value)(tags:List Int):Prop:=∃ A c,v=.slice A tags.length c∧(A=none→c=0)∧Row1 w A tags.length fun i=>.int .i64 (tags.getD i 0)
theorem RTz.kw {w w':World}{v:Value}{tags:List Int}(h:RTz w v tags)(hk:KW w w'):RTz w' v tags:=by
 obtain⟨A,c,hv,hz,hr⟩:=h
 exact⟨A,c,hv,hz,hr.k hk⟩
theorem RTz.rt0 {w:World}{v:Value}{tags:List Int}(h:RTz w v tags):RT0 w v tags:=by
 obtain⟨A,c,hv,_,hr⟩:=h
 exact⟨A,c,hv,hr⟩
theorem Owns.rtz {w:World}{base:Nat}{v:Value}{tags:List Int}(h:Owns w base 3 v (ints tags)):RTz w v tags:=by
 obtain⟨A,c,hv,hr⟩:=h.rt.rt0
 refine⟨A,c,hv,fun hA=>?_,hr⟩
 rcases h.2 with⟨h1,_⟩|⟨g,cap,cur,h1,_⟩
 ·rw[hv] at h1;simp only[Value.slice.injEq] at h1;exact h1.2.2
 ·rw[hv,hA] at h1;cases h1
theorem snext_any (k:Int)(ended:Bool)(a p:Int)(tags:List Int)(v:Value)(w:World)(hv:RTz w v tags):
 Calls Tryz.prog 126 #[.int .i64 k,.bool ended,.agg #[.int .i64 a,.int .i64 p,v]] w (AnsP w (Sd.nx k ended a p tags)):=by
 have hv0:=hv
 obtain⟨A,c,rfl,hz,hr⟩:=hv
 by_cases hat:(0≤k∧k<65536)∧(0≤a∧a≤k)∧(-1≤p∧p≤k)∧tags.length≤1048576∧∀ i,i<tags.length→-1≤tags.getD i 0∧tags.getD i 0≤k
 ·obtain⟨hk,ha,hp,hn,ht⟩:=hat
  have hAt:∀ W,KW w W→Calls Tryz.prog 111 #[.int .i64 k,.agg #[.int .i64 a,.int .i64 p,.slice A tags.length c]] W (NewP W ⟨k,a,p,0,tags⟩):=fun W h=>
   at_yes k a p tags _ W hk.1 hk.2 ha.1 ha.2 hp.1 hp.2 hn (fun x hx=>by
    obtain⟨i,hi,rfl⟩:=List.mem_iff_getElem.1 hx
    have:=ht i hi
    simpa [hi] using this) ⟨A,c,rfl,hz,hr.k h⟩
  by_cases h0:tags.length=0
  ·have e:Sd.nx k ended a p tags=none:=by
    rw[Sd.nx_eq,if_pos]
    intro h
    have:=h.2.2.2.1
    omega
   rw[e]
   rw[h0] at hAt ⊢
   exact snext_no2 k ended a p c A w _ hAt
  ·have hok:Sd.okS k a p tags:=⟨hk,ha,hp,⟨by omega,hn⟩,ht⟩
   rw[Sd.nx_eq,if_neg (not_not_intro hok)]
   refine snext_on k ended a p tags.length c A w _ (by omega) _ hAt ?_
   by_cases h1:p<0
   ·rw[if_pos h1]
    exact .inl ⟨h1,fun W h=>sahead_any k ended a p tags A c W hk.1 hk.2 ha.1 ha.2 (by omega) hn (fun i hi=>(ht i hi).1) (hr.k h)⟩
   ·rw[if_neg h1]
    exact .inr ⟨by omega,fun W h=>sback_any a p tags A c W (by omega) (by omega) ha.1 (by omega) hn (fun i hi=>by have:=ht i hi;omega) (hr.k h)⟩
 ·have e:Sd.nx k ended a p tags=none:=by
   rw[Sd.nx_eq,if_pos]
   rintro⟨h1,h2,h3,h4,h5⟩
   exact hat ⟨h1,h2,h3,h4.2,h5⟩
  rw[e]
  refine snext_no1 k ended a p tags.length c A w fun W h=>at_no k a p tags.length c tags A W rfl (hr.k h) ?_
  apply Classical.byContradiction
  intro hno
  simp only[not_or,offB] at hno
  obtain⟨q1,q2,q3,q4,q5,q6⟩:=hno
  simp only[decide_eq_true_eq] at q4 q5
  refine hat ⟨by omega,by omega,by omega,by omega,fun i hi=>?_⟩
  have:¬ (tags.getD i 0 < -1∨k<tags.getD i 0):=fun h=>q6 ⟨i,hi,by simpa using h⟩
  omega
theorem sliceAct:SliceOfS Tryz.prog 28 55 (.agg #[.int .i64 0,.int .i64 0]) 2 16:=⟨Tryz.underlying28,by kernel_rfl,rfl,by omega⟩
def acl (l:List Mc.Act):List Value:=l.flatMap fun a=>[.int .i64 a.1,.int .i64 a.2]
theorem acl_app (l l':List Mc.Act):acl (l++l')=acl l++acl l':=by simp[acl]
theorem acl_len (l:List Mc.Act):(acl l).length=l.length * 2:=by
 induction l with
 | nil=>rfl
 | cons a l ih=>
   have e:acl (a::l)=[Value.int .i64 a.1,.int .i64 a.2]++acl l:=rfl
   rw[e,List.length_append,ih]
   simp only[List.length_cons,List.length_nil]
   omega
theorem acl_one' (l:List Mc.Act):(acl l).all (·.oneCell')=true:=by
 rw[List.all_eq_true]
 intro x hx
 obtain⟨a,_,ha⟩:=List.mem_flatMap.1 hx
 simp only[List.mem_cons,List.not_mem_nil,or_false] at ha
 rcases ha with rfl|rfl<;>rfl
theorem acl_get (l:List Mc.Act){k:Nat}(h:k<l.length):(acl l)[k * 2]?=some (.int .i64 (l.getD k (0,0)).1)∧(acl l)[k * 2+1]?=some (.int .i64 (l.getD k (0,0)).2):=by
 induction l generalizing k with
 | nil=>simp at h
 | cons a l ih=>
   have e:acl (a::l)=.int .i64 a.1 :: .int .i64 a.2::acl l:=rfl
   cases k with
   | zero=>rw[e];exact⟨rfl,rfl⟩
   | succ k=>
     have:=ih (k:=k) (by simpa using h)
     rw[e,show(k+1) * 2=k * 2+1+1 by omega]
     simpa using this
def OwnsA (w:World)(base:Nat)(v:Value)(l:List Mc.Act):Prop:=w.ownsRow base 55 2 v l.length (acl l)
theorem OwnsA.nil (w:World)(base:Nat):OwnsA w base (.slice none 0 0) []:=World.ownsRow_nil _ _ _ _
theorem OwnsA.slice {w:World}{base:Nat}{v:Value}{l:List Mc.Act}(h:OwnsA w base v l):∃ A c,v=.slice A l.length c∧l.length≤c∧Acts w A l:=by
 have hx:=h
 rcases h.2 with⟨rfl,h0⟩|⟨b,cap,cur,rfl,hb,hg,hc,_⟩
 ·exact⟨none,0,by rw[h0],by omega,fun h=>absurd h (by omega)⟩
 ·refine⟨_,cap,rfl,hc,fun _=>⟨b,0,rfl,(Array.getElem?_eq_some_iff.1 hg).1,fun k hk=>?_⟩⟩
  have hc:=World.ownsRow.cells hx (g:=b) (by simp[Value.ownBlock])
  have e:∀ j,(⟨b,0,none⟩:Addr).add j=⟨b,0+j,none⟩:=fun j=>by unfold Addr.add;split<;>simp_all
  obtain⟨h1,h2⟩:=acl_get l hk
  have c1:=hc _ _ h1
  have c2:=hc _ _ h2
  rw[e] at c1 c2
  exact⟨c1,c2⟩
theorem OwnsA.lt {w:World}{base:Nat}{v:Value}{l:List Mc.Act}(h:OwnsA w base v l){b:Nat}(hb:v.ownBlock=some b):base≤b∧b<w.heap.size:=World.ownsRow.lt h b hb
theorem OwnsA.keep {own:Nat→Prop}{w w':World}{base:Nat}{v:Value}{l:List Mc.Act}(h:OwnsA w base v l)(hk:Keep own w w')(hn:∀ b,v.ownBlock=some b→¬ own b):OwnsA w' base v l:=by
 refine⟨h.1,?_⟩
 rcases h.2 with hx|⟨g,cap,cur,rfl,hb,hg,rest⟩
 ·exact .inl hx
 ·exact .inr ⟨g,cap,cur,rfl,hb,(hk.block g (Array.getElem?_eq_some_iff.1 hg).1 (hn g rfl)).trans hg,rest⟩
theorem OwnsA.kw {w w':World}{base:Nat}{v:Value}{l:List Mc.Act}(h:OwnsA w base v l)(hk:KW w w'):OwnsA w' base v l:=h.keep (hk.keep (own:=fun _=>False)) fun _ _ h=>h
theorem OwnsA.base {w:World}{base base':Nat}{v:Value}{l:List Mc.Act}(h:OwnsA w base v l)(hb:base'≤base):OwnsA w base' v l:=
 ⟨h.1,h.2.imp id fun⟨g,cap,cur,hv,hg,r⟩=>⟨g,cap,cur,hv,Nat.le_trans hb hg,r⟩⟩
theorem Acts.holds {w:World}{A:Option Addr}{l:List Mc.Act}{c:Nat}(h:Acts w A l)(h0:l.length=0→A=none∧c=0∨∃ ad,A=some ad):Holds w (.slice A l.length c) l.length 2 (acl l):=by
 refine⟨acl_len l,List.all_eq_true.1 (acl_one' l),?_⟩
 by_cases hl:l.length=0
 ·rcases h0 hl with⟨rfl,rfl⟩|⟨ad,rfl⟩
  ·exact .inl ⟨hl,by rw[hl]⟩
  ·refine .inr ⟨ad,c,rfl,fun j y hj=>?_⟩
   have:=(List.getElem?_eq_some_iff.1 hj).1
   rw[acl_len,hl] at this
   omega
 ·obtain⟨b,off,rfl,hb,hc⟩:=h (by omega)
  refine .inr ⟨_,c,rfl,fun j y hj=>?_⟩
  have hlt:=(List.getElem?_eq_some_iff.1 hj).1
  rw[acl_len] at hlt
  have e:(⟨b,off,none⟩:Addr).add j=⟨b,off+j,none⟩:=by unfold Addr.add;split<;>simp_all
  rw[e]
  have hk:j / 2<l.length:=by omega
  obtain⟨g1,g2⟩:=acl_get l hk
  obtain⟨c1,c2⟩:=hc _ hk
  rcases Nat.mod_two_eq_zero_or_one j with h|h
  ·have e1:j=j / 2 * 2:=by omega
   rw[← e1] at g1 c1
   rw[hj] at g1;cases g1;exact c1
  ·have e1:j=j / 2 * 2+1:=by omega
   rw[← e1] at g2
   rw[Nat.add_assoc,← e1] at c2
   rw[hj] at g2;cases g2;exact c2
theorem OwnsA.holds {w:World}{base:Nat}{v:Value}{l:List Mc.Act}(h:OwnsA w base v l):Holds w v l.length 2 (acl l):=by
 obtain⟨A,c,rfl,hc,hA⟩:=h.slice
 refine hA.holds fun h0=>?_
 rcases h.2 with⟨hv,_⟩|⟨g,cap,cur,hv,_⟩
 ·simp only[Value.slice.injEq] at hv;exact .inl ⟨hv.1,hv.2.2⟩
 ·simp only[Value.slice.injEq] at hv;exact .inr ⟨_,hv.1⟩
theorem OwnsA.app {w:World}{base:Nat}{v:Value}{l l':List Mc.Act}(h:w.ownsRow base 55 2 v (l.length+l'.length) (acl l++acl l')):OwnsA w base v (l++l'):=by
 unfold OwnsA
 rw[List.length_append,acl_app]
 exact h
def vlen:Value→Nat
 | .slice _ n _=>n
 | _=>0
theorem OwnsA.vlen {w:World}{base:Nat}{v:Value}{l:List Mc.Act}(h:OwnsA w base v l):vlen v=l.length:=by
 obtain⟨A,c,rfl,_⟩:=h.slice
 rfl
end Go.Proofs.YtphppbonljdibaaGreat
