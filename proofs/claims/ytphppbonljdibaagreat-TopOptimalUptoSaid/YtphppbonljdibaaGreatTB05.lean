import Derived.Test.YtphppbonljdibaaGreatTB04
import Derived.RegionTactic
import Derived.StillTailTactics
set_option maxRecDepth 100000
set_option maxHeartbeats 4000000
set_option linter.unusedVariables false
set_option linter.unusedSimpArgs false
namespace Go.Proofs.YtphppbonljdibaaGreat
open Go.ChangeShapes Go.WideShapes Go.ChangeAt Go.RowKit
theorem results_tmp4 {fn:Func}{t u v z:Tmp}(h:fn.results=#[.tmp t,.tmp u,.tmp v,.tmp z])(tmps:Array Value)(P:Program)(w:World):
 (results fn tmps).run P w=.ok (.tuple #[tmps.getD t undef,tmps.getD u undef,tmps.getD v undef,tmps.getD z undef]) w:=by
 simp[results,h]
def fcs (fr:List Fl.Fr):List (Int×Int):=(fr.reverse).map fun f=>((f.at_:Int),(f.w:Int))
theorem fcs_cons (t:Fl.Fr)(r:List Fl.Fr):fcs (t::r)=fcs r++[((t.at_:Int),(t.w:Int))]:=by simp[fcs]
theorem fcs_len (r:List Fl.Fr):(fcs r).length=r.length:=by simp[fcs]
def FrOk (l:List Fl.O)(q:Nat):List Fl.Fr→Prop
 | []=>False
 | [b]=>b.w≤65536 * q
 | f::g::r=>f.w≤65536 * q∧f.at_<q∧f.v=(l.getD f.at_ Fl.o0).v∧FrOk l q (g::r)
theorem FrOk.mono {l:List Fl.O}{q:Nat}:∀ {fr:List Fl.Fr},FrOk l q fr→FrOk l (q+1) fr
 | [],h=>h
 | [b],h=>by
   have h1:b.w≤65536 * q:=h
   show b.w≤65536 * (q+1)
   omega
 | f::g::r,⟨h1,h2,h3,h4⟩=>⟨by omega,by omega,h3,FrOk.mono h4⟩
theorem FrOk.top {l:List Fl.O}{q:Nat}{t:Fl.Fr}{r:List Fl.Fr}(h:FrOk l q (t::r)):t.w≤65536 * q:=by
 cases r with
 | nil=>exact h
 | cons g r=>exact h.1
theorem FrOk.add {l:List Fl.O}{q k:Nat}{t:Fl.Fr}{r:List Fl.Fr}(h:FrOk l q (t::r))(hk:k≤65536):FrOk l (q+1) ({ t with w:=t.w+k } :: r):=by
 have h1:=h.top
 cases r with
 | nil=>show t.w+k≤65536 * (q+1);omega
 | cons g r=>
   obtain⟨_,h2,h3,h4⟩:=h
   exact⟨by show t.w+k≤_;omega,by show t.at_<_;omega,h3,h4.mono⟩
theorem blk_le {r:Nat}{v:Int}{n:Nat}(h:Fl.blk r v=some n):n≤65536:=by
 unfold Fl.blk at h
 by_cases h0:r=0
 ·rw[if_pos h0] at h;cases h;omega
 rw[if_neg h0] at h
 by_cases h1:65536<r
 ·rw[if_pos h1] at h;cases h
 rw[if_neg h1] at h
 by_cases h2:((65536 / r:Nat):Int)<v
 ·rw[if_pos h2] at h;cases h
 rw[if_neg h2] at h
 cases h
 have h3:∀ q:Nat,¬ (q:Int)<v→v.toNat≤q:=fun q h=>by omega
 exact Nat.le_trans (Nat.mul_le_mul_left r (h3 _ h2)) (Nat.mul_div_le 65536 r)
structure MP (l:List Fl.O)(q:Nat)(fr:List Fl.Fr)(sz:List Nat):Prop where
 hs:Fl.szs l 0 [⟨0,0,0⟩] (Fl.sz0 l)=Fl.szs (l.drop q) q fr sz
 hw:∃ opn,Fl.wk (l.drop q) q opn=some []∧opn.length+1=fr.length
 hf:FrOk l q fr
 hz:sz.length=l.length
 hn:fr.length≤q+1
theorem MP.start {l:List Fl.O}(h:Fl.wk l 0 []=some []):MP l 0 [⟨0,0,0⟩] (Fl.sz0 l):=⟨rfl,⟨[],h,rfl⟩,Nat.le_refl _,by simp[Fl.sz0],Nat.le_refl _⟩
theorem MP.rep {l:List Fl.O}{q:Nat}{fr:List Fl.Fr}{sz:List Nat}(h:MP l q fr sz)(hq:q<l.length)(hk:(l.getD q Fl.o0).k=7):MP l (q+1) (⟨q,(l.getD q Fl.o0).v,0⟩::fr) sz:=by
 obtain⟨opn,h1,h2⟩:=h.hw
 refine⟨?_,⟨q::opn,?_,by simp[h2]⟩,?_,h.hz,by have:=h.hn;simp;omega⟩
 ·rw[h.hs,Fl.szs_step hq]
  have:Fl.sz1 (l.getD q Fl.o0) q fr sz=some (⟨q,(l.getD q Fl.o0).v,0⟩::fr,sz):=by
   unfold Fl.sz1
   rw[if_pos hk]
  rw[this]
 ·rw[Fl.wk_step hq,Fl.wk1_rep hk] at h1
  exact h1
 ·have h3:=h.hf
  cases fr with
  | nil=>exact h3.elim
  | cons g r=>exact⟨Nat.zero_le _,Nat.lt_succ_self q,rfl,h3.mono⟩
theorem MP.op {l:List Fl.O}{q:Nat}{t:Fl.Fr}{fr:List Fl.Fr}{sz:List Nat}(h:MP l q (t::fr) sz)(hq:q<l.length)(h1:(l.getD q Fl.o0).k≠0)(h7:(l.getD q Fl.o0).k≠7):(1≤(l.getD q Fl.o0).k∧(l.getD q Fl.o0).k≤6)∧MP l (q+1) ({ t with w:=t.w+1 } :: fr) (sz.set q 1):=by
 obtain⟨opn,e1,e2⟩:=h.hw
 rw[Fl.wk_step hq] at e1
 have hr:¬ ((l.getD q Fl.o0).k<0∨7<(l.getD q Fl.o0).k):=fun hb=>by
  unfold Fl.wk1 at e1
  rw[if_pos hb] at e1
  cases e1
 refine⟨by omega,?_,⟨opn,?_,e2⟩,h.hf.add (by omega),by rw[List.length_set];exact h.hz,Nat.le_succ_of_le h.hn⟩
 ·rw[h.hs,Fl.szs_step hq]
  have:Fl.sz1 (l.getD q Fl.o0) q (t::fr) sz=some ({ t with w:=t.w+1 } :: fr,sz.set q 1):=by
   unfold Fl.sz1
   rw[if_neg h7,if_neg h1]
  rw[this]
 ·rw[Fl.wk1_op (by omega) (by omega)] at e1
  exact e1
theorem MP.two {l:List Fl.O}{q:Nat}{fr:List Fl.Fr}{sz:List Nat}(h:MP l q fr sz)(hq:q<l.length)(h0:(l.getD q Fl.o0).k=0):∃ t p r,fr=t::p::r∧t.at_<q∧t.v=(l.getD t.at_ Fl.o0).v∧t.w≤65536 * q∧p.w≤65536 * q:=by
 obtain⟨opn,e1,e2⟩:=h.hw
 rw[Fl.wk_step hq] at e1
 cases opn with
 | nil=>rw[Fl.wk1_none h0] at e1;cases e1
 | cons a o=>
   match fr,e2,h.hf with
   | t::p::r,_,hf=>exact⟨t,p,r,rfl,hf.2.1,hf.2.2.1,hf.1,hf.2.2.2.top⟩
theorem MP.bad {l:List Fl.O}{q:Nat}{t p:Fl.Fr}{fr:List Fl.Fr}{sz:List Nat}(h:MP l q (t::p::fr) sz)(hq:q<l.length)(h0:(l.getD q Fl.o0).k=0)(hb:Fl.blk t.w t.v=none):Fl.meas l=none:=by
 unfold Fl.meas
 rw[h.hs,Fl.szs_step hq]
 have:Fl.sz1 (l.getD q Fl.o0) q (t::p::fr) sz=none:=by
  unfold Fl.sz1
  rw[if_neg (by omega),if_pos h0]
  simp only[hb]
 rw[this]
theorem MP.end_ {l:List Fl.O}{q n:Nat}{t p:Fl.Fr}{fr:List Fl.Fr}{sz:List Nat}(h:MP l q (t::p::fr) sz)(hq:q<l.length)(h0:(l.getD q Fl.o0).k=0)(hb:Fl.blk t.w t.v=some n):MP l (q+1) ({ p with w:=p.w+n } :: fr) (sz.set t.at_ n):=by
 obtain⟨opn,e1,e2⟩:=h.hw
 rw[Fl.wk_step hq] at e1
 cases opn with
 | nil=>rw[Fl.wk1_none h0] at e1;cases e1
 | cons a o=>
   rw[Fl.wk1_end h0] at e1
   refine⟨?_,⟨o,e1,by simpa using e2⟩,h.hf.2.2.2.add (blk_le hb),by rw[List.length_set];exact h.hz,by have:=h.hn;simp at this ⊢;omega⟩
   rw[h.hs,Fl.szs_step hq]
   have:Fl.sz1 (l.getD q Fl.o0) q (t::p::fr) sz=some ({ p with w:=p.w+n } :: fr,sz.set t.at_ n):=by
    unfold Fl.sz1
    rw[if_neg (by omega),if_pos h0]
    simp only[hb]
   rw[this]
theorem MP.last {l:List Fl.O}{fr:List Fl.Fr}{sz:List Nat}(h:MP l l.length fr sz):∃ b,fr=[b]∧Fl.meas l=if 65536<b.w then none else some (sz,b.w):=by
 obtain⟨opn,e1,e2⟩:=h.hw
 rw[List.drop_length] at e1
 have e3:opn=[]:=Option.some.inj e1
 subst e3
 match fr,e2 with
 | [b],_=>
   refine⟨b,rfl,?_⟩
   unfold Fl.meas
   rw[h.hs,List.drop_length]
   rfl
theorem nvs_ivs (l:List Nat):nvs l=ivs (l.map fun(n:Nat)=>(n:Int)):=by simp[nvs,ivs]
theorem nvs_set (l:List Nat)(i n:Nat):nvs (l.set i n)=ivs ((l.map fun(n:Nat)=>(n:Int)).set i (n:Int)):=by rw[nvs_ivs,List.map_set]
structure MM (x y base N:Nat)(v:Value)(fr:List Fl.Fr)(sz:List Nat)(wr:World):Prop where
 ho:OwnsF wr base 174 v (fcs fr)
 hx:Owns wr base 3 (.slice (some ⟨x,0,none⟩) N N) (nvs sz)
 hy:∃ ys:List Int,ys.length=N∧Owns wr base 3 (.slice (some ⟨y,0,none⟩) N N) (ivs ys)
 hv:∀ b,v.ownBlock=some b→b≠x∧b≠y
theorem MM.keep {own:Nat→Prop}{x y base N:Nat}{v:Value}{fr:List Fl.Fr}{sz:List Nat}{wr w':World}(h:MM x y base N v fr sz wr)(hk:Keep own wr w')(hn:∀ i,own i→wr.heap.size≤i):MM x y base N v fr sz w':=by
 obtain⟨ys,h1,h2⟩:=h.hy
 exact⟨h.ho.keep hk fun b hb ho=>absurd (h.ho.lt hb).2 (by have:=hn b ho;omega),hk.owns h.hx fun b hb ho=>absurd (h.hx.lt hb).2 (by have:=hn b ho;omega),⟨ys,h1,hk.owns h2 fun b hb ho=>absurd (h2.lt hb).2 (by have:=hn b ho;omega)⟩,h.hv⟩
theorem MM.kw {x y base N:Nat}{v:Value}{fr:List Fl.Fr}{sz:List Nat}{wr w':World}(h:MM x y base N v fr sz wr)(hk:KW wr w'):MM x y base N v fr sz w':=h.keep (hk.keep (own:=fun _=>False)) fun _ h=>h.elim
theorem OwnsF.new (W:World)(base:Nat)(hb:base≤W.heap.size):OwnsF (W.alloc (.cells #[.int .i64 0,.int .i64 0] 174)) base 174 (.slice (some ⟨W.heap.size,0,none⟩) 1 1) (fcs [⟨0,0,0⟩]):=
 ⟨rfl,.inr ⟨W.heap.size,1,#[.int .i64 0,.int .i64 0],rfl,hb,heap_alloc_new W _,Nat.le_refl _,by unfold maxLen;decide,by simp,rfl⟩⟩
theorem MM.base {x y base N:Nat}{v:Value}{fr:List Fl.Fr}{sz:List Nat}{w:World}(h:MM x y base N v fr sz w)(hN:0<N):base≤x∧x<w.heap.size∧base≤y∧y<w.heap.size:=by
 obtain⟨ys,h1,h2⟩:=h.hy
 have e:∀ b,(Value.slice (some ⟨b,0,none⟩) N N).ownBlock=some b:=fun b=>rfl
 have hx:=h.hx.lt (e x)
 have hy:=h2.lt (e y)
 omega
theorem MM.sx {x y base N:Nat}{v:Value}{fr:List Fl.Fr}{sz:List Nat}{w:World}(h:MM x y base N v fr sz w)(hxy:x≠y)(hz:sz.length=N){i:Nat}(hi:i<N)(n:Nat):
 base≤x∧x<w.heap.size∧w.frozen? ⟨x,i,none⟩=false∧(∃ c,w.cell? ⟨x,i,none⟩=some c)∧MM x y base N v fr (sz.set i n) (w.setCell ⟨x,i,none⟩ (.int .i64 (n:Int))):=by
 have hx:=h.hx
 rw[nvs_ivs] at hx
 obtain⟨b,h1,h2,h3,h4,h5,h6,h7⟩:=hx.puti (i:=i) (by simp[hz,hi]) (n:Int)
 cases h1
 obtain⟨ys,y1,y2⟩:=h.hy
 have hk:Keep (· = x) w (w.setCell ⟨x,i,none⟩ (.int .i64 (n:Int))):=(Keep.refl _ w).setCell _ _ rfl
 refine⟨h3,h4,h5,⟨_,h6⟩,h.ho.keep hk fun b hb=>(h.hv b hb).1,?_,⟨ys,y1,hk.owns y2 fun b hb=>?_⟩,h.hv⟩
 ·rw[nvs_set];exact h7
 ·have:y=b:=Option.some.inj hb
  omega
theorem MM.sy {x y base N:Nat}{v:Value}{fr:List Fl.Fr}{sz:List Nat}{w:World}(h:MM x y base N v fr sz w)(hxy:x≠y){i:Nat}(hi:i<N)(n:Int):
 base≤y∧y<w.heap.size∧w.frozen? ⟨y,i,none⟩=false∧(∃ c,w.cell? ⟨y,i,none⟩=some c)∧MM x y base N v fr sz (w.setCell ⟨y,i,none⟩ (.int .i64 n)):=by
 obtain⟨ys,y1,y2⟩:=h.hy
 obtain⟨b,h1,h2,h3,h4,h5,h6,h7⟩:=y2.puti (i:=i) (by omega) n
 cases h1
 have hk:Keep (· = y) w (w.setCell ⟨y,i,none⟩ (.int .i64 n)):=(Keep.refl _ w).setCell _ _ rfl
 refine⟨h3,h4,h5,⟨_,h6⟩,h.ho.keep hk fun b hb=>(h.hv b hb).2,hk.owns h.hx fun b hb=>?_,⟨_,by rw[List.length_set];exact y1,h7⟩,h.hv⟩
 have:x=b:=Option.some.inj hb
 omega
theorem MM.top {x y base N:Nat}{v:Value}{t:Fl.Fr}{r:List Fl.Fr}{sz:List Nat}{w:World}(h:MM x y base N v (t::r) sz w):
 ∃ b cap,v=.slice (some ⟨b,0,none⟩) (r.length+1) cap∧r.length+1≤cap∧base≤b∧b<w.heap.size∧b≠x∧b≠y∧w.cell? ⟨b,r.length * 2,none⟩=some (.int .i64 t.at_)∧w.cell? ⟨b,r.length * 2+1,none⟩=some (.int .i64 t.w)∧(∀ o,w.frozen? ⟨b,o,none⟩=false) ∧
  MM x y base N (.slice (some ⟨b,0,none⟩) r.length cap) r sz w∧∀ n:Nat,MM x y base N v ({ t with w:=n } :: r) sz (w.setCell ⟨b,r.length * 2+1,none⟩ (.int .i64 n)):=by
 have ho:=h.ho
 rw[fcs_cons] at ho
 obtain⟨b,cap,rfl,h1,h2,h3,h4,h5,h6,h7,h8⟩:=ho.last
 rw[fcs_len] at *
 have hb:=h.hv b rfl
 obtain⟨ys,y1,y2⟩:=h.hy
 refine⟨b,cap,rfl,h1,h2,h3,hb.1,hb.2,h4,h5,h6,⟨h7,h.hx,h.hy,fun b' hb'=>h.hv b' (by cases hb';rfl)⟩,fun n=>?_⟩
 have hk:Keep (· = b) w (w.setCell ⟨b,r.length * 2+1,none⟩ (.int .i64 n)):=(Keep.refl _ w).setCell _ _ rfl
 refine⟨by rw[fcs_cons];exact h8 n,hk.owns h.hx fun b' hb'=>?_,⟨ys,y1,hk.owns y2 fun b' hb'=>?_⟩,h.hv⟩
 ·have:x=b':=Option.some.inj hb'
  omega
 ·have:y=b':=Option.some.inj hb'
  omega
theorem MM.push {x y base N q:Nat}{vv:Int}{v v':Value}{fr:List Fl.Fr}{sz:List Nat}{w w':World}{o:Obj}(h:MM x y base N v fr sz w)(hb:base≤w.heap.size)(ho:OwnsF w' base 174 v' (fcs fr++[((q:Int),0)]))(hk:Keep (fun i=>v.ownBlock=some i) (w.alloc o) w')
 (hv:v'.ownBlock=v.ownBlock∨∃ j,v'.ownBlock=some j∧w.heap.size≤j):MM x y base N v' (⟨q,vv,0⟩::fr) sz w':=by
 have h1:=h.kw ((KW.refl w).alloc o)
 obtain⟨ys,y1,y2⟩:=h1.hy
 have hxl:=h.hx
 obtain⟨_,_,y3⟩:=h.hy
 refine⟨by rw[fcs_cons];exact ho,hk.owns h1.hx fun b hb ho=>?_,⟨ys,y1,hk.owns y2 fun b hb ho=>?_⟩,fun b hb=>?_⟩
 ·have:x=b:=Option.some.inj hb
  exact(h.hv b ho).1 this.symm
 ·have:y=b:=Option.some.inj hb
  exact(h.hv b ho).2 this.symm
 ·rcases hv with h2|⟨j,h2,h3⟩
  ·exact h.hv b (h2 ▸ hb)
  ·rw[h2] at hb
   cases hb
   have a1:=(h.hx.lt (b:=x) rfl).2
   have a2:=(y3.lt (b:=y) rfl).2
   omega
theorem MM.own {x y base N:Nat}{v:Value}{fr:List Fl.Fr}{sz:List Nat}{w:World}(h:MM x y base N v fr sz w){b:Nat}(hb:v.ownBlock=some b):base≤b:=(h.ho.lt hb).1
theorem measure_any (A:Option Addr)(c:Nat)(l:List Fl.O)(w:World)(hlen:l.length≤1048576)(hA:OpsM w A l)(hv:∀ o,o∈l→0≤o.v∧o.v<18446744073709551616):
 Calls Tryz.prog 96 #[.slice A l.length c] w (MeasP l w):=by
 have HM:=hid (match_any A c l w hlen hA)
 have HA:=hid hA
 have HV:=hid hv
 clear hA hv
 unfold MeasP
 generalize hN:l.length=N at *
 have HN:=hid hN
 clear hN
 have hmk:∀ W,(Instr.makeSlice 56 (.int .i64 N) (.int .i64 N)).run Tryz.prog W=.ok (.slice (some ⟨W.heap.size,0,none⟩) N N) (W.alloc (.cells (madeCells #[.int .i64 0] N) 3)):=fun W=>run_make_row' (P:=Tryz.prog) 56 3 (.int .i64 0) 8 Tryz.underlying56 (by kernel_rfl) rfl .i64 .i64 N (by omega) (by omega) W
 go_enter Tryz.func96,Tryz.ntmps96
 go_wp2_with fail
 refine wp_scope_straight ?_
 go_wp2_with fail
 refine HM.out.mono ?_
 rintro e w1 ⟨hk,h⟩
 have HK:=hid hk
 clear hk
 rcases h with⟨h1,v,rfl,ho⟩|⟨h1,rfl⟩
 ·have HW:=hid h1
  have HO:=hid ho
  clear h1 ho
  go_wp2_with fail
  refine wp_mono (Q:=fun e a' W=>e=.normal∧∃ x y:Nat,a' = { tmps:=#[Value.slice A N c,undef,Value.slice (some ⟨x,0,none⟩) N N,Value.slice (some ⟨y,0,none⟩) N N,.int .i64 0,.int .i64 0,v,.int .i64 0,undef,undef,undef,undef,undef,undef,undef,undef,Value.tuple #[v,.int .i64 0],Value.slice A N c,Value.tuple #[v,.int .i64 0],v,.int .i64 0,.int .i64 0,.bool false,undef,Value.slice A N c,.int .i64 N,Value.slice (some ⟨x,0,none⟩) N N,Value.slice A N c,.int .i64 N,Value.slice (some ⟨y,0,none⟩) N N,undef,undef,undef,undef,undef,undef,undef,undef,undef,undef,undef,undef,undef,undef,undef,undef,undef,undef,undef,undef,undef,undef,undef,undef,undef,undef,undef,undef,undef,undef,undef,undef,undef,undef,undef,undef,undef,undef,undef,undef,undef,undef,undef,undef,undef,undef,undef,undef,undef,undef,undef,undef,undef,undef,undef,undef,undef,undef,undef,undef,undef,undef,undef,undef,undef,undef,undef,undef,undef,undef,undef,undef,undef,undef,undef,undef,undef,undef,undef,undef,undef,undef,undef,undef,undef,undef,undef,undef,undef,undef,undef,undef,undef,undef,undef,undef,undef,undef,undef,undef,undef,undef,undef,undef,undef,undef,undef,undef,undef,undef,undef,undef,undef,undef,undef,undef],defers:=[] }∧Hid (KW w1 W)∧Hid (Owns W w1.heap.size 3 (.slice (some ⟨x,0,none⟩) N N) (ivs (List.replicate N 0)))∧Hid (Owns W w1.heap.size 3 (.slice (some ⟨y,0,none⟩) N N) (ivs (List.replicate N 0)))∧x≠y) ?reg ?after
  case reg=>
   have HZ1:=hid ((Owns.made w1 w1.heap.size N (Nat.le_refl _) hlen).alloc (.cells (madeCells #[.int .i64 0] N) 3)).drew
   have HZ2:Hid (Owns ((w1.alloc (.cells (madeCells #[.int .i64 0] N) 3)).alloc (.cells (madeCells #[.int .i64 0] N) 3)).drew w1.heap.size 3 (.slice (some ⟨w1.heap.size+1,0,none⟩) N N) (ivs (List.replicate N 0))):=by
    have h:=(Owns.made (w1.alloc (.cells (madeCells #[.int .i64 0] N) 3)) w1.heap.size N (by simp) hlen).drew
    rw[show(w1.alloc (.cells (madeCells #[.int .i64 0] N) 3)).heap.size=w1.heap.size+1 by simp] at h
    exact hid h
   have HZ3:=hid ((((KW.refl w1).alloc (.cells (madeCells #[.int .i64 0] N) 3)).alloc (.cells (madeCells #[.int .i64 0] N) 3)).drew)
   go_region
   ·exact⟨rfl,_,_,rfl,HZ3,HZ1,HZ2,by omega⟩
   ·exact⟨rfl,_,_,rfl,HZ3,HZ2,HZ1,by omega⟩
  case after=>
   rintro e a' W ⟨rfl,x,y,rfl,HK1,HX,HY,hxy⟩
   have hW1:w1.heap.size≤W.heap.size:=Below.size HK1.out
   have HM0:Hid (MM x y w1.heap.size N (.slice (some ⟨W.heap.size,0,none⟩) 1 1) [⟨0,0,0⟩] (Fl.sz0 l) (W.alloc (.cells #[.int .i64 0,.int .i64 0] 174))):=by
    have e0:nvs (Fl.sz0 l)=ivs (List.replicate N 0):=by
     rw[nvs_ivs]
     unfold Fl.sz0
     rw[HN.out,List.map_replicate]
     rfl
    have a1:=HX.out.lt (b:=x) rfl
    have a2:=HY.out.lt (b:=y) rfl
    refine hid ⟨OwnsF.new W _ hW1,by rw[e0];exact HX.out.alloc _,⟨_,by simp,HY.out.alloc _⟩,fun b hb=>?_⟩
    have:W.heap.size=b:=Option.some.inj hb
    omega
   have HK2:Hid (KW w1 (W.alloc (.cells #[.int .i64 0,.int .i64 0] 174))):=hid (HK1.out.alloc _)
   have HP0:=hid (MP.start HW.out)
   clear HX HY hW1
   go_wp2_with fail
   refine wp_label ?_
   go_wp2_with fail
   go_loopw [5,8,34] (fun er v i wr=>∃ (q:Nat) (fr:List Fl.Fr) (sz:List Nat),q≤N∧i=.int .i64 q∧er=.int .i64 0∧Hid (MP l q fr sz)∧Hid (MM x y w1.heap.size N v fr sz wr)∧Hid (KW w1 wr)) (fun _ _ i _=>N - (intOf i).toNat)
   case atStart=>exact⟨0,_,_,by omega,rfl,rfl,HP0,HM0,HK2⟩
   case round=>
    clear HM0 HK2 HP0 HK1
    obtain⟨q,fr,sz,hq,rfl,rfl,HP,HQ,HKr⟩:=hrel
    by_cases hlt:q<N
    ·have L1:(q:Int)<(N:Int):=by omega
     have hql:q<l.length:=by rw[HN.out];exact hlt
     have HOps:=hid (HA.out.kw (HK.out.t HKr.out))
     obtain⟨b',off,rfl,hb',c0,c1,c2,c3,c4⟩:=HOps.out.at_ hql
     obtain⟨t,r,rfl⟩:∃ t r,fr=t::r:=by
      have h3:=HP.out.hf
      cases fr with
      | nil=>exact h3.elim
      | cons g r=>exact⟨g,r,rfl⟩
     have hz:sz.length=N:=by rw[HP.out.hz];exact HN.out
     have hr:r.length≤1048576:=by have h3:=HP.out.hn;simp at h3;omega
     have ht:t.w≤1099511627776:=by have h3:=HP.out.hf.top;omega
     by_cases h7:(l.getD q Fl.o0).k=7
     ·have HP1:=hid (HP.out.rep hql h7)
      rw[h7] at c0
      clear h7 HP HOps
      generalize l.getD q Fl.o0=o at *
      obtain⟨k,d,a,bb,vv⟩:=o
      simp only at c0 c1 c2 c3 c4 HP1
      have HQ1:=hid (HQ.out.kw ((KW.refl wr).alloc (.cells #[.int .i64 7,.int .i64 d,.int .i64 a,.int .i64 bb,.int .u64 vv] 83)))
      have HK5:=hid (HKr.out.alloc (.cells #[.int .i64 7,.int .i64 d,.int .i64 a,.int .i64 bb,.int .u64 vv] 83))
      obtain⟨bf,cf,rfl,hcf,hbf,hbf2,hnx,hny,d0,d1,fz,_,_⟩:=HQ1.out.top
      clear HQ d0 d1
      have HSZ:Hid (Value.slice (some ⟨wr.heap.size+1,0,none⟩) 1 1=Value.slice (some ⟨(wr.alloc (.cells #[.int .i64 7,.int .i64 d,.int .i64 a,.int .i64 bb,.int .u64 vv] 83)).heap.size,0,none⟩) 1 1):=hid (by simp)
      generalize hm:r.length=m at *
      have HMm:=hid hm
      clear hm
      go_wp2_with (at_builtin;go_loud (refine wpList_appF rfl rfl (base:=w1.heap.size) (p:=q) (n:=0) (L:=fcs (t::r)) (c:=1) (v:=.slice (some ⟨bf,0,none⟩) (m+1) cf) rfl HSZ.out HQ1.out.ho (Below.size HK5.out) (by rw[fcs_len,List.length_cons,HMm.out];omega) ?_);intro v7 w7 HO7 HK8 HV7)
      have HM7:Hid (MM x y w1.heap.size N v7 (⟨q,vv,0⟩::t::r) sz w7):=hid (HQ1.out.push (Below.size HK5.out) HO7.out HK8.out HV7.out)
      have HK9:Hid (KW w1 w7):=hid ((HK5.out.alloc _).kept HK8.out fun i hi=>HQ1.out.own hi)
      go_roundw
      case rel=>exact⟨q+1,_,sz,by omega,by go_num,rfl,HP1,HM7,HK9⟩
      case measure=>simp[intOf];omega
     ·by_cases h0:(l.getD q Fl.o0).k=0
      ·obtain⟨t',p,r',hfr,ht1,ht2,ht3,ht4⟩:=HP.out.two hql h0
       obtain⟨rfl,rfl⟩:t=t'∧r=p::r':=by cases hfr;exact⟨rfl,rfl⟩
       have HBad:=hid (HP.out.bad hql h0)
       have HEnd:=hid (fun n h=>HP.out.end_ (n:=n) hql h0 h)
       have hatN:t.at_<N:=by omega
       obtain⟨b'',off',hAA,_,_,_,_,_,e4⟩:=HOps.out.at_ (k:=t.at_) (by rw[HN.out];exact hatN)
       rw[← ht2] at e4
       cases hAA
       have hvt:0≤t.v∧t.v<18446744073709551616:=by
        rw[ht2]
        have hmem:l.getD t.at_ Fl.o0∈l:=by
         have h1:t.at_<l.length:=by rw[HN.out];exact hatN
         rw[List.getD_eq_getElem?_getD,List.getElem?_eq_getElem h1]
         exact List.getElem_mem h1
        exact HV.out _ hmem
       rw[h0] at c0
       clear h0 h7 HP HOps hfr ht2
       generalize l.getD q Fl.o0=o at *
       obtain⟨k,d,a,bb,vv⟩:=o
       simp only at c0 c1 c2 c3 c4
       have hkA:=(KW.refl wr).alloc (.cells #[.int .i64 0,.int .i64 d,.int .i64 a,.int .i64 bb,.int .u64 vv] 83)
       have HQ1:=hid (HQ.out.kw hkA)
       have HK5:=hid (HKr.out.alloc (.cells #[.int .i64 0,.int .i64 d,.int .i64 a,.int .i64 bb,.int .u64 vv] 83))
       have e4:=(Below.cell hkA hb').trans e4
       clear hkA
       have hr':r'.length+1≤1048576:=by simpa using hr
       obtain⟨bf,cf,rfl,hcf,hbf,hbf2,hnx,hny,d0,d1,fz,_,_⟩:=HQ1.out.top
       clear HQ fz
       simp only[List.length_cons] at hr hcf d0 d1 HQ1 ⊢
       generalize hm:r'.length=m at *
       have HMm:=hid hm
       clear hm
       have hm2:m≤1048576:=by omega
       have hat2:t.at_≤1048576:=by omega
       have hbb5:b'<(wr.alloc (.cells #[.int .i64 0,.int .i64 d,.int .i64 a,.int .i64 bb,.int .u64 vv] 83)).heap.size:=by simp;omega
       go_wp2_with fail
       have hXS:=And.intro d0 (And.intro d1 e4)
       have HBl:=hid (fun W=>block_any t.w ht t.v hvt.1 hvt.2 W)
       refine wpX_region (S:=fun w'=>w'.cell? ⟨bf,(m+1) * 2,none⟩=some (.int .i64 t.at_)∧w'.cell? ⟨bf,(m+1) * 2+1,none⟩=some (.int .i64 t.w)∧w'.cell? ⟨b',off+t.at_ * 5+4,none⟩=some (.int .u64 t.v)) (L:=99) (by kernel_rfl) ?_
       refine tk 0 ?_ (fun _ _=>?_) hXS ?_;rotate_left;· go_simp;try rfl
       simp only[lsz,lss]
       refine tk 1 ?_ (fun _ _=>?_) hXS ?_;rotate_left;· go_simp;try rfl
       simp only[lsz,lss]
       refine tk 2 ?_ (fun _ _=>?_) hXS ?_;rotate_left;· go_simp;try rfl
       simp only[lsz,lss]
       refine tk 3 ?_ (fun _ _=>?_) hXS ?_;rotate_left;· go_simp;try rfl
       simp only[lsz,lss]
       refine tk 4 ?_ (fun _ _=>?_) hXS ?_;rotate_left;· go_simp;try rfl
       simp only[lsz,lss]
       refine tk 5 ?_ (fun _ _=>?_) hXS ?_;rotate_left;· go_simp;try rfl
       simp only[lsz,lss]
       refine tk 6 ?_ (fun _ _=>?_) hXS ?_;rotate_left;· go_simp;try rfl
       simp only[lsz,lss]
       refine tk 7 ?_ (fun _ _=>?_) hXS ?_;rotate_left;· go_simp;try rfl
       simp only[lsz,lss]
       refine tk 8 ?_ (fun _ _=>?_) hXS ?_;rotate_left;· go_simp;try rfl
       simp only[lsz,lss]
       refine tk 9 ?_ (fun _ _=>?_) hXS ?_;rotate_left;· go_simp;try rfl
       simp only[lsz,lss]
       refine tk 10 ?_ (fun _ _=>?_) hXS ?_;rotate_left;· go_simp;try rfl
       simp only[lsz,lss]
       refine tk 11 ?_ (fun _ _=>?_) hXS ?_;rotate_left;· go_simp;try rfl
       simp only[lsz,lss]
       refine wpX_hard (k:=12) (by kernel_rfl) rfl (fun K hK=>?_)
       go_simp
       refine(HBl.out _).mono ?_
       rintro e w5 ⟨rfl,hres⟩
       rcases hres with⟨hbn,rfl⟩|⟨n,hbn,rfl⟩
       ·have HNo:Hid (Fl.meas l=none):=hid (HBad.out hbn)
        refine hK _ _ (fun _=>hXS) ?_
        clear hK K
        try simp only[lsz,lss]
        refine tk 13 ?_ (fun _ _=>?_) hXS ?_;rotate_left;· go_simp;try rfl
        simp only[lsz,lss]
        refine tk 14 ?_ (fun _ _=>?_) hXS ?_;rotate_left;· go_simp;try rfl
        simp only[lsz,lss]
        refine tk 15 ?_ (fun _ _=>?_) hXS ?_;rotate_left;· go_simp;try rfl
        simp only[lsz,lss]
        refine tk 16 ?_ (fun _ _=>?_) hXS ?_;rotate_left;· go_simp;try rfl
        simp only[lsz,lss]
        refine tk 17 ?_ (fun _ _=>?_) hXS ?_;rotate_left;· go_simp;try rfl
        simp only[lsz,lss]
        refine wpX_done (by kernel_rfl) ?_
        clear hXS d0 d1 e4
        go_wp2_with fail
        simp only[Exit.noGoto]
        (try simp only[Exit.inBlock,Exit.then])
        refine bodyPost_ret (results_tmp4 rfl _ _ _) rfl ?_
        exact⟨(HK.out.t HK5.out).drew,.inr (.inl ⟨HW.out,HNo.out,rfl⟩)⟩
       ·have HP1:=hid (HEnd.out n hbn)
        have hn:n≤65536:=blk_le hbn
        have hpn:p.w≤1099511627776:=by omega
        refine hK _ _ (fun _=>hXS) ?_
        clear hK K
        try simp only[lsz,lss]
        refine tk 13 ?_ (fun _ _=>?_) hXS ?_;rotate_left;· go_simp;try rfl
        simp only[lsz,lss]
        refine tk 14 ?_ (fun _ _=>?_) hXS ?_;rotate_left;· go_simp;try rfl
        simp only[lsz,lss]
        refine tk 15 ?_ (fun _ _=>?_) hXS ?_;rotate_left;· go_simp;try rfl
        simp only[lsz,lss]
        refine tk 16 ?_ (fun _ _=>?_) hXS ?_;rotate_left;· go_simp;try rfl
        simp only[lsz,lss]
        refine tk 17 ?_ (fun _ _=>?_) hXS ?_;rotate_left;· go_simp;try rfl
        simp only[lsz,lss]
        refine wpX_done (by kernel_rfl) ?_
        clear hXS d0 d1 e4
        have HQ5:=hid (HQ1.out.kw (KW.refl _).drew)
        have HK6:=hid HK5.out.drew
        clear HQ1 HK5 hbf2 hbb5 HBl HBad HEnd hbn
        generalize (wr.alloc (.cells #[.int .i64 0,.int .i64 d,.int .i64 a,.int .i64 bb,.int .u64 vv] 83)).drew=V at HQ5 HK6 ⊢
        obtain⟨bf2,cf2,hv2,_,_,hbfl,_,_,d0,d1,fz,_,_⟩:=HQ5.out.top
        simp only[List.length_cons,HMm.out] at hv2 d0 d1
        obtain⟨rfl,rfl⟩:bf=bf2∧cf=cf2:=by cases hv2;exact⟨rfl,rfl⟩
        obtain⟨s1,s2,s3,⟨s4,s5⟩,s6⟩:=HQ5.out.sx hxy hz hatN n
        obtain⟨bf2,cf2,hv2',_,_,_,_,_,d0',d1',_,_,_⟩:=s6.top
        simp only[List.length_cons,HMm.out] at hv2' d0' d1'
        obtain⟨rfl,rfl⟩:bf=bf2∧cf=cf2:=by cases hv2';exact⟨rfl,rfl⟩
        obtain⟨u1,u2,u3,⟨u4,u5⟩,u6⟩:=s6.sy hxy hatN (t.w:Int)
        have HQ7:=hid (u6.kw (KW.refl _).drew)
        have HK7:Hid (KW w1 ((V.setCell ⟨x,t.at_,none⟩ (.int .i64 (n:Int))).setCell ⟨y,t.at_,none⟩ (.int .i64 (t.w:Int))).drew):=by
         refine hid ((HK6.out.kept (((Keep.refl (fun i=>i=x∨i=y) V).setCell ⟨x,t.at_,none⟩ (.int .i64 (n:Int)) (.inl rfl)).setCell ⟨y,t.at_,none⟩ (.int .i64 (t.w:Int)) (.inr rfl)) fun i hi=>?_).drew)
         rcases hi with rfl|rfl
         ·exact s1
         ·exact u1
        have a1:V.drew.cell? ⟨bf,(m+1) * 2,none⟩=some (.int .i64 t.at_):=d0
        have a2:V.drew.cell? ⟨bf,(m+1) * 2+1,none⟩=some (.int .i64 t.w):=d1
        have a3:V.drew.cell? ⟨x,t.at_,none⟩=some s4:=s5
        have a4:V.drew.frozen? ⟨x,t.at_,none⟩=false:=s3
        have a5:(V.setCell ⟨x,t.at_,none⟩ (.int .i64 (n:Int))).drew.cell? ⟨bf,(m+1) * 2,none⟩=some (.int .i64 t.at_):=d0'
        have a6:(V.setCell ⟨x,t.at_,none⟩ (.int .i64 (n:Int))).drew.cell? ⟨bf,(m+1) * 2+1,none⟩=some (.int .i64 t.w):=d1'
        have a7:(V.setCell ⟨x,t.at_,none⟩ (.int .i64 (n:Int))).drew.cell? ⟨y,t.at_,none⟩=some u4:=u5
        have a8:(V.setCell ⟨x,t.at_,none⟩ (.int .i64 (n:Int))).drew.frozen? ⟨y,t.at_,none⟩=false:=u3
        clear d0 d1 d0' d1' s5 s3 u5 u3 s6 u6 fz hv2 hv2' HQ5 HK6
        go_wp2_with fail
        go_region
        clear a1 a2 a3 a4 a5 a6 a7 a8
        generalize ((V.setCell ⟨x,t.at_,none⟩ (.int .i64 (n:Int))).setCell ⟨y,t.at_,none⟩ (.int .i64 (t.w:Int))).drew=V7 at HQ7 HK7 ⊢
        obtain⟨bf2,cf2,hv2,_,_,_,_,_,_,_,_,hpp,_⟩:=HQ7.out.top
        simp only[List.length_cons,HMm.out] at hv2 hpp
        obtain⟨rfl,rfl⟩:bf=bf2∧cf=cf2:=by cases hv2;exact⟨rfl,rfl⟩
        have HQ8:=hid (hpp.kw ((KW.refl V7).alloc (.cells #[.int .i64 (p.w:Int),.int .i64 (n:Int)] 3)))
        have HK8:=hid (HK7.out.alloc (.cells #[.int .i64 (p.w:Int),.int .i64 (n:Int)] 3))
        obtain⟨bf2,cf2,hv3,_,_,hb7,_,_,_,d1,_,_,_⟩:=hpp.top
        obtain⟨bf3,cf3,hv4,_,_,hbl4,_,_,_,d4,fz,_,hset⟩:=HQ8.out.top
        simp only[HMm.out] at hv3 hv4 d1 d4 hset
        obtain⟨rfl,rfl⟩:bf=bf2∧cf=cf2:=by cases hv3;exact⟨rfl,rfl⟩
        obtain⟨rfl,rfl⟩:bf=bf3∧cf=cf3:=by cases hv4;exact⟨rfl,rfl⟩
        have HQ9:=hid (hset (p.w+n))
        have HK9:Hid (KW w1 ((V7.alloc (.cells #[.int .i64 (p.w:Int),.int .i64 (n:Int)] 3)).setCell ⟨bf,m * 2+1,none⟩ (.int .i64 ((p.w+n:Nat):Int)))):=hid (HK8.out.kept ((Keep.refl (· = bf) _).setCell _ _ rfl) fun i hi=>by rw[hi];exact hbf)
        have hnorm:(V7.alloc (.cells #[.int .i64 (p.w:Int),.int .i64 (n:Int)] 3)).setCell ⟨bf,m * 2+1,none⟩ (.int .i64 ((p.w+n:Nat):Int))=(V7.setCell ⟨bf,m * 2+1,none⟩ (.int .i64 ((p.w:Int)+(n:Int)))).alloc (.cells #[.int .i64 (p.w:Int),.int .i64 (n:Int)] 3):=by
         rw[World.setCell_alloc_past _ _ _ _ hb7,Int.natCast_add]
        rw[hnorm] at HQ9 HK9
        have f1:=fz (m * 2+1)
        have hpn2:p.w+n≤1099511627776:=by omega
        have hcf2:m+1≤cf:=by omega
        clear hset hv2 hv3 hv4 hpp fz hnorm HQ8 HK8 HQ7 HK7
        go_wp2_with fail
        have hB:=heap_alloc_new V7 (.cells #[.int .i64 (p.w:Int),.int .i64 (n:Int)] 3)
        refine(add_any V7.heap.size 0 2 p.w n hpn (by omega) _ (by unfold World.cell?;rw[hB];rfl) (by unfold World.cell?;rw[hB];rfl)).mono ?_
        clear hB
        rintro e w8 ⟨rfl,rfl⟩
        go_wp2_with fail
        go_roundw
        case rel=>exact⟨q+1,_,_,by omega,by go_num,rfl,HP1,HQ9,HK9⟩
        case measure=>simp[intOf];omega
      ·obtain⟨hk16,hP1⟩:=HP.out.op hql h0 h7
       have HP1:=hid hP1
       have ed:Oc.aD (l.getD q Fl.o0).k=true:=by
        have hcs:∀ k:Int,1≤k→k≤6→Oc.aD k=true:=fun k h1 h2=>by
         have:k=1∨k=2∨k=3∨k=4∨k=5∨k=6:=by omega
         rcases this with rfl|rfl|rfl|rfl|rfl|rfl<;>decide
        exact hcs _ hk16.1 hk16.2
       have e7:((l.getD q Fl.o0).k==7)=false:=beq_eq_false_iff_ne.2 h7
       have e0:((l.getD q Fl.o0).k==0)=false:=beq_eq_false_iff_ne.2 h0
       clear h7 h0 HP HOps hP1 hk16
       have hWr:=fun d a b v W=>writes_any (l.getD q Fl.o0).k d a b v W
       rw[ed] at hWr
       have HWr:=hid hWr
       clear hWr ed
       generalize l.getD q Fl.o0=o at *
       obtain⟨k,d,a,bb,vv⟩:=o
       simp only at c0 c1 c2 c3 c4 HP1 e7 e0 HWr
       have HQ1:=hid (HQ.out.kw ((KW.refl wr).alloc (.cells #[.int .i64 k,.int .i64 d,.int .i64 a,.int .i64 bb,.int .u64 vv] 83)))
       have HK5:=hid (HKr.out.alloc (.cells #[.int .i64 k,.int .i64 d,.int .i64 a,.int .i64 bb,.int .u64 vv] 83))
       obtain⟨bf,cf,rfl,hcf,hbf,hbf2,hnx,hny,d0,d1,fz,_,_⟩:=HQ1.out.top
       clear HQ d0 d1 fz
       generalize hm:r.length=m at *
       have HMm:=hid hm
       clear hm
       go_wp2_with fail
       refine(HWr.out d a bb vv _).mono ?_
       rintro e w5 ⟨rfl,hk5⟩
       simp only[if_true]
       have HQ5:=hid (HQ1.out.kw hk5)
       have HK6:=hid (HK5.out.t hk5)
       clear hk5 HQ1 HK5 HWr
       obtain⟨s1,s2,s3,⟨s4,s5⟩,s6⟩:=HQ5.out.sx hxy hz hlt 1
       have s6:MM x y w1.heap.size N (.slice (some ⟨bf,0,none⟩) (m+1) cf) (t::r) (sz.set q 1) (w5.setCell ⟨x,q,none⟩ (.int .i64 1)):=s6
       have HQ6:=hid s6
       have HK7:Hid (KW w1 (w5.setCell ⟨x,q,none⟩ (.int .i64 1))):=hid (HK6.out.kept ((Keep.refl (· = x) w5).setCell _ _ rfl) fun i hi=>by rw[hi];exact s1)
       obtain⟨bf',cf',hv',_,hbf',_,_,_,d0,d1,fz,_,s7⟩:=HQ6.out.top
       rw[HMm.out] at hv' d0 d1 s7
       cases hv'
       have HQ8:=hid (s7 (t.w+1))
       have HK8:Hid (KW w1 ((w5.setCell ⟨x,q,none⟩ (.int .i64 1)).setCell ⟨bf,m * 2+1,none⟩ (.int .i64 ((t.w+1:Nat):Int)))):=hid (HK7.out.kept ((Keep.refl (· = bf) _).setCell _ _ rfl) fun i hi=>by rw[hi];exact hbf)
       have f1:=fz (m * 2+1)
       clear s6 s7 fz HQ5 HQ6 HK6 HK7
       go_wp2_with fail
       go_roundw
       case rel=>exact⟨q+1,_,_,by omega,by go_num,rfl,HP1,HQ8,HK8⟩
       case measure=>simp[intOf];omega
    ·obtain rfl:q=N:=by omega
     have hP:=HP.out
     rw[← HN.out] at hP
     obtain⟨b,rfl,hmeas⟩:=hP.last
     have HMs:=hid hmeas
     clear hP hmeas HP hlt
     obtain⟨bf,cf,rfl,hcf,hbf,hbf2,hnx,hny,d0,d1,fz,_,_⟩:=HQ.out.top
     simp only[List.length_nil,Nat.zero_mul,Nat.zero_add] at hcf d0 d1 ⊢
     have hcf1:1≤cf:=hcf
     by_cases hb:65536<b.w
     ·have HNo:Hid (Fl.meas l=none):=by have h:=HMs.out;rw[if_pos hb] at h;exact hid h
      have L:(65536:Int)<(b.w:Int):=by omega
      clear hb fz d0
      go_wp2_with fail
      simp only[Exit.noGoto]
      (try simp only[Exit.inBlock,Exit.then])
      refine bodyPost_ret (results_tmp4 rfl _ _ _) rfl ?_
      exact⟨HK.out.t HKr.out,.inr (.inl ⟨HW.out,HNo.out,rfl⟩)⟩
     ·have HYes:Hid (Fl.meas l=some (sz,b.w)):=by have h:=HMs.out;rw[if_neg hb] at h;exact hid h
      have L:decide ((65536:Int)<(b.w:Int))=false:=decide_eq_false (by omega)
      clear hb fz d0 HMs
      have d2:wr.drew.cell? ⟨bf,1,none⟩=some (.int .i64 b.w):=d1
      go_wp2_with fail
      go_region
      go_wp2_with fail
      simp only[Exit.noGoto]
      (try simp only[Exit.inBlock,Exit.then])
      refine bodyPost_ret (results_tmp4 rfl _ _ _) rfl ?_
      exact⟨(HK.out.t HKr.out).drew,.inr (.inr ⟨HW.out,sz,b.w,_,_,HYes.out,rfl,(HQ.out.hx.base (Below.size HK.out)).drew⟩)⟩
 ·have HW:=hid h1
  clear h1
  go_wp2_with fail
  simp only[Exit.noGoto]
  (try simp only[Exit.inBlock,Exit.then])
  refine bodyPost_ret (results_tmp4 rfl _ _ _) rfl ?_
  exact⟨HK.out,.inl ⟨HW.out,rfl⟩⟩
theorem wpList_app1g {P:Program}{ops:Array Oper}{Q:Exit→Act→World→Prop}{rest:List Oper}{o:Oper}{a:Act}(hgd:o.guard=none){s x:Operand}{t e:TypeId}{z:Value}{bytes:Nat}(T:SliceOf P t e z bytes)
 (ho:o.op=.call { callee:=.builtin .append,args:=#[s,x],argTypes:=#[t,t] }) {W:World} {base g c:Nat} {v u:Value} {xs:List Value} {ce:TypeId}
 (hs:a.eval s=v) (hx:a.eval x=.slice (some ⟨g,0,none⟩) 1 c) (hg:g=W.heap.size) (hu:u.oneCell'=true) (hown:Owns W base e v xs) (hb:base≤W.heap.size) (hl:(xs.length+1) * bytes≤140737488355328) (hl2:xs.length+1≤9223372036854775807)
 (h:∀ v' w',Owns w' base e v' (xs++[u])→Below base W w'→wpList P ops Q rest (a.put o.dst v') w'):wpList P ops Q (o::rest) a (W.alloc (.cells #[u] ce)):=by
 subst hg
 exact wpList_app1 hgd T ho hs hx hu hown hb hl hl2 h
theorem rev0 (A:Option Addr)(c:Nat)(w:World):
 Calls Tryz.prog 265 #[.slice A 0 c] w fun e w'=>e=.returned (.tuple #[])∧w=w':=by
 go_enter Tryz.func265,Tryz.ntmps265
 go_wp2
 go_loopw [2,3] (fun i j wr=>i=.int .i64 0∧j=.int .i64 (-1)∧wr=w) (fun _ _ _=>0)
 case atStart=>exact⟨rfl,rfl,rfl⟩
 case round=>
  obtain⟨rfl,rfl,rfl⟩:=hrel
  go_wp2
  go_end0
  exact⟨rfl,rfl⟩
theorem rev1 (g:Nat)(c:Nat)(w:World):
 Calls Tryz.prog 265 #[.slice (some ⟨g,0,none⟩) 1 c] w fun e w'=>e=.returned (.tuple #[])∧w=w':=by
 go_enter Tryz.func265,Tryz.ntmps265
 go_wp2
 go_loopw [2,3] (fun i j wr=>i=.int .i64 0∧j=.int .i64 0∧wr=w) (fun _ _ _=>0)
 case atStart=>exact⟨rfl,rfl,rfl⟩
 case round=>
  obtain⟨rfl,rfl,rfl⟩:=hrel
  go_wp2
  go_end0
  exact⟨rfl,rfl⟩
def swp2 (w:World)(g:Nat)(x y:Int):World:=(w.setCell ⟨g,0,none⟩ (.int .i64 y)).setCell ⟨g,1,none⟩ (.int .i64 x)
theorem rev2 (g:Nat)(c:Nat)(x y:Int)(w:World)(c0:w.cell? ⟨g,0,none⟩=some (.int .i64 x))(c1:w.cell? ⟨g,1,none⟩=some (.int .i64 y))(f0:w.frozen? ⟨g,0,none⟩=false)(f1:w.frozen? ⟨g,1,none⟩=false):
 Calls Tryz.prog 265 #[.slice (some ⟨g,0,none⟩) 2 c] w fun e w'=>e=.returned (.tuple #[])∧w'=swp2 w.drew g x y:=by
 go_enter Tryz.func265,Tryz.ntmps265
 go_wp2
 go_loopw [2,3] (fun i j wr=>(i=.int .i64 0∧j=.int .i64 1∧wr=w)∨(i=.int .i64 1∧j=.int .i64 0∧wr=swp2 w.drew g x y)) (fun i _ _=>1 - (intOf i).toNat)
 case atStart=>exact .inl ⟨rfl,rfl,rfl⟩
 case round=>
  rcases hrel with⟨rfl,rfl,rfl⟩|⟨rfl,rfl,rfl⟩
  ·go_wp2_with fail
   go_region
   go_wp2
   go_roundw
   case rel=>exact .inr ⟨by go_num,by go_num,rfl⟩
   case measure=>simp[intOf]
  ·go_wp2
   go_end0
   exact⟨rfl,rfl⟩
end Go.Proofs.YtphppbonljdibaaGreat
