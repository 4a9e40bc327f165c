import Derived.Test.YtphppbonljdibaaGreatTB00
import Derived.Lib.SmallJoins
import Derived.Test.YtphppbonljdibaaGreatTB19
import Derived.Test.YtphppbonljdibaaGreatTB40
import Derived.Deep.Slices
import Derived.Deep.SlicePairs
set_option maxRecDepth 100000
set_option maxHeartbeats 4000000
set_option linter.unusedVariables false
set_option linter.unusedSimpArgs false
namespace Go.Proofs.YtphppbonljdibaaGreat
open Go.ChangeShapes Go.WideShapes Go.ChangeAt Go.RowKit Go.Joins
theorem own:ownKnob Tryz.prog.godebug=none:=by kernel_rfl
theorem laidOut:laidOutB Tryz.prog=true:=by kernel_rfl
section
variable {H : Type} {enc : TypeId × Value → H} {P : Program}
theorem trodAll_stays (hl:laidOutB P=true){W W':World}(hb:Below W.heap.size W W'):∀ (ts:List TypeId) (vs:List Value) (ds:List (DataW H)) (p:List MemPlace),
 (ts.all fun t=>P.readableRec t&&decide (t<P.types.size))=true→DataW.TrodAll enc P W 0 (fun _=>true) true ts vs ds p→(∀ x∈p,x.block<W.heap.size) →
 DataW.TrodAll enc P W' 0 (fun b=>decide (b<W.heap.size)) true ts vs ds p:=by
 intro ts
 induction ts with
 | nil=>
   intro vs ds p _ h _
   obtain⟨rfl,rfl,rfl⟩:=trodAll_nil h
   exact trodAll_mk0
 | cons t ts ih=>
   intro vs ds p hr h hlt
   obtain⟨v,vs',d,ds',q,q',rfl,rfl,rfl,h0,h1⟩:=trodAll_cons h
   simp only[List.all_cons,Bool.and_eq_true,decide_eq_true_eq] at hr
   exact trodAll_cons_mk (Below.trod hl hr.1.1 hr.1.2 h0 hb fun x hx=>hlt x (List.mem_append_left _ hx)) (ih _ _ _ hr.2 h1 fun x hx=>hlt x (List.mem_append_right _ hx))
theorem law_post {f:Func}{s:ChangeSpec}{b:TypeId}{W W':World}{args:Array Value}{ds gs:List (DataW H)}{before:List MemPlace}(hl:laidOutB P=true)
 (hr:(f.params.toList.all fun t=>P.readableRec t&&decide (t<P.types.size))=true) (hW:DataW.Whole enc P f.params.toList s.vars false W args.toList ds gs before) (hv:s.vars=[])
 (hfn:gs=[]→s.fn H (ds++gs) = { results:=[.lit (.bool true)],args:=ds }) (hres:f.resultTypes=#[b]) (hbool:P.underlying b=some .bool) (hb:Below W.heap.size W W'):
 s.post enc P f false true false false W args (.bool true) W':=by
 have hlt:∀ x∈before,x.block<W.heap.size:=fun x hx=>hW.lt x hx
 have hW':=hW
 obtain⟨p,q,hA,hV,rfl,_,_⟩:=hW
 rw[hv] at hV
 obtain⟨rfl,rfl⟩:=trodVars_none hV
 refine⟨ds,[],_,[],p,[],hW',?_,?_,?_,hb.frame _,fun h=>by cases h⟩
 ·rw[hfn rfl,hres]
  exact trodAll_mk1 (shut_bool hbool true)
 ·rw[hfn rfl]
  exact trodAll_stays hl hb _ _ _ _ hr hA fun x hx=>hlt x (List.mem_append_left _ hx)
 ·rw[hfn rfl,hv]
  rfl
end
end Go.Proofs.YtphppbonljdibaaGreat
namespace Go.Proofs.YtphppbonljdibaaGreat
open Go.ChangeShapes Go.WideShapes Go.ChangeAt Go.RowKit Go.Joins Go.Deep
theorem bulkAll_len {H:Type}(l:List (DataW H)):l.length≤Rows.uptoBulkAll l:=by
 induction l with
 | nil=>exact Nat.zero_le _
 | cons x r ih=>
   have h1:1≤Rows.uptoBulk x:=by
    cases x with
    | lit l=>cases l<;>simp[Rows.uptoBulk]
    | _=>simp[Rows.uptoBulk]
   simp only[Rows.uptoBulkAll,List.length_cons]
   omega
theorem bulk_slice {H:Type}(elems spare:List (DataW H)):elems.length+1≤Rows.uptoBulk (.slice elems spare):=by
 have h1:=bulkAll_len elems
 simp only[Rows.uptoBulk]
 omega
section
variable {H : Type} {enc : TypeId × Value → H} {W : World}
theorem trod_u64l {fuel:Nat}{v:Value}{x:DataW H×List MemPlace}(h:DataW.trod enc Tryz.prog W 0 (fun _=>true) true fuel 22 [v]=some x)(hk:Rows.uptoBulk x.1≤1048576):
 ∃ (A:Option Addr) (c:Nat) (l:List Int),v=.slice A l.length c∧l.length≤1048576∧(A=none→l.length=0∧c=0)∧Row1 W A l.length fun i=>.int .u64 (l.getD i 0):=by
 rcases open_ints Tryz.underlying22 Tryz.underlying81 (by kernel_rfl) h with⟨hcs,_⟩|⟨a,len,cap,zs,hcs,_,hl,hm,hz,hx0,hx,hw⟩
 ·simp at hcs
  subst hcs
  exact⟨none,0,[],rfl,by simp,fun _=>⟨rfl,rfl⟩,fun h=>by simp at h⟩
 ·simp at hcs
  subst hcs
  subst hx0
  unfold maxLen at hm
  have hlen:len≤zs.length:=by rw[hz];split<;>omega
  have hL:(zs.take len).length=len:=by simp;omega
  have hb:=bulk_slice (H:=H) (lits .u64 (zs.take len)) (lits .u64 (zs.drop len))
  have hll:(lits (H:=H) .u64 (zs.take len)).length=len:=by unfold lits;rw[List.length_map,hL]
  have hk':Rows.uptoBulk (DataW.slice (H:=H) (lits .u64 (zs.take len)) (lits .u64 (zs.drop len)))≤1048576:=hk
  refine⟨some a,cap,zs.take len,by rw[hL],by rw[hL];omega,(fun h=>by cases h),fun hp=>?_⟩
  rw[hL] at hp
  obtain⟨b,off,rfl,hc⟩:=ints_at hx (by omega)
  refine⟨b,off,rfl,World.block_lt_of_cell? W _ (hc 0 (by omega)),fun k hk=>?_⟩
  rw[hL] at hk
  have e:(zs.take len).getD k 0=zs.getD k 0:=by
   rw[List.getD_eq_getElem?_getD,List.getD_eq_getElem?_getD,List.getElem?_take_of_lt hk]
  show _=some (Value.int .u64 ((zs.take len).getD k 0))
  rw[e]
  exact hc k (by omega)
theorem trod_ops {fuel:Nat}{v:Value}{x:DataW H×List MemPlace}(h:DataW.trod enc Tryz.prog W 0 (fun _=>true) true fuel 23 [v]=some x)(hk:Rows.uptoBulk x.1≤1048576):
 ∃ (A:Option Addr) (c:Nat) (l:List Fl.O),v=.slice A l.length c∧l.length≤1048576∧OpsM W A l∧∀ o,o∈l→0≤o.v∧o.v<18446744073709551616:=by
 have ce:Tryz.prog.cellsOf 83=5:=by kernel_rfl
 rcases open_slice Tryz.underlying23 h with⟨hcs,_⟩|⟨a,len,cap,m,n,D,Pl,hcs,_,hl,hm,hmm,hx0,hx⟩
 ·simp at hcs
  subst hcs
  exact⟨none,0,[],rfl,by simp,fun h=>by simp at h,fun o h=>by simp at h⟩
 ·simp at hcs
  subst hcs
  subst hx0
  have hlm:len≤m:=by rw[hmm];split<;>omega
  have hb:=bulk_slice (H:=H) ((List.range len).map D) ((List.range (m - len)).map fun j=>D (len+j))
  rw[List.length_map,List.length_range] at hb
  have hk':Rows.uptoBulk (DataW.slice (H:=H) ((List.range len).map D) ((List.range (m - len)).map fun j=>D (len+j)))≤1048576:=hk
  have each:∀ i,i<m→∃ o:Fl.O,W.cell? (a.add (i * 5))=some (.int .i64 o.k)∧W.cell? (a.add (i * 5+1))=some (.int .i64 o.d)∧W.cell? (a.add (i * 5+2))=some (.int .i64 o.a)∧W.cell? (a.add (i * 5+3))=some (.int .i64 o.b)∧W.cell? (a.add (i * 5+4))=some (.int .u64 o.v)∧0≤o.v∧o.v<18446744073709551616:=by
   intro i hi
   obtain⟨cs',h1,h2⟩:=hx i hi
   rw[ce] at h1
   obtain⟨_,hlen,hcell⟩:=World.cells?_some h1
   obtain⟨xs,k,_,hxy,_,hxl,hf⟩:=DataW.trod_struct Tryz.underlying83 h2
   match xs,hxl,cs',hlen with
   | [y0,y1,y2,y3,y4],_,[v0,v1,v2,v3,v4],_=>
     have g0:=hf 0 _ rfl
     have g1:=hf 1 _ rfl
     have g2:=hf 2 _ rfl
     have g3:=hf 3 _ rfl
     have g4:=hf 4 _ rfl
     have c1:Tryz.prog.cellsOf 3=1:=by kernel_rfl
     have c2:Tryz.prog.cellsOf 81=1:=by kernel_rfl
     simp[c1,c2] at g0 g1 g2 g3 g4
     obtain⟨z0,e0,_,w0⟩:=DataW.trod_int Tryz.underlying3 g0
     obtain⟨z1,e1,_,w1⟩:=DataW.trod_int Tryz.underlying3 g1
     obtain⟨z2,e2,_,w2⟩:=DataW.trod_int Tryz.underlying3 g2
     obtain⟨z3,e3,_,w3⟩:=DataW.trod_int Tryz.underlying3 g3
     obtain⟨z4,e4,_,w4⟩:=DataW.trod_int Tryz.underlying81 g4
     simp at e0 e1 e2 e3 e4
     subst e0 e1 e2 e3 e4
     have k0:=hcell 0 (by omega)
     have k1:=hcell 1 (by omega)
     have k2:=hcell 2 (by omega)
     have k3:=hcell 3 (by omega)
     have k4:=hcell 4 (by omega)
     rw[add_add] at k0 k1 k2 k3 k4
     have hz:0≤z4∧z4≤18446744073709551615:=by simpa [Lit.wf,IntKind.min,IntKind.max,IntKind.signed,IntKind.bits] using w4
     exact⟨⟨z0,z1,z2,z3,z4⟩,by simpa using k0,by simpa using k1,by simpa using k2,by simpa using k3,by simpa using k4,hz.1,by have:=hz.2;show z4<_;omega⟩
  haveI:Inhabited Fl.O:=⟨Fl.o0⟩
  obtain⟨q,hq⟩:=choose_lt each
  have hL:((List.range len).map q).length=len:=by simp
  refine⟨some a,cap,(List.range len).map q,by rw[hL],by rw[hL];omega,fun hp=>?_,fun o ho=>?_⟩
  ·rw[hL] at hp
   obtain⟨b,off,spot⟩:=a
   have h00:=(hq 0 (by omega)).1
   have hspot:spot=none:=by simpa [Addr.add] using World.cell?_spot h00
   subst hspot
   refine⟨b,off,rfl,World.block_lt_of_cell? W _ (by simpa using h00),fun k hk=>?_⟩
   rw[hL] at hk
   have e:((List.range len).map q).getD k Fl.o0=q k:=by simp[hk]
   rw[e]
   obtain⟨q0,q1,q2,q3,q4,_⟩:=hq k (by omega)
   rw[Go.WideShapes.add_plain] at q0 q1 q2 q3 q4
   exact⟨q0,by rw[Nat.add_assoc];exact q1,by rw[Nat.add_assoc];exact q2,by rw[Nat.add_assoc];exact q3,by rw[Nat.add_assoc];exact q4⟩
  ·obtain⟨k,hk,rfl⟩:=List.mem_map.1 ho
   have:=hq k (by have:k<len:=by simpa using hk
                  omega)
   exact this.2.2.2.2.2
theorem trod_pg {fuel:Nat}{v w:Value}{x:DataW H×List MemPlace}(h:DataW.trod enc Tryz.prog W 0 (fun _=>true) true fuel 25 [v,w]=some x)(hk:Rows.uptoBulk x.1≤1048576):
 ∃ p:Pg,v=.int .i64 p.n∧w=.slice p.A p.l.length p.c∧PgM W p:=by
 obtain⟨xs,k,_,hxy,_,hxl,hf⟩:=DataW.trod_struct Tryz.underlying25 h
 match xs,hxl with
 | [y0,y1],_=>
   have g0:=hf 0 _ rfl
   have g1:=hf 1 _ rfl
   have c1:Tryz.prog.cellsOf 3=1:=by kernel_rfl
   have c2:Tryz.prog.cellsOf 23=1:=by kernel_rfl
   simp[c1,c2] at g0 g1
   subst hxy
   simp only[List.map_cons,List.map_nil,Rows.uptoBulkAll,Rows.uptoBulk] at hk
   obtain⟨z0,e0,_,w0⟩:=DataW.trod_int Tryz.underlying3 g0
   simp at e0
   subst e0
   obtain⟨A,c,l,rfl,hl,hO,hv⟩:=trod_ops g1 (by omega)
   exact⟨⟨z0,A,c,l⟩,rfl,rfl,hO,hl,hv⟩
theorem open_header {r:Reach}{b0:Nat}{v:Value}{d:DataW H}{p:List MemPlace}(hv:Value.okWide Tryz.prog W r b0 27 v)(h:DataW.Trod enc Tryz.prog W 0 (fun _=>true) true 27 v d p)(hk:Rows.uptoBulk d≤1048576):
 ∃ h:Hd,v=.agg h.v∧HdM W h:=by
 obtain⟨cs,rfl,hsz⟩:=okWide_struct Tryz.underlying27 hv
 have hC:Tryz.prog.cellsOf 27=9:=by kernel_rfl
 rw[hC] at hsz
 obtain⟨l⟩:=cs
 match l,hsz with
 | [v0,v1,v2,v3,v4,v5,v6,v7,v8],_=>
   obtain⟨fuel,hf0⟩:=h
   obtain⟨xs,k,_,hxy,_,hxl,hf⟩:=DataW.trod_struct Tryz.underlying27 hf0
   match xs,hxl with
   | [y0,y1,y2,y3,y4,y5,y6],_=>
     have g0:=hf 0 _ rfl
     have g1:=hf 1 _ rfl
     have g2:=hf 2 _ rfl
     have g3:=hf 3 _ rfl
     have g4:=hf 4 _ rfl
     have g5:=hf 5 _ rfl
     have g6:=hf 6 _ rfl
     have c1:Tryz.prog.cellsOf 3=1:=by kernel_rfl
     have c2:Tryz.prog.cellsOf 22=1:=by kernel_rfl
     have c3:Tryz.prog.cellsOf 25=2:=by kernel_rfl
     simp[c1,c2,c3,Value.cells] at g0 g1 g2 g3 g4 g5 g6
     simp only[Prod.mk.injEq] at hxy
     obtain⟨rfl,_⟩:=hxy
     simp only[List.map_cons,List.map_nil,Rows.uptoBulkAll,Rows.uptoBulk] at hk
     obtain⟨z0,e0,_,_⟩:=DataW.trod_int Tryz.underlying3 g0
     obtain⟨z5,e5,_,_⟩:=DataW.trod_int Tryz.underlying3 g5
     obtain⟨z6,e6,_,_⟩:=DataW.trod_int Tryz.underlying3 g6
     simp at e0 e5 e6
     subst e0 e5 e6
     obtain⟨xA,xc,xl,rfl,xn,x0,xr⟩:=trod_u64l g1 (by omega)
     obtain⟨tA,tc,tl,rfl,tn,t0,tr⟩:=trod_u64l g2 (by omega)
     obtain⟨ps,rfl,rfl,hs⟩:=trod_pg g3 (by omega)
     obtain⟨pl,rfl,rfl,hl⟩:=trod_pg g4 (by omega)
     exact⟨⟨z0,xA,xc,xl,tA,tc,tl,ps,pl,z5,z6⟩,rfl,hs,hl,xr,tr,xn,tn,x0,t0⟩
end
end Go.Proofs.YtphppbonljdibaaGreat
