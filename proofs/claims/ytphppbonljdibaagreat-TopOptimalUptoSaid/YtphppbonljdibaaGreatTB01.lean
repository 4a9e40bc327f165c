import Derived.Test.YtphppbonljdibaaGreatTB00
import Derived.Laws.CopyOwn
import Derived.Shelf.Bits.Mul64
import Derived.Lib.SliceRun
import Derived.Maps.AppendAt
import Derived.LoadGo2
set_option maxRecDepth 100000
set_option maxHeartbeats 4000000
set_option linter.unusedVariables false
set_option linter.unusedSimpArgs false
namespace Go.Proofs.YtphppbonljdibaaGreat
open Go.ChangeShapes Go.WideShapes Go.ChangeAt Go.RowKit
section
variable {P : Program} {ops : Array Oper} {Q : Exit → Act → World → Prop}
theorem wp_copy_is {o:Oper}{a:Act}{K:Act→World→Prop}{w:World}{d s:Operand}{dT sT elem:TypeId}(ho:o.op=.call { callee:=.builtin .copy,args:=#[d,s],argTypes:=#[dT,sT] })(hu:P.underlying dT=some (.slice elem))(hsz:(P.info? elem).map (·.size)=some 1)
 {g off dLen dCap sLen sCap N m:Nat} {ad:Addr} {t:TypeId} {f h:Nat→Value} (hd:a.eval d=.slice (some ⟨g,off,none⟩) dLen dCap) (hs:a.eval s=.slice (some ad) sLen sCap) (hg:w.rowIs g t N f)
 (hm:m=min sLen dLen) (hsrc:∀ j,j<m→w.cell? (ad.add j)=some (h j)) (hfit:off+m≤N) (h1:∀ j,j<m→(h j).oneCell'=true)
 (hK:∀ W,W.rowIs g t N (fun i=>if off≤i∧i<off+m then h (i - off) else f i)→Keep (· = g) w W→K (a.put o.dst (.int .i64 m)) W):o.wp P a w K Q:=by
 obtain⟨c,hb,hn,hc⟩:=hg
 have hrun:=run_copy_row (P:=P) w dT sT o.type elem g off dLen dCap ad sLen sCap c t ((List.range m).map h) hu hsz hb (by simp;omega) (fun j v hj=>by
  have hlt:j<m:=by have:=(List.getElem?_eq_some_iff.1 hj).1;simpa using this
  rw[hsrc j hlt]
  simp[hlt] at hj
  rw[hj]) (by simp;omega) (fun v hv=>by
  obtain⟨j,hj,rfl⟩:=List.mem_map.1 hv
  exact h1 j (by simpa using hj))
 unfold Oper.wp
 simp[execOp,ho,resolve,invoke,builtin,hd,hs,hrun,Result.andThen]
 have e:goInt m=.int .i64 m:=rfl
 rw[e]
 refine hK _ ⟨_,setRow_heap w g c _ t _ hb,by simp;omega,fun i hi=>?_⟩ ((Keep.refl _ w).setRow g _ rfl)
 simp only[List.getElem?_toArray,List.getElem?_append,List.length_take,List.length_map,List.length_range,Array.length_toList]
 have emin:min off c.size=off:=by omega
 rw[emin]
 by_cases h2:i<off
 ·rw[if_pos h2,if_neg (by omega),List.getElem?_take_of_lt h2]
  simpa using hc i hi
 ·rw[if_neg h2]
  by_cases h3:i<off+m
  ·rw[if_pos (by omega),if_pos ⟨by omega,h3⟩]
   simp[show i - off<m by omega]
  ·rw[if_neg (by omega),if_neg (by omega),List.getElem?_drop,show off+m+(i - off - m)=i from by omega]
   simpa using hc i hi
theorem wpList_copy_is {rest:List Oper}{o:Oper}{a:Act}(hgd:o.guard=none){w:World}{d s:Operand}{dT sT elem:TypeId}(ho:o.op=.call { callee:=.builtin .copy,args:=#[d,s],argTypes:=#[dT,sT] })(hu:P.underlying dT=some (.slice elem))(hsz:(P.info? elem).map (·.size)=some 1)
 {g off dLen dCap sLen sCap N m:Nat} {ad:Addr} {t:TypeId} {f h:Nat→Value} (hd:a.eval d=.slice (some ⟨g,off,none⟩) dLen dCap) (hs:a.eval s=.slice (some ad) sLen sCap) (hg:w.rowIs g t N f)
 (hm:m=min sLen dLen) (hsrc:∀ j,j<m→w.cell? (ad.add j)=some (h j)) (hfit:off+m≤N) (h1:∀ j,j<m→(h j).oneCell'=true)
 (hK:∀ W,W.rowIs g t N (fun i=>if off≤i∧i<off+m then h (i - off) else f i)→Keep (· = g) w W→wpList P ops Q rest (a.put o.dst (.int .i64 m)) W):wpList P ops Q (o::rest) a w:=
 wpList_plain hgd fun _ hK'=>wp_copy_is ho hu hsz hd hs hg hm hsrc hfit h1 fun W h2 h3=>hK' _ _ (hK W h2 h3)
theorem wpX_copy_is {md:Region.Mode}{S:World→Prop}{L k dd q:Nat}{l:Array Bool}{ts:List Value}{ds:List Deferred}{o:Oper}(hr:Region.ready md ops l=[k])(hok:ops[k]?=some o)(hdst:o.dst=some dd)(hgd:o.guard=none)
 {w:World} {d s:Operand} {dT sT elem:TypeId} (ho:o.op=.call { callee:=.builtin .copy,args:=#[d,s],argTypes:=#[dT,sT] }) (hu:P.underlying dT=some (.slice elem)) (hsz:(P.info? elem).map (·.size)=some 1)
 {g off dLen dCap sLen sCap N m:Nat} {ad:Addr} {t:TypeId} {f h:Nat→Value} (hd:(Act.mk ts.toArray ds).eval d=.slice (some ⟨g,off,none⟩) dLen dCap) (hs:(Act.mk ts.toArray ds).eval s=.slice (some ad) sLen sCap) (hg:w.rowIs g t N f)
 (hm:m=min sLen dLen) (hsrc:∀ j,j<m→w.cell? (ad.add j)=some (h j)) (hfit:off+m≤N) (h1:∀ j,j<m→(h j).oneCell'=true)
 (hK:∀ W,W.rowIs g t N (fun i=>if off≤i∧i<off+m then h (i - off) else f i)→Keep (· = g) w W→(k≠L→S W)∧wpX P md ops Q S L q (l.setIfInBounds k true) ⟨(ts.set dd (.int .i64 m)).toArray,ds⟩ W):wpX P md ops Q S L (q+1) l ⟨ts.toArray,ds⟩ w:=by
 refine wpX_hard hr hok fun K hK'=>?_
 rw[if_pos (by simp[Region.wanted,hgd])]
 refine wp_copy_is ho hu hsz hd hs hg hm hsrc hfit h1 fun W h2 h3=>?_
 obtain⟨h4,h5⟩:=hK W h2 h3
 rw[hdst]
 refine hK' _ _ h4 ?_
 simpa [Act.put] using h5
end
theorem rmul64_any (x y:Nat)(hx:x<18446744073709551616)(hy:y<18446744073709551616)(w:World):
 Calls Tryz.prog 125 #[.int .u64 x,.int .u64 y] w fun e w'=>e=.returned (.tuple #[.int .u64 ((x * y / 18446744073709551616:Nat):Int),.int .u64 ((x * y % 18446744073709551616:Nat):Int)])∧w=w':=by
 obtain⟨bd,bt,bw,hhi⟩:=Lib.mul64_hi x y hx hy
 have ba:=Lib.half_mul_le (a:=x / 4294967296) (b:=y / 4294967296) (by omega) (by omega)
 have bb:=Lib.half_mul_le (a:=x / 4294967296) (b:=y % 4294967296) (by omega) (by omega)
 have bc:=Lib.half_mul_le (a:=x % 4294967296) (b:=y / 4294967296) (by omega) (by omega)
 have ba':x / 4294967296 * (y / 4294967296)<18446744073709551616:=by omega
 have bb':x / 4294967296 * (y % 4294967296)<18446744073709551616:=by omega
 have bc':x % 4294967296 * (y / 4294967296)<18446744073709551616:=by omega
 have bh1:x / 4294967296 * (y / 4294967296)+(x / 4294967296 * (y % 4294967296)+x % 4294967296 * (y % 4294967296) / 4294967296) / 4294967296<18446744073709551616:=by omega
 have bh:x / 4294967296 * (y / 4294967296)+(x / 4294967296 * (y % 4294967296)+x % 4294967296 * (y % 4294967296) / 4294967296) / 4294967296+((x / 4294967296 * (y % 4294967296)+x % 4294967296 * (y % 4294967296) / 4294967296) % 4294967296+x % 4294967296 * (y / 4294967296)) / 4294967296<18446744073709551616:=by omega
 go_enter Tryz.func125,Tryz.ntmps125
 go_wp2
 simp only[Mul64.maskN x hx,Mul64.maskN y hy,Mul64.divN,Mul64.mulN,Mul64.addN,Mul64.wrapN _ bd,Mul64.wrapN _ bb',Mul64.wrapN _ bt,Mul64.maskN _ bt,Mul64.wrapN _ bc',Mul64.wrapN _ bw,Mul64.wrapN _ ba',Mul64.wrapN _ bh1,Mul64.wrapN _ bh,Mul64.wrapM (x * y)]
 rw[hhi]
 go_ret2
 exact⟨rfl,rfl⟩
theorem rmul64_one (n:Int)(w:World)(h0:0≤n)(h1:n≤9223372036854775807):
 Calls Tryz.prog 125 #[.int .u64 1,.int .u64 n] w fun e w'=>e=.returned (.tuple #[.int .u64 0,.int .u64 n])∧w=w':=by
 obtain⟨y,rfl⟩:∃ y:Nat,n=y:=⟨n.toNat,by omega⟩
 have h:=rmul64_any 1 y (by omega) (by omega) w
 rw[show((1 * y / 18446744073709551616:Nat):Int)=0 from by omega,show((1 * y % 18446744073709551616:Nat):Int)=(y:Int) from by omega] at h
 exact h
theorem rmul_one (n:Int)(w:World)(h0:0≤n)(h1:n≤9223372036854775807):
 Calls Tryz.prog 86 #[.int .u64 1,.int .u64 n] w fun e w'=>e=.returned (.tuple #[.int .u64 0,.int .u64 n])∧w=w':=by
 go_enter Tryz.func86,Tryz.ntmps86
 go_wp2_with (go_at_call 125;refine(rmul64_one n _ h0 h1).mono ?_;rintro e w1 ⟨rfl,rfl⟩)
 go_ret2
 exact⟨rfl,rfl⟩
def RepP (w:World)(n:Nat)(e:Ending)(w':World):Prop:=∃ tb,e=.returned (.slice (some ⟨tb,0,none⟩) n n)∧w.heap.size<tb∧w'.rowIs tb 3 n (fun _=>.int .i64 (-1))∧KW w w'
theorem repeat_any (n:Nat)(w:World)(hn:n≤1048576):
 Calls Tryz.prog 48 #[.slice (some ⟨w.heap.size,0,none⟩) 1 1,.int .i64 n] (w.alloc (.cells #[.int .i64 (-1)] 3)) (RepP w n):=by
 have hmk:=fun W=>run_make_row' (P:=Tryz.prog) 56 3 (.int .i64 0) 8 Tryz.underlying56 (by kernel_rfl) rfl .i64 .i64 n (by omega) (by omega) W
 have HM:=hid (fun W=>rmul_one n W (by omega) (by omega))
 have d1:decide (n<0)=false:=by simp
 have d2:decide ((n:Int)<0)=false:=by simp
 have d3:decide ((9223372036854775807:Int)<(n:Int))=false:=by simp;omega
 have HR:Hid (((w.alloc (.cells #[.int .i64 (-1)] 3)).alloc (.cells (madeCells #[.int .i64 0] n) 3)).rowIs (w.heap.size+1) 3 n (fun _=>.int .i64 0)):=by
  have h:=World.rowIs_made (w.alloc (.cells #[.int .i64 (-1)] 3)) (.int .i64 0) n 3
  exact hid (by simpa using h)
 have HS:Hid (∀ j,j<min 1 n→((w.alloc (.cells #[.int .i64 (-1)] 3)).alloc (.cells (madeCells #[.int .i64 0] n) 3)).cell? ((⟨w.heap.size,0,none⟩:Addr).add j)=some (.int .i64 (-1))):=by
  intro j hj
  obtain rfl:j=0:=by omega
  rw[show(⟨w.heap.size,0,none⟩:Addr).add 0=⟨w.heap.size,0,none⟩ from rfl]
  go_simp
 go_enter Tryz.func48,Tryz.ntmps48
 go_wp2_with (first
  | (go_at_call 86;refine(HM.out _).mono ?_;rintro e w1 ⟨rfl,rfl⟩)
  | (refine wpList_copy_is (dT:=56) (sT:=56) (g:=w.heap.size+1) (off:=0) (N:=n) (m:=min 1 n) (f:=fun _=>.int .i64 0) (h:=fun _=>.int .i64 (-1)) rfl rfl Tryz.underlying56 (by kernel_rfl) rfl rfl HR.out rfl HS.out (by omega) (fun _ _=>rfl) ?_))
 intro W hrow hkeep
 have hk:KW w W:=(((KW.refl w).alloc _).alloc _).kept hkeep fun i hi=>by omega
 have hsz:w.heap.size+1<W.heap.size:=hrow.lt
 have HK:=hid hk
 have HR1:Hid (W.rowIs (w.heap.size+1) 3 n (fun i=>if i<min 1 n then .int .i64 (-1) else .int .i64 0)):=hrow.congr fun i hi=>by
  first|rfl|(split<;>split<;>first|rfl|omega)
 have hm:∃ k:Nat,k=min 1 n∧k≤n∧(0<n→0<k):=⟨_,rfl,by omega,by omega⟩
 obtain⟨k,hkm,hk1,hk2⟩:=hm
 rw[← hkm] at HR1 ⊢
 clear hrow hkeep hk hsz HS HR hkm
 go_wp2_with fail
 go_loopw [8] (fun i wr=>∃ k:Nat,k≤n∧(0<n→0<k)∧i=.int .i64 k∧Hid (wr.rowIs (w.heap.size+1) 3 n (fun i=>if i<k then .int .i64 (-1) else .int .i64 0))∧Hid (KW w wr)) (fun i _=>n - (intOf i).toNat)
 case atStart=>exact⟨k,hk1,hk2,rfl,HR1,HK⟩
 case round=>
  obtain⟨q,hq1,hq2,rfl,HR2,HK2⟩:=hrel
  clear HR1 HK W hk1 hk2
  by_cases hlt:q<n
  ·have hq0:0<q:=hq2 (by omega)
   have L0:(n=q)=False:=by simp;omega
   have L1:(n==q)=false:=by simp;omega
   have L2:¬ n=q:=by omega
   go_wp2_with fail
   have hXS:=trivial
   refine wpX_region (S:=fun _=>True) (L:=99) (by kernel_rfl) ?_
   refine tk 0 ?_ (fun _ _=>?_) hXS ?_;rotate_left;· go_simp;try rfl
   simp only[lsz,lss]
   refine tk 1 ?_ (fun _ _=>?_) hXS ?_;rotate_left;· go_simp;try rfl
   simp only[lsz,lss]
   refine tk 2 ?_ (fun _ _=>?_) hXS ?_;rotate_left;· go_simp;try rfl
   simp only[lsz,lss]
   refine tk 3 ?_ (fun _ _=>?_) hXS ?_;rotate_left;· go_simp;try rfl
   simp only[lsz,lss]
   refine tk 4 ?_ (fun _ _=>?_) hXS ?_;rotate_left;· go_simp;try rfl
   simp only[lsz,lss]
   refine tk 5 ?_ (fun _ _=>?_) hXS ?_;rotate_left;· go_simp;try rfl
   simp only[lsz,lss]
   refine tk 6 ?_ (fun _ _=>?_) hXS ?_;rotate_left;· go_simp;try rfl
   simp only[lsz,lss]
   have hm:∃ m:Nat,m=min q (n - q)∧q+m≤n∧0<m:=⟨_,rfl,by omega,by omega⟩
   obtain⟨m,hmm,hm1,hm2⟩:=hm
   have HMM:=hid hmm
   clear hmm
   have L5:IntKind.i64.wrap ((q:Int)+(m:Int))=(q:Int)+(m:Int):=IntWalk.i64_in _ (by omega)
   refine wpX_copy_is (k:=7) (by kernel_rfl) rfl rfl rfl (dT:=56) (sT:=56) rfl Tryz.underlying56 (by kernel_rfl) (g:=w.heap.size+1) (off:=q) (N:=n) (m:=m) (h:=fun _=>.int .i64 (-1)) rfl rfl HR2.out.drew HMM.out (fun j hj=>?_) hm1 (fun _ _=>rfl) ?_
   ·have hmm:=HMM.out
    have e:(⟨w.heap.size+1,0,none⟩:Addr).add j=⟨w.heap.size+1,j,none⟩:=by unfold Addr.add;split<;>simp_all
    rw[e]
    have:=HR2.out.cell (i:=j) (by omega)
    rw[if_pos (by omega)] at this
    exact this
   intro W3 hrow hkeep
   have HR3:Hid (W3.rowIs (w.heap.size+1) 3 n (fun i=>if i<q+m then .int .i64 (-1) else .int .i64 0)):=hrow.congr fun i hi=>by
    by_cases h1:i<q
    ·rw[if_neg (by omega),if_pos h1,if_pos (by omega)]
    ·by_cases h2:i<q+m
     ·rw[if_pos ⟨by omega,h2⟩,if_pos h2]
     ·rw[if_neg (by omega),if_neg h1,if_neg h2]
   have HK3:Hid (KW w W3):=HK2.out.drew.kept hkeep fun i hi=>by omega
   clear hrow hkeep
   refine⟨fun _=>trivial,?_⟩
   refine tk 8 ?_ (fun _ _=>?_) hXS ?_;rotate_left;· go_simp;try rfl
   simp only[lsz,lss]
   refine tk 9 ?_ (fun _ _=>?_) hXS ?_;rotate_left;· go_simp;try rfl
   simp only[lsz,lss]
   refine wpX_done (by kernel_rfl) ?_
   go_wp2_with fail
   go_roundw
   case rel=>exact⟨q+m,by omega,by omega,by go_num,HR3,HK3⟩
   case measure=>simp[intOf];omega
  ·obtain rfl:q=n:=by omega
   go_wp2_with fail
   go_ret
   exact⟨_,rfl,by omega,HR2.out.congr fun i hi=>by rw[if_pos hi],HK2.out⟩
def CloneP (w:World)(xs:List Value)(e:Ending)(w':World):Prop:=∃ v,e=.returned v∧Owns w' w.heap.size 3 v xs∧KW w w'
theorem clone_nil (w:World):Calls Tryz.prog 52 #[.slice none 0 0] w (CloneP w []):=by
 have q22:∀ (w:World) (a:Option Addr) (n c n' c':Nat),(binOp .eql 56 (.slice a n c) (.slice none n' c')).run Tryz.prog w=.ok (.bool a.isNone) w:=fun w a n c n' c'=>Lib.run_eql_slice_nil w _ _ a n c n' c' Tryz.underlying56
 go_enter Tryz.func52,Tryz.ntmps52
 go_wp2_with fail
 go_ret
 exact⟨_,rfl,Owns.nil _ _ _,KW.refl w⟩
theorem sliceInt':SliceOfS Tryz.prog 56 3 (.int .i64 0) 1 8:=⟨Tryz.underlying56,by kernel_rfl,rfl,by omega⟩
theorem clone_some (a:Addr)(n c:Nat)(xs:List Value)(w:World)(hn:n≤1048576)(hh:Holds w (.slice (some a) n c) n 1 xs):
 Calls Tryz.prog 52 #[.slice (some a) n c] w (CloneP w xs):=by
 have q22:∀ (w:World) (a:Option Addr) (n c n' c':Nat),(binOp .eql 56 (.slice a n c) (.slice none n' c')).run Tryz.prog w=.ok (.bool a.isNone) w:=fun w a n c n' c'=>Lib.run_eql_slice_nil w _ _ a n c n' c' Tryz.underlying56
 have HH:=hid hh
 clear hh
 go_enter Tryz.func52,Tryz.ntmps52
 go_wp2_with (at_builtin;refine wpList_appS rfl sliceInt' rfl (W:=w.alloc (.cells #[] 3)) (base:=w.heap.size) (k:=n) (n:=0) (xs:=[]) (ys:=xs) rfl rfl (HH.out.kw ((KW.refl w).alloc _)) (World.ownsRow_made w #[] 0 (Nat.le_refl _) (Nat.zero_le _) rfl) (by simp) (by omega) (by omega) ?_)
 intro v' w1 hown hkeep
 have HO:Hid (Owns w1 w.heap.size 3 v' xs):=by
  have h1:=HH.out.1
  show World.ownsRow _ _ _ _ _ _ _
  rw[h1]
  simpa using hown
 have HK:Hid (KW w w1):=((KW.refl w).alloc _).kept hkeep fun i hi=>by simp[Value.ownBlock] at hi;omega
 clear hown hkeep
 go_wp2_with fail
 go_ret
 exact⟨v',rfl,HO.out,HK.out⟩
theorem clone_any (A:Option Addr)(n c:Nat)(xs:List Value)(w:World)(hn:n≤1048576)(hh:Holds w (.slice A n c) n 1 xs):
 Calls Tryz.prog 52 #[.slice A n c] w (CloneP w xs):=by
 cases A with
 | some a=>exact clone_some a n c xs w hn hh
 | none=>
   obtain⟨h1,_,h3⟩:=hh
   rcases h3 with⟨rfl,hx⟩|⟨ad,c',hx,_⟩
   ·cases hx
    obtain rfl:xs=[]:=List.length_eq_zero_iff.1 (by simpa using h1)
    exact clone_nil w
   ·cases hx
section
variable {P : Program} {ops : Array Oper} {Q : Exit → Act → World → Prop}
theorem wp_appA {o:Oper}{a:Act}{K:Act→World→Prop}{s x:Operand}{t e:TypeId}{z:Value}{size bytes:Nat}(T:SliceOfS P t e z size bytes)
 (ho:o.op=.call { callee:=.builtin .append,args:=#[s,x],argTypes:=#[t,t] }) {W:World} {base k n:Nat} {v u:Value} {xs ys:List Value}
 (hs:a.eval s=v) (hx:a.eval x=u) (hu:Holds W u k size ys) (hown:W.ownsRow base e size v n xs) (hb:base≤W.heap.size) (hl:(n+k) * bytes≤140737488355328) (hl2:n+k≤9223372036854775807)
 (h:∀ v' w',w'.ownsRow base e size v' (n+k) (xs++ys)→Keep (fun i=>v.ownBlock=some i) W w'→(v'.ownBlock=v.ownBlock∨v'.ownBlock=some W.heap.size)→K (a.put o.dst v') w'):o.wp P a W K Q:=by
 obtain⟨i,hi,h0⟩:=Option.map_eq_some_iff.1 T.hi
 simp only[Prod.mk.injEq] at h0
 obtain⟨hyl,hy1,hu⟩:=hu
 rcases hu with⟨rfl,rfl⟩|⟨ad,c,rfl,hc⟩
 ·obtain rfl:ys=[]:=List.length_eq_zero_iff.1 (by simpa using hyl)
  have hrun:=run_append_owned_none (P:=P) (w:=W) base t o.type e i size T.ht hi v n xs hown
  unfold Oper.wp
  simp[execOp,ho,resolve,invoke,builtin,hs,hx,hrun,Result.andThen]
  exact h v W (by simpa using hown) (Keep.refl _ _) (.inl rfl)
 ·obtain⟨v',w',hr,h2,h3,h4,h5⟩:=run_append_own_at (P:=P) W base t o.type e i z size bytes T.ht hi h0.1 h0.2.1 h0.2.2 T.hz T.hs v n xs hown ad k c ys hyl hc hy1 (by unfold maxLen;omega) hl hb
  unfold Oper.wp execOp
  simp only[ho,resolve,invoke,builtin,Sem.run_bind,Sem.run_pure,Result.andThen_ok,List.map_toArray,List.map_cons,List.map_nil,hs,hx,hr]
  exact h v' w' h2 ⟨h3.os,h3.tape,h3.output,h3.size,fun j hj hn=>h3.block j hj fun e=>hn e.symm⟩ h5
theorem wpList_appA {rest:List Oper}{o:Oper}{a:Act}(hgd:o.guard=none){s x:Operand}{t e:TypeId}{z:Value}{size bytes:Nat}(T:SliceOfS P t e z size bytes)
 (ho:o.op=.call { callee:=.builtin .append,args:=#[s,x],argTypes:=#[t,t] }) {W:World} {base k n:Nat} {v u:Value} {xs ys:List Value}
 (hs:a.eval s=v) (hx:a.eval x=u) (hu:Holds W u k size ys) (hown:W.ownsRow base e size v n xs) (hb:base≤W.heap.size) (hl:(n+k) * bytes≤140737488355328) (hl2:n+k≤9223372036854775807)
 (h:∀ v' w',w'.ownsRow base e size v' (n+k) (xs++ys)→Keep (fun i=>v.ownBlock=some i) W w'→(v'.ownBlock=v.ownBlock∨v'.ownBlock=some W.heap.size)→wpList P ops Q rest (a.put o.dst v') w'):wpList P ops Q (o::rest) a W:=
 wpList_plain hgd fun _ hK=>wp_appA T ho hs hx hu hown hb hl hl2 fun v' w' h1 h2 h3=>hK _ _ (h v' w' h1 h2 h3)
end
section
variable {P : Program} {ops : Array Oper} {Q : Exit → Act → World → Prop}
theorem wpX_appA {md:Region.Mode}{S:World→Prop}{L k d m:Nat}{l:Array Bool}{ts:List Value}{ds:List Deferred}{o:Oper}(hr:Region.ready md ops l=[k])(hok:ops[k]?=some o)(hd:o.dst=some d)(hgd:o.guard=none)
 {s x:Operand} {t e:TypeId} {z:Value} {size bytes:Nat} (T:SliceOfS P t e z size bytes)
 (ho:o.op=.call { callee:=.builtin .append,args:=#[s,x],argTypes:=#[t,t] }) {W:World} {base q n:Nat} {v u:Value} {xs ys:List Value}
 (hs:(Act.mk ts.toArray ds).eval s=v) (hx:(Act.mk ts.toArray ds).eval x=u) (hu:Holds W u q size ys) (hown:W.ownsRow base e size v n xs) (hb:base≤W.heap.size) (hl:(n+q) * bytes≤140737488355328) (hl2:n+q≤9223372036854775807)
 (h:∀ v' w',w'.ownsRow base e size v' (n+q) (xs++ys)→Keep (fun i=>v.ownBlock=some i) W w'→(v'.ownBlock=v.ownBlock∨v'.ownBlock=some W.heap.size)→(k≠L→S w')∧wpX P md ops Q S L m (l.setIfInBounds k true) ⟨(ts.set d v').toArray,ds⟩ w'):wpX P md ops Q S L (m+1) l ⟨ts.toArray,ds⟩ W:=by
 refine wpX_hard hr hok fun K hK=>?_
 rw[if_pos (by simp[Region.wanted,hgd])]
 refine wp_appA T ho hs hx hu hown hb hl hl2 fun v' w' h1 h2 h5=>?_
 obtain⟨h3,h4⟩:=h v' w' h1 h2 h5
 rw[hd]
 refine hK _ _ h3 ?_
 simpa [Act.put] using h4
end
theorem holds_one (w:World)(t:TypeId)(c:Nat)(u:Value)(h:u.oneCell'=true):Holds (w.alloc (.cells #[u] t)) (.slice (some ⟨w.heap.size,0,none⟩) 1 c) 1 1 [u]:=
 Holds.new (w:=w) (t:=t) (k:=1) (size:=1) (c:=c) (ys:=[u]) rfl (by simpa using h)
end Go.Proofs.YtphppbonljdibaaGreat
namespace Go.Proofs.YtphppbonljdibaaGreat
namespace Fl
structure O where
 k:Int
 d:Int
 a:Int
 b:Int
 v:Int
structure I where
 o:O
 t:Int
def Wr (o:O):Prop:=o.k≠0∧o.k≠7
inductive Cd:Nat→List I→List O→Nat→Prop
 | nil (p:Nat):Cd p [] [] 0
 | op {p:Nat} {o:O} {l:List I} {u:List O} {d:Nat} (h:Wr o) (r:Cd (p+1) l u d):Cd p (⟨o,0⟩::l) (o::u) d
 | rep {p n:Nat} {o e:O} {body l:List I} {ub u:List O} {d d':Nat} (ho:o.k=7) (he:e.k=0) (hv:o.v=n) (h1:1≤n) (hb:Cd (p+1) body ub d) (r:Cd (p+body.length+2) l u d'):
    Cd p (⟨o,((p+body.length+2:Nat):Int)⟩::(body ++ ⟨e,((p+1:Nat):Int)⟩::l)) ((List.replicate n ub).flatten++u) (max (d+1) d')
inductive Run (c:List I):Nat→List Nat→List O→Nat→Prop
 | halt:Run c c.length [] [] 0
 | op {p:Nat} {stk:List Nat} {i:I} {us:List O} {n:Nat} (h:c[p]?=some i) (hw:Wr i.o) (r:Run c (p+1) stk us n):Run c p stk (i.o::us) (n+1)
 | rep {p:Nat} {stk:List Nat} {i:I} {us:List O} {n m:Nat} (h:c[p]?=some i) (hk:i.o.k=7) (hv:i.o.v=m) (hd:stk.length<8) (r:Run c (p+1) (m::stk) us n):Run c p stk us (n+1)
 | again {p:Nat} {stk:List Nat} {i:I} {us:List O} {n m t:Nat} (h:c[p]?=some i) (hk:i.o.k=0) (ht:i.t=t) (r:Run c t ((m+1)::stk) us n):Run c p ((m+2)::stk) us (n+1)
 | out {p:Nat} {stk:List Nat} {i:I} {us:List O} {n:Nat} (h:c[p]?=some i) (hk:i.o.k=0) (r:Run c (p+1) stk us n):Run c p (1::stk) us (n+1)
inductive Back (c:List I):Nat→List Nat→List O→Nat→Prop
 | halt:Back c 0 [] [] 0
 | op {p:Nat} {stk:List Nat} {i:I} {us:List O} {n:Nat} (h:c[p]?=some i) (hw:Wr i.o) (r:Back c p stk us n):Back c (p+1) stk (i.o::us) (n+1)
 | end_ {p:Nat} {stk:List Nat} {i j:I} {us:List O} {n m q:Nat} (h:c[p]?=some i) (hk:i.o.k=0) (ht:i.t=((q+1:Nat):Int)) (hj:c[q]?=some j) (hv:j.o.v=m) (hd:stk.length<8) (r:Back c p (m::stk) us n):Back c (p+1) stk us (n+1)
 | again {p:Nat} {stk:List Nat} {i:I} {us:List O} {n m t:Nat} (h:c[p]?=some i) (hk:i.o.k=7) (ht:i.t=((t+1:Nat):Int)) (r:Back c t ((m+1)::stk) us n):Back c (p+1) ((m+2)::stk) us (n+1)
 | out {p:Nat} {stk:List Nat} {i:I} {us:List O} {n:Nat} (h:c[p]?=some i) (hk:i.o.k=7) (r:Back c p stk us n):Back c (p+1) (1::stk) us (n+1)
theorem at_mid {α:Type}(pre:List α)(x:α)(post:List α):(pre++x::post)[pre.length]?=some x:=by simp
theorem Cd.run {p:Nat}{seg:List I}{u:List O}{d:Nat}(h:Cd p seg u d):∀ {pre post:List I} {stk:List Nat} {us:List O} {n:Nat},pre.length=p→stk.length+d≤8→Run (pre++seg++post) (p+seg.length) stk us n→∃ n',Run (pre++seg++post) p stk (u++us) n':=by
 induction h with
 | nil p=>intro pre post stk us n hp hd hr;exact⟨n,by simpa using hr⟩
 | @op p o l u d h r ih=>
   intro pre post stk us n hp hd hr
   have e:pre++(⟨o,0⟩::l)++post=(pre++[⟨o,0⟩])++l++post:=by simp
   rw[e] at hr ⊢
   obtain⟨n',hn⟩:=ih (pre:=pre++[⟨o,0⟩]) (post:=post) (by simp[hp]) hd (by simpa [Nat.add_assoc,Nat.add_comm 1] using hr)
   refine⟨n'+1,.op (i:=⟨o,0⟩) ?_ h hn⟩
   rw[← e,← hp,List.append_assoc]
   exact at_mid pre _ _
 | @rep p n o e body l ub u d d' ho he hv h1 hb r ihb ihr=>
   intro pre post stk us m hp hd hr
   obtain⟨io,hio⟩:∃ io:I,io=⟨o,((p+body.length+2:Nat):Int)⟩:=⟨_,rfl⟩
   obtain⟨ie,hie⟩:∃ ie:I,ie=⟨e,((p+1:Nat):Int)⟩:=⟨_,rfl⟩
   rw[← hio,← hie] at hr ⊢
   obtain⟨c,hc⟩:∃ c,c=pre++(io::(body++ie::l))++post:=⟨_,rfl⟩
   have c1:c=(pre++[io])++body++(ie::(l++post)):=by rw[hc];simp
   have c2:c=(pre++io::(body++[ie]))++l++post:=by rw[hc];simp
   have p0:c[p]?=some io:=by rw[hc,← hp,List.append_assoc];exact at_mid pre _ _
   have p1:c[p+1+body.length]?=some ie:=by
    have:=at_mid (pre++[io]++body) ie (l++post)
    rw[← c1] at this
    rw[show(pre++[io]++body).length=p+1+body.length by simp[hp];omega] at this
    exact this
   rw[← hc] at hr ⊢
   obtain⟨n1,q1⟩:∃ n1,Run c (p+body.length+2) stk (u++us) n1:=by
    have e2:p+(io::(body++ie::l)).length=p+body.length+2+l.length:=by simp;omega
    rw[e2,c2] at hr
    rw[c2]
    exact ihr (by simp[hp];omega) (by omega) hr
   have loop:∀ m:Nat,∃ n2,Run c (p+1+body.length) ((m+1)::stk) ((List.replicate m ub).flatten++(u++us)) n2:=by
    intro m
    induction m with
    | zero=>exact⟨_,.out p1 (by rw[hie];exact he) (by rw[show p+1+body.length+1=p+body.length+2 by omega];simpa using q1)⟩
    | succ m ihm=>
      obtain⟨n2,q2⟩:=ihm
      rw[c1] at q2
      obtain⟨n3,q3⟩:=ihb (by simp[hp]) (by simp;omega) q2
      rw[← c1] at q3
      refine⟨n3+1,.again (t:=p+1) p1 (by rw[hie];exact he) (by rw[hie]) ?_⟩
      rw[List.replicate_succ,List.flatten_cons,List.append_assoc]
      exact q3
   obtain⟨k,rfl⟩:∃ k,n=k+1:=⟨n - 1,by omega⟩
   obtain⟨n2,q2⟩:=loop k
   rw[c1] at q2
   obtain⟨n3,q3⟩:=ihb (by simp[hp]) (by simp;omega) q2
   rw[← c1] at q3
   refine⟨n3+1,.rep (m:=k+1) p0 (by rw[hio];exact ho) (by rw[hio];exact hv) (by omega) ?_⟩
   rw[List.replicate_succ,List.flatten_cons,List.append_assoc,List.append_assoc]
   exact q3
theorem Cd.whole {c:List I}{u:List O}{d:Nat}(h:Cd 0 c u d)(hd:d≤8):∃ n,Run c 0 [] u n:=by
 have:=h.run (pre:=[]) (post:=[]) (stk:=[]) (us:=[]) (n:=0) rfl (by simpa using hd) (by simpa using Run.halt (c:=c))
 simpa using this
theorem rev_flat (n:Nat)(ub:List O):((List.replicate n ub).flatten).reverse=(List.replicate n ub.reverse).flatten:=by
 induction n with
 | zero=>rfl
 | succ n ih=>rw[List.replicate_succ',List.flatten_append,List.reverse_append,List.replicate_succ,List.flatten_cons,ih];simp
theorem Cd.back {p:Nat}{seg:List I}{u:List O}{d:Nat}(h:Cd p seg u d):∀ {pre post:List I} {stk:List Nat} {us:List O} {n:Nat},pre.length=p→stk.length+d≤8→Back (pre++seg++post) p stk us n→∃ n',Back (pre++seg++post) (p+seg.length) stk (u.reverse++us) n':=by
 induction h with
 | nil p=>intro pre post stk us n hp hd hr;exact⟨n,by simpa using hr⟩
 | @op p o l u d h r ih=>
   intro pre post stk us n hp hd hr
   have e:pre++(⟨o,0⟩::l)++post=(pre++[⟨o,0⟩])++l++post:=by simp
   have p0:(pre++(⟨o,0⟩::l)++post)[p]?=some ⟨o,0⟩:=by rw[← hp,List.append_assoc];exact at_mid pre _ _
   have h1:Back (pre++(⟨o,0⟩::l)++post) (p+1) stk (o::us) (n+1):=.op (i:=⟨o,0⟩) p0 h hr
   rw[e] at h1 ⊢
   obtain⟨n',hn⟩:=ih (pre:=pre++[⟨o,0⟩]) (post:=post) (by simp[hp]) hd h1
   refine⟨n',?_⟩
   have e2:(o::u).reverse++us=u.reverse++o::us:=by simp
   have e3:p+((⟨o,0⟩:I)::l).length=p+1+l.length:=by simp;omega
   rw[e2,e3]
   exact hn
 | @rep p n o e body l ub u d d' ho he hv h1 hb r ihb ihr=>
   intro pre post stk us m hp hd hr
   obtain⟨io,hio⟩:∃ io:I,io=⟨o,((p+body.length+2:Nat):Int)⟩:=⟨_,rfl⟩
   obtain⟨ie,hie⟩:∃ ie:I,ie=⟨e,((p+1:Nat):Int)⟩:=⟨_,rfl⟩
   rw[← hio,← hie] at hr ⊢
   obtain⟨c,hc⟩:∃ c,c=pre++(io::(body++ie::l))++post:=⟨_,rfl⟩
   have c1:c=(pre++[io])++body++(ie::(l++post)):=by rw[hc];simp
   have c2:c=(pre++io::(body++[ie]))++l++post:=by rw[hc];simp
   have p0:c[p]?=some io:=by rw[hc,← hp,List.append_assoc];exact at_mid pre _ _
   have p1:c[p+1+body.length]?=some ie:=by
    have:=at_mid (pre++[io]++body) ie (l++post)
    rw[← c1] at this
    rw[show(pre++[io]++body).length=p+1+body.length by simp[hp];omega] at this
    exact this
   rw[← hc] at hr ⊢
   have hn1:stk.length<8:=by omega
   have loop:∀ m:Nat,∃ n2,Back c (p+1+body.length) ((m+1)::stk) ((List.replicate (m+1) ub.reverse).flatten++us) n2:=by
    intro m
    induction m with
    | zero=>
      have h2:Back c (p+1) (1::stk) us (_+1):=.out p0 (by rw[hio];exact ho) hr
      rw[c1] at h2
      obtain⟨n3,q3⟩:=ihb (by simp[hp]) (by simp;omega) h2
      rw[← c1] at q3
      exact⟨n3,by simpa using q3⟩
    | succ m ihm=>
      obtain⟨n2,q2⟩:=ihm
      have h2:Back c (p+1) ((m+2)::stk) ((List.replicate (m+1) ub.reverse).flatten++us) (n2+1):=
       .again (t:=p+1+body.length) p0 (by rw[hio];exact ho) (by rw[hio];show((p+body.length+2:Nat):Int)=_;congr 1;omega) q2
      rw[c1] at h2
      obtain⟨n3,q3⟩:=ihb (by simp[hp]) (by simp;omega) h2
      rw[← c1] at q3
      refine⟨n3,?_⟩
      rw[List.replicate_succ,List.flatten_cons,List.append_assoc]
      exact q3
   obtain⟨k,rfl⟩:∃ k,n=k+1:=⟨n - 1,by omega⟩
   obtain⟨n2,q2⟩:=loop k
   have h3:Back c (p+body.length+2) stk ((List.replicate (k+1) ub.reverse).flatten++us) (n2+1):=by
    have h4:Back c (p+1+body.length+1) stk ((List.replicate (k+1) ub.reverse).flatten++us) (n2+1):=
     .end_ (q:=p) (j:=io) (m:=k+1) p1 (by rw[hie];exact he) (by rw[hie]) p0 (by rw[hio];exact hv) hn1 q2
    rw[show p+body.length+2=p+1+body.length+1 by omega]
    exact h4
   rw[c2] at h3
   obtain⟨n4,q4⟩:=ihr (by simp[hp];omega) (by omega) h3
   rw[← c2] at q4
   refine⟨n4,?_⟩
   rw[List.reverse_append,rev_flat,List.append_assoc]
   have e2:p+(io::(body++ie::l)).length=p+body.length+2+l.length:=by simp;omega
   rw[e2]
   exact q4
theorem Cd.wholeB {c:List I}{u:List O}{d:Nat}(h:Cd 0 c u d)(hd:d≤8):∃ n,Back c c.length [] u.reverse n:=by
 have:=h.back (pre:=[]) (post:=[]) (stk:=[]) (us:=[]) (n:=0) rfl (by simpa using hd) (by simpa using Back.halt (c:=c))
 simpa using this
end Fl
end Go.Proofs.YtphppbonljdibaaGreat
namespace Go.Proofs.YtphppbonljdibaaGreat
namespace Fl
inductive Nst:List O→List O→Nat→Prop
 | nil:Nst [] [] 0
 | op {o:O} {l u:List O} {d:Nat} (h0:1≤o.k) (h1:o.k≤6) (r:Nst l u d):Nst (o::l) (o::u) d
 | rep {o e:O} {body l ub u:List O} {d d':Nat} (ho:o.k=7) (he:e.k=0) (hb:Nst body ub d) (r:Nst l u d'):
    Nst (o::(body++e::l)) ((List.replicate o.v.toNat ub).flatten++u) (max (d+1) d')
def wk1 (o:O)(i:Nat)(opn:List Nat):Option (List Nat):=
 if o.k<0∨7<o.k then none else if o.k=0 then (match opn with | []=>none | _::r=>some r) else if o.k=7 then some (i::opn) else some opn
def wk:List O→Nat→List Nat→Option (List Nat)
 | [],_,opn=>some opn
 | o::l,i,opn=>match wk1 o i opn with
   | none=>none
   | some opn'=>wk l (i+1) opn'
theorem wk1_op {o:O}{i:Nat}{opn:List Nat}(h0:1≤o.k)(h1:o.k≤6):wk1 o i opn=some opn:=by
 unfold wk1
 rw[if_neg (by omega),if_neg (by omega),if_neg (by omega)]
theorem wk1_rep {o:O}{i:Nat}{opn:List Nat}(h:o.k=7):wk1 o i opn=some (i::opn):=by
 unfold wk1
 rw[if_neg (by omega),if_neg (by omega),if_pos h]
theorem wk1_end {o:O}{i k:Nat}{opn:List Nat}(h:o.k=0):wk1 o i (k::opn)=some opn:=by
 unfold wk1
 rw[if_neg (by omega),if_pos h]
theorem wk1_none {o:O}{i:Nat}(h:o.k=0):wk1 o i []=none:=by
 unfold wk1
 rw[if_neg (by omega),if_pos h]
theorem Nst.wk {l u:List O}{d:Nat}(h:Nst l u d):∀ (r:List O) (i:Nat) (opn:List Nat),Fl.wk (l++r) i opn=Fl.wk r (i+l.length) opn:=by
 induction h with
 | nil=>intro r i opn;rfl
 | @op o l u d h0 h1 r ih=>
   intro r' i opn
   show(match wk1 o i opn with|none=>none|some opn'=>Fl.wk (l++r') (i+1) opn')=_
   rw[wk1_op h0 h1]
   show Fl.wk (l++r') (i+1) opn=_
   rw[ih,List.length_cons,show i+1+l.length=i+(l.length+1) by omega]
 | @rep o e body l ub u d d' ho he hb r ihb ihr=>
   intro r' i opn
   rw[show o::(body++e::l)++r'=o::(body++(e::(l++r'))) by simp]
   show(match wk1 o i opn with|none=>none|some opn'=>Fl.wk (body++(e::(l++r'))) (i+1) opn')=_
   rw[wk1_rep ho]
   show Fl.wk (body++(e::(l++r'))) (i+1) (i::opn)=_
   rw[ihb]
   show(match wk1 e (i+1+body.length) (i::opn) with|none=>none|some opn'=>Fl.wk (l++r') (i+1+body.length+1) opn')=_
   rw[wk1_end he]
   show Fl.wk (l++r') (i+1+body.length+1) opn=_
   rw[ihr]
   congr 1
   simp only[List.length_cons,List.length_append]
   omega
def Cl:Nat→List O→Prop
 | 0,l=>∃ u d,Nst l u d
 | m+1,l=>∃ b e l' u d,l=b++e::l'∧Nst b u d∧e.k=0∧Cl m l'
theorem Cl.op {o:O}(h0:1≤o.k)(h1:o.k≤6):∀ {m:Nat} {l:List O},Cl m l→Cl m (o::l)
 | 0,l,⟨u,d,h⟩=>⟨_,_,.op h0 h1 h⟩
 | m+1,l,⟨b,e,l',u,d,h,hb,he,hc⟩=>⟨o::b,e,l',_,_,by rw[h];rfl,.op h0 h1 hb,he,hc⟩
theorem Cl.rep {o:O}(ho:o.k=7):∀ {m:Nat} {l:List O},Cl (m+1) l→Cl m (o::l)
 | 0,_,⟨b,e,l',u,d,rfl,hb,he,u',d',hc⟩=>⟨_,_,.rep ho he hb hc⟩
 | m+1,l,⟨b,e,l',u,d,h,hb,he,b',e',l'',u',d',h',hb',he',hc⟩=>
   ⟨o::(b++e::b'),e',l'',_,_,by rw[h,h'];simp,.rep ho he hb hb',he',hc⟩
theorem wk_cl:∀ (l:List O) (i:Nat) (opn:List Nat),Fl.wk l i opn=some []→Cl opn.length l
 | [],i,opn,h=>by
   cases h
   exact⟨_,_,.nil⟩
 | o::l,i,opn,h=>by
   unfold Fl.wk at h
   by_cases hr:o.k<0∨7<o.k
   ·unfold wk1 at h
    rw[if_pos hr] at h
    cases h
   ·by_cases h0:o.k=0
    ·cases opn with
     | nil=>rw[wk1_none h0] at h;cases h
     | cons k opn=>
       rw[wk1_end h0] at h
       exact⟨[],o,l,[],0,rfl,.nil,h0,wk_cl l (i+1) opn h⟩
    ·by_cases h7:o.k=7
     ·rw[wk1_rep h7] at h
      exact Cl.rep h7 (wk_cl l (i+1) (i::opn) h)
     ·rw[wk1_op (by omega) (by omega)] at h
      exact Cl.op (by omega) (by omega) (wk_cl l (i+1) opn h)
theorem wk_nst {l:List O}(h:Fl.wk l 0 []=some []):∃ u d,Nst l u d:=wk_cl l 0 [] h
def mt1 (o:O)(i:Nat)(opn:List Nat)(out:List Int):List Int:=
 if o.k=0 then (match opn with | []=>out.set i (-1)|k::_=>(out.set i (k:Int)).set k (i:Int)) else out.set i (-1)
def blk (round:Nat)(v:Int):Option Nat:=if round=0 then some 0 else if 65536<round then none else if ((65536 / round:Nat):Int)<v then none else some (round * v.toNat)
structure Fr where
 at_:Nat
 v:Int
 w:Nat
def sz1 (o:O)(i:Nat)(fr:List Fr)(sz:List Nat):Option (List Fr×List Nat):=
 if o.k=7 then some (⟨i,o.v,0⟩::fr,sz)
 else if o.k=0 then (match fr with
  | t::p::r=>match blk t.w t.v with
    | none=>none
    | some n=>some ({ p with w:=p.w+n } :: r,sz.set t.at_ n)
  | _=>none)
 else (match fr with
  | t::r=>some ({ t with w:=t.w+1 } :: r,sz.set i 1)
  | []=>none)
def szs:List O→Nat→List Fr→List Nat→Option (List Fr×List Nat)
 | [],_,fr,sz=>some (fr,sz)
 | o::l,i,fr,sz=>match sz1 o i fr sz with
   | none=>none
   | some (fr',sz')=>szs l (i+1) fr' sz'
inductive Nsz:List O→List O→Nat→Prop
 | nil:Nsz [] [] 0
 | op {o:O} {l u:List O} {d:Nat} (h0:1≤o.k) (h1:o.k≤6) (r:Nsz l u d):Nsz (o::l) (o::u) d
 | rep {o e:O} {body l ub u:List O} {d d' n:Nat} (ho:o.k=7) (he:e.k=0) (hn:blk ub.length o.v=some n) (hb:Nsz body ub d) (r:Nsz l u d'):
    Nsz (o::(body++e::l)) ((List.replicate o.v.toNat ub).flatten++u) (max (d+1) d')
theorem blk_len {ub:List O}{v:Int}{n:Nat}(h:blk ub.length v=some n):((List.replicate v.toNat ub).flatten).length=n:=by
 unfold blk at h
 have hl:((List.replicate v.toNat ub).flatten).length=v.toNat * ub.length:=by
  induction v.toNat with
  | zero=>simp
  | succ k ih=>rw[List.replicate_succ,List.flatten_cons,List.length_append,ih,Nat.succ_mul];omega
 rw[hl]
 by_cases h0:ub.length=0
 ·rw[if_pos h0] at h
  cases h
  rw[h0,Nat.mul_zero]
 ·rw[if_neg h0] at h
  split at h
  ·cases h
  split at h
  ·cases h
  ·cases h
   rw[Nat.mul_comm]
theorem Nsz.szs {l u:List O}{d:Nat}(h:Nsz l u d):∀ (r:List O) (i:Nat) (t:Fr) (fr:List Fr) (sz:List Nat),i+l.length≤sz.length →
 ∃ sz',Fl.szs (l++r) i (t::fr) sz=Fl.szs r (i+l.length) ({ t with w:=t.w+u.length } :: fr) sz'∧sz'.length=sz.length∧(∀ q,q<i→sz'.getD q 0=sz.getD q 0)∧∀ q,i+l.length≤q→sz'.getD q 0=sz.getD q 0:=by
 induction h with
 | nil=>intro r i t fr sz _;exact⟨sz,rfl,rfl,fun _ _=>rfl,fun _ _=>rfl⟩
 | @op o l u d h0 h1 r ih=>
   intro r' i t fr sz hi
   rw[List.length_cons] at hi
   obtain⟨sz',e1,e2,e3,e4⟩:=ih r' (i+1) { t with w:=t.w+1 } fr (sz.set i 1) (by simp;omega)
   refine⟨sz',?_,by rw[e2];simp,fun q hq=>?_,fun q hq=>?_⟩
   ·show(match sz1 o i (t::fr) sz with|none=>none|some (fr',sz')=>Fl.szs (l++r') (i+1) fr' sz')=_
    have:sz1 o i (t::fr) sz=some ({ t with w:=t.w+1 } :: fr,sz.set i 1):=by
     unfold sz1
     rw[if_neg (by omega),if_neg (by omega)]
    rw[this]
    show Fl.szs (l++r') (i+1) _ _=_
    rw[e1,List.length_cons,List.length_cons,show i+1+l.length=i+(l.length+1) by omega,show t.w+1+u.length=t.w+(u.length+1) by omega]
   ·rw[e3 q (by omega)]
    simp[List.getD_eq_getElem?_getD,List.getElem?_set_ne (show i≠q by omega)]
   ·rw[List.length_cons] at hq
    rw[e4 q (by omega)]
    simp[List.getD_eq_getElem?_getD,List.getElem?_set_ne (show i≠q by omega)]
 | @rep o e body l ub u d d' n ho he hn hb r ihb ihr=>
   intro r' i t fr sz hi
   simp only[List.length_cons,List.length_append] at hi
   obtain⟨s1,a1,a2,a3,a4⟩:=ihb (e::(l++r')) (i+1) ⟨i,o.v,0⟩ (t::fr) sz (by omega)
   obtain⟨s2,b1,b2,b3,b4⟩:=ihr r' (i+1+body.length+1) { t with w:=t.w+n } fr (s1.set i n) (by simp[a2];omega)
   refine⟨s2,?_,by rw[b2];simp[a2],fun q hq=>?_,fun q hq=>?_⟩
   ·rw[show o::(body++e::l)++r'=o::(body++(e::(l++r'))) by simp]
    show(match sz1 o i (t::fr) sz with|none=>none|some (fr',sz')=>Fl.szs (body++(e::(l++r'))) (i+1) fr' sz')=_
    have h1:sz1 o i (t::fr) sz=some (⟨i,o.v,0⟩::t::fr,sz):=by
     unfold sz1
     rw[if_pos ho]
    rw[h1]
    show Fl.szs (body++(e::(l++r'))) (i+1) (⟨i,o.v,0⟩::t::fr) sz=_
    rw[a1]
    show(match sz1 e (i+1+body.length) (⟨i,o.v,0+ub.length⟩::t::fr) s1 with|none=>none|some (fr',sz')=>Fl.szs (l++r') (i+1+body.length+1) fr' sz')=_
    have h2:sz1 e (i+1+body.length) (⟨i,o.v,0+ub.length⟩::t::fr) s1=some ({ t with w:=t.w+n } :: fr,s1.set i n):=by
     unfold sz1
     rw[if_neg (by omega),if_pos he]
     simp only[Nat.zero_add,hn]
    rw[h2]
    show Fl.szs (l++r') (i+1+body.length+1) _ _=_
    rw[b1]
    have e1:i+1+body.length+1+l.length=i+(o::(body++e::l)).length:=by simp only[List.length_cons,List.length_append];omega
    have e2:t.w+n+u.length=t.w+((List.replicate o.v.toNat ub).flatten++u).length:=by rw[List.length_append,blk_len hn];omega
    rw[e1]
    simp only[e2]
   ·rw[b3 q (by omega)]
    simp only[List.getD_eq_getElem?_getD,List.getElem?_set_ne (show i≠q by omega)]
    have:=a3 q (by omega)
    simpa [List.getD_eq_getElem?_getD] using this
   ·simp only[List.length_cons,List.length_append] at hq
    rw[b4 q (by omega)]
    simp only[List.getD_eq_getElem?_getD,List.getElem?_set_ne (show i≠q by omega)]
    have:=a4 q (by omega)
    simpa [List.getD_eq_getElem?_getD] using this
end Fl
end Go.Proofs.YtphppbonljdibaaGreat
