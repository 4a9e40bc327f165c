import Derived.Test.YtphppbonljdibaaGreatTB09
import Derived.Lib.SliceRun
import Derived.RegionTactic
import Derived.Laws.IdiomCopy
import Derived.Test.YtphppbonljdibaaGreatTB00
import Derived.Test.YtphppbonljdibaaGreatTB08
set_option maxRecDepth 100000
set_option maxHeartbeats 4000000
set_option linter.unusedVariables false
set_option linter.unusedSimpArgs false
namespace Go.Proofs.YtphppbonljdibaaGreat
open Go.ChangeShapes Go.WideShapes Go.ChangeAt Go.RowKit
def HU (w:World)(v:Value)(l:List Int):Prop:=Holds w v l.length 1 (u64s l)
theorem HU.kw {w w':World}{v:Value}{l:List Int}(h:HU w v l)(hk:KW w w'):HU w' v l:=Holds.kw h hk
theorem HU.nil (w:World):HU w (.slice none 0 0) []:=Holds.none
theorem u64s_one (l:List Int):∀ y∈u64s l,y.oneCell'=true:=fun y hy=>by
 obtain⟨x,_,rfl⟩:=List.mem_map.1 hy
 rfl
theorem Owns.hu {w:World}{base:Nat}{v:Value}{l:List Int}(h:Owns w base 81 v (u64s l)):HU w v l:=by
 have hx:=h
 unfold Owns at hx
 refine⟨by rw[u64s_len,Nat.mul_one],u64s_one l,?_⟩
 rcases hx.2 with⟨hv,h0⟩|⟨g,cap,cur,hv,_⟩
 ·rw[u64s_len] at h0
  exact .inl ⟨h0,hv⟩
 ·rw[u64s_len] at hv
  exact .inr ⟨_,cap,hv,fun j y hj=>World.ownsRow.cells hx (g:=g) (by rw[hv];rfl) j y hj⟩
theorem HU.row {w:World}{v:Value}{l:List Int}(h:HU w v l):∃ A c,v=.slice A l.length c∧(A=none→l=[]):=by
 rcases h.2.2 with⟨h0,hv⟩|⟨ad,c,hv,_⟩
 ·exact⟨none,0,by rw[h0];exact hv,fun _=>List.length_eq_zero_iff.1 h0⟩
 ·exact⟨some ad,c,hv,fun h=>by cases h⟩
theorem sliceU:SliceOfS Tryz.prog 22 81 (.int .u64 0) 1 8:=⟨Tryz.underlying22,by kernel_rfl,rfl,by omega⟩
def CloneU (w:World)(l:List Int)(e:Ending)(w':World):Prop:=∃ v,e=.returned v∧Owns w' w.heap.size 81 v (u64s l)∧KW w w'
theorem clone64_any (v:Value)(l:List Int)(w:World)(hn:l.length≤1048576)(hh:HU w v l):Calls Tryz.prog 133 #[v] w (CloneU w l):=by
 have q22:∀ (w:World) (a:Option Addr) (n c n' c':Nat),(binOp .eql 22 (.slice a n c) (.slice none n' c')).run Tryz.prog w=.ok (.bool a.isNone) w:=fun w a n c n' c'=>Lib.run_eql_slice_nil w _ _ a n c n' c' Tryz.underlying22
 have hx:=hh
 rcases hx.2.2 with⟨h0,rfl⟩|⟨ad,c,rfl,_⟩
 ·obtain rfl:l=[]:=List.length_eq_zero_iff.1 h0
  clear hx hh
  go_enter Tryz.func133,Tryz.ntmps133
  go_wp2_with fail
  go_ret
  exact⟨_,rfl,Owns.nil _ _ _,KW.refl w⟩
 ·have HH:=hid hh
  clear hh hx
  generalize hN:l.length=n at *
  have HN:=hid hN
  unfold HU at HH
  rw[hN] at HH
  clear hN
  go_enter Tryz.func133,Tryz.ntmps133
  go_wp2_with (at_builtin;refine wpList_appS rfl sliceU rfl (W:=w.alloc (.cells #[] 81)) (base:=w.heap.size) (k:=n) (n:=0) (xs:=[]) (ys:=u64s l) rfl rfl (HH.out.kw ((KW.refl w).alloc _)) (World.ownsRow_made w #[] 0 (Nat.le_refl _) (Nat.zero_le _) rfl) (by simp) (by omega) (by omega) ?_)
  intro v' w1 hown hkeep
  have HO:Hid (Owns w1 w.heap.size 81 v' (u64s l)):=by
   show World.ownsRow _ _ _ _ _ _ _
   rw[u64s_len,HN.out]
   simpa using hown
  have HK:Hid (KW w w1):=((KW.refl w).alloc _).kept hkeep fun i hi=>by simp[Value.ownBlock] at hi;omega
  clear hown hkeep
  go_wp2_with fail
  go_ret
  exact⟨v',rfl,HO.out,HK.out⟩
def putL (W:List Int)(at_:Nat)(xs:List Int):List Int:=W.take at_++xs++W.drop (at_+xs.length)
def getL (W:List Int)(at_ n:Nat):List Int:=(W.drop at_).take n
theorem putL_len {W:List Int}{at_:Nat}{xs:List Int}(h:at_+xs.length≤W.length):(putL W at_ xs).length=W.length:=by
 unfold putL
 rw[List.length_append,List.length_append,List.length_take,List.length_drop]
 omega
theorem getL_len {W:List Int}{at_ n:Nat}(h:at_+n≤W.length):(getL W at_ n).length=n:=by
 unfold getL
 rw[List.length_take,List.length_drop]
 omega
theorem putL_get {W:List Int}{at_:Nat}{xs:List Int}(h:at_+xs.length≤W.length)(i:Nat):(putL W at_ xs).getD i 0=if at_≤i∧i<at_+xs.length then xs.getD (i - at_) 0 else W.getD i 0:=by
 unfold putL
 have ht:(W.take at_).length=at_:=by rw[List.length_take];omega
 simp only[List.getD_eq_getElem?_getD]
 by_cases h1:i<at_
 ·rw[if_neg (by omega),List.append_assoc,List.getElem?_append_left (by omega),List.getElem?_take_of_lt h1]
 ·rw[List.append_assoc,List.getElem?_append_right (by omega),ht]
  by_cases h2:i<at_+xs.length
  ·rw[if_pos ⟨by omega,h2⟩,List.getElem?_append_left (by omega)]
  ·rw[if_neg (by omega),List.getElem?_append_right (by omega),List.getElem?_drop,show at_+xs.length+(i - at_ - xs.length)=i by omega]
theorem getL_get {W:List Int}{at_ n i:Nat}(hi:i<n):(getL W at_ n).getD i 0=W.getD (at_+i) 0:=by
 unfold getL
 simp only[List.getD_eq_getElem?_getD]
 rw[List.getElem?_take_of_lt hi,List.getElem?_drop]
def arf (bw L:Nat)(given:Int):Nat→Value
 | 0=>.slice (some ⟨bw,0,none⟩) L L
 | _=>.int .i64 given
structure ArM (w:World)(ba bw L:Nat)(Wd:List Int)(given:Nat):Prop where
 st:w.rowIs ba 185 2 (arf bw L given)
 ws:w.rowIs bw 81 L (fun i=>.int .u64 (Wd.getD i 0))
 ne:ba≠bw
 len:Wd.length=L
 gl:given≤L
 ll:L≤1048576
theorem ArM.keep {own:Nat→Prop}{w w':World}{ba bw L given:Nat}{Wd:List Int}(h:ArM w ba bw L Wd given)(hk:Keep own w w')(h1:¬ own ba)(h2:¬ own bw):ArM w' ba bw L Wd given:=⟨hk.row h1 h.st,hk.row h2 h.ws,h.ne,h.len,h.gl,h.ll⟩
theorem ArM.kw {w w':World}{ba bw L given:Nat}{Wd:List Int}(h:ArM w ba bw L Wd given)(hk:KW w w'):ArM w' ba bw L Wd given:=h.keep (hk.keep (own:=fun _=>False)) id id
theorem ArM.cells {w:World}{ba bw L given:Nat}{Wd:List Int}(h:ArM w ba bw L Wd given):ba<w.heap.size∧w.cell? ⟨ba,0,none⟩=some (.slice (some ⟨bw,0,none⟩) L L)∧w.cell? ⟨ba,1,none⟩=some (.int .i64 (given:Int)):=
 ⟨h.st.lt,h.st.cell (i:=0) (by omega),h.st.cell (i:=1) (by omega)⟩
theorem ArM.part {w:World}{ba bw L given:Nat}{Wd:List Int}(h:ArM w ba bw L Wd given){o at_ n c:Nat}(hn:at_+n≤L)(ho:0<n→o=at_):HU w (.slice (some ⟨bw,o,none⟩) n c) (getL Wd at_ n):=by
 have hl:(getL Wd at_ n).length=n:=getL_len (by rw[h.len];exact hn)
 refine⟨by rw[u64s_len,Nat.mul_one],u64s_one _,.inr ⟨_,c,by rw[hl],fun j y hj=>?_⟩⟩
 have hj2:j<n:=by
  have:=(List.getElem?_eq_some_iff.1 hj).1
  rw[u64s_len,hl] at this
  exact this
 obtain rfl:=ho (by omega)
 have e:(⟨bw,o,none⟩:Addr).add j=⟨bw,o+j,none⟩:=by unfold Addr.add;split<;>simp_all
 rw[e,h.ws.cell (by omega),← getL_get hj2]
 simp[u64s,hl,hj2] at hj
 rw[← hj]
 simp[hl,hj2]
theorem within_any (ba bw L given:Nat)(Wd:List Int)(at_ n:Nat)(F:FuncId)(recv:Value)(Q:World→Prop)(w:World)(h:ArM w ba bw L Wd given)(hn:at_+n≤given)
 (he:∀ (args:Array Value) (W:World),(callFunc F args).run Tryz.prog W=.ok (.enter F args) W)
 (hF:∀ o c,(0<n→o=at_)→Calls Tryz.prog F #[recv,.slice (some ⟨bw,o,none⟩) n c] w fun e w'=>e=.returned (.tuple #[])∧Q w'):
 Calls Tryz.prog 173 #[.pointer (some ⟨ba,0,none⟩),.int .i64 at_,.int .i64 n,.func (.func F) #[recv] #[]] w fun e w'=>e=.returned (.int .i64 0)∧Q w':=by
 obtain⟨hb,c0,c1⟩:=h.cells
 have hgl:=h.gl
 have hll:=h.ll
 have HF:=hid hF
 have d0:decide ((at_:Int)<0)=false:=decide_eq_false (by omega)
 have d1:decide ((n:Int)<0)=false:=decide_eq_false (by omega)
 have d2:decide ((given:Int)<(at_:Int))=false:=decide_eq_false (by omega)
 have d3:decide (((given:Int) - (at_:Int))<(n:Int))=false:=decide_eq_false (by omega)
 have hL2:at_+n≤L:=by omega
 have hg4:given≤1048576:=by omega
 have ha4:at_≤1048576:=by omega
 have hn4:n≤1048576:=by omega
 clear hF h
 go_enter Tryz.func173,Tryz.ntmps173
 go_wp2_with fail
 clear he
 all_goals
  refine(HF.out _ _ (fun _=>by omega)).mono ?_
  rintro e w5 ⟨rfl,hq⟩
  have HQ:=hid hq
  clear hq
  go_wp2_with fail
  go_ret
  exact⟨rfl,HQ.out⟩
theorem take_any (g:Nat)(v:Value)(l:List Int)(u:Value)(w:World)(hn:l.length≤1048576)(hh:HU w v l)(hv:Var w g 238 u):
 Calls Tryz.prog 185 #[.pointer (some ⟨g,0,none⟩),v] w fun e w'=>e=.returned (.tuple #[])∧∃ x,Var w' g 238 x∧Owns w' w.heap.size 81 x (u64s l)∧Keep (· = g) w w':=by
 have HC:=hid (clone64_any v l w hn hh)
 have HV:=hid hv
 obtain⟨A,c,rfl,_⟩:=hh.row
 clear hv hh
 generalize l.length=n at *
 go_enter Tryz.func185,Tryz.ntmps185
 go_wp2_with fail
 refine HC.out.mono ?_
 rintro e w1 ⟨x,rfl,ho,hk⟩
 have hv1:=HV.out.keep (hk.keep (own:=fun _=>False)) id
 have c0:=hv1.cell
 have f0:=hv1.frozen
 have hkg:Keep (· = g) w1 (w1.setCell ⟨g,0,none⟩ x):=(Keep.refl _ w1).setCell _ _ rfl
 have HF:Hid (∃ x',Var (w1.setCell ⟨g,0,none⟩ x) g 238 x'∧Owns (w1.setCell ⟨g,0,none⟩ x) w.heap.size 81 x' (u64s l)∧Keep (· = g) w (w1.setCell ⟨g,0,none⟩ x)):=
  hid ⟨x,hv1.set x,hkg.owns ho fun b hb h=>by have:=(ho.lt hb).1;have:=HV.out.lt;omega,hk.keep.t hkg⟩
 obtain⟨A',c',rfl,_⟩:=ho.row
 clear hv1 hkg ho hk
 generalize (u64s l).length=N at *
 go_wp2_with fail
 refine bodyPost_end (results_none rfl _ _ _) rfl ?_
 exact⟨rfl,HF.out⟩
theorem read_any (ba bw L given:Nat)(Wd:List Int)(at_ n:Nat)(w:World)(h:ArM w ba bw L Wd given)(hn:at_+n≤given):
 Calls Tryz.prog 148 #[.pointer (some ⟨ba,0,none⟩),.int .i64 at_,.int .i64 n] w fun e w'=>∃ v,e=.returned (.tuple #[v,.int .i64 0])∧Owns w' w.heap.size 81 v (u64s (getL Wd at_ n))∧KW w w':=by
 have hk:=(KW.refl w).alloc (.cells #[.slice none 0 0] 238)
 have hl:(getL Wd at_ n).length=n:=getL_len (by rw[h.len];have:=h.gl;omega)
 have hA:=h.kw hk
 have HW:=hid (within_any ba bw L given Wd at_ n 185 (.pointer (some ⟨w.heap.size,0,none⟩)) (fun w'=>∃ x,Var w' w.heap.size 238 x∧Owns w' (w.alloc (.cells #[.slice none 0 0] 238)).heap.size 81 x (u64s (getL Wd at_ n))∧Keep (· = w.heap.size) (w.alloc (.cells #[.slice none 0 0] 238)) w') _ hA hn (fun _ _=>by kernel_rfl)
  (fun o c ho=>take_any w.heap.size _ (getL Wd at_ n) _ _ (by rw[hl];have:=h.gl;have:=h.ll;omega) (hA.part (by have:=h.gl;omega) ho) (Var.new w _ _)))
 have HK:=hid hk
 clear hk hA h hl
 go_enter Tryz.func148,Tryz.ntmps148
 go_wp2_with fail
 refine HW.out.mono ?_
 rintro e w1 ⟨rfl,x,hv,ho,hk⟩
 have HO:=hid (ho.base (show w.heap.size≤_ by simp))
 have HK1:Hid (KW w w1):=hid (HK.out.kept hk fun i hi=>by omega)
 have c0:=hv.cell
 have hlt:=hv.lt
 clear hv ho hk HW
 go_wp2_with fail
 go_ret2
 exact⟨x,rfl,HO.out,HK1.out⟩
theorem get_any (ba bw L given:Nat)(Wd:List Int)(at_:Nat)(w:World)(h:ArM w ba bw L Wd given)(hn:at_+1≤given):
 Calls Tryz.prog 188 #[.pointer (some ⟨ba,0,none⟩),.int .i64 at_] w fun e w'=>e=.returned (.tuple #[.int .u64 (Wd.getD at_ 0),.int .i64 0])∧KW w w':=by
 have hk:=(KW.refl w).alloc (.cells #[.slice none 0 0] 238)
 have hl:(getL Wd at_ 1).length=1:=getL_len (by rw[h.len];have:=h.gl;omega)
 have hA:=h.kw hk
 have HW:=hid (within_any ba bw L given Wd at_ 1 185 (.pointer (some ⟨w.heap.size,0,none⟩)) (fun w'=>∃ x,Var w' w.heap.size 238 x∧Owns w' (w.alloc (.cells #[.slice none 0 0] 238)).heap.size 81 x (u64s (getL Wd at_ 1))∧Keep (· = w.heap.size) (w.alloc (.cells #[.slice none 0 0] 238)) w') _ hA hn (fun _ _=>by kernel_rfl)
  (fun o c ho=>take_any w.heap.size _ (getL Wd at_ 1) _ _ (by rw[hl];have:=h.gl;have:=h.ll;omega) (hA.part (by have:=h.gl;omega) ho) (Var.new w _ _)))
 have HG:Hid (getL Wd at_ 1=[Wd.getD at_ 0]):=by
  refine hid (List.ext_getElem (by rw[hl];rfl) fun i h1 h2=>?_)
  have hi:i=0:=by simp at h2;exact h2
  subst hi
  have:=getL_get (W:=Wd) (at_:=at_) (n:=1) (i:=0) (by omega)
  simp[List.getD_eq_getElem?_getD,h1] at this ⊢
  exact this
 rw[HG.out] at HW
 have HK:=hid hk
 clear hk hA h hl HG
 generalize Wd.getD at_ 0=y at *
 go_enter Tryz.func188,Tryz.ntmps188
 go_wp2_with fail
 refine HW.out.mono ?_
 rintro e w1 ⟨rfl,x,hv,ho,hk⟩
 have HK1:Hid (KW w w1):=hid (HK.out.kept hk fun i hi=>by omega)
 have c0:=hv.cell
 have hlt:=hv.lt
 obtain⟨g,c,rfl,hc,hg⟩:=RegM.some (ho.base (Nat.zero_le _)) (by simp)
 obtain⟨_,c1,_,_⟩:=RegM.at_ (ho.base (Nat.zero_le _)) (i:=0) (by simp)
 simp only[List.getD_cons_zero] at c1
 simp only[List.length_singleton] at c0 hc
 clear hv ho hk HW
 go_wp2_with fail
 go_ret2
 exact⟨rfl,HK1.out⟩
section
variable {P : Program} {ops : Array Oper} {Q : Exit → Act → World → Prop}
theorem wpList_copy_none {rest:List Oper}{o:Oper}{a:Act}(hgd:o.guard=none){w:World}{d s:Operand}{dT sT elem:TypeId}(ho:o.op=.call { callee:=.builtin .copy,args:=#[d,s],argTypes:=#[dT,sT] })(hu:P.underlying dT=some (.slice elem))(hsz:(P.info? elem).map (·.size)=some 1)
 {A B:Option Addr} {dLen dCap sLen sCap:Nat} (hd:a.eval d=.slice A dLen dCap) (hs:a.eval s=.slice B sLen sCap) (hm:Nat.min sLen dLen=0) (hK:wpList P ops Q rest (a.put o.dst (.int .i64 0)) w):wpList P ops Q (o::rest) a w:=by
 refine wpList_plain hgd fun K hK'=>?_
 have hrun:=run_copy_none (P:=P) w dT sT o.type elem A B dLen dCap sLen sCap hu hsz hm
 unfold Oper.wp
 simp[execOp,ho,resolve,invoke,builtin,hd,hs,hrun,Result.andThen]
 exact hK' _ _ hK
end
theorem put_any (ba bw L given:Nat)(Wd:List Int)(at_ o c:Nat)(v:Value)(l:List Int)(w:World)(h:ArM w ba bw L Wd given)(hn:at_+l.length≤L)(ho:0<l.length→o=at_)(hv:HU w v l):
 Calls Tryz.prog 174 #[.agg #[v],.slice (some ⟨bw,o,none⟩) l.length c] w fun e w'=>e=.returned (.tuple #[])∧ArM w' ba bw L (putL Wd at_ l) given∧Keep (· = bw) w w':=by
 have hk:=(KW.refl w).alloc (.cells #[v] 224)
 have hA:=h.kw hk
 have hV:=hv.kw hk
 have hlen:=h.len
 have hx:=hV
 rcases hx.2.2 with⟨h0,rfl⟩|⟨ad,c2,rfl,hc⟩
 ·obtain rfl:l=[]:=List.length_eq_zero_iff.1 h0
  have HA:=hid hA
  have HK:=hid hk
  have HP:Hid (putL Wd at_ []=Wd):=hid (by simp[putL])
  clear hV hv h hA hk hx hlen h0
  simp only[List.length_nil]
  go_enter Tryz.func174,Tryz.ntmps174
  go_wp2_with (refine wpList_copy_none rfl rfl Tryz.underlying22 (by kernel_rfl) rfl rfl (by rfl) ?_)
  refine bodyPost_end (results_none rfl _ _ _) rfl ?_
  exact⟨rfl,by rw[HP.out];exact HA.out,HK.out.keep⟩
 ·have HA:=hid hA
  have HK:=hid hk
  have HCs:Hid (∀ j,j<l.length→(w.alloc (.cells #[.slice (some ad) l.length c2] 224)).cell? (ad.add j)=some (.int .u64 (l.getD j 0))):=hid fun j hj=>hc j _ (by simp[u64s,hj])
  have HLn:=hid hlen
  have hbw:=hA.ws.lt
  have HO:=hid ho
  have HN:=hid hn
  have HPg:=hid (fun i=>putL_get (W:=Wd) (at_:=at_) (xs:=l) (by rw[hlen];exact hn) i)
  have HPl:=hid (putL_len (W:=Wd) (at_:=at_) (xs:=l) (by rw[hlen];exact hn))
  have HBw:Hid (bw<w.heap.size):=hid h.ws.lt
  clear hV hv h hA hk hx hlen hc ho hn
  generalize hLl:l.length=n at *
  have HLl:=hid hLl
  clear hLl
  go_enter Tryz.func174,Tryz.ntmps174
  by_cases h0:n=0
  ·subst h0
   have hl0:l=[]:=List.length_eq_zero_iff.1 HLl.out
   subst hl0
   have HP:Hid (putL Wd at_ []=Wd):=hid (by simp[putL])
   go_wp2_with (refine wpList_copy_none rfl rfl Tryz.underlying22 (by kernel_rfl) rfl rfl (by rfl) ?_)
   refine bodyPost_end (results_none rfl _ _ _) rfl ?_
   exact⟨rfl,by rw[HP.out];exact HA.out,HK.out.keep⟩
  ·obtain rfl:=HO.out (by omega)
   go_wp2_with (refine wpList_copy_is rfl rfl Tryz.underlying22 (by kernel_rfl) (m:=n) (h:=fun j=>.int .u64 (l.getD j 0)) rfl rfl HA.out.ws (by simp) HCs.out HN.out (fun _ _=>rfl) ?_;intro W hrow hkeep)
   have HF:Hid (ArM W ba bw L (putL Wd o l) given):=hid ⟨hkeep.row HA.out.ne HA.out.st,hrow.congr fun i hi=>by
    rw[HPg.out]
    by_cases hc:o≤i∧i<o+n
    ·rw[if_pos hc,if_pos hc]
    ·rw[if_neg hc,if_neg hc],HA.out.ne,HPl.out.trans HLn.out,HA.out.gl,HA.out.ll⟩
   have HK2:Hid (Keep (· = bw) w W):=hid (HK.out.keep.t hkeep)
   clear hrow hkeep
   refine bodyPost_end (results_none rfl _ _ _) rfl ?_
   exact⟨rfl,HF.out,HK2.out⟩
theorem write_any (ba bw L given:Nat)(Wd:List Int)(at_:Nat)(v:Value)(l:List Int)(w:World)(h:ArM w ba bw L Wd given)(hn:at_+l.length≤given)(hv:HU w v l):
 Calls Tryz.prog 142 #[.pointer (some ⟨ba,0,none⟩),.int .i64 at_,v] w fun e w'=>e=.returned (.int .i64 0)∧ArM w' ba bw L (putL Wd at_ l) given∧Keep (· = bw) w w':=by
 have HW:=hid (within_any ba bw L given Wd at_ l.length 174 (.agg #[v]) (fun w'=>ArM w' ba bw L (putL Wd at_ l) given∧Keep (· = bw) w w') w h hn (fun _ _=>by kernel_rfl)
  (fun o c ho=>put_any ba bw L given Wd at_ o c v l w h (by have:=h.gl;omega) ho hv))
 obtain⟨A,c,rfl,_⟩:=hv.row
 clear h hn hv
 generalize l.length=n at *
 go_enter Tryz.func142,Tryz.ntmps142
 go_wp2_with fail
 refine HW.out.mono ?_
 rintro e w1 ⟨rfl,ha,hk⟩
 have HA:=hid ha
 have HK:=hid hk
 clear ha hk HW
 go_wp2_with fail
 go_ret
 exact⟨rfl,HA.out,HK.out⟩
theorem left_any (ba bw L given:Nat)(Wd:List Int)(w:World)(h:ArM w ba bw L Wd given):
 Calls Tryz.prog 139 #[.pointer (some ⟨ba,0,none⟩)] w fun e w'=>e=.returned (.int .i64 ((L:Int) - given))∧KW w w':=by
 obtain⟨hb,c0,c1⟩:=h.cells
 have hgl:=h.gl
 have hll:=h.ll
 have d0:w.drew.cell? ⟨ba,0,none⟩=_:=c0
 have d1:w.drew.cell? ⟨ba,1,none⟩=_:=c1
 clear h c0 c1
 go_enter Tryz.func139,Tryz.ntmps139
 go_wp2_with fail
 go_region
 go_wp2_with fail
 go_ret
 exact⟨rfl,(KW.refl w).drew⟩
theorem arTake_any (ba bw L given:Nat)(Wd:List Int)(n:Nat)(w:World)(h:ArM w ba bw L Wd given)(hn:given+n≤L):
 Calls Tryz.prog 102 #[.pointer (some ⟨ba,0,none⟩),.int .i64 n] w fun e w'=>e=.returned (.tuple #[.int .i64 given,.int .i64 0])∧ArM w' ba bw L Wd (given+n)∧Keep (· = ba) w w':=by
 have HL:=hid (left_any ba bw L given Wd w h)
 have HA:=hid h
 have hll:=h.ll
 have hgl:=h.gl
 have d0:decide ((n:Int)<0)=false:=decide_eq_false (by omega)
 have d1:decide ((L:Int) - (given:Int)<(n:Int))=false:=decide_eq_false (by omega)
 have hg4:given≤1048576:=by omega
 have hn4:n≤1048576:=by omega
 have HN:=hid hn
 clear h
 go_enter Tryz.func102,Tryz.ntmps102
 go_wp2_with fail
 refine HL.out.mono ?_
 rintro e w1 ⟨rfl,hk⟩
 have hA1:=HA.out.kw hk
 obtain⟨hb,c0,c1⟩:=hA1.cells
 have f1:=hA1.st.frozen 1
 have HF:Hid (ArM (w1.setCell ⟨ba,1,none⟩ (.int .i64 ((given:Int)+(n:Int)))) ba bw L Wd (given+n)):=hid ⟨World.rowIs.congr (hA1.st.set 1 (.int .i64 ((given:Int)+(n:Int)))) (fun i hi=>by
  rcases(show i=0∨i=1 by omega) with rfl|rfl<;>rfl),hA1.ws.setOther (a:=⟨ba,1,none⟩) (Ne.symm hA1.ne) _,hA1.ne,hA1.len,by have:=HN.out;omega,hA1.ll⟩
 have HK:Hid (Keep (· = ba) w (w1.setCell ⟨ba,1,none⟩ (.int .i64 ((given:Int)+(n:Int))))):=hid (hk.keep.t ((Keep.refl _ w1).setCell _ _ rfl))
 clear hA1 hk HL
 go_wp2_with fail
 go_ret2
 exact⟨rfl,HF.out,HK.out⟩
theorem arNew_any (n:Nat)(w:World)(h1:1≤n)(h2:n≤1048576):
 Calls Tryz.prog 99 #[.int .i64 n] w fun e w'=>e=.returned (.tuple #[.pointer (some ⟨w.heap.size+1,0,none⟩),.int .i64 0])∧ArM w' (w.heap.size+1) w.heap.size n (List.replicate n 0) 0∧KW w w':=by
 have HR:Hid (Calls Tryz.prog 135 #[.int .i64 n] w fun e w'=>e=.returned (.int .i64 0)∧w'=w):=hid (by
  have d0:decide ((n:Int)<1)=false:=decide_eq_false (by omega)
  have d1:decide ((1048576:Int)<(n:Int))=false:=decide_eq_false (by omega)
  go_enter Tryz.func135,Tryz.ntmps135
  go_wp2_with fail
  go_ret
  exact⟨rfl,rfl⟩)
 have hmk:∀ W,(Instr.makeSlice 22 (.int .i64 n) (.int .i64 n)).run Tryz.prog W=.ok (.slice (some ⟨W.heap.size,0,none⟩) n n) (W.alloc (.cells (madeCells #[.int .u64 0] n) 81)):=fun W=>run_make_row' (P:=Tryz.prog) 22 81 (.int .u64 0) 8 Tryz.underlying22 (by kernel_rfl) rfl .i64 .i64 n (by omega) (by omega) W
 have hrow:(w.alloc (.cells (madeCells #[.int .u64 0] n) 81)).rowIs w.heap.size 81 n (fun i=>.int .u64 ((List.replicate n (0:Int)).getD i 0)):=by
  refine⟨madeCells #[.int .u64 0] n,heap_alloc_new w _,by simp[size_madeCells],fun i hi=>?_⟩
  rw[← Array.getElem?_toList,toList_madeCells_one]
  simp[hi]
 have hst:((w.alloc (.cells (madeCells #[.int .u64 0] n) 81)).alloc (.cells #[.slice (some ⟨w.heap.size,0,none⟩) n n,.int .i64 0] 185)).rowIs (w.alloc (.cells (madeCells #[.int .u64 0] n) 81)).heap.size 185 2 (arf w.heap.size n 0):=
  World.rowIs_alloc _ #[.slice (some ⟨w.heap.size,0,none⟩) n n,.int .i64 0] 185 _ fun i hi=>by
   simp at hi
   rcases(show i=0∨i=1 by omega) with rfl|rfl<;>rfl
 rw[show(w.alloc (.cells (madeCells #[.int .u64 0] n) 81)).heap.size=w.heap.size+1 by simp] at hst
 have HF:Hid (ArM ((w.alloc (.cells (madeCells #[.int .u64 0] n) 81)).alloc (.cells #[.slice (some ⟨w.heap.size,0,none⟩) n n,.int .i64 0] 185)) (w.heap.size+1) w.heap.size n (List.replicate n 0) 0):=hid ⟨hst,KW.row ((KW.refl _).alloc _) hrow.lt hrow,by omega,by simp,by omega,h2⟩
 have HK:=hid (((KW.refl w).alloc (.cells (madeCells #[.int .u64 0] n) 81)).alloc (.cells #[.slice (some ⟨w.heap.size,0,none⟩) n n,.int .i64 0] 185))
 clear hrow hst
 go_enter Tryz.func99,Tryz.ntmps99
 go_wp2_with fail
 refine HR.out.mono ?_
 rintro e w1 ⟨rfl,rfl⟩
 go_wp2_with fail
 go_ret2
 exact⟨rfl,HF.out,HK.out⟩
theorem image_any (ba bw L given:Nat)(Wd:List Int)(w:World)(h:ArM w ba bw L Wd given):
 Calls Tryz.prog 109 #[.pointer (some ⟨ba,0,none⟩)] w fun e w'=>∃ v,e=.returned v∧Owns w' w.heap.size 81 v (u64s Wd)∧KW w w':=by
 obtain⟨hb,c0,c1⟩:=h.cells
 have hp:=h.part (o:=0) (at_:=0) (n:=L) (c:=L) (by omega) (fun _=>rfl)
 have hg:getL Wd 0 L=Wd:=by
  unfold getL
  rw[List.drop_zero,List.take_of_length_le (by rw[h.len];exact Nat.le_refl _)]
 rw[hg] at hp
 have HC:=hid (clone64_any _ Wd w (by rw[h.len];exact h.ll) hp)
 clear hp h
 go_enter Tryz.func109,Tryz.ntmps109
 go_wp2_with fail
 refine HC.out.mono ?_
 rintro e w1 ⟨v,rfl,ho,hk⟩
 have HO:=hid ho
 have HK:=hid hk
 clear ho hk
 go_wp2_with fail
 go_ret
 exact⟨v,rfl,HO.out,HK.out⟩
def plv (f n x:Int):Array Value:=#[.int .i64 f,.int .i64 n,.int .i64 x]
theorem psize_any (f n x:Int)(w:World)(hx:0≤x∧x≤64):Calls Tryz.prog 141 #[.agg (plv f n x)] w fun e w'=>e=.returned (.int .i64 (x+1))∧KW w w':=by
 have HK:=hid ((KW.refl w).alloc (.cells (plv f n x) 193))
 unfold plv at *
 go_enter Tryz.func141,Tryz.ntmps141
 go_wp2_with fail
 go_ret
 exact⟨rfl,HK.out⟩
theorem phas_any (f:Int)(n k:Nat)(x:Int)(w:World)(hk:k<n):Calls Tryz.prog 248 #[.agg (plv f n x),.int .i64 k] w fun e w'=>e=.returned (.bool true)∧KW w w':=by
 have HK:=hid ((KW.refl w).alloc (.cells (plv f n x) 193))
 have L:(k:Int)<(n:Int):=by omega
 have L0:(0:Int)≤(k:Int):=by omega
 unfold plv at *
 go_enter Tryz.func248,Tryz.ntmps248
 go_wp2_with fail
 go_ret
 exact⟨rfl,HK.out⟩
theorem plv_row (w:World)(t:TypeId)(f n x:Int):(w.alloc (.cells (plv f n x) t)).cell? ⟨w.heap.size,0,none⟩=some (.int .i64 f)∧(w.alloc (.cells (plv f n x) t)).cell? ⟨w.heap.size,1,none⟩=some (.int .i64 n)∧(w.alloc (.cells (plv f n x) t)).cell? ⟨w.heap.size,2,none⟩=some (.int .i64 x):=by
 have h:=heap_alloc_new w (.cells (plv f n x) t)
 refine⟨?_,?_,?_⟩<;>(unfold World.cell?;rw[h];rfl)
theorem pword_any (f n k x:Nat)(w:World)(hf:f≤1048576)(hk:k≤1048576)(hx:x≤64)(hw:f+k * (x+1)≤1099511627776):Calls Tryz.prog 189 #[.agg (plv f n x),.int .i64 k] w fun e w'=>e=.returned (.int .i64 ((f+k * (x+1):Nat):Int))∧KW w w':=by
 have hk1:=(KW.refl w).alloc (.cells (plv f n x) 193)
 have HS:=hid (fun W=>psize_any f n x W ⟨by omega,by omega⟩)
 obtain⟨c0,c1,c2⟩:=plv_row w 193 f n x
 have HC:=hid (And.intro c0 (And.intro c1 c2))
 have HK:=hid hk1
 have hlt:w.heap.size<(w.alloc (.cells (plv f n x) 193)).heap.size:=by simp
 have HLt:=hid hlt
 have hmul:(k:Int) * ((x:Int)+1)=((k * (x+1):Nat):Int):=by push_cast;rfl
 have HAdd:Hid ((f:Int)+((k * (x+1):Nat):Int)=((f+k * (x+1):Nat):Int)):=hid (by push_cast;rfl)
 have hp:k * (x+1)≤1099511627776:=by omega
 have hw1:IntKind.i64.wrap ((k * (x+1):Nat):Int)=((k * (x+1):Nat):Int):=IntWalk.i64_in _ (by omega)
 have hw2:IntKind.i64.wrap ((f:Int)+((k * (x+1):Nat):Int))=(f:Int)+((k * (x+1):Nat):Int):=IntWalk.i64_in _ (by omega)
 unfold plv at *
 generalize k * (x+1)=p at *
 clear c0 c1 c2 hk1 hlt
 go_enter Tryz.func189,Tryz.ntmps189
 go_wp2_with fail
 have hXS:=HC.out
 refine wpX_region (S:=fun w'=>w'.cell? ⟨w.heap.size,0,none⟩=some (.int .i64 (f:Int))∧w'.cell? ⟨w.heap.size,1,none⟩=some (.int .i64 (n:Int))∧w'.cell? ⟨w.heap.size,2,none⟩=some (.int .i64 (x:Int))) (L:=99) (by kernel_rfl) ?_
 refine tk 0 ?_ (fun _ _=>?_) hXS ?_;rotate_left;· go_simp;try rfl
 simp only[lsz,lss]
 refine tk 1 ?_ (fun _ _=>?_) hXS ?_;rotate_left;· go_simp;try rfl
 simp only[lsz,lss]
 refine tk 2 ?_ (fun _ _=>?_) hXS ?_;rotate_left;· go_simp;try rfl
 simp only[lsz,lss]
 refine tk 3 ?_ (fun _ _=>?_) hXS ?_;rotate_left;· go_simp;try rfl
 simp only[lsz,lss]
 refine wpX_hard (k:=4) (by kernel_rfl) rfl (fun K hK=>?_)
 go_simp
 refine(HS.out _).mono ?_
 rintro e w1 ⟨rfl,hk1⟩
 have hk2:KW (w.alloc (.cells #[.int .i64 (f:Int),.int .i64 (n:Int),.int .i64 (x:Int)] 193)) w1:=(KW.refl _).drew.t hk1
 have HK2:=hid (HK.out.t hk2)
 have hXS:=And.intro ((Below.cell hk2 HLt.out).trans HC.out.1) (And.intro ((Below.cell hk2 HLt.out).trans HC.out.2.1) ((Below.cell hk2 HLt.out).trans HC.out.2.2))
 refine hK _ _ (fun _=>hXS) ?_
 clear hK K hk1 hk2
 try simp only[lsz,lss]
 refine tk 5 ?_ (fun _ _=>?_) hXS ?_;rotate_left;· go_simp;try rfl
 simp only[lsz,lss]
 refine tk 6 ?_ (fun _ _=>?_) hXS ?_;rotate_left;· go_simp;try rfl
 simp only[lsz,lss]
 refine tk 7 ?_ (fun _ _=>?_) hXS ?_;rotate_left;· go_simp;try rfl
 simp only[lsz,lss]
 refine wpX_done (by kernel_rfl) ?_
 clear hXS
 go_wp2_with fail
 go_ret
 exact⟨by rw[← HAdd.out];rfl,HK2.out⟩
def slf (f n x:Int)(ba:Nat):Nat→Value
 | 0=>.int .i64 f
 | 1=>.int .i64 n
 | 2=>.int .i64 x
 | _=>.pointer (some ⟨ba,0,none⟩)
def SlM (w:World)(bs f n x ba:Nat):Prop:=w.rowIs bs 196 4 (slf f n x ba)
theorem SlM.keep {own:Nat→Prop}{w w':World}{bs f n x ba:Nat}(h:SlM w bs f n x ba)(hk:Keep own w w')(hn:¬ own bs):SlM w' bs f n x ba:=hk.row hn h
theorem SlM.kw {w w':World}{bs f n x ba:Nat}(h:SlM w bs f n x ba)(hk:KW w w'):SlM w' bs f n x ba:=h.keep (hk.keep (own:=fun _=>False)) id
theorem SlM.cells {w:World}{bs f n x ba:Nat}(h:SlM w bs f n x ba):bs<w.heap.size∧w.cell? ⟨bs,0,none⟩=some (.int .i64 (f:Int))∧w.cell? ⟨bs,1,none⟩=some (.int .i64 (n:Int))∧w.cell? ⟨bs,2,none⟩=some (.int .i64 (x:Int))∧w.cell? ⟨bs,3,none⟩=some (.pointer (some ⟨ba,0,none⟩)):=
 ⟨World.rowIs.lt h,World.rowIs.cell h (i:=0) (by omega),World.rowIs.cell h (i:=1) (by omega),World.rowIs.cell h (i:=2) (by omega),World.rowIs.cell h (i:=3) (by omega)⟩
structure SlB (f n x given:Nat):Prop where
 fit:f+n * (x+1)≤given
 x64:x≤64
 g:given≤1048576
theorem SlB.at_ {f n x given k:Nat}(h:SlB f n x given)(hk:k<n):f+k * (x+1)+(x+1)≤given:=by
 have h1:k * (x+1)+(x+1)≤n * (x+1):=by
  rw[← Nat.succ_mul]
  exact Nat.mul_le_mul_right _ hk
 have:=h.fit
 omega
theorem SlB.k4 {f n x given k:Nat}(h:SlB f n x given)(hk:k<n):k≤1048576:=by
 have h1:=h.at_ hk
 have h2:=h.g
 have h3:k * 1≤k * (x+1):=Nat.mul_le_mul_left k (by omega)
 omega
theorem slot_any (bs f n x ba bw L given k:Nat)(Wd:List Int)(F:FuncId)(caps:Array Value)(Q:Ending→World→Prop)(w:World)(hS:SlM w bs f n x ba)(hA:ArM w ba bw L Wd given)(hB:SlB f n x given)(hk:k<n)
 (he:∀ (args:Array Value) (W:World),(callFunc F args).run Tryz.prog W=.ok (.enter F args) W)
 (hQ:∀ e w',Q e w'→∃ r:Int,e=.returned (.int .i64 r))
 (hF:∀ W,KW w W→Calls Tryz.prog F (#[.int .u64 (Wd.getD (f+k * (x+1)) 0),.int .i64 ((f+k * (x+1):Nat):Int)]++caps) W Q):
 Calls Tryz.prog 230 #[.pointer (some ⟨bs,0,none⟩),.int .i64 k,.func (.func F) #[] caps] w Q:=by
 have hat:=hB.at_ hk
 have hk4:=hB.k4 hk
 have hx:=hB.x64
 have hg:=hB.g
 have HH:=hid (fun W=>phas_any f n k x W hk)
 have HWd:=hid (fun W=>pword_any f n k x W (by omega) hk4 hx (by omega))
 have HGt:=hid (fun W (hW:KW w W)=>get_any ba bw L given Wd (f+k * (x+1)) W (hA.kw hW) (by omega))
 have HSl:=hid (fun W (hW:KW w W)=>(hS.kw hW).cells)
 have HF:=hid hF
 have HQ:=hid hQ
 obtain⟨hb,c0,c1,c2,c3⟩:=hS.cells
 have hp4:f+k * (x+1)≤1048576:=by omega
 generalize f+k * (x+1)=p at *
 generalize Wd.getD p 0=fst at *
 clear hS hA hB hQ hF hat
 unfold plv at *
 go_enter Tryz.func230,Tryz.ntmps230
 go_wp2_with fail
 refine(HH.out _).mono ?_
 rintro e w1 ⟨rfl,hk1⟩
 have HK1:=hid hk1
 clear c0 c1 c2 c3 hb hk1
 obtain⟨hb,c0,c1,c2,c3⟩:=HSl.out w1 HK1.out
 go_wp2_with fail
 have hXS:=And.intro c0 (And.intro c1 (And.intro c2 c3))
 refine wpX_region (S:=fun w'=>w'.cell? ⟨bs,0,none⟩=some (.int .i64 (f:Int))∧w'.cell? ⟨bs,1,none⟩=some (.int .i64 (n:Int))∧w'.cell? ⟨bs,2,none⟩=some (.int .i64 (x:Int))∧w'.cell? ⟨bs,3,none⟩=some (.pointer (some ⟨ba,0,none⟩))) (L:=99) (by kernel_rfl) ?_
 refine tk 0 ?_ (fun _ _=>?_) hXS ?_;rotate_left;· go_simp;try rfl
 simp only[lsz,lss]
 refine tk 1 ?_ (fun _ _=>?_) hXS ?_;rotate_left;· go_simp;try rfl
 simp only[lsz,lss]
 refine tk 2 ?_ (fun _ _=>?_) hXS ?_;rotate_left;· go_simp;try rfl
 simp only[lsz,lss]
 refine tk 3 ?_ (fun _ _=>?_) hXS ?_;rotate_left;· go_simp;try rfl
 simp only[lsz,lss]
 refine tk 4 ?_ (fun _ _=>?_) hXS ?_;rotate_left;· go_simp;try rfl
 simp only[lsz,lss]
 refine tk 5 ?_ (fun _ _=>?_) hXS ?_;rotate_left;· go_simp;try rfl
 simp only[lsz,lss]
 refine tk 6 ?_ (fun _ _=>?_) hXS ?_;rotate_left;· go_simp;try rfl
 simp only[lsz,lss]
 refine tk 7 ?_ (fun _ _=>?_) hXS ?_;rotate_left;· go_simp;try rfl
 simp only[lsz,lss]
 refine tk 8 ?_ (fun _ _=>?_) hXS ?_;rotate_left;· go_simp;try rfl
 simp only[lsz,lss]
 refine wpX_hard (k:=9) (by kernel_rfl) rfl (fun K hK=>?_)
 go_simp
 refine(HWd.out _).mono ?_
 rintro e w2 ⟨rfl,hk2⟩
 have HK2:Hid (KW w w2):=hid (HK1.out.drew.t hk2)
 clear c0 c1 c2 c3 hb hk2 hXS
 obtain⟨hb,c0,c1,c2,c3⟩:=HSl.out w2 HK2.out
 have hXS:=And.intro c0 (And.intro c1 (And.intro c2 c3))
 refine hK _ _ (fun _=>hXS) ?_
 clear hK K
 try simp only[lsz,lss]
 refine wpX_hard (k:=10) (by kernel_rfl) rfl (fun K hK=>?_)
 go_simp
 refine(HGt.out _ HK2.out).mono ?_
 rintro e w3 ⟨rfl,hk3⟩
 have HK3:Hid (KW w w3):=hid (HK2.out.t hk3)
 clear c0 c1 c2 c3 hb hk3 hXS
 obtain⟨hb,c0,c1,c2,c3⟩:=HSl.out w3 HK3.out
 have hXS:=And.intro c0 (And.intro c1 (And.intro c2 c3))
 refine hK _ _ (fun _=>hXS) ?_
 clear hK K
 try simp only[lsz,lss]
 refine tk 11 ?_ (fun _ _=>?_) hXS ?_;rotate_left;· go_simp;try rfl
 simp only[lsz,lss]
 refine tk 12 ?_ (fun _ _=>?_) hXS ?_;rotate_left;· go_simp;try rfl
 simp only[lsz,lss]
 refine tk 13 ?_ (fun _ _=>?_) hXS ?_;rotate_left;· go_simp;try rfl
 simp only[lsz,lss]
 refine tk 14 ?_ (fun _ _=>?_) hXS ?_;rotate_left;· go_simp;try rfl
 simp only[lsz,lss]
 refine tk 15 ?_ (fun _ _=>?_) hXS ?_;rotate_left;· go_simp;try rfl
 simp only[lsz,lss]
 refine wpX_done (by kernel_rfl) ?_
 clear hXS
 go_wp2_with fail
 refine(HWd.out _).mono ?_
 rintro e w4 ⟨rfl,hk4'⟩
 have HK4:Hid (KW w w4):=hid (HK3.out.t hk4')
 clear c0 c1 c2 c3 hb hk4'
 go_wp2_with fail
 clear he
 refine(HF.out _ HK4.out).mono ?_
 intro e w5 hq
 obtain⟨r,rfl⟩:=HQ.out e w5 hq
 have HQ5:=hid hq
 clear hq
 go_wp2_with fail
 exact HQ5.out
theorem ivs_app (l:List Int)(i:Int):ivs (l++[i])=ivs l++[.int .i64 i]:=by simp[ivs]
section
variable {ops : Array Oper} {Q : Exit → Act → World → Prop}
theorem wpList_appZ {rest:List Oper}{o:Oper}{a:Act}(hgd:o.guard=none){s x:Operand}(ho:o.op=.call { callee:=.builtin .append,args:=#[s,x],argTypes:=#[56,56] }){W:World}{base c:Nat}{i:Int}{v:Value}{L:List Int}
 (hs:a.eval s=v) (hx:a.eval x=.slice (some ⟨W.heap.size,0,none⟩) 1 c) (hown:Owns W base 3 v (ivs L)) (hb:base≤W.heap.size) (hl:L.length≤1099511627776)
 (h:∀ v' w',Hid (Owns w' base 3 v' (ivs (L++[i])))→Hid (Keep (fun i=>v.ownBlock=some i) (W.alloc (.cells #[.int .i64 i] 3)) w')→Hid (v'.ownBlock=v.ownBlock∨∃ j,v'.ownBlock=some j∧W.heap.size≤j)→wpList Tryz.prog ops Q rest (a.put o.dst v') w'):wpList Tryz.prog ops Q (o::rest) a (W.alloc (.cells #[.int .i64 i] 3)):=by
 have hO:=hown.alloc (.cells #[.int .i64 i] 3)
 refine wpList_appA hgd sliceInt' ho (W:=W.alloc (.cells #[.int .i64 i] 3)) (base:=base) (k:=1) (n:=L.length) (v:=v) (u:=.slice (some ⟨W.heap.size,0,none⟩) 1 c) (xs:=ivs L) (ys:=[.int .i64 i]) hs hx
  (holds_one W 3 c (.int .i64 i) rfl) (by have h:=hO;unfold Owns at h;rw[ivs_len] at h;exact h) (by simp;omega) (by omega) (by omega) fun v5 w5 hown5 hkeep5 hv5=>h v5 w5 ?_ (hid hkeep5) ?_
 ·rw[ivs_app]
  unfold Owns
  rw[List.length_append,ivs_len]
  exact hid hown5
 ·rcases hv5 with h5|h5
  ·exact .inl h5
  ·exact .inr ⟨_,h5,by simp⟩
end
structure TagsB (Wd:List Int)(f n x:Nat)(tags:List Int):Prop where
 len:tags.length=n
 wd:∀ k,k<n→Wd.getD (f+k * (x+1)) 0=tags.getD k 0+1
 lo:∀ k,k<n→-1≤tags.getD k 0∧tags.getD k 0≤65535
theorem tags_any (bs f n x ba bw L given:Nat)(Wd tags:List Int)(w:World)(hS:SlM w bs f n x ba)(hA:ArM w ba bw L Wd given)(hB:SlB f n x given)(hT:TagsB Wd f n x tags):
 Calls Tryz.prog 152 #[.pointer (some ⟨bs,0,none⟩)] w fun e w'=>∃ v,e=.returned v∧Owns w' w.heap.size 3 v (ivs tags)∧KW w w':=by
 have hn4:n≤1048576:=by
  have h1:=hB.fit
  have h2:=hB.g
  have h3:n * 1≤n * (x+1):=Nat.mul_le_mul_left n (by omega)
  omega
 have HWd:=hid (fun k (hk:k<n) W=>pword_any f n k x W (by have:=hB.fit;have:=hB.g;omega) (hB.k4 hk) hB.x64 (by have:=hB.at_ hk;have:=hB.g;omega))
 have HGt:=hid (fun k (hk:k<n) W (hW:KW w W)=>get_any ba bw L given Wd (f+k * (x+1)) W (hA.kw hW) (by have:=hB.at_ hk;omega))
 have HTw:=hid hT.wd
 have HTl:=hid hT.lo
 have HTn:=hid hT.len
 have HSl:=hid (fun W (hW:KW w W)=>(hS.kw hW).cells)
 obtain⟨hb,c0,c1,c2,c3⟩:=hS.cells
 have HTake:Hid (tags.take n=tags):=hid (List.take_of_length_le (by rw[hT.len];exact Nat.le_refl _))
 clear hS hA hB hT
 unfold plv at *
 go_enter Tryz.func152,Tryz.ntmps152
 go_wp2_with fail
 clear c0 c1 c2 c3 hb
 go_loopw [3,14] (fun v i wr=>∃ k:Nat,k≤n∧i=.int .i64 k∧Hid (Owns wr w.heap.size 3 v (ivs (tags.take k)))∧Hid (KW w wr)) (fun _ i _=>n - (intOf i).toNat)
 case atStart=>exact⟨0,by omega,rfl,Owns.nil _ _ _,KW.refl w⟩
 case round=>
  obtain⟨k,hk,rfl,HO,HK⟩:=hrel
  obtain⟨Ao,co,hvo,_⟩:=HO.out.row
  have hpl:(tags.take k).length=k:=by rw[List.length_take,HTn.out];omega
  rw[ivs_len,hpl] at hvo
  subst hvo
  have HPl:=hid hpl
  clear hpl
  by_cases hlt:k<n
  ·have L1:(k:Int)<(n:Int):=by omega
   obtain⟨hb,c0,c1,c2,c3⟩:=HSl.out wr HK.out
   have HW1:=hid (HWd.out k hlt)
   have HG1:=hid (HGt.out k hlt)
   rw[HTw.out k hlt] at HG1
   have htl:=HTl.out k hlt
   have HTs:Hid (tags.take (k+1)=tags.take k++[tags.getD k 0]):=hid (by
    have h1:k<tags.length:=by rw[HTn.out];exact hlt
    rw[List.take_succ_eq_append_getElem h1]
    simp[List.getD,h1])
   generalize tags.getD k 0=tg at *
   generalize f+k * (x+1)=p at *
   have hwr:IntKind.i64.wrap (tg+1)=tg+1:=IntWalk.i64_in _ (by omega)
   have hsub:tg+1 - 1=tg:=by omega
   go_wp2_with fail
   have hXS:=And.intro c0 (And.intro c1 (And.intro c2 c3))
   refine wpX_region (S:=fun w'=>w'.cell? ⟨bs,0,none⟩=some (.int .i64 (f:Int))∧w'.cell? ⟨bs,1,none⟩=some (.int .i64 (n:Int))∧w'.cell? ⟨bs,2,none⟩=some (.int .i64 (x:Int))∧w'.cell? ⟨bs,3,none⟩=some (.pointer (some ⟨ba,0,none⟩))) (L:=99) (by kernel_rfl) ?_
   refine tk 0 ?_ (fun _ _=>?_) hXS ?_;rotate_left;· go_simp;try rfl
   simp only[lsz,lss]
   refine tk 1 ?_ (fun _ _=>?_) hXS ?_;rotate_left;· go_simp;try rfl
   simp only[lsz,lss]
   refine tk 2 ?_ (fun _ _=>?_) hXS ?_;rotate_left;· go_simp;try rfl
   simp only[lsz,lss]
   refine tk 3 ?_ (fun _ _=>?_) hXS ?_;rotate_left;· go_simp;try rfl
   simp only[lsz,lss]
   refine tk 4 ?_ (fun _ _=>?_) hXS ?_;rotate_left;· go_simp;try rfl
   simp only[lsz,lss]
   refine tk 5 ?_ (fun _ _=>?_) hXS ?_;rotate_left;· go_simp;try rfl
   simp only[lsz,lss]
   refine tk 6 ?_ (fun _ _=>?_) hXS ?_;rotate_left;· go_simp;try rfl
   simp only[lsz,lss]
   refine tk 7 ?_ (fun _ _=>?_) hXS ?_;rotate_left;· go_simp;try rfl
   simp only[lsz,lss]
   refine tk 8 ?_ (fun _ _=>?_) hXS ?_;rotate_left;· go_simp;try rfl
   simp only[lsz,lss]
   refine wpX_hard (k:=9) (by kernel_rfl) rfl (fun K hK=>?_)
   go_simp
   refine(HW1.out _).mono ?_
   rintro e w2 ⟨rfl,hk2⟩
   have HK2:Hid (KW w w2):=hid (HK.out.drew.t hk2)
   have HO2:Hid (Owns w2 w.heap.size 3 (.slice Ao k co) (ivs (tags.take k))):=hid (HO.out.drew.on hk2)
   clear c0 c1 c2 c3 hb hk2 hXS
   obtain⟨hb,c0,c1,c2,c3⟩:=HSl.out w2 HK2.out
   have hXS:=And.intro c0 (And.intro c1 (And.intro c2 c3))
   refine hK _ _ (fun _=>hXS) ?_
   clear hK K
   try simp only[lsz,lss]
   refine wpX_hard (k:=10) (by kernel_rfl) rfl (fun K hK=>?_)
   go_simp
   refine(HG1.out _ HK2.out).mono ?_
   rintro e w3 ⟨rfl,hk3⟩
   have HK3:Hid (KW w w3):=hid (HK2.out.t hk3)
   have HO3:=hid (HO2.out.on hk3)
   clear c0 c1 c2 c3 hb hk3 hXS
   obtain⟨hb,c0,c1,c2,c3⟩:=HSl.out w3 HK3.out
   have hXS:=And.intro c0 (And.intro c1 (And.intro c2 c3))
   refine hK _ _ (fun _=>hXS) ?_
   clear hK K
   try simp only[lsz,lss]
   refine tk 11 ?_ (fun _ _=>?_) hXS ?_;rotate_left;· go_simp;try rfl
   simp only[lsz,lss]
   refine tk 12 ?_ (fun _ _=>?_) hXS ?_;rotate_left;· go_simp;try rfl
   simp only[lsz,lss]
   refine tk 13 ?_ (fun _ _=>?_) hXS ?_;rotate_left;· go_simp;try rfl
   simp only[lsz,lss]
   refine tk 14 ?_ (fun _ _=>?_) hXS ?_;rotate_left;· go_simp;try rfl
   simp only[lsz,lss]
   refine tk 15 ?_ (fun _ _=>?_) hXS ?_;rotate_left;· go_simp;try rfl
   simp only[lsz,lss]
   refine wpX_done (by kernel_rfl) ?_
   clear hXS c0 c1 c2 c3 hb
   go_wp2_with (at_builtin;refine wpList_appZ rfl rfl (base:=w.heap.size) (i:=tg) (L:=tags.take k) (c:=1) (v:=.slice Ao k co) rfl rfl HO3.out (Below.size HK3.out) (by rw[HPl.out];omega) ?_;intro v7 w7 HO7 HK7 HV7)
   have HK8:Hid (KW w w7):=hid ((HK3.out.alloc _).kept HK7.out fun i hi=>(HO3.out.lt hi).1)
   rw[← HTs.out] at HO7
   go_roundw
   case rel=>exact⟨k+1,by omega,by go_num,HO7,HK8⟩
   case measure=>simp[intOf];omega
  ·obtain rfl:k=n:=by omega
   rw[HTake.out] at HO
   clear hlt
   go_wp2_with fail
   go_ret
   exact⟨_,rfl,HO.out,HK.out⟩
end Go.Proofs.YtphppbonljdibaaGreat
