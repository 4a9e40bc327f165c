import Derived.Test.YtphppbonljdibaaGreatTB37
import Derived.RegionTactic
import Derived.Test.YtphppbonljdibaaGreatTB36
set_option maxRecDepth 100000
set_option maxHeartbeats 4000000
set_option linter.unusedVariables false
set_option linter.unusedSimpArgs false
namespace Go.Proofs.YtphppbonljdibaaGreat
open Go.ChangeShapes Go.WideShapes Go.ChangeAt Go.RowKit
theorem rvnothing_any (w:World):Calls Tryz.prog 176 #[] w (AnsP w none):=by
 go_enter Tryz.func176,Tryz.ntmps176
 go_wp2_with fail
 exact bodyPost_ret (results_cell_tmp rfl _ _ _ _ _ (0,0) _ rfl (heap_alloc_new w _) Tryz.underlying55 rfl (by kernel_rfl)) rfl ⟨rfl,(KW.refl w).alloc _⟩
theorem rvact_any (k n:Int)(w:World):Calls Tryz.prog 211 #[.int .i64 k,.int .i64 n] w fun e w'=>
 e=.returned (.func (.func 242) #[] #[.pointer (some ⟨w.heap.size,0,none⟩),.pointer (some ⟨w.heap.size+1,0,none⟩)])∧w'=(w.alloc (.cells #[.int .i64 k] 3)).alloc (.cells #[.int .i64 n] 3):=by
 go_enter Tryz.func211,Tryz.ntmps211
 go_wp2_with fail
 go_ret
 exact⟨rfl,rfl⟩
theorem rvact1_any (k n:Int)(b1 b2:Nat)(w:World)(h1:w.cell? ⟨b1,0,none⟩=some (.int .i64 k))(h2:w.cell? ⟨b2,0,none⟩=some (.int .i64 n)):
 Calls Tryz.prog 242 #[.pointer (some ⟨b1,0,none⟩),.pointer (some ⟨b2,0,none⟩)] w (AnsP w (some (k,n))):=by
 have hb1:=World.block_lt_of_cell? _ _ h1
 have hb2:=World.block_lt_of_cell? _ _ h2
 go_enter Tryz.func242,Tryz.ntmps242
 go_wp2_with fail
 exact bodyPost_ret (results_cell_tmp rfl _ _ _ _ _ (0,0) _ rfl (heap_alloc_new w _) Tryz.underlying55 rfl (by kernel_rfl)) rfl ⟨rfl,(KW.refl w).alloc _⟩
theorem seeded_any (a p:Int)(A:Option Addr)(n k:Nat)(e B s f c:Int)(w:World):Calls Tryz.prog 210 #[.agg (vw a p (.slice A n k) e B s f c)] w fun x w'=>x=.returned (.bool (decide (0≤p)))∧KW w w':=by
 unfold vw
 go_enter Tryz.func210,Tryz.ntmps210
 go_wp2_with fail
 go_ret
 exact⟨rfl,(KW.refl w).alloc _⟩
theorem turn_any (a p:Int)(A:Option Addr)(n k:Nat)(e B s f c:Int)(w:World):Calls Tryz.prog 215 #[.agg (vw a p (.slice A n k) e B s f c)] w (AnsP w (some (if 0≤p then 7 else 6,0))):=by
 have HS:=hid (fun W=>seeded_any a p A n k e B s f c W)
 unfold vw at *
 have hk:=((KW.refl w).alloc (.cells #[.int .i64 a,.int .i64 p,.slice A n k,.int .i64 e,.int .i64 B,.int .i64 s,.int .i64 f,.int .i64 c] 228)).alloc (.cells #[.int .i64 0,.int .i64 0] 55)
 have hF:((w.alloc (.cells #[.int .i64 a,.int .i64 p,.slice A n k,.int .i64 e,.int .i64 B,.int .i64 s,.int .i64 f,.int .i64 c] 228)).alloc (.cells #[.int .i64 0,.int .i64 0] 55)).rowIs (w.heap.size+1) 55 2 (actF 0 0):=by
  have h:=World.rowIs_alloc (w.alloc (.cells #[.int .i64 a,.int .i64 p,.slice A n k,.int .i64 e,.int .i64 B,.int .i64 s,.int .i64 f,.int .i64 c] 228)) #[.int .i64 0,.int .i64 0] 55 (actF 0 0) fun i hi=>by
   rcases(show i=0∨i=1 by simp at hi;omega) with rfl|rfl<;>rfl
  simpa using h
 have HK:=hid hk
 have HF:=hid hF
 clear hk hF
 by_cases hp:0≤p
 ·rw[if_pos hp]
  go_enter Tryz.func215,Tryz.ntmps215
  go_wp2_with fail
  refine(HS.out _).mono ?_
  rintro x w1 ⟨rfl,hk1⟩
  have HF1:=hid (KW.row hk1 HF.out.lt HF.out)
  have HK1:=hid (HK.out.t hk1)
  clear hk1
  go_wp2_with (refine store_act rfl rfl rfl rfl HF1.out ?_;intro W2 hb2 hkeep)
  exact bodyPost_ret (results_cell_tmp rfl _ _ _ _ _ (0,0) _ rfl hb2 Tryz.underlying55 rfl (by kernel_rfl)) rfl ⟨rfl,HK1.out.kept hkeep fun i hi=>by omega⟩
 ·rw[if_neg hp]
  have d:decide (0≤p)=false:=decide_eq_false hp
  clear hp
  go_enter Tryz.func215,Tryz.ntmps215
  go_wp2_with fail
  refine(HS.out _).mono ?_
  rintro x w1 ⟨rfl,hk1⟩
  have HF1:=hid (KW.row hk1 HF.out.lt HF.out)
  have HK1:=hid (HK.out.t hk1)
  clear hk1
  go_wp2_with (refine store_act rfl rfl rfl rfl HF1.out ?_;intro W2 hb2 hkeep)
  exact bodyPost_ret (results_cell_tmp rfl _ _ _ _ _ (0,0) _ rfl hb2 Tryz.underlying55 rfl (by kernel_rfl)) rfl ⟨rfl,HK1.out.kept hkeep fun i hi=>by omega⟩
theorem first_any (a p:Int)(A:Option Addr)(n k:Nat)(e B s f c:Int)(w:World):Calls Tryz.prog 217 #[.agg (vw a p (.slice A n k) e B s f c)] w (AnsP w (if a<e then some (2,0) else none)):=by
 unfold vw at *
 have hk:=((KW.refl w).alloc (.cells #[.int .i64 a,.int .i64 p,.slice A n k,.int .i64 e,.int .i64 B,.int .i64 s,.int .i64 f,.int .i64 c] 228)).alloc (.cells #[.int .i64 0,.int .i64 0] 55)
 have hF:((w.alloc (.cells #[.int .i64 a,.int .i64 p,.slice A n k,.int .i64 e,.int .i64 B,.int .i64 s,.int .i64 f,.int .i64 c] 228)).alloc (.cells #[.int .i64 0,.int .i64 0] 55)).rowIs (w.heap.size+1) 55 2 (actF 0 0):=by
  have h:=World.rowIs_alloc (w.alloc (.cells #[.int .i64 a,.int .i64 p,.slice A n k,.int .i64 e,.int .i64 B,.int .i64 s,.int .i64 f,.int .i64 c] 228)) #[.int .i64 0,.int .i64 0] 55 (actF 0 0) fun i hi=>by
   rcases(show i=0∨i=1 by simp at hi;omega) with rfl|rfl<;>rfl
  simpa using h
 have HK:=hid hk
 have HF:=hid hF
 clear hk hF
 by_cases hp:a<e
 ·rw[if_pos hp]
  have d:decide (e≤a)=false:=decide_eq_false (by omega)
  clear hp
  go_enter Tryz.func217,Tryz.ntmps217
  go_wp2_with (refine store_act rfl rfl rfl rfl HF.out ?_;intro W2 hb2 hkeep)
  exact bodyPost_ret (results_cell_tmp rfl _ _ _ _ _ (0,0) _ rfl hb2 Tryz.underlying55 rfl (by kernel_rfl)) rfl ⟨rfl,HK.out.kept hkeep fun i hi=>by omega⟩
 ·rw[if_neg hp]
  have d:e≤a:=by omega
  clear hp
  go_enter Tryz.func217,Tryz.ntmps217
  go_wp2_with fail
  refine(rvnothing_any _).mono ?_
  rintro x w1 ⟨rfl,hk1⟩
  have HF1:=hid (KW.row hk1 HF.out.lt HF.out)
  have HK1:=hid (HK.out.t hk1)
  clear hk1
  go_wp2_with (refine store_act rfl rfl rfl rfl HF1.out ?_;intro W2 hb2 hkeep)
  exact bodyPost_ret (results_cell_tmp rfl _ _ _ _ _ (0,0) _ rfl hb2 Tryz.underlying55 rfl (by kernel_rfl)) rfl ⟨rfl,HK1.out.kept hkeep fun i hi=>by omega⟩
theorem vsplit_any (a p:Int)(A:Option Addr)(n k:Nat)(e B s c:Int)(N f:Nat)(w:World)(hN:e - B=(N:Int))(h2:2≤N)(h3:N≤65535)(he0:0≤e)(he1:e≤65535)(hf:f<1048576):
 Calls Tryz.prog 222 #[.agg (vw a p (.slice A n k) e B s f c)] w (AnsP w (some (1,Ch.sp N (f+1)))):=by
 have HS:=hid (fun W=>split_yes N (f+1) W h2 h3 (by omega) (by omega))
 generalize Ch.sp N (f+1)=m at *
 have e1:(((f+1:Nat)):Int)=(f:Int)+1:=by omega
 rw[e1] at HS
 rw[← hN] at HS
 have hB:-65536≤B∧B≤65535:=by omega
 have hf2:(f:Int)<1048576:=by omega
 unfold vw at *
 have hk:=((KW.refl w).alloc (.cells #[.int .i64 a,.int .i64 p,.slice A n k,.int .i64 e,.int .i64 B,.int .i64 s,.int .i64 f,.int .i64 c] 228)).alloc (.cells #[.int .i64 0,.int .i64 0] 55)
 have hF:((w.alloc (.cells #[.int .i64 a,.int .i64 p,.slice A n k,.int .i64 e,.int .i64 B,.int .i64 s,.int .i64 f,.int .i64 c] 228)).alloc (.cells #[.int .i64 0,.int .i64 0] 55)).rowIs (w.heap.size+1) 55 2 (actF 0 0):=by
  have h:=World.rowIs_alloc (w.alloc (.cells #[.int .i64 a,.int .i64 p,.slice A n k,.int .i64 e,.int .i64 B,.int .i64 s,.int .i64 f,.int .i64 c] 228)) #[.int .i64 0,.int .i64 0] 55 (actF 0 0) fun i hi=>by
   rcases(show i=0∨i=1 by simp at hi;omega) with rfl|rfl<;>rfl
  simpa using h
 have HK:=hid hk
 have HF:=hid hF
 clear hk hF hN
 go_enter Tryz.func222,Tryz.ntmps222
 go_wp2_with fail
 refine(HS.out _).mono ?_
 rintro x w1 ⟨rfl,hk1⟩
 have HF1:=hid (KW.row hk1 HF.out.lt HF.out)
 have HK1:=hid (HK.out.t hk1)
 clear hk1
 go_wp2_with (refine store_act rfl rfl rfl rfl HF1.out ?_;intro W2 hb2 hkeep)
 exact bodyPost_ret (results_cell_tmp rfl _ _ _ _ _ (0,0) _ rfl hb2 Tryz.underlying55 rfl (by kernel_rfl)) rfl ⟨rfl,HK1.out.kept hkeep fun i hi=>by omega⟩
section
variable (a p : Int) (A : Option Addr) (n k : Nat) (e B s f c : Int) (b b2 : Nat) (w : World)
theorem rule1_any (h:w.heap[b]?=some (.cells (vw a p (.slice A n k) e B s f c) 228 (0,0))):
 Calls Tryz.prog 209 #[.pointer (some ⟨b,0,none⟩)] w fun x w'=>x=.returned (.bool (decide (0≤p)&&decide (e≤B)))∧KW w w':=by
 have HS:=hid (fun W=>seeded_any a p A n k e B s f c W)
 have HB:=hid h
 have hlt:=blk_lt h
 clear h
 by_cases hp:0≤p
 ·rw[decide_eq_true hp,Bool.true_and]
  rw[decide_eq_true hp] at HS
  go_enter Tryz.func209,Tryz.ntmps209
  go_wp2_with (refine wpList_load_row rfl 228 _ rfl b rfl 228 _ (0,0) _ HB.out Tryz.underlying228 rfl (by kernel_rfl) ?_)
  refine(HS.out _).mono ?_
  rintro x w1 ⟨rfl,hk1⟩
  have HB1:=KW.blk hk1 hlt HB.out
  have c3:w1.cell? ⟨b,3,none⟩=some (.int .i64 e):=by rw[cell_of_row _ _ _ _ _ _ HB1];rfl
  have c4:w1.cell? ⟨b,4,none⟩=some (.int .i64 B):=by rw[cell_of_row _ _ _ _ _ _ HB1];rfl
  clear HB1
  go_wp2_with fail
  all_goals
   go_ret
   exact⟨ret_bool (by first|rfl|simp_all|(simp;omega)),hk1⟩
 ·rw[decide_eq_false hp,Bool.false_and]
  rw[decide_eq_false hp] at HS
  go_enter Tryz.func209,Tryz.ntmps209
  go_wp2_with (refine wpList_load_row rfl 228 _ rfl b rfl 228 _ (0,0) _ HB.out Tryz.underlying228 rfl (by kernel_rfl) ?_)
  refine(HS.out _).mono ?_
  rintro x w1 ⟨rfl,hk1⟩
  go_wp2_with fail
  go_ret
  exact⟨rfl,hk1⟩
theorem rule2_any (h:w.heap[b]?=some (.cells (vw a p (.slice A n k) e B s f c) 228 (0,0))):
 Calls Tryz.prog 212 #[.pointer (some ⟨b,0,none⟩)] w fun x w'=>x=.returned (.bool (decide (p=0)))∧KW w w':=by
 have c1:w.cell? ⟨b,1,none⟩=some (.int .i64 p):=by rw[cell_of_row _ _ _ _ _ _ h];rfl
 clear h
 go_enter Tryz.func212,Tryz.ntmps212
 go_wp2_with fail
 go_ret
 exact⟨ret_bool (by rw[Bool.eq_iff_iff];simp),KW.refl w⟩
theorem rule3_any (l:Int)(h:w.heap[b]?=some (.cells (vw a p (.slice A n k) e B s f c) 228 (0,0)))(hl:w.cell? ⟨b2,0,none⟩=some (.int .i64 l)):
 Calls Tryz.prog 213 #[.pointer (some ⟨b,0,none⟩),.pointer (some ⟨b2,0,none⟩)] w fun x w'=>x=.returned (.bool (decide (p<0)&&decide (a=l)))∧KW w w':=by
 have HS:=hid (fun W=>seeded_any a p A n k e B s f c W)
 have HB:=hid h
 have hlt:=blk_lt h
 have HL:=hid hl
 have hlt2:=World.block_lt_of_cell? _ _ hl
 clear h hl
 by_cases hp:p<0
 ·rw[decide_eq_true hp,Bool.true_and]
  rw[decide_eq_false (show ¬ 0≤p by omega)] at HS
  go_enter Tryz.func213,Tryz.ntmps213
  go_wp2_with (refine wpList_load_row rfl 228 _ rfl b rfl 228 _ (0,0) _ HB.out Tryz.underlying228 rfl (by kernel_rfl) ?_)
  refine(HS.out _).mono ?_
  rintro x w1 ⟨rfl,hk1⟩
  have HB1:=KW.blk hk1 hlt HB.out
  have c0:w1.cell? ⟨b,0,none⟩=some (.int .i64 a):=by rw[cell_of_row _ _ _ _ _ _ HB1];rfl
  have cl:=KW.cell hk1 hlt2 HL.out
  clear HB1
  go_wp2_with fail
  all_goals
   go_ret
   exact⟨ret_bool (by first|rfl|(rw[Bool.eq_iff_iff];simp)),hk1⟩
 ·rw[decide_eq_false hp,Bool.false_and]
  rw[decide_eq_true (show 0≤p by omega)] at HS
  go_enter Tryz.func213,Tryz.ntmps213
  go_wp2_with (refine wpList_load_row rfl 228 _ rfl b rfl 228 _ (0,0) _ HB.out Tryz.underlying228 rfl (by kernel_rfl) ?_)
  refine(HS.out _).mono ?_
  rintro x w1 ⟨rfl,hk1⟩
  go_wp2_with fail
  go_ret
  exact⟨rfl,hk1⟩
theorem rule4_any (he0:0≤e)(he1:e≤65535)(h:w.heap[b]?=some (.cells (vw a p (.slice A n k) e B s f c) 228 (0,0))):
 Calls Tryz.prog 214 #[.pointer (some ⟨b,0,none⟩)] w fun x w'=>x=.returned (.bool (decide (a=e - 1)))∧KW w w':=by
 have c0:w.cell? ⟨b,0,none⟩=some (.int .i64 a):=by rw[cell_of_row _ _ _ _ _ _ h];rfl
 have c3:w.cell? ⟨b,3,none⟩=some (.int .i64 e):=by rw[cell_of_row _ _ _ _ _ _ h];rfl
 clear h
 go_enter Tryz.func214,Tryz.ntmps214
 go_wp2_with fail
 go_ret
 exact⟨ret_bool (by rw[Bool.eq_iff_iff];simp),KW.refl w⟩
theorem rule5_any (h:w.heap[b]?=some (.cells (vw a p (.slice A n k) e B s f c) 228 (0,0))):
 Calls Tryz.prog 216 #[.pointer (some ⟨b,0,none⟩)] w fun x w'=>x=.returned (.bool (decide (B<0)))∧KW w w':=by
 have c4:w.cell? ⟨b,4,none⟩=some (.int .i64 B):=by rw[cell_of_row _ _ _ _ _ _ h];rfl
 clear h
 go_enter Tryz.func216,Tryz.ntmps216
 go_wp2_with fail
 go_ret
 exact⟨rfl,KW.refl w⟩
theorem rule6_any (h:w.heap[b]?=some (.cells (vw a p (.slice A n k) e B s f c) 228 (0,0))):
 Calls Tryz.prog 218 #[.pointer (some ⟨b,0,none⟩)] w fun x w'=>x=.returned (.bool (decide (a<B) || decide (e≤a)))∧KW w w':=by
 have c0:w.cell? ⟨b,0,none⟩=some (.int .i64 a):=by rw[cell_of_row _ _ _ _ _ _ h];rfl
 have c3:w.cell? ⟨b,3,none⟩=some (.int .i64 e):=by rw[cell_of_row _ _ _ _ _ _ h];rfl
 have c4:w.cell? ⟨b,4,none⟩=some (.int .i64 B):=by rw[cell_of_row _ _ _ _ _ _ h];rfl
 clear h
 by_cases h:a<B
 ·rw[decide_eq_true h,Bool.true_or]
  go_enter Tryz.func218,Tryz.ntmps218
  go_wp2_with fail
  go_ret
  exact⟨rfl,KW.refl w⟩
 ·have d:=decide_eq_false h
  rw[d,Bool.false_or]
  clear h
  go_enter Tryz.func218,Tryz.ntmps218
  go_wp2_with fail
  go_ret
  exact⟨rfl,KW.refl w⟩
theorem rule7_any (h:w.heap[b]?=some (.cells (vw a p (.slice A n k) e B s f c) 228 (0,0))):
 Calls Tryz.prog 219 #[.pointer (some ⟨b,0,none⟩)] w fun x w'=>x=.returned (.bool (decide (B<a)&&decide (0<f)))∧KW w w':=by
 have c0:w.cell? ⟨b,0,none⟩=some (.int .i64 a):=by rw[cell_of_row _ _ _ _ _ _ h];rfl
 have c6:w.cell? ⟨b,6,none⟩=some (.int .i64 f):=by rw[cell_of_row _ _ _ _ _ _ h];rfl
 have c4:w.cell? ⟨b,4,none⟩=some (.int .i64 B):=by rw[cell_of_row _ _ _ _ _ _ h];rfl
 clear h
 by_cases h:B<a
 ·rw[decide_eq_true h,Bool.true_and]
  go_enter Tryz.func219,Tryz.ntmps219
  go_wp2_with fail
  go_ret
  exact⟨rfl,KW.refl w⟩
 ·have d:=decide_eq_false h
  rw[d,Bool.false_and]
  clear h
  go_enter Tryz.func219,Tryz.ntmps219
  go_wp2_with fail
  go_ret
  exact⟨rfl,KW.refl w⟩
theorem rule8_any (h:w.heap[b]?=some (.cells (vw a p (.slice A n k) e B s f c) 228 (0,0))):
 Calls Tryz.prog 220 #[.pointer (some ⟨b,0,none⟩)] w fun x w'=>x=.returned (.bool (decide (B<a)))∧KW w w':=by
 have c0:w.cell? ⟨b,0,none⟩=some (.int .i64 a):=by rw[cell_of_row _ _ _ _ _ _ h];rfl
 have c4:w.cell? ⟨b,4,none⟩=some (.int .i64 B):=by rw[cell_of_row _ _ _ _ _ _ h];rfl
 clear h
 go_enter Tryz.func220,Tryz.ntmps220
 go_wp2_with fail
 go_ret
 exact⟨rfl,KW.refl w⟩
theorem always_any:Calls Tryz.prog 221 #[] w fun x w'=>x=.returned (.bool true)∧KW w w':=by
 go_enter Tryz.func221,Tryz.ntmps221
 go_wp2_with fail
 go_ret
 exact⟨rfl,KW.refl w⟩
end
def RvS (a p:Int)(v:Value)(e B s f c:Int)(b:Nat)(W:World):Prop:=
 W.cell? ⟨b,0,none⟩=some (.int .i64 a)∧W.cell? ⟨b,1,none⟩=some (.int .i64 p)∧W.cell? ⟨b,2,none⟩=some v∧W.cell? ⟨b,3,none⟩=some (.int .i64 e)∧W.cell? ⟨b,4,none⟩=some (.int .i64 B)∧W.cell? ⟨b,5,none⟩=some (.int .i64 s)∧W.cell? ⟨b,6,none⟩=some (.int .i64 f)∧W.cell? ⟨b,7,none⟩=some (.int .i64 c)
theorem RvS.of {a p:Int}{v:Value}{e B s f c:Int}{b:Nat}{W:World}(h:W.heap[b]?=some (.cells (vw a p v e B s f c) 228 (0,0))):RvS a p v e B s f c b W:=by
 refine⟨?_,?_,?_,?_,?_,?_,?_,?_⟩<;>(rw[cell_of_row _ _ _ _ _ _ h];rfl)
theorem rvact_k (k n:Int)(w:World):Calls Tryz.prog 211 #[.int .i64 k,.int .i64 n] w fun e w'=>
 ∃ x y,e=.returned (.func (.func 242) #[] #[.pointer (some ⟨x,0,none⟩),.pointer (some ⟨y,0,none⟩)])∧w'.cell? ⟨x,0,none⟩=some (.int .i64 k)∧w'.cell? ⟨y,0,none⟩=some (.int .i64 n)∧KW w w':=by
 refine(rvact_any k n w).mono ?_
 rintro e w1 ⟨rfl,rfl⟩
 refine⟨_,_,rfl,?_,?_,((KW.refl w).alloc _).alloc _⟩
 ·rw[World.cell?_alloc_lt _ _ _ (by simp),cell_of_row _ _ _ _ _ _ (heap_alloc_new w _)];rfl
 ·have h:=heap_alloc_new (w.alloc (.cells #[.int .i64 k] 3)) (.cells #[.int .i64 n] 3)
  have e1:(w.alloc (.cells #[.int .i64 k] 3)).heap.size=w.heap.size+1:=by simp
  rw[e1] at h
  rw[cell_of_row _ _ _ _ _ _ h];rfl
def RvA (w:World)(x y:Nat)(k n:Int):Prop:=w.cell? ⟨x,0,none⟩=some (.int .i64 k)∧w.cell? ⟨y,0,none⟩=some (.int .i64 n)
theorem RvA.kw {w W:World}{x y:Nat}{k n:Int}(h:RvA w x y k n)(hk:KW w W):RvA W x y k n:=⟨KW.cell hk (World.block_lt_of_cell? _ _ h.1) h.1,KW.cell hk (World.block_lt_of_cell? _ _ h.2) h.2⟩
def rvf (F:FuncId)(xs cs:Array Value):Value:=.func (.func F) xs cs
def rvp (b:Nat):Value:=.pointer (some ⟨b,0,none⟩)
def rvR (V:Value)(vb lb x1 y1 x2 y2 x3 y3 x4 y4 x5 y5:Nat):Array Value:=
 #[rvf 209 #[] #[rvp vb],rvf 242 #[] #[rvp x1,rvp y1],
  rvf 212 #[] #[rvp vb],rvf 176 #[] #[],
  rvf 213 #[] #[rvp vb,rvp lb],rvf 242 #[] #[rvp x2,rvp y2],
  rvf 214 #[] #[rvp vb],rvf 215 #[V] #[],
  rvf 216 #[] #[rvp vb],rvf 217 #[V] #[],
  rvf 218 #[] #[rvp vb],rvf 242 #[] #[rvp x3,rvp y3],
  rvf 219 #[] #[rvp vb],rvf 242 #[] #[rvp x4,rvp y4],
  rvf 220 #[] #[rvp vb],rvf 242 #[] #[rvp x5,rvp y5],
  rvf 221 #[] #[],rvf 222 #[V] #[]]
def RulesP (a p:Int)(v:Value)(e B s f c l:Int)(w:World)(x:Ending)(w':World):Prop:=
 ∃ rb vb lb x1 y1 x2 y2 x3 y3 x4 y4 x5 y5,x=.returned (.slice (some ⟨rb,0,none⟩) 9 9)∧w'.heap[rb]?=some (.cells (rvR (.agg (vw a p v e B s f c)) vb lb x1 y1 x2 y2 x3 y3 x4 y4 x5 y5) 232 (0,0)) ∧
  w'.heap[vb]?=some (.cells (vw a p v e B s f c) 228 (0,0))∧w'.cell? ⟨lb,0,none⟩=some (.int .i64 l) ∧
  RvA w' x1 y1 4 s∧RvA w' x2 y2 5 0∧RvA w' x3 y3 3 s∧RvA w' x4 y4 2 c∧RvA w' x5 y5 1 (e - 1 - a)∧KW w w'
theorem rules_any (a p:Int)(A:Option Addr)(n k:Nat)(e B s f c l:Int)(w:World)(he0:0≤e)(he1:e≤65535)(ha0:0≤a)(ha1:a≤65535):
 Calls Tryz.prog 178 #[.agg (vw a p (.slice A n k) e B s f c),.int .i64 l] w (RulesP a p (.slice A n k) e B s f c l w):=by
 have e1:IntKind.i64.wrap (e - 1)=e - 1:=IntWalk.i64_in _ (by omega)
 have e2:IntKind.i64.wrap (e - 1 - a)=e - 1 - a:=IntWalk.i64_in _ (by omega)
 have HZ:=hid (⟨e1,e2⟩:IntKind.i64.wrap (e - 1)=e - 1∧IntKind.i64.wrap (e - 1 - a)=e - 1 - a)
 clear e1 e2
 have hW0:=((KW.refl (w.alloc (.cells #[.int .i64 a,.int .i64 p,.slice A n k,.int .i64 e,.int .i64 B,.int .i64 s,.int .i64 f,.int .i64 c] 228))).alloc (.cells #[.int .i64 l] 3))
 have hV:((w.alloc (.cells #[.int .i64 a,.int .i64 p,.slice A n k,.int .i64 e,.int .i64 B,.int .i64 s,.int .i64 f,.int .i64 c] 228)).alloc (.cells #[.int .i64 l] 3)).heap[w.heap.size]?=some (.cells (vw a p (.slice A n k) e B s f c) 228 (0,0)):=KW.blk hW0 (by simp) (heap_alloc_new w _)
 have HV:=hid hV
 unfold vw
 have hz:w.heap.size<((w.alloc (.cells #[.int .i64 a,.int .i64 p,.slice A n k,.int .i64 e,.int .i64 B,.int .i64 s,.int .i64 f,.int .i64 c] 228)).alloc (.cells #[.int .i64 l] 3)).heap.size:=blk_lt hV
 have hS:=hid (fun W (h:KW ((w.alloc (.cells #[.int .i64 a,.int .i64 p,.slice A n k,.int .i64 e,.int .i64 B,.int .i64 s,.int .i64 f,.int .i64 c] 228)).alloc (.cells #[.int .i64 l] 3)) W)=>RvS.of (KW.blk h hz HV.out))
 have HWW:Hid (KW w ((w.alloc (.cells #[.int .i64 a,.int .i64 p,.slice A n k,.int .i64 e,.int .i64 B,.int .i64 s,.int .i64 f,.int .i64 c] 228)).alloc (.cells #[.int .i64 l] 3))):=((KW.refl w).alloc _).alloc _
 have HL:Hid (((w.alloc (.cells #[.int .i64 a,.int .i64 p,.slice A n k,.int .i64 e,.int .i64 B,.int .i64 s,.int .i64 f,.int .i64 c] 228)).alloc (.cells #[.int .i64 l] 3)).cell? ⟨w.heap.size+1,0,none⟩=some (.int .i64 l)):=by
  have h:=heap_alloc_new (w.alloc (.cells #[.int .i64 a,.int .i64 p,.slice A n k,.int .i64 e,.int .i64 B,.int .i64 s,.int .i64 f,.int .i64 c] 228)) (.cells #[.int .i64 l] 3)
  have e1:(w.alloc (.cells #[.int .i64 a,.int .i64 p,.slice A n k,.int .i64 e,.int .i64 B,.int .i64 s,.int .i64 f,.int .i64 c] 228)).heap.size=w.heap.size+1:=by simp
  rw[e1] at h
  rw[cell_of_row _ _ _ _ _ _ h];exact hid rfl
 clear hV hW0 hz
 unfold RvS at hS
 go_enter Tryz.func178,Tryz.ntmps178
 go_wp2_with fail
 generalize hW:((w.alloc (.cells #[.int .i64 a,.int .i64 p,.slice A n k,.int .i64 e,.int .i64 B,.int .i64 s,.int .i64 f,.int .i64 c] 228)).alloc (.cells #[.int .i64 l] 3))=W0 at *
 have hk:=(KW.refl W0).drew
 refine wpX_region (S:=fun W=>W.cell? ⟨w.heap.size,0,none⟩=some (.int .i64 a)∧W.cell? ⟨w.heap.size,1,none⟩=some (.int .i64 p)∧W.cell? ⟨w.heap.size,2,none⟩=some (.slice A n k)∧W.cell? ⟨w.heap.size,3,none⟩=some (.int .i64 e)∧W.cell? ⟨w.heap.size,4,none⟩=some (.int .i64 B)∧W.cell? ⟨w.heap.size,5,none⟩=some (.int .i64 s)∧W.cell? ⟨w.heap.size,6,none⟩=some (.int .i64 f)∧W.cell? ⟨w.heap.size,7,none⟩=some (.int .i64 c)) (L:=99) (by kernel_rfl) ?_
 have hXS:(fun W=>W.cell? ⟨w.heap.size,0,none⟩=some (.int .i64 a)∧W.cell? ⟨w.heap.size,1,none⟩=some (.int .i64 p)∧W.cell? ⟨w.heap.size,2,none⟩=some (.slice A n k)∧W.cell? ⟨w.heap.size,3,none⟩=some (.int .i64 e)∧W.cell? ⟨w.heap.size,4,none⟩=some (.int .i64 B)∧W.cell? ⟨w.heap.size,5,none⟩=some (.int .i64 s)∧W.cell? ⟨w.heap.size,6,none⟩=some (.int .i64 f)∧W.cell? ⟨w.heap.size,7,none⟩=some (.int .i64 c)) (World.drew _):=hS.out _ hk
 simp only[] at hXS
 refine tk 0 ?_ (fun _ _=>?_) hXS ?_;rotate_left;· go_simp;try rfl
 simp only[lsz,lss]
 refine tk 1 ?_ (fun _ _=>?_) hXS ?_;rotate_left;· go_simp;try rfl
 simp only[lsz,lss]
 refine tk 2 ?_ (fun _ _=>?_) hXS ?_;rotate_left;· go_simp;try rfl
 simp only[lsz,lss]
 refine tk 5 ?_ (fun _ _=>?_) hXS ?_;rotate_left;· go_simp;try rfl
 simp only[lsz,lss]
 refine tk 6 ?_ (fun _ _=>?_) hXS ?_;rotate_left;· go_simp;try rfl
 simp only[lsz,lss]
 refine tk 7 ?_ (fun _ _=>?_) hXS ?_;rotate_left;· go_simp;try rfl
 simp only[lsz,lss]
 refine tk 10 ?_ (fun _ _=>?_) hXS ?_;rotate_left;· go_simp;try rfl
 simp only[lsz,lss]
 refine tk 11 ?_ (fun _ _=>?_) hXS ?_;rotate_left;· go_simp;try rfl
 simp only[lsz,lss]
 refine tk 12 ?_ (fun _ _=>?_) hXS ?_;rotate_left;· go_simp;try rfl
 simp only[lsz,lss]
 refine tk 13 ?_ (fun _ _=>?_) hXS ?_;rotate_left;· go_simp;try rfl
 simp only[lsz,lss]
 refine tk 14 ?_ (fun _ _=>?_) hXS ?_;rotate_left;· go_simp;try rfl
 simp only[lsz,lss]
 refine tk 15 ?_ (fun _ _=>?_) hXS ?_;rotate_left;· go_simp;try rfl
 simp only[lsz,lss]
 refine tk 16 ?_ (fun _ _=>?_) hXS ?_;rotate_left;· go_simp;try rfl
 simp only[lsz,lss]
 refine tk 17 ?_ (fun _ _=>?_) hXS ?_;rotate_left;· go_simp;try rfl
 simp only[lsz,lss]
 refine tk 18 ?_ (fun _ _=>?_) hXS ?_;rotate_left;· go_simp;try rfl
 simp only[lsz,lss]
 refine tk 19 ?_ (fun _ _=>?_) hXS ?_;rotate_left;· go_simp;try rfl
 simp only[lsz,lss]
 refine tk 20 ?_ (fun _ _=>?_) hXS ?_;rotate_left;· go_simp;try rfl
 simp only[lsz,lss]
 refine tk 23 ?_ (fun _ _=>?_) hXS ?_;rotate_left;· go_simp;try rfl
 simp only[lsz,lss]
 refine tk 24 ?_ (fun _ _=>?_) hXS ?_;rotate_left;· go_simp;try rfl
 simp only[lsz,lss]
 refine tk 25 ?_ (fun _ _=>?_) hXS ?_;rotate_left;· go_simp;try rfl
 simp only[lsz,lss]
 refine tk 28 ?_ (fun _ _=>?_) hXS ?_;rotate_left;· go_simp;try rfl
 simp only[lsz,lss]
 refine tk 29 ?_ (fun _ _=>?_) hXS ?_;rotate_left;· go_simp;try rfl
 simp only[lsz,lss]
 refine tk 30 ?_ (fun _ _=>?_) hXS ?_;rotate_left;· go_simp;try rfl
 simp only[lsz,lss]
 refine tk 31 ?_ (fun _ _=>?_) hXS ?_;rotate_left;· go_simp;try rfl
 simp only[lsz,lss]
 refine tk 32 ?_ (fun _ _=>?_) hXS ?_;rotate_left;· go_simp;try rfl
 simp only[lsz,lss]
 refine tk 33 ?_ (fun _ _=>?_) hXS ?_;rotate_left;· go_simp;try rfl
 simp only[lsz,lss]
 refine tk 34 ?_ (fun _ _=>?_) hXS ?_;rotate_left;· go_simp;try rfl
 simp only[lsz,lss]
 refine tk 35 ?_ (fun _ _=>?_) hXS ?_;rotate_left;· go_simp;try rfl
 simp only[lsz,lss]
 refine tk 38 ?_ (fun _ _=>?_) hXS ?_;rotate_left;· go_simp;try rfl
 simp only[lsz,lss]
 refine tk 39 ?_ (fun _ _=>?_) hXS ?_;rotate_left;· go_simp;try rfl
 simp only[lsz,lss]
 refine tk 40 ?_ (fun _ _=>?_) hXS ?_;rotate_left;· go_simp;try rfl
 simp only[lsz,lss]
 refine wpX_hard (k:=3) (by kernel_rfl) rfl (fun K hK=>?_)
 go_simp
 (refine(rvact_k _ _ _).mono ?_;rintro x w1 ⟨x1,y1,rfl,q1,r1,hb1⟩;have HA1:=hid (⟨q1,r1⟩:RvA w1 x1 y1 _ _);clear q1 r1;replace hk:=hk.t hb1;replace hb1:=hid hb1)
 refine hK _ _ (fun _=>hS.out _ hk) ?_
 clear hK K
 try simp only[lsz,lss]
 replace hXS:=hS.out _ hk
 refine tk 4 ?_ (fun _ _=>?_) hXS ?_;rotate_left;· go_simp;try rfl
 simp only[lsz,lss]
 refine wpX_hard (k:=8) (by kernel_rfl) rfl (fun K hK=>?_)
 go_simp
 (refine(rvact_k _ _ _).mono ?_;rintro x w2 ⟨x2,y2,rfl,q2,r2,hb2⟩;have HA2:=hid (⟨q2,r2⟩:RvA w2 x2 y2 _ _);clear q2 r2;replace hk:=hk.t hb2;replace hb2:=hid hb2)
 refine hK _ _ (fun _=>hS.out _ hk) ?_
 clear hK K
 try simp only[lsz,lss]
 replace hXS:=hS.out _ hk
 refine tk 9 ?_ (fun _ _=>?_) hXS ?_;rotate_left;· go_simp;try rfl
 simp only[lsz,lss]
 refine wpX_hard (k:=21) (by kernel_rfl) rfl (fun K hK=>?_)
 go_simp
 (refine(rvact_k _ _ _).mono ?_;rintro x w3 ⟨x3,y3,rfl,q3,r3,hb3⟩;have HA3:=hid (⟨q3,r3⟩:RvA w3 x3 y3 _ _);clear q3 r3;replace hk:=hk.t hb3;replace hb3:=hid hb3)
 refine hK _ _ (fun _=>hS.out _ hk) ?_
 clear hK K
 try simp only[lsz,lss]
 replace hXS:=hS.out _ hk
 refine tk 22 ?_ (fun _ _=>?_) hXS ?_;rotate_left;· go_simp;try rfl
 simp only[lsz,lss]
 refine wpX_hard (k:=26) (by kernel_rfl) rfl (fun K hK=>?_)
 go_simp
 (refine(rvact_k _ _ _).mono ?_;rintro x w4 ⟨x4,y4,rfl,q4,r4,hb4⟩;have HA4:=hid (⟨q4,r4⟩:RvA w4 x4 y4 _ _);clear q4 r4;replace hk:=hk.t hb4;replace hb4:=hid hb4)
 refine hK _ _ (fun _=>hS.out _ hk) ?_
 clear hK K
 try simp only[lsz,lss]
 replace hXS:=hS.out _ hk
 refine tk 27 ?_ (fun _ _=>?_) hXS ?_;rotate_left;· go_simp;try rfl
 simp only[lsz,lss]
 refine wpX_hard (k:=36) (by kernel_rfl) rfl (fun K hK=>?_)
 go_simp
 (refine(rvact_k _ _ _).mono ?_;rintro x w5 ⟨x5,y5,rfl,q5,r5,hb5⟩;have HA5:=hid (⟨q5,r5⟩:RvA w5 x5 y5 _ _);clear q5 r5;replace hk:=hk.t hb5;replace hb5:=hid hb5)
 refine hK _ _ (fun _=>hS.out _ hk) ?_
 clear hK K
 try simp only[lsz,lss]
 replace hXS:=hS.out _ hk
 refine tk 37 ?_ (fun _ _=>?_) hXS ?_;rotate_left;· go_simp;try rfl
 simp only[lsz,lss]
 refine wpX_hard (k:=41) (by kernel_rfl) rfl (fun K hK=>?_)
 go_simp
 refine hK _ _ (fun _=>hS.out _ (hk.alloc _)) ?_
 clear hK K
 try simp only[lsz,lss]
 have hXS:=hS.out _ (hk.alloc (.cells (rvR (.agg (vw a p (.slice A n k) e B s f c)) w.heap.size (w.heap.size+1) x1 y1 x2 y2 x3 y3 x4 y4 x5 y5) 232))
 unfold rvR rvf rvp vw at hXS
 refine tk 42 ?_ (fun _ _=>?_) hXS ?_;rotate_left;· go_simp;try rfl
 simp only[lsz,lss]
 refine wpX_done (by kernel_rfl) ?_
 go_wp2_with fail
 go_ret
 have hh:=heap_alloc_new w5 (.cells (rvR (.agg (vw a p (.slice A n k) e B s f c)) w.heap.size (w.heap.size+1) x1 y1 x2 y2 x3 y3 x4 y4 x5 y5) 232)
 have hend:=(KW.refl w5).alloc (.cells (rvR (.agg (vw a p (.slice A n k) e B s f c)) w.heap.size (w.heap.size+1) x1 y1 x2 y2 x3 y3 x4 y4 x5 y5) 232)
 have hk6:=hk.t hend
 have hV6:=KW.blk hk6 (blk_lt HV.out) HV.out
 have hL6:=KW.cell hk6 (World.block_lt_of_cell? _ _ HL.out) HL.out
 have HA5':=RvA.kw HA5.out hend
 have HA4':=RvA.kw (RvA.kw HA4.out hb5.out) hend
 have HA3':=RvA.kw (RvA.kw (RvA.kw HA3.out hb4.out) hb5.out) hend
 have HA2':=RvA.kw (RvA.kw (RvA.kw (RvA.kw HA2.out hb3.out) hb4.out) hb5.out) hend
 have HA1':=RvA.kw (RvA.kw (RvA.kw (RvA.kw (RvA.kw HA1.out hb2.out) hb3.out) hb4.out) hb5.out) hend
 rw[HZ.out.1,HZ.out.2] at HA5'
 exact⟨_,_,_,_,_,_,_,_,_,_,_,_,_,rfl,hh,hV6,hL6,HA1',HA2',HA3',HA4',HA5',HWW.out.t hk6⟩
end Go.Proofs.YtphppbonljdibaaGreat
namespace Go.Proofs.YtphppbonljdibaaGreat
namespace Rv
open Sd (slot tmx)
def cn (l a p e B f:Int):Nat→Bool
 | 0=>decide (0≤p)&&decide (e≤B)
 | 1=>decide (p=0)
 | 2=>decide (p<0)&&decide (a=l)
 | 3=>decide (a=e - 1)
 | 4=>decide (B<0)
 | 5=>decide (a<B) || decide (e≤a)
 | 6=>decide (B<a)&&decide (0<f)
 | 7=>decide (B<a)
 | _=>true
def rs (a p e B s c:Int)(f:Nat):Nat→Option Mc.Act
 | 0=>some (4,s)
 | 1=>none
 | 2=>some (5,0)
 | 3=>some (if 0≤p then 7 else 6,0)
 | 4=>if a<e then some (2,0) else none
 | 5=>some (3,s)
 | 6=>some (2,c)
 | 7=>some (1,e - 1 - a)
 | _=>some (1,Ch.sp (e - B).toNat (f+1))
theorem rs_pick {l a p:Int}{tags:List Int}(ht:∀ i,i<tags.length→-1≤tags.getD i 0)(k:Nat)(hk:k≤8)
 (h:∀ j,j<k→cn l a p (en l p) (tmx tags tags.length) (lkN tags tags.length) j=false) (hc:cn l a p (en l p) (tmx tags tags.length) (lkN tags tags.length) k=true):
 rw0 l a p tags=rs a p (en l p) (tmx tags tags.length) (lkS tags tags.length) (lkV tags tags.length) (vac tags) k:=by
 have hS:0≤tmx tags tags.length→lkS tags tags.length=slot tags (tmx tags tags.length):=lkS_all
 have hen:0≤p→en l p=p:=fun h=>by unfold en;rw[if_neg (by omega)]
 rw[lkV_all ht]
 rw[lkN_all] at h hc
 unfold rw0
 generalize tmx tags tags.length=B at *
 generalize lkS tags tags.length=s at *
 generalize slot tags (-1)=v at *
 generalize en l p=e at *
 have h0:=fun(g:0<k)=>h 0 g
 have h1:=fun(g:1<k)=>h 1 g
 have h2:=fun(g:2<k)=>h 2 g
 have h3:=fun(g:3<k)=>h 3 g
 have h4:=fun(g:4<k)=>h 4 g
 have h5:=fun(g:5<k)=>h 5 g
 have h6:=fun(g:6<k)=>h 6 g
 have h7:=fun(g:7<k)=>h 7 g
 clear h
 rcases(show k=0∨k=1∨k=2∨k=3∨k=4∨k=5∨k=6∨k=7∨k=8 by omega) with rfl|rfl|rfl|rfl|rfl|rfl|rfl|rfl|rfl <;>
  simp only[cn,rs,Bool.and_eq_true,Bool.or_eq_true,Bool.and_eq_false_iff,Bool.or_eq_false_iff,decide_eq_true_eq,decide_eq_false_iff_not] at *
 ·rw[if_pos hc,hS (by have:=hen hc.1;omega)]
 ·have:=h0 (by omega);rw[if_neg (by omega),if_pos hc]
 ·have:=h0 (by omega);have:=h1 (by omega);rw[if_neg (by omega),if_neg (by omega),if_pos hc]
 ·have:=h0 (by omega);have:=h1 (by omega);have:=h2 (by omega);rw[if_neg (by omega),if_neg (by omega),if_neg (by omega),if_pos hc]
 ·have:=h0 (by omega);have:=h1 (by omega);have:=h2 (by omega);have:=h3 (by omega);rw[if_neg (by omega),if_neg (by omega),if_neg (by omega),if_neg (by omega),if_pos hc]
 ·have:=h0 (by omega);have:=h1 (by omega);have:=h2 (by omega);have:=h3 (by omega);have:=h4 (by omega)
  rw[if_neg (by omega),if_neg (by omega),if_neg (by omega),if_neg (by omega),if_neg (by omega),if_pos hc,hS (by omega)]
 ·have:=h0 (by omega);have:=h1 (by omega);have:=h2 (by omega);have:=h3 (by omega);have:=h4 (by omega);have:=h5 (by omega)
  rw[if_neg (by omega),if_neg (by omega),if_neg (by omega),if_neg (by omega),if_neg (by omega),if_neg (by omega),if_pos hc.1,if_pos (by omega)]
 ·have:=h0 (by omega);have:=h1 (by omega);have:=h2 (by omega);have:=h3 (by omega);have:=h4 (by omega);have:=h5 (by omega);have:=h6 (by omega)
  rw[if_neg (by omega),if_neg (by omega),if_neg (by omega),if_neg (by omega),if_neg (by omega),if_neg (by omega),if_pos hc,if_neg (by omega)]
 ·have:=h0 (by omega);have:=h1 (by omega);have:=h2 (by omega);have:=h3 (by omega);have:=h4 (by omega);have:=h5 (by omega);have:=h6 (by omega);have:=h7 (by omega)
  rw[if_neg (by omega),if_neg (by omega),if_neg (by omega),if_neg (by omega),if_neg (by omega),if_neg (by omega),if_neg (by omega)]
end Rv
end Go.Proofs.YtphppbonljdibaaGreat
namespace Go.Proofs.YtphppbonljdibaaGreat
open Go.ChangeShapes Go.WideShapes Go.ChangeAt Go.RowKit
theorem may_no1 (l a p:Int)(N c:Nat)(A:Option Addr)(w:World)
 (h:∀ W,KW w W→Calls Tryz.prog 111 #[.int .i64 l,.agg #[.int .i64 a,.int .i64 p,.slice A N c]] W fun e w'=>e=.returned (.tuple #[.pointer none,.int .i64 2])∧KW W w'):
 Calls Tryz.prog 175 #[.int .i64 l,.agg #[.int .i64 a,.int .i64 p,.slice A N c]] w fun e w'=>e=.returned (.bool false)∧KW w w':=by
 have H:=hid h
 have HK:=hid ((KW.refl w).alloc (.cells #[.int .i64 a,.int .i64 p,.slice A N c] 58))
 clear h
 go_enter Tryz.func175,Tryz.ntmps175
 go_wp2_with fail
 refine(H.out _ HK.out).mono ?_
 rintro e w1 ⟨rfl,hk1⟩
 have HK1:=hid (HK.out.t hk1)
 clear hk1
 go_wp2_with fail
 go_ret
 exact⟨rfl,HK1.out⟩
theorem may_at (l a p:Int)(N c:Nat)(A:Option Addr)(w:World)(m:Mc.St)
 (h:∀ W,KW w W→Calls Tryz.prog 111 #[.int .i64 l,.agg #[.int .i64 a,.int .i64 p,.slice A N c]] W (NewP W m)):
 Calls Tryz.prog 175 #[.int .i64 l,.agg #[.int .i64 a,.int .i64 p,.slice A N c]] w fun e w'=>e=.returned (.bool (decide (0<N)))∧KW w w':=by
 have H:=hid h
 have HK:=hid ((KW.refl w).alloc (.cells #[.int .i64 a,.int .i64 p,.slice A N c] 58))
 have HB:=hid (heap_alloc_new w (.cells #[.int .i64 a,.int .i64 p,.slice A N c] 58))
 clear h
 go_enter Tryz.func175,Tryz.ntmps175
 go_wp2_with fail
 refine(H.out _ HK.out).mono ?_
 rintro e w1 ⟨mb,mv,rfl,_,_,hk1⟩
 have HB1:=hid (KW.blk hk1 (blk_lt HB.out) HB.out)
 have c2:w1.cell? ⟨w.heap.size,2,none⟩=some (.slice A N c):=by rw[cell_of_row _ _ _ _ _ _ HB1.out];rfl
 have HK1:=hid (HK.out.t hk1)
 clear hk1
 go_wp2_with fail
 go_ret
 exact⟨ret_bool (by simp),HK1.out⟩
theorem spot_cases (k a p:Int)(tags:List Int)(v:Value)(w:World)(hv:RTz w v tags):
 ((0≤k∧k<65536)∧(0≤a∧a≤k)∧(-1≤p∧p≤k)∧tags.length≤1048576∧(∀ i,i<tags.length→-1≤tags.getD i 0∧tags.getD i 0≤k)∧∀ W,KW w W→Calls Tryz.prog 111 #[.int .i64 k,.agg #[.int .i64 a,.int .i64 p,v]] W (NewP W ⟨k,a,p,0,tags⟩)) ∨
 (¬ Sd.okS k a p tags∧∀ W,KW w W→Calls Tryz.prog 111 #[.int .i64 k,.agg #[.int .i64 a,.int .i64 p,v]] W fun e w'=>e=.returned (.tuple #[.pointer none,.int .i64 2])∧KW W w'):=by
 obtain⟨A,c,rfl,hz,hr⟩:=hv
 by_cases hat:(0≤k∧k<65536)∧(0≤a∧a≤k)∧(-1≤p∧p≤k)∧tags.length≤1048576∧∀ i,i<tags.length→-1≤tags.getD i 0∧tags.getD i 0≤k
 ·obtain⟨hk,ha,hp,hn,ht⟩:=hat
  refine .inl ⟨hk,ha,hp,hn,ht,fun W h=>
   at_yes k a p tags _ W hk.1 hk.2 ha.1 ha.2 hp.1 hp.2 hn (fun x hx=>by
    obtain⟨i,hi,rfl⟩:=List.mem_iff_getElem.1 hx
    have:=ht i hi
    simpa [hi] using this) ⟨A,c,rfl,hz,hr.k h⟩⟩
 ·refine .inr ⟨?_,fun W h=>at_no k a p tags.length c tags A W rfl (hr.k h) ?_⟩
  ·rintro⟨h1,h2,h3,h4,h5⟩
   exact hat ⟨h1,h2,h3,h4.2,h5⟩
  ·apply Classical.byContradiction
   intro hno
   simp only[not_or,offB] at hno
   obtain⟨q1,q2,q3,q4,q5,q6⟩:=hno
   simp only[decide_eq_true_eq] at q4 q5
   refine hat ⟨by omega,by omega,by omega,by omega,fun i hi=>?_⟩
   have:¬ (tags.getD i 0 < -1∨k<tags.getD i 0):=fun h=>q6 ⟨i,hi,by simpa using h⟩
   omega
open Classical in
theorem may_any (l a p:Int)(tags:List Int)(v:Value)(w:World)(hv:RTz w v tags):
 Calls Tryz.prog 175 #[.int .i64 l,.agg #[.int .i64 a,.int .i64 p,v]] w fun e w'=>e=.returned (.bool (decide (Sd.okS l a p tags)))∧KW w w':=by
 have hsc:=spot_cases l a p tags v w hv
 obtain⟨A,c,rfl,hz,hr⟩:=hv
 rcases hsc with⟨h1,h2,h3,h4,h5,h⟩|⟨hno,h⟩
 ·have e:decide (Sd.okS l a p tags)=decide (0<tags.length):=by
   rw[decide_eq_decide]
   exact⟨fun h=>h.2.2.2.1.1,fun h0=>⟨h1,h2,h3,⟨h0,h4⟩,h5⟩⟩
  rw[e]
  exact may_at l a p tags.length c A w _ h
 ·rw[decide_eq_false hno]
  exact may_no1 l a p tags.length c A w h
structure RuleAt (w:World)(rb k:Nat)(c:Bool)(r:Option Mc.Act):Prop where
 ex:∃ (G H:FuncId) (cs fs ds:Array Value),w.cell? ⟨rb,k * 2,none⟩=some (.func (.func G) #[] cs)∧w.cell? ⟨rb,k * 2+1,none⟩=some (.func (.func H) fs ds) ∧
  (∀ (args:Array Value) (W:World),(callFunc G args).run Tryz.prog W=.ok (.enter G args) W)∧(∀ (args:Array Value) (W:World),(callFunc H args).run Tryz.prog W=.ok (.enter H args) W) ∧
  (∀ W,KW w W→Calls Tryz.prog G cs W fun x w'=>x=.returned (.bool c)∧KW W w')∧(c=true→∀ W,KW w W→Calls Tryz.prog H (fs++ds) W (AnsP W r))
open Classical in
theorem rvnext_no (l a p:Int)(tags:List Int)(v:Value)(w:World)(hv:RTz w v tags)(hno:¬ Sd.okS l a p tags):
 Calls Tryz.prog 143 #[.int .i64 l,.agg #[.int .i64 a,.int .i64 p,v]] w (AnsP w none):=by
 have H:=hid (fun W (h:KW w W)=>may_any l a p tags v W (hv.kw h))
 rw[decide_eq_false hno] at H
 obtain⟨A,c,rfl,hz,hr⟩:=hv
 clear hz hr hno
 have HF:=hid (nx0_row w a p (.slice A tags.length c))
 have HK:=hid (nx0_kw w a p (.slice A tags.length c))
 unfold nx0 at HF HK
 go_enter Tryz.func143,Tryz.ntmps143
 go_wp2_with fail
 refine(H.out _ HK.out).mono ?_
 rintro e w1 ⟨rfl,hk1⟩
 have HF1:=hid (KW.row hk1 HF.out.lt HF.out)
 have HK1:=hid (HK.out.t hk1)
 clear hk1
 go_wp2_with fail
 refine(rvnothing_any _).mono ?_
 rintro e w2 ⟨rfl,hk2⟩
 have HF2:=hid (KW.row hk2 HF1.out.lt HF1.out)
 have HK2:=hid (HK1.out.t hk2)
 clear hk2
 go_wp2_with (refine store_act rfl rfl rfl rfl HF2.out ?_;intro W2 hb2 hkeep)
 exact bodyPost_ret (results_cell_tmp rfl _ _ _ _ _ (0,0) _ rfl hb2 Tryz.underlying55 rfl (by kernel_rfl)) rfl ⟨rfl,HK2.out.kept hkeep fun i hi=>by omega⟩
theorem rvnext_core (l a p:Int)(N c:Nat)(A:Option Addr)(w:World)(cn:Nat→Bool)(rs:Nat→Option Mc.Act)(r:Option Mc.Act)(V:Array Value)
 (hmay:∀ W,KW w W→Calls Tryz.prog 175 #[.int .i64 l,.agg #[.int .i64 a,.int .i64 p,.slice A N c]] W fun e w'=>e=.returned (.bool true)∧KW W w')
 (hlook:∀ W,KW w W→Calls Tryz.prog 177 #[.int .i64 l,.agg #[.int .i64 a,.int .i64 p,.slice A N c]] W fun e w'=>e=.returned (.agg V)∧KW W w')
 (hrules:∀ W,KW w W→Calls Tryz.prog 178 #[.agg V,.int .i64 l] W fun e w'=>∃ rb,e=.returned (.slice (some ⟨rb,0,none⟩) 9 9)∧KW W w'∧∀ k,k≤8→(∀ j,j<k→cn j=false)→RuleAt w' rb k (cn k) (rs k))
 (h8:cn 8=true) (hr:∀ k,k≤8→(∀ j,j<k→cn j=false)→cn k=true→r=rs k):
 Calls Tryz.prog 143 #[.int .i64 l,.agg #[.int .i64 a,.int .i64 p,.slice A N c]] w (AnsP w r):=by
 have HM:=hid hmay
 have HLk:=hid hlook
 have HRu:=hid hrules
 have H8:=hid h8
 have HR:=hid hr
 clear hmay hlook hrules h8 hr
 have HF:=hid (nx0_row w a p (.slice A N c))
 have HB:=hid (nx0_blk w a p (.slice A N c))
 have HK:=hid (nx0_kw w a p (.slice A N c))
 unfold nx0 at HF HK HB
 go_enter Tryz.func143,Tryz.ntmps143
 go_wp2_with fail
 refine(HM.out _ HK.out).mono ?_
 rintro e w1 ⟨rfl,hk1⟩
 have HF1:=hid (KW.row hk1 HF.out.lt HF.out)
 have HB1:=hid (KW.blk hk1 (blk_lt HB.out) HB.out)
 have HK1:=hid (HK.out.t hk1)
 clear hk1
 go_wp2_with (refine wpList_load_row rfl 58 _ rfl w.heap.size rfl 58 _ (0,0) _ HB1.out Tryz.underlying58 rfl (by kernel_rfl) ?_)
 refine(HLk.out _ HK1.out).mono ?_
 rintro e w2 ⟨rfl,hk2⟩
 have HF2:=hid (KW.row hk2 HF1.out.lt HF1.out)
 have HK2:=hid (HK1.out.t hk2)
 clear hk2
 go_wp2_with fail
 refine(HRu.out _ HK2.out).mono ?_
 rintro e w3 ⟨rb,rfl,hk3,hat⟩
 have HF3:=hid (KW.row hk3 HF2.out.lt HF2.out)
 have HK3:=hid (HK2.out.t hk3)
 have HAt:=hid hat
 clear hk3 hat
 go_wp2_with fail
 go_loopw [21] (fun i wr=>∃ k:Nat,k≤8∧i=.int .i64 k∧Hid (∀ j,j<k→cn j=false)∧Hid (KW w3 wr)) (fun i _=>9 - (intOf i).toNat)
 case atStart=>exact⟨0,by omega,rfl,fun j hj=>absurd hj (by omega),KW.refl w3⟩
 case round=>
  obtain⟨k,hk,rfl,HNo,HKr⟩:=hrel
  obtain⟨G,H,cs,fs,ds,hc1,hc2,he1,he2,hG,hH⟩:=(HAt.out k hk HNo.out).ex
  have hlt:=World.block_lt_of_cell? _ _ hc1
  have c1:=KW.cell HKr.out hlt hc1
  have c2:=KW.cell HKr.out hlt hc2
  have HRk:=hid (HR.out k hk HNo.out)
  have hwz:=HKr.out.size
  clear hc1 hc2
  have HG:=hid hG
  have HH:=hid hH
  have L5:(k:Int)<9:=by omega
  have HE1:=hid he1
  have HE2:=hid he2
  clear he1 he2 hG hH
  have e2:=HE1.out
  go_wp2_with fail
  clear e2
  have HKa:Hid (KW w3 (wr.alloc (.cells #[.func (.func G) #[] cs,.func (.func H) fs ds] 232))):=HKr.out.alloc _
  refine(HG.out _ HKa.out).mono ?_
  rintro x w4 ⟨rfl,hk4⟩
  have HK4:=hid (HKa.out.t hk4)
  have HB4:=hid (KW.blk hk4 (by simp) (heap_alloc_new wr (.cells #[.func (.func G) #[] cs,.func (.func H) fs ds] 232)))
  clear hk4
  cases hcn:cn k with
  | false=>
    have HNo2:Hid (∀ j,j<k+1→cn j=false):=fun j hj=>by
     rcases(show j<k∨j=k by omega) with h|rfl
     ·exact HNo.out j h
     ·exact hcn
    have hk8:k<8:=by
     rcases(show k<8∨k=8 by omega) with h|h
     ·exact h
     ·subst h;rw[H8.out] at hcn;cases hcn
    clear hcn
    go_wp2_with fail
    go_roundw
    case rel=>exact⟨k+1,by omega,by go_num,HNo2,HK4⟩
    case measure=>simp[intOf];omega
  | true=>
    have hrk:=HRk.out hcn
    have HHk:=hid (HH.out hcn)
    clear hcn
    have cH:w4.cell? ⟨wr.heap.size,1,none⟩=some (.func (.func H) fs ds):=by rw[cell_of_row _ _ _ _ _ _ HB4.out];rfl
    have HF4:=hid (KW.row HK4.out HF3.out.lt HF3.out)
    have e3:=HE2.out
    unfold AnsP at HHk
    have HEq:=hid hrk
    clear hrk
    generalize hX:((rs k).getD (0,0)).1=x at *
    generalize hY:((rs k).getD (0,0)).2=y at *
    generalize hBb:(rs k).isSome=bb at *
    have HXYB:=hid (⟨hX,hY,hBb⟩:_∧_∧_)
    clear hX hY hBb
    go_wp2_with fail
    clear e3
    refine(HHk.out _ HK4.out).mono ?_
    rintro e w5 ⟨rfl,hk5⟩
    have HF5:=hid (KW.row hk5 HF4.out.lt HF4.out)
    have HK5:=hid (HK3.out.t (HK4.out.t hk5))
    clear hk5
    go_wp2_with (refine store_act rfl rfl rfl rfl HF5.out ?_;intro W2 hb2 hkeep)
    exact bodyPost_ret (results_cell_tmp rfl _ _ _ _ _ (0,0) _ rfl hb2 Tryz.underlying55 rfl (by kernel_rfl)) rfl (by
     unfold AnsP
     rw[HEq.out,HXYB.out.1,HXYB.out.2.1,HXYB.out.2.2]
     exact⟨rfl,HK5.out.kept hkeep fun i hi=>by omega⟩)
theorem vac_full {tags:List Int}(h:Rv.vac tags=tags.length):∀ i,i<tags.length→tags.getD i 0<0:=by
 induction tags with
 | nil=>intro i hi;simp at hi
 | cons x l ih=>
   have h1:=Rv.vac_le l
   simp only[Rv.vac,List.length_cons] at h
   intro i hi
   have hx:x<0:=by
    apply Classical.byContradiction
    intro hx
    rw[if_neg hx] at h
    omega
   rw[if_pos hx] at h
   cases i with
   | zero=>simpa using hx
   | succ i=>simpa using ih (by omega) i (by simpa using hi)
theorem rule_at {w:World}{rb k:Nat}{c:Bool}{r:Option Mc.Act}{cells:Array Value}(hh:w.heap[rb]?=some (.cells cells 232 (0,0)))(G H:FuncId)(cs fs ds:Array Value)
 (h1:cells[k * 2]?=some (.func (.func G) #[] cs)) (h2:cells[k * 2+1]?=some (.func (.func H) fs ds))
 (he1:∀ (args:Array Value) (W:World),(callFunc G args).run Tryz.prog W=.ok (.enter G args) W) (he2:∀ (args:Array Value) (W:World),(callFunc H args).run Tryz.prog W=.ok (.enter H args) W)
 (hG:∀ W,KW w W→Calls Tryz.prog G cs W fun x w'=>x=.returned (.bool c)∧KW W w') (hH:c=true→∀ W,KW w W→Calls Tryz.prog H (fs++ds) W (AnsP W r)):RuleAt w rb k c r:=
 ⟨G,H,cs,fs,ds,by rw[cell_of_row _ _ _ _ _ _ hh];exact h1,by rw[cell_of_row _ _ _ _ _ _ hh];exact h2,he1,he2,hG,hH⟩
theorem rules_at (l a p e B s c:Int)(f n k:Nat)(A:Option Addr)(w w':World)(x:Ending)(he0:0≤e)(he1:e≤65535)(hB:-1≤B)(hf:0≤B→f<1048576)
 (h:RulesP a p (.slice A n k) e B s f c l w x w'):
 ∃ rb,x=.returned (.slice (some ⟨rb,0,none⟩) 9 9)∧KW w w'∧∀ i,i≤8→(∀ j,j<i→Rv.cn l a p e B f j=false)→RuleAt w' rb i (Rv.cn l a p e B f i) (Rv.rs a p e B s c f i):=by
 obtain⟨rb,vb,lb,x1,y1,x2,y2,x3,y3,x4,y4,x5,y5,rfl,hh,hv,hl,h1,h2,h3,h4,h5,hk⟩:=h
 refine⟨rb,rfl,hk,fun i hi hno=>?_⟩
 have hvk:∀ W,KW w' W→W.heap[vb]?=some (.cells (vw a p (.slice A n k) e B s f c) 228 (0,0)):=fun W h=>KW.blk h (blk_lt hv) hv
 have hact:∀ {x y:Nat} {m n:Int},RvA w' x y m n→∀ W,KW w' W→Calls Tryz.prog 242 (#[] ++ #[rvp x,rvp y]) W (AnsP W (some (m,n))):=fun h W hW=>by
  have h':=RvA.kw h hW
  exact rvact1_any _ _ _ _ W h'.1 h'.2
 rcases(show i=0∨i=1∨i=2∨i=3∨i=4∨i=5∨i=6∨i=7∨i=8 by omega) with rfl|rfl|rfl|rfl|rfl|rfl|rfl|rfl|rfl
 ·exact rule_at hh 209 242 #[rvp vb] #[] #[rvp x1,rvp y1] rfl rfl (fun args W=>by kernel_rfl) (fun args W=>by kernel_rfl) (fun W h=>rule1_any _ _ _ _ _ _ _ _ _ _ _ W (hvk W h)) (fun _=>hact h1)
 ·exact rule_at hh 212 176 #[rvp vb] #[] #[] rfl rfl (fun args W=>by kernel_rfl) (fun args W=>by kernel_rfl) (fun W h=>rule2_any _ _ _ _ _ _ _ _ _ _ _ W (hvk W h)) (fun _ W _=>rvnothing_any W)
 ·exact rule_at hh 213 242 #[rvp vb,rvp lb] #[] #[rvp x2,rvp y2] rfl rfl (fun args W=>by kernel_rfl) (fun args W=>by kernel_rfl) (fun W h=>rule3_any _ _ _ _ _ _ _ _ _ _ _ _ W l (hvk W h) (KW.cell h (World.block_lt_of_cell? _ _ hl) hl)) (fun _=>hact h2)
 ·exact rule_at hh 214 215 #[rvp vb] #[.agg (vw a p (.slice A n k) e B s f c)] #[] rfl rfl (fun args W=>by kernel_rfl) (fun args W=>by kernel_rfl) (fun W h=>rule4_any _ _ _ _ _ _ _ _ _ _ _ W he0 he1 (hvk W h)) (fun _ W _=>turn_any _ _ _ _ _ _ _ _ _ _ W)
 ·exact rule_at hh 216 217 #[rvp vb] #[.agg (vw a p (.slice A n k) e B s f c)] #[] rfl rfl (fun args W=>by kernel_rfl) (fun args W=>by kernel_rfl) (fun W h=>rule5_any _ _ _ _ _ _ _ _ _ _ _ W (hvk W h)) (fun _ W _=>first_any _ _ _ _ _ _ _ _ _ _ W)
 ·exact rule_at hh 218 242 #[rvp vb] #[] #[rvp x3,rvp y3] rfl rfl (fun args W=>by kernel_rfl) (fun args W=>by kernel_rfl) (fun W h=>rule6_any _ _ _ _ _ _ _ _ _ _ _ W (hvk W h)) (fun _=>hact h3)
 ·exact rule_at hh 219 242 #[rvp vb] #[] #[rvp x4,rvp y4] rfl rfl (fun args W=>by kernel_rfl) (fun args W=>by kernel_rfl) (fun W h=>rule7_any _ _ _ _ _ _ _ _ _ _ _ W (hvk W h)) (fun _=>hact h4)
 ·exact rule_at hh 220 242 #[rvp vb] #[] #[rvp x5,rvp y5] rfl rfl (fun args W=>by kernel_rfl) (fun args W=>by kernel_rfl) (fun W h=>rule8_any _ _ _ _ _ _ _ _ _ _ _ W (hvk W h)) (fun _=>hact h5)
 ·have q3:=hno 3 (by omega)
  have q4:=hno 4 (by omega)
  have q5:=hno 5 (by omega)
  have q7:=hno 7 (by omega)
  simp only[Rv.cn,Bool.or_eq_false_iff,decide_eq_false_iff_not] at q3 q4 q5 q7
  exact rule_at hh 221 222 #[] #[.agg (vw a p (.slice A n k) e B s f c)] #[] rfl rfl (fun args W=>by kernel_rfl) (fun args W=>by kernel_rfl) (fun W h=>always_any W)
   (fun _ W _=>vsplit_any a p A n k e B s c (e - B).toNat f W (by omega) (by omega) (by omega) he0 he1 (hf (by omega)))
open Classical in
theorem rvnext_any (l a p:Int)(tags:List Int)(v:Value)(w:World)(hv:RTz w v tags):
 Calls Tryz.prog 143 #[.int .i64 l,.agg #[.int .i64 a,.int .i64 p,v]] w (AnsP w (Rv.rv l a p tags)):=by
 by_cases hok:Sd.okS l a p tags
 ·rw[Rv.rv_ok hok]
  have hmay:=fun W (h:KW w W)=>may_any l a p tags v W (hv.kw h)
  obtain⟨A,c,rfl,hz,hr⟩:=hv
  obtain⟨hl,ha,hp,hn,ht⟩:=hok
  have ht':∀ i,i<tags.length→-1≤tags.getD i 0:=fun i hi=>(ht i hi).1
  have hen:0≤Rv.en l p∧Rv.en l p≤65535:=by unfold Rv.en;split<;>omega
  have hlook:=fun W (h:KW w W)=>look_any l a p tags A c W hn.2 ht' (hr.k h)
  have hpick:=fun k hk h hc=>Rv.rs_pick (l:=l) (a:=a) (p:=p) ht' k hk h hc
  rw[Rv.lkN_all] at *
  have hB:=(Sd.tmx_ge tags tags.length).1
  refine rvnext_core l a p tags.length c A w (Rv.cn l a p (Rv.en l p) (Sd.tmx tags tags.length) (Rv.vac tags)) (Rv.rs a p (Rv.en l p) (Sd.tmx tags tags.length) (Rv.lkS tags tags.length) (Rv.lkV tags tags.length) (Rv.vac tags)) _ _ (fun W h=>?_) hlook (fun W h=>(rules_any a p A tags.length c _ _ _ _ _ l W hen.1 hen.2 ha.1 (by omega)).mono ?_) rfl hpick
  ·have:=hmay W h
   rwa [decide_eq_true (show Sd.okS l a p tags from⟨hl,ha,hp,hn,ht⟩)] at this
  ·intro x w' h'
   refine rules_at l a p _ _ _ _ (Rv.vac tags) tags.length c A W w' x hen.1 hen.2 hB (fun h0=>?_) h'
   have h1:=Rv.vac_le tags
   rcases(show Rv.vac tags<1048576∨Rv.vac tags=tags.length by omega) with h2|h2
   ·exact h2
   ·rcases Sd.tmx_base tags with⟨_,h3⟩|⟨j,hj,_,h3,_⟩
    ·omega
    ·have:=vac_full h2 j hj
     omega
 ·rw[Rv.rv_no hok]
  exact rvnext_no l a p tags v w hv hok
end Go.Proofs.YtphppbonljdibaaGreat
