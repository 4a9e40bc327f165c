import Derived.Test.YtphppbonljdibaaGreatTB12
import Derived.Test.YtphppbonljdibaaGreatTB00
set_option maxRecDepth 100000
set_option maxHeartbeats 4000000
set_option linter.unusedVariables false
set_option linter.unusedSimpArgs false
namespace Go.Proofs.YtphppbonljdibaaGreat
open Go.ChangeShapes Go.WideShapes Go.ChangeAt Go.RowKit
theorem u64s_cons (x:Int)(l:List Int):u64s (x::l)=.int .u64 x::u64s l:=rfl
theorem store1_any (g2 g3 g4 bs f n x ba bw L given p tag:Nat)(Wd xs:List Int)(xv:Value)(w:World)(hS:SlM w bs f n x ba)(hA:ArM w ba bw L Wd given)(hx:xs.length=x)(hx64:x≤64)(hp:p+(x+1)≤given)(htag:tag<65536)
 (h2:Var w g2 3 (.int .i64 (tag:Int))) (h3:Var w g3 22 xv) (h4:Var w g4 134 (.pointer (some ⟨bs,0,none⟩))) (hv:HU w xv xs) (hne:(g2≠bw∧g3≠bw∧g4≠bw)∧bs≠bw):
 Calls Tryz.prog 231 #[.int .u64 0,.int .i64 p,.pointer (some ⟨g2,0,none⟩),.pointer (some ⟨g3,0,none⟩),.pointer (some ⟨g4,0,none⟩)] w fun e w'=>e=.returned (.int .i64 0)∧ArM w' ba bw L (putL Wd p (((tag+1:Nat):Int)::xs)) given∧Keep (· = bw) w w':=by
 have HW:=hid (fun W v (hW:KW w W) (hu:HU W v (((tag+1:Nat):Int)::xs))=>write_any ba bw L given Wd p v _ W (hA.kw hW) (by simp[hx];omega) hu)
 obtain⟨Ax,cx,rfl,_⟩:=hv.row
 have HX:=hid hx
 have HNe:=hid hne
 rw[hx] at h3 hv
 have HV:=hid hv
 have HSA:Hid (∀ W,KW w W→((W.cell? ⟨g2,0,none⟩=some (.int .i64 (tag:Int))∧W.cell? ⟨g3,0,none⟩=some (.slice Ax x cx)∧W.cell? ⟨g4,0,none⟩=some (.pointer (some ⟨bs,0,none⟩))∧W.cell? ⟨bs,2,none⟩=some (.int .i64 (x:Int))∧W.cell? ⟨bs,3,none⟩=some (.pointer (some ⟨ba,0,none⟩)))∧g2<W.heap.size∧g3<W.heap.size∧g4<W.heap.size∧bs<W.heap.size)):=hid fun W hW=>by
  have k2:=h2.keep (hW.keep (own:=fun _=>False)) id
  have k3:=h3.keep (hW.keep (own:=fun _=>False)) id
  have k4:=h4.keep (hW.keep (own:=fun _=>False)) id
  obtain⟨q,_,_,q2,q3⟩:=(hS.kw hW).cells
  exact⟨⟨k2.cell,k3.cell,k4.cell,q2,q3⟩,k2.lt,k3.lt,k4.lt,q⟩
 have d0:decide ((tag:Int)<0)=false:=decide_eq_false (by omega)
 have d1:decide ((65536:Int)≤(tag:Int))=false:=decide_eq_false (by omega)
 have hwi:IntKind.i64.wrap ((tag:Int)+1)=(tag:Int)+1:=IntWalk.i64_in _ (by omega)
 have hwr:IntKind.u64.wrap ((tag:Int)+1)=(tag:Int)+1:=IntWalk.u64_in _ (by omega)
 obtain⟨⟨c2,c3,c4,e2,e3⟩,l2,l3,l4,l5⟩:=HSA.out w (KW.refl w)
 have e3n:(x==x)=true:=by simp
 have hbne:((x:Int) != (x:Int))=false:=by simp
 clear hS hA h2 h3 h4 hv hx hne
 go_enter Tryz.func231,Tryz.ntmps231
 go_wp2_with fail
 have c3d:w.drew.cell? ⟨g3,0,none⟩=some (.slice Ax x cx):=c3
 have c4d:w.drew.cell? ⟨g4,0,none⟩=some (.pointer (some ⟨bs,0,none⟩)):=c4
 have e2d:w.drew.cell? ⟨bs,2,none⟩=some (.int .i64 (x:Int)):=e2
 go_region
 clear c2 c3 c4 e2 e3 c3d c4d e2d
 obtain⟨⟨c2,c3,c4,e2,e3⟩,l2,l3,l4,l5⟩:=HSA.out w.drew (KW.refl w).drew
 go_wp2_with fail
 have hXS:=(HSA.out w.drew (KW.refl w).drew).1
 refine wpX_region (S:=fun w'=>w'.cell? ⟨g2,0,none⟩=some (.int .i64 (tag:Int))∧w'.cell? ⟨g3,0,none⟩=some (.slice Ax x cx)∧w'.cell? ⟨g4,0,none⟩=some (.pointer (some ⟨bs,0,none⟩))∧w'.cell? ⟨bs,2,none⟩=some (.int .i64 (x:Int))∧w'.cell? ⟨bs,3,none⟩=some (.pointer (some ⟨ba,0,none⟩))) (L:=99) (by kernel_rfl) ?_
 refine tk 0 ?_ (fun _ _=>?_) hXS ?_;rotate_left;· go_simp;try rfl
 simp only[lsz,lss]
 refine tk 1 ?_ (fun _ _=>?_) hXS ?_;rotate_left;· go_simp;try rfl
 simp only[lsz,lss]
 refine tk 2 ?_ (fun _ _=>?_) hXS ?_;rotate_left;· go_simp;try rfl
 simp only[lsz,lss]
 refine tk 3 ?_ (fun _ _=>?_) hXS ?_;rotate_left;· go_simp;try rfl
 simp only[lsz,lss]
 refine tk 4 ?_ (fun _ _=>?_) hXS ?_;rotate_left;· go_simp;try rfl
 simp only[lsz,lss]
 refine tk 5 ?_ (fun _ _=>?_) hXS ?_;rotate_left;· go_simp;try rfl
 simp only[lsz,lss]
 refine tk 6 ?_ (fun _ _=>?_) hXS ?_;rotate_left;· go_simp;try rfl
 simp only[lsz,lss]
 refine tk 7 ?_ (fun _ _=>?_) hXS ?_;rotate_left;· go_simp;try rfl
 simp only[lsz,lss]
 refine tk 9 ?_ (fun _ _=>?_) hXS ?_;rotate_left;· go_simp;try rfl
 simp only[lsz,lss]
 refine wpX_hard (k:=8) (by kernel_rfl) rfl (fun K hK=>?_)
 go_simp
 try simp only[hwi,hwr]
 have hkA:KW w ((w.alloc (.cells #[.int .u64 ((tag:Int)+1)] 81)).drew.drew):=(((KW.refl w).alloc _).drew).drew
 have HKA:=hid hkA
 have hXS:=(HSA.out _ hkA).1
 refine hK _ _ (fun _=>hXS) ?_
 clear hK K hkA
 try simp only[lsz,lss]
 have hown:Owns ((w.alloc (.cells #[.int .u64 ((tag:Int)+1)] 81)).drew.drew) w.heap.size 81 (.slice (some ⟨w.heap.size,0,none⟩) 1 1) [.int .u64 ((tag:Int)+1)]:=((Owns.new (w:=w) (base:=w.heap.size) (e:=81) (xs:=[.int .u64 ((tag:Int)+1)]) (Nat.le_refl _) (by simp)).drew).drew
 have HOwn:=hid hown
 clear hown
 refine wpX_appA (k:=10) (by kernel_rfl) rfl rfl rfl sliceU rfl (base:=w.heap.size) (q:=x) (n:=1) (v:=.slice (some ⟨w.heap.size,0,none⟩) 1 1) (u:=.slice Ax x cx) (xs:=[.int .u64 ((tag:Int)+1)]) (ys:=u64s xs) rfl rfl (by have h:=HV.out.kw HKA.out;unfold HU at h;rw[HX.out] at h;exact h) HOwn.out (Below.size HKA.out) (by omega) (by omega) ?_
 intro v7 w7 ho7 hk7 hv7
 have hK7:KW w w7:=HKA.out.kept hk7 fun i hi=>by have h9:w.heap.size=i:=Option.some.inj hi;omega
 have HK7:=hid hK7
 have HO7:Hid (Owns w7 w.heap.size 81 v7 (u64s (((tag+1:Nat):Int)::xs))):=by
  unfold Owns
  rw[u64s_len,List.length_cons,HX.out,u64s_cons,Nat.add_comm x 1]
  exact hid ho7
 have hXS:=(HSA.out _ hK7).1
 refine⟨fun _=>hXS,?_⟩
 clear ho7 hk7 hv7 hK7
 obtain⟨A7,c7,hv7,_⟩:=HO7.out.row
 rw[u64s_len,List.length_cons,HX.out] at hv7
 subst hv7
 try simp only[lsz,lss]
 refine wpX_hard (k:=11) (by kernel_rfl) rfl (fun K hK=>?_)
 go_simp
 refine(HW.out w7 _ HK7.out HO7.out.hu).mono ?_
 rintro e w8 ⟨rfl,ha8,hk8⟩
 have HA8:=hid ha8
 have HK8:Hid (Keep (· = bw) w w8):=hid (HK7.out.keep.t hk8)
 have hXS8:(w8.cell? ⟨g2,0,none⟩=some (.int .i64 (tag:Int))∧w8.cell? ⟨g3,0,none⟩=some (.slice Ax x cx)∧w8.cell? ⟨g4,0,none⟩=some (.pointer (some ⟨bs,0,none⟩))∧w8.cell? ⟨bs,2,none⟩=some (.int .i64 (x:Int))∧w8.cell? ⟨bs,3,none⟩=some (.pointer (some ⟨ba,0,none⟩))):=by
  obtain⟨⟨q1,q2,q3,q4,q5⟩,m1,m2,m3,m4⟩:=HSA.out _ HK7.out
  exact⟨(hk8.cell m1 HNe.out.1.1).trans q1,(hk8.cell m2 HNe.out.1.2.1).trans q2,(hk8.cell m3 HNe.out.1.2.2).trans q3,(hk8.cell m4 HNe.out.2).trans q4,(hk8.cell m4 HNe.out.2).trans q5⟩
 have hXS:=hXS8
 refine hK _ _ (fun _=>hXS) ?_
 clear hK K ha8 hk8 hXS8
 try simp only[lsz,lss]
 refine tk 12 ?_ (fun _ _=>?_) hXS ?_;rotate_left;· go_simp;try rfl
 simp only[lsz,lss]
 refine wpX_done (by kernel_rfl) ?_
 clear hXS c2 c3 c4 e2 e3
 go_wp2_with fail
 go_ret
 exact⟨rfl,HA8.out,HK8.out⟩
theorem slstore_any (bs f n x ba bw L given k tag:Nat)(Wd xs tags:List Int)(xv:Value)(w:World)(hS:SlM w bs f n x ba)(hA:ArM w ba bw L Wd given)(hB:SlB f n x given)(hT:TagsB Wd f n x tags)(hk:k<n)(hx:xs.length=x)(htag:tag<65536)(hfree:tags.getD k 0 = -1)(hv:HU w xv xs)(hne:bs≠bw):
 Calls Tryz.prog 191 #[.pointer (some ⟨bs,0,none⟩),.int .i64 k,.int .i64 tag,xv] w fun e w'=>e=.returned (.int .i64 0)∧ArM w' ba bw L (putL Wd (f+k * (x+1)) (((tag+1:Nat):Int)::xs)) given∧Keep (· = bw) w w':=by
 have hk0:=(((KW.refl w).alloc (.cells #[.pointer (some ⟨bs,0,none⟩)] 134)).alloc (.cells #[.int .i64 (tag:Int)] 3)).alloc (.cells #[xv] 22)
 have v4:=Var.new w 134 (.pointer (some ⟨bs,0,none⟩))
 have v2:=Var.new (w.alloc (.cells #[.pointer (some ⟨bs,0,none⟩)] 134)) 3 (.int .i64 (tag:Int))
 have v3:=Var.new ((w.alloc (.cells #[.pointer (some ⟨bs,0,none⟩)] 134)).alloc (.cells #[.int .i64 (tag:Int)] 3)) 22 xv
 have s1:(w.alloc (.cells #[.pointer (some ⟨bs,0,none⟩)] 134)).heap.size=w.heap.size+1:=by simp
 have s2:((w.alloc (.cells #[.pointer (some ⟨bs,0,none⟩)] 134)).alloc (.cells #[.int .i64 (tag:Int)] 3)).heap.size=w.heap.size+1+1:=by simp
 rw[s1] at v2
 rw[s2] at v3
 have hbw:=hA.ws.lt
 have hw0:=hT.wd k hk
 rw[hfree] at hw0
 have HC:=hid (slot_any bs f n x ba bw L given k Wd 231 #[.pointer (some ⟨w.heap.size+1,0,none⟩),.pointer (some ⟨w.heap.size+1+1,0,none⟩),.pointer (some ⟨w.heap.size,0,none⟩)]
  (fun e w'=>e=.returned (.int .i64 0)∧ArM w' ba bw L (putL Wd (f+k * (x+1)) (((tag+1:Nat):Int)::xs)) given∧Keep (· = bw) (((w.alloc (.cells #[.pointer (some ⟨bs,0,none⟩)] 134)).alloc (.cells #[.int .i64 (tag:Int)] 3)).alloc (.cells #[xv] 22)) w') _ (hS.kw hk0) (hA.kw hk0) hB hk (fun _ _=>by kernel_rfl)
  (fun e w' h=>⟨0,h.1⟩) (fun W hW=>by
    rw[hw0]
    refine(store1_any (w.heap.size+1) (w.heap.size+1+1) w.heap.size bs f n x ba bw L given (f+k * (x+1)) tag Wd xs xv W (hS.kw (hk0.t hW)) (hA.kw (hk0.t hW)) hx hB.x64 (hB.at_ hk) htag
     ((v2.keep (((KW.refl _).alloc _).keep (own:=fun _=>False)) id).keep (hW.keep (own:=fun _=>False)) id) (v3.keep (hW.keep (own:=fun _=>False)) id) (((v4.keep (((KW.refl _).alloc _).keep (own:=fun _=>False)) id).keep (((KW.refl _).alloc _).keep (own:=fun _=>False)) id).keep (hW.keep (own:=fun _=>False)) id) (hv.kw (hk0.t hW)) ⟨⟨by omega,by omega,by omega⟩,hne⟩).mono fun e w' h=>⟨h.1,h.2.1,hW.kt h.2.2⟩))
 have HK:=hid hk0
 obtain⟨Ax,cx,rfl,_⟩:=hv.row
 rw[hx] at HC HK ⊢
 clear hS hA hB hT hv v2 v3 v4 hk0 s1 s2 hx
 go_enter Tryz.func191,Tryz.ntmps191
 go_wp2_with fail
 refine HC.out.mono ?_
 rintro e w1 ⟨rfl,ha,hk1⟩
 have HA:=hid ha
 have HK1:Hid (Keep (· = bw) w w1):=hid (HK.out.kt hk1)
 clear ha hk1 HC
 go_wp2_with fail
 go_ret
 exact⟨rfl,HA.out,HK1.out⟩
theorem free1_any (g2 bs f n x ba bw L given p:Nat)(fst:Int)(Wd:List Int)(w:World)(hS:SlM w bs f n x ba)(hA:ArM w ba bw L Wd given)(hx64:x≤64)(hp:p+(x+1)≤given)(hf:fst≠0)
 (h2:Var w g2 134 (.pointer (some ⟨bs,0,none⟩))) (hne:g2≠bw∧bs≠bw):
 Calls Tryz.prog 233 #[.int .u64 fst,.int .i64 p,.pointer (some ⟨g2,0,none⟩)] w fun e w'=>e=.returned (.int .i64 0)∧ArM w' ba bw L (putL Wd p (List.replicate (x+1) 0)) given∧Keep (· = bw) w w':=by
 have HW:=hid (fun W v (hW:KW w W) (hu:HU W v (List.replicate (x+1) 0))=>write_any ba bw L given Wd p v _ W (hA.kw hW) (by simp;omega) hu)
 have HSz:=hid (fun W=>psize_any f n x W ⟨by omega,by omega⟩)
 unfold plv at HSz
 have HNe:=hid hne
 have HSA:Hid (∀ W,KW w W→((W.cell? ⟨g2,0,none⟩=some (.pointer (some ⟨bs,0,none⟩))∧W.cell? ⟨bs,0,none⟩=some (.int .i64 (f:Int))∧W.cell? ⟨bs,1,none⟩=some (.int .i64 (n:Int))∧W.cell? ⟨bs,2,none⟩=some (.int .i64 (x:Int))∧W.cell? ⟨bs,3,none⟩=some (.pointer (some ⟨ba,0,none⟩)))∧g2<W.heap.size∧bs<W.heap.size)):=hid fun W hW=>by
  have k2:=h2.keep (hW.keep (own:=fun _=>False)) id
  obtain⟨q,q0,q1,q2,q3⟩:=(hS.kw hW).cells
  exact⟨⟨k2.cell,q0,q1,q2,q3⟩,k2.lt,q⟩
 have hmk:∀ W,(Instr.makeSlice 22 (.int .i64 ((x:Int)+1)) (.int .i64 ((x:Int)+1))).run Tryz.prog W=.ok (.slice (some ⟨W.heap.size,0,none⟩) (x+1) (x+1)) (W.alloc (.cells (madeCells #[.int .u64 0] (x+1)) 81)):=fun W=>run_make_row' (P:=Tryz.prog) 22 81 (.int .u64 0) 8 Tryz.underlying22 (by kernel_rfl) rfl .i64 .i64 (x+1) (by omega) (by omega) W
 have hown:∀ W:World,Owns (W.alloc (.cells (madeCells #[.int .u64 0] (x+1)) 81)) W.heap.size 81 (.slice (some ⟨W.heap.size,0,none⟩) (x+1) (x+1)) (u64s (List.replicate (x+1) 0)):=fun W=>by
  have hl:(u64s (List.replicate (x+1) (0:Int))).length=x+1:=by simp[u64s]
  unfold Owns
  rw[hl]
  exact⟨by rw[hl];omega,.inr ⟨W.heap.size,x+1,madeCells #[.int .u64 0] (x+1),rfl,Nat.le_refl _,heap_alloc_new W _,Nat.le_refl _,by unfold maxLen;omega,by rw[size_madeCells];omega,by rw[toList_madeCells_one];simp[u64s]⟩⟩
 have HOwn:=hid hown
 have hfb:(fst==0)=false:=beq_eq_false_iff_ne.2 hf
 clear hS hA h2 hne hown hf
 go_enter Tryz.func233,Tryz.ntmps233
 go_wp2_with fail
 have hXS:=(HSA.out w.drew (KW.refl w).drew).1
 refine wpX_region (S:=fun w'=>w'.cell? ⟨g2,0,none⟩=some (.pointer (some ⟨bs,0,none⟩))∧w'.cell? ⟨bs,0,none⟩=some (.int .i64 (f:Int))∧w'.cell? ⟨bs,1,none⟩=some (.int .i64 (n:Int))∧w'.cell? ⟨bs,2,none⟩=some (.int .i64 (x:Int))∧w'.cell? ⟨bs,3,none⟩=some (.pointer (some ⟨ba,0,none⟩))) (L:=99) (by kernel_rfl) ?_
 refine tk 0 ?_ (fun _ _=>?_) hXS ?_;rotate_left;· go_simp;try rfl
 simp only[lsz,lss]
 refine tk 1 ?_ (fun _ _=>?_) hXS ?_;rotate_left;· go_simp;try rfl
 simp only[lsz,lss]
 refine tk 2 ?_ (fun _ _=>?_) hXS ?_;rotate_left;· go_simp;try rfl
 simp only[lsz,lss]
 refine tk 3 ?_ (fun _ _=>?_) hXS ?_;rotate_left;· go_simp;try rfl
 simp only[lsz,lss]
 refine tk 4 ?_ (fun _ _=>?_) hXS ?_;rotate_left;· go_simp;try rfl
 simp only[lsz,lss]
 refine tk 5 ?_ (fun _ _=>?_) hXS ?_;rotate_left;· go_simp;try rfl
 simp only[lsz,lss]
 refine tk 6 ?_ (fun _ _=>?_) hXS ?_;rotate_left;· go_simp;try rfl
 simp only[lsz,lss]
 refine tk 7 ?_ (fun _ _=>?_) hXS ?_;rotate_left;· go_simp;try rfl
 simp only[lsz,lss]
 refine tk 8 ?_ (fun _ _=>?_) hXS ?_;rotate_left;· go_simp;try rfl
 simp only[lsz,lss]
 refine wpX_hard (k:=9) (by kernel_rfl) rfl (fun K hK=>?_)
 go_simp
 refine(HSz.out _).mono ?_
 rintro e w2 ⟨rfl,hk2⟩
 have HK2:Hid (KW w w2):=hid ((KW.refl w).drew.t hk2)
 have hXS:=(HSA.out w2 HK2.out).1
 refine hK _ _ (fun _=>hXS) ?_
 clear hK K hk2
 try simp only[lsz,lss]
 refine wpX_hard (k:=10) (by kernel_rfl) rfl (fun K hK=>?_)
 go_simp
 have HK3:Hid (KW w (w2.alloc (.cells (madeCells #[.int .u64 0] (x+1)) 81))):=hid (HK2.out.alloc _)
 have hXS:=(HSA.out _ HK3.out).1
 refine hK _ _ (fun _=>hXS) ?_
 clear hK K
 try simp only[lsz,lss]
 refine wpX_hard (k:=11) (by kernel_rfl) rfl (fun K hK=>?_)
 go_simp
 refine(HW.out _ _ HK3.out (HOwn.out w2).hu).mono ?_
 rintro e w8 ⟨rfl,ha8,hk8⟩
 have HA8:=hid ha8
 have HK8:Hid (Keep (· = bw) w w8):=hid (HK3.out.keep.t hk8)
 have hXS8:(w8.cell? ⟨g2,0,none⟩=some (.pointer (some ⟨bs,0,none⟩))∧w8.cell? ⟨bs,0,none⟩=some (.int .i64 (f:Int))∧w8.cell? ⟨bs,1,none⟩=some (.int .i64 (n:Int))∧w8.cell? ⟨bs,2,none⟩=some (.int .i64 (x:Int))∧w8.cell? ⟨bs,3,none⟩=some (.pointer (some ⟨ba,0,none⟩))):=by
  obtain⟨⟨q1,q2,q3,q4,q5⟩,m1,m2⟩:=HSA.out _ HK3.out
  exact⟨(hk8.cell m1 HNe.out.1).trans q1,(hk8.cell m2 HNe.out.2).trans q2,(hk8.cell m2 HNe.out.2).trans q3,(hk8.cell m2 HNe.out.2).trans q4,(hk8.cell m2 HNe.out.2).trans q5⟩
 have hXS:=hXS8
 refine hK _ _ (fun _=>hXS) ?_
 clear hK K ha8 hk8 hXS8
 try simp only[lsz,lss]
 refine tk 12 ?_ (fun _ _=>?_) hXS ?_;rotate_left;· go_simp;try rfl
 simp only[lsz,lss]
 refine wpX_done (by kernel_rfl) ?_
 clear hXS
 go_wp2_with fail
 go_ret
 exact⟨rfl,HA8.out,HK8.out⟩
theorem slfree_any (bs f n x ba bw L given k:Nat)(Wd tags:List Int)(w:World)(hS:SlM w bs f n x ba)(hA:ArM w ba bw L Wd given)(hB:SlB f n x given)(hT:TagsB Wd f n x tags)(hk:k<n)(hfull:0≤tags.getD k 0)(hne:bs≠bw):
 Calls Tryz.prog 193 #[.pointer (some ⟨bs,0,none⟩),.int .i64 k] w fun e w'=>e=.returned (.int .i64 0)∧ArM w' ba bw L (putL Wd (f+k * (x+1)) (List.replicate (x+1) 0)) given∧Keep (· = bw) w w':=by
 have hk0:=(KW.refl w).alloc (.cells #[.pointer (some ⟨bs,0,none⟩)] 134)
 have v4:=Var.new w 134 (.pointer (some ⟨bs,0,none⟩))
 have hbw:=hA.ws.lt
 have hw0:=hT.wd k hk
 have HC:=hid (slot_any bs f n x ba bw L given k Wd 233 #[.pointer (some ⟨w.heap.size,0,none⟩)]
  (fun e w'=>e=.returned (.int .i64 0)∧ArM w' ba bw L (putL Wd (f+k * (x+1)) (List.replicate (x+1) 0)) given∧Keep (· = bw) (w.alloc (.cells #[.pointer (some ⟨bs,0,none⟩)] 134)) w') _ (hS.kw hk0) (hA.kw hk0) hB hk (fun _ _=>by kernel_rfl)
  (fun e w' h=>⟨0,h.1⟩) (fun W hW=>
    (free1_any w.heap.size bs f n x ba bw L given (f+k * (x+1)) (Wd.getD (f+k * (x+1)) 0) Wd W (hS.kw (hk0.t hW)) (hA.kw (hk0.t hW)) hB.x64 (hB.at_ hk) (by rw[hw0];omega) (v4.keep (hW.keep (own:=fun _=>False)) id) ⟨by omega,hne⟩).mono fun e w' h=>⟨h.1,h.2.1,hW.kt h.2.2⟩))
 have HK:=hid hk0
 clear hS hA hB hT v4 hk0
 go_enter Tryz.func193,Tryz.ntmps193
 go_wp2_with fail
 refine HC.out.mono ?_
 rintro e w1 ⟨rfl,ha,hk1⟩
 have HA:=hid ha
 have HK1:Hid (Keep (· = bw) w w1):=hid (HK.out.kt hk1)
 clear ha hk1 HC
 go_wp2_with fail
 go_ret
 exact⟨rfl,HA.out,HK1.out⟩
section
variable {P : Program} {ops : Array Oper} {Q : Exit → Act → World → Prop} {md : Region.Mode} {S : World → Prop} {L : Nat}
theorem wpX_two {i j:Nat}{oi oj:Oper}{n:Nat}{l:Array Bool}{a:Act}{w:World}(hr:Region.ready md ops l=[i,j])(hoi:ops[i]?=some oi)(hoj:ops[j]?=some oj)
 (hi:∀ K:Act→World→Prop,(∀ a' w',(i≠L→S w')→wpX P md ops Q S L n (l.setIfInBounds i true) a' w'→K a' w') →
   if Region.wanted oi (yielded ops a.tmps)=true then Oper.wp P oi a w K Q else K (a.put oi.dst undef) w)
 (hj:∀ K:Act→World→Prop,(∀ a' w',(j≠L→S w')→wpX P md ops Q S L n (l.setIfInBounds j true) a' w'→K a' w') →
   if Region.wanted oj (yielded ops a.tmps)=true then Oper.wp P oj a w K Q else K (a.put oj.dst undef) w):wpX P md ops Q S L (n+1) l a w:=by
 refine⟨fun h0=>(by rw[hr] at h0;cases h0),fun k hk=>?_⟩
 rw[hr] at hk
 have key:∀ (k:Nat) (o:Oper),ops[k]?=some o→(∀ K:Act→World→Prop,(∀ a' w',(k≠L→S w')→wpX P md ops Q S L n (l.setIfInBounds k true) a' w'→K a' w') →
  if Region.wanted o (yielded ops a.tmps)=true then Oper.wp P o a w K Q else K (a.put o.dst undef) w)→wpOp P ops Q k (fun a' w'=>(k≠L→S w')∧wpX P md ops Q S L n (l.setIfInBounds k true) a' w') a w:=by
  intro k o ho h
  have h1:=h (fun a' w'=>(k≠L→S w')∧wpX P md ops Q S L n (l.setIfInBounds k true) a' w') (fun a' w' hS hx=>⟨hS,hx⟩)
  unfold wpOp
  simp only[ho]
  split
  ·rename_i hw
   rw[if_pos hw] at h1
   exact .inl h1
  ·rename_i hw
   rwa [if_neg hw] at h1
 rcases(show k=i∨k=j by simpa using hk) with rfl|rfl
 ·exact key _ oi hoi hi
 ·exact key _ oj hoj hj
end
theorem Keep.cs {own:Nat→Prop}{w w':World}{b o:Nat}{v:Value}(h:Keep own w w')(hn:¬ own b)(c:w.cell? ⟨b,o,none⟩=some v):w'.cell? ⟨b,o,none⟩=some v:=by
 by_cases hb:b<w.heap.size
 ·rw[h.cell hb hn];exact c
 ·unfold World.cell? at c
  simp[show w.heap[b]?=none from Array.getElem?_eq_none (by omega)] at c
def Rst (w:World)(g2 g5:Nat)(tag:Int)(xs:List Int)(e:Ending)(w':World):Prop:=e=.returned (.int .i64 0)∧Keep (fun b=>b=g2∨b=g5) w w'∧Var w' g2 3 (.int .i64 tag)∧∃ v,Var w' g5 22 v∧Owns w' w.heap.size 81 v (u64s xs)
theorem restore1_any (g2 g3 g5 bs f n x ba bw L given p:Nat)(tag:Int)(Wd:List Int)(w:World)(hS:SlM w bs f n x ba)(hA:ArM w ba bw L Wd given)(hx64:x≤64)(hp:p+(x+1)≤given)(h0:0≤tag)(h1:tag≤65535)
 (h2:Var w g2 3 (.int .i64 0)) (h3:Var w g3 134 (.pointer (some ⟨bs,0,none⟩))) (h5:Var w g5 22 (.slice none 0 0)) (hne:(g2≠g3∧g2≠g5∧g3≠g5)∧bs≠g2∧bs≠g5∧ba≠g2∧bw≠g2):
 Calls Tryz.prog 232 #[.int .u64 (tag+1),.int .i64 p,.pointer (some ⟨g2,0,none⟩),.pointer (some ⟨g3,0,none⟩),.pointer (some ⟨g5,0,none⟩)] w (Rst w g2 g5 tag (getL Wd (p+1) x)):=by
 have hgiv:=hA.gl
 have hll:=hA.ll
 have k2:Keep (· = g2) w (w.setCell ⟨g2,0,none⟩ (.int .i64 tag)):=(Keep.refl _ w).setCell _ _ rfl
 have hA2:=hA.keep k2 hne.2.2.2.1 hne.2.2.2.2
 have hS2:=hS.keep k2 hne.2.1
 have v2:=h2.set (.int .i64 tag)
 have v3:=h3.keep k2 (Ne.symm hne.1.1)
 have v5:=h5.keep k2 (Ne.symm hne.1.2.1)
 have HRd:=hid (fun W (hW:KW (w.setCell ⟨g2,0,none⟩ (.int .i64 tag)) W)=>read_any ba bw L given Wd (p+1) x W (hA2.kw hW) (by omega))
 have HSA:Hid (∀ W,KW (w.setCell ⟨g2,0,none⟩ (.int .i64 tag)) W→((W.cell? ⟨g3,0,none⟩=some (.pointer (some ⟨bs,0,none⟩))∧W.cell? ⟨bs,2,none⟩=some (.int .i64 (x:Int))∧W.cell? ⟨bs,3,none⟩=some (.pointer (some ⟨ba,0,none⟩)))∧Var W g5 22 (.slice none 0 0)∧Var W g2 3 (.int .i64 tag))):=hid fun W hW=>by
  obtain⟨q,q0,q1,q2,q3⟩:=(hS2.kw hW).cells
  exact⟨⟨(v3.keep (hW.keep (own:=fun _=>False)) id).cell,q2,q3⟩,v5.keep (hW.keep (own:=fun _=>False)) id,v2.keep (hW.keep (own:=fun _=>False)) id⟩
 have HK2:=hid k2
 have HNe:=hid hne
 have hsz:(w.setCell ⟨g2,0,none⟩ (.int .i64 tag)).heap.size=w.heap.size:=by simp
 have HSz:=hid hsz
 have H5l:=hid h5.lt
 have c2:=h2.cell
 have f2:=h2.frozen
 have hwr:IntKind.i64.wrap (tag+1)=tag+1:=IntWalk.i64_in _ (by omega)
 have hsub:tag+1 - 1=tag:=by omega
 have e0:(tag+1==0)=false:=beq_eq_false_iff_ne.2 (by omega)
 have hp4:p≤1048576:=by omega
 unfold Rst
 clear hS hA h3 h5 hne hA2 hS2 v2 v3 v5 k2 hsz h2
 go_enter Tryz.func232,Tryz.ntmps232
 go_wp2_with fail
 have hXS:=(HSA.out (w.setCell ⟨g2,0,none⟩ (.int .i64 tag)).drew (KW.refl _).drew).1
 refine wpX_region (S:=fun w'=>w'.cell? ⟨g3,0,none⟩=some (.pointer (some ⟨bs,0,none⟩))∧w'.cell? ⟨bs,2,none⟩=some (.int .i64 (x:Int))∧w'.cell? ⟨bs,3,none⟩=some (.pointer (some ⟨ba,0,none⟩))) (L:=15) (by kernel_rfl) ?_
 refine tk 0 ?_ (fun _ _=>?_) hXS ?_;rotate_left;· go_simp;try rfl
 simp only[lsz,lss]
 refine tk 1 ?_ (fun _ _=>?_) hXS ?_;rotate_left;· go_simp;try rfl
 simp only[lsz,lss]
 refine tk 2 ?_ (fun _ _=>?_) hXS ?_;rotate_left;· go_simp;try rfl
 simp only[lsz,lss]
 refine tk 3 ?_ (fun _ _=>?_) hXS ?_;rotate_left;· go_simp;try rfl
 simp only[lsz,lss]
 refine tk 4 ?_ (fun _ _=>?_) hXS ?_;rotate_left;· go_simp;try rfl
 simp only[lsz,lss]
 refine tk 5 ?_ (fun _ _=>?_) hXS ?_;rotate_left;· go_simp;try rfl
 simp only[lsz,lss]
 refine tk 6 ?_ (fun _ _=>?_) hXS ?_;rotate_left;· go_simp;try rfl
 simp only[lsz,lss]
 refine tk 7 ?_ (fun _ _=>?_) hXS ?_;rotate_left;· go_simp;try rfl
 simp only[lsz,lss]
 refine tk 8 ?_ (fun _ _=>?_) hXS ?_;rotate_left;· go_simp;try rfl
 simp only[lsz,lss]
 refine tk 9 ?_ (fun _ _=>?_) hXS ?_;rotate_left;· go_simp;try rfl
 simp only[lsz,lss]
 refine tk 10 ?_ (fun _ _=>?_) hXS ?_;rotate_left;· go_simp;try rfl
 simp only[lsz,lss]
 refine wpX_hard (k:=11) (by kernel_rfl) rfl (fun K hK=>?_)
 go_simp
 rw[show IntKind.i64.wrap ((p:Int)+1)=((p+1:Nat):Int) from by rw[IntWalk.i64_in _ (by omega)];rfl]
 refine(HRd.out _ (KW.refl _).drew).mono ?_
 rintro e w3 ⟨v,rfl,ho,hk3⟩
 have hk3':KW (w.setCell ⟨g2,0,none⟩ (.int .i64 tag)) w3:=(KW.refl _).drew.t hk3
 have HK3:=hid hk3'
 have HO3:Hid (Owns w3 w.heap.size 81 v (u64s (getL Wd (p+1) x))):=hid (ho.base (by show w.heap.size≤_;rw[← HSz.out];exact Nat.le_refl _))
 obtain⟨hXS,v5,v2⟩:=HSA.out w3 hk3'
 obtain⟨Av,cv,rfl,hcv⟩:=HO3.out.row
 obtain⟨NL,eNL⟩:∃ n,(u64s (getL Wd (p+1) x)).length=n:=⟨_,rfl⟩
 rw[eNL] at hcv
 refine hK _ _ (fun _=>hXS) ?_
 simp only[eNL]
 clear hK K hk3 hk3' ho
 try simp only[lsz,lss]
 refine tk 12 ?_ (fun _ _=>?_) hXS ?_;rotate_left;· go_simp;try rfl
 simp only[lsz,lss]
 refine tk 13 ?_ (fun _ _=>?_) hXS ?_;rotate_left;· go_simp;try rfl
 simp only[lsz,lss]
 have HO3':Hid (Owns w3 w.heap.size 81 (.slice Av NL cv) (u64s (getL Wd (p+1) x))):=hid (by rw[← eNL];exact HO3.out)
 have c5:=v5.cell
 have f5:=v5.frozen
 have kg:Keep (· = g5) w3 (w3.setCell ⟨g5,0,none⟩ (.slice Av NL cv)):=(Keep.refl _ w3).setCell _ _ rfl
 have HF:Hid (Keep (fun b=>b=g2∨b=g5) w (w3.setCell ⟨g5,0,none⟩ (.slice Av NL cv))∧Var (w3.setCell ⟨g5,0,none⟩ (.slice Av NL cv)) g2 3 (.int .i64 tag)∧∃ v',Var (w3.setCell ⟨g5,0,none⟩ (.slice Av NL cv)) g5 22 v'∧Owns (w3.setCell ⟨g5,0,none⟩ (.slice Av NL cv)) w.heap.size 81 v' (u64s (getL Wd (p+1) x))):=
  hid ⟨((HK2.out.mono (own':=fun b=>b=g2∨b=g5) fun i _ h=>.inl h).kwt HK3.out).t (kg.mono fun i _ h=>.inr h),v2.keep kg HNe.out.1.2.1,.slice Av NL cv,v5.set _,kg.owns HO3'.out fun b hb h=>by have:=(HO3'.out.lt hb).1;have:=H5l.out;omega⟩
 have hXS5:(w3.setCell ⟨g5,0,none⟩ (.slice Av NL cv)).cell? ⟨g3,0,none⟩=some (.pointer (some ⟨bs,0,none⟩))∧(w3.setCell ⟨g5,0,none⟩ (.slice Av NL cv)).cell? ⟨bs,2,none⟩=some (.int .i64 (x:Int))∧(w3.setCell ⟨g5,0,none⟩ (.slice Av NL cv)).cell? ⟨bs,3,none⟩=some (.pointer (some ⟨ba,0,none⟩)):=by
  obtain⟨ha,hb,hc⟩:=hXS
  obtain⟨_,_,n3⟩:=HNe.out.1
  have n4:=HNe.out.2.2.1
  exact⟨kg.cs (fun h=>n3 h) ha,kg.cs (fun h=>n4 h) hb,kg.cs (fun h=>n4 h) hc⟩
 clear kg v5 v2
 refine wpX_two (i:=14) (j:=15) (by kernel_rfl) rfl rfl (fun K hK=>?_) (fun K hK=>?_)
 ·go_simp
  refine hK _ _ (fun _=>hXS) ?_
  clear hK K
  try simp only[lsz,lss]
  refine wpX_hard (k:=15) (by kernel_rfl) rfl (fun K hK=>?_)
  go_simp
  refine hK _ _ (fun h=>absurd rfl h) ?_
  clear hK K
  try simp only[lsz,lss]
  refine wpX_done (by kernel_rfl) ?_
  clear hXS hXS5
  go_wp2_with fail
  go_ret
  exact⟨rfl,HF.out⟩
 ·go_simp
  refine hK _ _ (fun h=>absurd rfl h) ?_
  clear hK K
  try simp only[lsz,lss]
  refine wpX_hard (k:=14) (by kernel_rfl) rfl (fun K hK=>?_)
  go_simp
  refine hK _ _ (fun _=>hXS5) ?_
  clear hK K
  try simp only[lsz,lss]
  refine wpX_done (by kernel_rfl) ?_
  clear hXS hXS5
  go_wp2_with fail
  go_ret
  exact⟨rfl,HF.out⟩
theorem results_two_tmp {P:Program}{fn:Func}{p q r:Tmp}{t1 t2:TypeId}(h:fn.results=#[.cell p t1,.cell q t2,.tmp r])(tmps:Array Value)(w:World)(g1 g2:Addr)(u1 u2:Value)(d1 d2:TypeDesc)
 (hp:tmps.getD p undef=.pointer (some g1)) (hc1:w.cell? g1=some u1) (hu1:P.underlying t1=some d1) (hd1:(match d1 with | .struct _ | .array _ _=>false | _=>true)=true)
 (hq:tmps.getD q undef=.pointer (some g2)) (hc2:w.cell? g2=some u2) (hu2:P.underlying t2=some d2) (hd2:(match d2 with | .struct _ | .array _ _=>false | _=>true)=true):
 (results fn tmps).run P w=.ok (.tuple #[u1,u2,tmps.getD r undef]) w:=by
 have hp':tmps[p]?.getD undef=.pointer (some g1):=by simpa using hp
 have hq':tmps[q]?.getD undef=.pointer (some g2):=by simpa using hq
 simp[results,h,hp',hq',asAddr,run_loadVar_one w g1 t1 u1 d1 hc1 hu1 hd1,run_loadVar_one w g2 t2 u2 d2 hc2 hu2 hd2]
theorem Var.self {w:World}{g:Nat}{t:TypeId}{v:Value}(h:Var w g t v):w.setCell ⟨g,0,none⟩ v=w:=by
 have h1:=h.set v
 have hb:w.heap[g]?=some (.cells #[v] t (0,0)):=h
 have h2:=heap_setCell_same w g 0 #[v] t v hb
 rw[show(#[v]:Array Value).setIfInBounds 0 v=#[v] from rfl] at h2
 have hh:(w.setCell ⟨g,0,none⟩ v).heap=w.heap:=by
  apply Array.ext_getElem?
  intro i
  by_cases e:i=g
  ·subst e;rw[h2,hb]
  ·exact heap_setCell_other w ⟨g,0,none⟩ i v e
 have:w.setCell ⟨g,0,none⟩ v = { w with heap:=(w.setCell ⟨g,0,none⟩ v).heap }:=rfl
 rw[this,hh]
theorem slrestore_any (bs f n x ba bw L given k:Nat)(Wd tags:List Int)(w:World)(hS:SlM w bs f n x ba)(hA:ArM w ba bw L Wd given)(hB:SlB f n x given)(hT:TagsB Wd f n x tags)(hk:k<n)(hfull:0≤tags.getD k 0):
 Calls Tryz.prog 192 #[.pointer (some ⟨bs,0,none⟩),.int .i64 k] w fun e w'=>∃ v,e=.returned (.tuple #[.int .i64 (tags.getD k 0),v,.int .i64 0])∧Owns w' w.heap.size 81 v (u64s (getL Wd (f+k * (x+1)+1) x))∧KW w w':=by
 have hk0:=(((KW.refl w).alloc (.cells #[.pointer (some ⟨bs,0,none⟩)] 134)).alloc (.cells #[.int .i64 0] 3)).alloc (.cells #[.slice none 0 0] 22)
 have v3:=Var.new w 134 (.pointer (some ⟨bs,0,none⟩))
 have v2:=Var.new (w.alloc (.cells #[.pointer (some ⟨bs,0,none⟩)] 134)) 3 (.int .i64 0)
 have v5:=Var.new ((w.alloc (.cells #[.pointer (some ⟨bs,0,none⟩)] 134)).alloc (.cells #[.int .i64 0] 3)) 22 (.slice none 0 0)
 have s1:(w.alloc (.cells #[.pointer (some ⟨bs,0,none⟩)] 134)).heap.size=w.heap.size+1:=by simp
 have s2:((w.alloc (.cells #[.pointer (some ⟨bs,0,none⟩)] 134)).alloc (.cells #[.int .i64 0] 3)).heap.size=w.heap.size+1+1:=by simp
 have s3:(((w.alloc (.cells #[.pointer (some ⟨bs,0,none⟩)] 134)).alloc (.cells #[.int .i64 0] 3)).alloc (.cells #[.slice none 0 0] 22)).heap.size=w.heap.size+1+1+1:=by simp
 rw[s1] at v2
 rw[s2] at v5
 have hbw:=hA.ws.lt
 have hba:=hA.st.lt
 have hbs:=hS.cells.1
 have hw0:=hT.wd k hk
 have htop:=(hT.lo k hk).2
 generalize tags.getD k 0=tag at *
 have HC:=hid (slot_any bs f n x ba bw L given k Wd 232 #[.pointer (some ⟨w.heap.size+1,0,none⟩),.pointer (some ⟨w.heap.size,0,none⟩),.pointer (some ⟨w.heap.size+1+1,0,none⟩)]
  (fun e w'=>e=.returned (.int .i64 0)∧KW w w'∧Var w' (w.heap.size+1) 3 (.int .i64 tag)∧∃ v,Var w' (w.heap.size+1+1) 22 v∧Owns w' (w.heap.size+1+1+1) 81 v (u64s (getL Wd (f+k * (x+1)+1) x))) _ (hS.kw hk0) (hA.kw hk0) hB hk (fun _ _=>by kernel_rfl)
  (fun e w' h=>⟨0,h.1⟩) (fun W hW=>by
    rw[hw0]
    refine(restore1_any (w.heap.size+1) w.heap.size (w.heap.size+1+1) bs f n x ba bw L given (f+k * (x+1)) tag Wd W (hS.kw (hk0.t hW)) (hA.kw (hk0.t hW)) hB.x64 (hB.at_ hk) hfull htop
     ((v2.keep (((KW.refl _).alloc _).keep (own:=fun _=>False)) id).keep (hW.keep (own:=fun _=>False)) id) (((v3.keep (((KW.refl _).alloc _).keep (own:=fun _=>False)) id).keep (((KW.refl _).alloc _).keep (own:=fun _=>False)) id).keep (hW.keep (own:=fun _=>False)) id) (v5.keep (hW.keep (own:=fun _=>False)) id) ⟨⟨by omega,by omega,by omega⟩,by omega,by omega,by omega,by omega⟩).mono ?_
    rintro e w' ⟨rfl,hk1,q2,v,q5,qo⟩
    exact⟨rfl,(hk0.t hW).kept hk1 fun i hi=>by omega,q2,v,q5,qo.base (by rw[← s3];exact hW.size)⟩))
 clear hS hA hB hT v2 v3 v5 hk0 s1 s2 s3 hbw hba hbs hw0 htop
 go_enter Tryz.func192,Tryz.ntmps192
 go_wp2_with fail
 refine HC.out.mono ?_
 rintro e w1 ⟨rfl,hk1,h2,v,h5,ho⟩
 obtain⟨Av,cv,rfl,hcv⟩:=ho.row
 have HK:=hid hk1
 have HO:=hid ho
 have HS2:=hid h2.self
 have HS5:=hid h5.self
 have H2:=hid h2
 have H5:=hid h5
 have c2:=h2.cell
 have f2:=h2.frozen
 have c5:=h5.cell
 have f5:=h5.frozen
 clear hk1 ho h2 h5 HC
 obtain⟨NL,eNL⟩:∃ n,(u64s (getL Wd (f+k * (x+1)+1) x)).length=n:=⟨_,rfl⟩
 rw[eNL] at HO HS5 H5 c5
 clear eNL hcv
 go_wp2_with fail
 go_region
 rw[HS2.out,HS5.out]
 go_wp2_with fail
 exact bodyPost_ret (results_two_tmp rfl _ _ _ _ _ _ _ _ rfl (H2.out.cell) Tryz.underlying3 rfl rfl (H5.out.cell) Tryz.underlying22 rfl) rfl ⟨_,rfl,HO.out.base (by omega),HK.out.drew⟩
def PlR (w:World)(b:Nat)(f n x:Int):Prop:=w.rowIs b 193 3 (fun i=>(plv f n x).getD i undef)
theorem PlR.cells {w:World}{b:Nat}{f n x:Int}(h:PlR w b f n x):b<w.heap.size∧w.cell? ⟨b,0,none⟩=some (.int .i64 f)∧w.cell? ⟨b,1,none⟩=some (.int .i64 n)∧w.cell? ⟨b,2,none⟩=some (.int .i64 x)∧w.frozen? ⟨b,0,none⟩=false:=
 ⟨World.rowIs.lt h,World.rowIs.cell h (i:=0) (by omega),World.rowIs.cell h (i:=1) (by omega),World.rowIs.cell h (i:=2) (by omega),World.rowIs.frozen h 0⟩
theorem sltNew_any (ba bw L given n x:Nat)(Wd:List Int)(w:World)(hA:ArM w ba bw L Wd given)(hn:n≤1048576)(hx1:1≤x)(hx64:x≤64)(hfit:given+n * (x+1)≤L):
 Calls Tryz.prog 104 #[.pointer (some ⟨ba,0,none⟩),.int .i64 n,.int .i64 x] w fun e w'=>∃ bs,e=.returned (.tuple #[.pointer (some ⟨bs,0,none⟩),.int .i64 0])∧w.heap.size≤bs∧SlM w' bs given n x ba∧ArM w' ba bw L (putL Wd given (List.replicate (n * (x+1)) 0)) (given+n * (x+1))∧Keep (fun b=>b=ba∨b=bw) w w':=by
 have hll:=hA.ll
 have hba:=hA.st.lt
 have hbw:=hA.ws.lt
 have hmay:Hid (∀ W,Calls Tryz.prog 140 #[.agg #[.int .i64 0,.int .i64 n,.int .i64 x]] W fun e w'=>e=.returned (.bool true)∧KW W w'):=hid (fun W=>by
  have HK:=hid ((KW.refl W).alloc (.cells #[.int .i64 0,.int .i64 n,.int .i64 x] 193))
  have d1:decide ((0:Int)≤(n:Int))=true:=decide_eq_true (by omega)
  have d2:decide ((n:Int)≤1048576)=true:=decide_eq_true (by omega)
  have d3:decide ((1:Int)≤(x:Int))=true:=decide_eq_true (by omega)
  have d4:decide ((x:Int)≤64)=true:=decide_eq_true (by omega)
  go_enter Tryz.func140,Tryz.ntmps140
  go_wp2_with fail
  go_ret
  exact⟨rfl,HK.out⟩)
 have HSz:=hid (fun f W=>psize_any f n x W ⟨by omega,by omega⟩)
 unfold plv at HSz
 have hmul:IntKind.i64.wrap ((n:Int) * ((x:Int)+1))=((n * (x+1):Nat):Int):=by
  rw[show(n:Int) * ((x:Int)+1)=((n * (x+1):Nat):Int) by push_cast;rfl]
  exact IntWalk.i64_in _ (by omega)
 obtain⟨N,eN⟩:∃ N,n * (x+1)=N:=⟨_,rfl⟩
 rw[eN] at hmul hfit ⊢
 have hN:N≤1048576:=by omega
 have HT:=hid (fun W (hW:KW w W)=>arTake_any ba bw L given Wd N W (hA.kw hW) hfit)
 have HW:=hid (fun W v (hW:ArM W ba bw L Wd (given+N)) (hu:HU W v (List.replicate N 0))=>write_any ba bw L (given+N) Wd given v _ W hW (by simp) hu)
 have hmk:∀ W,(Instr.makeSlice 22 (.int .i64 N) (.int .i64 N)).run Tryz.prog W=.ok (.slice (some ⟨W.heap.size,0,none⟩) N N) (W.alloc (.cells (madeCells #[.int .u64 0] N) 81)):=fun W=>run_make_row' (P:=Tryz.prog) 22 81 (.int .u64 0) 8 Tryz.underlying22 (by kernel_rfl) rfl .i64 .i64 N (by omega) (by omega) W
 have hown:∀ W:World,Owns (W.alloc (.cells (madeCells #[.int .u64 0] N) 81)) W.heap.size 81 (.slice (some ⟨W.heap.size,0,none⟩) N N) (u64s (List.replicate N 0)):=fun W=>by
  have hl:(u64s (List.replicate N (0:Int))).length=N:=by simp[u64s]
  unfold Owns
  rw[hl]
  exact⟨by rw[hl];omega,.inr ⟨W.heap.size,N,madeCells #[.int .u64 0] N,rfl,Nat.le_refl _,heap_alloc_new W _,Nat.le_refl _,by unfold maxLen;omega,by rw[size_madeCells];omega,by rw[toList_madeCells_one];simp[u64s]⟩⟩
 have HOwn:=hid hown
 have HK0:=hid ((KW.refl w).alloc (.cells #[.int .i64 0,.int .i64 n,.int .i64 x] 193))
 have hpl:PlR (w.alloc (.cells #[.int .i64 0,.int .i64 n,.int .i64 x] 193)) w.heap.size 0 n x:=World.rowIs_alloc _ #[.int .i64 0,.int .i64 n,.int .i64 x] 193 _ fun i hi=>by
  simp at hi
  rcases(show i=0∨i=1∨i=2 by omega) with rfl|rfl|rfl<;>rfl
 have HPl:=hid hpl
 have HB:=hid (And.intro hba hbw)
 clear hA hfit hown hpl hn hll eN hba hbw
 go_enter Tryz.func104,Tryz.ntmps104
 go_wp2_with fail
 refine(hmay.out _).mono ?_
 rintro e w1 ⟨rfl,hk1⟩
 have HK1:Hid (KW w w1):=hid (HK0.out.t hk1)
 have HP1:Hid (PlR w1 w.heap.size 0 n x):=hid (KW.row hk1 HPl.out.cells.1 HPl.out)
 obtain⟨pb,p0,p1,p2,pf⟩:=HP1.out.cells
 clear hk1 hmay
 go_wp2_with fail
 refine(HSz.out 0 w1).mono ?_
 rintro e w2 ⟨rfl,hk2⟩
 have HK2:Hid (KW w w2):=hid (HK1.out.t hk2)
 have HP2:Hid (PlR w2 w.heap.size 0 n x):=hid (KW.row hk2 HP1.out.cells.1 HP1.out)
 clear hk2 pb p0 p1 p2 pf
 go_wp2_with fail
 refine(HT.out w2 HK2.out).mono ?_
 rintro e w3 ⟨rfl,ha3,hk3⟩
 have HA3:=hid ha3
 have HK3:Hid (Keep (· = ba) w w3):=hid (HK2.out.kt hk3)
 have HP3:Hid (PlR w3 w.heap.size 0 n x):=hid (Keep.row hk3 (by have:=HB.out.1;omega) HP2.out)
 obtain⟨pb,p0,p1,p2,pf⟩:=HP3.out.cells
 have pf1:w3.frozen? ⟨w.heap.size,1,none⟩=false:=World.rowIs.frozen HP3.out 1
 have pf2:w3.frozen? ⟨w.heap.size,2,none⟩=false:=World.rowIs.frozen HP3.out 2
 have hset:PlR (w3.setCell ⟨w.heap.size,0,none⟩ (.int .i64 given)) w.heap.size given n x:=(World.rowIs.set HP3.out 0 (.int .i64 given)).congr fun i hi=>by
  rcases(show i=0∨i=1∨i=2 by omega) with rfl|rfl|rfl<;>rfl
 have HS3:=hid hset
 have hks:Keep (· = w.heap.size) w3 (w3.setCell ⟨w.heap.size,0,none⟩ (.int .i64 given)):=(Keep.refl _ w3).setCell _ _ rfl
 have HA4:Hid (ArM (w3.setCell ⟨w.heap.size,0,none⟩ (.int .i64 given)) ba bw L Wd (given+N)):=hid (ha3.keep hks (by have:=HB.out.1;omega) (by have:=HB.out.2;omega))
 have HK4:Hid (Keep (fun b=>b=ba∨b=bw) w (w3.setCell ⟨w.heap.size,0,none⟩ (.int .i64 given))):=hid ((HK3.out.mono fun i _ h=>.inl h).trans hks fun i hi h=>by subst h;omega)
 clear ha3 hk3 hset hks
 go_wp2_with fail
 refine(HSz.out given _).mono ?_
 rintro e w5 ⟨rfl,hk5⟩
 have HA5:=hid (HA4.out.kw hk5)
 have HK5:=hid (HK4.out.kwt hk5)
 have HP5:Hid (PlR w5 w.heap.size given n x):=hid (KW.row hk5 HS3.out.cells.1 HS3.out)
 clear hk5 pb p0 p1 p2 pf pf1 pf2 HA4 HK4 HS3
 go_wp2_with fail
 refine(HW.out _ _ (HA5.out.kw ((KW.refl w5).alloc _)) (HOwn.out w5).hu).mono ?_
 rintro e w6 ⟨rfl,ha6,hk6⟩
 have HA6:=hid ha6
 have HK6:=hid ((HK5.out.kwt ((KW.refl w5).alloc _)).t (hk6.mono (own':=fun b=>b=ba∨b=bw) fun i _ h=>.inr h))
 have HP6:Hid (PlR w6 w.heap.size given n x):=hid (Keep.row hk6 (by have:=HB.out.2;omega) (KW.row ((KW.refl w5).alloc _) HP5.out.cells.1 HP5.out))
 obtain⟨pb,p0,p1,p2,pf⟩:=HP6.out.cells
 clear ha6 hk6
 go_wp2_with fail
 go_ret2
 have hks:=(KW.refl w6).alloc (.cells #[.int .i64 given,.int .i64 n,.int .i64 x,.pointer (some ⟨ba,0,none⟩)] 196)
 exact⟨_,rfl,HK6.out.size,World.rowIs_alloc _ #[.int .i64 given,.int .i64 n,.int .i64 x,.pointer (some ⟨ba,0,none⟩)] 196 _ fun i hi=>by
  simp at hi
  rcases(show i=0∨i=1∨i=2∨i=3 by omega) with rfl|rfl|rfl|rfl<;>rfl,HA6.out.kw hks,HK6.out.kwt hks⟩
end Go.Proofs.YtphppbonljdibaaGreat
