/- The walk of RevolveNext. -/
import Derived.Test.YtgadkelldbibgaaV12
import Derived.Test.YtgadkelldbibgaaRowP
namespace Go.Proofs.Ytgadkelldbibgaa
open Go.ChangeShapes Go.WideShapes Go.ChangeAt Go.RowKit
set_option linter.unusedVariables false

theorem next30_goes (l a p : Int) (N c : Nat) (A : Option Addr) (w : World) (h0 : (300 : Int) < (N : Int)) :
    Calls Try.prog 3 #[.int .i64 l, .agg #[.int .i64 a, .int .i64 p, .slice A N c]] w fun e w' => e = .returned (.bool true) ∧ KW w w' := by
  have hk := (KW.refl w).alloc (.cells #[.int .i64 a, .int .i64 p, .slice A N c] 24)
  go_enter Try.func3, Try.ntmps3
  go_wp2_with (go_at_call 13; refine (goes30_any _).mono ?_; rintro e w1 ⟨rfl, hb⟩; replace hk := hk.t hb; clear hb)
  go_ret
  exact ⟨rfl, hk⟩
open Classical in
set_option maxRecDepth 100000 in
set_option maxHeartbeats 2000000 in
theorem next30_main (l a p : Int) (c : Nat) (A : Option Addr) (tags : List Int) (w : World) (hN : ¬ 300 < tags.length) (hv : RTz w (.slice A tags.length c) tags) :
    Calls Try.prog 3 #[.int .i64 l, .agg #[.int .i64 a, .int .i64 p, .slice A tags.length c]] w fun e w' => e = .returned (.bool true) ∧ KW w w' := by
  have d0 : decide ((300 : Int) < (tags.length : Int)) = false := decide_eq_false (by omega)
  have hr : Row1 w A tags.length fun i => .int .i64 (tags.getD i 0) := by
    obtain ⟨A', c', h, _, hr⟩ := hv
    cases h
    exact hr
  have H1 := hid (fun W (h : KW w W) => rvnext_any l a p tags _ W (hv.kw h))
  have H2 := hid (fun W (h : KW w W) => rnext30_any l a p tags A c W (hr.k h))
  have H3 := hid (fun W (h : KW w W) => may_any l a p tags _ W (hv.kw h))
  have H4 := hid (fun W (h : KW w W) => rmay_any l a p tags A c W (hr.k h))
  have HE := hid (fun W x y => act_eq W x y x y)
  unfold AnsP at H1 H2
  generalize Rv.rv l a p tags = r at *
  generalize (r.getD (0, 0)).1 = x at *
  generalize (r.getD (0, 0)).2 = y at *
  generalize r.isSome = b at *
  generalize decide (Sd.okS l a p tags) = bm at *
  have HK := hid ((KW.refl w).alloc (.cells #[.int .i64 a, .int .i64 p, .slice A tags.length c] 24))
  have HB := hid (heap_alloc_new w (.cells #[.int .i64 a, .int .i64 p, .slice A tags.length c] 24))
  clear hv hN hr
  generalize tags.length = N at *
  have hbb : (b == b) = true := by simp
  have hbm : (bm == bm) = true := by simp
  go_enter Try.func3, Try.ntmps3
  go_wp2_with fail
  refine (H1.out _ HK.out).mono ?_
  rintro e w1 ⟨rfl, hk1⟩
  have HK1 := hid (HK.out.t hk1)
  have HB1 := hid (KW.blk hk1 (blk_lt HB.out) HB.out)
  clear hk1
  go_wp2_with (refine wpList_load_row rfl 24 _ rfl w.heap.size rfl 24 _ (0, 0) _ (KW.blk ((KW.refl w1).alloc (.cells #[.int .i64 x, .int .i64 y] 27)) (blk_lt HB1.out) HB1.out) Try.underlying24 rfl (by kernel_rfl) ?_)
  refine (H2.out _ (HK1.out.alloc _)).mono ?_
  rintro e w2 ⟨rfl, hk2⟩
  have HK2 := hid ((HK1.out.alloc _).t hk2)
  have HC2 := hid (KW.blk hk2 (by simp) (heap_alloc_new w1 (.cells #[.int .i64 x, .int .i64 y] 27)))
  have HB2 := hid (KW.blk hk2 (blk_lt (KW.blk ((KW.refl w1).alloc (.cells #[.int .i64 x, .int .i64 y] 27)) (blk_lt HB1.out) HB1.out)) (KW.blk ((KW.refl w1).alloc (.cells #[.int .i64 x, .int .i64 y] 27)) (blk_lt HB1.out) HB1.out))
  have e1 : ∀ W, (binOp .eql 27 (.agg #[.int .i64 x, .int .i64 y]) (.agg #[.int .i64 x, .int .i64 y])).run Try.prog W = .ok (.bool true) W := fun W => by rw [HE.out]; simp
  clear hk2
  go_wp2_with fail
  have HW3 : Hid (KW (w2.alloc (.cells #[.int .i64 x, .int .i64 y] 27)) (w2.alloc (.cells #[.int .i64 x, .int .i64 y] 27))) := KW.refl _
  have HB3 : Hid ((w2.alloc (.cells #[.int .i64 x, .int .i64 y] 27)).heap[w.heap.size]? = some (.cells #[.int .i64 a, .int .i64 p, .slice A N c] 24 (0, 0))) := KW.blk ((KW.refl w2).alloc _) (blk_lt HB2.out) HB2.out
  have HC3 : Hid ((w2.alloc (.cells #[.int .i64 x, .int .i64 y] 27)).heap[w1.heap.size]? = some (.cells #[.int .i64 x, .int .i64 y] 27 (0, 0))) := KW.blk ((KW.refl w2).alloc _) (blk_lt HC2.out) HC2.out
  have HD3 : Hid ((w2.alloc (.cells #[.int .i64 x, .int .i64 y] 27)).heap[w2.heap.size]? = some (.cells #[.int .i64 x, .int .i64 y] 27 (0, 0))) := heap_alloc_new w2 _
  have HK3 := hid (HK2.out.alloc (.cells #[.int .i64 x, .int .i64 y] 27))
  generalize (w2.alloc (.cells #[.int .i64 x, .int .i64 y] 27)) = W3 at *
  have hS := hid (fun W (h : KW W3 W) => (⟨by rw [cell_of_row _ _ _ _ _ _ (KW.blk h (blk_lt HB3.out) HB3.out)]; rfl, by rw [cell_of_row _ _ _ _ _ _ (KW.blk h (blk_lt HB3.out) HB3.out)]; rfl, by rw [cell_of_row _ _ _ _ _ _ (KW.blk h (blk_lt HB3.out) HB3.out)]; rfl,
    by rw [cell_of_row _ _ _ _ _ _ (KW.blk h (blk_lt HC3.out) HC3.out)]; rfl, by rw [cell_of_row _ _ _ _ _ _ (KW.blk h (blk_lt HC3.out) HC3.out)]; rfl, by rw [cell_of_row _ _ _ _ _ _ (KW.blk h (blk_lt HD3.out) HD3.out)]; rfl, by rw [cell_of_row _ _ _ _ _ _ (KW.blk h (blk_lt HD3.out) HD3.out)]; rfl⟩ :
    W.cell? ⟨w.heap.size, 0, none⟩ = some (.int .i64 a) ∧ W.cell? ⟨w.heap.size, 1, none⟩ = some (.int .i64 p) ∧ W.cell? ⟨w.heap.size, 2, none⟩ = some (.slice A N c) ∧ W.cell? ⟨w1.heap.size, 0, none⟩ = some (.int .i64 x) ∧ W.cell? ⟨w1.heap.size, 1, none⟩ = some (.int .i64 y) ∧ W.cell? ⟨w2.heap.size, 0, none⟩ = some (.int .i64 x) ∧ W.cell? ⟨w2.heap.size, 1, none⟩ = some (.int .i64 y)))
  have hk := (KW.refl W3).drew
  refine wpX_region (S := fun W => W.cell? ⟨w.heap.size, 0, none⟩ = some (.int .i64 a) ∧ W.cell? ⟨w.heap.size, 1, none⟩ = some (.int .i64 p) ∧ W.cell? ⟨w.heap.size, 2, none⟩ = some (.slice A N c) ∧ W.cell? ⟨w1.heap.size, 0, none⟩ = some (.int .i64 x) ∧ W.cell? ⟨w1.heap.size, 1, none⟩ = some (.int .i64 y) ∧ W.cell? ⟨w2.heap.size, 0, none⟩ = some (.int .i64 x) ∧ W.cell? ⟨w2.heap.size, 1, none⟩ = some (.int .i64 y)) (L := 99) (by kernel_rfl) ?_
  have hXS : (fun W => W.cell? ⟨w.heap.size, 0, none⟩ = some (.int .i64 a) ∧ W.cell? ⟨w.heap.size, 1, none⟩ = some (.int .i64 p) ∧ W.cell? ⟨w.heap.size, 2, none⟩ = some (.slice A N c) ∧ W.cell? ⟨w1.heap.size, 0, none⟩ = some (.int .i64 x) ∧ W.cell? ⟨w1.heap.size, 1, none⟩ = some (.int .i64 y) ∧ W.cell? ⟨w2.heap.size, 0, none⟩ = some (.int .i64 x) ∧ W.cell? ⟨w2.heap.size, 1, none⟩ = some (.int .i64 y)) (World.drew _) := hS.out _ hk
  simp only [] at hXS
  refine wpX_take (i := 0) (v := ?_) rfl rfl (by kernel_rfl) (fun _ _ _ h => h) (Or.inl ⟨rfl, fun wS hwS => ?_⟩) hXS ?_
  rotate_left
  · go_simp; try rfl
  simp only [List.set_cons_zero, List.set_cons_succ]
  refine wpX_take (i := 1) (v := ?_) rfl rfl (by kernel_rfl) (fun _ _ _ h => h) (Or.inl ⟨rfl, fun wS hwS => ?_⟩) hXS ?_
  rotate_left
  · go_simp; try rfl
  simp only [List.set_cons_zero, List.set_cons_succ]
  refine wpX_take (i := 3) (v := ?_) rfl rfl (by kernel_rfl) (fun _ _ _ h => h) (Or.inl ⟨rfl, fun wS hwS => ?_⟩) hXS ?_
  rotate_left
  · go_simp; try rfl
  simp only [List.set_cons_zero, List.set_cons_succ]
  refine wpX_take (i := 4) (v := ?_) rfl rfl (by kernel_rfl) (fun _ _ _ h => h) (Or.inl ⟨rfl, fun wS hwS => ?_⟩) hXS ?_
  rotate_left
  · go_simp; try rfl
  simp only [List.set_cons_zero, List.set_cons_succ]
  refine wpX_hard (k := 2) (by kernel_rfl) rfl (fun K hK => ?_)
  go_simp
  (refine (H3.out _ (HK3.out.t hk)).mono ?_; rintro e w4 ⟨rfl, hb⟩; replace hk := hk.t hb; clear hb)
  refine hK _ _ (fun _ => hS.out _ hk) ?_
  clear hK K
  try simp only [List.set_cons_zero, List.set_cons_succ]
  replace hXS := hS.out _ hk
  refine wpX_hard (k := 5) (by kernel_rfl) rfl (fun K hK => ?_)
  go_simp
  (refine (H4.out _ (HK3.out.t hk)).mono ?_; rintro e w5 ⟨rfl, hb⟩; replace hk := hk.t hb; clear hb)
  refine hK _ _ (fun _ => hS.out _ hk) ?_
  clear hK K
  try simp only [List.set_cons_zero, List.set_cons_succ]
  replace hXS := hS.out _ hk
  refine wpX_take (i := 6) (v := ?_) rfl rfl (by kernel_rfl) (fun _ _ _ h => h) (Or.inl ⟨rfl, fun wS hwS => ?_⟩) hXS ?_
  rotate_left
  · go_simp; try rfl
  simp only [List.set_cons_zero, List.set_cons_succ]
  refine wpX_take (i := 7) (v := ?_) rfl rfl (by kernel_rfl) (fun _ _ _ h => h) (Or.inl ⟨rfl, fun wS hwS => ?_⟩) hXS ?_
  rotate_left
  · go_simp; try rfl
  simp only [List.set_cons_zero, List.set_cons_succ]
  refine wpX_take (i := 8) (v := ?_) rfl rfl (by kernel_rfl) (fun _ _ _ h => h) (Or.inl ⟨rfl, fun wS hwS => ?_⟩) hXS ?_
  rotate_left
  · go_simp; try rfl
  simp only [List.set_cons_zero, List.set_cons_succ]
  refine wpX_take (i := 9) (v := ?_) rfl rfl (by kernel_rfl) (fun _ _ _ h => h) (Or.inl ⟨rfl, fun wS hwS => ?_⟩) hXS ?_
  rotate_left
  · go_simp; try rfl
  simp only [List.set_cons_zero, List.set_cons_succ]
  refine wpX_take (i := 10) (v := ?_) rfl rfl (by kernel_rfl) (fun _ _ _ h => h) (Or.inl ⟨rfl, fun wS hwS => ?_⟩) hXS ?_
  rotate_left
  · go_simp; try rfl
  simp only [List.set_cons_zero, List.set_cons_succ]
  refine wpX_take (i := 11) (v := ?_) rfl rfl (by kernel_rfl) (fun _ _ _ h => h) (Or.inl ⟨rfl, fun wS hwS => ?_⟩) hXS ?_
  rotate_left
  · go_simp; try rfl
  simp only [List.set_cons_zero, List.set_cons_succ]
  refine wpX_take (i := 12) (v := ?_) rfl rfl (by kernel_rfl) (fun _ _ _ h => h) (Or.inl ⟨rfl, fun wS hwS => ?_⟩) hXS ?_
  rotate_left
  · go_simp; try rfl
  simp only [List.set_cons_zero, List.set_cons_succ]
  refine wpX_take (i := 13) (v := ?_) rfl rfl (by kernel_rfl) (fun _ _ _ h => h) (Or.inl ⟨rfl, fun wS hwS => ?_⟩) hXS ?_
  rotate_left
  · go_simp; try rfl
  simp only [List.set_cons_zero, List.set_cons_succ]
  refine wpX_take (i := 14) (v := ?_) rfl rfl (by kernel_rfl) (fun _ _ _ h => h) (Or.inl ⟨rfl, fun wS hwS => ?_⟩) hXS ?_
  rotate_left
  · go_simp; try rfl
  simp only [List.set_cons_zero, List.set_cons_succ]
  refine wpX_take (i := 15) (v := ?_) rfl rfl (by kernel_rfl) (fun _ _ _ h => h) (Or.inl ⟨rfl, fun wS hwS => ?_⟩) hXS ?_
  rotate_left
  · go_simp; try rfl
  simp only [List.set_cons_zero, List.set_cons_succ]
  refine wpX_take (i := 16) (v := ?_) rfl rfl (by kernel_rfl) (fun _ _ _ h => h) (Or.inl ⟨rfl, fun wS hwS => ?_⟩) hXS ?_
  rotate_left
  · go_simp; try rfl
  simp only [List.set_cons_zero, List.set_cons_succ]
  refine wpX_take (i := 17) (v := ?_) rfl rfl (by kernel_rfl) (fun _ _ _ h => h) (Or.inl ⟨rfl, fun wS hwS => ?_⟩) hXS ?_
  rotate_left
  · go_simp; try rfl
  simp only [List.set_cons_zero, List.set_cons_succ]
  refine wpX_hard (k := 18) (by kernel_rfl) rfl (fun K hK => ?_)
  go_simp
  (refine (goes30_any _).mono ?_; rintro e w6 ⟨rfl, hb⟩; replace hk := hk.t hb; clear hb)
  refine hK _ _ (fun _ => hS.out _ hk) ?_
  clear hK K
  try simp only [List.set_cons_zero, List.set_cons_succ]
  replace hXS := hS.out _ hk
  refine wpX_take (i := 19) (v := ?_) rfl rfl (by kernel_rfl) (fun _ _ _ h => h) (Or.inl ⟨rfl, fun wS hwS => ?_⟩) hXS ?_
  rotate_left
  · go_simp; try rfl
  simp only [List.set_cons_zero, List.set_cons_succ]
  refine wpX_take (i := 20) (v := ?_) rfl rfl (by kernel_rfl) (fun _ _ _ h => h) (Or.inl ⟨rfl, fun wS hwS => ?_⟩) hXS ?_
  rotate_left
  · go_simp; try rfl
  simp only [List.set_cons_zero, List.set_cons_succ]
  refine wpX_done (by kernel_rfl) ?_
  go_wp2_with fail
  go_ret
  exact ⟨rfl, HK3.out.t hk⟩

theorem next30_law (l a p : Int) (A : Option Addr) (c : Nat) (tags : List Int) (w : World) (_ : -9223372036854775808 ≤ l) (_ : l ≤ 9223372036854775807)
    (ha : i64ok a) (hp : i64ok p) (_ : tags.length ≤ 9223372036854775807) (_ : ∀ x ∈ tags, i64ok x) (hz : A = none → c = 0) (hr : Row1 w A tags.length fun i => .int .i64 (tags.getD i 0)) :
    Calls Try.prog 3 #[.int .i64 l, .agg #[.int .i64 a, .int .i64 p, .slice A tags.length c]] w fun e w' => e = .returned (.bool true) ∧ KW w w' := by
  by_cases h : 300 < tags.length
  · exact next30_goes l a p _ c A w (by omega)
  · exact next30_main l a p c A tags w h ⟨A, c, rfl, hz, hr⟩
end Go.Proofs.Ytgadkelldbibgaa
