/- The reference's At. -/
import Derived.Test.YtgadkelldbibgaaN2
import Derived.Test.YtgadkelldbibgaaN6
namespace Go.Proofs.Ytgadkelldbibgaa
open Go.ChangeShapes Go.WideShapes Go.ChangeAt Go.RowKit
set_option linter.unusedVariables false

set_option maxRecDepth 100000 in
set_option maxHeartbeats 2000000 in
theorem rat_yes (l a p : Int) (tags : List Int) (A : Option Addr) (c : Nat) (w : World) (l0 : 0 ≤ l) (l1 : l < 65536) (a0 : 0 ≤ a) (a1 : a ≤ l) (p0 : -1 ≤ p) (p1 : p ≤ l) (hl : tags.length ≤ 1048576) (ht : ∀ i, i < tags.length → -1 ≤ tags.getD i 0 ∧ tags.getD i 0 ≤ l)
    (hr : Row1 w A tags.length fun i => .int .i64 (tags.getD i 0)) :
    Calls Try.prog 45 #[.int .i64 l, .agg #[.int .i64 a, .int .i64 p, .slice A tags.length c]] w (RNewP w ⟨l, a, p, 0, tags⟩ 0) := by
  have HSp := hid (fun W (h : KW w W) => rspot_any a p (.slice A tags.length c) tags W hl ⟨A, c, rfl, hr.k h⟩)
  have HR := hid hr
  have HTg := hid ht
  have HIL := hid (ints_len tags)
  clear hr ht
  unfold RSpotP at HSp
  have dN : decide ((1048576 : Int) < (tags.length : Int)) = false := decide_eq_false (by omega)
  generalize tags.length = N at *
  have d0 : decide (l < 0) = false := decide_eq_false (by omega)
  have d1 : decide (65536 ≤ l) = false := decide_eq_false (by omega)
  have d2 : decide (a < 0) = false := decide_eq_false (by omega)
  have d3 : decide (l < a) = false := decide_eq_false (by omega)
  have d4 : decide (p < -1) = false := decide_eq_false (by omega)
  have d5 : decide (l < p) = false := decide_eq_false (by omega)
  go_enter Try.func45, Try.ntmps45
  go_wp2_with fail
  refine wpCode_world (fun W => KW w W ∧ W.rowIs w.heap.size 24 3 (fun i => [.int .i64 a, .int .i64 p, .slice A N c].getD i undef) ∧ W.rowIs (w.heap.size + 1) 76 5 (fun i => [.int .i64 0, .int .i64 0, .int .i64 0, .slice none 0 0, .int .i64 0].getD i undef)) ⟨((KW.refl w).alloc _).alloc _, ?_, ?_⟩ ?_
  · exact (World.rowIs_alloc w #[.int .i64 a, .int .i64 p, .slice A N c] 24 _ fun i hi => by simp at hi; simp [hi]).alloc _
  · have h := World.rowIs_alloc (w.alloc (.cells #[.int .i64 a, .int .i64 p, .slice A N c] 24)) #[.int .i64 0, .int .i64 0, .int .i64 0, .slice none 0 0, .int .i64 0] 76 (fun i => [.int .i64 0, .int .i64 0, .int .i64 0, .slice none 0 0, .int .i64 0].getD i undef) fun i hi => by simp at hi; simp [hi]
    simpa using h
  rintro W1 ⟨hk, h0, h1⟩
  have HK := hid hk
  have H0 := hid h0
  have H1 := hid h1
  have b0 := H0.out.cell (i := 0) (by omega)
  have b1 := H0.out.cell (i := 1) (by omega)
  have b2 := H0.out.cell (i := 2) (by omega)
  simp only [List.getD_cons_succ, List.getD_cons_zero] at b0 b1 b2
  clear hk h0 h1
  go_loop [6] (fun i => ∃ k : Nat, k ≤ N ∧ i = .int .i64 k) (fun i => N - (intOf i).toNat)
  case atStart => exact ⟨0, by omega, rfl⟩
  case round =>
    obtain ⟨k, hk, rfl⟩ := hrel
    by_cases hlt : k < N
    · obtain ⟨b', off, rfl, hb', hc⟩ := (HR.out.k HK.out).at_ hlt
      obtain ⟨t0, t1⟩ := HTg.out k hlt
      generalize tags.getD k 0 = x at *
      have e0 : decide (x < -1) = false := decide_eq_false (by omega)
      have e1 : decide (l < x) = false := decide_eq_false (by omega)
      have L5 : (k : Int) < (N : Int) := by omega
      go_wp2_with fail
      go_round
      case rel => exact ⟨k + 1, by omega, by go_num⟩
      case measure => simp [intOf]; omega
    · have D1 : decide (k < N) = false := decide_eq_false hlt
      clear hlt
      go_wp2_with fail
      refine (HSp.out _ HK.out).mono ?_
      rintro e w2 ⟨v2, rfl, ho, hk2⟩
      obtain ⟨A2, k2, hv2, hz2⟩ := ho.row
      rw [HIL.out] at hv2
      clear hz2
      subst hv2
      have HO := hid ho
      have HK2 := hid (HK.out.t hk2)
      have H12 := hid (KW.row hk2 H1.out.lt H1.out)
      have HB : Hid (W1.heap.size ≤ W1.heap.size) := Nat.le_refl _
      clear ho hk2
      go_wp2_with (refine wpList_store_is rfl 76 _ _ rfl (w.heap.size + 1) 5 76 _ (fun i => [.int .i64 l, .int .i64 a, .int .i64 p, .slice A2 N k2, .int .i64 0].getD i undef) #[.int .i64 l, .int .i64 a, .int .i64 p, .slice A2 N k2, .int .i64 0] rfl rfl H12.out (by kernel_rfl) rfl ?qa1 ?qa2 ?_)
      case qa1 => intro i hi; rcases (show i = 0 ∨ i = 1 ∨ i = 2 ∨ i = 3 ∨ i = 4 by omega) with rfl | rfl | rfl | rfl | rfl <;> rfl
      case qa2 => intro i hi; rcases (show i = 0 ∨ i = 1 ∨ i = 2 ∨ i = 3 ∨ i = 4 by omega) with rfl | rfl | rfl | rfl | rfl <;> rfl
      intro W6 hrow6 hkeep6 _
      have hheap : W6.heap[w.heap.size + 1]? = some (.cells #[.int .i64 l, .int .i64 a, .int .i64 p, .slice A2 N k2, .int .i64 0] 76 (0, 0)) := whole hrow6
      have HH := hid hheap
      have HK6 : Hid (KW w W6) := HK2.out.kept hkeep6 fun i hi => by omega
      have HO6 := hid ((hkeep6.owns HO.out fun i hi h => by have := (HO.out.lt hi).1; have := H1.out.lt; omega).base HK.out.size)
      clear hrow6 hkeep6 hheap
      go_wp2_with fail
      exact bodyPost_ret (results_cell_tmp rfl _ _ _ _ _ (0, 0) _ rfl HH.out Try.underlying76 rfl (by kernel_rfl)) rfl ⟨_, rfl, HO6.out, HK6.out⟩

def zeroM : Value := .agg #[.int .i64 0, .int .i64 0, .int .i64 0, .slice none 0 0, .int .i64 0]

set_option maxRecDepth 100000 in
theorem rat_no0 (l a p : Int) (A : Option Addr) (N c : Nat) (w : World)  (h0 : l < 0) :
    Calls Try.prog 45 #[.int .i64 l, .agg #[.int .i64 a, .int .i64 p, .slice A N c]] w fun e w' => e = .returned (.tuple #[.agg #[.int .i64 0, .int .i64 0, .int .i64 0, .slice none 0 0, .int .i64 0], .int .i64 2]) ∧ KW w w' := by
  go_enter Try.func45, Try.ntmps45
  go_wp2_with fail
  exact bodyPost_ret (results_cell_tmp rfl _ _ _ _ _ (0, 0) _ rfl (heap_alloc2_new w _ _) Try.underlying76 rfl (by kernel_rfl)) rfl ⟨rfl, ((KW.refl w).alloc _).alloc _⟩

set_option maxRecDepth 100000 in
theorem rat_no1 (l a p : Int) (A : Option Addr) (N c : Nat) (w : World) (h0 : ¬ (l < 0)) (h1 : 65536 ≤ l) :
    Calls Try.prog 45 #[.int .i64 l, .agg #[.int .i64 a, .int .i64 p, .slice A N c]] w fun e w' => e = .returned (.tuple #[.agg #[.int .i64 0, .int .i64 0, .int .i64 0, .slice none 0 0, .int .i64 0], .int .i64 2]) ∧ KW w w' := by
  have d0 : decide (l < 0) = false := decide_eq_false h0
  clear h0
  go_enter Try.func45, Try.ntmps45
  go_wp2_with fail
  exact bodyPost_ret (results_cell_tmp rfl _ _ _ _ _ (0, 0) _ rfl (heap_alloc2_new w _ _) Try.underlying76 rfl (by kernel_rfl)) rfl ⟨rfl, ((KW.refl w).alloc _).alloc _⟩

set_option maxRecDepth 100000 in
theorem rat_no2 (l a p : Int) (A : Option Addr) (N c : Nat) (w : World) (h0 : ¬ (l < 0)) (h1 : ¬ (65536 ≤ l)) (h2 : (1048576 : Int) < (N : Int)) :
    Calls Try.prog 45 #[.int .i64 l, .agg #[.int .i64 a, .int .i64 p, .slice A N c]] w fun e w' => e = .returned (.tuple #[.agg #[.int .i64 0, .int .i64 0, .int .i64 0, .slice none 0 0, .int .i64 0], .int .i64 2]) ∧ KW w w' := by
  have d0 : decide (l < 0) = false := decide_eq_false h0
  clear h0
  have d1 : decide (65536 ≤ l) = false := decide_eq_false h1
  clear h1
  go_enter Try.func45, Try.ntmps45
  go_wp2_with fail
  exact bodyPost_ret (results_cell_tmp rfl _ _ _ _ _ (0, 0) _ rfl (heap_alloc2_new w _ _) Try.underlying76 rfl (by kernel_rfl)) rfl ⟨rfl, ((KW.refl w).alloc _).alloc _⟩

set_option maxRecDepth 100000 in
theorem rat_no3 (l a p : Int) (A : Option Addr) (N c : Nat) (w : World) (h0 : ¬ (l < 0)) (h1 : ¬ (65536 ≤ l)) (h2 : ¬ ((1048576 : Int) < (N : Int))) (h3 : a < 0) :
    Calls Try.prog 45 #[.int .i64 l, .agg #[.int .i64 a, .int .i64 p, .slice A N c]] w fun e w' => e = .returned (.tuple #[.agg #[.int .i64 0, .int .i64 0, .int .i64 0, .slice none 0 0, .int .i64 0], .int .i64 2]) ∧ KW w w' := by
  have d0 : decide (l < 0) = false := decide_eq_false h0
  clear h0
  have d1 : decide (65536 ≤ l) = false := decide_eq_false h1
  clear h1
  have d2 : decide ((1048576 : Int) < (N : Int)) = false := decide_eq_false h2
  clear h2
  go_enter Try.func45, Try.ntmps45
  go_wp2_with fail
  exact bodyPost_ret (results_cell_tmp rfl _ _ _ _ _ (0, 0) _ rfl (heap_alloc2_new w _ _) Try.underlying76 rfl (by kernel_rfl)) rfl ⟨rfl, ((KW.refl w).alloc _).alloc _⟩

set_option maxRecDepth 100000 in
theorem rat_no4 (l a p : Int) (A : Option Addr) (N c : Nat) (w : World) (h0 : ¬ (l < 0)) (h1 : ¬ (65536 ≤ l)) (h2 : ¬ ((1048576 : Int) < (N : Int))) (h3 : ¬ (a < 0)) (h4 : l < a) :
    Calls Try.prog 45 #[.int .i64 l, .agg #[.int .i64 a, .int .i64 p, .slice A N c]] w fun e w' => e = .returned (.tuple #[.agg #[.int .i64 0, .int .i64 0, .int .i64 0, .slice none 0 0, .int .i64 0], .int .i64 2]) ∧ KW w w' := by
  have d0 : decide (l < 0) = false := decide_eq_false h0
  clear h0
  have d1 : decide (65536 ≤ l) = false := decide_eq_false h1
  clear h1
  have d2 : decide ((1048576 : Int) < (N : Int)) = false := decide_eq_false h2
  clear h2
  have d3 : decide (a < 0) = false := decide_eq_false h3
  clear h3
  go_enter Try.func45, Try.ntmps45
  go_wp2_with fail
  exact bodyPost_ret (results_cell_tmp rfl _ _ _ _ _ (0, 0) _ rfl (heap_alloc2_new w _ _) Try.underlying76 rfl (by kernel_rfl)) rfl ⟨rfl, ((KW.refl w).alloc _).alloc _⟩

set_option maxRecDepth 100000 in
theorem rat_no5 (l a p : Int) (A : Option Addr) (N c : Nat) (w : World) (h0 : ¬ (l < 0)) (h1 : ¬ (65536 ≤ l)) (h2 : ¬ ((1048576 : Int) < (N : Int))) (h3 : ¬ (a < 0)) (h4 : ¬ (l < a)) (h5 : p < -1) :
    Calls Try.prog 45 #[.int .i64 l, .agg #[.int .i64 a, .int .i64 p, .slice A N c]] w fun e w' => e = .returned (.tuple #[.agg #[.int .i64 0, .int .i64 0, .int .i64 0, .slice none 0 0, .int .i64 0], .int .i64 2]) ∧ KW w w' := by
  have d0 : decide (l < 0) = false := decide_eq_false h0
  clear h0
  have d1 : decide (65536 ≤ l) = false := decide_eq_false h1
  clear h1
  have d2 : decide ((1048576 : Int) < (N : Int)) = false := decide_eq_false h2
  clear h2
  have d3 : decide (a < 0) = false := decide_eq_false h3
  clear h3
  have d4 : decide (l < a) = false := decide_eq_false h4
  clear h4
  go_enter Try.func45, Try.ntmps45
  go_wp2_with fail
  exact bodyPost_ret (results_cell_tmp rfl _ _ _ _ _ (0, 0) _ rfl (heap_alloc2_new w _ _) Try.underlying76 rfl (by kernel_rfl)) rfl ⟨rfl, ((KW.refl w).alloc _).alloc _⟩

set_option maxRecDepth 100000 in
theorem rat_no6 (l a p : Int) (A : Option Addr) (N c : Nat) (w : World) (h0 : ¬ (l < 0)) (h1 : ¬ (65536 ≤ l)) (h2 : ¬ ((1048576 : Int) < (N : Int))) (h3 : ¬ (a < 0)) (h4 : ¬ (l < a)) (h5 : ¬ (p < -1)) (h6 : l < p) :
    Calls Try.prog 45 #[.int .i64 l, .agg #[.int .i64 a, .int .i64 p, .slice A N c]] w fun e w' => e = .returned (.tuple #[.agg #[.int .i64 0, .int .i64 0, .int .i64 0, .slice none 0 0, .int .i64 0], .int .i64 2]) ∧ KW w w' := by
  have d0 : decide (l < 0) = false := decide_eq_false h0
  clear h0
  have d1 : decide (65536 ≤ l) = false := decide_eq_false h1
  clear h1
  have d2 : decide ((1048576 : Int) < (N : Int)) = false := decide_eq_false h2
  clear h2
  have d3 : decide (a < 0) = false := decide_eq_false h3
  clear h3
  have d4 : decide (l < a) = false := decide_eq_false h4
  clear h4
  have d5 : decide (p < -1) = false := decide_eq_false h5
  clear h5
  go_enter Try.func45, Try.ntmps45
  go_wp2_with fail
  exact bodyPost_ret (results_cell_tmp rfl _ _ _ _ _ (0, 0) _ rfl (heap_alloc2_new w _ _) Try.underlying76 rfl (by kernel_rfl)) rfl ⟨rfl, ((KW.refl w).alloc _).alloc _⟩

set_option maxRecDepth 100000 in
set_option maxHeartbeats 2000000 in
theorem rat_no7 (l a p : Int) (tags : List Int) (A : Option Addr) (N c : Nat) (w : World) (hN : tags.length = N) (l0 : 0 ≤ l) (l1 : l < 65536) (a0 : 0 ≤ a) (a1 : a ≤ l) (p0 : -1 ≤ p) (p1 : p ≤ l) (hl : N ≤ 1048576)
    (hr : Row1 w A N fun i => .int .i64 (tags.getD i 0)) (hx : ∃ i, i < N ∧ offB l (tags.getD i 0) = true) :
    Calls Try.prog 45 #[.int .i64 l, .agg #[.int .i64 a, .int .i64 p, .slice A N c]] w fun e w' => e = .returned (.tuple #[.agg #[.int .i64 0, .int .i64 0, .int .i64 0, .slice none 0 0, .int .i64 0], .int .i64 2]) ∧ KW w w' := by
  have HR := hid hr
  have HX := hid hx
  clear hr hx hN
  have dN : decide ((1048576 : Int) < (N : Int)) = false := decide_eq_false (by omega)
  have d0 : decide (l < 0) = false := decide_eq_false (by omega)
  have d1 : decide (65536 ≤ l) = false := decide_eq_false (by omega)
  have d2 : decide (a < 0) = false := decide_eq_false (by omega)
  have d3 : decide (l < a) = false := decide_eq_false (by omega)
  have d4 : decide (p < -1) = false := decide_eq_false (by omega)
  have d5 : decide (l < p) = false := decide_eq_false (by omega)
  go_enter Try.func45, Try.ntmps45
  go_wp2_with fail
  refine wpCode_world (fun W => KW w W ∧ W.rowIs w.heap.size 24 3 (fun i => [.int .i64 a, .int .i64 p, .slice A N c].getD i undef) ∧ W.rowIs (w.heap.size + 1) 76 5 (fun i => [.int .i64 0, .int .i64 0, .int .i64 0, .slice none 0 0, .int .i64 0].getD i undef)) ⟨((KW.refl w).alloc _).alloc _, ?_, ?_⟩ ?_
  · exact (World.rowIs_alloc w #[.int .i64 a, .int .i64 p, .slice A N c] 24 _ fun i hi => by simp at hi; simp [hi]).alloc _
  · have h := World.rowIs_alloc (w.alloc (.cells #[.int .i64 a, .int .i64 p, .slice A N c] 24)) #[.int .i64 0, .int .i64 0, .int .i64 0, .slice none 0 0, .int .i64 0] 76 (fun i => [.int .i64 0, .int .i64 0, .int .i64 0, .slice none 0 0, .int .i64 0].getD i undef) fun i hi => by simp at hi; simp [hi]
    simpa using h
  rintro W1 ⟨hk, h0, h1⟩
  have HK := hid hk
  have H1 := hid h1
  have b2 := h0.cell (i := 2) (by omega)
  simp only [List.getD_cons_succ, List.getD_cons_zero] at b2
  clear hk h0 h1
  go_loop [6] (fun i => ∃ k : Nat, k ≤ N ∧ i = .int .i64 k ∧ Hid (∀ j, j < k → offB l (tags.getD j 0) = false)) (fun i => N - (intOf i).toNat)
  case atStart => exact ⟨0, by omega, rfl, fun j hj => by omega⟩
  case round =>
    obtain ⟨k, hk, rfl, HB⟩ := hrel
    have hlt : k < N := by
      obtain ⟨i, hi, ho⟩ := HX.out
      apply Classical.byContradiction
      intro h
      rw [HB.out i (by omega)] at ho
      cases ho
    obtain ⟨b', off, rfl, hb', hc⟩ := (HR.out.k HK.out).at_ hlt
    have HN := hid (fun (h : offB l (tags.getD k 0) = false) (j : Nat) (hj : j < k + 1) => (show offB l (tags.getD j 0) = false from by
      rcases (show j < k ∨ j = k by omega) with h1 | rfl
      · exact HB.out j h1
      · exact h))
    generalize tags.getD k 0 = x at *
    have L5 : (k : Int) < (N : Int) := by omega
    have hcase : Hid (x < -1) ∨ Hid (¬ x < -1 ∧ l < x) ∨ Hid (¬ x < -1 ∧ ¬ l < x) := by
      by_cases h1 : x < -1
      · exact .inl h1
      · by_cases h2 : l < x
        · exact .inr (.inl ⟨h1, h2⟩)
        · exact .inr (.inr ⟨h1, h2⟩)
    rcases hcase with hh | hh | hh
    · have e0 := hh.out
      go_wp2_with (refine wpList_store_is rfl 76 _ _ rfl (w.heap.size + 1) 5 76 _ (fun i => [.int .i64 0, .int .i64 0, .int .i64 0, .slice none 0 0, .int .i64 0].getD i undef) #[.int .i64 0, .int .i64 0, .int .i64 0, .slice none 0 0, .int .i64 0] rfl rfl H1.out (by kernel_rfl) rfl ?qa1 ?qa2 ?_)
      case qa1 => intro i hi; rcases (show i = 0 ∨ i = 1 ∨ i = 2 ∨ i = 3 ∨ i = 4 by omega) with rfl | rfl | rfl | rfl | rfl <;> rfl
      case qa2 => intro i hi; rcases (show i = 0 ∨ i = 1 ∨ i = 2 ∨ i = 3 ∨ i = 4 by omega) with rfl | rfl | rfl | rfl | rfl <;> rfl
      intro W6 hrow6 hkeep6 _
      have hheap : W6.heap[w.heap.size + 1]? = some (.cells #[.int .i64 0, .int .i64 0, .int .i64 0, .slice none 0 0, .int .i64 0] 76 (0, 0)) := whole hrow6
      have HH := hid hheap
      have HK6 : Hid (KW w W6) := HK.out.kept hkeep6 fun i hi => by omega
      clear hrow6 hkeep6 hheap
      go_wp2_with fail
      exact bodyPost_ret (results_cell_tmp rfl _ _ _ _ _ (0, 0) _ rfl HH.out Try.underlying76 rfl (by kernel_rfl)) rfl ⟨rfl, HK6.out⟩
    · have e0 : decide (x < -1) = false := decide_eq_false hh.out.1
      have e1 := hh.out.2
      go_wp2_with (refine wpList_store_is rfl 76 _ _ rfl (w.heap.size + 1) 5 76 _ (fun i => [.int .i64 0, .int .i64 0, .int .i64 0, .slice none 0 0, .int .i64 0].getD i undef) #[.int .i64 0, .int .i64 0, .int .i64 0, .slice none 0 0, .int .i64 0] rfl rfl H1.out (by kernel_rfl) rfl ?qb1 ?qb2 ?_)
      case qb1 => intro i hi; rcases (show i = 0 ∨ i = 1 ∨ i = 2 ∨ i = 3 ∨ i = 4 by omega) with rfl | rfl | rfl | rfl | rfl <;> rfl
      case qb2 => intro i hi; rcases (show i = 0 ∨ i = 1 ∨ i = 2 ∨ i = 3 ∨ i = 4 by omega) with rfl | rfl | rfl | rfl | rfl <;> rfl
      intro W6 hrow6 hkeep6 _
      have hheap : W6.heap[w.heap.size + 1]? = some (.cells #[.int .i64 0, .int .i64 0, .int .i64 0, .slice none 0 0, .int .i64 0] 76 (0, 0)) := whole hrow6
      have HH := hid hheap
      have HK6 : Hid (KW w W6) := HK.out.kept hkeep6 fun i hi => by omega
      clear hrow6 hkeep6 hheap
      go_wp2_with fail
      exact bodyPost_ret (results_cell_tmp rfl _ _ _ _ _ (0, 0) _ rfl HH.out Try.underlying76 rfl (by kernel_rfl)) rfl ⟨rfl, HK6.out⟩
    · have e0 : decide (x < -1) = false := decide_eq_false hh.out.1
      have e1 : decide (l < x) = false := decide_eq_false hh.out.2
      have HB2 := hid (HN.out (decide_eq_false (fun h => h.elim hh.out.1 hh.out.2)))
      go_wp2_with fail
      go_round
      case rel => exact ⟨k + 1, by omega, by go_num, HB2⟩
      case measure => simp [intOf]; omega
theorem rat_no (l a p : Int) (N c : Nat) (tags : List Int) (A : Option Addr) (w : World) (hl : tags.length = N) (hr : Row1 w A N fun i => .int .i64 (tags.getD i 0))
    (h : ¬ (0 ≤ l ∧ l < 65536) ∨ 1048576 < N ∨ a = -1 ∨ offB l a = true ∨ offB l p = true ∨ ∃ i, i < N ∧ offB l (tags.getD i 0) = true) :
    Calls Try.prog 45 #[.int .i64 l, .agg #[.int .i64 a, .int .i64 p, .slice A N c]] w fun e w' => e = .returned (.tuple #[.agg #[.int .i64 0, .int .i64 0, .int .i64 0, .slice none 0 0, .int .i64 0], .int .i64 2]) ∧ KW w w' := by
  by_cases h0 : l < 0
  · exact rat_no0 l a p A N c w h0
  by_cases h1 : 65536 ≤ l
  · exact rat_no1 l a p A N c w h0 h1
  by_cases h2 : (1048576 : Int) < (N : Int)
  · exact rat_no2 l a p A N c w h0 h1 h2
  by_cases h3 : a < 0
  · exact rat_no3 l a p A N c w h0 h1 h2 h3
  by_cases h4 : l < a
  · exact rat_no4 l a p A N c w h0 h1 h2 h3 h4
  by_cases h5 : p < -1
  · exact rat_no5 l a p A N c w h0 h1 h2 h3 h4 h5
  by_cases h6 : l < p
  · exact rat_no6 l a p A N c w h0 h1 h2 h3 h4 h5 h6
  refine rat_no7 l a p tags A N c w hl (by omega) (by omega) (by omega) (by omega) (by omega) (by omega) (by omega) hr ?_
  rcases h with h | h | h | h | h | h
  · exact absurd ⟨by omega, by omega⟩ h
  · omega
  · omega
  · have := of_decide_eq_true h; omega
  · have := of_decide_eq_true h; omega
  · exact h
end Go.Proofs.Ytgadkelldbibgaa
