/- The reference's May, slot, count (layer 30). -/
import Derived.Test.YtgadkelldbibgaaVB
import Derived.Test.YtgadkelldbibgaaN9
namespace Go.Proofs.Ytgadkelldbibgaa
open Go.ChangeShapes Go.WideShapes Go.ChangeAt Go.RowKit
set_option linter.unusedVariables false

theorem rspot_cases (k a p : Int) (tags : List Int) (A : Option Addr) (c : Nat) (w : World) (hr : Row1 w A tags.length fun i => .int .i64 (tags.getD i 0)) :
    ((0 ≤ k ∧ k < 65536) ∧ (0 ≤ a ∧ a ≤ k) ∧ (-1 ≤ p ∧ p ≤ k) ∧ tags.length ≤ 1048576 ∧ (∀ i, i < tags.length → -1 ≤ tags.getD i 0 ∧ tags.getD i 0 ≤ k) ∧ ∀ W, KW w W → Calls Try.prog 45 #[.int .i64 k, .agg #[.int .i64 a, .int .i64 p, .slice A tags.length c]] W (RNewP W ⟨k, a, p, 0, tags⟩ 0)) ∨
    (¬ Sd.okS k a p tags ∧ ∀ W, KW w W → Calls Try.prog 45 #[.int .i64 k, .agg #[.int .i64 a, .int .i64 p, .slice A tags.length c]] W fun e w' => e = .returned (.tuple #[.agg #[.int .i64 0, .int .i64 0, .int .i64 0, .slice none 0 0, .int .i64 0], .int .i64 2]) ∧ KW W w') := by
  by_cases hat : (0 ≤ k ∧ k < 65536) ∧ (0 ≤ a ∧ a ≤ k) ∧ (-1 ≤ p ∧ p ≤ k) ∧ tags.length ≤ 1048576 ∧ ∀ i, i < tags.length → -1 ≤ tags.getD i 0 ∧ tags.getD i 0 ≤ k
  · obtain ⟨hk, ha, hp, hn, ht⟩ := hat
    exact .inl ⟨hk, ha, hp, hn, ht, fun W h => rat_yes k a p tags A c W hk.1 hk.2 ha.1 ha.2 hp.1 hp.2 hn ht (hr.k h)⟩
  · refine .inr ⟨?_, fun W h => rat_no k a p tags.length c tags A W rfl (hr.k h) ?_⟩
    · rintro ⟨h1, h2, h3, h4, h5⟩
      exact hat ⟨h1, h2, h3, h4.2, h5⟩
    · apply Classical.byContradiction
      intro hno
      simp only [not_or, offB] at hno
      obtain ⟨q1, q2, q3, q4, q5, q6⟩ := hno
      simp only [decide_eq_true_eq] at q4 q5
      refine hat ⟨by omega, by omega, by omega, by omega, fun i hi => ?_⟩
      have : ¬ (tags.getD i 0 < -1 ∨ k < tags.getD i 0) := fun h => q6 ⟨i, hi, by simpa using h⟩
      omega
theorem rmay_no1 (l a p : Int) (N c : Nat) (A : Option Addr) (w : World)
    (h : ∀ W, KW w W → Calls Try.prog 45 #[.int .i64 l, .agg #[.int .i64 a, .int .i64 p, .slice A N c]] W fun e w' => e = .returned (.tuple #[.agg #[.int .i64 0, .int .i64 0, .int .i64 0, .slice none 0 0, .int .i64 0], .int .i64 2]) ∧ KW W w') :
    Calls Try.prog 17 #[.int .i64 l, .agg #[.int .i64 a, .int .i64 p, .slice A N c]] w fun e w' => e = .returned (.bool false) ∧ KW w w' := by
  have H := hid h
  have HK := hid ((KW.refl w).alloc (.cells #[.int .i64 a, .int .i64 p, .slice A N c] 24))
  clear h
  go_enter Try.func17, Try.ntmps17
  go_wp2_with fail
  refine (H.out _ HK.out).mono ?_
  rintro e w1 ⟨rfl, hk1⟩
  have HK1 := hid ((HK.out.t hk1).alloc (.cells #[.int .i64 0, .int .i64 0, .int .i64 0, .slice none 0 0, .int .i64 0] 76))
  clear hk1
  go_wp2_with fail
  go_ret
  exact ⟨rfl, HK1.out⟩
theorem rmay_at (l a p : Int) (N c : Nat) (A : Option Addr) (w : World) (m : Mc.St)
    (h : ∀ W, KW w W → Calls Try.prog 45 #[.int .i64 l, .agg #[.int .i64 a, .int .i64 p, .slice A N c]] W (RNewP W m 0)) :
    Calls Try.prog 17 #[.int .i64 l, .agg #[.int .i64 a, .int .i64 p, .slice A N c]] w fun e w' => e = .returned (.bool (decide (1 ≤ N))) ∧ KW w w' := by
  have H := hid h
  unfold RNewP at H
  have HK := hid ((KW.refl w).alloc (.cells #[.int .i64 a, .int .i64 p, .slice A N c] 24))
  have HB := hid (heap_alloc_new w (.cells #[.int .i64 a, .int .i64 p, .slice A N c] 24))
  clear h
  go_enter Try.func17, Try.ntmps17
  go_wp2_with fail
  refine (H.out _ HK.out).mono ?_
  rintro e w1 ⟨v1, rfl, ho, hk1⟩
  obtain ⟨A1, c1, hv1, _⟩ := ho.row
  rw [ints_len] at hv1
  subst hv1
  unfold rm
  have HB1 := hid (KW.blk hk1 (blk_lt HB.out) HB.out)
  have c2 : w1.cell? ⟨w.heap.size, 2, none⟩ = some (.slice A N c) := by rw [cell_of_row _ _ _ _ _ _ HB1.out]; rfl
  have HK1 := hid ((HK.out.t hk1).alloc (.cells #[.int .i64 m.l, .int .i64 m.at_, .int .i64 m.pend, .slice A1 m.tags.length c1, .int .i64 m.tot] 76))
  have zz := blk_lt HB1.out
  clear hk1 ho
  go_wp2_with fail
  go_ret
  exact ⟨ret_bool (by rw [decide_eq_decide]; omega), HK1.out⟩
open Classical in
theorem rmay_any (l a p : Int) (tags : List Int) (A : Option Addr) (c : Nat) (w : World) (hr : Row1 w A tags.length fun i => .int .i64 (tags.getD i 0)) :
    Calls Try.prog 17 #[.int .i64 l, .agg #[.int .i64 a, .int .i64 p, .slice A tags.length c]] w fun e w' => e = .returned (.bool (decide (Sd.okS l a p tags))) ∧ KW w w' := by
  rcases rspot_cases l a p tags A c w hr with ⟨h1, h2, h3, h4, h5, h⟩ | ⟨hno, h⟩
  · have e : decide (Sd.okS l a p tags) = decide (1 ≤ tags.length) := by
      rw [decide_eq_decide]
      exact ⟨fun h => h.2.2.2.1.1, fun h0 => ⟨h1, h2, h3, ⟨h0, h4⟩, h5⟩⟩
    rw [e]
    exact rmay_at l a p tags.length c A w _ h
  · rw [decide_eq_false hno]
    exact rmay_no1 l a p tags.length c A w h
theorem rslot30_any (a p t : Int) (tags : List Int) (A : Option Addr) (c : Nat) (w : World) (hn : tags.length ≤ 1048576) (hr : Row1 w A tags.length fun i => .int .i64 (tags.getD i 0)) :
    Calls Try.prog 41 #[.agg #[.int .i64 a, .int .i64 p, .slice A tags.length c], .int .i64 t] w fun e w' => e = .returned (.int .i64 (Sd.slot tags t)) ∧ KW w w' := by
  have HK := hid ((KW.refl w).alloc (.cells #[.int .i64 a, .int .i64 p, .slice A tags.length c] 24))
  have HR := hid (hr.k HK.out)
  have HS := hid (fun k (hk : k < tags.length) h1 h2 => Sd.slot_is (t := t) hk h1 h2)
  have HN := hid (fun h => Sd.slot_none (tags := tags) (t := t) h)
  clear hr
  generalize Sd.slot tags t = s at *
  generalize tags.length = N at *
  go_enter Try.func41, Try.ntmps41
  go_wp2_with fail
  go_loop [5] (fun i => ∃ k : Nat, k ≤ N ∧ i = .int .i64 k ∧ Hid (∀ j, j < k → tags.getD j 0 ≠ t)) (fun i => N - (intOf i).toNat)
  case atStart => exact ⟨0, by omega, rfl, fun j hj => absurd hj (by omega)⟩
  case round =>
    obtain ⟨k, hk, rfl, HNo⟩ := hrel
    by_cases hlt : k < N
    · obtain ⟨b', off, rfl, hb', hcell⟩ := HR.out.at_ hlt
      have L5 : (k : Int) < (N : Int) := by omega
      by_cases e : tags.getD k 0 = t
      · have HS1 := hid (HS.out k hlt e HNo.out)
        have e1 : (tags.getD k 0 == t) = true := by simpa using e
        generalize tags.getD k 0 = x at *
        clear e
        go_wp2_with fail
        go_ret
        exact ⟨by rw [HS1.out]; rfl, HK.out⟩
      · have e1 : (tags.getD k 0 == t) = false := by rw [beq_eq_false_iff_ne]; exact e
        have HNo2 : Hid (∀ j, j < k + 1 → tags.getD j 0 ≠ t) := fun j hj => by
          rcases (show j < k ∨ j = k by omega) with h | rfl
          · exact HNo.out j h
          · exact e
        generalize tags.getD k 0 = x at *
        clear e
        go_wp2_with fail
        go_round
        case rel => exact ⟨k + 1, by omega, by go_num, HNo2⟩
        case measure => simp [intOf]; omega
    · obtain rfl : k = N := by omega
      have HN1 := hid (HN.out HNo.out)
      have d : decide ((k : Int) < (k : Int)) = false := decide_eq_false (by omega)
      clear hlt
      go_wp2_with fail
      go_ret
      exact ⟨by rw [HN1.out]; rfl, HK.out⟩
theorem rcount30_any (a p : Int) (tags : List Int) (A : Option Addr) (c : Nat) (w : World) (hn : tags.length ≤ 1048576) (hr : Row1 w A tags.length fun i => .int .i64 (tags.getD i 0)) :
    Calls Try.prog 42 #[.agg #[.int .i64 a, .int .i64 p, .slice A tags.length c]] w fun e w' => e = .returned (.int .i64 (Rv.vac tags)) ∧ KW w w' := by
  have HK := hid ((KW.refl w).alloc (.cells #[.int .i64 a, .int .i64 p, .slice A tags.length c] 24))
  have HR := hid (hr.k HK.out)
  have HNl := hid (fun k => Rv.lkN_b tags k)
  have HNs : Hid (∀ k, Rv.lkN tags (k + 1) = Rv.lkN tags k + if tags.getD k 0 < 0 then 1 else 0) := fun k => rfl
  have HN0 : Hid (Rv.lkN tags 0 = 0) := rfl
  rw [← Rv.lkN_all]
  clear hr
  generalize Rv.lkN tags = f at *
  generalize tags.length = N at *
  go_enter Try.func42, Try.ntmps42
  go_wp2_with fail
  go_loop [3, 4] (fun q i => ∃ k : Nat, k ≤ N ∧ i = .int .i64 k ∧ q = .int .i64 (f k)) (fun _ i => N - (intOf i).toNat)
  case atStart => exact ⟨0, by omega, rfl, by rw [HN0.out]⟩
  case round =>
    obtain ⟨k, hk, rfl, rfl⟩ := hrel
    by_cases hlt : k < N
    · obtain ⟨b', off, rfl, hb', hcell⟩ := HR.out.at_ hlt
      have L5 : (k : Int) < (N : Int) := by omega
      have hb := HNl.out k
      have hs := HNs.out k
      generalize tags.getD k 0 = x at *
      by_cases e : x < 0
      · rw [if_pos e] at hs
        have HS := hid hs
        clear hs
        go_wp2_with fail
        go_round
        case rel => exact ⟨k + 1, by omega, by go_num, by rw [HS.out]⟩
        case measure => simp [intOf]; omega
      · rw [if_neg e, Int.add_zero] at hs
        have HS := hid hs
        have d : decide (x < 0) = false := decide_eq_false e
        clear hs e
        go_wp2_with fail
        go_round
        case rel => exact ⟨k + 1, by omega, by go_num, by rw [HS.out]⟩
        case measure => simp [intOf]; omega
    · obtain rfl : k = N := by omega
      have d : decide ((k : Int) < (k : Int)) = false := decide_eq_false (by omega)
      clear hlt
      go_wp2_with fail
      go_ret
      exact ⟨rfl, HK.out⟩
end Go.Proofs.Ytgadkelldbibgaa
