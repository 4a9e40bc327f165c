/- BestTables. -/
import Derived.Test.YtgadkelldbibgaaBT
import Derived.RegionTactic
namespace Go.Proofs.Ytgadkelldbibgaa
open Go.ChangeShapes Go.WideShapes Go.ChangeAt Go.RowKit
set_option linter.unusedVariables false

set_option maxHeartbeats 1000000 in
theorem ints29_same (N : Nat) (f : Nat → Int) (A1 A2 : Option Addr) (c1 c2 : Nat) (w : World) (h1 : Row1 w A1 N fun i => .int .i64 (f i)) (h2 : Row1 w A2 N fun i => .int .i64 (f i)) (hN : N ≤ 100000) :
    Calls Try.prog 34 #[.slice A1 N c1, .slice A2 N c2] w fun e w' => e = .returned (.bool true) ∧ KW w w' := by
  have H1 := hid h1
  have H2 := hid h2
  clear h1 h2
  go_enter Try.func34, Try.ntmps34
  go_wp2_with fail
  go_loopw [5] (fun i wr => ∃ k : Nat, k ≤ N ∧ i = .int .i64 k ∧ Hid (KW w wr)) (fun i _ => N - (intOf i).toNat)
  case atStart => exact ⟨0, by omega, rfl, KW.refl w⟩
  case round =>
    obtain ⟨k, hk, rfl, HK⟩ := hrel
    by_cases hlt : k < N
    · obtain ⟨q1, o1, rfl, hq1, hc1⟩ := (H1.out.k HK.out).at_ hlt
      obtain ⟨q2, o2, rfl, hq2, hc2⟩ := (H2.out.k HK.out).at_ hlt
      generalize f k = x at *
      have L5 : (k : Int) < (N : Int) := by omega
      go_wp2_with fail
      have hXS := And.intro hc1 hc2
      refine wpX_region (S := fun w' => w'.cell? ⟨q1, o1 + k, none⟩ = some (.int .i64 x) ∧ w'.cell? ⟨q2, o2 + k, none⟩ = some (.int .i64 x)) (L := 99) (by kernel_rfl) ?_
      refine wpX_take (i := 0) (v := ?_) rfl rfl (by kernel_rfl) (fun _ _ _ h => h) (Or.inl ⟨rfl, fun wS hwS => ?_⟩) hXS ?_
      rotate_left
      · go_simp; try rfl
      simp only [List.set_cons_zero, List.set_cons_succ]
      refine wpX_take (i := 1) (v := ?_) rfl rfl (by kernel_rfl) (fun _ _ _ h => h) (Or.inl ⟨rfl, fun wS hwS => ?_⟩) hXS ?_
      rotate_left
      · go_simp; try rfl
      simp only [List.set_cons_zero, List.set_cons_succ]
      refine wpX_take (i := 2) (v := ?_) rfl rfl (by kernel_rfl) (fun _ _ _ h => h) (Or.inl ⟨rfl, fun wS hwS => ?_⟩) hXS ?_
      rotate_left
      · go_simp; try rfl
      simp only [List.set_cons_zero, List.set_cons_succ]
      refine wpX_take (i := 3) (v := ?_) rfl rfl (by kernel_rfl) (fun _ _ _ h => h) (Or.inl ⟨rfl, fun wS hwS => ?_⟩) hXS ?_
      rotate_left
      · go_simp; try rfl
      simp only [List.set_cons_zero, List.set_cons_succ]
      refine wpX_take (i := 4) (v := ?_) rfl rfl (by kernel_rfl) (fun _ _ _ h => h) (Or.inl ⟨rfl, fun wS hwS => ?_⟩) hXS ?_
      rotate_left
      · go_simp; try rfl
      simp only [List.set_cons_zero, List.set_cons_succ]
      refine wpX_take (i := 5) (v := ?_) rfl rfl (by kernel_rfl) (fun _ _ _ h => h) (Or.inl ⟨rfl, fun wS hwS => ?_⟩) hXS ?_
      rotate_left
      · go_simp; try rfl
      simp only [List.set_cons_zero, List.set_cons_succ]
      refine wpX_take (i := 6) (v := ?_) rfl rfl (by kernel_rfl) (fun _ _ _ h => h) (Or.inl ⟨rfl, fun wS hwS => ?_⟩) hXS ?_
      rotate_left
      · go_simp; try rfl
      simp only [List.set_cons_zero, List.set_cons_succ]
      refine wpX_take (i := 7) (v := ?_) rfl rfl (by kernel_rfl) (fun _ _ _ h => h) (Or.inl ⟨rfl, fun wS hwS => ?_⟩) hXS ?_
      rotate_left
      · go_simp; try rfl
      simp only [List.set_cons_zero, List.set_cons_succ]
      refine wpX_take (i := 8) (v := ?_) rfl rfl (by kernel_rfl) (fun _ _ _ h => h) (Or.inl ⟨rfl, fun wS hwS => ?_⟩) hXS ?_
      rotate_left
      · go_simp; try rfl
      simp only [List.set_cons_zero, List.set_cons_succ]
      refine wpX_done (by kernel_rfl) ?_
      have d : (x != x) = false := by simp
      have HK2 := hid HK.out.drew
      go_wp2_with fail
      go_roundw
      case rel => exact ⟨k + 1, by omega, by go_num, HK2⟩
      case measure => simp [intOf]; omega
    · obtain rfl : k = N := by omega
      go_wp2_with fail
      go_ret
      exact ⟨rfl, HK.out⟩

set_option maxHeartbeats 1000000 in
theorem tables_no (l s : Int) (w : World) (h : l < 0 ∨ 300 < l ∨ s < 1 ∨ 12 < s) :
    Calls Try.prog 9 #[.int .i64 l, .int .i64 s] w fun e w' => e = .returned (.bool true) ∧ KW w w' := by
  have H1 := hid (least29_no l s w h)
  have H2 := hid (fun W => rleast29_no l s W h)
  have H3 := hid (fun W => table_no l s W h)
  have H4 := hid (fun W => rtable_no l s W h)
  have HG := hid (fun W => goes29_any W)
  clear h
  go_enter Try.func9, Try.ntmps9
  go_wp2_with fail
  refine H1.out.mono ?_
  rintro e w1 ⟨rfl, hk1⟩
  have HK1 := hid hk1
  clear hk1
  go_wp2_with fail
  refine (H2.out _).mono ?_
  rintro e w2 ⟨rfl, hk2⟩
  have HK2 := hid (HK1.out.t hk2)
  clear hk2
  go_wp2_with fail
  refine (H3.out _).mono ?_
  rintro e w3 ⟨rfl, rfl⟩
  go_wp2_with fail
  refine (H4.out _).mono ?_
  rintro e w3 ⟨rfl, rfl⟩
  go_wp2_with fail
  go_loopw [13] (fun i wr => i = .int .i64 0 ∧ Hid (KW w wr)) (fun _ _ => 0)
  case atStart => exact ⟨rfl, HK2⟩
  case round =>
    obtain ⟨rfl, HK⟩ := hrel
    go_wp2_with fail
    refine (HG.out _).mono ?_
    rintro e w5 ⟨rfl, hk5⟩
    have HK5 := hid (HK.out.t hk5)
    clear hk5
    go_wp2_with fail
    go_ret
    exact ⟨rfl, HK5.out⟩

set_option maxRecDepth 100000 in
set_option maxHeartbeats 1000000 in
theorem tables_yes (l s : Nat) (w : World) (hl : l ≤ 300) (s0 : 1 ≤ s) (s1 : s ≤ 12) :
    Calls Try.prog 9 #[.int .i64 l, .int .i64 s] w fun e w' => e = .returned (.bool true) ∧ KW w w' := by
  have H1 := hid (least29_yes l s w hl s0 s1)
  have H2 := hid (fun W => rleast29_yes l s W hl s0 s1)
  have H3 := hid (fun W => table_yes l s W hl s0 s1)
  have H4 := hid (fun W => rtable_yes l s W hl s0 s1)
  unfold TabP at H3 H4
  have HG := hid (fun W => goes29_any W)
  have HI := hid (fun (k : Nat) A1 A2 c1 c2 W h1 h2 => ints29_same (l + 1) (fun i => (Ch.tt i (k + 1) : Int)) A1 A2 c1 c2 W h1 h2 (by omega))
  have e1 : ((Ch.tt l s : Int) != (Ch.tt l s : Int)) = false := by simp
  generalize (Ch.tt l s : Int) = T at *
  go_enter Try.func9, Try.ntmps9
  go_wp2_with fail
  refine H1.out.mono ?_
  rintro e w1 ⟨rfl, hk1⟩
  have HK1 := hid hk1
  clear hk1
  go_wp2_with fail
  refine (H2.out _).mono ?_
  rintro e w2 ⟨rfl, hk2⟩
  have HK2 := hid (HK1.out.t hk2)
  clear hk2
  go_wp2_with fail
  refine (H3.out _).mono ?_
  rintro e w3 ⟨v3, vs3, rfl, hr3, hk3⟩
  have HK3 := hid (HK2.out.t hk3)
  have HR3 := hid hr3
  obtain ⟨A3, cp3, hv3, _⟩ := hr3.sl
  subst hv3
  clear hk3 hr3
  go_wp2_with fail
  refine (H4.out _).mono ?_
  rintro e w4 ⟨v4, vs4, rfl, hr4, hk4⟩
  have HK4 := hid (HK3.out.t hk4)
  have HR3' := hid (HR3.out.kw hk4)
  have HR4 := hid hr4
  obtain ⟨A4, cp4, hv4, _⟩ := hr4.sl
  subst hv4
  clear hk4 hr4
  have e2 : ((s : Int) != (s : Int)) = false := by simp
  go_wp2_with fail
  go_loopw [13] (fun i wr => ∃ k : Nat, k ≤ s ∧ i = .int .i64 k ∧ Hid (KW w4 wr)) (fun i _ => s - (intOf i).toNat)
  case atStart => exact ⟨0, by omega, rfl, KW.refl w4⟩
  case round =>
    obtain ⟨k, hk, rfl, HK⟩ := hrel
    by_cases hlt : k < s
    · have L5 : (k : Int) < (s : Int) := by omega
      have HRa := hid (HR3'.out.kw HK.out)
      have HRb := hid (HR4.out.kw HK.out)
      obtain ⟨B3, cb3, hB3, hrow3⟩ := HRa.out.at_ hlt
      obtain ⟨B4, cb4, hB4, hrow4⟩ := HRb.out.at_ hlt
      obtain ⟨A3', cp3', hv3, hsl3⟩ := HRa.out.sl
      cases hv3
      obtain ⟨A4', cp4', hv4, hsl4⟩ := HRb.out.sl
      cases hv4
      obtain ⟨q1, o1, rfl, hq1, hc1⟩ := hsl3.at_ hlt
      obtain ⟨q2, o2, rfl, hq2, hc2⟩ := hsl4.at_ hlt
      rw [hB3] at hc1
      rw [hB4] at hc2
      have HC1 := hid hc1
      have HC2 := hid hc2
      have HW3 := hid hrow3
      have HW4 := hid hrow4
      have HQ := hid (And.intro hq1 hq2)
      clear hrow3 hrow4 hsl3 hsl4 hB3 hB4 hq1 hq2
      go_wp2_with fail
      have hXS := And.intro hc1 hc2
      refine wpX_region (S := fun w' => w'.cell? ⟨q1, o1 + k, none⟩ = some (.slice B3 (l + 1) cb3) ∧ w'.cell? ⟨q2, o2 + k, none⟩ = some (.slice B4 (l + 1) cb4)) (L := 99) (by kernel_rfl) ?_
      refine wpX_take (i := 0) (v := ?_) rfl rfl (by kernel_rfl) (fun _ _ _ h => h) (Or.inl ⟨rfl, fun wS hwS => ?_⟩) hXS ?_
      rotate_left
      · go_simp; try rfl
      simp only [List.set_cons_zero, List.set_cons_succ]
      refine wpX_take (i := 1) (v := ?_) rfl rfl (by kernel_rfl) (fun _ _ _ h => h) (Or.inl ⟨rfl, fun wS hwS => ?_⟩) hXS ?_
      rotate_left
      · go_simp; try rfl
      simp only [List.set_cons_zero, List.set_cons_succ]
      refine wpX_take (i := 2) (v := ?_) rfl rfl (by kernel_rfl) (fun _ _ _ h => h) (Or.inl ⟨rfl, fun wS hwS => ?_⟩) hXS ?_
      rotate_left
      · go_simp; try rfl
      simp only [List.set_cons_zero, List.set_cons_succ]
      refine wpX_take (i := 3) (v := ?_) rfl rfl (by kernel_rfl) (fun _ _ _ h => h) (Or.inl ⟨rfl, fun wS hwS => ?_⟩) hXS ?_
      rotate_left
      · go_simp; try rfl
      simp only [List.set_cons_zero, List.set_cons_succ]
      refine wpX_take (i := 4) (v := ?_) rfl rfl (by kernel_rfl) (fun _ _ _ h => h) (Or.inl ⟨rfl, fun wS hwS => ?_⟩) hXS ?_
      rotate_left
      · go_simp; try rfl
      simp only [List.set_cons_zero, List.set_cons_succ]
      refine wpX_take (i := 5) (v := ?_) rfl rfl (by kernel_rfl) (fun _ _ _ h => h) (Or.inl ⟨rfl, fun wS hwS => ?_⟩) hXS ?_
      rotate_left
      · go_simp; try rfl
      simp only [List.set_cons_zero, List.set_cons_succ]
      refine wpX_take (i := 6) (v := ?_) rfl rfl (by kernel_rfl) (fun _ _ _ h => h) (Or.inl ⟨rfl, fun wS hwS => ?_⟩) hXS ?_
      rotate_left
      · go_simp; try rfl
      simp only [List.set_cons_zero, List.set_cons_succ]
      refine wpX_take (i := 7) (v := ?_) rfl rfl (by kernel_rfl) (fun _ _ _ h => h) (Or.inl ⟨rfl, fun wS hwS => ?_⟩) hXS ?_
      rotate_left
      · go_simp; try rfl
      simp only [List.set_cons_zero, List.set_cons_succ]
      refine wpX_hard (k := 8) (by kernel_rfl) rfl (fun K hK => ?_)
      go_simp
      refine (HI.out k _ _ _ _ _ (HW3.out.k (KW.refl wr).drew) (HW4.out.k (KW.refl wr).drew)).mono ?_; rintro e w5 ⟨rfl, hk5⟩; have HK5 : Hid (KW wr w5) := (KW.refl wr).drew.t hk5; clear hk5
      refine hK _ _ (fun _ => And.intro (KW.cell HK5.out HQ.out.1 HC1.out) (KW.cell HK5.out HQ.out.2 HC2.out)) ?_
      clear hK K
      try simp only [List.set_cons_zero, List.set_cons_succ]
      clear hXS
      have hXS := And.intro (KW.cell HK5.out HQ.out.1 HC1.out) (KW.cell HK5.out HQ.out.2 HC2.out)
      refine wpX_take (i := 9) (v := ?_) rfl rfl (by kernel_rfl) (fun _ _ _ h => h) (Or.inl ⟨rfl, fun wS hwS => ?_⟩) hXS ?_
      rotate_left
      · go_simp; try rfl
      simp only [List.set_cons_zero, List.set_cons_succ]
      refine wpX_done (by kernel_rfl) ?_
      clear hXS hc1 hc2
      have HK6 := hid (HK.out.t HK5.out)
      go_wp2_with fail
      go_roundw
      case rel => exact ⟨k + 1, by omega, by go_num, HK6⟩
      case measure => simp [intOf]; omega
    · obtain rfl : k = s := by omega
      go_wp2_with fail
      refine (HG.out _).mono ?_
      rintro e w5 ⟨rfl, hk5⟩
      have HK5 := hid ((HK4.out.t HK.out).t hk5)
      clear hk5
      go_wp2_with fail
      go_ret
      exact ⟨rfl, HK5.out⟩

theorem btables_law (l s : Int) (w : World) (_ : -9223372036854775808 ≤ l) (_ : l ≤ 9223372036854775807) (_ : -9223372036854775808 ≤ s) (_ : s ≤ 9223372036854775807) :
    Calls Try.prog 9 #[.int .i64 l, .int .i64 s] w fun e w' => e = .returned (.bool true) ∧ KW w w' := by
  by_cases h : l < 0 ∨ 300 < l ∨ s < 1 ∨ 12 < s
  · exact tables_no l s w h
  · obtain ⟨L, rfl⟩ : ∃ L : Nat, l = L := ⟨l.toNat, by omega⟩
    obtain ⟨n, rfl⟩ : ∃ n : Nat, s = n := ⟨s.toNat, by omega⟩
    exact tables_yes L n w (by omega) (by omega) (by omega)

end Go.Proofs.Ytgadkelldbibgaa
