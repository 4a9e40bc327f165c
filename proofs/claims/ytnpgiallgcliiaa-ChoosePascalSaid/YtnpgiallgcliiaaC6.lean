/- The walk of ChoosePascal. -/
import Derived.Test.YtnpgiallgcliiaaC5
namespace Go.Proofs.Ytnpgiallgcliiaa
open Go.ChangeShapes Go.WideShapes Go.ChangeAt Go.RowKit
set_option linter.unusedVariables false

theorem held_sum (a b : Int) : Ch.held (Ch.held a + Ch.held b) = min (Ch.held a + Ch.held b) 1099511627776 := by
  have := Ch.held_nn a; have := Ch.held_nn b
  generalize Ch.held a = x at *
  generalize Ch.held b = y at *
  unfold Ch.held; omega

theorem pascal_none (n k : Int) (w : World) (hn0 : -9223372036854775808 ≤ n) (hn1 : n ≤ 9223372036854775807) (h : n < 0 ∨ k < 0 ∨ n < k) :
    Calls Try.prog 8 #[.int .i64 n, .int .i64 k] w fun e w' => e = .returned (.bool true) ∧ KW w w' := by
  have hk := KW.refl w
  have HC := hid (fun W => choose_any n k W hn0 hn1)
  rw [Ch.ch_none h] at HC
  by_cases h1 : n < 0
  · clear h
    go_enter Try.func8, Try.ntmps8
    go_wp2_with fail
    refine (HC.out _).mono ?_
    rintro e w1 ⟨rfl, hb⟩
    replace hk := hk.t hb
    clear hb
    go_wp2_with (go_at_call 27; refine (goes6_any _).mono ?_; rintro e w1 ⟨rfl, hb⟩; replace hk := hk.t hb; clear hb)
    go_ret
    exact ⟨rfl, hk⟩
  · have d1 : decide (n < 0) = false := by simpa using h1
    by_cases h2 : k < 0
    · clear h
      go_enter Try.func8, Try.ntmps8
      go_wp2_with fail
      refine (HC.out _).mono ?_
      rintro e w1 ⟨rfl, hb⟩
      replace hk := hk.t hb
      clear hb
      go_wp2_with (go_at_call 27; refine (goes6_any _).mono ?_; rintro e w1 ⟨rfl, hb⟩; replace hk := hk.t hb; clear hb)
      go_ret
      exact ⟨rfl, hk⟩
    · have d2 : decide (k < 0) = false := by simpa using h2
      have h3 : n < k := by omega
      clear h
      go_enter Try.func8, Try.ntmps8
      go_wp2_with fail
      refine (HC.out _).mono ?_
      rintro e w1 ⟨rfl, hb⟩
      replace hk := hk.t hb
      clear hb
      go_wp2_with (go_at_call 27; refine (goes6_any _).mono ?_; rintro e w1 ⟨rfl, hb⟩; replace hk := hk.t hb; clear hb)
      go_ret
      exact ⟨rfl, hk⟩

theorem pascal_one (w : World) : Calls Try.prog 8 #[.int .i64 1, .int .i64 1] w fun e w' => e = .returned (.bool true) ∧ KW w w' := by
  have hk := KW.refl w
  have HA := hid (fun W => goes_c 1 1 1 0 1 W (by omega) (by omega) (by decide) (by decide) (by decide +kernel))
  have HB := hid (fun W => goes_c 1 0 1 1 0 W (by omega) (by omega) (by decide) (by decide) (by decide +kernel))
  have HC := hid (fun W => goes_c 0 0 1 0 0 W (by omega) (by omega) (by decide) (by decide) (by decide +kernel))
  have HD := hid (fun W => choose_any 0 1 W (by omega) (by omega))
  rw [Ch.ch_none (by omega)] at HD
  have HS := hid (fun W t => add2 W t 1 0 (by omega) (by omega))
  rw [show min (Ch.held 1 + Ch.held 0) 1099511627776 = 1 from by decide +kernel] at HS
  go_enter Try.func8, Try.ntmps8
  go_wp2_with fail
  refine (HA.out _).mono ?_
  rintro e w1 ⟨rfl, hb⟩
  replace hk := hk.t hb
  clear hb
  go_wp2_with fail
  refine (HB.out _).mono ?_
  rintro e w1 ⟨rfl, hb⟩
  replace hk := hk.t hb
  clear hb
  go_wp2_with fail
  refine (HC.out _).mono ?_
  rintro e w1 ⟨rfl, hb⟩
  replace hk := hk.t hb
  clear hb
  go_wp2_with fail
  refine (HD.out _).mono ?_
  rintro e w1 ⟨rfl, hb⟩
  replace hk := hk.t hb
  clear hb
  go_wp2_with fail
  refine (HS.out _ _).mono ?_
  rintro e w1 ⟨rfl, hb⟩
  replace hk := hk.t hb
  clear hb
  go_wp2_with fail
  refine (goes6_any _).mono ?_
  rintro e w1 ⟨rfl, hb⟩
  replace hk := hk.t hb
  clear hb
  go_wp2_with fail
  go_ret
  exact ⟨rfl, hk⟩

set_option maxHeartbeats 1000000 in
theorem pascal_walk (n k : Int) (w : World) (hn0 : -9223372036854775808 ≤ n) (hn1 : n ≤ 9223372036854775807) (hk0 : -9223372036854775808 ≤ k) (hk1 : k ≤ 9223372036854775807) :
    Calls Try.prog 8 #[.int .i64 n, .int .i64 k] w fun e w' => e = .returned (.bool true) ∧ KW w w' := by
  by_cases h : n < 0 ∨ k < 0 ∨ n < k
  · exact pascal_none n k w hn0 hn1 h
  have hk := KW.refl w
  have HC := hid (fun W => choose_any n k W hn0 hn1)
  have HD := hid (fun W => choose_any n (n - k) W hn0 hn1)
  rw [Ch.ch_other (by omega) (by omega)] at HD
  have hc0 := Ch.ch_pos (n := n) (k := k) (by omega) (by omega)
  have hc1 := Ch.ch_le n k
  have hcg := fun (h1 : 0 < k) (h2 : k < n) => Ch.ch_ge (n := n) (k := k) h1 h2
  have d1 : decide (n < 0) = false := by simp; omega
  have d2 : decide (k < 0) = false := by simp; omega
  have d3 : decide (n < k) = false := by simp; omega
  by_cases hz : k = 0 ∨ n = 0
  · have hz1 : k = 0 := by omega
    subst hz1
    rw [Int.sub_zero] at HD
    generalize Ch.ch n 0 = c at *
    have e1 : decide (c < 1) = false := by simp; omega
    have e2 : decide (1099511627776 < c) = false := by simp; omega
    clear hcg h hz
    by_cases hn : 1 < n
    · have hn' : decide (1 < n) = true := by simpa using hn
      go_enter Try.func8, Try.ntmps8
      go_wp2_with fail
      refine (HC.out _).mono ?_
      rintro e w1 ⟨rfl, hb⟩
      replace hk := hk.t hb
      clear hb
      go_wp2_with fail
      refine (HD.out _).mono ?_
      rintro e w1 ⟨rfl, hb⟩
      replace hk := hk.t hb
      clear hb
      go_wp2_with (go_at_call 27; refine (goes6_any _).mono ?_; rintro e w1 ⟨rfl, hb⟩; replace hk := hk.t hb; clear hb)
      go_ret
      exact ⟨rfl, hk⟩
    · have hn' : decide (1 < n) = false := by simpa using hn
      go_enter Try.func8, Try.ntmps8
      go_wp2_with fail
      refine (HC.out _).mono ?_
      rintro e w1 ⟨rfl, hb⟩
      replace hk := hk.t hb
      clear hb
      go_wp2_with fail
      refine (HD.out _).mono ?_
      rintro e w1 ⟨rfl, hb⟩
      replace hk := hk.t hb
      clear hb
      go_wp2_with (go_at_call 27; refine (goes6_any _).mono ?_; rintro e w1 ⟨rfl, hb⟩; replace hk := hk.t hb; clear hb)
      go_ret
      exact ⟨rfl, hk⟩
  · have k1 : 0 < k := by omega
    by_cases hn : ¬ 1 < n
    · obtain rfl : n = 1 := by omega
      obtain rfl : k = 1 := by omega
      exact pascal_one w
    replace hn : 1 < n := by omega
    have HP := hid (Ch.ch_two k1 (show k ≤ n by omega) (by omega))
    have HX := hid (fun W => choose_any (n - 1) (k - 1) W (by omega) (by omega))
    have HY := hid (fun W => choose_any (n - 1) k W (by omega) (by omega))
    have x0 := Ch.ch_nn (n - 1) (k - 1)
    have x1 := Ch.ch_le (n - 1) (k - 1)
    have y0 := Ch.ch_nn (n - 1) k
    have y1 := Ch.ch_le (n - 1) k
    rw [held_sum] at HP
    have e1 : decide (Ch.ch n k < 1) = false := by simp; omega
    have e2 : decide (1099511627776 < Ch.ch n k) = false := by simp; omega
    have z1 : (k == 0) = false := by simp; omega
    have z2 : (n == 0) = false := by simp; omega
    have k1' : decide (0 < k) = true := by simpa using k1
    generalize Ch.ch (n - 1) (k - 1) = x at *
    generalize Ch.ch (n - 1) k = y at *
    have HS := hid (fun W t => add2 W t x y ⟨by omega, by omega⟩ ⟨by omega, by omega⟩)
    rw [HP.out] at HS
    generalize Ch.ch n k = c at *
    clear h hz HP
    have hn' : decide (1 < n) = true := by simpa using hn
    by_cases hkn : k < n
    · have hkn' : decide (k < n) = true := by simpa using hkn
      have hg := hcg k1 hkn
      clear hcg
      by_cases hm : n ≤ 1099511627776
      · have hg2 : decide (c < n) = false := by simp; omega
        go_enter Try.func8, Try.ntmps8
        go_wp2_with fail
        refine (HC.out _).mono ?_
        rintro e w1 ⟨rfl, hb⟩
        replace hk := hk.t hb
        clear hb
        go_wp2_with fail
        refine (HD.out _).mono ?_
        rintro e w1 ⟨rfl, hb⟩
        replace hk := hk.t hb
        clear hb
        go_wp2_with fail
        refine (HX.out _).mono ?_
        rintro e w1 ⟨rfl, hb⟩
        replace hk := hk.t hb
        clear hb
        go_wp2_with fail
        refine (HY.out _).mono ?_
        rintro e w1 ⟨rfl, hb⟩
        replace hk := hk.t hb
        clear hb
        go_wp2_with fail
        refine (HS.out _ _).mono ?_
        rintro e w1 ⟨rfl, hb⟩
        replace hk := hk.t hb
        clear hb
        go_wp2_with fail
        refine (goes6_any _).mono ?_
        rintro e w1 ⟨rfl, hb⟩
        replace hk := hk.t hb
        clear hb
        go_wp2_with fail
        go_ret
        exact ⟨rfl, hk⟩
      · have hg2 : decide (c < 1099511627776) = false := by simp; omega
        go_enter Try.func8, Try.ntmps8
        go_wp2_with fail
        refine (HC.out _).mono ?_
        rintro e w1 ⟨rfl, hb⟩
        replace hk := hk.t hb
        clear hb
        go_wp2_with fail
        refine (HD.out _).mono ?_
        rintro e w1 ⟨rfl, hb⟩
        replace hk := hk.t hb
        clear hb
        go_wp2_with fail
        refine (HX.out _).mono ?_
        rintro e w1 ⟨rfl, hb⟩
        replace hk := hk.t hb
        clear hb
        go_wp2_with fail
        refine (HY.out _).mono ?_
        rintro e w1 ⟨rfl, hb⟩
        replace hk := hk.t hb
        clear hb
        go_wp2_with fail
        refine (HS.out _ _).mono ?_
        rintro e w1 ⟨rfl, hb⟩
        replace hk := hk.t hb
        clear hb
        go_wp2_with fail
        refine (goes6_any _).mono ?_
        rintro e w1 ⟨rfl, hb⟩
        replace hk := hk.t hb
        clear hb
        go_wp2_with fail
        go_ret
        exact ⟨rfl, hk⟩
    · have hkn' : decide (k < n) = false := by simpa using hkn
      clear hcg
      go_enter Try.func8, Try.ntmps8
      go_wp2_with fail
      refine (HC.out _).mono ?_
      rintro e w1 ⟨rfl, hb⟩
      replace hk := hk.t hb
      clear hb
      go_wp2_with fail
      refine (HD.out _).mono ?_
      rintro e w1 ⟨rfl, hb⟩
      replace hk := hk.t hb
      clear hb
      go_wp2_with fail
      refine (HX.out _).mono ?_
      rintro e w1 ⟨rfl, hb⟩
      replace hk := hk.t hb
      clear hb
      go_wp2_with fail
      refine (HY.out _).mono ?_
      rintro e w1 ⟨rfl, hb⟩
      replace hk := hk.t hb
      clear hb
      go_wp2_with fail
      refine (HS.out _ _).mono ?_
      rintro e w1 ⟨rfl, hb⟩
      replace hk := hk.t hb
      clear hb
      go_wp2_with fail
      refine (goes6_any _).mono ?_
      rintro e w1 ⟨rfl, hb⟩
      replace hk := hk.t hb
      clear hb
      go_wp2_with fail
      go_ret
      exact ⟨rfl, hk⟩
end Go.Proofs.Ytnpgiallgcliiaa
