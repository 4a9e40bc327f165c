/- The walks of the laws about repetitions: RepsTells, RepsLongest. -/
import Derived.Test.YthmhdegndoodmaaQ3
namespace Go.Proofs.Ythmhdegndoodmaa
open Go.ChangeShapes Go.WideShapes Go.ChangeAt Go.RowKit
set_option linter.unusedVariables false

set_option maxHeartbeats 1000000 in
theorem tells_walk0 (l s a er t g m i x k : Int) (w : World)
    (H1 : (∀ W, Calls Try.prog 14 #[.int .i64 l, .int .i64 s] W fun e w' => e = .returned (.tuple #[.int .i64 a, .int .i64 er]) ∧ KW W w')) (H2 : (∀ W, Calls Try.prog 15 #[.int .i64 l, .int .i64 s] W fun e w' => e = .returned (.tuple #[.int .i64 a, .int .i64 er]) ∧ KW W w')) (H3 : (∀ W, Calls Try.prog 12 #[.int .i64 l, .int .i64 s] W fun e w' => e = .returned (.tuple #[.int .i64 t, .int .i64 g]) ∧ KW W w')) (H4 : (∀ W, Calls Try.prog 16 #[.int .i64 l, .int .i64 s] W fun e w' => e = .returned (.tuple #[.int .i64 t, .int .i64 g]) ∧ KW W w'))
    (H5 : (∀ W, Calls Try.prog 13 #[.int .i64 l, .int .i64 s] W fun e w' => e = .returned (.tuple #[.int .i64 m, .int .i64 i]) ∧ KW W w')) (H6 : (∀ W, Calls Try.prog 17 #[.int .i64 l, .int .i64 s] W fun e w' => e = .returned (.tuple #[.int .i64 m, .int .i64 i]) ∧ KW W w')) (H7 : (∀ W, Calls Try.prog 18 #[.int .i64 l, .int .i64 s] W fun e w' => e = .returned (.tuple #[.int .i64 x, .int .i64 k]) ∧ KW W w')) (H8 : (∀ W, Calls Try.prog 19 #[.int .i64 l, .int .i64 s] W fun e w' => e = .returned (.tuple #[.int .i64 x, .int .i64 k]) ∧ KW W w')) :
    Calls Try.prog 4 #[.int .i64 l, .int .i64 s] w fun e w' => e = .returned (.bool true) ∧ KW w w' := by
  have hk := KW.refl w
  have H1 := hid H1
  have H2 := hid H2
  have H3 := hid H3
  have H4 := hid H4
  have H5 := hid H5
  have H6 := hid H6
  have H7 := hid H7
  have H8 := hid H8
  go_enter Try.func4, Try.ntmps4
  go_wp2_with fail
  refine (H1.out _).mono ?_
  rintro e w1 ⟨rfl, hb⟩
  replace hk := hk.t hb
  clear hb
  go_wp2_with fail
  refine (H2.out _).mono ?_
  rintro e w1 ⟨rfl, hb⟩
  replace hk := hk.t hb
  clear hb
  go_wp2_with fail
  refine (H3.out _).mono ?_
  rintro e w1 ⟨rfl, hb⟩
  replace hk := hk.t hb
  clear hb
  go_wp2_with fail
  refine (H4.out _).mono ?_
  rintro e w1 ⟨rfl, hb⟩
  replace hk := hk.t hb
  clear hb
  go_wp2_with fail
  refine (H5.out _).mono ?_
  rintro e w1 ⟨rfl, hb⟩
  replace hk := hk.t hb
  clear hb
  go_wp2_with fail
  refine (H6.out _).mono ?_
  rintro e w1 ⟨rfl, hb⟩
  replace hk := hk.t hb
  clear hb
  go_wp2_with fail
  refine (H7.out _).mono ?_
  rintro e w1 ⟨rfl, hb⟩
  replace hk := hk.t hb
  clear hb
  go_wp2_with fail
  refine (H8.out _).mono ?_
  rintro e w1 ⟨rfl, hb⟩
  replace hk := hk.t hb
  clear hb
  go_wp2_with fail
  refine (goes28_any _).mono ?_
  rintro e w1 ⟨rfl, hb⟩
  replace hk := hk.t hb
  clear hb
  go_wp2_with fail
  go_ret
  exact ⟨rfl, hk⟩

theorem tells_walk (l s : Int) (w : World) (hl0 : -9223372036854775808 ≤ l) (hl1 : l ≤ 9223372036854775807) (hs0 : -9223372036854775808 ≤ s) (hs1 : s ≤ 9223372036854775807) :
    Calls Try.prog 4 #[.int .i64 l, .int .i64 s] w fun e w' => e = .returned (.bool true) ∧ KW w w' := by
  by_cases hA : l < 0 ∨ s < 1 ∨ 1048576 < s
  · exact tells_walk0 l s 0 2 0 2 0 2 0 2 w (fun W => reps_no l s W (by omega)) (fun W => rreps_no l s W (by omega)) (fun W => total_no l s W (by omega)) (fun W => rtotal_no l s W (by omega))
      (fun W => split_no l s W (by omega)) (fun W => rsplit_no l s W (by omega)) (fun W => longest_no l s W (by omega)) (fun W => rlongest_no l s W (by omega))
  · by_cases hB : 65535 < l
    · exact tells_walk0 l s 0 2 0 2 0 2 _ 0 w (fun W => reps_no l s W (by omega)) (fun W => rreps_no l s W (by omega)) (fun W => total_no l s W (by omega)) (fun W => rtotal_no l s W (by omega))
        (fun W => split_no l s W (by omega)) (fun W => rsplit_no l s W (by omega)) (fun W => longest_yes l s W (by omega) (by omega) (by omega) (by omega)) (fun W => rlongest_yes l s W (by omega) (by omega) (by omega) (by omega))
    · obtain ⟨l, rfl⟩ : ∃ n : Nat, l = n := ⟨l.toNat, by omega⟩
      obtain ⟨s, rfl⟩ : ∃ n : Nat, s = n := ⟨s.toNat, by omega⟩
      by_cases hC : l < 2
      · exact tells_walk0 l s _ 0 _ 0 0 2 _ 0 w (fun W => reps_yes l s W (by omega) (by omega) (by omega)) (fun W => rreps_yes l s W (by omega) (by omega) (by omega)) (fun W => total_yes l s W (by omega) (by omega) (by omega)) (fun W => rtotal_yes l s W (by omega) (by omega) (by omega))
          (fun W => split_no l s W (by omega)) (fun W => rsplit_no l s W (by omega)) (fun W => longest_yes l s W (by omega) (by omega) (by omega) (by omega)) (fun W => rlongest_yes l s W (by omega) (by omega) (by omega) (by omega))
      · exact tells_walk0 l s _ 0 _ 0 _ 0 _ 0 w (fun W => reps_yes l s W (by omega) (by omega) (by omega)) (fun W => rreps_yes l s W (by omega) (by omega) (by omega)) (fun W => total_yes l s W (by omega) (by omega) (by omega)) (fun W => rtotal_yes l s W (by omega) (by omega) (by omega))
          (fun W => split_yes l s W (by omega) (by omega) (by omega) (by omega)) (fun W => rsplit_yes l s W (by omega) (by omega) (by omega) (by omega)) (fun W => longest_yes l s W (by omega) (by omega) (by omega) (by omega)) (fun W => rlongest_yes l s W (by omega) (by omega) (by omega) (by omega))

theorem cadd2 (w : World) (t : TypeId) (a b : Int) (ha : -9223372036854775808 ≤ a ∧ a ≤ 9223372036854775807) (hb : -9223372036854775808 ≤ b ∧ b ≤ 9223372036854775807) :
    Calls Try.prog 23 #[.slice (some ⟨w.heap.size, 0, none⟩) 2 2] (w.alloc (.cells #[.int .i64 a, .int .i64 b] t)) fun e w' => e = .returned (.int .i64 (min (Ch.held a + Ch.held b) 1099511627776)) ∧ KW w w' := by
  have h := pure_kw (cadd_any (some ⟨w.heap.size, 0, none⟩) 2 2 (fun k => [a, b].getD k 0) _ (by omega) (fun k hk => by
    rcases (show k = 0 ∨ k = 1 from by omega) with rfl | rfl <;> assumption) (row1_ints w t [a, b]))
  have e : Ch.hs (fun k => [a, b].getD k 0) 2 = Ch.held a + Ch.held b := by simp [Ch.hs]
  rwa [e] at h
theorem held_sum (a b : Int) : Ch.held (Ch.held a + Ch.held b) = min (Ch.held a + Ch.held b) 1099511627776 := by
  have := Ch.held_nn a; have := Ch.held_nn b
  generalize Ch.held a = x at *
  generalize Ch.held b = y at *
  unfold Ch.held; omega
theorem longest_err (r s : Int) (w : World) (h : r < 0 ∨ s < 1 ∨ 1048576 < s) :
    Calls Try.prog 7 #[.int .i64 r, .int .i64 s] w fun e w' => e = .returned (.bool true) ∧ KW w w' := by
  have hk := KW.refl w
  have HN := hid (fun W => longest_no r s W h)
  by_cases h0 : r < 0
  · clear h
    go_enter Try.func7, Try.ntmps7
    go_wp2_with fail
    refine (HN.out _).mono ?_
    rintro e w1 ⟨rfl, hb⟩
    replace hk := hk.t hb
    clear hb
    go_wp2_with fail
    refine (goes28_any _).mono ?_
    rintro e w1 ⟨rfl, hb⟩
    replace hk := hk.t hb
    clear hb
    go_wp2_with fail
    go_ret
    exact ⟨rfl, hk⟩
  · have d0 : decide (r < 0) = false := by simp; omega
    by_cases h1 : s < 1
    · clear h
      go_enter Try.func7, Try.ntmps7
      go_wp2_with fail
      refine (HN.out _).mono ?_
      rintro e w1 ⟨rfl, hb⟩
      replace hk := hk.t hb
      clear hb
      go_wp2_with fail
      refine (goes28_any _).mono ?_
      rintro e w1 ⟨rfl, hb⟩
      replace hk := hk.t hb
      clear hb
      go_wp2_with fail
      go_ret
      exact ⟨rfl, hk⟩
    · have d1 : decide (s < 1) = false := by simp; omega
      have h2 : 1048576 < s := by omega
      clear h
      go_enter Try.func7, Try.ntmps7
      go_wp2_with fail
      refine (HN.out _).mono ?_
      rintro e w1 ⟨rfl, hb⟩
      replace hk := hk.t hb
      clear hb
      go_wp2_with fail
      refine (goes28_any _).mono ?_
      rintro e w1 ⟨rfl, hb⟩
      replace hk := hk.t hb
      clear hb
      go_wp2_with fail
      go_ret
      exact ⟨rfl, hk⟩
set_option maxHeartbeats 1000000 in
theorem longest_walk (r s : Int) (w : World) (hr0 : -9223372036854775808 ≤ r) (hr1 : r ≤ 9223372036854775807) (hs0 : -9223372036854775808 ≤ s) (hs1 : s ≤ 9223372036854775807) :
    Calls Try.prog 7 #[.int .i64 r, .int .i64 s] w fun e w' => e = .returned (.bool true) ∧ KW w w' := by
  by_cases h : r < 0 ∨ s < 1 ∨ 1048576 < s
  · exact longest_err r s w h
  have hk := KW.refl w
  have HY := hid (fun W => longest_yes r s W (by omega) (by omega) (by omega) (by omega))
  have hc0 := Ch.ch_pos (n := s + r) (k := s) (by omega) (by omega)
  have hc1 := Ch.ch_le (s + r) s
  have d0 : decide (r < 0) = false := by simp; omega
  have d1 : decide (s < 1) = false := by simp; omega
  have d2 : decide (1048576 < s) = false := by simp; omega
  have s1' : 1 ≤ s := by omega
  by_cases hr : r < 1
  · obtain rfl : r = 0 := by omega
    have e1 : Ch.ch (s + 0) s = 1 := by
      rw [Int.add_zero, Ch.ch_at (by omega) (by omega), Ch.bin_self]; rfl
    rw [e1] at HY
    clear hc0 hc1 e1 h
    by_cases hs : 1 < s
    · have hs' : decide (1 < s) = true := by simpa using hs
      go_enter Try.func7, Try.ntmps7
      go_wp2_with fail
      refine (HY.out _).mono ?_
      rintro e w1 ⟨rfl, hb⟩
      replace hk := hk.t hb
      clear hb
      go_wp2_with fail
      refine (goes28_any _).mono ?_
      rintro e w1 ⟨rfl, hb⟩
      replace hk := hk.t hb
      clear hb
      go_wp2_with fail
      go_ret
      exact ⟨rfl, hk⟩
    · obtain rfl : s = 1 := by omega
      go_enter Try.func7, Try.ntmps7
      go_wp2_with fail
      refine (HY.out _).mono ?_
      rintro e w1 ⟨rfl, hb⟩
      replace hk := hk.t hb
      clear hb
      go_wp2_with fail
      refine (goes28_any _).mono ?_
      rintro e w1 ⟨rfl, hb⟩
      replace hk := hk.t hb
      clear hb
      go_wp2_with fail
      go_ret
      exact ⟨rfl, hk⟩
  · have dr : decide (r < 1) = false := by simpa using hr
    have dr2 : decide (0 < r) = true := by simp; omega
    by_cases hs : s < 2
    · obtain rfl : s = 1 := by omega
      have e1 : Ch.ch (1 + r) 1 = min (r + 1) 1099511627776 := by
        rw [Ch.ch_at (by omega) (by omega), show (1 : Int).toNat = 1 from rfl, Ch.bin_one]; omega
      rw [e1] at HY
      clear hc0 hc1 e1 h
      by_cases hm : r ≤ 1099511627775
      · rw [show min (r + 1) 1099511627776 = r + 1 from by omega] at HY
        go_enter Try.func7, Try.ntmps7
        go_wp2_with fail
        refine (HY.out _).mono ?_
        rintro e w1 ⟨rfl, hb⟩
        replace hk := hk.t hb
        clear hb
        go_wp2_with fail
        refine (goes28_any _).mono ?_
        rintro e w1 ⟨rfl, hb⟩
        replace hk := hk.t hb
        clear hb
        go_wp2_with fail
        go_ret
        exact ⟨rfl, hk⟩
      · rw [show min (r + 1) 1099511627776 = 1099511627776 from by omega] at HY
        go_enter Try.func7, Try.ntmps7
        go_wp2_with fail
        refine (HY.out _).mono ?_
        rintro e w1 ⟨rfl, hb⟩
        replace hk := hk.t hb
        clear hb
        go_wp2_with fail
        refine (goes28_any _).mono ?_
        rintro e w1 ⟨rfl, hb⟩
        replace hk := hk.t hb
        clear hb
        go_wp2_with fail
        go_ret
        exact ⟨rfl, hk⟩
    · have ds : decide (s < 2) = false := by simpa using hs
      have HA := hid (fun W => longest_yes (r - 1) s W (by omega) (by omega) (by omega) (by omega))
      have HB := hid (fun W => longest_yes r (s - 1) W (by omega) (by omega) (by omega) (by omega))
      have a0 := Ch.ch_nn (s + (r - 1)) s
      have a1 := Ch.ch_le (s + (r - 1)) s
      have b0 := Ch.ch_nn (s - 1 + r) (s - 1)
      have b1 := Ch.ch_le (s - 1 + r) (s - 1)
      have HP := Ch.ch_two (n := s + r) (k := s) (by omega) (by omega) (by omega)
      rw [held_sum, show s + r - 1 = s - 1 + r from by omega] at HP
      rw [show s + (r - 1) = s - 1 + r from by omega] at *
      generalize Ch.ch (s - 1 + r) s = x at *
      generalize Ch.ch (s - 1 + r) (s - 1) = y at *
      have HS := hid (fun W t => cadd2 W t x y ⟨by omega, by omega⟩ ⟨by omega, by omega⟩)
      rw [Int.add_comm (Ch.held x), HP] at HS
      generalize Ch.ch (s + r) s = c at *
      have dc0 : decide (c < 1) = false := by simp; omega
      have dc1 : decide (1099511627776 < c) = false := by simp; omega
      clear h HP
      go_enter Try.func7, Try.ntmps7
      go_wp2_with fail
      refine (HY.out _).mono ?_
      rintro e w1 ⟨rfl, hb⟩
      replace hk := hk.t hb
      clear hb
      go_wp2_with fail
      refine (HA.out _).mono ?_
      rintro e w1 ⟨rfl, hb⟩
      replace hk := hk.t hb
      clear hb
      go_wp2_with fail
      refine (HB.out _).mono ?_
      rintro e w1 ⟨rfl, hb⟩
      replace hk := hk.t hb
      clear hb
      go_wp2_with fail
      refine (HS.out _ _).mono ?_
      rintro e w1 ⟨rfl, hb⟩
      replace hk := hk.t hb
      clear hb
      go_wp2_with fail
      refine (goes28_any _).mono ?_
      rintro e w1 ⟨rfl, hb⟩
      replace hk := hk.t hb
      clear hb
      go_wp2_with fail
      go_ret
      exact ⟨rfl, hk⟩
end Go.Proofs.Ythmhdegndoodmaa
