/- Contracts of reps.Total, greatest, Split, of the reference's Total, Split; the example of the page. -/
import Derived.Test.YthmhdegndoodmaaQ2
namespace Go.Proofs.Ythmhdegndoodmaa
open Go.ChangeShapes Go.WideShapes Go.ChangeAt Go.RowKit
set_option linter.unusedVariables false

theorem ret_pair {a b c : Int} (h : a = b) : Ending.returned (.tuple #[.int .i64 a, .int .i64 c]) = .returned (.tuple #[.int .i64 b, .int .i64 c]) := by rw [h]
theorem tot_is (l s : Nat) (hl : l ≤ 65535) (hs : 1 ≤ s) : ((Ch.rp l s : Nat) : Int) * (l : Int) - Ch.ch ((s : Int) + (Ch.rp l s : Nat)) ((s : Int) + 1) = Ch.tt l s := by
  have h1 := Ch.sum_le l s hs
  have h2 := Ch.rp_le l s hs
  have h3 : ((Ch.rp l s : Nat) : Int) * (l : Int) ≤ 65535 * 65535 := Int.mul_le_mul (by omega) (by omega) (by omega) (by omega)
  unfold Ch.tt Ch.gt
  generalize Ch.rp l s = r at *
  cases r with
  | zero =>
    rw [Ch.ch_none (by omega), Ch.sum_zero]; rfl
  | succ r =>
    rw [Ch.ch_at (by omega) (by omega), show ((s : Int) + (r + 1 : Nat)).toNat = s + (r + 1) from by omega, show ((s : Int) + 1).toNat = s + 1 from by omega]
    omega

set_option maxHeartbeats 1000000 in
theorem total_yes (l s : Nat) (w : World) (hl : l ≤ 65535) (s0 : 1 ≤ s) (s1 : s ≤ 1048576) :
    Calls Try.prog 12 #[.int .i64 l, .int .i64 s] w fun e w' => e = .returned (.tuple #[.int .i64 (Ch.tt l s), .int .i64 0]) ∧ KW w w' := by
  have HR := hid (fun W => reps_yes l s W hl s0 s1)
  have hq := Ch.rp_le l s s0
  have HC := hid (fun W => choose_any ((s : Int) + (Ch.rp l s : Nat)) ((s : Int) + 1) W (by omega) (by omega))
  rw [← tot_is l s hl s0]
  have p0 : 0 ≤ ((Ch.rp l s : Nat) : Int) * (l : Int) := Int.mul_nonneg (by omega) (by omega)
  have p1 : ((Ch.rp l s : Nat) : Int) * (l : Int) ≤ 65535 * 65535 := Int.mul_le_mul (by omega) (by omega) (by omega) (by omega)
  have c0 := Ch.ch_nn ((s : Int) + (Ch.rp l s : Nat)) ((s : Int) + 1)
  have c1 := Ch.ch_le ((s : Int) + (Ch.rp l s : Nat)) ((s : Int) + 1)
  generalize Ch.ch ((s : Int) + (Ch.rp l s : Nat)) ((s : Int) + 1) = c at *
  have r0 : 0 ≤ ((Ch.rp l s : Nat) : Int) := by omega
  have r1 : ((Ch.rp l s : Nat) : Int) ≤ 65535 := by omega
  clear hq
  generalize ((Ch.rp l s : Nat) : Int) = r at *
  generalize hp : r * (l : Int) = p at *
  have hk := KW.refl w
  go_enter Try.func12, Try.ntmps12
  go_wp2_with (first
    | (go_at_call 14; refine (HR.out _).mono ?_; rintro e w1 ⟨rfl, hb⟩; replace hk := hk.t hb; clear hb)
    | (go_at_call 34; refine (HC.out _).mono ?_; rintro e w1 ⟨rfl, hb⟩; replace hk := hk.t hb; clear hb))
  go_ret2
  exact ⟨rfl, hk⟩
theorem total_no (l s : Int) (w : World) (h : l < 0 ∨ 65535 < l ∨ s < 1 ∨ 1048576 < s) :
    Calls Try.prog 12 #[.int .i64 l, .int .i64 s] w fun e w' => e = .returned (.tuple #[.int .i64 0, .int .i64 2]) ∧ KW w w' := by
  have HR := hid (fun W => reps_no l s W h)
  clear h
  have hk := KW.refl w
  go_enter Try.func12, Try.ntmps12
  go_wp2_with (first
    | (go_at_call 14; refine (HR.out _).mono ?_; rintro e w1 ⟨rfl, hb⟩; replace hk := hk.t hb; clear hb))
  go_ret2
  exact ⟨rfl, hk⟩
set_option maxHeartbeats 1000000 in
theorem rtotal_yes (l s : Nat) (w : World) (hl : l ≤ 65535) (s0 : 1 ≤ s) (s1 : s ≤ 1048576) :
    Calls Try.prog 16 #[.int .i64 l, .int .i64 s] w fun e w' => e = .returned (.tuple #[.int .i64 (Ch.tt l s), .int .i64 0]) ∧ KW w w' := by
  have HR := hid (fun W => rreps_yes l s W hl s0 s1)
  have hq := Ch.rp_le l s s0
  have HC := hid (fun W => rchoose_any ((s : Int) + (Ch.rp l s : Nat)) ((s : Int) + 1) W (by omega) (by omega))
  rw [← tot_is l s hl s0]
  have p0 : 0 ≤ ((Ch.rp l s : Nat) : Int) * (l : Int) := Int.mul_nonneg (by omega) (by omega)
  have p1 : ((Ch.rp l s : Nat) : Int) * (l : Int) ≤ 65535 * 65535 := Int.mul_le_mul (by omega) (by omega) (by omega) (by omega)
  have c0 := Ch.ch_nn ((s : Int) + (Ch.rp l s : Nat)) ((s : Int) + 1)
  have c1 := Ch.ch_le ((s : Int) + (Ch.rp l s : Nat)) ((s : Int) + 1)
  generalize Ch.ch ((s : Int) + (Ch.rp l s : Nat)) ((s : Int) + 1) = c at *
  have r0 : 0 ≤ ((Ch.rp l s : Nat) : Int) := by omega
  have r1 : ((Ch.rp l s : Nat) : Int) ≤ 65535 := by omega
  clear hq
  generalize ((Ch.rp l s : Nat) : Int) = r at *
  generalize hp : r * (l : Int) = p at *
  have hk := KW.refl w
  go_enter Try.func16, Try.ntmps16
  go_wp2_with (first
    | (go_at_call 15; refine (HR.out _).mono ?_; rintro e w1 ⟨rfl, hb⟩; replace hk := hk.t hb; clear hb)
    | (go_at_call 40; refine (HC.out _).mono ?_; rintro e w1 ⟨rfl, hb⟩; replace hk := hk.t hb; clear hb))
  go_ret2
  exact ⟨rfl, hk⟩
theorem rtotal_no (l s : Int) (w : World) (h : l < 0 ∨ 65535 < l ∨ s < 1 ∨ 1048576 < s) :
    Calls Try.prog 16 #[.int .i64 l, .int .i64 s] w fun e w' => e = .returned (.tuple #[.int .i64 0, .int .i64 2]) ∧ KW w w' := by
  have HR := hid (fun W => rreps_no l s W h)
  clear h
  have hk := KW.refl w
  go_enter Try.func16, Try.ntmps16
  go_wp2_with (first
    | (go_at_call 15; refine (HR.out _).mono ?_; rintro e w1 ⟨rfl, hb⟩; replace hk := hk.t hb; clear hb))
  go_ret2
  exact ⟨rfl, hk⟩

/-- the greatest of so many -/
def mx (f : Nat → Int) : Nat → Int
  | 0 => f 0
  | k + 1 => max (mx f k) (f k)
set_option maxHeartbeats 1000000 in
theorem greatest_any (A : Option Addr) (n c : Nat) (f : Nat → Int) (w : World) (hn : n ≤ 9223372036854775807) (hn0 : 0 < n) (hr : Row1 w A n fun k => .int .i64 (f k)) :
    Calls Try.prog 35 #[.slice A n c] w fun e w' => e = .returned (.int .i64 (mx f n)) ∧ w = w' := by
  have HR := hid hr
  clear hr
  obtain ⟨b, off, rfl, hb, hc⟩ := HR.out.at_ hn0
  simp only [Nat.add_zero] at hc
  go_enter Try.func35, Try.ntmps35
  go_wp2
  go_loop [3, 5, 11] (fun s _ i => ∃ k : Nat, k ≤ n ∧ i = .int .i64 k ∧ s = .int .i64 (mx f k)) (fun _ _ i => n - (intOf i).toNat)
  case atStart => exact ⟨0, by omega, rfl, rfl⟩
  case round =>
    obtain ⟨k, hk, rfl, rfl⟩ := hrel
    by_cases hlt : k < n
    · obtain ⟨b', off', hA, hb', hc'⟩ := HR.out.at_ hlt
      cases hA
      have Hst := hid (show mx f (k + 1) = max (mx f k) (f k) from rfl)
      generalize mx f k = s at *
      generalize f k = x at *
      by_cases hsx : x ≤ s
      · have HM := hid (Int.max_eq_left hsx)
        go_wp2
        all_goals
          go_round
          case rel => exact ⟨k + 1, by omega, by go_num, by rw [Hst.out, HM.out]⟩
          case measure => simp [intOf]; omega
      · have HM := hid (Int.max_eq_right (show s ≤ x by omega))
        go_wp2
        all_goals
          go_round
          case rel => exact ⟨k + 1, by omega, by go_num, by rw [Hst.out, HM.out]⟩
          case measure => simp [intOf]; omega
    · obtain rfl : k = n := by omega
      go_wp2
      go_ret
      exact ⟨rfl, rfl⟩
theorem row1_ints (w : World) (t : TypeId) (l : List Int) : Row1 (w.alloc (.cells (l.map (Value.int .i64)).toArray t)) (some ⟨w.heap.size, 0, none⟩) l.length fun k => .int .i64 (l.getD k 0) := by
  have h := row1_new w t (l.map (Value.int .i64))
  rw [List.length_map] at h
  refine h.cong fun k hk => ?_
  simp [hk]
theorem greatest3 (w : World) (t : TypeId) (a b c : Int) :
    Calls Try.prog 35 #[.slice (some ⟨w.heap.size, 0, none⟩) 3 3] (w.alloc (.cells #[.int .i64 a, .int .i64 b, .int .i64 c] t)) fun e w' => e = .returned (.int .i64 (max a (max b c))) ∧ KW w w' := by
  have h := pure_kw (greatest_any (some ⟨w.heap.size, 0, none⟩) 3 3 (fun k => [a, b, c].getD k 0) _ (by omega) (by omega) (row1_ints w t [a, b, c]))
  have e : mx (fun k => [a, b, c].getD k 0) 3 = max a (max b c) := by simp only [mx]; show max (max (max a a) b) c = max a (max b c); omega
  rwa [e] at h

set_option maxHeartbeats 1000000 in
theorem split_yes (n c : Nat) (w : World) (hn0 : 2 ≤ n) (hn : n ≤ 65535) (s0 : 1 ≤ c) (s1 : c ≤ 1048576) :
    Calls Try.prog 13 #[.int .i64 n, .int .i64 c] w fun e w' => e = .returned (.tuple #[.int .i64 (Ch.sp n c), .int .i64 0]) ∧ KW w w' := by
  have d0 : ¬ (n : Int) < 2 := by omega
  have HR := hid (fun W => reps_yes n c W hn s0 s1)
  have hq := Ch.rp_le n c s0
  have HX := hid (fun W => choose_any ((c : Int) + (Ch.rp n c : Nat) - 2) (c : Int) W (by omega) (by omega))
  have HY := hid (fun W => choose_any ((c : Int) + (Ch.rp n c : Nat) - 1) ((c : Int) - 1) W (by omega) (by omega))
  have x0 := Ch.ch_nn ((c : Int) + (Ch.rp n c : Nat) - 2) (c : Int)
  have x1 := Ch.ch_le ((c : Int) + (Ch.rp n c : Nat) - 2) (c : Int)
  have y0 := Ch.ch_nn ((c : Int) + (Ch.rp n c : Nat) - 1) ((c : Int) - 1)
  have y1 := Ch.ch_le ((c : Int) + (Ch.rp n c : Nat) - 1) ((c : Int) - 1)
  have HG := hid (fun W t => greatest3 W t 1 (Ch.ch ((c : Int) + (Ch.rp n c : Nat) - 2) (c : Int)) ((n : Int) - Ch.ch ((c : Int) + (Ch.rp n c : Nat) - 1) ((c : Int) - 1)))
  have HS := hid (show Ch.sp n c = max 1 (max (Ch.ch ((c : Int) + (Ch.rp n c : Nat) - 2) (c : Int)) ((n : Int) - Ch.ch ((c : Int) + (Ch.rp n c : Nat) - 1) ((c : Int) - 1))) from rfl)
  rw [← HS.out] at HG
  clear HS
  generalize Ch.sp n c = sv at *
  generalize Ch.ch ((c : Int) + (Ch.rp n c : Nat) - 2) (c : Int) = x at *
  generalize Ch.ch ((c : Int) + (Ch.rp n c : Nat) - 1) ((c : Int) - 1) = y at *
  have r0 : 0 ≤ ((Ch.rp n c : Nat) : Int) := by omega
  have r1 : ((Ch.rp n c : Nat) : Int) ≤ 65535 := by omega
  clear hq
  generalize ((Ch.rp n c : Nat) : Int) = r at *
  have hk := KW.refl w
  go_enter Try.func13, Try.ntmps13
  go_wp2_with (go_at_call 14; refine (HR.out _).mono ?_; rintro e w1 ⟨rfl, hb⟩; replace hk := hk.t hb; clear hb)
  refine (HX.out _).mono ?_
  rintro e w1 ⟨rfl, hb⟩
  replace hk := hk.t hb
  clear hb
  go_wp2_with fail
  refine (HY.out _).mono ?_
  rintro e w1 ⟨rfl, hb⟩
  replace hk := hk.t hb
  clear hb
  go_wp2_with fail
  refine (HG.out _ _).mono ?_
  rintro e w1 ⟨rfl, hb⟩
  replace hk := hk.t hb
  clear hb
  go_wp2_with fail
  go_ret2
  exact ⟨rfl, hk⟩
theorem split_no (l s : Int) (w : World) (h : l < 2 ∨ 65535 < l ∨ s < 1 ∨ 1048576 < s) :
    Calls Try.prog 13 #[.int .i64 l, .int .i64 s] w fun e w' => e = .returned (.tuple #[.int .i64 0, .int .i64 2]) ∧ KW w w' := by
  have hk := KW.refl w
  by_cases h2 : l < 2
  · clear h
    go_enter Try.func13, Try.ntmps13
    go_wp2
    go_ret2
    exact ⟨rfl, hk⟩
  · have HR := hid (fun W => reps_no l s W (by omega))
    clear h
    go_enter Try.func13, Try.ntmps13
    go_wp2_with (first
      | (go_at_call 14; refine (HR.out _).mono ?_; rintro e w1 ⟨rfl, hb⟩; replace hk := hk.t hb; clear hb))
    go_ret2
    exact ⟨rfl, hk⟩
set_option maxHeartbeats 1000000 in
theorem rsplit_yes (n c : Nat) (w : World) (hn0 : 2 ≤ n) (hn : n ≤ 65535) (s0 : 1 ≤ c) (s1 : c ≤ 1048576) :
    Calls Try.prog 17 #[.int .i64 n, .int .i64 c] w fun e w' => e = .returned (.tuple #[.int .i64 (Ch.sp n c), .int .i64 0]) ∧ KW w w' := by
  have d0 : ¬ (n : Int) < 2 := by omega
  have HR := hid (fun W => rreps_yes n c W hn s0 s1)
  have hq := Ch.rp_le n c s0
  have HX := hid (fun W => rchoose_any ((c : Int) + (Ch.rp n c : Nat) - 2) (c : Int) W (by omega) (by omega))
  have HY := hid (fun W => rchoose_any ((c : Int) + (Ch.rp n c : Nat) - 1) ((c : Int) - 1) W (by omega) (by omega))
  have x0 := Ch.ch_nn ((c : Int) + (Ch.rp n c : Nat) - 2) (c : Int)
  have x1 := Ch.ch_le ((c : Int) + (Ch.rp n c : Nat) - 2) (c : Int)
  have y0 := Ch.ch_nn ((c : Int) + (Ch.rp n c : Nat) - 1) ((c : Int) - 1)
  have y1 := Ch.ch_le ((c : Int) + (Ch.rp n c : Nat) - 1) ((c : Int) - 1)
  have HS := hid (show Ch.sp n c = max 1 (max (Ch.ch ((c : Int) + (Ch.rp n c : Nat) - 2) (c : Int)) ((n : Int) - Ch.ch ((c : Int) + (Ch.rp n c : Nat) - 1) ((c : Int) - 1))) from rfl)
  generalize Ch.sp n c = sv at *
  generalize Ch.ch ((c : Int) + (Ch.rp n c : Nat) - 2) (c : Int) = x at *
  generalize Ch.ch ((c : Int) + (Ch.rp n c : Nat) - 1) ((c : Int) - 1) = y at *
  have r0 : 0 ≤ ((Ch.rp n c : Nat) : Int) := by omega
  have r1 : ((Ch.rp n c : Nat) : Int) ≤ 65535 := by omega
  clear hq
  generalize ((Ch.rp n c : Nat) : Int) = r at *
  have hk := KW.refl w
  have hcmp : x < (n : Int) - y ∨ ¬ x < (n : Int) - y := by omega
  rcases hcmp with hxy | hxy
  all_goals
    go_enter Try.func17, Try.ntmps17
    go_wp2_with (go_at_call 15; refine (HR.out _).mono ?_; rintro e w1 ⟨rfl, hb⟩; replace hk := hk.t hb; clear hb)
    refine (HX.out _).mono ?_
    rintro e w1 ⟨rfl, hb⟩
    replace hk := hk.t hb
    clear hb
    go_wp2_with fail
    refine (HY.out _).mono ?_
    rintro e w1 ⟨rfl, hb⟩
    replace hk := hk.t hb
    clear hb
    go_wp2_with fail
    all_goals
      go_ret2
      exact ⟨ret_pair (by rw [HS.out]; omega), hk⟩
theorem rsplit_no (l s : Int) (w : World) (h : l < 2 ∨ 65535 < l ∨ s < 1 ∨ 1048576 < s) :
    Calls Try.prog 17 #[.int .i64 l, .int .i64 s] w fun e w' => e = .returned (.tuple #[.int .i64 0, .int .i64 2]) ∧ KW w w' := by
  have hk := KW.refl w
  by_cases h2 : l < 2
  · clear h
    go_enter Try.func17, Try.ntmps17
    go_wp2
    go_ret2
    exact ⟨rfl, hk⟩
  · have HR := hid (fun W => rreps_no l s W (by omega))
    clear h
    go_enter Try.func17, Try.ntmps17
    go_wp2_with (first
      | (go_at_call 15; refine (HR.out _).mono ?_; rintro e w1 ⟨rfl, hb⟩; replace hk := hk.t hb; clear hb))
    go_ret2
    exact ⟨rfl, hk⟩

set_option maxHeartbeats 1000000 in
theorem goes28_any (w : World) : Calls Try.prog 11 #[] w fun e w' => e = .returned (.bool true) ∧ KW w w' := by
  have hk := KW.refl w
  have H1 := hid (fun W => reps_yes 10 3 W (by omega) (by omega) (by omega))
  have H2 := hid (fun W => total_yes 10 3 W (by omega) (by omega) (by omega))
  have H3 := hid (fun W => split_yes 10 3 W (by omega) (by omega) (by omega) (by omega))
  have H4 := hid (fun W => total_yes 10 1 W (by omega) (by omega) (by omega))
  have H5 := hid (fun W => split_yes 10 1 W (by omega) (by omega) (by omega) (by omega))
  rw [show ((Ch.rp 10 3 : Nat) : Int) = 2 from by decide +kernel] at H1
  rw [show Ch.tt 10 3 = 15 from by decide +kernel] at H2
  rw [show Ch.sp 10 3 = 4 from by decide +kernel] at H3
  rw [show Ch.tt 10 1 = 45 from by decide +kernel] at H4
  rw [show Ch.sp 10 1 = 9 from by decide +kernel] at H5
  go_enter Try.func11, Try.ntmps11
  go_wp2_with fail
  refine (H1.out _).mono ?_
  rintro e w1 ⟨rfl, hb⟩
  replace hk := hk.t hb
  clear hb
  go_wp2_with fail
  refine (H2.out _).mono ?_
  rintro e w1 ⟨rfl, hb⟩
  replace hk := hk.t hb
  clear hb
  go_wp2_with fail
  refine (H3.out _).mono ?_
  rintro e w1 ⟨rfl, hb⟩
  replace hk := hk.t hb
  clear hb
  go_wp2_with fail
  refine (H4.out _).mono ?_
  rintro e w1 ⟨rfl, hb⟩
  replace hk := hk.t hb
  clear hb
  go_wp2_with fail
  refine (H5.out _).mono ?_
  rintro e w1 ⟨rfl, hb⟩
  replace hk := hk.t hb
  clear hb
  go_wp2_with fail
  go_ret
  exact ⟨rfl, hk⟩
end Go.Proofs.Ythmhdegndoodmaa
