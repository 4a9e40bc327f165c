/- The example of the page about choices; the walks of ChooseReckons, ChooseMore, ChoosePascal. -/
import Derived.Test.YtnpgiallgcliiaaC4
import Derived.Test.YtnpgiallgcliiaaC3m
namespace Go.Proofs.Ytnpgiallgcliiaa
open Go.ChangeShapes Go.WideShapes Go.ChangeAt Go.RowKit
set_option linter.unusedVariables false

def bf (D : Nat) : Nat → Nat
  | 0 => 1
  | j + 1 => bf D j * (D + (j + 1)) / (j + 1)
theorem bf_bin (D j : Nat) : Ch.bin (D + j) j = bf D j := by
  induction j with
  | zero => rw [Ch.bin_zero]; rfl
  | succ j ih => rw [Ch.bin_step, ih]; rfl
theorem ch_by (n k : Int) (D K : Nat) (hn : n = ((D + K : Nat) : Int)) (hk : k = (K : Int)) : Ch.ch n k = min ((bf D K : Nat) : Int) 1099511627776 := by
  subst hn hk
  rw [Ch.ch_at (by omega) (by omega), Int.toNat_natCast, Int.toNat_natCast, bf_bin]
theorem i64s (l : List Int) : l.map (Value.int .i64) = l.map (Value.int .i64) := rfl
theorem row1_ints (w : World) (t : TypeId) (l : List Int) : Row1 (w.alloc (.cells (l.map (Value.int .i64)).toArray t)) (some ⟨w.heap.size, 0, none⟩) l.length fun k => .int .i64 (l.getD k 0) := by
  have h := row1_new w t (l.map (Value.int .i64))
  rw [List.length_map] at h
  refine h.cong fun k hk => ?_
  simp [hk]
theorem cadd_new (w : World) (t : TypeId) (l : List Int) (hl : l.length ≤ 100) (hb : ∀ x ∈ l, -9223372036854775808 ≤ x ∧ x ≤ 9223372036854775807) :
    Calls Try.prog 28 #[.slice (some ⟨w.heap.size, 0, none⟩) l.length l.length] (w.alloc (.cells (l.map (Value.int .i64)).toArray t)) fun e w' => e = .returned (.int .i64 (min (Ch.hs (fun k => l.getD k 0) l.length) 1099511627776)) ∧ KW w w' :=
  pure_kw (cadd_any _ _ _ _ _ (by omega) (fun k hk => by
    rw [List.getD_eq_getElem?_getD, List.getElem?_eq_getElem hk]; exact hb _ (List.getElem_mem hk)) (row1_ints w t l))
theorem cmul_new (w : World) (t : TypeId) (l : List Int) (hl : l.length ≤ 100) (hb : ∀ x ∈ l, -9223372036854775808 ≤ x ∧ x ≤ 9223372036854775807) :
    Calls Try.prog 30 #[.slice (some ⟨w.heap.size, 0, none⟩) l.length l.length] (w.alloc (.cells (l.map (Value.int .i64)).toArray t)) fun e w' => e = .returned (.int .i64 (min (Ch.hp (fun k => l.getD k 0) l.length) 1099511627776)) ∧ KW w w' :=
  alloc_kw (cmul_any _ _ _ _ _ (by omega) (fun k hk => by
    rw [List.getD_eq_getElem?_getD, List.getElem?_eq_getElem hk]; exact hb _ (List.getElem_mem hk)) (row1_ints w t l))

theorem goes_c (n k v : Int) (D K : Nat) (w : World) (h0 : -9223372036854775808 ≤ n) (h1 : n ≤ 9223372036854775807) (hn : n = ((D + K : Nat) : Int)) (hk : k = (K : Int)) (hv : min ((bf D K : Nat) : Int) 1099511627776 = v) :
    Calls Try.prog 26 #[.int .i64 n, .int .i64 k] w fun e w' => e = .returned (.int .i64 v) ∧ KW w w' := by
  have h := choose_any n k w h0 h1
  rwa [ch_by n k D K hn hk, hv] at h
theorem goes_m (w : World) (t : TypeId) : Calls Try.prog 30 #[.slice (some ⟨w.heap.size, 0, none⟩) 2 2] (w.alloc (.cells #[.int .i64 1073741824, .int .i64 1073741824] t)) fun e w' => e = .returned (.int .i64 1099511627776) ∧ KW w w' := by
  have h := cmul_new w t [1073741824, 1073741824] (by decide) (by decide)
  rwa [show min (Ch.hp (fun k => [1073741824, 1073741824].getD k 0) ([1073741824, 1073741824] : List Int).length) 1099511627776 = 1099511627776 from by decide +kernel] at h

theorem goes6_any (w : World) : Calls Try.prog 27 #[] w fun e w' => e = .returned (.bool true) ∧ KW w w' := by
  have hk := KW.refl w
  go_enter Try.func27, Try.ntmps27
  go_wp2_with fail
  refine (goes_c 10 3 120 7 3 _ (by omega) (by omega) (by decide) (by decide) (by decide +kernel)).mono ?_
  rintro e w1 ⟨rfl, hb⟩
  replace hk := hk.t hb
  clear hb
  go_wp2_with fail
  refine (goes_c 41 20 269128937220 21 20 _ (by omega) (by omega) (by decide) (by decide) (by decide +kernel)).mono ?_
  rintro e w1 ⟨rfl, hb⟩
  replace hk := hk.t hb
  clear hb
  go_wp2_with fail
  refine (goes_c 44 22 1099511627776 22 22 _ (by omega) (by omega) (by decide) (by decide) (by decide +kernel)).mono ?_
  rintro e w1 ⟨rfl, hb⟩
  replace hk := hk.t hb
  clear hb
  go_wp2_with fail
  refine (goes_m _ _).mono ?_
  rintro e w1 ⟨rfl, hb⟩
  replace hk := hk.t hb
  clear hb
  go_wp2
  go_ret
  exact ⟨rfl, hk⟩

set_option maxHeartbeats 1000000 in
theorem reckons_walk (A : Option Addr) (n c : Nat) (f : Nat → Int) (w : World) (hn : n ≤ 9223372036854775807) (hf : ∀ k, k < n → -9223372036854775808 ≤ f k ∧ f k ≤ 9223372036854775807) (hr : Row1 w A n fun k => .int .i64 (f k)) :
    Calls Try.prog 7 #[.slice A n c] w fun e w' => e = .returned (.bool true) ∧ KW w w' := by
  have HR := hid hr
  have HF := hid hf
  have hk := KW.refl w
  clear hr hf
  by_cases hlen : 300 < n
  · have hd : (300 : Int) < (n : Int) := by omega
    go_enter Try.func7, Try.ntmps7
    go_wp2_with (go_at_call 27; refine (goes6_any _).mono ?_; rintro e w1 ⟨rfl, hb⟩; replace hk := hk.t hb; clear hb)
    go_ret
    exact ⟨rfl, hk⟩
  · have hd : decide ((300 : Int) < (n : Int)) = false := by simp; omega
    go_enter Try.func7, Try.ntmps7
    go_wp2_with (first
      | (go_at_call 28; refine (cadd_any A n c f _ hn HF.out (HR.out.k hk)).mono ?_; rintro e w1 ⟨rfl, rfl⟩)
      | (go_at_call 29; refine (radd_any A n c f _ hn HF.out (HR.out.k hk)).mono ?_; rintro e w1 ⟨rfl, rfl⟩)
      | (go_at_call 30; refine (cmul_any A n c f _ hn HF.out (HR.out.k hk)).mono ?_; rintro e w1 ⟨rfl, hb⟩; replace hk := hk.t hb; clear hb)
      | (go_at_call 31; refine (rmulr_any A n c f _ hn HF.out (HR.out.k hk)).mono ?_; rintro e w1 ⟨rfl, rfl⟩)
      | (go_at_call 27; refine (goes6_any _).mono ?_; rintro e w1 ⟨rfl, hb⟩; replace hk := hk.t hb; clear hb))
    go_ret
    exact ⟨rfl, hk⟩

theorem add3 (w : World) (t : TypeId) (a b c : Int) (ha : -9223372036854775808 ≤ a ∧ a ≤ 9223372036854775807) (hb : -9223372036854775808 ≤ b ∧ b ≤ 9223372036854775807) (hc : -9223372036854775808 ≤ c ∧ c ≤ 9223372036854775807) :
    Calls Try.prog 28 #[.slice (some ⟨w.heap.size, 0, none⟩) 3 3] (w.alloc (.cells #[.int .i64 a, .int .i64 b, .int .i64 c] t)) fun e w' => e = .returned (.int .i64 (min (Ch.held a + Ch.held b + Ch.held c) 1099511627776)) ∧ KW w w' := by
  have h := cadd_new w t [a, b, c] (by simp) (by intro x hx; simp at hx; rcases hx with rfl | rfl | rfl <;> assumption)
  have e : Ch.hs (fun k => [a, b, c].getD k 0) [a, b, c].length = Ch.held a + Ch.held b + Ch.held c := by simp [Ch.hs]
  rwa [e] at h
theorem add2 (w : World) (t : TypeId) (a b : Int) (ha : -9223372036854775808 ≤ a ∧ a ≤ 9223372036854775807) (hb : -9223372036854775808 ≤ b ∧ b ≤ 9223372036854775807) :
    Calls Try.prog 28 #[.slice (some ⟨w.heap.size, 0, none⟩) 2 2] (w.alloc (.cells #[.int .i64 a, .int .i64 b] t)) fun e w' => e = .returned (.int .i64 (min (Ch.held a + Ch.held b) 1099511627776)) ∧ KW w w' := by
  have h := cadd_new w t [a, b] (by simp) (by intro x hx; simp at hx; rcases hx with rfl | rfl <;> assumption)
  have e : Ch.hs (fun k => [a, b].getD k 0) [a, b].length = Ch.held a + Ch.held b := by simp [Ch.hs]
  rwa [e] at h
theorem add1 (w : World) (t : TypeId) (a : Int) (ha : -9223372036854775808 ≤ a ∧ a ≤ 9223372036854775807) :
    Calls Try.prog 28 #[.slice (some ⟨w.heap.size, 0, none⟩) 1 1] (w.alloc (.cells #[.int .i64 a] t)) fun e w' => e = .returned (.int .i64 (Ch.held a)) ∧ KW w w' := by
  have h := cadd_new w t [a] (by simp) (by intro x hx; simp at hx; rcases hx with rfl; assumption)
  have e : min (Ch.hs (fun k => [a].getD k 0) [a].length) 1099511627776 = Ch.held a := by
    simp [Ch.hs]; rw [Int.min_eq_left (Ch.held_le a)]
  rwa [e] at h
theorem add0 (c : Nat) (w : World) : Calls Try.prog 28 #[.slice none 0 c] w fun e w' => e = .returned (.int .i64 0) ∧ KW w w' :=
  (cadd_any none 0 c (fun _ => 0) w (by omega) (fun k hk => by omega) (fun h => by omega)).mono fun _ _ ⟨he, hw⟩ => ⟨he, hw ▸ KW.refl w⟩
theorem mul0 (c : Nat) (w : World) : Calls Try.prog 30 #[.slice none 0 c] w fun e w' => e = .returned (.int .i64 1) ∧ KW w w' :=
  (cmul_any none 0 c (fun _ => 0) w (by omega) (fun k hk => by omega) (fun h => by omega))
theorem mul3 (w : World) (t : TypeId) (a b c : Int) (ha : -9223372036854775808 ≤ a ∧ a ≤ 9223372036854775807) (hb : -9223372036854775808 ≤ b ∧ b ≤ 9223372036854775807) (hc : -9223372036854775808 ≤ c ∧ c ≤ 9223372036854775807) :
    Calls Try.prog 30 #[.slice (some ⟨w.heap.size, 0, none⟩) 3 3] (w.alloc (.cells #[.int .i64 a, .int .i64 b, .int .i64 c] t)) fun e w' => e = .returned (.int .i64 (min (Ch.held a * Ch.held b * Ch.held c) 1099511627776)) ∧ KW w w' := by
  have h := cmul_new w t [a, b, c] (by simp) (by intro x hx; simp at hx; rcases hx with rfl | rfl | rfl <;> assumption)
  have e : Ch.hp (fun k => [a, b, c].getD k 0) [a, b, c].length = Ch.held a * Ch.held b * Ch.held c := by simp [Ch.hp]
  rwa [e] at h

set_option maxHeartbeats 1000000 in
theorem more_walk (n m k : Int) (w : World) (hn0 : -9223372036854775808 ≤ n) (hn1 : n ≤ 9223372036854775807) (hm0 : -9223372036854775808 ≤ m) (hm1 : m ≤ 9223372036854775807) (hk0 : -9223372036854775808 ≤ k) (hk1 : k ≤ 9223372036854775807) :
    Calls Try.prog 9 #[.int .i64 n, .int .i64 m, .int .i64 k] w fun e w' => e = .returned (.bool true) ∧ KW w w' := by
  have hk := KW.refl w
  have HA := hid (fun W t => add3 W t n m k ⟨hn0, hn1⟩ ⟨hm0, hm1⟩ ⟨hk0, hk1⟩)
  have HB := hid (fun W t => add3 W t k m n ⟨hk0, hk1⟩ ⟨hm0, hm1⟩ ⟨hn0, hn1⟩)
  have HC := hid (fun W t => mul3 W t n m k ⟨hn0, hn1⟩ ⟨hm0, hm1⟩ ⟨hk0, hk1⟩)
  have HD := hid (fun W t => mul3 W t k n m ⟨hk0, hk1⟩ ⟨hn0, hn1⟩ ⟨hm0, hm1⟩)
  rw [show Ch.held k + Ch.held m + Ch.held n = Ch.held n + Ch.held m + Ch.held k from by omega] at HB
  rw [show Ch.held k * Ch.held n * Ch.held m = Ch.held n * Ch.held m * Ch.held k from by grind] at HD
  have HX := hid (fun W t => add1 W t n ⟨hn0, hn1⟩)
  have HH := hid (show Ch.held n = min (max n 0) 1099511627776 from rfl)
  have hh1 := Ch.held_nn n
  have hh2 := Ch.held_le n
  have HM1 := hid (fun (h : n ≤ m) => Ch.ch_mono (k := k) h)
  have HM2 := hid (fun (h : m ≤ n) => Ch.ch_mono (k := k) h)
  have HN := hid (fun W => choose_any n k W hn0 hn1)
  have HMc := hid (fun W => choose_any m k W hm0 hm1)
  generalize Ch.held n + Ch.held m + Ch.held k = s at *
  generalize Ch.held n * Ch.held m * Ch.held k = p at *
  generalize Ch.ch n k = x at *
  generalize Ch.ch m k = y at *
  generalize hv : Ch.held n = v at *
  have hcase : (n < 0 ∧ v = 0) ∨ (n = 0 ∧ v = 0) ∨ (0 < n ∧ n ≤ 1099511627776 ∧ v = n) ∨ (1099511627776 < n ∧ v = 1099511627776) := by have := HH.out; omega
  clear hv HH hh1 hh2
  rcases Int.lt_trichotomy n m with hnm | hnm | hnm
  · have hxy := HM1.out (by omega)
    rcases hcase with ⟨c1, rfl⟩ | ⟨rfl, rfl⟩ | ⟨c1, c2, rfl⟩ | ⟨c1, rfl⟩
    all_goals
      go_enter Try.func9, Try.ntmps9
      go_wp2_with fail
      refine (HN.out _).mono ?_
      rintro e w1 ⟨rfl, hb⟩
      replace hk := hk.t hb
      clear hb
      go_wp2_with fail
      refine (HMc.out _).mono ?_
      rintro e w1 ⟨rfl, hb⟩
      replace hk := hk.t hb
      clear hb
      go_wp2_with fail
      refine (HA.out _ _).mono ?_
      rintro e w1 ⟨rfl, hb⟩
      replace hk := hk.t hb
      clear hb
      go_wp2_with fail
      refine (HB.out _ _).mono ?_
      rintro e w1 ⟨rfl, hb⟩
      replace hk := hk.t hb
      clear hb
      go_wp2_with fail
      refine (HC.out _ _).mono ?_
      rintro e w1 ⟨rfl, hb⟩
      replace hk := hk.t hb
      clear hb
      go_wp2_with fail
      refine (HD.out _ _).mono ?_
      rintro e w1 ⟨rfl, hb⟩
      replace hk := hk.t hb
      clear hb
      go_wp2_with fail
      refine (HX.out _ _).mono ?_
      rintro e w1 ⟨rfl, hb⟩
      replace hk := hk.t hb
      clear hb
      go_wp2_with fail
      refine (add0 _ _).mono ?_
      rintro e w1 ⟨rfl, hb⟩
      replace hk := hk.t hb
      clear hb
      go_wp2_with fail
      refine (mul0 _ _).mono ?_
      rintro e w1 ⟨rfl, hb⟩
      replace hk := hk.t hb
      clear hb
      go_wp2_with fail
      refine (goes6_any _).mono ?_
      rintro e w1 ⟨rfl, hb⟩
      replace hk := hk.t hb
      clear hb
      go_wp2_with fail
      go_ret
      exact ⟨rfl, hk⟩
  · subst hnm
    rcases hcase with ⟨c1, rfl⟩ | ⟨rfl, rfl⟩ | ⟨c1, c2, rfl⟩ | ⟨c1, rfl⟩
    all_goals
      go_enter Try.func9, Try.ntmps9
      go_wp2_with fail
      refine (HN.out _).mono ?_
      rintro e w1 ⟨rfl, hb⟩
      replace hk := hk.t hb
      clear hb
      go_wp2_with fail
      refine (HN.out _).mono ?_
      rintro e w1 ⟨rfl, hb⟩
      replace hk := hk.t hb
      clear hb
      go_wp2_with fail
      refine (HA.out _ _).mono ?_
      rintro e w1 ⟨rfl, hb⟩
      replace hk := hk.t hb
      clear hb
      go_wp2_with fail
      refine (HB.out _ _).mono ?_
      rintro e w1 ⟨rfl, hb⟩
      replace hk := hk.t hb
      clear hb
      go_wp2_with fail
      refine (HC.out _ _).mono ?_
      rintro e w1 ⟨rfl, hb⟩
      replace hk := hk.t hb
      clear hb
      go_wp2_with fail
      refine (HD.out _ _).mono ?_
      rintro e w1 ⟨rfl, hb⟩
      replace hk := hk.t hb
      clear hb
      go_wp2_with fail
      refine (HX.out _ _).mono ?_
      rintro e w1 ⟨rfl, hb⟩
      replace hk := hk.t hb
      clear hb
      go_wp2_with fail
      refine (add0 _ _).mono ?_
      rintro e w1 ⟨rfl, hb⟩
      replace hk := hk.t hb
      clear hb
      go_wp2_with fail
      refine (mul0 _ _).mono ?_
      rintro e w1 ⟨rfl, hb⟩
      replace hk := hk.t hb
      clear hb
      go_wp2_with fail
      refine (goes6_any _).mono ?_
      rintro e w1 ⟨rfl, hb⟩
      replace hk := hk.t hb
      clear hb
      go_wp2_with fail
      go_ret
      exact ⟨rfl, hk⟩
  · have hxy := HM2.out (by omega)
    rcases hcase with ⟨c1, rfl⟩ | ⟨rfl, rfl⟩ | ⟨c1, c2, rfl⟩ | ⟨c1, rfl⟩
    all_goals
      go_enter Try.func9, Try.ntmps9
      go_wp2_with fail
      refine (HMc.out _).mono ?_
      rintro e w1 ⟨rfl, hb⟩
      replace hk := hk.t hb
      clear hb
      go_wp2_with fail
      refine (HN.out _).mono ?_
      rintro e w1 ⟨rfl, hb⟩
      replace hk := hk.t hb
      clear hb
      go_wp2_with fail
      refine (HA.out _ _).mono ?_
      rintro e w1 ⟨rfl, hb⟩
      replace hk := hk.t hb
      clear hb
      go_wp2_with fail
      refine (HB.out _ _).mono ?_
      rintro e w1 ⟨rfl, hb⟩
      replace hk := hk.t hb
      clear hb
      go_wp2_with fail
      refine (HC.out _ _).mono ?_
      rintro e w1 ⟨rfl, hb⟩
      replace hk := hk.t hb
      clear hb
      go_wp2_with fail
      refine (HD.out _ _).mono ?_
      rintro e w1 ⟨rfl, hb⟩
      replace hk := hk.t hb
      clear hb
      go_wp2_with fail
      refine (HX.out _ _).mono ?_
      rintro e w1 ⟨rfl, hb⟩
      replace hk := hk.t hb
      clear hb
      go_wp2_with fail
      refine (add0 _ _).mono ?_
      rintro e w1 ⟨rfl, hb⟩
      replace hk := hk.t hb
      clear hb
      go_wp2_with fail
      refine (mul0 _ _).mono ?_
      rintro e w1 ⟨rfl, hb⟩
      replace hk := hk.t hb
      clear hb
      go_wp2_with fail
      refine (goes6_any _).mono ?_
      rintro e w1 ⟨rfl, hb⟩
      replace hk := hk.t hb
      clear hb
      go_wp2_with fail
      go_ret
      exact ⟨rfl, hk⟩
end Go.Proofs.Ytnpgiallgcliiaa
