/- The walks of the laws about repetitions: RepsMore, RepsParts. -/
import Derived.Test.YthmhdegndoodmaaQ3
namespace Go.Proofs.Ythmhdegndoodmaa
open Go.ChangeShapes Go.WideShapes Go.ChangeAt Go.RowKit
set_option linter.unusedVariables false

theorem more_out (l s : Int) (w : World) (h : l < 1 ∨ 65536 ≤ l ∨ s < 1 ∨ 1048576 ≤ s) :
    Calls Try.prog 5 #[.int .i64 l, .int .i64 s] w fun e w' => e = .returned (.bool true) ∧ KW w w' := by
  have hk := KW.refl w
  by_cases h0 : l < 1
  · clear h
    go_enter Try.func5, Try.ntmps5
    go_wp2_with fail
    refine (goes28_any _).mono ?_
    rintro e w1 ⟨rfl, hb⟩
    replace hk := hk.t hb
    clear hb
    go_wp2_with fail
    go_ret
    exact ⟨rfl, hk⟩
  have d0 : decide (l < 1) = false := by simp; omega
  by_cases h1 : 65536 ≤ l
  · clear h
    go_enter Try.func5, Try.ntmps5
    go_wp2_with fail
    refine (goes28_any _).mono ?_
    rintro e w1 ⟨rfl, hb⟩
    replace hk := hk.t hb
    clear hb
    go_wp2_with fail
    go_ret
    exact ⟨rfl, hk⟩
  have d1 : decide (65536 ≤ l) = false := by simp; omega
  by_cases h2 : s < 1
  · clear h
    go_enter Try.func5, Try.ntmps5
    go_wp2_with fail
    refine (goes28_any _).mono ?_
    rintro e w1 ⟨rfl, hb⟩
    replace hk := hk.t hb
    clear hb
    go_wp2_with fail
    go_ret
    exact ⟨rfl, hk⟩
  have d2 : decide (s < 1) = false := by simp; omega
  have h3 : 1048576 ≤ s := by omega
  clear h
  go_enter Try.func5, Try.ntmps5
  go_wp2_with fail
  refine (goes28_any _).mono ?_
  rintro e w1 ⟨rfl, hb⟩
  replace hk := hk.t hb
  clear hb
  go_wp2_with fail
  go_ret
  exact ⟨rfl, hk⟩

set_option maxHeartbeats 1000000 in
theorem more_in (l s t u v r q n k p : Int) (w : World) (hl0 : 1 ≤ l) (hl1 : l ≤ 65535) (hs0 : 1 ≤ s) (hs1 : s < 1048576)
    (H1 : ∀ W, Calls Try.prog 12 #[.int .i64 l, .int .i64 s] W fun e w' => e = .returned (.tuple #[.int .i64 t, .int .i64 0]) ∧ KW W w')
    (H2 : ∀ W, Calls Try.prog 12 #[.int .i64 l, .int .i64 (s + 1)] W fun e w' => e = .returned (.tuple #[.int .i64 u, .int .i64 0]) ∧ KW W w')
    (H3 : ∀ W, Calls Try.prog 12 #[.int .i64 (l - 1), .int .i64 s] W fun e w' => e = .returned (.tuple #[.int .i64 v, .int .i64 0]) ∧ KW W w')
    (H4 : ∀ W, Calls Try.prog 14 #[.int .i64 l, .int .i64 s] W fun e w' => e = .returned (.tuple #[.int .i64 r, .int .i64 0]) ∧ KW W w')
    (H5 : ∀ W, Calls Try.prog 12 #[.int .i64 l, .int .i64 1] W fun e w' => e = .returned (.tuple #[.int .i64 q, .int .i64 0]) ∧ KW W w')
    (H6 : ∀ W, Calls Try.prog 18 #[.int .i64 r, .int .i64 s] W fun e w' => e = .returned (.tuple #[.int .i64 n, .int .i64 0]) ∧ KW W w')
    (H7 : 0 < r → ∀ W, Calls Try.prog 18 #[.int .i64 (r - 1), .int .i64 s] W fun e w' => e = .returned (.tuple #[.int .i64 k, .int .i64 0]) ∧ KW W w')
    (hn : l ≤ n) (hr : 0 ≤ r) (hr1 : r ≤ 65535) (hkl : 0 < r → k < l) (hut : u ≤ t) (htv : t - v = r) (hp : l * (l - 1) = p) (hp0 : 0 ≤ p) (hp1 : p ≤ 65535 * 65535) (hq : q = p / 2) (htl : l - 1 ≤ t) (htq : t ≤ q)
    (hv0 : 0 ≤ v) (ht1 : t ≤ 65535 * 65535) :
    Calls Try.prog 5 #[.int .i64 l, .int .i64 s] w fun e w' => e = .returned (.bool true) ∧ KW w w' := by
  have hk := KW.refl w
  have H1 := hid H1
  have H2 := hid H2
  have H3 := hid H3
  have H4 := hid H4
  have H5 := hid H5
  have H6 := hid H6
  have d0 : decide (l < 1) = false := by simp; omega
  have d1 : decide (65536 ≤ l) = false := by simp; omega
  have d2 : decide (s < 1) = false := by simp; omega
  have d3 : decide (1048576 ≤ s) = false := by simp; omega
  have dn : decide (n < l) = false := by simp; omega
  have e1 : decide (u ≤ t) = true := by simpa using hut
  have e2 : (t - v == r) = true := by simpa using htv
  have e3 : (q == p / 2) = true := by simpa using hq
  have e4 : decide (l - 1 ≤ t) = true := by simpa using htl
  have e4' : decide (l ≤ t + 1) = true := by simp; omega
  have e5 : decide (t ≤ q) = true := by simpa using htq
  have hvt : v ≤ t := by omega
  by_cases hr0 : 0 < r
  · have H7 := hid (H7 hr0)
    have hkl' : decide (l ≤ k) = false := by have := hkl hr0; simp; omega
    clear htv hq hkl
    go_enter Try.func5, Try.ntmps5
    go_wp2_with fail
    refine (H1.out _).mono ?_
    rintro e w1 ⟨rfl, hb⟩
    replace hk := hk.t hb
    clear hb
    go_wp2_with fail
    refine (H2.out _).mono ?_
    rintro e w1 ⟨rfl, hb⟩
    replace hk := hk.t hb
    clear hb
    go_wp2_with fail
    refine (H3.out _).mono ?_
    rintro e w1 ⟨rfl, hb⟩
    replace hk := hk.t hb
    clear hb
    go_wp2_with fail
    refine (H4.out _).mono ?_
    rintro e w1 ⟨rfl, hb⟩
    replace hk := hk.t hb
    clear hb
    go_wp2_with fail
    refine (H5.out _).mono ?_
    rintro e w1 ⟨rfl, hb⟩
    replace hk := hk.t hb
    clear hb
    go_wp2_with fail
    refine (H6.out _).mono ?_
    rintro e w1 ⟨rfl, hb⟩
    replace hk := hk.t hb
    clear hb
    go_wp2_with fail
    refine (H7.out _).mono ?_
    rintro e w1 ⟨rfl, hb⟩
    replace hk := hk.t hb
    clear hb
    go_wp2_with fail
    refine (goes28_any _).mono ?_
    rintro e w1 ⟨rfl, hb⟩
    replace hk := hk.t hb
    clear hb
    go_wp2_with fail
    go_ret
    exact ⟨rfl, hk⟩
  · clear htv hq hkl H7
    go_enter Try.func5, Try.ntmps5
    go_wp2_with fail
    refine (H1.out _).mono ?_
    rintro e w1 ⟨rfl, hb⟩
    replace hk := hk.t hb
    clear hb
    go_wp2_with fail
    refine (H2.out _).mono ?_
    rintro e w1 ⟨rfl, hb⟩
    replace hk := hk.t hb
    clear hb
    go_wp2_with fail
    refine (H3.out _).mono ?_
    rintro e w1 ⟨rfl, hb⟩
    replace hk := hk.t hb
    clear hb
    go_wp2_with fail
    refine (H4.out _).mono ?_
    rintro e w1 ⟨rfl, hb⟩
    replace hk := hk.t hb
    clear hb
    go_wp2_with fail
    refine (H5.out _).mono ?_
    rintro e w1 ⟨rfl, hb⟩
    replace hk := hk.t hb
    clear hb
    go_wp2_with fail
    refine (H6.out _).mono ?_
    rintro e w1 ⟨rfl, hb⟩
    replace hk := hk.t hb
    clear hb
    go_wp2_with fail
    refine (goes28_any _).mono ?_
    rintro e w1 ⟨rfl, hb⟩
    replace hk := hk.t hb
    clear hb
    go_wp2_with fail
    go_ret
    exact ⟨rfl, hk⟩

theorem more_walk (l s : Int) (w : World) (hl0 : -9223372036854775808 ≤ l) (hl1 : l ≤ 9223372036854775807) (hs0 : -9223372036854775808 ≤ s) (hs1 : s ≤ 9223372036854775807) :
    Calls Try.prog 5 #[.int .i64 l, .int .i64 s] w fun e w' => e = .returned (.bool true) ∧ KW w w' := by
  by_cases h : l < 1 ∨ 65536 ≤ l ∨ s < 1 ∨ 1048576 ≤ s
  · exact more_out l s w h
  obtain ⟨l, rfl⟩ : ∃ n : Nat, l = n := ⟨l.toNat, by omega⟩
  obtain ⟨s, rfl⟩ : ∃ n : Nat, s = n := ⟨s.toNat, by omega⟩
  have hs : 1 ≤ s := by omega
  have hrl := Ch.rp_le l s hs
  have p0 : 0 ≤ (l : Int) * ((l : Int) - 1) := Int.mul_nonneg (by omega) (by omega)
  have p1 : (l : Int) * ((l : Int) - 1) ≤ 65535 * 65535 := Int.mul_le_mul (by omega) (by omega) (by omega) (by omega)
  have hone := Ch.tt_one l (by omega)
  have hmost := Ch.tt_most l s hs
  have hbnd : Ch.tt l s ≤ 65535 * 65535 := by omega
  refine more_in l s (Ch.tt l s) (Ch.tt l (s + 1)) (Ch.tt (l - 1) s) (Ch.rp l s) (Ch.tt l 1) (Ch.ch ((s : Int) + (Ch.rp l s : Nat)) s) (Ch.ch ((s : Int) + ((Ch.rp l s : Nat) - 1)) s) _ w (by omega) (by omega) (by omega) (by omega)
    (fun W => total_yes l s W (by omega) hs (by omega)) (fun W => ?_) (fun W => ?_) (fun W => reps_yes l s W (by omega) hs (by omega)) (fun W => ?_) (fun W => longest_yes _ _ W (by omega) (by omega) (by omega) (by omega)) (fun h W => longest_yes _ _ W (by omega) (by omega) (by omega) (by omega))
    ?_ (by omega) (by omega) (fun h => ?_) (Ch.tt_more l s hs) (Ch.tt_step l s hs (by omega)) rfl p0 p1 hone (Ch.tt_least l s hs) hmost (Ch.tt_nn _ s hs) (by omega)
  · have := total_yes l (s + 1) W (by omega) (by omega) (by omega)
    rwa [show ((s + 1 : Nat) : Int) = (s : Int) + 1 from by omega] at this
  · have := total_yes (l - 1) s W (by omega) (by omega) (by omega)
    rwa [show ((l - 1 : Nat) : Int) = (l : Int) - 1 from by omega] at this
  · have := total_yes l 1 W (by omega) (by omega) (by omega)
    exact this
  · rw [Ch.ch_be]; have := Ch.rp_enough l s hs; omega
  · have h2 := Ch.rp_less l s hs (j := Ch.rp l s - 1) (by omega)
    rw [show ((Ch.rp l s : Nat) : Int) - 1 = ((Ch.rp l s - 1 : Nat) : Int) from by omega, Ch.ch_be]; omega

theorem parts_out (n c o : Int) (w : World) (h : n < 2 ∨ 3000 < n ∨ c < 2 ∨ 2000 < c) :
    Calls Try.prog 3 #[.int .i64 n, .int .i64 c, .int .i64 o] w fun e w' => e = .returned (.bool true) ∧ KW w w' := by
  have hk := KW.refl w
  by_cases h0 : n < 2
  · clear h
    go_enter Try.func3, Try.ntmps3
    go_wp2_with fail
    refine (goes28_any _).mono ?_
    rintro e w1 ⟨rfl, hb⟩
    replace hk := hk.t hb
    clear hb
    go_wp2_with fail
    go_ret
    exact ⟨rfl, hk⟩
  have d0 : decide (n < 2) = false := by simp; omega
  by_cases h1 : 3000 < n
  · clear h
    go_enter Try.func3, Try.ntmps3
    go_wp2_with fail
    refine (goes28_any _).mono ?_
    rintro e w1 ⟨rfl, hb⟩
    replace hk := hk.t hb
    clear hb
    go_wp2_with fail
    go_ret
    exact ⟨rfl, hk⟩
  have d1 : decide (3000 < n) = false := by simp; omega
  by_cases h2 : c < 2
  · clear h
    go_enter Try.func3, Try.ntmps3
    go_wp2_with fail
    refine (goes28_any _).mono ?_
    rintro e w1 ⟨rfl, hb⟩
    replace hk := hk.t hb
    clear hb
    go_wp2_with fail
    go_ret
    exact ⟨rfl, hk⟩
  have d2 : decide (c < 2) = false := by simp; omega
  have h3 : 2000 < c := by omega
  clear h
  go_enter Try.func3, Try.ntmps3
  go_wp2_with fail
  refine (goes28_any _).mono ?_
  rintro e w1 ⟨rfl, hb⟩
  replace hk := hk.t hb
  clear hb
  go_wp2_with fail
  go_ret
  exact ⟨rfl, hk⟩

set_option maxHeartbeats 1000000 in
theorem parts_in (n c o t m a b k x y q1 q2 : Int) (w : World) (hn0 : 2 ≤ n) (hn1 : n ≤ 3000) (hc0 : 2 ≤ c) (hc1 : c ≤ 2000)
    (H1 : ∀ W, Calls Try.prog 12 #[.int .i64 n, .int .i64 c] W fun e w' => e = .returned (.tuple #[.int .i64 t, .int .i64 0]) ∧ KW W w')
    (H2 : ∀ W, Calls Try.prog 13 #[.int .i64 n, .int .i64 c] W fun e w' => e = .returned (.tuple #[.int .i64 m, .int .i64 0]) ∧ KW W w')
    (H3 : ∀ W, Calls Try.prog 12 #[.int .i64 (n - m), .int .i64 (c - 1)] W fun e w' => e = .returned (.tuple #[.int .i64 a, .int .i64 0]) ∧ KW W w')
    (H4 : ∀ W, Calls Try.prog 12 #[.int .i64 m, .int .i64 c] W fun e w' => e = .returned (.tuple #[.int .i64 b, .int .i64 0]) ∧ KW W w')
    (H5 : ∀ W, Calls Try.prog 12 #[.int .i64 (n - (q2 + 1)), .int .i64 (c - 1)] W fun e w' => e = .returned (.tuple #[.int .i64 x, .int .i64 0]) ∧ KW W w')
    (H6 : ∀ W, Calls Try.prog 12 #[.int .i64 (q2 + 1), .int .i64 c] W fun e w' => e = .returned (.tuple #[.int .i64 y, .int .i64 0]) ∧ KW W w')
    (hq1 : o.tmod (n - 1) = q1) (hq10 : -(n - 1) < q1) (hq11 : q1 < n - 1) (hq2 : (q1 + n - 1) % (n - 1) = q2) (hq20 : 0 ≤ q2) (hq21 : q2 < n - 1)
    (hm0 : 1 ≤ m) (hm1 : m < n) (ht : t = m + a + b) (htk : t ≤ q2 + 1 + x + y) (ha0 : 0 ≤ a) (ha1 : a ≤ 9000000) (hb0 : 0 ≤ b) (hb1 : b ≤ 9000000) (hx0 : 0 ≤ x) (hx1 : x ≤ 9000000) (hy0 : 0 ≤ y) (hy1 : y ≤ 9000000) :
    Calls Try.prog 3 #[.int .i64 n, .int .i64 c, .int .i64 o] w fun e w' => e = .returned (.bool true) ∧ KW w w' := by
  have hk := KW.refl w
  have H1 := hid H1
  have H2 := hid H2
  have H3 := hid H3
  have H4 := hid H4
  have H5 := hid H5
  have H6 := hid H6
  have d0 : decide (n < 2) = false := by simp; omega
  have d1 : decide (3000 < n) = false := by simp; omega
  have d2 : decide (c < 2) = false := by simp; omega
  have d3 : decide (2000 < c) = false := by simp; omega
  have dm0 : decide (m < 1) = false := by simp; omega
  have dm1 : decide (n ≤ m) = false := by simp; omega
  have e1 : (t == m + a + b) = true := by simpa using ht
  have e2 : decide (t ≤ q2 + 1 + x + y) = true := by simpa using htk
  have z1 : (n - 1 == 0) = false := by simp; omega
  clear ht
  go_enter Try.func3, Try.ntmps3
  go_wp2_with fail
  refine (H1.out _).mono ?_
  rintro e w1 ⟨rfl, hb⟩
  replace hk := hk.t hb
  clear hb
  go_wp2_with fail
  refine (H2.out _).mono ?_
  rintro e w1 ⟨rfl, hb⟩
  replace hk := hk.t hb
  clear hb
  go_wp2_with fail
  refine (H3.out _).mono ?_
  rintro e w1 ⟨rfl, hb⟩
  replace hk := hk.t hb
  clear hb
  go_wp2_with fail
  refine (H4.out _).mono ?_
  rintro e w1 ⟨rfl, hb⟩
  replace hk := hk.t hb
  clear hb
  go_wp2_with fail
  refine (H5.out _).mono ?_
  rintro e w1 ⟨rfl, hb⟩
  replace hk := hk.t hb
  clear hb
  go_wp2_with fail
  refine (H6.out _).mono ?_
  rintro e w1 ⟨rfl, hb⟩
  replace hk := hk.t hb
  clear hb
  go_wp2_with fail
  refine (goes28_any _).mono ?_
  rintro e w1 ⟨rfl, hb⟩
  replace hk := hk.t hb
  clear hb
  go_wp2_with fail
  go_ret
  exact ⟨rfl, hk⟩

theorem parts_walk (n c o : Int) (w : World) (hn0 : -9223372036854775808 ≤ n) (hn1 : n ≤ 9223372036854775807) (hc0 : -9223372036854775808 ≤ c) (hc1 : c ≤ 9223372036854775807) (ho0 : -9223372036854775808 ≤ o) (ho1 : o ≤ 9223372036854775807) :
    Calls Try.prog 3 #[.int .i64 n, .int .i64 c, .int .i64 o] w fun e w' => e = .returned (.bool true) ∧ KW w w' := by
  by_cases h : n < 2 ∨ 3000 < n ∨ c < 2 ∨ 2000 < c
  · exact parts_out n c o w h
  obtain ⟨n, rfl⟩ : ∃ m : Nat, n = m := ⟨n.toNat, by omega⟩
  obtain ⟨c, rfl⟩ : ∃ m : Nat, c = m := ⟨c.toNat, by omega⟩
  obtain ⟨m, hm, m1, m2, f1, f2, f3, f4⟩ := Ch.sp_facts n c (by omega) (by omega) (by omega)
  have hsplit := Ch.tt_split n c m (by omega) (by omega) m1 f1 f2 f3 f4
  have hbound : ∀ l s : Nat, 1 ≤ s → l ≤ 3000 → Ch.tt l s ≤ 9000000 := fun l s hs hl => by
    have h1 : Ch.tt l s ≤ (Ch.rp l s : Nat) * (l : Int) := by unfold Ch.tt Ch.gt; omega
    have h2 := Ch.rp_le l s hs
    have h3 : ((Ch.rp l s : Nat) : Int) * (l : Int) ≤ 3000 * 3000 := Int.mul_le_mul (by omega) (by omega) (by omega) (by omega)
    omega
  have q10 : o.tmod ((n : Int) - 1) < (n : Int) - 1 := by
    have := Int.tmod_lt_of_pos o (show 0 < (n : Int) - 1 by omega); omega
  have q11 : -((n : Int) - 1) < o.tmod ((n : Int) - 1) := by
    have := Int.lt_tmod_of_pos o (show 0 < (n : Int) - 1 by omega); omega
  generalize hq1 : o.tmod ((n : Int) - 1) = q1 at *
  have q20 : 0 ≤ (q1 + (n : Int) - 1) % ((n : Int) - 1) := Int.emod_nonneg _ (by omega)
  have q21 : (q1 + (n : Int) - 1) % ((n : Int) - 1) < (n : Int) - 1 := Int.emod_lt_of_pos _ (by omega)
  generalize hq2 : (q1 + (n : Int) - 1) % ((n : Int) - 1) = q2 at *
  obtain ⟨k, hk⟩ : ∃ k : Nat, q2 + 1 = k := ⟨(q2 + 1).toNat, by omega⟩
  have hparts := Ch.tt_parts n c k (by omega) (by omega) (by omega)
  have e1 : ((n - m : Nat) : Int) = (n : Int) - (m : Int) := by omega
  have e2 : ((c - 1 : Nat) : Int) = (c : Int) - 1 := by omega
  have e3 : ((n - k : Nat) : Int) = (n : Int) - (k : Int) := by omega
  refine parts_in n c o (Ch.tt n c) m (Ch.tt (n - m) (c - 1)) (Ch.tt m c) k (Ch.tt (n - k) (c - 1)) (Ch.tt k c) q1 q2 w (by omega) (by omega) (by omega) (by omega)
    (fun W => total_yes n c W (by omega) (by omega) (by omega)) (fun W => ?_) (fun W => ?_) (fun W => total_yes m c W (by omega) (by omega) (by omega)) (fun W => ?_) (fun W => ?_)
    hq1 q11 q10 hq2 q20 q21 (by omega) (by omega) hsplit (by rw [hk]; exact hparts) (Ch.tt_nn _ _ (by omega)) (hbound _ _ (by omega) (by omega)) (Ch.tt_nn _ _ (by omega)) (hbound _ _ (by omega) (by omega)) (Ch.tt_nn _ _ (by omega)) (hbound _ _ (by omega) (by omega)) (Ch.tt_nn _ _ (by omega)) (hbound _ _ (by omega) (by omega))
  · have := split_yes n c W (by omega) (by omega) (by omega) (by omega)
    rwa [hm] at this
  · have := total_yes (n - m) (c - 1) W (by omega) (by omega) (by omega)
    rwa [e1, e2] at this
  · have := total_yes (n - k) (c - 1) W (by omega) (by omega) (by omega)
    rwa [e3, e2, ← hk] at this
  · have := total_yes k c W (by omega) (by omega) (by omega)
    rwa [← hk] at this
end Go.Proofs.Ythmhdegndoodmaa
