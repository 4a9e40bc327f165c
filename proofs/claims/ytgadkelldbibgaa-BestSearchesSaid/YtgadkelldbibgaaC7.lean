/- Contract of the reference's Choose. -/
import Derived.Test.YtgadkelldbibgaaC4
namespace Go.Proofs.Ytgadkelldbibgaa
open Go.ChangeShapes Go.WideShapes Go.ChangeAt Go.RowKit
set_option linter.unusedVariables false

theorem rchoose_none (n k : Int) (w : World) (h : n < 0 ∨ k < 0 ∨ n < k) :
    Calls Try.prog 85 #[.int .i64 n, .int .i64 k] w fun e w' => e = .returned (.int .i64 (Ch.ch n k)) ∧ KW w w' := by
  have HR := hid (Ch.ch_none h)
  by_cases h1 : n < 0
  · clear h
    go_enter Try.func85, Try.ntmps85
    go_wp2
    go_ret
    exact ⟨ret_int HR.out.symm, KW.refl w⟩
  · have d1 : decide (n < 0) = false := by simpa using h1
    by_cases h2 : k < 0
    · clear h
      go_enter Try.func85, Try.ntmps85
      go_wp2
      go_ret
      exact ⟨ret_int HR.out.symm, KW.refl w⟩
    · have d2 : decide (k < 0) = false := by simpa using h2
      have h3 : n < k := by omega
      clear h
      go_enter Try.func85, Try.ntmps85
      go_wp2
      go_ret
      exact ⟨ret_int HR.out.symm, KW.refl w⟩

/-- c m / i by the part that is whole and what is left -/
theorem whole_part (c m i : Int) (hi : 0 < i) : c * (m / i) + c * (m % i) / i = c * m / i := by
  have e : c * m = c * (m % i) + (c * (m / i)) * i := by
    have := Int.emod_add_mul_ediv m i
    have h2 : c * m = c * (m % i + i * (m / i)) := by rw [this]
    rw [h2]; grind
  rw [e, Int.add_mul_ediv_right _ _ (by omega)]; omega
theorem over_most (c q : Int) (hc : 1 ≤ c) (hq : 1099511627776 / c < q) : 1099511627776 < c * q := by
  have e : 1099511627776 < (1099511627776 / c + 1) * c := Int.lt_ediv_add_one_mul_self _ (by omega)
  have : (1099511627776 / c + 1) * c ≤ q * c := Int.mul_le_mul_of_nonneg_right (by omega) (by omega)
  rw [Int.mul_comm q c] at this; omega
theorem not_over (c q : Int) (hc : 1 ≤ c) (hq : ¬ 1099511627776 / c < q) : c * q ≤ 1099511627776 := by
  have e := Int.mul_ediv_self_le (x := 1099511627776) (k := c) (by omega)
  have : c * q ≤ c * (1099511627776 / c) := Int.mul_le_mul_of_nonneg_left (by omega) (by omega)
  omega
theorem most_end (D K j : Nat) (hj : j ≤ K) (h : (1099511627776 : Int) ≤ ((Ch.bin (D + j) j : Nat) : Int)) : min ((Ch.bin (D + K) K : Nat) : Int) 1099511627776 = 1099511627776 := by
  have := Ch.bin_diag D j (K - j)
  rw [show j + (K - j) = K from by omega] at this
  omega

set_option maxHeartbeats 2000000 in
theorem rchoose_low (D K : Nat) (w : World) (hK : K ≤ D) (hn : (D : Int) + (K : Int) ≤ 9223372036854775807) :
    Calls Try.prog 85 #[.int .i64 ((D : Int) + (K : Int)), .int .i64 (K : Int)] w fun e w' => e = .returned (.int .i64 (Ch.ch ((D : Int) + (K : Int)) (K : Int))) ∧ KW w w' := by
  have HR : Hid (Ch.ch ((D : Int) + (K : Int)) (K : Int) = min ((Ch.bin (D + K) K : Nat) : Int) 1099511627776) := by
    rw [Hid, Ch.ch_at (by omega) (by omega), show ((D : Int) + (K : Int)).toNat = D + K from by omega, Int.toNat_natCast]
  rw [HR.out]
  have d1 : decide ((D : Int) + (K : Int) < 0) = false := by simp; omega
  have d2 : decide ((K : Int) < 0) = false := by simp
  have d3 : decide ((D : Int) + (K : Int) < (K : Int)) = false := by simp; omega
  have L1 : (D : Int) + (K : Int) - (K : Int) = (D : Int) := by omega
  have L2 : (K : Int) ≤ (D : Int) := by omega
  have L4 : decide (D < K) = false := by simp; omega
  go_enter Try.func85, Try.ntmps85
  go_wp2
  go_loopw [5, 6, 7, 8] (fun c i _ _ wr => ∃ j : Nat, j ≤ K ∧ i = .int .i64 ((j : Int) + 1) ∧ c = .int .i64 ((Ch.bin (D + j) j : Nat) : Int) ∧ Hid (((Ch.bin (D + j) j : Nat) : Int) < 1099511627776) ∧ Hid (KW w wr)) (fun _ i _ _ _ => K + 1 - (intOf i).toNat)
  case atStart => exact ⟨0, by omega, rfl, by rw [Ch.bin_zero]; rfl, by rw [Ch.bin_zero]; exact (by decide : (1 : Int) < 1099511627776), KW.refl w⟩
  case round =>
    obtain ⟨j, hj, rfl, rfl, HM, HK⟩ := hrel
    have hm := HM.out
    have b1 : 1 ≤ ((Ch.bin (D + j) j : Nat) : Int) := by have := Ch.bin_pos (n := D + j) (k := j) (by omega); omega
    by_cases hlt : j < K
    · obtain ⟨hst, hj40⟩ := bin_next D j (by omega) (by omega)
      have HE := hid (most_end D K (j + 1) hlt)
      have hex : ((Ch.bin (D + j) j : Nat) : Int) * ((D : Int) + ((j : Int) + 1)) / ((j : Int) + 1) = ((Ch.bin (D + (j + 1)) (j + 1) : Nat) : Int) := by
        have e1 : ((D + (j + 1) : Nat) : Int) = (D : Int) + ((j : Int) + 1) := by omega
        have e2 : ((j + 1 : Nat) : Int) = (j : Int) + 1 := by omega
        rw [Ch.bin_step D j, Int.natCast_ediv, Int.natCast_mul, e1, e2]
      rw [← whole_part _ _ _ (by omega)] at hex
      clear hst
      generalize ((Ch.bin (D + j) j : Nat) : Int) = c at *
      generalize hB : ((Ch.bin (D + (j + 1)) (j + 1) : Nat) : Int) = B at *
      have HB := hid hB
      have m0 : 0 ≤ ((D : Int) + ((j : Int) + 1)) % ((j : Int) + 1) := Int.emod_nonneg _ (by omega)
      have m1 : ((D : Int) + ((j : Int) + 1)) % ((j : Int) + 1) < (j : Int) + 1 := Int.emod_lt_of_pos _ (by omega)
      have w0 : 0 ≤ ((D : Int) + ((j : Int) + 1)) / ((j : Int) + 1) := Int.ediv_nonneg (by omega) (by omega)
      have w1 : ((D : Int) + ((j : Int) + 1)) / ((j : Int) + 1) ≤ (D : Int) + ((j : Int) + 1) := Int.ediv_le_self _ (by omega)
      have q0 : 0 ≤ 1099511627776 / c := Int.ediv_nonneg (by omega) (by omega)
      have q1 : 1099511627776 / c ≤ 1099511627776 := Int.ediv_le_self _ (by omega)
      have HO := hid (over_most c (((D : Int) + ((j : Int) + 1)) / ((j : Int) + 1)) b1)
      have HN := hid (not_over c (((D : Int) + ((j : Int) + 1)) / ((j : Int) + 1)) b1)
      generalize hr : ((D : Int) + ((j : Int) + 1)) % ((j : Int) + 1) = r at *
      generalize hq : ((D : Int) + ((j : Int) + 1)) / ((j : Int) + 1) = q at *
      have p0 : 0 ≤ c * r := Int.mul_nonneg (by omega) m0
      have p1 : c * r ≤ 1099511627776 * 41 := Int.mul_le_mul (by omega) (by omega) m0 (by omega)
      have s0 : 0 ≤ c * r / ((j : Int) + 1) := Int.ediv_nonneg p0 (by omega)
      have s1 : c * r / ((j : Int) + 1) ≤ c * r := Int.ediv_le_self _ p0
      have t0 : 0 ≤ c * q := Int.mul_nonneg (by omega) w0
      have hz : (c == 0) = false := by simp; omega
      generalize hcr : c * r = cr at *
      generalize hcq : c * q = cq at *
      generalize hd : cr / ((j : Int) + 1) = d at *
      by_cases hbig : 1099511627776 / c < q
      · have h1 := HO.out hbig
        have HR2 := hid (HE.out (by omega))
        clear hB hex
        go_wp2_with fail
        go_ret
        exact ⟨ret_int HR2.out.symm, HK.out⟩
      · have h1 := HN.out hbig
        have hbig' : ¬ 1099511627776 / c < q := hbig
        have HEx := hid hex
        have hX := hid (rheld_any (cq + d))
        by_cases hB2 : 1099511627776 ≤ B
        · have HR2 := hid (HE.out hB2)
          have hh : Ch.held (cq + d) = 1099511627776 := by unfold Ch.held; omega
          rw [hh] at hX
          clear hB hex hh
          go_wp2_with (go_at_call 109; refine (hX.out _ (by omega) (by omega)).mono ?_; rintro e w1 ⟨rfl, rfl⟩)
          go_ret
          exact ⟨ret_int HR2.out.symm, HK.out⟩
        · have hh : Ch.held (cq + d) = B := by unfold Ch.held; omega
          have HBl : Hid (B < 1099511627776) := by rw [Hid]; omega
          have hne : (B == 1099511627776) = false := by simp; omega
          rw [hh] at hX
          clear hB hex hh
          go_wp2_with (go_at_call 109; refine (hX.out _ (by omega) (by omega)).mono ?_; rintro e w1 ⟨rfl, rfl⟩)
          go_roundw
          case rel => exact ⟨j + 1, by omega, by go_num, by rw [HB.out], by rw [HB.out]; exact HBl, HK⟩
          case measure => simp [intOf]; omega
    · obtain rfl : j = K := by omega
      obtain ⟨c, hc⟩ : ∃ c : Int, c = ((Ch.bin (D + j) j : Nat) : Int) := ⟨_, rfl⟩
      have HR3 : Hid (c = min ((Ch.bin (D + j) j : Nat) : Int) 1099511627776) := by rw [hc]; exact (Int.min_eq_left (Int.le_of_lt HM.out)).symm
      rw [← hc]
      clear hm b1 HM hc
      go_wp2
      go_ret
      exact ⟨ret_int HR3.out, HK.out⟩

set_option maxHeartbeats 2000000 in
theorem rchoose_high (D K : Nat) (w : World) (hK : K < D) (hn : (D : Int) + (K : Int) ≤ 9223372036854775807) :
    Calls Try.prog 85 #[.int .i64 ((D : Int) + (K : Int)), .int .i64 (D : Int)] w fun e w' => e = .returned (.int .i64 (Ch.ch ((D : Int) + (K : Int)) (D : Int))) ∧ KW w w' := by
  have HR : Hid (Ch.ch ((D : Int) + (K : Int)) (D : Int) = min ((Ch.bin (D + K) K : Nat) : Int) 1099511627776) := by
    have e := Ch.ch_other (n := (D : Int) + (K : Int)) (k := (D : Int)) (by omega) (by omega)
    rw [Hid, ← e, show (D : Int) + (K : Int) - (D : Int) = (K : Int) from by omega, Ch.ch_at (by omega) (by omega), show ((D : Int) + (K : Int)).toNat = D + K from by omega, Int.toNat_natCast]
  rw [HR.out]
  have d1 : decide ((D : Int) + (K : Int) < 0) = false := by simp; omega
  have d2 : decide ((D : Int) < 0) = false := by simp
  have d3 : decide ((D : Int) + (K : Int) < (D : Int)) = false := by simp; omega
  have L1 : (D : Int) + (K : Int) - (K : Int) = (D : Int) := by omega
  have L2 : ¬ (D : Int) ≤ (K : Int) := by omega
  have L4 : decide (K < D) = true := by simp; omega
  have L3 : (D : Int) + (K : Int) - (D : Int) = (K : Int) := by omega
  go_enter Try.func85, Try.ntmps85
  go_wp2
  go_loopw [5, 6, 7, 8] (fun c i _ _ wr => ∃ j : Nat, j ≤ K ∧ i = .int .i64 ((j : Int) + 1) ∧ c = .int .i64 ((Ch.bin (D + j) j : Nat) : Int) ∧ Hid (((Ch.bin (D + j) j : Nat) : Int) < 1099511627776) ∧ Hid (KW w wr)) (fun _ i _ _ _ => K + 1 - (intOf i).toNat)
  case atStart => exact ⟨0, by omega, rfl, by rw [Ch.bin_zero]; rfl, by rw [Ch.bin_zero]; exact (by decide : (1 : Int) < 1099511627776), KW.refl w⟩
  case round =>
    obtain ⟨j, hj, rfl, rfl, HM, HK⟩ := hrel
    have hm := HM.out
    have b1 : 1 ≤ ((Ch.bin (D + j) j : Nat) : Int) := by have := Ch.bin_pos (n := D + j) (k := j) (by omega); omega
    by_cases hlt : j < K
    · obtain ⟨hst, hj40⟩ := bin_next D j (by omega) (by omega)
      have HE := hid (most_end D K (j + 1) hlt)
      have hex : ((Ch.bin (D + j) j : Nat) : Int) * ((D : Int) + ((j : Int) + 1)) / ((j : Int) + 1) = ((Ch.bin (D + (j + 1)) (j + 1) : Nat) : Int) := by
        have e1 : ((D + (j + 1) : Nat) : Int) = (D : Int) + ((j : Int) + 1) := by omega
        have e2 : ((j + 1 : Nat) : Int) = (j : Int) + 1 := by omega
        rw [Ch.bin_step D j, Int.natCast_ediv, Int.natCast_mul, e1, e2]
      rw [← whole_part _ _ _ (by omega)] at hex
      clear hst
      generalize ((Ch.bin (D + j) j : Nat) : Int) = c at *
      generalize hB : ((Ch.bin (D + (j + 1)) (j + 1) : Nat) : Int) = B at *
      have HB := hid hB
      have m0 : 0 ≤ ((D : Int) + ((j : Int) + 1)) % ((j : Int) + 1) := Int.emod_nonneg _ (by omega)
      have m1 : ((D : Int) + ((j : Int) + 1)) % ((j : Int) + 1) < (j : Int) + 1 := Int.emod_lt_of_pos _ (by omega)
      have w0 : 0 ≤ ((D : Int) + ((j : Int) + 1)) / ((j : Int) + 1) := Int.ediv_nonneg (by omega) (by omega)
      have w1 : ((D : Int) + ((j : Int) + 1)) / ((j : Int) + 1) ≤ (D : Int) + ((j : Int) + 1) := Int.ediv_le_self _ (by omega)
      have q0 : 0 ≤ 1099511627776 / c := Int.ediv_nonneg (by omega) (by omega)
      have q1 : 1099511627776 / c ≤ 1099511627776 := Int.ediv_le_self _ (by omega)
      have HO := hid (over_most c (((D : Int) + ((j : Int) + 1)) / ((j : Int) + 1)) b1)
      have HN := hid (not_over c (((D : Int) + ((j : Int) + 1)) / ((j : Int) + 1)) b1)
      generalize hr : ((D : Int) + ((j : Int) + 1)) % ((j : Int) + 1) = r at *
      generalize hq : ((D : Int) + ((j : Int) + 1)) / ((j : Int) + 1) = q at *
      have p0 : 0 ≤ c * r := Int.mul_nonneg (by omega) m0
      have p1 : c * r ≤ 1099511627776 * 41 := Int.mul_le_mul (by omega) (by omega) m0 (by omega)
      have s0 : 0 ≤ c * r / ((j : Int) + 1) := Int.ediv_nonneg p0 (by omega)
      have s1 : c * r / ((j : Int) + 1) ≤ c * r := Int.ediv_le_self _ p0
      have t0 : 0 ≤ c * q := Int.mul_nonneg (by omega) w0
      have hz : (c == 0) = false := by simp; omega
      generalize hcr : c * r = cr at *
      generalize hcq : c * q = cq at *
      generalize hd : cr / ((j : Int) + 1) = d at *
      by_cases hbig : 1099511627776 / c < q
      · have h1 := HO.out hbig
        have HR2 := hid (HE.out (by omega))
        clear hB hex
        go_wp2_with fail
        go_ret
        exact ⟨ret_int HR2.out.symm, HK.out⟩
      · have h1 := HN.out hbig
        have hbig' : ¬ 1099511627776 / c < q := hbig
        have HEx := hid hex
        have hX := hid (rheld_any (cq + d))
        by_cases hB2 : 1099511627776 ≤ B
        · have HR2 := hid (HE.out hB2)
          have hh : Ch.held (cq + d) = 1099511627776 := by unfold Ch.held; omega
          rw [hh] at hX
          clear hB hex hh
          go_wp2_with (go_at_call 109; refine (hX.out _ (by omega) (by omega)).mono ?_; rintro e w1 ⟨rfl, rfl⟩)
          go_ret
          exact ⟨ret_int HR2.out.symm, HK.out⟩
        · have hh : Ch.held (cq + d) = B := by unfold Ch.held; omega
          have HBl : Hid (B < 1099511627776) := by rw [Hid]; omega
          have hne : (B == 1099511627776) = false := by simp; omega
          rw [hh] at hX
          clear hB hex hh
          go_wp2_with (go_at_call 109; refine (hX.out _ (by omega) (by omega)).mono ?_; rintro e w1 ⟨rfl, rfl⟩)
          go_roundw
          case rel => exact ⟨j + 1, by omega, by go_num, by rw [HB.out], by rw [HB.out]; exact HBl, HK⟩
          case measure => simp [intOf]; omega
    · obtain rfl : j = K := by omega
      obtain ⟨c, hc⟩ : ∃ c : Int, c = ((Ch.bin (D + j) j : Nat) : Int) := ⟨_, rfl⟩
      have HR3 : Hid (c = min ((Ch.bin (D + j) j : Nat) : Int) 1099511627776) := by rw [hc]; exact (Int.min_eq_left (Int.le_of_lt HM.out)).symm
      rw [← hc]
      clear hm b1 HM hc
      go_wp2
      go_ret
      exact ⟨ret_int HR3.out, HK.out⟩

theorem rchoose_any (n k : Int) (w : World) (h0 : -9223372036854775808 ≤ n) (h1 : n ≤ 9223372036854775807) :
    Calls Try.prog 85 #[.int .i64 n, .int .i64 k] w fun e w' => e = .returned (.int .i64 (Ch.ch n k)) ∧ KW w w' := by
  by_cases h : n < 0 ∨ k < 0 ∨ n < k
  · exact rchoose_none n k w h
  · by_cases h2 : k ≤ n - k
    · have := rchoose_low (n - k).toNat k.toNat w (by omega) (by omega)
      rwa [show ((n - k).toNat : Int) + (k.toNat : Int) = n from by omega, show (k.toNat : Int) = k from by omega] at this
    · have := rchoose_high k.toNat (n - k).toNat w (by omega) (by omega)
      rwa [show (k.toNat : Int) + ((n - k).toNat : Int) = n from by omega, show (k.toNat : Int) = k from by omega] at this
end Go.Proofs.Ytgadkelldbibgaa
