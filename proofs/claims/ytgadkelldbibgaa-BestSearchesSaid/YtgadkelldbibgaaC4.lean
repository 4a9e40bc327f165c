/- Contract of choose.Choose: in how many ways k of n are chosen, up to 2^40. -/
import Derived.Test.YtgadkelldbibgaaC3
namespace Go.Proofs.Ytgadkelldbibgaa
open Go.ChangeShapes Go.WideShapes Go.ChangeAt Go.RowKit
set_option linter.unusedVariables false

theorem choose_none (n k : Int) (w : World) (h : n < 0 ∨ k < 0 ∨ n < k) :
    Calls Try.prog 59 #[.int .i64 n, .int .i64 k] w fun e w' => e = .returned (.int .i64 (Ch.ch n k)) ∧ KW w w' := by
  have HR := hid (Ch.ch_none h)
  by_cases h1 : n < 0
  · clear h
    go_enter Try.func59, Try.ntmps59
    go_wp2
    go_ret
    exact ⟨ret_int HR.out.symm, KW.refl w⟩
  · have d1 : decide (n < 0) = false := by simpa using h1
    by_cases h2 : k < 0
    · clear h
      go_enter Try.func59, Try.ntmps59
      go_wp2
      go_ret
      exact ⟨ret_int HR.out.symm, KW.refl w⟩
    · have d2 : decide (k < 0) = false := by simpa using h2
      have h3 : n < k := by omega
      clear h
      go_enter Try.func59, Try.ntmps59
      go_wp2
      go_ret
      exact ⟨ret_int HR.out.symm, KW.refl w⟩

/-- one more: c m / i, in whole parts, of what is below the most -/
theorem bin_next (D j : Nat) (hj : j + 1 ≤ D) (hlt : ((Ch.bin (D + j) j : Nat) : Int) < 1099511627776) :
    min (((Ch.bin (D + j) j : Nat) : Int) * ((D : Int) + ((j : Int) + 1)) / ((j : Int) + 1)) 1099511627776 = min ((Ch.bin (D + (j + 1)) (j + 1) : Nat) : Int) 1099511627776 ∧ j < 40 := by
  constructor
  · have e1 : ((D + (j + 1) : Nat) : Int) = (D : Int) + ((j : Int) + 1) := by omega
    have e2 : ((j + 1 : Nat) : Int) = (j : Int) + 1 := by omega
    rw [Ch.bin_step D j, Int.natCast_ediv, Int.natCast_mul, e1, e2]
  · have := Ch.bin_two (d := D) (j := j) (by omega)
    apply Nat.lt_of_not_le
    intro h40
    have h2 : 2 ^ 40 ≤ 2 ^ j := Nat.pow_le_pow_right (by omega) h40
    have : (2 : Nat) ^ 40 = 1099511627776 := by decide
    omega
theorem bin_end (D K j : Nat) (hj : j ≤ K) (h : j = K ∨ ¬ min ((Ch.bin (D + j) j : Nat) : Int) 1099511627776 < 1099511627776) : min ((Ch.bin (D + j) j : Nat) : Int) 1099511627776 = min ((Ch.bin (D + K) K : Nat) : Int) 1099511627776 := by
  rcases h with rfl | h
  · rfl
  · have := Ch.bin_diag D j (K - j)
    rw [show j + (K - j) = K from by omega] at this
    omega

set_option maxHeartbeats 2000000 in
theorem choose_low (D K : Nat) (w : World) (hK : K ≤ D) (hn : (D : Int) + (K : Int) ≤ 9223372036854775807) :
    Calls Try.prog 59 #[.int .i64 ((D : Int) + (K : Int)), .int .i64 (K : Int)] w fun e w' => e = .returned (.int .i64 (Ch.ch ((D : Int) + (K : Int)) (K : Int))) ∧ KW w w' := by
  have HR : Hid (Ch.ch ((D : Int) + (K : Int)) (K : Int) = min ((Ch.bin (D + K) K : Nat) : Int) 1099511627776) := by
    rw [Hid, Ch.ch_at (by omega) (by omega), show ((D : Int) + (K : Int)).toNat = D + K from by omega, Int.toNat_natCast]
  rw [HR.out]
  have d1 : decide ((D : Int) + (K : Int) < 0) = false := by simp; omega
  have d2 : decide ((K : Int) < 0) = false := by simp
  have d3 : decide ((D : Int) + (K : Int) < (K : Int)) = false := by simp; omega
  have L1 : (D : Int) + (K : Int) - (K : Int) = (D : Int) := by omega
  have L2 : (K : Int) ≤ (D : Int) := by omega
  go_enter Try.func59, Try.ntmps59
  go_wp2
  go_loopw [5, 6] (fun c i wr => ∃ j : Nat, j ≤ K ∧ i = .int .i64 ((j : Int) + 1) ∧ c = .int .i64 (min ((Ch.bin (D + j) j : Nat) : Int) 1099511627776) ∧ Hid (KW w wr)) (fun _ i _ => K + 1 - (intOf i).toNat)
  case atStart => exact ⟨0, by omega, rfl, by rw [Ch.bin_zero]; rfl, KW.refl w⟩
  case round =>
    obtain ⟨j, hj, rfl, rfl, HK⟩ := hrel
    have HE := hid (bin_end D K j hj)
    have b0 : 0 ≤ min ((Ch.bin (D + j) j : Nat) : Int) 1099511627776 := by omega
    have b1 : min ((Ch.bin (D + j) j : Nat) : Int) 1099511627776 ≤ 1099511627776 := by omega
    by_cases hlt : j < K
    · by_cases hm : min ((Ch.bin (D + j) j : Nat) : Int) 1099511627776 < 1099511627776
      · obtain ⟨hst, hj40⟩ := bin_next D j (by omega) (by omega)
        have heq : min ((Ch.bin (D + j) j : Nat) : Int) 1099511627776 = ((Ch.bin (D + j) j : Nat) : Int) := by omega
        rw [← heq] at hst
        clear heq
        generalize min ((Ch.bin (D + j) j : Nat) : Int) 1099511627776 = c at *
        have HS := hid hst
        clear hst
        go_wp2_with fail
        refine (times_any c ((D : Int) + ((j : Int) + 1)) ((j : Int) + 1) _ b0 (by omega) (by omega) (by omega) (by omega) (by omega)).mono ?_
        rw [HS.out]
        rintro e w1 ⟨rfl, hb⟩
        have HK1 := hid (HK.out.on hb)
        clear hb
        go_wp2_with fail
        go_roundw
        case rel => exact ⟨j + 1, by omega, by go_num, rfl, HK1⟩
        case measure => simp [intOf]; omega
      · have HE1 := hid (HE.out (Or.inr hm))
        generalize min ((Ch.bin (D + j) j : Nat) : Int) 1099511627776 = c at *
        have hm2 : decide (c < 1099511627776) = false := by simpa using hm
        go_wp2_with fail
        go_ret
        exact ⟨ret_int HE1.out, HK.out⟩
    · obtain rfl : j = K := by omega
      go_wp2
      go_ret
      exact ⟨rfl, HK.out⟩
set_option maxHeartbeats 2000000 in
theorem choose_high (D K : Nat) (w : World) (hK : K < D) (hn : (D : Int) + (K : Int) ≤ 9223372036854775807) :
    Calls Try.prog 59 #[.int .i64 ((D : Int) + (K : Int)), .int .i64 (D : Int)] w fun e w' => e = .returned (.int .i64 (Ch.ch ((D : Int) + (K : Int)) (D : Int))) ∧ KW w w' := by
  have HR : Hid (Ch.ch ((D : Int) + (K : Int)) (D : Int) = min ((Ch.bin (D + K) K : Nat) : Int) 1099511627776) := by
    have e := Ch.ch_other (n := (D : Int) + (K : Int)) (k := (D : Int)) (by omega) (by omega)
    rw [Hid, ← e, show (D : Int) + (K : Int) - (D : Int) = (K : Int) from by omega, Ch.ch_at (by omega) (by omega), show ((D : Int) + (K : Int)).toNat = D + K from by omega, Int.toNat_natCast]
  rw [HR.out]
  have d1 : decide ((D : Int) + (K : Int) < 0) = false := by simp; omega
  have d2 : decide ((D : Int) < 0) = false := by simp
  have d3 : decide ((D : Int) + (K : Int) < (D : Int)) = false := by simp; omega
  have L1 : (D : Int) + (K : Int) - (K : Int) = (D : Int) := by omega
  have L2 : ¬ (D : Int) ≤ (K : Int) := by omega
  have L3 : (D : Int) + (K : Int) - (D : Int) = (K : Int) := by omega
  go_enter Try.func59, Try.ntmps59
  go_wp2
  go_loopw [5, 6] (fun c i wr => ∃ j : Nat, j ≤ K ∧ i = .int .i64 ((j : Int) + 1) ∧ c = .int .i64 (min ((Ch.bin (D + j) j : Nat) : Int) 1099511627776) ∧ Hid (KW w wr)) (fun _ i _ => K + 1 - (intOf i).toNat)
  case atStart => exact ⟨0, by omega, rfl, by rw [Ch.bin_zero]; rfl, KW.refl w⟩
  case round =>
    obtain ⟨j, hj, rfl, rfl, HK⟩ := hrel
    have HE := hid (bin_end D K j hj)
    have b0 : 0 ≤ min ((Ch.bin (D + j) j : Nat) : Int) 1099511627776 := by omega
    have b1 : min ((Ch.bin (D + j) j : Nat) : Int) 1099511627776 ≤ 1099511627776 := by omega
    by_cases hlt : j < K
    · by_cases hm : min ((Ch.bin (D + j) j : Nat) : Int) 1099511627776 < 1099511627776
      · obtain ⟨hst, hj40⟩ := bin_next D j (by omega) (by omega)
        have heq : min ((Ch.bin (D + j) j : Nat) : Int) 1099511627776 = ((Ch.bin (D + j) j : Nat) : Int) := by omega
        rw [← heq] at hst
        clear heq
        generalize min ((Ch.bin (D + j) j : Nat) : Int) 1099511627776 = c at *
        have HS := hid hst
        clear hst
        go_wp2_with fail
        refine (times_any c ((D : Int) + ((j : Int) + 1)) ((j : Int) + 1) _ b0 (by omega) (by omega) (by omega) (by omega) (by omega)).mono ?_
        rw [HS.out]
        rintro e w1 ⟨rfl, hb⟩
        have HK1 := hid (HK.out.on hb)
        clear hb
        go_wp2_with fail
        go_roundw
        case rel => exact ⟨j + 1, by omega, by go_num, rfl, HK1⟩
        case measure => simp [intOf]; omega
      · have HE1 := hid (HE.out (Or.inr hm))
        generalize min ((Ch.bin (D + j) j : Nat) : Int) 1099511627776 = c at *
        have hm2 : decide (c < 1099511627776) = false := by simpa using hm
        go_wp2_with fail
        go_ret
        exact ⟨ret_int HE1.out, HK.out⟩
    · obtain rfl : j = K := by omega
      go_wp2
      go_ret
      exact ⟨rfl, HK.out⟩

theorem choose_any (n k : Int) (w : World) (h0 : -9223372036854775808 ≤ n) (h1 : n ≤ 9223372036854775807) :
    Calls Try.prog 59 #[.int .i64 n, .int .i64 k] w fun e w' => e = .returned (.int .i64 (Ch.ch n k)) ∧ KW w w' := by
  by_cases h : n < 0 ∨ k < 0 ∨ n < k
  · exact choose_none n k w h
  · by_cases h2 : k ≤ n - k
    · have := choose_low (n - k).toNat k.toNat w (by omega) (by omega)
      rwa [show ((n - k).toNat : Int) + (k.toNat : Int) = n from by omega, show (k.toNat : Int) = k from by omega] at this
    · have := choose_high k.toNat (n - k).toNat w (by omega) (by omega)
      rwa [show (k.toNat : Int) + ((n - k).toNat : Int) = n from by omega, show (k.toNat : Int) = k from by omega] at this
end Go.Proofs.Ytgadkelldbibgaa
