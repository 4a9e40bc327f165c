/- Contracts of choose.times, Add. -/
import Derived.Test.YtgadkelldbibgaaC2
import Derived.Test.YtgadkelldbibgaaRowI
namespace Go.Proofs.Ytgadkelldbibgaa
open Go.ChangeShapes Go.WideShapes Go.ChangeAt Go.RowKit
set_option linter.unusedVariables false

theorem mul64_int (a b : Int) (w : World) (a0 : 0 ≤ a) (a1 : a ≤ 18446744073709551615) (b0 : 0 ≤ b) (b1 : b ≤ 18446744073709551615) :
    Calls Try.prog 112 #[.int .u64 a, .int .u64 b] w fun e w' => e = .returned (.tuple #[.int .u64 (a * b / 18446744073709551616), .int .u64 (a * b % 18446744073709551616)]) ∧ w = w' := by
  obtain ⟨x, rfl⟩ : ∃ x : Nat, a = x := ⟨a.toNat, by omega⟩
  obtain ⟨y, rfl⟩ : ∃ y : Nat, b = y := ⟨b.toNat, by omega⟩
  have h := mul64_any x y (by omega) (by omega) w
  have e1 : ((x * y / 18446744073709551616 : Nat) : Int) = (x : Int) * (y : Int) / 18446744073709551616 := by rw [Int.natCast_ediv, Int.natCast_mul]; rfl
  have e2 : ((x * y % 18446744073709551616 : Nat) : Int) = (x : Int) * (y : Int) % 18446744073709551616 := by rw [Int.natCast_emod, Int.natCast_mul]; rfl
  rw [e1, e2] at h
  exact h

theorem times_min {P q : Int} (h : q = P / 1) : q = P := by rw [h, Int.ediv_one]
set_option maxHeartbeats 1000000 in
theorem times_any (a b y : Int) (w : World) (a0 : 0 ≤ a) (a1 : a ≤ 9223372036854775807) (b0 : 0 ≤ b) (b1 : b ≤ 9223372036854775807) (g0 : 1 ≤ y) (g1 : y ≤ 63) :
    Calls Try.prog 101 #[.int .i64 a, .int .i64 b, .int .i64 y] w fun e w' => e = .returned (.int .i64 (min (a * b / y) 1099511627776)) ∧ KW w w' := by
  have HM := hid (fun W => mul64_int a b W a0 (by omega) b0 (by omega))
  have hP0 : 0 ≤ a * b := Int.mul_nonneg a0 b0
  have hP1 : a * b ≤ 9223372036854775807 * 9223372036854775807 := Int.mul_le_mul a1 b1 b0 (by omega)
  generalize a * b = P at *
  have hH0 : 0 ≤ P / 18446744073709551616 := by omega
  have hH1 : P / 18446744073709551616 ≤ 18446744073709551615 := by omega
  have hL0 : 0 ≤ P % 18446744073709551616 := by omega
  have hL1 : P % 18446744073709551616 ≤ 18446744073709551615 := by omega
  have hPe : P / 18446744073709551616 * 18446744073709551616 + P % 18446744073709551616 = P := by omega
  have hQ : P / y * y ≤ P := Int.ediv_mul_le _ (by omega)
  have hQ0 : 0 ≤ P / y := Int.ediv_nonneg hP0 (by omega)
  have hQ2 : P < (P / y + 1) * y := Int.lt_ediv_add_one_mul_self _ (by omega)
  by_cases hge : y ≤ P / 18446744073709551616
  · have hbig : 18446744073709551616 ≤ P / y := by
      refine Int.le_ediv_of_mul_le (by omega) ?_
      omega
    have HR : Hid (min (P / y) 1099511627776 = 1099511627776) := by show _ = _; omega
    generalize P / 18446744073709551616 = H at *
    generalize P % 18446744073709551616 = L at *
    clear hQ hQ0 hQ2 hbig hPe hP0 hP1
    go_enter Try.func101, Try.ntmps101
    go_wp2_with (go_at_call 112; refine (HM.out _).mono ?_; rintro e w1 ⟨rfl, rfl⟩)
    go_ret
    exact ⟨ret_int HR.out.symm, KW.refl w⟩
  · have HD := hid (fun W => div64_any (P / 18446744073709551616) (P % 18446744073709551616) y W hL0 hL1 hH0 (by omega) g1)
    rw [hPe] at HD
    have hQ3 : P / y ≤ 18446744073709551615 := by
      have : P / y < 18446744073709551616 := by
        refine Int.ediv_lt_of_lt_mul (by omega) ?_
        omega
      omega
    by_cases hbig : 1099511627776 < P / y
    · have HR : Hid (min (P / y) 1099511627776 = 1099511627776) := by show _ = _; omega
      generalize P / 18446744073709551616 = H at *
      generalize P % 18446744073709551616 = L at *
      generalize P / y = Q at *
      clear hQ hQ2 hPe hP0 hP1
      have hk := KW.refl w
      go_enter Try.func101, Try.ntmps101
      go_wp2_with (first
        | (go_at_call 112; refine (HM.out _).mono ?_; rintro e w1 ⟨rfl, rfl⟩)
        | (go_at_call 115; refine (HD.out _).mono ?_; rintro e w1 ⟨⟨r, rfl⟩, hb⟩; replace hk := hk.on hb; clear hb))
      go_ret
      exact ⟨ret_int HR.out.symm, hk⟩
    · have HR : Hid (min (P / y) 1099511627776 = P / y) := by show _ = _; omega
      generalize P / 18446744073709551616 = H at *
      generalize P % 18446744073709551616 = L at *
      generalize P / y = Q at *
      clear hQ hQ2 hPe hP0 hP1
      have hk := KW.refl w
      go_enter Try.func101, Try.ntmps101
      go_wp2_with (first
        | (go_at_call 112; refine (HM.out _).mono ?_; rintro e w1 ⟨rfl, rfl⟩)
        | (go_at_call 115; refine (HD.out _).mono ?_; rintro e w1 ⟨⟨r, rfl⟩, hb⟩; replace hk := hk.on hb; clear hb))
      go_ret
      exact ⟨ret_int HR.out.symm, hk⟩

end Go.Proofs.Ytgadkelldbibgaa
