/- Contracts of reps.slots, longest, Longest, and of the reference's Longest. -/
import Derived.Test.YthmhdegndoodmaaC7
import Derived.Test.YthmhdegndoodmaaPlainR
namespace Go.Proofs.Ythmhdegndoodmaa
open Go.ChangeShapes Go.WideShapes Go.ChangeAt Go.RowKit
set_option linter.unusedVariables false

def mayS (s : Int) : Bool := decide (1 ≤ s ∧ s ≤ 1048576)
theorem slots_yes (s : Int) (w : World) (h0 : 1 ≤ s) (h1 : s ≤ 1048576) : Calls Try.prog 36 #[.int .i64 s] w fun e w' => e = .returned (.bool true) ∧ w = w' := by
  have d0 : decide (1 ≤ s) = true := by simpa using h0
  go_enter Try.func36, Try.ntmps36
  go_wp2
  go_ret
  exact ⟨rfl, rfl⟩
theorem slots_no (s : Int) (w : World) (h : s < 1 ∨ 1048576 < s) : Calls Try.prog 36 #[.int .i64 s] w fun e w' => e = .returned (.bool false) ∧ w = w' := by
  by_cases h0 : s < 1
  · have d0 : decide (1 ≤ s) = false := by simp; omega
    clear h
    go_enter Try.func36, Try.ntmps36
    go_wp2
    go_ret
    exact ⟨rfl, rfl⟩
  · have d0 : decide (1 ≤ s) = true := by simp; omega
    have d1 : ¬ s ≤ 1048576 := by omega
    clear h
    go_enter Try.func36, Try.ntmps36
    go_wp2
    go_ret
    exact ⟨rfl, rfl⟩

theorem ch_most {r s : Int} (hs : 1 ≤ s) (hr : 1099511627776 ≤ r) : Ch.ch (s + r) s = 1099511627776 := by
  have := Ch.ch_ge (n := s + r) (k := s) (by omega) (by omega)
  have := Ch.ch_le (s + r) s
  omega
theorem longest1_any (r s : Int) (w : World) (r0 : 0 ≤ r) (r1 : r ≤ 9223372036854775807) (s0 : 1 ≤ s) (s1 : s ≤ 1048576) :
    Calls Try.prog 39 #[.int .i64 r, .int .i64 s] w fun e w' => e = .returned (.int .i64 (Ch.ch (s + r) s)) ∧ KW w w' := by
  by_cases h : 1099511627776 ≤ r
  · rw [ch_most s0 h]
    go_enter Try.func39, Try.ntmps39
    go_wp2
    go_ret
    exact ⟨rfl, KW.refl w⟩
  · have HC := hid (fun W => choose_any (s + r) s W (by omega) (by omega))
    generalize Ch.ch (s + r) s = v at *
    have hk := KW.refl w
    go_enter Try.func39, Try.ntmps39
    go_wp2_with (go_at_call 34; refine (HC.out _).mono ?_; rintro e w1 ⟨rfl, hb⟩; replace hk := hk.t hb; clear hb)
    go_ret
    exact ⟨rfl, hk⟩

/-- what the longest chain is, or why there is none -/
theorem longest_yes (r s : Int) (w : World) (r0 : 0 ≤ r) (r1 : r ≤ 9223372036854775807) (s0 : 1 ≤ s) (s1 : s ≤ 1048576) :
    Calls Try.prog 18 #[.int .i64 r, .int .i64 s] w fun e w' => e = .returned (.tuple #[.int .i64 (Ch.ch (s + r) s), .int .i64 0]) ∧ KW w w' := by
  have HC := hid (fun W => longest1_any r s W r0 r1 s0 s1)
  generalize Ch.ch (s + r) s = v at *
  have hk := KW.refl w
  have d0 : decide (r < 0) = false := by simp; omega
  go_enter Try.func18, Try.ntmps18
  go_wp2_with (first
    | (go_at_call 36; refine (slots_yes _ _ s0 s1).mono ?_; rintro e w1 ⟨rfl, rfl⟩)
    | (go_at_call 39; refine (HC.out _).mono ?_; rintro e w1 ⟨rfl, hb⟩; replace hk := hk.t hb; clear hb))
  go_ret2
  exact ⟨rfl, hk⟩
theorem longest_no (r s : Int) (w : World) (h : r < 0 ∨ s < 1 ∨ 1048576 < s) :
    Calls Try.prog 18 #[.int .i64 r, .int .i64 s] w fun e w' => e = .returned (.tuple #[.int .i64 0, .int .i64 2]) ∧ KW w w' := by
  by_cases h0 : r < 0
  · clear h
    go_enter Try.func18, Try.ntmps18
    go_wp2
    go_ret2
    exact ⟨rfl, KW.refl w⟩
  · have d0 : decide (r < 0) = false := by simp; omega
    have HS := hid (fun W => slots_no s W (by omega))
    clear h
    go_enter Try.func18, Try.ntmps18
    go_wp2_with (go_at_call 36; refine (HS.out _).mono ?_; rintro e w1 ⟨rfl, rfl⟩)
    go_ret2
    exact ⟨rfl, KW.refl w⟩
theorem rlongest_yes (r s : Int) (w : World) (r0 : 0 ≤ r) (r1 : r ≤ 9223372036854775807) (s0 : 1 ≤ s) (s1 : s ≤ 1048576) :
    Calls Try.prog 19 #[.int .i64 r, .int .i64 s] w fun e w' => e = .returned (.tuple #[.int .i64 (Ch.ch (s + r) s), .int .i64 0]) ∧ KW w w' := by
  have d0 : decide (r < 0) = false := by simp; omega
  have d1 : decide (s < 1) = false := by simp; omega
  have d2 : decide (1048576 < s) = false := by simp; omega
  by_cases h : 1099511627776 < r
  · rw [ch_most s0 (by omega)]
    go_enter Try.func19, Try.ntmps19
    go_wp2
    go_ret2
    exact ⟨rfl, KW.refl w⟩
  · have e := Ch.ch_other (n := s + r) (k := s) (by omega) (by omega)
    rw [show s + r - s = r from by omega] at e
    rw [← e]
    have HC := hid (fun W => rchoose_any (s + r) r W (by omega) (by omega))
    generalize Ch.ch (s + r) r = v at *
    clear e
    have hk := KW.refl w
    go_enter Try.func19, Try.ntmps19
    go_wp2_with (go_at_call 40; refine (HC.out _).mono ?_; rintro e w1 ⟨rfl, hb⟩; replace hk := hk.t hb; clear hb)
    go_ret2
    exact ⟨rfl, hk⟩
theorem rlongest_no (r s : Int) (w : World) (h : r < 0 ∨ s < 1 ∨ 1048576 < s) :
    Calls Try.prog 19 #[.int .i64 r, .int .i64 s] w fun e w' => e = .returned (.tuple #[.int .i64 0, .int .i64 2]) ∧ KW w w' := by
  by_cases h0 : r < 0
  · clear h
    go_enter Try.func19, Try.ntmps19
    go_wp2
    go_ret2
    exact ⟨rfl, KW.refl w⟩
  · have d0 : decide (r < 0) = false := by simp; omega
    by_cases h1 : s < 1
    · clear h
      go_enter Try.func19, Try.ntmps19
      go_wp2
      go_ret2
      exact ⟨rfl, KW.refl w⟩
    · have d1 : decide (s < 1) = false := by simp; omega
      have h2 : 1048576 < s := by omega
      clear h
      go_enter Try.func19, Try.ntmps19
      go_wp2
      go_ret2
      exact ⟨rfl, KW.refl w⟩
end Go.Proofs.Ythmhdegndoodmaa
