/- Contracts of ring.Add, Mul, Neg. -/
import Derived.Test.YtnpgiallgcliiaaRowI
namespace Go.Proofs.Ytnpgiallgcliiaa
open Go.ChangeShapes Go.WideShapes Go.ChangeAt Go.RowKit
set_option linter.unusedVariables false

set_option maxHeartbeats 1000000 in
theorem add_any (A : Option Addr) (n c : Nat) (f : Nat → Int) (w : World) (hn : n ≤ 9223372036854775807) (hr : Row1 w A n fun k => .int .u64 (f k)) :
    Calls Try.prog 43 #[.slice A n c] w fun e w' => e = .returned (.int .u64 (IntKind.u64.wrap (Pl.sm f n))) ∧ w = w' := by
  have HR := hid hr
  clear hr
  go_enter Try.func43, Try.ntmps43
  go_wp2
  go_loop [3, 8] (fun s i => ∃ k : Nat, k ≤ n ∧ i = .int .i64 k ∧ s = .int .u64 (IntKind.u64.wrap (Pl.sm f k))) (fun _ i => n - (intOf i).toNat)
  case atStart => exact ⟨0, by omega, rfl, rfl⟩
  case round =>
    obtain ⟨k, hk, rfl, rfl⟩ := hrel
    by_cases hlt : k < n
    · obtain ⟨b, off, rfl, hb, hc⟩ := HR.out.at_ hlt
      generalize hs : IntKind.u64.wrap (Pl.sm f k) = s at *
      generalize hx : f k = x at *
      have Hs := hid hs
      have Hx := hid hx
      clear hs hx
      go_wp2
      go_round
      case rel =>
        refine ⟨k + 1, by omega, by go_num, ?_⟩
        rw [← Hs.out, Pl.uw_addl, ← Hx.out]
        rfl
      case measure => simp [intOf]; omega
    · obtain rfl : k = n := by omega
      go_wp2
      go_ret
      exact ⟨ret_int rfl, rfl⟩

set_option maxHeartbeats 1000000 in
theorem mul_any (A : Option Addr) (n c : Nat) (f : Nat → Int) (w : World) (hn : n ≤ 9223372036854775807) (hr : Row1 w A n fun k => .int .u64 (f k)) :
    Calls Try.prog 44 #[.slice A n c] w fun e w' => e = .returned (.int .u64 (IntKind.u64.wrap (Pl.pr f n))) ∧ w = w' := by
  have HR := hid hr
  clear hr
  go_enter Try.func44, Try.ntmps44
  go_wp2
  go_loop [3, 8] (fun s i => ∃ k : Nat, k ≤ n ∧ i = .int .i64 k ∧ s = .int .u64 (IntKind.u64.wrap (Pl.pr f k))) (fun _ i => n - (intOf i).toNat)
  case atStart => exact ⟨0, by omega, rfl, rfl⟩
  case round =>
    obtain ⟨k, hk, rfl, rfl⟩ := hrel
    by_cases hlt : k < n
    · obtain ⟨b, off, rfl, hb, hc⟩ := HR.out.at_ hlt
      generalize hs : IntKind.u64.wrap (Pl.pr f k) = s at *
      generalize hx : f k = x at *
      have Hs := hid hs
      have Hx := hid hx
      clear hs hx
      go_wp2
      go_round
      case rel =>
        refine ⟨k + 1, by omega, by go_num, ?_⟩
        rw [← Hs.out, Pl.uw_mull, ← Hx.out]
        rfl
      case measure => simp [intOf]; omega
    · obtain rfl : k = n := by omega
      go_wp2
      go_ret
      exact ⟨ret_int rfl, rfl⟩

theorem rneg_any (a : Int) (w : World) :
    Calls Try.prog 63 #[.int .u64 a] w fun e w' => e = .returned (.int .u64 (IntKind.u64.wrap (-a))) ∧ w = w' := by
  go_enter Try.func63, Try.ntmps63
  go_wp2
  go_ret
  exact ⟨ret_int rfl, rfl⟩
end Go.Proofs.Ytnpgiallgcliiaa
