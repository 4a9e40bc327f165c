/- Contracts of the reference's digits: backstitchref01.digits, number: what each computes; memory that was there stays. -/
import Derived.Test.YtnpgiallgcliiaaBase
namespace Go.Proofs.Ytnpgiallgcliiaa
open Go.ChangeShapes Go.WideShapes Go.ChangeAt Go.RowKit
set_option linter.unusedVariables false

theorem dgs (a : Int) : Pl.dg a 0 = a % 256 ∧ Pl.dg a 1 = a / 256 % 256 ∧ Pl.dg a 2 = a / 256 / 256 % 256 ∧ Pl.dg a 3 = a / 256 / 256 / 256 % 256 ∧ Pl.dg a 4 = a / 256 / 256 / 256 / 256 % 256 ∧
    Pl.dg a 5 = a / 256 / 256 / 256 / 256 / 256 % 256 ∧ Pl.dg a 6 = a / 256 / 256 / 256 / 256 / 256 / 256 % 256 ∧ Pl.dg a 7 = a / 256 / 256 / 256 / 256 / 256 / 256 / 256 % 256 := by
  unfold Pl.dg; omega

/-- eight digits as the program's array of them -/
def arr8 (d : Nat → Int) : Value := .agg #[.int .i64 (d 0), .int .i64 (d 1), .int .i64 (d 2), .int .i64 (d 3), .int .i64 (d 4), .int .i64 (d 5), .int .i64 (d 6), .int .i64 (d 7)]

set_option maxHeartbeats 1000000 in
theorem digits_any (a : Int) (h0 : 0 ≤ a) (h1 : a ≤ 18446744073709551615) (w : World) :
    Calls Try.prog 66 #[.int .u64 a] w fun e w' =>
      e = .returned (.agg #[.int .i64 (Pl.dg a 0), .int .i64 (Pl.dg a 1), .int .i64 (Pl.dg a 2), .int .i64 (Pl.dg a 3), .int .i64 (Pl.dg a 4), .int .i64 (Pl.dg a 5), .int .i64 (Pl.dg a 6), .int .i64 (Pl.dg a 7)]) ∧ Below w.heap.size w w' := by
  obtain ⟨e0, e1, e2, e3, e4, e5, e6, e7⟩ := dgs a
  rw [e0, e1, e2, e3, e4, e5, e6, e7]
  clear e0 e1 e2 e3 e4 e5 e6 e7
  go_enter Try.func66, Try.ntmps66
  go_wp2
  go_rounds 9
  go_returns
  exact ⟨rfl, by go_grown⟩

set_option maxHeartbeats 1000000 in
theorem number_any (d : Nat → Int) (h0 : ∀ i, 0 ≤ d i) (h1 : ∀ i, d i ≤ 10000000) (w : World) :
    Calls Try.prog 67 #[.agg #[.int .i64 (d 0), .int .i64 (d 1), .int .i64 (d 2), .int .i64 (d 3), .int .i64 (d 4), .int .i64 (d 5), .int .i64 (d 6), .int .i64 (d 7)]] w fun e w' =>
      e = .returned (.int .u64 (IntKind.u64.wrap (Pl.val d 8))) ∧ Below w.heap.size w w' := by
  have hcell : ∀ k, k < 8 → (w.alloc (.cells #[.int .i64 (d 0), .int .i64 (d 1), .int .i64 (d 2), .int .i64 (d 3), .int .i64 (d 4), .int .i64 (d 5), .int .i64 (d 6), .int .i64 (d 7)] 91)).cell? ⟨w.heap.size, k, none⟩ = some (.int .i64 (d k)) := by
    intro k hk
    rw [cell_of_row _ _ _ _ _ _ (heap_alloc_new w _)]
    rcases (show k = 0 ∨ k = 1 ∨ k = 2 ∨ k = 3 ∨ k = 4 ∨ k = 5 ∨ k = 6 ∨ k = 7 from by omega) with rfl | rfl | rfl | rfl | rfl | rfl | rfl | rfl <;> rfl
  have HC := hid hcell
  clear hcell
  go_enter Try.func67, Try.ntmps67
  go_wp2
  go_loop [3, 4, 5, 6] (fun n by' c i => ∃ (k : Nat) (q : Int), k ≤ 8 ∧ 0 ≤ q ∧ q ≤ 10000000 ∧ i = .int .i64 k ∧ c = .int .i64 q ∧ by' = .int .u64 (IntKind.u64.wrap (256 ^ k)) ∧ n = .int .u64 (IntKind.u64.wrap (Pl.val d k - q * 256 ^ k)))
    (fun _ _ _ i => 8 - (intOf i).toNat)
  case atStart => exact ⟨0, 0, by omega, by omega, by omega, rfl, rfl, rfl, by simp [Pl.val, Pl.sm]; rfl⟩
  case round =>
    obtain ⟨k, q, hk, hq0, hq1, rfl, rfl, rfl, rfl⟩ := hrel
    by_cases hlt : k < 8
    · have hc := HC.out k hlt
      have g0 := h0 k
      have g1 := h1 k
      have hs := hid (Pl.number_step d k q)
      generalize hd : d k = dk at *
      generalize hp : IntKind.u64.wrap (256 ^ k) = p at *
      generalize hn : IntKind.u64.wrap (Pl.val d k - q * 256 ^ k) = n at *
      have Hd := hid hd
      have Hp := hid hp
      have Hn := hid hn
      clear hd hp hn h0 h1
      go_wp2
      go_round
      case rel =>
        refine ⟨k + 1, (q + dk) / 256, by omega, by omega, by omega, by go_num, rfl, ?_, ?_⟩
        · rw [← Hp.out, Pl.uw_mull, Int.pow_succ]
        · rw [← Hp.out, ← Hn.out, ← hs.out]; simp only [Pl.uw_addl, Pl.uw_addr, Pl.uw_mulr]
      case measure => simp [intOf]; omega
    · obtain rfl : k = 8 := by omega
      go_wp2
      go_ret
      exact ⟨ret_int (Pl.uw_eq (k := -q) (by omega)), by go_grown⟩
end Go.Proofs.Ytnpgiallgcliiaa
