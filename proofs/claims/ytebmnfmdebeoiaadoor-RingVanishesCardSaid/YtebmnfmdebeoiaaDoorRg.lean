/- Contracts of ring.Add, ring.Mul, ring.Horner, ring.Neg: what each computes of whatever numbers; the world stays. -/
import Derived.Test.YtebmnfmdebeoiaaDoorBase
namespace Go.Proofs.YtebmnfmdebeoiaaDoor
open Go.ChangeShapes Go.WideShapes Go.ChangeAt Go.RowKit
set_option linter.unusedVariables false

/-- a slice of n cells, one an element, is what a function tells -/
def Row1 (w : World) (A : Option Addr) (n : Nat) (f : Nat → Value) : Prop :=
  0 < n → ∃ b off, A = some ⟨b, off, none⟩ ∧ b < w.heap.size ∧ ∀ k, k < n → w.cell? ⟨b, off + k, none⟩ = some (f k)
theorem Row1.at_ {w : World} {A : Option Addr} {n : Nat} {f : Nat → Value} (h : Row1 w A n f) {k : Nat} (hk : k < n) : ∃ b off, A = some ⟨b, off, none⟩ ∧ b < w.heap.size ∧ w.cell? ⟨b, off + k, none⟩ = some (f k) := by
  obtain ⟨b, off, hA, hb, hc⟩ := h (by omega)
  exact ⟨b, off, hA, hb, hc k hk⟩
theorem Row1.below {w w' : World} {A : Option Addr} {n : Nat} {f : Nat → Value} (h : Row1 w A n f) (hb : Below w.heap.size w w') : Row1 w' A n f := by
  intro hn
  obtain ⟨b, off, hA, hlt, hc⟩ := h hn
  exact ⟨b, off, hA, Nat.lt_of_lt_of_le hlt hb.size, fun k hk => (hb.cell (p := ⟨b, off + k, none⟩) hlt).trans (hc k hk)⟩

set_option maxHeartbeats 1000000 in
theorem add_any (A : Option Addr) (n c : Nat) (f : Nat → Int) (w : World) (hn : n ≤ 9223372036854775807) (hr : Row1 w A n fun k => .int .u64 (f k)) :
    Calls Tryd.prog 19 #[.slice A n c] w fun e w' => e = .returned (.int .u64 (IntKind.u64.wrap (Pl.sm f n))) ∧ w = w' := by
  have HR := hid hr
  clear hr
  go_enter Tryd.func19, Tryd.ntmps19
  go_wp2
  go_loop [3, 8] (fun s i => ∃ k : Nat, k ≤ n ∧ i = .int .i64 k ∧ s = .int .u64 (IntKind.u64.wrap (Pl.sm f k))) (fun _ i => n - (intOf i).toNat)
  case atStart => exact ⟨0, by omega, rfl, rfl⟩
  case round =>
    obtain ⟨k, hk, rfl, rfl⟩ := hrel
    by_cases hlt : k < n
    · obtain ⟨b, off, rfl, hb, hc⟩ := HR.out.at_ hlt
      generalize hs : IntKind.u64.wrap (Pl.sm f k) = s at *
      generalize hx : f k = x at *
      have Hs := hid hs
      have Hx := hid hx
      clear hs hx
      go_wp2
      go_round
      case rel =>
        refine ⟨k + 1, by omega, by go_num, ?_⟩
        rw [← Hs.out, Pl.uw_addl, ← Hx.out]
        rfl
      case measure => simp [intOf]; omega
    · obtain rfl : k = n := by omega
      go_wp2
      go_ret
      exact ⟨ret_int rfl, rfl⟩

set_option maxHeartbeats 1000000 in
theorem mul_any (A : Option Addr) (n c : Nat) (f : Nat → Int) (w : World) (hn : n ≤ 9223372036854775807) (hr : Row1 w A n fun k => .int .u64 (f k)) :
    Calls Tryd.prog 25 #[.slice A n c] w fun e w' => e = .returned (.int .u64 (IntKind.u64.wrap (Pl.pr f n))) ∧ w = w' := by
  have HR := hid hr
  clear hr
  go_enter Tryd.func25, Tryd.ntmps25
  go_wp2
  go_loop [3, 8] (fun s i => ∃ k : Nat, k ≤ n ∧ i = .int .i64 k ∧ s = .int .u64 (IntKind.u64.wrap (Pl.pr f k))) (fun _ i => n - (intOf i).toNat)
  case atStart => exact ⟨0, by omega, rfl, rfl⟩
  case round =>
    obtain ⟨k, hk, rfl, rfl⟩ := hrel
    by_cases hlt : k < n
    · obtain ⟨b, off, rfl, hb, hc⟩ := HR.out.at_ hlt
      generalize hs : IntKind.u64.wrap (Pl.pr f k) = s at *
      generalize hx : f k = x at *
      have Hs := hid hs
      have Hx := hid hx
      clear hs hx
      go_wp2
      go_round
      case rel =>
        refine ⟨k + 1, by omega, by go_num, ?_⟩
        rw [← Hs.out, Pl.uw_mull, ← Hx.out]
        rfl
      case measure => simp [intOf]; omega
    · obtain rfl : k = n := by omega
      go_wp2
      go_ret
      exact ⟨ret_int rfl, rfl⟩

set_option maxHeartbeats 1000000 in
theorem horner_any (A : Option Addr) (n c : Nat) (f : Nat → Int) (x : Int) (w : World) (hn : n ≤ 9223372036854775807) (hr : Row1 w A n fun k => .int .u64 (f k)) :
    Calls Tryd.prog 29 #[.slice A n c, .int .u64 x] w fun e w' => e = .returned (.int .u64 (IntKind.u64.wrap (Pl.hz f x n))) ∧ w = w' := by
  have HR := hid hr
  clear hr
  go_enter Tryd.func29, Tryd.ntmps29
  go_wp2
  go_loop [5, 6, 9] (fun s j i => ∃ k : Nat, k ≤ n ∧ i = .int .i64 k ∧ s = .int .u64 (IntKind.u64.wrap (Pl.hz (fun t => f (n - k + t)) x k))) (fun _ _ i => n - (intOf i).toNat)
  case atStart => exact ⟨0, by omega, rfl, rfl⟩
  case round =>
    obtain ⟨k, hk, rfl, rfl⟩ := hrel
    by_cases hlt : k < n
    · obtain ⟨b, off, rfl, hb, hc⟩ := HR.out.at_ (show n - 1 - k < n from by omega)
      have Hst := hid (Pl.hz_step (fun t => f (n - (k + 1) + t)) x k)
      generalize hs : IntKind.u64.wrap (Pl.hz (fun t => f (n - k + t)) x k) = s at *
      generalize hx : f (n - 1 - k) = y at *
      have Hs := hid hs
      have Hx := hid hx
      clear hs hx
      go_wp2
      go_round
      case rel =>
        refine ⟨k + 1, by omega, by go_num, ?_⟩
        rw [Hst.out, ← Hs.out]
        have e1 : (fun t => f (n - (k + 1) + (t + 1))) = (fun t => f (n - k + t)) := funext fun t => by rw [show n - (k + 1) + (t + 1) = n - k + t from by omega]
        rw [e1, ← Hx.out, show n - (k + 1) + 0 = n - 1 - k from by omega]
        simp only [Pl.uw_addl]
        rw [← Pl.uw_addl (IntKind.u64.wrap _ * x), Pl.uw_mull, Pl.uw_addl]
      case measure => simp [intOf]; omega
    · obtain rfl : k = n := by omega
      go_wp2
      go_ret
      exact ⟨ret_int (by simp), rfl⟩

theorem rneg_any (a : Int) (w : World) :
    Calls Tryd.prog 24 #[.int .u64 a] w fun e w' => e = .returned (.int .u64 (IntKind.u64.wrap (-a))) ∧ w = w' := by
  go_enter Tryd.func24, Tryd.ntmps24
  go_wp2
  go_ret
  exact ⟨ret_int rfl, rfl⟩
end Go.Proofs.YtebmnfmdebeoiaaDoor
