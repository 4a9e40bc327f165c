/- Contract of the reference's power: backstitchref01.Pow, by the half of it. -/
import Derived.Test.YtebmnfmdebeoiaaDoorR1c
namespace Go.Proofs.YtebmnfmdebeoiaaDoor
open Go.ChangeShapes Go.WideShapes Go.ChangeAt Go.RowKit
set_option linter.unusedVariables false

theorem pow_half {a n : Int} (hn : 0 ≤ n) (hodd : n % 2 = 1) : IntKind.u64.wrap (IntKind.u64.wrap (IntKind.u64.wrap (a ^ (n / 2).toNat) * IntKind.u64.wrap (a ^ (n / 2).toNat)) * a) = IntKind.u64.wrap (a ^ n.toNat) := by
  refine (Pl.uwm ((Pl.uw_uw _).trans (Pl.uwm (Pl.uw_uw _) (Pl.uw_uw _))) rfl).trans ?_
  rw [← Int.pow_add, ← Int.pow_succ, show ((n / 2).toNat + (n / 2).toNat).succ = n.toNat from by omega]
theorem pow_halves {a n : Int} (hn : 0 ≤ n) (heven : n % 2 = 0) : IntKind.u64.wrap (IntKind.u64.wrap (a ^ (n / 2).toNat) * IntKind.u64.wrap (a ^ (n / 2).toNat)) = IntKind.u64.wrap (a ^ n.toNat) := by
  refine (Pl.uwm (Pl.uw_uw _) (Pl.uw_uw _)).trans ?_
  rw [← Int.pow_add, show (n / 2).toNat + (n / 2).toNat = n.toNat from by omega]

set_option maxHeartbeats 2000000 in
theorem refpow_upto (K : Nat) : ∀ (a n : Int) (w : World), 0 ≤ a → a ≤ 18446744073709551615 → 0 ≤ n → n ≤ 18446744073709551615 → n ≤ K →
    Calls Tryd.prog 15 #[.int .u64 a, .int .u64 n] w fun e w' =>
      e = .returned (.int .u64 (IntKind.u64.wrap (a ^ n.toNat))) ∧ Below w.heap.size w w' := by
  induction K with
  | zero =>
    intro a n w h0 h1 g0 g1 hk
    obtain rfl : n = 0 := by omega
    go_enter Tryd.func15, Tryd.ntmps15
    go_wp2
    go_ret
    exact ⟨ret_int (by simp; rfl), Below.refl _ _⟩
  | succ K ih =>
    intro a n w h0 h1 g0 g1 hk
    by_cases hn : n = 0
    · subst hn
      exact (ih a 0 w h0 h1 g0 g1 (by omega))
    · have IH := hid (ih a (n / 2))
      clear ih
      have hz : (n == 0) = false := by simpa using hn
      have hu0 := Pl.uw_nn (a ^ (n / 2).toNat)
      have hu1 := Pl.uw_le (a ^ (n / 2).toNat)
      have hv0 := Pl.uw_nn (IntKind.u64.wrap (a ^ (n / 2).toNat) * IntKind.u64.wrap (a ^ (n / 2).toNat))
      have hv1 := Pl.uw_le (IntKind.u64.wrap (a ^ (n / 2).toNat) * IntKind.u64.wrap (a ^ (n / 2).toNat))
      by_cases ho : n % 2 = 1
      · have Hfin := hid (pow_half (a := a) g0 ho)
        have ho' : (n % 2 == 1) = true := by simpa using ho
        generalize IntKind.u64.wrap (a ^ (n / 2).toNat) = h at *
        generalize hq : IntKind.u64.wrap (h * h) = q at *
        have Hq := hid hq
        clear hq ho hn
        go_enter Tryd.func15, Tryd.ntmps15
        go_wp2_with fail
        refine (IH.out _ h0 h1 (by omega) (by omega) (by omega)).mono ?_
        rintro e w1 ⟨rfl, hb1⟩
        go_wp2_with fail
        refine (times_any h h hu0 hu1 hu0 hu1 _).mono ?_
        rintro e w2 ⟨rfl, hb2⟩
        rw [Hq.out]
        go_wp2_with fail
        refine (times_any q a hv0 hv1 h0 h1 _).mono ?_
        rintro e w3 ⟨rfl, hb3⟩
        go_wp2
        go_ret
        exact ⟨ret_int Hfin.out, (hb1.trans (hb2.mono hb1.size)).trans (hb3.mono (Nat.le_trans hb1.size hb2.size))⟩
      · have ho2 : n % 2 = 0 := by omega
        have Hfin := hid (pow_halves (a := a) g0 ho2)
        have ho' : (n % 2 == 1) = false := by simp; omega
        generalize IntKind.u64.wrap (a ^ (n / 2).toNat) = h at *
        generalize hq : IntKind.u64.wrap (h * h) = q at *
        have Hq := hid hq
        clear hq ho hn ho2
        go_enter Tryd.func15, Tryd.ntmps15
        go_wp2_with fail
        refine (IH.out _ h0 h1 (by omega) (by omega) (by omega)).mono ?_
        rintro e w1 ⟨rfl, hb1⟩
        go_wp2_with fail
        refine (times_any h h hu0 hu1 hu0 hu1 _).mono ?_
        rintro e w2 ⟨rfl, hb2⟩
        rw [Hq.out]
        go_wp2_with fail
        go_ret
        exact ⟨ret_int (Hfin.out.symm ▸ rfl), hb1.trans (hb2.mono hb1.size)⟩

theorem refpow_any (a n : Int) (w : World) (h0 : 0 ≤ a) (h1 : a ≤ 18446744073709551615) (g0 : 0 ≤ n) (g1 : n ≤ 18446744073709551615) :
    Calls Tryd.prog 15 #[.int .u64 a, .int .u64 n] w fun e w' =>
      e = .returned (.int .u64 (IntKind.u64.wrap (a ^ n.toNat))) ∧ Below w.heap.size w w' := refpow_upto n.toNat a n w h0 h1 g0 g1 (by omega)
end Go.Proofs.YtebmnfmdebeoiaaDoor
