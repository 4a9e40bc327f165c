/- Contracts of ring.Sub, Pow, Twos, Inverse, Dot and of math/bits.TrailingZeros64: what each computes; the world stays. -/
import Derived.Test.YtebmnfmdebeoiaaDoorRg
import Derived.Test.YtebmnfmdebeoiaaDoorPlain2
import Derived.Test.YtebmnfmdebeoiaaDoorPlain3
import Derived.Shelf.Spec.TrailingZeros
namespace Go.Proofs.YtebmnfmdebeoiaaDoor
open Go.ChangeShapes Go.WideShapes Go.ChangeAt Go.RowKit
set_option linter.unusedVariables false

theorem rsub_any (a b : Int) (w : World) :
    Calls Tryd.prog 21 #[.int .u64 a, .int .u64 b] w fun e w' => e = .returned (.int .u64 (IntKind.u64.wrap (a - b))) ∧ w = w' := by
  go_enter Tryd.func21, Tryd.ntmps21
  go_wp2
  go_ret
  exact ⟨ret_int rfl, rfl⟩

theorem pow_odd (q x y : Int) (h0 : 0 ≤ y) (h : y % 2 = 1) : IntKind.u64.wrap (IntKind.u64.wrap (q * x) * IntKind.u64.wrap (x * x) ^ (y / 2).toNat) = IntKind.u64.wrap (q * x ^ y.toNat) := by
  rw [Pl.uw_mull, ← Pl.uw_mulr, Pl.uw_powl, Pl.uw_mulr, show y.toNat = 2 * (y / 2).toNat + 1 from by omega, Int.pow_succ, Pl.sq_pow]
  congr 1; grind
theorem pow_even (q x y : Int) (h0 : 0 ≤ y) (h : y % 2 = 0) : IntKind.u64.wrap (q * IntKind.u64.wrap (x * x) ^ (y / 2).toNat) = IntKind.u64.wrap (q * x ^ y.toNat) := by
  rw [← Pl.uw_mulr, Pl.uw_powl, Pl.uw_mulr, show y.toNat = 2 * (y / 2).toNat from by omega, Pl.sq_pow]

theorem and_one (n : Int) (h0 : 0 ≤ n) (h1 : n ≤ 18446744073709551615) : bits BinOp.and IntKind.u64 n 1 = n % 2 := by
  obtain ⟨m, rfl⟩ : ∃ m : Nat, n = m := ⟨n.toNat, by omega⟩
  have := bits_and_u64_nat m 1 (by omega) (by omega)
  rw [show ((1 : Nat) : Int) = 1 from rfl] at this
  rw [this, Nat.and_one_is_mod]; omega

set_option maxHeartbeats 1000000 in
theorem rpow1_any (a n : Int) (w : World) (ha0 : 0 ≤ a) (ha1 : a ≤ 18446744073709551615) (hn0 : 0 ≤ n) (hn1 : n ≤ 18446744073709551615) :
    Calls Tryd.prog 14 #[.int .u64 a, .int .u64 n] w fun e w' => e = .returned (.int .u64 (IntKind.u64.wrap (a ^ n.toNat))) ∧ w = w' := by
  go_enter Tryd.func14, Tryd.ntmps14
  go_wp2
  go_loop [0, 1, 5] (fun s i p => ∃ x y q : Int, 0 ≤ y ∧ y ≤ 18446744073709551615 ∧ 0 ≤ q ∧ q ≤ 18446744073709551615 ∧ Hid (IntKind.u64.wrap (q * x ^ y.toNat) = IntKind.u64.wrap (a ^ n.toNat)) ∧ s = .int .u64 x ∧ i = .int .u64 y ∧ p = .int .u64 q) (fun _ i _ => (intOf i).toNat)
  case atStart => exact ⟨a, n, 1, by omega, by omega, by omega, by omega, by rw [Hid, Int.one_mul], rfl, rfl, rfl⟩
  case round =>
    obtain ⟨x, y, q, hy0, hy1, hq0, hq1, HQ, rfl, rfl, rfl⟩ := hrel
    have hand := and_one y hy0 hy1
    by_cases hy : 0 < y
    · have u0 := Pl.uw_nn (q * x)
      have u1 := Pl.uw_le (q * x)
      by_cases ho : y % 2 = 1
      · have HO := hid (pow_odd q x y hy0 ho)
        have ho' : (y % 2 == 1) = true := by simpa using ho
        clear ho
        go_wp2
        go_round
        case rel => exact ⟨_, y / 2, _, by omega, by omega, u0, u1, HO.out.trans HQ.out, rfl, rfl, rfl⟩
        case measure => simp [intOf]; omega
      · have HO := hid (pow_even q x y hy0 (by omega))
        have ho' : (y % 2 == 1) = false := by simp; omega
        clear ho
        go_wp2
        go_round
        case rel => exact ⟨_, y / 2, _, by omega, by omega, hq0, hq1, HO.out.trans HQ.out, rfl, rfl, rfl⟩
        case measure => simp [intOf]; omega
    · obtain rfl : y = 0 := by omega
      have hR := hid HQ.out
      go_wp2
      go_ret
      refine ⟨ret_int ?_, rfl⟩
      rw [← hR.out, show (0 : Int).toNat = 0 from rfl, Int.pow_zero, Int.mul_one, Pl.uw_id hq0 hq1]

/-- the library's table in its variable -/
def Tab (w : World) : Prop := TabAt 0 Lib.deBruijn64tab w
theorem Tab.of {w w' : World} (h : Tab w) (hb : ∀ j, w'.cell? ⟨0, j, none⟩ = w.cell? ⟨0, j, none⟩) : Tab w' := fun j hj => (hb j).trans (h j hj)
theorem Tab.lt {w : World} (h : Tab w) : 0 < w.heap.size := World.block_lt_of_cell? w _ (h 0 (by decide))
theorem Tab.on {w w' : World} (h : Tab w) (hb : KW w w') : Tab w' := h.of fun j => Below.cell hb (p := ⟨_, j, none⟩) h.lt
theorem Tab.alloc {w : World} (h : Tab w) (o : Obj) : Tab (w.alloc o) := h.on ((KW.refl w).alloc o)

set_option maxHeartbeats 1000000 in
theorem tz_core (x k idx : Nat) (w : World) (hx0 : ((x : Int) == 0) = false)
    (key : IntKind.u64.wrap (bits BinOp.and IntKind.u64 (x : Int) (IntKind.u64.wrap (-(x : Int))) * 285870213051353865) / 288230376151711744 = (idx : Int))
    (hi : idx < 64) (hk : k < 64) (hcell : w.cell? ⟨0, idx, none⟩ = some (.int .u8 k)) :
    Calls Tryd.prog 32 #[.int .u64 x] w fun e w' => e = .returned (.int .i64 k) ∧ w = w' := by
  go_enter Tryd.func32, Tryd.ntmps32
  go_wp2_with (simp only [key])
  go_ret
  exact ⟨rfl, rfl⟩
theorem tz_zero (w : World) : Calls Tryd.prog 32 #[.int .u64 0] w fun e w' => e = .returned (.int .i64 64) ∧ w = w' := by
  go_enter Tryd.func32, Tryd.ntmps32
  go_wp2
  go_ret
  exact ⟨rfl, rfl⟩
theorem tz_any (a : Int) (w : World) (h0 : 0 ≤ a) (h1 : a ≤ 18446744073709551615) (hT : Tab w) :
    Calls Tryd.prog 32 #[.int .u64 a] w fun e w' => e = .returned (.int .i64 (Pl.tw a)) ∧ w = w' := by
  obtain ⟨x, rfl⟩ : ∃ x : Nat, a = x := ⟨a.toNat, by omega⟩
  have hx : x < 18446744073709551616 := by omega
  show Calls _ _ _ _ fun e w' => e = .returned (.int .i64 ((Lib.ctz 64 (x : Int).toNat : Nat) : Int)) ∧ w = w'
  rw [Int.toNat_natCast]
  by_cases hx0 : x = 0
  · subst hx0
    exact tz_zero w
  · obtain ⟨hlow, hk⟩ := Lib.lowest_bit 64 x hx0 hx
    obtain ⟨hi, htab⟩ := Lib.deBruijn64_at _ hk
    have hc := hT _ (by simpa [Lib.deBruijn64tab] using hi)
    rw [htab] at hc
    exact tz_core x _ _ w (by simpa using hx0) (tz64_key x _ hx hx0 hlow) hi hk hc

theorem rtwos_any (a : Int) (w : World) (h0 : 0 ≤ a) (h1 : a ≤ 18446744073709551615) (hT : Tab w) :
    Calls Tryd.prog 16 #[.int .u64 a] w fun e w' => e = .returned (.int .i64 (Pl.tw a)) ∧ w = w' := by
  go_enter Tryd.func16, Tryd.ntmps16
  go_wp2_with (go_at_call 32; refine (tz_any a _ h0 h1 hT).mono ?_; rintro e w' ⟨rfl, rfl⟩)
  go_ret
  exact ⟨rfl, rfl⟩

theorem rinv_even (a : Int) (w : World) (h0 : 0 ≤ a) (h1 : a ≤ 18446744073709551615) (he : a % 2 = 0) :
    Calls Tryd.prog 12 #[.int .u64 a] w fun e w' => e = .returned (.tuple #[.int .u64 0, .bool false]) ∧ w = w' := by
  have hand := and_one a h0 h1
  have he' : (a % 2 == 0) = true := by simpa using he
  clear he
  go_enter Tryd.func12, Tryd.ntmps12
  go_wp2
  go_ret2
  exact ⟨rfl, rfl⟩
set_option maxHeartbeats 1000000 in
theorem rinv_odd (a : Int) (w : World) (h0 : 0 ≤ a) (h1 : a ≤ 18446744073709551615) (he : a % 2 = 1) :
    Calls Tryd.prog 12 #[.int .u64 a] w fun e w' => e = .returned (.tuple #[.int .u64 (Pl.inv a), .bool true]) ∧ w = w' := by
  have hand := and_one a h0 h1
  have he' : (a % 2 == 0) = false := by simp; omega
  clear he
  go_enter Tryd.func12, Tryd.ntmps12
  go_wp2
  go_loop [4, 9] (fun x i => ∃ k : Nat, k ≤ 5 ∧ i = .int .i64 k ∧ x = .int .u64 (Pl.nwt a k)) (fun _ i => 5 - (intOf i).toNat)
  case atStart => exact ⟨0, by omega, rfl, rfl⟩
  case round =>
    obtain ⟨k, hk, rfl, rfl⟩ := hrel
    by_cases hlt : k < 5
    · have Hst := hid (show Pl.nwt a (k + 1) = IntKind.u64.wrap (Pl.nwt a k * IntKind.u64.wrap (2 - IntKind.u64.wrap (a * Pl.nwt a k))) from rfl)
      generalize Pl.nwt a k = x at *
      go_wp2
      go_round
      case rel => exact ⟨k + 1, by omega, by go_num, by rw [Hst.out]⟩
      case measure => simp [intOf]; omega
    · obtain rfl : k = 5 := by omega
      go_wp2
      go_ret2
      exact ⟨rfl, rfl⟩

theorem rdot_unlike (A B : Option Addr) (n m c d : Nat) (w : World) (hn : n ≤ 9223372036854775807) (hm : m ≤ 9223372036854775807) (h : n ≠ m) :
    Calls Tryd.prog 27 #[.slice A n c, .slice B m d] w fun e w' => e = .returned (.tuple #[.int .u64 0, .int .i64 2]) ∧ w = w' := by
  have hd : ((n : Int) != (m : Int)) = true := by simp; omega
  clear h
  go_enter Tryd.func27, Tryd.ntmps27
  go_wp2
  go_ret2
  exact ⟨rfl, rfl⟩
set_option maxHeartbeats 1000000 in
theorem rdot_any (A B : Option Addr) (n c d : Nat) (f g : Nat → Int) (w : World) (hn : n ≤ 9223372036854775807) (hr : Row1 w A n fun k => .int .u64 (f k)) (hs : Row1 w B n fun k => .int .u64 (g k)) :
    Calls Tryd.prog 27 #[.slice A n c, .slice B n d] w fun e w' => e = .returned (.tuple #[.int .u64 (IntKind.u64.wrap (Pl.sm (fun k => f k * g k) n)), .int .i64 0]) ∧ w = w' := by
  have HR := hid hr
  have HS := hid hs
  clear hr hs
  go_enter Tryd.func27, Tryd.ntmps27
  go_wp2
  go_loop [6, 7, 8, 16] (fun s _ _ i => ∃ k : Nat, k ≤ n ∧ i = .int .i64 k ∧ s = .int .u64 (IntKind.u64.wrap (Pl.sm (fun k => f k * g k) k))) (fun _ _ _ i => n - (intOf i).toNat)
  case atStart => exact ⟨0, by omega, rfl, rfl⟩
  case round =>
    obtain ⟨k, hk, rfl, rfl⟩ := hrel
    by_cases hlt : k < n
    · obtain ⟨b, off, rfl, hb, hc⟩ := HR.out.at_ hlt
      obtain ⟨b2, off2, rfl, hb2, hc2⟩ := HS.out.at_ hlt
      have Hst := hid (show Pl.sm (fun k => f k * g k) (k + 1) = Pl.sm (fun k => f k * g k) k + f k * g k from rfl)
      generalize hs : IntKind.u64.wrap (Pl.sm (fun k => f k * g k) k) = s at *
      generalize hx : f k = x at *
      generalize hy : g k = y at *
      have Hs := hid hs
      clear hs hx hy
      go_wp2
      go_round
      case rel =>
        refine ⟨k + 1, by omega, by go_num, ?_⟩
        rw [Hst.out, ← Hs.out, Pl.uw_addl, Pl.uw_addr]
      case measure => simp [intOf]; omega
    · obtain rfl : k = n := by omega
      go_wp2
      go_ret2
      exact ⟨rfl, rfl⟩
end Go.Proofs.YtebmnfmdebeoiaaDoor
