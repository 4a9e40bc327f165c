/- Contracts of choose.Mul and of the reference's Add, Mul. -/
import Derived.Test.YtnpgiallgcliiaaC3
namespace Go.Proofs.Ytnpgiallgcliiaa
open Go.ChangeShapes Go.WideShapes Go.ChangeAt Go.RowKit
set_option linter.unusedVariables false

set_option maxHeartbeats 1000000 in
theorem radd_any (A : Option Addr) (n c : Nat) (f : Nat → Int) (w : World) (hn : n ≤ 9223372036854775807) (hf : ∀ k, k < n → -9223372036854775808 ≤ f k ∧ f k ≤ 9223372036854775807) (hr : Row1 w A n fun k => .int .i64 (f k)) :
    Calls Try.prog 29 #[.slice A n c] w fun e w' => e = .returned (.int .i64 (min (Ch.hs f n) 1099511627776)) ∧ w = w' := by
  have HR := hid hr
  have HF := hid hf
  clear hr hf
  go_enter Try.func29, Try.ntmps29
  go_wp2
  go_loop [3, 4] (fun s i => ∃ k : Nat, k ≤ n ∧ i = .int .i64 k ∧ s = .int .i64 (min (Ch.hs f k) 1099511627776)) (fun _ i => n - (intOf i).toNat)
  case atStart => exact ⟨0, by omega, rfl, rfl⟩
  case round =>
    obtain ⟨k, hk, rfl, rfl⟩ := hrel
    by_cases hlt : k < n
    · obtain ⟨b, off, rfl, hb, hc⟩ := HR.out.at_ hlt
      obtain ⟨y0, y1⟩ := HF.out k hlt
      have Hst := hid (Ch.hs_step f k)
      have p0 := Ch.hs_nn f k
      have p1 : min (Ch.hs f k) 1099511627776 ≤ 1099511627776 := Int.min_le_right _ _
      have p2 : 0 ≤ min (Ch.hs f k) 1099511627776 := by omega
      have q0 := Ch.held_nn (f k)
      have q1 := Ch.held_le (f k)
      clear p0
      generalize min (Ch.hs f k) 1099511627776 = s at *
      generalize f k = x at *
      have HX := hid (fun W => rheld_any x W y0 y1)
      generalize Ch.held x = h at *
      go_wp2_with fail
      refine (HX.out _).mono ?_
      rintro e w1 ⟨rfl, rfl⟩
      go_wp2_with fail
      refine (rheld_any _ _ (by omega) (by omega)).mono ?_
      rintro e w1 ⟨rfl, rfl⟩
      go_wp2_with fail
      go_round
      case rel => exact ⟨k + 1, by omega, by go_num, by rw [Hst.out]⟩
      case measure => simp [intOf]; omega
    · obtain rfl : k = n := by omega
      go_wp2
      go_ret
      exact ⟨rfl, rfl⟩

theorem mul_step (p h : Int) (h0 : 0 ≤ p) (h1 : 0 ≤ h) : min (min p 1099511627776 * h / 1) 1099511627776 = min (p * h) 1099511627776 := by
  rw [Int.ediv_one]; exact Ch.min_mul h0 h1
set_option maxHeartbeats 1000000 in
theorem cmul_any (A : Option Addr) (n c : Nat) (f : Nat → Int) (w : World) (hn : n ≤ 9223372036854775807) (hf : ∀ k, k < n → -9223372036854775808 ≤ f k ∧ f k ≤ 9223372036854775807) (hr : Row1 w A n fun k => .int .i64 (f k)) :
    Calls Try.prog 30 #[.slice A n c] w fun e w' => e = .returned (.int .i64 (min (Ch.hp f n) 1099511627776)) ∧ KW w w' := by
  have HR := hid hr
  have HF := hid hf
  clear hr hf
  go_enter Try.func30, Try.ntmps30
  go_wp2
  go_loopw [3, 5, 8] (fun s _ i wr => ∃ k : Nat, k ≤ n ∧ i = .int .i64 k ∧ s = .int .i64 (min (Ch.hp f k) 1099511627776) ∧ Hid (KW w wr)) (fun _ _ i _ => n - (intOf i).toNat)
  case atStart => exact ⟨0, by omega, rfl, rfl, KW.refl w⟩
  case round =>
    obtain ⟨k, hk, rfl, rfl, HK⟩ := hrel
    by_cases hlt : k < n
    · obtain ⟨b, off, rfl, hb, hc⟩ := (HR.out.k HK.out).at_ hlt
      obtain ⟨y0, y1⟩ := HF.out k hlt
      have p0 := Ch.hp_nn f k
      have Hst := hid (mul_step (Ch.hp f k) (Ch.held (f k)) p0 (Ch.held_nn _))
      have Hsx := hid (show Ch.hp f (k + 1) = Ch.hp f k * Ch.held (f k) from rfl)
      have p1 : min (Ch.hp f k) 1099511627776 ≤ 1099511627776 := Int.min_le_right _ _
      have p2 : 0 ≤ min (Ch.hp f k) 1099511627776 := by omega
      have q0 := Ch.held_nn (f k)
      have q1 := Ch.held_le (f k)
      have HZ := hid (fun h => Ch.hp_none f hlt h)
      clear p0
      generalize min (Ch.hp f k) 1099511627776 = s at *
      generalize f k = x at *
      have HX := hid (fun W => held_any x W y0 y1)
      by_cases hx : x ≤ 0
      · have HZ1 := hid (HZ.out hx)
        go_wp2_with fail
        go_ret
        exact ⟨ret_int (by rw [HZ1.out]; rfl), HK.out⟩
      · have hx' : ¬ x ≤ 0 := hx
        generalize Ch.held x = h at *
        go_wp2_with fail
        refine (HX.out _).mono ?_
        rintro e w1 ⟨rfl, rfl⟩
        go_wp2_with fail
        refine (times_any s h 1 _ p2 (by omega) q0 (by omega) (by omega) (by omega)).mono ?_
        rw [Hst.out, ← Hsx.out]
        rintro e w1 ⟨rfl, hb⟩
        have HK1 := hid (HK.out.on hb)
        clear hb
        go_wp2_with fail
        go_roundw
        case rel => exact ⟨k + 1, by omega, by go_num, rfl, HK1⟩
        case measure => simp [intOf]; omega
    · obtain rfl : k = n := by omega
      go_wp2
      go_ret
      exact ⟨rfl, HK.out⟩

theorem rmul_step (p h : Int) (h0 : 1 ≤ p) (h1 : 1 ≤ h) (h2 : p ≤ 1099511627776) (hb : ¬ 1099511627776 / h < p) : p * h ≤ 1099511627776 ∧ 1 ≤ p * h := by
  constructor
  · have e := Int.ediv_mul_le 1099511627776 (show h ≠ 0 by omega)
    have : p * h ≤ 1099511627776 / h * h := Int.mul_le_mul_of_nonneg_right (by omega) (by omega)
    omega
  · have : 1 * 1 ≤ p * h := Int.mul_le_mul h0 h1 (by omega) (by omega)
    omega
theorem rmul_over (f : Nat → Int) {k n : Nat} (hk : k < n) (hpos : ∀ j, j < n → 0 < f j) (hb : 1099511627776 / Ch.held (f k) < Ch.hp f k) : 1099511627776 ≤ Ch.hp f n := by
  have h1 : 1 ≤ Ch.held (f k) := by have := hpos k hk; unfold Ch.held; omega
  have h2 : 1099511627776 < Ch.hp f (k + 1) := by
    show _ < Ch.hp f k * Ch.held (f k)
    have e : 1099511627776 < (1099511627776 / Ch.held (f k) + 1) * Ch.held (f k) := Int.lt_ediv_add_one_mul_self _ (by omega)
    have : (1099511627776 / Ch.held (f k) + 1) * Ch.held (f k) ≤ Ch.hp f k * Ch.held (f k) := Int.mul_le_mul_of_nonneg_right (by omega) (by omega)
    omega
  have key : ∀ d, k + 1 + d ≤ n → Ch.hp f (k + 1) ≤ Ch.hp f (k + 1 + d) := by
    intro d
    induction d with
    | zero => intro _; exact Int.le_refl _
    | succ d ih =>
      intro hd
      have h3 := ih (by omega)
      have h4 : 1 ≤ Ch.held (f (k + 1 + d)) := by have := hpos (k + 1 + d) (by omega); unfold Ch.held; omega
      have h5 : Ch.hp f (k + 1 + (d + 1)) = Ch.hp f (k + 1 + d) * Ch.held (f (k + 1 + d)) := rfl
      rw [h5]
      have h6 : Ch.hp f (k + 1 + d) * 1 ≤ Ch.hp f (k + 1 + d) * Ch.held (f (k + 1 + d)) := Int.mul_le_mul_of_nonneg_left h4 (Ch.hp_nn _ _)
      omega
  have := key (n - (k + 1)) (by omega)
  rw [show k + 1 + (n - (k + 1)) = n from by omega] at this
  omega

set_option maxHeartbeats 1000000 in
theorem rmulr_any (A : Option Addr) (n c : Nat) (f : Nat → Int) (w : World) (hn : n ≤ 9223372036854775807) (hf : ∀ k, k < n → -9223372036854775808 ≤ f k ∧ f k ≤ 9223372036854775807) (hr : Row1 w A n fun k => .int .i64 (f k)) :
    Calls Try.prog 31 #[.slice A n c] w fun e w' => e = .returned (.int .i64 (min (Ch.hp f n) 1099511627776)) ∧ w = w' := by
  have HR := hid hr
  have HF := hid hf
  clear hr hf
  go_enter Try.func31, Try.ntmps31
  go_wp2
  go_loop [4] (fun i => ∃ k : Nat, k ≤ n ∧ i = .int .i64 k ∧ Hid (∀ j, j < k → 0 < f j)) (fun i => n - (intOf i).toNat)
  case atStart => exact ⟨0, by omega, rfl, fun j hj => by omega⟩
  case round =>
    obtain ⟨k, hk, rfl, HP⟩ := hrel
    by_cases hlt : k < n
    · obtain ⟨b, off, rfl, hb, hc⟩ := HR.out.at_ hlt
      obtain ⟨y0, y1⟩ := HF.out k hlt
      have HZ := hid (fun h => Ch.hp_none f hlt h)
      have HPn := hid (fun (h : 0 < f k) => show ∀ j, j < k + 1 → 0 < f j from fun j hj => by
        by_cases e : j = k
        · subst e; exact h
        · exact HP.out j (by omega))
      generalize f k = x at *
      have HX := hid (fun W => rheld_any x W y0 y1)
      have hh : Ch.held x = 0 ∨ 0 < x := by unfold Ch.held; omega
      have hh2 : x ≤ 0 ∨ 0 < Ch.held x := by unfold Ch.held; omega
      by_cases hx : x ≤ 0
      · have HZ1 := hid (HZ.out hx)
        have h3 : (Ch.held x == 0) = true := by simp; omega
        generalize Ch.held x = h at *
        go_wp2_with (go_at_call 56; refine (HX.out _).mono ?_; rintro e w1 ⟨rfl, rfl⟩)
        go_ret
        exact ⟨ret_int (by rw [HZ1.out]; rfl), rfl⟩
      · have h3 : (Ch.held x == 0) = false := by simp; omega
        have HPk := hid (HPn.out (by omega))
        generalize Ch.held x = h at *
        go_wp2_with (go_at_call 56; refine (HX.out _).mono ?_; rintro e w1 ⟨rfl, rfl⟩)
        go_round
        case rel => exact ⟨k + 1, by omega, by go_num, HPk⟩
        case measure => simp [intOf]; omega
    · obtain rfl : k = n := by omega
      go_wp2
      go_loop [3, 5, 6] (fun s i _ => ∃ j : Nat, j ≤ k ∧ i = .int .i64 j ∧ s = .int .i64 (Ch.hp f j) ∧ Ch.hp f j ≤ 1099511627776) (fun _ i _ => k - (intOf i).toNat)
      case atStart => exact ⟨0, by omega, rfl, rfl, by show (1 : Int) ≤ _; omega⟩
      case round =>
        obtain ⟨j, hj, rfl, rfl, hle⟩ := hrel
        have hge := Ch.hp_pos f j (fun i hi => HP.out i (by omega))
        by_cases hlt : j < k
        · obtain ⟨b, off, rfl, hb, hc⟩ := HR.out.at_ hlt
          obtain ⟨y0, y1⟩ := HF.out j hlt
          have hpos := HP.out j hlt
          have HO := hid (fun h => rmul_over f hlt HP.out h)
          have hh1 : 1 ≤ Ch.held (f j) := by unfold Ch.held; omega
          have hh2 := Ch.held_le (f j)
          have Hsx := hid (show Ch.hp f (j + 1) = Ch.hp f j * Ch.held (f j) from rfl)
          have HS := hid (rmul_step (Ch.hp f j) (Ch.held (f j)) hge hh1 hle)
          generalize f j = x at *
          have HX := hid (fun W => rheld_any x W y0 y1)
          generalize Ch.hp f j = p at *
          generalize Ch.held x = h at *
          have hd0 : 0 ≤ 1099511627776 / h := Int.ediv_nonneg (by omega) (by omega)
          have hd1 : 1099511627776 / h ≤ 1099511627776 := Int.ediv_le_self _ (by omega)
          have hz : (h == 0) = false := by simp; omega
          by_cases hb : 1099511627776 / h < p
          · have HO1 := hid (HO.out hb)
            go_wp2_with (go_at_call 56; refine (HX.out _).mono ?_; rintro e w1 ⟨rfl, rfl⟩)
            go_ret
            exact ⟨ret_int (by have := HO1.out; omega), rfl⟩
          · obtain ⟨m1, m0⟩ := HS.out hb
            go_wp2_with (go_at_call 56; refine (HX.out _).mono ?_; rintro e w1 ⟨rfl, rfl⟩)
            go_round
            case rel => exact ⟨j + 1, by omega, by go_num, by rw [Hsx.out], by rw [Hsx.out]; exact m1⟩
            case measure => simp [intOf]; omega
        · obtain rfl : j = k := by omega
          go_wp2
          go_ret
          exact ⟨ret_int (by omega), rfl⟩
end Go.Proofs.Ytnpgiallgcliiaa
