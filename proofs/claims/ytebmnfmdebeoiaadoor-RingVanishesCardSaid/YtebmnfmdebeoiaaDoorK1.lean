/- The walks of the laws about the ring: sums, products, powers, inverse. -/
import Derived.Test.YtebmnfmdebeoiaaDoorK0
namespace Go.Proofs.YtebmnfmdebeoiaaDoor
open Go.ChangeShapes Go.WideShapes Go.ChangeAt Go.RowKit
set_option linter.unusedVariables false

set_option maxHeartbeats 1000000 in
theorem sums_walk (A : Option Addr) (n c : Nat) (f : Nat → Int) (a b : Int) (w : World) (hn : n ≤ 9223372036854775807) (hf : ∀ k, k < n → 0 ≤ f k ∧ f k ≤ 18446744073709551615) (hr : Row1 w A n fun k => .int .u64 (f k))
    (ha0 : 0 ≤ a) (ha1 : a ≤ 18446744073709551615) (hb0 : 0 ≤ b) (hb1 : b ≤ 18446744073709551615) (hT : Tab w) :
    Calls Tryd.prog 4 #[.slice A n c, .int .u64 a, .int .u64 b] w fun e w' => e = .returned (.bool true) ∧ KW w w' := by
  have HR := hid hr
  have HF := hid hf
  have HT := hid hT
  have hk := KW.refl w
  have u0 := Pl.uw_nn (-b)
  have u1 := Pl.uw_le (-b)
  have e1 : IntKind.u64.wrap (a + IntKind.u64.wrap (-b)) = IntKind.u64.wrap (a - b) := by rw [Pl.uw_addr]; rfl
  clear hr hf hT
  by_cases hlen : 300 < n
  · have hd : (300 : Int) < (n : Int) := by omega
    go_enter Tryd.func4, Tryd.ntmps4
    go_wp2_with (go_at_call 18; refine (goes_any _ (HT.out.on hk)).mono ?_; rintro e w1 ⟨rfl, hb⟩; replace hk := hk.t hb; clear hb)
    go_ret
    exact ⟨rfl, hk⟩
  · have hd : ¬ (300 : Int) < (n : Int) := by omega
    go_enter Tryd.func4, Tryd.ntmps4
    go_wp2_with (first
      | (go_at_call 19; refine (add_any A n c f _ hn (HR.out.k hk)).mono ?_; rintro e w1 ⟨rfl, rfl⟩)
      | (go_at_call 20; refine (radd_any A n c f _ hn HF.out (HR.out.k hk)).mono ?_; rintro e w1 ⟨rfl, hb⟩; replace hk := hk.t hb; clear hb)
      | (go_at_call 21; refine (rsub_any _ _ _).mono ?_; rintro e w1 ⟨rfl, rfl⟩)
      | (go_at_call 24; refine (rneg_any _ _).mono ?_; rintro e w1 ⟨rfl, rfl⟩)
      | (go_at_call 23; refine (neg_any _ (by assumption) (by assumption) _).mono ?_; rintro e w1 ⟨rfl, hb⟩; replace hk := hk.t hb; clear hb)
      | (go_at_call 22; refine (plus_any _ _ (by assumption) (by assumption) (by assumption) (by assumption) _).mono ?_; rintro e w1 ⟨rfl, hb⟩; replace hk := hk.t hb; clear hb)
      | (go_at_call 18; refine (goes_any _ (HT.out.on hk)).mono ?_; rintro e w1 ⟨rfl, hb⟩; replace hk := hk.t hb; clear hb))
    go_ret
    exact ⟨rfl, hk⟩

set_option maxHeartbeats 1000000 in
theorem products_walk (A : Option Addr) (n c : Nat) (f : Nat → Int) (w : World) (hn : n ≤ 9223372036854775807) (hf : ∀ k, k < n → 0 ≤ f k ∧ f k ≤ 18446744073709551615) (hr : Row1 w A n fun k => .int .u64 (f k)) (hT : Tab w) :
    Calls Tryd.prog 5 #[.slice A n c] w fun e w' => e = .returned (.bool true) ∧ KW w w' := by
  have HR := hid hr
  have HF := hid hf
  have HT := hid hT
  have hk := KW.refl w
  clear hr hf hT
  by_cases hlen : 300 < n
  · have hd : (300 : Int) < (n : Int) := by omega
    go_enter Tryd.func5, Tryd.ntmps5
    go_wp2_with (go_at_call 18; refine (goes_any _ (HT.out.on hk)).mono ?_; rintro e w1 ⟨rfl, hb⟩; replace hk := hk.t hb; clear hb)
    go_ret
    exact ⟨rfl, hk⟩
  · have hd : decide ((300 : Int) < (n : Int)) = false := by simp; omega
    go_enter Tryd.func5, Tryd.ntmps5
    go_wp2_with (first
      | (go_at_call 25; refine (mul_any A n c f _ hn (HR.out.k hk)).mono ?_; rintro e w1 ⟨rfl, rfl⟩)
      | (go_at_call 26; refine (rmulr_any A n c f _ hn HF.out (HR.out.k hk)).mono ?_; rintro e w1 ⟨rfl, hb⟩; replace hk := hk.t hb; clear hb)
      | (go_at_call 18; refine (goes_any _ (HT.out.on hk)).mono ?_; rintro e w1 ⟨rfl, hb⟩; replace hk := hk.t hb; clear hb))
    go_ret
    exact ⟨rfl, hk⟩

set_option maxHeartbeats 1000000 in
theorem powers_walk (a n : Int) (w : World) (ha0 : 0 ≤ a) (ha1 : a ≤ 18446744073709551615) (hn0 : 0 ≤ n) (hn1 : n ≤ 18446744073709551615) (hT : Tab w) :
    Calls Tryd.prog 3 #[.int .u64 a, .int .u64 n] w fun e w' => e = .returned (.bool true) ∧ KW w w' := by
  have HT := hid hT
  have hk := KW.refl w
  clear hT
  by_cases he : a % 2 = 0
  · have HE := hid he
    clear he
    go_enter Tryd.func3, Tryd.ntmps3
    go_wp2_with (first
      | (go_at_call 12; refine (rinv_even a _ ha0 ha1 HE.out).mono ?_; rintro e w1 ⟨rfl, rfl⟩)
      | (go_at_call 13; refine (rinvr_even a _ ha0 ha1 HE.out).mono ?_; rintro e w1 ⟨rfl, hb⟩; replace hk := hk.t hb; clear hb)
      | (go_at_call 14; refine (rpow1_any a n _ ha0 ha1 hn0 hn1).mono ?_; rintro e w1 ⟨rfl, rfl⟩)
      | (go_at_call 15; refine (refpow_any a n _ ha0 ha1 hn0 hn1).mono ?_; rintro e w1 ⟨rfl, hb⟩; replace hk := hk.t hb; clear hb)
      | (go_at_call 16; refine (rtwos_any a _ ha0 ha1 (HT.out.on hk)).mono ?_; rintro e w1 ⟨rfl, rfl⟩)
      | (go_at_call 17; refine (rtwosr_any a _ ha0 ha1).mono ?_; rintro e w1 ⟨rfl, rfl⟩)
      | (go_at_call 18; refine (goes_any _ (HT.out.on hk)).mono ?_; rintro e w1 ⟨rfl, hb⟩; replace hk := hk.t hb; clear hb))
    go_ret
    exact ⟨rfl, hk⟩
  · have HE := hid (show a % 2 = 1 from by omega)
    clear he
    go_enter Tryd.func3, Tryd.ntmps3
    go_wp2_with (first
      | (go_at_call 12; refine (rinv_odd a _ ha0 ha1 HE.out).mono ?_; rintro e w1 ⟨rfl, rfl⟩)
      | (go_at_call 13; refine (rinvr_odd a _ ha0 ha1 HE.out).mono ?_; rintro e w1 ⟨rfl, hb⟩; replace hk := hk.t hb; clear hb)
      | (go_at_call 14; refine (rpow1_any a n _ ha0 ha1 hn0 hn1).mono ?_; rintro e w1 ⟨rfl, rfl⟩)
      | (go_at_call 15; refine (refpow_any a n _ ha0 ha1 hn0 hn1).mono ?_; rintro e w1 ⟨rfl, hb⟩; replace hk := hk.t hb; clear hb)
      | (go_at_call 16; refine (rtwos_any a _ ha0 ha1 (HT.out.on hk)).mono ?_; rintro e w1 ⟨rfl, rfl⟩)
      | (go_at_call 17; refine (rtwosr_any a _ ha0 ha1).mono ?_; rintro e w1 ⟨rfl, rfl⟩)
      | (go_at_call 18; refine (goes_any _ (HT.out.on hk)).mono ?_; rintro e w1 ⟨rfl, hb⟩; replace hk := hk.t hb; clear hb))
    go_ret
    exact ⟨rfl, hk⟩

theorem inv_at {a : Int} (h0 : 0 ≤ a) (h1 : a ≤ 18446744073709551615) (h : a % 2 = 1) : IntKind.u64.wrap (a * Pl.inv a) = 1 ∧ Pl.inv a % 2 = 1 ∧ Pl.inv (Pl.inv a) = a ∧ 0 ≤ Pl.inv a ∧ Pl.inv a ≤ 18446744073709551615 := by
  obtain ⟨g0, g1, g2⟩ := Pl.nwt_odd h
  have ho : Pl.inv a % 2 = 1 := by
    have e := g2
    rw [Pl.uw] at e
    show Pl.nwt a 5 % 2 = 1
    generalize Pl.nwt a 5 = x at *
    have h2 : a * x % 2 = 1 := by omega
    rcases Int.emod_two_eq x with h3 | h3
    · rw [Int.mul_emod, h3] at h2; simp at h2
    · exact h3
  refine ⟨g2, ho, ?_, g0, g1⟩
  refine (Pl.inv_eq ho ⟨h0, h1, ?_⟩).symm
  rw [Int.mul_comm]; exact g2

set_option maxHeartbeats 1000000 in
theorem inverse_walk (a : Int) (w : World) (ha0 : 0 ≤ a) (ha1 : a ≤ 18446744073709551615) (hT : Tab w) :
    Calls Tryd.prog 6 #[.int .u64 a] w fun e w' => e = .returned (.bool true) ∧ KW w w' := by
  have HT := hid hT
  have hk := KW.refl w
  clear hT
  by_cases he : a % 2 = 0
  · have HE := hid he
    have he' : (a % 2 == 0) = true := by simpa using he
    clear he
    go_enter Tryd.func6, Tryd.ntmps6
    go_wp2_with (first
      | (go_at_call 12; refine (rinv_even a _ ha0 ha1 HE.out).mono ?_; rintro e w1 ⟨rfl, rfl⟩)
      | (go_at_call 18; refine (goes_any _ (HT.out.on hk)).mono ?_; rintro e w1 ⟨rfl, hb⟩; replace hk := hk.t hb; clear hb))
    go_ret
    exact ⟨rfl, hk⟩
  · have HE := hid (show a % 2 = 1 from by omega)
    have he' : (a % 2 == 0) = false := by simpa using he
    obtain ⟨e1, ho, e2, g0, g1⟩ := inv_at ha0 ha1 HE.out
    have HC := hid (rinv_odd (Pl.inv a))
    rw [e2] at HC
    have HO := hid ho
    clear he ho e2
    have HI := hid (fun W => rinv_odd a W ha0 ha1 HE.out)
    generalize Pl.inv a = x at *
    go_enter Tryd.func6, Tryd.ntmps6
    go_wp2_with fail
    refine (HI.out _).mono ?_
    rintro e w1 ⟨rfl, rfl⟩
    go_wp2_with fail
    refine (HC.out _ g0 g1 HO.out).mono ?_
    rintro e w1 ⟨rfl, rfl⟩
    go_wp2_with (first
      | (go_at_call 25; refine (mul2 _ _ _ _).mono ?_; rintro e w1 ⟨rfl, hb⟩; replace hk := hk.t hb; clear hb)
      | (go_at_call 18; refine (goes_any _ (HT.out.on hk)).mono ?_; rintro e w1 ⟨rfl, hb⟩; replace hk := hk.t hb; clear hb))
    go_ret
    exact ⟨rfl, hk⟩
end Go.Proofs.YtebmnfmdebeoiaaDoor
