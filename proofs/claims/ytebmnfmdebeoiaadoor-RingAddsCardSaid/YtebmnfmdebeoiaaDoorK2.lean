/- The walks of the laws about the ring: what vanishes, powers of a sum, the laws of a ring, rows. -/
import Derived.Test.YtebmnfmdebeoiaaDoorK1
namespace Go.Proofs.YtebmnfmdebeoiaaDoor
open Go.ChangeShapes Go.WideShapes Go.ChangeAt Go.RowKit
set_option linter.unusedVariables false

theorem pow_sum (a n m : Int) (hn : 0 ≤ n) (hm : 0 ≤ m) : IntKind.u64.wrap (IntKind.u64.wrap (a ^ n.toNat) * IntKind.u64.wrap (a ^ m.toNat)) = IntKind.u64.wrap (a ^ (n + m).toNat) := by
  rw [Pl.uw_mull, Pl.uw_mulr, ← Int.pow_add, show n.toNat + m.toNat = (n + m).toNat from by omega]

set_option maxHeartbeats 1000000 in
theorem adds_walk (a n m : Int) (w : World) (ha0 : 0 ≤ a) (ha1 : a ≤ 18446744073709551615) (hn0 : 0 ≤ n) (hn1 : n ≤ 4294967295) (hm0 : 0 ≤ m) (hm1 : m ≤ 4294967295) (hT : Tab w) :
    Calls Tryd.prog 8 #[.int .u64 a, .int .u32 n, .int .u32 m] w fun e w' => e = .returned (.bool true) ∧ KW w w' := by
  have HT := hid hT
  have hk := KW.refl w
  have H0 := hid (fun W => rpow1_any a 0 W ha0 ha1 (by omega) (by omega))
  have H1 := hid (fun W => rpow1_any a 1 W ha0 ha1 (by omega) (by omega))
  rw [show (0 : Int).toNat = 0 from rfl, Int.pow_zero, show IntKind.u64.wrap 1 = 1 from rfl] at H0
  rw [show (1 : Int).toNat = 1 from rfl, Int.pow_one, Pl.uw_id ha0 ha1] at H1
  have HS := hid (fun W => rpow1_any a (n + m) W ha0 ha1 (by omega) (by omega))
  have HN := hid (fun W => rpow1_any a n W ha0 ha1 (by omega) (by omega))
  have HM := hid (fun W => rpow1_any a m W ha0 ha1 (by omega) (by omega))
  have e1 := pow_sum a n m hn0 hm0
  generalize IntKind.u64.wrap (a ^ (n + m).toNat) = s at *
  generalize IntKind.u64.wrap (a ^ n.toNat) = x at *
  generalize IntKind.u64.wrap (a ^ m.toNat) = y at *
  clear hT
  go_enter Tryd.func8, Tryd.ntmps8
  go_wp2_with fail
  refine (HS.out _).mono ?_
  rintro e w1 ⟨rfl, rfl⟩
  go_wp2_with fail
  refine (HN.out _).mono ?_
  rintro e w1 ⟨rfl, rfl⟩
  go_wp2_with fail
  refine (HM.out _).mono ?_
  rintro e w1 ⟨rfl, rfl⟩
  go_wp2_with (go_at_call 25; refine (mul2 _ _ _ _).mono ?_; rintro e w1 ⟨rfl, hb⟩; replace hk := hk.t hb; clear hb)
  refine (H0.out _).mono ?_
  rintro e w1 ⟨rfl, rfl⟩
  go_wp2_with fail
  refine (H1.out _).mono ?_
  rintro e w1 ⟨rfl, rfl⟩
  go_wp2_with (go_at_call 18; refine (goes_any _ (HT.out.on hk)).mono ?_; rintro e w1 ⟨rfl, hb⟩; replace hk := hk.t hb; clear hb)
  go_ret
  exact ⟨rfl, hk⟩

theorem ring_eqs (a b c : Int) (h0 : 0 ≤ a) (h1 : a ≤ 18446744073709551615) :
    IntKind.u64.wrap (b + a) = IntKind.u64.wrap (a + b) ∧ IntKind.u64.wrap (b * a) = IntKind.u64.wrap (a * b) ∧
    IntKind.u64.wrap (a + IntKind.u64.wrap (b + c)) = IntKind.u64.wrap (IntKind.u64.wrap (a + b) + c) ∧ IntKind.u64.wrap (a * IntKind.u64.wrap (b * c)) = IntKind.u64.wrap (IntKind.u64.wrap (a * b) * c) ∧
    IntKind.u64.wrap (IntKind.u64.wrap (a * b) + IntKind.u64.wrap (a * c)) = IntKind.u64.wrap (a * IntKind.u64.wrap (b + c)) ∧
    IntKind.u64.wrap (IntKind.u64.wrap (a - b) + b) = a ∧ IntKind.u64.wrap (a + IntKind.u64.wrap (-a)) = 0 ∧ IntKind.u64.wrap 0 = 0 := by
  refine ⟨by rw [Int.add_comm], by rw [Int.mul_comm], by rw [Pl.uw_addl, Pl.uw_addr, Int.add_assoc], by rw [Pl.uw_mull, Pl.uw_mulr, Int.mul_assoc], by rw [Pl.uw_addl, Pl.uw_addr, Pl.uw_mulr, Int.mul_add], ?_, ?_, rfl⟩
  · rw [Pl.uw_addl, Int.sub_add_cancel, Pl.uw_id h0 h1]
  · rw [Pl.uw_addr, Int.add_right_neg]; rfl

set_option maxHeartbeats 2000000 in
theorem laws_walk (a b c : Int) (w : World) (ha0 : 0 ≤ a) (ha1 : a ≤ 18446744073709551615) (hb0 : 0 ≤ b) (hb1 : b ≤ 18446744073709551615) (hc0 : 0 ≤ c) (hc1 : c ≤ 18446744073709551615) (hT : Tab w) :
    Calls Tryd.prog 9 #[.int .u64 a, .int .u64 b, .int .u64 c] w fun e w' => e = .returned (.bool true) ∧ KW w w' := by
  have HT := hid hT
  have hk := KW.refl w
  obtain ⟨e1, e2, e3, e4, e5, e6, e7, e8⟩ := ring_eqs a b c ha0 ha1
  clear hT
  go_enter Tryd.func9, Tryd.ntmps9
  go_wp2_with (first
    | (go_at_call 19; first
        | ((with_reducible refine (add2 _ _ _ _).mono ?_); rintro e w1 ⟨rfl, hb⟩; replace hk := hk.t hb; clear hb)
        | ((with_reducible refine (add1 _ _ _ ha0 ha1).mono ?_); rintro e w1 ⟨rfl, hb⟩; replace hk := hk.t hb; clear hb)
        | ((with_reducible refine (add0 _ _).mono ?_); rintro e w1 ⟨rfl, hb⟩; replace hk := hk.t hb; clear hb))
    | (go_at_call 25; first
        | ((with_reducible refine (mul2 _ _ _ _).mono ?_); rintro e w1 ⟨rfl, hb⟩; replace hk := hk.t hb; clear hb)
        | ((with_reducible refine (mul1 _ _ _ ha0 ha1).mono ?_); rintro e w1 ⟨rfl, hb⟩; replace hk := hk.t hb; clear hb)
        | ((with_reducible refine (mul0 _ _).mono ?_); rintro e w1 ⟨rfl, hb⟩; replace hk := hk.t hb; clear hb))
    | (go_at_call 21; refine (rsub_any _ _ _).mono ?_; rintro e w1 ⟨rfl, rfl⟩)
    | (go_at_call 24; refine (rneg_any _ _).mono ?_; rintro e w1 ⟨rfl, rfl⟩)
    | (go_at_call 18; refine (goes_any _ (HT.out.on hk)).mono ?_; rintro e w1 ⟨rfl, hb⟩; replace hk := hk.t hb; clear hb))
  go_ret
  exact ⟨rfl, hk⟩

set_option maxHeartbeats 1000000 in
theorem vanishes_walk (a b : Int) (w : World) (ha0 : 0 ≤ a) (ha1 : a ≤ 18446744073709551615) (hb0 : 0 ≤ b) (hb1 : b ≤ 18446744073709551615) (hT : Tab w) :
    Calls Tryd.prog 7 #[.int .u64 a, .int .u64 b] w fun e w' => e = .returned (.bool true) ∧ KW w w' := by
  have HT := hid hT
  have hk := KW.refl w
  have e1 : IntKind.u64.wrap (9223372036854775808 * a * IntKind.u64.wrap (a + 1)) = 0 := by rw [← Pl.uw_mull]; exact Pl.vanishes a
  have u0 := Pl.uw_nn (a * b)
  have u1 := Pl.uw_le (a * b)
  have t1 := Pl.tw_mul a b ha0 ha1 hb0 hb1
  have ta := Pl.tw_64 a ha0 ha1
  have la := Pl.tw_le a ha0 ha1
  have lb := Pl.tw_le b hb0 hb1
  have HA := hid (fun W hT => rtwos_any a W ha0 ha1 hT)
  have HB := hid (fun W hT => rtwos_any b W hb0 hb1 hT)
  generalize hp : IntKind.u64.wrap (a * b) = p at *
  have HP := hid (fun W hT => rtwos_any p W u0 u1 hT)
  generalize Pl.tw a = x at *
  generalize Pl.tw b = y at *
  generalize Pl.tw p = z at *
  clear hT
  have hmin : min ((x : Int) + (y : Int)) 64 = (z : Int) := by omega
  have hz : (((x : Int) == 64) == (a == 0)) = true := by
    by_cases h : a = 0
    · have := ta.2 h; subst this h; rfl
    · have h2 : ¬ x = 64 := fun h2 => h (ta.1 h2)
      have h3 : ((x : Int) == 64) = false := by simp; omega
      have h4 : (a == 0) = false := by simpa using h
      rw [h3, h4]; rfl
  clear t1 ta
  go_enter Tryd.func7, Tryd.ntmps7
  go_wp2_with (first
    | (go_at_call 19; refine (add2 _ _ _ _).mono ?_; rintro e w1 ⟨rfl, hb⟩; replace hk := hk.t hb; clear hb)
    | (go_at_call 25; first
        | ((with_reducible refine (mul2 _ _ _ _).mono ?_); rintro e w1 ⟨rfl, hb⟩; replace hk := hk.t hb; clear hb)
        | ((with_reducible refine (mul3 _ _ _ _ _).mono ?_); rintro e w1 ⟨rfl, hb⟩; replace hk := hk.t hb; clear hb)))
  refine (HP.out _ (HT.out.on hk)).mono ?_
  rintro e w1 ⟨rfl, rfl⟩
  go_wp2_with fail
  refine (HA.out _ (HT.out.on hk)).mono ?_
  rintro e w1 ⟨rfl, rfl⟩
  go_wp2_with fail
  refine (HB.out _ (HT.out.on hk)).mono ?_
  rintro e w1 ⟨rfl, rfl⟩
  go_wp2_with fail
  all_goals
    refine (HA.out _ (HT.out.on hk)).mono ?_
    rintro e w1 ⟨rfl, rfl⟩
    go_wp2_with (go_at_call 18; refine (goes_any _ (HT.out.on hk)).mono ?_; rintro e w1 ⟨rfl, hb⟩; replace hk := hk.t hb; clear hb)
    go_ret
    exact ⟨rfl, hk⟩

set_option maxHeartbeats 1000000 in
theorem rows_walk (A : Option Addr) (n c : Nat) (f : Nat → Int) (B : Option Addr) (m d : Nat) (g : Nat → Int) (x : Int) (w : World) (hn : n ≤ 9223372036854775807) (hf : ∀ k, k < n → 0 ≤ f k ∧ f k ≤ 18446744073709551615) (hr : Row1 w A n fun k => .int .u64 (f k))
    (hm : m ≤ 9223372036854775807) (hg : ∀ k, k < m → 0 ≤ g k ∧ g k ≤ 18446744073709551615) (hs : Row1 w B m fun k => .int .u64 (g k)) (hx0 : 0 ≤ x) (hx1 : x ≤ 18446744073709551615) (hT : Tab w) :
    Calls Tryd.prog 10 #[.slice A n c, .slice B m d, .int .u64 x] w fun e w' => e = .returned (.bool true) ∧ KW w w' := by
  have HR := hid hr
  have HF := hid hf
  have HS := hid hs
  have HG := hid hg
  have HT := hid hT
  have hk := KW.refl w
  clear hr hf hs hg hT
  by_cases hlen : 200 < n
  · have hd : (200 : Int) < (n : Int) := by omega
    go_enter Tryd.func10, Tryd.ntmps10
    go_wp2_with (go_at_call 18; refine (goes_any _ (HT.out.on hk)).mono ?_; rintro e w1 ⟨rfl, hb⟩; replace hk := hk.t hb; clear hb)
    go_ret
    exact ⟨rfl, hk⟩
  · have hd : decide ((200 : Int) < (n : Int)) = false := by simp; omega
    by_cases hlen2 : 200 < m
    · have hd2 : (200 : Int) < (m : Int) := by omega
      go_enter Tryd.func10, Tryd.ntmps10
      go_wp2_with (go_at_call 18; refine (goes_any _ (HT.out.on hk)).mono ?_; rintro e w1 ⟨rfl, hb⟩; replace hk := hk.t hb; clear hb)
      go_ret
      exact ⟨rfl, hk⟩
    · have hd2 : decide ((200 : Int) < (m : Int)) = false := by simp; omega
      by_cases hnm : n = m
      · subst hnm
        go_enter Tryd.func10, Tryd.ntmps10
        go_wp2_with (first
          | (go_at_call 27; refine (rdot_any A B n c d f g _ hn (HR.out.k hk) (HS.out.k hk)).mono ?_; rintro e w1 ⟨rfl, rfl⟩)
          | (go_at_call 28; refine (rdotr_any A B n c d f g _ hn HF.out HG.out (HR.out.k hk) (HS.out.k hk)).mono ?_; rintro e w1 ⟨rfl, hb⟩; replace hk := hk.t hb; clear hb)
          | (go_at_call 29; refine (horner_any A n c f x _ hn (HR.out.k hk)).mono ?_; rintro e w1 ⟨rfl, rfl⟩)
          | (go_at_call 30; refine (rhorn_any A n c f x _ hn HF.out hx0 hx1 (HR.out.k hk)).mono ?_; rintro e w1 ⟨rfl, hb⟩; replace hk := hk.t hb; clear hb)
          | (go_at_call 18; refine (goes_any _ (HT.out.on hk)).mono ?_; rintro e w1 ⟨rfl, hb⟩; replace hk := hk.t hb; clear hb))
        go_ret
        exact ⟨rfl, hk⟩
      · have HN := hid hnm
        clear hnm
        go_enter Tryd.func10, Tryd.ntmps10
        go_wp2_with (first
          | (go_at_call 27; refine (rdot_unlike A B n m c d _ hn hm HN.out).mono ?_; rintro e w1 ⟨rfl, rfl⟩)
          | (go_at_call 28; refine (rdotr_unlike A B n m c d _ hn hm HN.out).mono ?_; rintro e w1 ⟨rfl, hb⟩; replace hk := hk.t hb; clear hb)
          | (go_at_call 29; refine (horner_any A n c f x _ hn (HR.out.k hk)).mono ?_; rintro e w1 ⟨rfl, rfl⟩)
          | (go_at_call 30; refine (rhorn_any A n c f x _ hn HF.out hx0 hx1 (HR.out.k hk)).mono ?_; rintro e w1 ⟨rfl, hb⟩; replace hk := hk.t hb; clear hb)
          | (go_at_call 18; refine (goes_any _ (HT.out.on hk)).mono ?_; rintro e w1 ⟨rfl, hb⟩; replace hk := hk.t hb; clear hb))
        go_ret
        exact ⟨rfl, hk⟩

set_option maxHeartbeats 1000000 in
theorem dots_walk (A : Option Addr) (n c : Nat) (f : Nat → Int) (B : Option Addr) (m d : Nat) (g : Nat → Int) (w : World) (hn : n ≤ 9223372036854775807) (hf : ∀ k, k < n → 0 ≤ f k ∧ f k ≤ 18446744073709551615) (hr : Row1 w A n fun k => .int .u64 (f k))
    (hm : m ≤ 9223372036854775807) (hg : ∀ k, k < m → 0 ≤ g k ∧ g k ≤ 18446744073709551615) (hs : Row1 w B m fun k => .int .u64 (g k)) (hT : Tab w) :
    Calls Tryd.prog 11 #[.slice A n c, .slice B m d] w fun e w' => e = .returned (.bool true) ∧ KW w w' := by
  have HR := hid hr
  have HF := hid hf
  have HS := hid hs
  have HG := hid hg
  have HT := hid hT
  have hk := KW.refl w
  clear hr hf hs hg hT
  by_cases hlen : 200 < n
  · have hd : (200 : Int) < (n : Int) := by omega
    go_enter Tryd.func11, Tryd.ntmps11
    go_wp2_with (go_at_call 18; refine (goes_any _ (HT.out.on hk)).mono ?_; rintro e w1 ⟨rfl, hb⟩; replace hk := hk.t hb; clear hb)
    go_ret
    exact ⟨rfl, hk⟩
  · have hd : decide ((200 : Int) < (n : Int)) = false := by simp; omega
    by_cases hlen2 : 200 < m
    · have hd2 : (200 : Int) < (m : Int) := by omega
      go_enter Tryd.func11, Tryd.ntmps11
      go_wp2_with (go_at_call 18; refine (goes_any _ (HT.out.on hk)).mono ?_; rintro e w1 ⟨rfl, hb⟩; replace hk := hk.t hb; clear hb)
      go_ret
      exact ⟨rfl, hk⟩
    · have hd2 : decide ((200 : Int) < (m : Int)) = false := by simp; omega
      by_cases hnm : n = m
      · subst hnm
        have HC := hid (fun W => rdot_any B A n d c g f W hn)
        rw [show (fun k => g k * f k) = (fun k => f k * g k) from funext fun k => Int.mul_comm _ _] at HC
        go_enter Tryd.func11, Tryd.ntmps11
        go_wp2_with fail
        refine (rdot_any A B n c d f g _ hn (HR.out.k hk) (HS.out.k hk)).mono ?_
        rintro e w1 ⟨rfl, rfl⟩
        go_wp2_with fail
        refine (HC.out _ (HS.out.k hk) (HR.out.k hk)).mono ?_
        rintro e w1 ⟨rfl, rfl⟩
        go_wp2_with (go_at_call 18; refine (goes_any _ (HT.out.on hk)).mono ?_; rintro e w1 ⟨rfl, hb⟩; replace hk := hk.t hb; clear hb)
        go_ret
        exact ⟨rfl, hk⟩
      · have HN := hid hnm
        have HN2 := hid (show m ≠ n from fun h => hnm h.symm)
        have hne : ((n : Int) != (m : Int)) = true := by simp; omega
        clear hnm
        go_enter Tryd.func11, Tryd.ntmps11
        go_wp2_with fail
        refine (rdot_unlike A B n m c d _ hn hm HN.out).mono ?_
        rintro e w1 ⟨rfl, rfl⟩
        go_wp2_with fail
        refine (rdot_unlike B A m n d c _ hm hn HN2.out).mono ?_
        rintro e w1 ⟨rfl, rfl⟩
        go_wp2_with (go_at_call 18; refine (goes_any _ (HT.out.on hk)).mono ?_; rintro e w1 ⟨rfl, hb⟩; replace hk := hk.t hb; clear hb)
        go_ret
        exact ⟨rfl, hk⟩
end Go.Proofs.YtebmnfmdebeoiaaDoor
