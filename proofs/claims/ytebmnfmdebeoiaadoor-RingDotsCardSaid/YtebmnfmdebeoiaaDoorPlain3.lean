/- Plain facts for the ring's rows: inverses, powers of two in a number. No program in sight. -/
import Derived.Test.YtebmnfmdebeoiaaDoorPlain
import Derived.Lib.TrailingZeros
namespace Go.Proofs.YtebmnfmdebeoiaaDoor.Pl
open Go

/-- what is multiplied by a to 1 -/
def IsInv (a x : Int) : Prop := 0 ≤ x ∧ x ≤ 18446744073709551615 ∧ IntKind.u64.wrap (a * x) = 1
theorem IsInv.one {a x y : Int} (hx : IsInv a x) (hy : IsInv a y) : x = y := by
  have e : IntKind.u64.wrap (x * (a * y)) = IntKind.u64.wrap (y * (a * x)) := by congr 1; grind
  have e1 : IntKind.u64.wrap (x * (a * y)) = x := by rw [← uw_mulr, hy.2.2, Int.mul_one, uw_id hx.1 hx.2.1]
  have e2 : IntKind.u64.wrap (y * (a * x)) = y := by rw [← uw_mulr, hx.2.2, Int.mul_one, uw_id hy.1 hy.2.1]
  rw [← e1, e, e2]

/-- the inverse by rounds -/
def nwt (a : Int) : Nat → Int
  | 0 => a
  | k + 1 => IntKind.u64.wrap (nwt a k * IntKind.u64.wrap (2 - IntKind.u64.wrap (a * nwt a k)))
theorem wrap_at (n : Int) : ∃ j, IntKind.u64.wrap n = n - 18446744073709551616 * j := ⟨n / 18446744073709551616, by rw [uw]; omega⟩
theorem nwt_step {a x m m' q r s : Int} (h : a * x = 1 + m * q) (hm : m * m = m' * r) (hd : 18446744073709551616 = m' * s) :
    ∃ q', a * IntKind.u64.wrap (x * IntKind.u64.wrap (2 - IntKind.u64.wrap (a * x))) = 1 + m' * q' := by
  rw [uw_mulr, ← uw_mulr, uw_subr, uw_mulr]
  obtain ⟨j, hj⟩ := wrap_at (x * (2 - a * x))
  refine ⟨-(r * q * q) - s * a * j, ?_⟩
  rw [hj, hd]
  have e : a * (x * (2 - a * x) - m' * s * j) = a * x * (2 - a * x) - m' * s * a * j := by grind
  rw [e, h]
  have e2 : (1 + m * q) * (2 - (1 + m * q)) = 1 - m * m * q * q := by grind
  rw [e2, hm]
  grind
theorem nwt_odd {a : Int} (ha : a % 2 = 1) : IsInv a (nwt a 5) := by
  have h0 : ∃ q, a * nwt a 0 = 1 + 8 * q := by
    refine ⟨(a / 2) * (a / 2 + 1) / 2, ?_⟩
    obtain ⟨t, ht⟩ : ∃ t, a = 2 * t + 1 := ⟨a / 2, by omega⟩
    have e : a / 2 = t := by omega
    have h2 : t * (t + 1) % 2 = 0 := by
      rcases Int.emod_two_eq t with h | h <;> rw [Int.mul_emod, Int.add_emod, h] <;> rfl
    have h3 : t * (t + 1) = 2 * (t * (t + 1) / 2) := by omega
    show a * a = _
    rw [e, ht]
    have : (2 * t + 1) * (2 * t + 1) = 1 + 4 * (t * (t + 1)) := by grind
    rw [this]; omega
  obtain ⟨q0, h0⟩ := h0
  obtain ⟨q1, h1⟩ := nwt_step h0 (m' := 64) (r := 1) (s := 288230376151711744) (by decide) (by decide)
  obtain ⟨q2, h2⟩ := nwt_step h1 (m' := 4096) (r := 1) (s := 4503599627370496) (by decide) (by decide)
  obtain ⟨q3, h3⟩ := nwt_step h2 (m' := 16777216) (r := 1) (s := 1099511627776) (by decide) (by decide)
  obtain ⟨q4, h4⟩ := nwt_step h3 (m' := 281474976710656) (r := 1) (s := 65536) (by decide) (by decide)
  obtain ⟨q5, h5⟩ := nwt_step h4 (m' := 18446744073709551616) (r := 4294967296) (s := 1) (by decide) (by decide)
  refine ⟨uw_nn _, uw_le _, ?_⟩
  show IntKind.u64.wrap (a * nwt a 5) = 1
  have : a * nwt a 5 = 1 + 18446744073709551616 * q5 := h5
  rw [this, uw]; omega
def inv (a : Int) : Int := nwt a 5
theorem inv_eq {a x : Int} (ha : a % 2 = 1) (h : IsInv a x) : x = inv a := h.one (nwt_odd ha)

/-- the reference's inverse, bit by bit: right below bit i -/
def InvTo (a : Int) (i : Nat) (x : Int) : Prop := 0 ≤ x ∧ x < 2 ^ i ∧ ∃ c, a * x = 1 + 2 ^ i * c
theorem invTo_zero (a : Int) : InvTo a 0 0 := ⟨by omega, by decide, -1, by simp⟩
theorem pow_split {i : Nat} (h : i < 64) : ∃ s : Int, 18446744073709551616 = 2 ^ i * (2 * s) ∧ 0 < (2 : Int) ^ i := by
  refine ⟨2 ^ (63 - i), ?_, Int.pow_pos (by omega)⟩
  rw [← Int.mul_assoc, Int.mul_comm _ 2, Int.mul_assoc, ← Int.pow_add, show i + (63 - i) = 63 from by omega]; rfl
theorem pow_lt {i : Nat} (h : i < 64) : (2 : Int) ^ i ≤ 9223372036854775808 := by
  obtain ⟨s, hs, hp⟩ := pow_split h
  have : 0 < s := by
    apply Int.lt_of_not_ge
    intro h0
    have : 2 ^ i * (2 * s) ≤ 0 := Int.mul_nonpos_of_nonneg_of_nonpos (Int.le_of_lt hp) (by omega)
    omega
  have h3 : (2 : Int) ^ i * 2 ≤ 2 ^ i * (2 * s) := Int.mul_le_mul_of_nonneg_left (by omega) (Int.le_of_lt hp)
  omega
theorem bit_of {a x : Int} {i : Nat} (hi : i < 64) (c : Int) (hc : a * x = 1 + 2 ^ i * c) :
    IntKind.u64.wrap (IntKind.u64.wrap (a * x) + IntKind.u64.wrap (-1)) / 2 ^ i % 2 = c % 2 := by
  obtain ⟨s, hs, hp⟩ := pow_split hi
  rw [uw_addl, uw_addr, hc, show 1 + 2 ^ i * c + -1 = 2 ^ i * c from by omega, uw, hs, Int.mul_emod_mul_of_pos _ _ hp, Int.mul_ediv_cancel_left _ (by omega), Int.emod_emod_of_dvd _ ⟨s, rfl⟩]
theorem invTo_yes {a x : Int} {i : Nat} (ha : a % 2 = 1) (hi : i < 64) (h : InvTo a i x)
    (hb : IntKind.u64.wrap (IntKind.u64.wrap (a * x) + IntKind.u64.wrap (-1)) / 2 ^ i % 2 = 1) : InvTo a (i + 1) (x + 2 ^ i) := by
  obtain ⟨h0, h1, c, hc⟩ := h
  rw [bit_of hi c hc] at hb
  obtain ⟨s, hs, hp⟩ := pow_split hi
  refine ⟨by omega, by rw [Int.pow_succ]; omega, (c + a) / 2, ?_⟩
  rw [Int.mul_add, hc, Int.pow_succ]
  have : c + a = 2 * ((c + a) / 2) := by omega
  have e : 2 ^ i * 2 * ((c + a) / 2) = 2 ^ i * (c + a) := by rw [Int.mul_assoc, ← this]
  rw [e]; grind
theorem invTo_no {a x : Int} {i : Nat} (hi : i < 64) (h : InvTo a i x)
    (hb : IntKind.u64.wrap (IntKind.u64.wrap (a * x) + IntKind.u64.wrap (-1)) / 2 ^ i % 2 = 0) : InvTo a (i + 1) x := by
  obtain ⟨h0, h1, c, hc⟩ := h
  rw [bit_of hi c hc] at hb
  obtain ⟨s, hs, hp⟩ := pow_split hi
  refine ⟨h0, by rw [Int.pow_succ]; omega, c / 2, ?_⟩
  rw [hc, Int.pow_succ]
  have : c = 2 * (c / 2) := by omega
  have e : 2 ^ i * 2 * (c / 2) = 2 ^ i * c := by rw [Int.mul_assoc, ← this]
  rw [e]
theorem invTo_end {a x : Int} (h : InvTo a 64 x) : IsInv a x := by
  obtain ⟨h0, h1, c, hc⟩ := h
  have e : (2 : Int) ^ 64 = 18446744073709551616 := rfl
  rw [e] at h1 hc
  exact ⟨h0, by omega, by rw [hc, uw]; omega⟩

/-- how often 2 divides a number -/
def tw (a : Int) : Nat := Go.Lib.ctz 64 a.toNat
theorem tw_zero : tw 0 = 64 := rfl
theorem two_odd_one {i j m l : Nat} (h : 2 ^ i * (2 * m + 1) = 2 ^ j * (2 * l + 1)) : i = j := by
  induction i generalizing j with
  | zero =>
    cases j with
    | zero => rfl
    | succ j => rw [Nat.pow_succ] at h; exfalso; have : 2 ^ j * 2 * (2 * l + 1) = 2 * (2 ^ j * (2 * l + 1)) := by grind
                simp only [Nat.pow_zero] at h; omega
  | succ i ih =>
    cases j with
    | zero => rw [Nat.pow_succ] at h; exfalso; have : 2 ^ i * 2 * (2 * m + 1) = 2 * (2 ^ i * (2 * m + 1)) := by grind
              simp only [Nat.pow_zero] at h; omega
    | succ j =>
      have : 2 ^ i * (2 * m + 1) = 2 ^ j * (2 * l + 1) := by
        rw [Nat.pow_succ, Nat.pow_succ] at h
        have e1 : 2 ^ i * 2 * (2 * m + 1) = 2 * (2 ^ i * (2 * m + 1)) := by grind
        have e2 : 2 ^ j * 2 * (2 * l + 1) = 2 * (2 ^ j * (2 * l + 1)) := by grind
        omega
      rw [ih this]
theorem ctz_odd {x k m : Nat} (hx : x < 18446744073709551616) (h : x = 2 ^ k * (2 * m + 1)) : Go.Lib.ctz 64 x = k := by
  have hpos : 0 < x := by rw [h]; exact Nat.mul_pos (Nat.pow_pos (by omega)) (by omega)
  unfold Go.Lib.ctz
  rw [if_neg (by omega)]
  obtain ⟨l, hl, _⟩ := Go.Lib.ctzFrom_spec 64 x hpos hx
  exact two_odd_one (hl.symm.trans h)
theorem tw_odd {a : Int} {k m : Nat} (hx : a ≤ 18446744073709551615) (h : a = 2 ^ k * (2 * (m : Int) + 1)) : tw a = k := by
  have e : a = ((2 ^ k * (2 * m + 1) : Nat) : Int) := by rw [h]; push_cast; rfl
  unfold tw
  rw [e, Int.toNat_natCast]
  exact ctz_odd (by omega) rfl
theorem tw_at {a : Int} (h0 : 0 < a) (h1 : a ≤ 18446744073709551615) : ∃ m : Nat, a = 2 ^ tw a * (2 * (m : Int) + 1) ∧ tw a < 64 := by
  have hx : a.toNat ≠ 0 := by omega
  obtain ⟨l, hl, hk⟩ := Go.Lib.ctzFrom_spec 64 a.toNat (by omega) (by omega)
  have e : tw a = Go.Lib.ctzFrom 64 a.toNat := by unfold tw Go.Lib.ctz; rw [if_neg hx]
  rw [e]
  clear e
  generalize Go.Lib.ctzFrom 64 a.toNat = k at *
  refine ⟨l, ?_, hk⟩
  have h2 : ((a.toNat : Nat) : Int) = ((2 ^ k * (2 * l + 1) : Nat) : Int) := congrArg _ hl
  rw [Int.toNat_of_nonneg (by omega)] at h2
  rw [h2]; push_cast; rfl
theorem tw_le (a : Int) (h0 : 0 ≤ a) (h1 : a ≤ 18446744073709551615) : tw a ≤ 64 := by
  rcases Int.lt_or_eq_of_le h0 with h | h
  · obtain ⟨_, _, h2⟩ := tw_at h h1; omega
  · rw [← h]; exact Nat.le_refl _
theorem tw_64 (a : Int) (h0 : 0 ≤ a) (h1 : a ≤ 18446744073709551615) : tw a = 64 ↔ a = 0 := by
  constructor
  · intro h
    rcases Int.lt_or_eq_of_le h0 with h2 | h2
    · obtain ⟨_, _, h3⟩ := tw_at h2 h1; omega
    · exact h2.symm
  · rintro rfl; rfl
theorem tw_mul (a b : Int) (h0 : 0 ≤ a) (h1 : a ≤ 18446744073709551615) (g0 : 0 ≤ b) (g1 : b ≤ 18446744073709551615) : tw (IntKind.u64.wrap (a * b)) = min (tw a + tw b) 64 := by
  rcases Int.lt_or_eq_of_le h0 with ha | ha
  · rcases Int.lt_or_eq_of_le g0 with hb | hb
    · obtain ⟨m, hm, hi⟩ := tw_at ha h1
      obtain ⟨l, hl, hj⟩ := tw_at hb g1
      have e : a * b = 2 ^ (tw a + tw b) * (2 * ((2 * m * l + m + l : Nat) : Int) + 1) := by
        rw [Int.pow_add]
        push_cast
        generalize (2 : Int) ^ tw a = p at *
        generalize (2 : Int) ^ tw b = q at *
        rw [hm, hl]; grind
      generalize tw a + tw b = k at *
      generalize (2 * m * l + m + l : Nat) = t at *
      by_cases hk : 64 ≤ k
      · rw [Nat.min_eq_right hk, e]
        have : (2 : Int) ^ k = 18446744073709551616 * 2 ^ (k - 64) := by
          rw [show (18446744073709551616 : Int) = 2 ^ 64 from rfl, ← Int.pow_add, show 64 + (k - 64) = k from by omega]
        rw [this, Int.mul_assoc, uw, Int.mul_emod_right]; rfl
      · rw [Nat.min_eq_left (by omega), e]
        obtain ⟨s, hs, hp⟩ := pow_split (show k < 64 from by omega)
        have hs0 : 0 < s := by
          apply Int.lt_of_not_ge
          intro h0
          have : 2 ^ k * (2 * s) ≤ 0 := Int.mul_nonpos_of_nonneg_of_nonpos (Int.le_of_lt hp) (by omega)
          omega
        have hw : IntKind.u64.wrap (2 ^ k * (2 * (t : Int) + 1)) = 2 ^ k * (2 * (((t : Int) % s).toNat : Int) + 1) := by
          rw [uw, hs, Int.mul_emod_mul_of_pos _ _ hp]
          congr 1
          have := Int.emod_nonneg (t : Int) (show s ≠ 0 from by omega)
          have h2 := Int.emod_lt_of_pos (t : Int) hs0
          rw [Int.toNat_of_nonneg this]
          have e3 : (2 * (t : Int) + 1) = 2 * ((t : Int) % s) + 1 + 2 * s * ((t : Int) / s) := by
            have := Int.emod_add_mul_ediv (t : Int) s
            grind
          rw [e3, Int.add_mul_emod_self_left]
          exact Int.emod_eq_of_lt (by omega) (by omega)
        exact tw_odd (uw_le _) hw
    · subst hb; rw [Int.mul_zero, show IntKind.u64.wrap 0 = 0 from rfl, tw_zero]; omega
  · subst ha; rw [Int.zero_mul, show IntKind.u64.wrap 0 = 0 from rfl, tw_zero]; omega

theorem vanishes (a : Int) : IntKind.u64.wrap (IntKind.u64.wrap (9223372036854775808 * a) * IntKind.u64.wrap (a + 1)) = 0 := by
  rw [uw_mull, uw_mulr]
  have h2 : a * (a + 1) % 2 = 0 := by
    rcases Int.emod_two_eq a with h | h <;> rw [Int.mul_emod, Int.add_emod, h] <;> rfl
  rw [Int.mul_assoc, uw]
  omega

/-- the rest of the reference's search -/
theorem tw_done {a x : Int} {k : Nat} (h0 : 0 ≤ a) (h1 : a ≤ 18446744073709551615) (e : a = 2 ^ k * x) (hx : 0 ≤ x) (hk : k ≤ 64) (hend : k = 64 ∨ x % 2 = 1) : tw a = k := by
  by_cases hodd : x % 2 = 1
  · exact tw_odd (m := (x / 2).toNat) h1 (by rw [e]; congr 1; omega)
  · have hk : k = 64 := hend.resolve_right hodd
    subst hk
    have : a = 0 := by
      have e2 : (2 : Int) ^ 64 = 18446744073709551616 := rfl
      rw [e2] at e
      omega
    rw [this]; rfl
end Go.Proofs.YtebmnfmdebeoiaaDoor.Pl
