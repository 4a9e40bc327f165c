/- Plain facts on numbers of choices, and on numbers from 0 up to 2^40. No program in sight. -/
import Derived.IntWalk
namespace Go.Proofs.Ytgadkelldbibgaa.Ch
set_option linter.unusedVariables false

/-- in how many ways k of n are chosen -/
def bin : Nat → Nat → Nat
  | _, 0 => 1
  | 0, _ + 1 => 0
  | n + 1, k + 1 => bin n k + bin n (k + 1)
theorem bin_zero (n : Nat) : bin n 0 = 1 := by cases n <;> rfl
theorem bin_succ (n k : Nat) : bin (n + 1) (k + 1) = bin n k + bin n (k + 1) := rfl
theorem bin_none {n k : Nat} (h : n < k) : bin n k = 0 := by
  induction n generalizing k with
  | zero => cases k with
    | zero => omega
    | succ k => rfl
  | succ n ih => cases k with
    | zero => omega
    | succ k => rw [bin_succ, ih (by omega), ih (by omega)]
theorem bin_self (n : Nat) : bin n n = 1 := by
  induction n with
  | zero => rfl
  | succ n ih => rw [bin_succ, ih, bin_none (by omega)]
theorem bin_one (n : Nat) : bin n 1 = n := by
  induction n with
  | zero => rfl
  | succ n ih => rw [bin_succ, bin_zero, ih]; omega
theorem bin_pos {n k : Nat} (h : k ≤ n) : 1 ≤ bin n k := by
  induction n generalizing k with
  | zero => cases k with
    | zero => decide
    | succ k => omega
  | succ n ih => cases k with
    | zero => rw [bin_zero]; omega
    | succ k => rw [bin_succ]; have := ih (k := k) (by omega); omega
theorem bin_sym (a b : Nat) : bin (a + b) a = bin (a + b) b := by
  induction a generalizing b with
  | zero => rw [bin_zero, Nat.zero_add, bin_self]
  | succ a ih =>
    induction b with
    | zero => rw [bin_zero, Nat.add_zero, bin_self]
    | succ b ihb =>
      have e : a + 1 + (b + 1) = (a + 1 + b) + 1 := by omega
      rw [e, bin_succ, bin_succ]
      have h1 := ih (b + 1)
      rw [show a + (b + 1) = a + 1 + b from by omega] at h1
      rw [h1, ihb]; omega
theorem bin_other {n k : Nat} (h : k ≤ n) : bin n k = bin n (n - k) := by
  have := bin_sym k (n - k)
  rwa [show k + (n - k) = n from by omega] at this
theorem bin_mul (n k : Nat) : bin (n + 1) (k + 1) * (k + 1) = bin n k * (n + 1) := by
  induction n generalizing k with
  | zero => cases k with
    | zero => rfl
    | succ k => rw [bin_none (by omega), bin_none (by omega)]; omega
  | succ n ih => cases k with
    | zero => rw [bin_one, bin_zero]; omega
    | succ k =>
      have h1 := ih k
      have h2 := ih (k + 1)
      have e : bin (n + 1 + 1) (k + 1 + 1) = bin (n + 1) (k + 1) + bin (n + 1) (k + 1 + 1) := rfl
      rw [e, Nat.add_mul, h2, show k + 1 + 1 = (k + 1) + 1 from rfl, Nat.mul_add, Nat.mul_one, h1]
      have e2 : bin (n + 1) (k + 1) = bin n k + bin n (k + 1) := rfl
      rw [e2]
      grind
theorem bin_up (n k : Nat) : bin n k ≤ bin (n + 1) k := by
  cases k with
  | zero => rw [bin_zero, bin_zero]; omega
  | succ k => rw [bin_succ]; omega
theorem bin_le {n m k : Nat} (h : n ≤ m) : bin n k ≤ bin m k := by
  obtain ⟨d, rfl⟩ : ∃ d, m = n + d := ⟨m - n, by omega⟩
  clear h
  induction d with
  | zero => exact Nat.le_refl _
  | succ d ih => exact Nat.le_trans ih (bin_up _ _)
theorem bin_diag (d j e : Nat) : bin (d + j) j ≤ bin (d + (j + e)) (j + e) := by
  induction e with
  | zero => exact Nat.le_refl _
  | succ e ih =>
    have h : d + (j + (e + 1)) = (d + (j + e)) + 1 := by omega
    rw [h, show j + (e + 1) = (j + e) + 1 from rfl, bin_succ]; omega
theorem bin_step (d j : Nat) : bin (d + (j + 1)) (j + 1) = bin (d + j) j * (d + (j + 1)) / (j + 1) := by
  have h := bin_mul (d + j) j
  rw [← Nat.add_assoc, ← h, Nat.mul_div_cancel _ (by omega)]
theorem bin_two {d j : Nat} (h : j ≤ d) : 2 ^ j ≤ bin (d + j) j := by
  induction j with
  | zero => rw [bin_zero]; decide
  | succ j ih =>
    have h1 := ih (by omega)
    have h2 := bin_mul (d + j) j
    have h3 : bin (d + j) j * (2 * (j + 1)) ≤ bin (d + j) j * (d + j + 1) := Nat.mul_le_mul_left _ (by omega)
    rw [← h2] at h3
    have h4 : bin (d + j) j * (2 * (j + 1)) = (bin (d + j) j * 2) * (j + 1) := by grind
    rw [h4] at h3
    have h5 := Nat.le_of_mul_le_mul_right h3 (by omega)
    rw [Nat.pow_succ, ← Nat.add_assoc]; omega
theorem bin_ge {n k : Nat} (h0 : 0 < k) (h1 : k < n) : n ≤ bin n k := by
  induction n generalizing k with
  | zero => omega
  | succ n ih =>
    obtain ⟨k, rfl⟩ : ∃ j, k = j + 1 := ⟨k - 1, by omega⟩
    rw [bin_succ]
    by_cases hk : k = 0
    · subst hk; rw [bin_zero, bin_one]; omega
    · have a := ih (k := k) (by omega) (by omega)
      have b := bin_pos (n := n) (k := k + 1) (by omega)
      omega

def most : Int := 1099511627776
/-- from 0 up to the most -/
def held (n : Int) : Int := min (max n 0) 1099511627776
theorem held_nn (n : Int) : 0 ≤ held n := by unfold held; omega
theorem held_le (n : Int) : held n ≤ 1099511627776 := by unfold held; omega
/-- what any come to together, each from 0 up to the most -/
def hs (f : Nat → Int) : Nat → Int
  | 0 => 0
  | k + 1 => hs f k + held (f k)
theorem hs_nn (f : Nat → Int) (k : Nat) : 0 ≤ hs f k := by
  induction k with
  | zero => exact Int.le_refl _
  | succ k ih => have := held_nn (f k); simp only [hs]; omega
theorem hs_step (f : Nat → Int) (k : Nat) : held (min (hs f k) 1099511627776 + held (f k)) = min (hs f (k + 1)) 1099511627776 := by
  have h1 := hs_nn f k
  have h2 := held_nn (f k)
  simp only [hs]
  generalize held (f k) = x at *
  unfold held
  omega
/-- their product, 0 if one is none -/
def hp (f : Nat → Int) : Nat → Int
  | 0 => 1
  | k + 1 => hp f k * held (f k)
theorem hp_nn (f : Nat → Int) (k : Nat) : 0 ≤ hp f k := by
  induction k with
  | zero => show (0 : Int) ≤ 1; omega
  | succ k ih => exact Int.mul_nonneg ih (held_nn _)
theorem hp_pos (f : Nat → Int) (k : Nat) (h : ∀ j, j < k → 0 < f j) : 1 ≤ hp f k := by
  induction k with
  | zero => exact Int.le_refl _
  | succ k ih =>
    have h1 := ih fun j hj => h j (by omega)
    have h2 := h k (by omega)
    have h3 : 1 ≤ held (f k) := by unfold held; omega
    have : 1 * 1 ≤ hp f k * held (f k) := Int.mul_le_mul h1 h3 (by omega) (by omega)
    simp only [hp]; omega
theorem hp_none (f : Nat → Int) {k j : Nat} (hj : j < k) (h : f j ≤ 0) : hp f k = 0 := by
  induction k with
  | zero => omega
  | succ k ih =>
    simp only [hp]
    by_cases e : j = k
    · subst e
      have : held (f j) = 0 := by unfold held; omega
      rw [this, Int.mul_zero]
    · rw [ih (by omega), Int.zero_mul]
/-- a product with a factor that is held back is as great, up to the most -/
theorem min_mul {a b : Int} (ha : 0 ≤ a) (hb : 0 ≤ b) : min (min a 1099511627776 * b) 1099511627776 = min (a * b) 1099511627776 := by
  by_cases h : a ≤ 1099511627776
  · rw [Int.min_eq_left h]
  · rw [Int.min_eq_right (a := a) (b := 1099511627776) (by omega)]
    by_cases hb0 : b = 0
    · subst hb0; rw [Int.mul_zero, Int.mul_zero]
    · have h1 : 1099511627776 * 1 ≤ 1099511627776 * b := Int.mul_le_mul_of_nonneg_left (by omega) (by omega)
      have h2 : 1099511627776 * b ≤ a * b := Int.mul_le_mul_of_nonneg_right (by omega) hb
      omega

/-- choices of whatever numbers, up to the most -/
def ch (n k : Int) : Int := if n < 0 ∨ k < 0 ∨ n < k then 0 else min (bin n.toNat k.toNat) 1099511627776
theorem ch_none {n k : Int} (h : n < 0 ∨ k < 0 ∨ n < k) : ch n k = 0 := by unfold ch; rw [if_pos h]
theorem ch_at {n k : Int} (h0 : 0 ≤ k) (h1 : k ≤ n) : ch n k = min ((bin n.toNat k.toNat : Nat) : Int) 1099511627776 := by unfold ch; rw [if_neg (by omega)]
theorem ch_nn (n k : Int) : 0 ≤ ch n k := by unfold ch; split <;> omega
theorem ch_le (n k : Int) : ch n k ≤ 1099511627776 := by unfold ch; split <;> omega
theorem ch_other {n k : Int} (h0 : 0 ≤ k) (h1 : k ≤ n) : ch n (n - k) = ch n k := by
  rw [ch_at h0 h1, ch_at (by omega) (by omega), bin_other (n := n.toNat) (k := k.toNat) (by omega), show (n - k).toNat = n.toNat - k.toNat from by omega]
theorem ch_pos {n k : Int} (h0 : 0 ≤ k) (h1 : k ≤ n) : 1 ≤ ch n k := by
  rw [ch_at h0 h1]; have := bin_pos (n := n.toNat) (k := k.toNat) (by omega); omega
theorem ch_ge {n k : Int} (h0 : 0 < k) (h1 : k < n) : min n 1099511627776 ≤ ch n k := by
  rw [ch_at (by omega) (by omega)]; have := bin_ge (n := n.toNat) (k := k.toNat) (by omega) (by omega); omega
theorem ch_two {n k : Int} (h0 : 0 < k) (h1 : k ≤ n) (hn : 0 < n) : held (held (ch (n - 1) (k - 1)) + held (ch (n - 1) k)) = ch n k := by
  have e : bin n.toNat k.toNat = bin (n - 1).toNat (k - 1).toNat + bin (n - 1).toNat k.toNat := by
    obtain ⟨m, rfl⟩ : ∃ m : Nat, n = (m : Int) + 1 := ⟨(n - 1).toNat, by omega⟩
    obtain ⟨j, rfl⟩ : ∃ j : Nat, k = (j : Int) + 1 := ⟨(k - 1).toNat, by omega⟩
    rw [show ((m : Int) + 1).toNat = m + 1 from by omega, show ((j : Int) + 1).toNat = j + 1 from by omega, show ((m : Int) + 1 - 1).toNat = m from by omega, show ((j : Int) + 1 - 1).toNat = j from by omega, bin_succ]
  rw [ch_at (n := n) (by omega) h1, e, ch_at (n := n - 1) (by omega) (by omega)]
  by_cases hk : k ≤ n - 1
  · rw [ch_at (by omega) hk]; unfold held; omega
  · rw [ch_none (by omega), bin_none (n := (n - 1).toNat) (k := k.toNat) (by omega)]; unfold held; omega
theorem ch_mono {n m k : Int} (h : n ≤ m) : ch n k ≤ ch m k := by
  by_cases h1 : n < 0 ∨ k < 0 ∨ n < k
  · rw [ch_none h1]; exact ch_nn _ _
  · rw [ch_at (by omega) (by omega), ch_at (by omega) (by omega)]
    have := bin_le (n := n.toNat) (m := m.toNat) (k := k.toNat) (by omega)
    omega
end Go.Proofs.Ytgadkelldbibgaa.Ch
