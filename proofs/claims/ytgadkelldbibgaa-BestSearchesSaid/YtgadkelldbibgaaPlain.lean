/- Plain facts on numbers of 64 bits that go round (sums, products, powers, digits): no program in sight. -/
import Derived.IntWalk
import Derived.Laws.Bits64
namespace Go.Proofs.Ytgadkelldbibgaa.Pl
open Go

theorem uw (n : Int) : IntKind.u64.wrap n = n % 18446744073709551616 := IntKind.wrap_u64 n
theorem uw_nn (n : Int) : 0 ≤ IntKind.u64.wrap n := by rw [uw]; omega
theorem uw_le (n : Int) : IntKind.u64.wrap n ≤ 18446744073709551615 := by rw [uw]; omega
theorem uw_id {n : Int} (h0 : 0 ≤ n) (h1 : n ≤ 18446744073709551615) : IntKind.u64.wrap n = n := IntWalk.u64_in n ⟨h0, h1⟩
theorem uw_uw (n : Int) : IntKind.u64.wrap (IntKind.u64.wrap n) = IntKind.u64.wrap n := uw_id (uw_nn n) (uw_le n)
theorem uw_addl (a b : Int) : IntKind.u64.wrap (IntKind.u64.wrap a + b) = IntKind.u64.wrap (a + b) := by simp only [uw]; omega
theorem uw_addr (a b : Int) : IntKind.u64.wrap (a + IntKind.u64.wrap b) = IntKind.u64.wrap (a + b) := by simp only [uw]; omega
theorem uw_subl (a b : Int) : IntKind.u64.wrap (IntKind.u64.wrap a - b) = IntKind.u64.wrap (a - b) := by simp only [uw]; omega
theorem uw_subr (a b : Int) : IntKind.u64.wrap (a - IntKind.u64.wrap b) = IntKind.u64.wrap (a - b) := by simp only [uw]; omega
theorem uw_neg (a : Int) : IntKind.u64.wrap (-IntKind.u64.wrap a) = IntKind.u64.wrap (-a) := by simp only [uw]; omega
theorem uw_mull (a b : Int) : IntKind.u64.wrap (IntKind.u64.wrap a * b) = IntKind.u64.wrap (a * b) := by simp only [uw]; rw [Int.mul_emod (a % 18446744073709551616), Int.emod_emod, ← Int.mul_emod]
theorem uw_mulr (a b : Int) : IntKind.u64.wrap (a * IntKind.u64.wrap b) = IntKind.u64.wrap (a * b) := by rw [Int.mul_comm, uw_mull, Int.mul_comm]
theorem uw_powl (a : Int) (n : Nat) : IntKind.u64.wrap (IntKind.u64.wrap a ^ n) = IntKind.u64.wrap (a ^ n) := by
  induction n with
  | zero => rw [Int.pow_zero, Int.pow_zero]
  | succ n ih => rw [Int.pow_succ, Int.pow_succ, uw_mulr, ← uw_mull, ih, uw_mull]
/-- two numbers are one going round, if they differ by a multiple -/
theorem uw_eq {a b k : Int} (h : a = b + 18446744073709551616 * k) : IntKind.u64.wrap a = IntKind.u64.wrap b := by
  subst h; simp only [uw]; rw [Int.add_mul_emod_self_left]
theorem uw_cong {a b : Int} (h : IntKind.u64.wrap a = IntKind.u64.wrap b) : ∃ k, a = b + 18446744073709551616 * k := by
  simp only [uw] at h
  exact ⟨(a - b) / 18446744073709551616, by omega⟩

theorem uw2 {a b c d : Int} (h : IntKind.u64.wrap a = IntKind.u64.wrap c) (k : IntKind.u64.wrap b = IntKind.u64.wrap d) : IntKind.u64.wrap (a + b) = IntKind.u64.wrap (c + d) := by
  rw [← uw_addl, h, uw_addl, ← uw_addr, k, uw_addr]
theorem uwm {a b c d : Int} (h : IntKind.u64.wrap a = IntKind.u64.wrap c) (k : IntKind.u64.wrap b = IntKind.u64.wrap d) : IntKind.u64.wrap (a * b) = IntKind.u64.wrap (c * d) := by
  rw [← uw_mull, h, uw_mull, ← uw_mulr, k, uw_mulr]

/-! sums and products of what a function tells of 0, 1, .. -/
def sm (f : Nat → Int) : Nat → Int
  | 0 => 0
  | k + 1 => sm f k + f k
def pr (f : Nat → Int) : Nat → Int
  | 0 => 1
  | k + 1 => pr f k * f k
theorem sm_congr {f g : Nat → Int} {n : Nat} (h : ∀ i, i < n → f i = g i) : sm f n = sm g n := by
  induction n with
  | zero => rfl
  | succ n ih => simp only [sm]; rw [ih (fun i hi => h i (by omega)), h n (by omega)]
theorem sm_add (f g : Nat → Int) (n : Nat) : sm (fun i => f i + g i) n = sm f n + sm g n := by
  induction n with
  | zero => rfl
  | succ n ih => simp only [sm, ih]; omega
theorem sm_mul (c : Int) (f : Nat → Int) (n : Nat) : sm (fun i => c * f i) n = c * sm f n := by
  induction n with
  | zero => simp [sm]
  | succ n ih => simp only [sm, ih, Int.mul_add]
theorem sm_shift (f : Nat → Int) (n : Nat) : sm f (n + 1) = f 0 + sm (fun i => f (i + 1)) n := by
  induction n with
  | zero => simp [sm]
  | succ n ih => rw [sm, ih]; simp only [sm]; omega

/-- what a polynomial is: from the last number back, so many of them, f at the first one that is taken -/
def hz (f : Nat → Int) (x : Int) (k : Nat) : Int := sm (fun j => f j * x ^ j) k
theorem hz_step (f : Nat → Int) (x : Int) (k : Nat) : hz f x (k + 1) = hz (fun j => f (j + 1)) x k * x + f 0 := by
  unfold hz
  rw [sm_shift, Int.mul_comm _ x, ← sm_mul]
  have : sm (fun i => f (i + 1) * x ^ (i + 1)) k = sm (fun i => x * (f (i + 1) * x ^ i)) k := sm_congr fun i _ => by
    rw [Int.pow_succ]; grind
  rw [this, Int.pow_zero]; simp only [Int.mul_one]; omega

/-! digits -/
def dg (a : Int) (i : Nat) : Int := a / 256 ^ i % 256
theorem dg_nn (a : Int) (i : Nat) : 0 ≤ dg a i := by unfold dg; omega
theorem dg_le (a : Int) (i : Nat) : dg a i ≤ 255 := by unfold dg; omega
/-- what digits come to, each by its place -/
def val (d : Nat → Int) (k : Nat) : Int := sm (fun i => d i * 256 ^ i) k
theorem val_dg (a : Int) (k : Nat) : val (dg a) k = a % 256 ^ k := by
  induction k with
  | zero => simp [val, sm]
  | succ k ih =>
    have hv : val (dg a) (k + 1) = val (dg a) k + dg a k * 256 ^ k := rfl
    rw [hv, ih]
    unfold dg
    have hp : (0 : Int) < 256 ^ k := Int.pow_pos (by omega)
    have e1 : a % 256 ^ (k + 1) = a - 256 ^ (k + 1) * (a / 256 ^ (k + 1)) := by rw [Int.emod_def]
    have e2 : a / 256 ^ (k + 1) = a / 256 ^ k / 256 := by rw [Int.pow_succ, Int.ediv_ediv_of_nonneg (Int.le_of_lt hp)]
    have e3 : a % 256 ^ k = a - 256 ^ k * (a / 256 ^ k) := by rw [Int.emod_def]
    have e4 : a / 256 ^ k % 256 = a / 256 ^ k - 256 * (a / 256 ^ k / 256) := by rw [Int.emod_def]
    rw [e1, e2, e3, e4, Int.pow_succ]
    generalize (256 : Int) ^ k = p
    generalize a / p = q
    grind
theorem val8 (a : Int) (h0 : 0 ≤ a) (h1 : a ≤ 18446744073709551615) : val (dg a) 8 = a := by
  rw [val_dg]; omega
theorem val_set (f : Nat → Int) (m n : Nat) (v : Int) (h : m < n) : val (fun j => if j = m then v else f j) n = val f n + (v - f m) * 256 ^ m := by
  unfold val
  induction n with
  | zero => omega
  | succ n ih =>
    simp only [sm]
    by_cases e : n = m
    · subst e
      have : sm (fun i => (if i = n then v else f i) * 256 ^ i) n = sm (fun i => f i * 256 ^ i) n := sm_congr fun i hi => by rw [if_neg (by omega)]
      rw [this, if_pos rfl, Int.sub_mul]; omega
    · rw [ih (by omega), if_neg e]; omega
theorem val_zero (n : Nat) : val (fun _ => 0) n = 0 := by
  unfold val
  induction n with
  | zero => rfl
  | succ n ih => simp only [sm, ih]; omega
theorem val_add (f g : Nat → Int) (n : Nat) : val (fun i => f i + g i) n = val f n + val g n := by
  unfold val
  rw [← sm_add]
  exact sm_congr fun i _ => Int.add_mul _ _ _
/-- one round of 'number': what is told so far goes on -/
theorem number_step (d : Nat → Int) (i : Nat) (c : Int) :
    val d i - c * 256 ^ i + (c + d i) % 256 * 256 ^ i = val d (i + 1) - (c + d i) / 256 * 256 ^ (i + 1) := by
  have hv : val d (i + 1) = val d i + d i * 256 ^ i := rfl
  have e := Int.emod_def (c + d i) 256
  rw [hv, e, Int.pow_succ]
  generalize (c + d i) / 256 = q
  generalize (256 : Int) ^ i = p
  grind
theorem number_end (d : Nat → Int) (c : Int) : IntKind.u64.wrap (val d 8 - c * 256 ^ 8) = IntKind.u64.wrap (val d 8) :=
  uw_eq (k := -c) (by omega)
theorem neg_dg (a : Int) : val (fun i => 255 - dg a i) 8 = 18446744073709551615 - val (dg a) 8 := by
  simp only [val, sm]; omega

/-- what 'Times' has gathered: the first i digits times all that count, and of the next one k -/
def tm (x y : Nat → Int) (i : Nat) : Int := sm (fun j => x j * 256 ^ j * val y (8 - j)) i
theorem val_part (y : Nat → Int) (i : Nat) (h : i ≤ 8) : ∃ q, val y 8 = val y (8 - i) + 256 ^ (8 - i) * q := by
  induction i with
  | zero => exact ⟨0, by simp⟩
  | succ i ih =>
    obtain ⟨q, hq⟩ := ih (by omega)
    refine ⟨y (8 - (i + 1)) + 256 * q, ?_⟩
    have e : 8 - i = (8 - (i + 1)) + 1 := by omega
    rw [hq, e]
    have hv : val y (8 - (i + 1) + 1) = val y (8 - (i + 1)) + y (8 - (i + 1)) * 256 ^ (8 - (i + 1)) := rfl
    rw [hv, Int.pow_succ]
    generalize (256 : Int) ^ (8 - (i + 1)) = p
    generalize y (8 - (i + 1)) = yy
    grind
theorem tm_whole (x y : Nat → Int) (i : Nat) (h : i ≤ 8) : ∃ q, val x i * val y 8 = tm x y i + 18446744073709551616 * q := by
  induction i with
  | zero => exact ⟨0, by simp [val, sm, tm]⟩
  | succ i ih =>
    obtain ⟨q, hq⟩ := ih (by omega)
    obtain ⟨r, hr⟩ := val_part y i (by omega)
    refine ⟨q + x i * r, ?_⟩
    have hv : val x (i + 1) = val x i + x i * 256 ^ i := rfl
    have ht : tm x y (i + 1) = tm x y i + x i * 256 ^ i * val y (8 - i) := rfl
    have hp : (256 : Int) ^ i * 256 ^ (8 - i) = 18446744073709551616 := by rw [← Int.pow_add, show i + (8 - i) = 8 from by omega]; rfl
    rw [hv, ht, Int.add_mul, hq, hr]
    generalize (256 : Int) ^ (8 - i) = p at *
    generalize (256 : Int) ^ i = p' at *
    rw [show x i * p' * (val y (8 - i) + p * r) = x i * p' * val y (8 - i) + (p' * p) * (x i * r) from by grind, hp]
    grind
theorem times_end (a b : Int) (ha0 : 0 ≤ a) (ha : a ≤ 18446744073709551615) (hb0 : 0 ≤ b) (hb : b ≤ 18446744073709551615) : IntKind.u64.wrap (tm (dg a) (dg b) 8) = IntKind.u64.wrap (a * b) := by
  obtain ⟨q, hq⟩ := tm_whole (dg a) (dg b) 8 (by omega)
  rw [val8 a ha0 ha, val8 b hb0 hb] at hq
  exact (uw_eq hq).symm
end Go.Proofs.Ytgadkelldbibgaa.Pl
