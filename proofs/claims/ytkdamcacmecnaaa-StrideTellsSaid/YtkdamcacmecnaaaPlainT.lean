/- The stride of a chain, plain. No program. -/
import Derived.Test.YtkdamcacmecnaaaPlainS
namespace Go.Proofs.Ytkdamcacmecnaaa
set_option linter.unusedVariables false
namespace Sd
/-- a power of two -/
def p2 (j : Nat) : Int := ((2 ^ j : Nat) : Int)
theorem p2_succ (j : Nat) : p2 (j + 1) = p2 j * 2 := by unfold p2; rw [Nat.pow_succ]; simp
theorem p2_pos (j : Nat) : 1 ≤ p2 j := by
  unfold p2
  have : 0 < 2 ^ j := Nat.pow_pos (by decide)
  omega
theorem p2_le {i j : Nat} (h : i ≤ j) : p2 i ≤ p2 j := by
  unfold p2
  have : 2 ^ i ≤ 2 ^ j := Nat.pow_le_pow_right (by decide) h
  omega
/-- j is the stride's exponent -/
def Is (k s : Int) (j : Nat) : Prop := k < s * p2 j ∧ ∀ i, i < j → s * p2 i ≤ k
theorem Is.eq {k s : Int} {i j : Nat} (h : Is k s i) (g : Is k s j) : i = j := by
  rcases Nat.lt_trichotomy i j with c | c | c
  · have := g.2 i c; have := h.1; omega
  · exact c
  · have := h.2 j c; have := g.1; omega
def ex (k s : Int) : Nat → Nat → Nat
  | 0, j => j
  | f + 1, j => if k < s * p2 j then j else ex k s f (j + 1)
theorem ex_is (k s : Int) (hs : 1 ≤ s) : ∀ f j, (∀ i, i < j → s * p2 i ≤ k) → k < s * p2 (j + f) → Is k s (ex k s f j) := by
  intro f
  induction f with
  | zero => intro j h1 h2; exact ⟨h2, h1⟩
  | succ f ih =>
    intro j h1 h2
    unfold ex
    by_cases c : k < s * p2 j
    · rw [if_pos c]; exact ⟨c, h1⟩
    · rw [if_neg c]
      refine ih (j + 1) (fun i hi => ?_) (by rw [show j + 1 + f = j + (f + 1) by omega]; exact h2)
      rcases (show i < j ∨ i = j by omega) with h | rfl
      · exact h1 i h
      · omega
/-- the stride -/
def jx (k s : Int) : Nat := ex k s 16 0
def sd (k s : Int) : Int := p2 (jx k s)
theorem jx_is {k s : Int} (hk : k < 65536) (hs : 1 ≤ s) : Is k s (jx k s) := by
  refine ex_is k s hs 16 0 (fun i hi => absurd hi (by omega)) ?_
  rw [show p2 (0 + 16) = 65536 from by decide]
  omega
theorem Is.le {k s : Int} {j : Nat} (h : Is k s j) (hk : k < 65536) (hs : 1 ≤ s) : j ≤ 16 := by
  apply Classical.byContradiction
  intro c
  have := h.2 16 (by omega)
  rw [show p2 16 = 65536 from by decide] at this
  omega
theorem jx_le {k s : Int} (hk : k < 65536) (hs : 1 ≤ s) : jx k s ≤ 16 := (jx_is hk hs).le hk hs
theorem sd_pos (k s : Int) : 1 ≤ sd k s := p2_pos _
theorem sd_le {k s : Int} (hk : k < 65536) (hs : 1 ≤ s) : sd k s ≤ 65536 := by
  have := p2_le (jx_le hk hs)
  rw [show p2 16 = 65536 from by decide] at this
  exact this
/-- the sum of what is left over -/
def tot (l : Nat) (d : Int) : Int := l + Mc.sum (fun i => (i : Int) % d) l
def tri (x : Int) : Int := x * (x - 1) / 2
theorem tri_succ (x : Int) : tri (x + 1) = tri x + x := by
  unfold tri
  have e : (x + 1) * (x + 1 - 1) = x * (x - 1) + 2 * x := by
    rw [show x + 1 - 1 = x by omega, Int.add_mul, Int.mul_sub]
    simp only [Int.mul_one, Int.one_mul]
    omega
  rw [e]
  omega
theorem sum_mod (d : Nat) (hd : 0 < d) (l : Nat) : Mc.sum (fun i => (i : Int) % (d : Int)) l = ((l / d : Nat) : Int) * tri d + tri ((l % d : Nat) : Int) := by
  induction l with
  | zero => simp [Mc.sum, tri]
  | succ l ih =>
    simp only [Mc.sum]
    rw [ih]
    have e0 : d * (l / d) + l % d = l := Nat.div_add_mod l d
    have hlt := Nat.mod_lt l hd
    have em : (l : Int) % (d : Int) = ((l % d : Nat) : Int) := by simp
    rw [em]
    by_cases c : l % d + 1 < d
    · have e3 : l + 1 = d * (l / d) + (l % d + 1) := by omega
      have e1 : (l + 1) / d = l / d := by
        rw [e3, Nat.mul_add_div hd, Nat.div_eq_of_lt c, Nat.add_zero]
      have e2 : (l + 1) % d = l % d + 1 := by
        rw [e3, Nat.mul_add_mod, Nat.mod_eq_of_lt c]
      rw [e1, e2]
      have := tri_succ ((l % d : Nat) : Int)
      rw [show (((l % d + 1 : Nat)) : Int) = ((l % d : Nat) : Int) + 1 by omega, this]
      omega
    · have e3 : l + 1 = d * (l / d + 1) := by rw [Nat.mul_add]; omega
      have e1 : (l + 1) / d = l / d + 1 := by rw [e3, Nat.mul_div_cancel_left _ hd]
      have e2 : (l + 1) % d = 0 := by rw [e3, Nat.mul_mod_right]
      have e4 : l % d = d - 1 := by omega
      rw [e1, e2, e4]
      have h5 := tri_succ ((d - 1 : Nat) : Int)
      rw [show (((d - 1 : Nat)) : Int) + 1 = (d : Int) by omega] at h5
      have h6 : tri ((0 : Nat) : Int) = 0 := by decide
      have h7 : (((l / d + 1 : Nat)) : Int) * tri (d : Int) = ((l / d : Nat) : Int) * tri (d : Int) + tri (d : Int) := by
        rw [Int.natCast_add, Int.add_mul]; simp
      rw [h6, h7]
      omega
end Sd
end Go.Proofs.Ytkdamcacmecnaaa
