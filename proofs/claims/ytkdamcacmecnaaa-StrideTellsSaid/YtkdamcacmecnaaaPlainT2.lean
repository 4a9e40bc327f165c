/- The stride found from below and from above. No program. -/
import Derived.Test.YtkdamcacmecnaaaPlainT
namespace Go.Proofs.Ytkdamcacmecnaaa
set_option linter.unusedVariables false
namespace Sd
theorem jx_eq {k s : Int} (hk : k < 65536) (hs : 1 ≤ s) {j : Nat} (hj : j ≤ jx k s) (c : k < s * p2 j) : j = jx k s :=
  Is.eq ⟨c, fun i hi => (jx_is hk hs).2 i (by omega)⟩ (jx_is hk hs)
theorem jx_lt {k s : Int} (hk : k < 65536) (hs : 1 ≤ s) {j : Nat} (hj : j ≤ jx k s) (c : ¬ k < s * p2 j) : j + 1 ≤ jx k s := by
  apply Classical.byContradiction
  intro h
  obtain rfl : j = jx k s := by omega
  exact c (jx_is hk hs).1
theorem jx_dn {k s : Int} (hk : k < 65536) (hs : 1 ≤ s) {j : Nat} (hj : jx k s ≤ j + 1) (c : k < s * p2 j) : jx k s ≤ j := by
  apply Classical.byContradiction
  intro h
  have := (jx_is hk hs).2 j (by omega)
  omega
theorem jx_up {k s : Int} (hk : k < 65536) (hs : 1 ≤ s) {j : Nat} (hj : jx k s ≤ j + 1) (c : ¬ k < s * p2 j) : jx k s = j + 1 := by
  apply Classical.byContradiction
  intro h
  have h1 := (jx_is hk hs).1
  have h2 : p2 (jx k s) ≤ p2 j := p2_le (by omega)
  have h3 : s * p2 (jx k s) ≤ s * p2 j := Int.mul_le_mul_of_nonneg_left h2 (by omega)
  omega
theorem p2_hi {j : Nat} (h : j ≤ 16) : p2 j ≤ 65536 := by
  have := p2_le h
  rw [show p2 16 = 65536 from by decide] at this
  exact this
theorem mul_b {a b x y : Int} (h0 : 0 ≤ a) (h1 : a ≤ x) (h2 : 0 ≤ b) (h3 : b ≤ y) : 0 ≤ a * b ∧ a * b ≤ x * y :=
  ⟨Int.mul_nonneg h0 h2, Int.mul_le_mul h1 h3 h2 (by omega)⟩
theorem tot_b {l : Nat} {d : Int} (hl : l ≤ 65535) (hd : 1 ≤ d) (hd2 : d ≤ 65536) (k : Nat) (hk : k ≤ l) : 0 ≤ Mc.sum (fun i => (i : Int) % d) k ∧ Mc.sum (fun i => (i : Int) % d) k ≤ 4294836225 := by
  refine ⟨Mc.sum_nn _ _ fun i _ => Int.emod_nonneg _ (by omega), ?_⟩
  have := Mc.sum_le (fun i => (i : Int) % d) k 65535 fun i _ => by have := Int.emod_lt_of_pos (i : Int) (show 0 < d by omega); omega
  omega
theorem tot_ref {l : Nat} {d : Int} (hd : 1 ≤ d) : tot l d = l + (l : Int) / d * (d * (d - 1) / 2) + (l : Int) % d * ((l : Int) % d - 1) / 2 := by
  obtain ⟨e, rfl⟩ : ∃ e : Nat, d = e := ⟨d.toNat, by omega⟩
  unfold tot
  rw [sum_mod e (by omega) l]
  unfold tri
  have h1 : ((l : Int) % (e : Int)) = ((l % e : Nat) : Int) := by simp
  have h2 : ((l : Int) / (e : Int)) = ((l / e : Nat) : Int) := by simp
  rw [h1, h2]
  omega
end Sd
end Go.Proofs.Ytkdamcacmecnaaa
