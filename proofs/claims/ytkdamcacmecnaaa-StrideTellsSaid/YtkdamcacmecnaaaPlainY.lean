/- How long a stride's schedules are; by runs. No program. -/
import Derived.Test.YtkdamcacmecnaaaPlainX
namespace Go.Proofs.Ytkdamcacmecnaaa
set_option linter.unusedVariables false
namespace Sd
open Mc (St Act Goes Runs Does)
theorem frA_le (d : Int) (tags : List Int) (t : Nat) : (frA d tags t).length ≤ t := by
  induction t with
  | zero => simp [frA]
  | succ t ih => rw [frA_succ, List.length_append]; split <;> simp <;> omega
theorem gA_le (tags : List Int) (k : Nat) : (gA tags k).length ≤ k + 1 := by
  unfold gA
  have := frA_le (sd k tags.length) tags k
  rw [List.length_append]
  split <;> simp <;> omega
theorem rA_le (n k : Nat) : (rA n k).length ≤ k + 2 := by
  cases k with
  | zero => have := gA_le (List.replicate n (-1)) 0; show (gA (List.replicate n (-1)) 0).length ≤ 0 + 2; omega
  | succ k => have := gA_le (aT n k) (k + 1); show ((1, 1) :: gA (aT n k) (k + 1)).length ≤ _; simp only [List.length_cons]; omega
/-- the actions of the first runs -/
def aB (n : Nat) : Nat → List Act
  | 0 => []
  | k + 1 => aB n k ++ rA n k
theorem aB_aA (n k : Nat) : aB n (k + 1) = aA n k := by
  induction k with
  | zero => simp [aB, aA]
  | succ k ih =>
    show aB n (k + 1) ++ rA n (k + 1) = aA n k ++ rA n (k + 1)
    rw [ih]
theorem aB_le (n : Nat) {L : Nat} : ∀ k, k ≤ L + 1 → (aB n k).length ≤ k * (L + 2) := by
  intro k
  induction k with
  | zero => intro _; simp [aB]
  | succ k ih =>
    intro h
    have h1 := ih (by omega)
    have h2 := rA_le n k
    show (aB n k ++ rA n k).length ≤ _
    rw [List.length_append, Nat.add_mul]
    omega
theorem aB_b (n : Nat) {k : Nat} (hk : k ≤ 65536) : (aB n k).length ≤ 4296000000 := by
  have h := aB_le n (L := 65535) k (by omega)
  have : k * (65535 + 2) ≤ 65536 * (65535 + 2) := Nat.mul_le_mul_right _ hk
  omega
theorem bR_le (d : Int) (T : List Int) (i : Nat) : (bR d T i).length ≤ 4 := by
  unfold bR
  simp only [List.length_cons, List.length_append]
  split <;> split <;> simp
theorem bD_le (d : Int) (T : List Int) (l : Nat) : (bD d T l).length ≤ 4 * l := by
  induction l with
  | zero => simp [bD]
  | succ l ih =>
    have := bR_le d T l
    show (bR d T l ++ bD d T l).length ≤ _
    rw [List.length_append]
    omega
theorem bL_le (d : Int) (T : List Int) (l : Nat) : (bL d T l).length ≤ 4 * l + 2 := by
  have := bD_le d T l
  unfold bL
  simp only [List.length_cons, List.length_append]
  split <;> simp <;> omega
theorem mZ_inv {L : Int} {n k : Nat} (hL0 : 0 ≤ L) (hL : L < 65536) (hk : (k : Int) ≤ L + 1) (hn : 1 ≤ n ∧ n ≤ 1048576) : Mc.Inv (mZ L n k) := by
  cases k with
  | zero => exact Mc.new_inv L n hL0 hL hn.2
  | succ k => exact (does_ahead hL hn k (by omega)).inv (Mc.new_inv L n hL0 hL hn.2)
theorem mZ_tot (L : Int) (n k : Nat) : (mZ L n k).tot ≤ k := by
  cases k with
  | zero => exact Int.le_refl _
  | succ k => show (k : Int) ≤ _; omega
end Sd
end Go.Proofs.Ytkdamcacmecnaaa
