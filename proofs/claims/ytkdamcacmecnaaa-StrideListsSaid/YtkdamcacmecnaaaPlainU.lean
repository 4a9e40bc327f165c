/- The document's way to the next action (stride). No program. -/
import Derived.Test.YtkdamcacmecnaaaPlainT
namespace Go.Proofs.Ytkdamcacmecnaaa
set_option linter.unusedVariables false
namespace Sd
open Mc (St Act)
theorem off_ref {d t : Int} {tags : List Int} (ht : 0 ≤ t) (h1 : t % d ≠ 0) (h2 : 0 ≤ slot tags t) (h3 : ∀ x : Int, 0 ≤ x → x < t → ¬ (x % d ≠ 0 ∧ 0 ≤ slot tags x)) : off d tags = slot tags t := by
  obtain ⟨q1, q2⟩ := slot_nn h2
  have hb : bad d t = true := by unfold bad; rw [decide_eq_true h1, decide_eq_true ht]; rfl
  rcases off_cases d tags with ⟨_, h⟩ | ⟨i, hi, e, g1, g2, g3⟩
  · have := h _ q1; rw [q2, hb] at this; cases this
  · have g4 := g2 _ q1 (by rw [q2]; exact hb)
    rw [q2] at g4
    unfold bad at g1
    simp only [Bool.and_eq_true, decide_eq_true_eq] at g1
    have g5 : tags.getD i 0 = t := by
      apply Classical.byContradiction
      intro hne
      refine h3 (tags.getD i 0) g1.1 (by omega) ⟨g1.2, ?_⟩
      rcases slot_cases tags (tags.getD i 0) with ⟨_, h⟩ | ⟨j, _, h, _⟩
      · exact absurd rfl (h i hi)
      · omega
    rw [e]
    exact (slot_is hi g5 fun j hj => by rw [← g5]; exact g3 j hj).symm
theorem off_none {d k : Int} {tags : List Int} (hk : ∀ i, i < tags.length → tags.getD i 0 ≤ k) (h3 : ∀ x : Int, 0 ≤ x → x ≤ k → ¬ (x % d ≠ 0 ∧ 0 ≤ slot tags x)) : off d tags = -1 := by
  rcases off_cases d tags with ⟨h, _⟩ | ⟨i, hi, e, g1, g2, g3⟩
  · exact h
  · unfold bad at g1
    simp only [Bool.and_eq_true, decide_eq_true_eq] at g1
    refine absurd ?_ (h3 (tags.getD i 0) g1.1 (hk i hi))
    refine ⟨g1.2, ?_⟩
    rcases slot_cases tags (tags.getD i 0) with ⟨_, h⟩ | ⟨j, _, h, _⟩
    · exact absurd rfl (h i hi)
    · omega
/-- the greatest tag -/
def tmx (tags : List Int) : Nat → Int
  | 0 => -1
  | i + 1 => max (tmx tags i) (tags.getD i 0)
theorem tmx_ge (tags : List Int) (n : Nat) : -1 ≤ tmx tags n ∧ ∀ i, i < n → tags.getD i 0 ≤ tmx tags n := by
  induction n with
  | zero => exact ⟨Int.le_refl _, fun i h => absurd h (by omega)⟩
  | succ n ih =>
    refine ⟨by simp only [tmx]; omega, fun i hi => ?_⟩
    rcases (show i < n ∨ i = n by omega) with h | rfl
    · have := ih.2 i h; simp only [tmx]; omega
    · simp only [tmx]; omega
theorem tmx_le (tags : List Int) (x : Int) (hx : -1 ≤ x) (n : Nat) (h : ∀ i, i < n → tags.getD i 0 ≤ x) : tmx tags n ≤ x := by
  induction n with
  | zero => exact hx
  | succ n ih => have := ih fun i hi => h i (by omega); have := h n (by omega); simp only [tmx]; omega
theorem tmx_base (tags : List Int) : (base tags = -1 ∧ tmx tags tags.length = -1) ∨ ∃ j : Nat, j < tags.length ∧ base tags = j ∧ 0 ≤ tags.getD j 0 ∧ tmx tags tags.length = tags.getD j 0 ∧ slot tags (tags.getD j 0) = j := by
  rcases base_cases tags with ⟨h1, h2⟩ | ⟨j, hj, h1, h2, h3, h4⟩
  · refine .inl ⟨h1, ?_⟩
    have a := (tmx_ge tags tags.length).1
    have b := tmx_le tags (-1) (by omega) tags.length fun i hi => by have := h2 i hi; omega
    omega
  · refine .inr ⟨j, hj, h1, h2, ?_, slot_is hj rfl fun i hi e => by have := h4 i hi; omega⟩
    have a := (tmx_ge tags tags.length).2 j hj
    have b := tmx_le tags (tags.getD j 0) (by omega) tags.length h3
    omega
def nxA (k : Int) (ended : Bool) (a : Int) (tags : List Int) : Option Act :=
  if a < k then some (1, k - a)
  else if 0 ≤ off (sd k tags.length) tags then some (4, off (sd k tags.length) tags)
  else if k % sd k tags.length = 0 ∧ slot tags k < 0 ∧ 0 ≤ slot tags (-1) then some (2, slot tags (-1))
  else if ended = true then some (5, 0) else none
def nxB (a p : Int) (tags : List Int) : Option Act :=
  if 0 ≤ base tags ∧ p ≤ tags.getD (base tags).toNat 0 then some (4, base tags)
  else if p = 0 then none
  else if a = p - 1 then some (7, 0)
  else if 0 ≤ base tags ∧ (a < tags.getD (base tags).toNat 0 ∨ p ≤ a) then some (3, base tags)
  else if a < p then some (1, p - 1 - a)
  else none
open Classical in
theorem nx_eq (k : Int) (ended : Bool) (a p : Int) (tags : List Int) : nx k ended a p tags = if ¬ okS k a p tags then none else if p < 0 then nxA k ended a tags else nxB a p tags := rfl
theorem nxB_top {a p : Int} {tags : List Int} (hp : 0 ≤ p) : nxB a p tags =
    if p ≤ tmx tags tags.length then some (4, slot tags (tmx tags tags.length))
    else if p = 0 then none
    else if a = p - 1 then some (7, 0)
    else if 0 ≤ tmx tags tags.length ∧ (a < tmx tags tags.length ∨ p ≤ a) then some (3, slot tags (tmx tags tags.length))
    else if a < p then some (1, p - 1 - a)
    else none := by
  unfold nxB
  rcases tmx_base tags with ⟨h1, h2⟩ | ⟨j, hj, h1, h2, h3, h4⟩
  · rw [h1, h2]
    simp only [show ¬ (0 : Int) ≤ -1 by omega, false_and, if_false, show ¬ p ≤ -1 by omega]
  · rw [h3, h4, h1, Int.toNat_natCast]
    generalize tags.getD j 0 = x at *
    by_cases c : p ≤ x
    · rw [if_pos c, if_pos ⟨by omega, c⟩]
    · rw [if_neg c, if_neg (fun h => c h.2)]
      by_cases c2 : a < x ∨ p ≤ a
      · rw [if_pos (c := 0 ≤ (j : Int) ∧ _) ⟨by omega, c2⟩, if_pos (c := 0 ≤ x ∧ _) ⟨by omega, c2⟩]
      · rw [if_neg (c := 0 ≤ (j : Int) ∧ _) (fun h => c2 h.2), if_neg (c := 0 ≤ x ∧ _) (fun h => c2 h.2)]
end Sd
end Go.Proofs.Ytkdamcacmecnaaa
