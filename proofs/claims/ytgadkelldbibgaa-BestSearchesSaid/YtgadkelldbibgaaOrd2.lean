/- A region of XOrd in which two hard operations may come next, in either order. -/
import Derived.Test.YtgadkelldbibgaaOrd
namespace Go.Proofs.Ytgadkelldbibgaa
open Go.ChangeShapes Go.WideShapes Go.ChangeAt Go.RowKit
set_option linter.unusedVariables false
section
variable {P : Program} {ops : Array Oper} {Q : Exit → Act → World → Prop} {md : Region.Mode} {S : World → Prop} {L : Nat}
theorem wpX_two {i j : Nat} {oi oj : Oper} {n : Nat} {l : Array Bool} {a : Act} {w : World} (hr : Region.ready md ops l = [i, j]) (hoi : ops[i]? = some oi) (hoj : ops[j]? = some oj)
    (hi : ∀ K : Act → World → Prop, (∀ a' w', (i ≠ L → S w') → wpX P md ops Q S L n (l.setIfInBounds i true) a' w' → K a' w') →
      if Region.wanted oi (yielded ops a.tmps) = true then Oper.wp P oi a w K Q else K (a.put oi.dst undef) w)
    (hj : ∀ K : Act → World → Prop, (∀ a' w', (j ≠ L → S w') → wpX P md ops Q S L n (l.setIfInBounds j true) a' w' → K a' w') →
      if Region.wanted oj (yielded ops a.tmps) = true then Oper.wp P oj a w K Q else K (a.put oj.dst undef) w) : wpX P md ops Q S L (n + 1) l a w := by
  refine ⟨fun h0 => (by rw [hr] at h0; cases h0), fun k hk => ?_⟩
  rw [hr] at hk
  have key : ∀ (k : Nat) (o : Oper), ops[k]? = some o → (∀ K : Act → World → Prop, (∀ a' w', (k ≠ L → S w') → wpX P md ops Q S L n (l.setIfInBounds k true) a' w' → K a' w') →
      if Region.wanted o (yielded ops a.tmps) = true then Oper.wp P o a w K Q else K (a.put o.dst undef) w) → wpOp P ops Q k (fun a' w' => (k ≠ L → S w') ∧ wpX P md ops Q S L n (l.setIfInBounds k true) a' w') a w := by
    intro k o ho h
    have h1 := h (fun a' w' => (k ≠ L → S w') ∧ wpX P md ops Q S L n (l.setIfInBounds k true) a' w') (fun a' w' hS hx => ⟨hS, hx⟩)
    unfold wpOp
    simp only [ho]
    split
    · rename_i hw
      rw [if_pos hw] at h1
      exact .inl h1
    · rename_i hw
      rwa [if_neg hw] at h1
  rcases (show k = i ∨ k = j by simpa using hk) with rfl | rfl
  · exact key _ oi hoi hi
  · exact key _ oj hoj hj
/-- the same, both goals as one -/
theorem wpX_both {i j : Nat} {oi oj : Oper} {n : Nat} {l : Array Bool} {a : Act} {w : World} (hr : Region.ready md ops l = [i, j]) (hoi : ops[i]? = some oi) (hoj : ops[j]? = some oj)
    (h : (∀ K : Act → World → Prop, (∀ a' w', (i ≠ L → S w') → wpX P md ops Q S L n (l.setIfInBounds i true) a' w' → K a' w') →
      if Region.wanted oi (yielded ops a.tmps) = true then Oper.wp P oi a w K Q else K (a.put oi.dst undef) w) ∧
      (∀ K : Act → World → Prop, (∀ a' w', (j ≠ L → S w') → wpX P md ops Q S L n (l.setIfInBounds j true) a' w' → K a' w') →
      if Region.wanted oj (yielded ops a.tmps) = true then Oper.wp P oj a w K Q else K (a.put oj.dst undef) w)) : wpX P md ops Q S L (n + 1) l a w := wpX_two hr hoi hoj h.1 h.2
end
end Go.Proofs.Ytgadkelldbibgaa
