/- The reference machine as cells; what is known of what Do told. -/
import Derived.Test.YtgadkelldbibgaaN4
import Derived.Test.YtgadkelldbibgaaOrd2
namespace Go.Proofs.Ytgadkelldbibgaa
open Go.ChangeShapes Go.WideShapes Go.ChangeAt Go.RowKit
set_option linter.unusedVariables false

/-- what is known of what Do told -/
def IsD (m : Mc.St) (c : Int) (u : Value) (w : World) : Prop := ∃ v, u = .tuple #[.agg (rm m v), .int .i64 c] ∧ RT w v m.tags
def IsDm (m : Mc.St) (u : Value) (w : World) : Prop := ∃ v, u = .agg (rm m v) ∧ RT w v m.tags
def IsDv (c : Int) (u : Value) (w : World) : Prop := u = .int .i64 c
theorem IsD.keep {m : Mc.St} {c : Int} {u : Value} {w w' : World} (h : IsD m c u w) (k : KW w w') : IsD m c u w' := by
  obtain ⟨v, e, h⟩ := h; exact ⟨v, e, h.kw k⟩
theorem IsDm.keep {m : Mc.St} {u : Value} {w w' : World} (h : IsDm m u w) (k : KW w w') : IsDm m u w' := by
  obtain ⟨v, e, h⟩ := h; exact ⟨v, e, h.kw k⟩
theorem rm_size (m : Mc.St) (v : Value) : (rm m v).size = 5 := rfl
theorem RT.one {w : World} {v : Value} {tags : List Int} (h : RT w v tags) : v.oneCell' = true := by obtain ⟨A, c, rfl, _⟩ := h; rfl
def rmf (m : Mc.St) (v : Value) (i : Nat) : Value := (rm m v).toList.getD i undef
theorem rm_get (m : Mc.St) (v : Value) : ∀ i, i < 5 → (rm m v)[i]? = some (rmf m v i) := by
  intro i hi
  rcases (show i = 0 ∨ i = 1 ∨ i = 2 ∨ i = 3 ∨ i = 4 by omega) with rfl | rfl | rfl | rfl | rfl <;> rfl
theorem rm_one {m : Mc.St} {v : Value} (h : v.oneCell' = true) : ∀ i, i < 5 → (rmf m v i).oneCell' = true := by
  intro i hi
  rcases (show i = 0 ∨ i = 1 ∨ i = 2 ∨ i = 3 ∨ i = 4 by omega) with rfl | rfl | rfl | rfl | rfl
  · rfl
  · rfl
  · rfl
  · exact h
  · rfl

end Go.Proofs.Ytgadkelldbibgaa
