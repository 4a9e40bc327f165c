/- Lists of actions in memory, more. -/
import Derived.Test.YtgadkelldbibgaaM7
namespace Go.Proofs.Ytgadkelldbibgaa
open Go.ChangeShapes Go.WideShapes Go.ChangeAt Go.RowKit
set_option linter.unusedVariables false

theorem Acts.take {w : World} {A : Option Addr} {l : List Mc.Act} (h : Acts w A l) (k : Nat) : Acts w A (l.take k) := by
  intro h0
  have h1 : 0 < l.length := by
    rw [List.length_take] at h0; omega
  obtain ⟨b, off, hA, hb, hc⟩ := h h1
  refine ⟨b, off, hA, hb, fun i hi => ?_⟩
  rw [List.length_take] at hi
  have e : (l.take k).getD i (0, 0) = l.getD i (0, 0) := by
    rw [List.getD_eq_getElem?_getD, List.getD_eq_getElem?_getD, List.getElem?_take_of_lt (by omega)]
  rw [e]
  exact hc i (by omega)
def acells (l : List Mc.Act) : List Value := l.flatMap fun a => [.int .i64 a.1, .int .i64 a.2]
theorem acells_get (l : List Mc.Act) : ∀ (k : Nat), k < l.length → (acells l)[k * 2]? = some (.int .i64 (l.getD k (0, 0)).1) ∧ (acells l)[k * 2 + 1]? = some (.int .i64 (l.getD k (0, 0)).2) := by
  induction l with
  | nil => intro k hk; simp at hk
  | cons a l ih =>
    intro k hk
    cases k with
    | zero => exact ⟨rfl, rfl⟩
    | succ k =>
      have h := ih k (by simp at hk; omega)
      rw [show (k + 1) * 2 = k * 2 + 1 + 1 from by omega]
      exact h
theorem acts_new (w : World) (t : TypeId) (l : List Mc.Act) : Acts (w.alloc (.cells (acells l).toArray t)) (some ⟨w.heap.size, 0, none⟩) l := by
  intro _
  refine ⟨w.heap.size, 0, rfl, by simp, fun k hk => ?_⟩
  have h := acells_get l k hk
  rw [Nat.zero_add, cell_of_row _ _ _ _ _ _ (heap_alloc_new w _), cell_of_row _ _ _ _ _ _ (heap_alloc_new w _)]
  simpa using h

end Go.Proofs.Ytgadkelldbibgaa
