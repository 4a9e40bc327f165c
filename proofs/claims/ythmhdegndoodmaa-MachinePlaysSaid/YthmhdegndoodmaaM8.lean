/- The page's example; the walk of MachineBack. -/
import Derived.Test.YthmhdegndoodmaaM7
namespace Go.Proofs.Ythmhdegndoodmaa
open Go.ChangeShapes Go.WideShapes Go.ChangeAt Go.RowKit
set_option linter.unusedVariables false

theorem Acts.take {w : World} {A : Option Addr} {l : List Mc.Act} (h : Acts w A l) (k : Nat) : Acts w A (l.take k) := by
  intro h0
  have h1 : 0 < l.length := by
    rw [List.length_take] at h0; omega
  obtain ⟨b, off, hA, hb, hc⟩ := h h1
  refine ⟨b, off, hA, hb, fun i hi => ?_⟩
  rw [List.length_take] at hi
  have e : (l.take k).getD i (0, 0) = l.getD i (0, 0) := by
    rw [List.getD_eq_getElem?_getD, List.getD_eq_getElem?_getD, List.getElem?_take_of_lt (by omega)]
  rw [e]
  exact hc i (by omega)
def acells (l : List Mc.Act) : List Value := l.flatMap fun a => [.int .i64 a.1, .int .i64 a.2]
theorem acells_get (l : List Mc.Act) : ∀ (k : Nat), k < l.length → (acells l)[k * 2]? = some (.int .i64 (l.getD k (0, 0)).1) ∧ (acells l)[k * 2 + 1]? = some (.int .i64 (l.getD k (0, 0)).2) := by
  induction l with
  | nil => intro k hk; simp at hk
  | cons a l ih =>
    intro k hk
    cases k with
    | zero => exact ⟨rfl, rfl⟩
    | succ k =>
      have h := ih k (by simp at hk; omega)
      rw [show (k + 1) * 2 = k * 2 + 1 + 1 from by omega]
      exact h
theorem acts_new (w : World) (t : TypeId) (l : List Mc.Act) : Acts (w.alloc (.cells (acells l).toArray t)) (some ⟨w.heap.size, 0, none⟩) l := by
  intro _
  refine ⟨w.heap.size, 0, rfl, by simp, fun k hk => ?_⟩
  have h := acells_get l k hk
  rw [Nat.zero_add, cell_of_row _ _ _ _ _ _ (heap_alloc_new w _), cell_of_row _ _ _ _ _ _ (heap_alloc_new w _)]
  simpa using h

def two27 : List Mc.Act := [(2, 0), (1, 1), (6, 0), (3, 0), (7, 0)]
theorem two27_any (w : World) : Calls Try.prog 41 #[] w fun e w' => e = .returned (.slice (some ⟨w.heap.size, 0, none⟩) 5 5) ∧ Acts w' (some ⟨w.heap.size, 0, none⟩) two27 ∧ KW w w' := by
  have HA := hid (acts_new w 46 two27)
  go_enter Try.func41, Try.ntmps41
  go_wp2_with fail
  go_ret
  exact ⟨rfl, HA.out, (KW.refl w).alloc _⟩
theorem goes27_any (w : World) : Calls Try.prog 20 #[] w fun e w' => e = .returned (.bool true) ∧ KW w w' := by
  have hk := KW.refl w
  go_enter Try.func20, Try.ntmps20
  go_wp2_with fail
  refine (two27_any _).mono ?_
  rintro e w1 ⟨rfl, ha, hb⟩
  have HK := hid (hk.t hb)
  have H1 := hid (check_any 2 1 _ 5 two27 w1 (by decide) ha)
  rw [show Mc.check 2 1 two27 = (1, 5, 0) from by decide +kernel] at H1
  clear ha hb hk
  have hl : two27.length = 5 := rfl
  rw [hl] at H1
  clear hl
  go_wp2_with fail
  refine H1.out.mono ?_
  rintro e w2 ⟨rfl, hb⟩
  have HK2 := hid (HK.out.t hb)
  clear hb H1 HK
  go_wp2_with fail
  refine (two27_any _).mono ?_
  rintro e w3 ⟨rfl, ha, hb⟩
  have HK3 := hid (HK2.out.t hb)
  have H1 := hid (check_any 2 1 _ 5 (two27.take 4) w3 (by decide) (ha.take 4))
  rw [show Mc.check 2 1 (two27.take 4) = (0, 4, 19) from by decide +kernel] at H1
  clear ha hb HK2
  have hl : (two27.take 4).length = 4 := rfl
  rw [hl] at H1
  clear hl
  go_wp2_with fail
  refine H1.out.mono ?_
  rintro e w4 ⟨rfl, hb⟩
  have HK4 := hid (HK3.out.t hb)
  clear hb H1 HK3
  go_wp2_with fail
  go_ret
  exact ⟨rfl, HK4.out⟩
end Go.Proofs.Ythmhdegndoodmaa
