/- A slice of actions that comes in. -/
import Derived.Test.YtgadkelldbibgaaRowB
import Derived.Deep.SlicePairs
import Derived.Test.YtgadkelldbibgaaM7
namespace Go.Proofs.Ytgadkelldbibgaa
open Go.ChangeShapes Go.WideShapes Go.ChangeAt Go.RowKit Go.Joins Go.Deep
set_option linter.unusedVariables false
theorem open_acts {H : Type} {enc : TypeId × Value → H} {W : World} {v : Value} {d : DataW H} {p : List MemPlace} (hs : ∃ a n c, v = .slice a n c) (h : DataW.Trod enc Try.prog W 0 (fun _ => true) true 31 v d p) :
    ∃ (A : Option Addr) (c : Nat) (l : List Mc.Act), v = .slice A l.length c ∧ l.length ≤ 9223372036854775807 ∧ (∀ a ∈ l, (-9223372036854775808 ≤ a.1 ∧ a.1 ≤ 9223372036854775807) ∧ -9223372036854775808 ≤ a.2 ∧ a.2 ≤ 9223372036854775807) ∧ Acts W A l := by
  obtain ⟨a0, n0, c0, rfl⟩ := hs
  obtain ⟨fuel, hf⟩ := h
  rcases open_slice_pairs (P := Try.prog) Try.underlying31 Try.underlying27 (by kernel_rfl) (by kernel_rfl) (by kernel_rfl) (by kernel_rfl) (by kernel_rfl) hf with ⟨hcs, _⟩ | ⟨a, len, cap, m, n, V0, V1, D0, D1, P0, P1, hcs, _, hl, hm, hmm, _, hx⟩
  · simp [Value.cells] at hcs
    obtain ⟨rfl, rfl, rfl⟩ := hcs
    exact ⟨none, 0, [], rfl, by simp, fun k hk => by simp at hk, fun h => by simp at h⟩
  · simp [Value.cells] at hcs
    obtain ⟨rfl, rfl, rfl⟩ := hcs
    unfold maxLen at hm
    have hlen : n0 ≤ m := by rw [hmm]; split <;> omega
    have each : ∀ k, k < n0 → V0 k = .int .i64 (intOf (V0 k)) ∧ V1 k = .int .i64 (intOf (V1 k)) ∧ (-9223372036854775808 ≤ intOf (V0 k) ∧ intOf (V0 k) ≤ 9223372036854775807) ∧ -9223372036854775808 ≤ intOf (V1 k) ∧ intOf (V1 k) ≤ 9223372036854775807 := by
      intro k hk
      obtain ⟨_, _, h0, h1⟩ := hx k (by omega)
      obtain ⟨x, e0, _, wx⟩ := DataW.trod_int Try.underlying3 h0
      obtain ⟨y, e1, _, wy⟩ := DataW.trod_int Try.underlying3 h1
      simp at e0 e1
      rw [e0, e1]
      have bx : -9223372036854775808 ≤ x ∧ x ≤ 9223372036854775807 := by simpa [Lit.wf, IntKind.min, IntKind.max, IntKind.signed, IntKind.bits] using wx
      have yb : -9223372036854775808 ≤ y ∧ y ≤ 9223372036854775807 := by simpa [Lit.wf, IntKind.min, IntKind.max, IntKind.signed, IntKind.bits] using wy
      exact ⟨rfl, rfl, bx, yb⟩
    have hL : ((List.range n0).map fun k => (intOf (V0 k), intOf (V1 k))).length = n0 := by simp
    refine ⟨some a, c0, (List.range n0).map fun k => (intOf (V0 k), intOf (V1 k)), by rw [hL], by rw [hL]; omega, fun x hx => ?_, fun hp => ?_⟩
    · obtain ⟨k, hk, rfl⟩ := List.mem_map.1 hx
      have := each k (by simpa using hk)
      exact ⟨this.2.2.1, this.2.2.2⟩
    · rw [hL] at hp
      obtain ⟨b, off, spot⟩ := a
      have h00 := (hx 0 (by omega)).1
      have hspot : spot = none := by simpa [Addr.add] using World.cell?_spot h00
      subst hspot
      refine ⟨b, off, rfl, World.block_lt_of_cell? W _ (by simpa using h00), fun k hk => ?_⟩
      rw [hL] at hk
      obtain ⟨q0, q1, _, _⟩ := hx k (by omega)
      rw [(each k hk).1] at q0
      rw [(each k hk).2.1] at q1
      rw [Go.WideShapes.add_plain] at q0 q1
      have e : ((List.range n0).map fun k => (intOf (V0 k), intOf (V1 k))).getD k (0, 0) = (intOf (V0 k), intOf (V1 k)) := by simp [hk]
      rw [e]
      exact ⟨q0, by rw [Nat.add_assoc]; exact q1⟩
end Go.Proofs.Ytgadkelldbibgaa
