/- A slice of ints that comes in. -/
import Derived.Test.YtnpgiallgcliiaaRow0
namespace Go.Proofs.Ytnpgiallgcliiaa
open Go.ChangeShapes Go.WideShapes Go.ChangeAt Go.RowKit Go.Joins
set_option linter.unusedVariables false
/-- a slice of ints as it comes in -/
theorem open_i64s {H : Type} {enc : TypeId × Value → H} {W : World} {v : Value} {d : DataW H} {p : List MemPlace} (hs : ∃ a n c, v = .slice a n c) (h : DataW.Trod enc Try.prog W 0 (fun _ => true) true 43 v d p) :
    ∃ (A : Option Addr) (n c : Nat) (f : Nat → Int), v = .slice A n c ∧ n ≤ 9223372036854775807 ∧ (∀ k, k < n → -9223372036854775808 ≤ f k ∧ f k ≤ 9223372036854775807) ∧
      (0 < n → ∃ b off, A = some ⟨b, off, none⟩ ∧ b < W.heap.size ∧ ∀ k, k < n → W.cell? ⟨b, off + k, none⟩ = some (.int .i64 (f k))) := by
  obtain ⟨a0, n0, c0, rfl⟩ := hs
  obtain ⟨fuel, hf⟩ := h
  rcases open_ints Try.underlying43 Try.underlying3 (by kernel_rfl) hf with ⟨hcs, _⟩ | ⟨a, len, cap, zs, hcs, _, hl, hm, hz, _, hx, hw⟩
  · simp [Value.cells] at hcs
    obtain ⟨rfl, rfl, rfl⟩ := hcs
    exact ⟨none, 0, 0, fun _ => 0, rfl, by omega, fun k hk => by omega, fun h => by omega⟩
  · simp [Value.cells] at hcs
    obtain ⟨rfl, rfl, rfl⟩ := hcs
    unfold maxLen at hm
    have hlen : n0 ≤ zs.length := by rw [hz]; split <;> omega
    refine ⟨some a, n0, c0, fun k => zs.getD k 0, rfl, by omega, fun k hk => ?_, fun hp => ?_⟩
    · have hk' : k < zs.length := by omega
      have hmem : zs.getD k 0 ∈ zs := by
        rw [List.getD_eq_getElem?_getD, List.getElem?_eq_getElem hk']
        exact List.getElem_mem hk'
      simpa [Lit.wf, IntKind.min, IntKind.max, IntKind.signed, IntKind.bits] using hw _ hmem
    · obtain ⟨b, off, rfl, hc⟩ := ints_at hx (by omega)
      exact ⟨b, off, rfl, World.block_lt_of_cell? W _ (hc 0 (by omega)), fun k hk => hc k (by omega)⟩


end Go.Proofs.Ytnpgiallgcliiaa
