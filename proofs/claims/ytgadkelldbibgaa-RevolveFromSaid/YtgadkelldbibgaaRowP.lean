/- A spot that comes in. -/
import Derived.Test.YtgadkelldbibgaaRowA
import Derived.Test.YtgadkelldbibgaaN1
namespace Go.Proofs.Ytgadkelldbibgaa
open Go.ChangeShapes Go.WideShapes Go.ChangeAt Go.RowKit Go.Joins Go.Deep
set_option linter.unusedVariables false
def i64ok (x : Int) : Prop := -9223372036854775808 ≤ x ∧ x ≤ 9223372036854775807
set_option maxRecDepth 100000 in
theorem open_spot {H : Type} {enc : TypeId × Value → H} {W : World} {r : Reach} {b0 : Nat} {v : Value} {d : DataW H} {p : List MemPlace} (hv : Value.okWide Try.prog W r b0 24 v) (h : DataW.Trod enc Try.prog W 0 (fun _ => true) true 24 v d p) :
    ∃ (a q : Int) (A : Option Addr) (c : Nat) (tags : List Int), v = .agg #[.int .i64 a, .int .i64 q, .slice A tags.length c] ∧ i64ok a ∧ i64ok q ∧ tags.length ≤ 9223372036854775807 ∧ (∀ x ∈ tags, i64ok x) ∧ (A = none → c = 0) ∧
      Row1 W A tags.length fun i => .int .i64 (tags.getD i 0) := by
  obtain ⟨v0, v1, v2, y0, y1, y2, n, rfl, _, _, h0, h1, h2⟩ := open_agg3 Try.underlying24 (by kernel_rfl) (by kernel_rfl) hv h
  obtain ⟨a, e0, _, w0⟩ := DataW.trod_int Try.underlying3 h0
  obtain ⟨q, e1, _, w1⟩ := DataW.trod_int Try.underlying3 h1
  simp at e0 e1
  subst e0 e1
  have ba : i64ok a := by simpa [i64ok, Lit.wf, IntKind.min, IntKind.max, IntKind.signed, IntKind.bits] using w0
  have bq : i64ok q := by simpa [i64ok, Lit.wf, IntKind.min, IntKind.max, IntKind.signed, IntKind.bits] using w1
  rcases open_ints Try.underlying22 Try.underlying3 (by kernel_rfl) h2 with ⟨hcs, _⟩ | ⟨ad, len, cap, zs, hcs, _, hl, hm, hz, _, hx, hw⟩
  · simp at hcs
    subst hcs
    exact ⟨a, q, none, 0, [], rfl, ba, bq, by simp, fun x hx => by simp at hx, fun _ => rfl, fun h => by simp at h⟩
  · simp at hcs
    subst hcs
    unfold maxLen at hm
    have hlen : len ≤ zs.length := by rw [hz]; split <;> omega
    have hL : (zs.take len).length = len := by simp; omega
    refine ⟨a, q, some ad, cap, zs.take len, by rw [hL], ba, bq, by rw [hL]; omega, fun x hx => ?_, (fun h => by cases h), fun hp => ?_⟩
    · have := hw x (List.mem_of_mem_take hx)
      simpa [i64ok, Lit.wf, IntKind.min, IntKind.max, IntKind.signed, IntKind.bits] using this
    · rw [hL] at hp
      obtain ⟨b, off, rfl, hc⟩ := ints_at hx (by omega)
      refine ⟨b, off, rfl, World.block_lt_of_cell? W _ (hc 0 (by omega)), fun k hk => ?_⟩
      rw [hL] at hk
      have e : (zs.take len).getD k 0 = zs.getD k 0 := by
        rw [List.getD_eq_getElem?_getD, List.getD_eq_getElem?_getD, List.getElem?_take_of_lt hk]
      show _ = some (Value.int .i64 ((zs.take len).getD k 0))
      rw [e]
      exact hc k (by omega)
end Go.Proofs.Ytgadkelldbibgaa
