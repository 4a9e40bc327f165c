/- Four numbers in an array that come in. -/
import Derived.Test.YtkdamcacmecnaaaRowA
import Derived.Laws.IdiomArrays
namespace Go.Proofs.Ytkdamcacmecnaaa
open Go.ChangeShapes Go.WideShapes Go.ChangeAt Go.RowKit Go.Joins
set_option linter.unusedVariables false
set_option maxRecDepth 100000 in
theorem open_arr4i {H : Type} {enc : TypeId × Value → H} {W : World} {r : Reach} {b0 : Nat} {v : Value} {d : DataW H} {p : List MemPlace} (hv : Value.okWide Try.prog W r b0 23 v) (h : DataW.Trod enc Try.prog W 0 (fun _ => true) true 23 v d p) :
    ∃ x0 x1 x2 x3 : Int, v = .agg #[.int .i64 x0, .int .i64 x1, .int .i64 x2, .int .i64 x3] ∧ (-9223372036854775808 ≤ x0 ∧ x0 ≤ 9223372036854775807) ∧ (-9223372036854775808 ≤ x1 ∧ x1 ≤ 9223372036854775807) ∧ (-9223372036854775808 ≤ x2 ∧ x2 ≤ 9223372036854775807) ∧ (-9223372036854775808 ≤ x3 ∧ x3 ≤ 9223372036854775807) := by
  obtain ⟨cs, rfl, hsz⟩ : ∃ cs, v = .agg cs ∧ cs.size = Try.prog.cellsOf 23 := by
    have := hv
    cases v <;> simp [Value.okWide, Try.underlying23] at this
    exact ⟨_, rfl, this.1⟩
  have hc4 : Try.prog.cellsOf 23 = 4 := by kernel_rfl
  have hc1 : Try.prog.cellsOf 3 = 1 := by kernel_rfl
  obtain ⟨c0, c1, c2, c3, rfl⟩ := array4 (hsz.trans hc4)
  obtain ⟨fuel, hf⟩ := h
  obtain ⟨y0, y1, y2, y3, m, hx, hy0, hy1, hy2, hy3⟩ := trod_array4 Try.underlying23 hc1 hf
  obtain ⟨x0, e0, _, w0⟩ := DataW.trod_int Try.underlying3 hy0
  obtain ⟨x1, e1, _, w1⟩ := DataW.trod_int Try.underlying3 hy1
  obtain ⟨x2, e2, _, w2⟩ := DataW.trod_int Try.underlying3 hy2
  obtain ⟨x3, e3, _, w3⟩ := DataW.trod_int Try.underlying3 hy3
  simp at e0 e1 e2 e3
  subst e0 e1 e2 e3
  have hb : ∀ x, (Lit.int .i64 x).wf = true → -9223372036854775808 ≤ x ∧ x ≤ 9223372036854775807 := fun x hx => by simpa [Lit.wf, IntKind.min, IntKind.max, IntKind.signed, IntKind.bits] using hx
  exact ⟨x0, x1, x2, x3, rfl, hb _ w0, hb _ w1, hb _ w2, hb _ w3⟩
end Go.Proofs.Ytkdamcacmecnaaa
