/- OpcodeDerives: whatever comes in: the law returns true and leaves its arguments as they were. No condition. -/
import Derived.Test.YtnpgiallgcliiaaO17
import Derived.Test.YtnpgiallgcliiaaRowO
namespace Go.Proofs.Ytnpgiallgcliiaa
open Go.ChangeShapes Go.WideShapes Go.ChangeAt Go.RowKit Go.Joins
set_option linter.unusedVariables false

set_option maxRecDepth 100000 in
theorem derives_lifted (os : Os) (started : os.Started) (H : Type) (enc : TypeId × Value → H) :
    ReturnsInHanded {} Try.checked os 12 .any (Rows.opcodeDerivesSpec.pre6 enc Try.prog Try.f12 Rows.opcodeDerivesRow.domain false) (Rows.opcodeDerivesSpec.post enc Try.prog Try.f12 false true false false) := by
  refine returnsInHanded_of_change (C := Try.checked) own started (by kernel_rfl) Try.func12
    (ChangeSpec.witness6 (enc := enc) (C := Try.checked) false ⟨#[], #[.agg #[.int .i64 0, .int .i64 0, .int .i64 0, .int .i64 0, .int .u64 0], .agg #[.int .u64 0, .int .u64 0], .agg #[.int .u64 0, .int .u64 0]], []⟩ 8 (by kernel_rfl) (by kernel_rfl) (by kernel_rfl) (by kernel_rfl)) ?_
  intro W base args ds gs before hval hW hcnd _
  have hW' := hW
  obtain ⟨p, q, hA0, hV, rfl, hfz, hnd⟩ := hW
  have hA : DataW.TrodAll enc Try.prog W 0 (fun _ => true) true Try.f12.params.toList args.toList ds p := hA0
  rw [Try.params12] at hA hval
  obtain ⟨v0, vs0, d0, ds0, p0, q0, hargs, rfl, rfl, h0, r0⟩ := trodAll_cons hA
  obtain ⟨v1, vs1, d1, ds1, p1, q1, rfl, rfl, rfl, h1, r1⟩ := trodAll_cons r0
  obtain ⟨v2, vs2, d2, ds2, p2, q2, rfl, rfl, rfl, h2, r2⟩ := trodAll_cons r1
  obtain ⟨rfl, rfl, rfl⟩ := trodAll_nil r2
  obtain rfl : args = #[v0, v1, v2] := by cases args; simp_all
  obtain ⟨k0, x0, a0, b0, z0, rfl, bk0, bx0, ba0, bb0, bz0, by0⟩ := open_op (hval 0 24 v0 rfl rfl) h0
  obtain ⟨x1, z1, y1a, y1b, m1, rfl, rfl, _, hy1a, hy1b⟩ := open_agg2 Try.underlying62 (by kernel_rfl) (by kernel_rfl) (hval 1 62 v1 rfl rfl) h1
  obtain ⟨a1, ea1, _, wa1⟩ := DataW.trod_int Try.underlying22 hy1a
  obtain ⟨b1, eb1, _, wb1⟩ := DataW.trod_int Try.underlying22 hy1b
  simp at ea1 eb1
  subst ea1 eb1
  have ba1 : 0 ≤ a1 ∧ a1 ≤ 18446744073709551615 := by simpa [Lit.wf, IntKind.min, IntKind.max, IntKind.signed, IntKind.bits] using wa1
  have bb1 : 0 ≤ b1 ∧ b1 ≤ 18446744073709551615 := by simpa [Lit.wf, IntKind.min, IntKind.max, IntKind.signed, IntKind.bits] using wb1
  obtain ⟨x2, z2, y2a, y2b, m2, rfl, rfl, _, hy2a, hy2b⟩ := open_agg2 Try.underlying62 (by kernel_rfl) (by kernel_rfl) (hval 2 62 v2 rfl rfl) h2
  obtain ⟨a2, ea2, _, wa2⟩ := DataW.trod_int Try.underlying22 hy2a
  obtain ⟨b2, eb2, _, wb2⟩ := DataW.trod_int Try.underlying22 hy2b
  simp at ea2 eb2
  subst ea2 eb2
  have ba2 : 0 ≤ a2 ∧ a2 ≤ 18446744073709551615 := by simpa [Lit.wf, IntKind.min, IntKind.max, IntKind.signed, IntKind.bits] using wa2
  have bb2 : 0 ≤ b2 ∧ b2 ≤ 18446744073709551615 := by simpa [Lit.wf, IntKind.min, IntKind.max, IntKind.signed, IntKind.bits] using wb2
  refine (derives_law k0 x0 a0 b0 z0 a1 b1 a2 b2 W bk0 bx0 ba0 bb0 bz0 by0 ba1.1 ba1.2 bb1.1 bb1.2 ba2.1 ba2.2 bb2.1 bb2.2).mono fun e W' ⟨he, hb⟩ => ?_
  subst he
  exact ⟨_, rfl, law_post laidOut (by kernel_rfl) hW' rfl (fun h => by subst h; rfl) (by kernel_rfl) Try.underlying4 hb⟩

theorem derives_holds : Rows.OpcodeDerivesSaid :=
  OpenClaim.holds_of_wide 12 Try.f12 rfl rfl rfl rfl rfl rfl rfl ⟨rfl, rfl, rfl, rfl, rfl⟩ rfl rfl rfl rfl rfl (by kernel_rfl) Try.func12 (by kernel_rfl)
    (of_decide_eq_true (by kernel_rfl)) (by unfold Func.isWrapper; first | (rw [if_pos (by decide +kernel)]; kernel_rfl) | (rw [if_neg (by decide +kernel)]; exact ⟨rfl, rfl⟩))
    (fun os started H enc _ => derives_lifted os started H enc)
end Go.Proofs.Ytnpgiallgcliiaa
