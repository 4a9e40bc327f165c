/- BestAny: whatever comes in: the law returns true and leaves its arguments as they were. No condition. -/
import Derived.Test.YtgadkelldbibgaaBT
import Derived.Test.YtgadkelldbibgaaRR
namespace Go.Proofs.Ytgadkelldbibgaa
open Go.ChangeShapes Go.WideShapes Go.ChangeAt Go.RowKit Go.Joins
set_option linter.unusedVariables false

set_option maxRecDepth 100000 in
theorem any29_lifted (os : Os) (started : os.Started) (H : Type) (enc : TypeId × Value → H) :
    ReturnsInHanded {} Try.checked os 12 .any (Rows.bestAnySpec.pre6 enc Try.prog Try.f12 Rows.bestAnyRow.domain false) (Rows.bestAnySpec.post enc Try.prog Try.f12 false true false false) := by
  refine returnsInHanded_of_change (C := Try.checked) own started (by kernel_rfl) Try.func12
    (ChangeSpec.witness6 (enc := enc) (C := Try.checked) false ⟨#[], #[.int .i64 0, .int .i64 0, .slice none 0 0], []⟩ 8 (by kernel_rfl) (by kernel_rfl) (by kernel_rfl) (by kernel_rfl)) ?_
  intro W base args ds gs before hval hW hcnd _
  have hW' := hW
  obtain ⟨p, q, hA0, hV, rfl, hfz, hnd⟩ := hW
  have hA : DataW.TrodAll enc Try.prog W 0 (fun _ => true) true Try.f12.params.toList args.toList ds p := hA0
  rw [Try.params12] at hA hval
  obtain ⟨v0, vs0, d0, ds0, p0, q0, hargs, rfl, rfl, h0, r0⟩ := trodAll_cons hA
  obtain ⟨v1, vs1, d1, ds1, p1, q1, rfl, rfl, rfl, h1, r1⟩ := trodAll_cons r0
  obtain ⟨v2, vs2, d2, ds2, p2, q2, rfl, rfl, rfl, h2, r2⟩ := trodAll_cons r1
  obtain ⟨rfl, rfl, rfl⟩ := trodAll_nil r2
  obtain rfl : args = #[v0, v1, v2] := by cases args; simp_all
  obtain ⟨a0, rfl, rfl, _, wa0⟩ := open_int Try.underlying3 (hval 0 3 v0 rfl rfl) h0
  have ba0 : -9223372036854775808 ≤ a0 ∧ a0 ≤ 9223372036854775807 := by simpa [Lit.wf, IntKind.min, IntKind.max, IntKind.signed, IntKind.bits] using wa0
  obtain ⟨a1, rfl, rfl, _, wa1⟩ := open_int Try.underlying3 (hval 1 3 v1 rfl rfl) h1
  have ba1 : -9223372036854775808 ≤ a1 ∧ a1 ≤ 9223372036854775807 := by simpa [Lit.wf, IntKind.min, IntKind.max, IntKind.signed, IntKind.bits] using wa1
  obtain ⟨A2, c2, l2, rfl, hn2, hb2, hr2⟩ := open_acts (by obtain ⟨a, n, c, h⟩ := okWide_slice Try.underlying31 (hval 2 31 v2 rfl rfl); exact ⟨a, n, c, h⟩) h2
  refine (bany_law a0 a1 A2 c2 l2 W ba0.1 ba0.2 ba1.1 ba1.2 hb2 hr2).mono fun e W' ⟨he, hb⟩ => ?_
  subst he
  exact ⟨_, rfl, law_post laidOut (by kernel_rfl) hW' rfl (fun h => by subst h; rfl) (by kernel_rfl) Try.underlying4 hb⟩

theorem any29_holds : Rows.BestAnySaid :=
  OpenClaim.holds_of_wide 12 Try.f12 rfl rfl rfl rfl rfl rfl rfl ⟨rfl, rfl, rfl, rfl, rfl⟩ rfl rfl rfl rfl rfl (by kernel_rfl) Try.func12 (by kernel_rfl)
    (of_decide_eq_true (by kernel_rfl)) (by unfold Func.isWrapper; first | (rw [if_pos (by decide +kernel)]; kernel_rfl) | (rw [if_neg (by decide +kernel)]; exact ⟨rfl, rfl⟩))
    (fun os started H enc _ => any29_lifted os started H enc)
end Go.Proofs.Ytgadkelldbibgaa
