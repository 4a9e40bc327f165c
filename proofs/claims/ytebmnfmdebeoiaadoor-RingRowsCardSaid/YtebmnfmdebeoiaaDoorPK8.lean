/- RingRows: whatever comes in: the law returns true and leaves its arguments as they were. No condition. -/
import Derived.Test.YtebmnfmdebeoiaaDoorK2
import Derived.Test.YtebmnfmdebeoiaaDoorRowL
import Derived.Test.YtebmnfmdebeoiaaDoorCards
import Derived.Test.YtebmnfmdebeoiaaDoorTie
import Derived.SevenTiedAt
namespace Go.Proofs.YtebmnfmdebeoiaaDoor
open Go.ChangeShapes Go.WideShapes Go.ChangeAt Go.RowKit Go.Joins
set_option linter.unusedVariables false

set_option maxRecDepth 100000 in
theorem rows_lifted (os : Os) (started : os.Started) (H : Type) (enc : TypeId × Value → H) :
    ReturnsInHanded {} Tryd.checked os 10 .any (fun w args => (Rows.ringRowsSpec.pre enc Tryd.prog Tryd.f10 [] false w args ∧ laidMetH Tryd.prog laid1 w) ∧ sizedMet enc Tryd.prog Tryd.f10 (OpenSpec.ofChange Rows.ringRowsSpec) false w args)
      (Rows.ringRowsSpec.post enc Tryd.prog Tryd.f10 false true false false) := by
  refine returnsInHanded_of_change_and (C := Tryd.checked) (X := fun w _ => laidMetH Tryd.prog laid1 w) (fun _ _ _ hh h => h.of_heap hh) own started (by kernel_rfl) Tryd.func10
    (ChangeSpec.witness_shaped (enc := enc) (C := Tryd.checked) (os := os) (X := fun w _ => laidMetH Tryd.prog laid1 w) false (World.doorLaid Tryd.prog 14 os) #[.slice none 0 0, .slice none 0 0, .int .u64 0] 8 rfl (World.shaped_of_RefB (by kernel_rfl) (by kernel_rfl)) (by kernel_rfl) (by kernel_rfl) (by kernel_rfl) (door_met os _)) ?_
  intro W base args ds gs before hval hW _ _ hL _
  have hW' := hW
  obtain ⟨p, q, hA0, hV, rfl, hfz, hnd⟩ := hW
  have hA : DataW.TrodAll enc Tryd.prog W 0 (fun _ => true) true Tryd.f10.params.toList args.toList ds p := hA0
  rw [Tryd.params10] at hA hval
  obtain ⟨v0, vs0, d0, ds0, p0, q0, hargs, rfl, rfl, h0, r0⟩ := trodAll_cons hA
  obtain ⟨v1, vs1, d1, ds1, p1, q1, rfl, rfl, rfl, h1, r1⟩ := trodAll_cons r0
  obtain ⟨v2, vs2, d2, ds2, p2, q2, rfl, rfl, rfl, h2, r2⟩ := trodAll_cons r1
  obtain ⟨rfl, rfl, rfl⟩ := trodAll_nil r2
  obtain rfl : args = #[v0, v1, v2] := by cases args; simp_all
  obtain ⟨A0, n0, c0, f0, rfl, hn0, hf0, hr0⟩ := open_u64s (by obtain ⟨a, n, c, h⟩ := okWide_slice Tryd.underlying29 (hval 0 29 v0 rfl rfl); exact ⟨a, n, c, h⟩) h0
  obtain ⟨A1, n1, c1, f1, rfl, hn1, hf1, hr1⟩ := open_u64s (by obtain ⟨a, n, c, h⟩ := okWide_slice Tryd.underlying29 (hval 1 29 v1 rfl rfl); exact ⟨a, n, c, h⟩) h1
  obtain ⟨a2, rfl, rfl, _, wa2⟩ := open_int Tryd.underlying22 (hval 2 22 v2 rfl rfl) h2
  have ba2 : 0 ≤ a2 ∧ a2 ≤ 18446744073709551615 := by simpa [Lit.wf, IntKind.min, IntKind.max, IntKind.signed, IntKind.bits] using wa2
  refine (rows_walk A0 n0 c0 f0 A1 n1 c1 f1 a2 W hn0 hf0 hr0 hn1 hf1 hr1 ba2.1 ba2.2 (tab_of hL)).mono fun e W' ⟨he, hb⟩ => ?_
  subst he
  exact ⟨_, rfl, law_post laidOut (by kernel_rfl) hW' rfl (fun h => by subst h; rfl) (by kernel_rfl) Tryd.underlying4 hb⟩

theorem rows_holds : Rows.RingRowsSaid :=
  OpenClaim.holds_of_wide 10 Tryd.f10 rfl rfl rfl rfl rfl rfl rfl ⟨rfl, rfl, rfl, rfl, rfl⟩ rfl rfl rfl rfl rfl (by kernel_rfl) Tryd.func10 (by kernel_rfl)
    (of_decide_eq_true (by kernel_rfl)) (by unfold Func.isWrapper; first | (rw [if_pos (by decide +kernel)]; kernel_rfl) | (rw [if_neg (by decide +kernel)]; exact ⟨rfl, rfl⟩))
    (fun os started H enc _ => rows_lifted os started H enc)

theorem rows_card_holds : Rows.RingRowsCardSaid :=
  Claim7.holds_tied_plain_at .later [] [.data] true Rows.ringRowsCard.stood.harness false
    rows_holds (fun _ h => by cases h) (by kernel_rfl) (fun _ h => by cases h) ringRows_row_tie rfl ⟨rfl, rfl⟩ (by kernel_rfl) rfl
    (fun f fn hf hfn => by
      obtain rfl : f = 10 := Option.some.inj ((show Tryd.prog.funcNamed "backstitch/backstitchlaw01.RingRows" = some 10 by kernel_rfl).symm.trans hf) |>.symm
      obtain rfl : fn = Tryd.f10 := (Option.some.inj (Tryd.func10.symm.trans hfn)).symm
      exact ⟨by kernel_rfl, fun j t ht => by
        rw [Tryd.params10] at ht
        have hm : t ∈ [29, 29, 22] := by simpa using Array.mem_of_getElem? ht
        have hall : ([29, 29, 22].all fun u => !Tryd.prog.wantsStandIn u) = true := by kernel_rfl
        exact (show Tryd.prog.wantsStandIn t = false by simpa using List.all_eq_true.1 hall t hm)⟩)
    (by kernel_rfl)
end Go.Proofs.YtebmnfmdebeoiaaDoor
