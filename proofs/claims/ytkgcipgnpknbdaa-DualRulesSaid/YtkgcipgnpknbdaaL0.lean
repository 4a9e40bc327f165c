/- The example of the page about duals: 'goes' returns true. -/
import Derived.Test.YtkgcipgnpknbdaaD6
import Derived.Test.YtkgcipgnpknbdaaD7
namespace Go.Proofs.Ytkgcipgnpknbdaa
open Go.ChangeShapes Go.WideShapes Go.ChangeAt Go.RowKit
set_option linter.unusedVariables false

theorem gm (g : Nat) (W : World) (hr : Row2 W (some ⟨g, 0, none⟩) 2 (fun k => .int .u64 (sel 3 5 k)) (fun k => .int .u64 (sel 1 0 k))) :
    Calls Try.prog 8 #[.slice (some ⟨g, 0, none⟩) 2 2] W fun e w' => e = .returned (.agg #[.int .u64 15, .int .u64 5]) ∧ Below W.heap.size W w' := by
  have h := dmul2 g 3 1 5 0 W hr
  rw [show IntKind.u64.wrap (3 * 5) = 15 from by decide, show IntKind.u64.wrap (3 * 0 + 1 * 5) = 5 from by decide] at h
  exact h
theorem gp (W : World) : Calls Try.prog 10 #[.agg #[.int .u64 3, .int .u64 1], .int .u64 4] W fun e w' => e = .returned (.agg #[.int .u64 81, .int .u64 108]) ∧ Below W.heap.size W w' := by
  have h := dpow_any 3 1 4 (by omega) (by omega) (by omega) (by omega) (by omega) (by omega) W
  rw [show IntKind.u64.wrap (3 ^ (4 : Int).toNat) = 81 from by decide, show IntKind.u64.wrap (Pl.dn 3 1 (4 : Int).toNat) = 108 from by decide] at h
  exact h
def gf (k : Nat) : Int := if k = 0 then 0 else 9223372036854775808
theorem gh (g : Nat) (W : World) (hr : Row1 W (some ⟨g, 0, none⟩) 3 fun k => .int .u64 (gf k)) :
    Calls Try.prog 13 #[.slice (some ⟨g, 0, none⟩) 3 3, .agg #[.int .u64 7, .int .u64 1]] W fun e w' => e = .returned (.agg #[.int .u64 0, .int .u64 9223372036854775808]) ∧ Below W.heap.size W w' := by
  have h := dhorner_any (some ⟨g, 0, none⟩) 3 3 gf 7 1 W (by omega) hr
  rw [show IntKind.u64.wrap (Pl.hz gf 7 3) = 0 from by decide, show IntKind.u64.wrap (Pl.hd gf 7 1 3) = 9223372036854775808 from by decide] at h
  exact h
theorem row1_gf (w : World) (t : TypeId) : Row1 (w.alloc (.cells #[.int .u64 0, .int .u64 9223372036854775808, .int .u64 9223372036854775808] t)) (some ⟨w.heap.size, 0, none⟩) 3 (fun k => .int .u64 (gf k)) := by
  intro _
  refine ⟨w.heap.size, 0, rfl, by simp, fun k hk => ?_⟩
  rw [cell_of_row _ _ _ _ _ _ (heap_alloc_new w _)]
  rcases (show k = 0 ∨ k = 1 ∨ k = 2 from by omega) with rfl | rfl | rfl <;> rfl

set_option maxHeartbeats 1000000 in
theorem goes_any (w : World) : Calls Try.prog 12 #[] w fun e w' => e = .returned (.bool true) ∧ Below w.heap.size w w' := by
  go_enter Try.func12, Try.ntmps12
  go_wp2_with fail
  refine (var_any 3 _).mono ?_
  rintro e w1 ⟨rfl, hb⟩
  have hk := (KW.refl w).on hb
  clear hb
  go_wp2_with fail
  refine (const_any 5 _).mono ?_
  rintro e w2 ⟨rfl, hb⟩
  replace hk := hk.on hb
  clear hb
  go_wp2_with fail
  refine (gm _ _ (row2_int _ _ _ _ _ _)).mono ?_
  rintro e w3 ⟨rfl, hb⟩
  replace hk := hk.onA hb
  clear hb
  go_wp2_with fail
  refine (var_any 3 _).mono ?_
  rintro e w4 ⟨rfl, hb⟩
  replace hk := hk.on hb
  clear hb
  go_wp2_with fail
  refine (gp _).mono ?_
  rintro e w5 ⟨rfl, hb⟩
  replace hk := hk.on hb
  clear hb
  go_wp2_with fail
  refine (var_any 7 _).mono ?_
  rintro e w6 ⟨rfl, hb⟩
  have hk6 := ((KW.refl _).on hb)
  replace hk := hk.onA hb
  have hr6 := hid ((row1_gf w5 23).below (show Below _ _ w6 from hk6))
  clear hb hk6
  go_wp2_with fail
  refine (gh _ _ hr6.out).mono ?_
  rintro e w7 ⟨rfl, hb⟩
  replace hk := hk.on hb
  clear hb
  go_wp2
  go_ret
  exact ⟨rfl, hk⟩
end Go.Proofs.Ytkgcipgnpknbdaa
