/- Contracts of Machine.Total, Done, Copy; of a machine that is none. -/
import Derived.Test.YtgadkelldbibgaaM5
namespace Go.Proofs.Ytgadkelldbibgaa
open Go.ChangeShapes Go.WideShapes Go.ChangeAt Go.RowKit
set_option linter.unusedVariables false

theorem total_any (m : Mc.St) (b : Nat) (v : Value) (w : World) (hM : Mach w b v m) :
    Calls Try.prog 58 #[.pointer (some ⟨b, 0, none⟩)] w fun e w' => e = .returned (.int .i64 m.tot) ∧ w = w' := by
  have c3 := hM.1.cell (i := 3) (by omega)
  simp only [mf] at c3
  generalize m.tot = t at *
  clear hM
  go_enter Try.func58, Try.ntmps58
  go_wp2_with fail
  go_ret
  exact ⟨rfl, rfl⟩
theorem total_nil (w : World) :
    Calls Try.prog 58 #[.pointer none] w fun e w' => e = .returned (.int .i64 0) ∧ w = w' := by
  go_enter Try.func58, Try.ntmps58
  go_wp2_with fail
  go_ret
  exact ⟨rfl, rfl⟩
theorem done_any (m : Mc.St) (b : Nat) (v : Value) (w : World) (hM : Mach w b v m) :
    Calls Try.prog 25 #[.pointer (some ⟨b, 0, none⟩)] w fun e w' => e = .returned (.bool (m.pend == 0)) ∧ w = w' := by
  have c1 := hM.1.cell (i := 1) (by omega)
  simp only [mf] at c1
  generalize m.pend = p at *
  clear hM
  go_enter Try.func25, Try.ntmps25
  go_wp2_with fail
  go_ret
  exact ⟨rfl, rfl⟩
theorem done_nil (w : World) :
    Calls Try.prog 25 #[.pointer none] w fun e w' => e = .returned (.bool false) ∧ w = w' := by
  go_enter Try.func25, Try.ntmps25
  go_wp2_with fail
  go_ret
  exact ⟨rfl, rfl⟩
theorem spot_nil (w : World) :
    Calls Try.prog 23 #[.pointer none] w fun e w' => e = .returned (.agg #[.int .i64 0, .int .i64 0, .slice none 0 0]) ∧ KW w w' := by
  go_enter Try.func23, Try.ntmps23
  go_wp2_with fail
  exact bodyPost_ret (results_cell_row rfl _ _ _ _ _ (0, 0) _ rfl (heap_alloc_new w _) Try.underlying24 rfl (by kernel_rfl)) rfl ⟨rfl, (KW.refl w).alloc _⟩
end Go.Proofs.Ytgadkelldbibgaa
