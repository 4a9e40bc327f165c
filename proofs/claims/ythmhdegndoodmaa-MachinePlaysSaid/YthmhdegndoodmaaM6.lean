/- Contracts of Machine.Total, Done, Copy; of a machine that is none. -/
import Derived.Test.YthmhdegndoodmaaM5
namespace Go.Proofs.Ythmhdegndoodmaa
open Go.ChangeShapes Go.WideShapes Go.ChangeAt Go.RowKit
set_option linter.unusedVariables false

theorem total_any (m : Mc.St) (b : Nat) (v : Value) (w : World) (hM : Mach w b v m) :
    Calls Try.prog 32 #[.pointer (some ⟨b, 0, none⟩)] w fun e w' => e = .returned (.int .i64 m.tot) ∧ w = w' := by
  have c3 := hM.1.cell (i := 3) (by omega)
  simp only [mf] at c3
  generalize m.tot = t at *
  clear hM
  go_enter Try.func32, Try.ntmps32
  go_wp2_with fail
  go_ret
  exact ⟨rfl, rfl⟩
theorem total_nil (w : World) :
    Calls Try.prog 32 #[.pointer none] w fun e w' => e = .returned (.int .i64 0) ∧ w = w' := by
  go_enter Try.func32, Try.ntmps32
  go_wp2_with fail
  go_ret
  exact ⟨rfl, rfl⟩
theorem done_any (m : Mc.St) (b : Nat) (v : Value) (w : World) (hM : Mach w b v m) :
    Calls Try.prog 27 #[.pointer (some ⟨b, 0, none⟩)] w fun e w' => e = .returned (.bool (m.pend == 0)) ∧ w = w' := by
  have c1 := hM.1.cell (i := 1) (by omega)
  simp only [mf] at c1
  generalize m.pend = p at *
  clear hM
  go_enter Try.func27, Try.ntmps27
  go_wp2_with fail
  go_ret
  exact ⟨rfl, rfl⟩
theorem done_nil (w : World) :
    Calls Try.prog 27 #[.pointer none] w fun e w' => e = .returned (.bool false) ∧ w = w' := by
  go_enter Try.func27, Try.ntmps27
  go_wp2_with fail
  go_ret
  exact ⟨rfl, rfl⟩
theorem spot_nil (w : World) :
    Calls Try.prog 25 #[.pointer none] w fun e w' => e = .returned (.agg #[.int .i64 0, .int .i64 0, .slice none 0 0]) ∧ KW w w' := by
  go_enter Try.func25, Try.ntmps25
  go_wp2_with fail
  exact bodyPost_ret (results_cell_row rfl _ _ _ _ _ (0, 0) _ rfl (heap_alloc_new w _) Try.underlying42 rfl (by kernel_rfl)) rfl ⟨rfl, (KW.refl w).alloc _⟩
theorem copy_nil (w : World) :
    Calls Try.prog 33 #[.pointer none] w fun e w' => e = .returned (.pointer none) ∧ w = w' := by
  go_enter Try.func33, Try.ntmps33
  go_wp2_with fail
  go_ret
  exact ⟨rfl, rfl⟩

/-- another machine -/
def CopyP (w : World) (m : Mc.St) (e : Ending) (w' : World) : Prop :=
  ∃ b v, e = .returned (.pointer (some ⟨b, 0, none⟩)) ∧ Mach w' b v m ∧ (∀ k, mo b v k → w.heap.size ≤ k) ∧ KW w w'
set_option maxHeartbeats 1000000 in
theorem copy_any (m : Mc.St) (b : Nat) (v : Value) (w : World) (hM : Mach w b v m) (hl : m.tags.length ≤ 1048576) :
    Calls Try.prog 33 #[.pointer (some ⟨b, 0, none⟩)] w (CopyP w m) := by
  obtain ⟨A, c, hv, hh⟩ := hM.2.holds
  have c0 := hM.1.cell (i := 0) (by omega)
  have c1 := hM.1.cell (i := 1) (by omega)
  have c2 := hM.1.cell (i := 2) (by omega)
  have c3 := hM.1.cell (i := 3) (by omega)
  have c4 := hM.1.cell (i := 4) (by omega)
  obtain ⟨l, a, p, t, tags⟩ := m
  simp only [mf] at c0 c1 c2 c3 c4 hv hh hl
  rw [hv] at c4
  have hlt := hM.size
  have HC := hid (fun W (hk : KW w W) => clone_any A tags.length c (ints tags) W hl (hh.kw hk))
  have HL := hid (ints_len tags)
  clear hM hh hv
  generalize hN : tags.length = N at *
  clear hN
  go_enter Try.func33, Try.ntmps33
  go_wp2_with fail
  refine (HC.out _ ((KW.refl w).alloc _)).mono ?_
  rintro e w1 ⟨v2, rfl, ho, hk⟩
  have HR : Hid (w1.rowIs w.heap.size 67 5 (mf ⟨l, a, p, t, tags⟩ (.slice A N c))) :=
    KW.row hk (by simp) (World.rowIs_alloc w #[.int .i64 a, .int .i64 p, .int .i64 l, .int .i64 t, .slice A N c] 67 _ fun i hi => by
      rcases (show i = 0 ∨ i = 1 ∨ i = 2 ∨ i = 3 ∨ i = 4 by simp at hi; omega) with rfl | rfl | rfl | rfl | rfl <;> rfl)
  have c5 := HR.out.cell (i := 4) (by omega)
  simp only [mf] at c5
  have f5 := HR.out.frozen 4
  have HO : Hid (∀ k, v2.ownBlock = some k → w.heap.size < k) := fun k h => by
    have := (ho.lt h).1
    simp at this; omega
  have HT : Hid (∀ x, Tg (w1.setCell ⟨w.heap.size, 4, none⟩ x) w.heap.size v2 tags) := fun x => by
    have h1 : Owns (w1.setCell ⟨w.heap.size, 4, none⟩ x) (w.alloc (.cells #[.int .i64 a, .int .i64 p, .int .i64 l, .int .i64 t, .slice A N c] 67)).heap.size 3 v2 (ints tags) :=
      ho.of_blocks fun k h => heap_setCell_other w1 _ k x (by have := HO.out k h; show k ≠ w.heap.size; omega)
    exact h1.tg fun k h => by have := HO.out k h; omega
  have HK : Hid (KW w w1) := ((KW.refl w).alloc _).t hk
  have H1 : v2.oneCell' = true := by obtain ⟨A', c', rfl, _⟩ := ho.row; rfl
  obtain ⟨A2, k2, hv2, _⟩ := ho.row
  subst hv2
  clear ho hk H1
  go_wp2_with fail
  go_ret
  refine ⟨w.heap.size, _, rfl, ⟨(HR.out.set 4 _).congr fun j hj => ?_, HT.out _⟩, fun k hk => ?_, Below.setCell (p := ⟨w.heap.size, 4, none⟩) HK.out (Nat.le_refl _) _⟩
  · rcases (show j = 0 ∨ j = 1 ∨ j = 2 ∨ j = 3 ∨ j = 4 by omega) with rfl | rfl | rfl | rfl | rfl <;> rfl
  · rcases hk with rfl | hk
    · exact Nat.le_refl _
    · exact Nat.le_of_lt (HO.out k (tbk_own hk))
end Go.Proofs.Ythmhdegndoodmaa
