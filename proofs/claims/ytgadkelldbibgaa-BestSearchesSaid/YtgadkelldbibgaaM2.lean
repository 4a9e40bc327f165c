/- Contracts of what a machine's actions do: advance, store, restore, free, begin, seed, both, reverse. -/
import Derived.Test.YtgadkelldbibgaaM1
namespace Go.Proofs.Ytgadkelldbibgaa
open Go.ChangeShapes Go.WideShapes Go.ChangeAt Go.RowKit
set_option linter.unusedVariables false

/-- what an action leaves: the error c, the machine m' -/
def Did (w : World) (b : Nat) (v : Value) (m' : Mc.St) (c : Int) (e : Ending) (w' : World) : Prop := e = .returned (.int .i64 c) ∧ Mach w' b v m' ∧ Keep (mo b v) w w'

set_option maxHeartbeats 1000000 in
theorem advance_any (l a p t : Int) (tags : List Int) (n : Int) (b : Nat) (v : Value) (w : World) (hM : Mach w b v ⟨l, a, p, t, tags⟩) (hI : Mc.Inv ⟨l, a, p, t, tags⟩) (ht : t ≤ 4611686018427387904) (n0 : 0 ≤ n) (n1 : n ≤ 65535) :
    Calls Try.prog 93 #[.pointer (some ⟨b, 0, none⟩), .int .i64 n] w (Did w b v (if l - a < n then ⟨l, a, p, t, tags⟩ else ⟨l, a + n, p, t + n, tags⟩) (if l - a < n then 17 else 0)) := by
  obtain ⟨l0, l1, a0, a1, p0, p1, tg, ln, t0⟩ := hI
  simp only at l0 l1 a0 a1 p0 p1 t0
  clear tg ln
  have c0 := hM.1.cell (i := 0) (by omega)
  have c2 := hM.1.cell (i := 2) (by omega)
  have c3 := hM.1.cell (i := 3) (by omega)
  have f0 := hM.1.frozen 0
  have f3 := hM.1.frozen 3
  simp only [mf] at c0 c2 c3
  have HM := hid hM
  clear hM
  have hcmp : Hid (l - a < n) ∨ Hid (¬ l - a < n) := by by_cases h : l - a < n; exact .inl h; exact .inr h
  have L1 : IntKind.i64.wrap (l - a) = l - a := IntWalk.i64_in _ (by omega)
  rcases hcmp with hc | hc
  · rw [if_pos hc.out, if_pos hc.out]
    have D := hc.out
    go_enter Try.func93, Try.ntmps93
    go_wp2_with fail
    have hXS := And.intro c0 c2
    refine wpX_region (S := fun w' => w'.cell? ⟨b, 0, none⟩ = some (.int .i64 a) ∧ w'.cell? ⟨b, 2, none⟩ = some (.int .i64 l)) (L := 99) (by kernel_rfl) ?_
    refine wpX_take (i := 0) (v := ?_) rfl rfl (by kernel_rfl) (fun _ _ _ h => h) (Or.inl ⟨rfl, fun wS hwS => ?_⟩) hXS ?_
    rotate_left
    · go_simp; try rfl
    simp only [List.set_cons_zero, List.set_cons_succ]
    refine wpX_take (i := 1) (v := ?_) rfl rfl (by kernel_rfl) (fun _ _ _ h => h) (Or.inl ⟨rfl, fun wS hwS => ?_⟩) hXS ?_
    rotate_left
    · go_simp; try rfl
    simp only [List.set_cons_zero, List.set_cons_succ]
    refine wpX_take (i := 2) (v := ?_) rfl rfl (by kernel_rfl) (fun _ _ _ h => h) (Or.inl ⟨rfl, fun wS hwS => ?_⟩) hXS ?_
    rotate_left
    · go_simp; try rfl
    simp only [List.set_cons_zero, List.set_cons_succ]
    refine wpX_take (i := 3) (v := ?_) rfl rfl (by kernel_rfl) (fun _ _ _ h => h) (Or.inl ⟨rfl, fun wS hwS => ?_⟩) hXS ?_
    rotate_left
    · go_simp; try rfl
    simp only [List.set_cons_zero, List.set_cons_succ]
    refine wpX_take (i := 4) (v := ?_) rfl rfl (by kernel_rfl) (fun _ _ _ h => h) (Or.inl ⟨rfl, fun wS hwS => ?_⟩) hXS ?_
    rotate_left
    · go_simp; try rfl
    simp only [List.set_cons_zero, List.set_cons_succ]
    refine wpX_take (i := 5) (v := ?_) rfl rfl (by kernel_rfl) (fun _ _ _ h => h) (Or.inl ⟨rfl, fun wS hwS => ?_⟩) hXS ?_
    rotate_left
    · go_simp; try rfl
    simp only [List.set_cons_zero, List.set_cons_succ]
    refine wpX_take (i := 6) (v := ?_) rfl rfl (by kernel_rfl) (fun _ _ _ h => h) (Or.inl ⟨rfl, fun wS hwS => ?_⟩) hXS ?_
    rotate_left
    · go_simp; try rfl
    simp only [List.set_cons_zero, List.set_cons_succ]
    refine wpX_take (i := 7) (v := ?_) rfl rfl (by kernel_rfl) (fun _ _ _ h => h) (Or.inl ⟨rfl, fun wS hwS => ?_⟩) hXS ?_
    rotate_left
    · go_simp; try rfl
    simp only [List.set_cons_zero, List.set_cons_succ]
    refine wpX_take (i := 8) (v := ?_) rfl rfl (by kernel_rfl) (fun _ _ _ h => h) (Or.inl ⟨rfl, fun wS hwS => ?_⟩) hXS ?_
    rotate_left
    · go_simp; try rfl
    simp only [List.set_cons_zero, List.set_cons_succ]
    refine wpX_take (i := 9) (v := ?_) rfl rfl (by kernel_rfl) (fun _ _ _ h => h) (Or.inl ⟨rfl, fun wS hwS => ?_⟩) hXS ?_
    rotate_left
    · go_simp; try rfl
    simp only [List.set_cons_zero, List.set_cons_succ]
    refine wpX_take (i := 10) (v := ?_) rfl rfl (by kernel_rfl) (fun _ _ _ h => h) (Or.inl ⟨rfl, fun wS hwS => ?_⟩) hXS ?_
    rotate_left
    · go_simp; try rfl
    simp only [List.set_cons_zero, List.set_cons_succ]
    refine wpX_take (i := 11) (v := ?_) rfl rfl (by kernel_rfl) (fun _ _ _ h => h) (Or.inl ⟨rfl, fun wS hwS => ?_⟩) hXS ?_
    rotate_left
    · go_simp; try rfl
    simp only [List.set_cons_zero, List.set_cons_succ]
    refine wpX_done (by kernel_rfl) ?_
    go_wp2_with fail
    go_ret
    exact ⟨rfl, HM.out.kw (KW.refl w).drew, (KW.refl w).drew.keep⟩
  · rw [if_neg hc.out, if_neg hc.out]
    have D : decide (l - a < n) = false := decide_eq_false hc.out
    have B1 : a + n ≤ 65535 := by have := hc.out; omega
    go_enter Try.func93, Try.ntmps93
    go_wp2_with fail
    have hXS := And.intro c0 c2
    refine wpX_region (S := fun w' => w'.cell? ⟨b, 0, none⟩ = some (.int .i64 a) ∧ w'.cell? ⟨b, 2, none⟩ = some (.int .i64 l)) (L := 99) (by kernel_rfl) ?_
    refine wpX_take (i := 0) (v := ?_) rfl rfl (by kernel_rfl) (fun _ _ _ h => h) (Or.inl ⟨rfl, fun wS hwS => ?_⟩) hXS ?_
    rotate_left
    · go_simp; try rfl
    simp only [List.set_cons_zero, List.set_cons_succ]
    refine wpX_take (i := 1) (v := ?_) rfl rfl (by kernel_rfl) (fun _ _ _ h => h) (Or.inl ⟨rfl, fun wS hwS => ?_⟩) hXS ?_
    rotate_left
    · go_simp; try rfl
    simp only [List.set_cons_zero, List.set_cons_succ]
    refine wpX_take (i := 2) (v := ?_) rfl rfl (by kernel_rfl) (fun _ _ _ h => h) (Or.inl ⟨rfl, fun wS hwS => ?_⟩) hXS ?_
    rotate_left
    · go_simp; try rfl
    simp only [List.set_cons_zero, List.set_cons_succ]
    refine wpX_take (i := 3) (v := ?_) rfl rfl (by kernel_rfl) (fun _ _ _ h => h) (Or.inl ⟨rfl, fun wS hwS => ?_⟩) hXS ?_
    rotate_left
    · go_simp; try rfl
    simp only [List.set_cons_zero, List.set_cons_succ]
    refine wpX_take (i := 4) (v := ?_) rfl rfl (by kernel_rfl) (fun _ _ _ h => h) (Or.inl ⟨rfl, fun wS hwS => ?_⟩) hXS ?_
    rotate_left
    · go_simp; try rfl
    simp only [List.set_cons_zero, List.set_cons_succ]
    refine wpX_take (i := 5) (v := ?_) rfl rfl (by kernel_rfl) (fun _ _ _ h => h) (Or.inl ⟨rfl, fun wS hwS => ?_⟩) hXS ?_
    rotate_left
    · go_simp; try rfl
    simp only [List.set_cons_zero, List.set_cons_succ]
    refine wpX_take (i := 6) (v := ?_) rfl rfl (by kernel_rfl) (fun _ _ _ h => h) (Or.inl ⟨rfl, fun wS hwS => ?_⟩) hXS ?_
    rotate_left
    · go_simp; try rfl
    simp only [List.set_cons_zero, List.set_cons_succ]
    refine wpX_take (i := 7) (v := ?_) rfl rfl (by kernel_rfl) (fun _ _ _ h => h) (Or.inl ⟨rfl, fun wS hwS => ?_⟩) hXS ?_
    rotate_left
    · go_simp; try rfl
    simp only [List.set_cons_zero, List.set_cons_succ]
    refine wpX_take (i := 8) (v := ?_) rfl rfl (by kernel_rfl) (fun _ _ _ h => h) (Or.inl ⟨rfl, fun wS hwS => ?_⟩) hXS ?_
    rotate_left
    · go_simp; try rfl
    simp only [List.set_cons_zero, List.set_cons_succ]
    refine wpX_take (i := 9) (v := ?_) rfl rfl (by kernel_rfl) (fun _ _ _ h => h) (Or.inl ⟨rfl, fun wS hwS => ?_⟩) hXS ?_
    rotate_left
    · go_simp; try rfl
    simp only [List.set_cons_zero, List.set_cons_succ]
    refine wpX_take (i := 10) (v := ?_) rfl rfl (by kernel_rfl) (fun _ _ _ h => h) (Or.inl ⟨rfl, fun wS hwS => ?_⟩) hXS ?_
    rotate_left
    · go_simp; try rfl
    simp only [List.set_cons_zero, List.set_cons_succ]
    refine wpX_take (i := 11) (v := ?_) rfl rfl (by kernel_rfl) (fun _ _ _ h => h) (Or.inl ⟨rfl, fun wS hwS => ?_⟩) hXS ?_
    rotate_left
    · go_simp; try rfl
    simp only [List.set_cons_zero, List.set_cons_succ]
    refine wpX_done (by kernel_rfl) ?_
    clear L1
    go_wp2_with fail
    go_ret
    refine ⟨rfl, ?_, ?_⟩
    · exact Mach.set (m := ⟨l, a + n, p, t, tags⟩) (Mach.set (m := ⟨l, a, p, t, tags⟩) (HM.out.kw (KW.refl w).drew) 0 _ rfl (fun j hj => by rcases (show j = 0 ∨ j = 1 ∨ j = 2 ∨ j = 3 ∨ j = 4 by omega) with rfl | rfl | rfl | rfl | rfl <;> rfl)) 3 _ rfl (fun j hj => by rcases (show j = 0 ∨ j = 1 ∨ j = 2 ∨ j = 3 ∨ j = 4 by omega) with rfl | rfl | rfl | rfl | rfl <;> rfl)
    · exact ((Keep.refl _ w).drew.setCell _ _ (.inl rfl)).setCell _ _ (.inl rfl)

set_option maxHeartbeats 1000000 in
theorem store_any (l a p t : Int) (tags : List Int) (n : Nat) (b : Nat) (v : Value) (w : World) (hM : Mach w b v ⟨l, a, p, t, tags⟩) (hn : n < tags.length) (hl : tags.length ≤ 1048576) :
    Calls Try.prog 94 #[.pointer (some ⟨b, 0, none⟩), .int .i64 n] w (Did w b v (if 0 ≤ tags.getD n 0 then ⟨l, a, p, t, tags⟩ else ⟨l, a, p, t, tags.set n a⟩) (if 0 ≤ tags.getD n 0 then 15 else 0)) := by
  have c0 := hM.1.cell (i := 0) (by omega)
  have c4 := hM.1.cell (i := 4) (by omega)
  simp only [mf] at c0 c4
  obtain ⟨tb, c, hv, hne, hlt, ct, ft⟩ := hM.tag hn
  simp only at hv ct
  have HM := hid hM
  have HV := hid hv
  have HW := hid (fun (w : World) (hM : Mach w b v ⟨l, a, p, t, tags⟩) => hM.setTag hv (n := n) hn a)
  rw [hv] at c4
  clear hM hv
  have hcmp : Hid (0 ≤ tags.getD n 0) ∨ Hid (¬ 0 ≤ tags.getD n 0) := by by_cases h : 0 ≤ tags.getD n 0; exact .inl h; exact .inr h
  generalize tags.getD n 0 = x at *
  generalize tags.length = N at *
  have HB := hid hlt
  have HN := hid hne
  clear hlt
  rcases hcmp with hc | hc
  · rw [if_pos hc.out, if_pos hc.out]
    have D := hc.out
    go_enter Try.func94, Try.ntmps94
    go_wp2_with fail
    go_ret
    exact ⟨rfl, HM.out, Keep.refl _ w⟩
  · rw [if_neg hc.out, if_neg hc.out]
    have D : decide (0 ≤ x) = false := decide_eq_false hc.out
    go_enter Try.func94, Try.ntmps94
    go_wp2_with fail
    have hXS := And.intro c0 c4
    refine wpX_region (S := fun w' => w'.cell? ⟨b, 0, none⟩ = some (.int .i64 a) ∧ w'.cell? ⟨b, 4, none⟩ = some (.slice (some ⟨tb, 0, none⟩) N c)) (L := 11) (by kernel_rfl) ?_
    refine wpX_take (i := 0) (v := ?_) rfl rfl (by kernel_rfl) (fun _ _ _ h => h) (Or.inl ⟨rfl, fun wS hwS => ?_⟩) hXS ?_
    rotate_left
    · go_simp; try rfl
    simp only [List.set_cons_zero, List.set_cons_succ]
    refine wpX_take (i := 1) (v := ?_) rfl rfl (by kernel_rfl) (fun _ _ _ h => h) (Or.inl ⟨rfl, fun wS hwS => ?_⟩) hXS ?_
    rotate_left
    · go_simp; try rfl
    simp only [List.set_cons_zero, List.set_cons_succ]
    refine wpX_take (i := 2) (v := ?_) rfl rfl (by kernel_rfl) (fun _ _ _ h => h) (Or.inl ⟨rfl, fun wS hwS => ?_⟩) hXS ?_
    rotate_left
    · go_simp; try rfl
    simp only [List.set_cons_zero, List.set_cons_succ]
    refine wpX_take (i := 3) (v := ?_) rfl rfl (by kernel_rfl) (fun _ _ _ h => h) (Or.inl ⟨rfl, fun wS hwS => ?_⟩) hXS ?_
    rotate_left
    · go_simp; try rfl
    simp only [List.set_cons_zero, List.set_cons_succ]
    refine wpX_take (i := 4) (v := ?_) rfl rfl (by kernel_rfl) (fun _ _ _ h => h) (Or.inl ⟨rfl, fun wS hwS => ?_⟩) hXS ?_
    rotate_left
    · go_simp; try rfl
    simp only [List.set_cons_zero, List.set_cons_succ]
    refine wpX_take (i := 5) (v := ?_) rfl rfl (by kernel_rfl) (fun _ _ _ h => h) (Or.inl ⟨rfl, fun wS hwS => ?_⟩) hXS ?_
    rotate_left
    · go_simp; try rfl
    simp only [List.set_cons_zero, List.set_cons_succ]
    refine wpX_take (i := 6) (v := ?_) rfl rfl (by kernel_rfl) (fun _ _ _ h => h) (Or.inl ⟨rfl, fun wS hwS => ?_⟩) hXS ?_
    rotate_left
    · go_simp; try rfl
    simp only [List.set_cons_zero, List.set_cons_succ]
    refine wpX_take (i := 7) (v := ?_) rfl rfl (by kernel_rfl) (fun _ _ _ h => h) (Or.inl ⟨rfl, fun wS hwS => ?_⟩) hXS ?_
    rotate_left
    · go_simp; try rfl
    simp only [List.set_cons_zero, List.set_cons_succ]
    refine wpX_take (i := 8) (v := ?_) rfl rfl (by kernel_rfl) (fun _ _ _ h => h) (Or.inl ⟨rfl, fun wS hwS => ?_⟩) hXS ?_
    rotate_left
    · go_simp; try rfl
    simp only [List.set_cons_zero, List.set_cons_succ]
    refine wpX_take (i := 9) (v := ?_) rfl rfl (by kernel_rfl) (fun _ _ _ h => h) (Or.inl ⟨rfl, fun wS hwS => ?_⟩) hXS ?_
    rotate_left
    · go_simp; try rfl
    simp only [List.set_cons_zero, List.set_cons_succ]
    refine wpX_take (i := 10) (v := ?_) rfl rfl (by kernel_rfl) (fun _ _ _ h => h) (Or.inl ⟨rfl, fun wS hwS => ?_⟩) hXS ?_
    rotate_left
    · go_simp; try rfl
    simp only [List.set_cons_zero, List.set_cons_succ]
    refine wpX_hard (k := 11) (by kernel_rfl) rfl (fun K hK => ?_)
    go_simp
    refine hK _ _ (fun h => absurd rfl h) ?_
    clear hK K
    refine wpX_done (by kernel_rfl) ?_
    go_wp2_with fail
    go_ret
    exact ⟨rfl, (HW.out _ HM.out).kw (KW.refl _).drew, ((Keep.refl _ w).setCell _ _ (.inr (by rw [HV.out]; simp [tbk]; omega))).drew⟩

set_option maxHeartbeats 1000000 in
theorem restore_any (l a p t : Int) (tags : List Int) (n : Nat) (b : Nat) (v : Value) (w : World) (hM : Mach w b v ⟨l, a, p, t, tags⟩) (hn : n < tags.length) (hl : tags.length ≤ 1048576) :
    Calls Try.prog 95 #[.pointer (some ⟨b, 0, none⟩), .int .i64 n] w (Did w b v (if tags.getD n 0 < 0 then ⟨l, a, p, t, tags⟩ else ⟨l, tags.getD n 0, p, t, tags⟩) (if tags.getD n 0 < 0 then 16 else 0)) := by
  have c0 := hM.1.cell (i := 0) (by omega)
  have c4 := hM.1.cell (i := 4) (by omega)
  have f0 := hM.1.frozen 0
  simp only [mf] at c0 c4
  obtain ⟨tb, c, hv, hne, hlt, ct, ft⟩ := hM.tag hn
  simp only at hv ct
  have HM := hid hM
  have HV := hid hv
  rw [hv] at c4
  clear hM hv
  have hcmp : Hid (tags.getD n 0 < 0) ∨ Hid (¬ tags.getD n 0 < 0) := by by_cases h : tags.getD n 0 < 0; exact .inl h; exact .inr h
  generalize tags.getD n 0 = x at *
  generalize tags.length = N at *
  have HB := hid hlt
  have HN := hid hne
  clear hlt
  rcases hcmp with hc | hc
  · rw [if_pos hc.out, if_pos hc.out]
    have D := hc.out
    go_enter Try.func95, Try.ntmps95
    go_wp2_with fail
    go_ret
    exact ⟨rfl, HM.out, Keep.refl _ w⟩
  · rw [if_neg hc.out, if_neg hc.out]
    have D : decide (x < 0) = false := decide_eq_false hc.out
    go_enter Try.func95, Try.ntmps95
    go_wp2_with fail
    go_ret
    exact ⟨rfl, Mach.set (m := ⟨l, a, p, t, tags⟩) HM.out 0 _ rfl (fun j hj => by rcases (show j = 0 ∨ j = 1 ∨ j = 2 ∨ j = 3 ∨ j = 4 by omega) with rfl | rfl | rfl | rfl | rfl <;> rfl), (Keep.refl _ w).setCell _ _ (.inl rfl)⟩

set_option maxHeartbeats 1000000 in
theorem free_any (l a p t : Int) (tags : List Int) (n : Nat) (b : Nat) (v : Value) (w : World) (hM : Mach w b v ⟨l, a, p, t, tags⟩) (hn : n < tags.length) (hl : tags.length ≤ 1048576) :
    Calls Try.prog 96 #[.pointer (some ⟨b, 0, none⟩), .int .i64 n] w (Did w b v (if tags.getD n 0 < 0 then ⟨l, a, p, t, tags⟩ else ⟨l, a, p, t, tags.set n (-1)⟩) (if tags.getD n 0 < 0 then 16 else 0)) := by
  have c4 := hM.1.cell (i := 4) (by omega)
  simp only [mf] at c4
  obtain ⟨tb, c, hv, hne, hlt, ct, ft⟩ := hM.tag hn
  simp only at hv ct
  have HM := hid hM
  have HV := hid hv
  have HW := hid (fun (w : World) (hM : Mach w b v ⟨l, a, p, t, tags⟩) => hM.setTag hv (n := n) hn (-1))
  rw [hv] at c4
  clear hM hv
  have hcmp : Hid (tags.getD n 0 < 0) ∨ Hid (¬ tags.getD n 0 < 0) := by by_cases h : tags.getD n 0 < 0; exact .inl h; exact .inr h
  generalize tags.getD n 0 = x at *
  generalize tags.length = N at *
  have HB := hid hlt
  have HN := hid hne
  clear hlt
  rcases hcmp with hc | hc
  · rw [if_pos hc.out, if_pos hc.out]
    have D := hc.out
    go_enter Try.func96, Try.ntmps96
    go_wp2_with fail
    go_ret
    exact ⟨rfl, HM.out, Keep.refl _ w⟩
  · rw [if_neg hc.out, if_neg hc.out]
    have D : decide (x < 0) = false := decide_eq_false hc.out
    go_enter Try.func96, Try.ntmps96
    go_wp2_with fail
    go_ret
    exact ⟨rfl, HW.out _ HM.out, (Keep.refl _ w).setCell _ _ (.inr (by rw [HV.out]; simp [tbk]; omega))⟩

set_option maxHeartbeats 1000000 in
theorem reverse_any (l a p t : Int) (tags : List Int) (n : Int) (b : Nat) (v : Value) (w : World) (hM : Mach w b v ⟨l, a, p, t, tags⟩) (hI : Mc.Inv ⟨l, a, p, t, tags⟩) :
    Calls Try.prog 99 #[.pointer (some ⟨b, 0, none⟩), .int .i64 n] w (Did w b v (Mc.reverse ⟨l, a, p, t, tags⟩).1 (Mc.reverse ⟨l, a, p, t, tags⟩).2) := by
  obtain ⟨l0, l1, a0, a1, p0, p1, tg, ln, t0⟩ := hI
  simp only at l0 l1 a0 a1 p0 p1 t0
  clear tg ln
  have c0 := hM.1.cell (i := 0) (by omega)
  have c1 := hM.1.cell (i := 1) (by omega)
  have f1 := hM.1.frozen 1
  simp only [mf] at c0 c1
  have HM := hid hM
  clear hM
  by_cases h1 : p ≤ 0
  · have HE := hid (show Mc.reverse ⟨l, a, p, t, tags⟩ = (⟨l, a, p, t, tags⟩, 18) from by unfold Mc.reverse; rw [if_pos h1])
    rw [HE.out]
    go_enter Try.func99, Try.ntmps99
    go_wp2_with fail
    go_ret
    exact ⟨rfl, HM.out, Keep.refl _ w⟩
  have d1 : decide (p ≤ 0) = false := decide_eq_false h1
  have L1 : IntKind.i64.wrap (p - 1) = p - 1 := IntWalk.i64_in _ (by omega)
  by_cases h2 : a = p - 1
  · have HE := hid (show Mc.reverse ⟨l, a, p, t, tags⟩ = (⟨l, a, a, t, tags⟩, 0) from by unfold Mc.reverse; rw [if_neg h1, if_neg (by simpa using h2)])
    rw [HE.out]
    have d2 : (a != p - 1) = false := by simpa using h2
    have H2 := hid h2
    clear h2
    go_enter Try.func99, Try.ntmps99
    go_wp2_with fail
    have hXS := And.intro c0 c1
    refine wpX_region (S := fun w' => w'.cell? ⟨b, 0, none⟩ = some (.int .i64 a) ∧ w'.cell? ⟨b, 1, none⟩ = some (.int .i64 p)) (L := 99) (by kernel_rfl) ?_
    refine wpX_take (i := 0) (v := ?_) rfl rfl (by kernel_rfl) (fun _ _ _ h => h) (Or.inl ⟨rfl, fun wS hwS => ?_⟩) hXS ?_
    rotate_left
    · go_simp; try rfl
    simp only [List.set_cons_zero, List.set_cons_succ]
    refine wpX_take (i := 1) (v := ?_) rfl rfl (by kernel_rfl) (fun _ _ _ h => h) (Or.inl ⟨rfl, fun wS hwS => ?_⟩) hXS ?_
    rotate_left
    · go_simp; try rfl
    simp only [List.set_cons_zero, List.set_cons_succ]
    refine wpX_take (i := 2) (v := ?_) rfl rfl (by kernel_rfl) (fun _ _ _ h => h) (Or.inl ⟨rfl, fun wS hwS => ?_⟩) hXS ?_
    rotate_left
    · go_simp; try rfl
    simp only [List.set_cons_zero, List.set_cons_succ]
    refine wpX_take (i := 3) (v := ?_) rfl rfl (by kernel_rfl) (fun _ _ _ h => h) (Or.inl ⟨rfl, fun wS hwS => ?_⟩) hXS ?_
    rotate_left
    · go_simp; try rfl
    simp only [List.set_cons_zero, List.set_cons_succ]
    refine wpX_take (i := 4) (v := ?_) rfl rfl (by kernel_rfl) (fun _ _ _ h => h) (Or.inl ⟨rfl, fun wS hwS => ?_⟩) hXS ?_
    rotate_left
    · go_simp; try rfl
    simp only [List.set_cons_zero, List.set_cons_succ]
    refine wpX_take (i := 5) (v := ?_) rfl rfl (by kernel_rfl) (fun _ _ _ h => h) (Or.inl ⟨rfl, fun wS hwS => ?_⟩) hXS ?_
    rotate_left
    · go_simp; try rfl
    simp only [List.set_cons_zero, List.set_cons_succ]
    refine wpX_take (i := 6) (v := ?_) rfl rfl (by kernel_rfl) (fun _ _ _ h => h) (Or.inl ⟨rfl, fun wS hwS => ?_⟩) hXS ?_
    rotate_left
    · go_simp; try rfl
    simp only [List.set_cons_zero, List.set_cons_succ]
    refine wpX_take (i := 7) (v := ?_) rfl rfl (by kernel_rfl) (fun _ _ _ h => h) (Or.inl ⟨rfl, fun wS hwS => ?_⟩) hXS ?_
    rotate_left
    · go_simp; try rfl
    simp only [List.set_cons_zero, List.set_cons_succ]
    refine wpX_take (i := 8) (v := ?_) rfl rfl (by kernel_rfl) (fun _ _ _ h => h) (Or.inl ⟨rfl, fun wS hwS => ?_⟩) hXS ?_
    rotate_left
    · go_simp; try rfl
    simp only [List.set_cons_zero, List.set_cons_succ]
    refine wpX_take (i := 9) (v := ?_) rfl rfl (by kernel_rfl) (fun _ _ _ h => h) (Or.inl ⟨rfl, fun wS hwS => ?_⟩) hXS ?_
    rotate_left
    · go_simp; try rfl
    simp only [List.set_cons_zero, List.set_cons_succ]
    refine wpX_take (i := 10) (v := ?_) rfl rfl (by kernel_rfl) (fun _ _ _ h => h) (Or.inl ⟨rfl, fun wS hwS => ?_⟩) hXS ?_
    rotate_left
    · go_simp; try rfl
    simp only [List.set_cons_zero, List.set_cons_succ]
    refine wpX_take (i := 11) (v := ?_) rfl rfl (by kernel_rfl) (fun _ _ _ h => h) (Or.inl ⟨rfl, fun wS hwS => ?_⟩) hXS ?_
    rotate_left
    · go_simp; try rfl
    simp only [List.set_cons_zero, List.set_cons_succ]
    refine wpX_take (i := 12) (v := ?_) rfl rfl (by kernel_rfl) (fun _ _ _ h => h) (Or.inl ⟨rfl, fun wS hwS => ?_⟩) hXS ?_
    rotate_left
    · go_simp; try rfl
    simp only [List.set_cons_zero, List.set_cons_succ]
    refine wpX_done (by kernel_rfl) ?_
    go_wp2_with fail
    go_ret
    exact ⟨rfl, Mach.set (m := ⟨l, a, p, t, tags⟩) (HM.out.kw (KW.refl w).drew) 1 _ rfl (fun j hj => by rcases (show j = 0 ∨ j = 1 ∨ j = 2 ∨ j = 3 ∨ j = 4 by omega) with rfl | rfl | rfl | rfl | rfl <;> rfl), (Keep.refl _ w).drew.setCell _ _ (.inl rfl)⟩
  · have HE := hid (show Mc.reverse ⟨l, a, p, t, tags⟩ = (⟨l, a, p, t, tags⟩, 17) from by unfold Mc.reverse; rw [if_neg h1, if_pos (by simpa using h2)])
    rw [HE.out]
    have d2 : (a != p - 1) = true := by simpa using h2
    clear h2
    go_enter Try.func99, Try.ntmps99
    go_wp2_with fail
    have hXS := And.intro c0 c1
    refine wpX_region (S := fun w' => w'.cell? ⟨b, 0, none⟩ = some (.int .i64 a) ∧ w'.cell? ⟨b, 1, none⟩ = some (.int .i64 p)) (L := 99) (by kernel_rfl) ?_
    refine wpX_take (i := 0) (v := ?_) rfl rfl (by kernel_rfl) (fun _ _ _ h => h) (Or.inl ⟨rfl, fun wS hwS => ?_⟩) hXS ?_
    rotate_left
    · go_simp; try rfl
    simp only [List.set_cons_zero, List.set_cons_succ]
    refine wpX_take (i := 1) (v := ?_) rfl rfl (by kernel_rfl) (fun _ _ _ h => h) (Or.inl ⟨rfl, fun wS hwS => ?_⟩) hXS ?_
    rotate_left
    · go_simp; try rfl
    simp only [List.set_cons_zero, List.set_cons_succ]
    refine wpX_take (i := 2) (v := ?_) rfl rfl (by kernel_rfl) (fun _ _ _ h => h) (Or.inl ⟨rfl, fun wS hwS => ?_⟩) hXS ?_
    rotate_left
    · go_simp; try rfl
    simp only [List.set_cons_zero, List.set_cons_succ]
    refine wpX_take (i := 3) (v := ?_) rfl rfl (by kernel_rfl) (fun _ _ _ h => h) (Or.inl ⟨rfl, fun wS hwS => ?_⟩) hXS ?_
    rotate_left
    · go_simp; try rfl
    simp only [List.set_cons_zero, List.set_cons_succ]
    refine wpX_take (i := 4) (v := ?_) rfl rfl (by kernel_rfl) (fun _ _ _ h => h) (Or.inl ⟨rfl, fun wS hwS => ?_⟩) hXS ?_
    rotate_left
    · go_simp; try rfl
    simp only [List.set_cons_zero, List.set_cons_succ]
    refine wpX_take (i := 5) (v := ?_) rfl rfl (by kernel_rfl) (fun _ _ _ h => h) (Or.inl ⟨rfl, fun wS hwS => ?_⟩) hXS ?_
    rotate_left
    · go_simp; try rfl
    simp only [List.set_cons_zero, List.set_cons_succ]
    refine wpX_take (i := 6) (v := ?_) rfl rfl (by kernel_rfl) (fun _ _ _ h => h) (Or.inl ⟨rfl, fun wS hwS => ?_⟩) hXS ?_
    rotate_left
    · go_simp; try rfl
    simp only [List.set_cons_zero, List.set_cons_succ]
    refine wpX_take (i := 7) (v := ?_) rfl rfl (by kernel_rfl) (fun _ _ _ h => h) (Or.inl ⟨rfl, fun wS hwS => ?_⟩) hXS ?_
    rotate_left
    · go_simp; try rfl
    simp only [List.set_cons_zero, List.set_cons_succ]
    refine wpX_take (i := 8) (v := ?_) rfl rfl (by kernel_rfl) (fun _ _ _ h => h) (Or.inl ⟨rfl, fun wS hwS => ?_⟩) hXS ?_
    rotate_left
    · go_simp; try rfl
    simp only [List.set_cons_zero, List.set_cons_succ]
    refine wpX_take (i := 9) (v := ?_) rfl rfl (by kernel_rfl) (fun _ _ _ h => h) (Or.inl ⟨rfl, fun wS hwS => ?_⟩) hXS ?_
    rotate_left
    · go_simp; try rfl
    simp only [List.set_cons_zero, List.set_cons_succ]
    refine wpX_take (i := 10) (v := ?_) rfl rfl (by kernel_rfl) (fun _ _ _ h => h) (Or.inl ⟨rfl, fun wS hwS => ?_⟩) hXS ?_
    rotate_left
    · go_simp; try rfl
    simp only [List.set_cons_zero, List.set_cons_succ]
    refine wpX_take (i := 11) (v := ?_) rfl rfl (by kernel_rfl) (fun _ _ _ h => h) (Or.inl ⟨rfl, fun wS hwS => ?_⟩) hXS ?_
    rotate_left
    · go_simp; try rfl
    simp only [List.set_cons_zero, List.set_cons_succ]
    refine wpX_take (i := 12) (v := ?_) rfl rfl (by kernel_rfl) (fun _ _ _ h => h) (Or.inl ⟨rfl, fun wS hwS => ?_⟩) hXS ?_
    rotate_left
    · go_simp; try rfl
    simp only [List.set_cons_zero, List.set_cons_succ]
    refine wpX_done (by kernel_rfl) ?_
    go_wp2_with fail
    go_ret
    exact ⟨rfl, HM.out.kw (KW.refl w).drew, (KW.refl w).drew.keep⟩
end Go.Proofs.Ytgadkelldbibgaa
