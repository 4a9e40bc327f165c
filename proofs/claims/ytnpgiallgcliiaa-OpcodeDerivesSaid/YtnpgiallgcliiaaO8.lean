/- Names of kinds. -/
import Derived.Test.YtnpgiallgcliiaaO7
namespace Go.Proofs.Ytnpgiallgcliiaa
open Go.ChangeShapes Go.WideShapes Go.ChangeAt Go.RowKit
set_option linter.unusedVariables false

namespace Oc
def nms : List ByteArray := [⟨#[101, 110, 100]⟩, ⟨#[97, 100, 100]⟩, ⟨#[115, 117, 98]⟩, ⟨#[109, 117, 108]⟩, ⟨#[110, 101, 103]⟩, ⟨#[99, 111, 110, 115, 116]⟩, ⟨#[99, 111, 112, 121]⟩, ⟨#[114, 101, 112, 101, 97, 116]⟩]
def nm (j : Nat) : ByteArray := nms.getD j ⟨#[]⟩
def nmI (k : Int) : ByteArray := if 0 ≤ k ∧ k < 8 then nm k.toNat else ⟨#[]⟩
def eqb (a s : ByteArray) : Bool := a.toList == s.toList
def kd (s : ByteArray) : Int × Bool :=
  if eqb (nm 0) s = true then (0, true) else if eqb (nm 1) s = true then (1, true) else if eqb (nm 2) s = true then (2, true) else if eqb (nm 3) s = true then (3, true) else
  if eqb (nm 4) s = true then (4, true) else if eqb (nm 5) s = true then (5, true) else if eqb (nm 6) s = true then (6, true) else if eqb (nm 7) s = true then (7, true) else (0, false)
theorem ff {b : Bool} (h : b = false) : ¬ b = true := by rw [h]; simp
theorem kd_hit {s : ByteArray} {j : Nat} (hj : j < 8) (h : ∀ q, q < j → eqb (nm q) s = false) (he : eqb (nm j) s = true) : kd s = ((j : Int), true) := by
  unfold kd
  rcases (show j = 0 ∨ j = 1 ∨ j = 2 ∨ j = 3 ∨ j = 4 ∨ j = 5 ∨ j = 6 ∨ j = 7 by omega) with rfl | rfl | rfl | rfl | rfl | rfl | rfl | rfl
  · rw [if_pos he]; rfl
  · rw [if_neg (ff (h 0 (by omega))), if_pos he]; rfl
  · rw [if_neg (ff (h 0 (by omega))), if_neg (ff (h 1 (by omega))), if_pos he]; rfl
  · rw [if_neg (ff (h 0 (by omega))), if_neg (ff (h 1 (by omega))), if_neg (ff (h 2 (by omega))), if_pos he]; rfl
  · rw [if_neg (ff (h 0 (by omega))), if_neg (ff (h 1 (by omega))), if_neg (ff (h 2 (by omega))), if_neg (ff (h 3 (by omega))), if_pos he]; rfl
  · rw [if_neg (ff (h 0 (by omega))), if_neg (ff (h 1 (by omega))), if_neg (ff (h 2 (by omega))), if_neg (ff (h 3 (by omega))), if_neg (ff (h 4 (by omega))), if_pos he]; rfl
  · rw [if_neg (ff (h 0 (by omega))), if_neg (ff (h 1 (by omega))), if_neg (ff (h 2 (by omega))), if_neg (ff (h 3 (by omega))), if_neg (ff (h 4 (by omega))), if_neg (ff (h 5 (by omega))), if_pos he]; rfl
  · rw [if_neg (ff (h 0 (by omega))), if_neg (ff (h 1 (by omega))), if_neg (ff (h 2 (by omega))), if_neg (ff (h 3 (by omega))), if_neg (ff (h 4 (by omega))), if_neg (ff (h 5 (by omega))), if_neg (ff (h 6 (by omega))), if_pos he]; rfl
theorem kd_miss {s : ByteArray} (h : ∀ q, q < 8 → eqb (nm q) s = false) : kd s = (0, false) := by
  unfold kd
  rw [if_neg (ff (h 0 (by omega))), if_neg (ff (h 1 (by omega))), if_neg (ff (h 2 (by omega))), if_neg (ff (h 3 (by omega))), if_neg (ff (h 4 (by omega))), if_neg (ff (h 5 (by omega))), if_neg (ff (h 6 (by omega))), if_neg (ff (h 7 (by omega)))]
theorem kd_name (k : Int) : kd (nmI k) = if 0 ≤ k ∧ k < 8 then (k, true) else (0, false) := by
  unfold nmI
  by_cases h : 0 ≤ k ∧ k < 8
  · rw [if_pos h, if_pos h]
    rcases (show k = 0 ∨ k = 1 ∨ k = 2 ∨ k = 3 ∨ k = 4 ∨ k = 5 ∨ k = 6 ∨ k = 7 by omega) with rfl | rfl | rfl | rfl | rfl | rfl | rfl | rfl <;> decide +kernel
  · rw [if_neg h, if_neg h]
    decide +kernel
end Oc
def nmv : Array Value := #[.string ⟨#[101, 110, 100]⟩, .string ⟨#[97, 100, 100]⟩, .string ⟨#[115, 117, 98]⟩, .string ⟨#[109, 117, 108]⟩, .string ⟨#[110, 101, 103]⟩, .string ⟨#[99, 111, 110, 115, 116]⟩, .string ⟨#[99, 111, 112, 121]⟩, .string ⟨#[114, 101, 112, 101, 97, 116]⟩]
theorem idx8 (j : Nat) (hj : j < 8) (W : World) : (Instr.index 79 (.agg nmv) (.int .i64 j)).run Try.prog W = .ok (.string (Oc.nm j)) W := by
  rcases (show j = 0 ∨ j = 1 ∨ j = 2 ∨ j = 3 ∨ j = 4 ∨ j = 5 ∨ j = 6 ∨ j = 7 by omega) with rfl | rfl | rfl | rfl | rfl | rfl | rfl | rfl <;> kernel_rfl

theorem onames_any (w : World) : Calls Try.prog 55 #[] w fun e w' => e = .returned (.agg nmv) ∧ KW w w' := by
  go_enter Try.func55, Try.ntmps55
  go_wp2_with fail
  exact bodyPost_ret (results_cell_row rfl _ _ _ _ _ (0, 0) _ rfl (heap_alloc_new w _) Try.underlying79 rfl (by kernel_rfl)) rfl ⟨rfl, (KW.refl w).alloc _⟩
theorem oname_any (k : Int) (w : World) : Calls Try.prog 23 #[.int .i64 k] w fun e w' => e = .returned (.string (Oc.nmI k)) ∧ KW w w' := by
  have HK := hid (fun W => known_any k W)
  have HN := hid (fun W => onames_any W)
  by_cases h : 0 ≤ k ∧ k < 8
  · rw [show Oc.kn k = true from decide_eq_true h] at HK
    obtain ⟨j, rfl⟩ : ∃ j : Nat, k = j := ⟨k.toNat, by omega⟩
    have hx := idx8 j (by omega)
    have HE := hid (show Oc.nmI (j : Int) = Oc.nm j from by unfold Oc.nmI; rw [if_pos h]; rfl)
    rw [HE.out]
    generalize Oc.nm j = s at *
    generalize nmv = nv at *
    clear HE
    go_enter Try.func23, Try.ntmps23
    go_wp2_with fail
    refine (HK.out _).mono ?_
    rintro e w1 ⟨rfl, rfl⟩
    go_wp2_with fail
    refine (HN.out _).mono ?_
    rintro e w1 ⟨rfl, hb⟩
    go_wp2_with fail
    go_ret
    exact ⟨rfl, hb⟩
  · rw [show Oc.kn k = false from decide_eq_false h] at HK
    have HE := hid (show Oc.nmI k = ⟨#[]⟩ from by unfold Oc.nmI; rw [if_neg h])
    rw [HE.out]
    clear HE h
    go_enter Try.func23, Try.ntmps23
    go_wp2_with fail
    refine (HK.out _).mono ?_
    rintro e w1 ⟨rfl, rfl⟩
    go_wp2_with fail
    go_ret
    exact ⟨rfl, KW.refl _⟩
set_option maxHeartbeats 2000000 in
theorem rname_any (k : Int) (w : World) : Calls Try.prog 24 #[.int .i64 k] w fun e w' => e = .returned (.string (Oc.nmI k)) ∧ KW w w' := by
  have hk := (KW.refl w).alloc (.cells nmv 9)
  by_cases h : 0 ≤ k ∧ k < 8
  · obtain ⟨j, rfl⟩ : ∃ j : Nat, k = j := ⟨k.toNat, by omega⟩
    have HE := hid (show Oc.nmI (j : Int) = Oc.nm j from by unfold Oc.nmI; rw [if_pos h]; rfl)
    rw [HE.out]
    rcases (show j = 0 ∨ j = 1 ∨ j = 2 ∨ j = 3 ∨ j = 4 ∨ j = 5 ∨ j = 6 ∨ j = 7 by omega) with rfl | rfl | rfl | rfl | rfl | rfl | rfl | rfl
    all_goals
      clear HE h
      go_enter Try.func24, Try.ntmps24
      go_wp2_with fail
      go_ret
      exact ⟨rfl, hk⟩
  · have HE := hid (show Oc.nmI k = ⟨#[]⟩ from by unfold Oc.nmI; rw [if_neg h])
    rw [HE.out]
    by_cases h0 : k < 0
    · clear HE h
      go_enter Try.func24, Try.ntmps24
      go_wp2_with fail
      go_ret
      exact ⟨rfl, hk⟩
    · have d0 : decide (k < 0) = false := decide_eq_false h0
      have d1 : 7 < k := by omega
      clear HE h h0
      go_enter Try.func24, Try.ntmps24
      go_wp2_with fail
      go_ret
      exact ⟨rfl, hk⟩
theorem okind_any (s : ByteArray) (w : World) : Calls Try.prog 21 #[.string s] w fun e w' => e = .returned (.tuple #[.int .i64 (Oc.kd s).1, .bool (Oc.kd s).2]) ∧ KW w w' := by
  have HN := hid (fun W => onames_any W)
  have HX := hid idx8
  have HH := hid (fun j hj h he => Oc.kd_hit (s := s) (j := j) hj h he)
  have HM := hid (fun h => Oc.kd_miss (s := s) h)
  generalize Oc.kd s = r at *
  unfold Oc.eqb at HH HM
  generalize Oc.nm = nm at *
  generalize nmv = nv at *
  go_enter Try.func21, Try.ntmps21
  go_wp2_with fail
  refine (HN.out _).mono ?_
  rintro e w1 ⟨rfl, hb⟩
  go_wp2_with fail
  go_loop [4, 5, 7] (fun _ _ i => ∃ j : Nat, j ≤ 8 ∧ i = .int .i64 j ∧ Hid (∀ q, q < j → ((nm q).toList == s.toList) = false)) (fun _ _ i => 8 - (intOf i).toNat)
  case atStart => exact ⟨0, by omega, rfl, fun q hq => by omega⟩
  case round =>
    obtain ⟨j, hj, rfl, HQ⟩ := hrel
    by_cases hlt : j < 8
    · have hx := HX.out j hlt
      have L5 : (j : Int) < 8 := by omega
      cases he : ((nm j).toList == s.toList) with
      | true =>
        have HR := hid (HH.out j hlt HQ.out he)
        go_wp2_with fail
        go_ret2
        exact ⟨by rw [HR.out]; rfl, hb⟩
      | false =>
        have HQ2 : Hid (∀ q, q < j + 1 → ((nm q).toList == s.toList) = false) := fun q hq => by
          rcases (show q < j ∨ q = j by omega) with h1 | rfl
          · exact HQ.out q h1
          · exact he
        go_wp2_with fail
        go_round
        case rel => exact ⟨j + 1, by omega, by go_num, HQ2⟩
        case measure => simp [intOf]; omega
    · obtain rfl : j = 8 := by omega
      have HR := hid (HM.out HQ.out)
      clear hlt
      go_wp2_with fail
      go_ret2
      exact ⟨by rw [HR.out]; rfl, hb⟩
theorem rkind_any (s : ByteArray) (w : World) : Calls Try.prog 22 #[.string s] w fun e w' => e = .returned (.tuple #[.int .i64 (Oc.kd s).1, .bool (Oc.kd s).2]) ∧ KW w w' := by
  have HN : Hid (∀ j : Nat, j < 8 → ∀ W, Calls Try.prog 24 #[.int .i64 j] W fun e w' => e = .returned (.string (Oc.nm j)) ∧ KW W w') := fun j hj W => by
    have h := rname_any j W
    rwa [show Oc.nmI (j : Int) = Oc.nm j from by unfold Oc.nmI; rw [if_pos (by omega)]; rfl] at h
  have HH := hid (fun j hj h he => Oc.kd_hit (s := s) (j := j) hj h he)
  have HM := hid (fun h => Oc.kd_miss (s := s) h)
  generalize Oc.kd s = r at *
  unfold Oc.eqb at HH HM
  generalize Oc.nm = nm at *
  go_enter Try.func22, Try.ntmps22
  go_wp2_with fail
  go_loopw [4] (fun i wr => ∃ j : Nat, j ≤ 8 ∧ i = .int .i64 j ∧ Hid (∀ q, q < j → ((nm q).toList == s.toList) = false) ∧ Hid (KW w wr)) (fun i _ => 8 - (intOf i).toNat)
  case atStart => exact ⟨0, by omega, rfl, fun q hq => by omega, KW.refl w⟩
  case round =>
    obtain ⟨j, hj, rfl, HQ, HK⟩ := hrel
    by_cases hlt : j < 8
    · have L5 : (j : Int) < 8 := by omega
      have HNj := hid (HN.out j hlt)
      cases he : ((nm j).toList == s.toList) with
      | true =>
        have HR := hid (HH.out j hlt HQ.out he)
        go_wp2_with fail
        refine (HNj.out _).mono ?_
        rintro e w1 ⟨rfl, hb⟩
        go_wp2_with fail
        go_ret2
        exact ⟨by rw [HR.out]; rfl, HK.out.t hb⟩
      | false =>
        have HQ2 : Hid (∀ q, q < j + 1 → ((nm q).toList == s.toList) = false) := fun q hq => by
          rcases (show q < j ∨ q = j by omega) with h1 | rfl
          · exact HQ.out q h1
          · exact he
        go_wp2_with fail
        refine (HNj.out _).mono ?_
        rintro e w1 ⟨rfl, hb⟩
        go_wp2_with fail
        go_roundw
        case rel => exact ⟨j + 1, by omega, by go_num, HQ2, HK.out.t hb⟩
        case measure => simp [intOf]; omega
    · obtain rfl : j = 8 := by omega
      have HR := hid (HM.out HQ.out)
      clear hlt
      go_wp2_with fail
      go_ret2
      exact ⟨by rw [HR.out]; rfl, HK.out⟩
end Go.Proofs.Ytnpgiallgcliiaa
