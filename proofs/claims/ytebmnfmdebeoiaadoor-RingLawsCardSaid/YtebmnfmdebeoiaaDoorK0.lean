/- Calls of the ring on slices made in place; the example of the page about the ring: 'goes' returns true. -/
import Derived.Test.YtebmnfmdebeoiaaDoorR1e
namespace Go.Proofs.YtebmnfmdebeoiaaDoor
open Go.ChangeShapes Go.WideShapes Go.ChangeAt Go.RowKit
set_option linter.unusedVariables false

theorem KW.t {a b c : World} (h : KW a b) (k : KW b c) : KW a c := h.on k
theorem row1_new (w : World) (t : TypeId) (l : List Int) : Row1 (w.alloc (.cells (l.map (Value.int .u64)).toArray t)) (some ⟨w.heap.size, 0, none⟩) l.length fun k => .int .u64 (l.getD k 0) := by
  intro _
  refine ⟨w.heap.size, 0, rfl, by simp, fun k hk => ?_⟩
  rw [cell_of_row _ _ _ _ _ _ (heap_alloc_new w _)]
  simp [hk]
theorem pure_kw {P : Program} {f : FuncId} {args : Array Value} {w : World} {o : Obj} {v : Value} (h : Calls P f args (w.alloc o) fun e w' => e = .returned v ∧ w.alloc o = w') :
    Calls P f args (w.alloc o) fun e w' => e = .returned v ∧ KW w w' := h.mono fun _ _ ⟨he, hw⟩ => ⟨he, hw ▸ (KW.refl w).alloc o⟩

theorem add2 (a b : Int) (w : World) (t : TypeId) : Calls Tryd.prog 19 #[.slice (some ⟨w.heap.size, 0, none⟩) 2 2] (w.alloc (.cells #[.int .u64 a, .int .u64 b] t)) fun e w' => e = .returned (.int .u64 (IntKind.u64.wrap (a + b))) ∧ KW w w' := by
  have h := pure_kw (add_any (some ⟨w.heap.size, 0, none⟩) 2 2 (fun k => [a, b].getD k 0) _ (by omega) (row1_new w t [a, b]))
  have e : Pl.sm (fun k => [a, b].getD k 0) 2 = a + b := by simp [Pl.sm]
  rw [e] at h; exact h
theorem add1 (a : Int) (w : World) (t : TypeId) (h0 : 0 ≤ a) (h1 : a ≤ 18446744073709551615) : Calls Tryd.prog 19 #[.slice (some ⟨w.heap.size, 0, none⟩) 1 1] (w.alloc (.cells #[.int .u64 a] t)) fun e w' => e = .returned (.int .u64 a) ∧ KW w w' := by
  have h := pure_kw (add_any (some ⟨w.heap.size, 0, none⟩) 1 1 (fun k => [a].getD k 0) _ (by omega) (row1_new w t [a]))
  have e : Pl.sm (fun k => [a].getD k 0) 1 = a := by simp [Pl.sm]
  rw [e, Pl.uw_id h0 h1] at h; exact h
theorem add0 (c : Nat) (w : World) : Calls Tryd.prog 19 #[.slice none 0 c] w fun e w' => e = .returned (.int .u64 0) ∧ KW w w' :=
  (add_any none 0 c (fun _ => 0) w (by omega) (fun h => by omega)).mono fun _ _ ⟨he, hw⟩ => ⟨he, hw ▸ KW.refl w⟩
theorem mul2 (a b : Int) (w : World) (t : TypeId) : Calls Tryd.prog 25 #[.slice (some ⟨w.heap.size, 0, none⟩) 2 2] (w.alloc (.cells #[.int .u64 a, .int .u64 b] t)) fun e w' => e = .returned (.int .u64 (IntKind.u64.wrap (a * b))) ∧ KW w w' := by
  have h := pure_kw (mul_any (some ⟨w.heap.size, 0, none⟩) 2 2 (fun k => [a, b].getD k 0) _ (by omega) (row1_new w t [a, b]))
  have e : Pl.pr (fun k => [a, b].getD k 0) 2 = a * b := by simp [Pl.pr]
  rw [e] at h; exact h
theorem mul3 (a b c : Int) (w : World) (t : TypeId) : Calls Tryd.prog 25 #[.slice (some ⟨w.heap.size, 0, none⟩) 3 3] (w.alloc (.cells #[.int .u64 a, .int .u64 b, .int .u64 c] t)) fun e w' => e = .returned (.int .u64 (IntKind.u64.wrap (a * b * c))) ∧ KW w w' := by
  have h := pure_kw (mul_any (some ⟨w.heap.size, 0, none⟩) 3 3 (fun k => [a, b, c].getD k 0) _ (by omega) (row1_new w t [a, b, c]))
  have e : Pl.pr (fun k => [a, b, c].getD k 0) 3 = a * b * c := by simp [Pl.pr]
  rw [e] at h; exact h
theorem mul1 (a : Int) (w : World) (t : TypeId) (h0 : 0 ≤ a) (h1 : a ≤ 18446744073709551615) : Calls Tryd.prog 25 #[.slice (some ⟨w.heap.size, 0, none⟩) 1 1] (w.alloc (.cells #[.int .u64 a] t)) fun e w' => e = .returned (.int .u64 a) ∧ KW w w' := by
  have h := pure_kw (mul_any (some ⟨w.heap.size, 0, none⟩) 1 1 (fun k => [a].getD k 0) _ (by omega) (row1_new w t [a]))
  have e : Pl.pr (fun k => [a].getD k 0) 1 = a := by simp [Pl.pr]
  rw [e, Pl.uw_id h0 h1] at h; exact h
theorem mul0 (c : Nat) (w : World) : Calls Tryd.prog 25 #[.slice none 0 c] w fun e w' => e = .returned (.int .u64 1) ∧ KW w w' :=
  (mul_any none 0 c (fun _ => 0) w (by omega) (fun h => by omega)).mono fun _ _ ⟨he, hw⟩ => ⟨he, hw ▸ KW.refl w⟩

theorem goes_inv (w : World) : Calls Tryd.prog 12 #[.int .u64 3] w fun e w' => e = .returned (.tuple #[.int .u64 12297829382473034411, .bool true]) ∧ w = w' := by
  have h := rinv_odd 3 w (by omega) (by omega) (by omega)
  rwa [show Pl.inv 3 = 12297829382473034411 from by decide +kernel] at h
theorem goes_add (w : World) (t : TypeId) : Calls Tryd.prog 19 #[.slice (some ⟨w.heap.size, 0, none⟩) 2 2] (w.alloc (.cells #[.int .u64 9223372036854775808, .int .u64 9223372036854775808] t)) fun e w' => e = .returned (.int .u64 0) ∧ KW w w' := by
  have h := add2 9223372036854775808 9223372036854775808 w t
  rwa [show IntKind.u64.wrap (9223372036854775808 + 9223372036854775808) = 0 from by decide +kernel] at h
theorem goes_pow (w : World) : Calls Tryd.prog 14 #[.int .u64 3, .int .u64 4] w fun e w' => e = .returned (.int .u64 81) ∧ w = w' := by
  have h := rpow1_any 3 4 w (by omega) (by omega) (by omega) (by omega)
  rwa [show IntKind.u64.wrap (3 ^ (4 : Int).toNat) = 81 from by decide +kernel] at h
theorem goes_twos (w : World) (hT : Tab w) : Calls Tryd.prog 16 #[.int .u64 48] w fun e w' => e = .returned (.int .i64 4) ∧ w = w' := by
  have h := rtwos_any 48 w (by omega) (by omega) hT
  rwa [show Pl.tw 48 = 4 from by decide +kernel] at h
theorem goes_horner (w : World) (t : TypeId) : Calls Tryd.prog 29 #[.slice (some ⟨w.heap.size, 0, none⟩) 3 3, .int .u64 2] (w.alloc (.cells #[.int .u64 1, .int .u64 2, .int .u64 3] t)) fun e w' => e = .returned (.int .u64 17) ∧ KW w w' := by
  have h := pure_kw (horner_any (some ⟨w.heap.size, 0, none⟩) 3 3 (fun k => [1, 2, 3].getD k 0) 2 _ (by omega) (row1_new w t [1, 2, 3]))
  rw [show IntKind.u64.wrap (Pl.hz (fun k => [1, 2, 3].getD k 0) 2 3) = 17 from by decide +kernel] at h; exact h

set_option maxHeartbeats 1000000 in
theorem goes_any (w : World) (hT : Tab w) : Calls Tryd.prog 18 #[] w fun e w' => e = .returned (.bool true) ∧ KW w w' := by
  have hk := KW.refl w
  go_enter Tryd.func18, Tryd.ntmps18
  go_wp2_with (first
    | (go_at_call 12; refine (goes_inv _).mono ?_; rintro e w1 ⟨rfl, rfl⟩)
    | (go_at_call 19; refine (goes_add _ _).mono ?_; rintro e w1 ⟨rfl, hb⟩; replace hk := hk.t hb; clear hb)
    | (go_at_call 14; refine (goes_pow _).mono ?_; rintro e w1 ⟨rfl, rfl⟩)
    | (go_at_call 16; refine (goes_twos _ (hT.on hk)).mono ?_; rintro e w1 ⟨rfl, rfl⟩)
    | (go_at_call 29; refine (goes_horner _ _).mono ?_; rintro e w1 ⟨rfl, hb⟩; replace hk := hk.t hb; clear hb))
  go_ret
  exact ⟨rfl, hk⟩
end Go.Proofs.YtebmnfmdebeoiaaDoor
