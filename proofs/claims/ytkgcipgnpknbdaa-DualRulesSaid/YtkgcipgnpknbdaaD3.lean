/- Contracts of dual.Sub, Horner, and of the reference's Add, Mul, Horner of duals. -/
import Derived.Test.YtkgcipgnpknbdaaD2
namespace Go.Proofs.Ytkgcipgnpknbdaa
open Go.ChangeShapes Go.WideShapes Go.ChangeAt Go.RowKit
set_option linter.unusedVariables false

def sel (a c : Int) (k : Nat) : Int := if k = 0 then a else c
theorem row2_int (w : World) (t : TypeId) (a b c d : Int) : Row2 (w.alloc (.cells #[.int .u64 a, .int .u64 b, .int .u64 c, .int .u64 d] t)) (some ⟨w.heap.size, 0, none⟩) 2 (fun k => .int .u64 (sel a c k)) (fun k => .int .u64 (sel b d k)) := by
  intro _
  refine ⟨w.heap.size, 0, rfl, by simp, fun k hk => ?_⟩
  rw [cell_of_row _ _ _ _ _ _ (heap_alloc_new w _), cell_of_row _ _ _ _ _ _ (heap_alloc_new w _)]
  rcases (show k = 0 ∨ k = 1 from by omega) with rfl | rfl <;> exact ⟨rfl, rfl⟩
theorem dsV_two (a c : Int) : Pl.dsV (sel a c) 2 = IntKind.u64.wrap (a + c) := by
  rw [Pl.dsV_eq]; simp [Pl.sm, sel]
theorem dp_sel (a b c d : Int) : Pl.dp (sel a c) (sel b d) 2 = (IntKind.u64.wrap (a * c), IntKind.u64.wrap (a * d + b * c)) := by
  rw [Pl.dp_two]; simp [sel]
theorem dadd2 (g : Nat) (a b c d : Int) (w : World) (hr : Row2 w (some ⟨g, 0, none⟩) 2 (fun k => .int .u64 (sel a c k)) (fun k => .int .u64 (sel b d k))) :
    Calls Try.prog 15 #[.slice (some ⟨g, 0, none⟩) 2 2] w fun e w' => e = .returned (.agg #[.int .u64 (IntKind.u64.wrap (a + c)), .int .u64 (IntKind.u64.wrap (b + d))]) ∧ Below w.heap.size w w' := by
  have h := dadd_any (some ⟨g, 0, none⟩) 2 2 (sel a c) (sel b d) w (by omega) hr
  rwa [dsV_two, dsV_two] at h
theorem dmul2 (g : Nat) (a b c d : Int) (w : World) (hr : Row2 w (some ⟨g, 0, none⟩) 2 (fun k => .int .u64 (sel a c k)) (fun k => .int .u64 (sel b d k))) :
    Calls Try.prog 8 #[.slice (some ⟨g, 0, none⟩) 2 2] w fun e w' => e = .returned (.agg #[.int .u64 (IntKind.u64.wrap (a * c)), .int .u64 (IntKind.u64.wrap (a * d + b * c))]) ∧ Below w.heap.size w w' := by
  have h := dmul_any (some ⟨g, 0, none⟩) 2 2 (sel a c) (sel b d) w (by omega) hr
  rwa [dp_sel] at h

set_option maxHeartbeats 2000000 in
theorem dsub_any (a b c d : Int) (w : World) :
    Calls Try.prog 17 #[.agg #[.int .u64 a, .int .u64 b], .agg #[.int .u64 c, .int .u64 d]] w fun e w' =>
      e = .returned (.agg #[.int .u64 (IntKind.u64.wrap (a - c)), .int .u64 (IntKind.u64.wrap (b - d))]) ∧ Below w.heap.size w w' := by
  have HE : Hid (IntKind.u64.wrap (a + IntKind.u64.wrap (-c)) = IntKind.u64.wrap (a - c) ∧ IntKind.u64.wrap (b + IntKind.u64.wrap (-d)) = IntKind.u64.wrap (b - d)) := by
    rw [Hid, Pl.uw_addr, Pl.uw_addr]; exact ⟨by rw [Int.sub_eq_add_neg], by rw [Int.sub_eq_add_neg]⟩
  go_enter Try.func17, Try.ntmps17
  go_wp2_with fail
  refine wp_world (fun W => w.heap.size + 1 + 1 + 1 ≤ W.heap.size ∧ Below w.heap.size w W ∧ W.cell? ⟨w.heap.size, 0, none⟩ = some (.int .u64 a) ∧ W.cell? ⟨w.heap.size, 1, none⟩ = some (.int .u64 b) ∧ W.cell? ⟨w.heap.size + 1, 0, none⟩ = some (.int .u64 c) ∧ W.cell? ⟨w.heap.size + 1, 1, none⟩ = some (.int .u64 d) ∧
      Hid (W.rowIs (w.heap.size + 1 + 1) 25 2 (pr2 (.int .u64 0) (.int .u64 0))))
    ⟨by simp, by go_grown, by go_simp, by go_simp, by go_simp, by go_simp, by (have h := pr2_new ((w.alloc (.cells #[.int .u64 a, .int .u64 b] 25)).alloc (.cells #[.int .u64 c, .int .u64 d] 25)) 25 (.int .u64 0) (.int .u64 0)); simpa [Hid] using h⟩ ?_
  rintro W ⟨hS, hB, c0, c1, c2, c3, r0⟩
  obtain ⟨c4, c5, f0, f1⟩ := pr2_cells r0.out
  go_region_held3 (fun w' => w'.cell? ⟨w.heap.size, 0, none⟩ = some (.int .u64 a) ∧ w'.cell? ⟨w.heap.size, 1, none⟩ = some (.int .u64 b) ∧ w'.cell? ⟨w.heap.size + 1, 0, none⟩ = some (.int .u64 c) ∧ w'.cell? ⟨w.heap.size + 1, 1, none⟩ = some (.int .u64 d))
    ((first | exact ⟨c0, c1, c2, c3⟩ | (repeat' apply And.intro) <;> (first | (with_reducible assumption) | (go_simp; done) | (go_keep; done))))
    (first
      | (go_at_call 20; refine (neg2_any _ _ _).mono ?_; rintro e w1 ⟨rfl, hb⟩; (try replace hb := undrew hb); have hB := on_below hb hS hB (by omega); have c0 := on_cell hb hS c0 (by omega); have c1 := on_cell hb hS c1 (by omega); have c2 := on_cell hb hS c2 (by omega); have c3 := on_cell hb hS c3 (by omega); have c4 := on_cell hb hS c4 (by omega); have c5 := on_cell hb hS c5 (by omega); have f0 := on_frozen hb hS f0 (by omega); have f1 := on_frozen hb hS f1 (by omega); have r0 := hid (on_row hb hS r0.out (by omega)); have hS := on_size hb hS)
      | (go_at_call 15; refine (dadd2 _ _ _ _ _ _ (row2_int _ _ _ _ _ _)).mono ?_; rintro e w1 ⟨rfl, hb⟩; (try replace hb := undrew hb); have hB := on_belowA hb hS hB (by omega); have c0 := on_cellA hb hS c0 (by omega); have c1 := on_cellA hb hS c1 (by omega); have c2 := on_cellA hb hS c2 (by omega); have c3 := on_cellA hb hS c3 (by omega); have c4 := on_cellA hb hS c4 (by omega); have c5 := on_cellA hb hS c5 (by omega); have f0 := on_frozenA hb hS f0 (by omega); have f1 := on_frozenA hb hS f1 (by omega); have r0 := hid (on_rowA hb hS r0.out (by omega)); have hS := on_sizeA hb hS))
  rw [HE.out.1, HE.out.2]
  go_wp2
  refine bodyPost_ret (results_cell_row rfl _ _ _ _ _ (0, 0) _ rfl (whole2 (pr2_set r0.out)) Try.underlying25 rfl (by kernel_rfl)) rfl ⟨rfl, ?_⟩
  exact ((hB.setCell (by simp; omega) _).setCell (by simp; omega) _)
end Go.Proofs.Ytkgcipgnpknbdaa
