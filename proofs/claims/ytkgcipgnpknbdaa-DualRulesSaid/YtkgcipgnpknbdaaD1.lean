/- Contracts of the reference's duals: backstitchref02.Plus, Neg, Times. -/
import Derived.Test.YtkgcipgnpknbdaaR1d
import Derived.Test.YtkgcipgnpknbdaaPlain2
import Derived.Deep.RegionHeld3
namespace Go.Proofs.Ytkgcipgnpknbdaa
open Go.ChangeShapes Go.WideShapes Go.ChangeAt Go.RowKit
set_option linter.unusedVariables false

/-- a world under a name of its own: what the rest needs of it is said once -/
theorem wp_world {P : Program} {c : Code} {Q : Exit → Act → World → Prop} {a : Act} {w0 : World} (S : World → Prop) (h0 : S w0) (h : ∀ W, S W → Code.wp P c Q a W) : Code.wp P c Q a w0 := h w0 h0
theorem on_size {n N : Nat} {W w1 : World} (hb : Below N W w1) (hS : n ≤ W.heap.size) : n ≤ w1.heap.size := Nat.le_trans hS hb.size
theorem on_cell {n b o N : Nat} {W w1 : World} {v : Value} (hb : Below N W w1) (hS : n ≤ N) (h : W.cell? ⟨b, o, none⟩ = some v) (hlt : b < n) : w1.cell? ⟨b, o, none⟩ = some v := (hb.cell (p := ⟨b, o, none⟩) (Nat.lt_of_lt_of_le hlt hS)).trans h
theorem on_frozen {n b o N : Nat} {W w1 : World} {v : Bool} (hb : Below N W w1) (hS : n ≤ N) (h : W.frozen? ⟨b, o, none⟩ = v) (hlt : b < n) : w1.frozen? ⟨b, o, none⟩ = v := (hb.frozen (p := ⟨b, o, none⟩) (Nat.lt_of_lt_of_le hlt hS)).trans h
theorem on_row {m b N : Nat} {W w1 : World} {t : TypeId} {n : Nat} {f : Nat → Value} (hb : Below N W w1) (hS : m ≤ N) (h : W.rowIs b t n f) (hlt : b < m) : w1.rowIs b t n f := h.of_block (hb.block b (Nat.lt_of_lt_of_le hlt hS))
theorem on_below {n B N : Nat} {w W w1 : World} (hb : Below N W w1) (hS : n ≤ N) (h : Below B w W) (hlt : B ≤ n) : Below B w w1 := h.trans (hb.mono (Nat.le_trans hlt hS))
theorem on_sizeA {n N : Nat} {W w1 : World} {o : Obj} (hb : Below N (W.alloc o) w1) (hS : n ≤ W.heap.size) : n ≤ w1.heap.size := Nat.le_trans hS (Nat.le_trans (by simp) hb.size)
theorem on_cellA {n b o N : Nat} {W w1 : World} {ob : Obj} {v : Value} (hb : Below N (W.alloc ob) w1) (hS : n ≤ W.heap.size) (h : W.cell? ⟨b, o, none⟩ = some v) (hlt : b < n) (hN : W.heap.size ≤ N := by first | exact Nat.le_succ _ | exact Nat.le_refl _ | (simp; done)) : w1.cell? ⟨b, o, none⟩ = some v :=
  (hb.cell (p := ⟨b, o, none⟩) (Nat.lt_of_lt_of_le hlt (Nat.le_trans hS hN))).trans ((World.cell?_alloc_lt _ _ _ (Nat.lt_of_lt_of_le hlt hS)).trans h)
theorem on_frozenA {n b o N : Nat} {W w1 : World} {ob : Obj} {v : Bool} (hb : Below N (W.alloc ob) w1) (hS : n ≤ W.heap.size) (h : W.frozen? ⟨b, o, none⟩ = v) (hlt : b < n) (hN : W.heap.size ≤ N := by first | exact Nat.le_succ _ | exact Nat.le_refl _ | (simp; done)) : w1.frozen? ⟨b, o, none⟩ = v :=
  (hb.frozen (p := ⟨b, o, none⟩) (Nat.lt_of_lt_of_le hlt (Nat.le_trans hS hN))).trans ((((Below.refl W.heap.size W).alloc (Nat.le_refl _) ob).frozen (p := ⟨b, o, none⟩) (Nat.lt_of_lt_of_le hlt hS)).trans h)
theorem on_rowA {m b N : Nat} {W w1 : World} {ob : Obj} {t : TypeId} {n : Nat} {f : Nat → Value} (hb : Below N (W.alloc ob) w1) (hS : m ≤ W.heap.size) (h : W.rowIs b t n f) (hlt : b < m) (hN : W.heap.size ≤ N := by first | exact Nat.le_succ _ | exact Nat.le_refl _ | (simp; done)) : w1.rowIs b t n f :=
  (h.alloc ob).of_block (hb.block b (Nat.lt_of_lt_of_le hlt (Nat.le_trans hS hN)))
theorem on_belowA {n B N : Nat} {w W w1 : World} {ob : Obj} (hb : Below N (W.alloc ob) w1) (hS : n ≤ W.heap.size) (h : Below B w W) (hlt : B ≤ n) (hN : W.heap.size ≤ N := by first | exact Nat.le_succ _ | exact Nat.le_refl _ | (simp; done)) : Below B w w1 :=
  (h.alloc (Nat.le_trans hlt hS) ob).trans (hb.mono (Nat.le_trans hlt (Nat.le_trans hS hN)))

theorem two_set {w : World} {b : Nat} {u0 u1 : Value} (h0 : w.cell? ⟨b, 0, none⟩ = some u0) (h1 : w.cell? ⟨b, 1, none⟩ = some u1) (v0 v1 : Value) :
    ((w.setCell ⟨b, 0, none⟩ v0).setCell ⟨b, 1, none⟩ v1).cell? ⟨b, 0, none⟩ = some v0 ∧ ((w.setCell ⟨b, 0, none⟩ v0).setCell ⟨b, 1, none⟩ v1).cell? ⟨b, 1, none⟩ = some v1 := by
  constructor
  · rw [World.cell?_setCell_other _ _ _ _ (by simp), World.cell?_setCell_same _ _ _ h0]
  · rw [World.cell?_setCell_same (u := u1) _ _ _ (by rw [World.cell?_setCell_other _ _ _ _ (by simp)]; exact h1)]

set_option maxHeartbeats 2000000 in
theorem dplus_any (a b c d : Int) (ha0 : 0 ≤ a) (ha1 : a ≤ 18446744073709551615) (hb0 : 0 ≤ b) (hb1 : b ≤ 18446744073709551615) (hc0 : 0 ≤ c) (hc1 : c ≤ 18446744073709551615) (hd0 : 0 ≤ d) (hd1 : d ≤ 18446744073709551615) (w : World) :
    Calls Try.prog 18 #[.agg #[.int .u64 a, .int .u64 b], .agg #[.int .u64 c, .int .u64 d]] w fun e w' =>
      e = .returned (.agg #[.int .u64 (IntKind.u64.wrap (a + c)), .int .u64 (IntKind.u64.wrap (b + d))]) ∧ Below w.heap.size w w' := by
  go_enter Try.func18, Try.ntmps18
  go_wp2_with fail
  refine wp_world (fun W => w.heap.size + 1 + 1 + 1 ≤ W.heap.size ∧ Below w.heap.size w W ∧ W.cell? ⟨w.heap.size, 0, none⟩ = some (.int .u64 a) ∧ W.cell? ⟨w.heap.size, 1, none⟩ = some (.int .u64 b) ∧ W.cell? ⟨w.heap.size + 1, 0, none⟩ = some (.int .u64 c) ∧ W.cell? ⟨w.heap.size + 1, 1, none⟩ = some (.int .u64 d) ∧
      W.cell? ⟨w.heap.size + 1 + 1, 0, none⟩ = some (.int .u64 0) ∧ W.cell? ⟨w.heap.size + 1 + 1, 1, none⟩ = some (.int .u64 0) ∧ W.frozen? ⟨w.heap.size + 1 + 1, 0, none⟩ = false ∧ W.frozen? ⟨w.heap.size + 1 + 1, 1, none⟩ = false)
    ⟨by simp, by go_grown, by go_simp, by go_simp, by go_simp, by go_simp, by go_simp, by go_simp, by go_simp, by go_simp⟩ ?_
  rintro W ⟨hS, hB, c0, c1, c2, c3, c4, c5, f0, f1⟩
  go_region_held3 (fun w' => w'.cell? ⟨w.heap.size, 0, none⟩ = some (.int .u64 a) ∧ w'.cell? ⟨w.heap.size, 1, none⟩ = some (.int .u64 b) ∧ w'.cell? ⟨w.heap.size + 1, 0, none⟩ = some (.int .u64 c) ∧ w'.cell? ⟨w.heap.size + 1, 1, none⟩ = some (.int .u64 d))
    ((first | exact ⟨c0, c1, c2, c3⟩ | (repeat' apply And.intro) <;> (first | (with_reducible assumption) | (go_simp; done) | (go_keep; done))))
    (first | (go_at_call 29; refine (plus_any _ _ (by assumption) (by assumption) (by assumption) (by assumption) _).mono ?_; rintro e w1 ⟨rfl, hb⟩; (try replace hb := undrew hb); have hB := on_below hb hS hB (by omega); have c0 := on_cell hb hS c0 (by omega); have c1 := on_cell hb hS c1 (by omega); have c2 := on_cell hb hS c2 (by omega); have c3 := on_cell hb hS c3 (by omega); have c4 := on_cell hb hS c4 (by omega); have c5 := on_cell hb hS c5 (by omega); have f0 := on_frozen hb hS f0 (by omega); have f1 := on_frozen hb hS f1 (by omega); have hS := on_size hb hS))
  go_wp2
  have k := two_set c4 c5
  refine bodyPost_ret (v := .agg #[.int .u64 (IntKind.u64.wrap (a + c)), .int .u64 (IntKind.u64.wrap (b + d))]) (by simp [results, Try.results18, go_sem, k]) rfl ⟨rfl, ?_⟩
  exact (hB.setCell (by simp; omega) _).setCell (by simp; omega) _

set_option maxHeartbeats 2000000 in
theorem dneg_any (a b : Int) (ha0 : 0 ≤ a) (ha1 : a ≤ 18446744073709551615) (hb0 : 0 ≤ b) (hb1 : b ≤ 18446744073709551615) (w : World) :
    Calls Try.prog 19 #[.agg #[.int .u64 a, .int .u64 b]] w fun e w' =>
      e = .returned (.agg #[.int .u64 (IntKind.u64.wrap (-a)), .int .u64 (IntKind.u64.wrap (-b))]) ∧ Below w.heap.size w w' := by
  go_enter Try.func19, Try.ntmps19
  go_wp2_with fail
  refine wp_world (fun W => w.heap.size + 1 + 1 ≤ W.heap.size ∧ Below w.heap.size w W ∧ W.cell? ⟨w.heap.size, 0, none⟩ = some (.int .u64 a) ∧ W.cell? ⟨w.heap.size, 1, none⟩ = some (.int .u64 b) ∧
      W.cell? ⟨w.heap.size + 1, 0, none⟩ = some (.int .u64 0) ∧ W.cell? ⟨w.heap.size + 1, 1, none⟩ = some (.int .u64 0) ∧ W.frozen? ⟨w.heap.size + 1, 0, none⟩ = false ∧ W.frozen? ⟨w.heap.size + 1, 1, none⟩ = false)
    ⟨by simp, by go_grown, by go_simp, by go_simp, by go_simp, by go_simp, by go_simp, by go_simp⟩ ?_
  rintro W ⟨hS, hB, c0, c1, c4, c5, f0, f1⟩
  go_region_held3 (fun w' => w'.cell? ⟨w.heap.size, 0, none⟩ = some (.int .u64 a) ∧ w'.cell? ⟨w.heap.size, 1, none⟩ = some (.int .u64 b))
    ((first | exact ⟨c0, c1⟩ | (repeat' apply And.intro) <;> (first | (with_reducible assumption) | (go_simp; done) | (go_keep; done))))
    (first | (go_at_call 30; refine (neg_any _ (by assumption) (by assumption) _).mono ?_; rintro e w1 ⟨rfl, hb⟩; (try replace hb := undrew hb); have hB := on_below hb hS hB (by omega); have c0 := on_cell hb hS c0 (by omega); have c1 := on_cell hb hS c1 (by omega); have c4 := on_cell hb hS c4 (by omega); have c5 := on_cell hb hS c5 (by omega); have f0 := on_frozen hb hS f0 (by omega); have f1 := on_frozen hb hS f1 (by omega); have hS := on_size hb hS))
  go_wp2
  have k := two_set c4 c5
  refine bodyPost_ret (v := .agg #[.int .u64 (IntKind.u64.wrap (-a)), .int .u64 (IntKind.u64.wrap (-b))]) (by simp [results, Try.results19, go_sem, k]) rfl ⟨rfl, ?_⟩
  exact (hB.setCell (by simp) _).setCell (by simp) _

set_option maxHeartbeats 2000000 in
theorem dtimes_any (a b c d : Int) (ha0 : 0 ≤ a) (ha1 : a ≤ 18446744073709551615) (hb0 : 0 ≤ b) (hb1 : b ≤ 18446744073709551615) (hc0 : 0 ≤ c) (hc1 : c ≤ 18446744073709551615) (hd0 : 0 ≤ d) (hd1 : d ≤ 18446744073709551615) (w : World) :
    Calls Try.prog 26 #[.agg #[.int .u64 a, .int .u64 b], .agg #[.int .u64 c, .int .u64 d]] w fun e w' =>
      e = .returned (.agg #[.int .u64 (IntKind.u64.wrap (a * c)), .int .u64 (IntKind.u64.wrap (a * d + b * c))]) ∧ Below w.heap.size w w' := by
  have u0 := Pl.uw_nn (a * d)
  have u1 := Pl.uw_le (a * d)
  have v0 := Pl.uw_nn (b * c)
  have v1 := Pl.uw_le (b * c)
  have HE : Hid (IntKind.u64.wrap (IntKind.u64.wrap (a * d) + IntKind.u64.wrap (b * c)) = IntKind.u64.wrap (a * d + b * c)) := by rw [Hid, Pl.uw_addl, Pl.uw_addr]
  go_enter Try.func26, Try.ntmps26
  go_wp2_with fail
  refine wp_world (fun W => w.heap.size + 1 + 1 + 1 ≤ W.heap.size ∧ Below w.heap.size w W ∧ W.cell? ⟨w.heap.size, 0, none⟩ = some (.int .u64 a) ∧ W.cell? ⟨w.heap.size, 1, none⟩ = some (.int .u64 b) ∧ W.cell? ⟨w.heap.size + 1, 0, none⟩ = some (.int .u64 c) ∧ W.cell? ⟨w.heap.size + 1, 1, none⟩ = some (.int .u64 d) ∧
      W.cell? ⟨w.heap.size + 1 + 1, 0, none⟩ = some (.int .u64 0) ∧ W.cell? ⟨w.heap.size + 1 + 1, 1, none⟩ = some (.int .u64 0) ∧ W.frozen? ⟨w.heap.size + 1 + 1, 0, none⟩ = false ∧ W.frozen? ⟨w.heap.size + 1 + 1, 1, none⟩ = false)
    ⟨by simp, by go_grown, by go_simp, by go_simp, by go_simp, by go_simp, by go_simp, by go_simp, by go_simp, by go_simp⟩ ?_
  rintro W ⟨hS, hB, c0, c1, c2, c3, c4, c5, f0, f1⟩
  go_region_held3 (fun w' => w'.cell? ⟨w.heap.size, 0, none⟩ = some (.int .u64 a) ∧ w'.cell? ⟨w.heap.size, 1, none⟩ = some (.int .u64 b) ∧ w'.cell? ⟨w.heap.size + 1, 0, none⟩ = some (.int .u64 c) ∧ w'.cell? ⟨w.heap.size + 1, 1, none⟩ = some (.int .u64 d))
    ((first | exact ⟨c0, c1, c2, c3⟩ | (repeat' apply And.intro) <;> (first | (with_reducible assumption) | (go_simp; done) | (go_keep; done))))
    (first
      | (go_at_call 27; refine (times_any _ _ (by assumption) (by assumption) (by assumption) (by assumption) _).mono ?_; rintro e w1 ⟨rfl, hb⟩; (try replace hb := undrew hb); have hB := on_below hb hS hB (by omega); have c0 := on_cell hb hS c0 (by omega); have c1 := on_cell hb hS c1 (by omega); have c2 := on_cell hb hS c2 (by omega); have c3 := on_cell hb hS c3 (by omega); have c4 := on_cell hb hS c4 (by omega); have c5 := on_cell hb hS c5 (by omega); have f0 := on_frozen hb hS f0 (by omega); have f1 := on_frozen hb hS f1 (by omega); have hS := on_size hb hS)
      | (go_at_call 29; refine (plus_any _ _ (by assumption) (by assumption) (by assumption) (by assumption) _).mono ?_; rintro e w1 ⟨rfl, hb⟩; (try replace hb := undrew hb); have hB := on_below hb hS hB (by omega); have c0 := on_cell hb hS c0 (by omega); have c1 := on_cell hb hS c1 (by omega); have c2 := on_cell hb hS c2 (by omega); have c3 := on_cell hb hS c3 (by omega); have c4 := on_cell hb hS c4 (by omega); have c5 := on_cell hb hS c5 (by omega); have f0 := on_frozen hb hS f0 (by omega); have f1 := on_frozen hb hS f1 (by omega); have hS := on_size hb hS))
  rw [HE.out]
  go_wp2_with (go_at_call 27; refine (times_any _ _ ha0 ha1 hc0 hc1 _).mono ?_; rintro e w1 ⟨rfl, hb⟩; (try replace hb := undrew hb); have hB := on_below hb hS hB (by omega); have c0 := on_cell hb hS c0 (by omega); have c1 := on_cell hb hS c1 (by omega); have c2 := on_cell hb hS c2 (by omega); have c3 := on_cell hb hS c3 (by omega); have c4 := on_cell hb hS c4 (by omega); have c5 := on_cell hb hS c5 (by omega); have f0 := on_frozen hb hS f0 (by omega); have f1 := on_frozen hb hS f1 (by omega); have hS := on_size hb hS)
  have k := two_set c4 c5
  refine bodyPost_ret (v := .agg #[.int .u64 (IntKind.u64.wrap (a * c)), .int .u64 (IntKind.u64.wrap (a * d + b * c))]) (by simp [results, Try.results26, go_sem, k]) rfl ⟨rfl, ?_⟩
  exact (hB.setCell (by simp; omega) _).setCell (by simp; omega) _
end Go.Proofs.Ytkgcipgnpknbdaa
