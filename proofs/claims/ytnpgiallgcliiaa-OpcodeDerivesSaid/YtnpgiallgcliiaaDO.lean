/- Contracts of dual.Const, Neg, Add, Mul, Sub. -/
import Derived.Test.YtnpgiallgcliiaaRgO
import Derived.Test.YtnpgiallgcliiaaPlain2
import Derived.Deep.RegionHeld3
namespace Go.Proofs.Ytnpgiallgcliiaa
open Go.ChangeShapes Go.WideShapes Go.ChangeAt Go.RowKit
set_option linter.unusedVariables false

/-- a world under a name of its own: what the rest needs of it is said once -/
theorem wp_world {P : Program} {c : Code} {Q : Exit → Act → World → Prop} {a : Act} {w0 : World} (S : World → Prop) (h0 : S w0) (h : ∀ W, S W → Code.wp P c Q a W) : Code.wp P c Q a w0 := h w0 h0
theorem on_size {n N : Nat} {W w1 : World} (hb : Below N W w1) (hS : n ≤ W.heap.size) : n ≤ w1.heap.size := Nat.le_trans hS hb.size
theorem on_cell {n b o N : Nat} {W w1 : World} {v : Value} (hb : Below N W w1) (hS : n ≤ N) (h : W.cell? ⟨b, o, none⟩ = some v) (hlt : b < n) : w1.cell? ⟨b, o, none⟩ = some v := (hb.cell (p := ⟨b, o, none⟩) (Nat.lt_of_lt_of_le hlt hS)).trans h
theorem on_frozen {n b o N : Nat} {W w1 : World} {v : Bool} (hb : Below N W w1) (hS : n ≤ N) (h : W.frozen? ⟨b, o, none⟩ = v) (hlt : b < n) : w1.frozen? ⟨b, o, none⟩ = v := (hb.frozen (p := ⟨b, o, none⟩) (Nat.lt_of_lt_of_le hlt hS)).trans h
theorem on_row {m b N : Nat} {W w1 : World} {t : TypeId} {n : Nat} {f : Nat → Value} (hb : Below N W w1) (hS : m ≤ N) (h : W.rowIs b t n f) (hlt : b < m) : w1.rowIs b t n f := h.of_block (hb.block b (Nat.lt_of_lt_of_le hlt hS))
theorem on_below {n B N : Nat} {w W w1 : World} (hb : Below N W w1) (hS : n ≤ N) (h : Below B w W) (hlt : B ≤ n) : Below B w w1 := h.trans (hb.mono (Nat.le_trans hlt hS))
theorem on_sizeA {n N : Nat} {W w1 : World} {o : Obj} (hb : Below N (W.alloc o) w1) (hS : n ≤ W.heap.size) : n ≤ w1.heap.size := Nat.le_trans hS (Nat.le_trans (by simp) hb.size)
theorem on_cellA {n b o N : Nat} {W w1 : World} {ob : Obj} {v : Value} (hb : Below N (W.alloc ob) w1) (hS : n ≤ W.heap.size) (h : W.cell? ⟨b, o, none⟩ = some v) (hlt : b < n) (hN : W.heap.size ≤ N := by first | exact Nat.le_succ _ | exact Nat.le_refl _ | (simp; done)) : w1.cell? ⟨b, o, none⟩ = some v :=
  (hb.cell (p := ⟨b, o, none⟩) (Nat.lt_of_lt_of_le hlt (Nat.le_trans hS hN))).trans ((World.cell?_alloc_lt _ _ _ (Nat.lt_of_lt_of_le hlt hS)).trans h)
theorem on_frozenA {n b o N : Nat} {W w1 : World} {ob : Obj} {v : Bool} (hb : Below N (W.alloc ob) w1) (hS : n ≤ W.heap.size) (h : W.frozen? ⟨b, o, none⟩ = v) (hlt : b < n) (hN : W.heap.size ≤ N := by first | exact Nat.le_succ _ | exact Nat.le_refl _ | (simp; done)) : w1.frozen? ⟨b, o, none⟩ = v :=
  (hb.frozen (p := ⟨b, o, none⟩) (Nat.lt_of_lt_of_le hlt (Nat.le_trans hS hN))).trans ((((Below.refl W.heap.size W).alloc (Nat.le_refl _) ob).frozen (p := ⟨b, o, none⟩) (Nat.lt_of_lt_of_le hlt hS)).trans h)
theorem on_rowA {m b N : Nat} {W w1 : World} {ob : Obj} {t : TypeId} {n : Nat} {f : Nat → Value} (hb : Below N (W.alloc ob) w1) (hS : m ≤ W.heap.size) (h : W.rowIs b t n f) (hlt : b < m) (hN : W.heap.size ≤ N := by first | exact Nat.le_succ _ | exact Nat.le_refl _ | (simp; done)) : w1.rowIs b t n f :=
  (h.alloc ob).of_block (hb.block b (Nat.lt_of_lt_of_le hlt (Nat.le_trans hS hN)))
theorem on_belowA {n B N : Nat} {w W w1 : World} {ob : Obj} (hb : Below N (W.alloc ob) w1) (hS : n ≤ W.heap.size) (h : Below B w W) (hlt : B ≤ n) (hN : W.heap.size ≤ N := by first | exact Nat.le_succ _ | exact Nat.le_refl _ | (simp; done)) : Below B w w1 :=
  (h.alloc (Nat.le_trans hlt hS) ob).trans (hb.mono (Nat.le_trans hlt (Nat.le_trans hS hN)))

theorem two_set {w : World} {b : Nat} {u0 u1 : Value} (h0 : w.cell? ⟨b, 0, none⟩ = some u0) (h1 : w.cell? ⟨b, 1, none⟩ = some u1) (v0 v1 : Value) :
    ((w.setCell ⟨b, 0, none⟩ v0).setCell ⟨b, 1, none⟩ v1).cell? ⟨b, 0, none⟩ = some v0 ∧ ((w.setCell ⟨b, 0, none⟩ v0).setCell ⟨b, 1, none⟩ v1).cell? ⟨b, 1, none⟩ = some v1 := by
  constructor
  · rw [World.cell?_setCell_other _ _ _ _ (by simp), World.cell?_setCell_same _ _ _ h0]
  · rw [World.cell?_setCell_same (u := u1) _ _ _ (by rw [World.cell?_setCell_other _ _ _ _ (by simp)]; exact h1)]

def pr2 (x y : Value) : Nat → Value := fun j => if j = 0 then x else y
theorem pr2_cells {w : World} {b : Nat} {t : TypeId} {x y : Value} (h : w.rowIs b t 2 (pr2 x y)) :
    w.cell? ⟨b, 0, none⟩ = some x ∧ w.cell? ⟨b, 1, none⟩ = some y ∧ w.frozen? ⟨b, 0, none⟩ = false ∧ w.frozen? ⟨b, 1, none⟩ = false :=
  ⟨h.cell (by omega), h.cell (by omega), h.frozen 0, h.frozen 1⟩
theorem pr2_set {w : World} {b : Nat} {t : TypeId} {x y : Value} {f : Nat → Value} (h : w.rowIs b t 2 f) : ((w.setCell ⟨b, 0, none⟩ x).setCell ⟨b, 1, none⟩ y).rowIs b t 2 (pr2 x y) :=
  ((h.set 0 x).set 1 y).congr fun i hi => by
    rcases (show i = 0 ∨ i = 1 from by omega) with rfl | rfl <;> simp [pr2]
theorem pr2_new (w : World) (t : TypeId) (x y : Value) : (w.alloc (.cells #[x, y] t)).rowIs w.heap.size t 2 (pr2 x y) :=
  World.rowIs_alloc w #[x, y] t _ fun i hi => by
    rcases (show i = 0 ∨ i = 1 from by simp at hi; omega) with rfl | rfl <;> rfl

theorem whole2 {w : World} {b : Nat} {t : TypeId} {x y : Value} (h : w.rowIs b t 2 (pr2 x y)) : w.heap[b]? = some (.cells #[x, y] t (0, 0)) := by
  obtain ⟨c, hb, hs, hc⟩ := h
  rw [hb]
  have : c = #[x, y] := by
    apply Array.ext
    · simpa using hs
    · intro i hi _
      have h1 := hc i (by omega)
      rw [Array.getElem?_eq_getElem hi] at h1
      injection h1 with h1
      rw [h1]
      rcases (show i = 0 ∨ i = 1 from by omega) with rfl | rfl <;> rfl
  rw [this]

/-- a slice of n elements of two cells each -/
def Row2 (w : World) (A : Option Addr) (n : Nat) (f g : Nat → Value) : Prop :=
  0 < n → ∃ b off, A = some ⟨b, off, none⟩ ∧ b < w.heap.size ∧ ∀ k, k < n → w.cell? ⟨b, off + k * 2, none⟩ = some (f k) ∧ w.cell? ⟨b, off + k * 2 + 1, none⟩ = some (g k)
theorem Row2.at_ {w : World} {A : Option Addr} {n : Nat} {f g : Nat → Value} (h : Row2 w A n f g) {k : Nat} (hk : k < n) :
    ∃ b off, A = some ⟨b, off, none⟩ ∧ b < w.heap.size ∧ w.cell? ⟨b, off + k * 2, none⟩ = some (f k) ∧ w.cell? ⟨b, off + k * 2 + 1, none⟩ = some (g k) := by
  obtain ⟨b, off, hA, hb, hc⟩ := h (by omega)
  exact ⟨b, off, hA, hb, hc k hk⟩
theorem Row2.below {w w' : World} {A : Option Addr} {n : Nat} {f g : Nat → Value} (h : Row2 w A n f g) (hb : Below w.heap.size w w') : Row2 w' A n f g := by
  intro hn
  obtain ⟨b, off, hA, hlt, hc⟩ := h hn
  exact ⟨b, off, hA, Nat.lt_of_lt_of_le hlt hb.size, fun k hk => ⟨(hb.cell (p := ⟨b, off + k * 2, none⟩) hlt).trans (hc k hk).1, (hb.cell (p := ⟨b, off + k * 2 + 1, none⟩) hlt).trans (hc k hk).2⟩⟩

theorem const_any (v : Int) (w : World) :
    Calls Try.prog 49 #[.int .u64 v] w fun e w' => e = .returned (.agg #[.int .u64 v, .int .u64 0]) ∧ Below w.heap.size w w' := by
  go_enter Try.func49, Try.ntmps49
  go_wp2
  go_returns
  exact ⟨rfl, by go_grown⟩
set_option maxHeartbeats 2000000 in
theorem neg2_any (a b : Int) (w : World) :
    Calls Try.prog 48 #[.agg #[.int .u64 a, .int .u64 b]] w fun e w' =>
      e = .returned (.agg #[.int .u64 (IntKind.u64.wrap (-a)), .int .u64 (IntKind.u64.wrap (-b))]) ∧ Below w.heap.size w w' := by
  go_enter Try.func48, Try.ntmps48
  go_wp2_with fail
  refine wp_world (fun W => Below w.heap.size w W ∧ W.cell? ⟨w.heap.size, 0, none⟩ = some (.int .u64 a) ∧ W.cell? ⟨w.heap.size, 1, none⟩ = some (.int .u64 b) ∧ W.rowIs (w.heap.size + 1) 62 2 (pr2 (.int .u64 0) (.int .u64 0)))
    ⟨by go_grown, by go_simp, by go_simp, by simpa using pr2_new (w.alloc _) _ _ _⟩ ?_
  rintro W ⟨hB, c0, c1, r0⟩
  obtain ⟨c4, c5, f0, f1⟩ := pr2_cells r0
  have R0 := hid r0
  clear r0
  go_region_held3 (fun w' => w'.cell? ⟨w.heap.size, 0, none⟩ = some (.int .u64 a) ∧ w'.cell? ⟨w.heap.size, 1, none⟩ = some (.int .u64 b))
    ((first | exact ⟨c0, c1⟩ | (repeat' apply And.intro) <;> (first | (with_reducible assumption) | (go_simp; done) | (go_keep; done))))
    (first | (go_at_call 63; refine (rneg_any _ _).mono ?_; rintro e w1 ⟨rfl, rfl⟩))
  go_wp2
  refine bodyPost_ret (results_cell_row rfl _ _ _ _ _ (0, 0) _ rfl (whole2 (pr2_set R0.out).drew) Try.underlying62 rfl (by kernel_rfl)) rfl ⟨rfl, ?_⟩
  exact ((hB.setCell (by simp) _).setCell (by simp) _).drew

set_option maxHeartbeats 2000000 in
theorem dadd_any (A : Option Addr) (n c : Nat) (v d : Nat → Int) (w : World) (hn : n ≤ 9223372036854775807) (hr : Row2 w A n (fun k => .int .u64 (v k)) (fun k => .int .u64 (d k))) :
    Calls Try.prog 45 #[.slice A n c] w fun e w' => e = .returned (.agg #[.int .u64 (Pl.dsV v n), .int .u64 (Pl.dsV d n)]) ∧ Below w.heap.size w w' := by
  have HR := hid hr
  clear hr
  go_enter Try.func45, Try.ntmps45
  go_wp2
  go_loopw [8] (fun i wr => ∃ k : Nat, k ≤ n ∧ i = .int .i64 k ∧ Hid (wr.rowIs (w.heap.size + 1) 62 2 (pr2 (.int .u64 (Pl.dsV v k)) (.int .u64 (Pl.dsV d k)))) ∧ Hid (wr.rowIs w.heap.size 62 2 (pr2 (.int .u64 0) (.int .u64 0))) ∧ Hid (Below w.heap.size w wr) ∧ w.heap.size + 1 + 1 ≤ wr.heap.size)
    (fun i _ => n - (intOf i).toNat)
  case atStart => exact ⟨0, by omega, rfl, by (have h := pr2_new (w.alloc (.cells #[.int .u64 0, .int .u64 0] 62)) 62 (.int .u64 0) (.int .u64 0)); simpa [Hid, Pl.dsV] using h, (pr2_new w _ _ _).alloc _, by rw [Hid]; go_grown, by simp⟩
  case round =>
    obtain ⟨k, hk, rfl, HS, HZ, HB, hsz⟩ := hrel
    obtain ⟨c0, c1, f0, f1⟩ := pr2_cells HS.out
    by_cases hlt : k < n
    · obtain ⟨b, off, rfl, hb, e0, e1⟩ := HR.out.at_ hlt
      replace e0 := (HB.out.cell (p := ⟨b, off + k * 2, none⟩) hb).trans e0
      replace e1 := (HB.out.cell (p := ⟨b, off + k * 2 + 1, none⟩) hb).trans e1
      have n1 : w.heap.size + 1 < wr.heap.size := by omega
      go_wp2
      go_roundw
      case rel =>
        refine ⟨k + 1, by omega, by go_num, (pr2_set HS.out).alloc _, ?_, ?_, ?_⟩
        · exact ((HZ.out.setOther (by simp) _).setOther (by simp) _).alloc _
        · exact ((HB.out.setCell (by simp) _).setCell (by simp) _).alloc (by simp; omega) _
        · simp; omega
      case measure => simp [intOf]; omega
    · obtain rfl : k = n := by omega
      obtain ⟨z0, z1, g0, g1⟩ := pr2_cells HZ.out
      go_wp2
      refine bodyPost_ret (results_cell_row rfl _ _ _ _ _ (0, 0) _ rfl (whole2 (pr2_set HZ.out)) Try.underlying62 rfl (by kernel_rfl)) rfl ⟨rfl, ?_⟩
      exact (HB.out.setCell (by simp) _).setCell (by simp) _

set_option maxHeartbeats 2000000 in
theorem dmul_any (A : Option Addr) (n c : Nat) (v d : Nat → Int) (w : World) (hn : n ≤ 9223372036854775807) (hr : Row2 w A n (fun k => .int .u64 (v k)) (fun k => .int .u64 (d k))) :
    Calls Try.prog 47 #[.slice A n c] w fun e w' => e = .returned (.agg #[.int .u64 (Pl.dp v d n).1, .int .u64 (Pl.dp v d n).2]) ∧ Below w.heap.size w w' := by
  have HR := hid hr
  clear hr
  go_enter Try.func47, Try.ntmps47
  go_wp2_with fail
  refine (const_any 1 _).mono ?_
  rintro e w1 ⟨rfl, hb1⟩
  have hs1 := hb1.size
  have hs1' : w.heap.size + 1 ≤ w1.heap.size := by simpa using hs1
  have HZ := hid (row_below (pr2_new w 62 (.int .u64 0) (.int .u64 0)) hb1 (by simp))
  have HB : Hid (Below w.heap.size w w1) := hid (((Below.refl _ _).alloc (Nat.le_refl _) _).trans (hb1.mono (by simp)))
  clear hb1 hs1
  go_wp2
  go_loopw [9] (fun i wr => ∃ k : Nat, k ≤ n ∧ i = .int .i64 k ∧ Hid (wr.rowIs w1.heap.size 62 2 (pr2 (.int .u64 (Pl.dp v d k).1) (.int .u64 (Pl.dp v d k).2))) ∧ Hid (wr.rowIs w.heap.size 62 2 (pr2 (.int .u64 0) (.int .u64 0))) ∧ Hid (Below w.heap.size w wr) ∧ w1.heap.size + 1 ≤ wr.heap.size)
    (fun i _ => n - (intOf i).toNat)
  case atStart => exact ⟨0, by omega, rfl, pr2_new w1 _ _ _, HZ.out.alloc _, HB.out.alloc (by omega) _, by simp⟩
  case round =>
    obtain ⟨k, hk, rfl, HS, HZ, HB, hsz⟩ := hrel
    have n2 : w.heap.size ≠ w1.heap.size := by omega
    by_cases hlt : k < n
    · have Hst : Hid (Pl.dp v d (k + 1) = (IntKind.u64.wrap (IntKind.u64.wrap ((Pl.dp v d k).1 * v k)), IntKind.u64.wrap (IntKind.u64.wrap ((Pl.dp v d k).1 * d k) + IntKind.u64.wrap ((Pl.dp v d k).2 * v k)))) := by
        rw [Hid, Pl.uw_uw, Pl.uw_addl, Pl.uw_addr]; rfl
      obtain ⟨c0, c1, f0, f1⟩ := pr2_cells HS.out
      obtain ⟨b, off, rfl, hb, e0, e1⟩ := HR.out.at_ hlt
      replace e0 := (HB.out.cell (p := ⟨b, off + k * 2, none⟩) hb).trans e0
      replace e1 := (HB.out.cell (p := ⟨b, off + k * 2 + 1, none⟩) hb).trans e1
      have n1 : w1.heap.size < wr.heap.size := by omega
      go_wp2
      go_roundw
      case rel =>
        refine ⟨k + 1, by omega, by go_num, ?_, ?_, ?_, ?_⟩
        · rw [Hst.out, Pl.uw_uw]
          exact (pr2_set HS.out).alloc _
        · exact ((HZ.out.setOther n2 _).setOther n2 _).alloc _
        · exact ((HB.out.setCell (by simp; omega) _).setCell (by simp; omega) _).alloc (by simp; omega) _
        · simp; omega
      case measure => simp [intOf]; omega
    · obtain rfl : k = n := by omega
      obtain ⟨c0, c1, f0, f1⟩ := pr2_cells HS.out
      obtain ⟨z0, z1, g0, g1⟩ := pr2_cells HZ.out
      go_wp2
      refine bodyPost_ret (results_cell_row rfl _ _ _ _ _ (0, 0) _ rfl (whole2 (pr2_set HZ.out)) Try.underlying62 rfl (by kernel_rfl)) rfl ⟨rfl, ?_⟩
      exact (HB.out.setCell (by simp) _).setCell (by simp) _
def sel (a c : Int) (k : Nat) : Int := if k = 0 then a else c
theorem row2_int (w : World) (t : TypeId) (a b c d : Int) : Row2 (w.alloc (.cells #[.int .u64 a, .int .u64 b, .int .u64 c, .int .u64 d] t)) (some ⟨w.heap.size, 0, none⟩) 2 (fun k => .int .u64 (sel a c k)) (fun k => .int .u64 (sel b d k)) := by
  intro _
  refine ⟨w.heap.size, 0, rfl, by simp, fun k hk => ?_⟩
  rw [cell_of_row _ _ _ _ _ _ (heap_alloc_new w _), cell_of_row _ _ _ _ _ _ (heap_alloc_new w _)]
  rcases (show k = 0 ∨ k = 1 from by omega) with rfl | rfl <;> exact ⟨rfl, rfl⟩
theorem dsV_two (a c : Int) : Pl.dsV (sel a c) 2 = IntKind.u64.wrap (a + c) := by
  rw [Pl.dsV_eq]; simp [Pl.sm, sel]
theorem dp_sel (a b c d : Int) : Pl.dp (sel a c) (sel b d) 2 = (IntKind.u64.wrap (a * c), IntKind.u64.wrap (a * d + b * c)) := by
  rw [Pl.dp_two]; simp [sel]
theorem dadd2 (g : Nat) (a b c d : Int) (w : World) (hr : Row2 w (some ⟨g, 0, none⟩) 2 (fun k => .int .u64 (sel a c k)) (fun k => .int .u64 (sel b d k))) :
    Calls Try.prog 45 #[.slice (some ⟨g, 0, none⟩) 2 2] w fun e w' => e = .returned (.agg #[.int .u64 (IntKind.u64.wrap (a + c)), .int .u64 (IntKind.u64.wrap (b + d))]) ∧ Below w.heap.size w w' := by
  have h := dadd_any (some ⟨g, 0, none⟩) 2 2 (sel a c) (sel b d) w (by omega) hr
  rwa [dsV_two, dsV_two] at h
theorem dmul2 (g : Nat) (a b c d : Int) (w : World) (hr : Row2 w (some ⟨g, 0, none⟩) 2 (fun k => .int .u64 (sel a c k)) (fun k => .int .u64 (sel b d k))) :
    Calls Try.prog 47 #[.slice (some ⟨g, 0, none⟩) 2 2] w fun e w' => e = .returned (.agg #[.int .u64 (IntKind.u64.wrap (a * c)), .int .u64 (IntKind.u64.wrap (a * d + b * c))]) ∧ Below w.heap.size w w' := by
  have h := dmul_any (some ⟨g, 0, none⟩) 2 2 (sel a c) (sel b d) w (by omega) hr
  rwa [dp_sel] at h

set_option maxHeartbeats 2000000 in
theorem dsub_any (a b c d : Int) (w : World) :
    Calls Try.prog 46 #[.agg #[.int .u64 a, .int .u64 b], .agg #[.int .u64 c, .int .u64 d]] w fun e w' =>
      e = .returned (.agg #[.int .u64 (IntKind.u64.wrap (a - c)), .int .u64 (IntKind.u64.wrap (b - d))]) ∧ Below w.heap.size w w' := by
  have HE : Hid (IntKind.u64.wrap (a + IntKind.u64.wrap (-c)) = IntKind.u64.wrap (a - c) ∧ IntKind.u64.wrap (b + IntKind.u64.wrap (-d)) = IntKind.u64.wrap (b - d)) := by
    rw [Hid, Pl.uw_addr, Pl.uw_addr]; exact ⟨by rw [Int.sub_eq_add_neg], by rw [Int.sub_eq_add_neg]⟩
  go_enter Try.func46, Try.ntmps46
  go_wp2_with fail
  refine wp_world (fun W => w.heap.size + 1 + 1 + 1 ≤ W.heap.size ∧ Below w.heap.size w W ∧ W.cell? ⟨w.heap.size, 0, none⟩ = some (.int .u64 a) ∧ W.cell? ⟨w.heap.size, 1, none⟩ = some (.int .u64 b) ∧ W.cell? ⟨w.heap.size + 1, 0, none⟩ = some (.int .u64 c) ∧ W.cell? ⟨w.heap.size + 1, 1, none⟩ = some (.int .u64 d) ∧
      Hid (W.rowIs (w.heap.size + 1 + 1) 62 2 (pr2 (.int .u64 0) (.int .u64 0))))
    ⟨by simp, by go_grown, by go_simp, by go_simp, by go_simp, by go_simp, by (have h := pr2_new ((w.alloc (.cells #[.int .u64 a, .int .u64 b] 62)).alloc (.cells #[.int .u64 c, .int .u64 d] 62)) 62 (.int .u64 0) (.int .u64 0)); simpa [Hid] using h⟩ ?_
  rintro W ⟨hS, hB, c0, c1, c2, c3, r0⟩
  obtain ⟨c4, c5, f0, f1⟩ := pr2_cells r0.out
  go_region_held3 (fun w' => w'.cell? ⟨w.heap.size, 0, none⟩ = some (.int .u64 a) ∧ w'.cell? ⟨w.heap.size, 1, none⟩ = some (.int .u64 b) ∧ w'.cell? ⟨w.heap.size + 1, 0, none⟩ = some (.int .u64 c) ∧ w'.cell? ⟨w.heap.size + 1, 1, none⟩ = some (.int .u64 d))
    ((first | exact ⟨c0, c1, c2, c3⟩ | (repeat' apply And.intro) <;> (first | (with_reducible assumption) | (go_simp; done) | (go_keep; done))))
    (first
      | (go_at_call 48; refine (neg2_any _ _ _).mono ?_; rintro e w1 ⟨rfl, hb⟩; (try replace hb := undrew hb); have hB := on_below hb hS hB (by omega); have c0 := on_cell hb hS c0 (by omega); have c1 := on_cell hb hS c1 (by omega); have c2 := on_cell hb hS c2 (by omega); have c3 := on_cell hb hS c3 (by omega); have c4 := on_cell hb hS c4 (by omega); have c5 := on_cell hb hS c5 (by omega); have f0 := on_frozen hb hS f0 (by omega); have f1 := on_frozen hb hS f1 (by omega); have r0 := hid (on_row hb hS r0.out (by omega)); have hS := on_size hb hS)
      | (go_at_call 45; refine (dadd2 _ _ _ _ _ _ (row2_int _ _ _ _ _ _)).mono ?_; rintro e w1 ⟨rfl, hb⟩; (try replace hb := undrew hb); have hB := on_belowA hb hS hB (by omega); have c0 := on_cellA hb hS c0 (by omega); have c1 := on_cellA hb hS c1 (by omega); have c2 := on_cellA hb hS c2 (by omega); have c3 := on_cellA hb hS c3 (by omega); have c4 := on_cellA hb hS c4 (by omega); have c5 := on_cellA hb hS c5 (by omega); have f0 := on_frozenA hb hS f0 (by omega); have f1 := on_frozenA hb hS f1 (by omega); have r0 := hid (on_rowA hb hS r0.out (by omega)); have hS := on_sizeA hb hS))
  rw [HE.out.1, HE.out.2]
  go_wp2
  refine bodyPost_ret (results_cell_row rfl _ _ _ _ _ (0, 0) _ rfl (whole2 (pr2_set r0.out)) Try.underlying62 rfl (by kernel_rfl)) rfl ⟨rfl, ?_⟩
  exact ((hB.setCell (by simp; omega) _).setCell (by simp; omega) _)
end Go.Proofs.Ytnpgiallgcliiaa
