/- Contracts of dual.Const, Var, Neg, Add, Sub, Mul: what each computes; memory that was there stays. -/
import Derived.Test.YtkgcipgnpknbdaaD1
import Derived.Test.YtkgcipgnpknbdaaRg
namespace Go.Proofs.Ytkgcipgnpknbdaa
open Go.ChangeShapes Go.WideShapes Go.ChangeAt Go.RowKit
set_option linter.unusedVariables false

def pr2 (x y : Value) : Nat → Value := fun j => if j = 0 then x else y
theorem pr2_cells {w : World} {b : Nat} {t : TypeId} {x y : Value} (h : w.rowIs b t 2 (pr2 x y)) :
    w.cell? ⟨b, 0, none⟩ = some x ∧ w.cell? ⟨b, 1, none⟩ = some y ∧ w.frozen? ⟨b, 0, none⟩ = false ∧ w.frozen? ⟨b, 1, none⟩ = false :=
  ⟨h.cell (by omega), h.cell (by omega), h.frozen 0, h.frozen 1⟩
theorem pr2_set {w : World} {b : Nat} {t : TypeId} {x y : Value} {f : Nat → Value} (h : w.rowIs b t 2 f) : ((w.setCell ⟨b, 0, none⟩ x).setCell ⟨b, 1, none⟩ y).rowIs b t 2 (pr2 x y) :=
  ((h.set 0 x).set 1 y).congr fun i hi => by
    rcases (show i = 0 ∨ i = 1 from by omega) with rfl | rfl <;> simp [pr2]
theorem pr2_new (w : World) (t : TypeId) (x y : Value) : (w.alloc (.cells #[x, y] t)).rowIs w.heap.size t 2 (pr2 x y) :=
  World.rowIs_alloc w #[x, y] t _ fun i hi => by
    rcases (show i = 0 ∨ i = 1 from by simp at hi; omega) with rfl | rfl <;> rfl

theorem whole2 {w : World} {b : Nat} {t : TypeId} {x y : Value} (h : w.rowIs b t 2 (pr2 x y)) : w.heap[b]? = some (.cells #[x, y] t (0, 0)) := by
  obtain ⟨c, hb, hs, hc⟩ := h
  rw [hb]
  have : c = #[x, y] := by
    apply Array.ext
    · simpa using hs
    · intro i hi _
      have h1 := hc i (by omega)
      rw [Array.getElem?_eq_getElem hi] at h1
      injection h1 with h1
      rw [h1]
      rcases (show i = 0 ∨ i = 1 from by omega) with rfl | rfl <;> rfl
  rw [this]

/-- a slice of n elements of two cells each -/
def Row2 (w : World) (A : Option Addr) (n : Nat) (f g : Nat → Value) : Prop :=
  0 < n → ∃ b off, A = some ⟨b, off, none⟩ ∧ b < w.heap.size ∧ ∀ k, k < n → w.cell? ⟨b, off + k * 2, none⟩ = some (f k) ∧ w.cell? ⟨b, off + k * 2 + 1, none⟩ = some (g k)
theorem Row2.at_ {w : World} {A : Option Addr} {n : Nat} {f g : Nat → Value} (h : Row2 w A n f g) {k : Nat} (hk : k < n) :
    ∃ b off, A = some ⟨b, off, none⟩ ∧ b < w.heap.size ∧ w.cell? ⟨b, off + k * 2, none⟩ = some (f k) ∧ w.cell? ⟨b, off + k * 2 + 1, none⟩ = some (g k) := by
  obtain ⟨b, off, hA, hb, hc⟩ := h (by omega)
  exact ⟨b, off, hA, hb, hc k hk⟩
theorem Row2.below {w w' : World} {A : Option Addr} {n : Nat} {f g : Nat → Value} (h : Row2 w A n f g) (hb : Below w.heap.size w w') : Row2 w' A n f g := by
  intro hn
  obtain ⟨b, off, hA, hlt, hc⟩ := h hn
  exact ⟨b, off, hA, Nat.lt_of_lt_of_le hlt hb.size, fun k hk => ⟨(hb.cell (p := ⟨b, off + k * 2, none⟩) hlt).trans (hc k hk).1, (hb.cell (p := ⟨b, off + k * 2 + 1, none⟩) hlt).trans (hc k hk).2⟩⟩

theorem const_any (v : Int) (w : World) :
    Calls Try.prog 21 #[.int .u64 v] w fun e w' => e = .returned (.agg #[.int .u64 v, .int .u64 0]) ∧ Below w.heap.size w w' := by
  go_enter Try.func21, Try.ntmps21
  go_wp2
  go_returns
  exact ⟨rfl, by go_grown⟩
theorem var_any (v : Int) (w : World) :
    Calls Try.prog 22 #[.int .u64 v] w fun e w' => e = .returned (.agg #[.int .u64 v, .int .u64 1]) ∧ Below w.heap.size w w' := by
  go_enter Try.func22, Try.ntmps22
  go_wp2
  go_returns
  exact ⟨rfl, by go_grown⟩

set_option maxHeartbeats 2000000 in
theorem neg2_any (a b : Int) (w : World) :
    Calls Try.prog 20 #[.agg #[.int .u64 a, .int .u64 b]] w fun e w' =>
      e = .returned (.agg #[.int .u64 (IntKind.u64.wrap (-a)), .int .u64 (IntKind.u64.wrap (-b))]) ∧ Below w.heap.size w w' := by
  go_enter Try.func20, Try.ntmps20
  go_wp2_with fail
  refine wp_world (fun W => Below w.heap.size w W ∧ W.cell? ⟨w.heap.size, 0, none⟩ = some (.int .u64 a) ∧ W.cell? ⟨w.heap.size, 1, none⟩ = some (.int .u64 b) ∧ W.rowIs (w.heap.size + 1) 25 2 (pr2 (.int .u64 0) (.int .u64 0)))
    ⟨by go_grown, by go_simp, by go_simp, by simpa using pr2_new (w.alloc _) _ _ _⟩ ?_
  rintro W ⟨hB, c0, c1, r0⟩
  obtain ⟨c4, c5, f0, f1⟩ := pr2_cells r0
  have R0 := hid r0
  clear r0
  go_region_held3 (fun w' => w'.cell? ⟨w.heap.size, 0, none⟩ = some (.int .u64 a) ∧ w'.cell? ⟨w.heap.size, 1, none⟩ = some (.int .u64 b))
    ((first | exact ⟨c0, c1⟩ | (repeat' apply And.intro) <;> (first | (with_reducible assumption) | (go_simp; done) | (go_keep; done))))
    (first | (go_at_call 31; refine (rneg_any _ _).mono ?_; rintro e w1 ⟨rfl, rfl⟩))
  go_wp2
  refine bodyPost_ret (results_cell_row rfl _ _ _ _ _ (0, 0) _ rfl (whole2 (pr2_set R0.out).drew) Try.underlying25 rfl (by kernel_rfl)) rfl ⟨rfl, ?_⟩
  exact ((hB.setCell (by simp) _).setCell (by simp) _).drew

set_option maxHeartbeats 2000000 in
theorem dadd_any (A : Option Addr) (n c : Nat) (v d : Nat → Int) (w : World) (hn : n ≤ 9223372036854775807) (hr : Row2 w A n (fun k => .int .u64 (v k)) (fun k => .int .u64 (d k))) :
    Calls Try.prog 15 #[.slice A n c] w fun e w' => e = .returned (.agg #[.int .u64 (Pl.dsV v n), .int .u64 (Pl.dsV d n)]) ∧ Below w.heap.size w w' := by
  have HR := hid hr
  clear hr
  go_enter Try.func15, Try.ntmps15
  go_wp2
  go_loopw [8] (fun i wr => ∃ k : Nat, k ≤ n ∧ i = .int .i64 k ∧ Hid (wr.rowIs (w.heap.size + 1) 25 2 (pr2 (.int .u64 (Pl.dsV v k)) (.int .u64 (Pl.dsV d k)))) ∧ Hid (wr.rowIs w.heap.size 25 2 (pr2 (.int .u64 0) (.int .u64 0))) ∧ Hid (Below w.heap.size w wr) ∧ w.heap.size + 1 + 1 ≤ wr.heap.size)
    (fun i _ => n - (intOf i).toNat)
  case atStart => exact ⟨0, by omega, rfl, by (have h := pr2_new (w.alloc (.cells #[.int .u64 0, .int .u64 0] 25)) 25 (.int .u64 0) (.int .u64 0)); simpa [Hid, Pl.dsV] using h, (pr2_new w _ _ _).alloc _, by rw [Hid]; go_grown, by simp⟩
  case round =>
    obtain ⟨k, hk, rfl, HS, HZ, HB, hsz⟩ := hrel
    obtain ⟨c0, c1, f0, f1⟩ := pr2_cells HS.out
    by_cases hlt : k < n
    · obtain ⟨b, off, rfl, hb, e0, e1⟩ := HR.out.at_ hlt
      replace e0 := (HB.out.cell (p := ⟨b, off + k * 2, none⟩) hb).trans e0
      replace e1 := (HB.out.cell (p := ⟨b, off + k * 2 + 1, none⟩) hb).trans e1
      have n1 : w.heap.size + 1 < wr.heap.size := by omega
      go_wp2
      go_roundw
      case rel =>
        refine ⟨k + 1, by omega, by go_num, (pr2_set HS.out).alloc _, ?_, ?_, ?_⟩
        · exact ((HZ.out.setOther (by simp) _).setOther (by simp) _).alloc _
        · exact ((HB.out.setCell (by simp) _).setCell (by simp) _).alloc (by simp; omega) _
        · simp; omega
      case measure => simp [intOf]; omega
    · obtain rfl : k = n := by omega
      obtain ⟨z0, z1, g0, g1⟩ := pr2_cells HZ.out
      go_wp2
      refine bodyPost_ret (results_cell_row rfl _ _ _ _ _ (0, 0) _ rfl (whole2 (pr2_set HZ.out)) Try.underlying25 rfl (by kernel_rfl)) rfl ⟨rfl, ?_⟩
      exact (HB.out.setCell (by simp) _).setCell (by simp) _

set_option maxHeartbeats 2000000 in
theorem dmul_any (A : Option Addr) (n c : Nat) (v d : Nat → Int) (w : World) (hn : n ≤ 9223372036854775807) (hr : Row2 w A n (fun k => .int .u64 (v k)) (fun k => .int .u64 (d k))) :
    Calls Try.prog 8 #[.slice A n c] w fun e w' => e = .returned (.agg #[.int .u64 (Pl.dp v d n).1, .int .u64 (Pl.dp v d n).2]) ∧ Below w.heap.size w w' := by
  have HR := hid hr
  clear hr
  go_enter Try.func8, Try.ntmps8
  go_wp2_with fail
  refine (const_any 1 _).mono ?_
  rintro e w1 ⟨rfl, hb1⟩
  have hs1 := hb1.size
  have hs1' : w.heap.size + 1 ≤ w1.heap.size := by simpa using hs1
  have HZ := hid (row_below (pr2_new w 25 (.int .u64 0) (.int .u64 0)) hb1 (by simp))
  have HB : Hid (Below w.heap.size w w1) := hid (((Below.refl _ _).alloc (Nat.le_refl _) _).trans (hb1.mono (by simp)))
  clear hb1 hs1
  go_wp2
  go_loopw [9] (fun i wr => ∃ k : Nat, k ≤ n ∧ i = .int .i64 k ∧ Hid (wr.rowIs w1.heap.size 25 2 (pr2 (.int .u64 (Pl.dp v d k).1) (.int .u64 (Pl.dp v d k).2))) ∧ Hid (wr.rowIs w.heap.size 25 2 (pr2 (.int .u64 0) (.int .u64 0))) ∧ Hid (Below w.heap.size w wr) ∧ w1.heap.size + 1 ≤ wr.heap.size)
    (fun i _ => n - (intOf i).toNat)
  case atStart => exact ⟨0, by omega, rfl, pr2_new w1 _ _ _, HZ.out.alloc _, HB.out.alloc (by omega) _, by simp⟩
  case round =>
    obtain ⟨k, hk, rfl, HS, HZ, HB, hsz⟩ := hrel
    have n2 : w.heap.size ≠ w1.heap.size := by omega
    by_cases hlt : k < n
    · have Hst : Hid (Pl.dp v d (k + 1) = (IntKind.u64.wrap (IntKind.u64.wrap ((Pl.dp v d k).1 * v k)), IntKind.u64.wrap (IntKind.u64.wrap ((Pl.dp v d k).1 * d k) + IntKind.u64.wrap ((Pl.dp v d k).2 * v k)))) := by
        rw [Hid, Pl.uw_uw, Pl.uw_addl, Pl.uw_addr]; rfl
      obtain ⟨c0, c1, f0, f1⟩ := pr2_cells HS.out
      obtain ⟨b, off, rfl, hb, e0, e1⟩ := HR.out.at_ hlt
      replace e0 := (HB.out.cell (p := ⟨b, off + k * 2, none⟩) hb).trans e0
      replace e1 := (HB.out.cell (p := ⟨b, off + k * 2 + 1, none⟩) hb).trans e1
      have n1 : w1.heap.size < wr.heap.size := by omega
      go_wp2
      go_roundw
      case rel =>
        refine ⟨k + 1, by omega, by go_num, ?_, ?_, ?_, ?_⟩
        · rw [Hst.out, Pl.uw_uw]
          exact (pr2_set HS.out).alloc _
        · exact ((HZ.out.setOther n2 _).setOther n2 _).alloc _
        · exact ((HB.out.setCell (by simp; omega) _).setCell (by simp; omega) _).alloc (by simp; omega) _
        · simp; omega
      case measure => simp [intOf]; omega
    · obtain rfl : k = n := by omega
      obtain ⟨c0, c1, f0, f1⟩ := pr2_cells HS.out
      obtain ⟨z0, z1, g0, g1⟩ := pr2_cells HZ.out
      go_wp2
      refine bodyPost_ret (results_cell_row rfl _ _ _ _ _ (0, 0) _ rfl (whole2 (pr2_set HZ.out)) Try.underlying25 rfl (by kernel_rfl)) rfl ⟨rfl, ?_⟩
      exact (HB.out.setCell (by simp) _).setCell (by simp) _
end Go.Proofs.Ytkgcipgnpknbdaa
