/- What all texts of this seat lean on: the kit's imports, and small helpers. -/
import Derived.Test.YtgadkelldbibgaaRows
import Derived.Test.YtgadkelldbibgaaPlain
import Derived.WalkKit
import Derived.ProofKit
import Derived.OpenShut
import Derived.Handy
import Derived.WalkLawsBesides
import Derived.WalkSpells
import Derived.Deep.OwnRows
namespace Go.Proofs.Ytgadkelldbibgaa
open Go.ChangeShapes Go.WideShapes Go.ChangeAt Go.RowKit

theorem ret_int {k : IntKind} {a b : Int} (h : a = b) : Ending.returned (.int k a) = .returned (.int k b) := by rw [h]
theorem ret_bool {a b : Bool} (h : a = b) : Ending.returned (.bool a) = .returned (.bool b) := by rw [h]
theorem hid {p : Prop} (h : p) : Hid p := h

/-- a row of eight cells, written out -/
theorem whole8 {w : World} {b : Nat} {t : TypeId} {f : Nat → Value} (h : w.rowIs b t 8 f) : w.heap[b]? = some (.cells #[f 0, f 1, f 2, f 3, f 4, f 5, f 6, f 7] t (0, 0)) := by
  obtain ⟨c, hb, hs, hc⟩ := h
  rw [hb]
  have : c = #[f 0, f 1, f 2, f 3, f 4, f 5, f 6, f 7] := by
    apply Array.ext
    · simpa using hs
    · intro i hi _
      have h1 := hc i (by omega)
      rw [Array.getElem?_eq_getElem hi] at h1
      injection h1 with h1
      rw [h1]
      rcases (show i = 0 ∨ i = 1 ∨ i = 2 ∨ i = 3 ∨ i = 4 ∨ i = 5 ∨ i = 6 ∨ i = 7 from by omega) with rfl | rfl | rfl | rfl | rfl | rfl | rfl | rfl <;> rfl
  rw [this]
theorem row8 (w : World) (t : TypeId) (f : Nat → Value) : (w.alloc (.cells #[f 0, f 1, f 2, f 3, f 4, f 5, f 6, f 7] t)).rowIs w.heap.size t 8 f :=
  World.rowIs_alloc w #[f 0, f 1, f 2, f 3, f 4, f 5, f 6, f 7] t f fun i hi => by
    rcases (show i = 0 ∨ i = 1 ∨ i = 2 ∨ i = 3 ∨ i = 4 ∨ i = 5 ∨ i = 6 ∨ i = 7 from by simp at hi; omega) with rfl | rfl | rfl | rfl | rfl | rfl | rfl | rfl <;> rfl
theorem row_below {w w' : World} {B b : Nat} {t : TypeId} {n : Nat} {f : Nat → Value} (h : w.rowIs b t n f) (hb : Below B w w') (hlt : b < B) : w'.rowIs b t n f := h.of_block (hb.block b hlt)

/-- behind calls that make memory: all that was there in w is as it was -/
def KW (w W : World) : Prop := Below w.heap.size w W
theorem KW.refl (w : World) : KW w w := Below.refl _ _
theorem KW.size {w W : World} (h : KW w W) : w.heap.size ≤ W.heap.size := Below.size h
theorem KW.drew {w W : World} (h : KW w W) : KW w W.drew := Below.drew h
theorem KW.undrew {w W : World} (h : KW w W.drew) : KW w W := ⟨h.os, h.tape, h.output, h.size, h.block⟩
theorem undrew {N : Nat} {W w1 : World} (hb : Below N W.drew w1) : Below N W w1 := ⟨hb.os, hb.tape, hb.output, hb.size, hb.block⟩
theorem KW.on {w W w1 : World} {N : Nat} (h : KW w W) (hb : Below N W w1) (hN : W.heap.size ≤ N := by first | exact Nat.le_refl _ | exact Nat.le_succ _ | (simp; done)) : KW w w1 :=
  Below.trans h (hb.mono (Nat.le_trans (Below.size h) hN))
theorem KW.onA {w W w1 : World} {N : Nat} {o : Obj} (h : KW w W) (hb : Below N (W.alloc o) w1) (hN : W.heap.size ≤ N := by first | exact Nat.le_refl _ | exact Nat.le_succ _ | (simp; done)) : KW w w1 :=
  (Below.alloc h (Below.size h) o).trans (hb.mono (Nat.le_trans (Below.size h) hN))
theorem KW.alloc {w W : World} (h : KW w W) (o : Obj) : KW w (W.alloc o) := Below.alloc h (Below.size h) o
theorem KW.cell {w W : World} {b o : Nat} {v : Value} (h : KW w W) (hlt : b < w.heap.size) (c : w.cell? ⟨b, o, none⟩ = some v) : W.cell? ⟨b, o, none⟩ = some v := (Below.cell h (p := ⟨b, o, none⟩) hlt).trans c
theorem KW.frozen {w W : World} {b o : Nat} {v : Bool} (h : KW w W) (hlt : b < w.heap.size) (c : w.frozen? ⟨b, o, none⟩ = v) : W.frozen? ⟨b, o, none⟩ = v := (Below.frozen h (p := ⟨b, o, none⟩) hlt).trans c
theorem KW.row {w W : World} {b n : Nat} {t : TypeId} {f : Nat → Value} (h : KW w W) (hlt : b < w.heap.size) (c : w.rowIs b t n f) : W.rowIs b t n f := c.of_block (Below.block h b hlt)
theorem KW.below {w0 w W : World} {B : Nat} (h : KW w W) (h0 : Below B w0 w) (hB : B ≤ w.heap.size) : Below B w0 W := h0.trans (Below.mono h hB)
end Go.Proofs.Ytgadkelldbibgaa
