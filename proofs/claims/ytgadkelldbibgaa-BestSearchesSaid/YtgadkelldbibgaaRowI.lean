/- A slice of one-cell elements that is what a function tells. -/
import Derived.Test.YtgadkelldbibgaaBase
namespace Go.Proofs.Ytgadkelldbibgaa
open Go.ChangeShapes Go.WideShapes Go.ChangeAt Go.RowKit
set_option linter.unusedVariables false
def Row1 (w : World) (A : Option Addr) (n : Nat) (f : Nat → Value) : Prop :=
  0 < n → ∃ b off, A = some ⟨b, off, none⟩ ∧ b < w.heap.size ∧ ∀ k, k < n → w.cell? ⟨b, off + k, none⟩ = some (f k)
theorem Row1.at_ {w : World} {A : Option Addr} {n : Nat} {f : Nat → Value} (h : Row1 w A n f) {k : Nat} (hk : k < n) : ∃ b off, A = some ⟨b, off, none⟩ ∧ b < w.heap.size ∧ w.cell? ⟨b, off + k, none⟩ = some (f k) := by
  obtain ⟨b, off, hA, hb, hc⟩ := h (by omega)
  exact ⟨b, off, hA, hb, hc k hk⟩
theorem Row1.below {w w' : World} {A : Option Addr} {n : Nat} {f : Nat → Value} (h : Row1 w A n f) (hb : Below w.heap.size w w') : Row1 w' A n f := by
  intro hn
  obtain ⟨b, off, hA, hlt, hc⟩ := h hn
  exact ⟨b, off, hA, Nat.lt_of_lt_of_le hlt hb.size, fun k hk => (hb.cell (p := ⟨b, off + k, none⟩) hlt).trans (hc k hk)⟩
theorem Row1.k {w0 w : World} {A : Option Addr} {n : Nat} {f : Nat → Value} (h : Row1 w0 A n f) (hk : KW w0 w) : Row1 w A n f := h.below hk
theorem KW.t {a b c : World} (h : KW a b) (k : KW b c) : KW a c := h.on k
theorem row1_new (w : World) (t : TypeId) (l : List Value) : Row1 (w.alloc (.cells l.toArray t)) (some ⟨w.heap.size, 0, none⟩) l.length fun k => l.getD k undef := by
  intro _
  refine ⟨w.heap.size, 0, rfl, by simp, fun k hk => ?_⟩
  rw [cell_of_row _ _ _ _ _ _ (heap_alloc_new w _)]
  simp [hk]
theorem Row1.cong {w : World} {A : Option Addr} {n : Nat} {f g : Nat → Value} (h : Row1 w A n f) (e : ∀ k, k < n → f k = g k) : Row1 w A n g := by
  intro hn
  obtain ⟨b, off, hA, hlt, hc⟩ := h hn
  exact ⟨b, off, hA, hlt, fun k hk => e k hk ▸ hc k hk⟩
theorem pure_kw {P : Program} {f : FuncId} {args : Array Value} {w : World} {o : Obj} {v : Value} (h : Calls P f args (w.alloc o) fun e w' => e = .returned v ∧ w.alloc o = w') :
    Calls P f args (w.alloc o) fun e w' => e = .returned v ∧ KW w w' := h.mono fun _ _ ⟨he, hw⟩ => ⟨he, hw ▸ (KW.refl w).alloc o⟩
theorem alloc_kw {P : Program} {f : FuncId} {args : Array Value} {w : World} {o : Obj} {v : Value} (h : Calls P f args (w.alloc o) fun e w' => e = .returned v ∧ KW (w.alloc o) w') :
    Calls P f args (w.alloc o) fun e w' => e = .returned v ∧ KW w w' := h.mono fun _ _ ⟨he, hw⟩ => ⟨he, ((KW.refl w).alloc o).t hw⟩
end Go.Proofs.Ytgadkelldbibgaa
