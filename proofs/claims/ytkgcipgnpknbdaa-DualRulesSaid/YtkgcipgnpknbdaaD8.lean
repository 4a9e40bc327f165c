/- Small contracts: ring.Mul and ring.Add of two numbers; what an owned row of numbers is. -/
import Derived.Test.YtkgcipgnpknbdaaRg
import Derived.Test.YtkgcipgnpknbdaaD5
namespace Go.Proofs.Ytkgcipgnpknbdaa
open Go.ChangeShapes Go.WideShapes Go.ChangeAt Go.RowKit
set_option linter.unusedVariables false

theorem row1_sel (w : World) (t : TypeId) (a b : Int) (g : Nat) (hg : g = w.heap.size) : Row1 (w.alloc (.cells #[.int .u64 a, .int .u64 b] t)) (some ⟨g, 0, none⟩) 2 (fun k => .int .u64 (sel a b k)) := by
  subst hg
  intro _
  refine ⟨w.heap.size, 0, rfl, by simp, fun k hk => ?_⟩
  rw [cell_of_row _ _ _ _ _ _ (heap_alloc_new w _)]
  rcases (show k = 0 ∨ k = 1 from by omega) with rfl | rfl <;> rfl
theorem rmul2 (g : Nat) (a b : Int) (w : World) (hr : Row1 w (some ⟨g, 0, none⟩) 2 fun k => .int .u64 (sel a b k)) :
    Calls Try.prog 23 #[.slice (some ⟨g, 0, none⟩) 2 2] w fun e w' => e = .returned (.int .u64 (IntKind.u64.wrap (a * b))) ∧ Below w.heap.size w w' := by
  refine (mul_any (some ⟨g, 0, none⟩) 2 2 (sel a b) w (by omega) hr).mono fun e w' ⟨he, hw⟩ => ⟨?_, hw ▸ Below.refl _ _⟩
  rw [he]
  simp [Pl.pr, sel]
theorem radd2 (g : Nat) (a b : Int) (w : World) (hr : Row1 w (some ⟨g, 0, none⟩) 2 fun k => .int .u64 (sel a b k)) :
    Calls Try.prog 25 #[.slice (some ⟨g, 0, none⟩) 2 2] w fun e w' => e = .returned (.int .u64 (IntKind.u64.wrap (a + b))) ∧ Below w.heap.size w w' := by
  refine (add_any (some ⟨g, 0, none⟩) 2 2 (sel a b) w (by omega) hr).mono fun e w' ⟨he, hw⟩ => ⟨?_, hw ▸ Below.refl _ _⟩
  rw [he]
  simp [Pl.sm, sel]
theorem infoU64 : (Try.prog.info? 23).map (fun i => (i.zero, i.size, i.bytes)) = some (some (.int .u64 0), 1, 8) := by kernel_rfl
/-- the numbers that are gathered: the first k of what g tells -/
def gath (g : Nat → Int) (k : Nat) : List Value := (List.range k).map fun j => .int .u64 (g j)
theorem gath_len (g : Nat → Int) (k : Nat) : (gath g k).length = k := by simp [gath]
theorem gath_succ (g : Nat → Int) (k : Nat) : gath g (k + 1) = gath g k ++ [.int .u64 (g k)] := by simp [gath, List.range_succ]
theorem row1_owned {w : World} {base : Nat} {v : Value} {g : Nat → Int} {k : Nat} (h : w.ownsRow base 23 1 v k (gath g k)) : ∃ A c, v = .slice A k c ∧ Row1 w A k fun j => .int .u64 (g j) := by
  have hx := h
  rcases h.2 with ⟨rfl, rfl⟩ | ⟨b, cap, cur, rfl, hb, hg, _⟩
  · exact ⟨none, 0, rfl, fun h => absurd h (by omega)⟩
  · refine ⟨_, cap, rfl, fun _ => ⟨b, 0, rfl, (Array.getElem?_eq_some_iff.1 hg).1, fun j hj => ?_⟩⟩
    have hc := hx.cells (g := b) (by simp [Value.ownBlock]) j (.int .u64 (g j)) (by simp [gath, hj])
    have e : (⟨b, 0, none⟩ : Addr).add j = ⟨b, 0 + j, none⟩ := by unfold Addr.add; split <;> simp_all
    rw [← e]
    exact hc
theorem gath_step {B : Nat} {w wr w1 : World} {o o' : Obj} {v v' : Value} {g : Nat → Int} {k : Nat} (hB : B ≤ wr.heap.size) (hown : wr.ownsRow B 23 1 v k (gath g k)) (hnx : Below B w wr)
    (hgrow : ((wr.alloc o).alloc o').grownBy w1 v.ownBlock) (hown' : w1.ownsRow B 23 1 v' (k + 1) (gath g k ++ [.int .u64 (g k)])) : w1.ownsRow B 23 1 v' (k + 1) (gath g (k + 1)) ∧ Below B w w1 :=
  ⟨by rw [gath_succ]; exact hown', ((hnx.alloc (by omega) o).alloc (by simp; omega) o').grown hgrow (by simp; omega) (fun j hj => by have := (hown.lt j hj).1; omega)⟩
end Go.Proofs.Ytkgcipgnpknbdaa
