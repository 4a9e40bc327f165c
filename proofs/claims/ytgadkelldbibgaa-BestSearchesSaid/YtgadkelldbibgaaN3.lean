/- Contract of the reference machine's Do: what is common. -/
import Derived.Test.YtgadkelldbibgaaN2
import Derived.Test.YtgadkelldbibgaaMany
namespace Go.Proofs.Ytgadkelldbibgaa
open Go.ChangeShapes Go.WideShapes Go.ChangeAt Go.RowKit
set_option linter.unusedVariables false

theorem three_rows (w : World) (c0 c1 c2 : List Value) (t0 t1 t2 : TypeId) :
    (((w.alloc (.cells c0.toArray t0)).alloc (.cells c1.toArray t1)).alloc (.cells c2.toArray t2)).rowIs w.heap.size t0 c0.length (fun i => c0.getD i undef) ∧
    (((w.alloc (.cells c0.toArray t0)).alloc (.cells c1.toArray t1)).alloc (.cells c2.toArray t2)).rowIs (w.heap.size + 1) t1 c1.length (fun i => c1.getD i undef) ∧
    (((w.alloc (.cells c0.toArray t0)).alloc (.cells c1.toArray t1)).alloc (.cells c2.toArray t2)).rowIs (w.heap.size + 1 + 1) t2 c2.length (fun i => c2.getD i undef) ∧
    KW w (((w.alloc (.cells c0.toArray t0)).alloc (.cells c1.toArray t1)).alloc (.cells c2.toArray t2)) := by
  have key : ∀ (w : World) (c : List Value) (t : TypeId), (w.alloc (.cells c.toArray t)).rowIs w.heap.size t c.length (fun i => c.getD i undef) := fun w c t =>
    World.rowIs_alloc w c.toArray t _ fun i hi => by simp at hi; simp [hi]
  refine ⟨((key w c0 t0).alloc _).alloc _, ?_, ?_, (((KW.refl w).alloc _).alloc _).alloc _⟩
  · have h := (key (w.alloc (.cells c0.toArray t0)) c1 t1).alloc (.cells c2.toArray t2)
    simpa using h
  · have h := key ((w.alloc (.cells c0.toArray t0)).alloc (.cells c1.toArray t1)) c2 t2
    simpa using h
/-- a copy of a spot, a new block: what is known of them -/
def IsSp (a p : Int) (tags : List Int) (B N : Nat) (u : Value) (w : World) : Prop := ∃ A c, u = .agg #[.int .i64 a, .int .i64 p, .slice A N c] ∧ Owns w B 3 (.slice A N c) (ints tags)
def IsNewM (B : Nat) (u : Value) (w : World) : Prop := ∃ g, u = .pointer (some ⟨g, 0, none⟩) ∧ B ≤ g ∧ w.rowIs g 76 5 (fun i => [.int .i64 0, .int .i64 0, .int .i64 0, .slice none 0 0, .int .i64 0].getD i undef)
def IsMk (l a p t : Int) (tags : List Int) (B N : Nat) (u : Value) (w : World) : Prop := ∃ A c, u = .agg #[.int .i64 l, .int .i64 a, .int .i64 p, .slice A N c, .int .i64 t] ∧ Owns w B 3 (.slice A N c) (ints tags)
theorem IsMk.keep {l a p t : Int} {tags : List Int} {B N : Nat} {u : Value} {w w' : World} (h : IsMk l a p t tags B N u w) (k : KW w w') : IsMk l a p t tags B N u w' := by
  obtain ⟨A, c, e, h⟩ := h; exact ⟨A, c, e, h.on k⟩
theorem IsSp.keep {a p : Int} {tags : List Int} {B N : Nat} {u : Value} {w w' : World} (h : IsSp a p tags B N u w) (k : KW w w') : IsSp a p tags B N u w' := by
  obtain ⟨A, c, e, h⟩ := h; exact ⟨A, c, e, h.on k⟩
theorem IsNewM.keep {B : Nat} {u : Value} {w w' : World} (h : IsNewM B u w) (k : KW w w') : IsNewM B u w' := by
  obtain ⟨g, e, hB, h⟩ := h; exact ⟨g, e, hB, KW.row k h.lt h⟩
theorem kwR (w : World) : KW w w := KW.refl w
theorem Owns.apart {w : World} {B g n : Nat} {v : Value} {xs : List Value} {f : Nat → Value} (h : Owns w B 3 v xs) (hr : w.rowIs g 76 n f) {k : Nat} (hk : v.ownBlock = some k) : k ≠ g := by
  rintro rfl
  obtain ⟨c, hb, _⟩ := hr
  rcases h.2 with ⟨rfl, _⟩ | ⟨g', cap, cur, rfl, _, hg, _⟩
  · cases hk
  · simp [Value.ownBlock] at hk
    subst hk
    rw [hb] at hg
    simp at hg
/-- what the reference's Do leaves -/
def RDoP (w : World) (u : Value) (m : Mc.St) (c : Int) (e : Ending) (w' : World) : Prop := ∃ v, e = .returned (.tuple #[.agg (rm m v), .int .i64 c]) ∧ RT w' v m.tags ∧ (v = u ∨ ∀ k, v.ownBlock = some k → w.heap.size ≤ k) ∧ KW w w'
theorem Owns.cellInt {w : World} {B N c : Nat} {A : Option Addr} {tags : List Int} (h : Owns w B 3 (.slice A N c) (ints tags)) {n : Nat} (hn : n < tags.length) :
    ∃ tb, A = some ⟨tb, 0, none⟩ ∧ B ≤ tb ∧ tb < w.heap.size ∧ w.cell? ⟨tb, n, none⟩ = some (.int .i64 (tags.getD n 0)) ∧ w.frozen? ⟨tb, n, none⟩ = false ∧
      ∀ x : Int, Owns (w.setCell ⟨tb, n, none⟩ (.int .i64 x)) B 3 (.slice A N c) (ints (tags.set n x)) := by
  have hx := h
  rcases h.2 with ⟨e, h0⟩ | ⟨g, cap, cur, hv, hb, hg, hc, _, hsz, htake⟩
  · cases e; rw [ints_len] at h0; omega
  · cases hv
    have hlt : g < w.heap.size := (Array.getElem?_eq_some_iff.1 hg).1
    refine ⟨g, rfl, hb, hlt, ?_, by simp [World.frozen?, hg], fun x => ?_⟩
    · have := World.ownsRow.cells hx (g := g) (by simp [Value.ownBlock]) n _ (ints_get tags hn)
      have e : (⟨g, 0, none⟩ : Addr).add n = ⟨g, n, none⟩ := by unfold Addr.add; split <;> simp_all
      rw [e] at this
      exact this
    · have := (World.ownsRow.stored hx n (.int .i64 x)).1
      have e : (ints tags).set n (.int .i64 x) = ints (tags.set n x) := by simp [ints, List.map_set]
      rw [e] at this
      have e2 : (ints (tags.set n x)).length = (ints tags).length := by rw [ints_len, ints_len, List.length_set]
      unfold Owns
      rw [e2]
      exact this
end Go.Proofs.Ytgadkelldbibgaa
