/- A slice of the call's own, of one-cell elements: what it holds; append of one element, in a region of forced order and in one that draws. -/
import Derived.Test.YtgadkelldbibgaaRowI
import Derived.Test.YtgadkelldbibgaaOrd
import Derived.Laws.AppendOwn
namespace Go.Proofs.Ytgadkelldbibgaa
open Go.ChangeShapes Go.WideShapes Go.ChangeAt Go.RowKit
set_option linter.unusedVariables false

/-- v is a slice of a block from base on, and holds xs -/
def Owns (w : World) (base : Nat) (e : TypeId) (v : Value) (xs : List Value) : Prop := w.ownsRow base e 1 v xs.length xs
theorem Owns.nil (w : World) (base : Nat) (e : TypeId) : Owns w base e (.slice none 0 0) [] := World.ownsRow_nil _ _ _ _
theorem Owns.new {w : World} {base : Nat} {e : TypeId} {xs : List Value} (hb : base ≤ w.heap.size) (hl : xs.length ≤ 100000) : Owns (w.alloc (.cells xs.toArray e)) base e (.slice (some ⟨w.heap.size, 0, none⟩) xs.length xs.length) xs :=
  ⟨by simp, .inr ⟨w.heap.size, xs.length, xs.toArray, rfl, hb, heap_alloc_new w _, Nat.le_refl _, by unfold maxLen; omega, by simp, by simp⟩⟩
theorem Owns.row {w : World} {base : Nat} {e : TypeId} {v : Value} {xs : List Value} (h : Owns w base e v xs) :
    ∃ A c, v = .slice A xs.length c ∧ xs.length ≤ c ∧ (0 < xs.length → ∃ b, A = some ⟨b, 0, none⟩ ∧ base ≤ b ∧ b < w.heap.size) ∧ Row1 w A xs.length fun j => xs.getD j undef := by
  have hx := h
  rcases h.2 with ⟨rfl, h0⟩ | ⟨b, cap, cur, rfl, hb, hg, hc, _⟩
  · exact ⟨none, 0, by rw [h0], by omega, fun h => absurd h (by omega), fun h => absurd h (by omega)⟩
  · have hlt : b < w.heap.size := (Array.getElem?_eq_some_iff.1 hg).1
    refine ⟨_, cap, rfl, hc, fun _ => ⟨b, rfl, hb, hlt⟩, fun _ => ⟨b, 0, rfl, hlt, fun j hj => ?_⟩⟩
    have hc := World.ownsRow.cells hx (g := b) (by simp [Value.ownBlock]) j (xs.getD j undef) (by simp [hj])
    have e : (⟨b, 0, none⟩ : Addr).add j = ⟨b, 0 + j, none⟩ := by unfold Addr.add; split <;> simp_all
    rw [← e]
    exact hc
theorem Owns.of_blocks {w w' : World} {base : Nat} {e : TypeId} {v : Value} {xs : List Value} (h : Owns w base e v xs) (hk : ∀ b, v.ownBlock = some b → w'.heap[b]? = w.heap[b]?) : Owns w' base e v xs := by
  refine ⟨h.1, ?_⟩
  rcases h.2 with hn | ⟨g, cap, cur, rfl, hb, hg, rest⟩
  · exact .inl hn
  · exact .inr ⟨g, cap, cur, rfl, hb, by rw [hk g (by simp [Value.ownBlock])]; exact hg, rest⟩
theorem Owns.lt {w : World} {base : Nat} {e : TypeId} {v : Value} {xs : List Value} (h : Owns w base e v xs) {b : Nat} (hb : v.ownBlock = some b) : base ≤ b ∧ b < w.heap.size := World.ownsRow.lt h b hb
theorem Owns.on {w w' : World} {base : Nat} {e : TypeId} {v : Value} {xs : List Value} (h : Owns w base e v xs) (k : KW w w') : Owns w' base e v xs :=
  h.of_blocks fun b hb => Below.block k b (h.lt hb).2
theorem Owns.alloc {w : World} {base : Nat} {e : TypeId} {v : Value} {xs : List Value} (h : Owns w base e v xs) (o : Obj) : Owns (w.alloc o) base e v xs := h.on ((KW.refl w).alloc o)

/-- what the program's table says of a slice's type -/
structure SliceOf (P : Program) (t e : TypeId) (z : Value) (bytes : Nat) : Prop where
  ht : P.underlying t = some (.slice e)
  hi : (P.info? e).map (fun i => (i.zero, i.size, i.bytes)) = some (some z, 1, bytes)
  hz : z.cells.size = 1

section
variable {P : Program} {ops : Array Oper} {Q : Exit → Act → World → Prop}
theorem wp_app1 {o : Oper} {a : Act} {K : Act → World → Prop} {s x : Operand} {t e : TypeId} {z : Value} {bytes : Nat} (T : SliceOf P t e z bytes)
    (ho : o.op = .call { callee := .builtin .append, args := #[s, x], argTypes := #[t, t] }) {W : World} {base c : Nat} {v u : Value} {xs : List Value} {ce : TypeId}
    (hs : a.eval s = v) (hx : a.eval x = .slice (some ⟨W.heap.size, 0, none⟩) 1 c) (hu : u.oneCell' = true) (hown : Owns W base e v xs) (hb : base ≤ W.heap.size) (hl : (xs.length + 1) * bytes ≤ 140737488355328) (hl2 : xs.length + 1 ≤ 9223372036854775807)
    (h : ∀ v' w', Owns w' base e v' (xs ++ [u]) → Below base W w' → K (a.put o.dst v') w') : o.wp P a (W.alloc (.cells #[u] ce)) K Q := by
  obtain ⟨i, hi, h0⟩ := Option.map_eq_some_iff.1 T.hi
  simp only [Prod.mk.injEq] at h0
  refine wp_append_own _ s x t ho base e i z 1 bytes T.ht hi h0.1 h0.2.1 h0.2.2 T.hz (by omega) v xs.length xs hs (hown.alloc _) ⟨W.heap.size, 0, none⟩ 1 c [u] hx rfl ?_ ?_ (by unfold maxLen; omega) hl (by simp; omega) ?_
  · intro j y hj
    match j, hj with
    | 0, hj =>
      simp only [List.getElem?_cons_zero, Option.some.injEq] at hj
      subst hj
      have e : (⟨W.heap.size, 0, none⟩ : Addr).add 0 = ⟨W.heap.size, 0, none⟩ := rfl
      rw [e, World.cell?_alloc_at _ _ _ _ (by simp)]
      rfl
  · intro y hy; simp only [List.mem_singleton] at hy; subst hy; exact hu
  · intro v' w' h1 h2 _
    refine h v' w' (by unfold Owns; rw [List.length_append]; exact h1) ?_
    exact (Below.alloc (Below.refl base W) hb _).grown h2 (by simp; omega) fun k hk => (hown.lt hk).1
theorem wpList_app1 {rest : List Oper} {o : Oper} {a : Act} (hgd : o.guard = none) {s x : Operand} {t e : TypeId} {z : Value} {bytes : Nat} (T : SliceOf P t e z bytes)
    (ho : o.op = .call { callee := .builtin .append, args := #[s, x], argTypes := #[t, t] }) {W : World} {base c : Nat} {v u : Value} {xs : List Value} {ce : TypeId}
    (hs : a.eval s = v) (hx : a.eval x = .slice (some ⟨W.heap.size, 0, none⟩) 1 c) (hu : u.oneCell' = true) (hown : Owns W base e v xs) (hb : base ≤ W.heap.size) (hl : (xs.length + 1) * bytes ≤ 140737488355328) (hl2 : xs.length + 1 ≤ 9223372036854775807)
    (h : ∀ v' w', Owns w' base e v' (xs ++ [u]) → Below base W w' → wpList P ops Q rest (a.put o.dst v') w') : wpList P ops Q (o :: rest) a (W.alloc (.cells #[u] ce)) :=
  wpList_plain hgd fun _ hK => wp_app1 T ho hs hx hu hown hb hl hl2 fun v' w' h1 h2 => hK _ _ (h v' w' h1 h2)
theorem wpX_app1 {md : Region.Mode} {S : World → Prop} {L k d n : Nat} {l : Array Bool} {ts : List Value} {ds : List Deferred} {o : Oper} (hr : Region.ready md ops l = [k]) (hok : ops[k]? = some o) (hd : o.dst = some d) (hgd : o.guard = none)
    {s x : Operand} {t e : TypeId} {z : Value} {bytes : Nat} (T : SliceOf P t e z bytes)
    (ho : o.op = .call { callee := .builtin .append, args := #[s, x], argTypes := #[t, t] }) {W : World} {base c : Nat} {v u : Value} {xs : List Value} {ce : TypeId}
    (hs : (Act.mk ts.toArray ds).eval s = v) (hx : (Act.mk ts.toArray ds).eval x = .slice (some ⟨W.heap.size, 0, none⟩) 1 c) (hu : u.oneCell' = true) (hown : Owns W base e v xs) (hb : base ≤ W.heap.size) (hl : (xs.length + 1) * bytes ≤ 140737488355328) (hl2 : xs.length + 1 ≤ 9223372036854775807)
    (h : ∀ v' w', Owns w' base e v' (xs ++ [u]) → Below base W w' → (k ≠ L → S w') ∧ wpX P md ops Q S L n (l.setIfInBounds k true) ⟨(ts.set d v').toArray, ds⟩ w') : wpX P md ops Q S L (n + 1) l ⟨ts.toArray, ds⟩ (W.alloc (.cells #[u] ce)) := by
  refine wpX_hard hr hok fun K hK => ?_
  rw [if_pos (by simp [Region.wanted, hgd])]
  refine wp_app1 T ho hs hx hu hown hb hl hl2 fun v' w' h1 h2 => ?_
  obtain ⟨h3, h4⟩ := h v' w' h1 h2
  rw [hd]
  refine hK _ _ h3 ?_
  simpa [Act.put] using h4
end
end Go.Proofs.Ytgadkelldbibgaa
