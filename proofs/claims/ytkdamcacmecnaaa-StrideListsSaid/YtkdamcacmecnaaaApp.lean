/- append of any size, with where the new slice lies. -/
import Derived.Test.YtkdamcacmecnaaaKeep
import Derived.Maps.AppendAt
namespace Go.Proofs.Ytkdamcacmecnaaa
open Go.ChangeShapes Go.WideShapes Go.ChangeAt Go.RowKit
set_option linter.unusedVariables false
section
variable {P : Program} {ops : Array Oper} {Q : Exit → Act → World → Prop}
theorem wp_appA {o : Oper} {a : Act} {K : Act → World → Prop} {s x : Operand} {t e : TypeId} {z : Value} {size bytes : Nat} (T : SliceOfS P t e z size bytes)
    (ho : o.op = .call { callee := .builtin .append, args := #[s, x], argTypes := #[t, t] }) {W : World} {base k n : Nat} {v u : Value} {xs ys : List Value}
    (hs : a.eval s = v) (hx : a.eval x = u) (hu : Holds W u k size ys) (hown : W.ownsRow base e size v n xs) (hb : base ≤ W.heap.size) (hl : (n + k) * bytes ≤ 140737488355328) (hl2 : n + k ≤ 9223372036854775807)
    (h : ∀ v' w', w'.ownsRow base e size v' (n + k) (xs ++ ys) → Keep (fun i => v.ownBlock = some i) W w' → (v'.ownBlock = v.ownBlock ∨ v'.ownBlock = some W.heap.size) → K (a.put o.dst v') w') : o.wp P a W K Q := by
  obtain ⟨i, hi, h0⟩ := Option.map_eq_some_iff.1 T.hi
  simp only [Prod.mk.injEq] at h0
  obtain ⟨hyl, hy1, hu⟩ := hu
  rcases hu with ⟨rfl, rfl⟩ | ⟨ad, c, rfl, hc⟩
  · obtain rfl : ys = [] := List.length_eq_zero_iff.1 (by simpa using hyl)
    have hrun := run_append_owned_none (P := P) (w := W) base t o.type e i size T.ht hi v n xs hown
    unfold Oper.wp
    simp [execOp, ho, resolve, invoke, builtin, hs, hx, hrun, Result.andThen]
    exact h v W (by simpa using hown) (Keep.refl _ _) (.inl rfl)
  · obtain ⟨v', w', hr, h2, h3, h4, h5⟩ := run_append_own_at (P := P) W base t o.type e i z size bytes T.ht hi h0.1 h0.2.1 h0.2.2 T.hz T.hs v n xs hown ad k c ys hyl hc hy1 (by unfold maxLen; omega) hl hb
    unfold Oper.wp execOp
    simp only [ho, resolve, invoke, builtin, Sem.run_bind, Sem.run_pure, Result.andThen_ok, List.map_toArray, List.map_cons, List.map_nil, hs, hx, hr]
    exact h v' w' h2 ⟨h3.os, h3.tape, h3.output, h3.size, fun j hj hn => h3.block j hj fun e => hn e.symm⟩ h5
theorem wpList_appA {rest : List Oper} {o : Oper} {a : Act} (hgd : o.guard = none) {s x : Operand} {t e : TypeId} {z : Value} {size bytes : Nat} (T : SliceOfS P t e z size bytes)
    (ho : o.op = .call { callee := .builtin .append, args := #[s, x], argTypes := #[t, t] }) {W : World} {base k n : Nat} {v u : Value} {xs ys : List Value}
    (hs : a.eval s = v) (hx : a.eval x = u) (hu : Holds W u k size ys) (hown : W.ownsRow base e size v n xs) (hb : base ≤ W.heap.size) (hl : (n + k) * bytes ≤ 140737488355328) (hl2 : n + k ≤ 9223372036854775807)
    (h : ∀ v' w', w'.ownsRow base e size v' (n + k) (xs ++ ys) → Keep (fun i => v.ownBlock = some i) W w' → (v'.ownBlock = v.ownBlock ∨ v'.ownBlock = some W.heap.size) → wpList P ops Q rest (a.put o.dst v') w') : wpList P ops Q (o :: rest) a W :=
  wpList_plain hgd fun _ hK => wp_appA T ho hs hx hu hown hb hl hl2 fun v' w' h1 h2 h3 => hK _ _ (h v' w' h1 h2 h3)
end
section
variable {P : Program} {ops : Array Oper} {Q : Exit → Act → World → Prop}
theorem wpX_appA {md : Region.Mode} {S : World → Prop} {L k d m : Nat} {l : Array Bool} {ts : List Value} {ds : List Deferred} {o : Oper} (hr : Region.ready md ops l = [k]) (hok : ops[k]? = some o) (hd : o.dst = some d) (hgd : o.guard = none)
    {s x : Operand} {t e : TypeId} {z : Value} {size bytes : Nat} (T : SliceOfS P t e z size bytes)
    (ho : o.op = .call { callee := .builtin .append, args := #[s, x], argTypes := #[t, t] }) {W : World} {base q n : Nat} {v u : Value} {xs ys : List Value}
    (hs : (Act.mk ts.toArray ds).eval s = v) (hx : (Act.mk ts.toArray ds).eval x = u) (hu : Holds W u q size ys) (hown : W.ownsRow base e size v n xs) (hb : base ≤ W.heap.size) (hl : (n + q) * bytes ≤ 140737488355328) (hl2 : n + q ≤ 9223372036854775807)
    (h : ∀ v' w', w'.ownsRow base e size v' (n + q) (xs ++ ys) → Keep (fun i => v.ownBlock = some i) W w' → (v'.ownBlock = v.ownBlock ∨ v'.ownBlock = some W.heap.size) → (k ≠ L → S w') ∧ wpX P md ops Q S L m (l.setIfInBounds k true) ⟨(ts.set d v').toArray, ds⟩ w') : wpX P md ops Q S L (m + 1) l ⟨ts.toArray, ds⟩ W := by
  refine wpX_hard hr hok fun K hK => ?_
  rw [if_pos (by simp [Region.wanted, hgd])]
  refine wp_appA T ho hs hx hu hown hb hl hl2 fun v' w' h1 h2 h5 => ?_
  obtain ⟨h3, h4⟩ := h v' w' h1 h2 h5
  rw [hd]
  refine hK _ _ h3 ?_
  simpa [Act.put] using h4
end
/-- the one cell that was just laid -/
theorem holds_one (w : World) (t : TypeId) (c : Nat) (u : Value) (h : u.oneCell' = true) : Holds (w.alloc (.cells #[u] t)) (.slice (some ⟨w.heap.size, 0, none⟩) 1 c) 1 1 [u] :=
  Holds.new (w := w) (t := t) (k := 1) (size := 1) (c := c) (ys := [u]) rfl (by simpa using h)
end Go.Proofs.Ytkdamcacmecnaaa
