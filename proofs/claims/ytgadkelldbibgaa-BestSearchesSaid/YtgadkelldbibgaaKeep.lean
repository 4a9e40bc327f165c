/- What is left alone but for a few blocks; a whole row stored, a whole row loaded; a name for a world. -/
import Derived.Test.YtgadkelldbibgaaOwn
import Derived.Laws.Tables
import Derived.Laws.Rows
namespace Go.Proofs.Ytgadkelldbibgaa
open Go.ChangeShapes Go.WideShapes Go.ChangeAt Go.RowKit
set_option linter.unusedVariables false

/-- all that was there is as it was, but for the blocks of own -/
structure Keep (own : Nat → Prop) (w w' : World) : Prop where
  os : w'.os = w.os
  tape : w'.tape = w.tape
  output : w'.output = w.output
  size : w.heap.size ≤ w'.heap.size
  block : ∀ k, k < w.heap.size → ¬ own k → w'.heap[k]? = w.heap[k]?

theorem KW.keep {own : Nat → Prop} {w w' : World} (h : KW w w') : Keep own w w' := ⟨Below.os h, Below.tape h, Below.output h, Below.size h, fun k hk _ => Below.block h k hk⟩
theorem Keep.refl (own : Nat → Prop) (w : World) : Keep own w w := (KW.refl w).keep
theorem Keep.kw {w w' : World} (h : Keep (fun _ => False) w w') : KW w w' := ⟨h.os, h.tape, h.output, h.size, fun k hk => h.block k hk id⟩
theorem Keep.trans {own own' : Nat → Prop} {a b c : World} (h : Keep own a b) (k : Keep own' b c) (hs : ∀ i, i < a.heap.size → own' i → own i) : Keep own a c :=
  ⟨k.os.trans h.os, k.tape.trans h.tape, k.output.trans h.output, Nat.le_trans h.size k.size, fun i hi hn => (k.block i (Nat.lt_of_lt_of_le hi h.size) fun ho => hn (hs i hi ho)).trans (h.block i hi hn)⟩
theorem Keep.t {own : Nat → Prop} {a b c : World} (h : Keep own a b) (k : Keep own b c) : Keep own a c := h.trans k fun _ _ x => x
theorem Keep.kwt {own : Nat → Prop} {a b c : World} (h : Keep own a b) (k : KW b c) : Keep own a c := h.t k.keep
theorem KW.kt {own : Nat → Prop} {a b c : World} (h : KW a b) (k : Keep own b c) : Keep own a c := h.keep.t k
theorem KW.kept {own : Nat → Prop} {a b c : World} (h : KW a b) (k : Keep own b c) (hs : ∀ i, own i → a.heap.size ≤ i) : KW a c :=
  ((h.keep (own := fun _ => False)).trans k fun i hi ho => absurd (hs i ho) (by omega)).kw
theorem Keep.mono {own own' : Nat → Prop} {a b : World} (h : Keep own a b) (hs : ∀ i, i < a.heap.size → own i → own' i) : Keep own' a b := (Keep.refl own' a).trans h hs
theorem Keep.drew {own : Nat → Prop} {a b : World} (h : Keep own a b) : Keep own a b.drew := ⟨h.os, h.tape, h.output, h.size, h.block⟩
theorem Keep.alloc {own : Nat → Prop} {a b : World} (h : Keep own a b) (o : Obj) : Keep own a (b.alloc o) := h.kwt ((KW.refl b).alloc o)
theorem Keep.setCell {own : Nat → Prop} {a b : World} (h : Keep own a b) (p : Addr) (v : Value) (ho : own p.block) : Keep own a (b.setCell p v) :=
  h.t ⟨rfl, rfl, rfl, by simp, fun k hk hn => heap_setCell_other b p k v fun e => hn (e ▸ ho)⟩
theorem Keep.setRow {own : Nat → Prop} {a b : World} (h : Keep own a b) (g : Nat) (cs : Array Value) (ho : own g) : Keep own a (b.setRow g cs) :=
  h.t ⟨rfl, rfl, rfl, by simp, fun k hk hn => setRow_other b g k cs fun e => hn (by subst e; exact ho)⟩
theorem Keep.cell {own : Nat → Prop} {w w' : World} {b o : Nat} (h : Keep own w w') (hb : b < w.heap.size) (hn : ¬ own b) : w'.cell? ⟨b, o, none⟩ = w.cell? ⟨b, o, none⟩ := World.cell?_of_block (w := w) (h.block b hb hn)
theorem Keep.frozen {own : Nat → Prop} {w w' : World} {b o : Nat} (h : Keep own w w') (hb : b < w.heap.size) (hn : ¬ own b) : w'.frozen? ⟨b, o, none⟩ = w.frozen? ⟨b, o, none⟩ := World.frozen?_of_block (w := w) (h.block b hb hn)
theorem Keep.row {own : Nat → Prop} {w w' : World} {b n : Nat} {t : TypeId} {f : Nat → Value} (h : Keep own w w') (hn : ¬ own b) (c : w.rowIs b t n f) : w'.rowIs b t n f := c.of_block (h.block b c.lt hn)
theorem Keep.owns {own : Nat → Prop} {w w' : World} {base : Nat} {e : TypeId} {v : Value} {xs : List Value} (h : Keep own w w') (c : Owns w base e v xs) (hn : ∀ b, v.ownBlock = some b → ¬ own b) : Owns w' base e v xs :=
  c.of_blocks fun b hb => h.block b (c.lt hb).2 (hn b hb)
theorem whole {w : World} {b n : Nat} {t : TypeId} {f : Nat → Value} (h : w.rowIs b t n f) : w.heap[b]? = some (.cells ((List.range n).map f).toArray t (0, 0)) := by
  obtain ⟨c, hb, hs, hc⟩ := h
  rw [hb]
  have : c = ((List.range n).map f).toArray := by
    apply Array.ext
    · simpa using hs
    · intro i hi _
      have h1 := hc i (by omega)
      rw [Array.getElem?_eq_getElem hi] at h1
      injection h1 with h1
      rw [h1]
      simp
  rw [this]
theorem Keep.row1 {own : Nat → Prop} {w w' : World} {A : Option Addr} {n : Nat} {f : Nat → Value} (h : Keep own w w') (c : Row1 w A n f) (hn : ∀ b off, A = some ⟨b, off, none⟩ → ¬ own b) : Row1 w' A n f := by
  intro h0
  obtain ⟨b, off, hA, hb, hc⟩ := c h0
  exact ⟨b, off, hA, Nat.lt_of_lt_of_le hb h.size, fun k hk => (h.cell hb (hn b off hA)).trans (hc k hk)⟩
theorem Owns.undrew {w : World} {base : Nat} {e : TypeId} {v : Value} {xs : List Value} (h : Owns w.drew base e v xs) : Owns w base e v xs := h.on (⟨rfl, rfl, rfl, Nat.le_refl _, fun _ _ => rfl⟩ : KW w.drew w)
theorem Owns.base {w : World} {base base' : Nat} {e : TypeId} {v : Value} {xs : List Value} (h : Owns w base e v xs) (hb : base' ≤ base) : Owns w base' e v xs :=
  ⟨h.1, h.2.imp id fun ⟨g, cap, cur, hv, hg, r⟩ => ⟨g, cap, cur, hv, Nat.le_trans hb hg, r⟩⟩
theorem Owns.drew {w : World} {base : Nat} {e : TypeId} {v : Value} {xs : List Value} (h : Owns w base e v xs) : Owns w.drew base e v xs := h.on (KW.refl w).drew

section
variable {P : Program} {ops : Array Oper} {Q : Exit → Act → World → Prop}
theorem wpList_world {rest : List Oper} {a : Act} {w0 : World} (S : World → Prop) (h0 : S w0) (h : ∀ W, S W → wpList P ops Q rest a W) : wpList P ops Q rest a w0 := h w0 h0
theorem wpCode_world {c : Code} {a : Act} {w0 : World} (S : World → Prop) (h0 : S w0) (h : ∀ W, S W → Code.wp P c Q a W) : Code.wp P c Q a w0 := h w0 h0

/-- a whole row stored into a block -/
theorem wpList_store_is {rest : List Oper} {o : Oper} {a : Act} {w : World} (hgd : o.guard = none) (ty : TypeId) (x y : Operand) (ho : o.op = .store ty x y)
    (g n : Nat) (t : TypeId) (f f' : Nat → Value) (cells : Array Value) (hx : a.eval x = .pointer (some ⟨g, 0, none⟩)) (hy : a.eval y = .agg cells)
    (hg : w.rowIs g t n f) (hi : (P.info? ty).map (·.size) = some n) (hn : cells.size = n) (hc : ∀ i, i < n → cells[i]? = some (f' i)) (h1 : ∀ i, i < n → (f' i).oneCell' = true)
    (h : ∀ W, W.rowIs g t n f' → Keep (· = g) w W → W.heap.size = w.heap.size → wpList P ops Q rest (a.put o.dst undef) W) : wpList P ops Q (o :: rest) a w := by
  obtain ⟨c, hb, hs, _⟩ := hg
  subst hn
  refine wpList_store_row hgd ty x y ho g cells hx hy t c hb hi hs ?_ (h _ ⟨cells, setRow_heap w g c cells t _ hb, rfl, hc⟩ ((Keep.refl _ w).setRow g cells rfl) (by simp))
  rw [Array.all_eq_true_iff_forall_mem]
  intro v hv
  obtain ⟨i, hi, rfl⟩ := Array.mem_iff_getElem.1 hv
  have := hc i hi
  rw [Array.getElem?_eq_getElem hi] at this
  injection this with this
  rw [this]; exact h1 i hi
theorem wpList_load_is {rest : List Oper} {o : Oper} {a : Act} {w : World} (hgd : o.guard = none) (ty : TypeId) (x : Operand) (ho : o.op = .load ty x)
    (g n : Nat) (t : TypeId) (f : Nat → Value) (hx : a.eval x = .pointer (some ⟨g, 0, none⟩)) (d : TypeDesc) (hg : w.rowIs g t n f)
    (hu : P.underlying ty = some d) (hd : (match d with | .struct _ | .array _ _ => true | _ => false) = true) (hi : (P.info? ty).map (·.size) = some n)
    (h : ∀ cells : Array Value, cells.size = n → (∀ i, i < n → cells[i]? = some (f i)) → wpList P ops Q rest (a.put o.dst (.agg cells)) w) : wpList P ops Q (o :: rest) a w := by
  obtain ⟨c, hb, hs, hc⟩ := hg
  exact wpList_load_row hgd ty x ho g hx t c (0, 0) d hb hu hd (by rw [hi, hs]) (h c hs hc)

/-- the same in a region that draws -/
theorem wpX_store_is {md : Region.Mode} {S : World → Prop} {L k q : Nat} {l : Array Bool} {ts : List Value} {ds : List Deferred} {o : Oper} (hr : Region.ready md ops l = [k]) (hok : ops[k]? = some o) (hdst : o.dst = none) (hgd : o.guard = none)
    {w : World} (ty : TypeId) (x y : Operand) (ho : o.op = .store ty x y)
    (g n : Nat) (t : TypeId) (f f' : Nat → Value) (cells : Array Value) (hx : (Act.mk ts.toArray ds).eval x = .pointer (some ⟨g, 0, none⟩)) (hy : (Act.mk ts.toArray ds).eval y = .agg cells)
    (hg : w.rowIs g t n f) (hi : (P.info? ty).map (·.size) = some n) (hn : cells.size = n) (hc : ∀ i, i < n → cells[i]? = some (f' i)) (h1 : ∀ i, i < n → (f' i).oneCell' = true)
    (h : ∀ W, W.rowIs g t n f' → W.heap[g]? = some (.cells cells t (0, 0)) → Keep (· = g) w W → (k ≠ L → S W) ∧ wpX P md ops Q S L q (l.setIfInBounds k true) ⟨ts.toArray, ds⟩ W) : wpX P md ops Q S L (q + 1) l ⟨ts.toArray, ds⟩ w := by
  obtain ⟨c, hb, hs, _⟩ := hg
  subst hn
  refine wpX_hard hr hok fun K hK' => ?_
  rw [if_pos (by simp [Region.wanted, hgd])]
  have hh := setRow_heap w g c cells t _ hb
  obtain ⟨h4, h5⟩ := h _ ⟨cells, hh, rfl, hc⟩ hh ((Keep.refl _ w).setRow g cells rfl)
  refine wp_store_row ty x y ho g cells hx hy t c hb hi hs ?_ ?_
  · rw [Array.all_eq_true_iff_forall_mem]
    intro v hv
    obtain ⟨i, hi, rfl⟩ := Array.mem_iff_getElem.1 hv
    have := hc i hi
    rw [Array.getElem?_eq_getElem hi] at this
    injection this with this
    rw [this]; exact h1 i hi
  · rw [hdst]
    exact hK' _ _ h4 h5

/-- what the program's table says of a slice's type, elements of so many cells -/
structure SliceOfS (P : Program) (t e : TypeId) (z : Value) (size bytes : Nat) : Prop where
  ht : P.underlying t = some (.slice e)
  hi : (P.info? e).map (fun i => (i.zero, i.size, i.bytes)) = some (some z, size, bytes)
  hz : z.cells.size = size
  hs : 0 < size
theorem SliceOf.s {P : Program} {t e : TypeId} {z : Value} {bytes : Nat} (T : SliceOf P t e z bytes) : SliceOfS P t e z 1 bytes := ⟨T.ht, T.hi, T.hz, by omega⟩
/-- the slice x holds the cells ys -/
def Holds (w : World) (x : Value) (k size : Nat) (ys : List Value) : Prop :=
  ys.length = k * size ∧ (∀ y ∈ ys, y.oneCell' = true) ∧ ((k = 0 ∧ x = .slice none 0 0) ∨ ∃ ad c, x = .slice (some ad) k c ∧ ∀ j y, ys[j]? = some y → w.cell? (ad.add j) = some y)
theorem wp_appS {o : Oper} {a : Act} {K : Act → World → Prop} {s x : Operand} {t e : TypeId} {z : Value} {size bytes : Nat} (T : SliceOfS P t e z size bytes)
    (ho : o.op = .call { callee := .builtin .append, args := #[s, x], argTypes := #[t, t] }) {W : World} {base k n : Nat} {v u : Value} {xs ys : List Value}
    (hs : a.eval s = v) (hx : a.eval x = u) (hu : Holds W u k size ys) (hown : W.ownsRow base e size v n xs) (hb : base ≤ W.heap.size) (hl : (n + k) * bytes ≤ 140737488355328) (hl2 : n + k ≤ 9223372036854775807)
    (h : ∀ v' w', w'.ownsRow base e size v' (n + k) (xs ++ ys) → Keep (fun i => v.ownBlock = some i) W w' → K (a.put o.dst v') w') : o.wp P a W K Q := by
  obtain ⟨i, hi, h0⟩ := Option.map_eq_some_iff.1 T.hi
  simp only [Prod.mk.injEq] at h0
  obtain ⟨hyl, hy1, hu⟩ := hu
  rcases hu with ⟨rfl, rfl⟩ | ⟨ad, c, rfl, hc⟩
  · obtain rfl : ys = [] := List.length_eq_zero_iff.1 (by simpa using hyl)
    have hrun := run_append_owned_none (P := P) (w := W) base t o.type e i size T.ht hi v n xs hown
    unfold Oper.wp
    simp [execOp, ho, resolve, invoke, builtin, hs, hx, hrun, Result.andThen]
    exact h v W (by simpa using hown) (Keep.refl _ _)
  · refine wp_append_own _ s x t ho base e i z size bytes T.ht hi h0.1 h0.2.1 h0.2.2 T.hz T.hs v n xs hs hown ad k c ys hx hyl hc hy1 (by unfold maxLen; omega) hl hb ?_
    intro v' w' h1 h2 _
    exact h v' w' h1 ⟨h2.os, h2.tape, h2.output, h2.size, fun j hj hn => h2.block j hj fun e => hn e.symm⟩
theorem wpList_appS {rest : List Oper} {o : Oper} {a : Act} (hgd : o.guard = none) {s x : Operand} {t e : TypeId} {z : Value} {size bytes : Nat} (T : SliceOfS P t e z size bytes)
    (ho : o.op = .call { callee := .builtin .append, args := #[s, x], argTypes := #[t, t] }) {W : World} {base k n : Nat} {v u : Value} {xs ys : List Value}
    (hs : a.eval s = v) (hx : a.eval x = u) (hu : Holds W u k size ys) (hown : W.ownsRow base e size v n xs) (hb : base ≤ W.heap.size) (hl : (n + k) * bytes ≤ 140737488355328) (hl2 : n + k ≤ 9223372036854775807)
    (h : ∀ v' w', w'.ownsRow base e size v' (n + k) (xs ++ ys) → Keep (fun i => v.ownBlock = some i) W w' → wpList P ops Q rest (a.put o.dst v') w') : wpList P ops Q (o :: rest) a W :=
  wpList_plain hgd fun _ hK => wp_appS T ho hs hx hu hown hb hl hl2 fun v' w' h1 h2 => hK _ _ (h v' w' h1 h2)
theorem wpX_appS {md : Region.Mode} {S : World → Prop} {L k d m : Nat} {l : Array Bool} {ts : List Value} {ds : List Deferred} {o : Oper} (hr : Region.ready md ops l = [k]) (hok : ops[k]? = some o) (hd : o.dst = some d) (hgd : o.guard = none)
    {s x : Operand} {t e : TypeId} {z : Value} {size bytes : Nat} (T : SliceOfS P t e z size bytes)
    (ho : o.op = .call { callee := .builtin .append, args := #[s, x], argTypes := #[t, t] }) {W : World} {base q n : Nat} {v u : Value} {xs ys : List Value}
    (hs : (Act.mk ts.toArray ds).eval s = v) (hx : (Act.mk ts.toArray ds).eval x = u) (hu : Holds W u q size ys) (hown : W.ownsRow base e size v n xs) (hb : base ≤ W.heap.size) (hl : (n + q) * bytes ≤ 140737488355328) (hl2 : n + q ≤ 9223372036854775807)
    (h : ∀ v' w', w'.ownsRow base e size v' (n + q) (xs ++ ys) → Keep (fun i => v.ownBlock = some i) W w' → (k ≠ L → S w') ∧ wpX P md ops Q S L m (l.setIfInBounds k true) ⟨(ts.set d v').toArray, ds⟩ w') : wpX P md ops Q S L (m + 1) l ⟨ts.toArray, ds⟩ W := by
  refine wpX_hard hr hok fun K hK => ?_
  rw [if_pos (by simp [Region.wanted, hgd])]
  refine wp_appS T ho hs hx hu hown hb hl hl2 fun v' w' h1 h2 => ?_
  obtain ⟨h3, h4⟩ := h v' w' h1 h2
  rw [hd]
  refine hK _ _ h3 ?_
  simpa [Act.put] using h4
/-- what was just laid -/
theorem Holds.new {w : World} {t : TypeId} {k size c : Nat} {ys : List Value} (hl : ys.length = k * size) (h1 : ys.all (·.oneCell') = true) :
    Holds (w.alloc (.cells ys.toArray t)) (.slice (some ⟨w.heap.size, 0, none⟩) k c) k size ys :=
  ⟨hl, List.all_eq_true.1 h1, .inr ⟨_, _, rfl, fun j y hj => by
    have e : (⟨w.heap.size, 0, none⟩ : Addr).add j = ⟨w.heap.size, j, none⟩ := by unfold Addr.add; split <;> simp_all
    rw [e, cell_of_row _ _ _ _ _ _ (heap_alloc_new w _)]
    simpa using hj⟩⟩
theorem Holds.none {w : World} {size : Nat} : Holds w (.slice none 0 0) 0 size [] := ⟨by simp, by simp, .inl ⟨rfl, rfl⟩⟩
theorem Holds.kw {w w' : World} {x : Value} {k size : Nat} {ys : List Value} (h : Holds w x k size ys) (hk : KW w w') : Holds w' x k size ys := by
  obtain ⟨h1, h2, h3⟩ := h
  refine ⟨h1, h2, h3.imp id fun ⟨ad, c, hx, hc⟩ => ⟨ad, c, hx, fun j y hj => ?_⟩⟩
  have h0 := hc j y hj
  have hlt := World.block_lt_of_cell? w _ h0
  exact (Below.cell hk hlt).trans h0
theorem Row1.holds {w : World} {A : Option Addr} {n c : Nat} {f : Nat → Value} (h : Row1 w A n f) (h0 : A = none → n = 0 ∧ c = 0) (h1 : ∀ i, i < n → (f i).oneCell' = true) : Holds w (.slice A n c) n 1 ((List.range n).map f) := by
  refine ⟨by simp, fun y hy => ?_, ?_⟩
  · obtain ⟨i, hi, rfl⟩ := List.mem_map.1 hy
    exact h1 i (by simpa using hi)
  · cases A with
    | none => obtain ⟨rfl, rfl⟩ := h0 rfl; exact .inl ⟨rfl, rfl⟩
    | some ad =>
      refine .inr ⟨ad, c, rfl, fun j y hj => ?_⟩
      have hlt : j < n := by
        have := (List.getElem?_eq_some_iff.1 hj).1
        simpa using this
      obtain ⟨b, off, hA, hb, hc⟩ := h.at_ hlt
      cases hA
      have e : (⟨b, off, none⟩ : Addr).add j = ⟨b, off + j, none⟩ := by unfold Addr.add; split <;> simp_all
      rw [e, hc]
      simp [hlt] at hj
      rw [hj]
theorem rowIs_holds {w : World} {b n k c : Nat} {t : TypeId} {f : Nat → Value} (h : w.rowIs b t n f) (hk : k ≤ n) (h1 : ∀ i, i < k → (f i).oneCell' = true) : Holds w (.slice (some ⟨b, 0, none⟩) k c) k 1 ((List.range k).map f) :=
  Row1.holds (fun _ => ⟨b, 0, rfl, h.lt, fun i hi => by rw [Nat.zero_add]; exact h.cell (by omega)⟩) (fun h => by cases h) h1
end
end Go.Proofs.Ytgadkelldbibgaa
