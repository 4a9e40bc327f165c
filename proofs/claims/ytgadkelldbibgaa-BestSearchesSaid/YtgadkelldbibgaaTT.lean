/- Several texts in one. -/
import Derived.Test.YtgadkelldbibgaaKeep
import Derived.Maps.AppendAt
import Derived.Test.YtgadkelldbibgaaM7
import Derived.Test.YtgadkelldbibgaaN5a
import Derived.Test.YtgadkelldbibgaaPlainT
import Derived.Test.YtgadkelldbibgaaN2
import Derived.Test.YtgadkelldbibgaaPU
import Derived.RegionTactic
import Derived.Test.YtgadkelldbibgaaN8
import Derived.Test.YtgadkelldbibgaaBase
import Derived.Laws.StructEq
import Derived.Test.YtgadkelldbibgaaM8a
/- append of any size, with where the new slice lies. -/
namespace Go.Proofs.Ytgadkelldbibgaa
open Go.ChangeShapes Go.WideShapes Go.ChangeAt Go.RowKit
set_option linter.unusedVariables false
section
variable {P : Program} {ops : Array Oper} {Q : Exit → Act → World → Prop}
theorem wp_appA {o : Oper} {a : Act} {K : Act → World → Prop} {s x : Operand} {t e : TypeId} {z : Value} {size bytes : Nat} (T : SliceOfS P t e z size bytes)
    (ho : o.op = .call { callee := .builtin .append, args := #[s, x], argTypes := #[t, t] }) {W : World} {base k n : Nat} {v u : Value} {xs ys : List Value}
    (hs : a.eval s = v) (hx : a.eval x = u) (hu : Holds W u k size ys) (hown : W.ownsRow base e size v n xs) (hb : base ≤ W.heap.size) (hl : (n + k) * bytes ≤ 140737488355328) (hl2 : n + k ≤ 9223372036854775807)
    (h : ∀ v' w', w'.ownsRow base e size v' (n + k) (xs ++ ys) → Keep (fun i => v.ownBlock = some i) W w' → (v'.ownBlock = v.ownBlock ∨ v'.ownBlock = some W.heap.size) → K (a.put o.dst v') w') : o.wp P a W K Q := by
  obtain ⟨i, hi, h0⟩ := Option.map_eq_some_iff.1 T.hi
  simp only [Prod.mk.injEq] at h0
  obtain ⟨hyl, hy1, hu⟩ := hu
  rcases hu with ⟨rfl, rfl⟩ | ⟨ad, c, rfl, hc⟩
  · obtain rfl : ys = [] := List.length_eq_zero_iff.1 (by simpa using hyl)
    have hrun := run_append_owned_none (P := P) (w := W) base t o.type e i size T.ht hi v n xs hown
    unfold Oper.wp
    simp [execOp, ho, resolve, invoke, builtin, hs, hx, hrun, Result.andThen]
    exact h v W (by simpa using hown) (Keep.refl _ _) (.inl rfl)
  · obtain ⟨v', w', hr, h2, h3, h4, h5⟩ := run_append_own_at (P := P) W base t o.type e i z size bytes T.ht hi h0.1 h0.2.1 h0.2.2 T.hz T.hs v n xs hown ad k c ys hyl hc hy1 (by unfold maxLen; omega) hl hb
    unfold Oper.wp execOp
    simp only [ho, resolve, invoke, builtin, Sem.run_bind, Sem.run_pure, Result.andThen_ok, List.map_toArray, List.map_cons, List.map_nil, hs, hx, hr]
    exact h v' w' h2 ⟨h3.os, h3.tape, h3.output, h3.size, fun j hj hn => h3.block j hj fun e => hn e.symm⟩ h5
theorem wpList_appA {rest : List Oper} {o : Oper} {a : Act} (hgd : o.guard = none) {s x : Operand} {t e : TypeId} {z : Value} {size bytes : Nat} (T : SliceOfS P t e z size bytes)
    (ho : o.op = .call { callee := .builtin .append, args := #[s, x], argTypes := #[t, t] }) {W : World} {base k n : Nat} {v u : Value} {xs ys : List Value}
    (hs : a.eval s = v) (hx : a.eval x = u) (hu : Holds W u k size ys) (hown : W.ownsRow base e size v n xs) (hb : base ≤ W.heap.size) (hl : (n + k) * bytes ≤ 140737488355328) (hl2 : n + k ≤ 9223372036854775807)
    (h : ∀ v' w', w'.ownsRow base e size v' (n + k) (xs ++ ys) → Keep (fun i => v.ownBlock = some i) W w' → (v'.ownBlock = v.ownBlock ∨ v'.ownBlock = some W.heap.size) → wpList P ops Q rest (a.put o.dst v') w') : wpList P ops Q (o :: rest) a W :=
  wpList_plain hgd fun _ hK => wp_appA T ho hs hx hu hown hb hl hl2 fun v' w' h1 h2 h3 => hK _ _ (h v' w' h1 h2 h3)
end
section
variable {P : Program} {ops : Array Oper} {Q : Exit → Act → World → Prop}
theorem wpX_appA {md : Region.Mode} {S : World → Prop} {L k d m : Nat} {l : Array Bool} {ts : List Value} {ds : List Deferred} {o : Oper} (hr : Region.ready md ops l = [k]) (hok : ops[k]? = some o) (hd : o.dst = some d) (hgd : o.guard = none)
    {s x : Operand} {t e : TypeId} {z : Value} {size bytes : Nat} (T : SliceOfS P t e z size bytes)
    (ho : o.op = .call { callee := .builtin .append, args := #[s, x], argTypes := #[t, t] }) {W : World} {base q n : Nat} {v u : Value} {xs ys : List Value}
    (hs : (Act.mk ts.toArray ds).eval s = v) (hx : (Act.mk ts.toArray ds).eval x = u) (hu : Holds W u q size ys) (hown : W.ownsRow base e size v n xs) (hb : base ≤ W.heap.size) (hl : (n + q) * bytes ≤ 140737488355328) (hl2 : n + q ≤ 9223372036854775807)
    (h : ∀ v' w', w'.ownsRow base e size v' (n + q) (xs ++ ys) → Keep (fun i => v.ownBlock = some i) W w' → (v'.ownBlock = v.ownBlock ∨ v'.ownBlock = some W.heap.size) → (k ≠ L → S w') ∧ wpX P md ops Q S L m (l.setIfInBounds k true) ⟨(ts.set d v').toArray, ds⟩ w') : wpX P md ops Q S L (m + 1) l ⟨ts.toArray, ds⟩ W := by
  refine wpX_hard hr hok fun K hK => ?_
  rw [if_pos (by simp [Region.wanted, hgd])]
  refine wp_appA T ho hs hx hu hown hb hl hl2 fun v' w' h1 h2 h5 => ?_
  obtain ⟨h3, h4⟩ := h v' w' h1 h2 h5
  rw [hd]
  refine hK _ _ h3 ?_
  simpa [Act.put] using h4
end
/-- the one cell that was just laid -/
theorem holds_one (w : World) (t : TypeId) (c : Nat) (u : Value) (h : u.oneCell' = true) : Holds (w.alloc (.cells #[u] t)) (.slice (some ⟨w.heap.size, 0, none⟩) 1 c) 1 1 [u] :=
  Holds.new (w := w) (t := t) (k := 1) (size := 1) (c := c) (ys := [u]) rfl (by simpa using h)
end Go.Proofs.Ytgadkelldbibgaa

/- A list of actions in a slice of the call's own. -/
namespace Go.Proofs.Ytgadkelldbibgaa
open Go.ChangeShapes Go.WideShapes Go.ChangeAt Go.RowKit
set_option linter.unusedVariables false

theorem sliceAct : SliceOfS Try.prog 31 27 (.agg #[.int .i64 0, .int .i64 0]) 2 16 := ⟨Try.underlying31, by kernel_rfl, rfl, by omega⟩
/-- the cells of actions -/
def acl (l : List Mc.Act) : List Value := l.flatMap fun a => [.int .i64 a.1, .int .i64 a.2]
theorem acl_app (l l' : List Mc.Act) : acl (l ++ l') = acl l ++ acl l' := by simp [acl]
theorem acl_one (a : Mc.Act) : acl [a] = [.int .i64 a.1, .int .i64 a.2] := rfl
theorem acl_len (l : List Mc.Act) : (acl l).length = l.length * 2 := by
  induction l with
  | nil => rfl
  | cons a l ih =>
    have e : acl (a :: l) = [Value.int .i64 a.1, .int .i64 a.2] ++ acl l := rfl
    rw [e, List.length_append, ih]
    simp only [List.length_cons, List.length_nil]
    omega
theorem acl_one' (l : List Mc.Act) : (acl l).all (·.oneCell') = true := by
  rw [List.all_eq_true]
  intro x hx
  obtain ⟨a, _, ha⟩ := List.mem_flatMap.1 hx
  simp only [List.mem_cons, List.not_mem_nil, or_false] at ha
  rcases ha with rfl | rfl <;> rfl
theorem acl_get (l : List Mc.Act) {k : Nat} (h : k < l.length) : (acl l)[k * 2]? = some (.int .i64 (l.getD k (0, 0)).1) ∧ (acl l)[k * 2 + 1]? = some (.int .i64 (l.getD k (0, 0)).2) := by
  induction l generalizing k with
  | nil => simp at h
  | cons a l ih =>
    have e : acl (a :: l) = .int .i64 a.1 :: .int .i64 a.2 :: acl l := rfl
    cases k with
    | zero => rw [e]; exact ⟨rfl, rfl⟩
    | succ k =>
      have := ih (k := k) (by simpa using h)
      rw [e, show (k + 1) * 2 = k * 2 + 1 + 1 by omega]
      simpa using this
/-- v is a slice of a block from base on, and holds these actions -/
def OwnsA (w : World) (base : Nat) (v : Value) (l : List Mc.Act) : Prop := w.ownsRow base 27 2 v l.length (acl l)
theorem OwnsA.nil (w : World) (base : Nat) : OwnsA w base (.slice none 0 0) [] := World.ownsRow_nil _ _ _ _
theorem OwnsA.slice {w : World} {base : Nat} {v : Value} {l : List Mc.Act} (h : OwnsA w base v l) : ∃ A c, v = .slice A l.length c ∧ l.length ≤ c ∧ Acts w A l := by
  have hx := h
  rcases h.2 with ⟨rfl, h0⟩ | ⟨b, cap, cur, rfl, hb, hg, hc, _⟩
  · exact ⟨none, 0, by rw [h0], by omega, fun h => absurd h (by omega)⟩
  · refine ⟨_, cap, rfl, hc, fun _ => ⟨b, 0, rfl, (Array.getElem?_eq_some_iff.1 hg).1, fun k hk => ?_⟩⟩
    have hc := World.ownsRow.cells hx (g := b) (by simp [Value.ownBlock])
    have e : ∀ j, (⟨b, 0, none⟩ : Addr).add j = ⟨b, 0 + j, none⟩ := fun j => by unfold Addr.add; split <;> simp_all
    obtain ⟨h1, h2⟩ := acl_get l hk
    have c1 := hc _ _ h1
    have c2 := hc _ _ h2
    rw [e] at c1 c2
    exact ⟨c1, c2⟩
theorem OwnsA.lt {w : World} {base : Nat} {v : Value} {l : List Mc.Act} (h : OwnsA w base v l) {b : Nat} (hb : v.ownBlock = some b) : base ≤ b ∧ b < w.heap.size := World.ownsRow.lt h b hb
theorem OwnsA.keep {own : Nat → Prop} {w w' : World} {base : Nat} {v : Value} {l : List Mc.Act} (h : OwnsA w base v l) (hk : Keep own w w') (hn : ∀ b, v.ownBlock = some b → ¬ own b) : OwnsA w' base v l := by
  refine ⟨h.1, ?_⟩
  rcases h.2 with hx | ⟨g, cap, cur, rfl, hb, hg, rest⟩
  · exact .inl hx
  · exact .inr ⟨g, cap, cur, rfl, hb, (hk.block g (Array.getElem?_eq_some_iff.1 hg).1 (hn g rfl)).trans hg, rest⟩
theorem OwnsA.kw {w w' : World} {base : Nat} {v : Value} {l : List Mc.Act} (h : OwnsA w base v l) (hk : KW w w') : OwnsA w' base v l := h.keep (hk.keep (own := fun _ => False)) fun _ _ h => h
theorem OwnsA.base {w : World} {base base' : Nat} {v : Value} {l : List Mc.Act} (h : OwnsA w base v l) (hb : base' ≤ base) : OwnsA w base' v l :=
  ⟨h.1, h.2.imp id fun ⟨g, cap, cur, hv, hg, r⟩ => ⟨g, cap, cur, hv, Nat.le_trans hb hg, r⟩⟩
/-- what an append of another list sees -/
theorem Acts.holds {w : World} {A : Option Addr} {l : List Mc.Act} {c : Nat} (h : Acts w A l) (h0 : l.length = 0 → A = none ∧ c = 0 ∨ ∃ ad, A = some ad) : Holds w (.slice A l.length c) l.length 2 (acl l) := by
  refine ⟨acl_len l, List.all_eq_true.1 (acl_one' l), ?_⟩
  by_cases hl : l.length = 0
  · rcases h0 hl with ⟨rfl, rfl⟩ | ⟨ad, rfl⟩
    · exact .inl ⟨hl, by rw [hl]⟩
    · refine .inr ⟨ad, c, rfl, fun j y hj => ?_⟩
      have := (List.getElem?_eq_some_iff.1 hj).1
      rw [acl_len, hl] at this
      omega
  · obtain ⟨b, off, rfl, hb, hc⟩ := h (by omega)
    refine .inr ⟨_, c, rfl, fun j y hj => ?_⟩
    have hlt := (List.getElem?_eq_some_iff.1 hj).1
    rw [acl_len] at hlt
    have e : (⟨b, off, none⟩ : Addr).add j = ⟨b, off + j, none⟩ := by unfold Addr.add; split <;> simp_all
    rw [e]
    have hk : j / 2 < l.length := by omega
    obtain ⟨g1, g2⟩ := acl_get l hk
    obtain ⟨c1, c2⟩ := hc _ hk
    rcases Nat.mod_two_eq_zero_or_one j with h | h
    · have e1 : j = j / 2 * 2 := by omega
      rw [← e1] at g1 c1
      rw [hj] at g1; cases g1; exact c1
    · have e1 : j = j / 2 * 2 + 1 := by omega
      rw [← e1] at g2
      rw [Nat.add_assoc, ← e1] at c2
      rw [hj] at g2; cases g2; exact c2
theorem OwnsA.holds {w : World} {base : Nat} {v : Value} {l : List Mc.Act} (h : OwnsA w base v l) : Holds w v l.length 2 (acl l) := by
  obtain ⟨A, c, rfl, hc, hA⟩ := h.slice
  refine hA.holds fun h0 => ?_
  rcases h.2 with ⟨hv, _⟩ | ⟨g, cap, cur, hv, _⟩
  · simp only [Value.slice.injEq] at hv; exact .inl ⟨hv.1, hv.2.2⟩
  · simp only [Value.slice.injEq] at hv; exact .inr ⟨_, hv.1⟩
theorem OwnsA.app {w : World} {base : Nat} {v : Value} {l l' : List Mc.Act} (h : w.ownsRow base 27 2 v (l.length + l'.length) (acl l ++ acl l')) : OwnsA w base v (l ++ l') := by
  unfold OwnsA
  rw [List.length_append, acl_app]
  exact h
/-- the length of a slice -/
def vlen : Value → Nat
  | .slice _ n _ => n
  | _ => 0
theorem OwnsA.vlen {w : World} {base : Nat} {v : Value} {l : List Mc.Act} (h : OwnsA w base v l) : vlen v = l.length := by
  obtain ⟨A, c, rfl, _⟩ := h.slice
  rfl
end Go.Proofs.Ytgadkelldbibgaa

/- Contracts of stride.Stride, the reference's Stride, both Totals. -/
namespace Go.Proofs.Ytgadkelldbibgaa
open Go.ChangeShapes Go.WideShapes Go.ChangeAt Go.RowKit
set_option linter.unusedVariables false

theorem ret_i2 {k k2 : IntKind} {a b c : Int} (h : a = b) : Ending.returned (.tuple #[.int k a, .int k2 c]) = .returned (.tuple #[.int k b, .int k2 c]) := by rw [h]
end Go.Proofs.Ytgadkelldbibgaa

/- Contracts of stride.act, nothing, the closures, best, and the reference's Slot. -/
namespace Go.Proofs.Ytgadkelldbibgaa
open Go.ChangeShapes Go.WideShapes Go.ChangeAt Go.RowKit
set_option linter.unusedVariables false

theorem bst_rng (is : Int → Bool) (lt : Int → Int → Bool) (tags : List Int) (n : Nat) : Sd.bst is lt tags n = -1 ∨ ∃ j : Nat, j < n ∧ Sd.bst is lt tags n = j := by
  induction n with
  | zero => exact .inl rfl
  | succ n ih =>
    unfold Sd.bst
    split
    · exact .inr ⟨n, by omega, rfl⟩
    · exact ih.imp id fun ⟨j, hj, e⟩ => ⟨j, by omega, e⟩
/-- one round of best -/
theorem bst_no {is : Int → Bool} {lt : Int → Int → Bool} {tags : List Int} {n : Nat} (h : is (tags.getD n 0) = false) : Sd.bst is lt tags (n + 1) = Sd.bst is lt tags n := by
  show (if _ then _ else _) = _
  rw [h]; rfl
theorem bst_new {is : Int → Bool} {lt : Int → Int → Bool} {tags : List Int} {n : Nat} (h : is (tags.getD n 0) = true) (e : Sd.bst is lt tags n = -1) : Sd.bst is lt tags (n + 1) = n := by
  show (if _ then _ else _) = _
  rw [h, e]; rfl
theorem bst_lt {is : Int → Bool} {lt : Int → Int → Bool} {tags : List Int} {n j : Nat} (h : is (tags.getD n 0) = true) (e : Sd.bst is lt tags n = j) : Sd.bst is lt tags (n + 1) = if lt (tags.getD n 0) (tags.getD j 0) then (n : Int) else j := by
  show (if _ then _ else _) = _
  rw [h, e, Int.toNat_natCast, decide_eq_false (by omega)]; rfl

end Go.Proofs.Ytgadkelldbibgaa

/- Contracts of stride.ahead, back. -/
namespace Go.Proofs.Ytgadkelldbibgaa
open Go.ChangeShapes Go.WideShapes Go.ChangeAt Go.RowKit
set_option linter.unusedVariables false


def actF (u v : Int) : Nat → Value
  | 0 => .int .i64 u
  | _ => .int .i64 v
/-- an answer: an action, or none -/
def AnsP (w : World) (r : Option Mc.Act) (e : Ending) (w' : World) : Prop :=
  e = .returned (.tuple #[.agg #[.int .i64 (r.getD (0, 0)).1, .int .i64 (r.getD (0, 0)).2], .bool r.isSome]) ∧ KW w w'
section
variable {P : Program} {ops : Array Oper} {Q : Exit → Act → World → Prop}
theorem store_act {rest : List Oper} {o : Oper} {a : Act} {W : World} (hgd : o.guard = none) {x y : Operand} (ho : o.op = .store 27 x y) {g : Nat} {u v : Int} {f : Nat → Value} (hx : a.eval x = .pointer (some ⟨g, 0, none⟩)) (hy : a.eval y = .agg #[.int .i64 u, .int .i64 v])
    (hr : W.rowIs g 27 2 f) (h : ∀ W', W'.heap[g]? = some (.cells #[.int .i64 u, .int .i64 v] 27 (0, 0)) → Keep (· = g) W W' → wpList Try.prog ops Q rest (a.put o.dst undef) W') : wpList Try.prog ops Q (o :: rest) a W :=
  wpList_store_is hgd 27 x y ho g 2 27 f (actF u v) #[.int .i64 u, .int .i64 v] hx hy hr (by kernel_rfl) rfl (fun i hi => by
    rcases (show i = 0 ∨ i = 1 by omega) with rfl | rfl <;> rfl) (fun i hi => by
    rcases (show i = 0 ∨ i = 1 by omega) with rfl | rfl <;> rfl) fun W' hrow hk _ => h W' (by rw [whole hrow]; rfl) hk
end

end Go.Proofs.Ytgadkelldbibgaa

/- Contract of stride.back. -/
namespace Go.Proofs.Ytgadkelldbibgaa
open Go.ChangeShapes Go.WideShapes Go.ChangeAt Go.RowKit
set_option linter.unusedVariables false

end Go.Proofs.Ytgadkelldbibgaa

/- Contract of stride.Next. -/
namespace Go.Proofs.Ytgadkelldbibgaa
open Go.ChangeShapes Go.WideShapes Go.ChangeAt Go.RowKit
set_option linter.unusedVariables false

theorem blk_lt {w : World} {b : Nat} {o : Obj} (h : w.heap[b]? = some o) : b < w.heap.size := (Array.getElem?_eq_some_iff.1 h).1
theorem KW.blk {w W : World} {b : Nat} {o : Obj} (h : KW w W) (hlt : b < w.heap.size) (c : w.heap[b]? = some o) : W.heap[b]? = some o := (Below.block h b hlt).trans c
/-- a spot's boxes, and the answer's cell -/
def nx0 (w : World) (a p : Int) (v : Value) : World := (w.alloc (.cells #[.int .i64 a, .int .i64 p, v] 24)).alloc (.cells #[.int .i64 0, .int .i64 0] 27)
theorem nx0_row (w : World) (a p : Int) (v : Value) : (nx0 w a p v).rowIs (w.heap.size + 1) 27 2 (actF 0 0) := by
  unfold nx0
  have h := World.rowIs_alloc (w.alloc (.cells #[.int .i64 a, .int .i64 p, v] 24)) #[.int .i64 0, .int .i64 0] 27 (actF 0 0) fun i hi => by
    rcases (show i = 0 ∨ i = 1 by simp at hi; omega) with rfl | rfl <;> rfl
  simpa using h
theorem nx0_blk (w : World) (a p : Int) (v : Value) : (nx0 w a p v).heap[w.heap.size]? = some (.cells #[.int .i64 a, .int .i64 p, v] 24 (0, 0)) :=
  KW.blk ((KW.refl (w.alloc (.cells #[.int .i64 a, .int .i64 p, v] 24))).alloc _) (by simp) (heap_alloc_new w _)
theorem nx0_kw (w : World) (a p : Int) (v : Value) : KW w (nx0 w a p v) := ((KW.refl w).alloc _).alloc _

/-- the tags of a spot in memory, as they come in -/
def RTz (w : World) (v : Value) (tags : List Int) : Prop := ∃ A c, v = .slice A tags.length c ∧ (A = none → c = 0) ∧ Row1 w A tags.length fun i => .int .i64 (tags.getD i 0)
theorem RTz.kw {w w' : World} {v : Value} {tags : List Int} (h : RTz w v tags) (hk : KW w w') : RTz w' v tags := by
  obtain ⟨A, c, hv, hz, hr⟩ := h
  exact ⟨A, c, hv, hz, hr.k hk⟩
theorem RTz.rt0 {w : World} {v : Value} {tags : List Int} (h : RTz w v tags) : RT0 w v tags := by
  obtain ⟨A, c, hv, _, hr⟩ := h
  exact ⟨A, c, hv, hr⟩
theorem Owns.rtz {w : World} {base : Nat} {v : Value} {tags : List Int} (h : Owns w base 3 v (ints tags)) : RTz w v tags := by
  obtain ⟨A, c, hv, hr⟩ := h.rt.rt0
  refine ⟨A, c, hv, fun hA => ?_, hr⟩
  rcases h.2 with ⟨h1, _⟩ | ⟨g, cap, cur, h1, _⟩
  · rw [hv] at h1; simp only [Value.slice.injEq] at h1; exact h1.2.2
  · rw [hv, hA] at h1; cases h1
end Go.Proofs.Ytgadkelldbibgaa

/- Contract of stride.run: a run of actions, one after the other. -/
namespace Go.Proofs.Ytgadkelldbibgaa
open Go.ChangeShapes Go.WideShapes Go.ChangeAt Go.RowKit
set_option linter.unusedVariables false

/-- what a run leaves -/
def RunP (b : Nat) (v : Value) (m' : Mc.St) (acts : List Mc.Act) (w : World) (e : Ending) (w' : World) : Prop :=
  ∃ vo, e = .returned vo ∧ OwnsA w' w.heap.size vo acts ∧ Mach w' b v m' ∧ Keep (mo b v) w w'
end Go.Proofs.Ytgadkelldbibgaa

/- Contracts of stride.steps, Ahead, List. -/
namespace Go.Proofs.Ytgadkelldbibgaa
open Go.ChangeShapes Go.WideShapes Go.ChangeAt Go.RowKit
set_option linter.unusedVariables false

/-- what steps leaves -/
def StepsP (L n : Nat) (w : World) (e : Ending) (w' : World) : Prop :=
  ∃ b v A c, e = .returned (.tuple #[.slice A (Sd.aA n L).length c, .pointer (some ⟨b, 0, none⟩), .int .i64 0]) ∧ OwnsA w' w.heap.size (.slice A (Sd.aA n L).length c) (Sd.aA n L) ∧ Mach w' b v (Sd.mA L n L) ∧ (∀ i, mo b v i → w.heap.size ≤ i) ∧ (∀ i, (Value.slice A (Sd.aA n L).length c).ownBlock = some i → ¬ mo b v i) ∧ KW w w'
/-- a list of actions, or an error -/
def ActsP (w : World) (acts : List Mc.Act) (c : Int) (e : Ending) (w' : World) : Prop :=
  ∃ A cp, e = .returned (.tuple #[.slice A acts.length cp, .int .i64 c]) ∧ OwnsA w' w.heap.size (.slice A acts.length cp) acts ∧ KW w w'
end Go.Proofs.Ytgadkelldbibgaa

/- Two actions compared. -/
namespace Go.Proofs.Ytgadkelldbibgaa
open Go.ChangeShapes Go.WideShapes Go.ChangeAt Go.RowKit
theorem act_eq (w : World) (x y a b : Int) : (binOp .eql 27 (.agg #[.int .i64 x, .int .i64 y]) (.agg #[.int .i64 a, .int .i64 b])).run Try.prog w = .ok (.bool (x == a && y == b)) w := by
  have u3 := Try.underlying3
  have a3 := Try.isAgg3
  have z3 := Try.sizeOf3
  have hS : Try.prog.underlying 27 = some (.struct (Try.prog.fieldsOf 27)) := by kernel_rfl
  have hp : Try.prog.stoodInHeld 27 = false := by kernel_rfl
  rw [run_eql_struct, show (10000 : Nat) = 9999 + 1 from rfl, run_equalIn_agg w 9999 27 _ _ hS hp]
  simp only [Program.fieldsOf, Try.underlying27]
  go_simp
  by_cases h1 : x = a <;> by_cases h2 : y = b <;> simp [h1, h2]
end Go.Proofs.Ytgadkelldbibgaa

/- Two lists of actions alike; the page's example of layer 31. -/
namespace Go.Proofs.Ytgadkelldbibgaa
open Go.ChangeShapes Go.WideShapes Go.ChangeAt Go.RowKit
set_option linter.unusedVariables false

theorem act_neq (w : World) (x y a b : Int) : (binOp .neq 27 (.agg #[.int .i64 x, .int .i64 y]) (.agg #[.int .i64 a, .int .i64 b])).run Try.prog w = .ok (.bool (!(x == a && y == b))) w := by
  have u3 := Try.underlying3
  have a3 := Try.isAgg3
  have z3 := Try.sizeOf3
  have hS : Try.prog.underlying 27 = some (.struct (Try.prog.fieldsOf 27)) := by kernel_rfl
  have hp : Try.prog.stoodInHeld 27 = false := by kernel_rfl
  rw [run_neq_struct, show (10000 : Nat) = 9999 + 1 from rfl, run_equalIn_agg w 9999 27 _ _ hS hp]
  simp only [Program.fieldsOf, Try.underlying27]
  go_simp
  by_cases h1 : x = a <;> by_cases h2 : y = b <;> simp [h1, h2]
set_option maxHeartbeats 1000000 in
theorem rsame26_any (la lb : List Mc.Act) (A B : Option Addr) (ca cb : Nat) (w : World) (hl : la.length ≤ 1099511627776) (hl2 : lb.length ≤ 1099511627776) (hA : Acts w A la) (hB : Acts w B lb) :
    Calls Try.prog 20 #[.slice A la.length ca, .slice B lb.length cb] w fun e w' => e = .returned (.bool (decide (la = lb))) ∧ KW w w' := by
  by_cases hn : la.length = lb.length
  · have HL := hid hn
    have HX : Hid ((∀ i, i < la.length → la.getD i (0, 0) = lb.getD i (0, 0)) → la = lb) := fun h => List.ext_getElem hn fun i h1 h2 => by have := h i h1; simpa [h1, h2] using this
    have HY : Hid (∀ i, i < la.length → la.getD i (0, 0) ≠ lb.getD i (0, 0) → decide (la = lb) = false) := fun i hi h => decide_eq_false fun e => h (by rw [e])
    have HD : Hid (la = lb → decide (la = lb) = true) := fun h => decide_eq_true h
    have HAc := hid (fun W (h : KW w W) k hk => (hA.kw h).at_ (k := k) hk)
    have HBc := hid (fun W (h : KW w W) k hk => (hB.kw h).at_ (k := k) hk)
    have HE := hid (fun W x y a b => act_neq W x y a b)
    generalize decide (la = lb) = r at *
    rw [← hn] at HBc hl2 ⊢
    clear hA hB hn
    have HK0 := hid (KW.refl w)
    have e9 : ((la.length : Int) != (la.length : Int)) = false := by simp
    have e9' : ((la.length : Nat) != la.length) = false := by simp
    generalize la.length = N at *
    go_enter Try.func20, Try.ntmps20
    go_wp2_with fail
    go_loopw [5] (fun i wr => ∃ k : Nat, k ≤ N ∧ i = .int .i64 k ∧ Hid (∀ i, i < k → la.getD i (0, 0) = lb.getD i (0, 0)) ∧ Hid (KW w wr)) (fun i _ => N - (intOf i).toNat)
    case atStart => exact ⟨0, by omega, rfl, fun i hi => absurd hi (by omega), HK0⟩
    case round =>
      obtain ⟨k, hk, rfl, HI, HK⟩ := hrel
      by_cases hlt : k < N
      · obtain ⟨b1, o1, rfl, hb1, hc1, hc2⟩ := HAc.out wr HK.out k hlt
        obtain ⟨b2, o2, rfl, hb2, hc3, hc4⟩ := HBc.out wr HK.out k hlt
        have L5 : (k : Int) < (N : Int) := by omega
        have HY1 := hid (HY.out k hlt)
        have HI1 : Hid (la.getD k (0, 0) = lb.getD k (0, 0) → ∀ i, i < k + 1 → la.getD i (0, 0) = lb.getD i (0, 0)) := fun h i hi => by
          rcases (show i < k ∨ i = k by omega) with h1 | rfl
          · exact HI.out i h1
          · exact h
        generalize hp : la.getD k (0, 0) = p at *
        generalize hq : lb.getD k (0, 0) = q at *
        clear hp hq
        obtain ⟨x, y⟩ := p
        obtain ⟨a, b⟩ := q
        dsimp only at hc1 hc2 hc3 hc4
        by_cases hxy : x = a ∧ y = b
        · obtain ⟨rfl, rfl⟩ := hxy
          have HI2 := hid (HI1.out rfl)
          have e1 : ∀ W, (binOp .neq 27 (.agg #[.int .i64 x, .int .i64 y]) (.agg #[.int .i64 x, .int .i64 y])).run Try.prog W = .ok (.bool false) W := fun W => by rw [HE.out]; simp
          clear HI1 HY1
          go_wp2_with fail
          go_region
          go_wp2_with fail
          go_roundw
          case rel => exact ⟨k + 1, by omega, by go_num, HI2, HK.out.drew⟩
          case measure => simp [intOf]; omega
        · have e1 : ∀ W, (binOp .neq 27 (.agg #[.int .i64 x, .int .i64 y]) (.agg #[.int .i64 a, .int .i64 b])).run Try.prog W = .ok (.bool true) W := fun W => by
            rw [HE.out]
            have : (x == a && y == b) = false := by
              cases h : (x == a && y == b)
              · rfl
              · simp at h; exact absurd h hxy
            rw [this]; rfl
          have HR := hid (HY1.out (fun h => hxy (by simpa using h)))
          clear HI1 HY1 hxy
          go_wp2_with fail
          go_region
          go_wp2_with fail
          go_ret
          exact ⟨ret_bool HR.out.symm, HK.out.drew⟩
      · obtain rfl : k = N := by omega
        have HR := hid (HD.out (HX.out HI.out))
        clear hlt
        go_wp2_with fail
        go_ret
        exact ⟨ret_bool HR.out.symm, HK.out⟩
  · have d : decide (la = lb) = false := decide_eq_false fun h => hn (by rw [h])
    rw [d]
    have e1 : ((la.length : Int) != (lb.length : Int)) = true := by simp; omega
    have e2 : ((la.length : Nat) != (lb.length : Nat)) = true := by simp; omega
    have HK := hid (KW.refl w)
    clear d hn hA hB
    generalize la.length = N at *
    generalize lb.length = M at *
    go_enter Try.func20, Try.ntmps20
    go_wp2_with fail
    go_ret
    exact ⟨rfl, HK.out⟩
end Go.Proofs.Ytgadkelldbibgaa
