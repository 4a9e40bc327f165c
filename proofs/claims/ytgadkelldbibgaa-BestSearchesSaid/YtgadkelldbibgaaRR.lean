/- Several texts in one. -/
import Derived.Test.YtgadkelldbibgaaBase
import Derived.Lib.SmallJoins
import Derived.Deep.SlicePairs
import Derived.Test.YtgadkelldbibgaaM7
/- From a walk to a row: a law's call that returns true and leaves all that was there as it was meets the row's word. -/
namespace Go.Proofs.Ytgadkelldbibgaa
open Go.ChangeShapes Go.WideShapes Go.ChangeAt Go.RowKit Go.Joins
set_option linter.unusedVariables false

theorem own : ownKnob Try.prog.godebug = none := by kernel_rfl
theorem laidOut : laidOutB Try.prog = true := by kernel_rfl

section
variable {H : Type} {enc : TypeId × Value → H} {P : Program}
theorem trodAll_stays (hl : laidOutB P = true) {W W' : World} (hb : Below W.heap.size W W') : ∀ (ts : List TypeId) (vs : List Value) (ds : List (DataW H)) (p : List MemPlace),
    (ts.all fun t => P.readableRec t && decide (t < P.types.size)) = true → DataW.TrodAll enc P W 0 (fun _ => true) true ts vs ds p → (∀ x ∈ p, x.block < W.heap.size) →
    DataW.TrodAll enc P W' 0 (fun b => decide (b < W.heap.size)) true ts vs ds p := by
  intro ts
  induction ts with
  | nil =>
    intro vs ds p _ h _
    obtain ⟨rfl, rfl, rfl⟩ := trodAll_nil h
    exact trodAll_mk0
  | cons t ts ih =>
    intro vs ds p hr h hlt
    obtain ⟨v, vs', d, ds', q, q', rfl, rfl, rfl, h0, h1⟩ := trodAll_cons h
    simp only [List.all_cons, Bool.and_eq_true, decide_eq_true_eq] at hr
    exact trodAll_cons_mk (Below.trod hl hr.1.1 hr.1.2 h0 hb fun x hx => hlt x (List.mem_append_left _ hx)) (ih _ _ _ hr.2 h1 fun x hx => hlt x (List.mem_append_right _ hx))

theorem law_post {f : Func} {s : ChangeSpec} {b : TypeId} {W W' : World} {args : Array Value} {ds gs : List (DataW H)} {before : List MemPlace} (hl : laidOutB P = true)
    (hr : (f.params.toList.all fun t => P.readableRec t && decide (t < P.types.size)) = true) (hW : DataW.Whole enc P f.params.toList s.vars false W args.toList ds gs before) (hv : s.vars = [])
    (hfn : gs = [] → s.fn H (ds ++ gs) = { results := [.lit (.bool true)], args := ds }) (hres : f.resultTypes = #[b]) (hbool : P.underlying b = some .bool) (hb : Below W.heap.size W W') :
    s.post enc P f false true false false W args (.bool true) W' := by
  have hlt : ∀ x ∈ before, x.block < W.heap.size := fun x hx => hW.lt x hx
  have hW' := hW
  obtain ⟨p, q, hA, hV, rfl, _, _⟩ := hW
  rw [hv] at hV
  obtain ⟨rfl, rfl⟩ := trodVars_none hV
  refine ⟨ds, [], _, [], p, [], hW', ?_, ?_, ?_, hb.frame _, fun h => by cases h⟩
  · rw [hfn rfl, hres]
    exact trodAll_mk1 (shut_bool hbool true)
  · rw [hfn rfl]
    exact trodAll_stays hl hb _ _ _ _ hr hA fun x hx => hlt x (List.mem_append_left _ hx)
  · rw [hfn rfl, hv]
    rfl
end

end Go.Proofs.Ytgadkelldbibgaa

/- A slice of actions that comes in. -/
namespace Go.Proofs.Ytgadkelldbibgaa
open Go.ChangeShapes Go.WideShapes Go.ChangeAt Go.RowKit Go.Joins Go.Deep
set_option linter.unusedVariables false
theorem open_acts {H : Type} {enc : TypeId × Value → H} {W : World} {v : Value} {d : DataW H} {p : List MemPlace} (hs : ∃ a n c, v = .slice a n c) (h : DataW.Trod enc Try.prog W 0 (fun _ => true) true 31 v d p) :
    ∃ (A : Option Addr) (c : Nat) (l : List Mc.Act), v = .slice A l.length c ∧ l.length ≤ 9223372036854775807 ∧ (∀ a ∈ l, (-9223372036854775808 ≤ a.1 ∧ a.1 ≤ 9223372036854775807) ∧ -9223372036854775808 ≤ a.2 ∧ a.2 ≤ 9223372036854775807) ∧ Acts W A l := by
  obtain ⟨a0, n0, c0, rfl⟩ := hs
  obtain ⟨fuel, hf⟩ := h
  rcases open_slice_pairs (P := Try.prog) Try.underlying31 Try.underlying27 (by kernel_rfl) (by kernel_rfl) (by kernel_rfl) (by kernel_rfl) (by kernel_rfl) hf with ⟨hcs, _⟩ | ⟨a, len, cap, m, n, V0, V1, D0, D1, P0, P1, hcs, _, hl, hm, hmm, _, hx⟩
  · simp [Value.cells] at hcs
    obtain ⟨rfl, rfl, rfl⟩ := hcs
    exact ⟨none, 0, [], rfl, by simp, fun k hk => by simp at hk, fun h => by simp at h⟩
  · simp [Value.cells] at hcs
    obtain ⟨rfl, rfl, rfl⟩ := hcs
    unfold maxLen at hm
    have hlen : n0 ≤ m := by rw [hmm]; split <;> omega
    have each : ∀ k, k < n0 → V0 k = .int .i64 (intOf (V0 k)) ∧ V1 k = .int .i64 (intOf (V1 k)) ∧ (-9223372036854775808 ≤ intOf (V0 k) ∧ intOf (V0 k) ≤ 9223372036854775807) ∧ -9223372036854775808 ≤ intOf (V1 k) ∧ intOf (V1 k) ≤ 9223372036854775807 := by
      intro k hk
      obtain ⟨_, _, h0, h1⟩ := hx k (by omega)
      obtain ⟨x, e0, _, wx⟩ := DataW.trod_int Try.underlying3 h0
      obtain ⟨y, e1, _, wy⟩ := DataW.trod_int Try.underlying3 h1
      simp at e0 e1
      rw [e0, e1]
      have bx : -9223372036854775808 ≤ x ∧ x ≤ 9223372036854775807 := by simpa [Lit.wf, IntKind.min, IntKind.max, IntKind.signed, IntKind.bits] using wx
      have yb : -9223372036854775808 ≤ y ∧ y ≤ 9223372036854775807 := by simpa [Lit.wf, IntKind.min, IntKind.max, IntKind.signed, IntKind.bits] using wy
      exact ⟨rfl, rfl, bx, yb⟩
    have hL : ((List.range n0).map fun k => (intOf (V0 k), intOf (V1 k))).length = n0 := by simp
    refine ⟨some a, c0, (List.range n0).map fun k => (intOf (V0 k), intOf (V1 k)), by rw [hL], by rw [hL]; omega, fun x hx => ?_, fun hp => ?_⟩
    · obtain ⟨k, hk, rfl⟩ := List.mem_map.1 hx
      have := each k (by simpa using hk)
      exact ⟨this.2.2.1, this.2.2.2⟩
    · rw [hL] at hp
      obtain ⟨b, off, spot⟩ := a
      have h00 := (hx 0 (by omega)).1
      have hspot : spot = none := by simpa [Addr.add] using World.cell?_spot h00
      subst hspot
      refine ⟨b, off, rfl, World.block_lt_of_cell? W _ (by simpa using h00), fun k hk => ?_⟩
      rw [hL] at hk
      obtain ⟨q0, q1, _, _⟩ := hx k (by omega)
      rw [(each k hk).1] at q0
      rw [(each k hk).2.1] at q1
      rw [Go.WideShapes.add_plain] at q0 q1
      have e : ((List.range n0).map fun k => (intOf (V0 k), intOf (V1 k))).getD k (0, 0) = (intOf (V0 k), intOf (V1 k)) := by simp [hk]
      rw [e]
      exact ⟨q0, by rw [Nat.add_assoc]; exact q1⟩
end Go.Proofs.Ytgadkelldbibgaa
