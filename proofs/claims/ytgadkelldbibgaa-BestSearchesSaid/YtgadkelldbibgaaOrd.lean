/- A region that draws its order, walked one operation at a time: what yields the same in every world that meets S is taken as soon as it may come up; what writes, makes memory or calls comes when nothing else may. Behind an operation S is shown anew, but behind number L (the last one, which waits for all that are taken). -/
import Derived.Test.YtgadkelldbibgaaBase
import Derived.OrdersHeld
import Derived.StillTail
namespace Go.Proofs.Ytgadkelldbibgaa
open Go.ChangeShapes Go.WideShapes Go.ChangeAt Go.RowKit
set_option linter.unusedVariables false

section
variable {P : Program} {ops : Array Oper} {Q : Exit → Act → World → Prop} {md : Region.Mode} {S : World → Prop} {L : Nat}

/-- whichever order is drawn; S behind each operation but L -/
def wpX (P : Program) (md : Region.Mode) (ops : Array Oper) (Q : Exit → Act → World → Prop) (S : World → Prop) (L : Nat) : Nat → Array Bool → Act → World → Prop
  | 0, l, a, w => Region.ready md ops l = [] ∧ Q .normal a w
  | n + 1, l, a, w => (Region.ready md ops l = [] → Q .normal a w) ∧
      ∀ i ∈ Region.ready md ops l, wpOp P ops Q i (fun a' w' => (i ≠ L → S w') ∧ wpX P md ops Q S L n (l.setIfInBounds i true) a' w') a w

theorem wpX_any : ∀ (n : Nat) (l : Array Bool) (a : Act) (w : World), wpX P md ops Q S L n l a w → wpAny P md ops Q n l a w := by
  intro n
  induction n with
  | zero => exact fun _ _ _ h => h
  | succ n ih => exact fun l a w h => ⟨h.1, fun i hi => wpOp_mono (fun a' w' hx => ih _ a' w' hx.2) (h.2 i hi)⟩

theorem wpX_region {id : Nat} {a : Act} {w : World} (hm : P.follows .mixedOrders = true) (h : wpX P .any ops Q S L ops.size (Array.replicate ops.size false) a w.drew) :
    (Code.region id ops true).wp P Q a w := wp_region_any hm (wpX_any _ _ _ _ h)

/-- the looks at the text: may be taken now; L waits for it -/
def xB (md : Region.Mode) (ops : Array Oper) (l : Array Bool) (L i : Nat) : Bool :=
  Region.noSelect ops && Region.free md ops l i && (Region.ready md ops l).contains i && (decide (ops.size ≤ L) || Region.waitsFor md ops L i)

theorem wpX_first {i : Nat} {o : Oper} {v : Value} (ho : ops[i]? = some o) (hsel : ∀ (j : Nat) (o' : Oper) cs b, ops[j]? = some o' → o'.op ≠ .select cs b)
    (hQ : ∀ c a w, Q (.panic c) (a.put o.dst v) w → Q (.panic c) a w) (hL : ∀ l, L ∈ Region.ready md ops l → l.getD i true = false → False) :
    ∀ (n : Nat) (l : Array Bool) (a : Act) (w : World),
      (∀ j oj, ops[j]? = some oj → j ≠ i → l.getD j true = false → (∀ e ∈ oj.after, Region.binds md e = true → e.on ≠ i) → o.apart ops oj = true) →
      i ∈ Region.ready md ops l → YieldsIf P ops S o v a → S w → wpX P md ops Q S L n (l.setIfInBounds i true) (a.put o.dst v) w → wpX P md ops Q S L (n + 1) l a w := by
  intro n
  induction n with
  | zero =>
    intro l a w _ hr hy hS H
    refine ⟨fun h0 => (by rw [h0] at hr; cases hr), fun j hj => ?_⟩
    by_cases e : j = i
    · subst e
      exact hy.wpOp ho hS ⟨fun _ => hS, H⟩
    · have h0 := ready_mono hj e
      rw [H.1] at h0
      cases h0
  | succ n ih =>
    intro l a w hap hr hy hS H
    have hi0 := (mem_ready.1 hr).1
    refine ⟨fun h0 => (by rw [h0] at hr; cases hr), fun j hj => ?_⟩
    by_cases e : j = i
    · subst e
      exact hy.wpOp ho hS ⟨fun _ => hS, H⟩
    · obtain ⟨hj0, oj, hoj, hall⟩ := mem_ready.1 hj
      have hno : ∀ x ∈ oj.after, Region.binds md x = true → x.on ≠ i := by
        intro x hx hb hon
        have h1 := hall x hx hb
        rw [hon, getD_both hi0] at h1
        cases h1
      have hjL : j ≠ L := fun h0 => hL l (h0 ▸ hj) hi0
      have hK := wpOp_putIf hoj (hap j oj hoj e hj0 hno) (fun cs b => hsel i o cs b ho) (fun cs b => hsel j oj cs b hoj) hQ hy (H.2 j (ready_mono hj e))
      refine wpOp_mono (fun a' w' hx => ⟨fun _ => hx.2.1 hjL, ih _ a' w' ?_ (ready_mono hr (Ne.symm e)) hx.1 (hx.2.1 hjL) ?_⟩) hK
      · intro k ok hk hki hun hnk
        refine hap k ok hk hki ?_ hnk
        by_cases hjk : j = k
        · subst hjk; exact hj0
        · rwa [getD_set_ne true hjk] at hun
      · rw [Array.setIfInBounds_comm _ _ e]
        exact hx.2.2

theorem wpX_soft {i : Nat} {o : Oper} {v : Value} {n : Nat} {l : Array Bool} {a : Act} {w : World} (ho : ops[i]? = some o) (hB : xB md ops l L i = true)
    (hQ : ∀ c a w, Q (.panic c) (a.put o.dst v) w → Q (.panic c) a w) (hy : YieldsIf P ops S o v a) (hS : S w)
    (h : wpX P md ops Q S L n (l.setIfInBounds i true) (a.put o.dst v) w) : wpX P md ops Q S L (n + 1) l a w := by
  simp only [xB, Bool.and_eq_true, Bool.or_eq_true, decide_eq_true_eq] at hB
  obtain ⟨⟨⟨h1, h2⟩, h3⟩, h4⟩ := hB
  refine wpX_first ho (Region.noSelect_spec h1) hQ (fun l' hr hl => ?_) n l a w (Region.free_spec ho h2) (by simpa using h3) hy hS h
  rcases h4 with h4 | h4
  · obtain ⟨_, oL, hoL, _⟩ := mem_ready.1 hr
    have := (Array.getElem?_eq_some_iff.1 hoL).1
    omega
  · obtain ⟨oL, hoL, x, hx, hb, hon⟩ := Region.waitsFor_spec h4
    obtain ⟨_, oL', hoL', hall⟩ := mem_ready.1 hr
    have e : oL' = oL := Option.some.inj (hoL'.symm.trans hoL)
    subst e
    have h5 := hall x hx hb
    rw [hon, getD_both hl] at h5
    cases h5

/-- the same, the state written out: what it leaves is written into its slot -/
theorem wpX_take {i d : Nat} {o : Oper} {v : Value} {n : Nat} {l : Array Bool} {ts : List Value} {ds : List Deferred} {w : World} (ho : ops[i]? = some o) (hd : o.dst = some d) (hB : xB md ops l L i = true)
    (hQ : ∀ c a w, Q (.panic c) (a.put (some d) v) w → Q (.panic c) a w) (hy : YieldsIf P ops S o v ⟨ts.toArray, ds⟩) (hS : S w)
    (h : wpX P md ops Q S L n (l.setIfInBounds i true) ⟨(ts.set d v).toArray, ds⟩ w) : wpX P md ops Q S L (n + 1) l ⟨ts.toArray, ds⟩ w := by
  refine wpX_soft ho hB (by rw [hd]; exact hQ) hy hS ?_
  rw [hd]
  simpa [Act.put] using h

theorem wpX_hard {k : Nat} {o : Oper} {n : Nat} {l : Array Bool} {a : Act} {w : World} (hr : Region.ready md ops l = [k]) (ho : ops[k]? = some o)
    (h : ∀ K : Act → World → Prop, (∀ a' w', (k ≠ L → S w') → wpX P md ops Q S L n (l.setIfInBounds k true) a' w' → K a' w') →
      if Region.wanted o (yielded ops a.tmps) = true then Oper.wp P o a w K Q else K (a.put o.dst undef) w) : wpX P md ops Q S L (n + 1) l a w := by
  refine ⟨fun h0 => (by rw [hr] at h0; cases h0), fun i hi => ?_⟩
  rw [hr] at hi
  obtain rfl : i = k := by simpa using hi
  have h1 := h (fun a' w' => (i ≠ L → S w') ∧ wpX P md ops Q S L n (l.setIfInBounds i true) a' w') (fun a' w' hS hx => ⟨hS, hx⟩)
  unfold wpOp
  simp only [ho]
  split
  · rename_i hw
    rw [if_pos hw] at h1
    exact .inl h1
  · rename_i hw
    rwa [if_neg hw] at h1

theorem wpX_done {n : Nat} {l : Array Bool} {a : Act} {w : World} (hr : Region.ready md ops l = []) (h : Q .normal a w) : wpX P md ops Q S L n l a w := by
  cases n with
  | zero => exact ⟨hr, h⟩
  | succ n => exact ⟨fun _ => h, by rw [hr]; simp⟩
end
end Go.Proofs.Ytgadkelldbibgaa
