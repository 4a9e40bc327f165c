/- A region whose calls and allocations come in an open order, taken as a set: one obligation an operation, none an order. 'H': the operations (number, slot); 'φ i v w': what is known of the value v of number i; it outlives what later operations do. -/
import Derived.Test.YtgadkelldbibgaaOrd
namespace Go.Proofs.Ytgadkelldbibgaa
open Go.ChangeShapes Go.WideShapes Go.ChangeAt Go.RowKit
set_option linter.unusedVariables false

/-- the slots of H hold what x tells -/
def upd (H : List (Nat × Nat)) (x : Nat → Value) (ts : List Value) : List Value := H.foldl (fun t e => t.set e.2 (x e.1)) ts
def mark (H : List (Nat × Nat)) (l : Array Bool) : Array Bool := H.foldl (fun l e => l.setIfInBounds e.1 true) l

theorem upd_cons (e : Nat × Nat) (H : List (Nat × Nat)) (x : Nat → Value) (ts : List Value) : upd (e :: H) x ts = upd H x (ts.set e.2 (x e.1)) := rfl
theorem upd_out {H : List (Nat × Nat)} {x : Nat → Value} {d : Nat} {v : Value} : ∀ {ts : List Value}, d ∉ H.map Prod.snd → (upd H x ts).set d v = upd H x (ts.set d v) := by
  induction H with
  | nil => intro ts _; rfl
  | cons e H ih =>
    intro ts h
    simp only [List.map_cons, List.mem_cons, not_or] at h
    rw [upd_cons, upd_cons, ih h.2, List.set_comm _ _ h.1]
theorem upd_cong {H : List (Nat × Nat)} {x y : Nat → Value} : ∀ {ts : List Value}, (∀ e ∈ H, x e.1 = y e.1) → upd H x ts = upd H y ts := by
  induction H with
  | nil => intro ts _; rfl
  | cons e H ih =>
    intro ts h
    rw [upd_cons, upd_cons, h e (by simp), ih fun e' he' => h e' (by simp [he'])]
theorem upd_set {H : List (Nat × Nat)} {x : Nat → Value} {i d : Nat} {v : Value} : ∀ {ts : List Value}, (H.map Prod.fst).Nodup → (H.map Prod.snd).Nodup → (i, d) ∈ H → (upd H x ts).set d v = upd H (fun j => if j = i then v else x j) ts := by
  induction H with
  | nil => intro ts _ _ h; cases h
  | cons e H ih =>
    intro ts h1 h2 h
    simp only [List.map_cons, List.nodup_cons] at h1 h2
    rw [upd_cons, upd_cons]
    rcases List.mem_cons.1 h with rfl | h
    · rw [upd_out h2.1, List.set_set]
      simp only [if_true]
      exact upd_cong fun e he => by
        have : e.1 ≠ i := fun h0 => h1.1 (List.mem_map.2 ⟨e, he, h0⟩)
        rw [if_neg this]
    · have : e.1 ≠ i := fun h0 => h1.1 (List.mem_map.2 ⟨(i, d), h, h0.symm⟩)
      rw [ih h1.2 h2.2 h, if_neg this]
theorem upd_self {H : List (Nat × Nat)} {x : Nat → Value} {ts : List Value} (h : ∀ e ∈ H, ts.set e.2 (x e.1) = ts) : upd H x ts = ts := by
  induction H with
  | nil => rfl
  | cons e H ih => rw [upd_cons, h e (by simp)]; exact ih fun e' he' => h e' (by simp [he'])
theorem set_own (ts : List Value) (d : Nat) (z : Value) : ts.set d (ts.getD d z) = ts := by
  rcases Nat.lt_or_ge d ts.length with h | h
  · rw [show ts.getD d z = ts[d] from by simp [List.getD, h], List.set_getElem_self]
  · rw [List.set_eq_of_length_le h]
theorem mark_get (H : List (Nat × Nat)) : ∀ (l : Array Bool) (j : Nat), (mark H l)[j]? = if j ∈ H.map Prod.fst ∧ j < l.size then some true else l[j]? := by
  induction H with
  | nil => intro l j; simp [mark]
  | cons e H ih =>
    intro l j
    show (mark H (l.setIfInBounds e.1 true))[j]? = _
    rw [ih]
    simp only [Array.size_setIfInBounds, List.map_cons, List.mem_cons]
    by_cases hj : j < l.size
    · by_cases h1 : j ∈ H.map Prod.fst
      · simp [h1, hj]
      · by_cases h2 : j = e.1
        · subst h2; simp [h1, hj]
        · simp [h1, h2, Array.getElem?_setIfInBounds_ne (Ne.symm h2)]
    · simp [hj]

section
variable {P : Program} {ops : Array Oper} {Q : Exit → Act → World → Prop} {md : Region.Mode} {S : World → Prop} {L : Nat}

/-- the looks at the text: H's operations are not yet done, have those slots, wait for what is done or in H; what else is not done waits for all of H -/
def okMany (md : Region.Mode) (ops : Array Oper) (H : List (Nat × Nat)) (l : Array Bool) : Bool :=
  decide (H.map Prod.fst).Nodup && decide (H.map Prod.snd).Nodup &&
  H.all (fun e => !(l.getD e.1 true) && match ops[e.1]? with
    | some o => o.dst == some e.2 && o.after.all fun q => !Region.binds md q || (decide (q.on < e.1) && (l.getD q.on false || (H.map Prod.fst).contains q.on))
    | none => false) &&
  (List.range ops.size).all fun j => l.getD j true || (H.map Prod.fst).contains j || H.all fun e => Region.waitsFor md ops j e.1

theorem okMany_spec {H : List (Nat × Nat)} {l : Array Bool} (h : okMany md ops H l = true) :
    (H.map Prod.fst).Nodup ∧ (H.map Prod.snd).Nodup ∧
    (∀ e ∈ H, l.getD e.1 true = false ∧ ∃ o, ops[e.1]? = some o ∧ o.dst = some e.2 ∧ ∀ q ∈ o.after, Region.binds md q = true → q.on < e.1 ∧ (l.getD q.on false = true ∨ q.on ∈ H.map Prod.fst)) ∧
    (∀ j, j < ops.size → l.getD j true = false → j ∉ H.map Prod.fst → ∀ e ∈ H, Region.waitsFor md ops j e.1 = true) := by
  simp only [okMany, Bool.and_eq_true, decide_eq_true_eq, List.all_eq_true, Bool.not_eq_true', List.mem_range, Bool.or_eq_true, List.contains_iff_mem] at h
  obtain ⟨⟨⟨h1, h2⟩, h3⟩, h4⟩ := h
  refine ⟨h1, h2, fun e he => ?_, fun j hj hl hn e he => ?_⟩
  · obtain ⟨h5, h6⟩ := h3 e he
    refine ⟨h5, ?_⟩
    split at h6
    · rename_i o ho
      simp only [Bool.and_eq_true, beq_iff_eq, Array.all_eq_true_iff_forall_mem, Bool.or_eq_true, Bool.not_eq_true', decide_eq_true_eq, List.contains_iff_mem] at h6
      refine ⟨o, ho, h6.1, fun q hq hb => ?_⟩
      rcases h6.2 q hq with h7 | h7
      · rw [hb] at h7; cases h7
      · exact h7
    · cases h6
  · rcases h4 j hj with (h5 | h5) | h5
    · rw [hl] at h5; cases h5
    · exact absurd h5 hn
    · exact h5 e he

/-- H's operations that are not done -/
def undone (H : List (Nat × Nat)) (l : Array Bool) : List (Nat × Nat) := H.filter fun e => !(l.getD e.1 true)
theorem undone_set {H : List (Nat × Nat)} {l : Array Bool} {e : Nat × Nat} (hn : (H.map Prod.fst).Nodup) (he : e ∈ H) (hl : l.getD e.1 true = false) : (undone H (l.setIfInBounds e.1 true)).length + 1 = (undone H l).length := by
  induction H with
  | nil => cases he
  | cons a H ih =>
    simp only [List.map_cons, List.nodup_cons] at hn
    unfold undone at *
    rcases List.mem_cons.1 he with rfl | he
    · have hsame : H.filter (fun e' => !((l.setIfInBounds e.1 true).getD e'.1 true)) = H.filter (fun e' => !(l.getD e'.1 true)) := by
        apply List.filter_congr
        intro e' he'
        have : e.1 ≠ e'.1 := fun h0 => hn.1 (List.mem_map.2 ⟨e', he', h0.symm⟩)
        rw [getD_set_ne true this]
      have hset : (l.setIfInBounds e.1 true).getD e.1 true = true := by
        have hlt : e.1 < l.size := by
          rcases Nat.lt_or_ge e.1 l.size with h | h
          · exact h
          · simp [Array.getElem?_eq_none h] at hl
        simp [hlt]
      rw [List.filter_cons, List.filter_cons, hsame, hset, hl]
      simp
    · have : e.1 ≠ a.1 := fun h0 => hn.1 (List.mem_map.2 ⟨e, he, h0⟩)
      have := ih hn.2 he
      rw [List.filter_cons, List.filter_cons, getD_set_ne true ‹e.1 ≠ a.1›]
      split <;> (try simp only [List.length_cons]) <;> omega

theorem wpX_many (H : List (Nat × Nat)) (φ : Nat → Value → World → Prop) (W0 : World) (m : Nat) {n : Nat} {l : Array Bool} {ts : List Value} {ds : List Deferred} {w : World} (hn : n = H.length + m) (hok : okMany md ops H l = true) (hsz : l.size = ops.size)
    (hS : ∀ w', KW W0 w' → S w') (hφ : ∀ e ∈ H, ∀ v w w', φ e.1 v w → KW w w' → φ e.1 v w') (hw : KW W0 w)
    (hop : ∀ e ∈ H, ∀ (x : Nat → Value) (w : World), KW W0 w → (∀ e' ∈ H, Region.waitsFor md ops e.1 e'.1 = true → φ e'.1 (x e'.1) w) →
      wpOp P ops Q e.1 (fun a' w' => ∃ v, a' = ⟨((upd H x ts).set e.2 v).toArray, ds⟩ ∧ KW w w' ∧ φ e.1 v w') ⟨(upd H x ts).toArray, ds⟩ w)
    (hend : ∀ (x : Nat → Value) (w : World), KW W0 w → (∀ e ∈ H, φ e.1 (x e.1) w) → wpX P md ops Q S L m (mark H l) ⟨(upd H x ts).toArray, ds⟩ w) :
    wpX P md ops Q S L n l ⟨ts.toArray, ds⟩ w := by
  obtain ⟨hn1, hn2, hall, hrest⟩ := okMany_spec hok
  have key : ∀ (k : Nat) (l' : Array Bool) (x : Nat → Value) (w : World), (undone H l').length = k → l'.size = l.size → (∀ j, j ∉ H.map Prod.fst → l'[j]? = l[j]?) → KW W0 w → (∀ e ∈ H, l'.getD e.1 false = true → φ e.1 (x e.1) w) →
      wpX P md ops Q S L (k + m) l' ⟨(upd H x ts).toArray, ds⟩ w := by
    intro k
    induction k with
    | zero =>
      intro l' x w hk hs hl hw hx
      have hdone : ∀ e ∈ H, l'.getD e.1 true = true := by
        intro e he
        have h0 : undone H l' = [] := List.length_eq_zero_iff.1 hk
        unfold undone at h0
        rw [List.filter_eq_nil_iff] at h0
        simpa using h0 e he
      have hlt : ∀ e ∈ H, e.1 < l'.size := fun e he => by
        obtain ⟨_, o, ho, _⟩ := hall e he
        have := (Array.getElem?_eq_some_iff.1 ho).1
        omega
      have hd2 : ∀ e ∈ H, l'.getD e.1 false = true := fun e he => by
        have h1 := hdone e he
        have h2 := hlt e he
        simp [h2] at h1 ⊢
        exact h1
      have e : l' = mark H l := by
        apply Array.ext_getElem?
        intro j
        rw [mark_get]
        split
        · rename_i h
          obtain ⟨e, he, rfl⟩ := List.mem_map.1 h.1
          have h1 := hdone e he
          have h2 := hlt e he
          simp [h2] at h1 ⊢
          exact h1
        · rename_i h
          by_cases hj : j ∈ H.map Prod.fst
          · have : ¬ j < l.size := fun h0 => h ⟨hj, h0⟩
            rw [Array.getElem?_eq_none (by omega), Array.getElem?_eq_none (by omega)]
          · exact hl j hj
      rw [Nat.zero_add, e]
      exact hend x w hw fun e he => hx e he (hd2 e he)
    | succ k ih =>
      intro l' x w hk hs hl hw hx
      have hne : undone H l' ≠ [] := fun h0 => by rw [h0] at hk; cases hk
      rw [Nat.succ_add]
      have hmem : ∀ i ∈ Region.ready md ops l', ∃ d, (i, d) ∈ H := by
        intro i hi
        obtain ⟨hi0, o, ho, hdep⟩ := mem_ready.1 hi
        by_cases hiH : i ∈ H.map Prod.fst
        · obtain ⟨e, he, rfl⟩ := List.mem_map.1 hiH
          exact ⟨e.2, he⟩
        · exfalso
          have hi1 : l.getD i true = false := by
            have := hl i hiH
            rw [Array.getD_eq_getD_getElem?] at hi0 ⊢
            rw [← this]; exact hi0
          obtain ⟨e, he⟩ := List.exists_mem_of_ne_nil _ hne
          unfold undone at he
          rw [List.mem_filter] at he
          have hu := hrest i (Array.getElem?_eq_some_iff.1 ho).1 hi1 hiH e he.1
          obtain ⟨o', ho', q, hq, hb, hon⟩ := Region.waitsFor_spec hu
          rw [ho] at ho'
          cases ho'
          have h5 := hdep q hq hb
          rw [hon] at h5
          have h6 : l'.getD e.1 true = false := by simpa using he.2
          rw [getD_both h6] at h5
          cases h5
      refine ⟨fun h0 => ?_, fun i hi => ?_⟩
      · -- the least that is not done is ready
        exfalso
        have hleast : ∃ e ∈ undone H l', ∀ e' ∈ undone H l', e.1 ≤ e'.1 := by
          clear hk ih
          revert hne
          generalize undone H l' = U
          intro hne
          induction U with
          | nil => exact absurd rfl hne
          | cons a U ihU =>
            cases U with
            | nil => exact ⟨a, by simp, by simp⟩
            | cons b U =>
              obtain ⟨e, he, hle⟩ := ihU (by simp)
              by_cases hae : a.1 ≤ e.1
              · exact ⟨a, by simp, fun e' he' => by
                  rcases List.mem_cons.1 he' with rfl | he'
                  · exact Nat.le_refl _
                  · exact Nat.le_trans hae (hle e' he')⟩
              · exact ⟨e, List.mem_cons_of_mem _ he, fun e' he' => by
                  rcases List.mem_cons.1 he' with rfl | he'
                  · omega
                  · exact hle e' he'⟩
        obtain ⟨e, he, hle⟩ := hleast
        have heH := (List.mem_filter.1 he).1
        have he0 : l'.getD e.1 true = false := by simpa using (List.mem_filter.1 he).2
        obtain ⟨_, o, ho, _, hdep⟩ := hall e heH
        have : e.1 ∈ Region.ready md ops l' := by
          refine mem_ready.2 ⟨he0, o, ho, fun q hq hb => ?_⟩
          obtain ⟨hlt, hor⟩ := hdep q hq hb
          by_cases hqH : q.on ∈ H.map Prod.fst
          · obtain ⟨e', he', hqe⟩ := List.mem_map.1 hqH
            by_cases hd : l'.getD q.on true = false
            · have h7 : e' ∈ undone H l' := by unfold undone; rw [List.mem_filter]; exact ⟨he', by rw [hqe, hd]; rfl⟩
              have := hle e' h7
              omega
            · have h8 : l'.getD q.on true = true := by simpa using hd
              obtain ⟨_, o', ho', _⟩ := hall e' he'
              have h9 := (Array.getElem?_eq_some_iff.1 ho').1
              have h10 : q.on < l'.size := by omega
              simp [h10] at h8 ⊢
              exact h8
          · rcases hor with hor | hor
            · have := hl q.on hqH
              rw [Array.getD_eq_getD_getElem?] at hor ⊢
              rw [this]; exact hor
            · exact absurd hor hqH
        rw [h0] at this
        cases this
      · obtain ⟨d, hd⟩ := hmem i hi
        obtain ⟨hi0, o, ho, hdep⟩ := mem_ready.1 hi
        refine wpOp_mono ?_ (hop (i, d) hd x w hw fun e' he' hwf => ?_)
        · rintro a' w' ⟨v, rfl, hk', hv⟩
          have hw' : KW W0 w' := hw.trans (Below.mono (show Below _ _ _ from hk') hw.size)
          refine ⟨fun _ => hS w' hw', ?_⟩
          rw [upd_set hn1 hn2 hd]
          refine ih _ _ w' (by have := undone_set hn1 hd hi0; simp only at this; omega) (by simpa using hs) (fun j hj => ?_) hw' (fun e he hl' => ?_)
          · have : i ≠ j := fun h0 => hj (h0 ▸ List.mem_map.2 ⟨(i, d), hd, rfl⟩)
            rw [Array.getElem?_setIfInBounds_ne this]
            exact hl j hj
          · by_cases hei : e.1 = i
            · rw [if_pos hei, hei]; exact hv
            · rw [if_neg hei]
              refine hφ e he _ _ _ (hx e he ?_) hk'
              rwa [getD_set_ne false (Ne.symm hei)] at hl'
        · obtain ⟨o', ho', q, hq, hb, hon⟩ := Region.waitsFor_spec hwf
          rw [ho] at ho'
          cases ho'
          have h5 := hdep q hq hb
          rw [hon] at h5
          exact hx e' he' h5
  have hx0 : ∃ x : Nat → Value, upd H x ts = ts := by
    refine ⟨fun i => ts.getD (((ops[i]?).bind (·.dst)).getD 0) undef, upd_self fun e he => ?_⟩
    obtain ⟨_, o, ho, hdst, _⟩ := hall e he
    simp only [ho, Option.bind_some, hdst, Option.getD_some]
    exact set_own _ _ _
  obtain ⟨x, hx⟩ := hx0
  have hk : (undone H l).length = H.length := by
    unfold undone
    rw [List.filter_eq_self.2 fun e he => by rw [(hall e he).1]; rfl]
  have := key H.length l x w hk rfl (fun _ _ => rfl) hw (fun e he hl => by
    have h1 := getD_both (hall e he).1
    rw [h1] at hl
    cases hl)
  rw [hx, ← hn] at this
  exact this

/-- one operation of the set -/
theorem wpX_op {φ : Value → World → Prop} {k d : Nat} {o : Oper} {ts : List Value} {ds : List Deferred} {w : World} {tv : List Value} (ho : ops[k]? = some o) (htv : ts = tv)
    (h : ∀ K : Act → World → Prop, (∀ v w', KW w w' → φ v w' → K ⟨(tv.set d v).toArray, ds⟩ w') →
      if Region.wanted o (yielded ops tv.toArray) = true then Oper.wp P o ⟨tv.toArray, ds⟩ w K Q else K (Act.put ⟨tv.toArray, ds⟩ o.dst undef) w) :
    wpOp P ops Q k (fun a' w' => ∃ v, a' = ⟨(ts.set d v).toArray, ds⟩ ∧ KW w w' ∧ φ v w') ⟨ts.toArray, ds⟩ w := by
  subst htv
  have h1 := h (fun a' w' => ∃ v, a' = ⟨(ts.set d v).toArray, ds⟩ ∧ KW w w' ∧ φ v w') (fun v w' h2 h3 => ⟨v, rfl, h2, h3⟩)
  unfold wpOp
  simp only [ho]
  split
  · rename_i hw
    rw [if_pos hw] at h1
    exact .inl h1
  · rename_i hw
    rwa [if_neg hw] at h1
end
end Go.Proofs.Ytgadkelldbibgaa
