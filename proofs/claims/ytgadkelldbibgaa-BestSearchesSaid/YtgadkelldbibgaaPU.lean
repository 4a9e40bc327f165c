/- Several texts in one. -/
import Derived.Test.YtgadkelldbibgaaPlainT
/- The document's way to the next action (stride). No program. -/
namespace Go.Proofs.Ytgadkelldbibgaa
set_option linter.unusedVariables false
namespace Sd
open Mc (St Act)
theorem off_ref {d t : Int} {tags : List Int} (ht : 0 ≤ t) (h1 : t % d ≠ 0) (h2 : 0 ≤ slot tags t) (h3 : ∀ x : Int, 0 ≤ x → x < t → ¬ (x % d ≠ 0 ∧ 0 ≤ slot tags x)) : off d tags = slot tags t := by
  obtain ⟨q1, q2⟩ := slot_nn h2
  have hb : bad d t = true := by unfold bad; rw [decide_eq_true h1, decide_eq_true ht]; rfl
  rcases off_cases d tags with ⟨_, h⟩ | ⟨i, hi, e, g1, g2, g3⟩
  · have := h _ q1; rw [q2, hb] at this; cases this
  · have g4 := g2 _ q1 (by rw [q2]; exact hb)
    rw [q2] at g4
    unfold bad at g1
    simp only [Bool.and_eq_true, decide_eq_true_eq] at g1
    have g5 : tags.getD i 0 = t := by
      apply Classical.byContradiction
      intro hne
      refine h3 (tags.getD i 0) g1.1 (by omega) ⟨g1.2, ?_⟩
      rcases slot_cases tags (tags.getD i 0) with ⟨_, h⟩ | ⟨j, _, h, _⟩
      · exact absurd rfl (h i hi)
      · omega
    rw [e]
    exact (slot_is hi g5 fun j hj => by rw [← g5]; exact g3 j hj).symm
theorem off_none {d k : Int} {tags : List Int} (hk : ∀ i, i < tags.length → tags.getD i 0 ≤ k) (h3 : ∀ x : Int, 0 ≤ x → x ≤ k → ¬ (x % d ≠ 0 ∧ 0 ≤ slot tags x)) : off d tags = -1 := by
  rcases off_cases d tags with ⟨h, _⟩ | ⟨i, hi, e, g1, g2, g3⟩
  · exact h
  · unfold bad at g1
    simp only [Bool.and_eq_true, decide_eq_true_eq] at g1
    refine absurd ?_ (h3 (tags.getD i 0) g1.1 (hk i hi))
    refine ⟨g1.2, ?_⟩
    rcases slot_cases tags (tags.getD i 0) with ⟨_, h⟩ | ⟨j, _, h, _⟩
    · exact absurd rfl (h i hi)
    · omega
/-- the greatest tag -/
def tmx (tags : List Int) : Nat → Int
  | 0 => -1
  | i + 1 => max (tmx tags i) (tags.getD i 0)
theorem tmx_ge (tags : List Int) (n : Nat) : -1 ≤ tmx tags n ∧ ∀ i, i < n → tags.getD i 0 ≤ tmx tags n := by
  induction n with
  | zero => exact ⟨Int.le_refl _, fun i h => absurd h (by omega)⟩
  | succ n ih =>
    refine ⟨by simp only [tmx]; omega, fun i hi => ?_⟩
    rcases (show i < n ∨ i = n by omega) with h | rfl
    · have := ih.2 i h; simp only [tmx]; omega
    · simp only [tmx]; omega
theorem tmx_le (tags : List Int) (x : Int) (hx : -1 ≤ x) (n : Nat) (h : ∀ i, i < n → tags.getD i 0 ≤ x) : tmx tags n ≤ x := by
  induction n with
  | zero => exact hx
  | succ n ih => have := ih fun i hi => h i (by omega); have := h n (by omega); simp only [tmx]; omega
theorem tmx_base (tags : List Int) : (base tags = -1 ∧ tmx tags tags.length = -1) ∨ ∃ j : Nat, j < tags.length ∧ base tags = j ∧ 0 ≤ tags.getD j 0 ∧ tmx tags tags.length = tags.getD j 0 ∧ slot tags (tags.getD j 0) = j := by
  rcases base_cases tags with ⟨h1, h2⟩ | ⟨j, hj, h1, h2, h3, h4⟩
  · refine .inl ⟨h1, ?_⟩
    have a := (tmx_ge tags tags.length).1
    have b := tmx_le tags (-1) (by omega) tags.length fun i hi => by have := h2 i hi; omega
    omega
  · refine .inr ⟨j, hj, h1, h2, ?_, slot_is hj rfl fun i hi e => by have := h4 i hi; omega⟩
    have a := (tmx_ge tags tags.length).2 j hj
    have b := tmx_le tags (tags.getD j 0) (by omega) tags.length h3
    omega
def nxA (k : Int) (ended : Bool) (a : Int) (tags : List Int) : Option Act :=
  if a < k then some (1, k - a)
  else if 0 ≤ off (sd k tags.length) tags then some (4, off (sd k tags.length) tags)
  else if k % sd k tags.length = 0 ∧ slot tags k < 0 ∧ 0 ≤ slot tags (-1) then some (2, slot tags (-1))
  else if ended = true then some (5, 0) else none
def nxB (a p : Int) (tags : List Int) : Option Act :=
  if 0 ≤ base tags ∧ p ≤ tags.getD (base tags).toNat 0 then some (4, base tags)
  else if p = 0 then none
  else if a = p - 1 then some (7, 0)
  else if 0 ≤ base tags ∧ (a < tags.getD (base tags).toNat 0 ∨ p ≤ a) then some (3, base tags)
  else if a < p then some (1, p - 1 - a)
  else none
open Classical in
theorem nx_eq (k : Int) (ended : Bool) (a p : Int) (tags : List Int) : nx k ended a p tags = if ¬ okS k a p tags then none else if p < 0 then nxA k ended a tags else nxB a p tags := rfl
theorem nxB_top {a p : Int} {tags : List Int} (hp : 0 ≤ p) : nxB a p tags =
    if p ≤ tmx tags tags.length then some (4, slot tags (tmx tags tags.length))
    else if p = 0 then none
    else if a = p - 1 then some (7, 0)
    else if 0 ≤ tmx tags tags.length ∧ (a < tmx tags tags.length ∨ p ≤ a) then some (3, slot tags (tmx tags tags.length))
    else if a < p then some (1, p - 1 - a)
    else none := by
  unfold nxB
  rcases tmx_base tags with ⟨h1, h2⟩ | ⟨j, hj, h1, h2, h3, h4⟩
  · rw [h1, h2]
    simp only [show ¬ (0 : Int) ≤ -1 by omega, false_and, if_false, show ¬ p ≤ -1 by omega]
  · rw [h3, h4, h1, Int.toNat_natCast]
    generalize tags.getD j 0 = x at *
    by_cases c : p ≤ x
    · rw [if_pos c, if_pos ⟨by omega, c⟩]
    · rw [if_neg c, if_neg (fun h => c h.2)]
      by_cases c2 : a < x ∨ p ≤ a
      · rw [if_pos (c := 0 ≤ (j : Int) ∧ _) ⟨by omega, c2⟩, if_pos (c := 0 ≤ x ∧ _) ⟨by omega, c2⟩]
      · rw [if_neg (c := 0 ≤ (j : Int) ∧ _) (fun h => c2 h.2), if_neg (c := 0 ≤ x ∧ _) (fun h => c2 h.2)]
end Sd
end Go.Proofs.Ytgadkelldbibgaa

/- What a stride's schedule comes to: its kinds, its total, its bound. No program. -/
namespace Go.Proofs.Ytgadkelldbibgaa
set_option linter.unusedVariables false
namespace Sd
open Mc (St Act)
/-- how many actions are of a kind -/
def cnk (c : Int) : List Act → Int
  | [] => 0
  | a :: l => (if a.1 = c then 1 else 0) + cnk c l
theorem cnk_app (c : Int) (l l' : List Act) : cnk c (l ++ l') = cnk c l + cnk c l' := by
  induction l with
  | nil => simp [cnk]
  | cons a l ih => simp only [List.cons_append, cnk, ih]; omega
theorem cnk_kd (c : Int) (l : List Act) : ∀ k, k ≤ l.length → Mc.kd l c k = cnk c (l.take k) := by
  intro k
  induction k with
  | zero => intro _; simp [Mc.kd, cnk]
  | succ k ih =>
    intro h
    rw [Mc.kd, ih (by omega), List.take_succ_eq_append_getElem (by omega), cnk_app]
    simp [cnk, List.getD_eq_getElem?_getD, List.getElem?_eq_getElem (show k < l.length by omega)]
theorem cnk_all (c : Int) (l : List Act) : Mc.kd l c l.length = cnk c l := by rw [cnk_kd c l l.length (Nat.le_refl _), List.take_length]
theorem cnk_zero {c : Int} {l : List Act} (h : ∀ a ∈ l, a.1 ≠ c) : cnk c l = 0 := by
  induction l with
  | nil => rfl
  | cons a l ih => simp only [cnk, if_neg (h a (by simp)), ih fun b hb => h b (List.mem_cons_of_mem _ hb)]; rfl
theorem frA_kind (d : Int) (tags : List Int) (t : Nat) : ∀ a ∈ frA d tags t, a.1 = 4 := by
  induction t with
  | zero => intro a h; simp [frA] at h
  | succ t ih =>
    intro a h
    rw [frA_succ] at h
    rcases List.mem_append.1 h with h | h
    · exact ih a h
    · split at h
      · simp only [List.mem_singleton] at h; rw [h]
      · simp at h
theorem gA_kind (tags : List Int) (k : Nat) : ∀ a ∈ gA tags k, a.1 = 4 ∨ a.1 = 2 := by
  intro a h
  unfold gA at h
  rcases List.mem_append.1 h with h | h
  · exact .inl (frA_kind _ _ _ a h)
  · split at h
    · simp only [List.mem_singleton] at h; rw [h]; exact .inr rfl
    · simp at h
theorem rA_kind (n k : Nat) : ∀ a ∈ rA n k, a.1 = 4 ∨ a.1 = 2 ∨ a.1 = 1 := by
  intro a h
  cases k with
  | zero => exact (gA_kind _ _ a h).imp id .inl
  | succ k =>
    rcases List.mem_cons.1 (show a ∈ (1, 1) :: gA (aT n k) (k + 1) from h) with h | h
    · rw [h]; exact .inr (.inr rfl)
    · exact (gA_kind _ _ a h).imp id .inl
theorem aA_kind (n k : Nat) : ∀ a ∈ aA n k, a.1 = 4 ∨ a.1 = 2 ∨ a.1 = 1 := by
  induction k with
  | zero => exact rA_kind n 0
  | succ k ih =>
    intro a h
    rcases List.mem_append.1 (show a ∈ aA n k ++ rA n (k + 1) from h) with h | h
    · exact ih a h
    · exact rA_kind n (k + 1) a h
theorem bR_cnk (d : Int) (T : List Int) (i : Nat) : cnk 5 (bR d T i) = 0 ∧ cnk 6 (bR d T i) = 0 ∧ cnk 7 (bR d T i) = 1 := by
  unfold bR
  by_cases c : (i : Int) % d = 0
  · rw [if_pos c, if_neg (by omega)]
    simp [cnk]
  · rw [if_neg c]
    split <;> simp [cnk]
theorem bD_cnk (d : Int) (T : List Int) (l : Nat) : cnk 5 (bD d T l) = 0 ∧ cnk 6 (bD d T l) = 0 ∧ cnk 7 (bD d T l) = l := by
  induction l with
  | zero => simp [bD, cnk]
  | succ l ih =>
    have h := bR_cnk d T l
    show cnk 5 (bR d T l ++ bD d T l) = 0 ∧ cnk 6 (bR d T l ++ bD d T l) = 0 ∧ cnk 7 (bR d T l ++ bD d T l) = _
    rw [cnk_app, cnk_app, cnk_app]
    omega
theorem lA_cnk (n l : Nat) : cnk 5 (lA n l) = 1 ∧ cnk 6 (lA n l) = 0 ∧ cnk 7 (lA n l) = l := by
  have h := bD_cnk (sd l n) (aT n l) l
  have h5 : cnk 5 (aA n l) = 0 := cnk_zero fun a ha => by rcases aA_kind n l a ha with e | e | e <;> rw [e] <;> decide
  have h6 : cnk 6 (aA n l) = 0 := cnk_zero fun a ha => by rcases aA_kind n l a ha with e | e | e <;> rw [e] <;> decide
  have h7 : cnk 7 (aA n l) = 0 := cnk_zero fun a ha => by rcases aA_kind n l a ha with e | e | e <;> rw [e] <;> decide
  have e : ∀ c, cnk c (lA n l) = cnk c (aA n l) + ((if (5 : Int) = c then 1 else 0) + (cnk c (if (l : Int) % sd l n = 0 then [(4, slot (aT n l) l)] else []) + cnk c (bD (sd l n) (aT n l) l))) := fun c => by
    show cnk c (aA n l ++ bL (sd l n) (aT n l) l) = _
    rw [cnk_app]
    unfold bL
    simp only [cnk, cnk_app]
  have e2 : ∀ c : Int, c ≠ 4 → cnk c (if (l : Int) % sd l n = 0 then [((4 : Int), slot (aT n l) l)] else []) = 0 := fun c hc => by
    split
    · simp [cnk, Ne.symm hc]
    · rfl
  rw [e 5, e 6, e 7, h5, h6, h7, e2 5 (by decide), e2 6 (by decide), e2 7 (by decide), h.1, h.2.1, h.2.2]
  simp
theorem cnt_set (tags : List Int) (k : Nat) (x : Int) (hk : k < tags.length) : (Mc.cnt (tags.set k x) : Int) + (if 0 ≤ tags.getD k 0 then 1 else 0) = Mc.cnt tags + (if 0 ≤ x then 1 else 0) := by
  induction tags generalizing k with
  | nil => simp at hk
  | cons y l ih =>
    cases k with
    | zero => simp only [List.set_cons_zero, Mc.cnt, List.getD_cons_zero]; split <;> split <;> omega
    | succ k =>
      have := ih k (by simpa using hk)
      simp only [List.set_cons_succ, Mc.cnt, List.getD_cons_succ]
      split <;> omega
theorem does_cnt : ∀ {l : List Act} {m m' : St}, Mc.Does m l m' → Mc.Inv m → (Mc.cnt m'.tags : Int) + cnk 4 l = Mc.cnt m.tags + cnk 2 l
  | [], m, m', h, _ => by cases h; simp [cnk]
  | a :: l, m, m', ⟨h2, h3⟩, hI => by
    have ih := does_cnt h3 (hI.step _ _)
    obtain ⟨k, n⟩ := a
    simp only [cnk]
    have key : (Mc.cnt (Mc.step m k n).1.tags : Int) + (if k = 4 then 1 else 0) = Mc.cnt m.tags + (if k = 2 then 1 else 0) := by
      dsimp only at h2
      revert h2
      unfold Mc.step
      by_cases h1 : Mc.right k n = false ∨ 7 < k
      · rw [if_pos h1]; intro h; simp at h
      rw [if_neg h1]
      have hr : Mc.right k n = true := by
        cases e : Mc.right k n
        · exact absurd (Or.inl e) h1
        · rfl
      by_cases c2 : 2 ≤ k ∧ k ≤ 4 ∧ (m.tags.length : Int) ≤ n
      · rw [if_pos c2]; intro h; simp at h
      rw [if_neg c2]
      by_cases e1 : k = 1
      · rw [if_pos e1]
        split
        · intro h; simp at h
        · intro _; simp [e1]
      rw [if_neg e1]
      by_cases e2 : k = 2
      · rw [if_pos e2]
        have hn := Mc.right_slot hr (by omega) (by omega)
        split
        · intro h; simp at h
        · rename_i ht
          intro _
          have := cnt_set m.tags n.toNat m.at_ (by omega)
          unfold Mc.St.tag at ht
          have ha := hI.a0
          rw [if_neg ht, if_pos ha] at this
          rw [if_neg (by omega)]
          show (Mc.cnt (m.tags.set n.toNat m.at_) : Int) + 0 = _
          omega
      rw [if_neg e2]
      by_cases e3 : k = 3
      · rw [if_pos e3]
        split
        · intro h; simp at h
        · intro _; simp [e3]
      rw [if_neg e3]
      by_cases e4 : k = 4
      · rw [if_pos e4]
        have hn := Mc.right_slot hr (by omega) (by omega)
        split
        · intro h; simp at h
        · rename_i ht
          intro _
          have := cnt_set m.tags n.toNat (-1) (by omega)
          unfold Mc.St.tag at ht
          rw [if_pos (by omega), if_neg (by omega)] at this
          show (Mc.cnt (m.tags.set n.toNat (-1)) : Int) + 1 = _
          omega
      rw [if_neg e4, if_neg e4, if_neg e2]
      intro _
      have hb : ∀ a, (Mc.begin_ m a).1.tags = m.tags := fun a => by unfold Mc.begin_; split <;> (try split) <;> rfl
      have hv : (Mc.reverse m).1.tags = m.tags := by unfold Mc.reverse; split <;> (try split) <;> rfl
      split
      · rw [hb]
      · split
        · rw [hb]
        · rw [hv]
    dsimp only at ih
    omega
theorem cnt_neg {tags : List Int} (h : ∀ j, j < tags.length → tags.getD j 0 < 0) : Mc.cnt tags = 0 := by
  induction tags with
  | nil => rfl
  | cons x l ih =>
    unfold Mc.cnt
    have h0 := h 0 (by simp)
    simp only [List.getD_cons_zero] at h0
    rw [if_neg (by omega), ih fun j hj => by have := h (j + 1) (by simpa using hj); simpa using this]
theorem lA_even {n l : Nat} (hl : l < 65536) (hn : 1 ≤ n ∧ n ≤ 1048576) : cnk 2 (lA n l) = cnk 4 (lA n l) := by
  have h := does_cnt (does_all hl hn) (Mc.new_inv l n (by omega) (by omega) hn.2)
  have h0 : Mc.cnt (Mc.new l n).tags = 0 := Mc.cnt_new n
  have h1 : Mc.cnt (cut (aT n l) 0) = 0 := cnt_neg fun j hj => by
    rw [cut_len] at hj
    rw [cut_get _ _ hj]
    split <;> omega
  rw [h0] at h
  rw [show (⟨l, 0, 0, tot l (sd l n), cut (aT n l) 0⟩ : St).tags = cut (aT n l) 0 from rfl, h1] at h
  omega
theorem sum_half (d l : Nat) (hd : 0 < d) : 2 * Mc.sum (fun i => (i : Int) % (d : Int)) l ≤ (l : Int) * ((d : Int) - 1) := by
  rw [sum_mod d hd l]
  have e0 : (l : Int) = (d : Int) * ((l / d : Nat) : Int) + ((l % d : Nat) : Int) := by
    have := Nat.div_add_mod l d
    have h2 : ((d * (l / d) + l % d : Nat) : Int) = (l : Int) := by rw [this]
    rw [← h2]; simp
  have hr : ((l % d : Nat) : Int) ≤ (d : Int) := by have := Nat.mod_lt l hd; omega
  have t2 : ∀ x : Int, 2 * tri x = x * (x - 1) := fun x => by
    unfold tri
    have : x * (x - 1) % 2 = 0 := by
      rcases Int.emod_two_eq x with h | h
      · rw [Int.mul_emod, h]; simp
      · rw [Int.mul_emod, show (x - 1) % 2 = 0 by omega]; simp
    omega
  generalize hq : ((l / d : Nat) : Int) = q at *
  generalize hrr : ((l % d : Nat) : Int) = r at *
  have hr0 : 0 ≤ r := by rw [← hrr]; omega
  have a1 : 2 * (q * tri (d : Int)) = q * ((d : Int) * ((d : Int) - 1)) := by rw [← t2]; rw [Int.mul_left_comm]
  have a2 : r * (r - 1) ≤ r * ((d : Int) - 1) := Int.mul_le_mul_of_nonneg_left (by omega) hr0
  rw [e0, Int.add_mul, Int.mul_add, a1, t2]
  have a3 : q * ((d : Int) * ((d : Int) - 1)) = (d : Int) * q * ((d : Int) - 1) := by rw [← Int.mul_assoc, Int.mul_comm q]
  omega
theorem sd_one {n l : Int} (hl : 0 ≤ l) (hl2 : l < 65536) (hn : 1 ≤ n) (h : l < n) : sd l n = 1 := by
  have e : (0 : Nat) = jx l n := Is.eq ⟨by rw [show p2 0 = 1 from by decide]; omega, fun i hi => absurd hi (by omega)⟩ (jx_is hl2 hn)
  unfold sd
  rw [← e]
  decide
theorem tot_bound {n l : Nat} (hl : l < 65536) (hn : 1 ≤ n) : (n : Int) * (tot l (sd l n) - l) ≤ (l : Int) * l := by
  have hd := sd_pos (l : Int) (n : Int)
  have e : tot l (sd l n) - l = Mc.sum (fun i => (i : Int) % sd l n) l := by unfold tot; omega
  rw [e]
  by_cases h1 : jx l n = 0
  · have e1 : sd l n = 1 := by unfold sd; rw [h1]; decide
    rw [e1]
    have : Mc.sum (fun (i : Nat) => (i : Int) % 1) l = 0 := by
      rw [show (fun (i : Nat) => (i : Int) % 1) = fun _ => 0 by funext i; omega, Mc.sum_zero]
    rw [this, Int.mul_zero]
    exact Int.mul_nonneg (by omega) (by omega)
  · have h2 := (jx_is (k := (l : Int)) (s := (n : Int)) (by omega) (by omega)).2 (jx l n - 1) (by omega)
    have h3 := p2_succ (jx l n - 1)
    rw [show jx l n - 1 + 1 = jx l n by omega] at h3
    have h4 : sd l n = p2 (jx l n - 1) * 2 := h3
    obtain ⟨D, hD⟩ : ∃ D : Nat, sd l n = D := ⟨(sd l n).toNat, by omega⟩
    have h5 := sum_half D l (by omega)
    rw [hD] at h4 ⊢
    generalize Mc.sum (fun i => (i : Int) % (D : Int)) l = S at *
    generalize p2 (jx l n - 1) = P at *
    have h6 : (n : Int) * (2 * S) ≤ (n : Int) * ((l : Int) * ((D : Int) - 1)) := Int.mul_le_mul_of_nonneg_left h5 (by omega)
    have h7 : (n : Int) * ((l : Int) * ((D : Int) - 1)) = (l : Int) * ((n : Int) * ((D : Int) - 1)) := Int.mul_left_comm _ _ _
    have h8 : (n : Int) * ((D : Int) - 1) ≤ 2 * l := by
      rw [Int.mul_sub, h4, ← Int.mul_assoc]
      omega
    have h9 : (l : Int) * ((n : Int) * ((D : Int) - 1)) ≤ (l : Int) * (2 * l) := Int.mul_le_mul_of_nonneg_left h8 (by omega)
    have e1 : (n : Int) * (2 * S) = 2 * ((n : Int) * S) := Int.mul_left_comm _ _ _
    have e2 : (l : Int) * (2 * l) = 2 * ((l : Int) * l) := Int.mul_left_comm _ _ _
    omega
theorem lA_check {n l : Nat} (hl : l < 65536) (hn : 1 ≤ n ∧ n ≤ 1048576) : Mc.check l n (lA n l) = (tot l (sd l n), ((lA n l).length : Int), 0) := by
  unfold Mc.check
  rw [if_pos ⟨by omega, by omega, by omega, by omega⟩, Int.toNat_natCast, (does_all hl hn).chk 0, if_pos rfl]
  simp
theorem lA_le {n l : Nat} (hl : l < 65536) : (lA n l).length ≤ 5000000000 := by
  show (aA n l ++ bL (sd l n) (aT n l) l).length ≤ _
  have h1 : (aA n l).length ≤ 4296000000 := by rw [← aB_aA]; exact aB_b n (by omega)
  have h2 := bL_le (sd l n) (aT n l) l
  rw [List.length_append]
  omega
theorem lA_kind {n l : Nat} (hl : l < 65536) (hn : 1 ≤ n ∧ n ≤ 1048576) : ∀ i, i < (lA n l).length → 1 ≤ ((lA n l).getD i (0, 0)).1 ∧ ((lA n l).getD i (0, 0)).1 ≤ 7 := by
  have h := does_all hl hn
  generalize lA n l = L at h
  generalize Mc.new (l : Int) n = m at h
  generalize (⟨l, 0, 0, tot l (sd l n), cut (aT n l) 0⟩ : St) = m' at h
  induction L generalizing m with
  | nil => intro i hi; simp at hi
  | cons a L ih =>
    intro i hi
    cases i with
    | zero =>
      have h2 : (Mc.step m a.1 a.2).2 = 0 := h.1
      have := Mc.right_of_er (m := m) (l := [a]) (k := 0) (by simpa [Mc.er, Mc.up] using h2)
      simpa using this.2
    | succ i => simpa using ih _ h.2 i (by simpa using hi)
end Sd
end Go.Proofs.Ytgadkelldbibgaa
