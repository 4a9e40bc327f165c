/- A machine that looks at schedules, in plain terms. No program. -/
import Derived.LoadGo2
namespace Go.Proofs.Ytgadkelldbibgaa
namespace Mc

/-- a machine: its length, where it is, what is pending, how many steps were done, what slots hold -/
structure St where
  l : Int
  at_ : Int
  pend : Int
  tot : Int
  tags : List Int

/-- may an action be one? -/
def right (k n : Int) : Bool :=
  if k < 1 ∨ 9 < k then false
  else if k = 1 then decide (1 ≤ n ∧ n < 65536)
  else if k ≤ 4 then decide (0 ≤ n ∧ n < 1048576)
  else decide (n = 0)

theorem right_def (k n : Int) : right k n = if k < 1 ∨ 9 < k then false else if k = 1 then decide (1 ≤ n ∧ n < 65536) else if k ≤ 4 then decide (0 ≤ n ∧ n < 1048576) else decide (n = 0) := rfl
def St.tag (m : St) (n : Int) : Int := m.tags.getD n.toNat 0
def begin_ (m : St) (a : Int) : St × Int :=
  if m.pend ≠ -1 then (m, 18) else if m.at_ ≠ m.l - a then (m, 17) else ({ m with pend := m.at_ }, 0)
def reverse (m : St) : St × Int :=
  if m.pend ≤ 0 then (m, 18) else if m.at_ ≠ m.pend - 1 then (m, 17) else ({ m with pend := m.at_ }, 0)

/-- an action done -/
def step (m : St) (k n : Int) : St × Int :=
  if right k n = false ∨ 7 < k then (m, 2)
  else if 2 ≤ k ∧ k ≤ 4 ∧ (m.tags.length : Int) ≤ n then (m, 2)
  else if k = 1 then (if m.l - m.at_ < n then (m, 17) else ({ m with at_ := m.at_ + n, tot := m.tot + n }, 0))
  else if k = 2 then (if 0 ≤ m.tag n then (m, 15) else ({ m with tags := m.tags.set n.toNat m.at_ }, 0))
  else if k = 3 then (if m.tag n < 0 then (m, 16) else ({ m with at_ := m.tag n }, 0))
  else if k = 4 then (if m.tag n < 0 then (m, 16) else ({ m with tags := m.tags.set n.toNat (-1) }, 0))
  else if k = 5 then begin_ m 0
  else if k = 6 then begin_ m 1
  else reverse m

/-- a machine that may be -/
structure Inv (m : St) : Prop where
  l0 : 0 ≤ m.l
  l1 : m.l ≤ 65535
  a0 : 0 ≤ m.at_
  a1 : m.at_ ≤ m.l
  p0 : -1 ≤ m.pend
  p1 : m.pend ≤ m.l
  tg : ∀ x ∈ m.tags, -1 ≤ x ∧ x ≤ m.l
  ln : m.tags.length ≤ 1048576
  t0 : 0 ≤ m.tot

theorem Inv.tag {m : St} (h : Inv m) (n : Int) (h0 : 0 ≤ n) (h1 : n < m.tags.length) : -1 ≤ m.tag n ∧ m.tag n ≤ m.l := by
  have hlt : n.toNat < m.tags.length := by omega
  have e : m.tag n = m.tags[n.toNat] := by simp [St.tag, hlt]
  rw [e]
  exact h.tg _ (List.getElem_mem hlt)

theorem right_one {k n : Int} (h : right k n = true) (h1 : k = 1) : 1 ≤ n ∧ n < 65536 := by
  subst h1
  simpa [right] using h
theorem right_slot {k n : Int} (h : right k n = true) (h2 : 2 ≤ k) (h4 : k ≤ 4) : 0 ≤ n ∧ n < 1048576 := by
  have h0 : ¬ (k < 1 ∨ 9 < k) := by omega
  simpa [right, h0, show k ≠ 1 by omega, h4] using h
theorem right_none {k n : Int} (h : right k n = true) (h5 : 4 < k) : n = 0 ∧ k ≤ 9 := by
  by_cases h0 : k < 1 ∨ 9 < k
  · simp [right, h0] at h
  · refine ⟨?_, by omega⟩
    simpa [right, h0, show k ≠ 1 by omega, show ¬ k ≤ 4 by omega] using h
theorem right_lo {k n : Int} (h : right k n = true) : 1 ≤ k ∧ k ≤ 9 := by
  by_cases h0 : k < 1 ∨ 9 < k
  · simp [right, h0] at h
  · omega

theorem Inv.step {m : St} (h : Inv m) (k n : Int) : Inv (step m k n).1 := by
  unfold Mc.step
  by_cases h1 : right k n = false ∨ 7 < k
  · rw [if_pos h1]; exact h
  rw [if_neg h1]
  have hr : right k n = true := by
    cases e : right k n
    · exact absurd (Or.inl e) h1
    · rfl
  have hk := right_lo hr
  by_cases h2 : 2 ≤ k ∧ k ≤ 4 ∧ (m.tags.length : Int) ≤ n
  · rw [if_pos h2]; exact h
  rw [if_neg h2]
  obtain ⟨l0, l1, a0, a1, p0, p1, tg, ln, t0⟩ := h
  by_cases e1 : k = 1
  · rw [if_pos e1]
    have := right_one hr e1
    split
    · exact ⟨l0, l1, a0, a1, p0, p1, tg, ln, t0⟩
    · exact ⟨l0, l1, by simp only; omega, by simp only; omega, p0, p1, tg, ln, by simp only; omega⟩
  rw [if_neg e1]
  by_cases e2 : k = 2
  · rw [if_pos e2]
    split
    · exact ⟨l0, l1, a0, a1, p0, p1, tg, ln, t0⟩
    · refine ⟨l0, l1, a0, a1, p0, p1, fun x hx => ?_, by simpa using ln, t0⟩
      rcases List.mem_or_eq_of_mem_set hx with h | rfl
      · exact tg x h
      · simp only; omega
  rw [if_neg e2]
  by_cases e3 : k = 3
  · rw [if_pos e3]
    have hn := right_slot hr (by omega) (by omega)
    have ht := Inv.tag ⟨l0, l1, a0, a1, p0, p1, tg, ln, t0⟩ n hn.1 (by omega)
    split
    · exact ⟨l0, l1, a0, a1, p0, p1, tg, ln, t0⟩
    · exact ⟨l0, l1, by simp only; omega, by simp only; omega, p0, p1, tg, ln, t0⟩
  rw [if_neg e3]
  by_cases e4 : k = 4
  · rw [if_pos e4]
    split
    · exact ⟨l0, l1, a0, a1, p0, p1, tg, ln, t0⟩
    · refine ⟨l0, l1, a0, a1, p0, p1, fun x hx => ?_, by simpa using ln, t0⟩
      rcases List.mem_or_eq_of_mem_set hx with h | rfl
      · exact tg x h
      · simp only; omega
  rw [if_neg e4]
  have hb : ∀ a, Inv (begin_ m a).1 := by
    intro a
    unfold begin_
    split
    · exact ⟨l0, l1, a0, a1, p0, p1, tg, ln, t0⟩
    · split
      · exact ⟨l0, l1, a0, a1, p0, p1, tg, ln, t0⟩
      · exact ⟨l0, l1, a0, a1, by simp only; omega, by simp only; omega, tg, ln, t0⟩
  by_cases e5 : k = 5
  · rw [if_pos e5]; exact hb 0
  rw [if_neg e5]
  by_cases e6 : k = 6
  · rw [if_pos e6]; exact hb 1
  rw [if_neg e6]
  unfold Mc.reverse
  split
  · exact ⟨l0, l1, a0, a1, p0, p1, tg, ln, t0⟩
  · split
    · exact ⟨l0, l1, a0, a1, p0, p1, tg, ln, t0⟩
    · exact ⟨l0, l1, a0, a1, by simp only; omega, by simp only; omega, tg, ln, t0⟩
theorem step_len (m : St) (k n : Int) : (step m k n).1.tags.length = m.tags.length := by
  unfold step begin_ reverse
  repeat' (first | split | rfl | (simp only [List.length_set]))
theorem step_l (m : St) (k n : Int) : (step m k n).1.l = m.l := by
  unfold step begin_ reverse
  repeat' (first | split | rfl)
theorem step_tot (m : St) (k n : Int) : m.tot ≤ (step m k n).1.tot ∧ (step m k n).1.tot ≤ m.tot + 65535 := by
  unfold step
  by_cases h1 : right k n = false ∨ 7 < k
  · rw [if_pos h1]; simp only; omega
  rw [if_neg h1]
  have hr : right k n = true := by
    cases e : right k n
    · exact absurd (Or.inl e) h1
    · rfl
  split
  · simp only; omega
  split
  · rename_i e1
    have := right_one hr e1
    split <;> (simp only; omega)
  all_goals
    unfold begin_ reverse
    repeat' (first | split | (simp only; omega))
/-- a step that fails leaves the machine -/
theorem step_err (m : St) (k n : Int) (h : (step m k n).2 ≠ 0) : (step m k n).1 = m := by
  revert h
  unfold step begin_ reverse
  repeat' (first | split | (intro _; rfl) | (intro h; exact absurd rfl h))
end Mc
end Go.Proofs.Ytgadkelldbibgaa
