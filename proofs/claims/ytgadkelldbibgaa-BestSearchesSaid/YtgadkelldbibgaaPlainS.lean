/- What a list of actions does, state by state, in plain terms. No program. -/
import Derived.Test.YtgadkelldbibgaaPlainM2
namespace Go.Proofs.Ytgadkelldbibgaa
namespace Mc
/-- the machine behind the first k actions -/
def up (m : St) (l : List Act) : Nat → St
  | 0 => m
  | k + 1 => (step (up m l k) (l.getD k (0, 0)).1 (l.getD k (0, 0)).2).1
/-- the error of action k -/
def er (m : St) (l : List Act) (k : Nat) : Int := (step (up m l k) (l.getD k (0, 0)).1 (l.getD k (0, 0)).2).2
theorem up_succ (m : St) (l : List Act) (k : Nat) : up m l (k + 1) = (step (up m l k) (l.getD k (0, 0)).1 (l.getD k (0, 0)).2).1 := rfl
theorem up_inv {m : St} (h : Inv m) (l : List Act) (k : Nat) : Inv (up m l k) := by
  induction k with
  | zero => exact h
  | succ k ih => exact ih.step _ _
theorem up_len (m : St) (l : List Act) (k : Nat) : (up m l k).tags.length = m.tags.length := by
  induction k with
  | zero => rfl
  | succ k ih => rw [up_succ, step_len, ih]
theorem up_l (m : St) (l : List Act) (k : Nat) : (up m l k).l = m.l := by
  induction k with
  | zero => rfl
  | succ k ih => rw [up_succ, step_l, ih]
theorem up_tot (m : St) (l : List Act) (k : Nat) : m.tot ≤ (up m l k).tot ∧ (up m l k).tot ≤ m.tot + 65535 * k := by
  induction k with
  | zero => simp only [up]; omega
  | succ k ih =>
    have := step_tot (up m l k) (l.getD k (0, 0)).1 (l.getD k (0, 0)).2
    rw [up_succ]
    omega
theorem getD_take (l : List Act) {j c : Nat} (h : j < c) : (l.take c).getD j (0, 0) = l.getD j (0, 0) := by
  rw [List.getD_eq_getElem?_getD, List.getD_eq_getElem?_getD, List.getElem?_take_of_lt h]
theorem up_take (m : St) (l : List Act) (c : Nat) : ∀ j, j ≤ c → up m (l.take c) j = up m l j := by
  intro j
  induction j with
  | zero => intro _; rfl
  | succ j ih =>
    intro h
    rw [up_succ, up_succ, ih (by omega), getD_take l (by omega)]
theorem er_take (m : St) (l : List Act) {c j : Nat} (h : j < c) : er m (l.take c) j = er m l j := by
  unfold er
  rw [up_take m l c j (by omega), getD_take l h]
/-- all of the first k go -/
def okTo (m : St) (l : List Act) (k : Nat) : Prop := ∀ j, j < k → er m l j = 0
/-- the first action that does not go: which, and why; -1: all go -/
theorem cases_er (m : St) (l : List Act) : ∀ n, okTo m l n ∨ ∃ k, k < n ∧ okTo m l k ∧ er m l k ≠ 0 := by
  intro n
  induction n with
  | zero => exact .inl fun j hj => absurd hj (by omega)
  | succ n ih =>
    rcases ih with h | ⟨k, hk, h1, h2⟩
    · by_cases e : er m l n = 0
      · refine .inl fun j hj => ?_
        rcases (show j < n ∨ j = n by omega) with h3 | rfl
        · exact h j h3
        · exact e
      · exact .inr ⟨n, by omega, h, e⟩
    · exact .inr ⟨k, by omega, h1, h2⟩
theorem chk_up {m : St} {l : List Act} (h : okTo m l l.length) : ∀ d k, k + d = l.length → chk (up m l k) (l.drop k) k = if (up m l l.length).pend = 0 then ((up m l l.length).tot, (l.length : Int), 0) else (0, (l.length : Int), 19) := by
  intro d
  induction d with
  | zero => intro k hk; obtain rfl : k = l.length := by omega
            exact chk_end
  | succ d ih =>
    intro k hk
    rw [chk_ok (by omega) (h k (by omega))]
    exact ih (k + 1) (by omega)
theorem right_of_er {m : St} {l : List Act} {k : Nat} (h : er m l k = 0) : right (l.getD k (0, 0)).1 (l.getD k (0, 0)).2 = true ∧ 1 ≤ (l.getD k (0, 0)).1 ∧ (l.getD k (0, 0)).1 ≤ 7 := by
  unfold er step at h
  by_cases h1 : right (l.getD k (0, 0)).1 (l.getD k (0, 0)).2 = false ∨ 7 < (l.getD k (0, 0)).1
  · rw [if_pos h1] at h; simp at h
  · have hr : right (l.getD k (0, 0)).1 (l.getD k (0, 0)).2 = true := by
      cases e : right (l.getD k (0, 0)).1 (l.getD k (0, 0)).2
      · exact absurd (Or.inl e) h1
      · rfl
    have := right_lo hr
    exact ⟨hr, by omega, by omega⟩
theorem step_adv {m : St} {k n : Int} (h : (step m k n).2 = 0) : (k = 1 → (step m k n).1.at_ = m.at_ + n ∧ (step m k n).1.tot = m.tot + n ∧ 1 ≤ n ∧ m.at_ + n ≤ m.l) ∧ (k ≠ 1 → (step m k n).1.tot = m.tot) := by
  revert h
  unfold step
  by_cases h1 : right k n = false ∨ 7 < k
  · rw [if_pos h1]; intro h; simp at h
  rw [if_neg h1]
  have hr : right k n = true := by
    cases e : right k n
    · exact absurd (Or.inl e) h1
    · rfl
  split
  · intro h; simp at h
  split
  · rename_i e1
    have := right_one hr e1
    split
    · intro h; simp at h
    · intro _
      exact ⟨fun _ => ⟨rfl, rfl, this.1, by omega⟩, fun h => absurd e1 h⟩
  · rename_i e1
    intro _
    refine ⟨fun h => absurd h e1, fun _ => ?_⟩
    unfold begin_ reverse
    repeat' (first | split | rfl)

/-- how many tags hold something -/
def cnt : List Int → Nat
  | [] => 0
  | x :: l => (if 0 ≤ x then 1 else 0) + cnt l
theorem cnt_app (l : List Int) (x : Int) : cnt (l ++ [x]) = cnt l + (if 0 ≤ x then 1 else 0) := by
  induction l with
  | nil => simp [cnt]
  | cons y l ih => simp only [List.cons_append, cnt, ih]; omega
theorem cnt_le (l : List Int) : cnt l ≤ l.length := by
  induction l with
  | nil => simp [cnt]
  | cons y l ih => simp only [cnt, List.length_cons]; split <;> omega
theorem cnt_take (l : List Int) {k : Nat} (h : k < l.length) : cnt (l.take (k + 1)) = cnt (l.take k) + (if 0 ≤ l.getD k 0 then 1 else 0) := by
  rw [List.take_succ_eq_append_getElem h, cnt_app]
  simp [List.getD_eq_getElem?_getD, List.getElem?_eq_getElem h]
theorem cnt_new (n : Nat) : cnt (List.replicate n (-1)) = 0 := by
  induction n with
  | zero => rfl
  | succ n ih => rw [List.replicate_succ, cnt, ih]; rfl

/-- how many slots hold something behind k actions; at most: at either side of an action -/
def hl (m : St) (l : List Act) (k : Nat) : Nat := cnt (up m l k).tags
def peak (m : St) (l : List Act) : Nat → Nat
  | 0 => 0
  | k + 1 => max (peak m l k) (max (hl m l k) (hl m l (k + 1)))
def rpeak (m : St) (l : List Act) : Nat → Nat
  | 0 => 0
  | k + 1 => max (rpeak m l k) (hl m l k)
theorem peak_r {m : St} {l : List Act} (h : hl m l 0 = 0) (k : Nat) : peak m l k = rpeak m l (k + 1) := by
  induction k with
  | zero => simp [peak, rpeak, h]
  | succ k ih =>
    rw [peak, ih]
    simp only [rpeak]
    omega
theorem hl_le (m : St) (l : List Act) (k : Nat) : hl m l k ≤ m.tags.length := by
  have := cnt_le (up m l k).tags
  rw [up_len] at this
  exact this
theorem peak_le (m : St) (l : List Act) (k : Nat) : peak m l k ≤ m.tags.length := by
  induction k with
  | zero => simp [peak]
  | succ k ih =>
    have := hl_le m l k
    have := hl_le m l (k + 1)
    rw [peak]
    omega
/-- is step i done by action k? -/
def one (m : St) (l : List Act) (i : Int) (k : Nat) : Int := if (l.getD k (0, 0)).1 = 1 ∧ (up m l k).at_ ≤ i ∧ i < (up m l (k + 1)).at_ then 1 else 0
/-- how often step i is done -/
def sp (m : St) (l : List Act) (i : Int) : Nat → Int
  | 0 => 0
  | k + 1 => sp m l i k + one m l i k
theorem one_b (m : St) (l : List Act) (i : Int) (k : Nat) : 0 ≤ one m l i k ∧ one m l i k ≤ 1 := by unfold one; split <;> omega
theorem sp_b (m : St) (l : List Act) (i : Int) (k : Nat) : 0 ≤ sp m l i k ∧ sp m l i k ≤ k := by
  induction k with
  | zero => simp [sp]
  | succ k ih => have := one_b m l i k; rw [sp]; omega
/-- how many actions are of a kind -/
def kd (l : List Act) (c : Int) : Nat → Int
  | 0 => 0
  | k + 1 => kd l c k + if (l.getD k (0, 0)).1 = c then 1 else 0
theorem kd_b (l : List Act) (c : Int) (k : Nat) : 0 ≤ kd l c k ∧ kd l c k ≤ k := by
  induction k with
  | zero => simp [kd]
  | succ k ih => rw [kd]; split <;> omega
/-- sums, and the greatest -/
def sum (f : Nat → Int) : Nat → Int
  | 0 => 0
  | n + 1 => sum f n + f n
def top (f : Nat → Int) : Nat → Int
  | 0 => 0
  | n + 1 => max (top f n) (f n)
theorem sum_add (f g : Nat → Int) (n : Nat) : sum (fun i => f i + g i) n = sum f n + sum g n := by
  induction n with
  | zero => rfl
  | succ n ih => simp only [sum, ih]; omega
theorem sum_zero (n : Nat) : sum (fun _ => 0) n = 0 := by
  induction n with
  | zero => rfl
  | succ n ih => simp only [sum, ih]; omega
theorem sum_cong {f g : Nat → Int} (n : Nat) (h : ∀ i, i < n → f i = g i) : sum f n = sum g n := by
  induction n with
  | zero => rfl
  | succ n ih => simp only [sum]; rw [ih fun i hi => h i (by omega), h n (by omega)]
theorem sum_ind (a b : Int) (n : Nat) (h0 : 0 ≤ a) (h1 : a ≤ b) : sum (fun i => if a ≤ (i : Int) ∧ (i : Int) < b then 1 else 0) n = min b n - min a n := by
  induction n with
  | zero => simp only [sum]; omega
  | succ n ih =>
    simp only [sum]
    rw [ih]
    split <;> omega
theorem sum_le (f : Nat → Int) (n : Nat) (b : Int) (h : ∀ i, i < n → f i ≤ b) : sum f n ≤ n * b := by
  induction n with
  | zero => simp [sum]
  | succ n ih =>
    have h1 := ih fun i hi => h i (by omega)
    have h2 := h n (by omega)
    have e : ((n + 1 : Nat) : Int) * b = n * b + b := by rw [Int.natCast_add, Int.add_mul]; simp
    rw [e]
    simp only [sum]
    omega
theorem sum_nn (f : Nat → Int) (n : Nat) (h : ∀ i, i < n → 0 ≤ f i) : 0 ≤ sum f n := by
  induction n with
  | zero => simp [sum]
  | succ n ih =>
    have h1 := ih fun i hi => h i (by omega)
    have h2 := h n (by omega)
    simp only [sum]
    omega
theorem sum_tot {m : St} {l : List Act} {L : Nat} (hI : Inv m) (h0 : m.tot = 0) (hl : (L : Nat) = m.l) : ∀ k, okTo m l k → sum (fun i => sp m l i k) L = (up m l k).tot := by
  intro k
  induction k with
  | zero => intro _; rw [show (fun (i : Nat) => sp m l i 0) = fun _ => 0 from rfl, sum_zero]; exact h0.symm
  | succ k ih =>
    intro hk
    have hi := up_inv hI l k
    have hll := up_l m l k
    have e : (step (up m l k) (l.getD k (0, 0)).1 (l.getD k (0, 0)).2).2 = 0 := hk k (by omega)
    rw [show (fun (i : Nat) => sp m l i (k + 1)) = fun (i : Nat) => sp m l i k + one m l i k from rfl, sum_add, ih fun j hj => hk j (by omega)]
    obtain ⟨h1, h2⟩ := step_adv e
    by_cases c : (l.getD k (0, 0)).1 = 1
    · obtain ⟨q1, q2, q3, q4⟩ := h1 c
      have e1 : sum (fun (i : Nat) => one m l i k) L = sum (fun (i : Nat) => if (up m l k).at_ ≤ (i : Int) ∧ (i : Int) < (up m l (k + 1)).at_ then 1 else 0) L :=
        sum_cong _ fun i _ => by unfold one; simp only [c, true_and]
      have ha := hi.a0
      rw [e1, sum_ind _ _ _ hi.a0 (by rw [up_succ, q1]; omega), up_succ, q1, q2]
      omega
    · have e1 : sum (fun (i : Nat) => one m l i k) L = sum (fun _ => 0) L := sum_cong _ fun i _ => by unfold one; rw [if_neg fun h => c h.1]
      rw [e1, sum_zero, up_succ, h2 c]
      omega
theorem sum_kd (l : List Act) (m : St) : ∀ k, okTo m l k → sum (fun (c : Nat) => kd l c k) 10 = k := by
  intro k
  induction k with
  | zero => intro _; rfl
  | succ k ih =>
    intro hk
    have h := (right_of_er (hk k (by omega))).2
    rw [show (fun (c : Nat) => kd l c (k + 1)) = fun (c : Nat) => kd l c k + (if (l.getD k (0, 0)).1 = (c : Int) then 1 else 0) from rfl, sum_add, ih fun j hj => hk j (by omega)]
    have e : sum (fun (c : Nat) => if (l.getD k (0, 0)).1 = (c : Int) then 1 else 0) 10 = 1 := by
      generalize (l.getD k (0, 0)).1 = x at *
      obtain ⟨y, rfl⟩ : ∃ y : Nat, x = y := ⟨x.toNat, by omega⟩
      rcases (show y = 1 ∨ y = 2 ∨ y = 3 ∨ y = 4 ∨ y = 5 ∨ y = 6 ∨ y = 7 by omega) with rfl | rfl | rfl | rfl | rfl | rfl | rfl <;> decide
    rw [e]
    omega
end Mc
end Go.Proofs.Ytgadkelldbibgaa
