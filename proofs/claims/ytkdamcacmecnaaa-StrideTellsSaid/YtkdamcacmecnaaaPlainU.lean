/- The least slot that holds something; which action comes next (stride), plain; runs of actions. No program. -/
import Derived.Test.YtkdamcacmecnaaaPlainT
namespace Go.Proofs.Ytkdamcacmecnaaa
set_option linter.unusedVariables false
namespace Sd
open Mc (St Act step)

/-- the least slot that holds t; -1: none -/
def slot : List Int → Int → Int
  | [], _ => -1
  | x :: l, t => if x = t then 0 else if slot l t < 0 then -1 else slot l t + 1
theorem slot_cases (tags : List Int) (t : Int) : (slot tags t = -1 ∧ ∀ j, j < tags.length → tags.getD j 0 ≠ t) ∨ ∃ k : Nat, k < tags.length ∧ slot tags t = k ∧ tags.getD k 0 = t ∧ ∀ j, j < k → tags.getD j 0 ≠ t := by
  induction tags with
  | nil => exact .inl ⟨rfl, fun j h => absurd h (by simp)⟩
  | cons x l ih =>
    unfold slot
    by_cases e : x = t
    · rw [if_pos e]
      exact .inr ⟨0, by simp, rfl, by simpa using e, fun j h => absurd h (by omega)⟩
    · rw [if_neg e]
      rcases ih with ⟨h1, h2⟩ | ⟨k, hk, h1, h2, h3⟩
      · rw [if_pos (by omega)]
        refine .inl ⟨rfl, fun j hj => ?_⟩
        match j with
        | 0 => simpa using e
        | j + 1 => simpa using h2 j (by simpa using hj)
      · rw [if_neg (by omega)]
        refine .inr ⟨k + 1, by simpa using hk, by omega, by simpa using h2, fun j hj => ?_⟩
        match j with
        | 0 => simpa using e
        | j + 1 => simpa using h3 j (by omega)
theorem slot_is {tags : List Int} {t : Int} {k : Nat} (hk : k < tags.length) (h : tags.getD k 0 = t) (h2 : ∀ j, j < k → tags.getD j 0 ≠ t) : slot tags t = k := by
  rcases slot_cases tags t with ⟨_, h3⟩ | ⟨i, hi, h3, h4, h5⟩
  · exact absurd h (h3 k hk)
  · rcases Nat.lt_trichotomy i k with c | c | c
    · exact absurd h4 (h2 i c)
    · rw [h3, c]
    · exact absurd h (h5 k c)
theorem slot_none {tags : List Int} {t : Int} (h : ∀ j, j < tags.length → tags.getD j 0 ≠ t) : slot tags t = -1 := by
  rcases slot_cases tags t with ⟨h3, _⟩ | ⟨i, hi, h3, h4, h5⟩
  · exact h3
  · exact absurd h4 (h i hi)
theorem slot_lo (tags : List Int) (t : Int) : -1 ≤ slot tags t ∧ slot tags t < tags.length := by
  rcases slot_cases tags t with ⟨h3, _⟩ | ⟨i, hi, h3, h4, h5⟩ <;> omega
theorem slot_nn {tags : List Int} {t : Int} (h : 0 ≤ slot tags t) : (slot tags t).toNat < tags.length ∧ tags.getD (slot tags t).toNat 0 = t := by
  rcases slot_cases tags t with ⟨h3, _⟩ | ⟨i, hi, h3, h4, h5⟩
  · omega
  · rw [h3]; exact ⟨by simpa using hi, by simpa using h4⟩
/-- the first of those that are asked for, by an order -/
def bst (is : Int → Bool) (lt : Int → Int → Bool) (tags : List Int) : Nat → Int
  | 0 => -1
  | i + 1 => if is (tags.getD i 0) && (decide (bst is lt tags i < 0) || lt (tags.getD i 0) (tags.getD (bst is lt tags i).toNat 0)) then i else bst is lt tags i
theorem bst_cases (is : Int → Bool) (f : Int → Int) (tags : List Int) (n : Nat) :
    (bst is (fun a b => decide (f a < f b)) tags n = -1 ∧ ∀ j, j < n → is (tags.getD j 0) = false) ∨
    ∃ k : Nat, k < n ∧ bst is (fun a b => decide (f a < f b)) tags n = k ∧ is (tags.getD k 0) = true ∧ (∀ j, j < n → is (tags.getD j 0) = true → f (tags.getD k 0) ≤ f (tags.getD j 0)) ∧ ∀ j, j < k → is (tags.getD j 0) = true → f (tags.getD k 0) < f (tags.getD j 0) := by
  induction n with
  | zero => exact .inl ⟨rfl, fun j h => absurd h (by omega)⟩
  | succ n ih =>
    unfold bst
    by_cases e : is (tags.getD n 0) = true
    · rcases ih with ⟨h1, h2⟩ | ⟨k, hk, h1, h2, h3, h4⟩
      · rw [if_pos (by rw [h1, e]; rfl)]
        refine .inr ⟨n, by omega, rfl, e, fun j hj h => ?_, fun j hj h => ?_⟩
        · rcases (show j < n ∨ j = n by omega) with c | rfl
          · rw [h2 j c] at h; cases h
          · exact Int.le_refl _
        · rw [h2 j hj] at h; cases h
      · by_cases c : f (tags.getD n 0) < f (tags.getD k 0)
        · rw [if_pos (by rw [h1, e, Int.toNat_natCast, decide_eq_true c]; simp)]
          refine .inr ⟨n, by omega, rfl, e, fun j hj h => ?_, fun j hj h => ?_⟩
          · rcases (show j < n ∨ j = n by omega) with c | rfl
            · have := h3 j c h; omega
            · exact Int.le_refl _
          · have := h3 j hj h; omega
        · rw [if_neg (by rw [h1, e, Int.toNat_natCast, decide_eq_false c]; simp)]
          refine .inr ⟨k, by omega, h1, h2, fun j hj h => ?_, h4⟩
          rcases (show j < n ∨ j = n by omega) with c' | rfl
          · exact h3 j c' h
          · omega
    · have e' : is (tags.getD n 0) = false := by cases h : is (tags.getD n 0) <;> simp_all
      rw [if_neg (by rw [e']; simp)]
      rcases ih with ⟨h1, h2⟩ | ⟨k, hk, h1, h2, h3, h4⟩
      · refine .inl ⟨h1, fun j hj => ?_⟩
        rcases (show j < n ∨ j = n by omega) with c | rfl
        · exact h2 j c
        · exact e'
      · refine .inr ⟨k, by omega, h1, h2, fun j hj h => ?_, h4⟩
        rcases (show j < n ∨ j = n by omega) with c | rfl
        · exact h3 j c h
        · rw [e'] at h; cases h
theorem bst_lo (is : Int → Bool) (f : Int → Int) (tags : List Int) (n : Nat) : -1 ≤ bst is (fun a b => decide (f a < f b)) tags n ∧ bst is (fun a b => decide (f a < f b)) tags n < n ∨ n = 0 ∧ bst is (fun a b => decide (f a < f b)) tags n = -1 := by
  rcases bst_cases is f tags n with ⟨h1, _⟩ | ⟨k, hk, h1, _⟩ <;> omega

def less (a b : Int) : Bool := decide (a < b)
def greater (a b : Int) : Bool := decide (b < a)
theorem less_eq : less = fun a b => decide (id a < id b) := rfl
theorem greater_eq : greater = fun a b => decide (-a < -b) := by
  funext a b
  unfold greater
  rw [decide_eq_decide]
  omega
def bad (d t : Int) : Bool := decide (0 ≤ t) && decide (t % d ≠ 0)
def holds (t : Int) : Bool := decide (0 ≤ t)
def off (d : Int) (tags : List Int) : Int := bst (bad d) less tags tags.length
def base (tags : List Int) : Int := bst holds greater tags tags.length
theorem base_cases (tags : List Int) : (base tags = -1 ∧ ∀ j, j < tags.length → tags.getD j 0 < 0) ∨ ∃ k : Nat, k < tags.length ∧ base tags = k ∧ 0 ≤ tags.getD k 0 ∧ (∀ j, j < tags.length → tags.getD j 0 ≤ tags.getD k 0) ∧ ∀ j, j < k → tags.getD j 0 < tags.getD k 0 := by
  unfold base
  rw [greater_eq]
  rcases bst_cases holds (fun a => -a) tags tags.length with ⟨h1, h2⟩ | ⟨k, hk, h1, h2, h3, h4⟩
  · exact .inl ⟨h1, fun j hj => by have := h2 j hj; simpa [holds] using this⟩
  · have h2' : 0 ≤ tags.getD k 0 := by simpa [holds] using h2
    refine .inr ⟨k, hk, h1, h2', fun j hj => ?_, fun j hj => ?_⟩
    · by_cases c : 0 ≤ tags.getD j 0
      · have := h3 j hj (by simpa [holds] using c); omega
      · omega
    · by_cases c : 0 ≤ tags.getD j 0
      · have := h4 j hj (by simpa [holds] using c); omega
      · omega
theorem off_cases (d : Int) (tags : List Int) : (off d tags = -1 ∧ ∀ j, j < tags.length → bad d (tags.getD j 0) = false) ∨ ∃ k : Nat, k < tags.length ∧ off d tags = k ∧ bad d (tags.getD k 0) = true ∧ (∀ j, j < tags.length → bad d (tags.getD j 0) = true → tags.getD k 0 ≤ tags.getD j 0) ∧ ∀ j, j < k → tags.getD j 0 ≠ tags.getD k 0 := by
  unfold off
  rw [less_eq]
  rcases bst_cases (bad d) id tags tags.length with ⟨h1, h2⟩ | ⟨k, hk, h1, h2, h3, h4⟩
  · exact .inl ⟨h1, h2⟩
  · refine .inr ⟨k, hk, h1, h2, h3, fun j hj e => ?_⟩
    have := h4 j hj (by rw [e]; exact h2)
    simp only [id] at this
    omega
/-- the first one of all that are alike -/
theorem bst_eq (is : Int → Bool) (t : Int) (tags : List Int) (h : ∀ j, j < tags.length → is (tags.getD j 0) = decide (tags.getD j 0 = t)) : bst is less tags tags.length = slot tags t := by
  rw [less_eq]
  rcases bst_cases is id tags tags.length with ⟨h1, h2⟩ | ⟨k, hk, h1, h2, h3, h4⟩
  · rw [h1, slot_none fun j hj e => ?_]
    have := h2 j hj
    rw [h j hj, e] at this
    simp at this
  · rw [h1]
    have ek : tags.getD k 0 = t := by rw [h k hk] at h2; simpa using h2
    refine (slot_is hk ek fun j hj e => ?_).symm
    have := h4 j hj (by rw [h j (by omega)]; simpa using e)
    simp only [id] at this
    omega
/-- may a spot be? -/
def okS (k a p : Int) (tags : List Int) : Prop := (0 ≤ k ∧ k < 65536) ∧ (0 ≤ a ∧ a ≤ k) ∧ (-1 ≤ p ∧ p ≤ k) ∧ (1 ≤ tags.length ∧ tags.length ≤ 1048576) ∧ ∀ i, i < tags.length → -1 ≤ tags.getD i 0 ∧ tags.getD i 0 ≤ k
open Classical in
/-- the next action -/
noncomputable def nx (k : Int) (ended : Bool) (a p : Int) (tags : List Int) : Option Act :=
  if ¬ okS k a p tags then none
  else if p < 0 then
    if a < k then some (1, k - a)
    else if 0 ≤ off (sd k tags.length) tags then some (4, off (sd k tags.length) tags)
    else if k % sd k tags.length = 0 ∧ slot tags k < 0 ∧ 0 ≤ slot tags (-1) then some (2, slot tags (-1))
    else if ended = true then some (5, 0) else none
  else if 0 ≤ base tags ∧ p ≤ tags.getD (base tags).toNat 0 then some (4, base tags)
  else if p = 0 then none
  else if a = p - 1 then some (7, 0)
  else if 0 ≤ base tags ∧ (a < tags.getD (base tags).toNat 0 ∨ p ≤ a) then some (3, base tags)
  else if a < p then some (1, p - 1 - a)
  else none
end Sd

namespace Mc
/-- a run: the actions that come one after the other, and the machine behind them -/
def Runs (nx : St → Option Act) : St → List Act → St → Prop
  | m, [], m' => m' = m ∧ (nx m = none ∨ ∃ a, nx m = some a ∧ (step m a.1 a.2).2 ≠ 0)
  | m, a :: l, m' => nx m = some a ∧ (step m a.1 a.2).2 = 0 ∧ Runs nx (step m a.1 a.2).1 l m'
/-- a piece of a run -/
def Goes (nx : St → Option Act) : St → List Act → St → Prop
  | m, [], m' => m' = m
  | m, a :: l, m' => nx m = some a ∧ (step m a.1 a.2).2 = 0 ∧ Goes nx (step m a.1 a.2).1 l m'
theorem Goes.run {nx : St → Option Act} : ∀ {l : List Act} {m m' m'' : St} {l' : List Act}, Goes nx m l m' → Runs nx m' l' m'' → Runs nx m (l ++ l') m''
  | [], m, m', m'', l', h, g => by cases h; exact g
  | a :: l, m, m', m'', l', ⟨h1, h2, h3⟩, g => ⟨h1, h2, Goes.run h3 g⟩
theorem Goes.trans {nx : St → Option Act} : ∀ {l : List Act} {m m' m'' : St} {l' : List Act}, Goes nx m l m' → Goes nx m' l' m'' → Goes nx m (l ++ l') m''
  | [], m, m', m'', l', h, g => by cases h; exact g
  | a :: l, m, m', m'', l', ⟨h1, h2, h3⟩, g => ⟨h1, h2, Goes.trans h3 g⟩
theorem Goes.one {nx : St → Option Act} {m : St} {a : Act} (h : nx m = some a) (e : (step m a.1 a.2).2 = 0) : Goes nx m [a] (step m a.1 a.2).1 := ⟨h, e, rfl⟩
theorem Runs.stop {nx : St → Option Act} {m : St} (h : nx m = none) : Runs nx m [] m := ⟨rfl, .inl h⟩
/-- all actions of a list go, and lead to a machine -/
def Does : St → List Act → St → Prop
  | m, [], m' => m' = m
  | m, a :: l, m' => (step m a.1 a.2).2 = 0 ∧ Does (step m a.1 a.2).1 l m'
theorem Runs.does {nx : St → Option Act} : ∀ {l : List Act} {m m' : St}, Runs nx m l m' → Does m l m'
  | [], m, m', h => h.1
  | a :: l, m, m', ⟨_, h2, h3⟩ => ⟨h2, Runs.does h3⟩
theorem Goes.does {nx : St → Option Act} : ∀ {l : List Act} {m m' : St}, Goes nx m l m' → Does m l m'
  | [], m, m', h => h
  | a :: l, m, m', ⟨_, h2, h3⟩ => ⟨h2, Goes.does h3⟩
theorem Does.trans : ∀ {l : List Act} {m m' m'' : St} {l' : List Act}, Does m l m' → Does m' l' m'' → Does m (l ++ l') m''
  | [], m, m', m'', l', h, g => by cases h; exact g
  | a :: l, m, m', m'', l', ⟨h2, h3⟩, g => ⟨h2, Does.trans h3 g⟩
theorem Does.chk : ∀ {l : List Act} {m m' : St} (k : Nat), Does m l m' → chk m l k = if m'.pend = 0 then (m'.tot, ((k + l.length : Nat) : Int), 0) else (0, ((k + l.length : Nat) : Int), 19)
  | [], m, m', k, h => by cases h; simp [chk_nil]
  | a :: l, m, m', k, ⟨h2, h3⟩ => by
    rw [Mc.chk, if_pos h2, Does.chk (k + 1) h3]
    rw [show k + 1 + l.length = k + (a :: l).length by simp only [List.length_cons]; omega]
theorem Does.len : ∀ {l : List Act} {m m' : St}, Does m l m' → m'.tags.length = m.tags.length ∧ m'.l = m.l
  | [], m, m', h => by cases h; exact ⟨rfl, rfl⟩
  | a :: l, m, m', ⟨h2, h3⟩ => by have := Does.len h3; rw [step_len, step_l] at this; exact this
theorem Does.inv : ∀ {l : List Act} {m m' : St}, Does m l m' → Inv m → Inv m'
  | [], m, m', h, i => by cases h; exact i
  | a :: l, m, m', ⟨h2, h3⟩, i => Does.inv h3 (i.step _ _)
theorem Does.split : ∀ {l l' : List Act} {m m'' : St}, Does m (l ++ l') m'' → ∃ m', Does m l m' ∧ Does m' l' m''
  | [], l', m, m'', h => ⟨m, rfl, h⟩
  | a :: l, l', m, m'', ⟨h2, h3⟩ => by obtain ⟨m', h4, h5⟩ := Does.split h3; exact ⟨m', ⟨h2, h4⟩, h5⟩
theorem Runs.cut {nx : St → Option Act} : ∀ {l l' : List Act} {m m'' : St}, Runs nx m (l ++ l') m'' → ∃ m', Goes nx m l m' ∧ Runs nx m' l' m''
  | [], l', m, m'', h => ⟨m, rfl, h⟩
  | a :: l, l', m, m'', ⟨h1, h2, h3⟩ => by obtain ⟨m', h4, h5⟩ := Runs.cut h3; exact ⟨m', ⟨h1, h2, h4⟩, h5⟩
theorem Does.eq : ∀ {l : List Act} {m a b : St}, Does m l a → Does m l b → a = b
  | [], m, a, b, h, g => by cases h; cases g; rfl
  | _ :: l, m, a, b, ⟨_, h⟩, ⟨_, g⟩ => Does.eq h g
theorem Does.up : ∀ {l : List Act} {m m' : St}, Does m l m' → ∀ {pre : List Act} {m0 : St}, Mc.up m0 (pre ++ l) pre.length = m → Mc.up m0 (pre ++ l) (pre.length + l.length) = m'
  | [], m, m', h, pre, m0, e => by cases h; simpa using e
  | a :: l, m, m', ⟨h2, h3⟩, pre, m0, e => by
    have e1 : pre ++ a :: l = (pre ++ [a]) ++ l := by simp
    have e2 : Mc.up m0 (pre ++ a :: l) (pre.length + 1) = (step m a.1 a.2).1 := by
      rw [up_succ, e]
      simp
    have := Does.up h3 (pre := pre ++ [a]) (m0 := m0) (by rw [← e1]; simpa using e2)
    rw [← e1] at this
    rw [← this]
    simp only [List.length_append, List.length_cons, List.length_nil]
    congr 1
    omega
end Mc
end Go.Proofs.Ytkdamcacmecnaaa
