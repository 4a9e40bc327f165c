/- Several texts in one. -/
import Derived.Test.YtgadkelldbibgaaPZ
/- No list of actions that reverses all does fewer steps than the formula tells. No program. -/
namespace Go.Proofs.Ytgadkelldbibgaa
set_option linter.unusedVariables false
namespace Lb
open Mc (St Does)
/-- the total, of a number -/
def tq (x : Int) (c : Nat) : Int := Ch.tt x.toNat c
theorem tq_nn (x : Int) {c : Nat} (hc : 1 ≤ c) : 0 ≤ tq x c := Ch.tt_nn _ _ hc
theorem tq_zero (c : Nat) : tq 0 c = 0 := Rv.tt_0 c
theorem tq_one (c : Nat) : tq 1 c = 0 := Rv.tt_1 c
theorem tq_more (x : Int) {c : Nat} (hc : 1 ≤ c) : tq x (c + 1) ≤ tq x c := Ch.tt_more _ _ hc
/-- a part more: its own steps, and one slot less behind it -/
theorem tq_parts {n m : Int} {c : Nat} (hc : 2 ≤ c) (h0 : 0 ≤ m) (h1 : m ≤ n) : tq n c ≤ m + tq m c + tq (n - m) (c - 1) := by
  by_cases h2 : 2 ≤ n
  · have h := Ch.tt_parts n.toNat c m.toNat hc (by omega) (by omega)
    unfold tq
    rw [show (n - m).toNat = n.toNat - m.toNat by omega]
    have e : ((m.toNat : Nat) : Int) = m := by omega
    rw [e] at h
    omega
  · have e : tq n c = 0 := by
      rcases (show n.toNat = 0 ∨ n.toNat = 1 by omega) with e | e <;> unfold tq <;> rw [e]
      · exact Rv.tt_0 c
      · exact Rv.tt_1 c
    have := tq_nn m (show 1 ≤ c by omega)
    have := tq_nn (n - m) (show 1 ≤ c - 1 by omega)
    omega
theorem rp_lt (n s : Nat) (hs : 1 ≤ s) (hn : 1 ≤ n) : Ch.rp n s ≤ n - 1 := Rv.rp_min hs (by have := Ch.be_ge s (n - 1) hs; omega)
/-- one step less -/
theorem tq_step {n : Int} {c : Nat} (hc : 1 ≤ c) (hn : 1 ≤ n) : tq n c = tq (n - 1) c + (Ch.rp n.toNat c : Nat) := by
  have h := Ch.tt_step n.toNat c hc (by omega)
  unfold tq
  rw [show (n - 1).toNat = n.toNat - 1 by omega]
  omega
theorem tq_last {n : Int} {c : Nat} (hc : 1 ≤ c) (hn : 1 ≤ n) : tq n c ≤ (n - 1) + tq (n - 1) c := by
  rw [tq_step hc hn]
  have := rp_lt n.toNat c hc (by omega)
  omega
theorem rp_down (n s : Nat) (hs : 1 ≤ s) (hn : 1 ≤ n) : Ch.rp n s ≤ Ch.rp (n - 1) s + 1 := by
  refine Rv.rp_min hs ?_
  have h1 := Ch.rp_enough (n - 1) s hs
  obtain ⟨t, rfl⟩ : ∃ t, s = t + 1 := ⟨s - 1, by omega⟩
  have h2 := Ch.be_two t (Ch.rp (n - 1) (t + 1))
  have h3 : 1 ≤ Ch.be t (Ch.rp (n - 1) (t + 1) + 1) := Ch.bin_pos (by omega)
  omega
theorem sum_down (s : Nat) (hs : 1 ≤ s) (q : Nat) : ∀ u : Nat, u < Ch.rp (q + u + 1) s → 2 * Ch.tt q s + (u : Int) * (u + 1) ≤ 2 * Ch.tt (q + u) s := by
  intro u
  induction u with
  | zero => intro _; simp
  | succ u ih =>
    intro h
    have h1 := rp_down (q + (u + 1) + 1) s hs (by omega)
    rw [show q + (u + 1) + 1 - 1 = q + u + 1 by omega] at h1
    have h2 := ih (by omega)
    have h3 := Ch.tt_step (q + u + 1) s hs (by omega)
    rw [show q + u + 1 - 1 = q + u by omega] at h3
    have h4 : ((u + 1 : Nat) : Int) ≤ (Ch.rp (q + u + 1) s : Nat) := by omega
    have h5 : ((u + 1 : Nat) : Int) * (((u + 1 : Nat) : Int) + 1) = (u : Int) * (u + 1) + 2 * ((u : Int) + 1) := by push_cast; grind
    rw [h5, show q + (u + 1) = q + u + 1 by omega]
    omega
/-- a state that is held, and the last step: it is as good to keep it -/
theorem tq_keep {q u : Int} {c : Nat} (hc : 2 ≤ c) (hq : 0 ≤ q) (hu : 0 ≤ u) (h : u < (Ch.rp (q + u + 1).toNat c : Nat)) : tq q c + tq (u + 1) (c - 1) ≤ tq (q + u) c := by
  obtain ⟨a, rfl⟩ : ∃ a : Nat, q = a := ⟨q.toNat, by omega⟩
  obtain ⟨b, rfl⟩ : ∃ b : Nat, u = b := ⟨u.toNat, by omega⟩
  have h1 := sum_down c (by omega) a b (by rw [show ((a : Int) + b + 1).toNat = a + b + 1 by omega] at h; omega)
  have h2 := Ch.tt_most (b + 1) (c - 1) (by omega)
  rw [Ch.tt_one (b + 1) (by omega)] at h2
  unfold tq
  rw [show ((a : Int) + b).toNat = a + b by omega, show ((b : Int) + 1).toNat = b + 1 by omega, Int.toNat_natCast]
  have e : ((b + 1 : Nat) : Int) * (((b + 1 : Nat) : Int) - 1) = (b : Int) * (b + 1) := by
    have : ((b + 1 : Nat) : Int) = (b : Int) + 1 := by omega
    rw [this, show (b : Int) + 1 - 1 = b by omega, Int.mul_comm]
  rw [e] at h2
  generalize (b : Int) * ((b : Int) + 1) = z at *
  omega

/-- a chain: states that are there, and the states to be held that are come to from them, one above the other -/
abbrev Link := Int × Int
/-- from y on, below p: by at most s slots; what it costs -/
def Chain (A : Int → Prop) : Int → List Link → Int → Nat → Prop
  | y, [], p, s => y < p
  | y, (h, b) :: r, p, s => y < h ∧ h ≤ b ∧ A h ∧ 1 ≤ s ∧ Chain A b r p (s - 1)
/-- the cost behind y, that is held by one of s + 1 slots -/
def val : Int → List Link → Int → Nat → Int
  | y, [], p, s => tq (p - y) (s + 1)
  | y, (h, b) :: r, p, s => tq (b - y) (s + 1) + (b - h) + val b r p (s - 1)
/-- where a chain ends -/
def top : Int → List Link → Int
  | y, [] => y
  | y, (h, b) :: r => top b r
theorem Chain.mono {A B : Int → Prop} (hAB : ∀ x, A x → B x) : ∀ {r : List Link} {y p : Int} {s : Nat}, Chain A y r p s → Chain B y r p s
  | [], y, p, s, h => h
  | (h, b) :: r, y, p, s, ⟨h1, h2, h3, h4, h5⟩ => ⟨h1, h2, hAB h h3, h4, Chain.mono hAB h5⟩
theorem Chain.lt {A : Int → Prop} : ∀ {r : List Link} {y p : Int} {s : Nat}, Chain A y r p s → y ≤ top y r ∧ top y r < p
  | [], y, p, s, h => ⟨Int.le_refl _, h⟩
  | (h, b) :: r, y, p, s, ⟨h1, h2, h3, h4, h5⟩ => by
    have := Chain.lt h5
    show y ≤ top b r ∧ top b r < p
    omega
theorem Chain.up {A : Int → Prop} {p2 : Int} : ∀ {r : List Link} {y p : Int} {s : Nat}, Chain A y r p s → top y r < p2 → Chain A y r p2 s
  | [], y, p, s, h, h2 => h2
  | (h, b) :: r, y, p, s, ⟨h1, h2, h3, h4, h5⟩, h6 => ⟨h1, h2, h3, h4, Chain.up h5 h6⟩
/-- more slots cost no more -/
theorem val_more {A : Int → Prop} : ∀ {r : List Link} {y p : Int} {s : Nat}, Chain A y r p s → val y r p (s + 1) ≤ val y r p s
  | [], y, p, s, h => tq_more _ (by omega)
  | (h, b) :: r, y, p, s, ⟨h1, h2, h3, h4, h5⟩ => by
    obtain ⟨t, rfl⟩ : ∃ t, s = t + 1 := ⟨s - 1, by omega⟩
    have ih := val_more h5
    have := tq_more (b - y) (show 1 ≤ t + 1 + 1 by omega)
    simp only [val, Nat.add_sub_cancel] at *
    omega
theorem Chain.more {A : Int → Prop} : ∀ {r : List Link} {y p : Int} {s : Nat}, Chain A y r p s → Chain A y r p (s + 1)
  | [], y, p, s, h => h
  | (h, b) :: r, y, p, s, ⟨h1, h2, h3, h4, h5⟩ => by
    obtain ⟨t, rfl⟩ : ∃ t, s = t + 1 := ⟨s - 1, by omega⟩
    exact ⟨h1, h2, h3, by omega, Chain.more h5⟩
/-- without the first link, if it is come to from y -/
theorem val_drop {A : Int → Prop} {y b p : Int} {r : List Link} {s : Nat} (hy : y ≤ b) (hs : 1 ≤ s) (h : Chain A b r p (s - 1)) :
    val y r p s ≤ (b - y) + tq (b - y) (s + 1) + val b r p (s - 1) := by
  obtain ⟨t, rfl⟩ : ∃ t, s = t + 1 := ⟨s - 1, by omega⟩
  rw [Nat.add_sub_cancel] at *
  cases r with
  | nil =>
    have h2 : b < p := h
    have := tq_parts (n := p - y) (m := b - y) (c := t + 1 + 1) (by omega) (by omega) (by omega)
    simp only [val]
    rw [show p - y - (b - y) = p - b by omega, Nat.add_sub_cancel] at this
    omega
  | cons x r =>
    obtain ⟨h', b'⟩ := x
    obtain ⟨h1, h2, h3, h4, h5⟩ := h
    obtain ⟨u, rfl⟩ : ∃ u, t = u + 1 := ⟨t - 1, by omega⟩
    have := tq_parts (n := b' - y) (m := b - y) (c := u + 1 + 1 + 1) (by omega) (by omega) (by omega)
    have hm := val_more h5
    simp only [val, Nat.add_sub_cancel] at *
    rw [show b' - y - (b - y) = b' - b by omega] at this
    omega
/-- the last step, from a state of the chain or below it -/
theorem val_last {A : Int → Prop} : ∀ {r : List Link} {y p : Int} {s : Nat}, Chain A y r p s → val y r (p + 1) s ≤ (p - top y r) + val y r p s
  | [], y, p, s, h => by
    have h' : y < p := h
    have := tq_last (n := p + 1 - y) (c := s + 1) (by omega) (by omega)
    simp only [val, top]
    rw [show p + 1 - y - 1 = p - y by omega] at this
    omega
  | (h, b) :: r, y, p, s, ⟨h1, h2, h3, h4, h5⟩ => by
    have := val_last h5
    simp only [val, top]
    omega
theorem Chain.start {A : Int → Prop} {r : List Link} {y b p : Int} {s : Nat} (hy : y ≤ b) (h : Chain A b r p s) : Chain A y r p s := by
  cases r with
  | nil => have h' : b < p := h; show y < p; omega
  | cons x r =>
    obtain ⟨h', b'⟩ := x
    obtain ⟨h1, h2, h3, h4, h5⟩ := h
    exact ⟨by omega, h2, h3, h4, h5⟩
theorem top_mono {y b : Int} (hy : y ≤ b) (r : List Link) : top y r ≤ top b r := by
  cases r with
  | nil => exact hy
  | cons x r => exact Int.le_refl _
/-- all links above one state come from others -/
theorem Chain.above {H : Int → Prop} {z : Int} : ∀ {r : List Link} {b p : Int} {s : Nat}, z ≤ b → Chain (fun x => H x ∨ x = z) b r p s → Chain H b r p s
  | [], b, p, s, hz, h => h
  | (h', b') :: r, b, p, s, hz, ⟨h1, h2, h3, h4, h5⟩ => ⟨h1, h2, h3.resolve_right (by omega), h4, Chain.above (by omega) h5⟩
theorem Chain.below {H : Int → Prop} {z : Int} : ∀ {r : List Link} {y p : Int} {s : Nat}, top y r < z → Chain (fun x => H x ∨ x = z) y r p s → Chain H y r p s
  | [], y, p, s, hz, h => h
  | (h', b') :: r, y, p, s, hz, ⟨h1, h2, h3, h4, h5⟩ => by
    have hl := Chain.lt h5
    have hz' : top b' r < z := hz
    exact ⟨h1, h2, h3.resolve_right (by omega), h4, Chain.below hz' h5⟩
/-- a state that was come to from another one -/
theorem Chain.move {H : Int → Prop} {a z : Int} (haz : a < z) : ∀ {r : List Link} {y p : Int} {s : Nat}, Chain (fun x => H x ∨ x = z) y r p s →
    ∃ r', Chain (fun x => H x ∨ x = a) y r' p s ∧ val y r' p s ≤ (z - a) + val y r p s ∧ top y r' ≤ top y r
  | [], y, p, s, h => ⟨[], h, by simp only [val]; omega, Int.le_refl _⟩
  | (h', b) :: r, y, p, s, ⟨h1, h2, h3, h4, h5⟩ => by
    by_cases hH : H h'
    · obtain ⟨r', g1, g2, g3⟩ := Chain.move haz h5
      exact ⟨(h', b) :: r', ⟨h1, h2, .inl hH, h4, g1⟩, by simp only [val]; omega, g3⟩
    · have hz : h' = z := h3.resolve_left hH
      have h6 : Chain H b r p (s - 1) := Chain.above (by omega) h5
      have h7 : Chain (fun x => H x ∨ x = a) b r p (s - 1) := h6.mono fun x hx => .inl hx
      by_cases hy : y < a
      · exact ⟨(a, b) :: r, ⟨hy, by omega, .inr rfl, h4, h7⟩, by simp only [val]; omega, Int.le_refl _⟩
      · have hd := val_drop (y := y) (b := b) (p := p) (r := r) (s := s) (by omega) h4 h7
        refine ⟨r, ?_, by simp only [val]; omega, ?_⟩
        · have := (h7.start (y := y) (by omega)).more
          rwa [show s - 1 + 1 = s by omega] at this
        · exact top_mono (by omega) r
/-- one state more, kept -/
theorem Chain.keep {A : Int → Prop} {h p : Int} (hp : h ≤ p) (hA : A h) : ∀ {r : List Link} {y : Int} {s : Nat}, Chain A y r p s → top y r < h → r.length < s →
    val y r (p + 1) s ≤ (p - h) + val y r p s ∨ ∃ r', Chain A y r' (p + 1) s ∧ val y r' (p + 1) s ≤ (p - h) + val y r p s ∧ top y r' < p + 1
  | [], y, s, hc, ht, hl => by
    have hc' : y < p := hc
    have ht' : y < h := ht
    simp only [List.length_nil] at hl
    by_cases c : ((Ch.rp (p + 1 - y).toNat (s + 1) : Nat) : Int) ≤ p - h
    · left
      have := tq_step (n := p + 1 - y) (c := s + 1) (by omega) (by omega)
      simp only [val]
      rw [this, show p + 1 - y - 1 = p - y by omega]
      omega
    · right
      have := tq_keep (q := h - y) (u := p - h) (c := s + 1) (by omega) (by omega) (by omega) (by rw [show h - y + (p - h) + 1 = p + 1 - y by omega]; omega)
      refine ⟨[(h, h)], ⟨ht', Int.le_refl _, hA, by omega, by show h < p + 1; omega⟩, ?_, by show h < p + 1; omega⟩
      simp only [val]
      rw [show s - 1 + 1 = s by omega, show p + 1 - h = p - h + 1 by omega]
      rw [Nat.add_sub_cancel, show h - y + (p - h) = p - y by omega] at this
      omega
  | (h', b) :: r, y, s, ⟨h1, h2, h3, h4, h5⟩, ht, hl => by
    simp only [List.length_cons] at hl
    rcases Chain.keep hp hA h5 ht (by omega) with g | ⟨r', g1, g2, g3⟩
    · left; simp only [val]; omega
    · right
      exact ⟨(h', b) :: r', ⟨h1, h2, h3, h4, g1⟩, by simp only [val]; omega, g3⟩
/-- the states of a chain, one above the other -/
theorem Chain.srcs {A : Int → Prop} : ∀ {r : List Link} {y p : Int} {s : Nat}, Chain A y r p s → (y :: r.map (·.1)).Pairwise (· < ·) ∧ ∀ x ∈ r.map (·.1), A x ∧ y < x ∧ x ≤ top y r
  | [], y, p, s, h => ⟨by simp, fun x hx => by simp at hx⟩
  | (h', b) :: r, y, p, s, ⟨h1, h2, h3, h4, h5⟩ => by
    obtain ⟨g1, g2⟩ := Chain.srcs h5
    have hl := (Chain.lt h5).1
    rw [List.pairwise_cons] at g1
    refine ⟨?_, fun x hx => ?_⟩
    · rw [List.map_cons, List.pairwise_cons, List.pairwise_cons]
      refine ⟨fun x hx => ?_, fun x hx => ?_, g1.2⟩
      · rcases List.mem_cons.1 hx with rfl | hx
        · exact h1
        · have := (g2 x hx).2.1; show y < x; omega
      · have := (g2 x hx).2.1; show h' < x; omega
    · rw [List.map_cons] at hx
      rcases List.mem_cons.1 hx with rfl | hx
      · exact ⟨h3, h1, by show x ≤ top b r; omega⟩
      · obtain ⟨q1, q2, q3⟩ := g2 x hx
        exact ⟨q1, by omega, q3⟩
theorem asc_len : ∀ (l t : List Int), l.Pairwise (· < ·) → (∀ x ∈ l, x ∈ t) → l.length ≤ t.length
  | [], t, _, _ => Nat.zero_le _
  | x :: l, t, h, hs => by
    rw [List.pairwise_cons] at h
    have hx := hs x (by simp)
    have := asc_len l (t.erase x) h.2 fun z hz => by
      rw [List.mem_erase_of_ne (by have := h.1 z hz; omega)]
      exact hs z (List.mem_cons_of_mem _ hz)
    rw [List.length_erase_of_mem hx] at this
    have hp : 0 < t.length := List.length_pos_of_mem hx
    simp only [List.length_cons]
    omega

/-- what it takes, at most, from states that are there, by so many slots -/
def Opt (S : Nat) (A : Int → Prop) (p x : Int) : Prop :=
  (p = 0 ∧ 0 ≤ x) ∨ (p = 1 ∧ A 0 ∧ 0 ≤ x) ∨
  (0 < p ∧ A 0 ∧ 1 ≤ S ∧ ∃ r, Chain A 0 r p (S - 1) ∧ val 0 r p (S - 1) ≤ x) ∨
  (2 ≤ p ∧ A 0 ∧ 1 ≤ S ∧ ∃ r h, Chain A 0 r (p - 1) (S - 1) ∧ top 0 r < h ∧ h ≤ p - 1 ∧ A h ∧ (p - 1 - h) + val 0 r (p - 1) (S - 1) ≤ x)
theorem Opt.mono {S : Nat} {A B : Int → Prop} {p x : Int} (hAB : ∀ x, A x → B x) (h : Opt S A p x) : Opt S B p x := by
  rcases h with h | ⟨h1, h2, h3⟩ | ⟨h1, h2, h3, r, h4, h5⟩ | ⟨h1, h2, h3, r, z, h4, h5, h6, h7, h8⟩
  · exact .inl h
  · exact .inr (.inl ⟨h1, hAB _ h2, h3⟩)
  · exact .inr (.inr (.inl ⟨h1, hAB _ h2, h3, r, h4.mono hAB, h5⟩))
  · exact .inr (.inr (.inr ⟨h1, hAB _ h2, h3, r, z, h4.mono hAB, h5, h6, hAB _ h7, h8⟩))
theorem Opt.advance {S : Nat} {H : Int → Prop} {a z p x : Int} (ha : 0 ≤ a) (haz : a < z) (h : Opt S (fun x => H x ∨ x = z) p x) : Opt S (fun x => H x ∨ x = a) p (x + (z - a)) := by
  have h0 : ∀ {P : Int → Prop}, (H 0 ∨ (0 : Int) = z) → H 0 ∨ (0 : Int) = a := fun h => .inl (h.resolve_right (by omega))
  rcases h with h | ⟨h1, h2, h3⟩ | ⟨h1, h2, h3, r, h4, h5⟩ | ⟨h1, h2, h3, r, y, h4, h5, h6, h7, h8⟩
  · exact .inl ⟨h.1, by omega⟩
  · exact .inr (.inl ⟨h1, h0 (P := H) h2, by omega⟩)
  · obtain ⟨r', g1, g2, _⟩ := h4.move haz
    exact .inr (.inr (.inl ⟨h1, h0 (P := H) h2, h3, r', g1, by omega⟩))
  · by_cases hH : H y
    · obtain ⟨r', g1, g2, g3⟩ := h4.move haz
      exact .inr (.inr (.inr ⟨h1, h0 (P := H) h2, h3, r', y, g1, by omega, h6, .inl hH, by omega⟩))
    · have hy : y = z := h7.resolve_left hH
      have g := (h4.below (by omega)).mono (B := fun x => H x ∨ x = a) fun x hx => .inl hx
      by_cases ht : top 0 r < a
      · exact .inr (.inr (.inr ⟨h1, h0 (P := H) h2, h3, r, a, g, ht, by omega, .inr rfl, by omega⟩))
      · have hv := val_last g
        rw [show p - 1 + 1 = p by omega] at hv
        exact .inr (.inr (.inl ⟨by omega, h0 (P := H) h2, h3, r, g.up (by have := g.lt; omega), by omega⟩))
theorem Opt.back {tags : List Int} {a p x : Int} (hp : 1 ≤ p) (ha : a = p - 1) (h : Opt tags.length (fun x => (0 ≤ x ∧ x ∈ tags) ∨ x = a) (p - 1) x) : Opt tags.length (fun x => (0 ≤ x ∧ x ∈ tags) ∨ x = a) p x := by
  subst ha
  rcases h with ⟨h1, h2⟩ | ⟨h1, h2, h3⟩ | ⟨h1, h2, h3, r, h4, h5⟩ | ⟨h1, h2, h3, r, y, h4, h5, h6, h7, h8⟩
  · exact .inr (.inl ⟨by omega, .inr (by omega), h2⟩)
  · have hS : 1 ≤ tags.length := by
      rcases h2 with h2 | h2
      · have := List.length_pos_of_mem h2.2; omega
      · omega
    refine .inr (.inr (.inr ⟨by omega, h2, hS, [], p - 1, by show (0 : Int) < p - 1; omega, by show (0 : Int) < p - 1; omega, Int.le_refl _, .inr rfl, ?_⟩))
    simp only [val]
    rw [show p - 1 - 0 = 1 by omega, tq_one]
    omega
  · exact .inr (.inr (.inr ⟨by omega, h2, h3, r, p - 1, h4, h4.lt.2, Int.le_refl _, .inr rfl, by omega⟩))
  · obtain ⟨g1, g2⟩ := h4.srcs
    have hroom : r.length < tags.length - 1 := by
      have := asc_len ((0 :: r.map (·.1)) ++ [y]) tags (by
        rw [List.pairwise_append]
        refine ⟨g1, by simp, fun u hu v hv => ?_⟩
        rw [List.mem_singleton] at hv
        subst hv
        rcases List.mem_cons.1 hu with rfl | hu
        · have := h4.lt.1; omega
        · have := (g2 u hu).2.2; omega) fun u hu => by
        have key : ∀ u, ((0 ≤ u ∧ u ∈ tags) ∨ u = p - 1) → u < p - 1 → u ∈ tags := fun u h1 h2 => (h1.resolve_right (by omega)).2
        rcases List.mem_append.1 hu with hu | hu
        · rcases List.mem_cons.1 hu with rfl | hu
          · exact key 0 h2 (by omega)
          · have := g2 u hu
            exact key u this.1 (by omega)
        · rw [List.mem_singleton] at hu
          subst hu
          exact key u h7 (by omega)
      simp only [List.length_append, List.length_cons, List.length_map, List.length_nil] at this
      omega
    rcases Chain.keep (h := y) (p := p - 1 - 1) h6 h7 h4 h5 hroom with g | ⟨r', k1, k2, k3⟩
    · rw [show p - 1 - 1 + 1 = p - 1 by omega] at g
      exact .inr (.inr (.inr ⟨by omega, h2, h3, r, p - 1, h4.up (by have := h4.lt; omega), by have := h4.lt; omega, Int.le_refl _, .inr rfl, by omega⟩))
    · rw [show p - 1 - 1 + 1 = p - 1 by omega] at k1 k2 k3
      exact .inr (.inr (.inr ⟨by omega, h2, h3, r', p - 1, k1, k3, Int.le_refl _, .inr rfl, by omega⟩))
/-- the states of a machine that are there -/
def av (m : St) (x : Int) : Prop := (0 ≤ x ∧ x ∈ m.tags) ∨ x = m.at_
def pe (m : St) : Int := if m.pend < 0 then m.l else m.pend
theorem mem_of_set {l : List Int} {k : Nat} {v x : Int} (h : x ∈ l.set k v) : x ∈ l ∨ x = v := List.mem_or_eq_of_mem_set h
theorem step_opt {m : St} (hI : Mc.Inv m) {k n x : Int} (h : (Mc.step m k n).2 = 0) (hO : Opt m.tags.length (av (Mc.step m k n).1) (pe (Mc.step m k n).1) x) :
    Opt m.tags.length (av m) (pe m) (x + ((Mc.step m k n).1.tot - m.tot)) := by
  revert h hO
  unfold Mc.step
  by_cases h1 : Mc.right k n = false ∨ 7 < k
  · rw [if_pos h1]; intro h; simp at h
  rw [if_neg h1]
  have hr : Mc.right k n = true := by
    cases e : Mc.right k n
    · exact absurd (Or.inl e) h1
    · rfl
  by_cases c2 : 2 ≤ k ∧ k ≤ 4 ∧ (m.tags.length : Int) ≤ n
  · rw [if_pos c2]; intro h; simp at h
  rw [if_neg c2]
  by_cases e1 : k = 1
  · rw [if_pos e1]
    have hn := Mc.right_one hr e1
    split
    · intro h; simp at h
    · intro _ hO
      have := Opt.advance (H := fun x => 0 ≤ x ∧ x ∈ m.tags) (a := m.at_) (z := m.at_ + n) hI.a0 (by omega) hO
      have e : x + ((m.tot + n) - m.tot) = x + (m.at_ + n - m.at_) := by omega
      show Opt _ _ _ (x + ((m.tot + n) - m.tot))
      rw [e]
      exact this
  rw [if_neg e1]
  by_cases e2 : k = 2
  · rw [if_pos e2]
    split
    · intro h; simp at h
    · intro _ hO
      show Opt _ _ _ (x + (m.tot - m.tot))
      rw [Int.sub_self, Int.add_zero]
      refine hO.mono fun z hz => ?_
      rcases hz with ⟨z0, z1⟩ | rfl
      · rcases mem_of_set z1 with z2 | rfl
        · exact .inl ⟨z0, z2⟩
        · exact .inr rfl
      · exact .inr rfl
  rw [if_neg e2]
  by_cases e3 : k = 3
  · rw [if_pos e3]
    have hn := Mc.right_slot hr (by omega) (by omega)
    split
    · intro h; simp at h
    · rename_i ht
      intro _ hO
      show Opt _ _ _ (x + (m.tot - m.tot))
      rw [Int.sub_self, Int.add_zero]
      refine hO.mono fun z hz => ?_
      rcases hz with hz | hz
      · exact .inl hz
      · have hz' : z = m.tag n := hz
        refine .inl ⟨by omega, ?_⟩
        rw [hz']
        have hlt : n.toNat < m.tags.length := by omega
        show m.tags.getD n.toNat 0 ∈ m.tags
        rw [List.getD_eq_getElem?_getD, List.getElem?_eq_getElem hlt]
        exact List.getElem_mem hlt
  rw [if_neg e3]
  by_cases e4 : k = 4
  · rw [if_pos e4]
    split
    · intro h; simp at h
    · intro _ hO
      show Opt _ _ _ (x + (m.tot - m.tot))
      rw [Int.sub_self, Int.add_zero]
      refine hO.mono fun z hz => ?_
      rcases hz with ⟨z0, z1⟩ | rfl
      · rcases mem_of_set z1 with z2 | rfl
        · exact .inl ⟨z0, z2⟩
        · omega
      · exact .inr rfl
  rw [if_neg e4]
  have hbk : ∀ (p : Int), 1 ≤ p → m.at_ = p - 1 → pe m = p → Opt m.tags.length (av { m with pend := m.at_ }) (pe { m with pend := m.at_ }) x → Opt m.tags.length (av m) (pe m) (x + (m.tot - m.tot)) := fun p hp ha he hO => by
    rw [Int.sub_self, Int.add_zero, he]
    have e5 : pe { m with pend := m.at_ } = p - 1 := by
      unfold pe
      show (if m.at_ < 0 then m.l else m.at_) = _
      rw [if_neg (by omega)]; exact ha
    rw [e5] at hO
    exact Opt.back hp ha hO
  by_cases e5 : k = 5
  · rw [if_pos e5]
    unfold Mc.begin_
    split
    · intro h; simp at h
    · split
      · intro h; simp at h
      · rename_i q1 q2
        intro _ hO
        show Opt _ _ _ (x + (m.tot - m.tot))
        rw [Int.sub_self, Int.add_zero]
        have e6 : pe { m with pend := m.at_ } = pe m := by
          unfold pe
          show (if m.at_ < 0 then m.l else m.at_) = if m.pend < 0 then m.l else m.pend
          have := hI.a0
          rw [if_neg (by omega), if_pos (by omega)]
          omega
        rw [← e6]
        exact hO
  rw [if_neg e5]
  by_cases e6 : k = 6
  · rw [if_pos e6]
    unfold Mc.begin_
    split
    · intro h; simp at h
    · split
      · intro h; simp at h
      · rename_i q1 q2
        intro _ hO
        have := hI.a0
        exact hbk m.l (by omega) (by omega) (by unfold pe; rw [if_pos (by omega)]) hO
  rw [if_neg e6]
  unfold Mc.reverse
  split
  · intro h; simp at h
  · split
    · intro h; simp at h
    · rename_i q1 q2
      intro _ hO
      exact hbk m.pend (by omega) (by omega) (by unfold pe; rw [if_neg (by omega)]) hO
theorem does_opt : ∀ {L : List Mc.Act} {m m' : St}, Does m L m' → Mc.Inv m → m'.pend = 0 → Opt m.tags.length (av m) (pe m) (m'.tot - m.tot)
  | [], m, m', h, hI, hp => by
    cases h
    exact .inl ⟨by unfold pe; rw [if_neg (by omega)]; exact hp, by omega⟩
  | a :: L, m, m', ⟨h2, h3⟩, hI, hp => by
    have ih := does_opt h3 (hI.step _ _) hp
    rw [Mc.step_len] at ih
    have := step_opt hI h2 ih
    rwa [show m'.tot - (Mc.step m a.1 a.2).1.tot + ((Mc.step m a.1 a.2).1.tot - m.tot) = m'.tot - m.tot by omega] at this
/-- NO LIST DOES FEWER -/
theorem least {l : Int} {n : Nat} {L : List Mc.Act} {m' : St} (l0 : 0 ≤ l) (l1 : l < 65536) (hn : n ≤ 1048576) (h : Does (Mc.new l n) L m') (hp : m'.pend = 0) :
    (1 ≤ n → Ch.tt l.toNat n ≤ m'.tot) ∧ (n = 0 → l ≤ 1) ∧ 0 ≤ m'.tot := by
  have hO := does_opt h (Mc.new_inv l n l0 l1 hn) hp
  have e1 : pe (Mc.new l n) = l := rfl
  have e2 : (Mc.new l n).tags.length = n := by simp [Mc.new]
  have e3 : (Mc.new l n).tot = 0 := rfl
  have hA : ∀ x, av (Mc.new l n) x → x = 0 := fun x hx => by
    rcases hx with ⟨h0, h1⟩ | h1
    · obtain ⟨_, rfl⟩ := List.mem_replicate.1 h1; omega
    · exact h1
  rw [e1, e2, e3, Int.sub_zero] at hO
  rcases hO with ⟨h1, h2⟩ | ⟨h1, h2, h3⟩ | ⟨h1, h2, h3, r, h4, h5⟩ | ⟨h1, h2, h3, r, y, h4, h5, h6, h7, h8⟩
  · subst h1
    exact ⟨fun _ => by rw [show (0 : Int).toNat = 0 from rfl, Rv.tt_0]; exact h2, fun _ => by omega, h2⟩
  · subst h1
    exact ⟨fun _ => by rw [show (1 : Int).toNat = 1 from rfl, Rv.tt_1]; exact h3, fun _ => by omega, h3⟩
  · cases r with
    | nil =>
      simp only [val] at h5
      rw [Int.sub_zero, show n - 1 + 1 = n by omega] at h5
      have := tq_nn l h3
      exact ⟨fun _ => h5, fun h0 => by omega, by omega⟩
    | cons x r =>
      obtain ⟨h', b⟩ := x
      obtain ⟨q1, _, q3, _⟩ := h4
      have := hA h' q3
      omega
  · have := hA y h7
    have := h4.lt.1
    omega
end Lb
end Go.Proofs.Ytgadkelldbibgaa

/- best.Search in plain terms: keys, alike machines, the search. No program. -/
namespace Go.Proofs.Ytgadkelldbibgaa

/-- a key: where the state is, what is pending, the three tags in order -/
structure Ky where
  at_ : Int
  pend : Int
  x : Int
  y : Int
  z : Int
deriving DecidableEq

def pad3 (t : List Int) : List Int := [t.getD 0 (-2), t.getD 1 (-2), t.getD 2 (-2)]

def kof (a p : Int) (tags : List Int) : Ky :=
  match (pad3 tags).mergeSort (fun i j => decide (i ≤ j)) with
  | [x, y, z] => ⟨a, p, x, y, z⟩
  | _ => ⟨a, p, 0, 0, 0⟩

theorem sort3_eq (t : List Int) : ∃ x y z, (pad3 t).mergeSort (fun i j => decide (i ≤ j)) = [x, y, z] := by
  have hl : ((pad3 t).mergeSort (fun i j => decide (i ≤ j))).length = 3 := by simp [pad3]
  match h : (pad3 t).mergeSort (fun i j => decide (i ≤ j)), hl with
  | [x', y', z'], _ => exact ⟨x', y', z', rfl⟩

theorem kof_perm {a p : Int} {t u : List Int} (h : (pad3 t).Perm (pad3 u)) : kof a p t = kof a p u := by
  have e : (pad3 t).mergeSort (fun i j => decide (i ≤ j)) = (pad3 u).mergeSort (fun i j => decide (i ≤ j)) := by
    have tr : ∀ (a b c : Int), decide (a ≤ b) = true → decide (b ≤ c) = true → decide (a ≤ c) = true := fun a b c h1 h2 => by
      simp only [decide_eq_true_eq] at *; omega
    have to : ∀ (a b : Int), (decide (a ≤ b) || decide (b ≤ a)) = true := fun a b => by
      simp only [Bool.or_eq_true, decide_eq_true_eq]; omega
    refine List.Perm.eq_of_pairwise (le := fun i j => decide (i ≤ j) = true) (fun a b _ _ h1 h2 => ?_) (List.pairwise_mergeSort tr to _) (List.pairwise_mergeSort tr to _) ?_
    · simp only [decide_eq_true_eq] at h1 h2; omega
    · exact ((List.mergeSort_perm _ _).trans h).trans (List.mergeSort_perm _ _).symm
  unfold kof
  rw [e]

theorem kof_inj {a p a' p' : Int} {t u : List Int} (h : kof a p t = kof a' p' u) : a = a' ∧ p = p' ∧ (pad3 t).Perm (pad3 u) := by
  obtain ⟨x, y, z, e⟩ := sort3_eq t
  obtain ⟨x', y', z', e'⟩ := sort3_eq u
  unfold kof at h
  rw [e, e'] at h
  simp only [Ky.mk.injEq] at h
  obtain ⟨h1, h2, rfl, rfl, rfl⟩ := h
  refine ⟨h1, h2, ?_⟩
  have p1 := List.mergeSort_perm (pad3 t) (fun i j => decide (i ≤ j))
  have p2 := List.mergeSort_perm (pad3 u) (fun i j => decide (i ≤ j))
  rw [e] at p1
  rw [e'] at p2
  exact p1.symm.trans p2

theorem perm_cons_erase : ∀ (l : List Int) (i : Nat) (h : i < l.length), l.Perm (l[i] :: l.eraseIdx i)
  | a :: l, 0, _ => by simp
  | a :: l, i + 1, h => by
    have := perm_cons_erase l i (by simpa using h)
    simp only [List.getElem_cons_succ, List.eraseIdx_cons_succ]
    exact (List.Perm.cons a this).trans (List.Perm.swap _ _ _)

theorem perm_set {p q : List Int} (h : p.Perm q) {i j : Nat} (hi : i < p.length) (hj : j < q.length) (e : p[i] = q[j]) (u : Int) : (p.set i u).Perm (q.set j u) := by
  have h1 := perm_cons_erase p i hi
  have h2 := perm_cons_erase q j hj
  have h3 : (p.eraseIdx i).Perm (q.eraseIdx j) := by
    have := (h1.symm.trans h).trans h2
    rw [e] at this
    exact (List.perm_cons _).1 this
  have h4 := perm_cons_erase (p.set i u) i (by simpa using hi)
  have h5 := perm_cons_erase (q.set j u) j (by simpa using hj)
  simp only [List.getElem_set_self, List.eraseIdx_set_eq] at h4 h5
  exact (h4.trans (List.Perm.cons u h3)).trans h5.symm

theorem pad3_set {t : List Int} {i : Nat} (hi : i < t.length) (h3 : t.length ≤ 3) (u : Int) : pad3 (t.set i u) = (pad3 t).set i u := by
  match t, i, hi, h3 with
  | [a], 0, _, _ => rfl
  | [a, b], 0, _, _ => rfl
  | [a, b], 1, _, _ => rfl
  | [a, b, c], 0, _, _ => rfl
  | [a, b, c], 1, _, _ => rfl
  | [a, b, c], 2, _, _ => rfl

theorem pad3_get {t : List Int} {i : Nat} (hi : i < t.length) (h3 : t.length ≤ 3) : (pad3 t)[i]'(by simp [pad3]; omega) = t[i] := by
  match t, i, hi, h3 with
  | [a], 0, _, _ => rfl
  | [a, b], 0, _, _ => rfl
  | [a, b], 1, _, _ => rfl
  | [a, b, c], 0, _, _ => rfl
  | [a, b, c], 1, _, _ => rfl
  | [a, b, c], 2, _, _ => rfl

theorem pad3_over {t : List Int} {i : Nat} (hi : t.length ≤ i) (h3 : i < 3) : (pad3 t)[i]'(by simp [pad3]; omega) = -2 := by
  match t, i, hi, h3 with
  | [], 0, _, _ => rfl
  | [], 1, _, _ => rfl
  | [], 2, _, _ => rfl
  | [a], 1, _, _ => rfl
  | [a], 2, _, _ => rfl
  | [a, b], 2, _, _ => rfl
  | _ :: _ :: _ :: _, _, hi, h3 => simp at hi; omega

/-- the slot of one that answers a slot of the other -/
theorem slot_of {t u : List Int} (h : (pad3 t).Perm (pad3 u)) (ht : t.length ≤ 3) (hu : u.length ≤ 3) (hn : ∀ x ∈ t, -1 ≤ x) {i : Nat} (hi : i < t.length) :
    ∃ j, ∃ hj : j < u.length, u[j] = t[i] ∧ ∀ x, (pad3 (t.set i x)).Perm (pad3 (u.set j x)) := by
  have hi3 : i < (pad3 t).length := by simp [pad3]; omega
  have hm : (pad3 t)[i] ∈ pad3 u := h.mem_iff.1 (List.getElem_mem hi3)
  obtain ⟨j, hj3, e⟩ := List.getElem_of_mem hm
  rw [pad3_get hi ht] at e
  have hj : j < u.length := by
    rcases Nat.lt_or_ge j u.length with hlt | hge
    · exact hlt
    · have h2 := pad3_over hge (by simpa [pad3] using hj3)
      have := hn _ (List.getElem_mem hi)
      rw [e] at h2
      omega
  refine ⟨j, hj, ?_, fun x => ?_⟩
  · rw [← e, pad3_get hj hu]
  · rw [pad3_set hi ht, pad3_set hj hu]
    refine perm_set h hi3 hj3 ?_ x
    rw [e, pad3_get hi ht]

namespace Sx
open Mc

def km (m : St) : Ky := kof m.at_ m.pend m.tags
/-- an action that the search tries -/
def unit (s : Nat) (k n : Int) : Prop := (k = 1 ∧ n = 1) ∨ (2 ≤ k ∧ k ≤ 4 ∧ 0 ≤ n ∧ n < s) ∨ (5 ≤ k ∧ k ≤ 7 ∧ n = 0)

theorem getD_at {t : List Int} {i : Nat} (hi : i < t.length) (d : Int) : t.getD i d = t[i] := by simp [hi]

theorem step1 (m : St) : Mc.step m 1 1 = if m.l - m.at_ < 1 then (m, 17) else ({ m with at_ := m.at_ + 1, tot := m.tot + 1 }, 0) := by
  simp [Mc.step, right]
theorem step2 {m : St} {n : Int} (h0 : 0 ≤ n) (h1 : n < m.tags.length) (h2 : m.tags.length ≤ 1048576) : Mc.step m 2 n = if 0 ≤ m.tag n then (m, 15) else ({ m with tags := m.tags.set n.toNat m.at_ }, 0) := by
  have hr : right 2 n = true := by simp [right, h0]; omega
  unfold Mc.step
  rw [if_neg (by rw [hr]; simp), if_neg (by omega), if_neg (by omega), if_pos rfl]
theorem step3 {m : St} {n : Int} (h0 : 0 ≤ n) (h1 : n < m.tags.length) (h2 : m.tags.length ≤ 1048576) : Mc.step m 3 n = if m.tag n < 0 then (m, 16) else ({ m with at_ := m.tag n }, 0) := by
  have hr : right 3 n = true := by simp [right, h0]; omega
  unfold Mc.step
  rw [if_neg (by rw [hr]; simp), if_neg (by omega), if_neg (by omega), if_neg (by omega), if_pos rfl]
theorem step4 {m : St} {n : Int} (h0 : 0 ≤ n) (h1 : n < m.tags.length) (h2 : m.tags.length ≤ 1048576) : Mc.step m 4 n = if m.tag n < 0 then (m, 16) else ({ m with tags := m.tags.set n.toNat (-1) }, 0) := by
  have hr : right 4 n = true := by simp [right, h0]; omega
  unfold Mc.step
  rw [if_neg (by rw [hr]; simp), if_neg (by omega), if_neg (by omega), if_neg (by omega), if_neg (by omega), if_pos rfl]
theorem step5 (m : St) : Mc.step m 5 0 = Mc.begin_ m 0 := by simp [Mc.step, right]
theorem step6 (m : St) : Mc.step m 6 0 = Mc.begin_ m 1 := by simp [Mc.step, right]
theorem step7 (m : St) : Mc.step m 7 0 = Mc.reverse m := by simp [Mc.step, right]

/-- ALIKE MACHINES DO ALIKE -/
theorem alike {m x : St} (hI : Inv m) (hl : m.l = x.l) (hk : km m = km x) (hm : m.tags.length ≤ 3) (hx : x.tags.length = m.tags.length) {k n : Int} (hu : unit m.tags.length k n) (h : (Mc.step m k n).2 = 0) :
    ∃ k' n', unit m.tags.length k' n' ∧ (Mc.step x k' n').2 = 0 ∧ km (Mc.step x k' n').1 = km (Mc.step m k n).1 ∧ (Mc.step x k' n').1.tot - x.tot = (Mc.step m k n).1.tot - m.tot := by
  obtain ⟨ea, ep, hp⟩ := kof_inj hk
  have hnn : ∀ y ∈ m.tags, -1 ≤ y := fun y hy => (hI.tg y hy).1
  have slot : ∀ n : Int, 0 ≤ n → n < m.tags.length → ∃ n' : Int, 0 ≤ n' ∧ n' < m.tags.length ∧ x.tag n' = m.tag n ∧ ∀ y, (pad3 (x.tags.set n'.toNat y)).Perm (pad3 (m.tags.set n.toNat y)) := fun n h0 h1 => by
    obtain ⟨j, hj, e, hs⟩ := slot_of hp hm (by omega) hnn (i := n.toNat) (by omega)
    refine ⟨j, by omega, by omega, ?_, fun y => ?_⟩
    · unfold St.tag
      rw [Int.toNat_natCast, getD_at hj, getD_at (show n.toNat < m.tags.length by omega), e]
    · rw [Int.toNat_natCast]
      exact (hs y).symm
  rcases hu with ⟨rfl, rfl⟩ | ⟨h2, h4, h0, h1⟩ | ⟨h5, h7, rfl⟩
  · refine ⟨1, 1, .inl ⟨rfl, rfl⟩, ?_⟩
    rw [step1] at h ⊢
    rw [step1]
    rw [← hl, ← ea]
    by_cases hc : m.l - m.at_ < 1
    · rw [if_pos hc] at h; simp at h
    · simp only [if_neg hc]
      refine ⟨by trivial, ?_, by omega⟩
      unfold km
      simp only [← ep]
      exact kof_perm hp.symm
  · obtain ⟨n', g0, g1, g2, g3⟩ := slot n h0 h1
    rcases (show k = 2 ∨ k = 3 ∨ k = 4 by omega) with rfl | rfl | rfl
    · refine ⟨2, n', .inr (.inl ⟨by omega, by omega, g0, g1⟩), ?_⟩
      rw [step2 h0 h1 (by omega)] at h ⊢
      rw [step2 g0 (by omega) (by omega), g2]
      by_cases hc : 0 ≤ m.tag n
      · rw [if_pos hc] at h; simp at h
      · simp only [if_neg hc]
        refine ⟨by trivial, ?_, by omega⟩
        unfold km
        simp only [← ep, ← ea]
        exact kof_perm (g3 _)
    · refine ⟨3, n', .inr (.inl ⟨by omega, by omega, g0, g1⟩), ?_⟩
      rw [step3 h0 h1 (by omega)] at h ⊢
      rw [step3 g0 (by omega) (by omega), g2]
      by_cases hc : m.tag n < 0
      · rw [if_pos hc] at h; simp at h
      · simp only [if_neg hc]
        refine ⟨by trivial, ?_, by omega⟩
        unfold km
        simp only [← ep]
        exact kof_perm hp.symm
    · refine ⟨4, n', .inr (.inl ⟨by omega, by omega, g0, g1⟩), ?_⟩
      rw [step4 h0 h1 (by omega)] at h ⊢
      rw [step4 g0 (by omega) (by omega), g2]
      by_cases hc : m.tag n < 0
      · rw [if_pos hc] at h; simp at h
      · simp only [if_neg hc]
        refine ⟨by trivial, ?_, by omega⟩
        unfold km
        simp only [← ep, ← ea]
        exact kof_perm (g3 _)
  · refine ⟨k, 0, .inr (.inr ⟨h5, h7, rfl⟩), ?_⟩
    have hb : ∀ c : Int, (begin_ m c).2 = 0 → (begin_ x c).2 = 0 ∧ km (begin_ x c).1 = km (begin_ m c).1 ∧ (begin_ x c).1.tot - x.tot = (begin_ m c).1.tot - m.tot := fun c hc => by
      unfold begin_ at hc ⊢
      rw [← ep, ← ea, ← hl]
      by_cases q1 : m.pend ≠ -1
      · rw [if_pos q1] at hc; simp at hc
      · by_cases q2 : m.at_ ≠ m.l - c
        · rw [if_neg q1, if_pos q2] at hc; simp at hc
        · simp only [if_neg q1, if_neg q2]
          refine ⟨by trivial, ?_, by omega⟩
          exact kof_perm hp.symm
    rcases (show k = 5 ∨ k = 6 ∨ k = 7 by omega) with rfl | rfl | rfl
    · rw [step5] at h ⊢
      rw [step5]
      exact hb 0 h
    · rw [step6] at h ⊢
      rw [step6]
      exact hb 1 h
    · rw [step7] at h ⊢
      rw [step7]
      unfold Mc.reverse at h ⊢
      rw [← ep, ← ea]
      by_cases q1 : m.pend ≤ 0
      · rw [if_pos q1] at h; simp at h
      · by_cases q2 : m.at_ ≠ m.pend - 1
        · rw [if_neg q1, if_pos q2] at h; simp at h
        · simp only [if_neg q1, if_neg q2]
          refine ⟨by trivial, ?_, by omega⟩
          exact kof_perm hp.symm

end Sx
end Go.Proofs.Ytgadkelldbibgaa

/- best.Search in plain terms: what holds of it at any time. No program. -/
namespace Go.Proofs.Ytgadkelldbibgaa
namespace Sx
open Mc

/-- what is known of a key: a machine, and by which action from which key -/
structure Fp where
  m : St
  kind : Int
  n : Int
  from_ : Ky
  first : Bool

abbrev G := Ky → Option Fp
def put (g : G) (k : Ky) (f : Fp) : G := fun k' => if k' = k then some f else g k'

/-- all that f can do leads to what is known, by no more steps -/
def Shut (s : Nat) (g : G) (f : Fp) : Prop := ∀ a b, unit s a b → (Mc.step f.m a b).2 = 0 → ∃ f2, g (km (Mc.step f.m a b).1) = some f2 ∧ f2.m.tot ≤ (Mc.step f.m a b).1.tot

inductive Way (g : G) : Ky → List Mc.Act → Prop
  | first {k : Ky} {f : Fp} (h : g k = some f) (hf : f.first = true) : Way g k []
  | step {k : Ky} {f : Fp} {la : List Mc.Act} (h : g k = some f) (hf : f.first = false) (hw : Way g f.from_ la) : Way g k (la ++ [(f.kind, f.n)])

structure SI (l s : Nat) (T : Int) (near far : List Ky) (g : G) (cur : Option Ky) : Prop where
  t0 : 0 ≤ T
  good : ∀ k f, g k = some f → Inv f.m ∧ f.m.l = l ∧ f.m.tags.length = s ∧ km f.m = k ∧ f.m.tot ≤ T + 1
  start : ∃ f, g (km (new l s)) = some f ∧ f.m.tot ≤ 0
  org : ∀ k f, g k = some f → (f.first = true ∧ f.m = new l s) ∨ (f.first = false ∧ ∃ f', g f.from_ = some f' ∧ f'.m.tot ≤ T ∧ Mc.step f'.m f.kind f.n = (f.m, 0))
  way : ∀ k f, g k = some f → ∃ la, Way g k la
  nk : ∀ k ∈ near, ∃ f, g k = some f
  fk : ∀ k ∈ far, ∃ f, g k = some f
  lt : ∀ k f, g k = some f → f.m.tot < T → f.m.pend ≠ 0 ∧ Shut s g f
  eq : ∀ k f, g k = some f → f.m.tot = T → k ∈ near ∨ cur = some k ∨ (f.m.pend ≠ 0 ∧ Shut s g f)
  next : ∀ k f, g k = some f → f.m.tot = T + 1 → k ∈ far

theorem step_tot_le {m : St} (k n : Int) : m.tot ≤ (Mc.step m k n).1.tot := by
  unfold Mc.step
  split
  · exact Int.le_refl _
  rename_i h1
  split
  · exact Int.le_refl _
  split
  · rename_i h2
    have hr : right k n = true := by
      cases e : right k n
      · exact absurd (Or.inl e) h1
      · rfl
    have := right_one hr h2
    split
    · exact Int.le_refl _
    · simp only; omega
  split
  · split <;> exact Int.le_refl _
  split
  · split <;> exact Int.le_refl _
  split
  · split <;> exact Int.le_refl _
  split
  · unfold begin_; split
    · exact Int.le_refl _
    · split <;> exact Int.le_refl _
  split
  · unfold begin_; split
    · exact Int.le_refl _
    · split <;> exact Int.le_refl _
  · unfold Mc.reverse; split
    · exact Int.le_refl _
    · split <;> exact Int.le_refl _

theorem unit_tot {s : Nat} {m : St} {k n : Int} (h : unit s k n) (e : (Mc.step m k n).2 = 0) : (Mc.step m k n).1.tot = m.tot + if k = 1 then 1 else 0 := by
  rcases h with ⟨rfl, rfl⟩ | ⟨h2, h4, _⟩ | ⟨h5, h7, rfl⟩
  · rw [step1] at e ⊢
    split at e
    · simp at e
    · rename_i hc
      rw [if_neg hc]
      simp
  · rw [if_neg (by omega)]
    unfold Mc.step
    rw [Int.add_zero]
    split
    · rfl
    split
    · rfl
    split
    · omega
    repeat' (first | rfl | (split))
    all_goals first | rfl | (unfold begin_; repeat' (first | rfl | split)) | (unfold Mc.reverse; repeat' (first | rfl | split))
  · rw [if_neg (by omega), Int.add_zero]
    rcases (show k = 5 ∨ k = 6 ∨ k = 7 by omega) with rfl | rfl | rfl
    · rw [step5]; unfold begin_; split
      · rfl
      · split <;> rfl
    · rw [step6]; unfold begin_; split
      · rfl
      · split <;> rfl
    · rw [step7]; unfold Mc.reverse; split
      · rfl
      · split <;> rfl

theorem Way.keep {g : G} {to : Ky} {nf : Fp} (hto : ∀ k f, g k = some f → f.first = false → f.from_ ≠ to) : ∀ {k : Ky} {la : List Mc.Act}, Way g k la → k ≠ to → Way (put g to nf) k la := by
  intro k la h
  induction h with
  | first h hf =>
    intro hk
    exact .first (by unfold put; rw [if_neg hk]; exact h) hf
  | step h hf _ ih =>
    intro hk
    exact .step (by unfold put; rw [if_neg hk]; exact h) hf (ih (hto _ _ h hf))

theorem SI.does {l s : Nat} {T : Int} {near far : List Ky} {g : G} {cur : Option Ky} (h : SI l s T near far g cur) : ∀ {k : Ky} {la : List Mc.Act} {f : Fp}, Way g k la → g k = some f → Does (new l s) la f.m := by
  intro k la f hw
  induction hw generalizing f with
  | first h1 hf =>
    intro hk
    rw [h1] at hk
    cases hk
    rcases h.org _ _ h1 with ⟨_, e⟩ | ⟨e, _⟩
    · exact e
    · rw [hf] at e; cases e
  | step h1 hf _ ih =>
    intro hk
    rw [h1] at hk
    cases hk
    rcases h.org _ _ h1 with ⟨e, _⟩ | ⟨_, f', e1, _, e3⟩
    · rw [hf] at e; cases e
    · refine Does.trans (ih e1) ⟨by rw [e3], ?_⟩
      simp only [e3]
      exact rfl

/-- WHAT 'see' DOES -/
theorem SI.see {l s : Nat} {T : Int} {near far : List Ky} {g : G} {k : Ky} {f : Fp} (h : SI l s T near far g (some k)) (hk : g k = some f) (hT : f.m.tot = T) {a b : Int} (hu : unit s a b) {m' : St} (hs : Mc.step f.m a b = (m', 0))
    (hn : ∀ old, g (km m') = some old → m'.tot < old.m.tot) :
    SI l s T (if m'.tot = T then near ++ [km m'] else near) (if m'.tot = T then far else far ++ [km m']) (put g (km m') ⟨m', a, b, k, false⟩) (some k) := by
  have hI := (h.good k f hk).1
  have e1 : (Mc.step f.m a b).1 = m' := by rw [hs]
  have e2 : (Mc.step f.m a b).2 = 0 := by rw [hs]
  have ht := unit_tot hu e2
  rw [e1] at ht
  have ht1 : T ≤ m'.tot ∧ m'.tot ≤ T + 1 := by
    rw [ht]; split <;> omega
  have hne : k ≠ km m' := fun hh => by
    have := hn f (by rw [← hh]; exact hk)
    omega
  have hfrom : ∀ q fq, g q = some fq → fq.first = false → fq.from_ ≠ km m' := fun q fq hq hf hh => by
    rcases h.org q fq hq with ⟨e, _⟩ | ⟨_, f', h1, h2, _⟩
    · rw [hf] at e; cases e
    · rw [hh] at h1
      have := hn f' h1
      omega
  have hput : ∀ q, q ≠ km m' → put g (km m') ⟨m', a, b, k, false⟩ q = g q := fun q hq => by unfold put; rw [if_neg hq]
  have hself : put g (km m') ⟨m', a, b, k, false⟩ (km m') = some ⟨m', a, b, k, false⟩ := by unfold put; rw [if_pos rfl]
  have hshut : ∀ x, Shut s g x → Shut s (put g (km m') ⟨m', a, b, k, false⟩) x := fun x hx a' b' hu' he' => by
    obtain ⟨f2, g1, g2⟩ := hx a' b' hu' he'
    by_cases hh : km (Mc.step x.m a' b').1 = km m'
    · rw [hh, hself]
      rw [hh] at g1
      have := hn f2 g1
      exact ⟨_, rfl, by show m'.tot ≤ _; omega⟩
    · exact ⟨f2, by rw [hput _ hh]; exact g1, g2⟩
  have hnear : ∀ q, q ∈ near → q ∈ (if m'.tot = T then near ++ [km m'] else near) := fun q hq => by
    split
    · exact List.mem_append.2 (.inl hq)
    · exact hq
  have hfar : ∀ q, q ∈ far → q ∈ (if m'.tot = T then far else far ++ [km m']) := fun q hq => by
    split
    · exact hq
    · exact List.mem_append.2 (.inl hq)
  have hex : ∀ q, (∃ fq, g q = some fq) → ∃ fq, put g (km m') ⟨m', a, b, k, false⟩ q = some fq := fun q ⟨fq, hq⟩ => by
    by_cases hh : q = km m'
    · subst hh; exact ⟨_, hself⟩
    · exact ⟨fq, by rw [hput _ hh]; exact hq⟩
  have hcase : ∀ q fq, put g (km m') ⟨m', a, b, k, false⟩ q = some fq → (q = km m' ∧ fq = ⟨m', a, b, k, false⟩) ∨ (q ≠ km m' ∧ g q = some fq) := fun q fq hq => by
    by_cases hh : q = km m'
    · subst hh
      rw [hself] at hq
      cases hq
      exact .inl ⟨rfl, rfl⟩
    · rw [hput _ hh] at hq
      exact .inr ⟨hh, hq⟩
  refine ⟨h.t0, fun q fq hq => ?_, ?_, fun q fq hq => ?_, fun q fq hq => ?_, fun q hq => ?_, fun q hq => ?_, fun q fq hq hlt => ?_, fun q fq hq heq => ?_, fun q fq hq heq => ?_⟩
  · rcases hcase q fq hq with ⟨rfl, rfl⟩ | ⟨_, hq'⟩
    · refine ⟨?_, ?_, ?_, rfl, ht1.2⟩
      · show Inv m'
        rw [← e1]; exact hI.step a b
      · show m'.l = l
        rw [← e1, step_l]; exact (h.good k f hk).2.1
      · show m'.tags.length = s
        rw [← e1, step_len]; exact (h.good k f hk).2.2.1
    · exact h.good q fq hq'
  · obtain ⟨f0, g0, g1⟩ := h.start
    by_cases hh : km (new l s) = km m'
    · rw [hh] at g0
      have := hn f0 g0
      have := h.t0
      omega
    · exact ⟨f0, by rw [hput _ hh]; exact g0, g1⟩
  · rcases hcase q fq hq with ⟨rfl, rfl⟩ | ⟨_, hq'⟩
    · exact .inr ⟨rfl, f, by rw [hput _ hne]; exact hk, by omega, hs⟩
    · rcases h.org q fq hq' with hh | ⟨hf, f', g1, g2, g3⟩
      · exact .inl hh
      · exact .inr ⟨hf, f', by rw [hput _ (hfrom q fq hq' hf)]; exact g1, g2, g3⟩
  · rcases hcase q fq hq with ⟨rfl, rfl⟩ | ⟨hh, hq'⟩
    · obtain ⟨la, hw⟩ := h.way k f hk
      exact ⟨_, .step hself rfl (hw.keep hfrom hne)⟩
    · obtain ⟨la, hw⟩ := h.way q fq hq'
      exact ⟨la, hw.keep hfrom hh⟩
  · by_cases hh : q = km m'
    · exact ⟨_, by rw [hh]; exact hself⟩
    · refine hex q (h.nk q ?_)
      split at hq
      · rcases List.mem_append.1 hq with hq | hq
        · exact hq
        · exact absurd (by simpa using hq) hh
      · exact hq
  · by_cases hh : q = km m'
    · exact ⟨_, by rw [hh]; exact hself⟩
    · refine hex q (h.fk q ?_)
      split at hq
      · exact hq
      · rcases List.mem_append.1 hq with hq | hq
        · exact hq
        · exact absurd (by simpa using hq) hh
  · rcases hcase q fq hq with ⟨rfl, rfl⟩ | ⟨hh, hq'⟩
    · exact absurd hlt (by show ¬ m'.tot < T; omega)
    · obtain ⟨g1, g2⟩ := h.lt q fq hq' hlt
      exact ⟨g1, hshut _ g2⟩
  · rcases hcase q fq hq with ⟨rfl, rfl⟩ | ⟨hh, hq'⟩
    · left
      rw [if_pos (show m'.tot = T from heq)]
      exact List.mem_append.2 (.inr (by simp))
    · rcases h.eq q fq hq' heq with g1 | g1 | ⟨g1, g2⟩
      · exact .inl (hnear q g1)
      · exact .inr (.inl g1)
      · exact .inr (.inr ⟨g1, hshut _ g2⟩)
  · rcases hcase q fq hq with ⟨rfl, rfl⟩ | ⟨hh, hq'⟩
    · have : m'.tot = T + 1 := heq
      rw [if_neg (by omega)]
      exact List.mem_append.2 (.inr (by simp))
    · exact hfar q (h.next q fq hq' heq)

/-- what is found again changes nothing -/
theorem SI.done {l s : Nat} {T : Int} {near far : List Ky} {g : G} {k : Ky} {f : Fp} (h : SI l s T near far g (some k)) (hk : g k = some f) (hp : f.m.pend ≠ 0) (hs : Shut s g f) : SI l s T near far g none :=
  ⟨h.t0, h.good, h.start, h.org, h.way, h.nk, h.fk, h.lt, fun q fq hq he => by
    rcases h.eq q fq hq he with g1 | g1 | g1
    · exact .inl g1
    · injection g1 with g1
      subst g1
      rw [hk] at hq
      cases hq
      exact .inr (.inr ⟨hp, hs⟩)
    · exact .inr (.inr g1), h.next⟩

/-- one is taken -/
theorem SI.take {l s : Nat} {T : Int} {near far : List Ky} {g : G} {k : Ky} (h : SI l s T (near ++ [k]) far g none) : SI l s T near far g (some k) :=
  ⟨h.t0, h.good, h.start, h.org, h.way, fun q hq => h.nk q (List.mem_append.2 (.inl hq)), h.fk, h.lt, fun q fq hq he => by
    rcases h.eq q fq hq he with g1 | g1 | g1
    · rcases List.mem_append.1 g1 with g1 | g1
      · exact .inl g1
      · exact .inr (.inl (by rw [List.mem_singleton.1 g1]))
    · cases g1
    · exact .inr (.inr g1), h.next⟩

/-- one that is old is left -/
theorem SI.skip {l s : Nat} {T : Int} {near far : List Ky} {g : G} {k : Ky} {f : Fp} (h : SI l s T near far g (some k)) (hk : g k = some f) (hT : f.m.tot ≠ T) : SI l s T near far g none :=
  ⟨h.t0, h.good, h.start, h.org, h.way, h.nk, h.fk, h.lt, fun q fq hq he => by
    rcases h.eq q fq hq he with g1 | g1 | g1
    · exact .inl g1
    · injection g1 with g1
      subst g1
      rw [hk] at hq
      cases hq
      exact absurd he hT
    · exact .inr (.inr g1), h.next⟩

/-- by one more -/
theorem SI.more {l s : Nat} {T : Int} {far : List Ky} {g : G} (h : SI l s T [] far g none) : SI l s (T + 1) far [] g none := by
  have h0 := h.t0
  refine ⟨by omega, fun k f hk => ?_, h.start, fun k f hk => ?_, h.way, h.fk, fun k hk => (by cases hk), fun k f hk hlt => ?_, fun k f hk he => .inl (h.next k f hk he), fun k f hk he => ?_⟩
  · obtain ⟨g1, g2, g3, g4, g5⟩ := h.good k f hk
    exact ⟨g1, g2, g3, g4, by omega⟩
  · rcases h.org k f hk with g1 | ⟨g1, f', g2, g3, g4⟩
    · exact .inl g1
    · exact .inr ⟨g1, f', g2, by omega, g4⟩
  · rcases Int.lt_or_le f.m.tot T with hlt2 | hge
    · exact h.lt k f hk hlt2
    · rcases h.eq k f hk (by omega) with g1 | g1 | g1
      · cases g1
      · cases g1
      · exact g1
  · have := (h.good k f hk).2.2.2.2
    omega

theorem SI.first (l s : Nat) (hl : l < 65536) (hs : s ≤ 3) : SI l s 0 [km (new l s)] [] (put (fun _ => none) (km (new l s)) ⟨new l s, 0, 0, ⟨0, 0, 0, 0, 0⟩, true⟩) none := by
  have hcase : ∀ k f, put (fun _ => none) (km (new l s)) ⟨new l s, 0, 0, ⟨0, 0, 0, 0, 0⟩, true⟩ k = some f → k = km (new l s) ∧ f = ⟨new l s, 0, 0, ⟨0, 0, 0, 0, 0⟩, true⟩ := fun k f h => by
    unfold put at h
    split at h
    · rename_i hk
      cases h
      exact ⟨hk, rfl⟩
    · cases h
  have hself : put (fun _ => none) (km (new l s)) ⟨new l s, 0, 0, ⟨0, 0, 0, 0, 0⟩, true⟩ (km (new l s)) = some ⟨new l s, 0, 0, ⟨0, 0, 0, 0, 0⟩, true⟩ := by unfold put; rw [if_pos rfl]
  refine ⟨by omega, fun k f h => ?_, ⟨_, hself, Int.le_refl 0⟩, fun k f h => ?_, fun k f h => ?_, fun k h => ?_, fun k h => (by cases h), fun k f h hlt => ?_, fun k f h he => ?_, fun k f h he => ?_⟩
  · obtain ⟨rfl, rfl⟩ := hcase k f h
    exact ⟨new_inv l s (by omega) (by omega) (by omega), rfl, by simp [new], rfl, by show (0 : Int) ≤ 0 + 1; omega⟩
  · obtain ⟨rfl, rfl⟩ := hcase k f h
    exact .inl ⟨rfl, rfl⟩
  · obtain ⟨rfl, rfl⟩ := hcase k f h
    exact ⟨[], .first h rfl⟩
  · rw [List.mem_singleton.1 h]
    exact ⟨_, hself⟩
  · obtain ⟨rfl, rfl⟩ := hcase k f h
    exact absurd hlt (by show ¬ (0 : Int) < 0; omega)
  · obtain ⟨rfl, rfl⟩ := hcase k f h
    exact .inl (by simp)
  · obtain ⟨rfl, rfl⟩ := hcase k f h
    exact absurd he (by show ¬ (0 : Int) = 0 + 1; omega)

/-- WHAT IS REACHED IS KNOWN -/
theorem reach {l s : Nat} (hs : s ≤ 3) {T : Int} {near far : List Ky} {g : G} {cur : Option Ky} (h : SI l s T near far g cur) (B : Int) (hB : ∀ k f, g k = some f → f.m.tot ≤ B → f.m.pend ≠ 0 ∧ Shut s g f) :
    ∀ {L : List Mc.Act} {m m' : St}, Does m L m' → (∀ a ∈ L, unit s a.1 a.2) → Inv m → m.l = l → m.tags.length = s → (∃ f, g (km m) = some f ∧ f.m.tot ≤ m.tot) → m'.tot ≤ B → ∃ f, g (km m') = some f ∧ f.m.tot ≤ m'.tot
  | [], m, m', hd, _, _, _, _, hf, _ => by cases hd; exact hf
  | a :: L, m, m', ⟨e, hd⟩, hu, hI, hl, hlen, ⟨f, hf, ht⟩, hb => by
    have hmono : ∀ {L : List Mc.Act} {m m' : St}, Does m L m' → m.tot ≤ m'.tot := by
      intro L
      induction L with
      | nil => intro m m' h; cases h; exact Int.le_refl _
      | cons a L ih => intro m m' h; exact Int.le_trans (step_tot_le _ _) (ih h.2)
    have h1 := hmono hd
    have h2 := step_tot_le (m := m) a.1 a.2
    obtain ⟨g1, g2, g3, g4, g5⟩ := h.good _ _ hf
    obtain ⟨_, hsh⟩ := hB _ _ hf (by omega)
    obtain ⟨k', n', q1, q2, q3, q4⟩ := alike hI (hl.trans g2.symm) g4.symm (by omega) (by omega) (k := a.1) (n := a.2) (by rw [hlen]; exact hu a (by simp)) e
    rw [hlen] at q1
    obtain ⟨f2, r1, r2⟩ := hsh k' n' q1 q2
    refine reach hs h B hB hd (fun b hb' => hu b (by simp [hb'])) (hI.step _ _) (by rw [step_l]; exact hl) (by rw [step_len]; exact hlen) ⟨f2, by rw [← q3]; exact r1, ?_⟩ hb
    omega

end Sx
end Go.Proofs.Ytgadkelldbibgaa

/- best.Search in plain terms: what it ends with, and that it ends. No program. -/
namespace Go.Proofs.Ytgadkelldbibgaa
namespace Sx
open Mc

theorem does_adv : ∀ (n : Nat) (m : St), (n : Int) ≤ m.l - m.at_ → Does m (List.replicate n (1, 1)) { m with at_ := m.at_ + n, tot := m.tot + n }
  | 0, m, _ => by
    show _ = m
    simp
  | n + 1, m, h => by
    have e := step1 m
    rw [if_neg (by omega)] at e
    refine ⟨by show (Mc.step m 1 1).2 = 0; rw [e], ?_⟩
    show Does (Mc.step m 1 1).1 (List.replicate n (1, 1)) _
    rw [e]
    have := does_adv n { m with at_ := m.at_ + 1, tot := m.tot + 1 } (by simp only; omega)
    simp only at this
    rw [show m.at_ + 1 + (n : Int) = m.at_ + ((n + 1 : Nat) : Int) by omega, show m.tot + 1 + (n : Int) = m.tot + ((n + 1 : Nat) : Int) by omega] at this
    exact this

theorem step_units {m : St} {k n : Int} (h : (Mc.step m k n).2 = 0) : ∃ L, Does m L (Mc.step m k n).1 ∧ ∀ a ∈ L, unit m.tags.length a.1 a.2 := by
  by_cases h1 : right k n = false ∨ 7 < k
  · unfold Mc.step at h
    rw [if_pos h1] at h
    simp at h
  have hr : right k n = true := by
    cases e : right k n
    · exact absurd (Or.inl e) h1
    · rfl
  have hk := right_lo hr
  by_cases e1 : k = 1
  · subst e1
    have hn := right_one hr rfl
    have e : Mc.step m 1 n = if m.l - m.at_ < n then (m, 17) else ({ m with at_ := m.at_ + n, tot := m.tot + n }, 0) := by
      unfold Mc.step
      rw [if_neg h1, if_neg (by omega), if_pos rfl]
    rw [e] at h ⊢
    by_cases hc : m.l - m.at_ < n
    · rw [if_pos hc] at h; simp at h
    · rw [if_neg hc]
      have := does_adv n.toNat m (by omega)
      rw [show ((n.toNat : Nat) : Int) = n by omega] at this
      refine ⟨_, this, fun a ha => ?_⟩
      obtain ⟨_, rfl⟩ := List.mem_replicate.1 ha
      exact .inl ⟨rfl, rfl⟩
  · refine ⟨[(k, n)], ⟨h, rfl⟩, fun a ha => ?_⟩
    rw [List.mem_singleton.1 ha]
    show unit _ k n
    by_cases h4 : k ≤ 4
    · have hn := right_slot hr (by omega) h4
      refine .inr (.inl ⟨by omega, h4, hn.1, ?_⟩)
      rcases Int.lt_or_le n m.tags.length with hlt | hge
      · exact hlt
      · unfold Mc.step at h
        rw [if_neg h1, if_pos ⟨by omega, h4, hge⟩] at h
        simp at h
    · have hn := right_none hr (by omega)
      exact .inr (.inr ⟨by omega, by omega, hn.1⟩)

theorem units : ∀ {L : List Mc.Act} {m m' : St}, Does m L m' → ∃ L', Does m L' m' ∧ ∀ a ∈ L', unit m.tags.length a.1 a.2
  | [], m, m', h => ⟨[], h, fun _ ha => (by cases ha)⟩
  | a :: L, m, m', ⟨e, h⟩ => by
    obtain ⟨L1, g1, g2⟩ := step_units e
    obtain ⟨L2, q1, q2⟩ := units h
    rw [step_len] at q2
    exact ⟨L1 ++ L2, Does.trans g1 q1, fun b hb => by
      rcases List.mem_append.1 hb with hb | hb
      · exact g2 b hb
      · exact q2 b hb⟩

/-- what is done is known as done -/
theorem reached {l s : Nat} (hl : l < 65536) (hs : s ≤ 3) {T : Int} {near far : List Ky} {g : G} {cur : Option Ky} (h : SI l s T near far g cur) {L : List Mc.Act} {m' : St} (hd : Does (new l s) L m') (hp : m'.pend = 0)
    (hB : ∀ k f, g k = some f → f.m.tot ≤ m'.tot → f.m.pend ≠ 0 ∧ Shut s g f) : False := by
  obtain ⟨L', g1, g2⟩ := units hd
  have hlen : (new l s).tags.length = s := by simp [new]
  rw [hlen] at g2
  obtain ⟨f0, q0, q1⟩ := h.start
  obtain ⟨f, r1, r2⟩ := reach hs h m'.tot hB g1 g2 (new_inv l s (by omega) (by omega) (by omega)) rfl hlen ⟨f0, q0, q1⟩ (Int.le_refl _)
  have h1 := (hB _ _ r1 r2).1
  have h2 := (h.good _ _ r1).2.2.2.1
  have h3 := (kof_inj h2).2.1
  exact h1 (h3.trans hp)

/-- THE TOTAL IS THE LEAST -/
theorem SI.total {l s : Nat} (hl : l < 65536) (hs : s ≤ 3) {T : Int} {near far : List Ky} {g : G} {cur : Option Ky} (h : SI l s T near far g cur) {L : List Mc.Act} {m' : St} (hd : Does (new l s) L m') (hp : m'.pend = 0) : T ≤ m'.tot := by
  rcases Int.lt_or_le m'.tot T with hlt | hge
  · exact (reached hl hs h hd hp fun k f hk hb => h.lt k f hk (by omega)).elim
  · exact hge

theorem SI.tt {l s : Nat} (hl : l < 65536) (hs : s ≤ 3) {T : Int} {near far : List Ky} {g : G} {k : Ky} {f : Fp} (h : SI l s T near far g (some k)) (hk : g k = some f) (hT : f.m.tot = T) (hp : f.m.pend = 0) : (1 ≤ s → T = Ch.tt l s) ∧ (s = 0 → l ≤ 1 ∧ T = 0) := by
  obtain ⟨la, hw⟩ := h.way k f hk
  have hd := h.does hw hk
  have hL := Lb.least (by omega) (by omega) (by omega) hd hp
  refine ⟨fun h1 => ?_, fun h0 => ?_⟩
  · have g1 := hL.1 h1
    rw [Int.toNat_natCast] at g1
    have g2 := h.total hl hs (Runs.does (Rv.rl_runs hl ⟨h1, by omega⟩)) rfl
    have : T ≤ Ch.tt l s := g2
    omega
  · have g1 := hL.2.1 h0
    have h00 := h.t0
    refine ⟨by omega, ?_⟩
    subst h0
    rcases (show l = 0 ∨ l = 1 by omega) with rfl | rfl
    · have := h.total hl hs (L := [(5, 0)]) (m' := (Mc.step (new (0 : Nat) 0) 5 0).1) ⟨rfl, rfl⟩ rfl
      have e : (Mc.step (new (0 : Nat) 0) 5 0).1.tot = 0 := rfl
      omega
    · have := h.total hl hs (L := [(6, 0)]) (m' := (Mc.step (new (1 : Nat) 0) 6 0).1) ⟨rfl, rfl⟩ rfl
      have e : (Mc.step (new (1 : Nat) 0) 6 0).1.tot = 0 := rfl
      omega

/-- NOTHING IS LEFT: then none can be done -/
theorem SI.none_left {l s : Nat} (hl : l < 65536) (hs : s ≤ 3) {T : Int} {g : G} (h : SI l s T [] [] g none) : s = 0 ∧ 2 ≤ l := by
  have hall : ∀ k f, g k = some f → f.m.pend ≠ 0 ∧ Shut s g f := fun k f hk => by
    have h5 := (h.good k f hk).2.2.2.2
    rcases Int.lt_or_le f.m.tot T with hlt | hge
    · exact h.lt k f hk hlt
    · by_cases e : f.m.tot = T
      · rcases h.eq k f hk e with g1 | g1 | g1
        · cases g1
        · cases g1
        · exact g1
      · exact absurd (h.next k f hk (by omega)) (by simp)
  have hno : ∀ {L : List Mc.Act} {m' : St}, Does (new l s) L m' → m'.pend = 0 → False := fun hd hp => reached hl hs h hd hp fun k f hk _ => hall k f hk
  by_cases h1 : 1 ≤ s
  · exact (hno (Runs.does (Rv.rl_runs hl ⟨h1, by omega⟩)) rfl).elim
  · obtain rfl : s = 0 := by omega
    refine ⟨rfl, ?_⟩
    rcases (show l = 0 ∨ l = 1 ∨ 2 ≤ l by omega) with rfl | rfl | h2
    · exact (hno (L := [(5, 0)]) (m' := (Mc.step (new (0 : Nat) 0) 5 0).1) ⟨rfl, rfl⟩ rfl).elim
    · exact (hno (L := [(6, 0)]) (m' := (Mc.step (new (1 : Nat) 0) 6 0).1) ⟨rfl, rfl⟩ rfl).elim
    · exact h2

/-! ### that it ends -/
def rng (l : Nat) : List Int := (List.range (l + 3)).map fun (i : Nat) => (i : Int) - 2
theorem rng_mem {l : Nat} {x : Int} (h0 : -2 ≤ x) (h1 : x ≤ l) : x ∈ rng l := by
  unfold rng
  exact List.mem_map.2 ⟨(x + 2).toNat, List.mem_range.2 (by omega), by omega⟩
def allK (l : Nat) : List Ky := (rng l).flatMap fun a => (rng l).flatMap fun p => (rng l).flatMap fun x => (rng l).flatMap fun y => (rng l).map fun z => ⟨a, p, x, y, z⟩
theorem allK_mem {l : Nat} {a p x y z : Int} (ha : a ∈ rng l) (hp : p ∈ rng l) (hx : x ∈ rng l) (hy : y ∈ rng l) (hz : z ∈ rng l) : (⟨a, p, x, y, z⟩ : Ky) ∈ allK l := by
  unfold allK
  refine List.mem_flatMap.2 ⟨a, ha, List.mem_flatMap.2 ⟨p, hp, List.mem_flatMap.2 ⟨x, hx, List.mem_flatMap.2 ⟨y, hy, List.mem_map.2 ⟨z, hz, rfl⟩⟩⟩⟩⟩

theorem km_all {l : Nat} {m : St} (hI : Inv m) (hl : m.l = l) : km m ∈ allK l := by
  obtain ⟨x, y, z, e⟩ := sort3_eq m.tags
  have hm : ∀ v, v ∈ pad3 m.tags → v ∈ rng l := fun v hv => by
    have : v = -2 ∨ v ∈ m.tags := by
      unfold pad3 at hv
      simp only [List.mem_cons, List.not_mem_nil, or_false] at hv
      have hg : ∀ i, m.tags.getD i (-2) = -2 ∨ m.tags.getD i (-2) ∈ m.tags := fun i => by
        by_cases hi : i < m.tags.length
        · exact .inr (by rw [getD_at hi]; exact List.getElem_mem hi)
        · exact .inl (by simp [List.getD_eq_getElem?_getD, show m.tags.length ≤ i by omega])
      rcases hv with rfl | rfl | rfl <;> exact hg _
    rcases this with rfl | hv
    · exact rng_mem (by omega) (by omega)
    · have := hI.tg v hv
      exact rng_mem (by omega) (by omega)
  have hp := List.mergeSort_perm (pad3 m.tags) (fun i j => decide (i ≤ j))
  rw [e] at hp
  have := hI.a0
  have := hI.a1
  have := hI.p0
  have := hI.p1
  unfold km kof
  rw [e]
  exact allK_mem (rng_mem (by omega) (by omega)) (rng_mem (by omega) (by omega)) (hm x (hp.mem_iff.1 (by simp))) (hm y (hp.mem_iff.1 (by simp))) (hm z (hp.mem_iff.1 (by simp)))

def wt (T : Int) (g : G) (k : Ky) : Nat :=
  match g k with
  | none => 2
  | some f => if f.m.tot ≤ T then 0 else 1
def wsum (l : Nat) (T : Int) (g : G) : Nat := ((allK l).map (wt T g)).sum

theorem sum_le {α : Type} (f f' : α → Nat) : ∀ (L : List α), (∀ a, f' a ≤ f a) → (L.map f').sum ≤ (L.map f).sum
  | [], _ => Nat.le_refl _
  | a :: L, h => by
    have := sum_le f f' L h
    have := h a
    simp only [List.map_cons, List.sum_cons]
    omega
theorem sum_lt {α : Type} (f f' : α → Nat) : ∀ (L : List α) (b : α), (∀ a, f' a ≤ f a) → b ∈ L → f' b < f b → (L.map f').sum < (L.map f).sum
  | a :: L, b, h, hb, hlt => by
    simp only [List.map_cons, List.sum_cons]
    rcases List.mem_cons.1 hb with rfl | hb
    · have := sum_le f f' L h
      omega
    · have := sum_lt f f' L b h hb hlt
      have := h a
      omega

theorem wsum_more (l : Nat) (T : Int) (g : G) : wsum l (T + 1) g ≤ wsum l T g := by
  refine sum_le _ _ _ fun k => ?_
  unfold wt
  cases g k with
  | none => exact Nat.le_refl _
  | some f =>
    simp only
    split <;> split <;> omega

theorem wsum_see {l s : Nat} {T : Int} {near far : List Ky} {g : G} {cur : Option Ky} (h : SI l s T near far g cur) {nf : Fp} {k : Ky} (hk : k ∈ allK l) (h0 : T ≤ nf.m.tot) (h1 : nf.m.tot ≤ T + 1) (hn : ∀ old, g k = some old → nf.m.tot < old.m.tot) :
    wsum l T (put g k nf) < wsum l T g := by
  have hkk : wt T (put g k nf) k < wt T g k := by
    unfold wt
    rw [show put g k nf k = some nf by unfold put; rw [if_pos rfl]]
    cases hg : g k with
    | none => simp only; split <;> omega
    | some old =>
      have := hn old hg
      have := (h.good k old hg).2.2.2.2
      simp only
      rw [if_pos (by omega), if_neg (by omega)]
      omega
  refine sum_lt _ _ _ k (fun q => ?_) hk hkk
  by_cases hq : q = k
  · subst hq; exact Nat.le_of_lt hkk
  · unfold wt
    rw [show put g k nf q = g q by unfold put; rw [if_neg hq]]
    exact Nat.le_refl _

/-- the measure -/
def M (l : Nat) (T : Int) (near far : List Ky) (g : G) : Nat := 2 * wsum l T g + near.length + far.length

end Sx
end Go.Proofs.Ytgadkelldbibgaa

/- best.Search in plain terms: all that can come next, one after the other; how long it may go. No program. -/
namespace Go.Proofs.Ytgadkelldbibgaa
namespace Sx
open Mc

/-- what f's actions A come to is known -/
def Seen (g : G) (f : Fp) (A : List Mc.Act) : Prop := ∀ a ∈ A, (Mc.step f.m a.1 a.2).2 = 0 → ∃ f2, g (km (Mc.step f.m a.1 a.2).1) = some f2 ∧ f2.m.tot ≤ (Mc.step f.m a.1 a.2).1.tot

/-- no way is longer than the keys that were put -/
def Deep (l : Nat) (T : Int) (g : G) : Prop := ∀ k f, g k = some f → ∃ la, Way g k la ∧ la.length + wsum l T g ≤ 65536
theorem Deep.more {l : Nat} {T : Int} {g : G} (h : Deep l T g) : Deep l (T + 1) g := fun k f hk => by
  obtain ⟨la, hw, hl⟩ := h k f hk
  have := wsum_more l T g
  exact ⟨la, hw, by omega⟩
theorem Deep.see {l s : Nat} {T : Int} {near far : List Ky} {g : G} {k : Ky} {f : Fp} (hD : Deep l T g) (h : SI l s T near far g (some k)) (hk : g k = some f) {a b : Int} {m' : St} (hne : k ≠ km m')
    (hn : ∀ old, g (km m') = some old → m'.tot < old.m.tot) (ht0 : T ≤ m'.tot) (hw : wsum l T (put g (km m') ⟨m', a, b, k, false⟩) < wsum l T g) : Deep l T (put g (km m') ⟨m', a, b, k, false⟩) := by
  have hself : put g (km m') ⟨m', a, b, k, false⟩ (km m') = some ⟨m', a, b, k, false⟩ := by unfold put; rw [if_pos rfl]
  have hfrom : ∀ q fq, g q = some fq → fq.first = false → fq.from_ ≠ km m' := fun q fq hq hf hh => by
    rcases h.org q fq hq with ⟨e, _⟩ | ⟨_, f', h1, h2, _⟩
    · rw [hf] at e; cases e
    · rw [hh] at h1
      have := hn f' h1
      omega
  intro q fq hq
  by_cases hh : q = km m'
  · subst hh
    obtain ⟨la, hw1, hl1⟩ := hD k f hk
    refine ⟨la ++ [(a, b)], .step hself rfl (hw1.keep hfrom hne), ?_⟩
    rw [List.length_append, List.length_singleton]
    omega
  · unfold put at hq
    rw [if_neg hh] at hq
    obtain ⟨la, hw1, hl1⟩ := hD q fq hq
    exact ⟨la, hw1.keep hfrom hh, by omega⟩

structure Nx (l s : Nat) (T : Int) (near far : List Ky) (g : G) (k : Ky) (f : Fp) (A : List Mc.Act) (K : Nat) : Prop where
  si : SI l s T near far g (some k)
  at_ : g k = some f
  tot : f.m.tot = T
  seen : Seen g f A
  mes : M l T near far g ≤ K
  dp : Deep l T g

theorem Nx.old {l s : Nat} {T : Int} {near far : List Ky} {g : G} {k : Ky} {f : Fp} {A : List Mc.Act} {K : Nat} (h : Nx l s T near far g k f A K) {a n : Int}
    (e : (Mc.step f.m a n).2 = 0 → ∃ old, g (km (Mc.step f.m a n).1) = some old ∧ old.m.tot ≤ (Mc.step f.m a n).1.tot) : Nx l s T near far g k f (A ++ [(a, n)]) K :=
  ⟨h.si, h.at_, h.tot, fun x hx => by
    rcases List.mem_append.1 hx with hx | hx
    · exact h.seen x hx
    · rw [List.mem_singleton.1 hx]; exact e, h.mes, h.dp⟩

theorem Nx.new {l s : Nat} {T : Int} {near far : List Ky} {g : G} {k : Ky} {f : Fp} {A : List Mc.Act} {K : Nat} (h : Nx l s T near far g k f A K) {a n : Int} (hu : unit s a n) {m' : St} (hs : Mc.step f.m a n = (m', 0))
    (hn : ∀ old, g (km m') = some old → m'.tot < old.m.tot) :
    Nx l s T (if m'.tot = T then near ++ [km m'] else near) (if m'.tot = T then far else far ++ [km m']) (put g (km m') ⟨m', a, n, k, false⟩) k f (A ++ [(a, n)]) K := by
  have e1 : (Mc.step f.m a n).1 = m' := by rw [hs]
  have e2 : (Mc.step f.m a n).2 = 0 := by rw [hs]
  have ht := unit_tot hu e2
  rw [e1, h.tot] at ht
  have ht1 : T ≤ m'.tot ∧ m'.tot ≤ T + 1 := by
    rw [ht]; split <;> omega
  have hne : k ≠ km m' := fun hh => by
    have := hn f (by rw [← hh]; exact h.at_)
    have := h.tot
    omega
  have hself : put g (km m') ⟨m', a, n, k, false⟩ (km m') = some ⟨m', a, n, k, false⟩ := by unfold put; rw [if_pos rfl]
  have hput : ∀ q, q ≠ km m' → put g (km m') ⟨m', a, n, k, false⟩ q = g q := fun q hq => by unfold put; rw [if_neg hq]
  have hg := h.si.good k f h.at_
  have hk : km m' ∈ allK l := by
    have hI := hg.1.step a n
    rw [e1] at hI
    refine km_all hI ?_
    rw [← e1, step_l]; exact hg.2.1
  have hw := wsum_see h.si (nf := ⟨m', a, n, k, false⟩) hk ht1.1 ht1.2 hn
  refine ⟨h.si.see h.at_ h.tot hu hs hn, by rw [hput _ hne]; exact h.at_, h.tot, fun x hx he => ?_, ?_, h.dp.see h.si h.at_ hne hn ht1.1 hw⟩
  · rcases List.mem_append.1 hx with hx | hx
    · obtain ⟨f2, g1, g2⟩ := h.seen x hx he
      by_cases hh : km (Mc.step f.m x.1 x.2).1 = km m'
      · rw [hh] at g1
        have := hn f2 g1
        rw [hh, hself]
        exact ⟨_, rfl, by show m'.tot ≤ _; omega⟩
      · exact ⟨f2, by rw [hput _ hh]; exact g1, g2⟩
    · rw [List.mem_singleton.1 hx]
      simp only [e1]
      exact ⟨_, hself, Int.le_refl _⟩
  · have := h.mes
    unfold M at this ⊢
    split
    · simp only [List.length_append, List.length_singleton]; omega
    · simp only [List.length_append, List.length_singleton]; omega

/-- all that is tried -/
def slotActs (k : Nat) : List Mc.Act := [(2, (k : Int)), (3, (k : Int)), (4, (k : Int))]
def upActs (k : Nat) : List Mc.Act := (List.range k).flatMap slotActs
theorem upActs_succ (k : Nat) : upActs (k + 1) = ((upActs k ++ [(2, (k : Int))]) ++ [(3, (k : Int))]) ++ [(4, (k : Int))] := by
  unfold upActs slotActs
  rw [List.range_succ, List.flatMap_append]
  simp
def allActs (s : Nat) : List Mc.Act := (((upActs s ++ [(5, 0)]) ++ [(6, 0)]) ++ [(7, 0)]) ++ [(1, 1)]
theorem allActs_unit {s : Nat} {a n : Int} (h : unit s a n) : (a, n) ∈ allActs s := by
  unfold allActs
  rcases h with ⟨rfl, rfl⟩ | ⟨h2, h4, h0, h1⟩ | ⟨h5, h7, rfl⟩
  · simp
  · have : (a, n) ∈ upActs s := by
      unfold upActs
      refine List.mem_flatMap.2 ⟨n.toNat, List.mem_range.2 (by omega), ?_⟩
      unfold slotActs
      rw [show ((n.toNat : Nat) : Int) = n by omega]
      rcases (show a = 2 ∨ a = 3 ∨ a = 4 by omega) with rfl | rfl | rfl <;> simp
    simp [this]
  · rcases (show a = 5 ∨ a = 6 ∨ a = 7 by omega) with rfl | rfl | rfl <;> simp

theorem Nx.done {l s : Nat} {T : Int} {near far : List Ky} {g : G} {k : Ky} {f : Fp} {K : Nat} (h : Nx l s T near far g k f (allActs s) K) (hp : f.m.pend ≠ 0) : SI l s T near far g none :=
  h.si.done h.at_ hp fun a b hu he => h.seen (a, b) (allActs_unit hu) he

theorem len_flat {α β : Type} (L : List α) (f : α → List β) (n : Nat) (h : ∀ a, (f a).length = n) : (L.flatMap f).length = L.length * n := by
  induction L with
  | nil => simp
  | cons a L ih =>
    rw [List.flatMap_cons, List.length_append, h, ih, List.length_cons, Nat.succ_mul]
    omega
theorem rng_len (l : Nat) : (rng l).length = l + 3 := by simp [rng]
theorem allK_len (l : Nat) : (allK l).length = (l + 3) * ((l + 3) * ((l + 3) * ((l + 3) * (l + 3)))) := by
  unfold allK
  rw [len_flat _ _ ((l + 3) * ((l + 3) * ((l + 3) * (l + 3)))), rng_len]
  intro a
  rw [len_flat _ _ ((l + 3) * ((l + 3) * (l + 3))), rng_len]
  intro p
  rw [len_flat _ _ ((l + 3) * (l + 3)), rng_len]
  intro x
  rw [len_flat _ _ (l + 3), rng_len]
  intro y
  rw [List.length_map, rng_len]
theorem sum_two {α : Type} (f : α → Nat) : ∀ (L : List α), (∀ a, f a ≤ 2) → (L.map f).sum ≤ 2 * L.length
  | [], _ => by simp
  | a :: L, h => by
    have := sum_two f L h
    have := h a
    simp only [List.map_cons, List.sum_cons, List.length_cons]
    omega
theorem wsum_le {l : Nat} (h : l ≤ 5) (T : Int) (g : G) : wsum l T g ≤ 65536 := by
  have h1 : wsum l T g ≤ 2 * (allK l).length := sum_two _ _ fun k => by
    unfold wt
    cases g k with
    | none => exact Nat.le_refl _
    | some f => simp only; split <;> omega
  rw [allK_len] at h1
  rcases (show l = 0 ∨ l = 1 ∨ l = 2 ∨ l = 3 ∨ l = 4 ∨ l = 5 by omega) with rfl | rfl | rfl | rfl | rfl | rfl <;> simpa using Nat.le_trans h1 (by decide)

theorem Deep.first {l s : Nat} (h : l ≤ 5) (T : Int) : Deep l T (put (fun _ => none) (km (new l s)) ⟨new l s, 0, 0, ⟨0, 0, 0, 0, 0⟩, true⟩) := fun k f hk => by
  have hw := wsum_le h T (put (fun _ => none) (km (new l s)) ⟨new l s, 0, 0, ⟨0, 0, 0, 0, 0⟩, true⟩)
  refine ⟨[], .first hk ?_, by simpa using hw⟩
  unfold put at hk
  split at hk
  · cases hk; rfl
  · cases hk

theorem km_range {l : Nat} {m : St} (hI : Inv m) (hl : m.l = l) : (-2 ≤ (km m).at_ ∧ (km m).at_ ≤ l) ∧ (-2 ≤ (km m).pend ∧ (km m).pend ≤ l) ∧ (-2 ≤ (km m).x ∧ (km m).x ≤ l) ∧ (-2 ≤ (km m).y ∧ (km m).y ≤ l) ∧ (-2 ≤ (km m).z ∧ (km m).z ≤ l) := by
  have hr : ∀ x ∈ rng l, -2 ≤ x ∧ x ≤ (l : Int) := fun x hx => by
    unfold rng at hx
    obtain ⟨i, hi, rfl⟩ := List.mem_map.1 hx
    have := List.mem_range.1 hi
    omega
  have h := km_all hI hl
  unfold allK at h
  obtain ⟨a, ha, h⟩ := List.mem_flatMap.1 h
  obtain ⟨p, hp, h⟩ := List.mem_flatMap.1 h
  obtain ⟨x, hx, h⟩ := List.mem_flatMap.1 h
  obtain ⟨y, hy, h⟩ := List.mem_flatMap.1 h
  obtain ⟨z, hz, h⟩ := List.mem_map.1 h
  rw [← h]
  exact ⟨hr a ha, hr p hp, hr x hx, hr y hy, hr z hz⟩

end Sx
end Go.Proofs.Ytgadkelldbibgaa

/- The reference's best.Search in plain terms: spots as numbers, least numbers of steps to the end. No program. -/
namespace Go.Proofs.Ytgadkelldbibgaa
namespace Rs
open Mc Sx

/-- s digits of a number, by B; what is left -/
def dg (B : Nat) : Nat → Nat → List Int × Nat
  | 0, n => ([], n)
  | s + 1, n => ((dg B s (n / B)).1 ++ [((n % B : Nat) : Int) - 1], (dg B s (n / B)).2)
def sp (l s n : Nat) : St := ⟨l, (((dg (l + 2) s n).2 / (l + 2) : Nat) : Int), (((dg (l + 2) s n).2 % (l + 2) : Nat) : Int) - 1, 0, (dg (l + 2) s n).1⟩
def numT (B : Nat) (n : Nat) (tags : List Int) : Nat := tags.foldl (fun n x => n * B + (x + 1).toNat) n
def num (l : Nat) (m : St) : Nat := numT (l + 2) (m.at_.toNat * (l + 2) + (m.pend + 1).toNat) m.tags
def all (l : Nat) : Nat → Nat
  | 0 => (l + 1) * (l + 2)
  | s + 1 => all l s * (l + 2)

theorem numT_app (B n : Nat) (t : List Int) (x : Int) : numT B n (t ++ [x]) = numT B n t * B + (x + 1).toNat := by simp [numT]
theorem dg_len (B : Nat) : ∀ (s n : Nat), (dg B s n).1.length = s
  | 0, n => rfl
  | s + 1, n => by simp [dg, dg_len B s]
theorem dg_num (B : Nat) (hB : 0 < B) : ∀ (s n : Nat), numT B (dg B s n).2 (dg B s n).1 = n
  | 0, n => rfl
  | s + 1, n => by
    simp only [dg]
    rw [numT_app, dg_num B hB s, Int.sub_add_cancel, Int.toNat_natCast, Nat.mul_comm, Nat.div_add_mod]
theorem dg_range (B : Nat) (hB : 0 < B) : ∀ (s n : Nat), ∀ x ∈ (dg B s n).1, -1 ≤ x ∧ x < (B : Int) - 1
  | 0, n, x, h => by cases h
  | s + 1, n, x, h => by
    simp only [dg] at h
    rcases List.mem_append.1 h with h | h
    · exact dg_range B hB s _ x h
    · rw [List.mem_singleton.1 h]
      have := Nat.mod_lt n hB
      generalize n % B = q at *
      omega
theorem all_pos (l : Nat) : ∀ s, 0 < all l s
  | 0 => Nat.mul_pos (by omega) (by omega)
  | s + 1 => Nat.mul_pos (all_pos l s) (by omega)
theorem dg_rest (l : Nat) : ∀ (s n : Nat), n < all l s → (dg (l + 2) s n).2 < (l + 1) * (l + 2)
  | 0, n, h => h
  | s + 1, n, h => by
    simp only [dg]
    exact dg_rest l s _ (Nat.div_lt_of_lt_mul (by rw [Nat.mul_comm]; exact h))
theorem sp_inv {l s n : Nat} (hl : l < 65536) (hs : s ≤ 1048576) (h : n < all l s) : Inv (sp l s n) := by
  have h1 := dg_rest l s n h
  have h2 : (dg (l + 2) s n).2 / (l + 2) < l + 1 := Nat.div_lt_of_lt_mul (by rw [Nat.mul_comm]; exact h1)
  have h3 : (dg (l + 2) s n).2 % (l + 2) < l + 2 := Nat.mod_lt _ (by omega)
  unfold sp
  generalize (dg (l + 2) s n).2 / (l + 2) = A at *
  generalize (dg (l + 2) s n).2 % (l + 2) = P at *
  refine ⟨?_, ?_, ?_, ?_, ?_, ?_, fun x hx => ?_, ?_, ?_⟩
  · simp only; omega
  · simp only; omega
  · simp only; omega
  · simp only; omega
  · simp only; omega
  · simp only; omega
  · have := dg_range (l + 2) (by omega) s n x hx
    simp only
    omega
  · simp only [dg_len]; omega
  · simp only; omega
theorem sp_len (l s n : Nat) : (sp l s n).tags.length = s := by simp [sp, dg_len]
theorem num_sp (l s n : Nat) : num l (sp l s n) = n := by
  unfold num sp
  simp only
  rw [Int.toNat_natCast, Int.sub_add_cancel, Int.toNat_natCast, Nat.mul_comm ((dg (l + 2) s n).2 / (l + 2)), Nat.div_add_mod]
  exact dg_num (l + 2) (by omega) s n
theorem numT_lt (l : Nat) : ∀ (s : Nat) (t : List Int) (n : Nat), t.length = s → n < (l + 1) * (l + 2) → (∀ x ∈ t, -1 ≤ x ∧ x ≤ (l : Int)) → numT (l + 2) n t < all l s ∧ dg (l + 2) s (numT (l + 2) n t) = (t, n)
  | 0, t, n, ht, hn, _ => by
    have : t = [] := List.length_eq_zero_iff.1 ht
    subst this
    exact ⟨hn, rfl⟩
  | s + 1, t, n, ht, hn, hx => by
    have hne : t ≠ [] := fun h => by simp [h] at ht
    obtain ⟨t', x, rfl⟩ : ∃ t' x, t = t' ++ [x] := ⟨t.dropLast, t.getLast hne, (List.dropLast_concat_getLast hne).symm⟩
    have ht' : t'.length = s := by simpa using ht
    obtain ⟨g1, g2⟩ := numT_lt l s t' n ht' hn fun y hy => hx y (by simp [hy])
    have h1 := hx x (by simp)
    have hxl : (x + 1).toNat < l + 2 := by omega
    rw [numT_app]
    refine ⟨?_, ?_⟩
    · show _ < all l s * (l + 2)
      have : (numT (l + 2) n t' + 1) * (l + 2) ≤ all l s * (l + 2) := Nat.mul_le_mul_right _ g1
      rw [Nat.add_mul] at this
      omega
    · have e1 : (numT (l + 2) n t' * (l + 2) + (x + 1).toNat) / (l + 2) = numT (l + 2) n t' := by
        rw [Nat.mul_comm, Nat.mul_add_div (by omega), Nat.div_eq_of_lt hxl, Nat.add_zero]
      have e2 : (numT (l + 2) n t' * (l + 2) + (x + 1).toNat) % (l + 2) = (x + 1).toNat := by
        rw [Nat.mul_comm, Nat.mul_add_mod, Nat.mod_eq_of_lt hxl]
      simp only [dg, e1, e2, g2]
      rw [show (((x + 1).toNat : Nat) : Int) - 1 = x by omega]
theorem num_ok {l s : Nat} {m : St} (hI : Inv m) (hl : m.l = l) (hs : m.tags.length = s) : num l m < all l s ∧ sp l s (num l m) = { m with tot := 0 } := by
  obtain ⟨L, a, p, t, tags⟩ := m
  have a0 := hI.a0
  have a1 := hI.a1
  have p0 := hI.p0
  have p1 := hI.p1
  have htg := hI.tg
  simp only at a0 a1 p0 p1 htg hl hs
  subst hl
  have hp : (p + 1).toNat < l + 2 := by omega
  have hn : a.toNat * (l + 2) + (p + 1).toNat < (l + 1) * (l + 2) := by
    have : (a.toNat + 1) * (l + 2) ≤ (l + 1) * (l + 2) := Nat.mul_le_mul_right _ (by omega)
    rw [Nat.add_mul] at this
    omega
  obtain ⟨g1, g2⟩ := numT_lt l s tags (a.toNat * (l + 2) + (p + 1).toNat) hs hn htg
  refine ⟨g1, ?_⟩
  unfold num sp
  simp only [g2]
  have e1 : (a.toNat * (l + 2) + (p + 1).toNat) / (l + 2) = a.toNat := by
    rw [Nat.mul_comm, Nat.mul_add_div (by omega), Nat.div_eq_of_lt hp, Nat.add_zero]
  have e2 : (a.toNat * (l + 2) + (p + 1).toNat) % (l + 2) = (p + 1).toNat := by
    rw [Nat.mul_comm, Nat.mul_add_mod, Nat.mod_eq_of_lt hp]
  rw [e1, e2, show ((a.toNat : Nat) : Int) = a by omega, show (((p + 1).toNat : Nat) : Int) - 1 = p by omega]

/-! ### steps do not hang on the total -/
def ad (m : St) (t : Int) : St := { m with tot := m.tot + t }
theorem step_ad (m : St) (t k n : Int) : Mc.step (ad m t) k n = (ad (Mc.step m k n).1 t, (Mc.step m k n).2) := by
  have hb : ∀ c, begin_ (ad m t) c = (ad (begin_ m c).1 t, (begin_ m c).2) := fun c => by
    unfold begin_ ad
    simp only
    split
    · rfl
    · split <;> rfl
  have hr : Mc.reverse (ad m t) = (ad (Mc.reverse m).1 t, (Mc.reverse m).2) := by
    unfold Mc.reverse ad
    simp only
    split
    · rfl
    · split <;> rfl
  have htag : (ad m t).tag n = m.tag n := rfl
  have hl : (ad m t).l = m.l := rfl
  have ha : (ad m t).at_ = m.at_ := rfl
  have hg : (ad m t).tags = m.tags := rfl
  unfold Mc.step
  rw [htag, hl, ha, hg, hb, hb, hr]
  split
  · rfl
  split
  · rfl
  split
  · split
    · rfl
    · simp only [ad, Prod.mk.injEq, St.mk.injEq, and_true, true_and]
      omega
  split
  · split <;> rfl
  split
  · split <;> rfl
  split
  · split <;> rfl
  split
  · rfl
  split
  · rfl
  · rfl
theorem does_ad : ∀ {L : List Mc.Act} {m m' : St} (t : Int), Does m L m' → Does (ad m t) L (ad m' t)
  | [], m, m', t, h => by cases h; rfl
  | a :: L, m, m', t, ⟨e, h⟩ => by
    refine ⟨?_, ?_⟩
    · rw [step_ad]; exact e
    · rw [step_ad]; exact does_ad t h

/-! ### the least numbers of steps -/
structure Li (l s : Nat) (L : List Int) : Prop where
  len : L.length = all l s
  lo : ∀ n, n < all l s → 0 ≤ L.getD n 0 ∧ L.getD n 0 ≤ 1000
  zero : ∀ n, n < all l s → (sp l s n).pend = 0 → L.getD n 0 = 0
  att : ∀ n, n < all l s → L.getD n 0 < 1000 → ∃ la m', Does (sp l s n) la m' ∧ m'.pend = 0 ∧ m'.tot = L.getD n 0

theorem sum_set : ∀ (L : List Int) (n : Nat) (x : Int), n < L.length → (L.set n x).sum = L.sum - L.getD n 0 + x
  | a :: L, 0, x, _ => by simp only [List.set_cons_zero, List.sum_cons, List.getD_cons_zero]; omega
  | a :: L, n + 1, x, h => by
    have := sum_set L n x (by simpa using h)
    simp only [List.set_cons_succ, List.sum_cons, List.getD_cons_succ, this]
    omega
theorem getD_set {L : List Int} {n i : Nat} {x : Int} (hn : n < L.length) : (L.set n x).getD i 0 = if i = n then x else L.getD i 0 := by
  simp only [List.getD_eq_getElem?_getD, List.getElem?_set]
  by_cases h : n = i
  · subst h; rw [if_pos rfl, if_pos hn, if_pos rfl]; rfl
  · rw [if_neg h, if_neg (fun e => h e.symm)]

theorem next_ok {l s n : Nat} (hl : l < 65536) (hs : s ≤ 1048576) (hn : n < all l s) (a b : Int) :
    num l (Mc.step (sp l s n) a b).1 < all l s ∧ sp l s (num l (Mc.step (sp l s n) a b).1) = { (Mc.step (sp l s n) a b).1 with tot := 0 } :=
  num_ok ((sp_inv hl hs hn).step a b) (by rw [step_l]; rfl) (by rw [step_len, sp_len])

theorem Li.upd {l s : Nat} {L : List Int} (hl : l < 65536) (hs : s ≤ 1048576) (h : Li l s L) {n : Nat} (hn : n < all l s) {a b : Int} (e : (Mc.step (sp l s n) a b).2 = 0) (h0 : 0 ≤ (Mc.step (sp l s n) a b).1.tot) {x : Int}
    (hx : x = L.getD (num l (Mc.step (sp l s n) a b).1) 0 + (Mc.step (sp l s n) a b).1.tot) (hlt : x < L.getD n 0) : Li l s (L.set n x) ∧ (L.set n x).sum < L.sum := by
  obtain ⟨g1, g2⟩ := next_ok hl hs hn a b
  have hnl : n < L.length := by rw [h.len]; exact hn
  have hto := h.lo _ g1
  have hnn := h.lo _ hn
  refine ⟨⟨by rw [List.length_set]; exact h.len, fun i hi => ?_, fun i hi hp => ?_, fun i hi hlt2 => ?_⟩, ?_⟩
  · rw [getD_set hnl]
    split
    · omega
    · exact h.lo i hi
  · rw [getD_set hnl]
    split
    · rename_i hh
      subst hh
      have := h.zero i hi hp
      omega
    · exact h.zero i hi hp
  · rw [getD_set hnl] at hlt2 ⊢
    split at hlt2
    · rename_i hh
      subst hh
      rw [if_pos rfl]
      obtain ⟨la, m', d1, d2, d3⟩ := h.att _ g1 (by omega)
      rw [g2] at d1
      have d4 := does_ad (Mc.step (sp l s i) a b).1.tot d1
      have e4 : ad { (Mc.step (sp l s i) a b).1 with tot := 0 } (Mc.step (sp l s i) a b).1.tot = (Mc.step (sp l s i) a b).1 := by
        simp [ad]
      rw [e4] at d4
      exact ⟨(a, b) :: la, _, ⟨e, d4⟩, d2, by show m'.tot + _ = x; omega⟩
    · rename_i hh
      rw [if_neg hh]
      exact h.att i hi hlt2
  · rw [sum_set _ _ _ hnl]
    omega

def Fix (l s : Nat) (L : List Int) : Prop := ∀ n, n < all l s → ∀ a b, unit s a b → (Mc.step (sp l s n) a b).2 = 0 → L.getD n 0 ≤ L.getD (num l (Mc.step (sp l s n) a b).1) 0 + (Mc.step (sp l s n) a b).1.tot

theorem Fix.least {l s : Nat} {L : List Int} (hl : l < 65536) (hs : s ≤ 1048576) (h : Li l s L) (hf : Fix l s L) : ∀ {la : List Mc.Act} {m m' : St}, Does m la m' → (∀ a ∈ la, unit s a.1 a.2) → Inv m → m.l = l → m.tags.length = s → m'.pend = 0 → L.getD (num l m) 0 ≤ m'.tot - m.tot
  | [], m, m', hd, _, hI, h1, h2, hp => by
    cases hd
    obtain ⟨g1, g2⟩ := num_ok hI h1 h2
    have := h.zero _ g1 (by rw [g2]; exact hp)
    omega
  | a :: la, m, m', ⟨e, hd⟩, hu, hI, h1, h2, hp => by
    have ih := Fix.least hl hs h hf hd (fun b hb => hu b (by simp [hb])) (hI.step _ _) (by rw [step_l]; exact h1) (by rw [step_len]; exact h2) hp
    obtain ⟨g1, g2⟩ := num_ok hI h1 h2
    have em : ad { m with tot := 0 } m.tot = m := by simp [ad]
    have hst := step_ad { m with tot := 0 } m.tot a.1 a.2
    rw [em] at hst
    have := hf _ g1 a.1 a.2 (hu a (by simp)) (by rw [g2]; rw [hst] at e; exact e)
    rw [g2] at this
    rw [hst] at ih
    have e2 : num l (ad (Mc.step { m with tot := 0 } a.1 a.2).1 m.tot) = num l (Mc.step { m with tot := 0 } a.1 a.2).1 := rfl
    rw [e2] at ih
    have e3 : (ad (Mc.step { m with tot := 0 } a.1 a.2).1 m.tot).tot = (Mc.step { m with tot := 0 } a.1 a.2).1.tot + m.tot := rfl
    rw [e3] at ih
    omega

/-- WHAT IS LEFT OF THE START -/
theorem start {l s : Nat} {L : List Int} (hl : l ≤ 5) (hs : s ≤ 3) (h : Li l s L) (hf : Fix l s L) :
    (1 ≤ s → Ch.tt l s < 1000 → L.getD (num l (new l s)) 0 = Ch.tt l s) ∧ (s = 0 → l ≤ 1 → L.getD (num l (new l s)) 0 = 0) ∧ (s = 0 → 2 ≤ l → L.getD (num l (new l s)) 0 = 1000) := by
  have hI : Inv (new l s) := new_inv l s (by omega) (by omega) (by omega)
  have hlen : (new l s).tags.length = s := by simp [new]
  obtain ⟨g1, g2⟩ := num_ok hI rfl hlen
  have e0 : ({ new l s with tot := 0 } : St) = new l s := rfl
  rw [e0] at g2
  have hlo := h.lo _ g1
  have up : ∀ {la : List Mc.Act} {m' : St}, Does (new l s) la m' → m'.pend = 0 → L.getD (num l (new l s)) 0 ≤ m'.tot := fun hd hp => by
    obtain ⟨la', d1, d2⟩ := units hd
    rw [hlen] at d2
    have := Fix.least (by omega) (by omega) h hf d1 d2 hI rfl hlen hp
    have e : (new l s).tot = 0 := rfl
    omega
  have at_ : L.getD (num l (new l s)) 0 < 1000 → ∃ la m', Does (new l s) la m' ∧ m'.pend = 0 ∧ m'.tot = L.getD (num l (new l s)) 0 := fun hlt => by
    obtain ⟨la, m', d1, d2, d3⟩ := h.att _ g1 hlt
    rw [g2] at d1
    exact ⟨la, m', d1, d2, d3⟩
  refine ⟨fun h1 ht => ?_, fun h0 h1 => ?_, fun h0 h2 => ?_⟩
  · have u := up (Runs.does (Rv.rl_runs (by omega) ⟨h1, by omega⟩)) rfl
    have u2 : L.getD (num l (new l s)) 0 ≤ Ch.tt l s := u
    obtain ⟨la, m', d1, d2, d3⟩ := at_ (by omega)
    have hL := (Lb.least (by omega) (by omega) (by omega) d1 d2).1 h1
    rw [Int.toNat_natCast] at hL
    omega
  · subst h0
    rcases (show l = 0 ∨ l = 1 by omega) with rfl | rfl
    · have := up (la := [(5, 0)]) (m' := (Mc.step (new (0 : Nat) 0) 5 0).1) ⟨rfl, rfl⟩ rfl
      have e : (Mc.step (new (0 : Nat) 0) 5 0).1.tot = 0 := rfl
      omega
    · have := up (la := [(6, 0)]) (m' := (Mc.step (new (1 : Nat) 0) 6 0).1) ⟨rfl, rfl⟩ rfl
      have e : (Mc.step (new (1 : Nat) 0) 6 0).1.tot = 0 := rfl
      omega
  · rcases Int.lt_or_le (L.getD (num l (new l s)) 0) 1000 with hlt | hge
    · obtain ⟨la, m', d1, d2, d3⟩ := at_ hlt
      have hL := (Lb.least (by omega) (by omega) (by omega) d1 d2).2.1 h0
      omega
    · omega

end Rs
end Go.Proofs.Ytgadkelldbibgaa
