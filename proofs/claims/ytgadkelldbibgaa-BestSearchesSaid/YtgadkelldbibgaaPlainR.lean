/- Plain facts on how often steps are done again: the least number of times that is enough, the total, the split. No program in sight. -/
import Derived.Test.YtgadkelldbibgaaPlainC
namespace Go.Proofs.Ytgadkelldbibgaa.Ch
set_option linter.unusedVariables false

/-- the longest chain for s slots and r times -/
def be (s r : Nat) : Nat := bin (s + r) s
theorem be_zero (s : Nat) : be s 0 = 1 := bin_self s
theorem be_up (s r : Nat) : be s r ≤ be s (r + 1) := bin_up _ _
theorem be_le {s r q : Nat} (h : r ≤ q) : be s r ≤ be s q := bin_le (by omega)
theorem be_ge (s r : Nat) (hs : 1 ≤ s) : r + 1 ≤ be s r := by
  induction r with
  | zero => rw [be_zero]; omega
  | succ r ih =>
    obtain ⟨t, rfl⟩ : ∃ t, s = t + 1 := ⟨s - 1, by omega⟩
    have e : be (t + 1) (r + 1) = bin (t + 1 + r) t + be (t + 1) r := by
      show bin (t + 1 + (r + 1)) (t + 1) = _
      rw [show t + 1 + (r + 1) = (t + 1 + r) + 1 from by omega, bin_succ]; rfl
    have := bin_pos (n := t + 1 + r) (k := t) (by omega)
    omega
theorem be_one (r : Nat) : be 1 r = r + 1 := by unfold be; rw [bin_one]; omega
/-- one slot less and one time less together -/
theorem be_two (s r : Nat) : be (s + 1) (r + 1) = be s (r + 1) + be (s + 1) r := by
  show bin (s + 1 + (r + 1)) (s + 1) = bin (s + (r + 1)) s + bin (s + 1 + r) (s + 1)
  rw [show s + 1 + (r + 1) = (s + (r + 1)) + 1 from by omega, bin_succ, show s + (r + 1) = s + 1 + r from by omega]
theorem sum_step (s r : Nat) : bin (s + (r + 1)) (s + 1) = be s r + bin (s + r) (s + 1) := by
  rw [show s + (r + 1) = (s + r) + 1 from by omega, bin_succ]; rfl
theorem sum_zero (s : Nat) : bin (s + 0) (s + 1) = 0 := bin_none (by omega)

/-- the least number of times that is enough -/
def rpF (l s : Nat) : Nat → Nat → Nat
  | 0, r => r
  | f + 1, r => if l ≤ be s r then r else rpF l s f (r + 1)
def rp (l s : Nat) : Nat := rpF l s l 0
theorem rpF_spec (l s : Nat) (hs : 1 ≤ s) : ∀ (f r : Nat), l ≤ r + f → (∀ j, j < r → be s j < l) → l ≤ be s (rpF l s f r) ∧ (∀ j, j < rpF l s f r → be s j < l) ∧ rpF l s f r ≤ r + f := by
  intro f
  induction f with
  | zero => intro r h hj; exact ⟨by have := be_ge s r hs; show l ≤ be s r; omega, hj, by show r ≤ r + 0; omega⟩
  | succ f ih =>
    intro r h hj
    unfold rpF
    split
    · rename_i h1; exact ⟨h1, hj, by omega⟩
    · rename_i h1
      obtain ⟨a, b, c⟩ := ih (r + 1) (by omega) (fun j h2 => by
        by_cases e : j = r
        · subst e; omega
        · exact hj j (by omega))
      exact ⟨a, b, by omega⟩
theorem rp_enough (l s : Nat) (hs : 1 ≤ s) : l ≤ be s (rp l s) := (rpF_spec l s hs l 0 (by omega) (fun j h => by omega)).1
theorem rp_less (l s : Nat) (hs : 1 ≤ s) {j : Nat} (h : j < rp l s) : be s j < l := (rpF_spec l s hs l 0 (by omega) (fun j h => by omega)).2.1 j h
theorem rp_le (l s : Nat) (hs : 1 ≤ s) : rp l s ≤ l := by have := (rpF_spec l s hs l 0 (by omega) (fun j h => by omega)).2.2; unfold rp; omega
theorem rp_is {l s r : Nat} (hs : 1 ≤ s) (h : l ≤ be s r) (h2 : ∀ j, j < r → be s j < l) : r = rp l s := by
  rcases Nat.lt_trichotomy r (rp l s) with h3 | h3 | h3
  · have := rp_less l s hs h3; omega
  · exact h3
  · have := h2 _ h3; have := rp_enough l s hs; omega
theorem rp_pos {l s : Nat} (hs : 1 ≤ s) (h : 2 ≤ l) : 1 ≤ rp l s := by
  apply Nat.lt_of_not_le
  intro h0
  have := rp_enough l s hs
  rw [show rp l s = 0 from by omega, be_zero] at this; omega

/-- what r times come to, of l steps by s slots; the greatest of them is the total -/
def gt (l s r : Nat) : Int := (r : Int) * l - (bin (s + r) (s + 1) : Nat)
def tt (l s : Nat) : Int := gt l s (rp l s)
theorem gt_step (l s r : Nat) : gt l s (r + 1) = gt l s r + ((l : Int) - (be s r : Nat)) := by
  unfold gt; rw [sum_step]; push_cast; grind
theorem gt_up (l s : Nat) (hs : 1 ≤ s) {r : Nat} (d : Nat) (h : r + d ≤ rp l s) : gt l s r ≤ gt l s (r + d) := by
  induction d with
  | zero => exact Int.le_refl _
  | succ d ih =>
    have h1 := ih (by omega)
    have h2 := rp_less l s hs (j := r + d) (by omega)
    rw [← Nat.add_assoc, gt_step]; omega
theorem gt_down (l s : Nat) (hs : 1 ≤ s) (d : Nat) : gt l s (rp l s + d) ≤ gt l s (rp l s) := by
  induction d with
  | zero => exact Int.le_refl _
  | succ d ih =>
    have h1 := rp_enough l s hs
    have h2 := be_le (s := s) (r := rp l s) (q := rp l s + d) (by omega)
    rw [← Nat.add_assoc, gt_step]; omega
theorem gt_tt (l s r : Nat) (hs : 1 ≤ s) : gt l s r ≤ tt l s := by
  rcases Nat.le_total r (rp l s) with h | h
  · have := gt_up l s hs (r := r) (rp l s - r) (by omega)
    rwa [show r + (rp l s - r) = rp l s from by omega] at this
  · have := gt_down l s hs (r - rp l s)
    rwa [show rp l s + (r - rp l s) = r from by omega] at this
theorem tt_is {l s r : Nat} (hs : 1 ≤ s) (h : l ≤ be s r) (h2 : ∀ j, j < r → be s j ≤ l) : tt l s = gt l s r := by
  have hle : rp l s ≤ r := by
    apply Nat.le_of_not_lt
    intro h3
    have := rp_less l s hs h3; omega
  have key : ∀ d, rp l s + d ≤ r → gt l s (rp l s + d) = tt l s := by
    intro d
    induction d with
    | zero => intro _; rfl
    | succ d ih =>
      intro hd
      have h1 := ih (by omega)
      have h3 := rp_enough l s hs
      have h4 := be_le (s := s) (r := rp l s) (q := rp l s + d) (by omega)
      have h5 := h2 (rp l s + d) (by omega)
      rw [← Nat.add_assoc, gt_step, h1]; omega
  have := key (r - rp l s) (by omega)
  rw [show rp l s + (r - rp l s) = r from by omega] at this
  exact this.symm
theorem tt_nn (l s : Nat) (hs : 1 ≤ s) : 0 ≤ tt l s := by
  have := gt_tt l s 0 hs
  unfold gt at this
  rw [sum_zero] at this
  simp at this; exact this
theorem sum_le (l s : Nat) (hs : 1 ≤ s) : ((bin (s + rp l s) (s + 1) : Nat) : Int) ≤ (rp l s : Int) * l := by
  have := tt_nn l s hs; unfold tt gt at this; omega
theorem tt_step (l s : Nat) (hs : 1 ≤ s) (hl : 1 ≤ l) : tt l s - tt (l - 1) s = rp l s := by
  have e : tt (l - 1) s = gt (l - 1) s (rp l s) := tt_is hs (by have := rp_enough l s hs; omega) (fun j h => by have := rp_less l s hs h; omega)
  rw [e]
  unfold tt gt
  have : ((l - 1 : Nat) : Int) = (l : Int) - 1 := by omega
  rw [this, Int.mul_sub]; omega
theorem tt_more (l s : Nat) (hs : 1 ≤ s) : tt l (s + 1) ≤ tt l s := by
  refine Int.le_trans ?_ (gt_tt l s (rp l (s + 1)) hs)
  unfold tt gt
  have : bin (s + rp l (s + 1)) (s + 1) ≤ bin (s + 1 + rp l (s + 1)) (s + 1 + 1) := by
    rw [show s + 1 + rp l (s + 1) = (s + rp l (s + 1)) + 1 from by omega, bin_succ]; omega
  omega
theorem tt_most (l s : Nat) (hs : 1 ≤ s) : tt l s ≤ tt l 1 := by
  obtain ⟨d, rfl⟩ : ∃ d, s = 1 + d := ⟨s - 1, by omega⟩
  clear hs
  induction d with
  | zero => exact Int.le_refl _
  | succ d ih => exact Int.le_trans (tt_more l (1 + d) (by omega)) ih
theorem tt_least (l s : Nat) (hs : 1 ≤ s) : (l : Int) - 1 ≤ tt l s := by
  have := gt_tt l s 1 hs
  unfold gt at this
  rw [bin_self (s + 1)] at this
  simp at this; omega
theorem rp_one (l : Nat) (hl : 1 ≤ l) : rp l 1 = l - 1 := (rp_is (Nat.le_refl 1) (by rw [be_one]; omega) (fun j h => by rw [be_one]; omega)).symm
theorem rp_one_max (l : Nat) : rp l 1 = l - 1 := by
  cases l with
  | zero => rfl
  | succ l => exact rp_one _ (by omega)
theorem tt_one (l : Nat) (hl : 1 ≤ l) : tt l 1 = (l : Int) * ((l : Int) - 1) / 2 := by
  obtain ⟨m, rfl⟩ : ∃ m, l = m + 1 := ⟨l - 1, by omega⟩
  unfold tt gt
  rw [rp_one _ hl, show m + 1 - 1 = m from by omega]
  have h := bin_mul m 1
  rw [bin_one] at h
  have e : 1 + m = m + 1 := by omega
  rw [e]
  have h2 : ((bin (m + 1) (1 + 1) : Nat) : Int) * 2 = (m : Int) * ((m : Int) + 1) := by exact_mod_cast h
  have h3 : ((m + 1 : Nat) : Int) = (m : Int) + 1 := by omega
  rw [h3, show (m : Int) + 1 - 1 = (m : Int) from by omega]
  have h4 : ((m : Int) + 1) * (m : Int) = (m : Int) * ((m : Int) + 1) := Int.mul_comm _ _
  rw [h4]
  generalize (m : Int) * ((m : Int) + 1) = p at *
  omega

/-- at no place a split makes less -/
theorem tt_parts (n c k : Nat) (hc : 2 ≤ c) (hn : 2 ≤ n) (hk : k ≤ n) : tt n c ≤ k + tt (n - k) (c - 1) + tt k c := by
  obtain ⟨b, rfl⟩ : ∃ b, c = b + 1 := ⟨c - 1, by omega⟩
  have hr := rp_pos (l := n) (s := b + 1) (by omega) hn
  obtain ⟨r, hr⟩ : ∃ r, rp n (b + 1) = r + 1 := ⟨rp n (b + 1) - 1, by omega⟩
  have h1 := gt_tt (n - k) b (r + 1) (by omega)
  have h2 := gt_tt k (b + 1) r (by omega)
  have e : tt n (b + 1) = k + gt (n - k) b (r + 1) + gt k (b + 1) r := by
    unfold tt gt
    rw [hr]
    have e1 : bin (b + 1 + (r + 1)) (b + 1 + 1) = bin (b + (r + 1)) (b + 1) + bin (b + 1 + r) (b + 1 + 1) := by
      rw [show b + 1 + (r + 1) = (b + (r + 1)) + 1 from by omega, bin_succ, show b + (r + 1) = b + 1 + r from by omega]
    have e2 : ((n - k : Nat) : Int) = (n : Int) - k := by omega
    rw [e1, e2]; push_cast; grind
  rw [show b + 1 - 1 = b from by omega]
  omega
/-- the split that is told is one where nothing is lost -/
theorem tt_split (n c m : Nat) (hc : 2 ≤ c) (hn : 2 ≤ n) (h1 : 1 ≤ m) (h2 : n ≤ m + be (c - 1) (rp n c))
    (h3 : m ≤ be c (rp n c - 1)) (h4 : m + be (c - 1) (rp n c - 1) ≤ n) (h5 : 2 ≤ rp n c → be c (rp n c - 2) ≤ m) : tt n c = m + tt (n - m) (c - 1) + tt m c := by
  obtain ⟨b, rfl⟩ : ∃ b, c = b + 1 := ⟨c - 1, by omega⟩
  have hr := rp_pos (l := n) (s := b + 1) (by omega) hn
  obtain ⟨r, hr⟩ : ∃ r, rp n (b + 1) = r + 1 := ⟨rp n (b + 1) - 1, by omega⟩
  rw [hr] at h2 h3 h4 h5
  rw [show b + 1 - 1 = b from by omega] at *
  rw [show r + 1 - 1 = r from by omega] at *
  have g1 : tt (n - m) b = gt (n - m) b (r + 1) := tt_is (by omega) (by omega) (fun j hj => by
    have := be_le (s := b) (r := j) (q := r) (by omega); omega)
  have g2 : tt m (b + 1) = gt m (b + 1) r := tt_is (by omega) h3 (fun j hj => by
    have h6 := h5 (by omega)
    have := be_le (s := b + 1) (r := j) (q := r + 1 - 2) (by omega); omega)
  rw [g1, g2]
  unfold tt gt
  rw [hr]
  have e1 : bin (b + 1 + (r + 1)) (b + 1 + 1) = bin (b + (r + 1)) (b + 1) + bin (b + 1 + r) (b + 1 + 1) := by
    rw [show b + 1 + (r + 1) = (b + (r + 1)) + 1 from by omega, bin_succ, show b + (r + 1) = b + 1 + r from by omega]
  have e2 : ((n - m : Nat) : Int) = (n : Int) - m := by omega
  rw [e1, e2]; push_cast; grind

/-- the split, as the formula tells it -/
def sp (n c : Nat) : Int := max 1 (max (ch ((c : Int) + rp n c - 2) c) ((n : Int) - ch ((c : Int) + rp n c - 1) ((c : Int) - 1)))
theorem ch_be {s r : Nat} : ch ((s : Int) + r) s = min ((be s r : Nat) : Int) 1099511627776 := by
  rw [ch_at (by omega) (by omega), show ((s : Int) + r).toNat = s + r from by omega, Int.toNat_natCast]; rfl
theorem sp_facts (n c : Nat) (hc : 2 ≤ c) (hn : 2 ≤ n) (hn2 : n ≤ 1099511627776) : ∃ m : Nat, sp n c = m ∧ 1 ≤ m ∧ m < n ∧ n ≤ m + be (c - 1) (rp n c) ∧ m ≤ be c (rp n c - 1) ∧ m + be (c - 1) (rp n c - 1) ≤ n ∧ (2 ≤ rp n c → be c (rp n c - 2) ≤ m) := by
  obtain ⟨b, rfl⟩ : ∃ b, c = b + 1 := ⟨c - 1, by omega⟩
  have hp := rp_pos (l := n) (s := b + 1) (by omega) hn
  have he := rp_enough n (b + 1) (by omega)
  have hl := rp_less n (b + 1) (by omega) (j := rp n (b + 1) - 1) (by omega)
  unfold sp
  generalize rp n (b + 1) = R at *
  obtain ⟨r, rfl⟩ : ∃ r, R = r + 1 := ⟨R - 1, by omega⟩
  rw [show b + 1 - 1 = b from by omega]
  rw [show r + 1 - 1 = r from by omega] at *
  have e1 : ((b + 1 : Nat) : Int) + ((r + 1 : Nat) : Int) - 1 = (b : Int) + (r + 1 : Nat) := by omega
  have e2 : ((b + 1 : Nat) : Int) - 1 = (b : Int) := by omega
  rw [e1, e2, ch_be]
  have ht := be_two b r
  have hbr := be_le (s := b) (r := r) (q := r + 1) (by omega)
  have hb1 : 1 ≤ be b r := bin_pos (by omega)
  cases r with
  | zero =>
    have e3 : ch (((b + 1 : Nat) : Int) + ((0 + 1 : Nat) : Int) - 2) ((b + 1 : Nat) : Int) = 0 := ch_none (by omega)
    rw [e3]
    rw [be_zero] at hl
    have h0 : be b 0 = 1 := be_zero b
    have h0' : be (b + 1) 0 = 1 := be_zero _
    refine ⟨(max 1 (max 0 ((n : Int) - min ((be b (0 + 1) : Nat) : Int) 1099511627776))).toNat, by omega, by omega, by omega, by omega, by omega, by omega, fun h => by omega⟩
  | succ r =>
    have e3 : ((b + 1 : Nat) : Int) + ((r + 1 + 1 : Nat) : Int) - 2 = ((b + 1 : Nat) : Int) + (r : Nat) := by omega
    rw [e3, ch_be]
    have ht2 := be_two b r
    have hb2 : 1 ≤ be (b + 1) r := bin_pos (by omega)
    refine ⟨(max 1 (max (min ((be (b + 1) r : Nat) : Int) 1099511627776) ((n : Int) - min ((be b (r + 1 + 1) : Nat) : Int) 1099511627776))).toNat, by omega, by omega, by omega, by omega, by omega, by omega, fun _ => ?_⟩
    rw [show r + 1 + 1 - 2 = r from by omega]; omega
end Go.Proofs.Ytgadkelldbibgaa.Ch
