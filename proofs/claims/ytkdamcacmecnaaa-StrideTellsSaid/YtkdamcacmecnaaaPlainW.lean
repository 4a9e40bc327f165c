/- A stride's schedule up to a number of steps: the actions, what slots hold, that they come one after the other. No program. -/
import Derived.Test.YtkdamcacmecnaaaPlainV
namespace Go.Proofs.Ytkdamcacmecnaaa
set_option linter.unusedVariables false
namespace Sd
open Mc (St Act Goes Runs Does)

theorem p2_add (i j : Nat) : p2 (i + j) = p2 i * p2 j := by unfold p2; rw [Nat.pow_add]; simp
theorem jx_mono {k n : Int} (hk : k + 1 < 65536) (hs : 1 ≤ n) : jx k n ≤ jx (k + 1) n := by
  apply Classical.byContradiction
  intro c
  have h1 := (jx_is (k := k) (by omega) hs).2 (jx (k + 1) n) (by omega)
  have h2 := (jx_is hk hs).1
  omega
theorem sd_step {k n : Int} (hk : k + 1 < 65536) (hs : 1 ≤ n) : ∃ q : Int, sd (k + 1) n = sd k n * q := by
  refine ⟨p2 (jx (k + 1) n - jx k n), ?_⟩
  unfold sd
  rw [← p2_add]
  have := jx_mono hk hs
  congr 1
  omega
theorem sd_gt {k n : Int} (hk : k < 65536) (hs : 1 ≤ n) : k < n * sd k n := (jx_is hk hs).1
theorem mod_of {x d q : Int} (h : x % (d * q) = 0) : x % d = 0 := by
  have h1 := Int.dvd_of_emod_eq_zero h
  exact Int.emod_eq_zero_of_dvd (Int.dvd_trans (Int.dvd_mul_right d q) h1)

/-- what slots hold behind one more step; the actions of that -/
def gT (tags : List Int) (k : Nat) : List Int :=
  if (k : Int) % sd k tags.length = 0 then (frT (sd k tags.length) tags k).set (slot (frT (sd k tags.length) tags k) (-1)).toNat k else frT (sd k tags.length) tags k
def gA (tags : List Int) (k : Nat) : List Act :=
  frA (sd k tags.length) tags k ++ if (k : Int) % sd k tags.length = 0 then [(2, slot (frT (sd k tags.length) tags k) (-1))] else []
theorem gT_len (tags : List Int) (k : Nat) : (gT tags k).length = tags.length := by
  unfold gT; split <;> simp [frT_len]
theorem grow_runs {L : Int} {k : Nat} {tot d0 : Int} {tags : List Int} (h : Held (fun x => x < k ∧ x % d0 = 0) tags) (hq : ∃ q, sd k tags.length = d0 * q) (hk : k < 65536) (hn : 1 ≤ tags.length ∧ tags.length ≤ 1048576) :
    Runs (nm k false) ⟨L, k, -1, tot, tags⟩ (gA tags k) ⟨L, k, -1, tot, gT tags k⟩ ∧ Held (fun x => x < (k + 1 : Nat) ∧ x % sd k tags.length = 0) (gT tags k) := by
  obtain ⟨hg, hh⟩ := fr_goes (L := L) (tot := tot) h hk hn (fun t _ p => by omega) k (by omega)
  have hl := frT_len (sd k tags.length) tags k
  have hd := sd_pos (k : Int) tags.length
  have hgt := sd_gt (k := (k : Int)) (n := tags.length) (by omega) (by omega)
  have hsd : sd k (frT (sd k tags.length) tags k).length = sd k tags.length := by rw [hl]
  unfold gA gT
  generalize frT (sd k tags.length) tags k = T at *
  obtain ⟨q, hq⟩ := hq
  have hh2 : Held (fun x => x < (k : Int) ∧ x % sd k tags.length = 0) T := hh.cong fun x hx => by
    constructor
    · rintro ⟨⟨a, b⟩, c | c⟩
      · exact ⟨a, c⟩
      · omega
    · rintro ⟨a, b⟩
      exact ⟨⟨a, by rw [hq] at b; exact mod_of b⟩, .inl b⟩
  generalize sd k tags.length = d at *
  clear hh hq
  have hend : ∀ T' : List Int, T'.length = tags.length → Held (fun x => x < (k + 1 : Nat) ∧ x % d = 0) T' → nm k false ⟨L, k, -1, tot, T'⟩ = none := by
    intro T' hl' hT
    have e : sd k T'.length = d := by rw [hl', ← hl]; exact hsd
    unfold nm nx
    have hoff : off d T' = -1 := by
      rcases off_cases d T' with ⟨h1, _⟩ | ⟨i, hi, _, h2, _⟩
      · exact h1
      · unfold bad at h2
        simp only [Bool.and_eq_true, decide_eq_true_eq] at h2
        rcases hT.all i hi with a | ⟨_, _, b⟩
        · omega
        · exact absurd b h2.2
    rw [if_neg (not_not_intro (hT.okS (by omega) (by show (0 : Int) ≤ (k : Int) ∧ (k : Int) ≤ k; omega) (by show (-1 : Int) ≤ -1 ∧ (-1 : Int) ≤ k; omega) (by rw [hl']; exact hn) fun x hx hp => by omega)), if_pos (by show (-1 : Int) < 0; omega), if_neg (by show ¬ (k : Int) < k; omega), e, hoff, if_neg (by omega), if_neg ?_, if_neg (by simp)]
    rintro ⟨h1, h2, _⟩
    have := (hT.sl1 (t := (k : Int)) (by omega)).1 ⟨by omega, h1⟩
    have h3 : slot T' k < 0 := h2
    omega
  by_cases c : (k : Int) % d = 0
  · rw [if_pos c, if_pos c]
    have hc := hh2.cnt k (fun t _ p => p.1)
    have e1 : Mc.sum (fun (t : Nat) => if ((t : Int) < (k : Int) ∧ (t : Int) % d = 0) then (1 : Int) else 0) k = Mc.sum (fun (t : Nat) => if (t : Int) % d = 0 then (1 : Int) else 0) k := Mc.sum_cong _ fun t ht => by
      by_cases z : (t : Int) % d = 0
      · rw [if_pos z, if_pos ⟨by omega, z⟩]
      · rw [if_neg z, if_neg fun h => z h.2]
    rw [e1, sum_mult' d hd k c] at hc
    have hlt : (k : Int) / d < tags.length := Int.ediv_lt_of_lt_mul (by omega) hgt
    have hv := hh2.vacant (by rw [hl]; omega)
    obtain ⟨q1, q2⟩ := slot_nn hv
    obtain ⟨s, hs⟩ : ∃ s : Nat, slot T (-1) = s := ⟨(slot T (-1)).toNat, by omega⟩
    rw [hs, Int.toNat_natCast] at q1 q2 ⊢
    have hst := hh2.store q1 q2 (x := (k : Int)) (by omega) (by omega)
    have hT : Held (fun x => x < (k + 1 : Nat) ∧ x % d = 0) (T.set s k) := hst.cong fun x hx => by
      constructor
      · rintro (⟨a, b⟩ | rfl)
        · exact ⟨by omega, b⟩
        · exact ⟨by omega, c⟩
      · rintro ⟨a, b⟩
        by_cases e : x = k
        · exact .inr e
        · exact .inl ⟨by omega, b⟩
    refine ⟨hg.run ?_, hT⟩
    have e := step_store (m := ⟨L, k, -1, tot, T⟩) (n := s) q1 (by show T.length ≤ 1048576; omega) (by show T.getD s 0 < 0; omega)
    have hx : nm k false ⟨L, k, -1, tot, T⟩ = some (2, (s : Int)) := by
      have hoff : off d T = -1 := by
        rcases off_cases d T with ⟨h1, _⟩ | ⟨i, hi, _, h2, _⟩
        · exact h1
        · unfold bad at h2
          simp only [Bool.and_eq_true, decide_eq_true_eq] at h2
          rcases hh2.all i hi with a | ⟨_, _, b⟩
          · omega
          · exact absurd b h2.2
      have hsl := (hh2.sl1 (t := (k : Int)) (by omega)).2 (by omega)
      unfold nm nx
      rw [if_neg (not_not_intro (hh2.okS (by omega) (by show (0 : Int) ≤ (k : Int) ∧ (k : Int) ≤ k; omega) (by show (-1 : Int) ≤ -1 ∧ (-1 : Int) ≤ k; omega) (by rw [hl]; exact hn) fun x hx hp => by omega)), if_pos (by show (-1 : Int) < 0; omega), if_neg (by show ¬ (k : Int) < k; omega), hsd, hoff, if_neg (by omega), if_pos ⟨c, by show slot T k < 0; omega, by rw [hs]; omega⟩, hs]
    refine ⟨hx, by rw [e], ?_⟩
    rw [e]
    exact Runs.stop (hend _ (by rw [List.length_set]; exact hl) hT)
  · rw [if_neg c, if_neg c]
    have hT : Held (fun x => x < (k + 1 : Nat) ∧ x % d = 0) T := hh2.cong fun x hx => by
      constructor
      · rintro ⟨a, b⟩; exact ⟨by omega, b⟩
      · rintro ⟨a, b⟩
        refine ⟨?_, b⟩
        by_cases e : x = k
        · subst e; exact absurd b c
        · omega
    exact ⟨hg.run (Runs.stop (hend T hl hT)), hT⟩

/-- what n slots hold behind k steps -/
def aT (n : Nat) : Nat → List Int
  | 0 => gT (List.replicate n (-1)) 0
  | k + 1 => gT (aT n k) (k + 1)
/-- the actions of run k -/
def rA (n : Nat) : Nat → List Act
  | 0 => gA (List.replicate n (-1)) 0
  | k + 1 => (1, 1) :: gA (aT n k) (k + 1)
/-- all actions up to k steps -/
def aA (n : Nat) : Nat → List Act
  | 0 => rA n 0
  | k + 1 => aA n k ++ rA n (k + 1)
theorem aT_len (n k : Nat) : (aT n k).length = n := by
  induction k with
  | zero => unfold aT; rw [gT_len]; simp
  | succ k ih => unfold aT; rw [gT_len, ih]
/-- the machine behind run k -/
def mA (L : Int) (n k : Nat) : St := ⟨L, k, -1, k, aT n k⟩
/-- the machine ahead of run k -/
def mZ (L : Int) (n : Nat) : Nat → St
  | 0 => Mc.new L n
  | k + 1 => mA L n k
theorem aT_held {n k : Nat} (hk : k < 65536) (hn : 1 ≤ n ∧ n ≤ 1048576) : Held (fun x => x < (k + 1 : Nat) ∧ x % sd k n = 0) (aT n k) := by
  induction k with
  | zero =>
    have h0 : Held (fun x => x < ((0 : Nat) : Int) ∧ x % 1 = 0) (List.replicate n (-1)) := (Held.new n).cong fun x hx => ⟨fun h => h.elim, fun h => by omega⟩
    have := (grow_runs (L := 0) (tot := 0) h0 ⟨_, (Int.one_mul _).symm⟩ (by omega) (by simpa using hn)).2
    simpa [aT] using this
  | succ k ih =>
    have h0 := ih (by omega)
    have hq : ∃ q, sd ((k + 1 : Nat) : Int) (aT n k).length = sd k n * q := by rw [aT_len]; exact sd_step (k := (k : Int)) (n := (n : Int)) (by omega) (by omega)
    have := (grow_runs (L := 0) (tot := 0) h0 hq hk (by rw [aT_len]; exact hn)).2
    rw [aT_len] at this
    exact this
theorem run_ahead {L : Int} {n k : Nat} (hL : L < 65536) (hk : (k : Int) ≤ L) (hn : 1 ≤ n ∧ n ≤ 1048576) : Runs (nm k false) (mZ L n k) (rA n k) (mA L n k) := by
  cases k with
  | zero =>
    have h0 : Held (fun x => x < ((0 : Nat) : Int) ∧ x % 1 = 0) (List.replicate n (-1)) := (Held.new n).cong fun x hx => ⟨fun h => h.elim, fun h => by omega⟩
    exact (grow_runs (L := L) (tot := 0) h0 ⟨_, (Int.one_mul _).symm⟩ (by omega) (by simpa using hn)).1
  | succ k =>
    have h0 := aT_held (n := n) (k := k) (by omega) hn
    have hq : ∃ q, sd ((k + 1 : Nat) : Int) (aT n k).length = sd k n * q := by rw [aT_len]; exact sd_step (k := (k : Int)) (n := (n : Int)) (by omega) (by omega)
    have hr := (grow_runs (L := L) (tot := ((k + 1 : Nat) : Int)) h0 hq (by omega) (by rw [aT_len]; exact hn)).1
    have e := step_adv (m := mA L n k) (n := 1) (by omega) (by omega) (by show (1 : Int) ≤ L - k; omega)
    have hx : nm ((k + 1 : Nat) : Int) false (mA L n k) = some (1, 1) := by
      unfold nm nx mA
      rw [if_neg (not_not_intro (h0.okS (by omega) (by show (0 : Int) ≤ (k : Int) ∧ (k : Int) ≤ _; omega) (by show (-1 : Int) ≤ -1 ∧ (-1 : Int) ≤ _; omega) (by rw [aT_len]; exact hn) fun x hx hp => by omega)), if_pos (by show (-1 : Int) < 0; omega), if_pos (by show (k : Int) < _; omega)]
      congr 2
      show ((k + 1 : Nat) : Int) - (k : Int) = 1
      omega
    refine ⟨hx, by show (Mc.step (mA L n k) 1 1).2 = 0; rw [e], ?_⟩
    show Runs _ (Mc.step (mA L n k) 1 1).1 _ _
    rw [e]
    exact hr
theorem does_ahead {L : Int} {n : Nat} (hL : L < 65536) (hn : 1 ≤ n ∧ n ≤ 1048576) : ∀ k : Nat, (k : Int) ≤ L → Does (Mc.new L n) (aA n k) (mA L n k) := by
  intro k
  induction k with
  | zero => intro h; exact (run_ahead hL h hn).does
  | succ k ih => intro h; exact (ih (by omega)).trans (run_ahead hL h hn).does
end Sd
end Go.Proofs.Ytkdamcacmecnaaa
