/- A slot is vacant where a stride's multiple is to be stored. No program. -/
import Derived.Test.YtkdamcacmecnaaaPlainT
namespace Go.Proofs.Ytkdamcacmecnaaa
set_option linter.unusedVariables false
namespace Sd
theorem grow_vac {k : Nat} {d0 : Int} {tags : List Int} (h : Held (fun x => x < k ∧ x % d0 = 0) tags) (hq : ∃ q, sd k tags.length = d0 * q) (hk : k < 65536) (hn : 1 ≤ tags.length ∧ tags.length ≤ 1048576) (c : (k : Int) % sd k tags.length = 0) :
    0 ≤ slot (frT (sd k tags.length) tags k) (-1) := by
  obtain ⟨_, hh⟩ := fr_goes (L := 0) (tot := 0) h hk hn (fun t _ p => by omega) k (by omega)
  have hl := frT_len (sd k tags.length) tags k
  have hd := sd_pos (k : Int) tags.length
  have hgt := sd_gt (k := (k : Int)) (n := tags.length) (by omega) (by omega)
  generalize frT (sd k tags.length) tags k = T at *
  obtain ⟨q, hq⟩ := hq
  have hh2 : Held (fun x => x < (k : Int) ∧ x % sd k tags.length = 0) T := hh.cong fun x hx => by
    constructor
    · rintro ⟨⟨a, b⟩, c | c⟩
      · exact ⟨a, c⟩
      · omega
    · rintro ⟨a, b⟩
      exact ⟨⟨a, by rw [hq] at b; exact mod_of b⟩, .inl b⟩
  generalize sd k tags.length = d at *
  have hc := hh2.cnt k (fun t _ p => p.1)
  have e1 : Mc.sum (fun (t : Nat) => if ((t : Int) < (k : Int) ∧ (t : Int) % d = 0) then (1 : Int) else 0) k = Mc.sum (fun (t : Nat) => if (t : Int) % d = 0 then (1 : Int) else 0) k := Mc.sum_cong _ fun t ht => by
    by_cases z : (t : Int) % d = 0
    · rw [if_pos z, if_pos ⟨by omega, z⟩]
    · rw [if_neg z, if_neg fun h => z h.2]
  rw [e1, sum_mult' d hd k c] at hc
  have hlt : (k : Int) / d < tags.length := Int.ediv_lt_of_lt_mul (by omega) hgt
  exact hh2.vacant (by rw [hl]; omega)
/-- what slots hold ahead of run i -/
def aZ (n : Nat) : Nat → List Int
  | 0 => List.replicate n (-1)
  | k + 1 => aT n k
theorem aZ_len (n k : Nat) : (aZ n k).length = n := by
  cases k with
  | zero => simp [aZ]
  | succ k => exact aT_len n k
theorem aZ_succ (n k : Nat) : aZ n (k + 1) = gT (aZ n k) k := by cases k <;> rfl
theorem aZ_vac {n k : Nat} (hk : k < 65536) (hn : 1 ≤ n ∧ n ≤ 1048576) (c : (k : Int) % sd k (aZ n k).length = 0) : 0 ≤ slot (frT (sd k (aZ n k).length) (aZ n k) k) (-1) := by
  cases k with
  | zero =>
    have h0 : Held (fun x => x < ((0 : Nat) : Int) ∧ x % 1 = 0) (List.replicate n (-1)) := (Held.new n).cong fun x hx => ⟨fun h => h.elim, fun h => by omega⟩
    exact grow_vac h0 ⟨_, (Int.one_mul _).symm⟩ (by omega) (by rw [aZ_len]; exact hn) c
  | succ k =>
    have h0 := aT_held (n := n) (k := k) (by omega) hn
    have hq : ∃ q, sd ((k + 1 : Nat) : Int) (aT n k).length = sd k n * q := by rw [aT_len]; exact sd_step (k := (k : Int)) (n := (n : Int)) (by omega) (by omega)
    exact grow_vac (tags := aT n k) h0 hq hk (by rw [aT_len]; exact hn) c
theorem rA_zero (n : Nat) : rA n 0 = gA (aZ n 0) 0 := rfl
theorem rA_succ (n k : Nat) : rA n (k + 1) = (1, 1) :: gA (aZ n (k + 1)) (k + 1) := rfl
end Sd
end Go.Proofs.Ytkdamcacmecnaaa
