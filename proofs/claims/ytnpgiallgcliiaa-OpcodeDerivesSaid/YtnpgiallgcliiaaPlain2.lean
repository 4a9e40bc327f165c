/- Plain facts on numbers with a derivative (duals) whose parts go round: no program in sight. -/
import Derived.Test.YtnpgiallgcliiaaPlain
namespace Go.Proofs.Ytnpgiallgcliiaa.Pl
open Go

/-- sums and products of duals, part by part, as a loop makes them -/
def dsV (v : Nat → Int) : Nat → Int
  | 0 => 0
  | k + 1 => IntKind.u64.wrap (dsV v k + v k)
theorem dsV_eq (v : Nat → Int) (k : Nat) : dsV v k = IntKind.u64.wrap (sm v k) := by
  induction k with
  | zero => rfl
  | succ k ih => simp only [dsV, sm, ih, uw_addl]
def dp (v d : Nat → Int) : Nat → Int × Int
  | 0 => (1, 0)
  | k + 1 => (IntKind.u64.wrap ((dp v d k).1 * v k), IntKind.u64.wrap ((dp v d k).1 * d k + (dp v d k).2 * v k))
theorem dp_range (v d : Nat → Int) (k : Nat) : (0 ≤ (dp v d k).1 ∧ (dp v d k).1 ≤ 18446744073709551615) ∧ 0 ≤ (dp v d k).2 ∧ (dp v d k).2 ≤ 18446744073709551615 := by
  cases k with
  | zero => simp [dp]
  | succ k => exact ⟨⟨uw_nn _, uw_le _⟩, uw_nn _, uw_le _⟩
/-- a product of two -/
theorem dp_two (v d : Nat → Int) : dp v d 2 = (IntKind.u64.wrap (v 0 * v 1), IntKind.u64.wrap (v 0 * d 1 + d 0 * v 1)) := by
  simp only [dp, Int.one_mul, Int.zero_mul, Int.add_zero]
  rw [uw_mull, ← uw_addl, uw_mull, uw_addl, ← uw_addr, uw_mull, uw_addr]

/-- the derivative of a power -/
def dn (v d : Int) (n : Nat) : Int := n * v ^ (n - 1) * d
theorem dn_zero (v d : Int) : dn v d 0 = 0 := by simp [dn]
theorem dn_succ (v d : Int) (n : Nat) : dn v d (n + 1) = v ^ n * d + dn v d n * v := by
  unfold dn
  cases n with
  | zero => simp
  | succ n =>
    simp only [Nat.add_sub_cancel]
    rw [Int.pow_succ]
    push_cast
    generalize v ^ n = p
    grind
theorem dn_add (v d : Int) (n m : Nat) : dn v d (n + m) = v ^ n * dn v d m + dn v d n * v ^ m := by
  induction m with
  | zero => simp [dn_zero]
  | succ m ih =>
    rw [← Nat.add_assoc, dn_succ, ih, dn_succ, Int.pow_add, Int.pow_succ]
    generalize v ^ n = p
    generalize v ^ m = q
    grind
theorem dn_sq (v d : Int) (k : Nat) : dn (v * v) (v * d + d * v) k = dn v d (2 * k) := by
  induction k with
  | zero => simp [dn_zero]
  | succ k ih =>
    rw [dn_succ, ih, show 2 * (k + 1) = 2 * k + 1 + 1 from by omega, dn_succ, dn_succ, Int.pow_succ]
    have e : (v * v) ^ k = v ^ (2 * k) := by rw [Int.mul_pow, ← Int.pow_add]; congr 1; omega
    rw [e]
    generalize v ^ (2 * k) = p
    grind
theorem sq_pow (v : Int) (k : Nat) : (v * v) ^ k = v ^ (2 * k) := by rw [Int.mul_pow, ← Int.pow_add]; congr 1; omega
theorem uw_dn (v d : Int) (n : Nat) : IntKind.u64.wrap (dn (IntKind.u64.wrap v) (IntKind.u64.wrap d) n) = IntKind.u64.wrap (dn v d n) := by
  unfold dn
  rw [uw_mulr, ← uw_mull, ← uw_mulr n, uw_powl, uw_mulr, uw_mull]

/-- what is carried by 'Pow': p times a to the n, in both parts -/
def pwV (pv av : Int) (n : Nat) : Int := IntKind.u64.wrap (pv * av ^ n)
def pwD (pv pd av ad : Int) (n : Nat) : Int := IntKind.u64.wrap (pv * dn av ad n + pd * av ^ n)
theorem pwV_even (pv av : Int) (k : Nat) : pwV pv (IntKind.u64.wrap (av * av)) k = pwV pv av (2 * k) := by
  unfold pwV
  exact uwm rfl (by rw [uw_powl, sq_pow])
theorem pwD_even (pv pd av ad : Int) (k : Nat) : pwD pv pd (IntKind.u64.wrap (av * av)) (IntKind.u64.wrap (av * ad + ad * av)) k = pwD pv pd av ad (2 * k) := by
  unfold pwD
  exact uw2 (uwm rfl (by rw [uw_dn, dn_sq])) (uwm rfl (by rw [uw_powl, sq_pow]))
theorem pwV_odd (pv av : Int) (k : Nat) : pwV (IntKind.u64.wrap (pv * av)) (IntKind.u64.wrap (av * av)) k = pwV pv av (2 * k + 1) := by
  rw [pwV_even]
  unfold pwV
  rw [uw_mull, Int.mul_assoc, ← Int.mul_comm (av ^ (2 * k)), ← Int.pow_succ]
theorem pwD_odd (pv pd av ad : Int) (k : Nat) : pwD (IntKind.u64.wrap (pv * av)) (IntKind.u64.wrap (pv * ad + pd * av)) (IntKind.u64.wrap (av * av)) (IntKind.u64.wrap (av * ad + ad * av)) k = pwD pv pd av ad (2 * k + 1) := by
  rw [pwD_even]
  unfold pwD
  refine (uw2 (uwm (uw_uw _) rfl) (uwm (uw_uw _) rfl)).trans ?_
  rw [dn_succ, Int.pow_succ]
  congr 1
  generalize av ^ (2 * k) = p
  grind
theorem pwV_zero (pv : Int) (n : Nat) (h : 0 < n) : pwV pv 0 n = 0 := by
  unfold pwV
  rw [Int.zero_pow (by omega), Int.mul_zero]; rfl
theorem pwD_zero (pv pd : Int) (n : Nat) (h : 0 < n) : pwD pv pd 0 0 n = 0 := by
  unfold pwD dn
  rw [Int.mul_zero, Int.zero_pow (by omega), Int.mul_zero, Int.mul_zero]; rfl

/-- a polynomial at a dual: the derivative's part -/
def hd (f : Nat → Int) (v d : Int) (k : Nat) : Int := sm (fun j => f j * dn v d j) k
theorem hd_step (f : Nat → Int) (v d : Int) (k : Nat) : hd f v d (k + 1) = hz (fun j => f (j + 1)) v k * d + hd (fun j => f (j + 1)) v d k * v := by
  unfold hd hz
  rw [sm_shift, dn_zero, Int.mul_zero, Int.zero_add, Int.mul_comm _ d, Int.mul_comm _ v, ← sm_mul, ← sm_mul, ← sm_add]
  exact sm_congr fun i _ => by rw [dn_succ]; grind
theorem hd_formal (f : Nat → Int) (x : Int) (k : Nat) : IntKind.u64.wrap (hd f x 1 (k + 1)) = IntKind.u64.wrap (hz (fun j => IntKind.u64.wrap ((j + 1 : Nat) * f (j + 1))) x k) := by
  unfold hd hz
  rw [sm_shift, dn_zero, Int.mul_zero, Int.zero_add]
  induction k with
  | zero => rfl
  | succ k ih =>
    simp only [sm]
    refine uw2 ih ?_
    rw [uw_mull]
    congr 1
    unfold dn
    simp only [Nat.add_sub_cancel]
    grind
end Go.Proofs.Ytnpgiallgcliiaa.Pl
