/- Lists of actions, done one by one; what a list comes to. No program. -/
import Derived.Test.YtgadkelldbibgaaPlainM
namespace Go.Proofs.Ytgadkelldbibgaa
namespace Mc
abbrev Act := Int × Int
/-- what a list comes to: the total, how many were done, the error -/
def chk (m : St) : List Act → Nat → Int × Int × Int
  | [], k => if m.pend = 0 then (m.tot, (k : Int), 0) else (0, (k : Int), 19)
  | a :: l, k => if (step m a.1 a.2).2 = 0 then chk (step m a.1 a.2).1 l (k + 1) else (0, (k : Int), (step m a.1 a.2).2)
theorem chk_nil (m : St) (k : Nat) : chk m [] k = if m.pend = 0 then (m.tot, (k : Int), 0) else (0, (k : Int), 19) := rfl
theorem drop_at (l : List Act) {k : Nat} (h : k < l.length) : l.drop k = l.getD k (0, 0) :: l.drop (k + 1) := by
  rw [List.drop_eq_getElem_cons h]
  simp [List.getD, h]
theorem chk_ok {m : St} {l : List Act} {k : Nat} (h : k < l.length) (e : (step m (l.getD k (0, 0)).1 (l.getD k (0, 0)).2).2 = 0) :
    chk m (l.drop k) k = chk (step m (l.getD k (0, 0)).1 (l.getD k (0, 0)).2).1 (l.drop (k + 1)) (k + 1) := by
  rw [drop_at l h, chk, if_pos e]
theorem chk_bad {m : St} {l : List Act} {k : Nat} (h : k < l.length) (e : (step m (l.getD k (0, 0)).1 (l.getD k (0, 0)).2).2 ≠ 0) :
    chk m (l.drop k) k = (0, (k : Int), (step m (l.getD k (0, 0)).1 (l.getD k (0, 0)).2).2) := by
  rw [drop_at l h, chk, if_neg e]
theorem chk_end {m : St} {l : List Act} : chk m (l.drop l.length) l.length = if m.pend = 0 then (m.tot, (l.length : Int), 0) else (0, (l.length : Int), 19) := by
  rw [List.drop_length]; rfl
/-- a machine as it is made -/
def new (l : Int) (n : Nat) : St := ⟨l, 0, -1, 0, List.replicate n (-1)⟩
theorem new_inv (l : Int) (n : Nat) (l0 : 0 ≤ l) (l1 : l < 65536) (hn : n ≤ 1048576) : Inv (new l n) :=
  ⟨l0, by show l ≤ 65535; omega, by show (0 : Int) ≤ 0; omega, l0, by show (-1 : Int) ≤ -1; omega, by show -1 ≤ l; omega, fun x hx => by
    obtain ⟨_, rfl⟩ := List.mem_replicate.1 hx
    show -1 ≤ -1 ∧ -1 ≤ l
    omega, by simp [new]; exact hn, by show (0 : Int) ≤ 0; omega⟩
/-- the whole answer for a length, slots, a list -/
def check (l n : Int) (list : List Act) : Int × Int × Int :=
  if 0 ≤ l ∧ l < 65536 ∧ 0 ≤ n ∧ n ≤ 1048576 then chk (new l n.toNat) list 0 else (0, 0, 2)
end Mc
end Go.Proofs.Ytgadkelldbibgaa
