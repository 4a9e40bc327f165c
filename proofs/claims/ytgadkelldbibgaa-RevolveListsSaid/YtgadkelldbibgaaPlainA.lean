/- The parts of a schedule, whatever the fuel; the slots that are free. No program. -/
import Derived.Test.YtgadkelldbibgaaPZ
namespace Go.Proofs.Ytgadkelldbibgaa
set_option linter.unusedVariables false
namespace Rv
/-- how many slots hold nothing -/
def nf : List Bool → Nat
  | [] => 0
  | b :: l => (if b then 0 else 1) + nf l
theorem nf_rep (n : Nat) : nf (List.replicate n false) = n := by
  induction n with
  | zero => rfl
  | succ n ih => rw [List.replicate_succ, nf, ih]; simp; omega
theorem nf_lst {l : List Bool} (h : 0 < nf l) : lst l < l.length ∧ nf (l.set (lst l) true) + 1 = nf l := by
  induction l with
  | nil => simp [nf] at h
  | cons b l ih =>
    cases b with
    | true =>
      simp only [nf, if_true, Nat.zero_add] at h
      obtain ⟨h1, h2⟩ := ih h
      simp only [lst, if_true, List.length_cons, List.set_cons_succ, nf, Nat.zero_add]
      omega
    | false => simp [lst, nf]; omega
theorem lp_fuel : ∀ (f g n c k : Nat) (own : List Bool) (last : Bool), n ≤ f → n ≤ g → 1 ≤ n → 1 ≤ c → n ≤ 65536 → lp f n c k own last = lp g n c k own last := by
  intro f
  induction f with
  | zero => intro g n c k own last h1 h2 h3; omega
  | succ f ih =>
    intro g n c k own last h1 h2 h3 hc hn
    cases g with
    | zero => omega
    | succ g =>
      by_cases e : n = 1
      · subst e; rfl
      · rw [lp_more _ _ _ _ _ _ (by omega), lp_more _ _ _ _ _ _ (by omega)]
        obtain ⟨m, hm, m1, m2, m3, _⟩ := sp_all n c hc (by omega) (by omega)
        rw [hm, Int.toNat_natCast, ih g m c k own false (by omega) (by omega) m1 hc (by omega)]
        have e2 : pt f (n - m) (c - 1) own last = pt g (n - m) (c - 1) own last := by
          unfold pt
          by_cases e1 : n - m = 1
          · rw [if_pos e1, if_pos e1]
          · rw [if_neg e1, if_neg e1, ih g (n - m) (c - 1) _ _ last (by omega) (by omega) (by omega) (by
              apply Classical.byContradiction
              intro h
              exact e1 (m3 (by omega))) (by omega)]
        rw [e2]
/-- without fuel -/
def lpn (n c k : Nat) (own : List Bool) (last : Bool) : List Mc.Act := lp n n c k own last
def ptn (n c : Nat) (held : List Bool) (last : Bool) : List Mc.Act := pt n n c held last
theorem lpn_one (c k : Nat) (own : List Bool) (last : Bool) : lpn 1 c k own last = [(7, 0), (4, (k : Int))] := rfl
theorem lpn_more {n c m k : Nat} {own : List Bool} {last : Bool} (hn : 2 ≤ n) (hn2 : n ≤ 65536) (hc : 1 ≤ c) (hm : Ch.sp n c = m) (m1 : 1 ≤ m) (m2 : m < n) (m3 : c = 1 → n - m = 1) :
    lpn n c k own last = (1, (m : Int)) :: (ptn (n - m) (c - 1) own last ++ (3, (k : Int)) :: lpn m c k own false) := by
  obtain ⟨f, rfl⟩ : ∃ f, n = f + 1 := ⟨n - 1, by omega⟩
  unfold lpn ptn
  rw [lp_more _ _ _ _ _ _ (by omega), hm, Int.toNat_natCast, lp_fuel f m m c k own false (by omega) (by omega) m1 hc (by omega)]
  have e2 : pt f (f + 1 - m) (c - 1) own last = pt (f + 1 - m) (f + 1 - m) (c - 1) own last := by
    unfold pt
    by_cases e1 : f + 1 - m = 1
    · rw [if_pos e1, if_pos e1]
    · rw [if_neg e1, if_neg e1, lp_fuel f (f + 1 - m) (f + 1 - m) (c - 1) _ _ last (by omega) (by omega) (by omega) (by
        apply Classical.byContradiction
        intro h
        exact e1 (m3 (by omega))) (by omega)]
  rw [e2]
theorem ptn_one (c : Nat) (held : List Bool) (last : Bool) : ptn 1 c held last = [turn last] := rfl
theorem ptn_more {n c : Nat} {held : List Bool} {last : Bool} (hn : 2 ≤ n) : ptn n c held last = (2, (lst held : Int)) :: lpn n c (lst held) (held.set (lst held) true) last := by
  unfold ptn pt lpn
  rw [if_neg (by omega)]
theorem lpn_len {n c k : Nat} {own : List Bool} {last : Bool} (h1 : 1 ≤ n) (h2 : n = 1 → last = false) (hc : 1 ≤ c) (hn : n ≤ 65536) : (lpn n c k own last).length + 3 ≤ 5 * n := (lp_cnk n n c k own last (Nat.le_refl _) h1 h2 hc hn).2.2.2
theorem ptn_len {n c : Nat} {held : List Bool} {last : Bool} (h1 : 1 ≤ n) (hc : 2 ≤ n → 1 ≤ c) (hn : n ≤ 65536) : (ptn n c held last).length ≤ 5 * n := by
  by_cases e : n = 1
  · subst e; rw [ptn_one]; simp
  · rw [ptn_more (by omega)]
    have := lpn_len (n := n) (c := c) (k := lst held) (own := held.set (lst held) true) (last := last) h1 (fun h => absurd h e) (hc (by omega)) hn
    simp only [List.length_cons]
    omega
end Rv
end Go.Proofs.Ytgadkelldbibgaa
