/- Contracts of the reference machine's Do (whole) and Check; the walk of MachineChecks. -/
import Derived.Test.YtgadkelldbibgaaN3a
import Derived.Test.YtgadkelldbibgaaN3b
import Derived.Test.YtgadkelldbibgaaN3c
import Derived.Test.YtgadkelldbibgaaN3d
import Derived.Test.YtgadkelldbibgaaM8a
namespace Go.Proofs.Ytgadkelldbibgaa
open Go.ChangeShapes Go.WideShapes Go.ChangeAt Go.RowKit
set_option linter.unusedVariables false

theorem rdo_any (m : Mc.St) (k n : Int) (v : Value) (w : World) (hv : RT w v m.tags) (hI : Mc.Inv m) (ht : m.tot ≤ 4611686018427387904) :
    Calls Try.prog 57 #[.agg (rm m v), .agg #[.int .i64 k, .int .i64 n]] w (RDoP w v (Mc.step m k n).1 (Mc.step m k n).2) := by
  obtain ⟨l, a, p, t, tags⟩ := m
  have hI' := hI
  obtain ⟨l0, l1, a0, a1, p0, p1, tg, ln, t0⟩ := hI
  simp only at hv ht l0 l1 a0 a1 p0 p1 t0 ln
  simp only [rm]
  cases hr : Mc.right k n with
  | false =>
    rw [show Mc.step ⟨l, a, p, t, tags⟩ k n = (⟨l, a, p, t, tags⟩, 2) from by unfold Mc.step; rw [if_pos (Or.inl hr)]]
    exact rdo_wrong l a p t tags k n v w hv hI' ht hr
  | true =>
    by_cases h7 : 7 < k
    · rw [show Mc.step ⟨l, a, p, t, tags⟩ k n = (⟨l, a, p, t, tags⟩, 2) from by unfold Mc.step; rw [if_pos (Or.inr h7)]]
      exact rdo_late l a p t tags k n v w hv hI' ht hr h7
    have hlo := Mc.right_lo hr
    have h0 : ¬ (Mc.right k n = false ∨ 7 < k) := by rw [hr]; simp; omega
    by_cases hs : 2 ≤ k ∧ k ≤ 4
    · have hn := Mc.right_slot hr hs.1 hs.2
      by_cases hlen : (tags.length : Int) ≤ n
      · rw [show Mc.step ⟨l, a, p, t, tags⟩ k n = (⟨l, a, p, t, tags⟩, 2) from by unfold Mc.step; rw [if_neg h0, if_pos ⟨hs.1, hs.2, hlen⟩]]
        rcases (show k = 2 ∨ k = 3 ∨ k = 4 by omega) with rfl | rfl | rfl
        · exact rdo_out2 l a p t tags n v w hv hI' ht hr hlen
        · exact rdo_out3 l a p t tags n v w hv hI' ht hr hlen
        · exact rdo_out4 l a p t tags n v w hv hI' ht hr hlen
      · obtain ⟨i, rfl⟩ : ∃ i : Nat, n = i := ⟨n.toNat, by omega⟩
        have h2 : ¬ (2 ≤ k ∧ k ≤ 4 ∧ (tags.length : Int) ≤ (i : Int)) := by omega
        rcases (show k = 2 ∨ k = 3 ∨ k = 4 by omega) with rfl | rfl | rfl
        · have e : Mc.step ⟨l, a, p, t, tags⟩ 2 i = if 0 ≤ tags.getD i 0 then (⟨l, a, p, t, tags⟩, 15) else (⟨l, a, p, t, tags.set i a⟩, 0) := by
            unfold Mc.step; rw [if_neg h0, if_neg h2, if_neg (by omega), if_pos rfl]; rfl
          rw [e]
          by_cases hc : 0 ≤ tags.getD i 0
          · rw [if_pos hc]; exact rdo_2no l a p t tags i v w hv hI' ht hr (by omega) hc
          · rw [if_neg hc]; exact rdo_2ok l a p t tags i v w hv hI' ht hr (by omega) (by omega)
        · have e : Mc.step ⟨l, a, p, t, tags⟩ 3 i = if tags.getD i 0 < 0 then (⟨l, a, p, t, tags⟩, 16) else (⟨l, tags.getD i 0, p, t, tags⟩, 0) := by
            unfold Mc.step; rw [if_neg h0, if_neg h2, if_neg (by omega), if_neg (by omega), if_pos rfl]; rfl
          rw [e]
          by_cases hc : tags.getD i 0 < 0
          · rw [if_pos hc]; exact rdo_3no l a p t tags i v w hv hI' ht hr (by omega) hc
          · rw [if_neg hc]; exact rdo_3ok l a p t tags i v w hv hI' ht hr (by omega) (by omega)
        · have e : Mc.step ⟨l, a, p, t, tags⟩ 4 i = if tags.getD i 0 < 0 then (⟨l, a, p, t, tags⟩, 16) else (⟨l, a, p, t, tags.set i (-1)⟩, 0) := by
            unfold Mc.step; rw [if_neg h0, if_neg h2, if_neg (by omega), if_neg (by omega), if_neg (by omega), if_pos rfl]; rfl
          rw [e]
          by_cases hc : tags.getD i 0 < 0
          · rw [if_pos hc]; exact rdo_4no l a p t tags i v w hv hI' ht hr (by omega) hc
          · rw [if_neg hc]; exact rdo_4ok l a p t tags i v w hv hI' ht hr (by omega) (by omega)
    · have h2 : ¬ (2 ≤ k ∧ k ≤ 4 ∧ (tags.length : Int) ≤ n) := fun h => hs ⟨h.1, h.2.1⟩
      rcases (show k = 1 ∨ k = 5 ∨ k = 6 ∨ k = 7 by omega) with rfl | rfl | rfl | rfl
      · have hn := Mc.right_one hr rfl
        have e : Mc.step ⟨l, a, p, t, tags⟩ 1 n = if l - a < n then (⟨l, a, p, t, tags⟩, 17) else (⟨l, a + n, p, t + n, tags⟩, 0) := by
          unfold Mc.step; rw [if_neg h0, if_neg h2, if_pos rfl]
        rw [e]
        by_cases hc : l - a < n
        · rw [if_pos hc]; exact rdo_1no l a p t tags n v w hv hI' ht hr (by omega) (by omega) (by omega)
        · rw [if_neg hc]; exact rdo_1ok l a p t tags n v w hv hI' ht hr (by omega) (by omega) (by omega)
      · have e : Mc.step ⟨l, a, p, t, tags⟩ 5 n = if p ≠ -1 then (⟨l, a, p, t, tags⟩, 18) else if a ≠ l - 0 then (⟨l, a, p, t, tags⟩, 17) else (⟨l, a, a, t, tags⟩, 0) := by
          unfold Mc.step; rw [if_neg h0, if_neg h2, if_neg (by omega), if_neg (by omega), if_neg (by omega), if_neg (by omega), if_pos rfl]; rfl
        rw [e]
        by_cases hp : p = -1
        · rw [if_neg (by simpa using hp)]
          by_cases hc : a = l
          · rw [if_neg (by simpa using hc)]
            have := rdo_5ok l a p t tags n v w hv hI' ht hr hp hc
            subst hc
            exact this
          · rw [if_pos (by simpa using hc)]; exact rdo_5pl l a p t tags n v w hv hI' ht hr hp hc
        · rw [if_pos hp]; exact rdo_5pe l a p t tags n v w hv hI' ht hr (by omega)
      · have e : Mc.step ⟨l, a, p, t, tags⟩ 6 n = if p ≠ -1 then (⟨l, a, p, t, tags⟩, 18) else if a ≠ l - 1 then (⟨l, a, p, t, tags⟩, 17) else (⟨l, a, a, t, tags⟩, 0) := by
          unfold Mc.step; rw [if_neg h0, if_neg h2, if_neg (by omega), if_neg (by omega), if_neg (by omega), if_neg (by omega), if_neg (by omega), if_pos rfl]; rfl
        rw [e]
        by_cases hp : p = -1
        · rw [if_neg (by simpa using hp)]
          by_cases hc : a = l - 1
          · rw [if_neg (by simpa using hc)]
            have := rdo_6ok l a p t tags n v w hv hI' ht hr hp hc
            subst hc
            exact this
          · rw [if_pos hc]; exact rdo_6pl l a p t tags n v w hv hI' ht hr hp hc
        · rw [if_pos hp]; exact rdo_6pe l a p t tags n v w hv hI' ht hr (by omega)
      · have e : Mc.step ⟨l, a, p, t, tags⟩ 7 n = if p ≤ 0 then (⟨l, a, p, t, tags⟩, 18) else if a ≠ p - 1 then (⟨l, a, p, t, tags⟩, 17) else (⟨l, a, a, t, tags⟩, 0) := by
          unfold Mc.step; rw [if_neg h0, if_neg h2, if_neg (by omega), if_neg (by omega), if_neg (by omega), if_neg (by omega), if_neg (by omega), if_neg (by omega)]; rfl
        rw [e]
        by_cases hp : p ≤ 0
        · rw [if_pos hp]; exact rdo_7pe l a p t tags n v w hv hI' ht hr (by omega)
        · rw [if_neg hp]
          by_cases hc : a = p - 1
          · rw [if_neg (by simpa using hc)]
            have := rdo_7ok l a p t tags n v w hv hI' ht hr (by omega) hc
            subst hc
            exact this
          · rw [if_pos hc]; exact rdo_7pl l a p t tags n v w hv hI' ht hr (by omega) hc
end Go.Proofs.Ytgadkelldbibgaa
