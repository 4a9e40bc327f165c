/- ProfileSums: the law; a slice that comes in is no longer than it has room. -/
import Derived.Test.YtkdamcacmecnaaaS18
import Derived.Test.YtkdamcacmecnaaaRowA
namespace Go.Proofs.Ytkdamcacmecnaaa
open Go.ChangeShapes Go.WideShapes Go.ChangeAt Go.RowKit
set_option linter.unusedVariables false

theorem okWide_cap {P : Program} {w : World} {r : Reach} {base n c : Nat} {t e : TypeId} {a : Option Addr} (ht : P.underlying t = some (.slice e)) (h : Value.okWide P w r base t (.slice a n c)) : n ≤ c := by
  simp only [Value.okWide, ht, Cell.okWide] at h
  cases a <;> cases n <;> cases c <;> simp_all [Cell.ok]
theorem sum_b (f : Nat → Int) (b : Int) (h : ∀ i, 0 ≤ f i ∧ f i ≤ b) (n : Nat) : 0 ≤ Mc.sum f n ∧ Mc.sum f n ≤ n * b :=
  ⟨Mc.sum_nn f n fun i _ => (h i).1, Mc.sum_le f n b fun i _ => (h i).2⟩
theorem top_b (f : Nat → Int) (b : Int) (hb : 0 ≤ b) (h : ∀ i, 0 ≤ f i ∧ f i ≤ b) (n : Nat) : 0 ≤ Mc.top f n ∧ Mc.top f n ≤ b := by
  induction n with
  | zero => exact ⟨Int.le_refl _, hb⟩
  | succ n ih => have := h n; simp only [Mc.top]; omega
theorem sums_law (l n : Int) (A : Option Addr) (c : Nat) (list : List Mc.Act) (q : Int) (w : World) (_ : -9223372036854775808 ≤ l) (_ : l ≤ 9223372036854775807) (_ : -9223372036854775808 ≤ n) (_ : n ≤ 9223372036854775807)
    (_ : ∀ a ∈ list, (-9223372036854775808 ≤ a.1 ∧ a.1 ≤ 9223372036854775807) ∧ -9223372036854775808 ≤ a.2 ∧ a.2 ≤ 9223372036854775807) (hA : Acts w A list) (hc : list.length ≤ c) (_ : -9223372036854775808 ≤ q) (_ : q ≤ 9223372036854775807) :
    Calls Try.prog 5 #[.int .i64 l, .int .i64 n, .slice A list.length c, .int .i64 q] w fun e w' => e = .returned (.bool true) ∧ KW w w' := by
  by_cases h : l < 0 ∨ 200 < l ∨ n < 0 ∨ 100 < n ∨ 300 < list.length ∨ q < 0 ∨ (list.length : Int) < q
  · exact sums_goes l n q A list.length c w h
  obtain ⟨L, rfl⟩ : ∃ L : Nat, l = L := ⟨l.toNat, by omega⟩
  obtain ⟨N, rfl⟩ : ∃ N : Nat, n = N := ⟨n.toNat, by omega⟩
  obtain ⟨Q, rfl⟩ : ∃ Q : Nat, q = Q := ⟨q.toNat, by omega⟩
  rcases Mc.cases_er (Mc.new L N) list list.length with hok | ⟨k, hk, hok, her⟩
  · have hQ : Q ≤ list.length := by omega
    have hok2 := okTo_take hok hQ
    have hI := Mc.new_inv (L : Int) N (by omega) (by omega) (by omega)
    have hHq := held_ok (L : Int) N (list.take Q) (by omega) (by omega) (by omega) (by rw [List.length_take]; omega) hok2
    rw [hl_take _ _ hQ] at hHq
    have hst : ∀ i : Nat, 0 ≤ Mc.sp (Mc.new L N) list i list.length ∧ Mc.sp (Mc.new L N) list i list.length ≤ 300 := fun i => by have := Mc.sp_b (Mc.new L N) list i list.length; omega
    have hkd : ∀ i : Nat, 0 ≤ Mc.kd list i list.length ∧ Mc.kd list i list.length ≤ 300 := fun i => by have := Mc.kd_b list i list.length; omega
    refine sums_walk L N list.length Q A c list (list.take Q) _ _ _ _ _ _ _ w (by omega) (by omega) rfl (by omega) hQ (by rw [List.length_take]; omega) hc (by simp) (fun W h => hA.kw h) (fun W h => (hA.kw h).take Q)
      (of_ok (L : Int) N L list (by omega) (by omega) rfl (by omega) (by omega) hok) (held_ok (L : Int) N list (by omega) (by omega) (by omega) (by omega) hok) hHq (check_ok (L : Int) N list (by omega) (by omega) (by omega) (by omega) hok)
      hst (fun k hk => ?_) (fun k hk => top_b _ 300 (by omega) hst k) hkd (fun k hk => ?_) (Mc.sum_tot hI rfl rfl list.length hok) rfl (Mc.sum_kd list (Mc.new L N) list.length hok) ?_
    · have := sum_b _ 300 hst k; omega
    · have := sum_b _ 300 hkd k; omega
    · have := Mc.peak_le (Mc.new L N) list list.length
      rw [show (Mc.new L N).tags.length = N from by simp [Mc.new]] at this
      omega
  · exact sums_bad L N A c list Q w (by omega) (by omega) (by omega) (by omega) (by omega) hA k hk hok her
end Go.Proofs.Ytkdamcacmecnaaa
