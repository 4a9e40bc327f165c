/- Words of an operation read again: plain. -/
import Derived.Test.YtnpgiallgcliiaaO10
namespace Go.Proofs.Ytnpgiallgcliiaa
open Go.ChangeShapes Go.WideShapes Go.ChangeAt Go.RowKit
set_option linter.unusedVariables false

theorem cap_in {x : Int} (h : x ≤ 2147483647) : Oc.cap x = x := by unfold Oc.cap; omega
/-- an operation's words, kind by kind -/
theorem wl_cases {k d a b v : Int} (h : Oc.right k d a b v = true) :
    (k = 0 ∧ d = 0 ∧ a = 0 ∧ b = 0 ∧ v = 0 ∧ Oc.wl k d a b v = [0]) ∨
    ((k = 1 ∨ k = 2 ∨ k = 3) ∧ v = 0 ∧ Oc.wl k d a b v = [k, d, a, b]) ∨
    ((k = 4 ∨ k = 6) ∧ b = 0 ∧ v = 0 ∧ Oc.wl k d a b v = [k, d, a]) ∨
    (k = 5 ∧ a = 0 ∧ b = 0 ∧ Oc.wl k d a b v = [5, d, v]) ∨
    (k = 7 ∧ d = 0 ∧ a = 0 ∧ b = 0 ∧ Oc.wl k d a b v = [7, v]) := by
  obtain ⟨⟨k0, k1⟩, _, hv, hz⟩ := right_bd h
  have z0 := hz 0 (by omega)
  have z1 := hz 1 (by omega)
  have z2 := hz 2 (by omega)
  simp only [nth3] at z0 z1 z2
  rcases (show k = 0 ∨ k = 1 ∨ k = 2 ∨ k = 3 ∨ k = 4 ∨ k = 5 ∨ k = 6 ∨ k = 7 by omega) with rfl | rfl | rfl | rfl | rfl | rfl | rfl | rfl
  · exact .inl ⟨rfl, z0 rfl, z1 rfl, z2 rfl, hv.resolve_left (by decide), rfl⟩
  · exact .inr (.inl ⟨.inl rfl, hv.resolve_left (by decide), rfl⟩)
  · exact .inr (.inl ⟨.inr (.inl rfl), hv.resolve_left (by decide), rfl⟩)
  · exact .inr (.inl ⟨.inr (.inr rfl), hv.resolve_left (by decide), rfl⟩)
  · exact .inr (.inr (.inl ⟨.inl rfl, z2 rfl, hv.resolve_left (by decide), rfl⟩))
  · exact .inr (.inr (.inr (.inl ⟨rfl, z1 rfl, z2 rfl, rfl⟩)))
  · exact .inr (.inr (.inl ⟨.inr rfl, z2 rfl, hv.resolve_left (by decide), rfl⟩))
  · exact .inr (.inr (.inr (.inr ⟨rfl, z0 rfl, z1 rfl, z2 rfl, rfl⟩)))
/-- reading, kind by kind -/
theorem rd_at (l : List Int) (k : Int) (h0 : l.length ≠ 0) (hk : l.getD 0 0 = k) (h8 : k < 8) : Oc.rd l = if l.length < Oc.nn k 4 then ⟨0, 0, 0, 0, 0, 0, 4⟩ else ⟨k, Oc.cap (Oc.vv l k 0), Oc.cap (Oc.vv l k 1), Oc.cap (Oc.vv l k 2), Oc.vv l k 3, Oc.nn k 4, 0⟩ := by
  unfold Oc.rd
  rw [if_neg h0, hk, if_neg (by omega)]
theorem rd_back {k d a b v : Int} (h : Oc.right k d a b v = true) (w : List Int) : Oc.rd (Oc.wl k d a b v ++ w) = ⟨k, d, a, b, v, (Oc.wl k d a b v).length, 0⟩ := by
  obtain ⟨⟨k0, k1⟩, hb, _, _⟩ := right_bd h
  have hd : d ≤ 2147483647 := (hb 0 (by omega)).2
  have ha : a ≤ 2147483647 := (hb 1 (by omega)).2
  have hbb : b ≤ 2147483647 := (hb 2 (by omega)).2
  rcases wl_cases h with ⟨rfl, rfl, rfl, rfl, rfl, e⟩ | ⟨hk, rfl, e⟩ | ⟨hk, rfl, rfl, e⟩ | ⟨rfl, rfl, rfl, e⟩ | ⟨rfl, rfl, rfl, rfl, e⟩
  · rw [e, rd_at _ 0 (by simp) (by simp) (by omega)]
    rw [if_neg (by simp [Oc.nn, ask4, Oc.aD, Oc.aA, Oc.aB, Oc.aV])]
    rfl
  · rcases hk with rfl | rfl | rfl
    all_goals
      rw [e, rd_at _ _ (by simp) (by simp; rfl) (by omega)]
      rw [if_neg (by simp [Oc.nn, ask4, Oc.aD, Oc.aA, Oc.aB, Oc.aV]; try omega)]
      have c0 : ∀ (x : Int), x ≤ 2147483647 → Oc.cap x = x := fun x hx => cap_in hx
      simp [Oc.vv, Oc.nn, ask4, Oc.aD, Oc.aA, Oc.aB, Oc.aV, c0 d hd, c0 a ha, c0 b hbb]
  · rcases hk with rfl | rfl
    all_goals
      rw [e, rd_at _ _ (by simp) (by simp; rfl) (by omega)]
      rw [if_neg (by simp [Oc.nn, ask4, Oc.aD, Oc.aA, Oc.aB, Oc.aV]; try omega)]
      have c0 : ∀ (x : Int), x ≤ 2147483647 → Oc.cap x = x := fun x hx => cap_in hx
      simp [Oc.vv, Oc.nn, ask4, Oc.aD, Oc.aA, Oc.aB, Oc.aV, c0 d hd, c0 a ha, c0 0 (by omega)]
  · rw [e, rd_at _ 5 (by simp) (by simp) (by omega)]
    rw [if_neg (by simp [Oc.nn, ask4, Oc.aD, Oc.aA, Oc.aB, Oc.aV]; try omega)]
    simp [Oc.vv, Oc.nn, ask4, Oc.aD, Oc.aA, Oc.aB, Oc.aV, cap_in hd, cap_in (show (0 : Int) ≤ 2147483647 by omega)]
  · rw [e, rd_at _ 7 (by simp) (by simp) (by omega)]
    rw [if_neg (by simp [Oc.nn, ask4, Oc.aD, Oc.aA, Oc.aB, Oc.aV]; try omega)]
    simp [Oc.vv, Oc.nn, ask4, Oc.aD, Oc.aA, Oc.aB, Oc.aV, cap_in (show (0 : Int) ≤ 2147483647 by omega)]
theorem rd_short {k d a b v : Int} (h : Oc.right k d a b v = true) : (Oc.rd ((Oc.wl k d a b v).take ((Oc.wl k d a b v).length - 1))).e = 4 := by
  obtain ⟨⟨k0, k1⟩, _, _, _⟩ := right_bd h
  rcases wl_cases h with ⟨rfl, rfl, rfl, rfl, rfl, e⟩ | ⟨hk, rfl, e⟩ | ⟨hk, rfl, rfl, e⟩ | ⟨rfl, rfl, rfl, e⟩ | ⟨rfl, rfl, rfl, rfl, e⟩
  · rw [e]; rfl
  · rcases hk with rfl | rfl | rfl
    all_goals
      rw [e]
      simp only [List.length_cons, List.length_nil, List.take_succ_cons, List.take_zero, Nat.add_sub_cancel]
      rw [rd_at _ _ (by simp) (by simp; rfl) (by omega)]
      rw [if_pos (by simp [Oc.nn, ask4, Oc.aD, Oc.aA, Oc.aB, Oc.aV])]
  · rcases hk with rfl | rfl
    all_goals
      rw [e]
      simp only [List.length_cons, List.length_nil, List.take_succ_cons, List.take_zero, Nat.add_sub_cancel]
      rw [rd_at _ _ (by simp) (by simp; rfl) (by omega)]
      rw [if_pos (by simp [Oc.nn, ask4, Oc.aD, Oc.aA, Oc.aB, Oc.aV])]
  · rw [e]
    simp only [List.length_cons, List.length_nil, List.take_succ_cons, List.take_zero, Nat.add_sub_cancel]
    rw [rd_at _ 5 (by simp) (by simp) (by omega)]
    rw [if_pos (by simp [Oc.nn, ask4, Oc.aD, Oc.aA, Oc.aB, Oc.aV])]
  · rw [e]
    simp only [List.length_cons, List.length_nil, List.take_succ_cons, List.take_zero, Nat.add_sub_cancel]
    rw [rd_at _ 7 (by simp) (by simp) (by omega)]
    rw [if_pos (by simp [Oc.nn, ask4, Oc.aD, Oc.aA, Oc.aB, Oc.aV])]
theorem rd_bad {l : List Int} (h : (Oc.rd l).e ≠ 0) : Oc.rd l = ⟨0, 0, 0, 0, 0, 0, (Oc.rd l).e⟩ := by
  unfold Oc.rd at h ⊢
  split
  · rfl
  · split
    · rfl
    · split
      · rfl
      · rename_i h1 h2 h3
        rw [if_neg h1, if_neg h2, if_neg h3] at h
        exact absurd rfl h
theorem rg_in {x : Int} (h : 0 ≤ x ∧ x ≤ 2147483647) : Oc.rg x true = true := by unfold Oc.rg; simpa using h
theorem right_mk {k d a b v : Int} (h0 : Oc.kn k = true) (h1 : Oc.rg d (Oc.aD k) = true) (h2 : Oc.rg a (Oc.aA k) = true) (h3 : Oc.rg b (Oc.aB k) = true) (h4 : Oc.aV k = true ∨ v = 0) : Oc.right k d a b v = true := by
  unfold Oc.right
  rw [h0, h1, h2, h3]
  rcases h4 with h4 | h4
  · rw [h4]; rfl
  · rw [decide_eq_true h4]; simp
/-- what is read is right, and has its words -/
theorem rd_good {l : List Int} (hb : ∀ x ∈ l, 0 ≤ x ∧ x ≤ 18446744073709551615) (h : (Oc.rd l).e = 0) :
    ∃ k d a b v, Oc.rd l = ⟨k, d, a, b, v, (Oc.wl k d a b v).length, 0⟩ ∧ Oc.right k d a b v = true ∧ (0 ≤ v ∧ v ≤ 18446744073709551615) ∧ (Oc.wl k d a b v).length ≤ l.length ∧
      ∀ i, i < (Oc.wl k d a b v).length → (Oc.wl k d a b v).getD i 0 = l.getD i 0 ∨ ((Oc.wl k d a b v).getD i 0 = 2147483647 ∧ 2147483647 < l.getD i 0) := by
  have h0 : l.length ≠ 0 := by
    intro e
    unfold Oc.rd at h
    rw [if_pos e] at h
    cases h
  have h8 : ¬ 8 ≤ l.getD 0 0 := by
    intro e
    unfold Oc.rd at h
    rw [if_neg h0, if_pos e] at h
    cases h
  have hg : ∀ i, 0 ≤ l.getD i 0 ∧ l.getD i 0 ≤ 18446744073709551615 := by
    intro i
    by_cases hi : i < l.length
    · rw [List.getD_eq_getElem?_getD, List.getElem?_eq_getElem hi]
      exact hb _ (List.getElem_mem hi)
    · rw [List.getD_eq_getElem?_getD, List.getElem?_eq_none (by omega)]
      simp
  have hk0 := (hg 0).1
  have e := rd_at l _ h0 rfl (by omega)
  by_cases hs : l.length < Oc.nn (l.getD 0 0) 4
  · rw [e, if_pos hs] at h
    cases h
  rw [if_neg hs] at e
  have hcap : ∀ i, (0 ≤ Oc.cap (l.getD i 0) ∧ Oc.cap (l.getD i 0) ≤ 2147483647) ∧ (Oc.cap (l.getD i 0) = l.getD i 0 ∨ (Oc.cap (l.getD i 0) = 2147483647 ∧ 2147483647 < l.getD i 0)) := by
    intro i
    have := hg i
    unfold Oc.cap
    omega
  have hc0 : Oc.cap 0 = 0 := by decide
  generalize hkk : l.getD 0 0 = k at *
  have hkc : k = 0 ∨ k = 1 ∨ k = 2 ∨ k = 3 ∨ k = 4 ∨ k = 5 ∨ k = 6 ∨ k = 7 := by omega
  rcases hkc with rfl | rfl | rfl | rfl | rfl | rfl | rfl | rfl
  · refine ⟨0, 0, 0, 0, 0, by rw [e]; simp [Oc.vv, Oc.nn, ask4, Oc.aD, Oc.aA, Oc.aB, Oc.aV, hc0, Oc.wl, Oc.pw], by decide, by omega, by simp [Oc.wl, Oc.pw, ask4, Oc.aD, Oc.aA, Oc.aB, Oc.aV]; omega, fun i hi => ?_⟩
    have : (Oc.wl 0 0 0 0 0).length = 1 := by decide
    obtain rfl : i = 0 := by omega
    left; rw [hkk]; rfl
  · have ew : Oc.wl 1 (Oc.cap (l.getD 1 0)) (Oc.cap (l.getD 2 0)) (Oc.cap (l.getD 3 0)) 0 = [1, Oc.cap (l.getD 1 0), Oc.cap (l.getD 2 0), Oc.cap (l.getD 3 0)] := rfl
    have h1 := (hcap 1).1
    have h2 := (hcap 2).1
    have h3 := (hcap 3).1
    refine ⟨1, (Oc.cap (l.getD 1 0)), (Oc.cap (l.getD 2 0)), (Oc.cap (l.getD 3 0)), 0, e, right_mk rfl (rg_in h1) (rg_in h2) (rg_in h3) (.inr rfl), by omega, by rw [ew]; exact Nat.le_of_not_lt hs, fun i hi => ?_⟩
    rw [ew] at hi ⊢
    simp only [List.length_cons, List.length_nil] at hi
    rcases (show i = 0 ∨ i = 1 ∨ i = 2 ∨ i = 3 by omega) with rfl | rfl | rfl | rfl
    · left; rw [hkk]; rfl
    · exact (hcap 1).2
    · exact (hcap 2).2
    · exact (hcap 3).2
  · have ew : Oc.wl 2 (Oc.cap (l.getD 1 0)) (Oc.cap (l.getD 2 0)) (Oc.cap (l.getD 3 0)) 0 = [2, Oc.cap (l.getD 1 0), Oc.cap (l.getD 2 0), Oc.cap (l.getD 3 0)] := rfl
    have h1 := (hcap 1).1
    have h2 := (hcap 2).1
    have h3 := (hcap 3).1
    refine ⟨2, (Oc.cap (l.getD 1 0)), (Oc.cap (l.getD 2 0)), (Oc.cap (l.getD 3 0)), 0, e, right_mk rfl (rg_in h1) (rg_in h2) (rg_in h3) (.inr rfl), by omega, by rw [ew]; exact Nat.le_of_not_lt hs, fun i hi => ?_⟩
    rw [ew] at hi ⊢
    simp only [List.length_cons, List.length_nil] at hi
    rcases (show i = 0 ∨ i = 1 ∨ i = 2 ∨ i = 3 by omega) with rfl | rfl | rfl | rfl
    · left; rw [hkk]; rfl
    · exact (hcap 1).2
    · exact (hcap 2).2
    · exact (hcap 3).2
  · have ew : Oc.wl 3 (Oc.cap (l.getD 1 0)) (Oc.cap (l.getD 2 0)) (Oc.cap (l.getD 3 0)) 0 = [3, Oc.cap (l.getD 1 0), Oc.cap (l.getD 2 0), Oc.cap (l.getD 3 0)] := rfl
    have h1 := (hcap 1).1
    have h2 := (hcap 2).1
    have h3 := (hcap 3).1
    refine ⟨3, (Oc.cap (l.getD 1 0)), (Oc.cap (l.getD 2 0)), (Oc.cap (l.getD 3 0)), 0, e, right_mk rfl (rg_in h1) (rg_in h2) (rg_in h3) (.inr rfl), by omega, by rw [ew]; exact Nat.le_of_not_lt hs, fun i hi => ?_⟩
    rw [ew] at hi ⊢
    simp only [List.length_cons, List.length_nil] at hi
    rcases (show i = 0 ∨ i = 1 ∨ i = 2 ∨ i = 3 by omega) with rfl | rfl | rfl | rfl
    · left; rw [hkk]; rfl
    · exact (hcap 1).2
    · exact (hcap 2).2
    · exact (hcap 3).2
  · have ew : Oc.wl 4 (Oc.cap (l.getD 1 0)) (Oc.cap (l.getD 2 0)) 0 0 = [4, Oc.cap (l.getD 1 0), Oc.cap (l.getD 2 0)] := rfl
    have h1 := (hcap 1).1
    have h2 := (hcap 2).1
    refine ⟨4, (Oc.cap (l.getD 1 0)), (Oc.cap (l.getD 2 0)), 0, 0, e, right_mk rfl (rg_in h1) (rg_in h2) rfl (.inr rfl), by omega, by rw [ew]; exact Nat.le_of_not_lt hs, fun i hi => ?_⟩
    rw [ew] at hi ⊢
    simp only [List.length_cons, List.length_nil] at hi
    rcases (show i = 0 ∨ i = 1 ∨ i = 2 by omega) with rfl | rfl | rfl
    · left; rw [hkk]; rfl
    · exact (hcap 1).2
    · exact (hcap 2).2
  · have ew : Oc.wl 5 (Oc.cap (l.getD 1 0)) 0 0 (l.getD 2 0) = [5, Oc.cap (l.getD 1 0), l.getD 2 0] := rfl
    have h1 := (hcap 1).1
    refine ⟨5, (Oc.cap (l.getD 1 0)), 0, 0, (l.getD 2 0), e, right_mk rfl (rg_in h1) rfl rfl (.inl rfl), hg 2, by rw [ew]; exact Nat.le_of_not_lt hs, fun i hi => ?_⟩
    rw [ew] at hi ⊢
    simp only [List.length_cons, List.length_nil] at hi
    rcases (show i = 0 ∨ i = 1 ∨ i = 2 by omega) with rfl | rfl | rfl
    · left; rw [hkk]; rfl
    · exact (hcap 1).2
    · left; rfl
  · have ew : Oc.wl 6 (Oc.cap (l.getD 1 0)) (Oc.cap (l.getD 2 0)) 0 0 = [6, Oc.cap (l.getD 1 0), Oc.cap (l.getD 2 0)] := rfl
    have h1 := (hcap 1).1
    have h2 := (hcap 2).1
    refine ⟨6, (Oc.cap (l.getD 1 0)), (Oc.cap (l.getD 2 0)), 0, 0, e, right_mk rfl (rg_in h1) (rg_in h2) rfl (.inr rfl), by omega, by rw [ew]; exact Nat.le_of_not_lt hs, fun i hi => ?_⟩
    rw [ew] at hi ⊢
    simp only [List.length_cons, List.length_nil] at hi
    rcases (show i = 0 ∨ i = 1 ∨ i = 2 by omega) with rfl | rfl | rfl
    · left; rw [hkk]; rfl
    · exact (hcap 1).2
    · exact (hcap 2).2
  · have ew : Oc.wl 7 0 0 0 (l.getD 1 0) = [7, l.getD 1 0] := rfl
    refine ⟨7, 0, 0, 0, (l.getD 1 0), e, right_mk rfl rfl rfl rfl (.inl rfl), hg 1, by rw [ew]; exact Nat.le_of_not_lt hs, fun i hi => ?_⟩
    rw [ew] at hi ⊢
    simp only [List.length_cons, List.length_nil] at hi
    rcases (show i = 0 ∨ i = 1 by omega) with rfl | rfl
    · left; rw [hkk]; rfl
    · left; rfl
theorem wl_bd {k d a b v : Int} (h : Oc.right k d a b v = true) (hv : 0 ≤ v ∧ v ≤ 18446744073709551615) : ∀ x ∈ Oc.wl k d a b v, 0 ≤ x ∧ x ≤ 18446744073709551615 := by
  obtain ⟨⟨k0, k1⟩, hb, _, _⟩ := right_bd h
  have hd : 0 ≤ d ∧ d ≤ 2147483647 := hb 0 (by omega)
  have ha : 0 ≤ a ∧ a ≤ 2147483647 := hb 1 (by omega)
  have hbb : 0 ≤ b ∧ b ≤ 2147483647 := hb 2 (by omega)
  intro x hx
  rcases wl_cases h with ⟨_, _, _, _, _, e⟩ | ⟨_, _, e⟩ | ⟨_, _, _, e⟩ | ⟨_, _, _, e⟩ | ⟨_, _, _, _, e⟩ <;> rw [e] at hx <;> simp at hx <;> omega
end Go.Proofs.Ytnpgiallgcliiaa
