/- The walk of RevolveLists. -/
import Derived.Test.YtgadkelldbibgaaV17
namespace Go.Proofs.Ytgadkelldbibgaa
open Go.ChangeShapes Go.WideShapes Go.ChangeAt Go.RowKit
set_option linter.unusedVariables false

theorem lists30_goes (l s : Int) (w : World) (h : (400 < l ∧ l < 65536) ∨ (60 < s ∧ s ≤ 1048576)) :
    Calls Try.prog 4 #[.int .i64 l, .int .i64 s] w fun e w' => e = .returned (.bool true) ∧ KW w w' := by
  have hk := KW.refl w
  have hx : (400 < l ∧ l < 65536) ∨ (decide (400 < l) = false ∧ 60 < s ∧ s ≤ 1048576) ∨ (400 < l ∧ decide (l < 65536) = false ∧ 60 < s ∧ s ≤ 1048576) := by
    simp only [decide_eq_false_iff_not]
    omega
  clear h
  rcases hx with ⟨h0, h1⟩ | ⟨h0, h1, h2⟩ | ⟨h0, h1, h2, h3⟩
  all_goals
    go_enter Try.func4, Try.ntmps4
    go_wp2_with (go_at_call 13; refine (goes30_any _).mono ?_; rintro e w1 ⟨rfl, hb⟩; replace hk := hk.t hb; clear hb)
    go_ret
    exact ⟨rfl, hk⟩
set_option maxRecDepth 100000 in
set_option maxHeartbeats 2000000 in
theorem lists30_main (l s : Int) (w : World) (hl : ¬ (400 < l ∧ l < 65536)) (hs : ¬ (60 < s ∧ s ≤ 1048576)) (acts : List Mc.Act) (er : Int) (hlen : acts.length ≤ 3000)
    (h1 : ∀ W, Calls Try.prog 18 #[.int .i64 l, .int .i64 s] W (ActsP W acts er))
    (h2 : ∀ W, Calls Try.prog 19 #[.int .i64 l, .int .i64 s] W (ActsP W acts er)) (her : (er == er) = true) (her1 : -9223372036854775808 ≤ er) (her2 : er ≤ 9223372036854775807) :
    Calls Try.prog 4 #[.int .i64 l, .int .i64 s] w fun e w' => e = .returned (.bool true) ∧ KW w w' := by
  have H1 := hid h1
  have H2 := hid h2
  have HS := hid (fun (A B : Option Addr) ca cb W (hA : Acts W A acts) (hB : Acts W B acts) => rsame26_any acts acts A B ca cb W (by omega) (by omega) hA hB)
  rw [show decide (acts = acts) = true from by simp] at HS
  unfold ActsP at H1 H2
  have hx : decide (400 < l) = false ∨ (400 < l ∧ decide (l < 65536) = false) := by
    simp only [decide_eq_false_iff_not]
    omega
  have hy : decide (60 < s) = false ∨ (60 < s ∧ decide (s ≤ 1048576) = false) := by
    simp only [decide_eq_false_iff_not]
    omega
  clear h1 h2 hl hs
  rcases hx with d0 | ⟨d0, d1⟩ <;> rcases hy with d2 | ⟨d2, d3⟩
  all_goals
    go_enter Try.func4, Try.ntmps4
    go_wp2_with fail
    refine (H1.out _).mono ?_
    rintro e w1 ⟨A1, c1, rfl, ho1, hk1⟩
    obtain ⟨_, _, hv, _, ha1⟩ := ho1.slice
    cases hv
    have HK1 := hid hk1
    have HA1 := hid ha1
    clear ho1 ha1 hk1
    go_wp2_with fail
    refine (H2.out _).mono ?_
    rintro e w2 ⟨A2, c2, rfl, ho2, hk2⟩
    obtain ⟨_, _, hv, _, ha2⟩ := ho2.slice
    cases hv
    have HK2 := hid (HK1.out.t hk2)
    have HA1' := hid (HA1.out.kw hk2)
    have HA2 := hid ha2
    clear ho2 ha2 hk2
    go_wp2_with fail
    refine (HS.out _ _ _ _ _ HA1'.out HA2.out).mono ?_
    rintro e w3 ⟨rfl, hk3⟩
    have hk := HK2.out.t hk3
    clear hk3
    go_wp2_with (go_at_call 13; refine (goes30_any _).mono ?_; rintro e w1 ⟨rfl, hb⟩; replace hk := hk.t hb; clear hb)
    go_ret
    exact ⟨rfl, hk⟩
theorem lists30_law (l s : Int) (w : World) (_ : -9223372036854775808 ≤ l) (_ : l ≤ 9223372036854775807) (_ : -9223372036854775808 ≤ s) (_ : s ≤ 9223372036854775807) :
    Calls Try.prog 4 #[.int .i64 l, .int .i64 s] w fun e w' => e = .returned (.bool true) ∧ KW w w' := by
  by_cases h : (400 < l ∧ l < 65536) ∨ (60 < s ∧ s ≤ 1048576)
  · exact lists30_goes l s w h
  · by_cases h2 : l < 0 ∨ 65536 ≤ l ∨ s < 1 ∨ 1048576 < s
    · exact lists30_main l s w (by omega) (by omega) [] 2 (by simp) (fun W => rvlist_no l s W h2) (fun W => rlist30_no l s W h2) rfl (by omega) (by omega)
    · obtain ⟨L, rfl⟩ : ∃ L : Nat, l = L := ⟨l.toNat, by omega⟩
      obtain ⟨n, rfl⟩ : ∃ n : Nat, s = n := ⟨s.toNat, by omega⟩
      have hlen := Rv.rl_len (l := L) (n := n) (by omega) (by omega)
      exact lists30_main L n w (by omega) (by omega) (Rv.rl L n) 0 (by omega) (fun W => rvlist_yes L n W (by omega) (by omega)) (fun W => rlist30_yes L n W (by omega) (by omega)) rfl (by omega) (by omega)
end Go.Proofs.Ytgadkelldbibgaa
