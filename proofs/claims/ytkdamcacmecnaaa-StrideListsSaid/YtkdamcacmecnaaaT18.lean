/- The walk of StrideLists. -/
import Derived.Test.YtkdamcacmecnaaaT17
namespace Go.Proofs.Ytkdamcacmecnaaa
open Go.ChangeShapes Go.WideShapes Go.ChangeAt Go.RowKit
set_option linter.unusedVariables false

theorem lists_goes (l s : Int) (w : World) (h : (300 < l ∧ l < 65536) ∨ (60 < s ∧ s ≤ 1048576)) :
    Calls Try.prog 9 #[.int .i64 l, .int .i64 s] w fun e w' => e = .returned (.bool true) ∧ KW w w' := by
  have hk := KW.refl w
  by_cases h1 : 300 < l ∧ l < 65536
  · obtain ⟨a1, a2⟩ := h1
    clear h
    go_enter Try.func9, Try.ntmps9
    go_wp2_with (go_at_call 26; refine (goes31_any _).mono ?_; rintro e w1 ⟨rfl, hb⟩; replace hk := hk.t hb; clear hb)
    go_ret
    exact ⟨rfl, hk⟩
  have b1 : 60 < s := by omega
  have b2 : s ≤ 1048576 := by omega
  by_cases h3 : 300 < l
  · have d3 : decide (l < 65536) = false := decide_eq_false (by omega)
    clear h1 h
    go_enter Try.func9, Try.ntmps9
    go_wp2_with (go_at_call 26; refine (goes31_any _).mono ?_; rintro e w1 ⟨rfl, hb⟩; replace hk := hk.t hb; clear hb)
    go_ret
    exact ⟨rfl, hk⟩
  · have d3 : decide (300 < l) = false := decide_eq_false h3
    clear h1 h
    go_enter Try.func9, Try.ntmps9
    go_wp2_with (go_at_call 26; refine (goes31_any _).mono ?_; rintro e w1 ⟨rfl, hb⟩; replace hk := hk.t hb; clear hb)
    go_ret
    exact ⟨rfl, hk⟩

/-- both tell these lists -/
def BothL (l s : Int) (la lb : List Mc.Act) (c : Int) : Prop :=
  (la.length ≤ 5000000000 ∧ lb.length ≤ 5000000000) ∧ ∀ W,
  (Calls Try.prog 29 #[.int .i64 l, .int .i64 s] W fun e w' => ∃ A cp, e = .returned (.tuple #[.slice A la.length cp, .int .i64 c]) ∧ Acts w' A la ∧ KW W w') ∧
  (Calls Try.prog 34 #[.int .i64 l, .int .i64 s] W fun e w' => ∃ A cp, e = .returned (.tuple #[.slice A la.length cp, .int .i64 c]) ∧ Acts w' A la ∧ KW W w') ∧
  (Calls Try.prog 35 #[.int .i64 l, .int .i64 s] W fun e w' => ∃ A cp, e = .returned (.tuple #[.slice A lb.length cp, .int .i64 c]) ∧ Acts w' A lb ∧ KW W w') ∧
  (Calls Try.prog 36 #[.int .i64 l, .int .i64 s] W fun e w' => ∃ A cp, e = .returned (.tuple #[.slice A lb.length cp, .int .i64 c]) ∧ Acts w' A lb ∧ KW W w')
theorem ActsP.acts {w : World} {l : List Mc.Act} {c : Int} {e : Ending} {w' : World} (h : ActsP w l c e w') : ∃ A cp, e = .returned (.tuple #[.slice A l.length cp, .int .i64 c]) ∧ Acts w' A l ∧ KW w w' := by
  obtain ⟨A, cp, he, ho, hk⟩ := h
  obtain ⟨A', c', hv, _, ha⟩ := ho.slice
  simp only [Value.slice.injEq] at hv
  obtain ⟨rfl, _, rfl⟩ := hv
  exact ⟨A, cp, he, ha, hk⟩
theorem bothL (l s : Int) : ∃ la lb c, BothL l s la lb c := by
  by_cases h : l < 0 ∨ 65536 ≤ l ∨ s < 1 ∨ 1048576 < s
  · have hn : ∀ {F : FuncId} {W : World}, (Calls Try.prog F #[.int .i64 l, .int .i64 s] W fun e w' => e = .returned (.tuple #[.slice none 0 0, .int .i64 2]) ∧ W = w') → Calls Try.prog F #[.int .i64 l, .int .i64 s] W fun e w' => ∃ A cp, e = .returned (.tuple #[.slice A ([] : List Mc.Act).length cp, .int .i64 2]) ∧ Acts w' A [] ∧ KW W w' := fun h => h.mono fun e w' ⟨he, hw⟩ => ⟨none, 0, he, fun h0 => absurd h0 (by simp), hw ▸ KW.refl _⟩
    exact ⟨[], [], 2, ⟨by simp, by simp⟩, fun W => ⟨hn (ssahead_no l s W h), hn (rahead_no l s W h), hn (slist_no l s W h), hn (rslist_no l s W h)⟩⟩
  · obtain ⟨L, rfl⟩ : ∃ L : Nat, l = L := ⟨l.toNat, by omega⟩
    obtain ⟨n, rfl⟩ : ∃ n : Nat, s = n := ⟨s.toNat, by omega⟩
    refine ⟨Sd.aA n L, Sd.lA n L, 0, ⟨?_, Sd.lA_le (by omega)⟩, fun W => ⟨(ssahead_yes L n W (by omega) (by omega)).mono fun e w' h => h.acts, (rahead_yes L n W (by omega) (by omega)).mono fun e w' h => h.acts, (slist_yes L n W (by omega) (by omega)).mono fun e w' h => h.acts, (rslist_yes L n W (by omega) (by omega)).mono fun e w' h => h.acts⟩⟩
    have : (Sd.aA n L).length ≤ 4296000000 := by rw [← Sd.aB_aA]; exact Sd.aB_b n (by omega)
    omega

set_option maxRecDepth 100000 in
set_option maxHeartbeats 2000000 in
theorem lists_main (l s : Int) (w : World) (h1 : Hid (300 < l ∧ 65536 ≤ l) ∨ Hid (¬ 300 < l)) (h2 : Hid (60 < s ∧ 1048576 < s) ∨ Hid (¬ 60 < s)) :
    Calls Try.prog 9 #[.int .i64 l, .int .i64 s] w fun e w' => e = .returned (.bool true) ∧ KW w w' := by
  obtain ⟨la, lb, c, ⟨hla, hlb⟩, hB⟩ := bothL l s
  have H1 := hid (fun W => (hB W).1)
  have H2 := hid (fun W => (hB W).2.1)
  have H3 := hid (fun W => (hB W).2.2.1)
  have H4 := hid (fun W => (hB W).2.2.2)
  have HSa := hid (fun A B ca cb W (hA : Acts W A la) (hB : Acts W B la) => rsame26_any la la A B ca cb W (by omega) (by omega) hA hB)
  have HSb := hid (fun A B ca cb W (hA : Acts W A lb) (hB : Acts W B lb) => rsame26_any lb lb A B ca cb W (by omega) (by omega) hA hB)
  rw [show decide (la = la) = true from by simp] at HSa
  rw [show decide (lb = lb) = true from by simp] at HSb
  have ec : (c == c) = true := by simp
  clear hB
  rcases h1 with h1 | h1 <;> rcases h2 with h2 | h2
  all_goals
    first
      | (have g1 := h1.out.1
         have g1' : decide (l < 65536) = false := decide_eq_false (by have := h1.out.2; omega))
      | (have g1 : decide (300 < l) = false := decide_eq_false h1.out)
    first
      | (have g2 := h2.out.1
         have g2' : decide (s ≤ 1048576) = false := decide_eq_false (by have := h2.out.2; omega))
      | (have g2 : decide (60 < s) = false := decide_eq_false h2.out)
    clear h1 h2
    go_enter Try.func9, Try.ntmps9
    go_wp2_with fail
    refine (H1.out _).mono ?_
    rintro e w1 ⟨A1, c1, rfl, ha, hk⟩
    have HA1 := hid ha
    have HK1 := hid hk
    clear ha hk
    go_wp2_with fail
    refine (H2.out _).mono ?_
    rintro e w2 ⟨A2, c2, rfl, ha, hk⟩
    have HA2 := hid ha
    have HA12 := hid (HA1.out.kw hk)
    have HK2 := hid (HK1.out.t hk)
    clear ha hk
    go_wp2_with fail
    refine (H3.out _).mono ?_
    rintro e w3 ⟨A3, c3, rfl, ha, hk⟩
    have HA3 := hid ha
    have HA13 := hid (HA12.out.kw hk)
    have HA23 := hid (HA2.out.kw hk)
    have HK3 := hid (HK2.out.t hk)
    clear ha hk
    go_wp2_with fail
    refine (H4.out _).mono ?_
    rintro e w4 ⟨A4, c4, rfl, ha, hk⟩
    have HA4 := hid ha
    have HA14 := hid (HA13.out.kw hk)
    have HA24 := hid (HA23.out.kw hk)
    have HA34 := hid (HA3.out.kw hk)
    have HK4 := hid (HK3.out.t hk)
    clear ha hk
    go_wp2_with fail
    refine (HSa.out _ _ _ _ _ HA14.out HA24.out).mono ?_
    rintro e w5 ⟨rfl, hk⟩
    have HA35 := hid (HA34.out.kw hk)
    have HA45 := hid (HA4.out.kw hk)
    have HK5 := hid (HK4.out.t hk)
    clear hk
    go_wp2_with fail
    refine (HSb.out _ _ _ _ _ HA35.out HA45.out).mono ?_
    rintro e w6 ⟨rfl, hk6⟩
    have hk := HK5.out.t hk6
    clear hk6
    go_wp2_with (go_at_call 26; refine (goes31_any _).mono ?_; rintro e w1 ⟨rfl, hb⟩; replace hk := hk.t hb; clear hb)
    go_ret
    exact ⟨rfl, hk⟩

theorem lists31_law (l s : Int) (w : World) (_ : -9223372036854775808 ≤ l) (_ : l ≤ 9223372036854775807) (_ : -9223372036854775808 ≤ s) (_ : s ≤ 9223372036854775807) :
    Calls Try.prog 9 #[.int .i64 l, .int .i64 s] w fun e w' => e = .returned (.bool true) ∧ KW w w' := by
  by_cases h : (300 < l ∧ l < 65536) ∨ (60 < s ∧ s ≤ 1048576)
  · exact lists_goes l s w h
  · refine lists_main l s w ?_ ?_
    · by_cases h1 : 300 < l
      · exact .inl ⟨h1, by omega⟩
      · exact .inr h1
    · by_cases h1 : 60 < s
      · exact .inl ⟨h1, by omega⟩
      · exact .inr h1
end Go.Proofs.Ytkdamcacmecnaaa
