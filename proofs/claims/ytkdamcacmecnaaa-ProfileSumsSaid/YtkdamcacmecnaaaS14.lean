/- What profile's functions and the reference's tell is the same. -/
import Derived.Test.YtkdamcacmecnaaaS8
import Derived.Test.YtkdamcacmecnaaaS12
import Derived.Test.YtkdamcacmecnaaaS13
namespace Go.Proofs.Ytkdamcacmecnaaa
open Go.ChangeShapes Go.WideShapes Go.ChangeAt Go.RowKit
set_option linter.unusedVariables false

/-- F tells this profile -/
def TellsOf (F : FuncId) (l n : Int) (list : List Mc.Act) (tot pk most k0 k1 k2 k3 k4 k5 k6 k7 k8 k9 : Int) (st : List Int) (at_ er : Int) : Prop :=
  ∀ W A c, Acts W A list → Calls Try.prog F #[.int .i64 l, .int .i64 n, .slice A list.length c] W fun e w' => (∃ s, e = .returned (.tuple #[.agg #[.int .i64 tot, .int .i64 pk, .int .i64 most, .int .i64 k0, .int .i64 k1, .int .i64 k2, .int .i64 k3, .int .i64 k4, .int .i64 k5, .int .i64 k6, .int .i64 k7, .int .i64 k8, .int .i64 k9, s], .int .i64 at_, .int .i64 er]) ∧ IW w' s st) ∧ KW W w'
theorem er_unique {m : Mc.St} {list : List Mc.Act} {j k : Nat} (h1 : Mc.okTo m list j) (h2 : Mc.er m list j ≠ 0) (h3 : Mc.okTo m list k) (h4 : Mc.er m list k ≠ 0) : j = k := by
  rcases Nat.lt_trichotomy j k with h | h | h
  · exact absurd (h3 j h) h2
  · exact h
  · exact absurd (h1 k h) h4
theorem of_both (l n : Int) (list : List Mc.Act) (hlen : list.length ≤ 1099511627776) :
    ∃ tot pk most k0 k1 k2 k3 k4 k5 k6 k7 k8 k9 : Int, ∃ (st : List Int) (at_ er : Int), st.length ≤ 1099511627776 ∧ TellsOf 16 l n list tot pk most k0 k1 k2 k3 k4 k5 k6 k7 k8 k9 st at_ er ∧ TellsOf 17 l n list tot pk most k0 k1 k2 k3 k4 k5 k6 k7 k8 k9 st at_ er := by
  by_cases h : 0 ≤ l ∧ l < 65536 ∧ 0 ≤ n ∧ n ≤ 1048576
  · obtain ⟨l0, l1, n0, n1⟩ := h
    obtain ⟨N, rfl⟩ : ∃ N : Nat, n = N := ⟨n.toNat, by omega⟩
    obtain ⟨L, rfl⟩ : ∃ L : Nat, l = L := ⟨l.toNat, by omega⟩
    rcases Mc.cases_er (Mc.new L N) list list.length with hok | ⟨k, hk, hok, her⟩
    · refine ⟨(Mc.up (Mc.new L N) list list.length).tot, Mc.peak (Mc.new L N) list list.length, Mc.top (fun i => Mc.sp (Mc.new L N) list i list.length) L, Mc.kd list 0 list.length, Mc.kd list 1 list.length, Mc.kd list 2 list.length, Mc.kd list 3 list.length, Mc.kd list 4 list.length, Mc.kd list 5 list.length, Mc.kd list 6 list.length, Mc.kd list 7 list.length, Mc.kd list 8 list.length, Mc.kd list 9 list.length, (List.range L).map fun (i : Nat) => Mc.sp (Mc.new L N) list i list.length, list.length, 0, by simp; omega, fun W A c hA => ?_, fun W A c hA => ?_⟩
      · refine (pof_yes L N L A c list W l0 l1 rfl (by omega) hlen hA).mono fun e w' h => ?_
        obtain ⟨hk, h⟩ := h
        rcases h with ⟨_, s, he, hs⟩ | ⟨k, hkl, _, her, _⟩
        · exact ⟨⟨s, he, hs⟩, hk⟩
        · exact absurd (hok k hkl) her
      · refine (rof_yes L N L A c list W l0 l1 rfl (by omega) hlen hA).mono fun e w' h => ?_
        obtain ⟨hk, h⟩ := h
        rcases h with ⟨_, s, he, hs⟩ | ⟨k, hkl, _, her, _⟩
        · exact ⟨⟨s, he, hs⟩, hk⟩
        · exact absurd (hok k hkl) her
    · refine ⟨0, 0, 0, 0, 0, 0, 0, 0, 0, 0, 0, 0, 0, [], k, Mc.er (Mc.new L N) list k, by simp, fun W A c hA => ?_, fun W A c hA => ?_⟩
      · refine (pof_yes L N L A c list W l0 l1 rfl (by omega) hlen hA).mono fun e w' h => ?_
        obtain ⟨hkw, h⟩ := h
        rcases h with ⟨h, _⟩ | ⟨k', hkl, hok', her', he⟩
        · exact absurd (h k hk) her
        · obtain rfl := er_unique hok her hok' her'
          exact ⟨⟨_, he, none, 0, rfl, fun h => absurd h (by simp)⟩, hkw⟩
      · refine (rof_yes L N L A c list W l0 l1 rfl (by omega) hlen hA).mono fun e w' h => ?_
        obtain ⟨hkw, h⟩ := h
        rcases h with ⟨h, _⟩ | ⟨k', hkl, hok', her', he⟩
        · exact absurd (h k hk) her
        · obtain rfl := er_unique hok her hok' her'
          exact ⟨⟨_, he, none, 0, rfl, fun h => absurd h (by simp)⟩, hkw⟩
  · have hL : ∃ L : Nat, (l < 0 ∧ L = 0) ∨ (65536 ≤ l ∧ L = 65536) ∨ (0 ≤ l ∧ l < 65536 ∧ (L : Int) = l) := by
      by_cases h0 : l < 0
      · exact ⟨0, .inl ⟨h0, rfl⟩⟩
      · by_cases h1 : 65536 ≤ l
        · exact ⟨65536, .inr (.inl ⟨h1, rfl⟩)⟩
        · exact ⟨l.toNat, .inr (.inr ⟨by omega, by omega, by omega⟩)⟩
    obtain ⟨L, hL⟩ := hL
    have hbad : l < 0 ∨ 65536 ≤ l ∨ n < 0 ∨ 1048576 < n := by omega
    refine ⟨0, 0, 0, 0, 0, 0, 0, 0, 0, 0, 0, 0, 0, [], 0, 2, by simp, fun W A c hA => ?_, fun W A c hA => ?_⟩
    · exact (pof_no l n L A c list.length W hL hbad).mono fun e w' ⟨he, hk⟩ => ⟨⟨_, he, none, 0, rfl, fun h => absurd h (by simp)⟩, hk⟩
    · exact (rof_no l n _ W hbad).mono fun e w' ⟨he, hk⟩ => ⟨⟨_, he, none, 0, rfl, fun h => absurd h (by simp)⟩, hk⟩

/-- F tells this list of numbers -/
def TellsL (args : Value → Array Value) (F : FuncId) (list : List Mc.Act) (xs : List Int) (er : Int) : Prop :=
  ∀ W A c, Acts W A list → Calls Try.prog F (args (.slice A list.length c)) W fun e w' => (∃ v, e = .returned (.tuple #[v, .int .i64 er]) ∧ IW w' v xs) ∧ KW W w'
theorem ListP.none' {w w' : World} {c : Int} {e : Ending} (h : ListP w none c e w') : (∃ v, e = .returned (.tuple #[v, .int .i64 c]) ∧ IW w' v []) ∧ KW w w' :=
  ⟨⟨_, h.1, none, 0, rfl, fun h => absurd h (by simp)⟩, h.2⟩
theorem ListP.some' {w w' : World} {xs : List Int} {c : Int} {e : Ending} (h : ListP w (some xs) c e w') : (∃ v, e = .returned (.tuple #[v, .int .i64 c]) ∧ IW w' v xs) ∧ KW w w' := by
  obtain ⟨⟨v, he, ho⟩, hk⟩ := h
  exact ⟨⟨v, he, ho.iw0⟩, hk⟩
theorem held_both (l n : Int) (list : List Mc.Act) (hlen : list.length ≤ 1099511627776) :
    ∃ (xs : List Int) (er : Int), xs.length ≤ 1099511627776 ∧ TellsL (fun v => #[.int .i64 l, .int .i64 n, v]) 18 list xs er ∧ TellsL (fun v => #[.int .i64 l, .int .i64 n, v]) 19 list xs er := by
  by_cases h : 0 ≤ l ∧ l < 65536 ∧ 0 ≤ n ∧ n ≤ 1048576
  · obtain ⟨l0, l1, n0, n1⟩ := h
    obtain ⟨N, rfl⟩ : ∃ N : Nat, n = N := ⟨n.toNat, by omega⟩
    rcases Mc.cases_er (Mc.new l N) list list.length with hok | ⟨k, hk, hok, her⟩
    · refine ⟨(List.range list.length).map fun k => (Mc.hl (Mc.new l N) list (k + 1) : Int), 0, by simpa using hlen, fun W A c hA => ?_, fun W A c hA => ?_⟩
      · refine (pheld_yes l N A c list W l0 l1 (by omega) hlen hA).mono fun e w' h => ?_
        rcases h with ⟨_, h⟩ | ⟨k, hkl, _, her, _⟩
        · exact h.some'
        · exact absurd (hok k hkl) her
      · refine (rheld_yes l N A c list W l0 l1 (by omega) hlen hA).mono fun e w' h => ?_
        rcases h with ⟨_, h⟩ | ⟨k, hkl, _, her, _⟩
        · exact h.some'
        · exact absurd (hok k hkl) her
    · refine ⟨[], Mc.er (Mc.new l N) list k, by simp, fun W A c hA => ?_, fun W A c hA => ?_⟩
      · refine (pheld_yes l N A c list W l0 l1 (by omega) hlen hA).mono fun e w' h => ?_
        rcases h with ⟨h, _⟩ | ⟨k', hkl, hok', her', h⟩
        · exact absurd (h k hk) her
        · obtain rfl := er_unique hok her hok' her'
          exact h.none'
      · refine (rheld_yes l N A c list W l0 l1 (by omega) hlen hA).mono fun e w' h => ?_
        rcases h with ⟨h, _⟩ | ⟨k', hkl, hok', her', h⟩
        · exact absurd (h k hk) her
        · obtain rfl := er_unique hok her hok' her'
          exact h.none'
  · have hbad : l < 0 ∨ 65536 ≤ l ∨ n < 0 ∨ 1048576 < n := by omega
    exact ⟨[], 2, by simp, fun W A c hA => (pheld_no l n _ W hbad).mono fun e w' h => h.none', fun W A c hA => (rheld_no l n _ W hbad).mono fun e w' h => h.none'⟩
theorem words_both (l n fixed slot step loss : Int) (list : List Mc.Act) (hlen : list.length ≤ 1099511627776) :
    ∃ (xs : List Int) (er : Int), xs.length ≤ 1099511627776 ∧ TellsL (fun v => #[.int .i64 l, .int .i64 n, v, .int .i64 fixed, .int .i64 slot, .int .i64 step, .int .i64 loss]) 13 list xs er ∧ TellsL (fun v => #[.int .i64 l, .int .i64 n, v, .int .i64 fixed, .int .i64 slot, .int .i64 step, .int .i64 loss]) 14 list xs er := by
  cases hb : [fixed, slot, step, loss].any wbad with
  | true => exact ⟨[], 2, by simp, fun W A c hA => (pwords_bad l n fixed slot step loss _ W hb).mono fun e w' h => h.none', fun W A c hA => (rwords_bad l n fixed slot step loss _ W hb).mono fun e w' h => h.none'⟩
  | false =>
    by_cases h : 0 ≤ l ∧ l < 65536 ∧ 0 ≤ n ∧ n ≤ 1048576
    · obtain ⟨l0, l1, n0, n1⟩ := h
      obtain ⟨N, rfl⟩ : ∃ N : Nat, n = N := ⟨n.toNat, by omega⟩
      rcases Mc.cases_er (Mc.new l N) list list.length with hok | ⟨k, hk, hok, her⟩
      · refine ⟨(List.range list.length).map (lw (Mc.new l N) list fixed slot step loss), 0, by simpa using hlen, fun W A c hA => ?_, fun W A c hA => ?_⟩
        · refine (pwords_yes l N A c list fixed slot step loss W hb l0 l1 (by omega) hlen hA).mono fun e w' h => ?_
          rcases h with ⟨_, h⟩ | ⟨k, hkl, _, her, _⟩
          · exact h.some'
          · exact absurd (hok k hkl) her
        · refine (rwords_yes l N A c list fixed slot step loss W hb l0 l1 (by omega) hlen hA).mono fun e w' h => ?_
          rcases h with ⟨_, h⟩ | ⟨k, hkl, _, her, _⟩
          · exact h.some'
          · exact absurd (hok k hkl) her
      · refine ⟨[], Mc.er (Mc.new l N) list k, by simp, fun W A c hA => ?_, fun W A c hA => ?_⟩
        · refine (pwords_yes l N A c list fixed slot step loss W hb l0 l1 (by omega) hlen hA).mono fun e w' h => ?_
          rcases h with ⟨h, _⟩ | ⟨k', hkl, hok', her', h⟩
          · exact absurd (h k hk) her
          · obtain rfl := er_unique hok her hok' her'
            exact h.none'
        · refine (rwords_yes l N A c list fixed slot step loss W hb l0 l1 (by omega) hlen hA).mono fun e w' h => ?_
          rcases h with ⟨h, _⟩ | ⟨k', hkl, hok', her', h⟩
          · exact absurd (h k hk) her
          · obtain rfl := er_unique hok her hok' her'
            exact h.none'
    · have hbad : l < 0 ∨ 65536 ≤ l ∨ n < 0 ∨ 1048576 < n := by omega
      exact ⟨[], 2, by simp, fun W A c hA => (pwords_no l n fixed slot step loss A c _ W hb hbad).mono fun e w' h => h.none', fun W A c hA => (rwords_no l n fixed slot step loss _ W hb hbad).mono fun e w' h => h.none'⟩
end Go.Proofs.Ytkdamcacmecnaaa
