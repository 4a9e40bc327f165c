/- The walk of ProfileSums. -/
import Derived.Test.YtkdamcacmecnaaaS15
namespace Go.Proofs.Ytkdamcacmecnaaa
open Go.ChangeShapes Go.WideShapes Go.ChangeAt Go.RowKit
set_option linter.unusedVariables false

set_option maxRecDepth 100000 in
theorem sums_goes (l n q : Int) (A : Option Addr) (N c : Nat) (w : World) (h : l < 0 ∨ 200 < l ∨ n < 0 ∨ 100 < n ∨ 300 < N ∨ q < 0 ∨ (N : Int) < q) :
    Calls Try.prog 5 #[.int .i64 l, .int .i64 n, .slice A N c, .int .i64 q] w fun e w' => e = .returned (.bool true) ∧ KW w w' := by
  have hk := KW.refl w
  by_cases h0 : l < 0
  · clear h
    go_enter Try.func5, Try.ntmps5
    go_wp2_with (go_at_call 12; refine (goes32_any _).mono ?_; rintro e w1 ⟨rfl, hb⟩; replace hk := hk.t hb; clear hb)
    go_ret
    exact ⟨rfl, hk⟩
  have d0 : decide (l < 0) = false := decide_eq_false h0
  replace h0 := hid h0
  by_cases h1 : 200 < l
  · clear h
    go_enter Try.func5, Try.ntmps5
    go_wp2_with (go_at_call 12; refine (goes32_any _).mono ?_; rintro e w1 ⟨rfl, hb⟩; replace hk := hk.t hb; clear hb)
    go_ret
    exact ⟨rfl, hk⟩
  have d1 : decide (200 < l) = false := decide_eq_false h1
  replace h1 := hid h1
  by_cases h2 : n < 0
  · clear h
    go_enter Try.func5, Try.ntmps5
    go_wp2_with (go_at_call 12; refine (goes32_any _).mono ?_; rintro e w1 ⟨rfl, hb⟩; replace hk := hk.t hb; clear hb)
    go_ret
    exact ⟨rfl, hk⟩
  have d2 : decide (n < 0) = false := decide_eq_false h2
  replace h2 := hid h2
  by_cases h3 : 100 < n
  · clear h
    go_enter Try.func5, Try.ntmps5
    go_wp2_with (go_at_call 12; refine (goes32_any _).mono ?_; rintro e w1 ⟨rfl, hb⟩; replace hk := hk.t hb; clear hb)
    go_ret
    exact ⟨rfl, hk⟩
  have d3 : decide (100 < n) = false := decide_eq_false h3
  replace h3 := hid h3
  by_cases h4 : (300 : Int) < (N : Int)
  · clear h
    go_enter Try.func5, Try.ntmps5
    go_wp2_with (go_at_call 12; refine (goes32_any _).mono ?_; rintro e w1 ⟨rfl, hb⟩; replace hk := hk.t hb; clear hb)
    go_ret
    exact ⟨rfl, hk⟩
  have d4 : decide ((300 : Int) < (N : Int)) = false := decide_eq_false h4
  replace h4 := hid h4
  by_cases h5 : q < 0
  · clear h
    go_enter Try.func5, Try.ntmps5
    go_wp2_with (go_at_call 12; refine (goes32_any _).mono ?_; rintro e w1 ⟨rfl, hb⟩; replace hk := hk.t hb; clear hb)
    go_ret
    exact ⟨rfl, hk⟩
  have d5 : decide (q < 0) = false := decide_eq_false h5
  replace h5 := hid h5
  have hl : (N : Int) < q := by have a0 := h0.out; have a1 := h1.out; have a2 := h2.out; have a3 := h3.out; have a4 := h4.out; have a5 := h5.out; omega
  clear h
  go_enter Try.func5, Try.ntmps5
  go_wp2_with (go_at_call 12; refine (goes32_any _).mono ?_; rintro e w1 ⟨rfl, hb⟩; replace hk := hk.t hb; clear hb)
  go_ret
  exact ⟨rfl, hk⟩

set_option maxRecDepth 100000 in
set_option maxHeartbeats 1000000 in
theorem sums_bad (l : Int) (n : Nat) (A : Option Addr) (c : Nat) (list : List Mc.Act) (q : Nat) (w : World) (l0 : 0 ≤ l) (l1 : l ≤ 200) (hn : n ≤ 100) (hlen : list.length ≤ 300) (hq : q ≤ list.length) (hA : Acts w A list)
    (k : Nat) (hkl : k < list.length) (hok : Mc.okTo (Mc.new l n) list k) (her : Mc.er (Mc.new l n) list k ≠ 0) :
    Calls Try.prog 5 #[.int .i64 l, .int .i64 n, .slice A list.length c, .int .i64 q] w fun e w' => e = .returned (.bool true) ∧ KW w w' := by
  have HP : Hid (∀ W, Acts W A list → Calls Try.prog 16 #[.int .i64 l, .int .i64 n, .slice A list.length c] W fun e w' => e = .returned (.tuple #[.agg zero14, .int .i64 k, .int .i64 (Mc.er (Mc.new l n) list k)]) ∧ KW W w') := fun W hW => by
    refine (pof_yes l n l.toNat A c list W l0 (by omega) (by omega) (by omega) (by omega) hW).mono fun e w' h => ?_
    obtain ⟨hkw, h⟩ := h
    rcases h with ⟨h, _⟩ | ⟨k', hkl', hok', her', he⟩
    · exact absurd (h k hkl) her
    · obtain rfl := er_unique hok her hok' her'
      exact ⟨he, hkw⟩
  have HH : Hid (∀ W, Acts W A list → Calls Try.prog 18 #[.int .i64 l, .int .i64 n, .slice A list.length c] W fun e w' => e = .returned (.tuple #[.slice none 0 0, .int .i64 (Mc.er (Mc.new l n) list k)]) ∧ KW W w') := fun W hW => by
    refine (pheld_yes l n A c list W l0 (by omega) (by omega) (by omega) hW).mono fun e w' h => ?_
    rcases h with ⟨h, _⟩ | ⟨k', hkl', hok', her', he⟩
    · exact absurd (h k hkl) her
    · obtain rfl := er_unique hok her hok' her'
      exact he
  have HA := hid hA
  clear hA hok
  generalize Mc.er (Mc.new l n) list k = er at *
  have L1 : (k : Int) < (list.length : Int) := by omega
  have L2 : ((list.length : Nat) : Int) ≤ 300 := by omega
  have L3 : ((q : Nat) : Int) ≤ ((list.length : Nat) : Int) := by omega
  have L4 : (n : Int) ≤ 100 := by omega
  have e1 : (er != 0) = true := by simpa using her
  have e2 : (er == er) = true := by simp
  have HNil : Hid (KW w w) := KW.refl w
  have HKA : Hid (∀ W, KW w W → Acts W A list) := fun W h => HA.out.kw h
  clear HA her
  generalize list.length = N at *
  have hk := KW.refl w
  unfold zero14 at HP
  go_enter Try.func5, Try.ntmps5
  go_wp2_with fail
  refine (HP.out _ (HKA.out _ (KW.refl w))).mono ?_
  rintro e w1 ⟨rfl, hk1⟩
  have HK1 := hid hk1
  clear hk1
  go_wp2_with fail
  refine (HH.out _ (HKA.out _ (HK1.out.alloc _))).mono ?_
  rintro e w2 ⟨rfl, hk2⟩
  replace hk := (HK1.out.alloc _).t hk2
  clear hk2
  go_wp2_with (go_at_call 12; refine (goes32_any _).mono ?_; rintro e w1 ⟨rfl, hb⟩; replace hk := hk.t hb; clear hb)
  go_ret
  exact ⟨rfl, hk⟩

theorem hl_take (m : Mc.St) (l : List Mc.Act) {q : Nat} (hq : q ≤ l.length) : (List.range (l.take q).length).map (fun k => (Mc.hl m (l.take q) (k + 1) : Int)) = ((List.range l.length).map fun k => (Mc.hl m l (k + 1) : Int)).take q := by
  have e : (l.take q).length = q := by rw [List.length_take]; omega
  rw [e, ← List.map_take, List.take_range, Nat.min_eq_left hq]
  refine List.map_congr_left fun k hk => ?_
  have : k < q := by simpa using hk
  unfold Mc.hl
  rw [Mc.up_take m l q (k + 1) (by omega)]
theorem IW.take {w : World} {A : Option Addr} {n c : Nat} {l : List Int} (h : IW w (.slice A n c) l) {q : Nat} (hq : q ≤ l.length) (c' : Nat) : IW w (.slice A q c') (l.take q) := by
  obtain ⟨A', c'', hv, hr⟩ := h
  cases hv
  have e : (l.take q).length = q := by rw [List.length_take]; omega
  refine ⟨A, c', by rw [e], fun h0 => ?_⟩
  obtain ⟨b, off, hA, hb, hc⟩ := hr (by omega)
  refine ⟨b, off, hA, hb, fun j hj => ?_⟩
  rw [e] at hj
  rw [hc j (by omega)]
  dsimp only
  rw [List.getD_eq_getElem?_getD, List.getD_eq_getElem?_getD, List.getElem?_take_of_lt hj]
theorem okTo_take {m : Mc.St} {l : List Mc.Act} (h : Mc.okTo m l l.length) {q : Nat} (hq : q ≤ l.length) : Mc.okTo m (l.take q) (l.take q).length := by
  intro j hj
  rw [List.length_take] at hj
  rw [Mc.er_take m l (by omega)]
  exact h j (by omega)
theorem lt_of_some' {w : World} {b : Nat} {o : Obj} (h : w.heap[b]? = some o) : b < w.heap.size := (Array.getElem?_eq_some_iff.1 h).1
theorem KW.block' {w W : World} {b : Nat} {o : Obj} (h : KW w W) (hlt : b < w.heap.size) (c : w.heap[b]? = some o) : W.heap[b]? = some o := (Below.block h b hlt).trans c
theorem row14 {w : World} {b : Nat} {tot pk most : Int} {kdf : Nat → Int} {s : Value} (h : w.heap[b]? = some (.cells (pfA tot pk most kdf s) 35 (0, 0))) : w.rowIs b 35 14 (pfv tot pk most kdf s) :=
  ⟨_, h, pfA_size _ _ _ _ _, fun i hi => pfA_get _ _ _ _ _ i hi⟩
end Go.Proofs.Ytkdamcacmecnaaa
