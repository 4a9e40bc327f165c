/- machine.At at a spot that may not be. -/
import Derived.Test.YtgadkelldbibgaaN6
namespace Go.Proofs.Ytgadkelldbibgaa
open Go.ChangeShapes Go.WideShapes Go.ChangeAt Go.RowKit
set_option linter.unusedVariables false

def IdxP (w : World) (e : Ending) (w' : World) : Prop := ∃ i : Nat, i ≤ 1048576 ∧ e = .returned (.int .i64 i) ∧ w = w'
theorem index_some (l : Int) (tags : List Int) (A : Option Addr) (c b : Nat) (w : World) (hl : tags.length ≤ 1048576) (hr : Row1 w A tags.length fun i => .int .i64 (tags.getD i 0)) (hc : w.cell? ⟨b, 0, none⟩ = some (.int .i64 l))
    (hn : ∃ i, i < tags.length ∧ offB l (tags.getD i 0) = true) :
    Calls Try.prog 110 #[.slice A tags.length c, .func (.func 86) #[] #[.pointer (some ⟨b, 0, none⟩)]] w (IdxP w) := by
  have HR := hid hr
  have HN := hid hn
  have HC := hid hc
  clear hr hn hc
  generalize tags.length = N at *
  go_enter Try.func110, Try.ntmps110
  go_wp2_with fail
  go_loop [8] (fun i => ∃ k : Nat, k ≤ N ∧ i = .int .i64 k ∧ Hid (∀ j, j < k → offB l (tags.getD j 0) = false)) (fun i => N - (intOf i).toNat)
  case atStart => exact ⟨0, by omega, rfl, fun j hj => by omega⟩
  case round =>
    obtain ⟨k, hk, rfl, HB⟩ := hrel
    have hlt : k < N := by
      obtain ⟨i, hi, ho⟩ := HN.out
      apply Classical.byContradiction
      intro h
      rw [HB.out i (by omega)] at ho
      cases ho
    obtain ⟨q1, o1, rfl, hq1, hc1⟩ := HR.out.at_ hlt
    have HO := hid (fun W (h : W.cell? ⟨b, 0, none⟩ = some (.int .i64 l)) => off_any l (tags.getD k 0) b W h)
    have HX := hid (fun (h : offB l (tags.getD k 0) = false) (j : Nat) (hj : j < k + 1) => (show offB l (tags.getD j 0) = false from by
      rcases (show j < k ∨ j = k by omega) with h1 | rfl
      · exact HB.out j h1
      · exact h))
    generalize tags.getD k 0 = x at *
    have L5 : (k : Int) < (N : Int) := by omega
    cases ho : offB l x with
    | true =>
      rw [ho] at HO
      clear ho HX
      go_wp2_with fail
      refine (HO.out _ HC.out).mono ?_
      rintro e w1 ⟨rfl, rfl⟩
      go_wp2_with fail
      go_ret
      exact ⟨k, by omega, rfl, rfl⟩
    | false =>
      rw [ho] at HO
      have HB2 := hid (HX.out ho)
      clear ho HX
      go_wp2_with fail
      refine (HO.out _ HC.out).mono ?_
      rintro e w1 ⟨rfl, rfl⟩
      go_wp2_with fail
      go_round
      case rel => exact ⟨k + 1, by omega, by go_num, HB2⟩
      case measure => simp [intOf]; omega
theorem contains_some (l : Int) (tags : List Int) (A : Option Addr) (c b : Nat) (w : World) (hl : tags.length ≤ 1048576) (hr : Row1 w A tags.length fun i => .int .i64 (tags.getD i 0)) (hc : w.cell? ⟨b, 0, none⟩ = some (.int .i64 l))
    (hn : ∃ i, i < tags.length ∧ offB l (tags.getD i 0) = true) :
    Calls Try.prog 87 #[.slice A tags.length c, .func (.func 86) #[] #[.pointer (some ⟨b, 0, none⟩)]] w fun e w' => e = .returned (.bool true) ∧ w = w' := by
  have HI := hid (index_some l tags A c b w hl hr hc hn)
  clear hr hn hc
  generalize tags.length = N at *
  go_enter Try.func87, Try.ntmps87
  go_wp2_with fail
  refine HI.out.mono ?_
  rintro e w1 ⟨i, hi, rfl, rfl⟩
  have d : (0 : Int) ≤ (i : Int) := by omega
  go_wp2_with fail
  go_ret
  exact ⟨rfl, rfl⟩

set_option maxRecDepth 100000 in
set_option maxHeartbeats 2000000 in
theorem at_no1 (l a p : Int) (N c : Nat) (A : Option Addr) (w : World) (hlg : ¬ (0 ≤ l ∧ l < 65536)) :
    Calls Try.prog 44 #[.int .i64 l, .agg #[.int .i64 a, .int .i64 p, .slice A N c]] w fun e w' => e = .returned (.tuple #[.pointer none, .int .i64 2]) ∧ KW w w' := by
  have HL := hid (fun W => long_any l W)
  rw [show decide (0 ≤ l ∧ l < 65536) = false from decide_eq_false hlg] at HL
  clear hlg
  go_enter Try.func44, Try.ntmps44
  have hk0 : KW w ((w.alloc (.cells #[.int .i64 l] 3)).alloc (.cells #[.int .i64 a, .int .i64 p, .slice A N c] 24)) := ((KW.refl w).alloc _).alloc _
  have hl0 : ((w.alloc (.cells #[.int .i64 l] 3)).alloc (.cells #[.int .i64 a, .int .i64 p, .slice A N c] 24)).cell? ⟨w.heap.size, 0, none⟩ = some (.int .i64 l) := by go_simp
  have HK0 := hid hk0
  have HL0 := hid hl0
  clear hk0 hl0
  go_wp2_with (first
    | (go_at_call 52; refine (HL.out _).mono ?_; rintro e w1 ⟨rfl, rfl⟩))
  go_ret2
  exact ⟨rfl, HK0.out⟩

set_option maxRecDepth 100000 in
set_option maxHeartbeats 2000000 in
theorem at_no2 (l a p : Int) (N c : Nat) (A : Option Addr) (w : World) (hlg : 0 ≤ l ∧ l < 65536) (hN : 1048576 < N) :
    Calls Try.prog 44 #[.int .i64 l, .agg #[.int .i64 a, .int .i64 p, .slice A N c]] w fun e w' => e = .returned (.tuple #[.pointer none, .int .i64 2]) ∧ KW w w' := by
  have HL := hid (fun W => long_any l W)
  rw [show decide (0 ≤ l ∧ l < 65536) = true from decide_eq_true hlg] at HL
  clear hlg
  have dN : (1048576 : Int) < (N : Int) := by omega
  go_enter Try.func44, Try.ntmps44
  have hk0 : KW w ((w.alloc (.cells #[.int .i64 l] 3)).alloc (.cells #[.int .i64 a, .int .i64 p, .slice A N c] 24)) := ((KW.refl w).alloc _).alloc _
  have hl0 : ((w.alloc (.cells #[.int .i64 l] 3)).alloc (.cells #[.int .i64 a, .int .i64 p, .slice A N c] 24)).cell? ⟨w.heap.size, 0, none⟩ = some (.int .i64 l) := by go_simp
  have HK0 := hid hk0
  have HL0 := hid hl0
  clear hk0 hl0
  go_wp2_with (first
    | (go_at_call 52; refine (HL.out _).mono ?_; rintro e w1 ⟨rfl, rfl⟩))
  go_ret2
  exact ⟨rfl, HK0.out⟩

set_option maxRecDepth 100000 in
set_option maxHeartbeats 2000000 in
theorem at_no3 (l a p : Int) (N c : Nat) (A : Option Addr) (w : World) (hlg : 0 ≤ l ∧ l < 65536) (hN : N ≤ 1048576) (ha : a = -1) :
    Calls Try.prog 44 #[.int .i64 l, .agg #[.int .i64 a, .int .i64 p, .slice A N c]] w fun e w' => e = .returned (.tuple #[.pointer none, .int .i64 2]) ∧ KW w w' := by
  have HL := hid (fun W => long_any l W)
  rw [show decide (0 ≤ l ∧ l < 65536) = true from decide_eq_true hlg] at HL
  clear hlg
  have dN : decide ((1048576 : Int) < (N : Int)) = false := decide_eq_false (by omega)
  have dA : (a == -1) = true := by simpa using ha
  clear ha
  go_enter Try.func44, Try.ntmps44
  have hk0 : KW w ((w.alloc (.cells #[.int .i64 l] 3)).alloc (.cells #[.int .i64 a, .int .i64 p, .slice A N c] 24)) := ((KW.refl w).alloc _).alloc _
  have hl0 : ((w.alloc (.cells #[.int .i64 l] 3)).alloc (.cells #[.int .i64 a, .int .i64 p, .slice A N c] 24)).cell? ⟨w.heap.size, 0, none⟩ = some (.int .i64 l) := by go_simp
  have HK0 := hid hk0
  have HL0 := hid hl0
  clear hk0 hl0
  go_wp2_with (first
    | (go_at_call 52; refine (HL.out _).mono ?_; rintro e w1 ⟨rfl, rfl⟩))
  go_ret2
  exact ⟨rfl, HK0.out⟩

set_option maxRecDepth 100000 in
set_option maxHeartbeats 2000000 in
theorem at_no4 (l a p : Int) (N c : Nat) (A : Option Addr) (w : World) (hlg : 0 ≤ l ∧ l < 65536) (hN : N ≤ 1048576) (ha : a ≠ -1) (hoa : offB l a = true) :
    Calls Try.prog 44 #[.int .i64 l, .agg #[.int .i64 a, .int .i64 p, .slice A N c]] w fun e w' => e = .returned (.tuple #[.pointer none, .int .i64 2]) ∧ KW w w' := by
  have HL := hid (fun W => long_any l W)
  rw [show decide (0 ≤ l ∧ l < 65536) = true from decide_eq_true hlg] at HL
  clear hlg
  have dN : decide ((1048576 : Int) < (N : Int)) = false := decide_eq_false (by omega)
  have dA : (a == -1) = false := by simpa using ha
  clear ha
  have HA := hid (fun W (h : W.cell? ⟨w.heap.size, 0, none⟩ = some (.int .i64 l)) => off_any l a w.heap.size W h)
  rw [hoa] at HA
  clear hoa
  go_enter Try.func44, Try.ntmps44
  have hk0 : KW w ((w.alloc (.cells #[.int .i64 l] 3)).alloc (.cells #[.int .i64 a, .int .i64 p, .slice A N c] 24)) := ((KW.refl w).alloc _).alloc _
  have hl0 : ((w.alloc (.cells #[.int .i64 l] 3)).alloc (.cells #[.int .i64 a, .int .i64 p, .slice A N c] 24)).cell? ⟨w.heap.size, 0, none⟩ = some (.int .i64 l) := by go_simp
  have HK0 := hid hk0
  have HL0 := hid hl0
  clear hk0 hl0
  go_wp2_with (first
    | (go_at_call 52; refine (HL.out _).mono ?_; rintro e w1 ⟨rfl, rfl⟩)
    | (refine (HA.out _ HL0.out).mono ?_; rintro e w1 ⟨rfl, rfl⟩))
  go_ret2
  exact ⟨rfl, HK0.out⟩

set_option maxRecDepth 100000 in
set_option maxHeartbeats 2000000 in
theorem at_no5 (l a p : Int) (N c : Nat) (A : Option Addr) (w : World) (hlg : 0 ≤ l ∧ l < 65536) (hN : N ≤ 1048576) (ha : a ≠ -1) (hoa : offB l a = false) (hop : offB l p = true) :
    Calls Try.prog 44 #[.int .i64 l, .agg #[.int .i64 a, .int .i64 p, .slice A N c]] w fun e w' => e = .returned (.tuple #[.pointer none, .int .i64 2]) ∧ KW w w' := by
  have HL := hid (fun W => long_any l W)
  rw [show decide (0 ≤ l ∧ l < 65536) = true from decide_eq_true hlg] at HL
  clear hlg
  have dN : decide ((1048576 : Int) < (N : Int)) = false := decide_eq_false (by omega)
  have dA : (a == -1) = false := by simpa using ha
  clear ha
  have HA := hid (fun W (h : W.cell? ⟨w.heap.size, 0, none⟩ = some (.int .i64 l)) => off_any l a w.heap.size W h)
  rw [hoa] at HA
  clear hoa
  have HP := hid (fun W (h : W.cell? ⟨w.heap.size, 0, none⟩ = some (.int .i64 l)) => off_any l p w.heap.size W h)
  rw [hop] at HP
  clear hop
  go_enter Try.func44, Try.ntmps44
  have hk0 : KW w ((w.alloc (.cells #[.int .i64 l] 3)).alloc (.cells #[.int .i64 a, .int .i64 p, .slice A N c] 24)) := ((KW.refl w).alloc _).alloc _
  have hl0 : ((w.alloc (.cells #[.int .i64 l] 3)).alloc (.cells #[.int .i64 a, .int .i64 p, .slice A N c] 24)).cell? ⟨w.heap.size, 0, none⟩ = some (.int .i64 l) := by go_simp
  have HK0 := hid hk0
  have HL0 := hid hl0
  clear hk0 hl0
  go_wp2_with (first
    | (go_at_call 52; refine (HL.out _).mono ?_; rintro e w1 ⟨rfl, rfl⟩)
    | (refine (HA.out _ HL0.out).mono ?_; rintro e w1 ⟨rfl, rfl⟩)
    | (refine (HP.out _ HL0.out).mono ?_; rintro e w1 ⟨rfl, rfl⟩))
  go_ret2
  exact ⟨rfl, HK0.out⟩

set_option maxRecDepth 100000 in
set_option maxHeartbeats 2000000 in
theorem at_no6 (l a p : Int) (N c : Nat) (A : Option Addr) (w : World) (hlg : 0 ≤ l ∧ l < 65536) (hN : N ≤ 1048576) (ha : a ≠ -1) (hoa : offB l a = false) (hop : offB l p = false) (hcf : ∀ W, KW w W → W.cell? ⟨w.heap.size, 0, none⟩ = some (.int .i64 l) → Calls Try.prog 87 #[.slice A N c, .func (.func 86) #[] #[.pointer (some ⟨w.heap.size, 0, none⟩)]] W fun e w' => e = .returned (.bool true) ∧ W = w') :
    Calls Try.prog 44 #[.int .i64 l, .agg #[.int .i64 a, .int .i64 p, .slice A N c]] w fun e w' => e = .returned (.tuple #[.pointer none, .int .i64 2]) ∧ KW w w' := by
  have HL := hid (fun W => long_any l W)
  rw [show decide (0 ≤ l ∧ l < 65536) = true from decide_eq_true hlg] at HL
  clear hlg
  have dN : decide ((1048576 : Int) < (N : Int)) = false := decide_eq_false (by omega)
  have dA : (a == -1) = false := by simpa using ha
  clear ha
  have HA := hid (fun W (h : W.cell? ⟨w.heap.size, 0, none⟩ = some (.int .i64 l)) => off_any l a w.heap.size W h)
  rw [hoa] at HA
  clear hoa
  have HP := hid (fun W (h : W.cell? ⟨w.heap.size, 0, none⟩ = some (.int .i64 l)) => off_any l p w.heap.size W h)
  rw [hop] at HP
  clear hop
  have HCF := hid hcf
  clear hcf
  go_enter Try.func44, Try.ntmps44
  have hk0 : KW w ((w.alloc (.cells #[.int .i64 l] 3)).alloc (.cells #[.int .i64 a, .int .i64 p, .slice A N c] 24)) := ((KW.refl w).alloc _).alloc _
  have hl0 : ((w.alloc (.cells #[.int .i64 l] 3)).alloc (.cells #[.int .i64 a, .int .i64 p, .slice A N c] 24)).cell? ⟨w.heap.size, 0, none⟩ = some (.int .i64 l) := by go_simp
  have HK0 := hid hk0
  have HL0 := hid hl0
  clear hk0 hl0
  go_wp2_with (first
    | (go_at_call 52; refine (HL.out _).mono ?_; rintro e w1 ⟨rfl, rfl⟩)
    | (go_at_call 87; refine (HCF.out _ HK0.out HL0.out).mono ?_; rintro e w1 ⟨rfl, rfl⟩)
    | (refine (HA.out _ HL0.out).mono ?_; rintro e w1 ⟨rfl, rfl⟩)
    | (refine (HP.out _ HL0.out).mono ?_; rintro e w1 ⟨rfl, rfl⟩))
  go_ret2
  exact ⟨rfl, HK0.out⟩

theorem at_no (l a p : Int) (N c : Nat) (tags : List Int) (A : Option Addr) (w : World) (hl : tags.length = N) (hr : Row1 w A N fun i => .int .i64 (tags.getD i 0))
    (h : ¬ (0 ≤ l ∧ l < 65536) ∨ 1048576 < N ∨ a = -1 ∨ offB l a = true ∨ offB l p = true ∨ ∃ i, i < N ∧ offB l (tags.getD i 0) = true) :
    Calls Try.prog 44 #[.int .i64 l, .agg #[.int .i64 a, .int .i64 p, .slice A N c]] w fun e w' => e = .returned (.tuple #[.pointer none, .int .i64 2]) ∧ KW w w' := by
  by_cases h1 : ¬ (0 ≤ l ∧ l < 65536)
  · exact at_no1 l a p N c A w h1
  have h1 := Classical.not_not.1 h1
  by_cases h2 : 1048576 < N
  · exact at_no2 l a p N c A w h1 h2
  by_cases h3 : a = -1
  · exact at_no3 l a p N c A w h1 (by omega) h3
  cases h4 : offB l a with
  | true => exact at_no4 l a p N c A w h1 (by omega) h3 h4
  | false =>
    cases h5 : offB l p with
    | true => exact at_no5 l a p N c A w h1 (by omega) h3 h4 h5
    | false =>
      refine at_no6 l a p N c A w h1 (by omega) h3 h4 h5 fun W hk hc => ?_
      subst hl
      refine contains_some l tags A c w.heap.size W (by omega) (hr.k hk) hc ?_
      rcases h with h | h | h | h | h | h
      · exact absurd h1 h
      · exact absurd h h2
      · exact absurd h h3
      · rw [h4] at h; cases h
      · rw [h5] at h; cases h
      · exact h
end Go.Proofs.Ytgadkelldbibgaa
