/- Contracts of stride.act, nothing, the closures, best, and the reference's Slot. -/
import Derived.Test.YtkdamcacmecnaaaT1
import Derived.Test.YtkdamcacmecnaaaN2
namespace Go.Proofs.Ytkdamcacmecnaaa
open Go.ChangeShapes Go.WideShapes Go.ChangeAt Go.RowKit
set_option linter.unusedVariables false

theorem act_any (k n : Int) (w : World) : Calls Try.prog 69 #[.int .i64 k, .int .i64 n] w fun e w' => e = .returned (.tuple #[.agg #[.int .i64 k, .int .i64 n], .bool true]) ∧ KW w w' := by
  go_enter Try.func69, Try.ntmps69
  go_wp2_with fail
  exact bodyPost_ret (results_cell_tmp rfl _ _ _ _ _ (0, 0) _ rfl (heap_alloc_new w _) Try.underlying55 rfl (by kernel_rfl)) rfl ⟨rfl, (KW.refl w).alloc _⟩
theorem nothing_any (w : World) : Calls Try.prog 52 #[] w fun e w' => e = .returned (.tuple #[.agg #[.int .i64 0, .int .i64 0], .bool false]) ∧ KW w w' := by
  go_enter Try.func52, Try.ntmps52
  go_wp2_with fail
  exact bodyPost_ret (results_cell_tmp rfl _ _ _ _ _ (0, 0) _ rfl (heap_alloc_new w _) Try.underlying55 rfl (by kernel_rfl)) rfl ⟨rfl, (KW.refl w).alloc _⟩
theorem less_any (a b : Int) (w : World) : Calls Try.prog 72 #[.int .i64 a, .int .i64 b] w fun e w' => e = .returned (.bool (Sd.less a b)) ∧ w = w' := by
  unfold Sd.less
  go_enter Try.func72, Try.ntmps72
  go_wp2_with fail
  go_ret
  exact ⟨rfl, rfl⟩
theorem greater_any (a b : Int) (w : World) : Calls Try.prog 76 #[.int .i64 a, .int .i64 b] w fun e w' => e = .returned (.bool (Sd.greater a b)) ∧ w = w' := by
  unfold Sd.greater
  go_enter Try.func76, Try.ntmps76
  go_wp2_with fail
  go_ret
  exact ⟨rfl, rfl⟩
theorem holds_any (a : Int) (w : World) : Calls Try.prog 75 #[.int .i64 a] w fun e w' => e = .returned (.bool (Sd.holds a)) ∧ w = w' := by
  unfold Sd.holds
  go_enter Try.func75, Try.ntmps75
  go_wp2_with fail
  go_ret
  exact ⟨rfl, rfl⟩
theorem ahead1_any (a d : Int) (b : Nat) (w : World) (hd : 1 ≤ d) (hc : w.cell? ⟨b, 0, none⟩ = some (.int .i64 d)) : Calls Try.prog 71 #[.int .i64 a, .pointer (some ⟨b, 0, none⟩)] w fun e w' => e = .returned (.bool (Sd.bad d a)) ∧ w = w' := by
  unfold Sd.bad
  by_cases h0 : 0 ≤ a
  · have h1 := Int.emod_nonneg a (show d ≠ 0 by omega)
    have h2 := Int.emod_lt_of_pos a (show 0 < d by omega)
    by_cases h3 : a % d = 0
    · have d3 : (a % d != 0) = false := by simpa using h3
      have HH := hid h3
      clear h3 h1 h2
      go_enter Try.func71, Try.ntmps71
      go_wp2_with fail
      go_ret
      exact ⟨ret_bool (by rw [decide_eq_false (p := a % d ≠ 0) (fun h => h HH.out)]; simp), rfl⟩
    · have d3 : (a % d != 0) = true := by simpa using h3
      have HH := hid h3
      clear h3 h1 h2
      go_enter Try.func71, Try.ntmps71
      go_wp2_with fail
      go_ret
      exact ⟨ret_bool (by rw [decide_eq_true (p := a % d ≠ 0) HH.out, decide_eq_true h0]; rfl), rfl⟩
  · have d0 : decide (0 ≤ a) = false := decide_eq_false h0
    have HH := hid h0
    clear h0
    go_enter Try.func71, Try.ntmps71
    go_wp2_with fail
    go_ret
    exact ⟨ret_bool (by have := HH.out; first | rfl | (rw [decide_eq_false (show ¬ 0 ≤ a by omega)]; rfl) | simp), rfl⟩
theorem ahead2_any (a k : Int) (b : Nat) (w : World) (hc : w.cell? ⟨b, 0, none⟩ = some (.int .i64 k)) : Calls Try.prog 73 #[.int .i64 a, .pointer (some ⟨b, 0, none⟩)] w fun e w' => e = .returned (.bool (a == k)) ∧ w = w' := by
  go_enter Try.func73, Try.ntmps73
  go_wp2_with fail
  go_ret
  exact ⟨rfl, rfl⟩
theorem ahead3_any (a : Int) (w : World) : Calls Try.prog 74 #[.int .i64 a] w fun e w' => e = .returned (.bool (decide (a < 0))) ∧ w = w' := by
  go_enter Try.func74, Try.ntmps74
  go_wp2_with fail
  go_ret
  exact ⟨rfl, rfl⟩

theorem bst_rng (is : Int → Bool) (lt : Int → Int → Bool) (tags : List Int) (n : Nat) : Sd.bst is lt tags n = -1 ∨ ∃ j : Nat, j < n ∧ Sd.bst is lt tags n = j := by
  induction n with
  | zero => exact .inl rfl
  | succ n ih =>
    unfold Sd.bst
    split
    · exact .inr ⟨n, by omega, rfl⟩
    · exact ih.imp id fun ⟨j, hj, e⟩ => ⟨j, by omega, e⟩
/-- one round of best -/
theorem bst_no {is : Int → Bool} {lt : Int → Int → Bool} {tags : List Int} {n : Nat} (h : is (tags.getD n 0) = false) : Sd.bst is lt tags (n + 1) = Sd.bst is lt tags n := by
  show (if _ then _ else _) = _
  rw [h]; rfl
theorem bst_new {is : Int → Bool} {lt : Int → Int → Bool} {tags : List Int} {n : Nat} (h : is (tags.getD n 0) = true) (e : Sd.bst is lt tags n = -1) : Sd.bst is lt tags (n + 1) = n := by
  show (if _ then _ else _) = _
  rw [h, e]; rfl
theorem bst_lt {is : Int → Bool} {lt : Int → Int → Bool} {tags : List Int} {n j : Nat} (h : is (tags.getD n 0) = true) (e : Sd.bst is lt tags n = j) : Sd.bst is lt tags (n + 1) = if lt (tags.getD n 0) (tags.getD j 0) then (n : Int) else j := by
  show (if _ then _ else _) = _
  rw [h, e, Int.toNat_natCast, decide_eq_false (by omega)]; rfl

set_option maxHeartbeats 1000000 in
theorem best_any (G H : FuncId) (caps : Array Value) (p : Int → Bool) (lt : Int → Int → Bool) (tags : List Int) (A : Option Addr) (c : Nat) (w : World) (hl : tags.length ≤ 1048576) (hr : Row1 w A tags.length fun i => .int .i64 (tags.getD i 0))
    (he : ∀ (args : Array Value) (W : World), (callFunc G args).run Try.prog W = .ok (.enter G args) W)
    (he2 : ∀ (args : Array Value) (W : World), (callFunc H args).run Try.prog W = .ok (.enter H args) W)
    (hG : ∀ x, Calls Try.prog G (#[.int .i64 x] ++ caps) w fun e w' => e = .returned (.bool (p x)) ∧ w = w')
    (hH : ∀ x y, Calls Try.prog H #[.int .i64 x, .int .i64 y] w fun e w' => e = .returned (.bool (lt x y)) ∧ w = w') :
    Calls Try.prog 70 #[.slice A tags.length c, .func (.func G) #[] caps, .func (.func H) #[] #[]] w fun e w' => e = .returned (.int .i64 (Sd.bst p lt tags tags.length)) ∧ w = w' := by
  have HR := hid hr
  have HG := hid hG
  have HH := hid hH
  have HE := hid he
  have HE2 := hid he2
  clear hr hG hH he he2
  have HB := hid (fun n => bst_rng p lt tags n)
  have HN := hid (fun n h => bst_no (is := p) (lt := lt) (tags := tags) (n := n) h)
  have HW := hid (fun n h e => bst_new (is := p) (lt := lt) (tags := tags) (n := n) h e)
  have HL := hid (fun n j h e => bst_lt (is := p) (lt := lt) (tags := tags) (n := n) (j := j) h e)
  generalize hb : Sd.bst p lt tags = bb at *
  clear hb
  have H0 : Hid (bb 0 = -1) := by
    rcases HB.out 0 with h | ⟨j, hj, _⟩
    · exact h
    · omega
  generalize tags.length = N at *
  go_enter Try.func70, Try.ntmps70
  go_wp2_with fail
  go_loop [7, 12] (fun b i => ∃ k : Nat, k ≤ N ∧ i = .int .i64 k ∧ b = .int .i64 (bb k)) (fun _ i => N - (intOf i).toNat)
  case atStart => exact ⟨0, by omega, rfl, by rw [H0.out]⟩
  case round =>
    obtain ⟨k, hk, rfl, rfl⟩ := hrel
    by_cases hlt : k < N
    · obtain ⟨q1, o1, rfl, hq1, hc1⟩ := HR.out.at_ hlt
      have HO := hid (HG.out (tags.getD k 0))
      have HHk := hid (HH.out (tags.getD k 0))
      have HNk := hid (HN.out k)
      have HWk := hid (HW.out k)
      have HLk := hid (HL.out k)
      have hB := HB.out k
      have hB2 := HB.out (k + 1)
      have L5 : (k : Int) < (N : Int) := by omega
      rcases hB with hB | ⟨j, hj, hB⟩
      · have HBk := hid hB
        rw [hB] at HNk ⊢
        clear hB hB2
        generalize tags.getD k 0 = x at *
        generalize p x = px at *
        have e2 := HE.out
        go_wp2_with fail
        clear e2
        refine HO.out.mono ?_
        rintro e w1 ⟨rfl, rfl⟩
        cases px with
        | true =>
          have HR1 := hid (HWk.out rfl HBk.out)
          go_wp2_with fail
          go_round
          case rel => exact ⟨k + 1, by omega, by go_num, by rw [HR1.out]⟩
          case measure => simp [intOf]; omega
        | false =>
          have HR1 := hid (HNk.out rfl)
          go_wp2_with fail
          go_round
          case rel => exact ⟨k + 1, by omega, by go_num, by rw [HR1.out]⟩
          case measure => simp [intOf]; omega
      · have HBk := hid hB
        obtain ⟨q2, o2, hqq, _, hc2⟩ := HR.out.at_ (show j < N by omega)
        cases hqq
        rw [hB] at HNk ⊢
        have HLj := hid (fun h => HLk.out j h HBk.out)
        have HHj := hid (HHk.out (tags.getD j 0))
        have L6 : (j : Int) < (k : Int) := by omega
        clear hB hB2 HLk HHk
        generalize tags.getD k 0 = x at *
        generalize tags.getD j 0 = y at *
        generalize p x = px at *
        generalize lt x y = lxy at *
        have e2 := HE.out
        have e3 := HE2.out
        go_wp2_with fail
        clear e2
        refine HO.out.mono ?_
        rintro e w1 ⟨rfl, rfl⟩
        cases px with
        | true =>
          have HR1 := hid (HLj.out rfl)
          go_wp2_with fail
          clear e3
          refine HHj.out.mono ?_
          rintro e w1 ⟨rfl, rfl⟩
          cases lxy with
          | true =>
            go_wp2_with fail
            go_round
            case rel => exact ⟨k + 1, by omega, by go_num, by rw [HR1.out]; rfl⟩
            case measure => simp [intOf]; omega
          | false =>
            go_wp2_with fail
            go_round
            case rel => exact ⟨k + 1, by omega, by go_num, by rw [HR1.out]; rfl⟩
            case measure => simp [intOf]; omega
        | false =>
          have HR1 := hid (HNk.out rfl)
          clear e3
          go_wp2_with fail
          go_round
          case rel => exact ⟨k + 1, by omega, by go_num, by rw [HR1.out]⟩
          case measure => simp [intOf]; omega
    · have D1 : decide (k < N) = false := decide_eq_false hlt
      obtain rfl : k = N := by omega
      clear hlt
      go_wp2_with fail
      go_ret
      exact ⟨rfl, rfl⟩

theorem rslot_any (t : Int) (tags : List Int) (A : Option Addr) (c : Nat) (w : World) (hl : tags.length ≤ 1048576) (hr : Row1 w A tags.length fun i => .int .i64 (tags.getD i 0)) :
    Calls Try.prog 56 #[.slice A tags.length c, .int .i64 t] w fun e w' => e = .returned (.int .i64 (Sd.slot tags t)) ∧ w = w' := by
  have HR := hid hr
  have HI := hid (fun k hk h h2 => Sd.slot_is (tags := tags) (t := t) (k := k) hk h h2)
  have HN := hid (fun h => Sd.slot_none (tags := tags) (t := t) h)
  clear hr
  generalize Sd.slot tags t = r at *
  generalize tags.length = N at *
  go_enter Try.func56, Try.ntmps56
  go_wp2_with fail
  go_loop [5] (fun i => ∃ k : Nat, k ≤ N ∧ i = .int .i64 k ∧ Hid (∀ j, j < k → tags.getD j 0 ≠ t)) (fun i => N - (intOf i).toNat)
  case atStart => exact ⟨0, by omega, rfl, fun i hi => absurd hi (by omega)⟩
  case round =>
    obtain ⟨k, hk, rfl, HB⟩ := hrel
    by_cases hlt : k < N
    · obtain ⟨q1, o1, rfl, hq1, hc1⟩ := HR.out.at_ hlt
      have L5 : (k : Int) < (N : Int) := by omega
      have HI1 := hid (fun h => HI.out k hlt h HB.out)
      have HB1 : Hid (tags.getD k 0 ≠ t → ∀ j, j < k + 1 → tags.getD j 0 ≠ t) := fun h j hj => by
        rcases (show j < k ∨ j = k by omega) with h1 | rfl
        · exact HB.out j h1
        · exact h
      generalize tags.getD k 0 = x at *
      by_cases hx : x = t
      · have HR1 := hid (HI1.out hx)
        subst hx
        clear HB1 HI1
        go_wp2_with fail
        go_ret
        exact ⟨ret_int HR1.out.symm, rfl⟩
      · have HB2 := hid (HB1.out hx)
        have d : (x == t) = false := by simpa using hx
        clear hx
        go_wp2_with fail
        go_round
        case rel => exact ⟨k + 1, by omega, by go_num, HB2⟩
        case measure => simp [intOf]; omega
    · obtain rfl : k = N := by omega
      have HR1 := hid (HN.out HB.out)
      clear hlt
      go_wp2_with fail
      go_ret
      exact ⟨ret_int HR1.out.symm, rfl⟩
end Go.Proofs.Ytkdamcacmecnaaa
