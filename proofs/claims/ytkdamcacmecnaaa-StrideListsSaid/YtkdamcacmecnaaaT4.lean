/- Contract of stride.back. -/
import Derived.Test.YtkdamcacmecnaaaT3
import Derived.RegionTactic
namespace Go.Proofs.Ytkdamcacmecnaaa
open Go.ChangeShapes Go.WideShapes Go.ChangeAt Go.RowKit
set_option linter.unusedVariables false

set_option maxRecDepth 100000 in
set_option maxHeartbeats 2000000 in
theorem sback_any (a p : Int) (tags : List Int) (A : Option Addr) (c : Nat) (w : World) (p0 : 0 ≤ p) (p1 : p < 65536) (a0 : 0 ≤ a) (a1 : a < 65536) (n1 : tags.length ≤ 1048576)
    (ht : ∀ i, i < tags.length → -1 ≤ tags.getD i 0 ∧ tags.getD i 0 < 65536) (hr : Row1 w A tags.length fun i => .int .i64 (tags.getD i 0)) :
    Calls Try.prog 54 #[.agg #[.int .i64 a, .int .i64 p, .slice A tags.length c]] w (AnsP w (Sd.nxB a p tags)) := by
  have hk := ((KW.refl w).alloc (.cells #[.int .i64 a, .int .i64 p, .slice A tags.length c] 53)).alloc (.cells #[.int .i64 0, .int .i64 0] 55)
  have HB0 := hid (fun W (h : KW w W) => best_any 75 76 #[] Sd.holds Sd.greater tags A c W n1 (hr.k h) (fun args W => by kernel_rfl) (fun args W => by kernel_rfl) (fun x => holds_any x W) (fun x y => greater_any x y W))
  have HB : Hid (∀ W, KW w W → Calls Try.prog 70 #[.slice A tags.length c, .func (.func 75) #[] #[], .func (.func 76) #[] #[]] W fun e w' => e = .returned (.int .i64 (Sd.base tags)) ∧ W = w') := HB0.out
  have hF : ((w.alloc (.cells #[.int .i64 a, .int .i64 p, .slice A tags.length c] 53)).alloc (.cells #[.int .i64 0, .int .i64 0] 55)).rowIs (w.heap.size + 1) 55 2 (actF 0 0) := by
    have h := World.rowIs_alloc (w.alloc (.cells #[.int .i64 a, .int .i64 p, .slice A tags.length c] 53)) #[.int .i64 0, .int .i64 0] 55 (actF 0 0) fun i hi => by
      rcases (show i = 0 ∨ i = 1 by simp at hi; omega) with rfl | rfl <;> rfl
    simpa using h
  have HF := hid hF
  have HK := hid hk
  have hbc := Sd.base_cases tags
  unfold Sd.nxB
  generalize Sd.base tags = b at *
  clear HB0 hF hk
  rcases hbc with ⟨hb, _⟩ | ⟨j, hj, hb, hx0, _, _⟩
  · subst hb
    rw [if_neg (by omega)]
    clear ht hr
    by_cases c1 : p = 0
    · rw [if_pos c1]
      subst c1
      go_enter Try.func54, Try.ntmps54
      go_wp2_with fail
      refine (HB.out _ HK.out).mono ?_
      rintro e w1 ⟨rfl, rfl⟩
      go_wp2_with fail
      refine (nothing_any _).mono ?_
      rintro e w1 ⟨rfl, hk1⟩
      have HF1 := hid (KW.row hk1 HF.out.lt HF.out)
      have HK1 := hid (HK.out.t hk1)
      clear hk1
      go_wp2_with (refine store_act rfl rfl rfl rfl HF1.out ?_; intro W2 hb2 hkeep)
      exact bodyPost_ret (results_cell_tmp rfl _ _ _ _ _ (0, 0) _ rfl hb2 Try.underlying55 rfl (by kernel_rfl)) rfl ⟨rfl, HK1.out.kept hkeep fun i hi => by omega⟩
    rw [if_neg c1]
    have d1 : (p == 0) = false := by simpa using c1
    have hp : 1 ≤ p := by omega
    clear c1
    by_cases c2 : a = p - 1
    · rw [if_pos c2]
      have d2 : (a == p - 1) = true := by simpa using c2
      clear c2
      go_enter Try.func54, Try.ntmps54
      go_wp2_with fail
      refine (HB.out _ HK.out).mono ?_
      rintro e w1 ⟨rfl, rfl⟩
      go_wp2_with fail
      refine (act_any _ _ _).mono ?_
      rintro e w1 ⟨rfl, hk1⟩
      have HF1 := hid (KW.row hk1 HF.out.lt HF.out)
      have HK1 := hid (HK.out.t hk1)
      clear hk1
      go_wp2_with (refine store_act rfl rfl rfl rfl HF1.out ?_; intro W2 hb2 hkeep)
      exact bodyPost_ret (results_cell_tmp rfl _ _ _ _ _ (0, 0) _ rfl hb2 Try.underlying55 rfl (by kernel_rfl)) rfl ⟨rfl, HK1.out.kept hkeep fun i hi => by omega⟩
    rw [if_neg c2, if_neg (by omega)]
    have d2 : (a == p - 1) = false := by simpa using c2
    clear c2
    by_cases c3 : a < p
    · rw [if_pos c3]
      go_enter Try.func54, Try.ntmps54
      go_wp2_with fail
      refine (HB.out _ HK.out).mono ?_
      rintro e w1 ⟨rfl, rfl⟩
      go_wp2_with fail
      go_region
      go_wp2_with fail
      refine (act_any _ _ _).mono ?_
      rintro e w1 ⟨rfl, hk1⟩
      have HF1 := hid (KW.row hk1 HF.out.lt HF.out)
      have HK1 := hid (HK.out.drew.t hk1)
      clear hk1
      go_wp2_with (refine store_act rfl rfl rfl rfl HF1.out ?_; intro W2 hb2 hkeep)
      exact bodyPost_ret (results_cell_tmp rfl _ _ _ _ _ (0, 0) _ rfl hb2 Try.underlying55 rfl (by kernel_rfl)) rfl ⟨rfl, HK1.out.kept hkeep fun i hi => by omega⟩
    rw [if_neg c3]
    have d3 : decide (a < p) = false := decide_eq_false c3
    clear c3
    go_enter Try.func54, Try.ntmps54
    go_wp2_with fail
    refine (HB.out _ HK.out).mono ?_
    rintro e w1 ⟨rfl, rfl⟩
    go_wp2_with fail
    go_region
    go_wp2_with fail
    refine (nothing_any _).mono ?_
    rintro e w1 ⟨rfl, hk1⟩
    have HF1 := hid (KW.row hk1 HF.out.lt HF.out)
    have HK1 := hid (HK.out.drew.t hk1)
    clear hk1
    go_wp2_with (refine store_act rfl rfl rfl rfl HF1.out ?_; intro W2 hb2 hkeep)
    exact bodyPost_ret (results_cell_tmp rfl _ _ _ _ _ (0, 0) _ rfl hb2 Try.underlying55 rfl (by kernel_rfl)) rfl ⟨rfl, HK1.out.kept hkeep fun i hi => by omega⟩
  · subst hb
    have hx1 := (ht j hj).2
    obtain ⟨q1, o1, rfl, hq1, hc1⟩ := hr.at_ hj
    rw [Int.toNat_natCast]
    have hjl : (j : Int) < (tags.length : Int) := by omega
    generalize tags.getD j 0 = x at *
    clear ht hr
    generalize tags.length = N at *
    by_cases c1 : p ≤ x
    · rw [if_pos ⟨by omega, c1⟩]
      go_enter Try.func54, Try.ntmps54
      go_wp2_with fail
      refine (HB.out _ HK.out).mono ?_
      rintro e w1 ⟨rfl, rfl⟩
      go_wp2_with fail
      refine (act_any _ _ _).mono ?_
      rintro e w1 ⟨rfl, hk1⟩
      have HF1 := hid (KW.row hk1 HF.out.lt HF.out)
      have HK1 := hid (HK.out.t hk1)
      clear hk1
      go_wp2_with (refine store_act rfl rfl rfl rfl HF1.out ?_; intro W2 hb2 hkeep)
      exact bodyPost_ret (results_cell_tmp rfl _ _ _ _ _ (0, 0) _ rfl hb2 Try.underlying55 rfl (by kernel_rfl)) rfl ⟨rfl, HK1.out.kept hkeep fun i hi => by omega⟩
    rw [if_neg (fun h => c1 h.2)]
    have d1 : decide (p ≤ x) = false := decide_eq_false c1
    have hxp : x < p := by omega
    clear c1
    rw [if_neg (by omega)]
    have d0 : (p == 0) = false := by simp; omega
    by_cases c2 : a = p - 1
    · rw [if_pos c2]
      have d2 : (a == p - 1) = true := by simpa using c2
      clear c2
      go_enter Try.func54, Try.ntmps54
      go_wp2_with fail
      refine (HB.out _ HK.out).mono ?_
      rintro e w1 ⟨rfl, rfl⟩
      go_wp2_with fail
      refine (act_any _ _ _).mono ?_
      rintro e w1 ⟨rfl, hk1⟩
      have HF1 := hid (KW.row hk1 HF.out.lt HF.out)
      have HK1 := hid (HK.out.t hk1)
      clear hk1
      go_wp2_with (refine store_act rfl rfl rfl rfl HF1.out ?_; intro W2 hb2 hkeep)
      exact bodyPost_ret (results_cell_tmp rfl _ _ _ _ _ (0, 0) _ rfl hb2 Try.underlying55 rfl (by kernel_rfl)) rfl ⟨rfl, HK1.out.kept hkeep fun i hi => by omega⟩
    rw [if_neg c2]
    have d2 : (a == p - 1) = false := by simpa using c2
    clear c2
    by_cases c3 : a < x
    · rw [if_pos ⟨by omega, Or.inl c3⟩]
      go_enter Try.func54, Try.ntmps54
      go_wp2_with fail
      refine (HB.out _ HK.out).mono ?_
      rintro e w1 ⟨rfl, rfl⟩
      go_wp2_with fail
      go_region
      go_wp2_with fail
      refine (act_any _ _ _).mono ?_
      rintro e w1 ⟨rfl, hk1⟩
      have HF1 := hid (KW.row hk1 HF.out.lt HF.out)
      have HK1 := hid (HK.out.drew.t hk1)
      clear hk1
      go_wp2_with (refine store_act rfl rfl rfl rfl HF1.out ?_; intro W2 hb2 hkeep)
      exact bodyPost_ret (results_cell_tmp rfl _ _ _ _ _ (0, 0) _ rfl hb2 Try.underlying55 rfl (by kernel_rfl)) rfl ⟨rfl, HK1.out.kept hkeep fun i hi => by omega⟩
    have d3 : decide (a < x) = false := decide_eq_false c3
    by_cases c4 : p ≤ a
    · rw [if_pos ⟨by omega, Or.inr c4⟩]
      clear c3
      go_enter Try.func54, Try.ntmps54
      go_wp2_with fail
      refine (HB.out _ HK.out).mono ?_
      rintro e w1 ⟨rfl, rfl⟩
      go_wp2_with fail
      go_region
      go_wp2_with fail
      refine (act_any _ _ _).mono ?_
      rintro e w1 ⟨rfl, hk1⟩
      have HF1 := hid (KW.row hk1 HF.out.lt HF.out)
      have HK1 := hid (HK.out.drew.t hk1)
      clear hk1
      go_wp2_with (refine store_act rfl rfl rfl rfl HF1.out ?_; intro W2 hb2 hkeep)
      exact bodyPost_ret (results_cell_tmp rfl _ _ _ _ _ (0, 0) _ rfl hb2 Try.underlying55 rfl (by kernel_rfl)) rfl ⟨rfl, HK1.out.kept hkeep fun i hi => by omega⟩
    have d4 : decide (p ≤ a) = false := decide_eq_false c4
    have c5 : a < p := by omega
    rw [if_neg (by rintro ⟨_, h | h⟩ <;> omega), if_pos c5]
    clear c3 c4
    go_enter Try.func54, Try.ntmps54
    go_wp2_with fail
    refine (HB.out _ HK.out).mono ?_
    rintro e w1 ⟨rfl, rfl⟩
    go_wp2_with fail
    go_region
    go_wp2_with fail
    refine (act_any _ _ _).mono ?_
    rintro e w1 ⟨rfl, hk1⟩
    have HF1 := hid (KW.row hk1 HF.out.lt HF.out)
    have HK1 := hid (HK.out.drew.t hk1)
    clear hk1
    go_wp2_with (refine store_act rfl rfl rfl rfl HF1.out ?_; intro W2 hb2 hkeep)
    exact bodyPost_ret (results_cell_tmp rfl _ _ _ _ _ (0, 0) _ rfl hb2 Try.underlying55 rfl (by kernel_rfl)) rfl ⟨rfl, HK1.out.kept hkeep fun i hi => by omega⟩
end Go.Proofs.Ytkdamcacmecnaaa
