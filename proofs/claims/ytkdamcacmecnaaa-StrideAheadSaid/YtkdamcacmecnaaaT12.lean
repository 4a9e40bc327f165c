/- The walk of StrideAhead. -/
import Derived.Test.YtkdamcacmecnaaaT9
namespace Go.Proofs.Ytkdamcacmecnaaa
open Go.ChangeShapes Go.WideShapes Go.ChangeAt Go.RowKit
set_option linter.unusedVariables false

theorem aA_pre (n k : Nat) : ∀ m, ∃ r, Sd.aA n (k + m) = Sd.aA n k ++ r := by
  intro m
  induction m with
  | zero => exact ⟨[], by simp⟩
  | succ m ih =>
    obtain ⟨r, hr⟩ := ih
    refine ⟨r ++ Sd.rA n (k + m + 1), ?_⟩
    show Sd.aA n (k + m) ++ Sd.rA n (k + m + 1) = _
    rw [hr, List.append_assoc]
theorem ahead_goes (k m s : Int) (w : World) (h : k < 0 ∨ m < 0 ∨ 300 < k ∨ 300 - k < m ∨ s < 1 ∨ 60 < s) (b1 : -9223372036854775808 ≤ k ∧ k ≤ 9223372036854775807) :
    Calls Try.prog 10 #[.int .i64 k, .int .i64 m, .int .i64 s] w fun e w' => e = .returned (.bool true) ∧ KW w w' := by
  have hk := KW.refl w
  by_cases h0 : k < 0
  · clear h
    go_enter Try.func10, Try.ntmps10
    go_wp2_with (go_at_call 26; refine (goes31_any _).mono ?_; rintro e w1 ⟨rfl, hb⟩; replace hk := hk.t hb; clear hb)
    go_ret
    exact ⟨rfl, hk⟩
  have d0 : decide (k < 0) = false := decide_eq_false h0
  by_cases h1 : m < 0
  · clear h
    go_enter Try.func10, Try.ntmps10
    go_wp2_with (go_at_call 26; refine (goes31_any _).mono ?_; rintro e w1 ⟨rfl, hb⟩; replace hk := hk.t hb; clear hb)
    go_ret
    exact ⟨rfl, hk⟩
  have d1 : decide (m < 0) = false := decide_eq_false h1
  by_cases h2 : 300 < k
  · clear h
    go_enter Try.func10, Try.ntmps10
    go_wp2_with (go_at_call 26; refine (goes31_any _).mono ?_; rintro e w1 ⟨rfl, hb⟩; replace hk := hk.t hb; clear hb)
    go_ret
    exact ⟨rfl, hk⟩
  have d2 : decide (300 < k) = false := decide_eq_false h2
  by_cases h3 : 300 - k < m
  · clear h
    go_enter Try.func10, Try.ntmps10
    go_wp2_with (go_at_call 26; refine (goes31_any _).mono ?_; rintro e w1 ⟨rfl, hb⟩; replace hk := hk.t hb; clear hb)
    go_ret
    exact ⟨rfl, hk⟩
  have d3 : decide (300 - k < m) = false := decide_eq_false h3
  by_cases h4 : s < 1
  · clear h
    go_enter Try.func10, Try.ntmps10
    go_wp2_with (go_at_call 26; refine (goes31_any _).mono ?_; rintro e w1 ⟨rfl, hb⟩; replace hk := hk.t hb; clear hb)
    go_ret
    exact ⟨rfl, hk⟩
  have d4 : decide (s < 1) = false := decide_eq_false h4
  have h5 : 60 < s := by omega
  clear h
  go_enter Try.func10, Try.ntmps10
  go_wp2_with (go_at_call 26; refine (goes31_any _).mono ?_; rintro e w1 ⟨rfl, hb⟩; replace hk := hk.t hb; clear hb)
  go_ret
  exact ⟨rfl, hk⟩

set_option maxRecDepth 100000 in
set_option maxHeartbeats 2000000 in
theorem ahead_main (k m n : Nat) (w : World) (hkm : k + m ≤ 300) (hn : 1 ≤ n ∧ n ≤ 60) :
    Calls Try.prog 10 #[.int .i64 k, .int .i64 m, .int .i64 n] w fun e w' => e = .returned (.bool true) ∧ KW w w' := by
  have H1 := hid (fun W => ssahead_yes k n W (by omega) (by omega))
  have H2 := hid (fun W => ssahead_yes (k + m) n W (by omega) (by omega))
  have H3 := hid (fun W => slist_yes (k + m) n W (by omega) (by omega))
  unfold ActsP at H1 H2 H3
  obtain ⟨r, hr⟩ := aA_pre n k m
  have hl : Sd.lA n (k + m) = Sd.aA n (k + m) ++ Sd.bL (Sd.sd (k + m : Nat) n) (Sd.aT n (k + m)) (k + m) := rfl
  have hb : (Sd.aA n (k + m)).length ≤ 4296000000 := by rw [← Sd.aB_aA]; exact Sd.aB_b n (by omega)
  have hb2 := Sd.bL_le (Sd.sd (k + m : Nat) n) (Sd.aT n (k + m)) (k + m)
  generalize Sd.bL (Sd.sd (k + m : Nat) n) (Sd.aT n (k + m)) (k + m) = bl at *
  generalize Sd.lA n (k + m) = lc at *
  generalize Sd.aA n (k + m) = lb at *
  generalize Sd.aA n k = la at *
  have ht1 : lb.take la.length = la := by rw [hr]; simp
  have ht2 : lc.take lb.length = lb := by rw [hl]; simp
  have hle1 : la.length ≤ lb.length := by rw [hr]; simp
  have hle2 : lb.length ≤ lc.length := by rw [hl]; simp
  have hbc : lc.length ≤ 5000000000 := by rw [hl, List.length_append]; omega
  have HT1 := hid ht1
  have HT2 := hid ht2
  have e0 : ((k : Nat) : Int) + (m : Int) = ((k + m : Nat) : Int) := by simp
  have L1 : ((k + m : Nat) : Int) ≤ 300 := by omega
  have L2 : (0 : Int) ≤ ((k + m : Nat) : Int) := by omega
  have d0 : decide ((k : Int) < 0) = false := decide_eq_false (by omega)
  have d1 : decide ((m : Int) < 0) = false := decide_eq_false (by omega)
  have d2 : decide (300 < (k : Int)) = false := decide_eq_false (by omega)
  have d3 : decide (300 - (k : Int) < (m : Int)) = false := decide_eq_false (by omega)
  have d4 : decide ((n : Int) < 1) = false := decide_eq_false (by omega)
  have d5 : decide (60 < (n : Int)) = false := decide_eq_false (by omega)
  have f1 : decide ((lb.length : Int) < (la.length : Int)) = false := decide_eq_false (by omega)
  have f2 : decide ((lc.length : Int) < (lb.length : Int)) = false := decide_eq_false (by omega)
  have f1' : decide (lb.length < la.length) = false := decide_eq_false (by omega)
  have f2' : decide (lc.length < lb.length) = false := decide_eq_false (by omega)
  have L3 : (k : Int) ≤ 300 := by omega
  have L4 : (m : Int) ≤ 300 := by omega
  have HS := hid (fun (A B : Option Addr) (ca cb : Nat) W (hA : Acts W A la) (hB : Acts W B lb) => by
    have h := rsame26_any la (lb.take la.length) A B ca cb W (by omega) (by rw [ht1]; omega) hA (hB.take _)
    rw [ht1, show decide (la = la) = true from by simp] at h
    exact h)
  have HS2 := hid (fun (A B : Option Addr) (ca cb : Nat) W (hA : Acts W A lb) (hB : Acts W B lc) => by
    have h := rsame26_any lb (lc.take lb.length) A B ca cb W (by omega) (by rw [ht2]; omega) hA (hB.take _)
    rw [ht2, show decide (lb = lb) = true from by simp] at h
    exact h)
  clear ht1 ht2 hr hl HT1 HT2
  generalize ((k + m : Nat) : Int) = km at *
  go_enter Try.func10, Try.ntmps10
  go_wp2_with fail
  refine (H1.out _).mono ?_
  rintro e w1 ⟨A1, c1, rfl, ho1, hk1⟩
  obtain ⟨_, _, hv, hc1, ha1⟩ := ho1.slice
  cases hv
  have HA1 := hid ha1
  have HK1 := hid hk1
  clear ho1 ha1 hk1
  go_wp2_with fail
  refine (H2.out _).mono ?_
  rintro e w2 ⟨A2, c2, rfl, ho2, hk2⟩
  obtain ⟨_, _, hv, hc2, ha2⟩ := ho2.slice
  cases hv
  have HA2 := hid ha2
  have HA12 := hid (HA1.out.kw hk2)
  have HK2 := hid (HK1.out.t hk2)
  clear ho2 ha2 hk2
  go_wp2_with fail
  refine (H3.out _).mono ?_
  rintro e w3 ⟨A3, c3, rfl, ho3, hk3⟩
  obtain ⟨_, _, hv, hc3, ha3⟩ := ho3.slice
  cases hv
  have HA3 := hid ha3
  have HA13 := hid (HA12.out.kw hk3)
  have HA23 := hid (HA2.out.kw hk3)
  have HK3 := hid (HK2.out.t hk3)
  have q1 : la.length ≤ c2 := by omega
  have q2 : lb.length ≤ c3 := by omega
  clear ho3 ha3 hk3
  go_wp2_with fail
  refine (HS.out _ _ _ _ _ HA13.out HA23.out).mono ?_
  rintro e w4 ⟨rfl, hk4⟩
  have HK4 := hid (HK3.out.t hk4)
  have HA34 := hid (HA3.out.kw hk4)
  have HA24 := hid (HA23.out.kw hk4)
  clear hk4
  go_wp2_with fail
  refine (HS2.out _ _ _ _ _ HA24.out HA34.out).mono ?_
  rintro e w5 ⟨rfl, hk5⟩
  have hk := HK4.out.t hk5
  clear hk5
  go_wp2_with (go_at_call 26; refine (goes31_any _).mono ?_; rintro e w1 ⟨rfl, hb⟩; replace hk := hk.t hb; clear hb)
  go_ret
  exact ⟨rfl, hk⟩

theorem ahead31_law (k m s : Int) (w : World) (h1 : -9223372036854775808 ≤ k) (h2 : k ≤ 9223372036854775807) (_ : -9223372036854775808 ≤ m) (_ : m ≤ 9223372036854775807) (_ : -9223372036854775808 ≤ s) (_ : s ≤ 9223372036854775807) :
    Calls Try.prog 10 #[.int .i64 k, .int .i64 m, .int .i64 s] w fun e w' => e = .returned (.bool true) ∧ KW w w' := by
  by_cases h : k < 0 ∨ m < 0 ∨ 300 < k ∨ 300 - k < m ∨ s < 1 ∨ 60 < s
  · exact ahead_goes k m s w h ⟨h1, h2⟩
  · obtain ⟨K, rfl⟩ : ∃ K : Nat, k = K := ⟨k.toNat, by omega⟩
    obtain ⟨M, rfl⟩ : ∃ M : Nat, m = M := ⟨m.toNat, by omega⟩
    obtain ⟨n, rfl⟩ : ∃ n : Nat, s = n := ⟨s.toNat, by omega⟩
    exact ahead_main K M n w (by omega) (by omega)
end Go.Proofs.Ytkdamcacmecnaaa
