/- Profile: how many slots hold something: contracts of profile.held and of the reference's count. -/
import Derived.Test.YtkdamcacmecnaaaN5a
import Derived.Test.YtkdamcacmecnaaaPlainS
namespace Go.Proofs.Ytkdamcacmecnaaa
open Go.ChangeShapes Go.WideShapes Go.ChangeAt Go.RowKit
set_option linter.unusedVariables false


set_option maxHeartbeats 1000000 in
theorem held_any (a p : Int) (v : Value) (tags : List Int) (w : World) (hl : tags.length ≤ 1048576) (hv : RT0 w v tags) :
    Calls Try.prog 49 #[.agg #[.int .i64 a, .int .i64 p, v]] w fun e w' => e = .returned (.int .i64 (Mc.cnt tags)) ∧ KW w w' := by
  obtain ⟨A, c, rfl, hr⟩ := hv
  have H1 := hid hr
  have HC := hid (fun k h => Mc.cnt_take tags (k := k) h)
  have HE := hid (show Mc.cnt (tags.take tags.length) = Mc.cnt tags from by rw [List.take_length])
  have HB := hid (fun k => Nat.le_trans (Mc.cnt_le (tags.take k)) (by rw [List.length_take]; omega) : ∀ k, Mc.cnt (tags.take k) ≤ tags.length)
  have H0 := hid (show Mc.cnt (tags.take 0) = 0 from rfl)
  clear hr
  generalize Mc.cnt tags = n at *
  generalize hct : (fun k => Mc.cnt (tags.take k)) = ct at *
  have HT := hid (fun k => (show Mc.cnt (tags.take k) = ct k from by rw [← hct]))
  simp only [HT.out] at HC HE HB H0
  generalize tags.length = N at *
  clear HT hct
  have hk := (KW.refl w).alloc (.cells #[.int .i64 a, .int .i64 p, .slice A N c] 53)
  have HK := hid hk
  clear hk
  go_enter Try.func49, Try.ntmps49
  go_wp2_with fail
  go_loopw [3, 5, 9] (fun q _ i wr => ∃ k : Nat, k ≤ N ∧ i = .int .i64 k ∧ q = .int .i64 (ct k) ∧ Hid (KW w wr)) (fun _ _ i _ => N - (intOf i).toNat)
  case atStart => exact ⟨0, by omega, rfl, by rw [H0.out]; rfl, HK⟩
  case round =>
    obtain ⟨k, hk, rfl, rfl, HK1⟩ := hrel
    by_cases hlt : k < N
    · obtain ⟨b', off, rfl, hb', hc⟩ := (H1.out.k HK1.out).at_ hlt
      have hb := HB.out k
      have hs := HC.out k hlt
      have L5 : (k : Int) < (N : Int) := by omega
      generalize tags.getD k 0 = x at *
      by_cases hx : 0 ≤ x
      · rw [if_pos hx] at hs
        have hs' : ((ct (k + 1) : Nat) : Int) = (ct k : Int) + 1 := by omega
        go_wp2_with fail
        go_roundw
        case rel => exact ⟨k + 1, by omega, by go_num, by rw [hs'], HK1⟩
        case measure => simp [intOf]; omega
      · rw [if_neg hx] at hs
        have hs' : ct (k + 1) = ct k := by omega
        have d : decide (0 ≤ x) = false := decide_eq_false hx
        go_wp2_with fail
        go_roundw
        case rel => exact ⟨k + 1, by omega, by go_num, by rw [hs'], HK1⟩
        case measure => simp [intOf]; omega
    · obtain rfl : k = N := by omega
      clear hlt
      go_wp2_with fail
      go_ret
      exact ⟨by rw [← HE.out]; rfl, HK1.out⟩
set_option maxHeartbeats 1000000 in
theorem rcount_any (a p : Int) (v : Value) (tags : List Int) (w : World) (hl : tags.length ≤ 1048576) (hv : RT0 w v tags) :
    Calls Try.prog 45 #[.agg #[.int .i64 a, .int .i64 p, v]] w fun e w' => e = .returned (.int .i64 (Mc.cnt tags)) ∧ KW w w' := by
  obtain ⟨A, c, rfl, hr⟩ := hv
  have H1 := hid hr
  have HC := hid (fun k h => Mc.cnt_take tags (k := k) h)
  have HE := hid (show Mc.cnt (tags.take tags.length) = Mc.cnt tags from by rw [List.take_length])
  have HB := hid (fun k => Nat.le_trans (Mc.cnt_le (tags.take k)) (by rw [List.length_take]; omega) : ∀ k, Mc.cnt (tags.take k) ≤ tags.length)
  have H0 := hid (show Mc.cnt (tags.take 0) = 0 from rfl)
  clear hr
  generalize Mc.cnt tags = n at *
  generalize hct : (fun k => Mc.cnt (tags.take k)) = ct at *
  have HT := hid (fun k => (show Mc.cnt (tags.take k) = ct k from by rw [← hct]))
  simp only [HT.out] at HC HE HB H0
  generalize tags.length = N at *
  clear HT hct
  have hk := (KW.refl w).alloc (.cells #[.int .i64 a, .int .i64 p, .slice A N c] 53)
  have HK := hid hk
  clear hk
  have HS : Hid ((w.alloc (.cells #[.int .i64 a, .int .i64 p, .slice A N c] 53)).cell? ⟨w.heap.size, 2, none⟩ = some (.slice A N c)) := hid (by go_simp)
  go_enter Try.func45, Try.ntmps45
  go_wp2_with fail
  go_loopw [3, 4] (fun q i wr => ∃ k : Nat, k ≤ N ∧ i = .int .i64 k ∧ q = .int .i64 (ct k) ∧ Hid (KW w wr) ∧ Hid (wr.cell? ⟨w.heap.size, 2, none⟩ = some (.slice A N c))) (fun _ i _ => N - (intOf i).toNat)
  case atStart => exact ⟨0, by omega, rfl, by rw [H0.out]; rfl, HK, HS⟩
  case round =>
    obtain ⟨k, hk, rfl, rfl, HK1, HS1⟩ := hrel
    have s2 := HS1.out
    by_cases hlt : k < N
    · obtain ⟨b', off, rfl, hb', hc⟩ := (H1.out.k HK1.out).at_ hlt
      have hb := HB.out k
      have hs := HC.out k hlt
      have L5 : (k : Int) < (N : Int) := by omega
      generalize tags.getD k 0 = x at *
      by_cases hx : 0 ≤ x
      · rw [if_pos hx] at hs
        have hs' : ((ct (k + 1) : Nat) : Int) = (ct k : Int) + 1 := by omega
        go_wp2_with fail
        go_roundw
        case rel => exact ⟨k + 1, by omega, by go_num, by rw [hs'], HK1, HS1⟩
        case measure => simp [intOf]; omega
      · rw [if_neg hx] at hs
        have hs' : ct (k + 1) = ct k := by omega
        have d : decide (0 ≤ x) = false := decide_eq_false hx
        go_wp2_with fail
        go_roundw
        case rel => exact ⟨k + 1, by omega, by go_num, by rw [hs'], HK1, HS1⟩
        case measure => simp [intOf]; omega
    · obtain rfl : k = N := by omega
      clear hlt
      go_wp2_with fail
      go_ret
      exact ⟨by rw [← HE.out]; rfl, HK1.out⟩
end Go.Proofs.Ytkdamcacmecnaaa
