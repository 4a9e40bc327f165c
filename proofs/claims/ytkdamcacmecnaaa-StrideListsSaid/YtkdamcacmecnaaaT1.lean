/- Contracts of stride.Stride, the reference's Stride, both Totals. -/
import Derived.Test.YtkdamcacmecnaaaN5a
import Derived.Test.YtkdamcacmecnaaaPlainT
namespace Go.Proofs.Ytkdamcacmecnaaa
open Go.ChangeShapes Go.WideShapes Go.ChangeAt Go.RowKit
set_option linter.unusedVariables false

theorem ret_i2 {k k2 : IntKind} {a b c : Int} (h : a = b) : Ending.returned (.tuple #[.int k a, .int k2 c]) = .returned (.tuple #[.int k b, .int k2 c]) := by rw [h]
theorem stride_no (k s : Int) (w : World) (h : k < 0 ∨ 65536 ≤ k ∨ s < 1 ∨ 1048576 < s) :
    Calls Try.prog 22 #[.int .i64 k, .int .i64 s] w fun e w' => e = .returned (.tuple #[.int .i64 0, .int .i64 2]) ∧ w = w' := by
  by_cases h0 : k < 0
  · clear h
    go_enter Try.func22, Try.ntmps22
    go_wp2_with fail
    go_step3
    go_wp2_with fail
    rw [Exit.noGoto_ret]
    go_ret2
    exact ⟨rfl, rfl⟩
  have d0 : decide (k < 0) = false := decide_eq_false h0
  by_cases h1 : 65536 ≤ k
  · clear h h0
    go_enter Try.func22, Try.ntmps22
    go_wp2_with fail
    go_step3
    go_wp2_with fail
    rw [Exit.noGoto_ret]
    go_ret2
    exact ⟨rfl, rfl⟩
  have d1 : decide (65536 ≤ k) = false := decide_eq_false h1
  by_cases h2 : s < 1
  · clear h h0 h1
    go_enter Try.func22, Try.ntmps22
    go_wp2_with fail
    go_step3
    go_wp2_with fail
    rw [Exit.noGoto_ret]
    go_ret2
    exact ⟨rfl, rfl⟩
  have d2 : decide (s < 1) = false := decide_eq_false h2
  have h3 : 1048576 < s := by omega
  clear h h0 h1 h2
  go_enter Try.func22, Try.ntmps22
  go_wp2_with fail
  go_step3
  go_wp2_with fail
  rw [Exit.noGoto_ret]
  go_ret2
  exact ⟨rfl, rfl⟩
theorem rstride_no (k s : Int) (w : World) (h : k < 0 ∨ 65536 ≤ k ∨ s < 1 ∨ 1048576 < s) :
    Calls Try.prog 23 #[.int .i64 k, .int .i64 s] w fun e w' => e = .returned (.tuple #[.int .i64 0, .int .i64 2]) ∧ w = w' := by
  by_cases h0 : k < 0
  · clear h
    go_enter Try.func23, Try.ntmps23
    go_wp2_with fail
    go_ret2
    exact ⟨rfl, rfl⟩
  have d0 : decide (k < 0) = false := decide_eq_false h0
  by_cases h1 : 65536 ≤ k
  · clear h h0
    go_enter Try.func23, Try.ntmps23
    go_wp2_with fail
    go_ret2
    exact ⟨rfl, rfl⟩
  have d1 : decide (65536 ≤ k) = false := decide_eq_false h1
  by_cases h2 : s < 1
  · clear h h0 h1
    go_enter Try.func23, Try.ntmps23
    go_wp2_with fail
    go_ret2
    exact ⟨rfl, rfl⟩
  have d2 : decide (s < 1) = false := decide_eq_false h2
  have h3 : 1048576 < s := by omega
  clear h h0 h1 h2
  go_enter Try.func23, Try.ntmps23
  go_wp2_with fail
  go_ret2
  exact ⟨rfl, rfl⟩

theorem stride_yes (k s : Int) (w : World) (k0 : 0 ≤ k) (k1 : k < 65536) (s0 : 1 ≤ s) (s1 : s ≤ 1048576) :
    Calls Try.prog 22 #[.int .i64 k, .int .i64 s] w fun e w' => e = .returned (.tuple #[.int .i64 (Sd.sd k s), .int .i64 0]) ∧ w = w' := by
  have HE := hid (fun j hj c => Sd.jx_eq (k := k) (s := s) (j := j) k1 s0 hj c)
  have HL := hid (fun j hj c => Sd.jx_lt (k := k) (s := s) (j := j) k1 s0 hj c)
  have HU := hid (Sd.jx_le (k := k) (s := s) k1 s0)
  have HD := hid (show Sd.sd k s = Sd.p2 (Sd.jx k s) from rfl)
  generalize Sd.sd k s = d at *
  generalize Sd.jx k s = J at *
  have d0 : decide (k < 0) = false := decide_eq_false (by omega)
  have d1 : decide (65536 ≤ k) = false := decide_eq_false (by omega)
  have d2 : decide (s < 1) = false := decide_eq_false (by omega)
  have d3 : decide (1048576 < s) = false := decide_eq_false (by omega)
  go_enter Try.func22, Try.ntmps22
  go_wp2_with fail
  go_step3
  go_wp2_with fail
  go_step3
  go_wp2_with fail
  go_loop [6] (fun x => ∃ j : Nat, j ≤ J ∧ x = .int .i64 (Sd.p2 j)) (fun x => (131072 - intOf x).toNat)
  case atStart => exact ⟨0, by omega, rfl⟩
  case round =>
    obtain ⟨j, hj, rfl⟩ := hrel
    have hp := Sd.p2_pos j
    have hh := Sd.p2_hi (j := j) (by have := HU.out; omega)
    have hs := Sd.p2_succ j
    have hE := HE.out j hj
    have hL := HL.out j hj
    have hb := Sd.mul_b (show 0 ≤ s by omega) s1 (show 0 ≤ Sd.p2 j by omega) hh
    have HD2 : Hid (j = J → d = Sd.p2 j) := fun h => by rw [h]; exact HD.out
    have HS := hid hs
    have HE1 := hid hE
    have HL1 := hid hL
    clear hs hE hL
    generalize Sd.p2 j = x at *
    by_cases c : k < s * x
    · go_wp2_with fail
      go_ret2
      exact ⟨ret_i2 (HD2.out (HE1.out c)).symm, rfl⟩
    · have dc : decide (k < s * x) = false := decide_eq_false c
      go_wp2_with fail
      go_round
      case rel => exact ⟨j + 1, HL1.out (by omega), by rw [HS.out]⟩
      case measure => simp [intOf]; omega
theorem rstride_yes (k s : Int) (w : World) (k0 : 0 ≤ k) (k1 : k < 65536) (s0 : 1 ≤ s) (s1 : s ≤ 1048576) :
    Calls Try.prog 23 #[.int .i64 k, .int .i64 s] w fun e w' => e = .returned (.tuple #[.int .i64 (Sd.sd k s), .int .i64 0]) ∧ w = w' := by
  have HE := hid (fun j hj c => Sd.jx_dn (k := k) (s := s) (j := j) k1 s0 hj c)
  have HL := hid (fun j hj c => Sd.jx_up (k := k) (s := s) (j := j) k1 s0 hj c)
  have HU := hid (Sd.jx_le (k := k) (s := s) k1 s0)
  have HD := hid (show Sd.sd k s = Sd.p2 (Sd.jx k s) from rfl)
  generalize Sd.sd k s = d at *
  generalize Sd.jx k s = J at *
  have d0 : decide (k < 0) = false := decide_eq_false (by omega)
  have d1 : decide (65536 ≤ k) = false := decide_eq_false (by omega)
  have d2 : decide (s < 1) = false := decide_eq_false (by omega)
  have d3 : decide (1048576 < s) = false := decide_eq_false (by omega)
  go_enter Try.func23, Try.ntmps23
  go_wp2_with fail
  go_loop [6] (fun x => ∃ j : Nat, J ≤ j ∧ j ≤ 16 ∧ x = .int .i64 (Sd.p2 j)) (fun x => (intOf x).toNat)
  case atStart => exact ⟨16, HU.out, by omega, rfl⟩
  case round =>
    obtain ⟨j, hj, hj2, rfl⟩ := hrel
    cases j with
    | zero =>
      have HD2 : Hid (d = Sd.p2 0) := by rw [HD.out]; congr 1; omega
      have e : Sd.p2 0 = 1 := by decide
      rw [e] at HD2 ⊢
      clear e
      go_wp2_with fail
      go_ret2
      exact ⟨ret_i2 (HD2.out).symm, rfl⟩
    | succ j =>
      have hp := Sd.p2_pos j
      have hh := Sd.p2_hi (j := j) (by omega)
      have hs := Sd.p2_succ j
      have hE := HE.out j hj
      have hL := HL.out j hj
      have hb := Sd.mul_b (show 0 ≤ s by omega) s1 (show 0 ≤ Sd.p2 j by omega) hh
      have HD2 : Hid (J = j + 1 → d = Sd.p2 j * 2) := fun h => by rw [← hs, ← h]; exact HD.out
      have HE1 := hid hE
      have HL1 := hid hL
      rw [hs]
      clear hs hE hL
      have HJ : Hid (∃ y, y = Sd.p2 j) := ⟨_, rfl⟩
      have hx : ∃ x, x = Sd.p2 j := ⟨_, rfl⟩
      obtain ⟨x, hx⟩ := hx
      rw [← hx] at hp hh hb HD2 HE1 HL1 ⊢
      have HX := hid hx
      clear hx
      have q1 : x * 2 / 2 = x := by omega
      have q2 : 1 < x * 2 := by omega
      by_cases c : k < s * x
      · go_wp2_with fail
        go_round
        case rel => exact ⟨j, HE1.out c, by omega, by rw [HX.out]⟩
        case measure => simp [intOf]; omega
      · have dc : decide (k < s * x) = false := decide_eq_false c
        go_wp2_with fail
        go_ret2
        exact ⟨ret_i2 (HD2.out (HL1.out (by omega))).symm, rfl⟩

theorem total_no (k s : Int) (w : World) (h : k < 0 ∨ 65536 ≤ k ∨ s < 1 ∨ 1048576 < s) :
    Calls Try.prog 24 #[.int .i64 k, .int .i64 s] w fun e w' => e = .returned (.tuple #[.int .i64 0, .int .i64 2]) ∧ w = w' := by
  have HN := hid (fun W => stride_no k s W h)
  clear h
  go_enter Try.func24, Try.ntmps24
  go_wp2_with (go_at_call 22; refine (HN.out _).mono ?_; rintro e w1 ⟨rfl, rfl⟩)
  go_ret2
  exact ⟨rfl, rfl⟩
theorem rtotal_no (k s : Int) (w : World) (h : k < 0 ∨ 65536 ≤ k ∨ s < 1 ∨ 1048576 < s) :
    Calls Try.prog 25 #[.int .i64 k, .int .i64 s] w fun e w' => e = .returned (.tuple #[.int .i64 0, .int .i64 2]) ∧ w = w' := by
  have HN := hid (fun W => rstride_no k s W h)
  clear h
  go_enter Try.func25, Try.ntmps25
  go_wp2_with (go_at_call 23; refine (HN.out _).mono ?_; rintro e w1 ⟨rfl, rfl⟩)
  go_ret2
  exact ⟨rfl, rfl⟩
theorem stotal_yes (l : Nat) (s : Int) (w : World) (k1 : l < 65536) (s0 : 1 ≤ s) (s1 : s ≤ 1048576) :
    Calls Try.prog 24 #[.int .i64 l, .int .i64 s] w fun e w' => e = .returned (.tuple #[.int .i64 (Sd.tot l (Sd.sd l s)), .int .i64 0]) ∧ w = w' := by
  have HN := hid (fun W => stride_yes l s W (by omega) (by omega) s0 s1)
  have hd := Sd.sd_pos (l : Int) s
  have hd2 := Sd.sd_le (k := (l : Int)) (s := s) (by omega) s0
  have HB := hid (fun k hk => Sd.tot_b (l := l) (d := Sd.sd l s) (by omega) hd hd2 k hk)
  have HT := hid (show Sd.tot l (Sd.sd l s) = l + Mc.sum (fun i => (i : Int) % Sd.sd l s) l from rfl)
  generalize Sd.tot l (Sd.sd l s) = t at *
  generalize Sd.sd l s = d at *
  go_enter Try.func24, Try.ntmps24
  go_wp2_with (go_at_call 22; refine (HN.out _).mono ?_; rintro e w1 ⟨rfl, rfl⟩)
  go_loop [8, 21] (fun n i => ∃ k : Nat, k ≤ l ∧ i = .int .i64 k ∧ n = .int .i64 (l + Mc.sum (fun i => (i : Int) % d) k)) (fun _ i => l - (intOf i).toNat)
  case atStart => exact ⟨0, by omega, rfl, by simp [Mc.sum]⟩
  case round =>
    obtain ⟨k, hk, rfl, rfl⟩ := hrel
    have hb := HB.out k hk
    by_cases hlt : k < l
    · have hb2 := HB.out (k + 1) hlt
      have hm := Int.emod_nonneg (k : Int) (show d ≠ 0 by omega)
      have hm2 := Int.emod_lt_of_pos (k : Int) (show 0 < d by omega)
      have HS : Hid (Mc.sum (fun i => (i : Int) % d) (k + 1) = Mc.sum (fun i => (i : Int) % d) k + k % d) := rfl
      generalize Mc.sum (fun i => (i : Int) % d) k = s0 at *
      have L5 : (k : Int) < (l : Int) := by omega
      go_wp2_with fail
      go_round
      case rel => exact ⟨k + 1, by omega, by go_num, by rw [HS.out, Int.add_assoc]⟩
      case measure => simp [intOf]; omega
    · obtain rfl : k = l := by omega
      clear hlt
      go_wp2_with fail
      go_ret2
      exact ⟨ret_i2 (HT.out).symm, rfl⟩
theorem rstotal_yes (l : Nat) (s : Int) (w : World) (k1 : l < 65536) (s0 : 1 ≤ s) (s1 : s ≤ 1048576) :
    Calls Try.prog 25 #[.int .i64 l, .int .i64 s] w fun e w' => e = .returned (.tuple #[.int .i64 (Sd.tot l (Sd.sd l s)), .int .i64 0]) ∧ w = w' := by
  have HN := hid (fun W => rstride_yes l s W (by omega) (by omega) s0 s1)
  have hd := Sd.sd_pos (l : Int) s
  have hd2 := Sd.sd_le (k := (l : Int)) (s := s) (by omega) s0
  have HT := hid (Sd.tot_ref (l := l) (d := Sd.sd l s) hd)
  generalize Sd.tot l (Sd.sd l s) = t at *
  generalize Sd.sd l s = d at *
  have hm := Int.emod_nonneg (l : Int) (show d ≠ 0 by omega)
  have hm2 := Int.emod_lt_of_pos (l : Int) (show 0 < d by omega)
  have hq := Int.ediv_nonneg (show 0 ≤ (l : Int) by omega) (show 0 ≤ d by omega)
  have hq2 : (l : Int) / d ≤ 65535 := Int.le_trans (Int.ediv_le_self _ (by omega)) (by omega)
  have hy := Sd.mul_b (show 0 ≤ d by omega) hd2 (show 0 ≤ d - 1 by omega) (show d - 1 ≤ 65535 by omega)
  have hy2 : 0 ≤ d * (d - 1) / 2 ∧ d * (d - 1) / 2 ≤ 2147450880 := by omega
  have hz := Sd.mul_b hq hq2 hy2.1 hy2.2
  have hlo : 0 ≤ (l : Int) % d * ((l : Int) % d - 1) ∧ (l : Int) % d * ((l : Int) % d - 1) ≤ 4294901760 := by
    by_cases e : (l : Int) % d = 0
    · rw [e]; omega
    · have := Sd.mul_b (show 0 ≤ (l : Int) % d by omega) (show (l : Int) % d ≤ 65535 by omega) (show 0 ≤ (l : Int) % d - 1 by omega) (show (l : Int) % d - 1 ≤ 65534 by omega)
      omega
  go_enter Try.func25, Try.ntmps25
  go_wp2_with (go_at_call 23; refine (HN.out _).mono ?_; rintro e w1 ⟨rfl, rfl⟩)
  go_ret2
  exact ⟨ret_i2 (HT.out).symm, rfl⟩
end Go.Proofs.Ytkdamcacmecnaaa
