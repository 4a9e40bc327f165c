/- The walks of ChooseTells and ChooseRows. -/
import Derived.Test.YtnpgiallgcliiaaC9
namespace Go.Proofs.Ytnpgiallgcliiaa
open Go.ChangeShapes Go.WideShapes Go.ChangeAt Go.RowKit
set_option linter.unusedVariables false

set_option maxRecDepth 100000 in
set_option maxHeartbeats 1000000 in
theorem tells6_out (n k : Int) (w : World) (hn0 : -9223372036854775808 ≤ n) (hn1 : n ≤ 9223372036854775807) (hk : k < 0 ∨ 64 < k) :
    Calls Try.prog 11 #[.int .i64 n, .int .i64 k] w fun e w' => e = .returned (.bool true) ∧ KW w w' := by
  have HA := hid (fun W => crow_no k W hk)
  have HB := hid (fun W => rrow_no k W hk)
  have HC := hid (fun W => choose_any n k W hn0 hn1)
  have HD := hid (fun W => rchoose_any n k W hn0 hn1)
  generalize Ch.ch n k = x at *
  have hq := KW.refl w
  clear hk
  go_enter Try.func11, Try.ntmps11
  go_wp2_with (first
    | (go_at_call 41; refine (HA.out _).mono ?_; rintro e w1 ⟨rfl, hb⟩; replace hq := hq.t hb; clear hb)
    | (go_at_call 25; refine (HB.out _).mono ?_; rintro e w1 ⟨rfl, hb⟩; replace hq := hq.t hb; clear hb))
  have HQ := hid hq
  clear hq
  refine wp_loop_rounds 1 ?_
  rw [rounds_succ]
  have hq := HQ.out
  go_wp2_with (first
    | (go_at_call 26; refine (HC.out _).mono ?_; rintro e w1 ⟨rfl, hb⟩; replace hq := hq.t hb; clear hb)
    | (go_at_call 42; refine (HD.out _).mono ?_; rintro e w1 ⟨rfl, hb⟩; replace hq := hq.t hb; clear hb)
    | (go_at_call 27; refine (goes6_any _).mono ?_; rintro e w1 ⟨rfl, hb⟩; replace hq := hq.t hb; clear hb))
  go_ret
  exact ⟨rfl, hq⟩

set_option maxRecDepth 100000 in
set_option maxHeartbeats 1000000 in
theorem tells6_in (n : Int) (k : Nat) (w : World) (hn0 : -9223372036854775808 ≤ n) (hn1 : n ≤ 9223372036854775807) (hk : k ≤ 64) :
    Calls Try.prog 11 #[.int .i64 n, .int .i64 k] w fun e w' => e = .returned (.bool true) ∧ KW w w' := by
  have HA := hid (fun W => crow_yes k W hk)
  have HB := hid (fun W => rrow_yes k W hk)
  have HC := hid (fun W => choose_any n k W hn0 hn1)
  have HD := hid (fun W => rchoose_any n k W hn0 hn1)
  generalize Ch.ch n k = x at *
  go_enter Try.func11, Try.ntmps11
  go_wp2_with fail
  refine (HA.out _).mono ?_
  rintro e w1 ⟨A, c, rfl, ha, hq⟩
  have HRA := hid ha
  have HQ := hid hq
  clear ha hq
  go_wp2_with fail
  refine (HB.out _).mono ?_
  rintro e w2 ⟨A', c', rfl, ha, hq⟩
  have HRB := hid ha
  have HQ2 := hid hq
  clear ha hq
  go_wp2_with fail
  go_loopw [7] (fun i wr => ∃ j : Nat, j ≤ k + 1 ∧ i = .int .i64 j ∧ Hid (KW w2 wr)) (fun i _ => k + 1 - (intOf i).toNat)
  case atStart => exact ⟨0, by omega, rfl, KW.refl w2⟩
  case round =>
    obtain ⟨j, hj, rfl, HK⟩ := hrel
    by_cases hlt : j < k + 1
    · obtain ⟨b, off, rfl, hb, hc⟩ := (HRA.out.k (HQ2.out.t HK.out)).at_ hlt
      obtain ⟨b', off', rfl, hb', hc'⟩ := (HRB.out.k HK.out).at_ hlt
      generalize cr k j = y at *
      have L5 : (j : Int) < (k : Int) + 1 := by omega
      go_wp2_with fail
      have hXS := And.intro hc hc'
      refine wpX_region (S := fun w' => w'.cell? ⟨b, off + j, none⟩ = some (.int .i64 y) ∧ w'.cell? ⟨b', off' + j, none⟩ = some (.int .i64 y)) (L := 99) (by kernel_rfl) ?_
      refine wpX_take (i := 0) (v := ?_) rfl rfl (by kernel_rfl) (fun _ _ _ h => h) (Or.inl ⟨rfl, fun wS hwS => ?_⟩) hXS ?_
      rotate_left
      · go_simp; try rfl
      simp only [List.set_cons_zero, List.set_cons_succ]
      refine wpX_take (i := 1) (v := ?_) rfl rfl (by kernel_rfl) (fun _ _ _ h => h) (Or.inl ⟨rfl, fun wS hwS => ?_⟩) hXS ?_
      rotate_left
      · go_simp; try rfl
      simp only [List.set_cons_zero, List.set_cons_succ]
      refine wpX_take (i := 2) (v := ?_) rfl rfl (by kernel_rfl) (fun _ _ _ h => h) (Or.inl ⟨rfl, fun wS hwS => ?_⟩) hXS ?_
      rotate_left
      · go_simp; try rfl
      simp only [List.set_cons_zero, List.set_cons_succ]
      refine wpX_take (i := 3) (v := ?_) rfl rfl (by kernel_rfl) (fun _ _ _ h => h) (Or.inl ⟨rfl, fun wS hwS => ?_⟩) hXS ?_
      rotate_left
      · go_simp; try rfl
      simp only [List.set_cons_zero, List.set_cons_succ]
      refine wpX_take (i := 4) (v := ?_) rfl rfl (by kernel_rfl) (fun _ _ _ h => h) (Or.inl ⟨rfl, fun wS hwS => ?_⟩) hXS ?_
      rotate_left
      · go_simp; try rfl
      simp only [List.set_cons_zero, List.set_cons_succ]
      refine wpX_take (i := 5) (v := ?_) rfl rfl (by kernel_rfl) (fun _ _ _ h => h) (Or.inl ⟨rfl, fun wS hwS => ?_⟩) hXS ?_
      rotate_left
      · go_simp; try rfl
      simp only [List.set_cons_zero, List.set_cons_succ]
      refine wpX_take (i := 6) (v := ?_) rfl rfl (by kernel_rfl) (fun _ _ _ h => h) (Or.inl ⟨rfl, fun wS hwS => ?_⟩) hXS ?_
      rotate_left
      · go_simp; try rfl
      simp only [List.set_cons_zero, List.set_cons_succ]
      refine wpX_take (i := 7) (v := ?_) rfl rfl (by kernel_rfl) (fun _ _ _ h => h) (Or.inl ⟨rfl, fun wS hwS => ?_⟩) hXS ?_
      rotate_left
      · go_simp; try rfl
      simp only [List.set_cons_zero, List.set_cons_succ]
      refine wpX_take (i := 8) (v := ?_) rfl rfl (by kernel_rfl) (fun _ _ _ h => h) (Or.inl ⟨rfl, fun wS hwS => ?_⟩) hXS ?_
      rotate_left
      · go_simp; try rfl
      simp only [List.set_cons_zero, List.set_cons_succ]
      refine wpX_done (by kernel_rfl) ?_
      go_wp2_with fail
      go_roundw
      case rel => exact ⟨j + 1, by omega, by go_num, HK.out.drew⟩
      case measure => simp [intOf]; omega
    · have D1 : decide ((j : Int) < (k : Int) + 1) = false := by simp; omega
      have D2 : ¬ ((j : Int) ≤ (k : Int)) := by omega
      clear hlt
      have hq := HQ.out.t (HQ2.out.t HK.out)
      go_wp2_with (first
        | (go_at_call 26; refine (HC.out _).mono ?_; rintro e w1 ⟨rfl, hb⟩; replace hq := hq.t hb; clear hb)
        | (go_at_call 42; refine (HD.out _).mono ?_; rintro e w1 ⟨rfl, hb⟩; replace hq := hq.t hb; clear hb)
        | (go_at_call 27; refine (goes6_any _).mono ?_; rintro e w1 ⟨rfl, hb⟩; replace hq := hq.t hb; clear hb))
      go_ret
      exact ⟨rfl, hq⟩
theorem tells6_walk (n k : Int) (w : World) (hn0 : -9223372036854775808 ≤ n) (hn1 : n ≤ 9223372036854775807) (hk0 : -9223372036854775808 ≤ k) (hk1 : k ≤ 9223372036854775807) :
    Calls Try.prog 11 #[.int .i64 n, .int .i64 k] w fun e w' => e = .returned (.bool true) ∧ KW w w' := by
  by_cases h : k < 0 ∨ 64 < k
  · exact tells6_out n k w hn0 hn1 h
  · obtain ⟨q, rfl⟩ : ∃ q : Nat, k = q := ⟨k.toNat, by omega⟩
    exact tells6_in n q w hn0 hn1 (by omega)

set_option maxRecDepth 100000 in
set_option maxHeartbeats 1000000 in
theorem rows6_walk (n : Int) (w : World) (h0 : 0 ≤ n) (h1 : n ≤ 255) :
    Calls Try.prog 6 #[.int .u8 n] w fun e w' => e = .returned (.bool true) ∧ KW w w' := by
  obtain ⟨m, hm⟩ : ∃ m : Nat, n % 65 = m := ⟨(n % 65).toNat, by omega⟩
  have hm1 : m ≤ 64 := by omega
  have HB := hid (fun W => rrow_yes m W hm1)
  have HC := hid (fun W (k : Nat) => choose_any m k W (by omega) (by omega))
  have HD := hid (fun W => choose_any m (m + 1) W (by omega) (by omega))
  have HE := hid (fun W => choose_any m (-1) W (by omega) (by omega))
  rw [Ch.ch_none (by omega)] at HD HE
  have hk := KW.refl w
  go_enter Try.func6, Try.ntmps6
  go_wp2_with fail
  refine (HB.out _).mono ?_
  rintro e w2 ⟨A, c, rfl, ha, hq⟩
  have HR := hid ha
  have HQ := hid hq
  clear ha hq hk
  go_wp2_with fail
  go_loopw [5] (fun i wr => ∃ j : Nat, j ≤ m + 1 ∧ i = .int .i64 j ∧ Hid (KW w2 wr)) (fun i _ => m + 1 - (intOf i).toNat)
  case atStart => exact ⟨0, by omega, rfl, KW.refl w2⟩
  case round =>
    obtain ⟨j, hj, rfl, HK⟩ := hrel
    by_cases hlt : j < m + 1
    · obtain ⟨b, off, rfl, hb0, hc0⟩ := HR.out.at_ hlt
      have hb := Nat.lt_of_lt_of_le hb0 HK.out.size
      have hc := HK.out.cell hb0 hc0
      have HCj := hid (fun W => HC.out W j)
      clear hb0 hc0
      have e0 : Ch.ch (m : Int) (j : Int) = cr m j := rfl
      rw [e0] at HCj
      clear e0
      generalize cr m j = y at *
      have L5 : (j : Int) < (m : Int) + 1 := by omega
      have L6 : (j : Int) ≤ (m : Int) := by omega
      go_wp2_with fail
      have hq := KW.refl wr
      have HC1 := hid hc
      have HB1 := hid hb
      clear hb hc
      have hXS := HC1.out
      refine wpX_region (S := fun w' => w'.cell? ⟨b, off + j, none⟩ = some (.int .i64 y)) (L := 99) (by kernel_rfl) ?_
      refine wpX_take (i := 0) (v := ?_) rfl rfl (by kernel_rfl) (fun _ _ _ h => h) (Or.inl ⟨rfl, fun wS hwS => ?_⟩) hXS ?_
      rotate_left
      · go_simp; try rfl
      simp only [List.set_cons_zero, List.set_cons_succ]
      refine wpX_take (i := 1) (v := ?_) rfl rfl (by kernel_rfl) (fun _ _ _ h => h) (Or.inl ⟨rfl, fun wS hwS => ?_⟩) hXS ?_
      rotate_left
      · go_simp; try rfl
      simp only [List.set_cons_zero, List.set_cons_succ]
      refine wpX_take (i := 3) (v := ?_) rfl rfl (by kernel_rfl) (fun _ _ _ h => h) (Or.inl ⟨rfl, fun wS hwS => ?_⟩) hXS ?_
      rotate_left
      · go_simp; try rfl
      simp only [List.set_cons_zero, List.set_cons_succ]
      refine wpX_take (i := 4) (v := ?_) rfl rfl (by kernel_rfl) (fun _ _ _ h => h) (Or.inl ⟨rfl, fun wS hwS => ?_⟩) hXS ?_
      rotate_left
      · go_simp; try rfl
      simp only [List.set_cons_zero, List.set_cons_succ]
      refine wpX_take (i := 5) (v := ?_) rfl rfl (by kernel_rfl) (fun _ _ _ h => h) (Or.inl ⟨rfl, fun wS hwS => ?_⟩) hXS ?_
      rotate_left
      · go_simp; try rfl
      simp only [List.set_cons_zero, List.set_cons_succ]
      refine wpX_take (i := 6) (v := ?_) rfl rfl (by kernel_rfl) (fun _ _ _ h => h) (Or.inl ⟨rfl, fun wS hwS => ?_⟩) hXS ?_
      rotate_left
      · go_simp; try rfl
      simp only [List.set_cons_zero, List.set_cons_succ]
      refine wpX_hard (k := 2) (by kernel_rfl) rfl (fun K hK => ?_)
      go_simp
      (refine (HCj.out _).mono ?_; rintro e w5 ⟨rfl, hb⟩; have hb := hid hb)
      refine hK _ _ (fun _ => KW.cell hb.out HB1.out HC1.out) ?_
      clear hK K
      try simp only [List.set_cons_zero, List.set_cons_succ]
      have hXS := KW.cell hb.out HB1.out HC1.out
      refine wpX_take (i := 7) (v := ?_) rfl rfl (by kernel_rfl) (fun _ _ _ h => h) (Or.inl ⟨rfl, fun wS hwS => ?_⟩) hXS ?_
      rotate_left
      · go_simp; try rfl
      simp only [List.set_cons_zero, List.set_cons_succ]
      refine wpX_done (by kernel_rfl) ?_
      have HK2 : Hid (KW w2 w5) := HK.out.t ((KW.refl wr).drew.t hb.out)
      clear hXS
      go_wp2_with fail
      go_roundw
      case rel => exact ⟨j + 1, by omega, by go_num, HK2⟩
      case measure => simp [intOf]; omega
    · have D1 : decide (j ≤ m) = false := by simp; omega
      have L7 : IntKind.i64.wrap ((m : Int) + 1) = (m : Int) + 1 := IntWalk.i64_in _ (by omega)
      clear hlt
      have hq := HQ.out.t HK.out
      go_wp2_with fail
      refine (HD.out _).mono ?_
      rintro e w1 ⟨rfl, hb⟩
      replace hq := hq.t hb
      clear hb
      go_wp2_with fail
      refine (HE.out _).mono ?_
      rintro e w1 ⟨rfl, hb⟩
      replace hq := hq.t hb
      clear hb
      go_wp2_with fail
      refine (goes6_any _).mono ?_
      rintro e w1 ⟨rfl, hb⟩
      replace hq := hq.t hb
      clear hb
      go_wp2_with fail
      go_ret
      exact ⟨rfl, hq⟩
end Go.Proofs.Ytnpgiallgcliiaa
