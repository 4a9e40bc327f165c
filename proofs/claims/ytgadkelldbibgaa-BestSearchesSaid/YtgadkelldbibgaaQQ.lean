/- Several texts in one. -/
import Derived.Test.YtgadkelldbibgaaC7
import Derived.Test.YtgadkelldbibgaaPlainR
import Derived.Test.YtgadkelldbibgaaOrd
/- Contracts of reps.slots, longest, Longest, and of the reference's Longest. -/
namespace Go.Proofs.Ytgadkelldbibgaa
open Go.ChangeShapes Go.WideShapes Go.ChangeAt Go.RowKit
set_option linter.unusedVariables false

def mayS (s : Int) : Bool := decide (1 ≤ s ∧ s ≤ 1048576)
theorem slots_yes (s : Int) (w : World) (h0 : 1 ≤ s) (h1 : s ≤ 1048576) : Calls Try.prog 48 #[.int .i64 s] w fun e w' => e = .returned (.bool true) ∧ w = w' := by
  have d0 : decide (1 ≤ s) = true := by simpa using h0
  go_enter Try.func48, Try.ntmps48
  go_wp2
  go_ret
  exact ⟨rfl, rfl⟩
theorem slots_no (s : Int) (w : World) (h : s < 1 ∨ 1048576 < s) : Calls Try.prog 48 #[.int .i64 s] w fun e w' => e = .returned (.bool false) ∧ w = w' := by
  by_cases h0 : s < 1
  · have d0 : decide (1 ≤ s) = false := by simp; omega
    clear h
    go_enter Try.func48, Try.ntmps48
    go_wp2
    go_ret
    exact ⟨rfl, rfl⟩
  · have d0 : decide (1 ≤ s) = true := by simp; omega
    have d1 : ¬ s ≤ 1048576 := by omega
    clear h
    go_enter Try.func48, Try.ntmps48
    go_wp2
    go_ret
    exact ⟨rfl, rfl⟩

theorem ch_most {r s : Int} (hs : 1 ≤ s) (hr : 1099511627776 ≤ r) : Ch.ch (s + r) s = 1099511627776 := by
  have := Ch.ch_ge (n := s + r) (k := s) (by omega) (by omega)
  have := Ch.ch_le (s + r) s
  omega
theorem longest1_any (r s : Int) (w : World) (r0 : 0 ≤ r) (r1 : r ≤ 9223372036854775807) (s0 : 1 ≤ s) (s1 : s ≤ 1048576) :
    Calls Try.prog 51 #[.int .i64 r, .int .i64 s] w fun e w' => e = .returned (.int .i64 (Ch.ch (s + r) s)) ∧ KW w w' := by
  by_cases h : 1099511627776 ≤ r
  · rw [ch_most s0 h]
    go_enter Try.func51, Try.ntmps51
    go_wp2
    go_ret
    exact ⟨rfl, KW.refl w⟩
  · have HC := hid (fun W => choose_any (s + r) s W (by omega) (by omega))
    generalize Ch.ch (s + r) s = v at *
    have hk := KW.refl w
    go_enter Try.func51, Try.ntmps51
    go_wp2_with (go_at_call 59; refine (HC.out _).mono ?_; rintro e w1 ⟨rfl, hb⟩; replace hk := hk.t hb; clear hb)
    go_ret
    exact ⟨rfl, hk⟩

theorem rlongest_yes (r s : Int) (w : World) (r0 : 0 ≤ r) (r1 : r ≤ 9223372036854775807) (s0 : 1 ≤ s) (s1 : s ≤ 1048576) :
    Calls Try.prog 108 #[.int .i64 r, .int .i64 s] w fun e w' => e = .returned (.tuple #[.int .i64 (Ch.ch (s + r) s), .int .i64 0]) ∧ KW w w' := by
  have d0 : decide (r < 0) = false := by simp; omega
  have d1 : decide (s < 1) = false := by simp; omega
  have d2 : decide (1048576 < s) = false := by simp; omega
  by_cases h : 1099511627776 < r
  · rw [ch_most s0 (by omega)]
    go_enter Try.func108, Try.ntmps108
    go_wp2
    go_ret2
    exact ⟨rfl, KW.refl w⟩
  · have e := Ch.ch_other (n := s + r) (k := s) (by omega) (by omega)
    rw [show s + r - s = r from by omega] at e
    rw [← e]
    have HC := hid (fun W => rchoose_any (s + r) r W (by omega) (by omega))
    generalize Ch.ch (s + r) r = v at *
    clear e
    have hk := KW.refl w
    go_enter Try.func108, Try.ntmps108
    go_wp2_with (go_at_call 85; refine (HC.out _).mono ?_; rintro e w1 ⟨rfl, hb⟩; replace hk := hk.t hb; clear hb)
    go_ret2
    exact ⟨rfl, hk⟩
theorem rlongest_no (r s : Int) (w : World) (h : r < 0 ∨ s < 1 ∨ 1048576 < s) :
    Calls Try.prog 108 #[.int .i64 r, .int .i64 s] w fun e w' => e = .returned (.tuple #[.int .i64 0, .int .i64 2]) ∧ KW w w' := by
  by_cases h0 : r < 0
  · clear h
    go_enter Try.func108, Try.ntmps108
    go_wp2
    go_ret2
    exact ⟨rfl, KW.refl w⟩
  · have d0 : decide (r < 0) = false := by simp; omega
    by_cases h1 : s < 1
    · clear h
      go_enter Try.func108, Try.ntmps108
      go_wp2
      go_ret2
      exact ⟨rfl, KW.refl w⟩
    · have d1 : decide (s < 1) = false := by simp; omega
      have h2 : 1048576 < s := by omega
      clear h
      go_enter Try.func108, Try.ntmps108
      go_wp2
      go_ret2
      exact ⟨rfl, KW.refl w⟩
end Go.Proofs.Ytgadkelldbibgaa

/- Contracts of reps.least on the closure of reps.Reps, of reps.Reps, and of the reference's Reps. -/
namespace Go.Proofs.Ytgadkelldbibgaa
open Go.ChangeShapes Go.WideShapes Go.ChangeAt Go.RowKit
set_option linter.unusedVariables false

/-- is a number of times enough? -/
def enB (l s r : Int) : Bool := decide (l ≤ Ch.ch (s + r) s)
set_option maxHeartbeats 1000000 in
theorem enough_any (l s r : Int) (b1 b2 : Nat) (w : World) (r0 : 0 ≤ r) (r1 : r ≤ 9223372036854775807) (s0 : 1 ≤ s) (s1 : s ≤ 1048576)
    (h1 : b1 < w.heap.size) (h2 : b2 < w.heap.size) (c1 : w.cell? ⟨b1, 0, none⟩ = some (.int .i64 l)) (c2 : w.cell? ⟨b2, 0, none⟩ = some (.int .i64 s)) :
    Calls Try.prog 50 #[.int .i64 r, .pointer (some ⟨b1, 0, none⟩), .pointer (some ⟨b2, 0, none⟩)] w fun e w' => e = .returned (.bool (enB l s r)) ∧ KW w w' := by
  have HC := hid (fun W => longest1_any r s W r0 r1 s0 s1)
  have HE := hid (show enB l s r = decide (l ≤ Ch.ch (s + r) s) from rfl)
  generalize Ch.ch (s + r) s = v at *
  generalize enB l s r = en at *
  go_enter Try.func50, Try.ntmps50
  go_wp2_with fail
  have hq := KW.refl w
  have hXS := And.intro (hq.cell h1 c1) (hq.cell h2 c2)
  refine wpX_region (S := fun w' => w'.cell? ⟨b1, 0, none⟩ = some (.int .i64 l) ∧ w'.cell? ⟨b2, 0, none⟩ = some (.int .i64 s)) (L := 99) (by kernel_rfl) ?_
  refine wpX_take (i := 0) (v := ?_) rfl rfl (by kernel_rfl) (fun _ _ _ h => h) (Or.inl ⟨rfl, fun wS hwS => ?_⟩) hXS ?_
  rotate_left
  · go_simp; try rfl
  simp only [List.set_cons_zero, List.set_cons_succ]
  refine wpX_take (i := 1) (v := ?_) rfl rfl (by kernel_rfl) (fun _ _ _ h => h) (Or.inl ⟨rfl, fun wS hwS => ?_⟩) hXS ?_
  rotate_left
  · go_simp; try rfl
  simp only [List.set_cons_zero, List.set_cons_succ]
  refine wpX_take (i := 2) (v := ?_) rfl rfl (by kernel_rfl) (fun _ _ _ h => h) (Or.inl ⟨rfl, fun wS hwS => ?_⟩) hXS ?_
  rotate_left
  · go_simp; try rfl
  simp only [List.set_cons_zero, List.set_cons_succ]
  refine wpX_hard (k := 3) (by kernel_rfl) rfl (fun K hK => ?_)
  go_simp
  (refine (HC.out _).mono ?_; rintro e w1 ⟨rfl, hb⟩; (try replace hb := KW.t ((KW.refl w).drew) hb); replace hq := hb)
  refine hK _ _ (fun _ => ⟨hq.cell h1 c1, hq.cell h2 c2⟩) ?_
  clear hK K
  try simp only [List.set_cons_zero, List.set_cons_succ]
  replace hXS := And.intro (hq.cell h1 c1) (hq.cell h2 c2)
  refine wpX_take (i := 4) (v := ?_) rfl rfl (by kernel_rfl) (fun _ _ _ h => h) (Or.inl ⟨rfl, fun wS hwS => ?_⟩) hXS ?_
  rotate_left
  · go_simp; try rfl
  simp only [List.set_cons_zero, List.set_cons_succ]
  refine wpX_take (i := 5) (v := ?_) rfl rfl (by kernel_rfl) (fun _ _ _ h => h) (Or.inl ⟨rfl, fun wS hwS => ?_⟩) hXS ?_
  rotate_left
  · go_simp; try rfl
  simp only [List.set_cons_zero, List.set_cons_succ]
  refine wpX_done (by kernel_rfl) ?_
  go_wp2
  go_ret
  exact ⟨ret_bool HE.out.symm, hq⟩

set_option maxHeartbeats 1000000 in
theorem least_any (l s : Nat) (b1 b2 : Nat) (w : World) (hl : l ≤ 65535) (s0 : 1 ≤ s) (s1 : s ≤ 1048576)
    (h1 : b1 < w.heap.size) (h2 : b2 < w.heap.size) (c1 : w.cell? ⟨b1, 0, none⟩ = some (.int .i64 l)) (c2 : w.cell? ⟨b2, 0, none⟩ = some (.int .i64 s)) :
    Calls Try.prog 49 #[.int .i64 l, .func (.func 50) #[] #[.pointer (some ⟨b1, 0, none⟩), .pointer (some ⟨b2, 0, none⟩)]] w fun e w' => e = .returned (.int .i64 (Ch.rp l s)) ∧ KW w w' := by
  have HC := hid (And.intro c1 c2)
  have hen : ∀ r : Nat, enB l s r = decide (l ≤ Ch.be s r) := fun r => by
    unfold enB
    rw [Ch.ch_be]
    by_cases h : l ≤ Ch.be s r
    · rw [decide_eq_true h]; simp; omega
    · rw [decide_eq_false h]; simp; omega
  have HEN := hid hen
  clear c1 c2 hen
  go_enter Try.func49, Try.ntmps49
  go_wp2
  go_loopw [5, 6, 7] (fun lo hi _ wr => ∃ a b : Nat, a ≤ b ∧ b ≤ l ∧ lo = .int .i64 a ∧ hi = .int .i64 b ∧ Hid (∀ j, j < a → Ch.be s j < l) ∧ Hid (l ≤ Ch.be s b) ∧ Hid (KW w wr)) (fun lo hi _ _ => (intOf hi).toNat - (intOf lo).toNat)
  case atStart => exact ⟨0, l, by omega, by omega, rfl, rfl, fun j h => by omega, by have := Ch.be_ge s l s0; show l ≤ _; omega, KW.refl w⟩
  case round =>
    obtain ⟨a, b, hab, hbl, rfl, rfl, HA, HB, HK⟩ := hrel
    by_cases hlt : a < b
    · have hE := HEN.out ((a + b) / 2)
      have L1 : ((a : Int) + (b : Int)) / 2 = (((a + b) / 2 : Nat) : Int) := by omega
      have hm1 : a ≤ (a + b) / 2 := by omega
      have hm2 : (a + b) / 2 < b := by omega
      generalize (a + b) / 2 = m at *
      by_cases hm : l ≤ Ch.be s m
      · rw [decide_eq_true hm] at hE
        have HE := hid hE
        have HM := hid hm
        clear hE hm
        go_wp2_with fail
        refine (enough_any l s m b1 b2 _ (by omega) (by omega) (by omega) (by omega) (by have := HK.out.size; omega) (by have := HK.out.size; omega) (HK.out.cell h1 HC.out.1) (HK.out.cell h2 HC.out.2)).mono ?_
        rw [HE.out]
        rintro e w1 ⟨rfl, hb⟩
        have HK1 := hid (HK.out.t hb)
        clear hb
        go_wp2_with fail
        go_roundw
        case rel => exact ⟨a, m, by omega, by omega, rfl, by first | rfl | rw [L1], HA, HM, HK1⟩
        case measure => simp [intOf]; omega
      · rw [decide_eq_false hm] at hE
        have HE := hid hE
        have HM : Hid (Ch.be s m < l) := by show _ < _; omega
        clear hE hm
        go_wp2_with fail
        refine (enough_any l s m b1 b2 _ (by omega) (by omega) (by omega) (by omega) (by have := HK.out.size; omega) (by have := HK.out.size; omega) (HK.out.cell h1 HC.out.1) (HK.out.cell h2 HC.out.2)).mono ?_
        rw [HE.out]
        rintro e w1 ⟨rfl, hb⟩
        have HK1 := hid (HK.out.t hb)
        clear hb
        go_wp2_with fail
        go_roundw
        case rel => exact ⟨m + 1, b, by omega, by omega, by first | go_num | (rw [L1]; go_num), rfl, fun j hj => by
            have := Ch.be_le (s := s) (r := j) (q := m) (by omega)
            have := HM.out
            omega, HB, HK1⟩
        case measure => simp [intOf]; omega
    · obtain rfl : a = b := by omega
      have HR := hid (Ch.rp_is s0 HB.out HA.out)
      go_wp2
      go_ret
      exact ⟨ret_int (by rw [HR.out]), HK.out⟩

set_option maxHeartbeats 1000000 in
theorem reps_yes (l s : Nat) (w : World) (hl : l ≤ 65535) (s0 : 1 ≤ s) (s1 : s ≤ 1048576) :
    Calls Try.prog 21 #[.int .i64 l, .int .i64 s] w fun e w' => e = .returned (.tuple #[.int .i64 (Ch.rp l s), .int .i64 0]) ∧ KW w w' := by
  have d0 : decide ((l : Int) < 0) = false := by simp
  have d1 : decide ((65536 : Int) ≤ (l : Int)) = false := by simp; omega
  have hk := KW.refl w
  go_enter Try.func21, Try.ntmps21
  go_wp2_with (first
    | (go_at_call 48; refine (slots_yes _ _ (by omega) (by omega)).mono ?_; rintro e w1 ⟨rfl, rfl⟩))
  refine (least_any l s w.heap.size (w.heap.size + 1) _ hl s0 s1 (by simp; omega) (by simp) (by go_simp) (by go_simp)).mono ?_
  rintro e w1 ⟨rfl, hb⟩
  replace hk := ((hk.alloc _).alloc _).t hb
  clear hb
  go_wp2_with fail
  go_ret2
  exact ⟨rfl, hk⟩
theorem reps_no (l s : Int) (w : World) (h : l < 0 ∨ 65535 < l ∨ s < 1 ∨ 1048576 < s) :
    Calls Try.prog 21 #[.int .i64 l, .int .i64 s] w fun e w' => e = .returned (.tuple #[.int .i64 0, .int .i64 2]) ∧ KW w w' := by
  have hk := KW.refl w
  by_cases h0 : l < 0
  · clear h
    go_enter Try.func21, Try.ntmps21
    go_wp2
    go_ret2
    exact ⟨rfl, (hk.alloc _).alloc _⟩
  · have d0 : decide (l < 0) = false := by simp; omega
    by_cases h1 : 65536 ≤ l
    · clear h
      go_enter Try.func21, Try.ntmps21
      go_wp2
      go_ret2
      exact ⟨rfl, (hk.alloc _).alloc _⟩
    · have d1 : decide (65536 ≤ l) = false := by simp; omega
      have HS := hid (fun W => slots_no s W (by omega))
      clear h
      go_enter Try.func21, Try.ntmps21
      go_wp2_with (go_at_call 48; refine (HS.out _).mono ?_; rintro e w1 ⟨rfl, rfl⟩)
      go_ret2
      exact ⟨rfl, (hk.alloc _).alloc _⟩

set_option maxHeartbeats 1000000 in
theorem rreps_yes (l s : Nat) (w : World) (hl : l ≤ 65535) (s0 : 1 ≤ s) (s1 : s ≤ 1048576) :
    Calls Try.prog 84 #[.int .i64 l, .int .i64 s] w fun e w' => e = .returned (.tuple #[.int .i64 (Ch.rp l s), .int .i64 0]) ∧ KW w w' := by
  have d0 : decide ((l : Int) < 0) = false := by simp
  have d1 : decide ((65536 : Int) ≤ (l : Int)) = false := by simp; omega
  have d2 : decide ((s : Int) < 1) = false := by simp; omega
  have d3 : decide ((1048576 : Int) < (s : Int)) = false := by simp; omega
  by_cases h1 : s = 1
  · subst h1
    rw [Ch.rp_one_max]
    by_cases hl0 : l = 0
    · subst hl0
      go_enter Try.func84, Try.ntmps84
      go_wp2
      go_ret2
      exact ⟨rfl, KW.refl w⟩
    · have hl1 : 1 ≤ l := by omega
      have L1 : ((l - 1 : Nat) : Int) = (l : Int) - 1 := by omega
      rw [L1]
      clear L1 hl0
      go_enter Try.func84, Try.ntmps84
      go_wp2
      all_goals
        go_ret2
        exact ⟨by first | rfl | (congr 4; omega), KW.refl w⟩
  · have hs1 : ((s : Int) == 1) = false := by simp; omega
    clear h1
    have hq0 := Ch.rp_le l s s0
    go_enter Try.func84, Try.ntmps84
    go_wp2
    go_loopw [6, 7, 8] (fun r _ _ wr => ∃ a : Nat, a ≤ Ch.rp l s ∧ r = .int .i64 a ∧ Hid (KW w wr)) (fun r _ _ _ => Ch.rp l s + 1 - (intOf r).toNat)
    case atStart => exact ⟨0, by omega, rfl, KW.refl w⟩
    case round =>
      obtain ⟨a, ha, rfl, HK⟩ := hrel
      have HL := hid (fun W => rlongest_yes a s W (by omega) (by omega) (by omega) (by omega))
      by_cases hlt : a < Ch.rp l s
      · have hv : Ch.ch ((s : Int) + a) s < l := by
          rw [Ch.ch_be]; have := Ch.rp_less l s s0 hlt; omega
        generalize Ch.ch ((s : Int) + a) s = v at *
        go_wp2_with fail
        refine (HL.out _).mono ?_
        rintro e w1 ⟨rfl, hb⟩
        have HK1 := hid (HK.out.t hb)
        clear hb
        go_wp2_with fail
        go_roundw
        case rel => exact ⟨a + 1, by omega, by go_num, HK1⟩
        case measure => simp [intOf]; omega
      · have he : a = Ch.rp l s := by omega
        have hv : (l : Int) ≤ Ch.ch ((s : Int) + a) s := by
          rw [Ch.ch_be, he]; have := Ch.rp_enough l s s0; omega
        have HE := hid he
        generalize Ch.ch ((s : Int) + a) s = v at *
        clear he
        go_wp2_with fail
        refine (HL.out _).mono ?_
        rintro e w1 ⟨rfl, hb⟩
        have HK1 := hid (HK.out.t hb)
        clear hb
        go_wp2_with fail
        go_ret2
        rw [← HE.out]
        exact ⟨rfl, HK1.out⟩
theorem rreps_no (l s : Int) (w : World) (h : l < 0 ∨ 65535 < l ∨ s < 1 ∨ 1048576 < s) :
    Calls Try.prog 84 #[.int .i64 l, .int .i64 s] w fun e w' => e = .returned (.tuple #[.int .i64 0, .int .i64 2]) ∧ KW w w' := by
  have hk := KW.refl w
  by_cases h0 : l < 0
  · clear h
    go_enter Try.func84, Try.ntmps84
    go_wp2
    go_ret2
    exact ⟨rfl, hk⟩
  · have d0 : decide (l < 0) = false := by simp; omega
    by_cases h1 : 65536 ≤ l
    · clear h
      go_enter Try.func84, Try.ntmps84
      go_wp2
      go_ret2
      exact ⟨rfl, hk⟩
    · have d1 : decide (65536 ≤ l) = false := by simp; omega
      by_cases h2 : s < 1
      · clear h
        go_enter Try.func84, Try.ntmps84
        go_wp2
        go_ret2
        exact ⟨rfl, hk⟩
      · have d2 : decide (s < 1) = false := by simp; omega
        have h3 : 1048576 < s := by omega
        clear h
        go_enter Try.func84, Try.ntmps84
        go_wp2
        go_ret2
        exact ⟨rfl, hk⟩
end Go.Proofs.Ytgadkelldbibgaa

/- Contracts of reps.Total, greatest, Split, of the reference's Total, Split; the example of the page. -/
namespace Go.Proofs.Ytgadkelldbibgaa
open Go.ChangeShapes Go.WideShapes Go.ChangeAt Go.RowKit
set_option linter.unusedVariables false

theorem ret_pair {a b c : Int} (h : a = b) : Ending.returned (.tuple #[.int .i64 a, .int .i64 c]) = .returned (.tuple #[.int .i64 b, .int .i64 c]) := by rw [h]
theorem tot_is (l s : Nat) (hl : l ≤ 65535) (hs : 1 ≤ s) : ((Ch.rp l s : Nat) : Int) * (l : Int) - Ch.ch ((s : Int) + (Ch.rp l s : Nat)) ((s : Int) + 1) = Ch.tt l s := by
  have h1 := Ch.sum_le l s hs
  have h2 := Ch.rp_le l s hs
  have h3 : ((Ch.rp l s : Nat) : Int) * (l : Int) ≤ 65535 * 65535 := Int.mul_le_mul (by omega) (by omega) (by omega) (by omega)
  unfold Ch.tt Ch.gt
  generalize Ch.rp l s = r at *
  cases r with
  | zero =>
    rw [Ch.ch_none (by omega), Ch.sum_zero]; rfl
  | succ r =>
    rw [Ch.ch_at (by omega) (by omega), show ((s : Int) + (r + 1 : Nat)).toNat = s + (r + 1) from by omega, show ((s : Int) + 1).toNat = s + 1 from by omega]
    omega

set_option maxHeartbeats 1000000 in
theorem total_yes (l s : Nat) (w : World) (hl : l ≤ 65535) (s0 : 1 ≤ s) (s1 : s ≤ 1048576) :
    Calls Try.prog 29 #[.int .i64 l, .int .i64 s] w fun e w' => e = .returned (.tuple #[.int .i64 (Ch.tt l s), .int .i64 0]) ∧ KW w w' := by
  have HR := hid (fun W => reps_yes l s W hl s0 s1)
  have hq := Ch.rp_le l s s0
  have HC := hid (fun W => choose_any ((s : Int) + (Ch.rp l s : Nat)) ((s : Int) + 1) W (by omega) (by omega))
  rw [← tot_is l s hl s0]
  have p0 : 0 ≤ ((Ch.rp l s : Nat) : Int) * (l : Int) := Int.mul_nonneg (by omega) (by omega)
  have p1 : ((Ch.rp l s : Nat) : Int) * (l : Int) ≤ 65535 * 65535 := Int.mul_le_mul (by omega) (by omega) (by omega) (by omega)
  have c0 := Ch.ch_nn ((s : Int) + (Ch.rp l s : Nat)) ((s : Int) + 1)
  have c1 := Ch.ch_le ((s : Int) + (Ch.rp l s : Nat)) ((s : Int) + 1)
  generalize Ch.ch ((s : Int) + (Ch.rp l s : Nat)) ((s : Int) + 1) = c at *
  have r0 : 0 ≤ ((Ch.rp l s : Nat) : Int) := by omega
  have r1 : ((Ch.rp l s : Nat) : Int) ≤ 65535 := by omega
  clear hq
  generalize ((Ch.rp l s : Nat) : Int) = r at *
  generalize hp : r * (l : Int) = p at *
  have hk := KW.refl w
  go_enter Try.func29, Try.ntmps29
  go_wp2_with (first
    | (go_at_call 21; refine (HR.out _).mono ?_; rintro e w1 ⟨rfl, hb⟩; replace hk := hk.t hb; clear hb)
    | (go_at_call 59; refine (HC.out _).mono ?_; rintro e w1 ⟨rfl, hb⟩; replace hk := hk.t hb; clear hb))
  go_ret2
  exact ⟨rfl, hk⟩
theorem total_no (l s : Int) (w : World) (h : l < 0 ∨ 65535 < l ∨ s < 1 ∨ 1048576 < s) :
    Calls Try.prog 29 #[.int .i64 l, .int .i64 s] w fun e w' => e = .returned (.tuple #[.int .i64 0, .int .i64 2]) ∧ KW w w' := by
  have HR := hid (fun W => reps_no l s W h)
  clear h
  have hk := KW.refl w
  go_enter Try.func29, Try.ntmps29
  go_wp2_with (first
    | (go_at_call 21; refine (HR.out _).mono ?_; rintro e w1 ⟨rfl, hb⟩; replace hk := hk.t hb; clear hb))
  go_ret2
  exact ⟨rfl, hk⟩
/-- the greatest of so many -/
def mx (f : Nat → Int) : Nat → Int
  | 0 => f 0
  | k + 1 => max (mx f k) (f k)
set_option maxHeartbeats 1000000 in
theorem greatest_any (A : Option Addr) (n c : Nat) (f : Nat → Int) (w : World) (hn : n ≤ 9223372036854775807) (hn0 : 0 < n) (hr : Row1 w A n fun k => .int .i64 (f k)) :
    Calls Try.prog 118 #[.slice A n c] w fun e w' => e = .returned (.int .i64 (mx f n)) ∧ w = w' := by
  have HR := hid hr
  clear hr
  obtain ⟨b, off, rfl, hb, hc⟩ := HR.out.at_ hn0
  simp only [Nat.add_zero] at hc
  go_enter Try.func118, Try.ntmps118
  go_wp2
  go_loop [3, 5, 11] (fun s _ i => ∃ k : Nat, k ≤ n ∧ i = .int .i64 k ∧ s = .int .i64 (mx f k)) (fun _ _ i => n - (intOf i).toNat)
  case atStart => exact ⟨0, by omega, rfl, rfl⟩
  case round =>
    obtain ⟨k, hk, rfl, rfl⟩ := hrel
    by_cases hlt : k < n
    · obtain ⟨b', off', hA, hb', hc'⟩ := HR.out.at_ hlt
      cases hA
      have Hst := hid (show mx f (k + 1) = max (mx f k) (f k) from rfl)
      generalize mx f k = s at *
      generalize f k = x at *
      by_cases hsx : x ≤ s
      · have HM := hid (Int.max_eq_left hsx)
        go_wp2
        all_goals
          go_round
          case rel => exact ⟨k + 1, by omega, by go_num, by rw [Hst.out, HM.out]⟩
          case measure => simp [intOf]; omega
      · have HM := hid (Int.max_eq_right (show s ≤ x by omega))
        go_wp2
        all_goals
          go_round
          case rel => exact ⟨k + 1, by omega, by go_num, by rw [Hst.out, HM.out]⟩
          case measure => simp [intOf]; omega
    · obtain rfl : k = n := by omega
      go_wp2
      go_ret
      exact ⟨rfl, rfl⟩
theorem row1_ints (w : World) (t : TypeId) (l : List Int) : Row1 (w.alloc (.cells (l.map (Value.int .i64)).toArray t)) (some ⟨w.heap.size, 0, none⟩) l.length fun k => .int .i64 (l.getD k 0) := by
  have h := row1_new w t (l.map (Value.int .i64))
  rw [List.length_map] at h
  refine h.cong fun k hk => ?_
  simp [hk]
theorem greatest3 (w : World) (t : TypeId) (a b c : Int) :
    Calls Try.prog 118 #[.slice (some ⟨w.heap.size, 0, none⟩) 3 3] (w.alloc (.cells #[.int .i64 a, .int .i64 b, .int .i64 c] t)) fun e w' => e = .returned (.int .i64 (max a (max b c))) ∧ KW w w' := by
  have h := pure_kw (greatest_any (some ⟨w.heap.size, 0, none⟩) 3 3 (fun k => [a, b, c].getD k 0) _ (by omega) (by omega) (row1_ints w t [a, b, c]))
  have e : mx (fun k => [a, b, c].getD k 0) 3 = max a (max b c) := by simp only [mx]; show max (max (max a a) b) c = max a (max b c); omega
  rwa [e] at h

set_option maxHeartbeats 1000000 in
theorem split_yes (n c : Nat) (w : World) (hn0 : 2 ≤ n) (hn : n ≤ 65535) (s0 : 1 ≤ c) (s1 : c ≤ 1048576) :
    Calls Try.prog 107 #[.int .i64 n, .int .i64 c] w fun e w' => e = .returned (.tuple #[.int .i64 (Ch.sp n c), .int .i64 0]) ∧ KW w w' := by
  have d0 : ¬ (n : Int) < 2 := by omega
  have HR := hid (fun W => reps_yes n c W hn s0 s1)
  have hq := Ch.rp_le n c s0
  have HX := hid (fun W => choose_any ((c : Int) + (Ch.rp n c : Nat) - 2) (c : Int) W (by omega) (by omega))
  have HY := hid (fun W => choose_any ((c : Int) + (Ch.rp n c : Nat) - 1) ((c : Int) - 1) W (by omega) (by omega))
  have x0 := Ch.ch_nn ((c : Int) + (Ch.rp n c : Nat) - 2) (c : Int)
  have x1 := Ch.ch_le ((c : Int) + (Ch.rp n c : Nat) - 2) (c : Int)
  have y0 := Ch.ch_nn ((c : Int) + (Ch.rp n c : Nat) - 1) ((c : Int) - 1)
  have y1 := Ch.ch_le ((c : Int) + (Ch.rp n c : Nat) - 1) ((c : Int) - 1)
  have HG := hid (fun W t => greatest3 W t 1 (Ch.ch ((c : Int) + (Ch.rp n c : Nat) - 2) (c : Int)) ((n : Int) - Ch.ch ((c : Int) + (Ch.rp n c : Nat) - 1) ((c : Int) - 1)))
  have HS := hid (show Ch.sp n c = max 1 (max (Ch.ch ((c : Int) + (Ch.rp n c : Nat) - 2) (c : Int)) ((n : Int) - Ch.ch ((c : Int) + (Ch.rp n c : Nat) - 1) ((c : Int) - 1))) from rfl)
  rw [← HS.out] at HG
  clear HS
  generalize Ch.sp n c = sv at *
  generalize Ch.ch ((c : Int) + (Ch.rp n c : Nat) - 2) (c : Int) = x at *
  generalize Ch.ch ((c : Int) + (Ch.rp n c : Nat) - 1) ((c : Int) - 1) = y at *
  have r0 : 0 ≤ ((Ch.rp n c : Nat) : Int) := by omega
  have r1 : ((Ch.rp n c : Nat) : Int) ≤ 65535 := by omega
  clear hq
  generalize ((Ch.rp n c : Nat) : Int) = r at *
  have hk := KW.refl w
  go_enter Try.func107, Try.ntmps107
  go_wp2_with (go_at_call 21; refine (HR.out _).mono ?_; rintro e w1 ⟨rfl, hb⟩; replace hk := hk.t hb; clear hb)
  refine (HX.out _).mono ?_
  rintro e w1 ⟨rfl, hb⟩
  replace hk := hk.t hb
  clear hb
  go_wp2_with fail
  refine (HY.out _).mono ?_
  rintro e w1 ⟨rfl, hb⟩
  replace hk := hk.t hb
  clear hb
  go_wp2_with fail
  refine (HG.out _ _).mono ?_
  rintro e w1 ⟨rfl, hb⟩
  replace hk := hk.t hb
  clear hb
  go_wp2_with fail
  go_ret2
  exact ⟨rfl, hk⟩
theorem split_no (l s : Int) (w : World) (h : l < 2 ∨ 65535 < l ∨ s < 1 ∨ 1048576 < s) :
    Calls Try.prog 107 #[.int .i64 l, .int .i64 s] w fun e w' => e = .returned (.tuple #[.int .i64 0, .int .i64 2]) ∧ KW w w' := by
  have hk := KW.refl w
  by_cases h2 : l < 2
  · clear h
    go_enter Try.func107, Try.ntmps107
    go_wp2
    go_ret2
    exact ⟨rfl, hk⟩
  · have HR := hid (fun W => reps_no l s W (by omega))
    clear h
    go_enter Try.func107, Try.ntmps107
    go_wp2_with (first
      | (go_at_call 21; refine (HR.out _).mono ?_; rintro e w1 ⟨rfl, hb⟩; replace hk := hk.t hb; clear hb))
    go_ret2
    exact ⟨rfl, hk⟩
set_option maxHeartbeats 1000000 in
theorem rsplit_yes (n c : Nat) (w : World) (hn0 : 2 ≤ n) (hn : n ≤ 65535) (s0 : 1 ≤ c) (s1 : c ≤ 1048576) :
    Calls Try.prog 43 #[.int .i64 n, .int .i64 c] w fun e w' => e = .returned (.tuple #[.int .i64 (Ch.sp n c), .int .i64 0]) ∧ KW w w' := by
  have d0 : ¬ (n : Int) < 2 := by omega
  have HR := hid (fun W => rreps_yes n c W hn s0 s1)
  have hq := Ch.rp_le n c s0
  have HX := hid (fun W => rchoose_any ((c : Int) + (Ch.rp n c : Nat) - 2) (c : Int) W (by omega) (by omega))
  have HY := hid (fun W => rchoose_any ((c : Int) + (Ch.rp n c : Nat) - 1) ((c : Int) - 1) W (by omega) (by omega))
  have x0 := Ch.ch_nn ((c : Int) + (Ch.rp n c : Nat) - 2) (c : Int)
  have x1 := Ch.ch_le ((c : Int) + (Ch.rp n c : Nat) - 2) (c : Int)
  have y0 := Ch.ch_nn ((c : Int) + (Ch.rp n c : Nat) - 1) ((c : Int) - 1)
  have y1 := Ch.ch_le ((c : Int) + (Ch.rp n c : Nat) - 1) ((c : Int) - 1)
  have HS := hid (show Ch.sp n c = max 1 (max (Ch.ch ((c : Int) + (Ch.rp n c : Nat) - 2) (c : Int)) ((n : Int) - Ch.ch ((c : Int) + (Ch.rp n c : Nat) - 1) ((c : Int) - 1))) from rfl)
  generalize Ch.sp n c = sv at *
  generalize Ch.ch ((c : Int) + (Ch.rp n c : Nat) - 2) (c : Int) = x at *
  generalize Ch.ch ((c : Int) + (Ch.rp n c : Nat) - 1) ((c : Int) - 1) = y at *
  have r0 : 0 ≤ ((Ch.rp n c : Nat) : Int) := by omega
  have r1 : ((Ch.rp n c : Nat) : Int) ≤ 65535 := by omega
  clear hq
  generalize ((Ch.rp n c : Nat) : Int) = r at *
  have hk := KW.refl w
  have hcmp : x < (n : Int) - y ∨ ¬ x < (n : Int) - y := by omega
  rcases hcmp with hxy | hxy
  all_goals
    go_enter Try.func43, Try.ntmps43
    go_wp2_with (go_at_call 84; refine (HR.out _).mono ?_; rintro e w1 ⟨rfl, hb⟩; replace hk := hk.t hb; clear hb)
    refine (HX.out _).mono ?_
    rintro e w1 ⟨rfl, hb⟩
    replace hk := hk.t hb
    clear hb
    go_wp2_with fail
    refine (HY.out _).mono ?_
    rintro e w1 ⟨rfl, hb⟩
    replace hk := hk.t hb
    clear hb
    go_wp2_with fail
    all_goals
      go_ret2
      exact ⟨ret_pair (by rw [HS.out]; omega), hk⟩
theorem rsplit_no (l s : Int) (w : World) (h : l < 2 ∨ 65535 < l ∨ s < 1 ∨ 1048576 < s) :
    Calls Try.prog 43 #[.int .i64 l, .int .i64 s] w fun e w' => e = .returned (.tuple #[.int .i64 0, .int .i64 2]) ∧ KW w w' := by
  have hk := KW.refl w
  by_cases h2 : l < 2
  · clear h
    go_enter Try.func43, Try.ntmps43
    go_wp2
    go_ret2
    exact ⟨rfl, hk⟩
  · have HR := hid (fun W => rreps_no l s W (by omega))
    clear h
    go_enter Try.func43, Try.ntmps43
    go_wp2_with (first
      | (go_at_call 84; refine (HR.out _).mono ?_; rintro e w1 ⟨rfl, hb⟩; replace hk := hk.t hb; clear hb))
    go_ret2
    exact ⟨rfl, hk⟩

end Go.Proofs.Ytgadkelldbibgaa
