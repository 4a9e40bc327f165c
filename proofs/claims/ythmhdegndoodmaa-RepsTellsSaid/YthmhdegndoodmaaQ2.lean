/- Contracts of reps.least on the closure of reps.Reps, of reps.Reps, and of the reference's Reps. -/
import Derived.Test.YthmhdegndoodmaaQ1
import Derived.Test.YthmhdegndoodmaaOrd
namespace Go.Proofs.Ythmhdegndoodmaa
open Go.ChangeShapes Go.WideShapes Go.ChangeAt Go.RowKit
set_option linter.unusedVariables false

/-- is a number of times enough? -/
def enB (l s r : Int) : Bool := decide (l ≤ Ch.ch (s + r) s)
set_option maxHeartbeats 1000000 in
theorem enough_any (l s r : Int) (b1 b2 : Nat) (w : World) (r0 : 0 ≤ r) (r1 : r ≤ 9223372036854775807) (s0 : 1 ≤ s) (s1 : s ≤ 1048576)
    (h1 : b1 < w.heap.size) (h2 : b2 < w.heap.size) (c1 : w.cell? ⟨b1, 0, none⟩ = some (.int .i64 l)) (c2 : w.cell? ⟨b2, 0, none⟩ = some (.int .i64 s)) :
    Calls Try.prog 38 #[.int .i64 r, .pointer (some ⟨b1, 0, none⟩), .pointer (some ⟨b2, 0, none⟩)] w fun e w' => e = .returned (.bool (enB l s r)) ∧ KW w w' := by
  have HC := hid (fun W => longest1_any r s W r0 r1 s0 s1)
  have HE := hid (show enB l s r = decide (l ≤ Ch.ch (s + r) s) from rfl)
  generalize Ch.ch (s + r) s = v at *
  generalize enB l s r = en at *
  go_enter Try.func38, Try.ntmps38
  go_wp2_with fail
  have hq := KW.refl w
  have hXS := And.intro (hq.cell h1 c1) (hq.cell h2 c2)
  refine wpX_region (S := fun w' => w'.cell? ⟨b1, 0, none⟩ = some (.int .i64 l) ∧ w'.cell? ⟨b2, 0, none⟩ = some (.int .i64 s)) (L := 99) (by kernel_rfl) ?_
  refine wpX_take (i := 0) (v := ?_) rfl rfl (by kernel_rfl) (fun _ _ _ h => h) (Or.inl ⟨rfl, fun wS hwS => ?_⟩) hXS ?_
  rotate_left
  · go_simp; try rfl
  simp only [List.set_cons_zero, List.set_cons_succ]
  refine wpX_take (i := 1) (v := ?_) rfl rfl (by kernel_rfl) (fun _ _ _ h => h) (Or.inl ⟨rfl, fun wS hwS => ?_⟩) hXS ?_
  rotate_left
  · go_simp; try rfl
  simp only [List.set_cons_zero, List.set_cons_succ]
  refine wpX_take (i := 2) (v := ?_) rfl rfl (by kernel_rfl) (fun _ _ _ h => h) (Or.inl ⟨rfl, fun wS hwS => ?_⟩) hXS ?_
  rotate_left
  · go_simp; try rfl
  simp only [List.set_cons_zero, List.set_cons_succ]
  refine wpX_hard (k := 3) (by kernel_rfl) rfl (fun K hK => ?_)
  go_simp
  (refine (HC.out _).mono ?_; rintro e w1 ⟨rfl, hb⟩; (try replace hb := KW.t ((KW.refl w).drew) hb); replace hq := hb)
  refine hK _ _ (fun _ => ⟨hq.cell h1 c1, hq.cell h2 c2⟩) ?_
  clear hK K
  try simp only [List.set_cons_zero, List.set_cons_succ]
  replace hXS := And.intro (hq.cell h1 c1) (hq.cell h2 c2)
  refine wpX_take (i := 4) (v := ?_) rfl rfl (by kernel_rfl) (fun _ _ _ h => h) (Or.inl ⟨rfl, fun wS hwS => ?_⟩) hXS ?_
  rotate_left
  · go_simp; try rfl
  simp only [List.set_cons_zero, List.set_cons_succ]
  refine wpX_take (i := 5) (v := ?_) rfl rfl (by kernel_rfl) (fun _ _ _ h => h) (Or.inl ⟨rfl, fun wS hwS => ?_⟩) hXS ?_
  rotate_left
  · go_simp; try rfl
  simp only [List.set_cons_zero, List.set_cons_succ]
  refine wpX_done (by kernel_rfl) ?_
  go_wp2
  go_ret
  exact ⟨ret_bool HE.out.symm, hq⟩

set_option maxHeartbeats 1000000 in
theorem least_any (l s : Nat) (b1 b2 : Nat) (w : World) (hl : l ≤ 65535) (s0 : 1 ≤ s) (s1 : s ≤ 1048576)
    (h1 : b1 < w.heap.size) (h2 : b2 < w.heap.size) (c1 : w.cell? ⟨b1, 0, none⟩ = some (.int .i64 l)) (c2 : w.cell? ⟨b2, 0, none⟩ = some (.int .i64 s)) :
    Calls Try.prog 37 #[.int .i64 l, .func (.func 38) #[] #[.pointer (some ⟨b1, 0, none⟩), .pointer (some ⟨b2, 0, none⟩)]] w fun e w' => e = .returned (.int .i64 (Ch.rp l s)) ∧ KW w w' := by
  have HC := hid (And.intro c1 c2)
  have hen : ∀ r : Nat, enB l s r = decide (l ≤ Ch.be s r) := fun r => by
    unfold enB
    rw [Ch.ch_be]
    by_cases h : l ≤ Ch.be s r
    · rw [decide_eq_true h]; simp; omega
    · rw [decide_eq_false h]; simp; omega
  have HEN := hid hen
  clear c1 c2 hen
  go_enter Try.func37, Try.ntmps37
  go_wp2
  go_loopw [5, 6, 7] (fun lo hi _ wr => ∃ a b : Nat, a ≤ b ∧ b ≤ l ∧ lo = .int .i64 a ∧ hi = .int .i64 b ∧ Hid (∀ j, j < a → Ch.be s j < l) ∧ Hid (l ≤ Ch.be s b) ∧ Hid (KW w wr)) (fun lo hi _ _ => (intOf hi).toNat - (intOf lo).toNat)
  case atStart => exact ⟨0, l, by omega, by omega, rfl, rfl, fun j h => by omega, by have := Ch.be_ge s l s0; show l ≤ _; omega, KW.refl w⟩
  case round =>
    obtain ⟨a, b, hab, hbl, rfl, rfl, HA, HB, HK⟩ := hrel
    by_cases hlt : a < b
    · have hE := HEN.out ((a + b) / 2)
      have L1 : ((a : Int) + (b : Int)) / 2 = (((a + b) / 2 : Nat) : Int) := by omega
      have hm1 : a ≤ (a + b) / 2 := by omega
      have hm2 : (a + b) / 2 < b := by omega
      generalize (a + b) / 2 = m at *
      by_cases hm : l ≤ Ch.be s m
      · rw [decide_eq_true hm] at hE
        have HE := hid hE
        have HM := hid hm
        clear hE hm
        go_wp2_with fail
        refine (enough_any l s m b1 b2 _ (by omega) (by omega) (by omega) (by omega) (by have := HK.out.size; omega) (by have := HK.out.size; omega) (HK.out.cell h1 HC.out.1) (HK.out.cell h2 HC.out.2)).mono ?_
        rw [HE.out]
        rintro e w1 ⟨rfl, hb⟩
        have HK1 := hid (HK.out.t hb)
        clear hb
        go_wp2_with fail
        go_roundw
        case rel => exact ⟨a, m, by omega, by omega, rfl, by first | rfl | rw [L1], HA, HM, HK1⟩
        case measure => simp [intOf]; omega
      · rw [decide_eq_false hm] at hE
        have HE := hid hE
        have HM : Hid (Ch.be s m < l) := by show _ < _; omega
        clear hE hm
        go_wp2_with fail
        refine (enough_any l s m b1 b2 _ (by omega) (by omega) (by omega) (by omega) (by have := HK.out.size; omega) (by have := HK.out.size; omega) (HK.out.cell h1 HC.out.1) (HK.out.cell h2 HC.out.2)).mono ?_
        rw [HE.out]
        rintro e w1 ⟨rfl, hb⟩
        have HK1 := hid (HK.out.t hb)
        clear hb
        go_wp2_with fail
        go_roundw
        case rel => exact ⟨m + 1, b, by omega, by omega, by first | go_num | (rw [L1]; go_num), rfl, fun j hj => by
            have := Ch.be_le (s := s) (r := j) (q := m) (by omega)
            have := HM.out
            omega, HB, HK1⟩
        case measure => simp [intOf]; omega
    · obtain rfl : a = b := by omega
      have HR := hid (Ch.rp_is s0 HB.out HA.out)
      go_wp2
      go_ret
      exact ⟨ret_int (by rw [HR.out]), HK.out⟩

set_option maxHeartbeats 1000000 in
theorem reps_yes (l s : Nat) (w : World) (hl : l ≤ 65535) (s0 : 1 ≤ s) (s1 : s ≤ 1048576) :
    Calls Try.prog 14 #[.int .i64 l, .int .i64 s] w fun e w' => e = .returned (.tuple #[.int .i64 (Ch.rp l s), .int .i64 0]) ∧ KW w w' := by
  have d0 : decide ((l : Int) < 0) = false := by simp
  have d1 : decide ((65536 : Int) ≤ (l : Int)) = false := by simp; omega
  have hk := KW.refl w
  go_enter Try.func14, Try.ntmps14
  go_wp2_with (first
    | (go_at_call 36; refine (slots_yes _ _ (by omega) (by omega)).mono ?_; rintro e w1 ⟨rfl, rfl⟩))
  refine (least_any l s w.heap.size (w.heap.size + 1) _ hl s0 s1 (by simp; omega) (by simp) (by go_simp) (by go_simp)).mono ?_
  rintro e w1 ⟨rfl, hb⟩
  replace hk := ((hk.alloc _).alloc _).t hb
  clear hb
  go_wp2_with fail
  go_ret2
  exact ⟨rfl, hk⟩
theorem reps_no (l s : Int) (w : World) (h : l < 0 ∨ 65535 < l ∨ s < 1 ∨ 1048576 < s) :
    Calls Try.prog 14 #[.int .i64 l, .int .i64 s] w fun e w' => e = .returned (.tuple #[.int .i64 0, .int .i64 2]) ∧ KW w w' := by
  have hk := KW.refl w
  by_cases h0 : l < 0
  · clear h
    go_enter Try.func14, Try.ntmps14
    go_wp2
    go_ret2
    exact ⟨rfl, (hk.alloc _).alloc _⟩
  · have d0 : decide (l < 0) = false := by simp; omega
    by_cases h1 : 65536 ≤ l
    · clear h
      go_enter Try.func14, Try.ntmps14
      go_wp2
      go_ret2
      exact ⟨rfl, (hk.alloc _).alloc _⟩
    · have d1 : decide (65536 ≤ l) = false := by simp; omega
      have HS := hid (fun W => slots_no s W (by omega))
      clear h
      go_enter Try.func14, Try.ntmps14
      go_wp2_with (go_at_call 36; refine (HS.out _).mono ?_; rintro e w1 ⟨rfl, rfl⟩)
      go_ret2
      exact ⟨rfl, (hk.alloc _).alloc _⟩

set_option maxHeartbeats 1000000 in
theorem rreps_yes (l s : Nat) (w : World) (hl : l ≤ 65535) (s0 : 1 ≤ s) (s1 : s ≤ 1048576) :
    Calls Try.prog 15 #[.int .i64 l, .int .i64 s] w fun e w' => e = .returned (.tuple #[.int .i64 (Ch.rp l s), .int .i64 0]) ∧ KW w w' := by
  have d0 : decide ((l : Int) < 0) = false := by simp
  have d1 : decide ((65536 : Int) ≤ (l : Int)) = false := by simp; omega
  have d2 : decide ((s : Int) < 1) = false := by simp; omega
  have d3 : decide ((1048576 : Int) < (s : Int)) = false := by simp; omega
  by_cases h1 : s = 1
  · subst h1
    rw [Ch.rp_one_max]
    by_cases hl0 : l = 0
    · subst hl0
      go_enter Try.func15, Try.ntmps15
      go_wp2
      go_ret2
      exact ⟨rfl, KW.refl w⟩
    · have hl1 : 1 ≤ l := by omega
      have L1 : ((l - 1 : Nat) : Int) = (l : Int) - 1 := by omega
      rw [L1]
      clear L1 hl0
      go_enter Try.func15, Try.ntmps15
      go_wp2
      all_goals
        go_ret2
        exact ⟨by first | rfl | (congr 4; omega), KW.refl w⟩
  · have hs1 : ((s : Int) == 1) = false := by simp; omega
    clear h1
    have hq0 := Ch.rp_le l s s0
    go_enter Try.func15, Try.ntmps15
    go_wp2
    go_loopw [6, 7, 8] (fun r _ _ wr => ∃ a : Nat, a ≤ Ch.rp l s ∧ r = .int .i64 a ∧ Hid (KW w wr)) (fun r _ _ _ => Ch.rp l s + 1 - (intOf r).toNat)
    case atStart => exact ⟨0, by omega, rfl, KW.refl w⟩
    case round =>
      obtain ⟨a, ha, rfl, HK⟩ := hrel
      have HL := hid (fun W => rlongest_yes a s W (by omega) (by omega) (by omega) (by omega))
      by_cases hlt : a < Ch.rp l s
      · have hv : Ch.ch ((s : Int) + a) s < l := by
          rw [Ch.ch_be]; have := Ch.rp_less l s s0 hlt; omega
        generalize Ch.ch ((s : Int) + a) s = v at *
        go_wp2_with fail
        refine (HL.out _).mono ?_
        rintro e w1 ⟨rfl, hb⟩
        have HK1 := hid (HK.out.t hb)
        clear hb
        go_wp2_with fail
        go_roundw
        case rel => exact ⟨a + 1, by omega, by go_num, HK1⟩
        case measure => simp [intOf]; omega
      · have he : a = Ch.rp l s := by omega
        have hv : (l : Int) ≤ Ch.ch ((s : Int) + a) s := by
          rw [Ch.ch_be, he]; have := Ch.rp_enough l s s0; omega
        have HE := hid he
        generalize Ch.ch ((s : Int) + a) s = v at *
        clear he
        go_wp2_with fail
        refine (HL.out _).mono ?_
        rintro e w1 ⟨rfl, hb⟩
        have HK1 := hid (HK.out.t hb)
        clear hb
        go_wp2_with fail
        go_ret2
        rw [← HE.out]
        exact ⟨rfl, HK1.out⟩
theorem rreps_no (l s : Int) (w : World) (h : l < 0 ∨ 65535 < l ∨ s < 1 ∨ 1048576 < s) :
    Calls Try.prog 15 #[.int .i64 l, .int .i64 s] w fun e w' => e = .returned (.tuple #[.int .i64 0, .int .i64 2]) ∧ KW w w' := by
  have hk := KW.refl w
  by_cases h0 : l < 0
  · clear h
    go_enter Try.func15, Try.ntmps15
    go_wp2
    go_ret2
    exact ⟨rfl, hk⟩
  · have d0 : decide (l < 0) = false := by simp; omega
    by_cases h1 : 65536 ≤ l
    · clear h
      go_enter Try.func15, Try.ntmps15
      go_wp2
      go_ret2
      exact ⟨rfl, hk⟩
    · have d1 : decide (65536 ≤ l) = false := by simp; omega
      by_cases h2 : s < 1
      · clear h
        go_enter Try.func15, Try.ntmps15
        go_wp2
        go_ret2
        exact ⟨rfl, hk⟩
      · have d2 : decide (s < 1) = false := by simp; omega
        have h3 : 1048576 < s := by omega
        clear h
        go_enter Try.func15, Try.ntmps15
        go_wp2
        go_ret2
        exact ⟨rfl, hk⟩
end Go.Proofs.Ythmhdegndoodmaa
