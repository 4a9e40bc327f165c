/- Contract of the reference's Next. -/
import Derived.Test.YtkdamcacmecnaaaT9
import Derived.Test.YtkdamcacmecnaaaN9
import Derived.Deep.Cut
namespace Go.Proofs.Ytkdamcacmecnaaa
open Go.ChangeShapes Go.WideShapes Go.ChangeAt Go.RowKit
set_option linter.unusedVariables false

set_option maxRecDepth 100000 in
set_option maxHeartbeats 4000000 in
theorem rnext_no1 (k : Int) (ended : Bool) (a p : Int) (N c : Nat) (A : Option Addr) (w : World)
    (h : ∀ W, KW w W → Calls Try.prog 55 #[.int .i64 k, .agg #[.int .i64 a, .int .i64 p, .slice A N c]] W fun e w' => e = .returned (.tuple #[.agg #[.int .i64 0, .int .i64 0, .int .i64 0, .slice none 0 0, .int .i64 0], .int .i64 2]) ∧ KW W w') :
    Calls Try.prog 28 #[.int .i64 k, .bool ended, .agg #[.int .i64 a, .int .i64 p, .slice A N c]] w (AnsP w none) := by
  have H := hid h
  have HF := hid (nx0_row w a p (.slice A N c))
  have HB := hid (nx0_blk w a p (.slice A N c))
  have HK := hid (nx0_kw w a p (.slice A N c))
  unfold nx0 at HF HK HB
  clear h
  go_enter Try.func28, Try.ntmps28
  go_wp2_with fail
  refine (H.out _ HK.out).mono ?_
  rintro e w1 ⟨rfl, hk1⟩
  have HF1 := hid ((KW.row hk1 HF.out.lt HF.out).alloc (.cells #[.int .i64 0, .int .i64 0, .int .i64 0, .slice none 0 0, .int .i64 0] 88))
  have HK1 := hid ((HK.out.t hk1).alloc (.cells #[.int .i64 0, .int .i64 0, .int .i64 0, .slice none 0 0, .int .i64 0] 88))
  clear hk1
  go_wp2_with (refine store_act rfl rfl rfl rfl HF1.out ?_; intro W2 hb2 hkeep)
  exact bodyPost_ret (results_cell_tmp rfl _ _ _ _ _ (0, 0) _ rfl hb2 Try.underlying55 rfl (by kernel_rfl)) rfl ⟨rfl, HK1.out.kept hkeep fun i hi => by omega⟩
set_option maxRecDepth 100000 in
set_option maxHeartbeats 4000000 in
theorem rnext_no2 (k : Int) (ended : Bool) (a p : Int) (c : Nat) (A : Option Addr) (w : World) (m : Mc.St)
    (h : ∀ W, KW w W → Calls Try.prog 55 #[.int .i64 k, .agg #[.int .i64 a, .int .i64 p, .slice A 0 c]] W (RNewP W m 0)) :
    Calls Try.prog 28 #[.int .i64 k, .bool ended, .agg #[.int .i64 a, .int .i64 p, .slice A 0 c]] w (AnsP w none) := by
  have H := hid h
  have HF := hid (nx0_row w a p (.slice A 0 c))
  have HB := hid (nx0_blk w a p (.slice A 0 c))
  have HK := hid (nx0_kw w a p (.slice A 0 c))
  unfold nx0 at HF HK HB
  clear h
  unfold RNewP at H
  go_enter Try.func28, Try.ntmps28
  go_wp2_with fail
  refine (H.out _ HK.out).mono ?_
  rintro e w1 ⟨v1, rfl, ho, hk1⟩
  obtain ⟨A1, c1, hv1, _⟩ := ho.row
  rw [ints_len] at hv1
  subst hv1
  unfold rm
  have hB1 := KW.blk hk1 (blk_lt HB.out) HB.out
  have HF1 := hid ((KW.row hk1 HF.out.lt HF.out).alloc (.cells #[.int .i64 m.l, .int .i64 m.at_, .int .i64 m.pend, .slice A1 m.tags.length c1, .int .i64 m.tot] 88))
  have HK1 := hid ((HK.out.t hk1).alloc (.cells #[.int .i64 m.l, .int .i64 m.at_, .int .i64 m.pend, .slice A1 m.tags.length c1, .int .i64 m.tot] 88))
  have z0 : w1.cell? ⟨w.heap.size, 0, none⟩ = some (.int .i64 a) := by rw [cell_of_row _ _ _ _ _ _ hB1]; rfl
  have z1 : w1.cell? ⟨w.heap.size, 1, none⟩ = some (.int .i64 p) := by rw [cell_of_row _ _ _ _ _ _ hB1]; rfl
  have z2 : w1.cell? ⟨w.heap.size, 2, none⟩ = some (.slice A 0 c) := by rw [cell_of_row _ _ _ _ _ _ hB1]; rfl
  have zz := blk_lt hB1
  clear ho hk1 hB1
  go_wp2_with (refine store_act rfl rfl rfl rfl HF1.out ?_; intro W2 hb2 hkeep)
  exact bodyPost_ret (results_cell_tmp rfl _ _ _ _ _ (0, 0) _ rfl hb2 Try.underlying55 rfl (by kernel_rfl)) rfl ⟨rfl, HK1.out.kept hkeep fun i hi => by omega⟩
set_option maxRecDepth 100000 in
set_option maxHeartbeats 4000000 in
theorem rnext_a (k : Int) (ended : Bool) (a p : Int) (N c : Nat) (A : Option Addr) (tags : List Int) (w : World) (m : Mc.St) (hN : tags.length = N) (hN1 : 1 ≤ N) (hN2 : N ≤ 1048576) (hk0 : 0 ≤ k) (hk1 : k < 65536) (ha : 0 ≤ a) (hak : a ≤ k) (hp : p < 0)
    (ht : ∀ i, i < N → tags.getD i 0 ≤ k) (hr : Row1 w A N fun i => .int .i64 (tags.getD i 0))
    (h : ∀ W, KW w W → Calls Try.prog 55 #[.int .i64 k, .agg #[.int .i64 a, .int .i64 p, .slice A N c]] W (RNewP W m 0)) :
    Calls Try.prog 28 #[.int .i64 k, .bool ended, .agg #[.int .i64 a, .int .i64 p, .slice A N c]] w (AnsP w (Sd.nxA k ended a tags)) := by
  have H := hid h
  have HF := hid (nx0_row w a p (.slice A N c))
  have HB := hid (nx0_blk w a p (.slice A N c))
  have HK := hid (nx0_kw w a p (.slice A N c))
  unfold nx0 at HF HK HB
  clear h
  unfold RNewP at H
  have HSl := hid (fun W t (h : KW w W) => rslot_any t tags A c W (by omega) (by rw [hN]; exact hr.k h))
  have HSt := hid (fun W => rstride_yes k N W hk0 hk1 (by omega) (by omega))
  rw [hN] at HSl
  have hd := Sd.sd_pos k N
  have hsl := fun t => Sd.slot_lo tags t
  have HSb := hid hsl
  rw [hN] at HSb
  have HOf := hid (fun t h0 h1 h2 h3 => Sd.off_ref (d := Sd.sd k N) (t := t) (tags := tags) h0 h1 h2 h3)
  have HOn := hid (fun h3 => Sd.off_none (d := Sd.sd k N) (k := k) (tags := tags) (by rw [hN]; exact ht) h3)
  unfold Sd.nxA
  rw [hN]
  clear hr ht hN hsl
  have d0 : decide (N < 1) = false := decide_eq_false (by omega)
  have d0' : decide ((N : Int) < 1) = false := decide_eq_false (by omega)
  by_cases c1 : a < k
  · rw [if_pos c1]
    clear HOf HOn
    go_enter Try.func28, Try.ntmps28
    go_wp2_with fail
    refine (H.out _ HK.out).mono ?_
    rintro e w1 ⟨v1, rfl, ho, hk1⟩
    obtain ⟨A1, c1, hv1, _⟩ := ho.row
    rw [ints_len] at hv1
    subst hv1
    unfold rm
    have hB1 := KW.blk hk1 (blk_lt HB.out) HB.out
    have HF1 := hid ((KW.row hk1 HF.out.lt HF.out).alloc (.cells #[.int .i64 m.l, .int .i64 m.at_, .int .i64 m.pend, .slice A1 m.tags.length c1, .int .i64 m.tot] 88))
    have HK1 := hid ((HK.out.t hk1).alloc (.cells #[.int .i64 m.l, .int .i64 m.at_, .int .i64 m.pend, .slice A1 m.tags.length c1, .int .i64 m.tot] 88))
    have z0 : w1.cell? ⟨w.heap.size, 0, none⟩ = some (.int .i64 a) := by rw [cell_of_row _ _ _ _ _ _ hB1]; rfl
    have z1 : w1.cell? ⟨w.heap.size, 1, none⟩ = some (.int .i64 p) := by rw [cell_of_row _ _ _ _ _ _ hB1]; rfl
    have z2 : w1.cell? ⟨w.heap.size, 2, none⟩ = some (.slice A N c) := by rw [cell_of_row _ _ _ _ _ _ hB1]; rfl
    have zz := blk_lt hB1
    clear ho hk1 hB1
    go_wp2_with (first | (refine store_act rfl rfl rfl rfl HF1.out ?_; intro W2 hb2 hkeep) | (go_at_call 56; refine (HSl.out _ _ HK1.out).mono ?_; rintro e w2 ⟨rfl, rfl⟩) | (go_at_call 23; refine (HSt.out _).mono ?_; rintro e w2 ⟨rfl, rfl⟩))
    exact bodyPost_ret (results_cell_tmp rfl _ _ _ _ _ (0, 0) _ rfl hb2 Try.underlying55 rfl (by kernel_rfl)) rfl ⟨rfl, HK1.out.kept hkeep fun i hi => by omega⟩
  rw [if_neg c1]
  have d1 : decide (a < k) = false := decide_eq_false c1
  clear c1
  generalize hR : (if 0 ≤ Sd.off (Sd.sd k N) tags then some ((4 : Int), Sd.off (Sd.sd k N) tags) else if k % Sd.sd k N = 0 ∧ Sd.slot tags k < 0 ∧ 0 ≤ Sd.slot tags (-1) then some (2, Sd.slot tags (-1)) else if ended = true then some (5, 0) else none) = R
  have HR := hid hR
  clear hR
  generalize Sd.off (Sd.sd k N) tags = o at *
  generalize Sd.sd k N = d at *
  go_enter Try.func28, Try.ntmps28
  go_wp2_with fail
  refine (H.out _ HK.out).mono ?_
  rintro e w1 ⟨v1, rfl, ho, hk1⟩
  obtain ⟨A1, c1, hv1, _⟩ := ho.row
  rw [ints_len] at hv1
  subst hv1
  unfold rm
  have hB1 := KW.blk hk1 (blk_lt HB.out) HB.out
  have HF1 := hid ((KW.row hk1 HF.out.lt HF.out).alloc (.cells #[.int .i64 m.l, .int .i64 m.at_, .int .i64 m.pend, .slice A1 m.tags.length c1, .int .i64 m.tot] 88))
  have HK1 := hid ((HK.out.t hk1).alloc (.cells #[.int .i64 m.l, .int .i64 m.at_, .int .i64 m.pend, .slice A1 m.tags.length c1, .int .i64 m.tot] 88))
  have z0 : w1.cell? ⟨w.heap.size, 0, none⟩ = some (.int .i64 a) := by rw [cell_of_row _ _ _ _ _ _ hB1]; rfl
  have z1 : w1.cell? ⟨w.heap.size, 1, none⟩ = some (.int .i64 p) := by rw [cell_of_row _ _ _ _ _ _ hB1]; rfl
  have z2 : w1.cell? ⟨w.heap.size, 2, none⟩ = some (.slice A N c) := by rw [cell_of_row _ _ _ _ _ _ hB1]; rfl
  have zz := blk_lt hB1
  clear ho hk1 hB1
  go_wp2_with (first | (go_at_call 56; refine (HSl.out _ _ HK1.out).mono ?_; rintro e w2 ⟨rfl, rfl⟩) | (go_at_call 23; refine (HSt.out _).mono ?_; rintro e w2 ⟨rfl, rfl⟩))
  go_loop [12] (fun i => ∃ t : Nat, (t : Int) ≤ k + 1 ∧ i = .int .i64 t ∧ Hid (∀ x : Int, 0 ≤ x → x < t → ¬ (x % d ≠ 0 ∧ 0 ≤ Sd.slot tags x))) (fun i => (k + 1 - intOf i).toNat)
  case atStart => exact ⟨0, by omega, rfl, fun x h0 h1 => absurd h1 (by omega)⟩
  case round =>
    obtain ⟨t, ht, rfl, HX⟩ := hrel
    by_cases hlt : (t : Int) ≤ k
    · have hm := Int.emod_nonneg (t : Int) (show d ≠ 0 by omega)
      have hm2 := Int.emod_lt_of_pos (t : Int) (show 0 < d by omega)
      have HX2 : Hid (¬ ((t : Int) % d ≠ 0 ∧ 0 ≤ Sd.slot tags t) → ∀ x : Int, 0 ≤ x → x < (t + 1 : Nat) → ¬ (x % d ≠ 0 ∧ 0 ≤ Sd.slot tags x)) := fun h x h0 h1 => by
        rcases (show x < t ∨ x = t by omega) with h2 | rfl
        · exact HX.out x h0 h2
        · exact h
      have HOt := hid (fun h1 h2 => HOf.out t (by omega) h1 h2 HX.out)
      have hsb := HSb.out t
      generalize hs : Sd.slot tags t = s at *
      have HSt2 := hid (fun W (h : KW w W) => HSl.out W t h)
      rw [hs] at HSt2
      clear hs
      by_cases c1 : (t : Int) % d = 0
      · have e1 : ((t : Int) % d != 0) = false := by simpa using c1
        have HX3 := hid (HX2.out (fun h => h.1 c1))
        clear c1 HX2 HOt
        go_wp2_with fail
        go_round
        case rel => exact ⟨t + 1, by omega, by go_num, HX3⟩
        case measure => simp [intOf]; omega
      · have e1 : ((t : Int) % d != 0) = true := by simpa using c1
        by_cases c2 : 0 ≤ s
        · have HO1 := hid (HOt.out c1 c2)
          clear c1 HX2 HOt
          obtain rfl : R = some (4, s) := by rw [← HR.out, if_pos (by rw [HO1.out]; exact c2), HO1.out]
          clear HR
          go_wp2_with (first | (go_at_call 56; refine (HSt2.out _ HK1.out).mono ?_; rintro e w2 ⟨rfl, rfl⟩) | (refine store_act rfl rfl rfl rfl HF1.out ?_; intro W2 hb2 hkeep))
          exact bodyPost_ret (results_cell_tmp rfl _ _ _ _ _ (0, 0) _ rfl hb2 Try.underlying55 rfl (by kernel_rfl)) rfl ⟨rfl, HK1.out.kept hkeep fun i hi => by omega⟩
        · have HX3 := hid (HX2.out (fun h => c2 h.2))
          have d2 : decide (0 ≤ s) = false := decide_eq_false c2
          clear c1 c2 HX2 HOt
          go_wp2_with (go_at_call 56; refine (HSt2.out _ HK1.out).mono ?_; rintro e w2 ⟨rfl, rfl⟩)
          go_round
          case rel => exact ⟨t + 1, by omega, by go_num, HX3⟩
          case measure => simp [intOf]; omega
    · have d1 : decide ((t : Int) ≤ k) = false := decide_eq_false hlt
      have HO1 := hid (HOn.out fun x h0 h1 => HX.out x h0 (by omega))
      have HR1 := hid (HR.out.symm.trans (if_neg (by rw [HO1.out]; omega)))
      clear HR HO1 hlt HOf HOn HX
      have hm := Int.emod_nonneg k (show d ≠ 0 by omega)
      have hm2 := Int.emod_lt_of_pos k (show 0 < d by omega)
      have hsb := HSb.out k
      have hsv := HSb.out (-1)
      have HSk := hid (fun W (h : KW w W) => HSl.out W k h)
      have HSv := hid (fun W (h : KW w W) => HSl.out W (-1) h)
      generalize Sd.slot tags k = sk at *
      generalize Sd.slot tags (-1) = sv at *
      clear HSl HSb
      by_cases c3 : k % d = 0
      · have e3 : (k % d == 0) = true := by simpa using c3
        by_cases c4 : sk < 0
        · by_cases c5 : 0 ≤ sv
          · obtain rfl : R = some (2, sv) := HR1.out.trans (if_pos ⟨c3, c4, c5⟩)
            clear c3 HR1
            go_wp2_with fail
            refine (HSk.out _ HK1.out).mono ?_
            rintro e w2 ⟨rfl, rfl⟩
            go_wp2_with fail
            refine (HSv.out _ HK1.out).mono ?_
            rintro e w2 ⟨rfl, rfl⟩
            go_wp2_with fail
            refine (HSv.out _ HK1.out).mono ?_
            rintro e w2 ⟨rfl, rfl⟩
            go_wp2_with (refine store_act rfl rfl rfl rfl HF1.out ?_; intro W2 hb2 hkeep)
            exact bodyPost_ret (results_cell_tmp rfl _ _ _ _ _ (0, 0) _ rfl hb2 Try.underlying55 rfl (by kernel_rfl)) rfl ⟨rfl, HK1.out.kept hkeep fun i hi => by omega⟩
          · have HR2 := hid (HR1.out.trans (if_neg (fun h => c5 h.2.2)))
            clear HR1
            have d5 : decide (0 ≤ sv) = false := decide_eq_false c5
            clear c3 c5
            cases ended with
            | false =>
              obtain rfl : R = none := HR2.out.trans (if_neg (by simp))
              clear HR2
              go_wp2_with fail
              refine (HSk.out _ HK1.out).mono ?_
              rintro e w2 ⟨rfl, rfl⟩
              go_wp2_with fail
              refine (HSv.out _ HK1.out).mono ?_
              rintro e w2 ⟨rfl, rfl⟩
              go_wp2_with (refine store_act rfl rfl rfl rfl HF1.out ?_; intro W2 hb2 hkeep)
              exact bodyPost_ret (results_cell_tmp rfl _ _ _ _ _ (0, 0) _ rfl hb2 Try.underlying55 rfl (by kernel_rfl)) rfl ⟨rfl, HK1.out.kept hkeep fun i hi => by omega⟩
            | true =>
              obtain rfl : R = some (5, 0) := HR2.out.trans (if_pos rfl)
              clear HR2
              go_wp2_with fail
              refine (HSk.out _ HK1.out).mono ?_
              rintro e w2 ⟨rfl, rfl⟩
              go_wp2_with fail
              refine (HSv.out _ HK1.out).mono ?_
              rintro e w2 ⟨rfl, rfl⟩
              go_wp2_with (refine store_act rfl rfl rfl rfl HF1.out ?_; intro W2 hb2 hkeep)
              exact bodyPost_ret (results_cell_tmp rfl _ _ _ _ _ (0, 0) _ rfl hb2 Try.underlying55 rfl (by kernel_rfl)) rfl ⟨rfl, HK1.out.kept hkeep fun i hi => by omega⟩
        · have HR2 := hid (HR1.out.trans (if_neg (fun h => c4 h.2.1)))
          clear HR1
          have d4 : decide (sk < 0) = false := decide_eq_false c4
          clear c3 c4
          cases ended with
          | false =>
            obtain rfl : R = none := HR2.out.trans (if_neg (by simp))
            clear HR2
            go_wp2_with fail
            refine (HSk.out _ HK1.out).mono ?_
            rintro e w2 ⟨rfl, rfl⟩
            go_wp2_with (refine store_act rfl rfl rfl rfl HF1.out ?_; intro W2 hb2 hkeep)
            exact bodyPost_ret (results_cell_tmp rfl _ _ _ _ _ (0, 0) _ rfl hb2 Try.underlying55 rfl (by kernel_rfl)) rfl ⟨rfl, HK1.out.kept hkeep fun i hi => by omega⟩
          | true =>
            obtain rfl : R = some (5, 0) := HR2.out.trans (if_pos rfl)
            clear HR2
            go_wp2_with fail
            refine (HSk.out _ HK1.out).mono ?_
            rintro e w2 ⟨rfl, rfl⟩
            go_wp2_with (refine store_act rfl rfl rfl rfl HF1.out ?_; intro W2 hb2 hkeep)
            exact bodyPost_ret (results_cell_tmp rfl _ _ _ _ _ (0, 0) _ rfl hb2 Try.underlying55 rfl (by kernel_rfl)) rfl ⟨rfl, HK1.out.kept hkeep fun i hi => by omega⟩
      · have HR2 := hid (HR1.out.trans (if_neg (fun h => c3 h.1)))
        clear HR1
        have e3 : (k % d == 0) = false := by simpa using c3
        clear c3
        cases ended with
        | false =>
          obtain rfl : R = none := HR2.out.trans (if_neg (by simp))
          clear HR2
          go_wp2_with (refine store_act rfl rfl rfl rfl HF1.out ?_; intro W2 hb2 hkeep)
          exact bodyPost_ret (results_cell_tmp rfl _ _ _ _ _ (0, 0) _ rfl hb2 Try.underlying55 rfl (by kernel_rfl)) rfl ⟨rfl, HK1.out.kept hkeep fun i hi => by omega⟩
        | true =>
          obtain rfl : R = some (5, 0) := HR2.out.trans (if_pos rfl)
          clear HR2
          go_wp2_with (refine store_act rfl rfl rfl rfl HF1.out ?_; intro W2 hb2 hkeep)
          exact bodyPost_ret (results_cell_tmp rfl _ _ _ _ _ (0, 0) _ rfl hb2 Try.underlying55 rfl (by kernel_rfl)) rfl ⟨rfl, HK1.out.kept hkeep fun i hi => by omega⟩
set_option maxRecDepth 100000 in
set_option maxHeartbeats 4000000 in
theorem rnext_b (k : Int) (ended : Bool) (a p : Int) (N c : Nat) (A : Option Addr) (tags : List Int) (w : World) (m : Mc.St) (hN : tags.length = N) (hN1 : 1 ≤ N) (hN2 : N ≤ 1048576) (ha : 0 ≤ a) (hak : a < 65536) (hp : 0 ≤ p) (hpk : p < 65536)
    (ht : ∀ i, i < N → -1 ≤ tags.getD i 0 ∧ tags.getD i 0 < 65536) (hr : Row1 w A N fun i => .int .i64 (tags.getD i 0))
    (h : ∀ W, KW w W → Calls Try.prog 55 #[.int .i64 k, .agg #[.int .i64 a, .int .i64 p, .slice A N c]] W (RNewP W m 0)) :
    Calls Try.prog 28 #[.int .i64 k, .bool ended, .agg #[.int .i64 a, .int .i64 p, .slice A N c]] w (AnsP w (Sd.nxB a p tags)) := by
  have H := hid h
  have HF := hid (nx0_row w a p (.slice A N c))
  have HB := hid (nx0_blk w a p (.slice A N c))
  have HK := hid (nx0_kw w a p (.slice A N c))
  unfold nx0 at HF HK HB
  clear h
  unfold RNewP at H
  have HSl := hid (fun W t (h : KW w W) => rslot_any t tags A c W (by omega) (by rw [hN]; exact hr.k h))
  rw [hN] at HSl
  have HR0 := hid (fun W (h : KW w W) k (hk : k < N) => (hr.k h).at_ hk)
  have HTm := hid (fun n (h : n ≤ N) => (⟨(Sd.tmx_ge tags n).1, Sd.tmx_le tags 65535 (by omega) n fun i hi => by have := ht i (by omega); omega⟩ : -1 ≤ Sd.tmx tags n ∧ Sd.tmx tags n ≤ 65535))
  have HTt := hid ht
  rw [Sd.nxB_top hp, hN]
  generalize hT : Sd.tmx tags N = T
  have HT := hid hT
  clear hT
  generalize hR : (if p ≤ T then some ((4 : Int), Sd.slot tags T) else if p = 0 then none else if a = p - 1 then some (7, 0) else if 0 ≤ T ∧ (a < T ∨ p ≤ a) then some (3, Sd.slot tags T) else if a < p then some (1, p - 1 - a) else none) = R
  have HR := hid hR
  clear hR hr ht hN
  have d0 : decide (N < 1) = false := decide_eq_false (by omega)
  have d0' : decide ((N : Int) < 1) = false := decide_eq_false (by omega)
  have dp : decide (p < 0) = false := decide_eq_false (by omega)
  go_enter Try.func28, Try.ntmps28
  go_wp2_with fail
  refine (H.out _ HK.out).mono ?_
  rintro e w1 ⟨v1, rfl, ho, hk1⟩
  obtain ⟨A1, c1, hv1, _⟩ := ho.row
  rw [ints_len] at hv1
  subst hv1
  unfold rm
  have hB1 := KW.blk hk1 (blk_lt HB.out) HB.out
  have HF1 := hid ((KW.row hk1 HF.out.lt HF.out).alloc (.cells #[.int .i64 m.l, .int .i64 m.at_, .int .i64 m.pend, .slice A1 m.tags.length c1, .int .i64 m.tot] 88))
  have HK1 := hid ((HK.out.t hk1).alloc (.cells #[.int .i64 m.l, .int .i64 m.at_, .int .i64 m.pend, .slice A1 m.tags.length c1, .int .i64 m.tot] 88))
  have z0 : w1.cell? ⟨w.heap.size, 0, none⟩ = some (.int .i64 a) := by rw [cell_of_row _ _ _ _ _ _ hB1]; rfl
  have z1 : w1.cell? ⟨w.heap.size, 1, none⟩ = some (.int .i64 p) := by rw [cell_of_row _ _ _ _ _ _ hB1]; rfl
  have z2 : w1.cell? ⟨w.heap.size, 2, none⟩ = some (.slice A N c) := by rw [cell_of_row _ _ _ _ _ _ hB1]; rfl
  have zz := blk_lt hB1
  have HWK : Hid (KW w w1) := HK.out.t hk1
  clear ho hk1 hB1
  go_wp2_with fail
  go_loop [13, 14] (fun x i => ∃ j : Nat, j ≤ N ∧ i = .int .i64 j ∧ x = .int .i64 (Sd.tmx tags j)) (fun _ i => N - (intOf i).toNat)
  case atStart => exact ⟨0, by omega, rfl, rfl⟩
  case round =>
    obtain ⟨j, hj, rfl, rfl⟩ := hrel
    by_cases hlt : j < N
    · obtain ⟨q1, o1, rfl, hq1, hc1⟩ := HR0.out _ HWK.out j hlt
      have hs1 : Sd.tmx tags (j + 1) = max (Sd.tmx tags j) (tags.getD j 0) := rfl
      have hb := HTm.out j (by omega)
      have ht := HTt.out j hlt
      have L5 : (j : Int) < (N : Int) := by omega
      have HS1 := hid hs1
      clear hs1
      generalize Sd.tmx tags j = x at *
      generalize tags.getD j 0 = y at *
      by_cases hm : x < y
      · go_wp2_with fail
        go_round
        case rel => exact ⟨j + 1, by omega, by go_num, by rw [HS1.out, Int.max_eq_right (by omega)]⟩
        case measure => simp [intOf]; omega
      · go_wp2_with fail
        go_round
        case rel => exact ⟨j + 1, by omega, by go_num, by rw [HS1.out, Int.max_eq_left (by omega)]⟩
        case measure => simp [intOf]; omega
    · obtain rfl : j = N := by omega
      clear hlt
      have hb := HTm.out j (by omega)
      rw [HT.out] at hb ⊢
      clear HTm HTt HR0
      have HSk := hid (fun W (h : KW w W) => HSl.out W T h)
      generalize Sd.slot tags T = s at *
      by_cases c1 : p ≤ T
      · obtain rfl : R = some (4, s) := HR.out.symm.trans (if_pos c1)
        clear HR
        go_wp2_with fail
        refine (HSk.out _ HK1.out).mono ?_
        rintro e w2 ⟨rfl, rfl⟩
        go_wp2_with (refine store_act rfl rfl rfl rfl HF1.out ?_; intro W2 hb2 hkeep)
        exact bodyPost_ret (results_cell_tmp rfl _ _ _ _ _ (0, 0) _ rfl hb2 Try.underlying55 rfl (by kernel_rfl)) rfl ⟨rfl, HK1.out.kept hkeep fun i hi => by omega⟩
      have HR1 := hid (HR.out.symm.trans (if_neg c1))
      have d1 : decide (p ≤ T) = false := decide_eq_false c1
      clear HR c1
      by_cases c2 : p = 0
      · obtain rfl : R = none := HR1.out.trans (if_pos c2)
        subst c2
        clear HR1
        go_wp2_with (refine store_act rfl rfl rfl rfl HF1.out ?_; intro W2 hb2 hkeep)
        exact bodyPost_ret (results_cell_tmp rfl _ _ _ _ _ (0, 0) _ rfl hb2 Try.underlying55 rfl (by kernel_rfl)) rfl ⟨rfl, HK1.out.kept hkeep fun i hi => by omega⟩
      have HR2 := hid (HR1.out.trans (if_neg c2))
      have d2 : (p == 0) = false := by simpa using c2
      have hp1 : 1 ≤ p := by omega
      clear HR1 c2
      by_cases c3 : a = p - 1
      · obtain rfl : R = some (7, 0) := HR2.out.trans (if_pos c3)
        have d3 : (a == p - 1) = true := by simpa using c3
        clear HR2 c3
        go_wp2_with (refine store_act rfl rfl rfl rfl HF1.out ?_; intro W2 hb2 hkeep)
        exact bodyPost_ret (results_cell_tmp rfl _ _ _ _ _ (0, 0) _ rfl hb2 Try.underlying55 rfl (by kernel_rfl)) rfl ⟨rfl, HK1.out.kept hkeep fun i hi => by omega⟩
      have HR3 := hid (HR2.out.trans (if_neg c3))
      have d3 : (a == p - 1) = false := by simpa using c3
      clear HR2 c3
      by_cases c4 : 0 ≤ T
      · by_cases c5 : a < T
        · obtain rfl : R = some (3, s) := HR3.out.trans (if_pos ⟨c4, .inl c5⟩)
          clear HR3
          go_wp2_with fail
          refine (HSk.out _ HK1.out).mono ?_
          rintro e w2 ⟨rfl, rfl⟩
          go_wp2_with (refine store_act rfl rfl rfl rfl HF1.out ?_; intro W2 hb2 hkeep)
          exact bodyPost_ret (results_cell_tmp rfl _ _ _ _ _ (0, 0) _ rfl hb2 Try.underlying55 rfl (by kernel_rfl)) rfl ⟨rfl, HK1.out.kept hkeep fun i hi => by omega⟩
        have d5 : decide (a < T) = false := decide_eq_false c5
        by_cases c6 : p ≤ a
        · obtain rfl : R = some (3, s) := HR3.out.trans (if_pos ⟨c4, .inr c6⟩)
          clear HR3 c5
          go_wp2_with fail
          refine (HSk.out _ HK1.out).mono ?_
          rintro e w2 ⟨rfl, rfl⟩
          go_wp2_with (refine store_act rfl rfl rfl rfl HF1.out ?_; intro W2 hb2 hkeep)
          exact bodyPost_ret (results_cell_tmp rfl _ _ _ _ _ (0, 0) _ rfl hb2 Try.underlying55 rfl (by kernel_rfl)) rfl ⟨rfl, HK1.out.kept hkeep fun i hi => by omega⟩
        have d6 : decide (p ≤ a) = false := decide_eq_false c6
        have hap : a < p := by omega
        obtain rfl : R = some (1, p - 1 - a) := (HR3.out.trans (if_neg (by rintro ⟨_, h | h⟩ <;> omega))).trans (if_pos hap)
        clear HR3 c5 c6
        go_wp2_with (refine store_act rfl rfl rfl rfl HF1.out ?_; intro W2 hb2 hkeep)
        exact bodyPost_ret (results_cell_tmp rfl _ _ _ _ _ (0, 0) _ rfl hb2 Try.underlying55 rfl (by kernel_rfl)) rfl ⟨rfl, HK1.out.kept hkeep fun i hi => by omega⟩
      have HR4 := hid (HR3.out.trans (if_neg (fun h => c4 h.1)))
      obtain rfl : T = -1 := by omega
      clear HR3 c4 hb
      by_cases c7 : a < p
      · obtain rfl : R = some (1, p - 1 - a) := HR4.out.trans (if_pos c7)
        clear HR4
        go_upto_region 31 with (fail)
        go_wp2_with (refine store_act rfl rfl rfl rfl HF1.out ?_; intro W2 hb2 hkeep)
        exact bodyPost_ret (results_cell_tmp rfl _ _ _ _ _ (0, 0) _ rfl hb2 Try.underlying55 rfl (by kernel_rfl)) rfl ⟨rfl, HK1.out.kept hkeep fun i hi => by omega⟩
      obtain rfl : R = none := HR4.out.trans (if_neg c7)
      have d7 : decide (a < p) = false := decide_eq_false c7
      clear HR4 c7
      go_upto_region 33 with (fail)
      go_wp2_with (refine store_act rfl rfl rfl rfl HF1.out ?_; intro W2 hb2 hkeep)
      exact bodyPost_ret (results_cell_tmp rfl _ _ _ _ _ (0, 0) _ rfl hb2 Try.underlying55 rfl (by kernel_rfl)) rfl ⟨rfl, HK1.out.kept hkeep fun i hi => by omega⟩

theorem rnext_any (k : Int) (ended : Bool) (a p : Int) (tags : List Int) (v : Value) (w : World) (hv : RT0 w v tags) :
    Calls Try.prog 28 #[.int .i64 k, .bool ended, .agg #[.int .i64 a, .int .i64 p, v]] w (AnsP w (Sd.nx k ended a p tags)) := by
  obtain ⟨A, c, rfl, hr⟩ := hv
  by_cases hat : (0 ≤ k ∧ k < 65536) ∧ (0 ≤ a ∧ a ≤ k) ∧ (-1 ≤ p ∧ p ≤ k) ∧ tags.length ≤ 1048576 ∧ ∀ i, i < tags.length → -1 ≤ tags.getD i 0 ∧ tags.getD i 0 ≤ k
  · obtain ⟨hk, ha, hp, hn, ht⟩ := hat
    have hAt : ∀ W, KW w W → Calls Try.prog 55 #[.int .i64 k, .agg #[.int .i64 a, .int .i64 p, .slice A tags.length c]] W (RNewP W ⟨k, a, p, 0, tags⟩ 0) := fun W h =>
      rat_yes k a p tags A c W hk.1 hk.2 ha.1 ha.2 hp.1 hp.2 hn ht (hr.k h)
    by_cases h0 : tags.length = 0
    · have e : Sd.nx k ended a p tags = none := by
        rw [Sd.nx_eq, if_pos]
        intro h
        have := h.2.2.2.1
        omega
      rw [e]
      rw [h0] at hAt ⊢
      exact rnext_no2 k ended a p c A w _ hAt
    · have hok : Sd.okS k a p tags := ⟨hk, ha, hp, ⟨by omega, hn⟩, ht⟩
      rw [Sd.nx_eq, if_neg (not_not_intro hok)]
      by_cases h1 : p < 0
      · rw [if_pos h1]
        exact rnext_a k ended a p tags.length c A tags w _ rfl (by omega) hn hk.1 hk.2 ha.1 ha.2 h1 (fun i hi => (ht i hi).2) hr hAt
      · rw [if_neg h1]
        exact rnext_b k ended a p tags.length c A tags w _ rfl (by omega) hn ha.1 (by omega) (by omega) (by omega) (fun i hi => by have := ht i hi; omega) hr hAt
  · have e : Sd.nx k ended a p tags = none := by
      rw [Sd.nx_eq, if_pos]
      rintro ⟨h1, h2, h3, h4, h5⟩
      exact hat ⟨h1, h2, h3, h4.2, h5⟩
    rw [e]
    refine rnext_no1 k ended a p tags.length c A w fun W h => rat_no k a p tags.length c tags A W rfl (hr.k h) ?_
    apply Classical.byContradiction
    intro hno
    simp only [not_or, offB] at hno
    obtain ⟨q1, q2, q3, q4, q5, q6⟩ := hno
    simp only [decide_eq_true_eq] at q4 q5
    refine hat ⟨by omega, by omega, by omega, by omega, fun i hi => ?_⟩
    have : ¬ (tags.getD i 0 < -1 ∨ k < tags.getD i 0) := fun h => q6 ⟨i, hi, by simpa using h⟩
    omega
end Go.Proofs.Ytkdamcacmecnaaa
