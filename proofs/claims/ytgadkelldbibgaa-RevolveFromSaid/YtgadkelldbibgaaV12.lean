/- Contract of the reference's Next (layer 30). -/
import Derived.Test.YtgadkelldbibgaaV11
import Derived.Deep.Cut
namespace Go.Proofs.Ytgadkelldbibgaa
open Go.ChangeShapes Go.WideShapes Go.ChangeAt Go.RowKit
set_option linter.unusedVariables false

open Classical in
set_option maxRecDepth 100000 in
set_option maxHeartbeats 8000000 in
theorem rnext30_a (l a p : Int) (N c f : Nat) (A : Option Addr) (tags : List Int) (w : World) (r : Option Mc.Act) (hN : tags.length = N) (hN2 : N ≤ 1048576) (hl0 : 0 ≤ l) (hl1 : l < 65536) (ha : 0 ≤ a) (hal : a ≤ l) (hp0 : -1 ≤ p) (hpl : p ≤ l) (hp : p < 0) (hB1 : -1 ≤ Sd.tmx tags N) (hf : f ≤ 1048576) (hf2 : 0 ≤ Sd.tmx tags N → f < 1048576)
    (hr : Row1 w A N fun i => .int .i64 (tags.getD i 0))
    (hmay : ∀ W, KW w W → Calls Try.prog 17 #[.int .i64 l, .agg #[.int .i64 a, .int .i64 p, .slice A N c]] W fun e w' => e = .returned (.bool true) ∧ KW W w')
    (hsl : ∀ W t, KW w W → Calls Try.prog 41 #[.agg #[.int .i64 a, .int .i64 p, .slice A N c], .int .i64 t] W fun e w' => e = .returned (.int .i64 (Sd.slot tags t)) ∧ KW W w')
    (hct : ∀ W, KW w W → Calls Try.prog 42 #[.agg #[.int .i64 a, .int .i64 p, .slice A N c]] W fun e w' => e = .returned (.int .i64 f) ∧ KW W w')
    (HR : Hid (r = (if 0 ≤ p ∧ l ≤ Sd.tmx tags N then some (4, Sd.slot tags (Sd.tmx tags N)) else if p = 0 then none else if p < 0 ∧ a = l then some (5, 0) else if a = l - 1 then some (if 0 ≤ p then 7 else 6, 0)
      else if Sd.tmx tags N < 0 then (if a < l then some (2, 0) else none) else if a < Sd.tmx tags N ∨ l ≤ a then some (3, Sd.slot tags (Sd.tmx tags N)) else if Sd.tmx tags N < a then (if 0 < f then some (2, Sd.slot tags (-1)) else some (1, l - 1 - a)) else some (1, Ch.sp (l - Sd.tmx tags N).toNat (f + 1))))) :
    Calls Try.prog 15 #[.int .i64 l, .agg #[.int .i64 a, .int .i64 p, .slice A N c]] w (AnsP w r) := by
  have HM := hid hmay
  have HCt := hid hct
  have HSlB := hid (fun W => hsl W (Sd.tmx tags N))
  have HSlV := hid (fun W => hsl W (-1))
  have HSp : Hid (2 ≤ l - Sd.tmx tags N → 0 ≤ Sd.tmx tags N → ∀ W, Calls Try.prog 43 #[.int .i64 (l - Sd.tmx tags N), .int .i64 ((f + 1 : Nat) : Int)] W fun e w' => e = .returned (.tuple #[.int .i64 (Ch.sp (l - Sd.tmx tags N).toNat (f + 1)), .int .i64 0]) ∧ KW W w') := fun h2 h0 W => by
    have := rsplit_yes (l - Sd.tmx tags N).toNat (f + 1) W (by omega) (by omega) (by omega) (by have := hf2 h0; omega)
    rw [show (((l - Sd.tmx tags N).toNat : Nat) : Int) = l - Sd.tmx tags N by omega] at this
    exact this
  have HTs : Hid (∀ k, Sd.tmx tags (k + 1) = max (Sd.tmx tags k) (tags.getD k 0)) := fun k => rfl
  have HT0 : Hid (Sd.tmx tags 0 = -1) := rfl
  generalize Sd.slot tags (Sd.tmx tags N) = sB at *
  generalize Sd.slot tags (-1) = sV at *
  generalize Sd.tmx tags = tB at *
  have HRw := hid hr
  clear hmay hct hsl hr hf2
  have hpd : decide (0 ≤ p) = false := decide_eq_false (by omega)
  have HF := hid (nx0_row w a p (.slice A N c))
  have HB := hid (nx0_blk w a p (.slice A N c))
  have HK := hid (nx0_kw w a p (.slice A N c))
  unfold nx0 at HF HK HB
  go_enter Try.func15, Try.ntmps15
  go_wp2_with fail
  refine (HM.out _ HK.out).mono ?_
  rintro e w1 ⟨rfl, hk1⟩
  have HF1 := hid (KW.row hk1 HF.out.lt HF.out)
  have HB1 := hid (KW.blk hk1 (blk_lt HB.out) HB.out)
  have HK1 := hid (HK.out.t hk1)
  have z0 : w1.cell? ⟨w.heap.size, 0, none⟩ = some (.int .i64 a) := by rw [cell_of_row _ _ _ _ _ _ HB1.out]; rfl
  have z1 : w1.cell? ⟨w.heap.size, 1, none⟩ = some (.int .i64 p) := by rw [cell_of_row _ _ _ _ _ _ HB1.out]; rfl
  have z2 : w1.cell? ⟨w.heap.size, 2, none⟩ = some (.slice A N c) := by rw [cell_of_row _ _ _ _ _ _ HB1.out]; rfl
  have zz := blk_lt HB1.out
  clear hk1
  go_wp2_with fail
  go_loop [7, 8] (fun q i => ∃ k : Nat, k ≤ N ∧ i = .int .i64 k ∧ q = .int .i64 (tB k)) (fun _ i => N - (intOf i).toNat)
  case atStart => exact ⟨0, by omega, rfl, by rw [HT0.out]⟩
  case round =>
    obtain ⟨k, hk, rfl, rfl⟩ := hrel
    by_cases hlt : k < N
    · obtain ⟨b', off, rfl, hb', hcell⟩ := (HRw.out.k HK1.out).at_ hlt
      have L5 : (k : Int) < (N : Int) := by omega
      have HTk := hid (HTs.out k)
      generalize tags.getD k 0 = x at *
      generalize hBk : tB k = Bk at *
      go_wp2_with fail
      go_round
      case rel => exact ⟨k + 1, by omega, by go_num, by rw [HTk.out]; exact congrArg _ (by omega)⟩
      case measure => simp [intOf]; omega
    · obtain rfl : k = N := by omega
      have dk : decide ((k : Int) < (k : Int)) = false := decide_eq_false (by omega)
      clear hlt HTs HT0
      generalize tB k = B at *
      by_cases q0 : l ≤ B
      · by_cases q1 : a = l
        · have e1 : (a == l) = true := by rw [beq_iff_eq]; exact q1
          all_goals try (exfalso; omega)
          all_goals
            obtain rfl : r = some (5, 0) := by rw [HR.out, if_neg (by omega), if_neg (by omega), if_pos (by omega)]
            clear HR
            clear q1
            go_upto_region 16 with (fail)
            go_wp2_with (refine store_act rfl rfl rfl rfl HF1.out ?_; intro W2 hb2 hkeep)
            exact bodyPost_ret (results_cell_tmp rfl _ _ _ _ _ (0, 0) _ rfl hb2 Try.underlying27 rfl (by kernel_rfl)) rfl ⟨rfl, HK1.out.kept hkeep fun i hi => by omega⟩
        · have e1 : (a == l) = false := by rw [beq_eq_false_iff_ne]; exact q1
          by_cases c3 : a = l - 1
          · have e3 : (a == l - 1) = true := by rw [beq_iff_eq]; exact c3
            all_goals try (exfalso; omega)
            all_goals
              obtain rfl : r = some (6, 0) := by rw [HR.out, if_neg (by omega), if_neg (by omega), if_neg (by omega), if_pos (by omega), if_neg (by omega)]
              clear HR
              clear c3
              go_upto_region 19 with (fail)
              go_wp2_with (refine store_act rfl rfl rfl rfl HF1.out ?_; intro W2 hb2 hkeep)
              exact bodyPost_ret (results_cell_tmp rfl _ _ _ _ _ (0, 0) _ rfl hb2 Try.underlying27 rfl (by kernel_rfl)) rfl ⟨rfl, HK1.out.kept hkeep fun i hi => by omega⟩
          · have e3 : (a == l - 1) = false := by rw [beq_eq_false_iff_ne]; exact c3
            by_cases c4 : B < 0
            · by_cases c5 : a < l
              · all_goals try (exfalso; omega)
                all_goals
                  obtain rfl : r = some (2, 0) := by rw [HR.out, if_neg (by omega), if_neg (by omega), if_neg (by omega), if_neg (by omega), if_pos (by omega), if_pos (by omega)]
                  clear HR
                  go_upto_region 23 with (fail)
                  go_wp2_with (refine store_act rfl rfl rfl rfl HF1.out ?_; intro W2 hb2 hkeep)
                  exact bodyPost_ret (results_cell_tmp rfl _ _ _ _ _ (0, 0) _ rfl hb2 Try.underlying27 rfl (by kernel_rfl)) rfl ⟨rfl, HK1.out.kept hkeep fun i hi => by omega⟩
              · all_goals try (exfalso; omega)
                all_goals
                  obtain rfl : r = none := by rw [HR.out, if_neg (by omega), if_neg (by omega), if_neg (by omega), if_neg (by omega), if_pos (by omega), if_neg (by omega)]
                  clear HR
                  have d5 : decide (a < l) = false := decide_eq_false (by omega)
                  clear c5
                  go_upto_region 24 with (fail)
                  go_wp2_with (refine store_act rfl rfl rfl rfl HF1.out ?_; intro W2 hb2 hkeep)
                  exact bodyPost_ret (results_cell_tmp rfl _ _ _ _ _ (0, 0) _ rfl hb2 Try.underlying27 rfl (by kernel_rfl)) rfl ⟨rfl, HK1.out.kept hkeep fun i hi => by omega⟩
            · have d4 : decide (B < 0) = false := decide_eq_false (by omega)
              by_cases c5 : a < B
              · all_goals try (exfalso; omega)
                all_goals
                  obtain rfl : r = some (3, sB) := by rw [HR.out, if_neg (by omega), if_neg (by omega), if_neg (by omega), if_neg (by omega), if_neg (by omega), if_pos (by omega)]
                  clear HR
                  go_upto_region 26 with (fail)
                  go_wp2_with (refine wpList_load_row rfl 24 _ rfl w.heap.size rfl 24 _ (0, 0) _ HB1.out Try.underlying24 rfl (by kernel_rfl) ?_)
                  refine (HSlB.out _ HK1.out).mono ?_
                  rintro e w2 ⟨rfl, hk2⟩
                  have HF2 := hid (KW.row hk2 HF1.out.lt HF1.out)
                  have HB2 := hid (KW.blk hk2 (blk_lt HB1.out) HB1.out)
                  have HK2 := hid (HK1.out.t hk2)
                  clear hk2
                  go_wp2_with (refine store_act rfl rfl rfl rfl HF2.out ?_; intro W2 hb2 hkeep)
                  exact bodyPost_ret (results_cell_tmp rfl _ _ _ _ _ (0, 0) _ rfl hb2 Try.underlying27 rfl (by kernel_rfl)) rfl ⟨rfl, HK2.out.kept hkeep fun i hi => by omega⟩
              · have d5 : decide (a < B) = false := decide_eq_false (by omega)
                by_cases c6 : l ≤ a
                · all_goals try (exfalso; omega)
                  all_goals
                    obtain rfl : r = some (3, sB) := by rw [HR.out, if_neg (by omega), if_neg (by omega), if_neg (by omega), if_neg (by omega), if_neg (by omega), if_pos (by omega)]
                    clear HR
                    go_upto_region 26 with (fail)
                    go_wp2_with (refine wpList_load_row rfl 24 _ rfl w.heap.size rfl 24 _ (0, 0) _ HB1.out Try.underlying24 rfl (by kernel_rfl) ?_)
                    refine (HSlB.out _ HK1.out).mono ?_
                    rintro e w2 ⟨rfl, hk2⟩
                    have HF2 := hid (KW.row hk2 HF1.out.lt HF1.out)
                    have HB2 := hid (KW.blk hk2 (blk_lt HB1.out) HB1.out)
                    have HK2 := hid (HK1.out.t hk2)
                    clear hk2
                    go_wp2_with (refine store_act rfl rfl rfl rfl HF2.out ?_; intro W2 hb2 hkeep)
                    exact bodyPost_ret (results_cell_tmp rfl _ _ _ _ _ (0, 0) _ rfl hb2 Try.underlying27 rfl (by kernel_rfl)) rfl ⟨rfl, HK2.out.kept hkeep fun i hi => by omega⟩
                · have d6 : decide (l ≤ a) = false := decide_eq_false (by omega)
                  by_cases c7 : B < a
                  · by_cases c8 : 0 < f
                    · all_goals try (exfalso; omega)
                      all_goals
                        obtain rfl : r = some (2, sV) := by rw [HR.out, if_neg (by omega), if_neg (by omega), if_neg (by omega), if_neg (by omega), if_neg (by omega), if_neg (by omega), if_pos (by omega), if_pos (by omega)]
                        clear HR
                        have L8 : (0 : Int) < (f : Int) := by omega
                        clear c4 c5 c6
                        go_upto_region 28 with (fail)
                        go_wp2_with (refine wpList_load_row rfl 24 _ rfl w.heap.size rfl 24 _ (0, 0) _ HB1.out Try.underlying24 rfl (by kernel_rfl) ?_)
                        refine (HCt.out _ HK1.out).mono ?_
                        rintro e w2 ⟨rfl, hk2⟩
                        have HF2 := hid (KW.row hk2 HF1.out.lt HF1.out)
                        have HB2 := hid (KW.blk hk2 (blk_lt HB1.out) HB1.out)
                        have HK2 := hid (HK1.out.t hk2)
                        clear hk2
                        go_upto_region 29 with (fail)
                        go_wp2_with (refine wpList_load_row rfl 24 _ rfl w.heap.size rfl 24 _ (0, 0) _ HB2.out Try.underlying24 rfl (by kernel_rfl) ?_)
                        refine (HSlV.out _ HK2.out).mono ?_
                        rintro e w3 ⟨rfl, hk3⟩
                        have HF3 := hid (KW.row hk3 HF2.out.lt HF2.out)
                        have HB3 := hid (KW.blk hk3 (blk_lt HB2.out) HB2.out)
                        have HK3 := hid (HK2.out.t hk3)
                        clear hk3
                        go_wp2_with (refine store_act rfl rfl rfl rfl HF3.out ?_; intro W2 hb2 hkeep)
                        exact bodyPost_ret (results_cell_tmp rfl _ _ _ _ _ (0, 0) _ rfl hb2 Try.underlying27 rfl (by kernel_rfl)) rfl ⟨rfl, HK3.out.kept hkeep fun i hi => by omega⟩
                    · all_goals try (exfalso; omega)
                      all_goals
                        obtain rfl : r = some (1, l - 1 - a) := by rw [HR.out, if_neg (by omega), if_neg (by omega), if_neg (by omega), if_neg (by omega), if_neg (by omega), if_neg (by omega), if_pos (by omega), if_neg (by omega)]
                        clear HR
                        obtain rfl : f = 0 := by omega
                        clear c4 c5 c6 c8
                        go_upto_region 28 with (fail)
                        go_wp2_with (refine wpList_load_row rfl 24 _ rfl w.heap.size rfl 24 _ (0, 0) _ HB1.out Try.underlying24 rfl (by kernel_rfl) ?_)
                        refine (HCt.out _ HK1.out).mono ?_
                        rintro e w2 ⟨rfl, hk2⟩
                        have HF2 := hid (KW.row hk2 HF1.out.lt HF1.out)
                        have HB2 := hid (KW.blk hk2 (blk_lt HB1.out) HB1.out)
                        have HK2 := hid (HK1.out.t hk2)
                        clear hk2
                        have y0 : w2.cell? ⟨w.heap.size, 0, none⟩ = some (.int .i64 a) := by rw [cell_of_row _ _ _ _ _ _ HB2.out]; rfl
                        go_upto_region 30 with (fail)
                        go_wp2_with (refine store_act rfl rfl rfl rfl HF2.out ?_; intro W2 hb2 hkeep)
                        exact bodyPost_ret (results_cell_tmp rfl _ _ _ _ _ (0, 0) _ rfl hb2 Try.underlying27 rfl (by kernel_rfl)) rfl ⟨rfl, HK2.out.kept hkeep fun i hi => by omega⟩
                  · have d7 : decide (B < a) = false := decide_eq_false (by omega)
                    all_goals try (exfalso; omega)
                    all_goals
                      have HS2 := hid (HSp.out (by omega) (by omega))
                      obtain rfl : r = some (1, Ch.sp (l - B).toNat (f + 1)) := by rw [HR.out, if_neg (by omega), if_neg (by omega), if_neg (by omega), if_neg (by omega), if_neg (by omega), if_neg (by omega), if_neg (by omega)]
                      clear HR c4 c5 c6 c7
                      generalize Ch.sp (l - B).toNat (f + 1) = sp at *
                      have e9 : ((f + 1 : Nat) : Int) = (f : Int) + 1 := by omega
                      rw [e9] at HS2
                      go_upto_region 31 with (fail)
                      go_wp2_with (refine wpList_load_row rfl 24 _ rfl w.heap.size rfl 24 _ (0, 0) _ HB1.out Try.underlying24 rfl (by kernel_rfl) ?_)
                      refine (HCt.out _ HK1.out).mono ?_
                      rintro e w2 ⟨rfl, hk2⟩
                      have HF2 := hid (KW.row hk2 HF1.out.lt HF1.out)
                      have HB2 := hid (KW.blk hk2 (blk_lt HB1.out) HB1.out)
                      have HK2 := hid (HK1.out.t hk2)
                      clear hk2
                      go_wp2_with fail
                      refine (HS2.out _).mono ?_
                      rintro e w3 ⟨rfl, hk3⟩
                      have HF3 := hid (KW.row hk3 HF2.out.lt HF2.out)
                      have HB3 := hid (KW.blk hk3 (blk_lt HB2.out) HB2.out)
                      have HK3 := hid (HK2.out.t hk3)
                      clear hk3
                      go_wp2_with (refine store_act rfl rfl rfl rfl HF3.out ?_; intro W2 hb2 hkeep)
                      exact bodyPost_ret (results_cell_tmp rfl _ _ _ _ _ (0, 0) _ rfl hb2 Try.underlying27 rfl (by kernel_rfl)) rfl ⟨rfl, HK3.out.kept hkeep fun i hi => by omega⟩
      · have d0 : decide (l ≤ B) = false := decide_eq_false (by omega)
        by_cases q1 : a = l
        · have e1 : (a == l) = true := by rw [beq_iff_eq]; exact q1
          all_goals try (exfalso; omega)
          all_goals
            obtain rfl : r = some (5, 0) := by rw [HR.out, if_neg (by omega), if_neg (by omega), if_pos (by omega)]
            clear HR
            clear q1
            go_upto_region 16 with (fail)
            go_wp2_with (refine store_act rfl rfl rfl rfl HF1.out ?_; intro W2 hb2 hkeep)
            exact bodyPost_ret (results_cell_tmp rfl _ _ _ _ _ (0, 0) _ rfl hb2 Try.underlying27 rfl (by kernel_rfl)) rfl ⟨rfl, HK1.out.kept hkeep fun i hi => by omega⟩
        · have e1 : (a == l) = false := by rw [beq_eq_false_iff_ne]; exact q1
          by_cases c3 : a = l - 1
          · have e3 : (a == l - 1) = true := by rw [beq_iff_eq]; exact c3
            all_goals try (exfalso; omega)
            all_goals
              obtain rfl : r = some (6, 0) := by rw [HR.out, if_neg (by omega), if_neg (by omega), if_neg (by omega), if_pos (by omega), if_neg (by omega)]
              clear HR
              clear c3
              go_upto_region 19 with (fail)
              go_wp2_with (refine store_act rfl rfl rfl rfl HF1.out ?_; intro W2 hb2 hkeep)
              exact bodyPost_ret (results_cell_tmp rfl _ _ _ _ _ (0, 0) _ rfl hb2 Try.underlying27 rfl (by kernel_rfl)) rfl ⟨rfl, HK1.out.kept hkeep fun i hi => by omega⟩
          · have e3 : (a == l - 1) = false := by rw [beq_eq_false_iff_ne]; exact c3
            by_cases c4 : B < 0
            · by_cases c5 : a < l
              · all_goals try (exfalso; omega)
                all_goals
                  obtain rfl : r = some (2, 0) := by rw [HR.out, if_neg (by omega), if_neg (by omega), if_neg (by omega), if_neg (by omega), if_pos (by omega), if_pos (by omega)]
                  clear HR
                  go_upto_region 23 with (fail)
                  go_wp2_with (refine store_act rfl rfl rfl rfl HF1.out ?_; intro W2 hb2 hkeep)
                  exact bodyPost_ret (results_cell_tmp rfl _ _ _ _ _ (0, 0) _ rfl hb2 Try.underlying27 rfl (by kernel_rfl)) rfl ⟨rfl, HK1.out.kept hkeep fun i hi => by omega⟩
              · all_goals try (exfalso; omega)
                all_goals
                  obtain rfl : r = none := by rw [HR.out, if_neg (by omega), if_neg (by omega), if_neg (by omega), if_neg (by omega), if_pos (by omega), if_neg (by omega)]
                  clear HR
                  have d5 : decide (a < l) = false := decide_eq_false (by omega)
                  clear c5
                  go_upto_region 24 with (fail)
                  go_wp2_with (refine store_act rfl rfl rfl rfl HF1.out ?_; intro W2 hb2 hkeep)
                  exact bodyPost_ret (results_cell_tmp rfl _ _ _ _ _ (0, 0) _ rfl hb2 Try.underlying27 rfl (by kernel_rfl)) rfl ⟨rfl, HK1.out.kept hkeep fun i hi => by omega⟩
            · have d4 : decide (B < 0) = false := decide_eq_false (by omega)
              by_cases c5 : a < B
              · all_goals try (exfalso; omega)
                all_goals
                  obtain rfl : r = some (3, sB) := by rw [HR.out, if_neg (by omega), if_neg (by omega), if_neg (by omega), if_neg (by omega), if_neg (by omega), if_pos (by omega)]
                  clear HR
                  go_upto_region 26 with (fail)
                  go_wp2_with (refine wpList_load_row rfl 24 _ rfl w.heap.size rfl 24 _ (0, 0) _ HB1.out Try.underlying24 rfl (by kernel_rfl) ?_)
                  refine (HSlB.out _ HK1.out).mono ?_
                  rintro e w2 ⟨rfl, hk2⟩
                  have HF2 := hid (KW.row hk2 HF1.out.lt HF1.out)
                  have HB2 := hid (KW.blk hk2 (blk_lt HB1.out) HB1.out)
                  have HK2 := hid (HK1.out.t hk2)
                  clear hk2
                  go_wp2_with (refine store_act rfl rfl rfl rfl HF2.out ?_; intro W2 hb2 hkeep)
                  exact bodyPost_ret (results_cell_tmp rfl _ _ _ _ _ (0, 0) _ rfl hb2 Try.underlying27 rfl (by kernel_rfl)) rfl ⟨rfl, HK2.out.kept hkeep fun i hi => by omega⟩
              · have d5 : decide (a < B) = false := decide_eq_false (by omega)
                by_cases c6 : l ≤ a
                · all_goals try (exfalso; omega)
                  all_goals
                    obtain rfl : r = some (3, sB) := by rw [HR.out, if_neg (by omega), if_neg (by omega), if_neg (by omega), if_neg (by omega), if_neg (by omega), if_pos (by omega)]
                    clear HR
                    go_upto_region 26 with (fail)
                    go_wp2_with (refine wpList_load_row rfl 24 _ rfl w.heap.size rfl 24 _ (0, 0) _ HB1.out Try.underlying24 rfl (by kernel_rfl) ?_)
                    refine (HSlB.out _ HK1.out).mono ?_
                    rintro e w2 ⟨rfl, hk2⟩
                    have HF2 := hid (KW.row hk2 HF1.out.lt HF1.out)
                    have HB2 := hid (KW.blk hk2 (blk_lt HB1.out) HB1.out)
                    have HK2 := hid (HK1.out.t hk2)
                    clear hk2
                    go_wp2_with (refine store_act rfl rfl rfl rfl HF2.out ?_; intro W2 hb2 hkeep)
                    exact bodyPost_ret (results_cell_tmp rfl _ _ _ _ _ (0, 0) _ rfl hb2 Try.underlying27 rfl (by kernel_rfl)) rfl ⟨rfl, HK2.out.kept hkeep fun i hi => by omega⟩
                · have d6 : decide (l ≤ a) = false := decide_eq_false (by omega)
                  by_cases c7 : B < a
                  · by_cases c8 : 0 < f
                    · all_goals try (exfalso; omega)
                      all_goals
                        obtain rfl : r = some (2, sV) := by rw [HR.out, if_neg (by omega), if_neg (by omega), if_neg (by omega), if_neg (by omega), if_neg (by omega), if_neg (by omega), if_pos (by omega), if_pos (by omega)]
                        clear HR
                        have L8 : (0 : Int) < (f : Int) := by omega
                        clear c4 c5 c6
                        go_upto_region 28 with (fail)
                        go_wp2_with (refine wpList_load_row rfl 24 _ rfl w.heap.size rfl 24 _ (0, 0) _ HB1.out Try.underlying24 rfl (by kernel_rfl) ?_)
                        refine (HCt.out _ HK1.out).mono ?_
                        rintro e w2 ⟨rfl, hk2⟩
                        have HF2 := hid (KW.row hk2 HF1.out.lt HF1.out)
                        have HB2 := hid (KW.blk hk2 (blk_lt HB1.out) HB1.out)
                        have HK2 := hid (HK1.out.t hk2)
                        clear hk2
                        go_upto_region 29 with (fail)
                        go_wp2_with (refine wpList_load_row rfl 24 _ rfl w.heap.size rfl 24 _ (0, 0) _ HB2.out Try.underlying24 rfl (by kernel_rfl) ?_)
                        refine (HSlV.out _ HK2.out).mono ?_
                        rintro e w3 ⟨rfl, hk3⟩
                        have HF3 := hid (KW.row hk3 HF2.out.lt HF2.out)
                        have HB3 := hid (KW.blk hk3 (blk_lt HB2.out) HB2.out)
                        have HK3 := hid (HK2.out.t hk3)
                        clear hk3
                        go_wp2_with (refine store_act rfl rfl rfl rfl HF3.out ?_; intro W2 hb2 hkeep)
                        exact bodyPost_ret (results_cell_tmp rfl _ _ _ _ _ (0, 0) _ rfl hb2 Try.underlying27 rfl (by kernel_rfl)) rfl ⟨rfl, HK3.out.kept hkeep fun i hi => by omega⟩
                    · all_goals try (exfalso; omega)
                      all_goals
                        obtain rfl : r = some (1, l - 1 - a) := by rw [HR.out, if_neg (by omega), if_neg (by omega), if_neg (by omega), if_neg (by omega), if_neg (by omega), if_neg (by omega), if_pos (by omega), if_neg (by omega)]
                        clear HR
                        obtain rfl : f = 0 := by omega
                        clear c4 c5 c6 c8
                        go_upto_region 28 with (fail)
                        go_wp2_with (refine wpList_load_row rfl 24 _ rfl w.heap.size rfl 24 _ (0, 0) _ HB1.out Try.underlying24 rfl (by kernel_rfl) ?_)
                        refine (HCt.out _ HK1.out).mono ?_
                        rintro e w2 ⟨rfl, hk2⟩
                        have HF2 := hid (KW.row hk2 HF1.out.lt HF1.out)
                        have HB2 := hid (KW.blk hk2 (blk_lt HB1.out) HB1.out)
                        have HK2 := hid (HK1.out.t hk2)
                        clear hk2
                        have y0 : w2.cell? ⟨w.heap.size, 0, none⟩ = some (.int .i64 a) := by rw [cell_of_row _ _ _ _ _ _ HB2.out]; rfl
                        go_upto_region 30 with (fail)
                        go_wp2_with (refine store_act rfl rfl rfl rfl HF2.out ?_; intro W2 hb2 hkeep)
                        exact bodyPost_ret (results_cell_tmp rfl _ _ _ _ _ (0, 0) _ rfl hb2 Try.underlying27 rfl (by kernel_rfl)) rfl ⟨rfl, HK2.out.kept hkeep fun i hi => by omega⟩
                  · have d7 : decide (B < a) = false := decide_eq_false (by omega)
                    all_goals try (exfalso; omega)
                    all_goals
                      have HS2 := hid (HSp.out (by omega) (by omega))
                      obtain rfl : r = some (1, Ch.sp (l - B).toNat (f + 1)) := by rw [HR.out, if_neg (by omega), if_neg (by omega), if_neg (by omega), if_neg (by omega), if_neg (by omega), if_neg (by omega), if_neg (by omega)]
                      clear HR c4 c5 c6 c7
                      generalize Ch.sp (l - B).toNat (f + 1) = sp at *
                      have e9 : ((f + 1 : Nat) : Int) = (f : Int) + 1 := by omega
                      rw [e9] at HS2
                      go_upto_region 31 with (fail)
                      go_wp2_with (refine wpList_load_row rfl 24 _ rfl w.heap.size rfl 24 _ (0, 0) _ HB1.out Try.underlying24 rfl (by kernel_rfl) ?_)
                      refine (HCt.out _ HK1.out).mono ?_
                      rintro e w2 ⟨rfl, hk2⟩
                      have HF2 := hid (KW.row hk2 HF1.out.lt HF1.out)
                      have HB2 := hid (KW.blk hk2 (blk_lt HB1.out) HB1.out)
                      have HK2 := hid (HK1.out.t hk2)
                      clear hk2
                      go_wp2_with fail
                      refine (HS2.out _).mono ?_
                      rintro e w3 ⟨rfl, hk3⟩
                      have HF3 := hid (KW.row hk3 HF2.out.lt HF2.out)
                      have HB3 := hid (KW.blk hk3 (blk_lt HB2.out) HB2.out)
                      have HK3 := hid (HK2.out.t hk3)
                      clear hk3
                      go_wp2_with (refine store_act rfl rfl rfl rfl HF3.out ?_; intro W2 hb2 hkeep)
                      exact bodyPost_ret (results_cell_tmp rfl _ _ _ _ _ (0, 0) _ rfl hb2 Try.underlying27 rfl (by kernel_rfl)) rfl ⟨rfl, HK3.out.kept hkeep fun i hi => by omega⟩
open Classical in
set_option maxRecDepth 100000 in
set_option maxHeartbeats 8000000 in
theorem rnext30_b (l a p : Int) (N c f : Nat) (A : Option Addr) (tags : List Int) (w : World) (r : Option Mc.Act) (hN : tags.length = N) (hN2 : N ≤ 1048576) (hl0 : 0 ≤ l) (hl1 : l < 65536) (ha : 0 ≤ a) (hal : a ≤ l) (hp0 : -1 ≤ p) (hpl : p ≤ l) (hp : 0 ≤ p) (hB1 : -1 ≤ Sd.tmx tags N) (hf : f ≤ 1048576) (hf2 : 0 ≤ Sd.tmx tags N → f < 1048576)
    (hr : Row1 w A N fun i => .int .i64 (tags.getD i 0))
    (hmay : ∀ W, KW w W → Calls Try.prog 17 #[.int .i64 l, .agg #[.int .i64 a, .int .i64 p, .slice A N c]] W fun e w' => e = .returned (.bool true) ∧ KW W w')
    (hsl : ∀ W t, KW w W → Calls Try.prog 41 #[.agg #[.int .i64 a, .int .i64 p, .slice A N c], .int .i64 t] W fun e w' => e = .returned (.int .i64 (Sd.slot tags t)) ∧ KW W w')
    (hct : ∀ W, KW w W → Calls Try.prog 42 #[.agg #[.int .i64 a, .int .i64 p, .slice A N c]] W fun e w' => e = .returned (.int .i64 f) ∧ KW W w')
    (HR : Hid (r = (if 0 ≤ p ∧ p ≤ Sd.tmx tags N then some (4, Sd.slot tags (Sd.tmx tags N)) else if p = 0 then none else if p < 0 ∧ a = l then some (5, 0) else if a = p - 1 then some (if 0 ≤ p then 7 else 6, 0)
      else if Sd.tmx tags N < 0 then (if a < p then some (2, 0) else none) else if a < Sd.tmx tags N ∨ p ≤ a then some (3, Sd.slot tags (Sd.tmx tags N)) else if Sd.tmx tags N < a then (if 0 < f then some (2, Sd.slot tags (-1)) else some (1, p - 1 - a)) else some (1, Ch.sp (p - Sd.tmx tags N).toNat (f + 1))))) :
    Calls Try.prog 15 #[.int .i64 l, .agg #[.int .i64 a, .int .i64 p, .slice A N c]] w (AnsP w r) := by
  have HM := hid hmay
  have HCt := hid hct
  have HSlB := hid (fun W => hsl W (Sd.tmx tags N))
  have HSlV := hid (fun W => hsl W (-1))
  have HSp : Hid (2 ≤ p - Sd.tmx tags N → 0 ≤ Sd.tmx tags N → ∀ W, Calls Try.prog 43 #[.int .i64 (p - Sd.tmx tags N), .int .i64 ((f + 1 : Nat) : Int)] W fun e w' => e = .returned (.tuple #[.int .i64 (Ch.sp (p - Sd.tmx tags N).toNat (f + 1)), .int .i64 0]) ∧ KW W w') := fun h2 h0 W => by
    have := rsplit_yes (p - Sd.tmx tags N).toNat (f + 1) W (by omega) (by omega) (by omega) (by have := hf2 h0; omega)
    rw [show (((p - Sd.tmx tags N).toNat : Nat) : Int) = p - Sd.tmx tags N by omega] at this
    exact this
  have HTs : Hid (∀ k, Sd.tmx tags (k + 1) = max (Sd.tmx tags k) (tags.getD k 0)) := fun k => rfl
  have HT0 : Hid (Sd.tmx tags 0 = -1) := rfl
  generalize Sd.slot tags (Sd.tmx tags N) = sB at *
  generalize Sd.slot tags (-1) = sV at *
  generalize Sd.tmx tags = tB at *
  have HRw := hid hr
  clear hmay hct hsl hr hf2
  have hpd : decide (p < 0) = false := decide_eq_false (by omega)
  have HF := hid (nx0_row w a p (.slice A N c))
  have HB := hid (nx0_blk w a p (.slice A N c))
  have HK := hid (nx0_kw w a p (.slice A N c))
  unfold nx0 at HF HK HB
  go_enter Try.func15, Try.ntmps15
  go_wp2_with fail
  refine (HM.out _ HK.out).mono ?_
  rintro e w1 ⟨rfl, hk1⟩
  have HF1 := hid (KW.row hk1 HF.out.lt HF.out)
  have HB1 := hid (KW.blk hk1 (blk_lt HB.out) HB.out)
  have HK1 := hid (HK.out.t hk1)
  have z0 : w1.cell? ⟨w.heap.size, 0, none⟩ = some (.int .i64 a) := by rw [cell_of_row _ _ _ _ _ _ HB1.out]; rfl
  have z1 : w1.cell? ⟨w.heap.size, 1, none⟩ = some (.int .i64 p) := by rw [cell_of_row _ _ _ _ _ _ HB1.out]; rfl
  have z2 : w1.cell? ⟨w.heap.size, 2, none⟩ = some (.slice A N c) := by rw [cell_of_row _ _ _ _ _ _ HB1.out]; rfl
  have zz := blk_lt HB1.out
  clear hk1
  go_wp2_with fail
  go_loop [7, 8] (fun q i => ∃ k : Nat, k ≤ N ∧ i = .int .i64 k ∧ q = .int .i64 (tB k)) (fun _ i => N - (intOf i).toNat)
  case atStart => exact ⟨0, by omega, rfl, by rw [HT0.out]⟩
  case round =>
    obtain ⟨k, hk, rfl, rfl⟩ := hrel
    by_cases hlt : k < N
    · obtain ⟨b', off, rfl, hb', hcell⟩ := (HRw.out.k HK1.out).at_ hlt
      have L5 : (k : Int) < (N : Int) := by omega
      have HTk := hid (HTs.out k)
      generalize tags.getD k 0 = x at *
      generalize hBk : tB k = Bk at *
      go_wp2_with fail
      go_round
      case rel => exact ⟨k + 1, by omega, by go_num, by rw [HTk.out]; exact congrArg _ (by omega)⟩
      case measure => simp [intOf]; omega
    · obtain rfl : k = N := by omega
      have dk : decide ((k : Int) < (k : Int)) = false := decide_eq_false (by omega)
      clear hlt HTs HT0
      generalize tB k = B at *
      by_cases q0 : p ≤ B
      · all_goals try (exfalso; omega)
        all_goals
          obtain rfl : r = some (4, sB) := by rw [HR.out, if_pos (by omega)]
          clear HR
          go_upto_region 12 with (fail)
          go_wp2_with (refine wpList_load_row rfl 24 _ rfl w.heap.size rfl 24 _ (0, 0) _ HB1.out Try.underlying24 rfl (by kernel_rfl) ?_)
          refine (HSlB.out _ HK1.out).mono ?_
          rintro e w2 ⟨rfl, hk2⟩
          have HF2 := hid (KW.row hk2 HF1.out.lt HF1.out)
          have HB2 := hid (KW.blk hk2 (blk_lt HB1.out) HB1.out)
          have HK2 := hid (HK1.out.t hk2)
          clear hk2
          go_wp2_with (refine store_act rfl rfl rfl rfl HF2.out ?_; intro W2 hb2 hkeep)
          exact bodyPost_ret (results_cell_tmp rfl _ _ _ _ _ (0, 0) _ rfl hb2 Try.underlying27 rfl (by kernel_rfl)) rfl ⟨rfl, HK2.out.kept hkeep fun i hi => by omega⟩
      · have d0 : decide (p ≤ B) = false := decide_eq_false (by omega)
        by_cases q1 : p = 0
        · have e1 : (p == 0) = true := by rw [beq_iff_eq]; exact q1
          all_goals try (exfalso; omega)
          all_goals
            obtain rfl : r = none := by rw [HR.out, if_neg (by omega), if_pos (by omega)]
            clear HR
            clear q1
            go_upto_region 14 with (fail)
            go_wp2_with (refine store_act rfl rfl rfl rfl HF1.out ?_; intro W2 hb2 hkeep)
            exact bodyPost_ret (results_cell_tmp rfl _ _ _ _ _ (0, 0) _ rfl hb2 Try.underlying27 rfl (by kernel_rfl)) rfl ⟨rfl, HK1.out.kept hkeep fun i hi => by omega⟩
        · have e1 : (p == 0) = false := by rw [beq_eq_false_iff_ne]; exact q1
          by_cases c3 : a = p - 1
          · have e3 : (a == p - 1) = true := by rw [beq_iff_eq]; exact c3
            all_goals try (exfalso; omega)
            all_goals
              obtain rfl : r = some (7, 0) := by rw [HR.out, if_neg (by omega), if_neg (by omega), if_neg (by omega), if_pos (by omega), if_pos (by omega)]
              clear HR
              clear c3
              go_upto_region 20 with (fail)
              go_wp2_with (refine store_act rfl rfl rfl rfl HF1.out ?_; intro W2 hb2 hkeep)
              exact bodyPost_ret (results_cell_tmp rfl _ _ _ _ _ (0, 0) _ rfl hb2 Try.underlying27 rfl (by kernel_rfl)) rfl ⟨rfl, HK1.out.kept hkeep fun i hi => by omega⟩
          · have e3 : (a == p - 1) = false := by rw [beq_eq_false_iff_ne]; exact c3
            by_cases c4 : B < 0
            · by_cases c5 : a < p
              · all_goals try (exfalso; omega)
                all_goals
                  obtain rfl : r = some (2, 0) := by rw [HR.out, if_neg (by omega), if_neg (by omega), if_neg (by omega), if_neg (by omega), if_pos (by omega), if_pos (by omega)]
                  clear HR
                  go_upto_region 23 with (fail)
                  go_wp2_with (refine store_act rfl rfl rfl rfl HF1.out ?_; intro W2 hb2 hkeep)
                  exact bodyPost_ret (results_cell_tmp rfl _ _ _ _ _ (0, 0) _ rfl hb2 Try.underlying27 rfl (by kernel_rfl)) rfl ⟨rfl, HK1.out.kept hkeep fun i hi => by omega⟩
              · all_goals try (exfalso; omega)
                all_goals
                  obtain rfl : r = none := by rw [HR.out, if_neg (by omega), if_neg (by omega), if_neg (by omega), if_neg (by omega), if_pos (by omega), if_neg (by omega)]
                  clear HR
                  have d5 : decide (a < p) = false := decide_eq_false (by omega)
                  clear c5
                  go_upto_region 24 with (fail)
                  go_wp2_with (refine store_act rfl rfl rfl rfl HF1.out ?_; intro W2 hb2 hkeep)
                  exact bodyPost_ret (results_cell_tmp rfl _ _ _ _ _ (0, 0) _ rfl hb2 Try.underlying27 rfl (by kernel_rfl)) rfl ⟨rfl, HK1.out.kept hkeep fun i hi => by omega⟩
            · have d4 : decide (B < 0) = false := decide_eq_false (by omega)
              by_cases c5 : a < B
              · all_goals try (exfalso; omega)
                all_goals
                  obtain rfl : r = some (3, sB) := by rw [HR.out, if_neg (by omega), if_neg (by omega), if_neg (by omega), if_neg (by omega), if_neg (by omega), if_pos (by omega)]
                  clear HR
                  go_upto_region 26 with (fail)
                  go_wp2_with (refine wpList_load_row rfl 24 _ rfl w.heap.size rfl 24 _ (0, 0) _ HB1.out Try.underlying24 rfl (by kernel_rfl) ?_)
                  refine (HSlB.out _ HK1.out).mono ?_
                  rintro e w2 ⟨rfl, hk2⟩
                  have HF2 := hid (KW.row hk2 HF1.out.lt HF1.out)
                  have HB2 := hid (KW.blk hk2 (blk_lt HB1.out) HB1.out)
                  have HK2 := hid (HK1.out.t hk2)
                  clear hk2
                  go_wp2_with (refine store_act rfl rfl rfl rfl HF2.out ?_; intro W2 hb2 hkeep)
                  exact bodyPost_ret (results_cell_tmp rfl _ _ _ _ _ (0, 0) _ rfl hb2 Try.underlying27 rfl (by kernel_rfl)) rfl ⟨rfl, HK2.out.kept hkeep fun i hi => by omega⟩
              · have d5 : decide (a < B) = false := decide_eq_false (by omega)
                by_cases c6 : p ≤ a
                · all_goals try (exfalso; omega)
                  all_goals
                    obtain rfl : r = some (3, sB) := by rw [HR.out, if_neg (by omega), if_neg (by omega), if_neg (by omega), if_neg (by omega), if_neg (by omega), if_pos (by omega)]
                    clear HR
                    go_upto_region 26 with (fail)
                    go_wp2_with (refine wpList_load_row rfl 24 _ rfl w.heap.size rfl 24 _ (0, 0) _ HB1.out Try.underlying24 rfl (by kernel_rfl) ?_)
                    refine (HSlB.out _ HK1.out).mono ?_
                    rintro e w2 ⟨rfl, hk2⟩
                    have HF2 := hid (KW.row hk2 HF1.out.lt HF1.out)
                    have HB2 := hid (KW.blk hk2 (blk_lt HB1.out) HB1.out)
                    have HK2 := hid (HK1.out.t hk2)
                    clear hk2
                    go_wp2_with (refine store_act rfl rfl rfl rfl HF2.out ?_; intro W2 hb2 hkeep)
                    exact bodyPost_ret (results_cell_tmp rfl _ _ _ _ _ (0, 0) _ rfl hb2 Try.underlying27 rfl (by kernel_rfl)) rfl ⟨rfl, HK2.out.kept hkeep fun i hi => by omega⟩
                · have d6 : decide (p ≤ a) = false := decide_eq_false (by omega)
                  by_cases c7 : B < a
                  · by_cases c8 : 0 < f
                    · all_goals try (exfalso; omega)
                      all_goals
                        obtain rfl : r = some (2, sV) := by rw [HR.out, if_neg (by omega), if_neg (by omega), if_neg (by omega), if_neg (by omega), if_neg (by omega), if_neg (by omega), if_pos (by omega), if_pos (by omega)]
                        clear HR
                        have L8 : (0 : Int) < (f : Int) := by omega
                        clear c4 c5 c6
                        go_upto_region 28 with (fail)
                        go_wp2_with (refine wpList_load_row rfl 24 _ rfl w.heap.size rfl 24 _ (0, 0) _ HB1.out Try.underlying24 rfl (by kernel_rfl) ?_)
                        refine (HCt.out _ HK1.out).mono ?_
                        rintro e w2 ⟨rfl, hk2⟩
                        have HF2 := hid (KW.row hk2 HF1.out.lt HF1.out)
                        have HB2 := hid (KW.blk hk2 (blk_lt HB1.out) HB1.out)
                        have HK2 := hid (HK1.out.t hk2)
                        clear hk2
                        go_upto_region 29 with (fail)
                        go_wp2_with (refine wpList_load_row rfl 24 _ rfl w.heap.size rfl 24 _ (0, 0) _ HB2.out Try.underlying24 rfl (by kernel_rfl) ?_)
                        refine (HSlV.out _ HK2.out).mono ?_
                        rintro e w3 ⟨rfl, hk3⟩
                        have HF3 := hid (KW.row hk3 HF2.out.lt HF2.out)
                        have HB3 := hid (KW.blk hk3 (blk_lt HB2.out) HB2.out)
                        have HK3 := hid (HK2.out.t hk3)
                        clear hk3
                        go_wp2_with (refine store_act rfl rfl rfl rfl HF3.out ?_; intro W2 hb2 hkeep)
                        exact bodyPost_ret (results_cell_tmp rfl _ _ _ _ _ (0, 0) _ rfl hb2 Try.underlying27 rfl (by kernel_rfl)) rfl ⟨rfl, HK3.out.kept hkeep fun i hi => by omega⟩
                    · all_goals try (exfalso; omega)
                      all_goals
                        obtain rfl : r = some (1, p - 1 - a) := by rw [HR.out, if_neg (by omega), if_neg (by omega), if_neg (by omega), if_neg (by omega), if_neg (by omega), if_neg (by omega), if_pos (by omega), if_neg (by omega)]
                        clear HR
                        obtain rfl : f = 0 := by omega
                        clear c4 c5 c6 c8
                        go_upto_region 28 with (fail)
                        go_wp2_with (refine wpList_load_row rfl 24 _ rfl w.heap.size rfl 24 _ (0, 0) _ HB1.out Try.underlying24 rfl (by kernel_rfl) ?_)
                        refine (HCt.out _ HK1.out).mono ?_
                        rintro e w2 ⟨rfl, hk2⟩
                        have HF2 := hid (KW.row hk2 HF1.out.lt HF1.out)
                        have HB2 := hid (KW.blk hk2 (blk_lt HB1.out) HB1.out)
                        have HK2 := hid (HK1.out.t hk2)
                        clear hk2
                        have y0 : w2.cell? ⟨w.heap.size, 0, none⟩ = some (.int .i64 a) := by rw [cell_of_row _ _ _ _ _ _ HB2.out]; rfl
                        go_upto_region 30 with (fail)
                        go_wp2_with (refine store_act rfl rfl rfl rfl HF2.out ?_; intro W2 hb2 hkeep)
                        exact bodyPost_ret (results_cell_tmp rfl _ _ _ _ _ (0, 0) _ rfl hb2 Try.underlying27 rfl (by kernel_rfl)) rfl ⟨rfl, HK2.out.kept hkeep fun i hi => by omega⟩
                  · have d7 : decide (B < a) = false := decide_eq_false (by omega)
                    all_goals try (exfalso; omega)
                    all_goals
                      have HS2 := hid (HSp.out (by omega) (by omega))
                      obtain rfl : r = some (1, Ch.sp (p - B).toNat (f + 1)) := by rw [HR.out, if_neg (by omega), if_neg (by omega), if_neg (by omega), if_neg (by omega), if_neg (by omega), if_neg (by omega), if_neg (by omega)]
                      clear HR c4 c5 c6 c7
                      generalize Ch.sp (p - B).toNat (f + 1) = sp at *
                      have e9 : ((f + 1 : Nat) : Int) = (f : Int) + 1 := by omega
                      rw [e9] at HS2
                      go_upto_region 31 with (fail)
                      go_wp2_with (refine wpList_load_row rfl 24 _ rfl w.heap.size rfl 24 _ (0, 0) _ HB1.out Try.underlying24 rfl (by kernel_rfl) ?_)
                      refine (HCt.out _ HK1.out).mono ?_
                      rintro e w2 ⟨rfl, hk2⟩
                      have HF2 := hid (KW.row hk2 HF1.out.lt HF1.out)
                      have HB2 := hid (KW.blk hk2 (blk_lt HB1.out) HB1.out)
                      have HK2 := hid (HK1.out.t hk2)
                      clear hk2
                      go_wp2_with fail
                      refine (HS2.out _).mono ?_
                      rintro e w3 ⟨rfl, hk3⟩
                      have HF3 := hid (KW.row hk3 HF2.out.lt HF2.out)
                      have HB3 := hid (KW.blk hk3 (blk_lt HB2.out) HB2.out)
                      have HK3 := hid (HK2.out.t hk3)
                      clear hk3
                      go_wp2_with (refine store_act rfl rfl rfl rfl HF3.out ?_; intro W2 hb2 hkeep)
                      exact bodyPost_ret (results_cell_tmp rfl _ _ _ _ _ (0, 0) _ rfl hb2 Try.underlying27 rfl (by kernel_rfl)) rfl ⟨rfl, HK3.out.kept hkeep fun i hi => by omega⟩
open Classical in
set_option maxRecDepth 100000 in
set_option maxHeartbeats 8000000 in
theorem rnext30_no (l a p : Int) (N c : Nat) (A : Option Addr) (w : World)
    (hmay : ∀ W, KW w W → Calls Try.prog 17 #[.int .i64 l, .agg #[.int .i64 a, .int .i64 p, .slice A N c]] W fun e w' => e = .returned (.bool false) ∧ KW W w') :
    Calls Try.prog 15 #[.int .i64 l, .agg #[.int .i64 a, .int .i64 p, .slice A N c]] w (AnsP w none) := by
  have HM := hid hmay
  clear hmay
  have HF := hid (nx0_row w a p (.slice A N c))
  have HK := hid (nx0_kw w a p (.slice A N c))
  unfold nx0 at HF HK
  go_enter Try.func15, Try.ntmps15
  go_wp2_with fail
  refine (HM.out _ HK.out).mono ?_
  rintro e w1 ⟨rfl, hk1⟩
  have HF1 := hid (KW.row hk1 HF.out.lt HF.out)
  have HK1 := hid (HK.out.t hk1)
  clear hk1
  go_wp2_with (refine store_act rfl rfl rfl rfl HF1.out ?_; intro W2 hb2 hkeep)
  exact bodyPost_ret (results_cell_tmp rfl _ _ _ _ _ (0, 0) _ rfl hb2 Try.underlying27 rfl (by kernel_rfl)) rfl ⟨rfl, HK1.out.kept hkeep fun i hi => by omega⟩
open Classical in
set_option maxRecDepth 100000 in
set_option maxHeartbeats 8000000 in
theorem rnext30_any (l a p : Int) (tags : List Int) (A : Option Addr) (c : Nat) (w : World) (hr : Row1 w A tags.length fun i => .int .i64 (tags.getD i 0)) :
    Calls Try.prog 15 #[.int .i64 l, .agg #[.int .i64 a, .int .i64 p, .slice A tags.length c]] w (AnsP w (Rv.rv l a p tags)) := by
  have hmay := fun W (h : KW w W) => rmay_any l a p tags A c W (hr.k h)
  by_cases hok : Sd.okS l a p tags
  · rw [Rv.rv_ok hok]
    have hok0 := hok
    obtain ⟨hl, ha, hp, hn, ht⟩ := hok
    rw [decide_eq_true hok0] at hmay
    have hsl := fun W t (h : KW w W) => rslot30_any a p t tags A c W hn.2 (hr.k h)
    have hct := fun W (h : KW w W) => rcount30_any a p tags A c W hn.2 (hr.k h)
    have hf := Rv.vac_le tags
    have hf2 : 0 ≤ Sd.tmx tags tags.length → Rv.vac tags < 1048576 := fun h0 => by
      rcases (show Rv.vac tags < 1048576 ∨ Rv.vac tags = tags.length by omega) with h2 | h2
      · exact h2
      · rcases Sd.tmx_base tags with ⟨_, h3⟩ | ⟨j, hj, _, h3, _⟩
        · omega
        · have := vac_full h2 j hj
          omega
    by_cases h : p < 0
    · refine rnext30_a l a p tags.length c (Rv.vac tags) A tags w _ rfl hn.2 hl.1 hl.2 ha.1 ha.2 hp.1 hp.2 h (Sd.tmx_ge tags tags.length).1 (by omega) hf2 hr hmay hsl hct ?_
      unfold Rv.rw0 Rv.en
      rw [if_pos h]
      exact hid rfl
    · refine rnext30_b l a p tags.length c (Rv.vac tags) A tags w _ rfl hn.2 hl.1 hl.2 ha.1 ha.2 hp.1 hp.2 (by omega) (Sd.tmx_ge tags tags.length).1 (by omega) hf2 hr hmay hsl hct ?_
      unfold Rv.rw0 Rv.en
      rw [if_neg h]
      exact hid rfl
  · rw [Rv.rv_no hok]
    rw [decide_eq_false hok] at hmay
    exact rnext30_no l a p tags.length c A w hmay
end Go.Proofs.Ytgadkelldbibgaa
