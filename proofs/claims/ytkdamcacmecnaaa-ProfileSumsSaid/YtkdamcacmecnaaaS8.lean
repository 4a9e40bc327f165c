/- Contract of the reference's Words. -/
import Derived.Test.YtkdamcacmecnaaaS7
namespace Go.Proofs.Ytkdamcacmecnaaa
open Go.ChangeShapes Go.WideShapes Go.ChangeAt Go.RowKit
set_option linter.unusedVariables false

set_option maxRecDepth 100000 in
set_option maxHeartbeats 2000000 in
theorem rwords_yes (l : Int) (n : Nat) (A : Option Addr) (c : Nat) (list : List Mc.Act) (fixed slot step loss : Int) (w : World) (hb : [fixed, slot, step, loss].any wbad = false) (l0 : 0 ≤ l) (l1 : l < 65536) (hn : n ≤ 1048576) (hlen : list.length ≤ 1099511627776) (hA : Acts w A list) :
    Calls Try.prog 14 #[.int .i64 l, .int .i64 n, .slice A list.length c, .int .i64 fixed, .int .i64 slot, .int .i64 step, .int .i64 loss] w fun e w' =>
      (Mc.okTo (Mc.new l n) list list.length ∧ ListP w (some ((List.range list.length).map (lw (Mc.new l n) list fixed slot step loss))) 0 e w') ∨ ∃ k, k < list.length ∧ Mc.okTo (Mc.new l n) list k ∧ Mc.er (Mc.new l n) list k ≠ 0 ∧ ListP w none (Mc.er (Mc.new l n) list k) e w' := by
  obtain ⟨b1, b2, b3, b4⟩ := anyw_b hb
  have H1 := hid (fun W => rword_any fixed W)
  have H2 := hid (fun W => rword_any slot W)
  have H3 := hid (fun W => rword_any step W)
  have H4 := hid (fun W => rword_any loss W)
  simp only [List.any_cons, List.any_nil, Bool.or_false, Bool.or_eq_false_iff] at hb
  rw [hb.1] at H1
  rw [hb.2.1] at H2
  rw [hb.2.2.1] at H3
  rw [hb.2.2.2] at H4
  have HSp := hid (rspots_yes l n A c list w l0 l1 hn hlen hA)
  have HCt := hid (fun W a p v j (h : RT W v (Mc.up (Mc.new l n) list j).tags) => rcount_any a p v _ W (by rw [Mc.up_len]; simpa [Mc.new] using hn) h.rt0)
  have HCb := hid (fun j => Nat.le_trans (Mc.cnt_le (Mc.up (Mc.new l n) list j).tags) (by rw [Mc.up_len]; simpa [Mc.new] using hn) : ∀ j, Mc.cnt (Mc.up (Mc.new l n) list j).tags ≤ 1048576)
  unfold RSpotsP at HSp
  have HA := hid hA
  clear hA hb
  generalize Mc.new l n = m0 at *
  generalize hN : list.length = N at *
  have HL := hid hN
  clear hN
  go_enter Try.func14, Try.ntmps14
  go_wp2_with fail
  refine (H1.out _).mono ?_
  rintro e w1 ⟨rfl, rfl⟩
  go_wp2_with fail
  refine (H2.out _).mono ?_
  rintro e w1 ⟨rfl, rfl⟩
  go_wp2_with fail
  refine (H3.out _).mono ?_
  rintro e w1 ⟨rfl, rfl⟩
  go_wp2_with fail
  refine (H4.out _).mono ?_
  rintro e w1 ⟨rfl, rfl⟩
  clear H1 H2 H3 H4
  go_wp2_with fail
  refine HSp.out.mono ?_
  rintro e w1 ⟨hk1, h⟩
  rcases h with ⟨As, cs, hok, rfl, hsp⟩ | ⟨k, hk, hok, her, rfl⟩
  · have HOK := hid hok
    have HK := hid hk1
    have HM := hid hsp
    have HO0 : Hid (Owns (w1.alloc (.cells #[] 3)) w1.heap.size 3 (.slice (some ⟨w1.heap.size, 0, none⟩) 0 0) (ints ((List.range 0).map (lw m0 list fixed slot step loss)))) := World.ownsRow_made w1 #[] 0 (Nat.le_refl _) (Nat.zero_le _) rfl
    clear hok hk1 hsp
    go_wp2_with fail
    go_loopw [19, 20] (fun out i wr => ∃ k : Nat, k ≤ N ∧ i = .int .i64 k ∧ Hid (Owns wr w1.heap.size 3 out (ints ((List.range k).map (lw m0 list fixed slot step loss)))) ∧ Hid (KW w1 wr)) (fun _ i _ => N - (intOf i).toNat)
    case atStart => exact ⟨0, by omega, rfl, HO0, (KW.refl w1).alloc _⟩
    case round =>
      obtain ⟨k, hk, rfl, HO1, HK1⟩ := hrel
      obtain ⟨Ao, co, hvo, _⟩ := HO1.out.row
      rw [ints_range_len] at hvo
      subst hvo
      by_cases hlt : k < N
      · obtain ⟨b', off', rfl, hb', hc1, hc2⟩ := HA.out.at_ (show k < list.length by rw [HL.out]; exact hlt)
        have HC12 := hid (fun W (h : KW w W) => KW.cell h hb' hc1)
        obtain ⟨b, v, rfl, hb, hbw, c0, c1, c2, hrt⟩ := HM.out.at_ (j := k) (by omega)
        obtain ⟨_, v2, hbe, _, _, d0, d1, d2, hrt2⟩ := HM.out.at_ (j := k + 1) (by omega)
        cases hbe
        replace c0 := KW.cell HK1.out hbw c0
        replace c1 := KW.cell HK1.out hbw c1
        replace c2 := KW.cell HK1.out hbw c2
        replace d0 := KW.cell HK1.out hbw d0
        replace d1 := KW.cell HK1.out hbw d1
        replace d2 := KW.cell HK1.out hbw d2
        have HRT := hid (hrt.kw HK1.out)
        have HRT2 := hid (hrt2.kw HK1.out)
        obtain ⟨A1, cc1, hv1, _⟩ := hrt
        obtain ⟨A2, cc2, hv2, _⟩ := hrt2
        subst hv1 hv2
        have HC1 := hid (fun W a p (h : RT W (.slice A1 (Mc.up m0 list k).tags.length cc1) (Mc.up m0 list k).tags) => HCt.out W a p _ k h)
        have HC2 := hid (fun W a p (h : RT W (.slice A2 (Mc.up m0 list (k + 1)).tags.length cc2) (Mc.up m0 list (k + 1)).tags) => HCt.out W a p _ (k + 1) h)
        have HRS := hid (ints_range_succ (lw m0 list fixed slot step loss) k)
        have HRL := hid (ints_range_len (lw m0 list fixed slot step loss) k)
        have HH := hid (show lw m0 list fixed slot step loss k = fixed + slot * ((max (Mc.cnt (Mc.up m0 list k).tags) (Mc.cnt (Mc.up m0 list (k + 1)).tags) : Nat) : Int) + tpv step loss (list.getD k (0, 0)).1 from rfl)
        rw [HH.out] at HRS
        have B1 := HCb.out k
        have B2 := HCb.out (k + 1)
        have HBW : Hid (b < wr.heap.size) := Nat.lt_of_lt_of_le hbw HK1.out.size
        clear HH
        generalize (Mc.cnt (Mc.up m0 list k).tags) = n1 at *
        generalize (Mc.up m0 list k).at_ = x0 at *
        generalize (Mc.up m0 list k).pend = x1 at *
        generalize (Mc.up m0 list k).tags = tg1 at *
        generalize tg1.length = T1 at *
        generalize (Mc.cnt (Mc.up m0 list (k + 1)).tags) = n2 at *
        generalize (Mc.up m0 list (k + 1)).at_ = y0 at *
        generalize (Mc.up m0 list (k + 1)).pend = y1 at *
        generalize (Mc.up m0 list (k + 1)).tags = tg2 at *
        generalize tg2.length = T2 at *
        generalize (list.getD k (0, 0)).1 = x at *
        have L5 : (k : Int) < (N : Int) := by omega
        have L6 : (k : Int) < (N : Int) + 1 := by omega
        have L7 : (k : Int) + 1 < (N : Int) + 1 := by omega
        have K1 : IntKind.i64.wrap ((k : Int) + 1) = (k : Int) + 1 := IntWalk.i64_in _ (by omega)
        have K2 : (0 : Int) ≤ (k : Int) + 1 := by omega
        have K3 : ((k : Int) + 1).toNat = k + 1 := by omega
        have HX := hid (And.intro c0 (And.intro c1 (And.intro c2 (And.intro d0 (And.intro d1 d2)))))
        have HSS := hid (fun w' (hq : KW wr w') => And.intro (KW.cell hq HBW.out HX.out.1) (And.intro (KW.cell hq HBW.out HX.out.2.1) (And.intro (KW.cell hq HBW.out HX.out.2.2.1) (And.intro (KW.cell hq HBW.out HX.out.2.2.2.1) (And.intro (KW.cell hq HBW.out HX.out.2.2.2.2.1) (KW.cell hq HBW.out HX.out.2.2.2.2.2))))))
        have HT := hid (tpv_b step loss x b3 b4)
        have Hb3 := hid b3
        have Hb4 := hid b4
        clear hc1 hc2 c0 c1 c2 d0 d1 d2
        have hmax : Hid (n1 < n2 ∧ max n1 n2 = n2) ∨ Hid (n2 ≤ n1 ∧ max n1 n2 = n1) := by
          by_cases h : n1 < n2
          · exact .inl ⟨h, by omega⟩
          · exact .inr ⟨by omega, by omega⟩
        rcases hmax with hm | hm
        · rw [hm.out.2] at HRS
          have hm1 := hm.out.1
          have hm2 : (n1 : Int) < (n2 : Int) := by omega
          have hm3 : decide (n1 < n2) = true := decide_eq_true hm1
          have hmul : slot * (n2 : Int) ≤ 1048576 * 1048576 := Int.mul_le_mul b2.2 (by omega) (by omega) (by omega)
          have hmul0 : 0 ≤ slot * (n2 : Int) := Int.mul_nonneg b2.1 (by omega)
          have W1 : IntKind.i64.wrap (slot * (n2 : Int)) = slot * (n2 : Int) := IntWalk.i64_in _ (by omega)
          have W2 : IntKind.i64.wrap (fixed + slot * (n2 : Int)) = fixed + slot * (n2 : Int) := IntWalk.i64_in _ (by omega)
          have HQ0 : Hid (0 ≤ fixed + slot * (n2 : Int) ∧ fixed + slot * (n2 : Int) ≤ 1099512676352) := hid (by omega)
          clear hmul hmul0 hm b1 b2 b3 b4
          go_wp2_with fail
          have hXS := HSS.out _ (KW.refl wr).drew
          refine wpX_region (S := fun w' => w'.cell? ⟨b, k * 3, none⟩ = some (.int .i64 x0) ∧ w'.cell? ⟨b, k * 3 + 1, none⟩ = some (.int .i64 x1) ∧ w'.cell? ⟨b, k * 3 + 2, none⟩ = some (.slice A1 T1 cc1) ∧ w'.cell? ⟨b, (k + 1) * 3, none⟩ = some (.int .i64 y0) ∧ w'.cell? ⟨b, (k + 1) * 3 + 1, none⟩ = some (.int .i64 y1) ∧ w'.cell? ⟨b, (k + 1) * 3 + 2, none⟩ = some (.slice A2 T2 cc2)) (L := 99) (by kernel_rfl) ?_
          refine wpX_take (i := 0) (v := ?_) rfl rfl (by kernel_rfl) (fun _ _ _ h => h) (Or.inl ⟨rfl, fun wS hwS => ?_⟩) hXS ?_
          rotate_left
          · go_simp; try rfl
          simp only [List.set_cons_zero, List.set_cons_succ]
          refine wpX_take (i := 1) (v := ?_) rfl rfl (by kernel_rfl) (fun _ _ _ h => h) (Or.inl ⟨rfl, fun wS hwS => ?_⟩) hXS ?_
          rotate_left
          · go_simp; try rfl
          simp only [List.set_cons_zero, List.set_cons_succ]
          refine wpX_take (i := 2) (v := ?_) rfl rfl (by kernel_rfl) (fun _ _ _ h => h) (Or.inl ⟨rfl, fun wS hwS => ?_⟩) hXS ?_
          rotate_left
          · go_simp; try rfl
          simp only [List.set_cons_zero, List.set_cons_succ]
          refine wpX_take (i := 3) (v := ?_) rfl rfl (by kernel_rfl) (fun _ _ _ h => h) (Or.inl ⟨rfl, fun wS hwS => ?_⟩) hXS ?_
          rotate_left
          · go_simp; try rfl
          simp only [List.set_cons_zero, List.set_cons_succ]
          refine wpX_take (i := 4) (v := ?_) rfl rfl (by kernel_rfl) (fun _ _ _ h => h) (Or.inl ⟨rfl, fun wS hwS => ?_⟩) hXS ?_
          rotate_left
          · go_simp; try rfl
          simp only [List.set_cons_zero, List.set_cons_succ]
          refine wpX_take (i := 5) (v := ?_) rfl rfl (by kernel_rfl) (fun _ _ _ h => h) (Or.inl ⟨rfl, fun wS hwS => ?_⟩) hXS ?_
          rotate_left
          · go_simp; try rfl
          simp only [List.set_cons_zero, List.set_cons_succ]
          refine wpX_take (i := 7) (v := ?_) rfl rfl (by kernel_rfl) (fun _ _ _ h => h) (Or.inl ⟨rfl, fun wS hwS => ?_⟩) hXS ?_
          rotate_left
          · go_simp; try rfl
          simp only [List.set_cons_zero, List.set_cons_succ]
          refine wpX_take (i := 8) (v := ?_) rfl rfl (by kernel_rfl) (fun _ _ _ h => h) (Or.inl ⟨rfl, fun wS hwS => ?_⟩) hXS ?_
          rotate_left
          · go_simp; try rfl
          simp only [List.set_cons_zero, List.set_cons_succ]
          refine wpX_take (i := 9) (v := ?_) rfl rfl (by kernel_rfl) (fun _ _ _ h => h) (Or.inl ⟨rfl, fun wS hwS => ?_⟩) hXS ?_
          rotate_left
          · go_simp; try rfl
          simp only [List.set_cons_zero, List.set_cons_succ]
          refine wpX_take (i := 10) (v := ?_) rfl rfl (by kernel_rfl) (fun _ _ _ h => h) (Or.inl ⟨rfl, fun wS hwS => ?_⟩) hXS ?_
          rotate_left
          · go_simp; try rfl
          simp only [List.set_cons_zero, List.set_cons_succ]
          refine wpX_take (i := 11) (v := ?_) rfl rfl (by kernel_rfl) (fun _ _ _ h => h) (Or.inl ⟨rfl, fun wS hwS => ?_⟩) hXS ?_
          rotate_left
          · go_simp; try rfl
          simp only [List.set_cons_zero, List.set_cons_succ]
          refine wpX_hard (k := 6) (by kernel_rfl) rfl (fun K hK => ?_)
          go_simp
          (refine (HC1.out _ _ _ (HRT.out.kw (KW.refl wr).drew)).mono ?_; rintro e w3 ⟨rfl, hb3⟩; have HB3 : Hid (KW wr w3) := (KW.refl wr).drew.t hb3)
          refine hK _ _ (fun _ => HSS.out _ HB3.out) ?_
          clear hK K
          try simp only [List.set_cons_zero, List.set_cons_succ]
          clear hXS
          have hXS := HSS.out _ HB3.out
          refine wpX_hard (k := 12) (by kernel_rfl) rfl (fun K hK => ?_)
          go_simp
          (refine (HC2.out _ _ _ (HRT2.out.kw HB3.out)).mono ?_; rintro e w4 ⟨rfl, hb4⟩; have HB4 : Hid (KW wr w4) := HB3.out.t hb4)
          refine hK _ _ (fun _ => HSS.out _ HB4.out) ?_
          clear hK K
          try simp only [List.set_cons_zero, List.set_cons_succ]
          clear hXS
          have hXS := HSS.out _ HB4.out
          refine wpX_take (i := 13) (v := ?_) rfl rfl (by kernel_rfl) (fun _ _ _ h => h) (Or.inl ⟨rfl, fun wS hwS => ?_⟩) hXS ?_
          rotate_left
          · go_simp; try rfl
          simp only [List.set_cons_zero, List.set_cons_succ]
          refine wpX_take (i := 14) (v := ?_) rfl rfl (by kernel_rfl) (fun _ _ _ h => h) (Or.inl ⟨rfl, fun wS hwS => ?_⟩) hXS ?_
          rotate_left
          · go_simp; try rfl
          simp only [List.set_cons_zero, List.set_cons_succ]
          refine wpX_take (i := 15) (v := ?_) rfl rfl (by kernel_rfl) (fun _ _ _ h => h) (Or.inl ⟨rfl, fun wS hwS => ?_⟩) hXS ?_
          rotate_left
          · go_simp; try rfl
          simp only [List.set_cons_zero, List.set_cons_succ]
          refine wpX_take (i := 16) (v := ?_) rfl rfl (by kernel_rfl) (fun _ _ _ h => h) (Or.inl ⟨rfl, fun wS hwS => ?_⟩) hXS ?_
          rotate_left
          · go_simp; try rfl
          simp only [List.set_cons_zero, List.set_cons_succ]
          refine wpX_done (by kernel_rfl) ?_
          have hXK := HC12.out _ (HK.out.t (HK1.out.t HB4.out))
          have HK5 : Hid (KW w1 w4) := HK1.out.t HB4.out
          have HO5 := hid (HO1.out.on HB4.out)
          have HN5 : Hid (b' < w4.heap.size) := Nat.lt_of_lt_of_le hb' (HK.out.t HK5.out).size
          clear hXS W1 W2 K1 K2 K3 L6 L7 hm1 hm2 hm3 B1 B2
          generalize fixed + slot * (n2 : Int) = q0 at *
          have hcase : Hid (x = 7) ∨ Hid (¬ x = 7 ∧ x = 6) ∨ Hid (¬ x = 7 ∧ ¬ x = 6 ∧ x = 5) ∨ Hid (¬ x = 7 ∧ ¬ x = 6 ∧ ¬ x = 5) := by
            by_cases h7 : x = 7
            · exact .inl h7
            · by_cases h6 : x = 6
              · exact .inr (.inl ⟨h7, h6⟩)
              · by_cases h5 : x = 5
                · exact .inr (.inr (.inl ⟨h7, h6, h5⟩))
                · exact .inr (.inr (.inr ⟨h7, h6, h5⟩))
          rcases hcase with hx | hx | hx | hx
          · have hx7 := hx.out
            have HV : Hid (q0 + tpv step loss x = q0 + step) := by rw [show tpv step loss x = step from if_pos hx7]; exact hid (by omega)
            rw [HV.out] at HRS
            have HVb : Hid (0 ≤ q0 + step ∧ q0 + step ≤ 9223372036854775807) := by have h1 := HQ0.out; have h3 := Hb3.out; have h4 := Hb4.out; exact hid (by omega)
            have VW : IntKind.i64.wrap (q0 + step) = q0 + step := IntWalk.i64_in _ (by have h1 := HVb.out; omega)
            subst hx7
            go_wp2_with (at_builtin; refine wpList_app1 rfl sliceInt1 rfl (W := w4) (v := .slice Ao k co) (base := w1.heap.size) (u := .int .i64 (q0 + step)) (xs := ints ((List.range k).map (lw m0 list fixed slot step loss))) rfl rfl rfl HO5.out HK5.out.size (by rw [HRL.out]; omega) (by rw [HRL.out]; omega) ?_)
            intro v' w5 hown hgrow
            rw [← HRS.out] at hown
            have HO6 := hid hown
            have HK6 : Hid (KW w1 w5) := HK5.out.trans hgrow
            clear hown hgrow
            go_wp2_with fail
            go_roundw
            case rel => exact ⟨k + 1, by omega, by go_num, HO6, HK6⟩
            case measure => simp [intOf]; omega
          · have hx6 := hx.out.2
            have HV : Hid (q0 + tpv step loss x = q0 + loss + step) := by rw [show tpv step loss x = step + loss from (if_neg hx.out.1).trans (if_pos hx6)]; exact hid (by omega)
            rw [HV.out] at HRS
            have HVb : Hid (0 ≤ q0 + loss + step ∧ q0 + loss + step ≤ 9223372036854775807) := by have h1 := HQ0.out; have h3 := Hb3.out; have h4 := Hb4.out; exact hid (by omega)
            have VW : IntKind.i64.wrap (q0 + loss) = q0 + loss := IntWalk.i64_in _ (by have h1 := HQ0.out; have h4 := Hb4.out; omega)
            have VX : IntKind.i64.wrap (q0 + loss + step) = q0 + loss + step := IntWalk.i64_in _ (by have h1 := HVb.out; omega)
            subst hx6
            go_wp2_with (at_builtin; refine wpList_app1 rfl sliceInt1 rfl (W := w4) (v := .slice Ao k co) (base := w1.heap.size) (u := .int .i64 (q0 + loss + step)) (xs := ints ((List.range k).map (lw m0 list fixed slot step loss))) rfl rfl rfl HO5.out HK5.out.size (by rw [HRL.out]; omega) (by rw [HRL.out]; omega) ?_)
            intro v' w5 hown hgrow
            rw [← HRS.out] at hown
            have HO6 := hid hown
            have HK6 : Hid (KW w1 w5) := HK5.out.trans hgrow
            clear hown hgrow
            go_wp2_with fail
            go_roundw
            case rel => exact ⟨k + 1, by omega, by go_num, HO6, HK6⟩
            case measure => simp [intOf]; omega
          · have hx5 := hx.out.2.2
            have HV : Hid (q0 + tpv step loss x = q0 + loss) := by rw [show tpv step loss x = loss from (if_neg hx.out.1).trans ((if_neg hx.out.2.1).trans (if_pos hx5))]; exact hid (by omega)
            rw [HV.out] at HRS
            have HVb : Hid (0 ≤ q0 + loss ∧ q0 + loss ≤ 9223372036854775807) := by have h1 := HQ0.out; have h3 := Hb3.out; have h4 := Hb4.out; exact hid (by omega)
            have VW : IntKind.i64.wrap (q0 + loss) = q0 + loss := IntWalk.i64_in _ (by have h1 := HQ0.out; have h4 := Hb4.out; omega)
            subst hx5
            go_wp2_with (at_builtin; refine wpList_app1 rfl sliceInt1 rfl (W := w4) (v := .slice Ao k co) (base := w1.heap.size) (u := .int .i64 (q0 + loss)) (xs := ints ((List.range k).map (lw m0 list fixed slot step loss))) rfl rfl rfl HO5.out HK5.out.size (by rw [HRL.out]; omega) (by rw [HRL.out]; omega) ?_)
            intro v' w5 hown hgrow
            rw [← HRS.out] at hown
            have HO6 := hid hown
            have HK6 : Hid (KW w1 w5) := HK5.out.trans hgrow
            clear hown hgrow
            go_wp2_with fail
            go_roundw
            case rel => exact ⟨k + 1, by omega, by go_num, HO6, HK6⟩
            case measure => simp [intOf]; omega
          · have hx0 := hx.out
            have HV : Hid (q0 + tpv step loss x = q0) := by rw [show tpv step loss x = 0 from (if_neg hx0.1).trans ((if_neg hx0.2.1).trans (if_neg hx0.2.2))]; exact hid (by omega)
            rw [HV.out] at HRS
            have HVb : Hid (0 ≤ q0 ∧ q0 ≤ 9223372036854775807) := by have h1 := HQ0.out; have h3 := Hb3.out; have h4 := Hb4.out; exact hid (by omega)
            have e5 : (x == 5) = false := by simpa using hx0.2.2
            have e6 : (x == 6) = false := by simpa using hx0.2.1
            have e7 : (x == 7) = false := by simpa using hx0.1
            clear hx0
            go_wp2_with (at_builtin; refine wpList_app1 rfl sliceInt1 rfl (W := w4) (v := .slice Ao k co) (base := w1.heap.size) (u := .int .i64 (q0)) (xs := ints ((List.range k).map (lw m0 list fixed slot step loss))) rfl rfl rfl HO5.out HK5.out.size (by rw [HRL.out]; omega) (by rw [HRL.out]; omega) ?_)
            intro v' w5 hown hgrow
            rw [← HRS.out] at hown
            have HO6 := hid hown
            have HK6 : Hid (KW w1 w5) := HK5.out.trans hgrow
            clear hown hgrow
            go_wp2_with fail
            go_roundw
            case rel => exact ⟨k + 1, by omega, by go_num, HO6, HK6⟩
            case measure => simp [intOf]; omega
        · rw [hm.out.2] at HRS
          have hm1 : (n1 < n2) = False := by have := hm.out.1; simp; omega
          have hm2 := hm.out.1
          have hm3 : decide (n1 < n2) = false := by have := hm.out.1; simp; omega
          have hmul : slot * (n1 : Int) ≤ 1048576 * 1048576 := Int.mul_le_mul b2.2 (by omega) (by omega) (by omega)
          have hmul0 : 0 ≤ slot * (n1 : Int) := Int.mul_nonneg b2.1 (by omega)
          have W1 : IntKind.i64.wrap (slot * (n1 : Int)) = slot * (n1 : Int) := IntWalk.i64_in _ (by omega)
          have W2 : IntKind.i64.wrap (fixed + slot * (n1 : Int)) = fixed + slot * (n1 : Int) := IntWalk.i64_in _ (by omega)
          have HQ0 : Hid (0 ≤ fixed + slot * (n1 : Int) ∧ fixed + slot * (n1 : Int) ≤ 1099512676352) := hid (by omega)
          clear hmul hmul0 hm b1 b2 b3 b4
          go_wp2_with fail
          have hXS := HSS.out _ (KW.refl wr).drew
          refine wpX_region (S := fun w' => w'.cell? ⟨b, k * 3, none⟩ = some (.int .i64 x0) ∧ w'.cell? ⟨b, k * 3 + 1, none⟩ = some (.int .i64 x1) ∧ w'.cell? ⟨b, k * 3 + 2, none⟩ = some (.slice A1 T1 cc1) ∧ w'.cell? ⟨b, (k + 1) * 3, none⟩ = some (.int .i64 y0) ∧ w'.cell? ⟨b, (k + 1) * 3 + 1, none⟩ = some (.int .i64 y1) ∧ w'.cell? ⟨b, (k + 1) * 3 + 2, none⟩ = some (.slice A2 T2 cc2)) (L := 99) (by kernel_rfl) ?_
          refine wpX_take (i := 0) (v := ?_) rfl rfl (by kernel_rfl) (fun _ _ _ h => h) (Or.inl ⟨rfl, fun wS hwS => ?_⟩) hXS ?_
          rotate_left
          · go_simp; try rfl
          simp only [List.set_cons_zero, List.set_cons_succ]
          refine wpX_take (i := 1) (v := ?_) rfl rfl (by kernel_rfl) (fun _ _ _ h => h) (Or.inl ⟨rfl, fun wS hwS => ?_⟩) hXS ?_
          rotate_left
          · go_simp; try rfl
          simp only [List.set_cons_zero, List.set_cons_succ]
          refine wpX_take (i := 2) (v := ?_) rfl rfl (by kernel_rfl) (fun _ _ _ h => h) (Or.inl ⟨rfl, fun wS hwS => ?_⟩) hXS ?_
          rotate_left
          · go_simp; try rfl
          simp only [List.set_cons_zero, List.set_cons_succ]
          refine wpX_take (i := 3) (v := ?_) rfl rfl (by kernel_rfl) (fun _ _ _ h => h) (Or.inl ⟨rfl, fun wS hwS => ?_⟩) hXS ?_
          rotate_left
          · go_simp; try rfl
          simp only [List.set_cons_zero, List.set_cons_succ]
          refine wpX_take (i := 4) (v := ?_) rfl rfl (by kernel_rfl) (fun _ _ _ h => h) (Or.inl ⟨rfl, fun wS hwS => ?_⟩) hXS ?_
          rotate_left
          · go_simp; try rfl
          simp only [List.set_cons_zero, List.set_cons_succ]
          refine wpX_take (i := 5) (v := ?_) rfl rfl (by kernel_rfl) (fun _ _ _ h => h) (Or.inl ⟨rfl, fun wS hwS => ?_⟩) hXS ?_
          rotate_left
          · go_simp; try rfl
          simp only [List.set_cons_zero, List.set_cons_succ]
          refine wpX_take (i := 7) (v := ?_) rfl rfl (by kernel_rfl) (fun _ _ _ h => h) (Or.inl ⟨rfl, fun wS hwS => ?_⟩) hXS ?_
          rotate_left
          · go_simp; try rfl
          simp only [List.set_cons_zero, List.set_cons_succ]
          refine wpX_take (i := 8) (v := ?_) rfl rfl (by kernel_rfl) (fun _ _ _ h => h) (Or.inl ⟨rfl, fun wS hwS => ?_⟩) hXS ?_
          rotate_left
          · go_simp; try rfl
          simp only [List.set_cons_zero, List.set_cons_succ]
          refine wpX_take (i := 9) (v := ?_) rfl rfl (by kernel_rfl) (fun _ _ _ h => h) (Or.inl ⟨rfl, fun wS hwS => ?_⟩) hXS ?_
          rotate_left
          · go_simp; try rfl
          simp only [List.set_cons_zero, List.set_cons_succ]
          refine wpX_take (i := 10) (v := ?_) rfl rfl (by kernel_rfl) (fun _ _ _ h => h) (Or.inl ⟨rfl, fun wS hwS => ?_⟩) hXS ?_
          rotate_left
          · go_simp; try rfl
          simp only [List.set_cons_zero, List.set_cons_succ]
          refine wpX_take (i := 11) (v := ?_) rfl rfl (by kernel_rfl) (fun _ _ _ h => h) (Or.inl ⟨rfl, fun wS hwS => ?_⟩) hXS ?_
          rotate_left
          · go_simp; try rfl
          simp only [List.set_cons_zero, List.set_cons_succ]
          refine wpX_hard (k := 6) (by kernel_rfl) rfl (fun K hK => ?_)
          go_simp
          (refine (HC1.out _ _ _ (HRT.out.kw (KW.refl wr).drew)).mono ?_; rintro e w3 ⟨rfl, hb3⟩; have HB3 : Hid (KW wr w3) := (KW.refl wr).drew.t hb3)
          refine hK _ _ (fun _ => HSS.out _ HB3.out) ?_
          clear hK K
          try simp only [List.set_cons_zero, List.set_cons_succ]
          clear hXS
          have hXS := HSS.out _ HB3.out
          refine wpX_hard (k := 12) (by kernel_rfl) rfl (fun K hK => ?_)
          go_simp
          (refine (HC2.out _ _ _ (HRT2.out.kw HB3.out)).mono ?_; rintro e w4 ⟨rfl, hb4⟩; have HB4 : Hid (KW wr w4) := HB3.out.t hb4)
          refine hK _ _ (fun _ => HSS.out _ HB4.out) ?_
          clear hK K
          try simp only [List.set_cons_zero, List.set_cons_succ]
          clear hXS
          have hXS := HSS.out _ HB4.out
          refine wpX_take (i := 13) (v := ?_) rfl rfl (by kernel_rfl) (fun _ _ _ h => h) (Or.inl ⟨rfl, fun wS hwS => ?_⟩) hXS ?_
          rotate_left
          · go_simp; try rfl
          simp only [List.set_cons_zero, List.set_cons_succ]
          refine wpX_take (i := 14) (v := ?_) rfl rfl (by kernel_rfl) (fun _ _ _ h => h) (Or.inl ⟨rfl, fun wS hwS => ?_⟩) hXS ?_
          rotate_left
          · go_simp; try rfl
          simp only [List.set_cons_zero, List.set_cons_succ]
          refine wpX_take (i := 15) (v := ?_) rfl rfl (by kernel_rfl) (fun _ _ _ h => h) (Or.inl ⟨rfl, fun wS hwS => ?_⟩) hXS ?_
          rotate_left
          · go_simp; try rfl
          simp only [List.set_cons_zero, List.set_cons_succ]
          refine wpX_take (i := 16) (v := ?_) rfl rfl (by kernel_rfl) (fun _ _ _ h => h) (Or.inl ⟨rfl, fun wS hwS => ?_⟩) hXS ?_
          rotate_left
          · go_simp; try rfl
          simp only [List.set_cons_zero, List.set_cons_succ]
          refine wpX_done (by kernel_rfl) ?_
          have hXK := HC12.out _ (HK.out.t (HK1.out.t HB4.out))
          have HK5 : Hid (KW w1 w4) := HK1.out.t HB4.out
          have HO5 := hid (HO1.out.on HB4.out)
          have HN5 : Hid (b' < w4.heap.size) := Nat.lt_of_lt_of_le hb' (HK.out.t HK5.out).size
          clear hXS W1 W2 K1 K2 K3 L6 L7 hm1 hm2 hm3 B1 B2
          generalize fixed + slot * (n1 : Int) = q0 at *
          have hcase : Hid (x = 7) ∨ Hid (¬ x = 7 ∧ x = 6) ∨ Hid (¬ x = 7 ∧ ¬ x = 6 ∧ x = 5) ∨ Hid (¬ x = 7 ∧ ¬ x = 6 ∧ ¬ x = 5) := by
            by_cases h7 : x = 7
            · exact .inl h7
            · by_cases h6 : x = 6
              · exact .inr (.inl ⟨h7, h6⟩)
              · by_cases h5 : x = 5
                · exact .inr (.inr (.inl ⟨h7, h6, h5⟩))
                · exact .inr (.inr (.inr ⟨h7, h6, h5⟩))
          rcases hcase with hx | hx | hx | hx
          · have hx7 := hx.out
            have HV : Hid (q0 + tpv step loss x = q0 + step) := by rw [show tpv step loss x = step from if_pos hx7]; exact hid (by omega)
            rw [HV.out] at HRS
            have HVb : Hid (0 ≤ q0 + step ∧ q0 + step ≤ 9223372036854775807) := by have h1 := HQ0.out; have h3 := Hb3.out; have h4 := Hb4.out; exact hid (by omega)
            have VW : IntKind.i64.wrap (q0 + step) = q0 + step := IntWalk.i64_in _ (by have h1 := HVb.out; omega)
            subst hx7
            go_wp2_with (at_builtin; refine wpList_app1 rfl sliceInt1 rfl (W := w4) (v := .slice Ao k co) (base := w1.heap.size) (u := .int .i64 (q0 + step)) (xs := ints ((List.range k).map (lw m0 list fixed slot step loss))) rfl rfl rfl HO5.out HK5.out.size (by rw [HRL.out]; omega) (by rw [HRL.out]; omega) ?_)
            intro v' w5 hown hgrow
            rw [← HRS.out] at hown
            have HO6 := hid hown
            have HK6 : Hid (KW w1 w5) := HK5.out.trans hgrow
            clear hown hgrow
            go_wp2_with fail
            go_roundw
            case rel => exact ⟨k + 1, by omega, by go_num, HO6, HK6⟩
            case measure => simp [intOf]; omega
          · have hx6 := hx.out.2
            have HV : Hid (q0 + tpv step loss x = q0 + loss + step) := by rw [show tpv step loss x = step + loss from (if_neg hx.out.1).trans (if_pos hx6)]; exact hid (by omega)
            rw [HV.out] at HRS
            have HVb : Hid (0 ≤ q0 + loss + step ∧ q0 + loss + step ≤ 9223372036854775807) := by have h1 := HQ0.out; have h3 := Hb3.out; have h4 := Hb4.out; exact hid (by omega)
            have VW : IntKind.i64.wrap (q0 + loss) = q0 + loss := IntWalk.i64_in _ (by have h1 := HQ0.out; have h4 := Hb4.out; omega)
            have VX : IntKind.i64.wrap (q0 + loss + step) = q0 + loss + step := IntWalk.i64_in _ (by have h1 := HVb.out; omega)
            subst hx6
            go_wp2_with (at_builtin; refine wpList_app1 rfl sliceInt1 rfl (W := w4) (v := .slice Ao k co) (base := w1.heap.size) (u := .int .i64 (q0 + loss + step)) (xs := ints ((List.range k).map (lw m0 list fixed slot step loss))) rfl rfl rfl HO5.out HK5.out.size (by rw [HRL.out]; omega) (by rw [HRL.out]; omega) ?_)
            intro v' w5 hown hgrow
            rw [← HRS.out] at hown
            have HO6 := hid hown
            have HK6 : Hid (KW w1 w5) := HK5.out.trans hgrow
            clear hown hgrow
            go_wp2_with fail
            go_roundw
            case rel => exact ⟨k + 1, by omega, by go_num, HO6, HK6⟩
            case measure => simp [intOf]; omega
          · have hx5 := hx.out.2.2
            have HV : Hid (q0 + tpv step loss x = q0 + loss) := by rw [show tpv step loss x = loss from (if_neg hx.out.1).trans ((if_neg hx.out.2.1).trans (if_pos hx5))]; exact hid (by omega)
            rw [HV.out] at HRS
            have HVb : Hid (0 ≤ q0 + loss ∧ q0 + loss ≤ 9223372036854775807) := by have h1 := HQ0.out; have h3 := Hb3.out; have h4 := Hb4.out; exact hid (by omega)
            have VW : IntKind.i64.wrap (q0 + loss) = q0 + loss := IntWalk.i64_in _ (by have h1 := HQ0.out; have h4 := Hb4.out; omega)
            subst hx5
            go_wp2_with (at_builtin; refine wpList_app1 rfl sliceInt1 rfl (W := w4) (v := .slice Ao k co) (base := w1.heap.size) (u := .int .i64 (q0 + loss)) (xs := ints ((List.range k).map (lw m0 list fixed slot step loss))) rfl rfl rfl HO5.out HK5.out.size (by rw [HRL.out]; omega) (by rw [HRL.out]; omega) ?_)
            intro v' w5 hown hgrow
            rw [← HRS.out] at hown
            have HO6 := hid hown
            have HK6 : Hid (KW w1 w5) := HK5.out.trans hgrow
            clear hown hgrow
            go_wp2_with fail
            go_roundw
            case rel => exact ⟨k + 1, by omega, by go_num, HO6, HK6⟩
            case measure => simp [intOf]; omega
          · have hx0 := hx.out
            have HV : Hid (q0 + tpv step loss x = q0) := by rw [show tpv step loss x = 0 from (if_neg hx0.1).trans ((if_neg hx0.2.1).trans (if_neg hx0.2.2))]; exact hid (by omega)
            rw [HV.out] at HRS
            have HVb : Hid (0 ≤ q0 ∧ q0 ≤ 9223372036854775807) := by have h1 := HQ0.out; have h3 := Hb3.out; have h4 := Hb4.out; exact hid (by omega)
            have e5 : (x == 5) = false := by simpa using hx0.2.2
            have e6 : (x == 6) = false := by simpa using hx0.2.1
            have e7 : (x == 7) = false := by simpa using hx0.1
            clear hx0
            go_wp2_with (at_builtin; refine wpList_app1 rfl sliceInt1 rfl (W := w4) (v := .slice Ao k co) (base := w1.heap.size) (u := .int .i64 (q0)) (xs := ints ((List.range k).map (lw m0 list fixed slot step loss))) rfl rfl rfl HO5.out HK5.out.size (by rw [HRL.out]; omega) (by rw [HRL.out]; omega) ?_)
            intro v' w5 hown hgrow
            rw [← HRS.out] at hown
            have HO6 := hid hown
            have HK6 : Hid (KW w1 w5) := HK5.out.trans hgrow
            clear hown hgrow
            go_wp2_with fail
            go_roundw
            case rel => exact ⟨k + 1, by omega, by go_num, HO6, HK6⟩
            case measure => simp [intOf]; omega
      · obtain rfl : k = N := by omega
        clear hlt
        go_wp2_with fail
        go_ret2
        exact .inl ⟨HOK.out, ⟨_, rfl, HO1.out.base HK.out.size⟩, HK.out.t HK1.out⟩
  · have HOK := hid hok
    have HK := hid hk1
    have HE := hid her
    have HKN := hid hk
    clear hok hk1 hk
    generalize hc : Mc.er m0 list k = er at *
    have HC := hid hc
    clear hc
    have d : (er != 0) = true := by simpa using her
    have d2 : (er == 0) = false := by simpa using her
    clear her
    go_wp2_with fail
    go_ret2
    exact .inr ⟨k, HKN.out, HOK.out, by rw [HC.out]; exact HE.out, by rw [HC.out]; exact ⟨rfl, HK.out⟩⟩
end Go.Proofs.Ytkdamcacmecnaaa
