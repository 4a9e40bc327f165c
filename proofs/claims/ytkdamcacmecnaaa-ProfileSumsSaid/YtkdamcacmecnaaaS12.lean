/- Contract of the reference's Of. -/
import Derived.Test.YtkdamcacmecnaaaS11
namespace Go.Proofs.Ytkdamcacmecnaaa
open Go.ChangeShapes Go.WideShapes Go.ChangeAt Go.RowKit
set_option linter.unusedVariables false

theorem rof_no (l n : Int) (v : Value) (w : World) (h : l < 0 ∨ 65536 ≤ l ∨ n < 0 ∨ 1048576 < n) :
    Calls Try.prog 17 #[.int .i64 l, .int .i64 n, v] w fun e w' => e = .returned (.tuple #[.agg zero14, .int .i64 0, .int .i64 2]) ∧ KW w w' := by
  have HN := hid (fun W => rspots_no l n v W h)
  have HR0 : Hid ((w.alloc (.cells zero14 35)).rowIs w.heap.size 35 14 (pfv 0 0 0 (fun _ => 0) (.slice none 0 0))) := World.rowIs_alloc w zero14 35 _ fun i hi => by rw [pfv_zero]; exact pfA_get _ _ _ _ _ i (by simpa [zero14] using hi)
  clear h
  go_enter Try.func17, Try.ntmps17
  go_wp2_with fail
  refine (HN.out _).mono ?_
  rintro e w1 ⟨rfl, hk⟩
  have HR1 := hid (KW.row hk HR0.out.lt HR0.out)
  have HK : Hid (KW w w1) := ((KW.refl w).alloc _).t hk
  clear hk
  go_wp2_with (refine wpList_store_is rfl 35 _ _ rfl w.heap.size 14 35 _ (pfv 0 0 0 (fun _ => 0) (.slice none 0 0)) zero14 rfl rfl HR1.out (by kernel_rfl) rfl ?qa1 ?qa2 ?_)
  case qa1 => intro i hi; rw [pfv_zero]; exact pfA_get _ _ _ _ _ _ hi
  case qa2 => intro i hi; exact pfv_one _ _ _ _ _ rfl _
  intro w2 hrow hkeep _
  have HH : Hid (w2.heap[w.heap.size]? = some (.cells zero14 35 (0, 0))) := whole hrow
  have HK2 : Hid (KW w w2) := HK.out.kept hkeep fun i hi => by omega
  clear hrow hkeep
  go_wp2_with fail
  refine bodyPost_ret (results_ctt rfl _ _ w.heap.size _ _ (0, 0) _ rfl HH.out Try.underlying35 rfl (by kernel_rfl)) rfl ?_
  exact ⟨rfl, HK2.out⟩

set_option maxRecDepth 100000 in
set_option maxHeartbeats 2000000 in
theorem rof_yes (l : Int) (n L : Nat) (A : Option Addr) (c : Nat) (list : List Mc.Act) (w : World) (l0 : 0 ≤ l) (l1 : l < 65536) (hL : (L : Int) = l) (hn : n ≤ 1048576) (hlen : list.length ≤ 1099511627776) (hA : Acts w A list) :
    Calls Try.prog 17 #[.int .i64 l, .int .i64 n, .slice A list.length c] w (ProfP (Mc.new l n) list L w) := by
  have HSp := hid (rspots_yes l n A c list w l0 l1 hn hlen hA)
  have HSpW := hid (fun W (h : KW w W) => rspots_yes l n A c list W l0 l1 hn hlen (hA.kw h))
  have HCt := hid (fun W a p v j (h : RT W v (Mc.up (Mc.new l n) list j).tags) => rcount_any a p v _ W (by rw [Mc.up_len]; simpa [Mc.new] using hn) h.rt0)
  have HTot := hid (fun (h : Mc.okTo (Mc.new l n) list list.length) => Mc.sum_tot (Mc.new_inv l n l0 l1 hn) rfl (by exact hL : ((L : Nat) : Int) = (Mc.new l n).l) list.length h)
  have HPk := hid (Mc.peak_r (m := Mc.new l n) (l := list) (Mc.cnt_new n) list.length)
  have HAc := hid hA
  have HKd := hid (fun (h : Mc.okTo (Mc.new l n) list list.length) k (hk : k < list.length) => (Mc.right_of_er (h k hk)).2)
  have HCb := hid (fun j => Nat.le_trans (Mc.cnt_le (Mc.up (Mc.new l n) list j).tags) (by rw [Mc.up_len]; simpa [Mc.new] using hn) : ∀ j, Mc.cnt (Mc.up (Mc.new l n) list j).tags ≤ 1048576)
  unfold RSpotsP at HSpW
  unfold ProfP
  clear hA HSp
  generalize Mc.new l n = m0 at *
  generalize hN : list.length = N at *
  have HLn := hid hN
  clear hN
  have HR0 : Hid ((w.alloc (.cells zero14 35)).rowIs w.heap.size 35 14 (pfv 0 0 0 (fun _ => 0) (.slice none 0 0))) := World.rowIs_alloc w zero14 35 _ fun i hi => by rw [pfv_zero]; exact pfA_get _ _ _ _ _ i (by simpa [zero14] using hi)
  have HL := hid hL
  subst hL
  go_enter Try.func17, Try.ntmps17
  go_wp2_with fail
  refine (HSpW.out _ ((KW.refl w).alloc _)).mono ?_
  rintro e w1 ⟨hk1, h⟩
  have HR1 := hid (KW.row hk1 HR0.out.lt HR0.out)
  have HK1 : Hid (KW w w1) := ((KW.refl w).alloc _).t hk1
  clear hk1 HR0
  rcases h with ⟨As, cs, hok, rfl, hsp⟩ | ⟨k, hk, hok, her, rfl⟩
  · have HOK := hid hok
    have HM := hid hsp
    clear hok hsp
    go_wp2_with fail
    refine wpCode_world (fun W => W.rowIs w1.heap.size 35 14 (pfv 0 0 0 (fun _ => 0) (.slice none 0 0)) ∧ KW w1 W ∧ w1.heap.size + 1 ≤ W.heap.size) ⟨World.rowIs_alloc w1 zero14 35 _ fun i hi => by rw [pfv_zero]; exact pfA_get _ _ _ _ _ i (by simpa [zero14] using hi), (KW.refl w1).alloc _, by simp⟩ ?_
    rintro W1 ⟨hrW, hkW, hzW⟩
    have HRW := hid hrW
    have HKW := hid hkW
    have HZW := hid hzW
    clear hrW hkW hzW
    have hf : ∃ f : Nat → Int, f = fun i : Nat => Mc.sp m0 list i N := ⟨_, rfl⟩
    obtain ⟨f, hf⟩ := hf
    have HF := hid hf
    have HFb : Hid (∀ i, 0 ≤ f i ∧ f i ≤ 1099511627776) := fun i => by
      have h := Mc.sp_b m0 list (i : Int) N
      subst hf
      exact ⟨h.1, Int.le_trans h.2 (by omega)⟩
    clear hf
    go_loopw [13] (fun i wr => ∃ (j : Nat) (s : Value), j ≤ L ∧ i = .int .i64 j ∧ Hid (wr.rowIs w1.heap.size 35 14 (pfv (Mc.sum f j) 0 (Mc.top f j) (fun _ => 0) s)) ∧ Hid (Owns wr (w1.heap.size + 1) 3 s (ints ((List.range j).map f))) ∧ Hid (KW w1 wr) ∧ Hid (w1.heap.size + 1 ≤ wr.heap.size)) (fun i _ => L - (intOf i).toNat)
    case atStart => exact ⟨0, _, by omega, rfl, HRW, Owns.nil _ _ _, HKW, HZW⟩
    case round =>
      obtain ⟨j, s, hj, rfl, HRj, HOj, HKj, HZj⟩ := hrel
      obtain ⟨As2, c2, hs2, _⟩ := HOj.out.row
      rw [ints_range_len] at hs2
      subst hs2
      by_cases hlt : j < L
      · have L5 : (j : Int) < (L : Int) := by omega
        go_wp2_with fail
        go_loop [14, 15] (fun q i => ∃ k : Nat, k ≤ N ∧ i = .int .i64 k ∧ q = .int .i64 (Mc.sp m0 list j k)) (fun _ i => N - (intOf i).toNat)
        case atStart => exact ⟨0, by omega, rfl, rfl⟩
        case round =>
          obtain ⟨k, hk, rfl, rfl⟩ := hrel
          by_cases hlt2 : k < N
          · obtain ⟨b', off, rfl, hb', hc1, _⟩ := (HAc.out.kw (HK1.out.t HKj.out)).at_ (show k < list.length by rw [HLn.out]; exact hlt2)
            obtain ⟨b, v, rfl, hb, hbw, d0, _, _, _⟩ := (HM.out.kw HKj.out).at_ (j := k) (by omega)
            obtain ⟨_, v2, hbe, _, _, d1, _, _, _⟩ := (HM.out.kw HKj.out).at_ (j := k + 1) (by omega)
            cases hbe
            have HSs := hid (show Mc.sp m0 list (j : Int) (k + 1) = Mc.sp m0 list j k + Mc.one m0 list j k from rfl)
            have HOo := hid (show Mc.one m0 list (j : Int) k = if (list.getD k (0, 0)).1 = 1 ∧ (Mc.up m0 list k).at_ ≤ (j : Int) ∧ (j : Int) < (Mc.up m0 list (k + 1)).at_ then 1 else 0 from rfl)
            have HSb := hid (Mc.sp_b m0 list j k)
            generalize (list.getD k (0, 0)).1 = x at *
            generalize (Mc.up m0 list k).at_ = a1 at *
            generalize (Mc.up m0 list (k + 1)).at_ = a2 at *
            generalize hsp : Mc.sp m0 list (j : Int) k = sp at *
            have L6 : (k : Int) < (N : Int) := by omega
            have L7 : (k : Int) < (N : Int) + 1 := by omega
            have L8 : (k : Int) + 1 < (N : Int) + 1 := by omega
            have K1 : IntKind.i64.wrap ((k : Int) + 1) = (k : Int) + 1 := IntWalk.i64_in _ (by omega)
            have K2 : (0 : Int) ≤ (k : Int) + 1 := by omega
            have K3 : ((k : Int) + 1).toNat = k + 1 := by omega
            have K4 : IntKind.i64.wrap (sp + 1) = sp + 1 := IntWalk.i64_in _ (by have := HSb.out; omega)
            by_cases hx : x = 1
            · subst hx
              by_cases h1 : a1 ≤ (j : Int)
              · by_cases h2 : (j : Int) < a2
                · have HO1 : Hid (Mc.one m0 list (j : Int) k = 1) := HOo.out.trans (if_pos ⟨rfl, h1, h2⟩)
                  rw [HO1.out] at HSs
                  clear HOo
                  go_wp2_with fail
                  go_round
                  case rel => exact ⟨k + 1, by omega, by go_num, by rw [HSs.out] <;> simp⟩
                  case measure => simp [intOf]; omega
                · have d2 : decide ((j : Int) < a2) = false := decide_eq_false h2
                  have HO1 : Hid (Mc.one m0 list (j : Int) k = 0) := HOo.out.trans (if_neg fun h => h2 h.2.2)
                  rw [HO1.out] at HSs
                  clear HOo h2
                  go_wp2_with fail
                  go_round
                  case rel => exact ⟨k + 1, by omega, by go_num, by rw [HSs.out] <;> simp⟩
                  case measure => simp [intOf]; omega
              · have d1' : decide (a1 ≤ (j : Int)) = false := decide_eq_false h1
                have HO1 : Hid (Mc.one m0 list (j : Int) k = 0) := HOo.out.trans (if_neg fun h => h1 h.2.1)
                rw [HO1.out] at HSs
                clear HOo h1
                go_wp2_with fail
                go_round
                case rel => exact ⟨k + 1, by omega, by go_num, by rw [HSs.out] <;> simp⟩
                case measure => simp [intOf]; omega
            · have d3 : (x == 1) = false := by simpa using hx
              have HO1 : Hid (Mc.one m0 list (j : Int) k = 0) := HOo.out.trans (if_neg fun h => hx h.1)
              rw [HO1.out] at HSs
              clear HOo hx
              go_wp2_with fail
              go_round
              case rel => exact ⟨k + 1, by omega, by go_num, by rw [HSs.out] <;> simp⟩
              case measure => simp [intOf]; omega
          · obtain rfl : k = N := by omega
            clear hlt2
            have HFj := hid (show f j = Mc.sp m0 list j k from by rw [HF.out])
            rw [← HFj.out]
            have HSu := hid (show Mc.sum f (j + 1) = Mc.sum f j + f j from rfl)
            have HTu := hid (show Mc.top f (j + 1) = max (Mc.top f j) (f j) from rfl)
            have HSn := hid (And.intro (Mc.sum_nn f j fun i _ => (HFb.out i).1) (Mc.sum_le f j 1099511627776 fun i _ => (HFb.out i).2))
            have HRS := hid (ints_range_succ f j)
            have HRL := hid (ints_range_len f j)
            have HFbj := hid (HFb.out j)
            generalize hfj : f j = fj at *
            generalize hsj : Mc.sum f j = tj at *
            generalize htj : Mc.top f j = mj at *
            have c13 := HRj.out.cell (i := 13) (by omega)
            have e13 : pfv tj 0 mj (fun _ => 0) (.slice As2 j c2) 13 = .slice As2 j c2 := rfl
            rw [e13] at c13
            clear e13
            go_wp2_with (at_builtin; refine wpList_world (fun W => W = wr.alloc (.cells #[.int .i64 fj] 3)) rfl ?_)
            intro WW hWW
            subst hWW
            refine wpList_app1 rfl sliceInt1 rfl (W := wr) (v := .slice As2 j c2) (base := w1.heap.size + 1) (u := .int .i64 fj) (c := 1) (xs := ints ((List.range j).map f)) (by simp [Act.eval]) (by simp [Act.eval]) rfl HOj.out HZj.out (by rw [HRL.out]; omega) (by rw [HRL.out]; omega) ?_
            intro v5 w5 hown hgrow
            rw [← HRS.out] at hown
            have HO5 := hid hown
            obtain ⟨A5, c5, hv5, _⟩ := hown.row
            rw [ints_range_len] at hv5
            subst hv5
            have HR5 := hid (HRj.out.of_block (hgrow.block _ (by omega)))
            have HK5 : Hid (KW w1 w5) := HKj.out.trans (hgrow.mono (by omega))
            have HZ5 : Hid (w1.heap.size + 1 ≤ w5.heap.size) := Nat.le_trans HZj.out hgrow.size
            have g13 := HR5.out.cell (i := 13) (by omega)
            have g0 := HR5.out.cell (i := 0) (by omega)
            have g2 := HR5.out.cell (i := 2) (by omega)
            have q13 := HR5.out.frozen 13
            have q0 := HR5.out.frozen 0
            have q2 := HR5.out.frozen 2
            have e0 : pfv tj 0 mj (fun _ => 0) (.slice As2 j c2) 0 = .int .i64 tj := rfl
            have e2 : pfv tj 0 mj (fun _ => 0) (.slice As2 j c2) 2 = .int .i64 mj := rfl
            rw [e0] at g0
            rw [e2] at g2
            have hb5 := HR5.out.lt
            have K1 : IntKind.i64.wrap (tj + fj) = tj + fj := IntWalk.i64_in _ (by have := HSn.out; have := HFbj.out; omega)
            clear hown hgrow e0 e2 c13
            have hmax : ∃ mz, (if mj < fj then fj else mj) = mz ∧ max mj fj = mz := ⟨max mj fj, by split <;> omega, rfl⟩
            obtain ⟨mz, hmz, hmz2⟩ := hmax
            have HMZ := hid (HTu.out.trans hmz2)
            clear hmz2
            have HPf : Hid ((((w5.setCell ⟨w1.heap.size, 13, none⟩ (.slice A5 (j + 1) c5)).setCell ⟨w1.heap.size, 0, none⟩ (.int .i64 (tj + fj))).setCell ⟨w1.heap.size, 2, none⟩ (.int .i64 mz)).rowIs w1.heap.size 35 14 (pfv (tj + fj) 0 mz (fun _ => 0) (.slice A5 (j + 1) c5))) :=
              (((HR5.out.set 13 _).set 0 _).set 2 _).congr fun i hi => by
                by_cases i2 : i = 2
                · subst i2; rfl
                · rw [if_neg i2]
                  by_cases i0 : i = 0
                  · subst i0; rfl
                  · rw [if_neg i0]
                    by_cases i13 : i = 13
                    · subst i13; rfl
                    · rw [if_neg i13]; unfold pfv; rw [if_neg i0, if_neg i2, if_neg i13, if_neg i0, if_neg i2, if_neg i13]
            have HOf : Hid (Owns (((w5.setCell ⟨w1.heap.size, 13, none⟩ (.slice A5 (j + 1) c5)).setCell ⟨w1.heap.size, 0, none⟩ (.int .i64 (tj + fj))).setCell ⟨w1.heap.size, 2, none⟩ (.int .i64 mz)) (w1.heap.size + 1) 3 (.slice A5 (j + 1) c5) (ints ((List.range (j + 1)).map f))) :=
              HO5.out.of_blocks fun i hi => by
                have hne : i ≠ w1.heap.size := by have := (HO5.out.lt hi).1; omega
                rw [heap_setCell_other _ _ i _ hne, heap_setCell_other _ _ i _ hne, heap_setCell_other _ _ i _ hne]
            have HKf : Hid (KW w1 (((w5.setCell ⟨w1.heap.size, 13, none⟩ (.slice A5 (j + 1) c5)).setCell ⟨w1.heap.size, 0, none⟩ (.int .i64 (tj + fj))).setCell ⟨w1.heap.size, 2, none⟩ (.int .i64 mz))) :=
              ((((HK5.out.keep (own := (· = w1.heap.size))).setCell _ _ rfl).setCell _ _ rfl).setCell _ _ rfl |> fun h => (KW.refl w1).kept h fun i hi => by omega)
            have HZf : Hid (w1.heap.size + 1 ≤ (((w5.setCell ⟨w1.heap.size, 13, none⟩ (.slice A5 (j + 1) c5)).setCell ⟨w1.heap.size, 0, none⟩ (.int .i64 (tj + fj))).setCell ⟨w1.heap.size, 2, none⟩ (.int .i64 mz)).heap.size) := by have := HZ5.out; simp; exact hid (by omega)
            go_wp2_with fail
            go_roundw
            case rel => exact ⟨j + 1, _, by omega, by go_num, by rw [HSu.out, HMZ.out]; exact HPf, HOf, HKf, HZf⟩
            case measure => simp [intOf]; omega
      · obtain rfl : j = L := by omega
        clear hlt
        have HTt := hid (HTot.out HOK.out)
        have HFs := hid (show Mc.sum f j = Mc.sum (fun (i : Nat) => Mc.sp m0 list i N) j from by rw [HF.out])
        have HFt := hid (show Mc.top f j = Mc.top (fun (i : Nat) => Mc.sp m0 list i N) j from by rw [HF.out])
        generalize hsj : Mc.sum f j = tj at *
        generalize htj : Mc.top f j = mj at *
        generalize hss : Value.slice As2 j c2 = s at *
        have HSl := hid hss
        have hs1 : s.oneCell' = true := by rw [← hss]; rfl
        have HS1 := hid hs1
        clear hss hs1 hsj htj
        go_wp2_with fail
        go_loopw [16] (fun i wr => ∃ k : Nat, k ≤ N + 1 ∧ i = .int .i64 k ∧ Hid (wr.rowIs w1.heap.size 35 14 (pfv tj (Mc.rpeak m0 list k) mj (fun _ => 0) s)) ∧ Hid (Owns wr (w1.heap.size + 1) 3 s (ints ((List.range j).map f))) ∧ Hid (KW w1 wr) ∧ Hid (w1.heap.size + 1 ≤ wr.heap.size)) (fun i _ => N + 1 - (intOf i).toNat)
        case atStart => exact ⟨0, by omega, rfl, HRj, HOj, HKj, HZj⟩
        case round =>
          obtain ⟨k, hk, rfl, HR2, HO2, HK2, HZ2⟩ := hrel
          by_cases hlt : k < N + 1
          · obtain ⟨b, v, rfl, hb, hbw, d0, d1, d2, hrt⟩ := (HM.out.kw HK2.out).at_ (j := k) (by omega)
            have HRT := hid hrt
            obtain ⟨A1, cc1, hv1, _⟩ := hrt
            subst hv1
            have HC1 := hid (fun W a p (h : RT W (.slice A1 (Mc.up m0 list k).tags.length cc1) (Mc.up m0 list k).tags) => HCt.out W a p _ k h)
            have HPs := hid (show Mc.rpeak m0 list (k + 1) = max (Mc.rpeak m0 list k) (Mc.cnt (Mc.up m0 list k).tags) from rfl)
            generalize (Mc.cnt (Mc.up m0 list k).tags) = n1 at *
            generalize (Mc.up m0 list k).at_ = x0 at *
            generalize (Mc.up m0 list k).pend = x1 at *
            generalize (Mc.up m0 list k).tags = tg1 at *
            generalize tg1.length = T1 at *
            generalize Mc.rpeak m0 list k = pk at *
            have c1 := HR2.out.cell (i := 1) (by omega)
            have e1 : pfv tj (pk : Int) mj (fun _ => 0) s 1 = .int .i64 pk := rfl
            rw [e1] at c1
            have L6 : (k : Int) < (N : Int) + 1 := by omega
            have HBW : Hid (b < wr.heap.size) := hbw
            have HX := hid (And.intro c1 (And.intro d0 (And.intro d1 d2)))
            have HSS := hid (fun w' (hq : KW wr w') => And.intro (KW.cell hq HR2.out.lt HX.out.1) (And.intro (KW.cell hq HBW.out HX.out.2.1) (And.intro (KW.cell hq HBW.out HX.out.2.2.1) (KW.cell hq HBW.out HX.out.2.2.2))))
            clear c1 d0 d1 d2 e1 hbw
            go_wp2_with fail
            have hXS := HSS.out _ (KW.refl wr).drew
            refine wpX_region (S := fun w' => w'.cell? ⟨w1.heap.size, 1, none⟩ = some (.int .i64 pk) ∧ w'.cell? ⟨b, k * 3, none⟩ = some (.int .i64 x0) ∧ w'.cell? ⟨b, k * 3 + 1, none⟩ = some (.int .i64 x1) ∧ w'.cell? ⟨b, k * 3 + 2, none⟩ = some (.slice A1 T1 cc1)) (L := 9) (by kernel_rfl) ?_
            refine wpX_take (i := 0) (v := ?_) rfl rfl (by kernel_rfl) (fun _ _ _ h => h) (Or.inl ⟨rfl, fun wS hwS => ?_⟩) hXS ?_
            rotate_left
            · go_simp; try rfl
            simp only [List.set_cons_zero, List.set_cons_succ]
            refine wpX_take (i := 1) (v := ?_) rfl rfl (by kernel_rfl) (fun _ _ _ h => h) (Or.inl ⟨rfl, fun wS hwS => ?_⟩) hXS ?_
            rotate_left
            · go_simp; try rfl
            simp only [List.set_cons_zero, List.set_cons_succ]
            refine wpX_take (i := 2) (v := ?_) rfl rfl (by kernel_rfl) (fun _ _ _ h => h) (Or.inl ⟨rfl, fun wS hwS => ?_⟩) hXS ?_
            rotate_left
            · go_simp; try rfl
            simp only [List.set_cons_zero, List.set_cons_succ]
            refine wpX_take (i := 3) (v := ?_) rfl rfl (by kernel_rfl) (fun _ _ _ h => h) (Or.inl ⟨rfl, fun wS hwS => ?_⟩) hXS ?_
            rotate_left
            · go_simp; try rfl
            simp only [List.set_cons_zero, List.set_cons_succ]
            refine wpX_take (i := 4) (v := ?_) rfl rfl (by kernel_rfl) (fun _ _ _ h => h) (Or.inl ⟨rfl, fun wS hwS => ?_⟩) hXS ?_
            rotate_left
            · go_simp; try rfl
            simp only [List.set_cons_zero, List.set_cons_succ]
            refine wpX_take (i := 5) (v := ?_) rfl rfl (by kernel_rfl) (fun _ _ _ h => h) (Or.inl ⟨rfl, fun wS hwS => ?_⟩) hXS ?_
            rotate_left
            · go_simp; try rfl
            simp only [List.set_cons_zero, List.set_cons_succ]
            refine wpX_hard (k := 6) (by kernel_rfl) rfl (fun K hK => ?_)
            go_simp
            (refine (HC1.out _ _ _ (HRT.out.kw (KW.refl wr).drew)).mono ?_; rintro e w3 ⟨rfl, hb3⟩; have HB3 : Hid (KW wr w3) := (KW.refl wr).drew.t hb3)
            refine hK _ _ (fun _ => HSS.out _ HB3.out) ?_
            clear hK K
            try simp only [List.set_cons_zero, List.set_cons_succ]
            clear hXS
            have hXS := HSS.out _ HB3.out
            refine wpX_take (i := 7) (v := .int .i64 ((max pk n1 : Nat) : Int)) rfl rfl (by kernel_rfl) (fun _ _ _ h => h) (Or.inl ⟨rfl, fun wS hwS => ?_⟩) hXS ?_
            · go_simp
              exact maxite pk n1
            simp only [List.set_cons_zero, List.set_cons_succ]
            refine wpX_take (i := 8) (v := ?_) rfl rfl (by kernel_rfl) (fun _ _ _ h => h) (Or.inl ⟨rfl, fun wS hwS => ?_⟩) hXS ?_
            rotate_left
            · go_simp; try rfl
            simp only [List.set_cons_zero, List.set_cons_succ]
            have HR3 := hid (KW.row HB3.out HR2.out.lt HR2.out)
            have c1' := HR3.out.cell (i := 1) (by omega)
            have f1' := HR3.out.frozen 1
            clear hXS
            refine wpX_hard (k := 9) (by kernel_rfl) rfl (fun K hK => ?_)
            go_simp
            refine hK _ _ (fun h => absurd rfl h) ?_
            clear hK K c1' f1'
            refine wpX_done (by kernel_rfl) ?_
            have HR4 : Hid ((w3.setCell ⟨w1.heap.size, 1, none⟩ (.int .i64 ((max pk n1 : Nat) : Int))).rowIs w1.heap.size 35 14 (pfv tj ((max pk n1 : Nat) : Int) mj (fun _ => 0) s)) := (HR3.out.set 1 _).congr fun i hi => pfv_set_pk _ _ _ _ _ _ i
            have HK4 : Hid (KW w1 (w3.setCell ⟨w1.heap.size, 1, none⟩ (.int .i64 ((max pk n1 : Nat) : Int)))) := Below.setCell (p := ⟨w1.heap.size, 1, none⟩) (show Below w1.heap.size w1 w3 from HK2.out.t HB3.out) (Nat.le_refl _) _
            have HO4 : Hid (Owns (w3.setCell ⟨w1.heap.size, 1, none⟩ (.int .i64 ((max pk n1 : Nat) : Int))) (w1.heap.size + 1) 3 s (ints ((List.range j).map f))) := (HO2.out.on HB3.out).of_blocks fun i hi => heap_setCell_other _ _ i _ (by have := (HO2.out.lt hi).1; show i ≠ w1.heap.size; omega)
            have HZ4 : Hid (w1.heap.size + 1 ≤ (w3.setCell ⟨w1.heap.size, 1, none⟩ (.int .i64 ((max pk n1 : Nat) : Int))).heap.size) := by have := HZ2.out; have := HB3.out.size; simp; exact hid (by omega)
            generalize (w3.setCell ⟨w1.heap.size, 1, none⟩ (.int .i64 ((max pk n1 : Nat) : Int))) = W4 at *
            generalize hpk : max pk n1 = pk2 at *
            go_wp2_with fail
            go_roundw
            case rel => exact ⟨k + 1, by omega, by go_num, by rw [HPs.out]; exact HR4, HO4, HK4, HZ4⟩
            case measure => simp [intOf]; omega
          · obtain rfl : k = N + 1 := by omega
            clear hlt
            rw [← HPk.out] at HR2
            obtain ⟨pk, hpk⟩ : ∃ pk, Mc.peak m0 list N = pk := ⟨_, rfl⟩
            rw [hpk] at HR2
            have HPK := hid hpk
            clear hpk
            go_wp2_with fail
            go_loopw [17] (fun i wr => ∃ k : Nat, k ≤ N ∧ i = .int .i64 k ∧ Hid (wr.rowIs w1.heap.size 35 14 (pfv tj pk mj (fun c => Mc.kd list c k) s)) ∧ Hid (Owns wr (w1.heap.size + 1) 3 s (ints ((List.range j).map f))) ∧ Hid (KW w1 wr) ∧ Hid (w1.heap.size + 1 ≤ wr.heap.size)) (fun i _ => N - (intOf i).toNat)
            case atStart => exact ⟨0, by omega, rfl, HR2, HO2, HK2, HZ2⟩
            case round =>
              obtain ⟨k, hk, rfl, HR3, HO3, HK3, HZ3⟩ := hrel
              by_cases hlt : k < N
              · obtain ⟨b', off, rfl, hb', hc1, _⟩ := (HAc.out.kw (HK1.out.t HK3.out)).at_ (show k < list.length by rw [HLn.out]; exact hlt)
                have hkb := HKd.out HOK.out k hlt
                obtain ⟨q, hq⟩ : ∃ q : Nat, (list.getD k (0, 0)).1 = q := ⟨(list.getD k (0, 0)).1.toNat, by omega⟩
                have HQ : Hid (∀ c : Nat, Mc.kd list c (k + 1) = Mc.kd list c k + if c = q then 1 else 0) := fun c => by
                  simp only [Mc.kd]
                  rw [hq]
                  by_cases h : c = q
                  · rw [if_pos h, if_pos (by omega)]
                  · rw [if_neg h, if_neg (by omega)]
                have HKb := hid (Mc.kd_b list q k)
                rw [hq] at hc1 hkb
                clear hq
                have cq := HR3.out.cell (i := 3 + q) (by omega)
                rw [pfv_kd tj pk mj (fun c => Mc.kd list c k) s (c := q) (by omega)] at cq
                have fq := HR3.out.frozen (3 + q)
                have hbq := HR3.out.lt
                generalize hkdf : (fun c : Nat => Mc.kd list c k) = kdf at *
                have hkq : Mc.kd list q k = kdf q := by rw [← hkdf]
                have HKq := hid hkq
                have HKdf := hid (fun c => (show Mc.kd list (c : Nat) k = kdf c from by rw [← hkdf]))
                rw [HKq.out] at HKb
                try rw [hkq] at cq
                clear hkq hkdf
                have K1 : IntKind.i64.wrap (kdf q + 1) = kdf q + 1 := IntWalk.i64_in _ (by have := HKb.out; omega)
                have K2 : q < 10 := by omega
                have K3 : (q : Int) < 10 := by omega
                have L6 : (k : Int) < (N : Int) := by omega
                have HR4 : Hid ((wr.setCell ⟨w1.heap.size, 3 + q, none⟩ (.int .i64 (kdf q + 1))).rowIs w1.heap.size 35 14 (pfv tj pk mj (fun c => Mc.kd list c (k + 1)) s)) := (HR3.out.set (3 + q) _).congr fun i hi => by
                  have e5 : (fun c : Nat => Mc.kd list c (k + 1)) = fun c => kdf c + if c = q then 1 else 0 := by
                    funext c
                    rw [HQ.out c, HKdf.out c]
                  rw [e5]
                  exact pfv_set_kd _ _ _ _ _ (by omega) i hi
                have HK4 : Hid (KW w1 (wr.setCell ⟨w1.heap.size, 3 + q, none⟩ (.int .i64 (kdf q + 1)))) := Below.setCell (p := ⟨w1.heap.size, 3 + q, none⟩) (show Below w1.heap.size w1 wr from HK3.out) (Nat.le_refl _) _
                have HO4 : Hid (Owns (wr.setCell ⟨w1.heap.size, 3 + q, none⟩ (.int .i64 (kdf q + 1))) (w1.heap.size + 1) 3 s (ints ((List.range j).map f))) := HO3.out.of_blocks fun i hi => heap_setCell_other _ _ i _ (by have := (HO3.out.lt hi).1; show i ≠ w1.heap.size; omega)
                have HZ4 : Hid (w1.heap.size + 1 ≤ (wr.setCell ⟨w1.heap.size, 3 + q, none⟩ (.int .i64 (kdf q + 1))).heap.size) := by have := HZ3.out; simp; exact hid (by omega)
                go_wp2_with fail
                go_roundw
                case rel => exact ⟨k + 1, by omega, by go_num, HR4, HO4, HK4, HZ4⟩
                case measure => simp [intOf]; omega
              · obtain rfl : k = N := by omega
                clear hlt
                have HW5 : Hid (wr.heap[w1.heap.size]? = some (.cells (pfA tj pk mj (fun c => Mc.kd list c k) s) 35 (0, 0))) := whole HR3.out
                have HR6 := hid (KW.row HK3.out HR1.out.lt HR1.out)
                go_wp2_with (first
                  | (refine wpList_load_row rfl 35 _ rfl w1.heap.size rfl 35 _ (0, 0) _ HW5.out Try.underlying35 rfl (by kernel_rfl) ?_)
                  | (refine wpList_store_is rfl 35 _ _ rfl w.heap.size 14 35 _ (pfv tj pk mj (fun c => Mc.kd list c k) s) (pfA tj pk mj (fun c => Mc.kd list c k) s) rfl rfl HR6.out (by kernel_rfl) (pfA_size _ _ _ _ _) (pfA_get _ _ _ _ _) (fun i _ => pfv_one _ _ _ _ _ HS1.out i) ?_))
                intro w6 hrow hkeep _
                have HH : Hid (w6.heap[w.heap.size]? = some (.cells (pfA tj pk mj (fun c => Mc.kd list c k) s) 35 (0, 0))) := whole hrow
                have HK6 : Hid (KW w w6) := (HK1.out.t HK3.out).kept hkeep fun i hi => by omega
                have HO6 := hid (hkeep.owns HO3.out fun i hi h => by have := (HO3.out.lt hi).1; have := HK1.out.size; omega)
                clear hrow hkeep
                go_wp2_with fail
                refine bodyPost_ret (results_ctt rfl _ _ w.heap.size _ _ (0, 0) _ rfl HH.out Try.underlying35 rfl (by rw [pfA_size]; kernel_rfl)) rfl ?_
                refine ⟨HK6.out, .inl ⟨HOK.out, s, ?_, ?_⟩⟩
                · rw [← HTt.out, ← HFs.out, ← HFt.out, HPK.out]; rfl
                · have h := HO6.out.iw0
                  rw [HF.out] at h
                  exact h
  · have HOK := hid hok
    have HE := hid her
    have HKN := hid hk
    clear hok hk
    generalize hc : Mc.er m0 list k = er at *
    have HC := hid hc
    clear hc
    have d : (er != 0) = true := by simpa using her
    have d2 : (er == 0) = false := by simpa using her
    clear her
    go_wp2_with (refine wpList_store_is rfl 35 _ _ rfl w.heap.size 14 35 _ (pfv 0 0 0 (fun _ => 0) (.slice none 0 0)) zero14 rfl rfl HR1.out (by kernel_rfl) rfl ?qa1 ?qa2 ?_)
    case qa1 => intro i hi; rw [pfv_zero]; exact pfA_get _ _ _ _ _ _ hi
    case qa2 => intro i hi; exact pfv_one _ _ _ _ _ rfl _
    intro w2 hrow hkeep _
    have HH : Hid (w2.heap[w.heap.size]? = some (.cells zero14 35 (0, 0))) := whole hrow
    have HK2 : Hid (KW w w2) := HK1.out.kept hkeep fun i hi => by omega
    clear hrow hkeep
    go_wp2_with fail
    refine bodyPost_ret (results_ctt rfl _ _ w.heap.size _ _ (0, 0) _ rfl HH.out Try.underlying35 rfl (by kernel_rfl)) rfl ?_
    exact ⟨HK2.out, .inr ⟨k, HKN.out, HOK.out, by rw [HC.out]; exact HE.out, by rw [HC.out]; rfl⟩⟩
end Go.Proofs.Ytkdamcacmecnaaa
