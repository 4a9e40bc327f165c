/- The walk of RevolveReps. -/
import Derived.Test.YtgadkelldbibgaaV9
import Derived.StillTailTactics
namespace Go.Proofs.Ytgadkelldbibgaa
open Go.ChangeShapes Go.WideShapes Go.ChangeAt Go.RowKit
set_option linter.unusedVariables false

theorem oft_step : ∀ (L : List Mc.Act) (m : Mc.St) (k : Nat) (x : Int), k < L.length → Rv.oft m (L.take (k + 1)) x = Rv.oft m (L.take k) x + if (L.getD k (0, 0)).1 = 1 ∧ (Mc.up m L k).at_ ≤ x ∧ x < (Mc.up m L k).at_ + (L.getD k (0, 0)).2 then 1 else 0
  | [], m, k, x, h => by simp at h
  | a :: L, m, 0, x, h => by simp [Rv.oft, Mc.up]
  | a :: L, m, k + 1, x, h => by
    have ih := oft_step L (Mc.step m a.1 a.2).1 k x (by simpa using h)
    rw [List.take_succ_cons, List.take_succ_cons, up_cons]
    show _ + Rv.oft (Mc.step m a.1 a.2).1 (L.take (k + 1)) x = _ + Rv.oft (Mc.step m a.1 a.2).1 (L.take k) x + _
    rw [ih, List.getD_cons_succ]
    omega
theorem oft_take_le : ∀ (L : List Mc.Act) (m : Mc.St) (k : Nat) (x : Int), Rv.oft m (L.take k) x ≤ Rv.oft m L x
  | [], m, k, x => by simp
  | a :: L, m, 0, x => by simp [Rv.oft]
  | a :: L, m, k + 1, x => by
    have ih := oft_take_le L (Mc.step m a.1 a.2).1 k x
    rw [List.take_succ_cons]
    simp only [Rv.oft]
    omega
theorem reps30_goes (l s : Int) (w : World) (h : l < 1 ∨ 300 < l ∨ s < 1 ∨ 60 < s) :
    Calls Try.prog 5 #[.int .i64 l, .int .i64 s] w fun e w' => e = .returned (.bool true) ∧ KW w w' := by
  have hk := KW.refl w
  have hx : l < 1 ∨ (decide (l < 1) = false ∧ 300 < l) ∨ (decide (l < 1) = false ∧ decide (300 < l) = false ∧ s < 1) ∨ (decide (l < 1) = false ∧ decide (300 < l) = false ∧ decide (s < 1) = false ∧ 60 < s) := by
    simp only [decide_eq_false_iff_not]
    omega
  clear h
  rcases hx with h0 | ⟨d0, h1⟩ | ⟨d0, d1, h2⟩ | ⟨d0, d1, d2, h3⟩
  all_goals
    go_enter Try.func5, Try.ntmps5
    go_wp2_with (go_at_call 13; refine (goes30_any _).mono ?_; rintro e w1 ⟨rfl, hb⟩; replace hk := hk.t hb; clear hb)
    go_ret
    exact ⟨rfl, hk⟩
theorem rvspot_at (A : Option Addr) (n c : Nat) (a p : Int) (W : World) : (Instr.field 24 (.agg #[.int .i64 a, .int .i64 p, .slice A n c]) 0).run Try.prog W = .ok (.int .i64 a) W := by kernel_rfl
set_option maxRecDepth 100000 in
set_option maxHeartbeats 4000000 in
theorem reps30_main (l n : Nat) (w : World) (hl0 : 1 ≤ l) (hl : l ≤ 300) (hn : 1 ≤ n ∧ n ≤ 60) :
    Calls Try.prog 5 #[.int .i64 l, .int .i64 n] w fun e w' => e = .returned (.bool true) ∧ KW w w' := by
  have hlen := Rv.rl_len (l := l) (n := n) (by omega) hn.1
  have H1 := hid (fun W => rvlist_yes l n W (by omega) (by omega))
  have H2 := hid (fun W => reps_yes l n W (by omega) (by omega) (by omega))
  have H3 := hid (fun W => new_yes l n W (by omega) (by omega) (by omega))
  obtain ⟨hok, hup⟩ := rvdoes_ok (Rv.rl_goes (l := l) (n := n) (by omega) (by omega)).does
  have HOK := hid hok
  have HUp := hid hup
  have HI := hid (fun j => Mc.up_inv (Mc.new_inv (l : Int) n (by omega) (by omega) (by omega)) (Rv.rl l n) j)
  have HT := hid (fun j => (Mc.up_tot (Mc.new (l : Int) n) (Rv.rl l n) j).2)
  have HTl := hid (fun j => Mc.up_len (Mc.new (l : Int) n) (Rv.rl l n) j)
  have HUl := hid (fun j => Mc.up_l (Mc.new (l : Int) n) (Rv.rl l n) j)
  rw [show (Mc.new (l : Int) n).tot = 0 from rfl] at HT
  rw [show (Mc.new (l : Int) n).tags.length = n from by simp [Mc.new]] at HTl
  rw [show (Mc.new (l : Int) n).l = l from rfl] at HUl
  have hr := Ch.rp_le l n hn.1
  have HOf := hid (fun k x => Nat.le_trans (oft_take_le (Rv.rl l n) (Mc.new l n) k x) (Rv.rl_oft hl0 (by omega) (by omega) x))
  have HOs := hid (fun k x h => oft_step (Rv.rl l n) (Mc.new l n) k x h)
  have HO0 : Hid (∀ x, Rv.oft (Mc.new l n) ((Rv.rl l n).take 0) x = 0) := fun x => rfl
  unfold ActsP at H1
  unfold NewP at H3
  clear hok hup
  generalize Rv.rl l n = L at *
  generalize Ch.rp l n = r at *
  generalize Mc.new (l : Int) n = m0 at *
  generalize hof : (fun k x => Rv.oft m0 (L.take k) x) = of at *
  have HDf : Hid (∀ k x, Rv.oft m0 (L.take k) x = of k x) := fun k x => by rw [← hof]
  simp only [HDf.out] at HOf HOs HO0
  clear hof HDf
  have d0 : decide ((l : Int) < 1) = false := decide_eq_false (by omega)
  have d1 : decide (300 < (l : Int)) = false := decide_eq_false (by omega)
  have d2 : decide ((n : Int) < 1) = false := decide_eq_false (by omega)
  have d3 : decide (60 < (n : Int)) = false := decide_eq_false (by omega)
  have ll : (L.length : Int) ≤ 1501 := by omega
  have lr : (r : Int) ≤ 300 := by omega
  have ll2 : (l : Int) ≤ 300 := by omega
  have HLl := hid hl
  clear hlen hr
  have hmk := fun W => run_make_row' (P := Try.prog) 22 3 (.int .i64 0) 8 Try.underlying22 (by kernel_rfl) rfl .i64 .i64 l (by omega) (by omega) W
  go_enter Try.func5, Try.ntmps5
  go_wp2_with fail
  refine (H1.out _).mono ?_
  rintro e w1 ⟨A1, c1, rfl, ho1, hk1⟩
  obtain ⟨_, _, hv, hcc, ha1⟩ := ho1.slice
  cases hv
  have HA1 := hid ha1
  have HK1 := hid hk1
  clear ho1 ha1 hk1 H1
  go_wp2_with fail
  refine (H2.out _).mono ?_
  rintro e w1b ⟨rfl, hk1⟩
  have HA1b := hid (HA1.out.kw hk1)
  have HK1b := hid (HK1.out.t hk1)
  clear hk1 HA1 HK1 H2
  go_wp2_with fail
  refine (H3.out _).mono ?_
  rintro e w2 ⟨b, v, rfl, hm2, hb2, hk2⟩
  have HM2 := hid hm2
  have HA2 := hid (HA1b.out.kw hk2)
  have HK2 := hid (HK1b.out.t hk2)
  have HB2 : Hid (∀ i, mo b v i → w.heap.size ≤ i) := fun i hi => Nat.le_trans HK1b.out.size (hb2 i hi)
  have HBl : Hid (∀ i, mo b v i → i < w2.heap.size) := fun i hi => hm2.lt hi
  have HAn : Hid (∀ b' off, 0 < L.length → A1 = some ⟨b', off, none⟩ → ¬ mo b v b') := fun b' off h0 hA hm => by
    obtain ⟨b1, o1, h1, hlt, _⟩ := HA1b.out h0
    rw [h1] at hA; cases hA
    have := hb2 _ hm
    omega
  clear hm2 hb2 hk2 H3
  go_wp2_with fail
  have HR0 : Hid ((w2.alloc (.cells (madeCells #[.int .i64 0] l) 3)).rowIs w2.heap.size 3 l (fun x => .int .i64 (of 0 x : Nat))) := (World.rowIs_made w2 (.int .i64 0) l 3).congr fun i hi => by rw [HO0.out]; rfl
  have HK3 := hid (HK2.out.alloc (.cells (madeCells #[.int .i64 0] l) 3))
  have HA3 := hid (HA2.out.kw ((KW.refl w2).alloc (.cells (madeCells #[.int .i64 0] l) 3)))
  have HM3 := hid (HM2.out.kw ((KW.refl w2).alloc (.cells (madeCells #[.int .i64 0] l) 3)))
  have hwz := HK2.out.size
  have HAne : Hid (∀ b off, A1 = some ⟨b, off, none⟩ → 0 < L.length → b ≠ w2.heap.size) := fun b off h h0 => by
    obtain ⟨b', off', h', hb', _⟩ := HA2.out h0
    rw [h'] at h; cases h; omega
  have HNo : Hid (¬ mo b v w2.heap.size) := fun h => by have := HBl.out _ h; omega
  clear HM2 HA2 HK2 HA1b HK1b hmk
  go_loopw [12] (fun i wr => ∃ k : Nat, k ≤ L.length ∧ i = .int .i64 k ∧ Hid (wr.rowIs w2.heap.size 3 l (fun x => .int .i64 (of k x : Nat))) ∧ Hid (Mach wr b v (Mc.up m0 L k)) ∧ Hid (Acts wr A1 L) ∧ Hid (KW w wr)) (fun i _ => L.length - (intOf i).toNat)
  case atStart => exact ⟨0, by omega, rfl, HR0, HM3, HA3, HK3⟩
  case round =>
    obtain ⟨k, hk, rfl, HR, HM, HA, HK⟩ := hrel
    clear HR0 HM3 HA3 HK3
    by_cases hlt : k < L.length
    · obtain ⟨b', off, rfl, hb', hc1, hc2⟩ := HA.out.at_ hlt
      have hT := HT.out k
      have hIk := HI.out k
      have hIk1 := HI.out (k + 1)
      have hu0 := HUl.out k
      have hu1 := HUl.out (k + 1)
      have hadv := Mc.step_adv (m := Mc.up m0 L k) (k := (L.getD k (0, 0)).1) (n := (L.getD k (0, 0)).2) (HOK.out k hlt)
      rw [← Mc.up_succ] at hadv
      have HD : Hid (∀ W, Mach W b v (Mc.up m0 L k) → Calls Try.prog 24 #[.pointer (some ⟨b, 0, none⟩), .agg #[.int .i64 (L.getD k (0, 0)).1, .int .i64 (L.getD k (0, 0)).2]] W (Did W b v (Mc.up m0 L (k + 1)) (Mc.er m0 L k))) := fun W h => do_any _ (L.getD k (0, 0)).1 (L.getD k (0, 0)).2 b v W h (HI.out k) (by omega)
      rw [HOK.out k hlt] at HD
      have HSp := hid (fun W (h : Mach W b v (Mc.up m0 L k)) => spot_any (Mc.up m0 L k) b v W h (by rw [HTl.out]; omega))
      have HSp1 := hid (fun W (h : Mach W b v (Mc.up m0 L (k + 1))) => spot_any (Mc.up m0 L (k + 1)) b v W h (by rw [HTl.out]; omega))
      unfold SpotP at HSp HSp1
      have HOk := hid (fun x => HOs.out k x hlt)
      have HOb := hid (fun x : Nat => HOf.out (k + 1) x)
      clear hT
      generalize hX : (L.getD k (0, 0)).1 = X at *
      generalize hY : (L.getD k (0, 0)).2 = Y at *
      have L5 : (k : Int) < (L.length : Int) := by omega
      have L6 : (k : Int) ≤ 1501 := by omega
      have a00 := hIk.a0
      have a01 := hIk.a1
      have a10 := hIk1.a0
      have a11 := hIk1.a1
      rw [hu0] at a01
      rw [hu1] at a11
      have hAct : ∀ (W : World), Acts W (some ⟨b', off, none⟩) L → W.cell? ⟨b', off + k * 2, none⟩ = some (.int .i64 X) ∧ W.cell? ⟨b', off + k * 2 + 1, none⟩ = some (.int .i64 Y) := fun W h => by
        obtain ⟨b1, o1, h1, _, h2, h3⟩ := h.at_ hlt
        cases h1
        rw [← hX, ← hY]
        exact ⟨h2, h3⟩
      have HAct := hid hAct
      clear hIk hIk1 hu0 hu1 hAct hX hY
      generalize ha0 : (Mc.up m0 L k).at_ = a0 at *
      generalize ha1 : (Mc.up m0 L (k + 1)).at_ = a1 at *
      have hsp0 := rvspot_at
      go_wp2_with fail
      refine (HSp.out _ HM.out).mono ?_
      rintro e w3 ⟨v3, rfl, ho3, hk3⟩
      obtain ⟨A3, c3, hv3, _⟩ := ho3.row
      subst hv3
      have HR3 := hid (KW.row hk3 HR.out.lt HR.out)
      have HM3 := hid (HM.out.kw hk3)
      have HA3 := hid (HA.out.kw hk3)
      have HK3 := hid (HK.out.t hk3)
      obtain ⟨hc1, hc2⟩ := HAct.out _ HA3.out
      clear ho3 hk3
      go_wp2_with fail
      refine (HD.out _ HM3.out).mono ?_
      rintro e w4 ⟨rfl, hm4, hk4⟩
      have HM4 := hid hm4
      have HA4 := hid (show Acts w4 (some ⟨b', off, none⟩) L from by
        intro h0
        obtain ⟨b1, o1, h1, hl1, hc⟩ := HA3.out h0
        cases h1
        have hnb := HAn.out b' off h0 rfl
        exact ⟨b', off, rfl, Nat.lt_of_lt_of_le hl1 hk4.size, fun q hq => ⟨(hk4.cell hl1 hnb).trans (hc q hq).1, (hk4.cell hl1 hnb).trans (hc q hq).2⟩⟩)
      have HK4 := hid (HK3.out.kept hk4 HB2.out)
      have HR4 := hid (hk4.row HNo.out HR3.out)
      clear hm4 hk4 hc1 hc2
      have hne := HAne.out b' off rfl (by omega)
      have HMs : Hid (∀ (W : World) (h : Mach W b v (Mc.up m0 L (k + 1))) (q : Nat) (y : Value), Mach (W.setCell ⟨w2.heap.size, q, none⟩ y) b v (Mc.up m0 L (k + 1))) := fun W h q y => h.keep ((Keep.refl (· = w2.heap.size) W).setCell ⟨w2.heap.size, q, none⟩ y rfl) fun i hi e => HNo.out (e ▸ hi)
      have HAs : Hid (∀ (W : World) (h : Acts W (some ⟨b', off, none⟩) L) (q : Nat) (y : Value), Acts (W.setCell ⟨w2.heap.size, q, none⟩ y) (some ⟨b', off, none⟩) L) := fun W h q y => by
        intro h0
        obtain ⟨b1, o1, h1, hb1, hc'⟩ := h h0
        cases h1
        exact ⟨b', off, rfl, by simpa using hb1, fun j hj => ⟨by rw [World.cell?_setCell_other _ _ _ _ (by simp)]; exact (hc' j hj).1, by rw [World.cell?_setCell_other _ _ _ _ (by simp)]; exact (hc' j hj).2⟩⟩
      have HKs : Hid (∀ (W : World) (h : KW w W) (q : Nat) (y : Value), KW w (W.setCell ⟨w2.heap.size, q, none⟩ y)) := fun W h q y => Below.setCell (p := ⟨w2.heap.size, q, none⟩) h hwz y
      obtain ⟨hc1, hc2⟩ := HAct.out _ HA4.out
      by_cases hX1 : X = 1
      · obtain ⟨q1, _, q2, q3⟩ := hadv.1 hX1
        subst hX1
        try rw [ha0] at q1
        have HOk1 : Hid (∀ x : Int, of (k + 1) x = of k x + if a0 ≤ x ∧ x < a1 then 1 else 0) := fun x => by
          rw [HOk.out x, q1]; simp
        obtain ⟨N0, rfl⟩ : ∃ N0 : Nat, a0 = N0 := ⟨a0.toNat, by omega⟩
        obtain ⟨N1, rfl⟩ : ∃ N1 : Nat, a1 = N1 := ⟨a1.toNat, by omega⟩
        have hN01 : N0 < N1 := by omega
        have hN1 : N1 ≤ l := by omega
        clear HOk hadv q1 q2 q3 HD HSp HOs HOf HI HT HTl HUl HOK
        go_wp2_with fail
        go_loopw [14] (fun i wr => ∃ q : Nat, N0 ≤ q ∧ q ≤ N1 ∧ i = .int .i64 q ∧ Hid (wr.rowIs w2.heap.size 3 l (fun x => .int .i64 ((of k x : Nat) + if (N0 : Int) ≤ (x : Int) ∧ (x : Int) < q then 1 else 0))) ∧ Hid (Mach wr b v (Mc.up m0 L (k + 1))) ∧ Hid (Acts wr (some ⟨b', off, none⟩) L) ∧ Hid (KW w wr)) (fun i _ => N1 - (intOf i).toNat)
        case atStart => exact ⟨N0, by omega, by omega, rfl, (HR4.out).congr fun x hx => by rw [if_neg (by omega)]; simp, HM4, HA4, HK4⟩
        case round =>
          obtain ⟨q, hq0, hq1, rfl, HRq, HMq, HAq, HKq⟩ := hrel
          clear hc1 hc2
          obtain ⟨hc1, hc2⟩ := HAct.out _ HAq.out
          have hsp0 := rvspot_at
          go_wp2_with fail
          refine (HSp1.out _ HMq.out).mono ?_
          rintro e w5 ⟨v5, rfl, ho5, hk5⟩
          obtain ⟨A5, c5, hv5, _⟩ := ho5.row
          subst hv5
          have HR5 := hid (KW.row hk5 HRq.out.lt HRq.out)
          have HM5 := hid (HMq.out.kw hk5)
          have HA5 := hid (HAq.out.kw hk5)
          have HK5 := hid (HKq.out.t hk5)
          try rw [ha1]
          clear ho5 hk5
          by_cases hlq : q < N1
          · have L8 : (q : Int) < (N1 : Int) := by omega
            have L9 : (q : Int) < (l : Int) := by omega
            have hrow := HR5.out.cell (i := q) (by omega)
            rw [if_neg (by omega), Int.add_zero] at hrow
            have hfr := HR5.out.frozen q
            have hob := HOb.out q
            have hok1 := HOk1.out (q : Int)
            rw [if_pos (by omega)] at hok1
            rw [hok1] at hob
            have L10 : decide ((r : Int) < ((of k (q : Int) : Nat) : Int) + 1) = false := decide_eq_false (by omega)
            have L11 : ((of k (q : Int) : Nat) : Int) ≤ 300 := by omega
            clear hob hok1
            go_wp2_with fail
            go_roundw
            case rel => exact ⟨q + 1, by omega, by omega, by go_num, (HR5.out.set q _).congr fun x hx => by
              by_cases e : x = q
              · subst e; rw [if_pos rfl, if_pos (by omega)]
              · rw [if_neg e]
                by_cases e2 : (N0 : Int) ≤ (x : Int) ∧ (x : Int) < q
                · rw [if_pos e2, if_pos (by omega)]
                · rw [if_neg e2, if_neg (by omega)], HMs.out _ HM5.out _ _, HAs.out _ HA5.out _ _, HKs.out _ HK5.out _ _⟩
            case measure => simp [intOf]; omega
          · obtain rfl : q = N1 := by omega
            have d : decide ((q : Int) < (q : Int)) = false := decide_eq_false (by omega)
            clear hlq
            go_wp2_with fail
            go_roundw
            case rel => exact ⟨k + 1, by omega, by go_num, HR5.out.congr fun x hx => by
              rw [HOk1.out]
              split <;> simp, HM5, HA5, HK5⟩
            case measure => simp [intOf]; omega
      · have hd1 : (X == 1) = false := by rw [beq_eq_false_iff_ne]; exact hX1
        have HOk1 : Hid (∀ x : Int, of (k + 1) x = of k x) := fun x => by
          rw [HOk.out x, if_neg (fun h => hX1 h.1)]; rfl
        clear HOk hadv HD HSp HOs HOf HI HT HTl HUl HOK
        go_wp2_with fail
        go_loopw [14] (fun i wr => Hid (wr.rowIs w2.heap.size 3 l (fun x => .int .i64 (of k x : Nat))) ∧ Hid (Mach wr b v (Mc.up m0 L (k + 1))) ∧ Hid (Acts wr (some ⟨b', off, none⟩) L) ∧ Hid (KW w wr)) (fun i _ => 0)
        case atStart => exact ⟨HR4, HM4, HA4, HK4⟩
        case round =>
          obtain ⟨HRq, HMq, HAq, HKq⟩ := hrel
          clear hc1 hc2
          obtain ⟨hc1, hc2⟩ := HAct.out _ HAq.out
          go_wp2_with fail
          go_roundw
          case rel => exact ⟨k + 1, by omega, by go_num, HRq.out.congr fun x hx => by rw [HOk1.out], HMq, HAq, HKq⟩
          case measure => simp [intOf]; omega
    · obtain rfl : k = L.length := by omega
      have HDn := hid (done_any (Mc.up m0 L L.length) b v wr HM.out)
      rw [HUp.out] at HDn
      rw [show ((0 : Int) == 0) = true from rfl] at HDn
      have hk := HK.out
      clear hlt HOK HI HT HTl HUl HUp HOf HOs
      go_wp2_with (first
        | (go_at_call 25; refine HDn.out.mono ?_; rintro e w1 ⟨rfl, rfl⟩)
        | (go_at_call 13; refine (goes30_any _).mono ?_; rintro e w1 ⟨rfl, hb⟩; replace hk := hk.t hb; clear hb))
      go_ret
      exact ⟨rfl, hk⟩

theorem reps30_law (l s : Int) (w : World) (_ : -9223372036854775808 ≤ l) (_ : l ≤ 9223372036854775807) (_ : -9223372036854775808 ≤ s) (_ : s ≤ 9223372036854775807) :
    Calls Try.prog 5 #[.int .i64 l, .int .i64 s] w fun e w' => e = .returned (.bool true) ∧ KW w w' := by
  by_cases h : l < 1 ∨ 300 < l ∨ s < 1 ∨ 60 < s
  · exact reps30_goes l s w h
  · obtain ⟨L, rfl⟩ : ∃ L : Nat, l = L := ⟨l.toNat, by omega⟩
    obtain ⟨n, rfl⟩ : ∃ n : Nat, s = n := ⟨s.toNat, by omega⟩
    exact reps30_main L n w (by omega) (by omega) (by omega)
end Go.Proofs.Ytgadkelldbibgaa
