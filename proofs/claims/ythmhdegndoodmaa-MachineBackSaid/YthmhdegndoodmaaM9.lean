/- The walk of MachineBack. -/
import Derived.Test.YthmhdegndoodmaaM8
namespace Go.Proofs.Ythmhdegndoodmaa
open Go.ChangeShapes Go.WideShapes Go.ChangeAt Go.RowKit
set_option linter.unusedVariables false

/-- where the next step to be reversed ends -/
def nxt (m : Mc.St) : Int := if m.pend = -1 then m.l else m.pend
def bgn (m : Mc.St) : Bool := decide (m.pend ≠ -1)
/-- what a step that is done says of that -/
theorem back_step {m : Mc.St} (hI : Mc.Inv m) {x y : Int} (h : (Mc.step m x y).2 = 0) :
    (x = 5 → bgn m = false ∧ m.at_ = m.l ∧ bgn (Mc.step m x y).1 = true ∧ nxt (Mc.step m x y).1 = nxt m) ∧
    (x = 6 → bgn m = false ∧ m.at_ = m.l - 1 ∧ bgn (Mc.step m x y).1 = true ∧ nxt (Mc.step m x y).1 = m.l - 1) ∧
    (x = 7 → bgn m = true ∧ m.at_ = nxt m - 1 ∧ bgn (Mc.step m x y).1 = true ∧ nxt (Mc.step m x y).1 = m.at_) ∧
    (x ≠ 5 → x ≠ 6 → x ≠ 7 → bgn (Mc.step m x y).1 = bgn m ∧ nxt (Mc.step m x y).1 = nxt m) := by
  have hI' := hI
  obtain ⟨l0, l1, a0, a1, p0, p1, tg, ln, t0⟩ := hI
  clear tg ln
  unfold Mc.step at h ⊢
  by_cases h1 : Mc.right x y = false ∨ 7 < x
  · rw [if_pos h1] at h; simp at h
  rw [if_neg h1] at h ⊢
  by_cases h2 : 2 ≤ x ∧ x ≤ 4 ∧ (m.tags.length : Int) ≤ y
  · rw [if_pos h2] at h; simp at h
  rw [if_neg h2] at h ⊢
  have hx : 1 ≤ x ∧ x ≤ 9 := by
    refine Mc.right_lo (n := y) ?_
    cases e : Mc.right x y
    · exact absurd (Or.inl e) h1
    · rfl
  have hx7 : x ≤ 7 := by omega
  clear h1 h2
  rcases (show x = 1 ∨ x = 2 ∨ x = 3 ∨ x = 4 ∨ x = 5 ∨ x = 6 ∨ x = 7 by omega) with rfl | rfl | rfl | rfl | rfl | rfl | rfl
  · simp only [if_true] at h ⊢
    by_cases hc : m.l - m.at_ < y
    · rw [if_pos hc] at h; simp at h
    · rw [if_neg hc]
      exact ⟨fun h => by simp at h, fun h => by simp at h, fun h => by simp at h, fun _ _ _ => ⟨rfl, rfl⟩⟩
  · simp only [if_true, show ¬ (2 : Int) = 1 from by omega, if_false] at h ⊢
    by_cases hc : 0 ≤ m.tag y
    · rw [if_pos hc] at h; simp at h
    · rw [if_neg hc]
      exact ⟨fun h => by simp at h, fun h => by simp at h, fun h => by simp at h, fun _ _ _ => ⟨rfl, rfl⟩⟩
  · simp only [if_true, show ¬ (3 : Int) = 1 from by omega, show ¬ (3 : Int) = 2 from by omega, if_false] at h ⊢
    by_cases hc : m.tag y < 0
    · rw [if_pos hc] at h; simp at h
    · rw [if_neg hc]
      exact ⟨fun h => by simp at h, fun h => by simp at h, fun h => by simp at h, fun _ _ _ => ⟨rfl, rfl⟩⟩
  · simp only [if_true, show ¬ (4 : Int) = 1 from by omega, show ¬ (4 : Int) = 2 from by omega, show ¬ (4 : Int) = 3 from by omega, if_false] at h ⊢
    by_cases hc : m.tag y < 0
    · rw [if_pos hc] at h; simp at h
    · rw [if_neg hc]
      exact ⟨fun h => by simp at h, fun h => by simp at h, fun h => by simp at h, fun _ _ _ => ⟨rfl, rfl⟩⟩
  · simp only [if_true, show ¬ (5 : Int) = 1 from by omega, show ¬ (5 : Int) = 2 from by omega, show ¬ (5 : Int) = 3 from by omega, show ¬ (5 : Int) = 4 from by omega, if_false] at h ⊢
    unfold Mc.begin_ at h ⊢
    by_cases hp : m.pend = -1
    · by_cases ha : m.at_ = m.l - 0
      · rw [if_neg (by simpa using hp), if_neg (by simpa using ha)]
        refine ⟨fun _ => ⟨by simp [bgn, hp], by omega, (by unfold bgn; exact decide_eq_true (by simp only; omega)), ?_⟩, fun h => by simp at h, fun h => by simp at h, fun h => absurd rfl h⟩
        unfold nxt; simp only; rw [if_neg (by omega), if_pos hp]; omega
      · rw [if_neg (by simpa using hp), if_pos (by simpa using ha)] at h; simp at h
    · rw [if_pos (by simpa using hp)] at h; simp at h
  · simp only [if_true, show ¬ (6 : Int) = 1 from by omega, show ¬ (6 : Int) = 2 from by omega, show ¬ (6 : Int) = 3 from by omega, show ¬ (6 : Int) = 4 from by omega, show ¬ (6 : Int) = 5 from by omega, if_false] at h ⊢
    unfold Mc.begin_ at h ⊢
    by_cases hp : m.pend = -1
    · by_cases ha : m.at_ = m.l - 1
      · rw [if_neg (by simpa using hp), if_neg (by simpa using ha)]
        refine ⟨fun h => by simp at h, fun _ => ⟨by simp [bgn, hp], by omega, (by unfold bgn; exact decide_eq_true (by simp only; omega)), ?_⟩, fun h => by simp at h, fun _ h => absurd rfl h⟩
        unfold nxt; simp only; rw [if_neg (by omega)]; omega
      · rw [if_neg (by simpa using hp), if_pos (by simpa using ha)] at h; simp at h
    · rw [if_pos (by simpa using hp)] at h; simp at h
  · simp only [show ¬ (7 : Int) = 1 from by omega, show ¬ (7 : Int) = 2 from by omega, show ¬ (7 : Int) = 3 from by omega, show ¬ (7 : Int) = 4 from by omega, show ¬ (7 : Int) = 5 from by omega, show ¬ (7 : Int) = 6 from by omega, if_false] at h ⊢
    unfold Mc.reverse at h ⊢
    by_cases hp : m.pend ≤ 0
    · rw [if_pos hp] at h; simp at h
    · by_cases ha : m.at_ = m.pend - 1
      · rw [if_neg hp, if_neg (by simpa using ha)]
        refine ⟨fun h => by simp at h, fun h => by simp at h, fun _ => ⟨(by unfold bgn; exact decide_eq_true (by omega)), ?_, (by unfold bgn; exact decide_eq_true (by simp only; omega)), ?_⟩, fun _ _ h => absurd rfl h⟩
        · unfold nxt; rw [if_neg (by omega)]; omega
        · unfold nxt; simp only; rw [if_neg (by omega)]
      · rw [if_neg hp, if_pos (by simpa using ha)] at h; simp at h
theorem chk_good {m : Mc.St} {l : List Mc.Act} {k : Nat} (h : k < l.length) (e : (Mc.chk m (l.drop k) k).2.2 = 0) :
    (Mc.step m (l.getD k (0, 0)).1 (l.getD k (0, 0)).2).2 = 0 ∧ (Mc.chk (Mc.step m (l.getD k (0, 0)).1 (l.getD k (0, 0)).2).1 (l.drop (k + 1)) (k + 1)).2.2 = 0 := by
  by_cases h0 : (Mc.step m (l.getD k (0, 0)).1 (l.getD k (0, 0)).2).2 = 0
  · exact ⟨h0, by rw [← Mc.chk_ok h h0]; exact e⟩
  · rw [Mc.chk_bad h h0] at e
    exact absurd e h0
theorem chk_done {m : Mc.St} {l : List Mc.Act} (e : (Mc.chk m (l.drop l.length) l.length).2.2 = 0) : m.pend = 0 := by
  rw [Mc.chk_end] at e
  by_cases h : m.pend = 0
  · exact h
  · rw [if_neg h] at e; simp at e

theorem back_goes (l n : Int) (A : Option Addr) (c : Nat) (N : Nat) (w : World) (h : l < 0 ∨ 100 < l ∨ n < 0 ∨ 20 < n ∨ 600 < N) :
    Calls Try.prog 8 #[.int .i64 l, .int .i64 n, .slice A N c] w fun e w' => e = .returned (.bool true) ∧ KW w w' := by
  have hk := KW.refl w
  by_cases h0 : l < 0
  · clear h
    go_enter Try.func8, Try.ntmps8
    go_wp2_with (go_at_call 20; refine (goes27_any _).mono ?_; rintro e w1 ⟨rfl, hb⟩; replace hk := hk.t hb; clear hb)
    go_ret
    exact ⟨rfl, hk⟩
  have d0 : decide (l < 0) = false := decide_eq_false h0
  by_cases h1 : 100 < l
  · clear h
    go_enter Try.func8, Try.ntmps8
    go_wp2_with (go_at_call 20; refine (goes27_any _).mono ?_; rintro e w1 ⟨rfl, hb⟩; replace hk := hk.t hb; clear hb)
    go_ret
    exact ⟨rfl, hk⟩
  have d1 : decide (100 < l) = false := decide_eq_false h1
  by_cases h2 : n < 0
  · clear h
    go_enter Try.func8, Try.ntmps8
    go_wp2_with (go_at_call 20; refine (goes27_any _).mono ?_; rintro e w1 ⟨rfl, hb⟩; replace hk := hk.t hb; clear hb)
    go_ret
    exact ⟨rfl, hk⟩
  have d2 : decide (n < 0) = false := decide_eq_false h2
  by_cases h3 : 20 < n
  · clear h
    go_enter Try.func8, Try.ntmps8
    go_wp2_with (go_at_call 20; refine (goes27_any _).mono ?_; rintro e w1 ⟨rfl, hb⟩; replace hk := hk.t hb; clear hb)
    go_ret
    exact ⟨rfl, hk⟩
  have d3 : decide (20 < n) = false := decide_eq_false h3
  have d4 : (600 : Int) < (N : Int) := by omega
  clear h
  go_enter Try.func8, Try.ntmps8
  go_wp2_with (go_at_call 20; refine (goes27_any _).mono ?_; rintro e w1 ⟨rfl, hb⟩; replace hk := hk.t hb; clear hb)
  go_ret
  exact ⟨rfl, hk⟩

theorem spot_at (A : Option Addr) (n c : Nat) (a p : Int) (W : World) : (Instr.field 42 (.agg #[.int .i64 a, .int .i64 p, .slice A n c]) 0).run Try.prog W = .ok (.int .i64 a) W := by kernel_rfl

set_option maxRecDepth 100000 in
set_option maxHeartbeats 2000000 in
theorem back_in (l : Int) (n : Nat) (A : Option Addr) (c : Nat) (list : List Mc.Act) (w : World) (l0 : 0 ≤ l) (l1 : l ≤ 100) (hn : n ≤ 20) (hlen : list.length ≤ 600) (hA : Acts w A list) :
    Calls Try.prog 8 #[.int .i64 l, .int .i64 n, .slice A list.length c] w fun e w' => e = .returned (.bool true) ∧ KW w w' := by
  have HCk := hid (fun W (h : KW w W) => check_yes l n A c list W l0 (by omega) (by omega) (by omega) (hA.kw h))
  have HN := hid (fun W => new_yes l n W l0 (by omega) (by omega))
  have HA := hid hA
  have HI := hid (Mc.new_inv l n l0 (by omega) (by omega))
  have HC := hid (show Mc.chk (Mc.new l n) list 0 = Mc.chk (Mc.new l n) (list.drop 0) 0 from rfl)
  have HT := hid (show (Mc.new l n).tot = 0 from rfl)
  have HP := hid (show (Mc.new l n).pend = -1 from rfl)
  have HLl := hid (show (Mc.new l n).l = l from rfl)
  have HTn := hid (show (Mc.new l n).tags.length = n from by simp [Mc.new])
  generalize Mc.new l n = m0 at *
  generalize Mc.chk m0 list 0 = r at *
  clear hA
  generalize hN : list.length = N at *
  have HL := hid hN
  clear hN
  have d0 : decide (l < 0) = false := decide_eq_false (by omega)
  have d1 : decide (100 < l) = false := decide_eq_false (by omega)
  have d2 : decide (n < 0) = false := by simp
  have d2' : decide ((n : Int) < 0) = false := by simp
  have d3 : decide ((20 : Int) < (n : Int)) = false := decide_eq_false (by omega)
  have d4 : decide ((600 : Int) < (N : Int)) = false := decide_eq_false (by omega)
  have hfld := spot_at
  go_enter Try.func8, Try.ntmps8
  go_wp2_with fail
  refine (HCk.out _ (KW.refl w)).mono ?_
  rintro e w1 ⟨rfl, hk⟩
  have HK := hid hk
  clear hk
  obtain ⟨r1, r2, r3⟩ := r
  simp only
  by_cases h3 : r3 = 0
  · subst h3
    go_wp2_with fail
    refine (HN.out _).mono ?_
    rintro e w2 ⟨b, v, rfl, hm, ho, hk⟩
    have HM := hid hm
    have HO := hid (fun k hk' => Nat.le_trans HK.out.size (ho k hk') : ∀ k, mo b v k → w.heap.size ≤ k)
    have HK2 := hid (HK.out.t hk)
    have HE : Hid ((Mc.chk m0 (list.drop 0) 0).2.2 = 0) := by rw [← HC.out]; exact hid rfl
    clear hm ho hk HC HK
    go_wp2_with fail
    go_loopw [12, 13, 14] (fun nx bg i wr => ∃ (k : Nat) (m : Mc.St), k ≤ N ∧ i = .int .i64 k ∧ nx = .int .i64 (nxt m) ∧ bg = .bool (bgn m) ∧ Hid (Mach wr b v m) ∧ Hid (Mc.Inv m) ∧ Hid (m.tot ≤ 65535 * k) ∧ Hid ((Mc.chk m (list.drop k) k).2.2 = 0) ∧ Hid (m.l = l) ∧ Hid (m.tags.length = n) ∧ Hid (KW w wr)) (fun _ _ i _ => N - (intOf i).toNat)
    case atStart =>
      refine ⟨0, m0, by omega, rfl, ?_, ?_, HM, HI, by show _ ≤ _; rw [HT.out]; simp, HE, HLl, HTn, HK2⟩
      · unfold nxt; rw [if_pos HP.out, HLl.out]
      · unfold bgn; simp [HP.out]
    case round =>
      obtain ⟨k, m, hk, rfl, rfl, rfl, HM1, HI1, HT1, HE1, HL1, HN1, HK1⟩ := hrel
      clear HM HI HE HK2 HT HP HLl HTn HCk HN m0 w2 w1
      by_cases hlt : k < N
      · obtain ⟨b', off, rfl, hb', hc1, hc2⟩ := HA.out.at_ (show k < list.length by rw [HL.out]; exact hlt)
        obtain ⟨hs, he⟩ := chk_good (m := m) (l := list) (k := k) (by rw [HL.out]; exact hlt) HE1.out
        have hbs := back_step HI1.out hs
        have HE2 := hid he
        have HSp := hid (fun W (h : Mach W b v m) => spot_any m b v W h (by rw [HN1.out]; omega))
        generalize (list.getD k (0, 0)).1 = x at *
        generalize (list.getD k (0, 0)).2 = y at *
        have HD := hid (fun W (h : Mach W b v m) => do_any m x y b v W h HI1.out (by have := HT1.out; omega))
        have HI2 := hid (HI1.out.step x y)
        have HT2 : Hid ((Mc.step m x y).1.tot ≤ 65535 * ((k + 1 : Nat) : Int)) := by
          have h1 := (Mc.step_tot m x y).2
          have h2 := HT1.out
          show _ ≤ _
          omega
        have HL2 := hid ((Mc.step_l m x y).trans HL1.out)
        have HN2 := hid ((Mc.step_len m x y).trans HN1.out)
        rw [hs] at HD
        rw [HL1.out] at hbs
        generalize (Mc.step m x y).1 = m2 at *
        unfold SpotP at HSp
        generalize m.at_ = a at *
        have P1 := hid (show nxt m2 = nxt m2 from rfl)
        have HB := hid hb'
        have C1 := hid hc1
        have C2 := hid hc2
        have HBS := hid hbs
        clear hs he hb' hc1 hc2 hbs HE1
        have L5 : (k : Int) < (N : Int) := by omega
        go_wp2_with fail
        refine (HSp.out _ HM1.out).mono ?_
        rintro e w3 ⟨vs, rfl, ho3, hk3⟩
        obtain ⟨A2, k2, rfl, _⟩ := ho3.row
        clear ho3
        have HK3 := hid (HK1.out.t hk3)
        have HM3 := hid (HM1.out.kw hk3)
        have hc1 := KW.cell HK3.out HB.out C1.out
        have hc2 := KW.cell HK3.out HB.out C2.out
        clear hk3
        go_wp2_with fail
        refine (HD.out _ HM3.out).mono ?_
        rintro e w4 ⟨rfl, hm4, hk4⟩
        have HK4 := hid (HK3.out.kept hk4 HO.out)
        have HM4 := hid hm4
        clear hc1 hc2 hm4 hk4
        have hc1 := KW.cell HK4.out HB.out C1.out
        by_cases h5 : x = 5
        · obtain ⟨q1, q2, q3, q4⟩ := HBS.out.1 h5
          subst h5 q2
          rw [q1]
          have Q3 := hid q3
          have Q4 := hid q4
          clear q1 q3 q4
          go_wp2_with fail
          go_roundw
          case rel => exact ⟨k + 1, m2, by omega, by go_num, by rw [Q4.out], by rw [Q3.out], HM4, HI2, HT2, HE2, HL2, HN2, HK4⟩
          case measure => simp [intOf]; omega
        by_cases h6 : x = 6
        · obtain ⟨q1, q2, q3, q4⟩ := HBS.out.2.1 h6
          subst h6
          rw [q1]
          have Q2 : (a != l - 1) = false := by simp; exact q2
          have L7 : IntKind.i64.wrap (l - 1) = l - 1 := IntWalk.i64_in _ (by omega)
          have Q3 := hid q3
          have Q4 := hid q4
          clear q1 q2 q3 q4 h5
          go_wp2_with fail
          go_roundw
          case rel => exact ⟨k + 1, m2, by omega, by go_num, by rw [Q4.out], by rw [Q3.out], HM4, HI2, HT2, HE2, HL2, HN2, HK4⟩
          case measure => simp [intOf]; omega
        by_cases h7 : x = 7
        · obtain ⟨q1, q2, q3, q4⟩ := HBS.out.2.2.1 h7
          subst h7
          rw [q1]
          have Q3 := hid q3
          have Q4 := hid q4
          have hp0 : -1 ≤ nxt m ∧ nxt m ≤ 65535 := by
            unfold nxt
            have := HI1.out.l0; have := HI1.out.l1; have := HI1.out.p0; have := HI1.out.p1
            split <;> omega
          generalize nxt m = p at *
          have Q2 : (a != p - 1) = false := by simp; exact q2
          have L7 : IntKind.i64.wrap (p - 1) = p - 1 := IntWalk.i64_in _ (by omega)
          clear q1 q2 q3 q4 h5 h6
          go_wp2_with fail
          go_roundw
          case rel => exact ⟨k + 1, m2, by omega, by go_num, by rw [Q4.out], by rw [Q3.out], HM4, HI2, HT2, HE2, HL2, HN2, HK4⟩
          case measure => simp [intOf]; omega
        · obtain ⟨q3, q4⟩ := HBS.out.2.2.2 h5 h6 h7
          have Q3 := hid q3
          have Q4 := hid q4
          have D5 : (x == 5) = false := by simpa using h5
          have D6 : (x == 6) = false := by simpa using h6
          have D7 : (x == 7) = false := by simpa using h7
          clear q3 q4 h5 h6 h7
          go_wp2_with fail
          go_roundw
          case rel => exact ⟨k + 1, m2, by omega, by go_num, by rw [Q4.out], by rw [Q3.out], HM4, HI2, HT2, HE2, HL2, HN2, HK4⟩
          case measure => simp [intOf]; omega
      · obtain rfl : k = N := by omega
        have hp := chk_done (m := m) (l := list) (by rw [HL.out]; exact HE1.out)
        have e1 : nxt m = 0 := by unfold nxt; rw [if_neg (by omega), hp]
        have e2 : bgn m = true := by unfold bgn; exact decide_eq_true (by omega)
        rw [e1, e2]
        have HDn := hid (fun W (h : Mach W b v m) => done_any m b v W h)
        rw [show (m.pend == 0) = true from by simpa using hp] at HDn
        clear hp e1 e2 hlt
        go_wp2_with fail
        refine (HDn.out _ HM1.out).mono ?_
        rintro e w3 ⟨rfl, rfl⟩
        go_wp2_with fail
        refine (goes27_any _).mono ?_
        rintro e w4 ⟨rfl, hb⟩
        have HK4 := hid (HK1.out.t hb)
        clear hb
        go_wp2_with fail
        go_ret
        exact ⟨rfl, HK4.out⟩
  · have d : (r3 != 0) = true := by simpa using h3
    have d2 : (r3 == 0) = false := by simpa using h3
    clear h3
    go_wp2_with fail
    refine (goes27_any _).mono ?_
    rintro e w2 ⟨rfl, hk⟩
    have HK2 := hid (HK.out.t hk)
    clear hk
    go_wp2_with fail
    go_ret
    exact ⟨rfl, HK2.out⟩
theorem back_walk (l n : Int) (A : Option Addr) (c : Nat) (list : List Mc.Act) (w : World) (hA : Acts w A list) :
    Calls Try.prog 8 #[.int .i64 l, .int .i64 n, .slice A list.length c] w fun e w' => e = .returned (.bool true) ∧ KW w w' := by
  by_cases h : l < 0 ∨ 100 < l ∨ n < 0 ∨ 20 < n ∨ 600 < list.length
  · exact back_goes l n A c list.length w h
  · obtain ⟨q, rfl⟩ : ∃ q : Nat, n = q := ⟨n.toNat, by omega⟩
    exact back_in l q A c list w (by omega) (by omega) (by omega) (by omega) hA
theorem back_law (l n : Int) (A : Option Addr) (c : Nat) (list : List Mc.Act) (w : World) (_ : -9223372036854775808 ≤ l) (_ : l ≤ 9223372036854775807) (_ : -9223372036854775808 ≤ n) (_ : n ≤ 9223372036854775807)
    (_ : ∀ a ∈ list, (-9223372036854775808 ≤ a.1 ∧ a.1 ≤ 9223372036854775807) ∧ -9223372036854775808 ≤ a.2 ∧ a.2 ≤ 9223372036854775807) (hA : Acts w A list) :
    Calls Try.prog 8 #[.int .i64 l, .int .i64 n, .slice A list.length c] w fun e w' => e = .returned (.bool true) ∧ KW w w' := back_walk l n A c list w hA
end Go.Proofs.Ythmhdegndoodmaa
