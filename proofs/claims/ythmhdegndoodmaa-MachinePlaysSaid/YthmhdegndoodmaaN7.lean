/- The walk of MachineCopy. -/
import Derived.Test.YthmhdegndoodmaaN6
namespace Go.Proofs.Ythmhdegndoodmaa
open Go.ChangeShapes Go.WideShapes Go.ChangeAt Go.RowKit
set_option linter.unusedVariables false

/-- the count plays no part in what is done -/
theorem step_shift (m : Mc.St) (d k n : Int) : Mc.step { m with tot := m.tot + d } k n = ({ (Mc.step m k n).1 with tot := (Mc.step m k n).1.tot + d }, (Mc.step m k n).2) := by
  unfold Mc.step Mc.begin_ Mc.reverse Mc.St.tag
  simp only
  by_cases h1 : Mc.right k n = false ∨ 7 < k
  · rw [if_pos h1, if_pos h1]
  rw [if_neg h1, if_neg h1]
  by_cases h2 : 2 ≤ k ∧ k ≤ 4 ∧ (m.tags.length : Int) ≤ n
  · rw [if_pos h2, if_pos h2]
  rw [if_neg h2, if_neg h2]
  by_cases e1 : k = 1
  · rw [if_pos e1, if_pos e1]
    by_cases c1 : m.l - m.at_ < n
    · rw [if_pos c1, if_pos c1]
    · rw [if_neg c1, if_neg c1]
      simp only [Prod.mk.injEq, Mc.St.mk.injEq, true_and, and_true]
      omega
  rw [if_neg e1, if_neg e1]
  repeat' (first | rfl | split)
theorem Owns.nilcap {w : World} {base n c : Nat} {A : Option Addr} {e : TypeId} {xs : List Value} (h : Owns w base e (.slice A n c) xs) (hA : A = none) : c = 0 := by
  subst hA
  rcases h.2 with ⟨h, _⟩ | ⟨g, cap, cur, h, _⟩
  · cases h; rfl
  · cases h

set_option maxRecDepth 100000 in
theorem copy_goes (l n : Int) (A : Option Addr) (c N : Nat) (q : Int) (w : World) (h : n < 0 ∨ 20 < n ∨ l < 0 ∨ 65536 ≤ l ∨ 50 < N ∨ q < 0 ∨ (N : Int) < q) :
    Calls Try.prog 10 #[.int .i64 l, .int .i64 n, .slice A N c, .int .i64 q] w fun e w' => e = .returned (.bool true) ∧ KW w w' := by
  have hk := KW.refl w
  by_cases h0 : n < 0
  · clear h
    go_enter Try.func10, Try.ntmps10
    go_wp2_with (go_at_call 20; refine (goes27_any _).mono ?_; rintro e w1 ⟨rfl, hb⟩; replace hk := hk.t hb; clear hb)
    go_ret
    exact ⟨rfl, hk⟩
  have d0 : decide (n < 0) = false := decide_eq_false h0
  by_cases h1 : 20 < n
  · clear h
    go_enter Try.func10, Try.ntmps10
    go_wp2_with (go_at_call 20; refine (goes27_any _).mono ?_; rintro e w1 ⟨rfl, hb⟩; replace hk := hk.t hb; clear hb)
    go_ret
    exact ⟨rfl, hk⟩
  have d1 : decide (20 < n) = false := decide_eq_false h1
  by_cases h2 : l < 0
  · clear h
    go_enter Try.func10, Try.ntmps10
    go_wp2_with (go_at_call 20; refine (goes27_any _).mono ?_; rintro e w1 ⟨rfl, hb⟩; replace hk := hk.t hb; clear hb)
    go_ret
    exact ⟨rfl, hk⟩
  have d2 : decide (l < 0) = false := decide_eq_false h2
  by_cases h3 : 65536 ≤ l
  · clear h
    go_enter Try.func10, Try.ntmps10
    go_wp2_with (go_at_call 20; refine (goes27_any _).mono ?_; rintro e w1 ⟨rfl, hb⟩; replace hk := hk.t hb; clear hb)
    go_ret
    exact ⟨rfl, hk⟩
  have d3 : decide (65536 ≤ l) = false := decide_eq_false h3
  by_cases h4 : (50 : Int) < (N : Int)
  · clear h
    go_enter Try.func10, Try.ntmps10
    go_wp2_with (go_at_call 20; refine (goes27_any _).mono ?_; rintro e w1 ⟨rfl, hb⟩; replace hk := hk.t hb; clear hb)
    go_ret
    exact ⟨rfl, hk⟩
  have d4 : decide ((50 : Int) < (N : Int)) = false := decide_eq_false h4
  by_cases h5 : q < 0
  · clear h
    go_enter Try.func10, Try.ntmps10
    go_wp2_with (go_at_call 20; refine (goes27_any _).mono ?_; rintro e w1 ⟨rfl, hb⟩; replace hk := hk.t hb; clear hb)
    go_ret
    exact ⟨rfl, hk⟩
  have d5 : decide (q < 0) = false := decide_eq_false h5
  have h6 : (N : Int) < q := by omega
  clear h
  go_enter Try.func10, Try.ntmps10
  go_wp2_with (go_at_call 20; refine (goes27_any _).mono ?_; rintro e w1 ⟨rfl, hb⟩; replace hk := hk.t hb; clear hb)
  go_ret
  exact ⟨rfl, hk⟩

set_option maxRecDepth 100000 in
set_option maxHeartbeats 4000000 in
theorem copy_in (l : Int) (n : Nat) (A : Option Addr) (c : Nat) (list : List Mc.Act) (q : Nat) (w : World) (l0 : 0 ≤ l) (l1 : l < 65536) (hn : n ≤ 20) (hlen : list.length ≤ 50) (hq : q ≤ list.length) (hA : Acts w A list) :
    Calls Try.prog 10 #[.int .i64 l, .int .i64 n, .slice A list.length c, .int .i64 q] w fun e w' => e = .returned (.bool true) ∧ KW w w' := by
  have HNw := hid (fun W => new_yes l n W l0 l1 (by omega))
  have HA := hid hA
  have HI := hid (Mc.new_inv l n l0 l1 (by omega))
  have HT := hid (show (Mc.new l n).tot = 0 from rfl)
  have HLl := hid (show (Mc.new l n).l = l from rfl)
  have HTn := hid (show (Mc.new l n).tags.length = n from by simp [Mc.new])
  have HS0 := hid (fun W => rsame_true 0 0 (.slice none 0 0) (.slice none 0 0) [] W (by simp) ⟨none, 0, rfl, fun h => by simp at h⟩ ⟨none, 0, rfl, fun h => by simp at h⟩)
  generalize Mc.new l n = m0 at *
  clear hA
  generalize hN : list.length = N at *
  have HL := hid hN
  clear hN
  have d0 : decide (n < 0) = false := by simp
  have d0' : decide ((n : Int) < 0) = false := by simp
  have d1 : decide ((20 : Int) < (n : Int)) = false := decide_eq_false (by omega)
  have d2 : decide (l < 0) = false := decide_eq_false (by omega)
  have d3 : decide (65536 ≤ l) = false := decide_eq_false (by omega)
  have d4 : decide ((50 : Int) < (N : Int)) = false := decide_eq_false (by omega)
  have d5 : decide (q < 0) = false := by simp
  have d5' : decide ((q : Int) < 0) = false := by simp
  have d6 : decide (N < q) = false := decide_eq_false (by omega)
  have hk := KW.refl w
  go_enter Try.func10, Try.ntmps10
  go_wp2_with (first
    | (go_at_call 26; refine (do_nil 5 0 _).mono ?_; rintro e w1 ⟨rfl, hb⟩; replace hk := hk.t hb; clear hb)
    | (go_at_call 32; refine (total_nil _).mono ?_; rintro e w1 ⟨rfl, rfl⟩)
    | (go_at_call 27; refine (done_nil _).mono ?_; rintro e w1 ⟨rfl, rfl⟩)
    | (go_at_call 33; refine (copy_nil _).mono ?_; rintro e w1 ⟨rfl, rfl⟩)
    | (go_at_call 25; refine (spot_nil _).mono ?_; rintro e w1 ⟨rfl, hb⟩; replace hk := hk.t hb; clear hb)
    | (go_at_call 31; refine (HS0.out _).mono ?_; rintro e w1 ⟨rfl, hb⟩; replace hk := hk.t hb; clear hb))
  have HK0 := hid hk
  clear hk
  refine (HNw.out _).mono ?_
  rintro e w2 ⟨b, v, rfl, hm, ho, hk⟩
  have HM := hid hm
  have HO := hid (fun k hk' => Nat.le_trans HK0.out.size (ho k hk') : ∀ k, mo b v k → w.heap.size ≤ k)
  have HK := hid (HK0.out.t hk)
  clear hm ho hk HK0
  go_wp2_with fail
  go_loopw [12] (fun i wr => ∃ (j : Nat) (m : Mc.St), j ≤ q ∧ i = .int .i64 j ∧ Hid (Mach wr b v m) ∧ Hid (Mc.Inv m) ∧ Hid (m.tot ≤ 65535 * j) ∧ Hid (m.l = l) ∧ Hid (m.tags.length = n) ∧ Hid (KW w wr)) (fun i _ => q - (intOf i).toNat)
  case atStart => exact ⟨0, m0, by omega, rfl, HM, HI, by show _ ≤ _; rw [HT.out]; simp, HLl, HTn, HK⟩
  case round =>
    obtain ⟨j, m, hj, rfl, HM1, HI1, HT1, HL1, HN1, HK1⟩ := hrel
    clear HM HI HT HLl HTn HK
    by_cases hlt : j < q
    · obtain ⟨b', off, rfl, hb', hc1, hc2⟩ := (HA.out.kw HK1.out).at_ (show j < list.length by rw [HL.out]; omega)
      generalize (list.getD j (0, 0)).1 = x at *
      generalize (list.getD j (0, 0)).2 = y at *
      have HD := hid (fun W (h : Mach W b v m) => do_any m x y b v W h HI1.out (by have := HT1.out; omega))
      have HI2 := hid (HI1.out.step x y)
      have HT2 : Hid ((Mc.step m x y).1.tot ≤ 65535 * ((j + 1 : Nat) : Int)) := by
        have h1 := (Mc.step_tot m x y).2
        have h2 := HT1.out
        show _ ≤ _
        omega
      have HL2 := hid ((Mc.step_l m x y).trans HL1.out)
      have HN2 := hid ((Mc.step_len m x y).trans HN1.out)
      generalize (Mc.step m x y).1 = m2 at *
      generalize (Mc.step m x y).2 = er at *
      have L5 : (j : Int) < (q : Int) := by omega
      have L6 : (j : Int) < (N : Int) := by omega
      have L7 : j < N := by omega
      go_wp2_with fail
      refine (HD.out _ HM1.out).mono ?_
      rintro e w4 ⟨rfl, hm4, hk4⟩
      have HK4 := hid (HK1.out.kept hk4 HO.out)
      have HM4 := hid hm4
      clear hm4 hk4 hc1 hc2
      go_wp2_with fail
      go_roundw
      case rel => exact ⟨j + 1, m2, by omega, by go_num, HM4, HI2, HT2, HL2, HN2, HK4⟩
      case measure => simp [intOf]; omega
    · have D1 : decide (j < q) = false := decide_eq_false hlt
      have HTq : Hid (m.tot ≤ 3276750) := by have h := HT1.out; exact hid (by omega)
      have HSp := hid (fun W (h : Mach W b v m) => spot_any m b v W h (by rw [HN1.out]; omega))
      have HTt := hid (fun W (h : Mach W b v m) => total_any m b v W h)
      have HCp := hid (fun W (h : Mach W b v m) => copy_any m b v W h (by rw [HN1.out]; omega))
      unfold SpotP at HSp
      clear hlt hj
      go_wp2_with fail
      refine (HSp.out _ HM1.out).mono ?_
      rintro e w4 ⟨vs, rfl, ho4, hk4⟩
      obtain ⟨A4, c4, hv4, hz4⟩ := ho4.row
      clear hz4
      rw [ints_len] at hv4
      subst hv4
      have HO4 := hid ho4
      have HM4 := hid (HM1.out.kw hk4)
      have HK4 := hid (HK1.out.t hk4)
      clear ho4 hk4
      go_wp2_with (go_at_call 32; refine (HTt.out _ HM4.out).mono ?_; rintro e w5 ⟨rfl, rfl⟩)
      have hMU : Mach (w4.alloc (.cells #[.int .i64 m.at_, .int .i64 m.pend, .slice A4 m.tags.length c4] 42)) b v m := HM4.out.kw ((KW.refl w4).alloc _)
      have hRU : RT0 (w4.alloc (.cells #[.int .i64 m.at_, .int .i64 m.pend, .slice A4 m.tags.length c4] 42)) (.slice A4 m.tags.length c4) m.tags := (HO4.out.rt.kw ((KW.refl w4).alloc _)).rt0
      have hKU : KW w (w4.alloc (.cells #[.int .i64 m.at_, .int .i64 m.pend, .slice A4 m.tags.length c4] 42)) := HK4.out.alloc _
      have hSU : (w4.alloc (.cells #[.int .i64 m.at_, .int .i64 m.pend, .slice A4 m.tags.length c4] 42)).cell? ⟨w4.heap.size, 0, none⟩ = some (.int .i64 m.at_) ∧ (w4.alloc (.cells #[.int .i64 m.at_, .int .i64 m.pend, .slice A4 m.tags.length c4] 42)).cell? ⟨w4.heap.size, 1, none⟩ = some (.int .i64 m.pend) ∧ (w4.alloc (.cells #[.int .i64 m.at_, .int .i64 m.pend, .slice A4 m.tags.length c4] 42)).cell? ⟨w4.heap.size, 2, none⟩ = some (.slice A4 m.tags.length c4) := ⟨by go_simp, by go_simp, by go_simp⟩
      have hsU : w4.heap.size < (w4.alloc (.cells #[.int .i64 m.at_, .int .i64 m.pend, .slice A4 m.tags.length c4] 42)).heap.size := by simp
      have hnc := HO4.out.nilcap
      have HAt := hid (fun W (h : Row1 W A4 m.tags.length fun i => .int .i64 (m.tags.getD i 0)) => at_yes l m.at_ m.pend m.tags (.slice A4 m.tags.length c4) W l0 l1 HI1.out.a0 (by rw [← HL1.out]; exact HI1.out.a1) HI1.out.p0 (by rw [← HL1.out]; exact HI1.out.p1) HI1.out.ln (fun x hx => by rw [← HL1.out]; exact HI1.out.tg x hx) ⟨A4, c4, rfl, hnc, h⟩)
      have HM' := hid hMU
      have HR' := hid hRU
      have HK' := hid hKU
      have HS' := hid hSU
      have Hs' := hid hsU
      have HeqX := hid (show ({ (⟨l, m.at_, m.pend, 0, m.tags⟩ : Mc.St) with tot := (⟨l, m.at_, m.pend, 0, m.tags⟩ : Mc.St).tot + m.tot } : Mc.St) = m from by
        obtain ⟨la, aa, pa, ta, tags⟩ := m
        have := HL1.out
        simp only at this
        subst this
        simp)
      have HIX := hid (show Mc.Inv ⟨l, m.at_, m.pend, 0, m.tags⟩ from ⟨l0, by show l ≤ 65535; omega, HI1.out.a0, by show m.at_ ≤ l; rw [← HL1.out]; exact HI1.out.a1, HI1.out.p0, by show m.pend ≤ l; rw [← HL1.out]; exact HI1.out.p1, fun x hx => by show -1 ≤ x ∧ x ≤ l; rw [← HL1.out]; exact HI1.out.tg x hx, HI1.out.ln, by show (0 : Int) ≤ 0; omega⟩)
      clear hMU hRU hKU hSU hsU hnc HM1 HK1 HO4 HM4 HK4
      generalize (w4.alloc (.cells #[.int .i64 m.at_, .int .i64 m.pend, .slice A4 m.tags.length c4] 42)) = WU at *
      generalize w4.heap.size = sb at *
      refine (HCp.out _ HM'.out).mono ?_
      rintro e w5 ⟨cb, cv, rfl, hmc, hoc, hkc⟩
      have HMc := hid hmc
      have HOc := hid hoc
      have HK5 := hid hkc
      have s0 := KW.cell HK5.out Hs'.out HS'.out.1
      have s1 := KW.cell HK5.out Hs'.out HS'.out.2.1
      have s2 := KW.cell HK5.out Hs'.out HS'.out.2.2
      clear hmc hoc hkc
      go_wp2_with fail
      refine (HAt.out _ (by obtain ⟨A9, c9, e9, h9⟩ := HR'.out; cases e9; exact h9.k HK5.out)).mono ?_
      rintro e w6 ⟨xb, xv, rfl, hmx, hox, hkx⟩
      have HMx := hid hmx
      have HOx := hid hox
      have HMc6 := hid (HMc.out.kw hkx)
      have HK6 := hid (HK5.out.t hkx)
      have HDis := hid (fun k (h1 : mo cb cv k) (h2 : mo xb xv k) => absurd (HMc.out.lt h1) (Nat.not_lt_of_le (hox k h2)) : ∀ k, mo cb cv k → mo xb xv k → False)
      have HOx' := hid (fun k hk' => Nat.le_trans HK5.out.size (hox k hk') : ∀ k, mo xb xv k → WU.heap.size ≤ k)
      have HTc := hid (total_any m cb cv w6 HMc6.out)
      have HTx := hid (total_any _ xb xv w6 HMx.out)
      have HMcc : Hid (Mach w6 cb cv { (⟨l, m.at_, m.pend, 0, m.tags⟩ : Mc.St) with tot := (⟨l, m.at_, m.pend, 0, m.tags⟩ : Mc.St).tot + m.tot }) := by rw [HeqX.out]; exact HMc6
      have HTn := hid (show (⟨l, m.at_, m.pend, 0, m.tags⟩ : Mc.St).tags.length = n from HN1.out)
      have HTz := hid (show (⟨l, m.at_, m.pend, 0, m.tags⟩ : Mc.St).tot = 0 from rfl)
      have HTm := hid (And.intro HI1.out.t0 HTq.out)
      rw [HTz.out] at HTx
      generalize (⟨l, m.at_, m.pend, 0, m.tags⟩ : Mc.St) = mx0 at *
      have HSm := hid (fun W (h : Mach W b v m) => spot_any m b v W h (by rw [HN1.out]; omega))
      have HTot := hid (fun W (h : Mach W b v m) => total_any m b v W h)
      have HSame := hid (fun W v1 v2 (h1 : RT0 W v1 m.tags) (h2 : RT0 W v2 m.tags) => rsame_true m.at_ m.pend v1 v2 m.tags W (by rw [HN1.out]; omega) h1 h2)
      unfold SpotP at HSm
      generalize hTT : m.tot = T at *
      clear hTT
      obtain ⟨T0, T1⟩ := HTm.out
      clear hmx hox hkx HTt HCp HAt HSp s0 s1 s2 HMc HOx HeqX HI1 HT1 HTq HL1
      go_wp2_with fail
      refine HTc.out.mono ?_
      rintro e w7 ⟨rfl, rfl⟩
      go_wp2_with fail
      refine HTx.out.mono ?_
      rintro e w7 ⟨rfl, rfl⟩
      go_wp2_with fail
      clear HTc HTx
      go_loopw [18] (fun i wr => ∃ (j : Nat) (mx : Mc.St), j ≤ N ∧ i = .int .i64 j ∧ Hid (Mach wr cb cv { mx with tot := mx.tot + T }) ∧ Hid (Mach wr xb xv mx) ∧ Hid (Mc.Inv mx) ∧ Hid (mx.tot ≤ 65535 * j) ∧ Hid (mx.tags.length = n) ∧ Hid (KW WU wr)) (fun i _ => N - (intOf i).toNat)
      case atStart => exact ⟨q, mx0, by omega, rfl, HMcc, HMx, HIX, by show _ ≤ _; rw [HTz.out]; omega, HTn, HK6⟩
      case round =>
        obtain ⟨j, mx, hj, rfl, HMc1, HMx1, HIx, HTx1, HNx, HKx⟩ := hrel
        clear HMcc HMx HIX HTn HTz HMc6 HK6 HK5
        by_cases hlt : j < N
        · obtain ⟨b', off, rfl, hb', hc1, hc2⟩ := (HA.out.kw HK'.out).at_ (show j < list.length by rw [HL.out]; exact hlt)
          generalize (list.getD j (0, 0)).1 = x at *
          generalize (list.getD j (0, 0)).2 = y at *
          have hIc : Mc.Inv { mx with tot := mx.tot + T } := ⟨HIx.out.l0, HIx.out.l1, HIx.out.a0, HIx.out.a1, HIx.out.p0, HIx.out.p1, HIx.out.tg, HIx.out.ln, by have := HIx.out.t0; show 0 ≤ mx.tot + T; omega⟩
          have HDc := hid (fun W (h : Mach W cb cv { mx with tot := mx.tot + T }) => do_any { mx with tot := mx.tot + T } x y cb cv W h hIc (by have := HTx1.out; show mx.tot + T ≤ _; omega))
          have HDx := hid (fun W (h : Mach W xb xv mx) => do_any mx x y xb xv W h HIx.out (by have := HTx1.out; omega))
          rw [step_shift mx T x y] at HDc
          have HI2 := hid (HIx.out.step x y)
          have HT2 : Hid ((Mc.step mx x y).1.tot ≤ 65535 * ((j + 1 : Nat) : Int)) := by
            have h1 := (Mc.step_tot mx x y).2
            have h2 := HTx1.out
            show _ ≤ _
            omega
          have HN2 := hid ((Mc.step_len mx x y).trans HNx.out)
          clear hIc
          simp only at HDc
          generalize (Mc.step mx x y).1 = m2 at *
          generalize (Mc.step mx x y).2 = er at *
          have HCC := hid (And.intro hb' (And.intro hc1 hc2))
          clear hb' hc1 hc2
          have HSS := hid (fun W (h : KW WU W) => And.intro (KW.cell h HCC.out.1 HCC.out.2.1) (KW.cell h HCC.out.1 HCC.out.2.2))
          have HSc := hid (fun W (h : Mach W cb cv { m2 with tot := m2.tot + T }) => spot_any { m2 with tot := m2.tot + T } cb cv W h (by show m2.tags.length ≤ _; rw [HN2.out]; omega))
          have HSx := hid (fun W (h : Mach W xb xv m2) => spot_any m2 xb xv W h (by rw [HN2.out]; omega))
          have HSe := hid (fun W v1 v2 (h1 : RT0 W v1 m2.tags) (h2 : RT0 W v2 m2.tags) => rsame_true m2.at_ m2.pend v1 v2 m2.tags W (by rw [HN2.out]; omega) h1 h2)
          have HTc := hid (fun W (h : Mach W cb cv { m2 with tot := m2.tot + T }) => total_any { m2 with tot := m2.tot + T } cb cv W h)
          have HTx := hid (fun W (h : Mach W xb xv m2) => total_any m2 xb xv W h)
          unfold SpotP at HSc HSx
          simp only at HSc HTc
          have L5 : (j : Int) < (N : Int) := by omega
          go_wp2_with fail
          have hXS := HSS.out _ HKx.out
          refine wpX_region (S := fun w' => w'.cell? ⟨b', off + j * 2, none⟩ = some (.int .i64 x) ∧ w'.cell? ⟨b', off + j * 2 + 1, none⟩ = some (.int .i64 y)) (L := 99) (by kernel_rfl) ?_
          refine wpX_take (i := 0) (v := ?_) rfl rfl (by kernel_rfl) (fun _ _ _ h => h) (Or.inl ⟨rfl, fun wS hwS => ?_⟩) hXS ?_
          rotate_left
          · go_simp; try rfl
          simp only [List.set_cons_zero, List.set_cons_succ]
          refine wpX_take (i := 1) (v := ?_) rfl rfl (by kernel_rfl) (fun _ _ _ h => h) (Or.inl ⟨rfl, fun wS hwS => ?_⟩) hXS ?_
          rotate_left
          · go_simp; try rfl
          simp only [List.set_cons_zero, List.set_cons_succ]
          refine wpX_take (i := 2) (v := ?_) rfl rfl (by kernel_rfl) (fun _ _ _ h => h) (Or.inl ⟨rfl, fun wS hwS => ?_⟩) hXS ?_
          rotate_left
          · go_simp; try rfl
          simp only [List.set_cons_zero, List.set_cons_succ]
          refine wpX_take (i := 3) (v := ?_) rfl rfl (by kernel_rfl) (fun _ _ _ h => h) (Or.inl ⟨rfl, fun wS hwS => ?_⟩) hXS ?_
          rotate_left
          · go_simp; try rfl
          simp only [List.set_cons_zero, List.set_cons_succ]
          refine wpX_take (i := 4) (v := ?_) rfl rfl (by kernel_rfl) (fun _ _ _ h => h) (Or.inl ⟨rfl, fun wS hwS => ?_⟩) hXS ?_
          rotate_left
          · go_simp; try rfl
          simp only [List.set_cons_zero, List.set_cons_succ]
          refine wpX_take (i := 6) (v := ?_) rfl rfl (by kernel_rfl) (fun _ _ _ h => h) (Or.inl ⟨rfl, fun wS hwS => ?_⟩) hXS ?_
          rotate_left
          · go_simp; try rfl
          simp only [List.set_cons_zero, List.set_cons_succ]
          refine wpX_take (i := 7) (v := ?_) rfl rfl (by kernel_rfl) (fun _ _ _ h => h) (Or.inl ⟨rfl, fun wS hwS => ?_⟩) hXS ?_
          rotate_left
          · go_simp; try rfl
          simp only [List.set_cons_zero, List.set_cons_succ]
          refine wpX_take (i := 8) (v := ?_) rfl rfl (by kernel_rfl) (fun _ _ _ h => h) (Or.inl ⟨rfl, fun wS hwS => ?_⟩) hXS ?_
          rotate_left
          · go_simp; try rfl
          simp only [List.set_cons_zero, List.set_cons_succ]
          refine wpX_take (i := 9) (v := ?_) rfl rfl (by kernel_rfl) (fun _ _ _ h => h) (Or.inl ⟨rfl, fun wS hwS => ?_⟩) hXS ?_
          rotate_left
          · go_simp; try rfl
          simp only [List.set_cons_zero, List.set_cons_succ]
          refine wpX_take (i := 10) (v := ?_) rfl rfl (by kernel_rfl) (fun _ _ _ h => h) (Or.inl ⟨rfl, fun wS hwS => ?_⟩) hXS ?_
          rotate_left
          · go_simp; try rfl
          simp only [List.set_cons_zero, List.set_cons_succ]
          refine wpX_hard (k := 5) (by kernel_rfl) rfl (fun K hK => ?_)
          go_simp
          refine (HDc.out _ (HMc1.out.kw (KW.refl wr).drew)).mono ?_
          rintro e w8 ⟨rfl, hm8, hk8⟩
          have HM8 := hid hm8
          have HK8 := hid (HKx.out.drew.kept hk8 HOc.out)
          have HX8 := hid ((HMx1.out.kw (KW.refl wr).drew).keep hk8 fun k h1 h2 => HDis.out k h2 h1)
          clear hm8 hk8
          refine hK _ _ (fun _ => HSS.out _ HK8.out) ?_
          clear hK K
          try simp only [List.set_cons_zero, List.set_cons_succ]
          refine wpX_hard (k := 11) (by kernel_rfl) rfl (fun K hK => ?_)
          go_simp
          refine (HDx.out _ HX8.out).mono ?_
          rintro e w9 ⟨rfl, hm9, hk9⟩
          have HM9 := hid hm9
          have HK9 := hid (HK8.out.kept hk9 HOx'.out)
          have HC9 := hid (HM8.out.keep hk9 fun k h1 h2 => HDis.out k h1 h2)
          clear hm9 hk9
          refine hK _ _ (fun _ => HSS.out _ HK9.out) ?_
          clear hK K
          try simp only [List.set_cons_zero, List.set_cons_succ]
          clear hXS
          have hXS := HSS.out _ HK9.out
          refine wpX_take (i := 12) (v := ?_) rfl rfl (by kernel_rfl) (fun _ _ _ h => h) (Or.inl ⟨rfl, fun wS hwS => ?_⟩) hXS ?_
          rotate_left
          · go_simp; try rfl
          simp only [List.set_cons_zero, List.set_cons_succ]
          refine wpX_take (i := 13) (v := ?_) rfl rfl (by kernel_rfl) (fun _ _ _ h => h) (Or.inl ⟨rfl, fun wS hwS => ?_⟩) hXS ?_
          rotate_left
          · go_simp; try rfl
          simp only [List.set_cons_zero, List.set_cons_succ]
          refine wpX_done (by kernel_rfl) ?_
          clear hXS
          go_wp2_with fail
          refine (HSc.out _ HC9.out).mono ?_
          rintro e wa ⟨va, rfl, hoa, hka⟩
          obtain ⟨Aa, ka, hva, hza⟩ := hoa.row
          clear hza
          subst hva
          have HRa := hid hoa.rt.rt0
          have HKa := hid hka
          clear hoa hka
          go_wp2_with fail
          refine (HSx.out _ (HM9.out.kw HKa.out)).mono ?_
          rintro e wb ⟨vb, rfl, hob, hkb⟩
          obtain ⟨Ab, kb, hvb, hzb⟩ := hob.row
          clear hzb
          subst hvb
          have HRb := hid hob.rt.rt0
          have HRa2 : Hid (RT0 wb (.slice Aa (ints m2.tags).length ka) m2.tags) := by
            obtain ⟨A9, c9, e9, h9⟩ := HRa.out
            exact ⟨A9, c9, e9, h9.k hkb⟩
          have HKb := hid (HKa.out.t hkb)
          clear hob hkb
          go_wp2_with fail
          refine (HSe.out _ _ _ HRa2.out HRb.out).mono ?_
          rintro e wc ⟨rfl, hkc⟩
          have HKc := hid (HKb.out.t hkc)
          clear hkc
          go_wp2_with fail
          have hTt := And.intro HI2.out.t0 HT2.out
          generalize hm2t : m2.tot = t2 at *
          have HM2t := hid hm2t
          clear hm2t
          refine (HTc.out _ (HC9.out.kw HKc.out)).mono ?_
          rintro e wd ⟨rfl, rfl⟩
          go_wp2_with fail
          refine (HTx.out _ (HM9.out.kw HKc.out)).mono ?_
          rintro e wd ⟨rfl, rfl⟩
          obtain ⟨t0, t1⟩ := hTt
          have t1' : t2 ≤ 65535 * 51 := by omega
          have LT : IntKind.i64.wrap (T + t2) = T + t2 := IntWalk.i64_in _ (by omega)
          have dT : (t2 + T != T + t2) = false := by simp; omega
          have dT2 : (t2 + T == T + t2) = true := by simp; omega
          clear t1
          go_wp2_with fail
          go_roundw
          case rel => exact ⟨j + 1, m2, by omega, by go_num, hid (by rw [HM2t.out]; exact HC9.out.kw HKc.out), HM9.out.kw HKc.out, HI2, hid (by rw [HM2t.out]; exact HT2.out), HN2, HK9.out.t HKc.out⟩
          case measure => simp [intOf]; omega
        · have D1 : decide (j < N) = false := decide_eq_false hlt
          clear hlt
          have HSS := hid (fun W (h : KW WU W) => And.intro (KW.cell h Hs'.out HS'.out.1) (And.intro (KW.cell h Hs'.out HS'.out.2.1) (KW.cell h Hs'.out HS'.out.2.2)))
          go_wp2_with fail
          have hXS := HSS.out _ HKx.out
          refine wpX_region (S := fun w' => w'.cell? ⟨sb, 0, none⟩ = some (.int .i64 m.at_) ∧ w'.cell? ⟨sb, 1, none⟩ = some (.int .i64 m.pend) ∧ w'.cell? ⟨sb, 2, none⟩ = some (.slice A4 m.tags.length c4)) (L := 99) (by kernel_rfl) ?_
          refine wpX_take (i := 0) (v := ?_) rfl rfl (by kernel_rfl) (fun _ _ _ h => h) (Or.inl ⟨rfl, fun wS hwS => ?_⟩) hXS ?_
          rotate_left
          · go_simp; try rfl
          simp only [List.set_cons_zero, List.set_cons_succ]
          refine wpX_take (i := 2) (v := ?_) rfl rfl (by kernel_rfl) (fun _ _ _ h => h) (Or.inl ⟨rfl, fun wS hwS => ?_⟩) hXS ?_
          rotate_left
          · go_simp; try rfl
          simp only [List.set_cons_zero, List.set_cons_succ]
          refine wpX_hard (k := 1) (by kernel_rfl) rfl (fun K hK => ?_)
          go_simp
          refine (HSm.out _ (HM'.out.kw HKx.out.drew)).mono ?_
          rintro e wa ⟨va, rfl, hoa, hka⟩
          obtain ⟨Aa, ka, hva, hza⟩ := hoa.row
          clear hza
          subst hva
          have HRa := hid hoa.rt.rt0
          have HKa := hid (HKx.out.drew.t hka)
          clear hoa hka
          refine hK _ _ (fun _ => HSS.out _ HKa.out) ?_
          clear hK K
          try simp only [List.set_cons_zero, List.set_cons_succ]
          refine wpX_hard (k := 3) (by kernel_rfl) rfl (fun K hK => ?_)
          go_simp
          refine (HSame.out _ _ _ HRa.out (by obtain ⟨A9, c9, e9, h9⟩ := HR'.out; exact ⟨A9, c9, e9, h9.k HKa.out⟩)).mono ?_
          rintro e wb ⟨rfl, hkb⟩
          have HKb := hid (HKa.out.t hkb)
          clear hkb
          refine hK _ _ (fun _ => HSS.out _ HKb.out) ?_
          clear hK K
          try simp only [List.set_cons_zero, List.set_cons_succ]
          clear hXS
          have hXS := HSS.out _ HKb.out
          refine wpX_take (i := 4) (v := ?_) rfl rfl (by kernel_rfl) (fun _ _ _ h => h) (Or.inl ⟨rfl, fun wS hwS => ?_⟩) hXS ?_
          rotate_left
          · go_simp; try rfl
          simp only [List.set_cons_zero, List.set_cons_succ]
          refine wpX_take (i := 5) (v := ?_) rfl rfl (by kernel_rfl) (fun _ _ _ h => h) (Or.inl ⟨rfl, fun wS hwS => ?_⟩) hXS ?_
          rotate_left
          · go_simp; try rfl
          simp only [List.set_cons_zero, List.set_cons_succ]
          refine wpX_take (i := 7) (v := ?_) rfl rfl (by kernel_rfl) (fun _ _ _ h => h) (Or.inl ⟨rfl, fun wS hwS => ?_⟩) hXS ?_
          rotate_left
          · go_simp; try rfl
          simp only [List.set_cons_zero, List.set_cons_succ]
          refine wpX_hard (k := 6) (by kernel_rfl) rfl (fun K hK => ?_)
          go_simp
          refine (HTot.out _ (HM'.out.kw HKb.out)).mono ?_
          rintro e wc ⟨rfl, rfl⟩
          refine hK _ _ (fun _ => HSS.out _ HKb.out) ?_
          clear hK K
          try simp only [List.set_cons_zero, List.set_cons_succ]
          refine wpX_take (i := 8) (v := ?_) rfl rfl (by kernel_rfl) (fun _ _ _ h => h) (Or.inl ⟨rfl, fun wS hwS => ?_⟩) hXS ?_
          rotate_left
          · go_simp; try rfl
          simp only [List.set_cons_zero, List.set_cons_succ]
          refine wpX_take (i := 9) (v := ?_) rfl rfl (by kernel_rfl) (fun _ _ _ h => h) (Or.inl ⟨rfl, fun wS hwS => ?_⟩) hXS ?_
          rotate_left
          · go_simp; try rfl
          simp only [List.set_cons_zero, List.set_cons_succ]
          refine wpX_take (i := 10) (v := ?_) rfl rfl (by kernel_rfl) (fun _ _ _ h => h) (Or.inl ⟨rfl, fun wS hwS => ?_⟩) hXS ?_
          rotate_left
          · go_simp; try rfl
          simp only [List.set_cons_zero, List.set_cons_succ]
          refine wpX_hard (k := 11) (by kernel_rfl) rfl (fun K hK => ?_)
          go_simp
          refine (goes27_any _).mono ?_
          rintro e wd ⟨rfl, hkd⟩
          have HKd := hid (HKb.out.t hkd)
          clear hkd
          refine hK _ _ (fun _ => HSS.out _ HKd.out) ?_
          clear hK K
          try simp only [List.set_cons_zero, List.set_cons_succ]
          clear hXS
          have hXS := HSS.out _ HKd.out
          refine wpX_take (i := 12) (v := ?_) rfl rfl (by kernel_rfl) (fun _ _ _ h => h) (Or.inl ⟨rfl, fun wS hwS => ?_⟩) hXS ?_
          rotate_left
          · go_simp; try rfl
          simp only [List.set_cons_zero, List.set_cons_succ]
          refine wpX_take (i := 13) (v := ?_) rfl rfl (by kernel_rfl) (fun _ _ _ h => h) (Or.inl ⟨rfl, fun wS hwS => ?_⟩) hXS ?_
          rotate_left
          · go_simp; try rfl
          simp only [List.set_cons_zero, List.set_cons_succ]
          refine wpX_done (by kernel_rfl) ?_
          clear hXS
          go_wp2_with fail
          go_ret
          exact ⟨rfl, HK'.out.t HKd.out⟩
theorem copy_law (l n : Int) (A : Option Addr) (c : Nat) (list : List Mc.Act) (q : Int) (w : World) (_ : -9223372036854775808 ≤ l) (_ : l ≤ 9223372036854775807) (_ : -9223372036854775808 ≤ n) (_ : n ≤ 9223372036854775807)
    (_ : ∀ a ∈ list, (-9223372036854775808 ≤ a.1 ∧ a.1 ≤ 9223372036854775807) ∧ -9223372036854775808 ≤ a.2 ∧ a.2 ≤ 9223372036854775807) (hA : Acts w A list) (_ : -9223372036854775808 ≤ q) (_ : q ≤ 9223372036854775807) :
    Calls Try.prog 10 #[.int .i64 l, .int .i64 n, .slice A list.length c, .int .i64 q] w fun e w' => e = .returned (.bool true) ∧ KW w w' := by
  by_cases h : n < 0 ∨ 20 < n ∨ l < 0 ∨ 65536 ≤ l ∨ 50 < list.length ∨ q < 0 ∨ (list.length : Int) < q
  · exact copy_goes l n A c list.length q w h
  · obtain ⟨i, rfl⟩ : ∃ i : Nat, n = i := ⟨n.toNat, by omega⟩
    obtain ⟨j, rfl⟩ : ∃ j : Nat, q = j := ⟨q.toNat, by omega⟩
    exact copy_in l i A c list j w (by omega) (by omega) (by omega) (by omega) (by omega) hA
end Go.Proofs.Ythmhdegndoodmaa
