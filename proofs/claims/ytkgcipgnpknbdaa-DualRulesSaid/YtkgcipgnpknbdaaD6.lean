/- Contract of dual.Pow: by squares. -/
import Derived.Test.YtkgcipgnpknbdaaD3
import Derived.Laws.StructEq
namespace Go.Proofs.Ytkgcipgnpknbdaa
open Go.ChangeShapes Go.WideShapes Go.ChangeAt Go.RowKit
set_option linter.unusedVariables false

theorem pw_start (a b n : Int) : Pl.pwV 1 a n.toNat = IntKind.u64.wrap (a ^ n.toNat) ∧ Pl.pwD 1 0 a b n.toNat = IntKind.u64.wrap (Pl.dn a b n.toNat) := by
  simp [Pl.pwV, Pl.pwD]
theorem row2_at (w : World) (t : TypeId) (a b c d : Int) (g : Nat) (hg : g = w.heap.size) : Row2 (w.alloc (.cells #[.int .u64 a, .int .u64 b, .int .u64 c, .int .u64 d] t)) (some ⟨g, 0, none⟩) 2 (fun k => .int .u64 (sel a c k)) (fun k => .int .u64 (sel b d k)) := by
  subst hg; exact row2_int w t a b c d
theorem w00 : IntKind.u64.wrap 0 = 0 := rfl
theorem pw_end (pv pd a b : Int) (h0 : 0 ≤ pv) (h1 : pv ≤ 18446744073709551615) (g0 : 0 ≤ pd) (g1 : pd ≤ 18446744073709551615) : Pl.pwV pv a 0 = pv ∧ Pl.pwD pv pd a b 0 = pd := by
  simp [Pl.pwV, Pl.pwD, Pl.dn, Pl.uw_id h0 h1, Pl.uw_id g0 g1]

set_option maxHeartbeats 1500000 in
theorem dpow_any (a b n : Int) (ha0 : 0 ≤ a) (ha1 : a ≤ 18446744073709551615) (hb0 : 0 ≤ b) (hb1 : b ≤ 18446744073709551615) (g0 : 0 ≤ n) (g1 : n ≤ 18446744073709551615) (w : World) :
    Calls Try.prog 10 #[.agg #[.int .u64 a, .int .u64 b], .int .u64 n] w fun e w' =>
      e = .returned (.agg #[.int .u64 (IntKind.u64.wrap (a ^ n.toNat)), .int .u64 (IntKind.u64.wrap (Pl.dn a b n.toNat))]) ∧ Below w.heap.size w w' := by
  have HS0 := hid (pw_start a b n)
  generalize IntKind.u64.wrap (a ^ n.toNat) = RV at *
  generalize IntKind.u64.wrap (Pl.dn a b n.toNat) = RD at *
  go_enter Try.func10, Try.ntmps10
  go_wp2_with fail
  refine (const_any 1 _).mono ?_
  rintro e w1 ⟨rfl, hw1⟩
  have hs1 := hw1.size
  have hs1' : w.heap.size + 1 + 1 ≤ w1.heap.size := by simpa using hs1
  have rz := hid (row_below (by simpa using pr2_new (w.alloc (.cells #[.int .u64 a, .int .u64 b] 25)) 25 (.int .u64 0) (.int .u64 0)) hw1 (show w.heap.size + 1 < _ from by simp))
  have ra := hid (row_below ((pr2_new w 25 (.int .u64 a) (.int .u64 b)).alloc _) hw1 (by simp; omega))
  have hB : Hid (Below w.heap.size w w1) := hid ((((Below.refl _ _).alloc (Nat.le_refl _) _).alloc (by simp) _).trans (hw1.mono (by simp; omega)))
  clear hw1 hs1
  go_wp2
  go_loopw [1] (fun nv wr => ∃ m pv pd av ad : Int, 0 ≤ m ∧ m ≤ 18446744073709551615 ∧ nv = .int .u64 m ∧ (0 ≤ pv ∧ pv ≤ 18446744073709551615) ∧ (0 ≤ pd ∧ pd ≤ 18446744073709551615) ∧
      Hid (Pl.pwV pv av m.toNat = RV ∧ Pl.pwD pv pd av ad m.toNat = RD) ∧ Hid (wr.rowIs w1.heap.size 25 2 (pr2 (.int .u64 pv) (.int .u64 pd))) ∧ Hid (wr.rowIs (w.heap.size + 1) 25 2 (pr2 (.int .u64 0) (.int .u64 0))) ∧
      Hid (wr.rowIs w.heap.size 25 2 (pr2 (.int .u64 av) (.int .u64 ad))) ∧ Hid (Below w.heap.size w wr) ∧ w1.heap.size + 1 ≤ wr.heap.size)
    (fun nv _ => (intOf nv).toNat)
  case atStart => exact ⟨n, 1, 0, a, b, g0, g1, rfl, by omega, by omega, HS0, pr2_new w1 _ _ _, rz.out.alloc _, ra.out.alloc _, hB.out.alloc (by omega) _, by simp⟩
  case round =>
    obtain ⟨m, pv, pd, av, ad, hm0, hm1, rfl, hpv, hpd, HI, rp, rz, ra, hB, hS⟩ := hrel
    obtain ⟨p0, p1, f0, f1⟩ := pr2_cells rp.out
    obtain ⟨z0, z1, fz0, fz1⟩ := pr2_cells rz.out
    by_cases hm : 0 < m
    · obtain ⟨a0, a1, e0, e1⟩ := pr2_cells ra.out
      have nw : w1.heap.size < wr.heap.size := by omega
      have nz : w.heap.size + 1 < wr.heap.size := by omega
      have na : w.heap.size < wr.heap.size := by omega
      by_cases hz : av = 0 ∧ ad = 0
      · obtain ⟨rfl, rfl⟩ := hz
        have hR := HI.out
        rw [Pl.pwV_zero _ _ (by omega), Pl.pwD_zero _ _ _ (by omega)] at hR
        have HR := hid hR
        clear hpv hpd hR
        go_wp2
        refine bodyPost_ret (results_cell_row rfl _ _ _ _ _ (0, 0) _ rfl (whole2 (pr2_set rz.out)) Try.underlying25 rfl (by kernel_rfl)) rfl ⟨?_, ?_⟩
        · rw [← HR.out.1, ← HR.out.2]
        · exact (hB.out.setCell (by simp) _).setCell (by simp) _
      · have hcase : (av = 0 ∧ (ad == 0) = false) ∨ (av == 0) = false := by
          by_cases h : av = 0
          · exact .inl ⟨h, by simp; exact fun h2 => hz ⟨h, h2⟩⟩
          · exact .inr (by simpa using h)
        have hand := and_one_u64 m hm0 hm1
        have hq := KW.refl wr
        have hp1 := hpv
        have hp2 := hpd
        clear hz hpv hpd f0 f1 fz0 fz1 z0 z1
        rcases hcase with ⟨rfl, hne⟩ | hne
        all_goals
          by_cases ho : m % 2 = 1
          · have ho' : (m % 2 == 1) = true := by simpa using ho
            have em : m.toNat = 2 * (m / 2).toNat + 1 := by omega
            rw [em, ← Pl.pwV_odd, ← Pl.pwD_odd] at HI
            (try simp only [Int.mul_zero, Int.zero_mul, Int.add_zero, w00] at HI)
            clear ho em
            go_wp2_with fail
            refine (dmul2 _ _ _ _ _ _ (row2_int _ _ _ _ _ _)).mono ?_
            rintro e w2 ⟨rfl, hb⟩
            replace hq := hq.onA hb
            clear hb
            obtain ⟨x0, x1, y0, y1⟩ := pr2_cells (hq.row nw rp.out)
            replace a0 := hq.cell na a0
            replace a1 := hq.cell na a1
            have nw2 := Nat.lt_of_lt_of_le nw hq.size
            have na2 := Nat.lt_of_lt_of_le na hq.size
            go_wp2_with fail
            refine (dmul2 _ _ _ _ _ _ (row2_at _ _ _ _ _ _ _ (by simp))).mono ?_
            rintro e w3 ⟨rfl, hb⟩
            have hq3 := (KW.refl _).onA hb
            clear hb
            have rp3 := hq3.row (by simpa using nw2) (pr2_set (hq.row nw rp.out))
            have ra3 := hq3.row (by simpa using na2) (((hq.row na ra.out).setOther (by simp; omega) _).setOther (by simp; omega) _)
            have rz3 := hq3.row (by simp; omega) (((hq.row nz rz.out).setOther (by simp; omega) _).setOther (by simp; omega) _)
            have hB3 := hq3.below (((hq.below hB.out (by omega)).setCell (by simp; omega) _).setCell (by simp; omega) _) (by simp; omega)
            have hS3 := Nat.lt_of_lt_of_le (show w1.heap.size < _ from by simpa using nw2) hq3.size
            obtain ⟨a03, a13, fa0, fa1⟩ := pr2_cells ra3
            have HK := hid (And.intro rp3 (And.intro ra3 (And.intro rz3 hB3)))
            clear rp3 ra3 rz3 hB3 hq3
            go_wp2
            go_roundw
            case rel =>
              refine ⟨m / 2, _, _, _, _, by omega, by omega, rfl, (by first | exact ⟨Pl.uw_nn _, Pl.uw_le _⟩ | omega), (by first | exact ⟨Pl.uw_nn _, Pl.uw_le _⟩ | omega), HI, (HK.out.1.setOther (by simp; omega) _).setOther (by simp; omega) _, (HK.out.2.2.1.setOther (by simp) _).setOther (by simp) _, pr2_set HK.out.2.1, (HK.out.2.2.2.setCell (by simp) _).setCell (by simp) _, ?_⟩
              simp; omega
            case measure => simp [intOf]; omega
          · have ho' : (m % 2 == 1) = false := by simp; omega
            have em : m.toNat = 2 * (m / 2).toNat := by omega
            rw [em, ← Pl.pwV_even, ← Pl.pwD_even] at HI
            (try simp only [Int.mul_zero, Int.zero_mul, Int.add_zero, w00] at HI)
            clear ho em
            go_wp2_with fail
            refine (dmul2 _ _ _ _ _ _ (row2_int _ _ _ _ _ _)).mono ?_
            rintro e w3 ⟨rfl, hb⟩
            have hq3 := (KW.refl _).onA hb
            clear hb
            have rp3 := hq3.row nw rp.out
            have ra3 := hq3.row na ra.out
            have rz3 := hq3.row nz rz.out
            have hB3 := hq3.below hB.out (by omega)
            have hS3 := Nat.lt_of_lt_of_le nw hq3.size
            obtain ⟨a03, a13, fa0, fa1⟩ := pr2_cells ra3
            have HK := hid (And.intro rp3 (And.intro ra3 (And.intro rz3 hB3)))
            clear rp3 ra3 rz3 hB3 hq3
            go_wp2
            go_roundw
            case rel =>
              refine ⟨m / 2, _, _, _, _, by omega, by omega, rfl, hp1, hp2, HI, (HK.out.1.setOther (by simp; omega) _).setOther (by simp; omega) _, (HK.out.2.2.1.setOther (by simp) _).setOther (by simp) _, pr2_set HK.out.2.1, (HK.out.2.2.2.setCell (by simp) _).setCell (by simp) _, ?_⟩
              simp; omega
            case measure => simp [intOf]; omega
    · obtain rfl : m = 0 := by omega
      have hR := HI.out
      rw [show (0 : Int).toNat = 0 from rfl, (pw_end pv pd av ad hpv.1 hpv.2 hpd.1 hpd.2).1, (pw_end pv pd av ad hpv.1 hpv.2 hpd.1 hpd.2).2] at hR
      obtain ⟨rfl, rfl⟩ := hR
      clear hpv hpd
      go_wp2
      refine bodyPost_ret (results_cell_row rfl _ _ _ _ _ (0, 0) _ rfl (whole2 (pr2_set rz.out)) Try.underlying25 rfl (by kernel_rfl)) rfl ⟨rfl, ?_⟩
      exact (hB.out.setCell (by simp) _).setCell (by simp) _
end Go.Proofs.Ytkgcipgnpknbdaa
