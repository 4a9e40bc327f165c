/- Contract of the reference's Horner of duals: term by term. -/
import Derived.Test.YtkgcipgnpknbdaaD4
namespace Go.Proofs.Ytkgcipgnpknbdaa
open Go.ChangeShapes Go.WideShapes Go.ChangeAt Go.RowKit
set_option linter.unusedVariables false

theorem rh_s (f : Nat → Int) (x1 x2 : Int) (k : Nat) :
    IntKind.u64.wrap (IntKind.u64.wrap (Pl.hz f x1 k) + IntKind.u64.wrap (f k * IntKind.u64.wrap (x1 ^ k))) = IntKind.u64.wrap (Pl.hz f x1 (k + 1)) ∧
    IntKind.u64.wrap (IntKind.u64.wrap (Pl.hd f x1 x2 k) + IntKind.u64.wrap (f k * IntKind.u64.wrap (Pl.dn x1 x2 k) + 0 * IntKind.u64.wrap (x1 ^ k))) = IntKind.u64.wrap (Pl.hd f x1 x2 (k + 1)) := by
  constructor
  · exact Pl.uw2 (Pl.uw_uw _) ((Pl.uw_uw _).trans (Pl.uwm rfl (Pl.uw_uw _)))
  · rw [Int.zero_mul, Int.add_zero]
    exact Pl.uw2 (Pl.uw_uw _) ((Pl.uw_uw _).trans (Pl.uwm rfl (Pl.uw_uw _)))
theorem rh_p (x1 x2 : Int) (k : Nat) :
    IntKind.u64.wrap (IntKind.u64.wrap (x1 ^ k) * x1) = IntKind.u64.wrap (x1 ^ (k + 1)) ∧ IntKind.u64.wrap (IntKind.u64.wrap (x1 ^ k) * x2 + IntKind.u64.wrap (Pl.dn x1 x2 k) * x1) = IntKind.u64.wrap (Pl.dn x1 x2 (k + 1)) := by
  constructor
  · rw [Int.pow_succ, Pl.uw_mull]
  · rw [Pl.dn_succ]
    exact Pl.uw2 (Pl.uwm (Pl.uw_uw _) rfl) (Pl.uwm (Pl.uw_uw _) rfl)

set_option maxHeartbeats 2000000 in
theorem rhorner_any (A : Option Addr) (n c : Nat) (f : Nat → Int) (x1 x2 : Int) (w : World) (hn : n ≤ 9223372036854775807) (hf : ∀ k, k < n → 0 ≤ f k ∧ f k ≤ 18446744073709551615)
    (hx0 : 0 ≤ x1) (hx1 : x1 ≤ 18446744073709551615) (hy0 : 0 ≤ x2) (hy1 : x2 ≤ 18446744073709551615) (hr : Row1 w A n fun k => .int .u64 (f k)) :
    Calls Try.prog 14 #[.slice A n c, .agg #[.int .u64 x1, .int .u64 x2]] w fun e w' =>
      e = .returned (.agg #[.int .u64 (IntKind.u64.wrap (Pl.hz f x1 n)), .int .u64 (IntKind.u64.wrap (Pl.hd f x1 x2 n))]) ∧ Below w.heap.size w w' := by
  have HR := hid hr
  have HF := hid hf
  clear hr hf
  go_enter Try.func14, Try.ntmps14
  go_wp2
  go_loopw [7] (fun i wr => ∃ k : Nat, k ≤ n ∧ i = .int .i64 k ∧ Hid (wr.rowIs (w.heap.size + 1 + 1) 25 2 (pr2 (.int .u64 (IntKind.u64.wrap (Pl.hz f x1 k))) (.int .u64 (IntKind.u64.wrap (Pl.hd f x1 x2 k))))) ∧
      Hid (wr.rowIs (w.heap.size + 1 + 1 + 1) 25 2 (pr2 (.int .u64 (IntKind.u64.wrap (x1 ^ k))) (.int .u64 (IntKind.u64.wrap (Pl.dn x1 x2 k))))) ∧
      Hid (wr.rowIs (w.heap.size + 1) 25 2 (pr2 (.int .u64 0) (.int .u64 0))) ∧ Hid (wr.rowIs w.heap.size 25 2 (pr2 (.int .u64 x1) (.int .u64 x2))) ∧ Hid (Below w.heap.size w wr) ∧ w.heap.size + 1 + 1 + 1 + 1 ≤ wr.heap.size)
    (fun i _ => n - (intOf i).toNat)
  case atStart =>
    refine ⟨0, by omega, rfl, ?_, ?_, ?_, ?_, ?_, by simp⟩
    · have h := (pr2_new ((w.alloc (.cells #[.int .u64 x1, .int .u64 x2] 25)).alloc (.cells #[.int .u64 0, .int .u64 0] 25)) 25 (.int .u64 0) (.int .u64 0)).alloc (.cells #[.int .u64 1, .int .u64 0] 25)
      simpa [Hid, Pl.hz, Pl.hd, Pl.sm, show IntKind.u64.wrap 0 = 0 from rfl] using h
    · have h := pr2_new (((w.alloc (.cells #[.int .u64 x1, .int .u64 x2] 25)).alloc (.cells #[.int .u64 0, .int .u64 0] 25)).alloc (.cells #[.int .u64 0, .int .u64 0] 25)) 25 (.int .u64 1) (.int .u64 0)
      simpa [Hid, Pl.dn, show IntKind.u64.wrap 0 = 0 from rfl, show IntKind.u64.wrap 1 = 1 from rfl] using h
    · have h := ((pr2_new (w.alloc (.cells #[.int .u64 x1, .int .u64 x2] 25)) 25 (.int .u64 0) (.int .u64 0)).alloc (.cells #[.int .u64 0, .int .u64 0] 25)).alloc (.cells #[.int .u64 1, .int .u64 0] 25)
      simpa [Hid] using h
    · exact (((pr2_new w _ _ _).alloc _).alloc _).alloc _
    · rw [Hid]; go_grown
  case round =>
    obtain ⟨k, hk, rfl, rs, rp, rz, rx, hB, hS⟩ := hrel
    by_cases hlt : k < n
    · obtain ⟨s0, s1, f0, f1⟩ := pr2_cells rs.out
      obtain ⟨p0, p1, fp0, fp1⟩ := pr2_cells rp.out
      obtain ⟨c0, c1, _, _⟩ := pr2_cells rx.out
      obtain ⟨b, off, rfl, hb, e0⟩ := HR.out.at_ hlt
      obtain ⟨y0, y1⟩ := HF.out k hlt
      have c2 := (hB.out.cell (p := ⟨b, off + k, none⟩) hb).trans e0
      have HV := hid (rh_s f x1 x2 k)
      have HP := hid (rh_p x1 x2 k)
      have u0 := Pl.uw_nn (Pl.hz f x1 k)
      have u1 := Pl.uw_le (Pl.hz f x1 k)
      have v0 := Pl.uw_nn (Pl.hd f x1 x2 k)
      have v1 := Pl.uw_le (Pl.hd f x1 x2 k)
      have r0 := Pl.uw_nn (x1 ^ k)
      have r1 := Pl.uw_le (x1 ^ k)
      have t0 := Pl.uw_nn (Pl.dn x1 x2 k)
      have t1 := Pl.uw_le (Pl.dn x1 x2 k)
      generalize IntKind.u64.wrap (Pl.hz f x1 k) = sv at *
      generalize IntKind.u64.wrap (Pl.hd f x1 x2 k) = sd at *
      generalize IntKind.u64.wrap (x1 ^ k) = pv at *
      generalize IntKind.u64.wrap (Pl.dn x1 x2 k) = pd at *
      generalize f k = y at *
      generalize hq1 : IntKind.u64.wrap (y * pv) = q1 at *
      generalize hq2 : IntKind.u64.wrap (y * pd + 0 * pv) = q2 at *
      have Hq := hid (And.intro hq1 hq2)
      have g0 : 0 ≤ q1 := hq1 ▸ Pl.uw_nn _
      have g1 : q1 ≤ 18446744073709551615 := hq1 ▸ Pl.uw_le _
      have g2 : 0 ≤ q2 := hq2 ▸ Pl.uw_nn _
      have g3 : q2 ≤ 18446744073709551615 := hq2 ▸ Pl.uw_le _
      clear hq1 hq2
      have hb3 : b < wr.heap.size := by omega
      have ns : w.heap.size + 1 + 1 < wr.heap.size := by omega
      have np : w.heap.size + 1 + 1 + 1 < wr.heap.size := by omega
      have nx : w.heap.size < wr.heap.size := by omega
      have KS := hid (And.intro s0 (And.intro s1 (And.intro f0 f1)))
      have hk2 := KW.refl wr
      have hXS := And.intro s0 (And.intro s1 (And.intro p0 (And.intro p1 c2)))
      have L1 : (0 : Int) ≤ (k : Int) := by omega
      have L2 : (k : Int) < (n : Int) := by omega
      clear e0 f0 f1 fp0 fp1 hS
      go_wp2
      refine wpX_region (S := fun w' => w'.cell? ⟨w.heap.size + 1 + 1, 0, none⟩ = some (.int .u64 sv) ∧ w'.cell? ⟨w.heap.size + 1 + 1, 1, none⟩ = some (.int .u64 sd) ∧ w'.cell? ⟨w.heap.size + 1 + 1 + 1, 0, none⟩ = some (.int .u64 pv) ∧ w'.cell? ⟨w.heap.size + 1 + 1 + 1, 1, none⟩ = some (.int .u64 pd) ∧ w'.cell? ⟨b, off + k, none⟩ = some (.int .u64 y)) (L := 9) (by kernel_rfl) ?_
      refine wpX_take (i := 0) (v := ?_) rfl rfl (by kernel_rfl) (fun _ _ _ h => h) (Or.inl ⟨rfl, fun wS hwS => ?_⟩) hXS ?_
      rotate_left
      · go_simp; try rfl
      simp only [List.set_cons_zero, List.set_cons_succ]
      refine wpX_take (i := 1) (v := ?_) rfl rfl (by kernel_rfl) (fun _ _ _ h => h) (Or.inl ⟨rfl, fun wS hwS => ?_⟩) hXS ?_
      rotate_left
      · go_simp; try rfl
      simp only [List.set_cons_zero, List.set_cons_succ]
      refine wpX_take (i := 2) (v := ?_) rfl rfl (by kernel_rfl) (fun _ _ _ h => h) (Or.inl ⟨rfl, fun wS hwS => ?_⟩) hXS ?_
      rotate_left
      · go_simp; try rfl
      simp only [List.set_cons_zero, List.set_cons_succ]
      refine wpX_take (i := 3) (v := ?_) rfl rfl (by kernel_rfl) (fun _ _ _ h => h) (Or.inl ⟨rfl, fun wS hwS => ?_⟩) hXS ?_
      rotate_left
      · go_simp; try rfl
      simp only [List.set_cons_zero, List.set_cons_succ]
      refine wpX_take (i := 4) (v := ?_) rfl rfl (by kernel_rfl) (fun _ _ _ h => h) (Or.inl ⟨rfl, fun wS hwS => ?_⟩) hXS ?_
      rotate_left
      · go_simp; try rfl
      simp only [List.set_cons_zero, List.set_cons_succ]
      refine wpX_take (i := 5) (v := ?_) rfl rfl (by kernel_rfl) (fun _ _ _ h => h) (Or.inl ⟨rfl, fun wS hwS => ?_⟩) hXS ?_
      rotate_left
      · go_simp; try rfl
      simp only [List.set_cons_zero, List.set_cons_succ]
      refine wpX_take (i := 6) (v := ?_) rfl rfl (by kernel_rfl) (fun _ _ _ h => h) (Or.inl ⟨rfl, fun wS hwS => ?_⟩) hXS ?_
      rotate_left
      · go_simp; try rfl
      simp only [List.set_cons_zero, List.set_cons_succ]
      refine wpX_hard (k := 7) (by kernel_rfl) rfl (fun K hK => ?_)
      go_simp
      (refine (dtimes_any y 0 pv pd y0 y1 (by omega) (by omega) r0 r1 t0 t1 _).mono ?_; rw [Hq.out.1, Hq.out.2]; rintro e w1 ⟨rfl, hb⟩; (try replace hb := undrew hb); replace hk2 := hk2.on hb; clear hb)
      refine hK _ _ (fun _ => ⟨hk2.cell ns s0, hk2.cell ns s1, hk2.cell np p0, hk2.cell np p1, hk2.cell hb3 c2⟩) ?_
      clear hK K
      try simp only [List.set_cons_zero, List.set_cons_succ]
      refine wpX_hard (k := 8) (by kernel_rfl) rfl (fun K hK => ?_)
      go_simp
      (refine (dplus_any sv sd q1 q2 u0 u1 v0 v1 g0 g1 g2 g3 _).mono ?_; rintro e w2 ⟨rfl, hb⟩; replace hk2 := hk2.on hb; clear hb)
      refine hK _ _ (fun _ => ⟨hk2.cell ns s0, hk2.cell ns s1, hk2.cell np p0, hk2.cell np p1, hk2.cell hb3 c2⟩) ?_
      clear hK K
      try simp only [List.set_cons_zero, List.set_cons_succ]
      have s03 := hk2.cell ns KS.out.1
      have s13 := hk2.cell ns KS.out.2.1
      have f03 := hk2.frozen ns KS.out.2.2.1
      have f13 := hk2.frozen ns KS.out.2.2.2
      refine wpX_hard (k := 9) (by kernel_rfl) rfl (fun K hK => ?_)
      go_simp
      refine hK _ _ (fun _ => absurd rfl ‹_›) ?_
      clear hK K
      try simp only [List.set_cons_zero, List.set_cons_succ]
      refine wpX_done (by kernel_rfl) ?_
      have p03 := hk2.cell np p0
      have p13 := hk2.cell np p1
      have c03 := hk2.cell nx c0
      have c13 := hk2.cell nx c1
      clear s03 s13 f03 f13
      go_wp2_with fail
      refine (dtimes_any pv pd x1 x2 r0 r1 t0 t1 hx0 hx1 hy0 hy1 _).mono ?_
      rintro e w3 ⟨rfl, hb⟩
      have hk3 := (KW.refl _).on hb
      clear hb
      have rp3 := hk3.row (by have := hk2.size; simp; omega) (((hk2.row np rp.out).setOther (by simp; try omega) _).setOther (by simp; try omega) _)
      obtain ⟨z0, z1, fz0, fz1⟩ := pr2_cells rp3
      have HK := hid rp3
      clear rp3
      go_wp2
      go_roundw
      case rel =>
        refine ⟨k + 1, by omega, by go_num, ?_, ?_, ?_, ?_, ?_, ?_⟩
        · rw [← HV.out.1, ← HV.out.2]
          exact ((hk3.row (by have := hk2.size; simp; omega) (pr2_set (hk2.row ns rs.out))).setOther (by simp) _).setOther (by simp) _
        · rw [← HP.out.1, ← HP.out.2]
          exact pr2_set HK.out
        · exact ((hk3.row (by have := hk2.size; simp; omega) (((hk2.row (by omega) rz.out).setOther (by simp) _).setOther (by simp) _)).setOther (by simp) _).setOther (by simp) _
        · exact ((hk3.row (by have := hk2.size; simp; omega) (((hk2.row nx rx.out).setOther (by simp; try omega) _).setOther (by simp; try omega) _)).setOther (by simp; try omega) _).setOther (by simp; try omega) _
        · exact ((hk3.below (((hk2.below hB.out (by omega)).setCell (by simp; try omega) _).setCell (by simp; try omega) _) (by have := hk2.size; simp; omega)).setCell (by simp; try omega) _).setCell (by simp; try omega) _
        · have := hk2.size
          have h3 := hk3.size
          simp at h3 ⊢
          omega
      case measure => simp [intOf]; omega
    · obtain rfl : k = n := by omega
      obtain ⟨s0, s1, f0, f1⟩ := pr2_cells rs.out
      obtain ⟨z0, z1, g0, g1⟩ := pr2_cells rz.out
      go_wp2
      refine bodyPost_ret (results_cell_row rfl _ _ _ _ _ (0, 0) _ rfl (whole2 (pr2_set rz.out)) Try.underlying25 rfl (by kernel_rfl)) rfl ⟨rfl, ?_⟩
      exact (hB.out.setCell (by simp) _).setCell (by simp) _
end Go.Proofs.Ytkgcipgnpknbdaa
