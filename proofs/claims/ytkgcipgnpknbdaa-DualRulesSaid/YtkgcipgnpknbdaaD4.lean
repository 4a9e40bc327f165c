/- Contract of dual.Horner: a polynomial of one variable at a dual. -/
import Derived.Test.YtkgcipgnpknbdaaD3
import Derived.Test.YtkgcipgnpknbdaaOrd
namespace Go.Proofs.Ytkgcipgnpknbdaa
open Go.ChangeShapes Go.WideShapes Go.ChangeAt Go.RowKit
set_option linter.unusedVariables false

/-- what a cell holds, said of whatever world: for a cell that a region reads and then writes -/
def at_ (p : Addr) (w : World) : Value := (w.cell? p).getD undef
theorem at_some {p : Addr} {w : World} {v : Value} (h : w.cell? p = some v) : w.cell? p = some (at_ p w) := by simp [at_, h]
theorem at_is {p : Addr} {w : World} {v : Value} (h : w.cell? p = some v) : at_ p w = v := by simp [at_, h]
theorem al_cell {w : World} {ob : Obj} {p : Addr} {v : Value} (h : w.cell? p = some v) : (w.alloc ob).cell? p = some v := (World.cell?_alloc_some _ _ _ (by rw [h]; rfl)).trans h

theorem horner_V (f : Nat → Int) (x1 : Int) (n k : Nat) (h : k < n) :
    IntKind.u64.wrap (IntKind.u64.wrap (IntKind.u64.wrap (Pl.hz (fun t => f (n - k + t)) x1 k) * x1) + f (n - 1 - k)) = IntKind.u64.wrap (Pl.hz (fun t => f (n - (k + 1) + t)) x1 (k + 1)) := by
  rw [Pl.hz_step]
  have e1 : (fun t => f (n - (k + 1) + (t + 1))) = (fun t => f (n - k + t)) := funext fun t => by rw [show n - (k + 1) + (t + 1) = n - k + t from by omega]
  rw [e1, show n - (k + 1) + 0 = n - 1 - k from by omega]
  exact Pl.uw2 ((Pl.uw_uw _).trans (Pl.uwm (Pl.uw_uw _) rfl)) rfl
theorem horner_D (f : Nat → Int) (x1 x2 : Int) (n k : Nat) (h : k < n) :
    IntKind.u64.wrap (IntKind.u64.wrap (IntKind.u64.wrap (Pl.hz (fun t => f (n - k + t)) x1 k) * x2 + IntKind.u64.wrap (Pl.hd (fun t => f (n - k + t)) x1 x2 k) * x1) + 0) = IntKind.u64.wrap (Pl.hd (fun t => f (n - (k + 1) + t)) x1 x2 (k + 1)) := by
  rw [Pl.hd_step, Int.add_zero]
  have e1 : (fun t => f (n - (k + 1) + (t + 1))) = (fun t => f (n - k + t)) := funext fun t => by rw [show n - (k + 1) + (t + 1) = n - k + t from by omega]
  rw [e1]
  exact (Pl.uw_uw _).trans (Pl.uw2 (Pl.uwm (Pl.uw_uw _) rfl) (Pl.uwm (Pl.uw_uw _) rfl))

set_option maxHeartbeats 1000000 in
theorem dhorner_any (A : Option Addr) (n c : Nat) (f : Nat → Int) (x1 x2 : Int) (w : World) (hn : n ≤ 9223372036854775807) (hr : Row1 w A n fun k => .int .u64 (f k)) :
    Calls Try.prog 13 #[.slice A n c, .agg #[.int .u64 x1, .int .u64 x2]] w fun e w' =>
      e = .returned (.agg #[.int .u64 (IntKind.u64.wrap (Pl.hz f x1 n)), .int .u64 (IntKind.u64.wrap (Pl.hd f x1 x2 n))]) ∧ Below w.heap.size w w' := by
  have HR := hid hr
  clear hr
  go_enter Try.func13, Try.ntmps13
  go_wp2
  go_loopw [6, 9] (fun _j i wr => ∃ k : Nat, k ≤ n ∧ i = .int .i64 k ∧ Hid (wr.rowIs (w.heap.size + 1 + 1) 25 2 (pr2 (.int .u64 (IntKind.u64.wrap (Pl.hz (fun t => f (n - k + t)) x1 k))) (.int .u64 (IntKind.u64.wrap (Pl.hd (fun t => f (n - k + t)) x1 x2 k))))) ∧
      Hid (wr.rowIs (w.heap.size + 1) 25 2 (pr2 (.int .u64 0) (.int .u64 0))) ∧ Hid (wr.rowIs w.heap.size 25 2 (pr2 (.int .u64 x1) (.int .u64 x2))) ∧ Hid (Below w.heap.size w wr) ∧ w.heap.size + 1 + 1 + 1 ≤ wr.heap.size)
    (fun _ i _ => n - (intOf i).toNat)
  case atStart =>
    refine ⟨0, by omega, rfl, ?_, ?_, ?_, ?_, by simp⟩
    · have h := pr2_new ((w.alloc (.cells #[.int .u64 x1, .int .u64 x2] 25)).alloc (.cells #[.int .u64 0, .int .u64 0] 25)) 25 (.int .u64 0) (.int .u64 0)
      simpa [Hid, Pl.hz, Pl.hd, Pl.sm, show IntKind.u64.wrap 0 = 0 from rfl] using h
    · have h := (pr2_new (w.alloc (.cells #[.int .u64 x1, .int .u64 x2] 25)) 25 (.int .u64 0) (.int .u64 0)).alloc (.cells #[.int .u64 0, .int .u64 0] 25)
      simpa [Hid] using h
    · exact ((pr2_new w _ _ _).alloc _).alloc _
    · rw [Hid]; go_grown
  case round =>
    obtain ⟨k, hk, rfl, rs, rz, rx, hB, hS⟩ := hrel
    obtain ⟨s0, s1, f0, f1⟩ := pr2_cells rs.out
    by_cases hlt : k < n
    · obtain ⟨c0, c1, _, _⟩ := pr2_cells rx.out
      obtain ⟨b, off, rfl, hb, e0⟩ := HR.out.at_ (show n - 1 - k < n from by omega)
      have c2 := (hB.out.cell (p := ⟨b, off + (n - 1 - k), none⟩) hb).trans e0
      have HV := hid (horner_V f x1 n k hlt)
      have HD := hid (horner_D f x1 x2 n k hlt)
      generalize IntKind.u64.wrap (Pl.hz (fun t => f (n - k + t)) x1 k) = sv at *
      generalize IntKind.u64.wrap (Pl.hd (fun t => f (n - k + t)) x1 x2 k) = sd at *
      generalize f (n - 1 - k) = y at *
      have hb3 : b < wr.heap.size := by omega
      have n0 : w.heap.size + 1 + 1 < wr.heap.size := by omega
      have KS := hid (And.intro s0 (And.intro s1 (And.intro f0 f1)))
      have hk := KW.refl wr
      clear e0 f0 f1 hb hS
      have L1 : IntKind.i64.wrap ((n : Int) - 1) = (n : Int) - 1 := IntWalk.i64_in _ (by omega)
      have L2 : IntKind.i64.wrap ((n : Int) - 1 - (k : Int)) = (n : Int) - 1 - (k : Int) := IntWalk.i64_in _ (by omega)
      have L3 : (0 : Int) ≤ (n : Int) - 1 - (k : Int) := by omega
      have L4 : ((n : Int) - 1 - (k : Int)).toNat = n - 1 - k := by omega
      have L5 : (n : Int) - 1 - (k : Int) < (n : Int) := by omega
      go_wp2
      refine wpX_region (S := fun w' => w'.cell? ⟨w.heap.size + 1 + 1, 0, none⟩ = some (.int .u64 sv) ∧ w'.cell? ⟨w.heap.size + 1 + 1, 1, none⟩ = some (.int .u64 sd) ∧ w'.cell? ⟨w.heap.size, 0, none⟩ = some (.int .u64 x1) ∧ w'.cell? ⟨w.heap.size, 1, none⟩ = some (.int .u64 x2) ∧ w'.cell? ⟨b, off + (n - 1 - k), none⟩ = some (.int .u64 y)) (L := 15) (by kernel_rfl) ?_
      have hXS := And.intro s0 (And.intro s1 (And.intro c0 (And.intro c1 c2)))
      have n00 : w.heap.size < wr.heap.size := by omega
      have L6 : (k : Int) ≤ (n : Int) - 1 := by omega
      refine wpX_take (i := 0) (v := ?_) rfl rfl (by kernel_rfl) (fun _ _ _ h => h) (Or.inl ⟨rfl, fun wS hwS => ?_⟩) hXS ?_
      rotate_left
      · go_simp; try rfl
      simp only [List.set_cons_zero, List.set_cons_succ]
      refine wpX_take (i := 1) (v := ?_) rfl rfl (by kernel_rfl) (fun _ _ _ h => h) (Or.inl ⟨rfl, fun wS hwS => ?_⟩) hXS ?_
      rotate_left
      · go_simp; try rfl
      simp only [List.set_cons_zero, List.set_cons_succ]
      refine wpX_take (i := 4) (v := ?_) rfl rfl (by kernel_rfl) (fun _ _ _ h => h) (Or.inl ⟨rfl, fun wS hwS => ?_⟩) hXS ?_
      rotate_left
      · go_simp; try rfl
      simp only [List.set_cons_zero, List.set_cons_succ]
      refine wpX_take (i := 5) (v := ?_) rfl rfl (by kernel_rfl) (fun _ _ _ h => h) (Or.inl ⟨rfl, fun wS hwS => ?_⟩) hXS ?_
      rotate_left
      · go_simp; try rfl
      simp only [List.set_cons_zero, List.set_cons_succ]
      refine wpX_take (i := 6) (v := ?_) rfl rfl (by kernel_rfl) (fun _ _ _ h => h) (Or.inl ⟨rfl, fun wS hwS => ?_⟩) hXS ?_
      rotate_left
      · go_simp; try rfl
      simp only [List.set_cons_zero, List.set_cons_succ]
      refine wpX_take (i := 7) (v := ?_) rfl rfl (by kernel_rfl) (fun _ _ _ h => h) (Or.inl ⟨rfl, fun wS hwS => ?_⟩) hXS ?_
      rotate_left
      · go_simp; try rfl
      simp only [List.set_cons_zero, List.set_cons_succ]
      refine wpX_take (i := 8) (v := ?_) rfl rfl (by kernel_rfl) (fun _ _ _ h => h) (Or.inl ⟨rfl, fun wS hwS => ?_⟩) hXS ?_
      rotate_left
      · go_simp; try rfl
      simp only [List.set_cons_zero, List.set_cons_succ]
      refine wpX_take (i := 9) (v := ?_) rfl rfl (by kernel_rfl) (fun _ _ _ h => h) (Or.inl ⟨rfl, fun wS hwS => ?_⟩) hXS ?_
      rotate_left
      · go_simp; try rfl
      simp only [List.set_cons_zero, List.set_cons_succ]
      refine wpX_take (i := 10) (v := ?_) rfl rfl (by kernel_rfl) (fun _ _ _ h => h) (Or.inl ⟨rfl, fun wS hwS => ?_⟩) hXS ?_
      rotate_left
      · go_simp; try rfl
      simp only [List.set_cons_zero, List.set_cons_succ]
      refine wpX_take (i := 11) (v := ?_) rfl rfl (by kernel_rfl) (fun _ _ _ h => h) (Or.inl ⟨rfl, fun wS hwS => ?_⟩) hXS ?_
      rotate_left
      · go_simp; try rfl
      simp only [List.set_cons_zero, List.set_cons_succ]
      refine wpX_hard (k := 2) (by kernel_rfl) rfl (fun K hK => ?_)
      go_simp
      refine hK _ _ (fun _ => ⟨al_cell s0, al_cell s1, al_cell c0, al_cell c1, al_cell c2⟩) ?_
      clear hK K
      try simp only [List.set_cons_zero, List.set_cons_succ]
      refine wpX_hard (k := 3) (by kernel_rfl) rfl (fun K hK => ?_)
      go_simp
      (refine (dmul2 _ sv sd x1 x2 _ (by exact row2_int _ _ sv sd x1 x2)).mono ?_; rintro e w1 ⟨rfl, hb⟩; (try replace hb := undrew hb); replace hk := hk.onA hb; clear hb)
      refine hK _ _ (fun _ => ⟨hk.cell n0 s0, hk.cell n0 s1, hk.cell n00 c0, hk.cell n00 c1, hk.cell hb3 c2⟩) ?_
      clear hK K
      try simp only [List.set_cons_zero, List.set_cons_succ]
      refine wpX_hard (k := 12) (by kernel_rfl) rfl (fun K hK => ?_)
      go_simp
      (refine (const_any _ _).mono ?_; rintro e w2 ⟨rfl, hb⟩; replace hk := hk.on hb; clear hb)
      refine hK _ _ (fun _ => ⟨hk.cell n0 s0, hk.cell n0 s1, hk.cell n00 c0, hk.cell n00 c1, hk.cell hb3 c2⟩) ?_
      clear hK K
      try simp only [List.set_cons_zero, List.set_cons_succ]
      refine wpX_hard (k := 13) (by kernel_rfl) rfl (fun K hK => ?_)
      go_simp
      refine hK _ _ (fun _ => ⟨al_cell (hk.cell n0 s0), al_cell (hk.cell n0 s1), al_cell (hk.cell n00 c0), al_cell (hk.cell n00 c1), al_cell (hk.cell hb3 c2)⟩) ?_
      clear hK K
      try simp only [List.set_cons_zero, List.set_cons_succ]
      refine wpX_hard (k := 14) (by kernel_rfl) rfl (fun K hK => ?_)
      go_simp
      (refine (dadd2 _ (IntKind.u64.wrap (sv * x1)) (IntKind.u64.wrap (sv * x2 + sd * x1)) y 0 _ (by exact row2_int _ _ (IntKind.u64.wrap (sv * x1)) (IntKind.u64.wrap (sv * x2 + sd * x1)) y 0)).mono ?_; rintro e w3 ⟨rfl, hb⟩; replace hk := hk.onA hb; clear hb)
      refine hK _ _ (fun _ => ⟨hk.cell n0 s0, hk.cell n0 s1, hk.cell n00 c0, hk.cell n00 c1, hk.cell hb3 c2⟩) ?_
      clear hK K
      try simp only [List.set_cons_zero, List.set_cons_succ]
      have s03 := hk.cell n0 KS.out.1
      have s13 := hk.cell n0 KS.out.2.1
      have f03 := hk.frozen n0 KS.out.2.2.1
      have f13 := hk.frozen n0 KS.out.2.2.2
      refine wpX_hard (k := 15) (by kernel_rfl) rfl (fun K hK => ?_)
      go_simp
      refine hK _ _ (fun _ => absurd rfl ‹_›) ?_
      clear hK K
      try simp only [List.set_cons_zero, List.set_cons_succ]
      refine wpX_done (by kernel_rfl) ?_
      go_wp2
      go_roundw
      case rel =>
        refine ⟨k + 1, by omega, by go_num, ?_, ((hk.row (by omega) rz.out).setOther (by simp) _).setOther (by simp) _, ((hk.row (by omega) rx.out).setOther (by simp; omega) _).setOther (by simp; omega) _, ?_, ?_⟩
        · rw [← HV.out, ← HD.out]
          first
            | exact pr2_set (hk.row n0 rs.out)
            | (rw [Int.add_zero]; exact pr2_set (hk.row n0 rs.out))
            | (rw [Int.add_zero, Pl.uw_uw]; exact pr2_set (hk.row n0 rs.out))
        · exact ((hk.below hB.out (by omega)).setCell (by simp; omega) _).setCell (by simp; omega) _
        · have := hk.size; simp; omega
      case measure => simp [intOf]; omega
    · obtain rfl : k = n := by omega
      obtain ⟨z0, z1, g0, g1⟩ := pr2_cells rz.out
      go_wp2
      refine bodyPost_ret (results_cell_row rfl _ _ _ _ _ (0, 0) _ rfl (whole2 (pr2_set rz.out)) Try.underlying25 rfl (by kernel_rfl)) rfl ⟨?_, ?_⟩
      · simp
      · exact (hB.out.setCell (by simp) _).setCell (by simp) _
end Go.Proofs.Ytkgcipgnpknbdaa
