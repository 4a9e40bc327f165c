/- Contracts of the reference's Add, Mul, Horner and Pow of duals. -/
import Derived.Test.YtkgcipgnpknbdaaD3
import Derived.StillTailTactics
namespace Go.Proofs.Ytkgcipgnpknbdaa
open Go.ChangeShapes Go.WideShapes Go.ChangeAt Go.RowKit
set_option linter.unusedVariables false

theorem dsV_range (v : Nat → Int) (k : Nat) : 0 ≤ Pl.dsV v k ∧ Pl.dsV v k ≤ 18446744073709551615 := by
  cases k with
  | zero => simp [Pl.dsV]
  | succ k => exact ⟨Pl.uw_nn _, Pl.uw_le _⟩

set_option maxHeartbeats 2000000 in
theorem radd_any (A : Option Addr) (n c : Nat) (v d : Nat → Int) (w : World) (hn : n ≤ 9223372036854775807) (hv : ∀ k, k < n → (0 ≤ v k ∧ v k ≤ 18446744073709551615) ∧ 0 ≤ d k ∧ d k ≤ 18446744073709551615) (hr : Row2 w A n (fun k => .int .u64 (v k)) (fun k => .int .u64 (d k))) :
    Calls Try.prog 16 #[.slice A n c] w fun e w' => e = .returned (.agg #[.int .u64 (Pl.dsV v n), .int .u64 (Pl.dsV d n)]) ∧ Below w.heap.size w w' := by
  have HR := hid hr
  have HV := hid hv
  clear hr hv
  go_enter Try.func16, Try.ntmps16
  go_wp2
  go_loopw [4] (fun i wr => ∃ k : Nat, k ≤ n ∧ i = .int .i64 k ∧ Hid (wr.rowIs (w.heap.size + 1) 25 2 (pr2 (.int .u64 (Pl.dsV v k)) (.int .u64 (Pl.dsV d k)))) ∧ Hid (wr.rowIs w.heap.size 25 2 (pr2 (.int .u64 0) (.int .u64 0))) ∧ Hid (Below w.heap.size w wr) ∧ w.heap.size + 1 + 1 ≤ wr.heap.size)
    (fun i _ => n - (intOf i).toNat)
  case atStart => exact ⟨0, by omega, rfl, by (have h := pr2_new (w.alloc (.cells #[.int .u64 0, .int .u64 0] 25)) 25 (.int .u64 0) (.int .u64 0)); simpa [Hid, Pl.dsV] using h, (pr2_new w _ _ _).alloc _, by rw [Hid]; go_grown, by simp⟩
  case round =>
    obtain ⟨k, hk, rfl, rs, rz, hB, hS⟩ := hrel
    obtain ⟨s0, s1, f0, f1⟩ := pr2_cells rs.out
    by_cases hlt : k < n
    · obtain ⟨b, off, rfl, hb, e0, e1⟩ := HR.out.at_ hlt
      obtain ⟨⟨v0, v1⟩, d0, d1⟩ := HV.out k hlt
      obtain ⟨⟨p0, p1⟩, q0, q1⟩ := And.intro (dsV_range v k) (dsV_range d k)
      have c0 := (hB.out.cell (p := ⟨b, off + k * 2, none⟩) hb).trans e0
      have c1 := (hB.out.cell (p := ⟨b, off + k * 2 + 1, none⟩) hb).trans e1
      have Hst : Hid (IntKind.u64.wrap (Pl.dsV v k + v k) = Pl.dsV v (k + 1) ∧ IntKind.u64.wrap (Pl.dsV d k + d k) = Pl.dsV d (k + 1)) := ⟨rfl, rfl⟩
      generalize Pl.dsV v k = sv at *
      generalize Pl.dsV d k = sd at *
      generalize v k = ev at *
      generalize d k = ed at *
      have n1 : w.heap.size + 1 < wr.heap.size := by omega
      have KS := hid (And.intro s0 (And.intro s1 (And.intro f0 f1)))
      have hk2 := KW.refl wr
      clear e0 e1 f0 f1 hS
      go_wp2
      go_still_tail 5, (by kernel_rfl)
      change wpList _ _ _ _ _ wr.drew
      go_wp2_with (go_at_call 18; refine (dplus_any sv sd ev ed p0 p1 q0 q1 v0 v1 d0 d1 _).mono ?_; rintro e w1 ⟨rfl, hb⟩; (try replace hb := undrew hb); replace hk2 := hk2.on hb; clear hb; replace s0 := hk2.cell n1 KS.out.1; replace s1 := hk2.cell n1 KS.out.2.1; have f0 := hk2.frozen n1 KS.out.2.2.1; have f1 := hk2.frozen n1 KS.out.2.2.2)
      go_roundw
      case rel =>
        refine ⟨k + 1, by omega, by go_num, ?_, ?_, ?_, ?_⟩
        · rw [← Hst.out.1, ← Hst.out.2]
          exact pr2_set (hk2.row n1 rs.out)
        · exact ((hk2.row (by omega) rz.out).setOther (by simp) _).setOther (by simp) _
        · exact ((hk2.below hB.out (by omega)).setCell (by simp) _).setCell (by simp) _
        · have := hk2.size; simp; omega
      case measure => simp [intOf]; omega
    · obtain rfl : k = n := by omega
      obtain ⟨z0, z1, g0, g1⟩ := pr2_cells rz.out
      go_wp2
      refine bodyPost_ret (results_cell_row rfl _ _ _ _ _ (0, 0) _ rfl (whole2 (pr2_set rz.out)) Try.underlying25 rfl (by kernel_rfl)) rfl ⟨rfl, ?_⟩
      exact (hB.out.setCell (by simp) _).setCell (by simp) _

set_option maxHeartbeats 2000000 in
theorem rmul_any (A : Option Addr) (n c : Nat) (v d : Nat → Int) (w : World) (hn : n ≤ 9223372036854775807) (hv : ∀ k, k < n → (0 ≤ v k ∧ v k ≤ 18446744073709551615) ∧ 0 ≤ d k ∧ d k ≤ 18446744073709551615) (hr : Row2 w A n (fun k => .int .u64 (v k)) (fun k => .int .u64 (d k))) :
    Calls Try.prog 9 #[.slice A n c] w fun e w' => e = .returned (.agg #[.int .u64 (Pl.dp v d n).1, .int .u64 (Pl.dp v d n).2]) ∧ Below w.heap.size w w' := by
  have HR := hid hr
  have HV := hid hv
  clear hr hv
  go_enter Try.func9, Try.ntmps9
  go_wp2
  go_loopw [4] (fun i wr => ∃ k : Nat, k ≤ n ∧ i = .int .i64 k ∧ Hid (wr.rowIs (w.heap.size + 1) 25 2 (pr2 (.int .u64 (Pl.dp v d k).1) (.int .u64 (Pl.dp v d k).2))) ∧ Hid (wr.rowIs w.heap.size 25 2 (pr2 (.int .u64 0) (.int .u64 0))) ∧ Hid (Below w.heap.size w wr) ∧ w.heap.size + 1 + 1 ≤ wr.heap.size)
    (fun i _ => n - (intOf i).toNat)
  case atStart => exact ⟨0, by omega, rfl, by (have h := pr2_new (w.alloc (.cells #[.int .u64 0, .int .u64 0] 25)) 25 (.int .u64 1) (.int .u64 0)); simpa [Hid, Pl.dp] using h, (pr2_new w _ _ _).alloc _, by rw [Hid]; go_grown, by simp⟩
  case round =>
    obtain ⟨k, hk, rfl, rs, rz, hB, hS⟩ := hrel
    obtain ⟨s0, s1, f0, f1⟩ := pr2_cells rs.out
    by_cases hlt : k < n
    · obtain ⟨b, off, rfl, hb, e0, e1⟩ := HR.out.at_ hlt
      obtain ⟨⟨v0, v1⟩, d0, d1⟩ := HV.out k hlt
      obtain ⟨⟨p0, p1⟩, q0, q1⟩ := Pl.dp_range v d k
      have c0 := (hB.out.cell (p := ⟨b, off + k * 2, none⟩) hb).trans e0
      have c1 := (hB.out.cell (p := ⟨b, off + k * 2 + 1, none⟩) hb).trans e1
      have Hst : Hid (IntKind.u64.wrap ((Pl.dp v d k).1 * v k) = (Pl.dp v d (k + 1)).1 ∧ IntKind.u64.wrap ((Pl.dp v d k).1 * d k + (Pl.dp v d k).2 * v k) = (Pl.dp v d (k + 1)).2) := ⟨rfl, rfl⟩
      generalize (Pl.dp v d k).1 = sv at *
      generalize (Pl.dp v d k).2 = sd at *
      generalize v k = ev at *
      generalize d k = ed at *
      have n1 : w.heap.size + 1 < wr.heap.size := by omega
      have KS := hid (And.intro s0 (And.intro s1 (And.intro f0 f1)))
      have hk2 := KW.refl wr
      clear e0 e1 f0 f1 hS
      go_wp2
      go_still_tail 5, (by kernel_rfl)
      change wpList _ _ _ _ _ wr.drew
      go_wp2_with (go_at_call 26; refine (dtimes_any sv sd ev ed p0 p1 q0 q1 v0 v1 d0 d1 _).mono ?_; rintro e w1 ⟨rfl, hb⟩; (try replace hb := undrew hb); replace hk2 := hk2.on hb; clear hb; replace s0 := hk2.cell n1 KS.out.1; replace s1 := hk2.cell n1 KS.out.2.1; have f0 := hk2.frozen n1 KS.out.2.2.1; have f1 := hk2.frozen n1 KS.out.2.2.2)
      go_roundw
      case rel =>
        refine ⟨k + 1, by omega, by go_num, ?_, ?_, ?_, ?_⟩
        · rw [← Hst.out.1, ← Hst.out.2]
          exact pr2_set (hk2.row n1 rs.out)
        · exact ((hk2.row (by omega) rz.out).setOther (by simp) _).setOther (by simp) _
        · exact ((hk2.below hB.out (by omega)).setCell (by simp) _).setCell (by simp) _
        · have := hk2.size; simp; omega
      case measure => simp [intOf]; omega
    · obtain rfl : k = n := by omega
      obtain ⟨z0, z1, g0, g1⟩ := pr2_cells rz.out
      go_wp2
      refine bodyPost_ret (results_cell_row rfl _ _ _ _ _ (0, 0) _ rfl (whole2 (pr2_set rz.out)) Try.underlying25 rfl (by kernel_rfl)) rfl ⟨rfl, ?_⟩
      exact (hB.out.setCell (by simp) _).setCell (by simp) _

theorem rpow_D (v d n : Int) (hn : 0 < n) : IntKind.u64.wrap (n * IntKind.u64.wrap (IntKind.u64.wrap (v ^ (n - 1).toNat) * d)) = IntKind.u64.wrap (Pl.dn v d n.toNat) := by
  unfold Pl.dn
  refine (Pl.uwm rfl ((Pl.uw_uw _).trans (Pl.uwm (Pl.uw_uw _) rfl))).trans ?_
  rw [show (n - 1).toNat = n.toNat - 1 from by omega, ← Int.mul_assoc, show ((n.toNat : Nat) : Int) = n from by omega]

set_option maxHeartbeats 2000000 in
theorem rpow_any (a b n : Int) (ha0 : 0 ≤ a) (ha1 : a ≤ 18446744073709551615) (hb0 : 0 ≤ b) (hb1 : b ≤ 18446744073709551615) (g0 : 0 ≤ n) (g1 : n ≤ 18446744073709551615) (w : World) :
    Calls Try.prog 11 #[.agg #[.int .u64 a, .int .u64 b], .int .u64 n] w fun e w' =>
      e = .returned (.agg #[.int .u64 (IntKind.u64.wrap (a ^ n.toNat)), .int .u64 (IntKind.u64.wrap (Pl.dn a b n.toNat))]) ∧ Below w.heap.size w w' := by
  by_cases hn : n = 0
  · subst hn
    go_enter Try.func11, Try.ntmps11
    go_wp2
    go_returns
    refine ⟨by simp [Pl.dn]; exact ⟨rfl, rfl⟩, by go_grown⟩
  · have hz : (n == 0) = false := by simpa using hn
    have HE := hid (rpow_D a b n (by omega))
    have hn1 : 1 ≤ n := by omega
    have u0 := Pl.uw_nn (a ^ (n - 1).toNat)
    have u1 := Pl.uw_le (a ^ (n - 1).toNat)
    have v0 := Pl.uw_nn (IntKind.u64.wrap (a ^ (n - 1).toNat) * b)
    have v1 := Pl.uw_le (IntKind.u64.wrap (a ^ (n - 1).toNat) * b)
    have L1 : IntKind.u64.wrap (n - 1) = n - 1 := IntWalk.u64_in _ (by omega)
    have L2 : 0 ≤ n - 1 := by omega
    have L3 : n - 1 ≤ 18446744073709551615 := by omega
    have HP := hid (fun W => refpow_any a (n - 1) W ha0 ha1 L2 L3)
    generalize IntKind.u64.wrap (a ^ (n - 1).toNat) = h1 at *
    generalize hq : IntKind.u64.wrap (h1 * b) = h2 at *
    have Hq := hid hq
    clear hn hq
    go_enter Try.func11, Try.ntmps11
    go_wp2_with fail
    refine wp_world (fun W => w.heap.size + 1 + 1 ≤ W.heap.size ∧ Below w.heap.size w W ∧ W.cell? ⟨w.heap.size, 0, none⟩ = some (.int .u64 a) ∧ W.cell? ⟨w.heap.size, 1, none⟩ = some (.int .u64 b) ∧
        Hid (W.rowIs (w.heap.size + 1) 25 2 (pr2 (.int .u64 0) (.int .u64 0))))
      ⟨by simp, by go_grown, by go_simp, by go_simp, by (have h := pr2_new (w.alloc (.cells #[.int .u64 a, .int .u64 b] 25)) 25 (.int .u64 0) (.int .u64 0)); simpa [Hid] using h⟩ ?_
    rintro W ⟨hS, hB, c0, c1, r0⟩
    go_region_held3 (fun w' => w'.cell? ⟨w.heap.size, 0, none⟩ = some (.int .u64 a) ∧ w'.cell? ⟨w.heap.size, 1, none⟩ = some (.int .u64 b))
      ((first | exact ⟨c0, c1⟩ | (repeat' apply And.intro) <;> (first | (with_reducible assumption) | (go_simp; done) | (go_keep; done))))
      (first
        | (go_at_call 28; refine (HP.out _).mono ?_; rintro e w1 ⟨rfl, hb⟩; (try replace hb := undrew hb); have hB := on_below hb hS hB (by omega); have c0 := on_cell hb hS c0 (by omega); have c1 := on_cell hb hS c1 (by omega); have r0 := hid (on_row hb hS r0.out (by omega)); have hS := on_size hb hS)
        | (go_at_call_of 27 (Value.int IntKind.u64 h1); refine (times_any h1 b u0 u1 hb0 hb1 _).mono ?_; rw [Hq.out]; rintro e w1 ⟨rfl, hb⟩; (try replace hb := undrew hb); have hB := on_below hb hS hB (by omega); have c0 := on_cell hb hS c0 (by omega); have c1 := on_cell hb hS c1 (by omega); have r0 := hid (on_row hb hS r0.out (by omega)); have hS := on_size hb hS)
        | (go_at_call_of 27 (Value.int IntKind.u64 h2); refine (times_any n h2 g0 g1 v0 v1 _).mono ?_; rw [HE.out]; rintro e w1 ⟨rfl, hb⟩; (try replace hb := undrew hb); have hB := on_below hb hS hB (by omega); have c0 := on_cell hb hS c0 (by omega); have c1 := on_cell hb hS c1 (by omega); have r0 := hid (on_row hb hS r0.out (by omega)); have hS := on_size hb hS))
    go_wp2_with fail
    refine (refpow_any a n _ ha0 ha1 g0 g1).mono ?_
    rintro e w2 ⟨rfl, hb⟩
    (try replace hb := undrew hb); have hB := on_below hb hS hB (by omega); have r0 := hid (on_row hb hS r0.out (by omega)); have hS := on_size hb hS
    obtain ⟨z0, z1, f0, f1⟩ := pr2_cells r0.out
    go_wp2
    refine bodyPost_ret (results_cell_row rfl _ _ _ _ _ (0, 0) _ rfl (whole2 (pr2_set r0.out)) Try.underlying25 rfl (by kernel_rfl)) rfl ⟨rfl, ?_⟩
    exact (hB.setCell (by simp) _).setCell (by simp) _
end Go.Proofs.Ytkgcipgnpknbdaa
