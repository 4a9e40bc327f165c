/- Contracts of the reference's sums: backstitchref01.Plus, Neg: what each computes; memory that was there stays. -/
import Derived.Test.YtnpgiallgcliiaaR1a
namespace Go.Proofs.Ytnpgiallgcliiaa
open Go.ChangeShapes Go.WideShapes Go.ChangeAt Go.RowKit
set_option linter.unusedVariables false

theorem dgb (a : Int) : (0 ≤ Pl.dg a 0 ∧ Pl.dg a 0 ≤ 255) ∧ (0 ≤ Pl.dg a 1 ∧ Pl.dg a 1 ≤ 255) ∧ (0 ≤ Pl.dg a 2 ∧ Pl.dg a 2 ≤ 255) ∧ (0 ≤ Pl.dg a 3 ∧ Pl.dg a 3 ≤ 255) ∧ (0 ≤ Pl.dg a 4 ∧ Pl.dg a 4 ≤ 255) ∧
    (0 ≤ Pl.dg a 5 ∧ Pl.dg a 5 ≤ 255) ∧ (0 ≤ Pl.dg a 6 ∧ Pl.dg a 6 ≤ 255) ∧ (0 ≤ Pl.dg a 7 ∧ Pl.dg a 7 ≤ 255) := by
  unfold Pl.dg; omega

set_option maxHeartbeats 2000000 in
theorem neg_any (a : Int) (h0 : 0 ≤ a) (h1 : a ≤ 18446744073709551615) (w : World) :
    Calls Try.prog 59 #[.int .u64 a] w fun e w' =>
      e = .returned (.int .u64 (IntKind.u64.wrap (-a))) ∧ Below w.heap.size w w' := by
  have hval : Hid (Pl.val (fun i => if i = 0 then 255 - Pl.dg a i + 1 else 255 - Pl.dg a i) 8 = 18446744073709551616 - a) := by
    have h8 := Pl.val8 a h0 h1
    simp only [Pl.val, Pl.sm] at h8 ⊢
    unfold Hid; simp; omega
  obtain ⟨⟨p0, q0⟩, ⟨p1, q1⟩, ⟨p2, q2⟩, ⟨p3, q3⟩, ⟨p4, q4⟩, ⟨p5, q5⟩, ⟨p6, q6⟩, ⟨p7, q7⟩⟩ := dgb a
  go_enter Try.func59, Try.ntmps59
  go_wp2_with (go_at_call 66; refine (digits_any a h0 h1 _).mono ?_; rintro e w1 ⟨rfl, hb⟩)
  refine wp_loop_rounds 9 ?_
  repeat any_goals (rw [rounds_succ]; go_wp2_with fail)
  refine (number_any (fun i => if i = 0 then 255 - Pl.dg a i + 1 else 255 - Pl.dg a i) ?hA ?hB _).mono ?_
  case hA => intro i; have := Pl.dg_le a i; split <;> omega
  case hB => intro i; have := Pl.dg_nn a i; split <;> omega
  rintro e w2 ⟨rfl, hb2⟩
  go_wp2
  go_ret
  refine ⟨ret_int ?_, ?_⟩
  · rw [hval.out]; exact Pl.uw_eq (k := 1) (by omega)
  · exact ((hb.trans ((Below.refl _ _).alloc hb.size _)).trans (hb2.mono (by have := hb.size; simp; omega)))

set_option maxHeartbeats 2000000 in
theorem plus_any (a b : Int) (h0 : 0 ≤ a) (h1 : a ≤ 18446744073709551615) (g0 : 0 ≤ b) (g1 : b ≤ 18446744073709551615) (w : World) :
    Calls Try.prog 61 #[.int .u64 a, .int .u64 b] w fun e w' =>
      e = .returned (.int .u64 (IntKind.u64.wrap (a + b))) ∧ Below w.heap.size w w' := by
  obtain ⟨⟨p0, q0⟩, ⟨p1, q1⟩, ⟨p2, q2⟩, ⟨p3, q3⟩, ⟨p4, q4⟩, ⟨p5, q5⟩, ⟨p6, q6⟩, ⟨p7, q7⟩⟩ := dgb a
  obtain ⟨⟨r0, s0⟩, ⟨r1, s1⟩, ⟨r2, s2⟩, ⟨r3, s3⟩, ⟨r4, s4⟩, ⟨r5, s5⟩, ⟨r6, s6⟩, ⟨r7, s7⟩⟩ := dgb b
  go_enter Try.func61, Try.ntmps61
  go_wp2_with fail
  refine (digits_any a h0 h1 _).mono ?_
  rintro e w1 ⟨rfl, hb1⟩
  go_wp2_with fail
  refine (digits_any b g0 g1 _).mono ?_
  rintro e w2 ⟨rfl, hb2⟩
  have hs1 := hb1.size
  have hs2 := hb2.size
  have hs2' : w1.heap.size + 1 ≤ w2.heap.size := by simpa using hs2
  have hx1 := row8 w1 91 (fun j => .int .i64 (Pl.dg a j))
  have hx2 := row_below hx1 hb2 (by simp)
  have HX := hid hx2
  have HY := hid (row8 w2 91 (fun j => .int .i64 (Pl.dg b j)))
  have HB : Hid (Below w.heap.size w w2) := hid ((hb1.trans ((Below.refl _ _).alloc hb1.size _)).trans (hb2.mono (by simp; omega)))
  clear hx1 hx2 hb1 hb2 hs2
  go_wp2_with fail
  go_loopw [7] (fun i wr => ∃ k : Nat, k ≤ 8 ∧ i = .int .i64 k ∧ Hid (wr.rowIs w1.heap.size 91 8 (fun j => .int .i64 (if j < k then Pl.dg a j + Pl.dg b j else Pl.dg a j))) ∧ Hid (wr.rowIs w2.heap.size 91 8 (fun j => .int .i64 (Pl.dg b j))) ∧ Hid (Below w.heap.size w wr))
    (fun i _ => 8 - (intOf i).toNat)
  case atStart => exact ⟨0, by omega, rfl, (HX.out.alloc _), HY, (HB.out.alloc (by omega) _)⟩
  case round =>
    obtain ⟨k, hk, rfl, HX, HY, HB⟩ := hrel
    by_cases hlt : k < 8
    · have c1 := HX.out.cell hlt
      have f1 := HX.out.frozen k
      have c2 := HY.out.cell hlt
      simp only [Nat.lt_irrefl, if_false] at c1
      have ba0 := Pl.dg_nn a k
      have ba1 := Pl.dg_le a k
      have bb0 := Pl.dg_nn b k
      have bb1 := Pl.dg_le b k
      go_wp2
      go_region
      all_goals (go_wp2; go_roundw)
      case rel =>
        refine ⟨k + 1, by omega, by go_num, ?_, ?_, ?_⟩
        · exact (HX.out.drew.set k _).congr fun i hi => by
            by_cases e : i = k
            · subst e; simp
            · simp [e]; by_cases e2 : i < k
              · simp [e2, show i < k + 1 from by omega]
              · simp [e2, show ¬ i < k + 1 from by omega]
        · exact (HY.out.drew.setOther (by simp; omega) _)
        · exact (HB.out.drew.setCell (by simp; omega) _)
      case measure => simp [intOf]; omega
    · obtain rfl : k = 8 := by omega
      have hrow := whole8 HX.out
      simp only [show (0 : Nat) < 8 from by omega, show (1 : Nat) < 8 from by omega, show (2 : Nat) < 8 from by omega, show (3 : Nat) < 8 from by omega, show (4 : Nat) < 8 from by omega, show (5 : Nat) < 8 from by omega, show (6 : Nat) < 8 from by omega, show (7 : Nat) < 8 from by omega, if_true] at hrow
      have HR := hid hrow
      clear hrow
      go_wp2_with (refine wpList_load_row rfl 91 _ rfl _ rfl _ _ (0, 0) _ HR.out Try.underlying91 rfl (by kernel_rfl) ?_)
      refine (number_any (fun i => Pl.dg a i + Pl.dg b i) ?hA ?hB _).mono ?_
      case hA => intro i; have := Pl.dg_nn a i; have := Pl.dg_nn b i; show 0 ≤ Pl.dg a i + Pl.dg b i; omega
      case hB => intro i; have := Pl.dg_le a i; have := Pl.dg_le b i; show Pl.dg a i + Pl.dg b i ≤ 10000000; omega
      rintro e w3 ⟨rfl, hb3⟩
      go_wp2
      go_ret
      have hs3 := HB.out.size
      refine ⟨ret_int ?_, HB.out.trans (hb3.mono hs3)⟩
      rw [Pl.val_add, Pl.val8 a h0 h1, Pl.val8 b g0 g1]
end Go.Proofs.Ytnpgiallgcliiaa
