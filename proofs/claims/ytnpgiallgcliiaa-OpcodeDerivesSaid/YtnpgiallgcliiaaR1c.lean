/- Contract of the reference's product: backstitchref01.Times: what it computes; memory that was there stays. -/
import Derived.Test.YtnpgiallgcliiaaR1b
namespace Go.Proofs.Ytnpgiallgcliiaa
open Go.ChangeShapes Go.WideShapes Go.ChangeAt Go.RowKit
set_option linter.unusedVariables false

set_option maxHeartbeats 2000000 in
theorem times_any (a b : Int) (h0 : 0 ≤ a) (h1 : a ≤ 18446744073709551615) (g0 : 0 ≤ b) (g1 : b ≤ 18446744073709551615) (w : World) :
    Calls Try.prog 62 #[.int .u64 a, .int .u64 b] w fun e w' =>
      e = .returned (.int .u64 (IntKind.u64.wrap (a * b))) ∧ Below w.heap.size w w' := by
  go_enter Try.func62, Try.ntmps62
  go_wp2_with fail
  refine (digits_any a h0 h1 _).mono ?_
  rintro e w1 ⟨rfl, hb1⟩
  go_wp2_with fail
  refine (digits_any b g0 g1 _).mono ?_
  rintro e w2 ⟨rfl, hb2⟩
  have hs1 := hb1.size
  have hs2 := hb2.size
  have hs2' : w1.heap.size + 1 ≤ w2.heap.size := by simpa using hs2
  have hx1 := row8 w1 91 (fun j => .int .i64 (Pl.dg a j))
  have hx2 := row_below hx1 hb2 (by simp)
  have HX := hid hx2
  have HY := hid (row8 w2 91 (fun j => .int .i64 (Pl.dg b j)))
  have HP := hid (row8 (w2.alloc (.cells #[.int .i64 (Pl.dg b 0), .int .i64 (Pl.dg b 1), .int .i64 (Pl.dg b 2), .int .i64 (Pl.dg b 3), .int .i64 (Pl.dg b 4), .int .i64 (Pl.dg b 5), .int .i64 (Pl.dg b 6), .int .i64 (Pl.dg b 7)] 91)) 91 (fun j => .int .i64 0))
  have HB : Hid (Below w.heap.size w w2) := hid ((hb1.trans ((Below.refl _ _).alloc hb1.size _)).trans (hb2.mono (by simp; omega)))
  clear hx1 hx2 hb1 hb2 hs2
  go_wp2_with fail
  go_loopw [8, 9] (fun i j wr => ∃ (k : Nat) (f : Nat → Int), k ≤ 8 ∧ i = .int .i64 k ∧ Hid (∀ m, 0 ≤ f m ∧ f m ≤ 520200 * k) ∧ Hid (Pl.val f 8 = Pl.tm (Pl.dg a) (Pl.dg b) k) ∧
      Hid (wr.rowIs (w2.heap.size + 1) 91 8 (fun j => .int .i64 (f j))) ∧ Hid (wr.rowIs w1.heap.size 91 8 (fun j => .int .i64 (Pl.dg a j))) ∧ Hid (wr.rowIs w2.heap.size 91 8 (fun j => .int .i64 (Pl.dg b j))) ∧ Hid (Below w.heap.size w wr))
    (fun i _ _ => 8 - (intOf i).toNat)
  case atStart =>
    exact ⟨0, fun _ => 0, by omega, rfl, fun m => by (show (0 : Int) ≤ 0 ∧ (0 : Int) ≤ _); omega, by rw [Pl.val_zero]; rfl, by simpa using HP, (HX.out.alloc _).alloc _, HY.out.alloc _, (HB.out.alloc (by omega) _).alloc (by simp; omega) _⟩
  case round =>
    obtain ⟨k, f, hk, rfl, Hf, HV, HP, HX, HY, HB⟩ := hrel
    by_cases hlt : k < 8
    · go_wp2
      go_loopw [9] (fun j wr => ∃ (m : Nat) (f : Nat → Int), m ≤ 8 - k ∧ j = .int .i64 m ∧ Hid (∀ l, 0 ≤ f l ∧ f l ≤ 520200 * k + 65025 * m) ∧ Hid (Pl.val f 8 = Pl.tm (Pl.dg a) (Pl.dg b) k + Pl.dg a k * 256 ^ k * Pl.val (Pl.dg b) m) ∧
          Hid (wr.rowIs (w2.heap.size + 1) 91 8 (fun j => .int .i64 (f j))) ∧ Hid (wr.rowIs w1.heap.size 91 8 (fun j => .int .i64 (Pl.dg a j))) ∧ Hid (wr.rowIs w2.heap.size 91 8 (fun j => .int .i64 (Pl.dg b j))) ∧ Hid (Below w.heap.size w wr))
        (fun j _ => 8 - (intOf j).toNat)
      case atStart => exact ⟨0, f, by omega, rfl, fun l => by have := Hf.out l; omega, by rw [Hid, HV.out]; simp [Pl.val, Pl.sm], HP, HX, HY, HB⟩
      case round =>
        obtain ⟨m, f, hm, rfl, Hf, HV, HP, HX, HY, HB⟩ := hrel
        by_cases hlm : k + m < 8
        · have c0 := HP.out.cell hlm
          have f0 := HP.out.frozen (k + m)
          have c1 := HX.out.cell hlt
          have c2 := HY.out.cell (show m < 8 from by omega)
          have hfk := Hf.out (k + m)
          obtain ⟨fk0, fk1⟩ := hfk
          have ba0 := Pl.dg_nn a k
          have ba1 := Pl.dg_le a k
          have bb0 := Pl.dg_nn b m
          have bb1 := Pl.dg_le b m
          have hp0 : 0 ≤ Pl.dg a k * Pl.dg b m := Int.mul_nonneg ba0 bb0
          have hp1 : Pl.dg a k * Pl.dg b m ≤ 65025 := by
            have := Int.mul_le_mul ba1 bb1 bb0 (by omega : (0 : Int) ≤ 255)
            simpa using this
          go_wp2
          go_region
          all_goals (go_wp2; go_roundw)
          case rel =>
            refine ⟨m + 1, fun j => if j = k + m then f (k + m) + Pl.dg a k * Pl.dg b m else f j, by omega, by go_num, ?_, ?_, ?_, ?_, ?_, ?_⟩
            · intro l
              have := Hf.out l
              show 0 ≤ (if l = k + m then f (k + m) + Pl.dg a k * Pl.dg b m else f l) ∧ (if l = k + m then f (k + m) + Pl.dg a k * Pl.dg b m else f l) ≤ _
              split <;> omega
            · show Pl.val _ 8 = _
              rw [Pl.val_set f (k + m) 8 _ hlm, HV.out]
              have hv : Pl.val (Pl.dg b) (m + 1) = Pl.val (Pl.dg b) m + Pl.dg b m * 256 ^ m := rfl
              rw [hv, Int.pow_add]
              generalize (256 : Int) ^ k = p
              generalize (256 : Int) ^ m = p'
              generalize Pl.tm (Pl.dg a) (Pl.dg b) k = tt
              generalize Pl.val (Pl.dg b) m = vv
              grind
            · exact (HP.out.drew.set (k + m) _).congr fun i hi => by
                by_cases e : i = k + m
                · subst e; simp
                · simp [e]
            · exact (HX.out.drew.setOther (by simp; omega) _)
            · exact (HY.out.drew.setOther (by simp) _)
            · exact (HB.out.drew.setCell (by simp; omega) _)
          case measure => simp [intOf]; omega
        · obtain rfl : m = 8 - k := by omega
          go_wp2
          go_roundw
          case rel =>
            refine ⟨k + 1, f, by omega, by go_num, ?_, ?_, HP, HX, HY, HB⟩
            · intro l; have := Hf.out l; omega
            · exact HV
          case measure => simp [intOf]; omega
    · obtain rfl : k = 8 := by omega
      have hrow := whole8 HP.out
      have HR := hid hrow
      clear hrow
      go_wp2_with (refine wpList_load_row rfl 91 _ rfl _ rfl _ _ (0, 0) _ HR.out Try.underlying91 rfl (by kernel_rfl) ?_)
      refine (number_any f ?hA ?hB _).mono ?_
      case hA => intro i; exact (Hf.out i).1
      case hB => intro i; have := Hf.out i; omega
      rintro e w3 ⟨rfl, hb3⟩
      go_wp2
      go_ret
      have hs3 := HB.out.size
      refine ⟨ret_int ?_, HB.out.trans (hb3.mono hs3)⟩
      rw [HV.out, Pl.times_end a b h0 h1 g0 g1]
end Go.Proofs.Ytnpgiallgcliiaa
