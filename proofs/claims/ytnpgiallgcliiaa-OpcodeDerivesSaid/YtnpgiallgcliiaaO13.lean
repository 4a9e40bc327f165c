/- What an operation makes of numbers, and its derivatives. -/
import Derived.Test.YtnpgiallgcliiaaO9
import Derived.Test.YtnpgiallgcliiaaR1c
namespace Go.Proofs.Ytnpgiallgcliiaa
open Go.ChangeShapes Go.WideShapes Go.ChangeAt Go.RowKit
set_option linter.unusedVariables false

namespace Oc
def app (k a b v : Int) : Int :=
  if k = 1 then IntKind.u64.wrap (a + b) else if k = 2 then IntKind.u64.wrap (a - b) else if k = 3 then IntKind.u64.wrap (a * b) else if k = 4 then IntKind.u64.wrap (-a) else if k = 5 then v else if k = 6 then a else 0
def pda (k a b : Int) : Int := if k = 1 ∨ k = 2 ∨ k = 6 then 1 else if k = 3 then b else if k = 4 then 18446744073709551615 else 0
def pdb (k a b : Int) : Int := if k = 1 then 1 else if k = 2 then 18446744073709551615 else if k = 3 then a else 0
end Oc
theorem wrap_sub_neg (a b : Int) : IntKind.u64.wrap (a + IntKind.u64.wrap (-b)) = IntKind.u64.wrap (a - b) := by
  rw [IntKind.wrap_u64, IntKind.wrap_u64, IntKind.wrap_u64]; omega
theorem wrap_m1 : IntKind.u64.wrap (-1) = 18446744073709551615 := by rw [IntKind.wrap_u64]; omega

set_option maxHeartbeats 2000000 in
theorem oapply_any (k d ra rb v a b : Int) (w : World) :
    Calls Try.prog 39 #[.agg (opv k d ra rb v), .int .u64 a, .int .u64 b] w fun e w' => e = .returned (.int .u64 (Oc.app k a b v)) ∧ KW w w' := by
  unfold opv
  have hk := (KW.refl w).alloc (.cells #[.int .i64 k, .int .i64 d, .int .i64 ra, .int .i64 rb, .int .u64 v] 24)
  by_cases h : 1 ≤ k ∧ k ≤ 6
  · rcases (show k = 1 ∨ k = 2 ∨ k = 3 ∨ k = 4 ∨ k = 5 ∨ k = 6 by omega) with rfl | rfl | rfl | rfl | rfl | rfl
    all_goals
      clear h
      go_enter Try.func39, Try.ntmps39
      go_wp2_with fail
      go_ret
      exact ⟨rfl, hk⟩
  · have e1 : (k == 1) = false := by simp; omega
    have e2 : (k == 2) = false := by simp; omega
    have e3 : (k == 3) = false := by simp; omega
    have e4 : (k == 4) = false := by simp; omega
    have e5 : (k == 5) = false := by simp; omega
    have e6 : (k == 6) = false := by simp; omega
    have HE := hid (show Oc.app k a b v = 0 ∧ True from ⟨by unfold Oc.app; rw [if_neg (by omega), if_neg (by omega), if_neg (by omega), if_neg (by omega), if_neg (by omega), if_neg (by omega)], by trivial⟩)
    clear h
    go_enter Try.func39, Try.ntmps39
    go_wp2_with fail
    go_ret
    exact ⟨by rw [HE.out.1]; try rfl, hk⟩

set_option maxHeartbeats 2000000 in
theorem opart_any (k d ra rb v a b : Int) (w : World) :
    Calls Try.prog 34 #[.agg (opv k d ra rb v), .int .u64 a, .int .u64 b] w fun e w' => e = .returned (.tuple #[.int .u64 (Oc.pda k a b), .int .u64 (Oc.pdb k a b)]) ∧ KW w w' := by
  unfold opv
  have hk := (KW.refl w).alloc (.cells #[.int .i64 k, .int .i64 d, .int .i64 ra, .int .i64 rb, .int .u64 v] 24)
  by_cases h : 1 ≤ k ∧ k ≤ 6
  · rcases (show k = 1 ∨ k = 2 ∨ k = 3 ∨ k = 4 ∨ k = 5 ∨ k = 6 by omega) with rfl | rfl | rfl | rfl | rfl | rfl
    all_goals
      clear h
      go_enter Try.func34, Try.ntmps34
      go_wp2_with fail
      go_ret2
      exact ⟨rfl, hk⟩
  · have e1 : (k == 1) = false := by simp; omega
    have e2 : (k == 2) = false := by simp; omega
    have e3 : (k == 3) = false := by simp; omega
    have e4 : (k == 4) = false := by simp; omega
    have e5 : (k == 5) = false := by simp; omega
    have e6 : (k == 6) = false := by simp; omega
    have HE := hid (show Oc.pda k a b = 0 ∧ Oc.pdb k a b = 0 from ⟨by unfold Oc.pda; rw [if_neg (by omega), if_neg (by omega), if_neg (by omega)], by unfold Oc.pdb; rw [if_neg (by omega), if_neg (by omega), if_neg (by omega)]⟩)
    clear h
    go_enter Try.func34, Try.ntmps34
    go_wp2_with fail
    go_ret2
    exact ⟨by rw [HE.out.1, HE.out.2]; try rfl, hk⟩

set_option maxHeartbeats 2000000 in
theorem rpart_any (k d ra rb v a b : Int) (w : World) :
    Calls Try.prog 35 #[.agg (opv k d ra rb v), .int .u64 a, .int .u64 b] w fun e w' => e = .returned (.tuple #[.int .u64 (Oc.pda k a b), .int .u64 (Oc.pdb k a b)]) ∧ KW w w' := by
  unfold opv
  have hk := (KW.refl w).alloc (.cells #[.int .i64 k, .int .i64 d, .int .i64 ra, .int .i64 rb, .int .u64 v] 24)
  have HNg : Hid (∀ W, Calls Try.prog 59 #[.int .u64 1] W fun e w' => e = .returned (.int .u64 18446744073709551615) ∧ Below W.heap.size W w') := fun W => by
    have h := neg_any 1 (by omega) (by omega) W
    rwa [wrap_m1] at h
  have hc0 : (w.alloc (.cells #[.int .i64 k, .int .i64 d, .int .i64 ra, .int .i64 rb, .int .u64 v] 24)).cell? ⟨w.heap.size, 0, none⟩ = some (.int .i64 k) := by go_simp
  by_cases h : 1 ≤ k ∧ k ≤ 6
  · rcases (show k = 1 ∨ k = 2 ∨ k = 3 ∨ k = 4 ∨ k = 5 ∨ k = 6 by omega) with rfl | rfl | rfl | rfl | rfl | rfl
    all_goals
      clear h
      go_enter Try.func35, Try.ntmps35
      go_wp2_with fail; refine (HNg.out _).mono ?_; rintro e w1 ⟨rfl, hb⟩; have HKn := hid (KW.t hk hb); have c0 := KW.cell hb (by simp) hc0; clear hb hc0; go_wp2_with fail
      go_ret2
      exact ⟨rfl, HKn.out⟩
  · have e1 : (k == 1) = false := by simp; omega
    have e2 : (k == 2) = false := by simp; omega
    have e3 : (k == 3) = false := by simp; omega
    have e4 : (k == 4) = false := by simp; omega
    have e5 : (k == 5) = false := by simp; omega
    have e6 : (k == 6) = false := by simp; omega
    have HE := hid (show Oc.pda k a b = 0 ∧ Oc.pdb k a b = 0 from ⟨by unfold Oc.pda; rw [if_neg (by omega), if_neg (by omega), if_neg (by omega)], by unfold Oc.pdb; rw [if_neg (by omega), if_neg (by omega), if_neg (by omega)]⟩)
    clear h
    go_enter Try.func35, Try.ntmps35
    go_wp2_with fail; refine (HNg.out _).mono ?_; rintro e w1 ⟨rfl, hb⟩; have HKn := hid (KW.t hk hb); have c0 := KW.cell hb (by simp) hc0; clear hb hc0; go_wp2_with fail
    go_ret2
    exact ⟨by rw [HE.out.1, HE.out.2]; try rfl, HKn.out⟩

set_option maxHeartbeats 2000000 in
theorem rapply_any (k d ra rb v a b : Int) (w : World) (a0 : 0 ≤ a) (a1 : a ≤ 18446744073709551615) (b0 : 0 ≤ b) (b1 : b ≤ 18446744073709551615) :
    Calls Try.prog 40 #[.agg (opv k d ra rb v), .int .u64 a, .int .u64 b] w fun e w' => e = .returned (.int .u64 (Oc.app k a b v)) ∧ KW w w' := by
  unfold opv
  have hk := (KW.refl w).alloc (.cells #[.int .i64 k, .int .i64 d, .int .i64 ra, .int .i64 rb, .int .u64 v] 24)
  have HP := hid (fun W => plus_any a b a0 a1 b0 b1 W)
  have hn : 0 ≤ IntKind.u64.wrap (-b) ∧ IntKind.u64.wrap (-b) ≤ 18446744073709551615 := by rw [IntKind.wrap_u64]; omega
  have HS : Hid (∀ W, Calls Try.prog 61 #[.int .u64 a, .int .u64 (IntKind.u64.wrap (-b))] W fun e w' => e = .returned (.int .u64 (IntKind.u64.wrap (a - b))) ∧ Below W.heap.size W w') := fun W => by
    have h := plus_any a _ a0 a1 hn.1 hn.2 W
    rwa [wrap_sub_neg] at h
  have HNb := hid (fun W => neg_any b b0 b1 W)
  have HNa := hid (fun W => neg_any a a0 a1 W)
  have HT := hid (fun W => times_any a b a0 a1 b0 b1 W)
  have HE : Hid (¬ (1 ≤ k ∧ k ≤ 6) → Oc.app k a b v = 0) := hid (fun h => by unfold Oc.app; rw [if_neg (by omega), if_neg (by omega), if_neg (by omega), if_neg (by omega), if_neg (by omega), if_neg (by omega)])
  generalize hnb : IntKind.u64.wrap (-b) = nb at *
  clear hn hnb
  by_cases h : 1 ≤ k ∧ k ≤ 6
  · rcases (show k = 1 ∨ k = 2 ∨ k = 3 ∨ k = 4 ∨ k = 5 ∨ k = 6 by omega) with rfl | rfl | rfl | rfl | rfl | rfl

    · clear h HE
      go_enter Try.func40, Try.ntmps40
      go_wp2_with fail
      refine (HP.out _).mono ?_
      rintro e w1 ⟨rfl, hb⟩
      replace hk := KW.t hk hb
      clear hb
      go_wp2_with fail
      go_ret
      exact ⟨rfl, hk⟩
    · clear h HE
      go_enter Try.func40, Try.ntmps40
      go_wp2_with fail
      refine (HNb.out _).mono ?_
      rintro e w1 ⟨rfl, hb⟩
      replace hk := KW.t hk hb
      clear hb
      go_wp2_with fail
      refine (HS.out _).mono ?_
      rintro e w2 ⟨rfl, hb⟩
      replace hk := KW.t hk hb
      clear hb
      go_wp2_with fail
      go_ret
      exact ⟨rfl, hk⟩
    · clear h HE
      go_enter Try.func40, Try.ntmps40
      go_wp2_with fail
      refine (HT.out _).mono ?_
      rintro e w1 ⟨rfl, hb⟩
      replace hk := KW.t hk hb
      clear hb
      go_wp2_with fail
      go_ret
      exact ⟨rfl, hk⟩
    · clear h HE
      go_enter Try.func40, Try.ntmps40
      go_wp2_with fail
      refine (HNa.out _).mono ?_
      rintro e w1 ⟨rfl, hb⟩
      replace hk := KW.t hk hb
      clear hb
      go_wp2_with fail
      go_ret
      exact ⟨rfl, hk⟩
    · clear h HE
      go_enter Try.func40, Try.ntmps40
      go_wp2_with fail
      go_ret
      exact ⟨rfl, hk⟩
    · clear h HE
      go_enter Try.func40, Try.ntmps40
      go_wp2_with fail
      go_ret
      exact ⟨rfl, hk⟩
  · have e1 : (k == 1) = false := by simp; omega
    have e2 : (k == 2) = false := by simp; omega
    have e3 : (k == 3) = false := by simp; omega
    have e4 : (k == 4) = false := by simp; omega
    have e5 : (k == 5) = false := by simp; omega
    have e6 : (k == 6) = false := by simp; omega
    have HE2 := hid (HE.out h)
    clear h HE
    go_enter Try.func40, Try.ntmps40
    go_wp2_with fail
    go_ret
    exact ⟨by rw [HE2.out]; try rfl, hk⟩

theorem opv_row' (w : World) (k d a b v : Int) : (w.alloc (.cells #[.int .i64 k, .int .i64 d, .int .i64 a, .int .i64 b, .int .u64 v] 24)).rowIs w.heap.size 24 5 (fun i => [.int .i64 k, .int .i64 d, .int .i64 a, .int .i64 b, .int .u64 v].getD i undef) :=
  World.rowIs_alloc w #[.int .i64 k, .int .i64 d, .int .i64 a, .int .i64 b, .int .u64 v] 24 _ fun i hi => by simp at hi; simp [hi]
theorem writes_any (k d a b v : Int) (w : World) :
    Calls Try.prog 32 #[.agg (opv k d a b v)] w fun e w' => e = .returned (.tuple #[.int .i64 (if Oc.aD k = true then d else 0), .bool (Oc.aD k)]) ∧ KW w w' := by
  have HO := hid (fun W => of_any k W)
  have hop := opv_row' w k d a b v
  have hk := (KW.refl w).alloc (.cells (opv k d a b v) 24)
  have hf : ∀ (x y z t : Bool) (W : World), (Instr.field 70 (.agg #[.bool x, .bool y, .bool z, .bool t]) 0).run Try.prog W = .ok (.bool x) W := fun x y z t W => by kernel_rfl
  unfold opv akv at *
  have HOp := hid hop
  cases hD : Oc.aD k with
  | true =>
    rw [hD] at HO
    clear hop hD
    go_enter Try.func32, Try.ntmps32
    go_wp2_with fail
    refine (HO.out _).mono ?_
    rintro e w1 ⟨rfl, hb⟩
    have s1 := (KW.row hb HOp.out.lt HOp.out).cell (i := 1) (by omega)
    simp only [List.getD_cons_succ, List.getD_cons_zero] at s1
    have HK := hid (hk.t hb)
    clear hb
    go_wp2_with fail
    go_ret2
    exact ⟨rfl, HK.out⟩
  | false =>
    rw [hD] at HO
    clear hop hD
    go_enter Try.func32, Try.ntmps32
    go_wp2_with fail
    refine (HO.out _).mono ?_
    rintro e w1 ⟨rfl, hb⟩
    have HK := hid (hk.t hb)
    clear hb
    go_wp2_with fail
    go_ret2
    exact ⟨rfl, HK.out⟩
end Go.Proofs.Ytnpgiallgcliiaa
