/- Opcode: what kinds ask for; contracts of known, register, of, Asks, Right. -/
import Derived.Test.YtnpgiallgcliiaaKeep
namespace Go.Proofs.Ytnpgiallgcliiaa
open Go.ChangeShapes Go.WideShapes Go.ChangeAt Go.RowKit
set_option linter.unusedVariables false

namespace Oc
def aD (k : Int) : Bool := decide (1 ≤ k ∧ k ≤ 6)
def aA (k : Int) : Bool := decide (1 ≤ k ∧ k ≤ 4 ∨ k = 6)
def aB (k : Int) : Bool := decide (1 ≤ k ∧ k ≤ 3)
def aV (k : Int) : Bool := decide (k = 5 ∨ k = 7)
def kn (k : Int) : Bool := decide (0 ≤ k ∧ k < 8)
def rg (n : Int) (x : Bool) : Bool := if x = true then decide (0 ≤ n ∧ n ≤ 2147483647) else decide (n = 0)
def right (k d a b v : Int) : Bool := kn k && rg d (aD k) && rg a (aA k) && rg b (aB k) && (aV k || decide (v = 0))
theorem other {k : Int} (h : ¬ (1 ≤ k ∧ k ≤ 7)) : aD k = false ∧ aA k = false ∧ aB k = false ∧ aV k = false := by
  refine ⟨decide_eq_false (by omega), decide_eq_false (by omega), decide_eq_false (by omega), decide_eq_false (by omega)⟩
end Oc
/-- an operation's cells -/
def opv (k d a b v : Int) : Array Value := #[.int .i64 k, .int .i64 d, .int .i64 a, .int .i64 b, .int .u64 v]
def akv (k : Int) : Array Value := #[.bool (Oc.aD k), .bool (Oc.aA k), .bool (Oc.aB k), .bool (Oc.aV k)]

theorem known_any (k : Int) (w : World) : Calls Try.prog 53 #[.int .i64 k] w fun e w' => e = .returned (.bool (Oc.kn k)) ∧ w = w' := by
  have HK := hid (show Oc.kn k = decide (0 ≤ k ∧ k < 8) from rfl)
  by_cases h0 : 0 ≤ k
  · by_cases h1 : k < 8
    · have H := hid (HK.out.trans (decide_eq_true ⟨h0, h1⟩))
      go_enter Try.func53, Try.ntmps53
      go_wp2
      go_ret
      exact ⟨ret_bool H.out.symm, rfl⟩
    · have H := hid (HK.out.trans (decide_eq_false (fun h => h1 h.2)))
      have d1 : decide (k < 8) = false := by simpa using h1
      go_enter Try.func53, Try.ntmps53
      go_wp2
      go_ret
      exact ⟨ret_bool H.out.symm, rfl⟩
  · have H := hid (HK.out.trans (decide_eq_false (fun h => h0 h.1)))
    have d0 : decide (0 ≤ k) = false := by simpa using h0
    go_enter Try.func53, Try.ntmps53
    go_wp2
    go_ret
    exact ⟨ret_bool H.out.symm, rfl⟩
theorem register_any (n : Int) (x : Bool) (w : World) : Calls Try.prog 54 #[.int .i64 n, .bool x] w fun e w' => e = .returned (.bool (Oc.rg n x)) ∧ w = w' := by
  cases x with
  | false =>
    have HK := hid (show Oc.rg n false = decide (n = 0) from rfl)
    by_cases h : n = 0
    · have H := hid (HK.out.trans (decide_eq_true h))
      have d : (n == 0) = true := by simpa using h
      go_enter Try.func54, Try.ntmps54
      go_wp2
      go_ret
      exact ⟨ret_bool H.out.symm, rfl⟩
    · have H := hid (HK.out.trans (decide_eq_false h))
      have d : (n == 0) = false := by simpa using h
      go_enter Try.func54, Try.ntmps54
      go_wp2
      go_ret
      exact ⟨ret_bool H.out.symm, rfl⟩
  | true =>
    have HK := hid (show Oc.rg n true = decide (0 ≤ n ∧ n ≤ 2147483647) from rfl)
    by_cases h0 : 0 ≤ n
    · by_cases h1 : n ≤ 2147483647
      · have H := hid (HK.out.trans (decide_eq_true ⟨h0, h1⟩))
        go_enter Try.func54, Try.ntmps54
        go_wp2
        go_ret
        exact ⟨ret_bool H.out.symm, rfl⟩
      · have H := hid (HK.out.trans (decide_eq_false (fun h => h1 h.2)))
        have d1 : decide (n ≤ 2147483647) = false := by simpa using h1
        go_enter Try.func54, Try.ntmps54
        go_wp2
        go_ret
        exact ⟨ret_bool H.out.symm, rfl⟩
    · have H := hid (HK.out.trans (decide_eq_false (fun h => h0 h.1)))
      have d0 : decide (0 ≤ n) = false := by simpa using h0
      go_enter Try.func54, Try.ntmps54
      go_wp2
      go_ret
      exact ⟨ret_bool H.out.symm, rfl⟩

theorem of_any (k : Int) (w : World) : Calls Try.prog 50 #[.int .i64 k] w fun e w' => e = .returned (.agg (akv k)) ∧ KW w w' := by
  by_cases h : 1 ≤ k ∧ k ≤ 7
  · rcases (show k = 1 ∨ k = 2 ∨ k = 3 ∨ k = 4 ∨ k = 5 ∨ k = 6 ∨ k = 7 by omega) with rfl | rfl | rfl | rfl | rfl | rfl | rfl
    all_goals
      go_enter Try.func50, Try.ntmps50
      go_wp2_with fail
      exact bodyPost_ret (results_cell_row rfl _ _ _ _ _ (0, 0) _ rfl (heap_alloc_new w _) Try.underlying70 rfl (by kernel_rfl)) rfl ⟨by first | rfl | kernel_rfl, (KW.refl w).alloc _⟩
  · have HO := hid (show #[Value.bool false, .bool false, .bool false, .bool false] = akv k from by unfold akv; rw [(Oc.other h).1, (Oc.other h).2.1, (Oc.other h).2.2.1, (Oc.other h).2.2.2])
    have e1 : (k == 1) = false := by simp; omega
    have e2 : (k == 2) = false := by simp; omega
    have e3 : (k == 3) = false := by simp; omega
    have e4 : (k == 4) = false := by simp; omega
    have e5 : (k == 5) = false := by simp; omega
    have e6 : (k == 6) = false := by simp; omega
    have e7 : (k == 7) = false := by simp; omega
    by_cases h0 : 1 ≤ k
    · have d1 : decide (1 ≤ k) = true := decide_eq_true h0
      have d2 : decide (k ≤ 3) = false := decide_eq_false (by omega)
      clear h0 h
      go_enter Try.func50, Try.ntmps50
      go_wp2_with fail
      exact bodyPost_ret (results_cell_row rfl _ _ _ _ _ (0, 0) _ rfl (heap_alloc_new w _) Try.underlying70 rfl (by kernel_rfl)) rfl ⟨by rw [← HO.out], (KW.refl w).alloc _⟩
    · have d1 : decide (1 ≤ k) = false := decide_eq_false h0
      clear h0 h
      go_enter Try.func50, Try.ntmps50
      go_wp2_with fail
      exact bodyPost_ret (results_cell_row rfl _ _ _ _ _ (0, 0) _ rfl (heap_alloc_new w _) Try.underlying70 rfl (by kernel_rfl)) rfl ⟨by rw [← HO.out], (KW.refl w).alloc _⟩

theorem asks_any (k : Int) (w : World) : Calls Try.prog 33 #[.int .i64 k] w fun e w' => e = .returned (.agg (akv k)) ∧ KW w w' := by
  by_cases h : 1 ≤ k ∧ k ≤ 7
  · rcases (show k = 1 ∨ k = 2 ∨ k = 3 ∨ k = 4 ∨ k = 5 ∨ k = 6 ∨ k = 7 by omega) with rfl | rfl | rfl | rfl | rfl | rfl | rfl
    all_goals
      go_enter Try.func33, Try.ntmps33
      go_wp2_with fail
      exact bodyPost_ret (results_cell_row rfl _ _ _ _ _ (0, 0) _ rfl (heap_alloc_new w _) Try.underlying53 rfl (by kernel_rfl)) rfl ⟨by first | rfl | kernel_rfl, (KW.refl w).alloc _⟩
  · have HO := hid (show #[Value.bool false, .bool false, .bool false, .bool false] = akv k from by unfold akv; rw [(Oc.other h).1, (Oc.other h).2.1, (Oc.other h).2.2.1, (Oc.other h).2.2.2])
    have e1 : (k == 1) = false := by simp; omega
    have e2 : (k == 2) = false := by simp; omega
    have e3 : (k == 3) = false := by simp; omega
    have e4 : (k == 4) = false := by simp; omega
    have e5 : (k == 5) = false := by simp; omega
    have e6 : (k == 6) = false := by simp; omega
    have e7 : (k == 7) = false := by simp; omega
    by_cases h0 : 1 ≤ k
    · have d1 : decide (1 ≤ k) = true := decide_eq_true h0
      have d2 : decide (k ≤ 3) = false := decide_eq_false (by omega)
      clear h0 h
      go_enter Try.func33, Try.ntmps33
      go_wp2_with fail
      exact bodyPost_ret (results_cell_row rfl _ _ _ _ _ (0, 0) _ rfl (heap_alloc_new w _) Try.underlying53 rfl (by kernel_rfl)) rfl ⟨by rw [← HO.out], (KW.refl w).alloc _⟩
    · have d1 : decide (1 ≤ k) = false := decide_eq_false h0
      clear h0 h
      go_enter Try.func33, Try.ntmps33
      go_wp2_with fail
      exact bodyPost_ret (results_cell_row rfl _ _ _ _ _ (0, 0) _ rfl (heap_alloc_new w _) Try.underlying53 rfl (by kernel_rfl)) rfl ⟨by rw [← HO.out], (KW.refl w).alloc _⟩


set_option maxHeartbeats 1000000 in
theorem oright_any (k d a b v : Int) (w : World) :
    Calls Try.prog 18 #[.agg (opv k d a b v)] w fun e w' => e = .returned (.bool (Oc.right k d a b v)) ∧ KW w w' := by
  have HO := hid (fun W => of_any k W)
  have HR := hid (show Oc.right k d a b v = (Oc.kn k && Oc.rg d (Oc.aD k) && Oc.rg a (Oc.aA k) && Oc.rg b (Oc.aB k) && (Oc.aV k || decide (v = 0))) from rfl)
  have HKn := hid (fun W => known_any k W)
  have HD := hid (fun W => register_any d (Oc.aD k) W)
  have HA := hid (fun W => register_any a (Oc.aA k) W)
  have HB := hid (fun W => register_any b (Oc.aB k) W)
  have HV := hid (show decide (v = 0) = (v == 0) from by by_cases h : v = 0 <;> simp [h])
  unfold akv at HO
  unfold opv
  generalize Oc.right k d a b v = r at *
  generalize Oc.kn k = kn at *
  generalize Oc.rg d (Oc.aD k) = r1 at *
  generalize Oc.rg a (Oc.aA k) = r2 at *
  generalize Oc.rg b (Oc.aB k) = r3 at *
  generalize Oc.aD k = xd at *
  generalize Oc.aA k = xa at *
  generalize Oc.aB k = xb at *
  generalize Oc.aV k = xv at *
  have hk := (KW.refl w).alloc (.cells #[.int .i64 k, .int .i64 d, .int .i64 a, .int .i64 b, .int .u64 v] 24)
  have c0 : (w.alloc (.cells #[.int .i64 k, .int .i64 d, .int .i64 a, .int .i64 b, .int .u64 v] 24)).cell? ⟨w.heap.size, 0, none⟩ = some (.int .i64 k) := by go_simp
  have c1 : (w.alloc (.cells #[.int .i64 k, .int .i64 d, .int .i64 a, .int .i64 b, .int .u64 v] 24)).cell? ⟨w.heap.size, 1, none⟩ = some (.int .i64 d) := by go_simp
  have c2 : (w.alloc (.cells #[.int .i64 k, .int .i64 d, .int .i64 a, .int .i64 b, .int .u64 v] 24)).cell? ⟨w.heap.size, 2, none⟩ = some (.int .i64 a) := by go_simp
  have c3 : (w.alloc (.cells #[.int .i64 k, .int .i64 d, .int .i64 a, .int .i64 b, .int .u64 v] 24)).cell? ⟨w.heap.size, 3, none⟩ = some (.int .i64 b) := by go_simp
  have c4 : (w.alloc (.cells #[.int .i64 k, .int .i64 d, .int .i64 a, .int .i64 b, .int .u64 v] 24)).cell? ⟨w.heap.size, 4, none⟩ = some (.int .u64 v) := by go_simp
  have HC := hid (And.intro c0 (And.intro c1 (And.intro c2 (And.intro c3 c4))))
  clear c0 c1 c2 c3 c4
  go_enter Try.func18, Try.ntmps18
  go_wp2_with fail
  refine (HO.out _).mono ?_
  rintro e w1 ⟨rfl, hb⟩
  have c0 := KW.cell hb (by simp) HC.out.1
  have c1 := KW.cell hb (by simp) HC.out.2.1
  have c2 := KW.cell hb (by simp) HC.out.2.2.1
  have c3 := KW.cell hb (by simp) HC.out.2.2.2.1
  have c4 := KW.cell hb (by simp) HC.out.2.2.2.2
  have hlt := (Nat.lt_of_lt_of_le (show w.heap.size < (w.alloc (.cells #[.int .i64 k, .int .i64 d, .int .i64 a, .int .i64 b, .int .u64 v] 24)).heap.size from by simp) hb.size)
  replace hk := (hk.t hb).alloc (.cells #[.bool xd, .bool xa, .bool xb, .bool xv] 70)
  clear hb HC
  go_wp2_with fail
  refine (HKn.out _).mono ?_; rintro e w2 ⟨rfl, rfl⟩
  cases kn with
  | false =>
    go_wp2_with fail
    go_ret
    exact ⟨ret_bool (by rw [HR.out]; simp), hk⟩
  | true =>
    go_wp2_with fail
    refine (HD.out _).mono ?_; rintro e w2 ⟨rfl, rfl⟩
    cases r1 with
    | false =>
      go_wp2_with fail
      go_ret
      exact ⟨ret_bool (by rw [HR.out]; simp), hk⟩
    | true =>
      go_wp2_with fail
      refine (HA.out _).mono ?_; rintro e w2 ⟨rfl, rfl⟩
      cases r2 with
      | false =>
        go_wp2_with fail
        go_ret
        exact ⟨ret_bool (by rw [HR.out]; simp), hk⟩
      | true =>
        go_wp2_with fail
        refine (HB.out _).mono ?_; rintro e w2 ⟨rfl, rfl⟩
        cases r3 with
        | false =>
          go_wp2_with fail
          go_ret
          exact ⟨ret_bool (by rw [HR.out]; simp), hk⟩
        | true =>
          cases xv with
          | true =>
            go_wp2_with fail
            go_ret
            exact ⟨ret_bool (by rw [HR.out]; rfl), hk⟩
          | false =>
            go_wp2_with fail
            go_ret
            exact ⟨ret_bool (by rw [HR.out, HV.out]; rfl), hk⟩

end Go.Proofs.Ytnpgiallgcliiaa
