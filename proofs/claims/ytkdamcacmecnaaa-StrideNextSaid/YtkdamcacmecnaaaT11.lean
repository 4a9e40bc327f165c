/- The walk of StrideNext. -/
import Derived.Test.YtkdamcacmecnaaaT10
import Derived.Test.YtkdamcacmecnaaaRowP
namespace Go.Proofs.Ytkdamcacmecnaaa
open Go.ChangeShapes Go.WideShapes Go.ChangeAt Go.RowKit
set_option linter.unusedVariables false

theorem next_goes (k : Int) (ended : Bool) (a p : Int) (N c : Nat) (A : Option Addr) (w : World) (h : 300 < N ∨ (2000 < k ∧ k < 65536)) :
    Calls Try.prog 7 #[.int .i64 k, .bool ended, .agg #[.int .i64 a, .int .i64 p, .slice A N c]] w fun e w' => e = .returned (.bool true) ∧ KW w w' := by
  have hk := (KW.refl w).alloc (.cells #[.int .i64 a, .int .i64 p, .slice A N c] 53)
  by_cases h0 : (300 : Int) < (N : Int)
  · clear h
    go_enter Try.func7, Try.ntmps7
    go_wp2_with (go_at_call 26; refine (goes31_any _).mono ?_; rintro e w1 ⟨rfl, hb⟩; replace hk := hk.t hb; clear hb)
    go_ret
    exact ⟨rfl, hk⟩
  have d0 : decide ((300 : Int) < (N : Int)) = false := decide_eq_false h0
  have h1 : 2000 < k := by omega
  have h2 : k < 65536 := by omega
  clear h h0
  go_enter Try.func7, Try.ntmps7
  go_wp2_with (go_at_call 26; refine (goes31_any _).mono ?_; rintro e w1 ⟨rfl, hb⟩; replace hk := hk.t hb; clear hb)
  go_ret
  exact ⟨rfl, hk⟩

set_option maxRecDepth 100000 in
set_option maxHeartbeats 1000000 in
theorem next_main (k : Int) (ended : Bool) (a p : Int) (c : Nat) (A : Option Addr) (tags : List Int) (w : World) (hc : Hid (2000 < k ∧ 65536 ≤ k) ∨ Hid (¬ 2000 < k)) (hN : ¬ 300 < tags.length) (hv : RTz w (.slice A tags.length c) tags) :
    Calls Try.prog 7 #[.int .i64 k, .bool ended, .agg #[.int .i64 a, .int .i64 p, .slice A tags.length c]] w fun e w' => e = .returned (.bool true) ∧ KW w w' := by
  have d0 : decide ((300 : Int) < (tags.length : Int)) = false := decide_eq_false (by omega)
  have H1 := hid (fun W (h : KW w W) => snext_any k ended a p tags _ W (hv.kw h))
  have H2 := hid (fun W (h : KW w W) => rnext_any k ended a p tags _ W (hv.kw h).rt0)
  have HE := hid (fun W x y => act_eq W x y x y)
  unfold AnsP at H1 H2
  generalize Sd.nx k ended a p tags = r at *
  generalize (r.getD (0, 0)).1 = x at *
  generalize (r.getD (0, 0)).2 = y at *
  generalize r.isSome = b at *
  have HK := hid ((KW.refl w).alloc (.cells #[.int .i64 a, .int .i64 p, .slice A tags.length c] 53))
  have HB := hid (heap_alloc_new w (.cells #[.int .i64 a, .int .i64 p, .slice A tags.length c] 53))
  clear hv hN
  generalize tags.length = N at *
  rcases hc with hc | hc
  · have q1 := hc.out.1
    have q2 : decide (k < 65536) = false := decide_eq_false (by have := hc.out.2; omega)
    go_enter Try.func7, Try.ntmps7
    go_wp2_with fail
    refine (H1.out _ HK.out).mono ?_
    rintro e w1 ⟨rfl, hk1⟩
    have HK1 := hid (HK.out.t hk1)
    have HB1 := hid (KW.blk hk1 (blk_lt HB.out) HB.out)
    clear hk1
    go_wp2_with (refine wpList_load_row rfl 53 _ rfl w.heap.size rfl 53 _ (0, 0) _ (KW.blk ((KW.refl w1).alloc (.cells #[.int .i64 x, .int .i64 y] 55)) (blk_lt HB1.out) HB1.out) Try.underlying53 rfl (by kernel_rfl) ?_)
    refine (H2.out _ (HK1.out.alloc _)).mono ?_
    rintro e w2 ⟨rfl, hk2⟩
    have HK2 := hid ((HK1.out.alloc _).t hk2)
    have HB2 := hid (KW.blk hk2 (by simp) (heap_alloc_new w1 (.cells #[.int .i64 x, .int .i64 y] 55)))
    have e1 : ∀ W, (binOp .eql 55 (.agg #[.int .i64 x, .int .i64 y]) (.agg #[.int .i64 x, .int .i64 y])).run Try.prog W = .ok (.bool true) W := fun W => by rw [HE.out]; simp
    have z0 : w2.cell? ⟨w1.heap.size, 0, none⟩ = some (.int .i64 x) := by rw [cell_of_row _ _ _ _ _ _ HB2.out]; rfl
    have z1 : w2.cell? ⟨w1.heap.size, 1, none⟩ = some (.int .i64 y) := by rw [cell_of_row _ _ _ _ _ _ HB2.out]; rfl
    have zz := blk_lt HB2.out
    have hk := HK2.out.alloc (.cells #[.int .i64 x, .int .i64 y] 55)
    clear hk2
    go_wp2_with (go_at_call 26; refine (goes31_any _).mono ?_; rintro e w1 ⟨rfl, hb⟩; replace hk := hk.t hb; clear hb)
    go_ret
    exact ⟨rfl, hk⟩
  · have q1 : decide (2000 < k) = false := decide_eq_false hc.out
    go_enter Try.func7, Try.ntmps7
    go_wp2_with fail
    refine (H1.out _ HK.out).mono ?_
    rintro e w1 ⟨rfl, hk1⟩
    have HK1 := hid (HK.out.t hk1)
    have HB1 := hid (KW.blk hk1 (blk_lt HB.out) HB.out)
    clear hk1
    go_wp2_with (refine wpList_load_row rfl 53 _ rfl w.heap.size rfl 53 _ (0, 0) _ (KW.blk ((KW.refl w1).alloc (.cells #[.int .i64 x, .int .i64 y] 55)) (blk_lt HB1.out) HB1.out) Try.underlying53 rfl (by kernel_rfl) ?_)
    refine (H2.out _ (HK1.out.alloc _)).mono ?_
    rintro e w2 ⟨rfl, hk2⟩
    have HK2 := hid ((HK1.out.alloc _).t hk2)
    have HB2 := hid (KW.blk hk2 (by simp) (heap_alloc_new w1 (.cells #[.int .i64 x, .int .i64 y] 55)))
    have e1 : ∀ W, (binOp .eql 55 (.agg #[.int .i64 x, .int .i64 y]) (.agg #[.int .i64 x, .int .i64 y])).run Try.prog W = .ok (.bool true) W := fun W => by rw [HE.out]; simp
    have z0 : w2.cell? ⟨w1.heap.size, 0, none⟩ = some (.int .i64 x) := by rw [cell_of_row _ _ _ _ _ _ HB2.out]; rfl
    have z1 : w2.cell? ⟨w1.heap.size, 1, none⟩ = some (.int .i64 y) := by rw [cell_of_row _ _ _ _ _ _ HB2.out]; rfl
    have zz := blk_lt HB2.out
    have hk := HK2.out.alloc (.cells #[.int .i64 x, .int .i64 y] 55)
    clear hk2
    go_wp2_with (go_at_call 26; refine (goes31_any _).mono ?_; rintro e w1 ⟨rfl, hb⟩; replace hk := hk.t hb; clear hb)
    go_ret
    exact ⟨rfl, hk⟩

theorem next31_law (k : Int) (ended : Bool) (a p : Int) (A : Option Addr) (c : Nat) (tags : List Int) (w : World) (_ : -9223372036854775808 ≤ k) (_ : k ≤ 9223372036854775807)
    (ha : i64ok a) (hp : i64ok p) (_ : tags.length ≤ 9223372036854775807) (_ : ∀ x ∈ tags, i64ok x) (hz : A = none → c = 0) (hr : Row1 w A tags.length fun i => .int .i64 (tags.getD i 0)) :
    Calls Try.prog 7 #[.int .i64 k, .bool ended, .agg #[.int .i64 a, .int .i64 p, .slice A tags.length c]] w fun e w' => e = .returned (.bool true) ∧ KW w w' := by
  by_cases h : 300 < tags.length ∨ (2000 < k ∧ k < 65536)
  · exact next_goes k ended a p _ c A w h
  · refine next_main k ended a p c A tags w ?_ (by omega) ⟨A, c, rfl, hz, hr⟩
    by_cases h1 : 2000 < k
    · exact .inl ⟨h1, by omega⟩
    · exact .inr h1
end Go.Proofs.Ytkdamcacmecnaaa
