/- The walks of the laws about duals. -/
import Derived.Test.YtkgcipgnpknbdaaD5
import Derived.Test.YtkgcipgnpknbdaaL0
namespace Go.Proofs.Ytkgcipgnpknbdaa
open Go.ChangeShapes Go.WideShapes Go.ChangeAt Go.RowKit
set_option linter.unusedVariables false

theorem Row2.on {w0 w : World} {A : Option Addr} {n : Nat} {f g : Nat → Value} (h : Row2 w0 A n f g) (hb : Below w0.heap.size w0 w) : Row2 w A n f g := h.below hb

set_option maxHeartbeats 300000 in
theorem products_walk (A : Option Addr) (n c : Nat) (v d : Nat → Int) (a b m : Int) (w : World) (hn : n ≤ 9223372036854775807)
    (hv : ∀ k, k < n → (0 ≤ v k ∧ v k ≤ 18446744073709551615) ∧ 0 ≤ d k ∧ d k ≤ 18446744073709551615) (hr : Row2 w A n (fun k => .int .u64 (v k)) (fun k => .int .u64 (d k)))
    (ha0 : 0 ≤ a) (ha1 : a ≤ 18446744073709551615) (hb0 : 0 ≤ b) (hb1 : b ≤ 18446744073709551615) (g0 : 0 ≤ m) (g1 : m ≤ 18446744073709551615) :
    Calls Try.prog 3 #[.slice A n c, .agg #[.int .u64 a, .int .u64 b], .int .u64 m] w fun e w' => e = .returned (.bool true) ∧ Below w.heap.size w w' := by
  have HR := hid hr
  have HV := hid hv
  clear hr hv
  by_cases hlen : 200 < n
  · have hd : (200 : Int) < (n : Int) := by omega
    go_enter Try.func3, Try.ntmps3
    go_wp2_with fail
    refine wp_world (fun W => w.heap.size + 1 ≤ W.heap.size ∧ Below w.heap.size w W ∧ W.cell? ⟨w.heap.size, 0, none⟩ = some (.int .u64 a) ∧ W.cell? ⟨w.heap.size, 1, none⟩ = some (.int .u64 b))
      ⟨by simp, by go_grown, by go_simp, by go_simp⟩ ?_
    rintro W ⟨hS, hB, c0, c1⟩
    refine wpX_region (S := fun w' => w'.cell? ⟨w.heap.size, 0, none⟩ = some (.int .u64 a) ∧ w'.cell? ⟨w.heap.size, 1, none⟩ = some (.int .u64 b)) (L := 99) (by kernel_rfl) ?_
    have hXS := And.intro c0 c1
    refine wpX_take (i := 0) (v := ?_) rfl rfl (by kernel_rfl) (fun _ _ _ h => h) (Or.inl ⟨rfl, fun wS hwS => ?_⟩) hXS ?_
    rotate_left
    · go_simp; try rfl
    simp only [List.set_cons_zero, List.set_cons_succ]
    refine wpX_take (i := 1) (v := ?_) rfl rfl (by kernel_rfl) (fun _ _ _ h => h) (Or.inl ⟨rfl, fun wS hwS => ?_⟩) hXS ?_
    rotate_left
    · go_simp; try rfl
    simp only [List.set_cons_zero, List.set_cons_succ]
    refine wpX_take (i := 2) (v := ?_) rfl rfl (by kernel_rfl) (fun _ _ _ h => h) (Or.inl ⟨rfl, fun wS hwS => ?_⟩) hXS ?_
    rotate_left
    · go_simp; try rfl
    simp only [List.set_cons_zero, List.set_cons_succ]
    refine wpX_take (i := 3) (v := ?_) rfl rfl (by kernel_rfl) (fun _ _ _ h => h) (Or.inl ⟨rfl, fun wS hwS => ?_⟩) hXS ?_
    rotate_left
    · go_simp; try rfl
    simp only [List.set_cons_zero, List.set_cons_succ]
    refine wpX_take (i := 4) rfl rfl (by kernel_rfl) (fun _ _ _ h => h) (Or.inr ⟨rfl, rfl⟩) hXS ?_
    simp only [List.set_cons_zero, List.set_cons_succ]
    refine wpX_take (i := 5) rfl rfl (by kernel_rfl) (fun _ _ _ h => h) (Or.inr ⟨rfl, rfl⟩) hXS ?_
    simp only [List.set_cons_zero, List.set_cons_succ]
    refine wpX_take (i := 6) rfl rfl (by kernel_rfl) (fun _ _ _ h => h) (Or.inr ⟨rfl, rfl⟩) hXS ?_
    simp only [List.set_cons_zero, List.set_cons_succ]
    refine wpX_take (i := 7) rfl rfl (by kernel_rfl) (fun _ _ _ h => h) (Or.inr ⟨rfl, rfl⟩) hXS ?_
    simp only [List.set_cons_zero, List.set_cons_succ]
    refine wpX_take (i := 8) rfl rfl (by kernel_rfl) (fun _ _ _ h => h) (Or.inr ⟨rfl, rfl⟩) hXS ?_
    simp only [List.set_cons_zero, List.set_cons_succ]
    refine wpX_take (i := 9) (v := ?_) rfl rfl (by kernel_rfl) (fun _ _ _ h => h) (Or.inl ⟨rfl, fun wS hwS => ?_⟩) hXS ?_
    rotate_left
    · go_simp; try rfl
    simp only [List.set_cons_zero, List.set_cons_succ]
    refine wpX_take (i := 10) (v := ?_) rfl rfl (by kernel_rfl) (fun _ _ _ h => h) (Or.inl ⟨rfl, fun wS hwS => ?_⟩) hXS ?_
    rotate_left
    · go_simp; try rfl
    simp only [List.set_cons_zero, List.set_cons_succ]
    refine wpX_take (i := 11) (v := ?_) rfl rfl (by kernel_rfl) (fun _ _ _ h => h) (Or.inl ⟨rfl, fun wS hwS => ?_⟩) hXS ?_
    rotate_left
    · go_simp; try rfl
    simp only [List.set_cons_zero, List.set_cons_succ]
    refine wpX_take (i := 12) (v := ?_) rfl rfl (by kernel_rfl) (fun _ _ _ h => h) (Or.inl ⟨rfl, fun wS hwS => ?_⟩) hXS ?_
    rotate_left
    · go_simp; try rfl
    simp only [List.set_cons_zero, List.set_cons_succ]
    refine wpX_take (i := 14) (v := ?_) rfl rfl (by kernel_rfl) (fun _ _ _ h => h) (Or.inl ⟨rfl, fun wS hwS => ?_⟩) hXS ?_
    rotate_left
    · go_simp; try rfl
    simp only [List.set_cons_zero, List.set_cons_succ]
    refine wpX_take (i := 15) (v := ?_) rfl rfl (by kernel_rfl) (fun _ _ _ h => h) (Or.inl ⟨rfl, fun wS hwS => ?_⟩) hXS ?_
    rotate_left
    · go_simp; try rfl
    simp only [List.set_cons_zero, List.set_cons_succ]
    refine wpX_hard (k := 13) (by kernel_rfl) rfl (fun K hK => ?_)
    go_simp
    (refine (dpow_any a b m ha0 ha1 hb0 hb1 g0 g1 _).mono ?_; rintro e w1 ⟨rfl, hb⟩; (try replace hb := undrew hb); have hB := on_below hb hS hB (by omega); have c0 := on_cell hb hS c0 (by omega); have c1 := on_cell hb hS c1 (by omega); have hS := on_size hb hS)
    refine hK _ _ (fun _ => ⟨c0, c1⟩) ?_
    clear hK K
    try simp only [List.set_cons_zero, List.set_cons_succ]
    refine wpX_hard (k := 16) (by kernel_rfl) rfl (fun K hK => ?_)
    go_simp
    (refine (rpow_any a b m ha0 ha1 hb0 hb1 g0 g1 _).mono ?_; rintro e w2 ⟨rfl, hb⟩; (try replace hb := undrew hb); have hB := on_below hb hS hB (by omega); have c0 := on_cell hb hS c0 (by omega); have c1 := on_cell hb hS c1 (by omega); have hS := on_size hb hS)
    refine hK _ _ (fun _ => ⟨c0, c1⟩) ?_
    clear hK K
    try simp only [List.set_cons_zero, List.set_cons_succ]
    replace hXS := And.intro c0 c1
    refine wpX_take (i := 17) (v := ?_) rfl rfl (by kernel_rfl) (fun _ _ _ h => h) (Or.inl ⟨rfl, fun wS hwS => ?_⟩) hXS ?_
    rotate_left
    · go_simp; try rfl
    simp only [List.set_cons_zero, List.set_cons_succ]
    refine wpX_take (i := 18) (v := ?_) rfl rfl (by kernel_rfl) (fun _ _ _ h => h) (Or.inl ⟨rfl, fun wS hwS => ?_⟩) hXS ?_
    rotate_left
    · go_simp; try rfl
    simp only [List.set_cons_zero, List.set_cons_succ]
    refine wpX_take (i := 19) (v := ?_) rfl rfl (by kernel_rfl) (fun _ _ _ h => h) (Or.inl ⟨rfl, fun wS hwS => ?_⟩) hXS ?_
    rotate_left
    · go_simp; try rfl
    simp only [List.set_cons_zero, List.set_cons_succ]
    refine wpX_hard (k := 20) (by kernel_rfl) rfl (fun K hK => ?_)
    go_simp
    (refine (goes_any _).mono ?_; rintro e w3 ⟨rfl, hb⟩; (try replace hb := undrew hb); have hB := on_below hb hS hB (by omega); have c0 := on_cell hb hS c0 (by omega); have c1 := on_cell hb hS c1 (by omega); have hS := on_size hb hS)
    refine hK _ _ (fun _ => ⟨c0, c1⟩) ?_
    clear hK K
    try simp only [List.set_cons_zero, List.set_cons_succ]
    replace hXS := And.intro c0 c1
    refine wpX_take (i := 21) (v := ?_) rfl rfl (by kernel_rfl) (fun _ _ _ h => h) (Or.inl ⟨rfl, fun wS hwS => ?_⟩) hXS ?_
    rotate_left
    · go_simp; try rfl
    simp only [List.set_cons_zero, List.set_cons_succ]
    refine wpX_take (i := 22) (v := ?_) rfl rfl (by kernel_rfl) (fun _ _ _ h => h) (Or.inl ⟨rfl, fun wS hwS => ?_⟩) hXS ?_
    rotate_left
    · go_simp; try rfl
    simp only [List.set_cons_zero, List.set_cons_succ]
    refine wpX_done (by kernel_rfl) ?_
    go_wp2
    go_ret
    exact ⟨rfl, hB⟩
  · have hd : decide ((200 : Int) < (n : Int)) = false := by simp; omega
    go_enter Try.func3, Try.ntmps3
    go_wp2_with fail
    refine wp_world (fun W => w.heap.size + 1 ≤ W.heap.size ∧ Below w.heap.size w W ∧ W.cell? ⟨w.heap.size, 0, none⟩ = some (.int .u64 a) ∧ W.cell? ⟨w.heap.size, 1, none⟩ = some (.int .u64 b))
      ⟨by simp, by go_grown, by go_simp, by go_simp⟩ ?_
    rintro W ⟨hS, hB, c0, c1⟩
    have HR1 := hid (HR.out.below hB)
    go_region_held3 (fun w' => w'.cell? ⟨w.heap.size, 0, none⟩ = some (.int .u64 a) ∧ w'.cell? ⟨w.heap.size, 1, none⟩ = some (.int .u64 b))
      ((first | exact ⟨c0, c1⟩ | (repeat' apply And.intro) <;> (first | (with_reducible assumption) | (go_simp; done) | (go_keep; done))))
      (first
        | (go_at_call 8; refine (dmul_any A n c v d _ hn (by exact HR.out.below (by first | exact hB | exact hB.drew))).mono ?_; rintro e w1 ⟨rfl, hb⟩; (try replace hb := undrew hb); have hB := on_below hb hS hB (by omega); have c0 := on_cell hb hS c0 (by omega); have c1 := on_cell hb hS c1 (by omega); have hS := on_size hb hS)
        | (go_at_call 9; refine (rmul_any A n c v d _ hn HV.out (by exact HR.out.below (by first | exact hB | exact hB.drew))).mono ?_; rintro e w1 ⟨rfl, hb⟩; (try replace hb := undrew hb); have hB := on_below hb hS hB (by omega); have c0 := on_cell hb hS c0 (by omega); have c1 := on_cell hb hS c1 (by omega); have hS := on_size hb hS)
        | (go_at_call 10; refine (dpow_any a b m ha0 ha1 hb0 hb1 g0 g1 _).mono ?_; rintro e w1 ⟨rfl, hb⟩; (try replace hb := undrew hb); have hB := on_below hb hS hB (by omega); have c0 := on_cell hb hS c0 (by omega); have c1 := on_cell hb hS c1 (by omega); have hS := on_size hb hS)
        | (go_at_call 11; refine (rpow_any a b m ha0 ha1 hb0 hb1 g0 g1 _).mono ?_; rintro e w1 ⟨rfl, hb⟩; (try replace hb := undrew hb); have hB := on_below hb hS hB (by omega); have c0 := on_cell hb hS c0 (by omega); have c1 := on_cell hb hS c1 (by omega); have hS := on_size hb hS)
        | (go_at_call 12; refine (goes_any _).mono ?_; rintro e w1 ⟨rfl, hb⟩; (try replace hb := undrew hb); have hB := on_below hb hS hB (by omega); have c0 := on_cell hb hS c0 (by omega); have c1 := on_cell hb hS c1 (by omega); have hS := on_size hb hS))
    go_wp2
    go_ret
    exact ⟨rfl, hB⟩
end Go.Proofs.Ytkgcipgnpknbdaa
