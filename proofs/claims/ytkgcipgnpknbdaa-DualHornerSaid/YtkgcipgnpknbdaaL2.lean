/- The walk of DualHorner. -/
import Derived.Test.YtkgcipgnpknbdaaL0
namespace Go.Proofs.Ytkgcipgnpknbdaa
open Go.ChangeShapes Go.WideShapes Go.ChangeAt Go.RowKit
set_option linter.unusedVariables false

set_option maxHeartbeats 1000000 in
theorem horner_walk (A : Option Addr) (n c : Nat) (f : Nat → Int) (a b : Int) (w : World) (hn : n ≤ 9223372036854775807) (hf : ∀ k, k < n → 0 ≤ f k ∧ f k ≤ 18446744073709551615) (hr : Row1 w A n fun k => .int .u64 (f k))
    (ha0 : 0 ≤ a) (ha1 : a ≤ 18446744073709551615) (hb0 : 0 ≤ b) (hb1 : b ≤ 18446744073709551615) :
    Calls Try.prog 4 #[.slice A n c, .agg #[.int .u64 a, .int .u64 b]] w fun e w' => e = .returned (.bool true) ∧ Below w.heap.size w w' := by
  have HR := hid hr
  have HF := hid hf
  clear hr hf
  by_cases hlen : 200 < n
  · have hd : (200 : Int) < (n : Int) := by omega
    go_enter Try.func4, Try.ntmps4
    go_wp2_with fail
    refine wp_world (fun W => KW w W ∧ W.cell? ⟨w.heap.size, 0, none⟩ = some (.int .u64 a) ∧ W.cell? ⟨w.heap.size, 1, none⟩ = some (.int .u64 b)) ⟨by show Below _ _ _; go_grown, by go_simp, by go_simp⟩ ?_
    rintro W ⟨hk, c0, c1⟩
    refine wpX_region (S := fun _ => True) (L := 99) (by kernel_rfl) ?_
    have hXS : True := trivial
    refine wpX_take (i := 0) (v := ?_) rfl rfl (by kernel_rfl) (fun _ _ _ h => h) (Or.inl ⟨rfl, fun wS hwS => ?_⟩) hXS ?_
    rotate_left
    · go_simp; try rfl
    simp only [List.set_cons_zero, List.set_cons_succ]
    refine wpX_take (i := 1) (v := ?_) rfl rfl (by kernel_rfl) (fun _ _ _ h => h) (Or.inl ⟨rfl, fun wS hwS => ?_⟩) hXS ?_
    rotate_left
    · go_simp; try rfl
    simp only [List.set_cons_zero, List.set_cons_succ]
    refine wpX_take (i := 2) (v := ?_) rfl rfl (by kernel_rfl) (fun _ _ _ h => h) (Or.inl ⟨rfl, fun wS hwS => ?_⟩) hXS ?_
    rotate_left
    · go_simp; try rfl
    simp only [List.set_cons_zero, List.set_cons_succ]
    refine wpX_take (i := 3) (v := ?_) rfl rfl (by kernel_rfl) (fun _ _ _ h => h) (Or.inl ⟨rfl, fun wS hwS => ?_⟩) hXS ?_
    rotate_left
    · go_simp; try rfl
    simp only [List.set_cons_zero, List.set_cons_succ]
    refine wpX_take (i := 4) rfl rfl (by kernel_rfl) (fun _ _ _ h => h) (Or.inr ⟨rfl, rfl⟩) hXS ?_
    simp only [List.set_cons_zero, List.set_cons_succ]
    refine wpX_take (i := 5) rfl rfl (by kernel_rfl) (fun _ _ _ h => h) (Or.inr ⟨rfl, rfl⟩) hXS ?_
    simp only [List.set_cons_zero, List.set_cons_succ]
    refine wpX_take (i := 6) rfl rfl (by kernel_rfl) (fun _ _ _ h => h) (Or.inr ⟨rfl, rfl⟩) hXS ?_
    simp only [List.set_cons_zero, List.set_cons_succ]
    refine wpX_take (i := 7) rfl rfl (by kernel_rfl) (fun _ _ _ h => h) (Or.inr ⟨rfl, rfl⟩) hXS ?_
    simp only [List.set_cons_zero, List.set_cons_succ]
    refine wpX_take (i := 8) rfl rfl (by kernel_rfl) (fun _ _ _ h => h) (Or.inr ⟨rfl, rfl⟩) hXS ?_
    simp only [List.set_cons_zero, List.set_cons_succ]
    refine wpX_take (i := 9) rfl rfl (by kernel_rfl) (fun _ _ _ h => h) (Or.inr ⟨rfl, rfl⟩) hXS ?_
    simp only [List.set_cons_zero, List.set_cons_succ]
    refine wpX_take (i := 10) rfl rfl (by kernel_rfl) (fun _ _ _ h => h) (Or.inr ⟨rfl, rfl⟩) hXS ?_
    simp only [List.set_cons_zero, List.set_cons_succ]
    refine wpX_take (i := 11) (v := ?_) rfl rfl (by kernel_rfl) (fun _ _ _ h => h) (Or.inl ⟨rfl, fun wS hwS => ?_⟩) hXS ?_
    rotate_left
    · go_simp; try rfl
    simp only [List.set_cons_zero, List.set_cons_succ]
    refine wpX_take (i := 12) (v := ?_) rfl rfl (by kernel_rfl) (fun _ _ _ h => h) (Or.inl ⟨rfl, fun wS hwS => ?_⟩) hXS ?_
    rotate_left
    · go_simp; try rfl
    simp only [List.set_cons_zero, List.set_cons_succ]
    refine wpX_hard (k := 13) (by kernel_rfl) rfl (fun K hK => ?_)
    go_simp
    (refine (goes_any _).mono ?_; rintro e w3 ⟨rfl, hb⟩; (try replace hb := undrew hb); replace hk := hk.on hb; clear hb)
    refine hK _ _ (fun _ => trivial) ?_
    clear hK K
    try simp only [List.set_cons_zero, List.set_cons_succ]
    refine wpX_take (i := 14) (v := ?_) rfl rfl (by kernel_rfl) (fun _ _ _ h => h) (Or.inl ⟨rfl, fun wS hwS => ?_⟩) hXS ?_
    rotate_left
    · go_simp; try rfl
    simp only [List.set_cons_zero, List.set_cons_succ]
    refine wpX_take (i := 15) (v := ?_) rfl rfl (by kernel_rfl) (fun _ _ _ h => h) (Or.inl ⟨rfl, fun wS hwS => ?_⟩) hXS ?_
    rotate_left
    · go_simp; try rfl
    simp only [List.set_cons_zero, List.set_cons_succ]
    refine wpX_done (by kernel_rfl) ?_
    go_wp2
    go_ret
    exact ⟨rfl, hk⟩
  · have hd : decide ((200 : Int) < (n : Int)) = false := by simp; omega
    go_enter Try.func4, Try.ntmps4
    go_wp2_with fail
    refine wp_world (fun W => KW w W ∧ w.heap.size < W.heap.size ∧ W.cell? ⟨w.heap.size, 0, none⟩ = some (.int .u64 a) ∧ W.cell? ⟨w.heap.size, 1, none⟩ = some (.int .u64 b)) ⟨by show Below _ _ _; go_grown, by simp, by go_simp, by go_simp⟩ ?_
    rintro W ⟨hk, hs, c0, c1⟩
    have hr2 := hid (HR.out.below (show Below _ _ W from hk))
    have hq := KW.refl W
    refine wpX_region (S := fun w' => w'.cell? ⟨w.heap.size, 0, none⟩ = some (.int .u64 a) ∧ w'.cell? ⟨w.heap.size, 1, none⟩ = some (.int .u64 b)) (L := 99) (by kernel_rfl) ?_
    have hXS := And.intro c0 c1
    refine wpX_take (i := 0) (v := ?_) rfl rfl (by kernel_rfl) (fun _ _ _ h => h) (Or.inl ⟨rfl, fun wS hwS => ?_⟩) hXS ?_
    rotate_left
    · go_simp; try rfl
    simp only [List.set_cons_zero, List.set_cons_succ]
    refine wpX_take (i := 1) (v := ?_) rfl rfl (by kernel_rfl) (fun _ _ _ h => h) (Or.inl ⟨rfl, fun wS hwS => ?_⟩) hXS ?_
    rotate_left
    · go_simp; try rfl
    simp only [List.set_cons_zero, List.set_cons_succ]
    refine wpX_take (i := 2) (v := ?_) rfl rfl (by kernel_rfl) (fun _ _ _ h => h) (Or.inl ⟨rfl, fun wS hwS => ?_⟩) hXS ?_
    rotate_left
    · go_simp; try rfl
    simp only [List.set_cons_zero, List.set_cons_succ]
    refine wpX_take (i := 3) (v := ?_) rfl rfl (by kernel_rfl) (fun _ _ _ h => h) (Or.inl ⟨rfl, fun wS hwS => ?_⟩) hXS ?_
    rotate_left
    · go_simp; try rfl
    simp only [List.set_cons_zero, List.set_cons_succ]
    refine wpX_take (i := 4) (v := ?_) rfl rfl (by kernel_rfl) (fun _ _ _ h => h) (Or.inl ⟨rfl, fun wS hwS => ?_⟩) hXS ?_
    rotate_left
    · go_simp; try rfl
    simp only [List.set_cons_zero, List.set_cons_succ]
    refine wpX_take (i := 5) (v := ?_) rfl rfl (by kernel_rfl) (fun _ _ _ h => h) (Or.inl ⟨rfl, fun wS hwS => ?_⟩) hXS ?_
    rotate_left
    · go_simp; try rfl
    simp only [List.set_cons_zero, List.set_cons_succ]
    refine wpX_take (i := 7) (v := ?_) rfl rfl (by kernel_rfl) (fun _ _ _ h => h) (Or.inl ⟨rfl, fun wS hwS => ?_⟩) hXS ?_
    rotate_left
    · go_simp; try rfl
    simp only [List.set_cons_zero, List.set_cons_succ]
    refine wpX_take (i := 8) (v := ?_) rfl rfl (by kernel_rfl) (fun _ _ _ h => h) (Or.inl ⟨rfl, fun wS hwS => ?_⟩) hXS ?_
    rotate_left
    · go_simp; try rfl
    simp only [List.set_cons_zero, List.set_cons_succ]
    refine wpX_hard (k := 6) (by kernel_rfl) rfl (fun K hK => ?_)
    go_simp
    (refine (dhorner_any A n c f a b _ hn (by exact hr2.out)).mono ?_; rintro e w1 ⟨rfl, hb⟩; (try replace hb := undrew hb); replace hq := hq.on hb; clear hb)
    refine hK _ _ (fun _ => ⟨hq.cell hs c0, hq.cell hs c1⟩) ?_
    clear hK K
    try simp only [List.set_cons_zero, List.set_cons_succ]
    refine wpX_hard (k := 9) (by kernel_rfl) rfl (fun K hK => ?_)
    go_simp
    (refine (rhorner_any A n c f a b _ hn HF.out ha0 ha1 hb0 hb1 (hr2.out.below (show Below _ _ w1 from hq))).mono ?_; rintro e w2 ⟨rfl, hb⟩; replace hq := hq.on hb; clear hb)
    refine hK _ _ (fun _ => ⟨hq.cell hs c0, hq.cell hs c1⟩) ?_
    clear hK K
    try simp only [List.set_cons_zero, List.set_cons_succ]
    replace hXS := And.intro (hq.cell hs c0) (hq.cell hs c1)
    refine wpX_take (i := 10) (v := ?_) rfl rfl (by kernel_rfl) (fun _ _ _ h => h) (Or.inl ⟨rfl, fun wS hwS => ?_⟩) hXS ?_
    rotate_left
    · go_simp; try rfl
    simp only [List.set_cons_zero, List.set_cons_succ]
    refine wpX_take (i := 11) (v := ?_) rfl rfl (by kernel_rfl) (fun _ _ _ h => h) (Or.inl ⟨rfl, fun wS hwS => ?_⟩) hXS ?_
    rotate_left
    · go_simp; try rfl
    simp only [List.set_cons_zero, List.set_cons_succ]
    refine wpX_take (i := 12) (v := ?_) rfl rfl (by kernel_rfl) (fun _ _ _ h => h) (Or.inl ⟨rfl, fun wS hwS => ?_⟩) hXS ?_
    rotate_left
    · go_simp; try rfl
    simp only [List.set_cons_zero, List.set_cons_succ]
    refine wpX_hard (k := 13) (by kernel_rfl) rfl (fun K hK => ?_)
    go_simp
    (refine (goes_any _).mono ?_; rintro e w3 ⟨rfl, hb⟩; replace hq := hq.on hb; clear hb)
    refine hK _ _ (fun _ => ⟨hq.cell hs c0, hq.cell hs c1⟩) ?_
    clear hK K
    try simp only [List.set_cons_zero, List.set_cons_succ]
    replace hXS := And.intro (hq.cell hs c0) (hq.cell hs c1)
    refine wpX_take (i := 14) (v := ?_) rfl rfl (by kernel_rfl) (fun _ _ _ h => h) (Or.inl ⟨rfl, fun wS hwS => ?_⟩) hXS ?_
    rotate_left
    · go_simp; try rfl
    simp only [List.set_cons_zero, List.set_cons_succ]
    refine wpX_take (i := 15) (v := ?_) rfl rfl (by kernel_rfl) (fun _ _ _ h => h) (Or.inl ⟨rfl, fun wS hwS => ?_⟩) hXS ?_
    rotate_left
    · go_simp; try rfl
    simp only [List.set_cons_zero, List.set_cons_succ]
    refine wpX_done (by kernel_rfl) ?_
    go_wp2
    go_ret
    exact ⟨rfl, hq.below hk (by omega)⟩
end Go.Proofs.Ytkgcipgnpknbdaa
