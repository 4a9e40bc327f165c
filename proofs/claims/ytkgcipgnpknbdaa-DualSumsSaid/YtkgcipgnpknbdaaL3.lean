/- The walk of DualSums. -/
import Derived.Test.YtkgcipgnpknbdaaD5
import Derived.Test.YtkgcipgnpknbdaaL0
namespace Go.Proofs.Ytkgcipgnpknbdaa
open Go.ChangeShapes Go.WideShapes Go.ChangeAt Go.RowKit
set_option linter.unusedVariables false

set_option maxHeartbeats 1000000 in
theorem sums_long (A : Option Addr) (n cc : Nat) (a b c d : Int) (w : World) (hlen : 300 < n) :
    Calls Try.prog 5 #[.slice A n cc, .agg #[.int .u64 a, .int .u64 b], .agg #[.int .u64 c, .int .u64 d]] w fun e w' => e = .returned (.bool true) ∧ Below w.heap.size w w' := by
  have hd : (300 : Int) < (n : Int) := by omega
  go_enter Try.func5, Try.ntmps5
  go_wp2_with (go_at_call 12; refine (goes_any _).mono ?_; rintro e w1 ⟨rfl, hb⟩)
  go_ret
  exact ⟨rfl, ((KW.refl w).alloc _ |>.alloc _).on hb⟩

set_option maxHeartbeats 2000000 in
theorem sums_walk (A : Option Addr) (n cc : Nat) (v g : Nat → Int) (a b c d : Int) (w : World) (hn : n ≤ 9223372036854775807)
    (hv : ∀ k, k < n → (0 ≤ v k ∧ v k ≤ 18446744073709551615) ∧ 0 ≤ g k ∧ g k ≤ 18446744073709551615) (hr : Row2 w A n (fun k => .int .u64 (v k)) (fun k => .int .u64 (g k)))
    (ha0 : 0 ≤ a) (ha1 : a ≤ 18446744073709551615) (hb0 : 0 ≤ b) (hb1 : b ≤ 18446744073709551615) (hc0 : 0 ≤ c) (hc1 : c ≤ 18446744073709551615) (hd0 : 0 ≤ d) (hd1 : d ≤ 18446744073709551615) :
    Calls Try.prog 5 #[.slice A n cc, .agg #[.int .u64 a, .int .u64 b], .agg #[.int .u64 c, .int .u64 d]] w fun e w' => e = .returned (.bool true) ∧ Below w.heap.size w w' := by
  by_cases hlen : 300 < n
  · exact sums_long A n cc a b c d w hlen
  have HR := hid hr
  have HV := hid hv
  clear hr hv
  have HE : Hid (IntKind.u64.wrap (a + IntKind.u64.wrap (-c)) = IntKind.u64.wrap (a - c) ∧ IntKind.u64.wrap (b + IntKind.u64.wrap (-d)) = IntKind.u64.wrap (b - d)) := by
    rw [Hid, Pl.uw_addr, Pl.uw_addr]; exact ⟨by rw [Int.sub_eq_add_neg], by rw [Int.sub_eq_add_neg]⟩
  have hd : ¬ (300 : Int) < (n : Int) := by omega
  go_enter Try.func5, Try.ntmps5
  go_wp2_with fail
  refine wp_world (fun W => KW w W ∧ w.heap.size + 1 < W.heap.size ∧ W.cell? ⟨w.heap.size, 0, none⟩ = some (.int .u64 a) ∧ W.cell? ⟨w.heap.size, 1, none⟩ = some (.int .u64 b) ∧ W.cell? ⟨w.heap.size + 1, 0, none⟩ = some (.int .u64 c) ∧ W.cell? ⟨w.heap.size + 1, 1, none⟩ = some (.int .u64 d))
    ⟨by show Below _ _ _; go_grown, by simp, by go_simp, by go_simp, by go_simp, by go_simp⟩ ?_
  rintro W ⟨hk, hs, c0, c1, c2, c3⟩
  have hs0 : w.heap.size < W.heap.size := by omega
  have hr2 := hid (HR.out.below (show Below _ _ W from hk))
  have hq := KW.refl W
  refine wpX_region (S := fun w' => w'.cell? ⟨w.heap.size, 0, none⟩ = some (.int .u64 a) ∧ w'.cell? ⟨w.heap.size, 1, none⟩ = some (.int .u64 b) ∧ w'.cell? ⟨w.heap.size + 1, 0, none⟩ = some (.int .u64 c) ∧ w'.cell? ⟨w.heap.size + 1, 1, none⟩ = some (.int .u64 d)) (L := 99) (by kernel_rfl) ?_
  have hXS := And.intro c0 (And.intro c1 (And.intro c2 c3))
  refine wpX_take (i := 0) (v := ?_) rfl rfl (by kernel_rfl) (fun _ _ _ h => h) (Or.inl ⟨rfl, fun wS hwS => ?_⟩) hXS ?_
  rotate_left
  · go_simp; try rfl
  simp only [List.set_cons_zero, List.set_cons_succ]
  refine wpX_take (i := 2) (v := ?_) rfl rfl (by kernel_rfl) (fun _ _ _ h => h) (Or.inl ⟨rfl, fun wS hwS => ?_⟩) hXS ?_
  rotate_left
  · go_simp; try rfl
  simp only [List.set_cons_zero, List.set_cons_succ]
  refine wpX_hard (k := 1) (by kernel_rfl) rfl (fun K hK => ?_)
  go_simp
  (refine (dadd_any A n cc v g _ hn (by exact hr2.out)).mono ?_; rintro e w1 ⟨rfl, hb⟩; (try replace hb := undrew hb); replace hq := hq.on hb; clear hb; replace hXS := And.intro (hq.cell hs0 c0) (And.intro (hq.cell hs0 c1) (And.intro (hq.cell hs c2) (hq.cell hs c3))))
  refine hK _ _ (fun _ => hXS) ?_
  clear hK K
  try simp only [List.set_cons_zero, List.set_cons_succ]
  refine wpX_hard (k := 3) (by kernel_rfl) rfl (fun K hK => ?_)
  go_simp
  (refine (radd_any A n cc v g _ hn HV.out (hr2.out.below (show Below _ _ w1 from hq))).mono ?_; rintro e w2 ⟨rfl, hb⟩; replace hq := hq.on hb; clear hb; replace hXS := And.intro (hq.cell hs0 c0) (And.intro (hq.cell hs0 c1) (And.intro (hq.cell hs c2) (hq.cell hs c3))))
  refine hK _ _ (fun _ => hXS) ?_
  clear hK K
  try simp only [List.set_cons_zero, List.set_cons_succ]
  refine wpX_take (i := 4) (v := ?_) rfl rfl (by kernel_rfl) (fun _ _ _ h => h) (Or.inl ⟨rfl, fun wS hwS => ?_⟩) hXS ?_
  rotate_left
  · go_simp; try rfl
  simp only [List.set_cons_zero, List.set_cons_succ]
  refine wpX_take (i := 5) (v := ?_) rfl rfl (by kernel_rfl) (fun _ _ _ h => h) (Or.inl ⟨rfl, fun wS hwS => ?_⟩) hXS ?_
  rotate_left
  · go_simp; try rfl
  simp only [List.set_cons_zero, List.set_cons_succ]
  refine wpX_take (i := 6) (v := ?_) rfl rfl (by kernel_rfl) (fun _ _ _ h => h) (Or.inl ⟨rfl, fun wS hwS => ?_⟩) hXS ?_
  rotate_left
  · go_simp; try rfl
  simp only [List.set_cons_zero, List.set_cons_succ]
  refine wpX_take (i := 7) (v := ?_) rfl rfl (by kernel_rfl) (fun _ _ _ h => h) (Or.inl ⟨rfl, fun wS hwS => ?_⟩) hXS ?_
  rotate_left
  · go_simp; try rfl
  simp only [List.set_cons_zero, List.set_cons_succ]
  refine wpX_take (i := 9) (v := ?_) rfl rfl (by kernel_rfl) (fun _ _ _ h => h) (Or.inl ⟨rfl, fun wS hwS => ?_⟩) hXS ?_
  rotate_left
  · go_simp; try rfl
  simp only [List.set_cons_zero, List.set_cons_succ]
  refine wpX_take (i := 10) (v := ?_) rfl rfl (by kernel_rfl) (fun _ _ _ h => h) (Or.inl ⟨rfl, fun wS hwS => ?_⟩) hXS ?_
  rotate_left
  · go_simp; try rfl
  simp only [List.set_cons_zero, List.set_cons_succ]
  refine wpX_hard (k := 8) (by kernel_rfl) rfl (fun K hK => ?_)
  go_simp
  (refine (dsub_any a b c d _).mono ?_; rintro e w3 ⟨rfl, hb⟩; replace hq := hq.on hb; clear hb; replace hXS := And.intro (hq.cell hs0 c0) (And.intro (hq.cell hs0 c1) (And.intro (hq.cell hs c2) (hq.cell hs c3))))
  refine hK _ _ (fun _ => hXS) ?_
  clear hK K
  try simp only [List.set_cons_zero, List.set_cons_succ]
  refine wpX_hard (k := 11) (by kernel_rfl) rfl (fun K hK => ?_)
  go_simp
  (refine (dneg_any c d hc0 hc1 hd0 hd1 _).mono ?_; rintro e w4 ⟨rfl, hb⟩; replace hq := hq.on hb; clear hb; replace hXS := And.intro (hq.cell hs0 c0) (And.intro (hq.cell hs0 c1) (And.intro (hq.cell hs c2) (hq.cell hs c3))))
  refine hK _ _ (fun _ => hXS) ?_
  clear hK K
  try simp only [List.set_cons_zero, List.set_cons_succ]
  refine wpX_hard (k := 12) (by kernel_rfl) rfl (fun K hK => ?_)
  go_simp
  (refine (dplus_any a b _ _ ha0 ha1 hb0 hb1 (Pl.uw_nn _) (Pl.uw_le _) (Pl.uw_nn _) (Pl.uw_le _) _).mono ?_; rw [HE.out.1, HE.out.2]; rintro e w5 ⟨rfl, hb⟩; replace hq := hq.on hb; clear hb; replace hXS := And.intro (hq.cell hs0 c0) (And.intro (hq.cell hs0 c1) (And.intro (hq.cell hs c2) (hq.cell hs c3))))
  refine hK _ _ (fun _ => hXS) ?_
  clear hK K
  try simp only [List.set_cons_zero, List.set_cons_succ]
  refine wpX_take (i := 13) (v := ?_) rfl rfl (by kernel_rfl) (fun _ _ _ h => h) (Or.inl ⟨rfl, fun wS hwS => ?_⟩) hXS ?_
  rotate_left
  · go_simp; try rfl
  simp only [List.set_cons_zero, List.set_cons_succ]
  refine wpX_take (i := 14) (v := ?_) rfl rfl (by kernel_rfl) (fun _ _ _ h => h) (Or.inl ⟨rfl, fun wS hwS => ?_⟩) hXS ?_
  rotate_left
  · go_simp; try rfl
  simp only [List.set_cons_zero, List.set_cons_succ]
  refine wpX_take (i := 15) (v := ?_) rfl rfl (by kernel_rfl) (fun _ _ _ h => h) (Or.inl ⟨rfl, fun wS hwS => ?_⟩) hXS ?_
  rotate_left
  · go_simp; try rfl
  simp only [List.set_cons_zero, List.set_cons_succ]
  refine wpX_take (i := 16) (v := ?_) rfl rfl (by kernel_rfl) (fun _ _ _ h => h) (Or.inl ⟨rfl, fun wS hwS => ?_⟩) hXS ?_
  rotate_left
  · go_simp; try rfl
  simp only [List.set_cons_zero, List.set_cons_succ]
  refine wpX_take (i := 18) (v := ?_) rfl rfl (by kernel_rfl) (fun _ _ _ h => h) (Or.inl ⟨rfl, fun wS hwS => ?_⟩) hXS ?_
  rotate_left
  · go_simp; try rfl
  simp only [List.set_cons_zero, List.set_cons_succ]
  refine wpX_hard (k := 17) (by kernel_rfl) rfl (fun K hK => ?_)
  go_simp
  (refine (neg2_any a b _).mono ?_; rintro e w6 ⟨rfl, hb⟩; replace hq := hq.on hb; clear hb; replace hXS := And.intro (hq.cell hs0 c0) (And.intro (hq.cell hs0 c1) (And.intro (hq.cell hs c2) (hq.cell hs c3))))
  refine hK _ _ (fun _ => hXS) ?_
  clear hK K
  try simp only [List.set_cons_zero, List.set_cons_succ]
  refine wpX_hard (k := 19) (by kernel_rfl) rfl (fun K hK => ?_)
  go_simp
  (refine (dneg_any a b ha0 ha1 hb0 hb1 _).mono ?_; rintro e w7 ⟨rfl, hb⟩; replace hq := hq.on hb; clear hb; replace hXS := And.intro (hq.cell hs0 c0) (And.intro (hq.cell hs0 c1) (And.intro (hq.cell hs c2) (hq.cell hs c3))))
  refine hK _ _ (fun _ => hXS) ?_
  clear hK K
  try simp only [List.set_cons_zero, List.set_cons_succ]
  refine wpX_take (i := 20) (v := ?_) rfl rfl (by kernel_rfl) (fun _ _ _ h => h) (Or.inl ⟨rfl, fun wS hwS => ?_⟩) hXS ?_
  rotate_left
  · go_simp; try rfl
  simp only [List.set_cons_zero, List.set_cons_succ]
  refine wpX_take (i := 21) (v := ?_) rfl rfl (by kernel_rfl) (fun _ _ _ h => h) (Or.inl ⟨rfl, fun wS hwS => ?_⟩) hXS ?_
  rotate_left
  · go_simp; try rfl
  simp only [List.set_cons_zero, List.set_cons_succ]
  refine wpX_take (i := 22) (v := ?_) rfl rfl (by kernel_rfl) (fun _ _ _ h => h) (Or.inl ⟨rfl, fun wS hwS => ?_⟩) hXS ?_
  rotate_left
  · go_simp; try rfl
  simp only [List.set_cons_zero, List.set_cons_succ]
  refine wpX_take (i := 23) (v := ?_) rfl rfl (by kernel_rfl) (fun _ _ _ h => h) (Or.inl ⟨rfl, fun wS hwS => ?_⟩) hXS ?_
  rotate_left
  · go_simp; try rfl
  simp only [List.set_cons_zero, List.set_cons_succ]
  refine wpX_take (i := 24) (v := ?_) rfl rfl (by kernel_rfl) (fun _ _ _ h => h) (Or.inl ⟨rfl, fun wS hwS => ?_⟩) hXS ?_
  rotate_left
  · go_simp; try rfl
  simp only [List.set_cons_zero, List.set_cons_succ]
  refine wpX_take (i := 26) (v := ?_) rfl rfl (by kernel_rfl) (fun _ _ _ h => h) (Or.inl ⟨rfl, fun wS hwS => ?_⟩) hXS ?_
  rotate_left
  · go_simp; try rfl
  simp only [List.set_cons_zero, List.set_cons_succ]
  refine wpX_take (i := 27) (v := ?_) rfl rfl (by kernel_rfl) (fun _ _ _ h => h) (Or.inl ⟨rfl, fun wS hwS => ?_⟩) hXS ?_
  rotate_left
  · go_simp; try rfl
  simp only [List.set_cons_zero, List.set_cons_succ]
  refine wpX_take (i := 28) (v := ?_) rfl rfl (by kernel_rfl) (fun _ _ _ h => h) (Or.inl ⟨rfl, fun wS hwS => ?_⟩) hXS ?_
  rotate_left
  · go_simp; try rfl
  simp only [List.set_cons_zero, List.set_cons_succ]
  refine wpX_hard (k := 25) (by kernel_rfl) rfl (fun K hK => ?_)
  go_simp
  (refine (const_any a _).mono ?_; rintro e w8 ⟨rfl, hb⟩; replace hq := hq.on hb; clear hb; replace hXS := And.intro (hq.cell hs0 c0) (And.intro (hq.cell hs0 c1) (And.intro (hq.cell hs c2) (hq.cell hs c3))))
  refine hK _ _ (fun _ => hXS) ?_
  clear hK K
  try simp only [List.set_cons_zero, List.set_cons_succ]
  refine wpX_take (i := 29) (v := ?_) rfl rfl (by kernel_rfl) (fun _ _ _ h => h) (Or.inl ⟨rfl, fun wS hwS => ?_⟩) hXS ?_
  rotate_left
  · go_simp; try rfl
  simp only [List.set_cons_zero, List.set_cons_succ]
  refine wpX_take (i := 30) (v := ?_) rfl rfl (by kernel_rfl) (fun _ _ _ h => h) (Or.inl ⟨rfl, fun wS hwS => ?_⟩) hXS ?_
  rotate_left
  · go_simp; try rfl
  simp only [List.set_cons_zero, List.set_cons_succ]
  refine wpX_take (i := 31) (v := ?_) rfl rfl (by kernel_rfl) (fun _ _ _ h => h) (Or.inl ⟨rfl, fun wS hwS => ?_⟩) hXS ?_
  rotate_left
  · go_simp; try rfl
  simp only [List.set_cons_zero, List.set_cons_succ]
  refine wpX_take (i := 32) (v := ?_) rfl rfl (by kernel_rfl) (fun _ _ _ h => h) (Or.inl ⟨rfl, fun wS hwS => ?_⟩) hXS ?_
  rotate_left
  · go_simp; try rfl
  simp only [List.set_cons_zero, List.set_cons_succ]
  refine wpX_take (i := 33) (v := ?_) rfl rfl (by kernel_rfl) (fun _ _ _ h => h) (Or.inl ⟨rfl, fun wS hwS => ?_⟩) hXS ?_
  rotate_left
  · go_simp; try rfl
  simp only [List.set_cons_zero, List.set_cons_succ]
  refine wpX_take (i := 35) (v := ?_) rfl rfl (by kernel_rfl) (fun _ _ _ h => h) (Or.inl ⟨rfl, fun wS hwS => ?_⟩) hXS ?_
  rotate_left
  · go_simp; try rfl
  simp only [List.set_cons_zero, List.set_cons_succ]
  refine wpX_take (i := 36) (v := ?_) rfl rfl (by kernel_rfl) (fun _ _ _ h => h) (Or.inl ⟨rfl, fun wS hwS => ?_⟩) hXS ?_
  rotate_left
  · go_simp; try rfl
  simp only [List.set_cons_zero, List.set_cons_succ]
  refine wpX_take (i := 37) (v := ?_) rfl rfl (by kernel_rfl) (fun _ _ _ h => h) (Or.inl ⟨rfl, fun wS hwS => ?_⟩) hXS ?_
  rotate_left
  · go_simp; try rfl
  simp only [List.set_cons_zero, List.set_cons_succ]
  refine wpX_hard (k := 34) (by kernel_rfl) rfl (fun K hK => ?_)
  go_simp
  (refine (var_any a _).mono ?_; rintro e w9 ⟨rfl, hb⟩; replace hq := hq.on hb; clear hb; replace hXS := And.intro (hq.cell hs0 c0) (And.intro (hq.cell hs0 c1) (And.intro (hq.cell hs c2) (hq.cell hs c3))))
  refine hK _ _ (fun _ => hXS) ?_
  clear hK K
  try simp only [List.set_cons_zero, List.set_cons_succ]
  refine wpX_take (i := 38) (v := ?_) rfl rfl (by kernel_rfl) (fun _ _ _ h => h) (Or.inl ⟨rfl, fun wS hwS => ?_⟩) hXS ?_
  rotate_left
  · go_simp; try rfl
  simp only [List.set_cons_zero, List.set_cons_succ]
  refine wpX_take (i := 39) (v := ?_) rfl rfl (by kernel_rfl) (fun _ _ _ h => h) (Or.inl ⟨rfl, fun wS hwS => ?_⟩) hXS ?_
  rotate_left
  · go_simp; try rfl
  simp only [List.set_cons_zero, List.set_cons_succ]
  refine wpX_take (i := 40) (v := ?_) rfl rfl (by kernel_rfl) (fun _ _ _ h => h) (Or.inl ⟨rfl, fun wS hwS => ?_⟩) hXS ?_
  rotate_left
  · go_simp; try rfl
  simp only [List.set_cons_zero, List.set_cons_succ]
  refine wpX_hard (k := 41) (by kernel_rfl) rfl (fun K hK => ?_)
  go_simp
  (refine (goes_any _).mono ?_; rintro e wa ⟨rfl, hb⟩; replace hq := hq.on hb; clear hb; replace hXS := And.intro (hq.cell hs0 c0) (And.intro (hq.cell hs0 c1) (And.intro (hq.cell hs c2) (hq.cell hs c3))))
  refine hK _ _ (fun _ => hXS) ?_
  clear hK K
  try simp only [List.set_cons_zero, List.set_cons_succ]
  refine wpX_take (i := 42) (v := ?_) rfl rfl (by kernel_rfl) (fun _ _ _ h => h) (Or.inl ⟨rfl, fun wS hwS => ?_⟩) hXS ?_
  rotate_left
  · go_simp; try rfl
  simp only [List.set_cons_zero, List.set_cons_succ]
  refine wpX_take (i := 43) (v := ?_) rfl rfl (by kernel_rfl) (fun _ _ _ h => h) (Or.inl ⟨rfl, fun wS hwS => ?_⟩) hXS ?_
  rotate_left
  · go_simp; try rfl
  simp only [List.set_cons_zero, List.set_cons_succ]
  refine wpX_done (by kernel_rfl) ?_
  go_wp2
  go_ret
  exact ⟨rfl, hq.below hk (by omega)⟩
end Go.Proofs.Ytkgcipgnpknbdaa
