/- Contract of the reference's Same, at two alike. -/
import Derived.Test.YtkdamcacmecnaaaS11
import Derived.ChangeKeysEq
namespace Go.Proofs.Ytkdamcacmecnaaa
open Go.ChangeShapes Go.WideShapes Go.ChangeAt Go.RowKit
set_option linter.unusedVariables false

theorem ten_neq (w : World) (a0 a1 a2 a3 a4 a5 a6 a7 a8 a9 : Int) : (binOp .neq 33 (.agg #[.int .i64 a0, .int .i64 a1, .int .i64 a2, .int .i64 a3, .int .i64 a4, .int .i64 a5, .int .i64 a6, .int .i64 a7, .int .i64 a8, .int .i64 a9]) (.agg #[.int .i64 a0, .int .i64 a1, .int .i64 a2, .int .i64 a3, .int .i64 a4, .int .i64 a5, .int .i64 a6, .int .i64 a7, .int .i64 a8, .int .i64 a9])).run Try.prog w = .ok (.bool false) w := by
  have u3 := Try.underlying3
  have a3 := Try.isAgg3
  have z3 := Try.sizeOf3
  obtain ⟨i, hi⟩ : ∃ i, Try.prog.info? 3 = some i := Option.isSome_iff_exists.1 (by kernel_rfl)
  have hc : Try.prog.cellsOf 3 = 1 := by kernel_rfl
  rw [run_neq_struct, show (10000 : Nat) = 9999 + 1 from rfl, run_equalIn_array w 9999 _ _ Try.underlying33 hi, hc]
  rw [show List.range 10 = [0, 1, 2, 3, 4, 5, 6, 7, 8, 9] from rfl]
  simp only [Op.eqItems]
  go_simp

set_option maxRecDepth 100000 in
set_option maxHeartbeats 2000000 in
theorem rsame32_any (tot pk most k0 k1 k2 k3 k4 k5 k6 k7 k8 k9 : Int) (s1 s2 : Value) (st : List Int) (w : World) (hl : st.length ≤ 1099511627776) (h1 : IW w s1 st) (h2 : IW w s2 st) :
    Calls Try.prog 20 #[.agg #[.int .i64 tot, .int .i64 pk, .int .i64 most, .int .i64 k0, .int .i64 k1, .int .i64 k2, .int .i64 k3, .int .i64 k4, .int .i64 k5, .int .i64 k6, .int .i64 k7, .int .i64 k8, .int .i64 k9, s1], .agg #[.int .i64 tot, .int .i64 pk, .int .i64 most, .int .i64 k0, .int .i64 k1, .int .i64 k2, .int .i64 k3, .int .i64 k4, .int .i64 k5, .int .i64 k6, .int .i64 k7, .int .i64 k8, .int .i64 k9, s2]] w fun e w' => e = .returned (.bool true) ∧ KW w w' := by
  obtain ⟨A1, c1, rfl, hr1⟩ := h1
  obtain ⟨A2, c2, rfl, hr2⟩ := h2
  have H1 := hid hr1
  have H2 := hid hr2
  have HT := hid (fun W => ten_neq W k0 k1 k2 k3 k4 k5 k6 k7 k8 k9)
  clear hr1 hr2
  generalize st.length = N at *
  have hT := HT.out
  go_enter Try.func20, Try.ntmps20
  go_wp2_with fail
  clear hT
  refine wpCode_world (fun W => KW w W ∧ w.heap.size + 1 < W.heap.size ∧ W.cell? ⟨w.heap.size, 13, none⟩ = some (.slice A1 N c1) ∧ W.cell? ⟨w.heap.size + 1, 13, none⟩ = some (.slice A2 N c2)) ⟨((KW.refl w).alloc _).alloc _, by simp, by go_simp, by go_simp⟩ ?_
  rintro W1 ⟨hk, hs, h0, h1⟩
  have HK := hid hk
  have HS := hid hs
  have H01 := hid (And.intro h0 h1)
  clear hk hs h0 h1
  go_loopw [5] (fun i wr => ∃ k : Nat, k ≤ N ∧ i = .int .i64 k ∧ Hid (KW W1 wr)) (fun i _ => N - (intOf i).toNat)
  case atStart => exact ⟨0, by omega, rfl, KW.refl W1⟩
  case round =>
    obtain ⟨k, hk, rfl, HK1⟩ := hrel
    have b0 := KW.cell HK1.out (Nat.lt_of_succ_lt HS.out) H01.out.1
    have b1 := KW.cell HK1.out HS.out H01.out.2
    by_cases hlt : k < N
    · obtain ⟨q1, o1, rfl, hq1, hc1⟩ := (H1.out.k (HK.out.t HK1.out)).at_ hlt
      obtain ⟨q2, o2, rfl, hq2, hc2⟩ := (H2.out.k (HK.out.t HK1.out)).at_ hlt
      generalize st.getD k 0 = x at *
      have L5 : (k : Int) < (N : Int) := by omega
      go_wp2_with fail
      have hXS := And.intro b0 (And.intro b1 (And.intro hc1 hc2))
      refine wpX_region (S := fun w' => w'.cell? ⟨w.heap.size, 13, none⟩ = some (.slice (some ⟨q1, o1, none⟩) N c1) ∧ w'.cell? ⟨w.heap.size + 1, 13, none⟩ = some (.slice (some ⟨q2, o2, none⟩) N c2) ∧ w'.cell? ⟨q1, o1 + k, none⟩ = some (.int .i64 x) ∧ w'.cell? ⟨q2, o2 + k, none⟩ = some (.int .i64 x)) (L := 99) (by kernel_rfl) ?_
      refine wpX_take (i := 0) (v := ?_) rfl rfl (by kernel_rfl) (fun _ _ _ h => h) (Or.inl ⟨rfl, fun wS hwS => ?_⟩) hXS ?_
      rotate_left
      · go_simp; try rfl
      simp only [List.set_cons_zero, List.set_cons_succ]
      refine wpX_take (i := 1) (v := ?_) rfl rfl (by kernel_rfl) (fun _ _ _ h => h) (Or.inl ⟨rfl, fun wS hwS => ?_⟩) hXS ?_
      rotate_left
      · go_simp; try rfl
      simp only [List.set_cons_zero, List.set_cons_succ]
      refine wpX_take (i := 2) (v := ?_) rfl rfl (by kernel_rfl) (fun _ _ _ h => h) (Or.inl ⟨rfl, fun wS hwS => ?_⟩) hXS ?_
      rotate_left
      · go_simp; try rfl
      simp only [List.set_cons_zero, List.set_cons_succ]
      refine wpX_take (i := 3) (v := ?_) rfl rfl (by kernel_rfl) (fun _ _ _ h => h) (Or.inl ⟨rfl, fun wS hwS => ?_⟩) hXS ?_
      rotate_left
      · go_simp; try rfl
      simp only [List.set_cons_zero, List.set_cons_succ]
      refine wpX_take (i := 4) (v := ?_) rfl rfl (by kernel_rfl) (fun _ _ _ h => h) (Or.inl ⟨rfl, fun wS hwS => ?_⟩) hXS ?_
      rotate_left
      · go_simp; try rfl
      simp only [List.set_cons_zero, List.set_cons_succ]
      refine wpX_take (i := 5) (v := ?_) rfl rfl (by kernel_rfl) (fun _ _ _ h => h) (Or.inl ⟨rfl, fun wS hwS => ?_⟩) hXS ?_
      rotate_left
      · go_simp; try rfl
      simp only [List.set_cons_zero, List.set_cons_succ]
      refine wpX_take (i := 6) (v := ?_) rfl rfl (by kernel_rfl) (fun _ _ _ h => h) (Or.inl ⟨rfl, fun wS hwS => ?_⟩) hXS ?_
      rotate_left
      · go_simp; try rfl
      simp only [List.set_cons_zero, List.set_cons_succ]
      refine wpX_take (i := 7) (v := ?_) rfl rfl (by kernel_rfl) (fun _ _ _ h => h) (Or.inl ⟨rfl, fun wS hwS => ?_⟩) hXS ?_
      rotate_left
      · go_simp; try rfl
      simp only [List.set_cons_zero, List.set_cons_succ]
      refine wpX_take (i := 8) (v := ?_) rfl rfl (by kernel_rfl) (fun _ _ _ h => h) (Or.inl ⟨rfl, fun wS hwS => ?_⟩) hXS ?_
      rotate_left
      · go_simp; try rfl
      simp only [List.set_cons_zero, List.set_cons_succ]
      refine wpX_take (i := 9) (v := ?_) rfl rfl (by kernel_rfl) (fun _ _ _ h => h) (Or.inl ⟨rfl, fun wS hwS => ?_⟩) hXS ?_
      rotate_left
      · go_simp; try rfl
      simp only [List.set_cons_zero, List.set_cons_succ]
      refine wpX_take (i := 10) (v := ?_) rfl rfl (by kernel_rfl) (fun _ _ _ h => h) (Or.inl ⟨rfl, fun wS hwS => ?_⟩) hXS ?_
      rotate_left
      · go_simp; try rfl
      simp only [List.set_cons_zero, List.set_cons_succ]
      refine wpX_done (by kernel_rfl) ?_
      go_wp2_with fail
      go_roundw
      case rel => exact ⟨k + 1, by omega, by go_num, HK1.out.drew⟩
      case measure => simp [intOf]; omega
    · have HQ := hid (show k = N by omega)
      have D1 : decide (k < N) = false := decide_eq_false hlt
      clear hlt
      go_wp2_with fail
      go_ret
      exact ⟨rfl, HK.out.t HK1.out⟩
end Go.Proofs.Ytkdamcacmecnaaa
