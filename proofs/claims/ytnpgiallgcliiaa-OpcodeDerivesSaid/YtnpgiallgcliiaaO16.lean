/- The walk of OpcodeDoes. -/
import Derived.Test.YtnpgiallgcliiaaO15
import Derived.Test.YtnpgiallgcliiaaRowO
namespace Go.Proofs.Ytnpgiallgcliiaa
open Go.ChangeShapes Go.WideShapes Go.ChangeAt Go.RowKit
set_option linter.unusedVariables false
theorem b4_0 (x y z t : Bool) (W : World) : (Instr.index 53 (.agg #[.bool x, .bool y, .bool z, .bool t]) (.int .i64 0)).run Try.prog W = .ok (.bool x) W := by kernel_rfl
theorem rl07_len (k a b : Int) : (rl07 k a b).length ≤ 2 := by unfold rl07; split <;> split <;> simp
set_option maxRecDepth 100000 in
set_option maxHeartbeats 4000000 in
theorem does_law (k d ra rb v a b : Int) (w : World) (_ : i64ok k) (_ : i64ok d) (_ : i64ok ra) (_ : i64ok rb) (v0 : 0 ≤ v) (v1 : v ≤ 18446744073709551615) (a0 : 0 ≤ a) (a1 : a ≤ 18446744073709551615) (b0 : 0 ≤ b) (b1 : b ≤ 18446744073709551615) :
    Calls Try.prog 10 #[.agg (opv k d ra rb v), .int .u64 a, .int .u64 b] w fun e w' => e = .returned (.bool true) ∧ KW w w' := by
  have HG := hid (fun W => goes07_any W)
  have HW := hid (fun W => writes_any k d ra rb v W)
  have HA := hid (fun W => asks_any k W)
  have HP1 := hid (fun W => opart_any k d ra rb v a b W)
  have HP2 := hid (fun W => rpart_any k d ra rb v a b W)
  have HA1 := hid (fun W => oapply_any k d ra rb v a b W)
  have HA2 := hid (fun W => rapply_any k d ra rb v a b W a0 a1 b0 b1)
  have HR1 := hid (fun W => oreads_any k d ra rb v W)
  have HR2 := hid (fun W => rreads_any k d ra rb v W)
  have HI := hid (fun v1 v2 W (h1 : IW W v1 (rl07 k ra rb)) (h2 : IW W v2 (rl07 k ra rb)) => ints07_any v1 v2 _ _ W h1 h2 (by have := rl07_len k ra rb; omega))
  simp only [decide_true] at HI
  have hop := opv_row' w k d ra rb v
  have hk := (KW.refl w).alloc (.cells (opv k d ra rb v) 24)
  have hx := b4_0
  unfold ReadsP at HR1 HR2
  unfold opv at *
  unfold akv at HA
  have HOp := hid hop
  have HK := hid hk
  clear hop hk
  generalize Oc.pda k a b = p1 at *
  generalize Oc.pdb k a b = p2 at *
  generalize Oc.app k a b v = ap at *
  generalize rl07 k ra rb = rl at *
  generalize Oc.aD k = xd at *
  generalize Oc.aA k = xa at *
  generalize Oc.aB k = xb at *
  generalize Oc.aV k = xv at *
  have HDD : ∃ dd, dd = (if xd = true then d else 0) := ⟨_, rfl⟩
  obtain ⟨dd, hdd⟩ := HDD
  rw [← hdd] at HW
  have HD := hid hdd
  clear hdd
  go_enter Try.func10, Try.ntmps10
  go_wp2_with fail
  refine (HW.out _).mono ?_
  rintro e w1 ⟨rfl, h1⟩
  have HO1 := hid (KW.row h1 HOp.out.lt HOp.out)
  have HK1 := hid (HK.out.t h1)
  have s0 := HO1.out.cell (i := 0) (by omega)
  simp only [List.getD_cons_zero] at s0
  clear h1 HOp HK
  go_wp2_with fail
  refine (HA.out _).mono ?_
  rintro e w2 ⟨rfl, h2⟩
  have HO2 := hid (KW.row h2 HO1.out.lt HO1.out)
  have HK2 := hid (HK1.out.t h2)
  have s0' := HO2.out.cell (i := 0) (by omega)
  have s1 := HO2.out.cell (i := 1) (by omega)
  have s2 := HO2.out.cell (i := 2) (by omega)
  have s3 := HO2.out.cell (i := 3) (by omega)
  have s4 := HO2.out.cell (i := 4) (by omega)
  simp only [List.getD_cons_succ, List.getD_cons_zero] at s0' s1 s2 s3 s4
  clear h2 HO1 HK1 s0
  cases xd with
  | true =>
    obtain rfl : d = dd := HD.out.symm
    clear HD
    go_wp2_with fail
    refine (HP1.out _).mono ?_
    rintro e w3 ⟨rfl, h3⟩
    have HO3 := hid (KW.row h3 HO2.out.lt HO2.out)
    have HK3 := hid (HK2.out.t h3)
    have t0 := HO3.out.cell (i := 0) (by omega)
    have t1 := HO3.out.cell (i := 1) (by omega)
    have t2 := HO3.out.cell (i := 2) (by omega)
    have t3 := HO3.out.cell (i := 3) (by omega)
    have t4 := HO3.out.cell (i := 4) (by omega)
    simp only [List.getD_cons_succ, List.getD_cons_zero] at t0 t1 t2 t3 t4
    clear h3 HO2 HK2 s0' s1 s2 s3 s4
    go_wp2_with fail
    refine (HP2.out _).mono ?_
    rintro e w4 ⟨rfl, h4⟩
    have HO4 := hid (KW.row h4 HO3.out.lt HO3.out)
    have HK4 := hid (HK3.out.t h4)
    clear h4 HO3 HK3 t0 t1 t2 t3 t4
    go_wp2_with fail
    have HSS := hid (fun W (h : KW w4 W) => And.intro (KW.cell h HO4.out.lt (HO4.out.cell (i := 0) (by omega))) (And.intro (KW.cell h HO4.out.lt (HO4.out.cell (i := 1) (by omega))) (And.intro (KW.cell h HO4.out.lt (HO4.out.cell (i := 2) (by omega))) (And.intro (KW.cell h HO4.out.lt (HO4.out.cell (i := 3) (by omega))) (KW.cell h HO4.out.lt (HO4.out.cell (i := 4) (by omega)))))))
    simp only [List.getD_cons_succ, List.getD_cons_zero] at HSS
    have hXS := HSS.out _ (KW.refl w4).drew
    refine wpX_region (S := fun w' => w'.cell? ⟨w.heap.size, 0, none⟩ = some (.int .i64 k) ∧ w'.cell? ⟨w.heap.size, 1, none⟩ = some (.int .i64 d) ∧ w'.cell? ⟨w.heap.size, 2, none⟩ = some (.int .i64 ra) ∧ w'.cell? ⟨w.heap.size, 3, none⟩ = some (.int .i64 rb) ∧ w'.cell? ⟨w.heap.size, 4, none⟩ = some (.int .u64 v)) (L := 99) (by kernel_rfl) ?_
    refine wpX_take (i := 0) (v := ?_) rfl rfl (by kernel_rfl) (fun _ _ _ h => h) (Or.inl ⟨rfl, fun wS hwS => ?_⟩) hXS ?_
    rotate_left
    · go_simp; try rfl
    simp only [List.set_cons_zero, List.set_cons_succ]
    refine wpX_take (i := 2) (v := ?_) rfl rfl (by kernel_rfl) (fun _ _ _ h => h) (Or.inl ⟨rfl, fun wS hwS => ?_⟩) hXS ?_
    rotate_left
    · go_simp; try rfl
    simp only [List.set_cons_zero, List.set_cons_succ]
    clear hXS
    refine wpX_hard (k := 1) (by kernel_rfl) rfl (fun K hK => ?_)
    go_simp
    refine (HR1.out _).mono ?_; rintro e v5 ⟨u5, rfl, hi5, hb⟩; have HB5 := hid ((KW.refl w4).drew.t hb); have HI5 := hid hi5; clear hb hi5
    refine hK _ _ (fun _ => HSS.out _ HB5.out) ?_
    clear hK K
    try simp only [List.set_cons_zero, List.set_cons_succ]
    refine wpX_hard (k := 3) (by kernel_rfl) rfl (fun K hK => ?_)
    go_simp
    refine (HR2.out _).mono ?_; rintro e v6 ⟨u6, rfl, hi6, hb⟩; have HB6 := hid (HB5.out.t hb); have HI6 := hid hi6; have HI56 := hid (HI5.out.kw hb); clear hb hi6
    refine hK _ _ (fun _ => HSS.out _ HB6.out) ?_
    clear hK K
    try simp only [List.set_cons_zero, List.set_cons_succ]
    refine wpX_hard (k := 4) (by kernel_rfl) rfl (fun K hK => ?_)
    go_simp
    refine (HI.out _ _ _ HI56.out HI6.out).mono ?_; rintro e v7 ⟨rfl, hb⟩; have HB7 := hid (HB6.out.t hb); clear hb
    refine hK _ _ (fun _ => HSS.out _ HB7.out) ?_
    clear hK K
    try simp only [List.set_cons_zero, List.set_cons_succ]
    have hXS := HSS.out _ HB7.out
    refine wpX_take (i := 5) (v := ?_) rfl rfl (by kernel_rfl) (fun _ _ _ h => h) (Or.inl ⟨rfl, fun wS hwS => ?_⟩) hXS ?_
    rotate_left
    · go_simp; try rfl
    simp only [List.set_cons_zero, List.set_cons_succ]
    refine wpX_take (i := 6) (v := ?_) rfl rfl (by kernel_rfl) (fun _ _ _ h => h) (Or.inl ⟨rfl, fun wS hwS => ?_⟩) hXS ?_
    rotate_left
    · go_simp; try rfl
    simp only [List.set_cons_zero, List.set_cons_succ]
    refine wpX_take (i := 7) (v := ?_) rfl rfl (by kernel_rfl) (fun _ _ _ h => h) (Or.inl ⟨rfl, fun wS hwS => ?_⟩) hXS ?_
    rotate_left
    · go_simp; try rfl
    simp only [List.set_cons_zero, List.set_cons_succ]
    refine wpX_take (i := 8) (v := ?_) rfl rfl (by kernel_rfl) (fun _ _ _ h => h) (Or.inl ⟨rfl, fun wS hwS => ?_⟩) hXS ?_
    rotate_left
    · go_simp; try rfl
    simp only [List.set_cons_zero, List.set_cons_succ]
    refine wpX_take (i := 10) (v := ?_) rfl rfl (by kernel_rfl) (fun _ _ _ h => h) (Or.inl ⟨rfl, fun wS hwS => ?_⟩) hXS ?_
    rotate_left
    · go_simp; try rfl
    simp only [List.set_cons_zero, List.set_cons_succ]
    refine wpX_take (i := 11) (v := ?_) rfl rfl (by kernel_rfl) (fun _ _ _ h => h) (Or.inl ⟨rfl, fun wS hwS => ?_⟩) hXS ?_
    rotate_left
    · go_simp; try rfl
    simp only [List.set_cons_zero, List.set_cons_succ]
    refine wpX_take (i := 12) (v := ?_) rfl rfl (by kernel_rfl) (fun _ _ _ h => h) (Or.inl ⟨rfl, fun wS hwS => ?_⟩) hXS ?_
    rotate_left
    · go_simp; try rfl
    simp only [List.set_cons_zero, List.set_cons_succ]
    clear hXS
    refine wpX_hard (k := 9) (by kernel_rfl) rfl (fun K hK => ?_)
    go_simp
    refine (HA1.out _).mono ?_; rintro e v8 ⟨rfl, hb⟩; have HB8 := hid (HB7.out.t hb); clear hb
    refine hK _ _ (fun _ => HSS.out _ HB8.out) ?_
    clear hK K
    try simp only [List.set_cons_zero, List.set_cons_succ]
    refine wpX_hard (k := 13) (by kernel_rfl) rfl (fun K hK => ?_)
    go_simp
    refine (HA2.out _).mono ?_; rintro e v9 ⟨rfl, hb⟩; have HB9 := hid (HB8.out.t hb); clear hb
    refine hK _ _ (fun _ => HSS.out _ HB9.out) ?_
    clear hK K
    try simp only [List.set_cons_zero, List.set_cons_succ]
    have hXS := HSS.out _ HB9.out
    refine wpX_take (i := 14) (v := ?_) rfl rfl (by kernel_rfl) (fun _ _ _ h => h) (Or.inl ⟨rfl, fun wS hwS => ?_⟩) hXS ?_
    rotate_left
    · go_simp; try rfl
    simp only [List.set_cons_zero, List.set_cons_succ]
    refine wpX_take (i := 15) (v := ?_) rfl rfl (by kernel_rfl) (fun _ _ _ h => h) (Or.inl ⟨rfl, fun wS hwS => ?_⟩) hXS ?_
    rotate_left
    · go_simp; try rfl
    simp only [List.set_cons_zero, List.set_cons_succ]
    refine wpX_take (i := 16) (v := ?_) rfl rfl (by kernel_rfl) (fun _ _ _ h => h) (Or.inl ⟨rfl, fun wS hwS => ?_⟩) hXS ?_
    rotate_left
    · go_simp; try rfl
    simp only [List.set_cons_zero, List.set_cons_succ]
    refine wpX_take (i := 17) (v := ?_) rfl rfl (by kernel_rfl) (fun _ _ _ h => h) (Or.inl ⟨rfl, fun wS hwS => ?_⟩) hXS ?_
    rotate_left
    · go_simp; try rfl
    simp only [List.set_cons_zero, List.set_cons_succ]
    refine wpX_take (i := 18) (v := ?_) rfl rfl (by kernel_rfl) (fun _ _ _ h => h) (Or.inl ⟨rfl, fun wS hwS => ?_⟩) hXS ?_
    rotate_left
    · go_simp; try rfl
    simp only [List.set_cons_zero, List.set_cons_succ]
    refine wpX_take (i := 19) (v := ?_) rfl rfl (by kernel_rfl) (fun _ _ _ h => h) (Or.inl ⟨rfl, fun wS hwS => ?_⟩) hXS ?_
    rotate_left
    · go_simp; try rfl
    simp only [List.set_cons_zero, List.set_cons_succ]
    refine wpX_take (i := 20) (v := ?_) rfl rfl (by kernel_rfl) (fun _ _ _ h => h) (Or.inl ⟨rfl, fun wS hwS => ?_⟩) hXS ?_
    rotate_left
    · go_simp; try rfl
    simp only [List.set_cons_zero, List.set_cons_succ]
    refine wpX_take (i := 21) (v := ?_) rfl rfl (by kernel_rfl) (fun _ _ _ h => h) (Or.inl ⟨rfl, fun wS hwS => ?_⟩) hXS ?_
    rotate_left
    · go_simp; try rfl
    simp only [List.set_cons_zero, List.set_cons_succ]
    refine wpX_take (i := 22) (v := ?_) rfl rfl (by kernel_rfl) (fun _ _ _ h => h) (Or.inl ⟨rfl, fun wS hwS => ?_⟩) hXS ?_
    rotate_left
    · go_simp; try rfl
    simp only [List.set_cons_zero, List.set_cons_succ]
    refine wpX_take (i := 23) (v := ?_) rfl rfl (by kernel_rfl) (fun _ _ _ h => h) (Or.inl ⟨rfl, fun wS hwS => ?_⟩) hXS ?_
    rotate_left
    · go_simp; try rfl
    simp only [List.set_cons_zero, List.set_cons_succ]
    refine wpX_take (i := 24) (v := ?_) rfl rfl (by kernel_rfl) (fun _ _ _ h => h) (Or.inl ⟨rfl, fun wS hwS => ?_⟩) hXS ?_
    rotate_left
    · go_simp; try rfl
    simp only [List.set_cons_zero, List.set_cons_succ]
    refine wpX_take (i := 25) (v := ?_) rfl rfl (by kernel_rfl) (fun _ _ _ h => h) (Or.inl ⟨rfl, fun wS hwS => ?_⟩) hXS ?_
    rotate_left
    · go_simp; try rfl
    simp only [List.set_cons_zero, List.set_cons_succ]
    refine wpX_take (i := 26) (v := ?_) rfl rfl (by kernel_rfl) (fun _ _ _ h => h) (Or.inl ⟨rfl, fun wS hwS => ?_⟩) hXS ?_
    rotate_left
    · go_simp; try rfl
    simp only [List.set_cons_zero, List.set_cons_succ]
    clear hXS
    refine wpX_hard (k := 27) (by kernel_rfl) rfl (fun K hK => ?_)
    go_simp
    refine (HG.out _).mono ?_; rintro e va ⟨rfl, hb⟩; have HBa := hid (HB9.out.t hb); clear hb
    refine hK _ _ (fun _ => HSS.out _ HBa.out) ?_
    clear hK K
    try simp only [List.set_cons_zero, List.set_cons_succ]
    have hXS := HSS.out _ HBa.out
    refine wpX_take (i := 28) (v := ?_) rfl rfl (by kernel_rfl) (fun _ _ _ h => h) (Or.inl ⟨rfl, fun wS hwS => ?_⟩) hXS ?_
    rotate_left
    · go_simp; try rfl
    simp only [List.set_cons_zero, List.set_cons_succ]
    refine wpX_take (i := 29) (v := ?_) rfl rfl (by kernel_rfl) (fun _ _ _ h => h) (Or.inl ⟨rfl, fun wS hwS => ?_⟩) hXS ?_
    rotate_left
    · go_simp; try rfl
    simp only [List.set_cons_zero, List.set_cons_succ]
    clear hXS
    refine wpX_done (by kernel_rfl) ?_
    go_wp2_with fail
    go_ret
    exact ⟨rfl, HK4.out.t HBa.out⟩
  | false =>
    obtain rfl : dd = 0 := HD.out
    clear HD
    go_wp2_with fail
    refine (HP1.out _).mono ?_
    rintro e w3 ⟨rfl, h3⟩
    have HO3 := hid (KW.row h3 HO2.out.lt HO2.out)
    have HK3 := hid (HK2.out.t h3)
    have t0 := HO3.out.cell (i := 0) (by omega)
    have t1 := HO3.out.cell (i := 1) (by omega)
    have t2 := HO3.out.cell (i := 2) (by omega)
    have t3 := HO3.out.cell (i := 3) (by omega)
    have t4 := HO3.out.cell (i := 4) (by omega)
    simp only [List.getD_cons_succ, List.getD_cons_zero] at t0 t1 t2 t3 t4
    clear h3 HO2 HK2 s0' s1 s2 s3 s4
    go_wp2_with fail
    refine (HP2.out _).mono ?_
    rintro e w4 ⟨rfl, h4⟩
    have HO4 := hid (KW.row h4 HO3.out.lt HO3.out)
    have HK4 := hid (HK3.out.t h4)
    clear h4 HO3 HK3 t0 t1 t2 t3 t4
    go_wp2_with fail
    have HSS := hid (fun W (h : KW w4 W) => And.intro (KW.cell h HO4.out.lt (HO4.out.cell (i := 0) (by omega))) (And.intro (KW.cell h HO4.out.lt (HO4.out.cell (i := 1) (by omega))) (And.intro (KW.cell h HO4.out.lt (HO4.out.cell (i := 2) (by omega))) (And.intro (KW.cell h HO4.out.lt (HO4.out.cell (i := 3) (by omega))) (KW.cell h HO4.out.lt (HO4.out.cell (i := 4) (by omega)))))))
    simp only [List.getD_cons_succ, List.getD_cons_zero] at HSS
    have hXS := HSS.out _ (KW.refl w4).drew
    refine wpX_region (S := fun w' => w'.cell? ⟨w.heap.size, 0, none⟩ = some (.int .i64 k) ∧ w'.cell? ⟨w.heap.size, 1, none⟩ = some (.int .i64 d) ∧ w'.cell? ⟨w.heap.size, 2, none⟩ = some (.int .i64 ra) ∧ w'.cell? ⟨w.heap.size, 3, none⟩ = some (.int .i64 rb) ∧ w'.cell? ⟨w.heap.size, 4, none⟩ = some (.int .u64 v)) (L := 99) (by kernel_rfl) ?_
    refine wpX_take (i := 0) (v := ?_) rfl rfl (by kernel_rfl) (fun _ _ _ h => h) (Or.inl ⟨rfl, fun wS hwS => ?_⟩) hXS ?_
    rotate_left
    · go_simp; try rfl
    simp only [List.set_cons_zero, List.set_cons_succ]
    refine wpX_take (i := 2) (v := ?_) rfl rfl (by kernel_rfl) (fun _ _ _ h => h) (Or.inl ⟨rfl, fun wS hwS => ?_⟩) hXS ?_
    rotate_left
    · go_simp; try rfl
    simp only [List.set_cons_zero, List.set_cons_succ]
    clear hXS
    refine wpX_hard (k := 1) (by kernel_rfl) rfl (fun K hK => ?_)
    go_simp
    refine (HR1.out _).mono ?_; rintro e v5 ⟨u5, rfl, hi5, hb⟩; have HB5 := hid ((KW.refl w4).drew.t hb); have HI5 := hid hi5; clear hb hi5
    refine hK _ _ (fun _ => HSS.out _ HB5.out) ?_
    clear hK K
    try simp only [List.set_cons_zero, List.set_cons_succ]
    refine wpX_hard (k := 3) (by kernel_rfl) rfl (fun K hK => ?_)
    go_simp
    refine (HR2.out _).mono ?_; rintro e v6 ⟨u6, rfl, hi6, hb⟩; have HB6 := hid (HB5.out.t hb); have HI6 := hid hi6; have HI56 := hid (HI5.out.kw hb); clear hb hi6
    refine hK _ _ (fun _ => HSS.out _ HB6.out) ?_
    clear hK K
    try simp only [List.set_cons_zero, List.set_cons_succ]
    refine wpX_hard (k := 4) (by kernel_rfl) rfl (fun K hK => ?_)
    go_simp
    refine (HI.out _ _ _ HI56.out HI6.out).mono ?_; rintro e v7 ⟨rfl, hb⟩; have HB7 := hid (HB6.out.t hb); clear hb
    refine hK _ _ (fun _ => HSS.out _ HB7.out) ?_
    clear hK K
    try simp only [List.set_cons_zero, List.set_cons_succ]
    have hXS := HSS.out _ HB7.out
    refine wpX_take (i := 5) (v := ?_) rfl rfl (by kernel_rfl) (fun _ _ _ h => h) (Or.inl ⟨rfl, fun wS hwS => ?_⟩) hXS ?_
    rotate_left
    · go_simp; try rfl
    simp only [List.set_cons_zero, List.set_cons_succ]
    refine wpX_take (i := 6) (v := ?_) rfl rfl (by kernel_rfl) (fun _ _ _ h => h) (Or.inl ⟨rfl, fun wS hwS => ?_⟩) hXS ?_
    rotate_left
    · go_simp; try rfl
    simp only [List.set_cons_zero, List.set_cons_succ]
    refine wpX_take (i := 7) (v := ?_) rfl rfl (by kernel_rfl) (fun _ _ _ h => h) (Or.inl ⟨rfl, fun wS hwS => ?_⟩) hXS ?_
    rotate_left
    · go_simp; try rfl
    simp only [List.set_cons_zero, List.set_cons_succ]
    refine wpX_take (i := 8) (v := ?_) rfl rfl (by kernel_rfl) (fun _ _ _ h => h) (Or.inl ⟨rfl, fun wS hwS => ?_⟩) hXS ?_
    rotate_left
    · go_simp; try rfl
    simp only [List.set_cons_zero, List.set_cons_succ]
    refine wpX_take (i := 10) (v := ?_) rfl rfl (by kernel_rfl) (fun _ _ _ h => h) (Or.inl ⟨rfl, fun wS hwS => ?_⟩) hXS ?_
    rotate_left
    · go_simp; try rfl
    simp only [List.set_cons_zero, List.set_cons_succ]
    refine wpX_take (i := 11) (v := ?_) rfl rfl (by kernel_rfl) (fun _ _ _ h => h) (Or.inl ⟨rfl, fun wS hwS => ?_⟩) hXS ?_
    rotate_left
    · go_simp; try rfl
    simp only [List.set_cons_zero, List.set_cons_succ]
    refine wpX_take (i := 12) (v := ?_) rfl rfl (by kernel_rfl) (fun _ _ _ h => h) (Or.inl ⟨rfl, fun wS hwS => ?_⟩) hXS ?_
    rotate_left
    · go_simp; try rfl
    simp only [List.set_cons_zero, List.set_cons_succ]
    clear hXS
    refine wpX_hard (k := 9) (by kernel_rfl) rfl (fun K hK => ?_)
    go_simp
    refine (HA1.out _).mono ?_; rintro e v8 ⟨rfl, hb⟩; have HB8 := hid (HB7.out.t hb); clear hb
    refine hK _ _ (fun _ => HSS.out _ HB8.out) ?_
    clear hK K
    try simp only [List.set_cons_zero, List.set_cons_succ]
    refine wpX_hard (k := 13) (by kernel_rfl) rfl (fun K hK => ?_)
    go_simp
    refine (HA2.out _).mono ?_; rintro e v9 ⟨rfl, hb⟩; have HB9 := hid (HB8.out.t hb); clear hb
    refine hK _ _ (fun _ => HSS.out _ HB9.out) ?_
    clear hK K
    try simp only [List.set_cons_zero, List.set_cons_succ]
    have hXS := HSS.out _ HB9.out
    refine wpX_take (i := 14) (v := ?_) rfl rfl (by kernel_rfl) (fun _ _ _ h => h) (Or.inl ⟨rfl, fun wS hwS => ?_⟩) hXS ?_
    rotate_left
    · go_simp; try rfl
    simp only [List.set_cons_zero, List.set_cons_succ]
    refine wpX_take (i := 15) (v := ?_) rfl rfl (by kernel_rfl) (fun _ _ _ h => h) (Or.inl ⟨rfl, fun wS hwS => ?_⟩) hXS ?_
    rotate_left
    · go_simp; try rfl
    simp only [List.set_cons_zero, List.set_cons_succ]
    refine wpX_take (i := 16) (v := ?_) rfl rfl (by kernel_rfl) (fun _ _ _ h => h) (Or.inl ⟨rfl, fun wS hwS => ?_⟩) hXS ?_
    rotate_left
    · go_simp; try rfl
    simp only [List.set_cons_zero, List.set_cons_succ]
    refine wpX_take (i := 17) (v := ?_) rfl rfl (by kernel_rfl) (fun _ _ _ h => h) (Or.inl ⟨rfl, fun wS hwS => ?_⟩) hXS ?_
    rotate_left
    · go_simp; try rfl
    simp only [List.set_cons_zero, List.set_cons_succ]
    refine wpX_take (i := 18) (v := ?_) rfl rfl (by kernel_rfl) (fun _ _ _ h => h) (Or.inl ⟨rfl, fun wS hwS => ?_⟩) hXS ?_
    rotate_left
    · go_simp; try rfl
    simp only [List.set_cons_zero, List.set_cons_succ]
    refine wpX_take (i := 19) (v := ?_) rfl rfl (by kernel_rfl) (fun _ _ _ h => h) (Or.inl ⟨rfl, fun wS hwS => ?_⟩) hXS ?_
    rotate_left
    · go_simp; try rfl
    simp only [List.set_cons_zero, List.set_cons_succ]
    refine wpX_take (i := 20) (v := ?_) rfl rfl (by kernel_rfl) (fun _ _ _ h => h) (Or.inl ⟨rfl, fun wS hwS => ?_⟩) hXS ?_
    rotate_left
    · go_simp; try rfl
    simp only [List.set_cons_zero, List.set_cons_succ]
    refine wpX_take (i := 21) (v := ?_) rfl rfl (by kernel_rfl) (fun _ _ _ h => h) (Or.inl ⟨rfl, fun wS hwS => ?_⟩) hXS ?_
    rotate_left
    · go_simp; try rfl
    simp only [List.set_cons_zero, List.set_cons_succ]
    refine wpX_take (i := 22) (v := ?_) rfl rfl (by kernel_rfl) (fun _ _ _ h => h) (Or.inl ⟨rfl, fun wS hwS => ?_⟩) hXS ?_
    rotate_left
    · go_simp; try rfl
    simp only [List.set_cons_zero, List.set_cons_succ]
    refine wpX_take (i := 23) (v := ?_) rfl rfl (by kernel_rfl) (fun _ _ _ h => h) (Or.inl ⟨rfl, fun wS hwS => ?_⟩) hXS ?_
    rotate_left
    · go_simp; try rfl
    simp only [List.set_cons_zero, List.set_cons_succ]
    refine wpX_take (i := 24) (v := ?_) rfl rfl (by kernel_rfl) (fun _ _ _ h => h) (Or.inl ⟨rfl, fun wS hwS => ?_⟩) hXS ?_
    rotate_left
    · go_simp; try rfl
    simp only [List.set_cons_zero, List.set_cons_succ]
    refine wpX_take (i := 25) (v := ?_) rfl rfl (by kernel_rfl) (fun _ _ _ h => h) (Or.inl ⟨rfl, fun wS hwS => ?_⟩) hXS ?_
    rotate_left
    · go_simp; try rfl
    simp only [List.set_cons_zero, List.set_cons_succ]
    refine wpX_take (i := 26) (v := ?_) rfl rfl (by kernel_rfl) (fun _ _ _ h => h) (Or.inl ⟨rfl, fun wS hwS => ?_⟩) hXS ?_
    rotate_left
    · go_simp; try rfl
    simp only [List.set_cons_zero, List.set_cons_succ]
    clear hXS
    refine wpX_hard (k := 27) (by kernel_rfl) rfl (fun K hK => ?_)
    go_simp
    refine (HG.out _).mono ?_; rintro e va ⟨rfl, hb⟩; have HBa := hid (HB9.out.t hb); clear hb
    refine hK _ _ (fun _ => HSS.out _ HBa.out) ?_
    clear hK K
    try simp only [List.set_cons_zero, List.set_cons_succ]
    have hXS := HSS.out _ HBa.out
    refine wpX_take (i := 28) (v := ?_) rfl rfl (by kernel_rfl) (fun _ _ _ h => h) (Or.inl ⟨rfl, fun wS hwS => ?_⟩) hXS ?_
    rotate_left
    · go_simp; try rfl
    simp only [List.set_cons_zero, List.set_cons_succ]
    refine wpX_take (i := 29) (v := ?_) rfl rfl (by kernel_rfl) (fun _ _ _ h => h) (Or.inl ⟨rfl, fun wS hwS => ?_⟩) hXS ?_
    rotate_left
    · go_simp; try rfl
    simp only [List.set_cons_zero, List.set_cons_succ]
    clear hXS
    refine wpX_done (by kernel_rfl) ?_
    go_wp2_with fail
    go_ret
    exact ⟨rfl, HK4.out.t HBa.out⟩
end Go.Proofs.Ytnpgiallgcliiaa
