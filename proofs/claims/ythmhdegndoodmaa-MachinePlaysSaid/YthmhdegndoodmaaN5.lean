/- Contract of the reference's Check; the walk of MachineChecks. -/
import Derived.Test.YthmhdegndoodmaaN4
import Derived.Test.YthmhdegndoodmaaOrd2
namespace Go.Proofs.Ythmhdegndoodmaa
open Go.ChangeShapes Go.WideShapes Go.ChangeAt Go.RowKit
set_option linter.unusedVariables false

theorem rcheck_no (l n : Int) (v : Value) (w : World) (h : l < 0 ∨ 65536 ≤ l ∨ n < 0 ∨ 1048576 < n) :
    Calls Try.prog 22 #[.int .i64 l, .int .i64 n, v] w (CheckP w (0, 0, 2)) := by
  have HN := hid (fun W => rnew_no l n W h)
  clear h
  go_enter Try.func22, Try.ntmps22
  go_wp2_with fail
  refine (HN.out _).mono ?_
  rintro e w1 ⟨rfl, hk⟩
  have HK := hid hk
  clear hk
  go_wp2_with fail
  go_ret3
  exact ⟨rfl, HK.out.alloc _⟩

/-- what is known of what Do told -/
def IsD (m : Mc.St) (c : Int) (u : Value) (w : World) : Prop := ∃ v, u = .tuple #[.agg (rm m v), .int .i64 c] ∧ RT w v m.tags
def IsDm (m : Mc.St) (u : Value) (w : World) : Prop := ∃ v, u = .agg (rm m v) ∧ RT w v m.tags
def IsDv (c : Int) (u : Value) (w : World) : Prop := u = .int .i64 c
theorem IsD.keep {m : Mc.St} {c : Int} {u : Value} {w w' : World} (h : IsD m c u w) (k : KW w w') : IsD m c u w' := by
  obtain ⟨v, e, h⟩ := h; exact ⟨v, e, h.kw k⟩
theorem IsDm.keep {m : Mc.St} {u : Value} {w w' : World} (h : IsDm m u w) (k : KW w w') : IsDm m u w' := by
  obtain ⟨v, e, h⟩ := h; exact ⟨v, e, h.kw k⟩
theorem rm_size (m : Mc.St) (v : Value) : (rm m v).size = 5 := rfl
theorem RT.one {w : World} {v : Value} {tags : List Int} (h : RT w v tags) : v.oneCell' = true := by obtain ⟨A, c, rfl, _⟩ := h; rfl
def rmf (m : Mc.St) (v : Value) (i : Nat) : Value := (rm m v).toList.getD i undef
theorem rm_get (m : Mc.St) (v : Value) : ∀ i, i < 5 → (rm m v)[i]? = some (rmf m v i) := by
  intro i hi
  rcases (show i = 0 ∨ i = 1 ∨ i = 2 ∨ i = 3 ∨ i = 4 by omega) with rfl | rfl | rfl | rfl | rfl <;> rfl
theorem rm_one {m : Mc.St} {v : Value} (h : v.oneCell' = true) : ∀ i, i < 5 → (rmf m v i).oneCell' = true := by
  intro i hi
  rcases (show i = 0 ∨ i = 1 ∨ i = 2 ∨ i = 3 ∨ i = 4 by omega) with rfl | rfl | rfl | rfl | rfl
  · rfl
  · rfl
  · rfl
  · exact h
  · rfl

set_option maxRecDepth 100000 in
set_option maxHeartbeats 2000000 in
theorem rcheck_yes (l : Int) (n : Nat) (A : Option Addr) (c : Nat) (list : List Mc.Act) (w : World) (l0 : 0 ≤ l) (l1 : l < 65536) (hn : n ≤ 1048576) (hlen : list.length ≤ 1099511627776) (hA : Acts w A list) :
    Calls Try.prog 22 #[.int .i64 l, .int .i64 n, .slice A list.length c] w (CheckP w (Mc.chk (Mc.new l n) list 0)) := by
  have HN := hid (fun W => rnew_yes l n W l0 l1 hn)
  have HA := hid hA
  have HI := hid (Mc.new_inv l n l0 l1 hn)
  have HC := hid (show Mc.chk (Mc.new l n) list 0 = Mc.chk (Mc.new l n) (list.drop 0) 0 from rfl)
  have HT := hid (show (Mc.new l n).tot = 0 from rfl)
  generalize Mc.new l n = m0 at *
  generalize Mc.chk m0 list 0 = r at *
  clear hA
  generalize hN : list.length = N at *
  have HL := hid hN
  clear hN
  go_enter Try.func22, Try.ntmps22
  go_wp2_with fail
  refine (HN.out _).mono ?_
  rintro e w1 ⟨v0, rfl, ho, hk⟩
  have HR0 := hid ho.rt
  have HK := hid hk
  obtain ⟨A0, c0, hv0, hz0⟩ := ho.row
  clear hz0
  subst hv0
  clear ho hk
  unfold rm
  go_wp2_with fail
  refine wpCode_world (fun W => KW w W ∧ w.heap.size ≤ w1.heap.size ∧ RT W (.slice A0 (ints m0.tags).length c0) m0.tags ∧ W.rowIs w1.heap.size 49 5 (rmf m0 (.slice A0 (ints m0.tags).length c0))) ⟨HK.out.alloc _, HK.out.size, HR0.out.kw ((KW.refl w1).alloc _), World.rowIs_alloc w1 (rm m0 (.slice A0 (ints m0.tags).length c0)) 49 _ (rm_get _ _)⟩ ?_
  rintro W1 ⟨hk, hmb, hrt, hrow⟩
  have HK1 := hid hk
  have HMB := hid hmb
  have HRT := hid hrt
  have HROW := hid hrow
  clear hk hrt hrow hmb HK HR0
  generalize w1.heap.size = mb at *
  go_loopw [11] (fun i wr => ∃ (k : Nat) (m : Mc.St) (v : Value), k ≤ N ∧ i = .int .i64 k ∧ Hid (wr.rowIs mb 49 5 (rmf m v)) ∧ Hid (RT wr v m.tags) ∧ Hid (Mc.Inv m) ∧ Hid (m.tot ≤ 65535 * k) ∧ Hid (r = Mc.chk m (list.drop k) k) ∧ Hid (KW w wr)) (fun i _ => N - (intOf i).toNat)
  case atStart => exact ⟨0, m0, _, by omega, rfl, HROW, HRT, HI, by show _ ≤ _; rw [HT.out]; simp, HC, HK1⟩
  case round =>
    obtain ⟨k, m, v, hk, rfl, HROW1, HRT1, HI1, HT1, HC1, HK2⟩ := hrel
    clear HROW HRT HI HC HK1 HT HN W1
    by_cases hlt : k < N
    · obtain ⟨b', off, rfl, hb', hc1, hc2⟩ := HA.out.at_ (show k < list.length by rw [HL.out]; exact hlt)
      have HOK := hid (fun e => HC1.out.trans (Mc.chk_ok (m := m) (l := list) (k := k) (by rw [HL.out]; exact hlt) e))
      have HBAD := hid (fun e => HC1.out.trans (Mc.chk_bad (m := m) (l := list) (k := k) (by rw [HL.out]; exact hlt) e))
      generalize (list.getD k (0, 0)).1 = x at *
      generalize (list.getD k (0, 0)).2 = y at *
      have HD := hid (fun W (h : RT W v m.tags) => rdo_any m x y v W h HI1.out (by have := HT1.out; omega))
      have HS := hid (Mc.step_tot m x y)
      have HI2 := hid (HI1.out.step x y)
      generalize (Mc.step m x y).1 = m2 at *
      generalize (Mc.step m x y).2 = er at *
      have L5 : (k : Int) < (N : Int) := by omega
      have r0 := HROW1.out.cell (i := 0) (by omega)
      have r1 := HROW1.out.cell (i := 1) (by omega)
      have r2 := HROW1.out.cell (i := 2) (by omega)
      have r3 := HROW1.out.cell (i := 3) (by omega)
      have r4 := HROW1.out.cell (i := 4) (by omega)
      have l1 := KW.cell HK2.out hb' hc1
      have l2 := KW.cell HK2.out hb' hc2
      have hbr : b' < wr.heap.size := Nat.lt_of_lt_of_le hb' HK2.out.size
      obtain ⟨A1, c1, hv1, _⟩ := HRT1.out
      obtain ⟨la, aa, pa, ta, tags⟩ := m
      simp only [rmf, rm, List.getD_cons_succ, List.getD_cons_zero] at r0 r1 r2 r3 r4
      simp only at hv1
      subst hv1
      simp only [rm] at HD
      generalize hM : tags.length = M at *
      clear hM
      have HBR := hid hbr
      clear hc1 hc2 hb' hbr
      go_wp2_with fail
      have hXS := And.intro r0 (And.intro r1 (And.intro r2 (And.intro r3 (And.intro r4 (And.intro l1 l2)))))
      have HX := hid hXS
      have hq := KW.refl wr
      clear r0 r1 r2 r3 r4 l1 l2
      have HSS := hid (fun w' (hq : KW wr w') => And.intro (KW.cell hq HROW1.out.lt HX.out.1) (And.intro (KW.cell hq HROW1.out.lt HX.out.2.1) (And.intro (KW.cell hq HROW1.out.lt HX.out.2.2.1) (And.intro (KW.cell hq HROW1.out.lt HX.out.2.2.2.1) (And.intro (KW.cell hq HROW1.out.lt HX.out.2.2.2.2.1) (And.intro (KW.cell hq HBR.out HX.out.2.2.2.2.2.1) (KW.cell hq HBR.out HX.out.2.2.2.2.2.2)))))))
      refine wpX_region (S := fun w' => w'.cell? ⟨mb, 0, none⟩ = some (.int .i64 la) ∧ w'.cell? ⟨mb, 1, none⟩ = some (.int .i64 aa) ∧ w'.cell? ⟨mb, 2, none⟩ = some (.int .i64 pa) ∧ w'.cell? ⟨mb, 3, none⟩ = some (.slice A1 M c1) ∧ w'.cell? ⟨mb, 4, none⟩ = some (.int .i64 ta) ∧ w'.cell? ⟨b', off + k * 2, none⟩ = some (.int .i64 x) ∧ w'.cell? ⟨b', off + k * 2 + 1, none⟩ = some (.int .i64 y)) (L := 99) (by kernel_rfl) ?_
      refine wpX_take (i := 0) (v := ?_) rfl rfl (by kernel_rfl) (fun _ _ _ h => h) (Or.inl ⟨rfl, fun wS hwS => ?_⟩) hXS ?_
      rotate_left
      · go_simp; try rfl
      simp only [List.set_cons_zero, List.set_cons_succ]
      refine wpX_take (i := 1) (v := ?_) rfl rfl (by kernel_rfl) (fun _ _ _ h => h) (Or.inl ⟨rfl, fun wS hwS => ?_⟩) hXS ?_
      rotate_left
      · go_simp; try rfl
      simp only [List.set_cons_zero, List.set_cons_succ]
      refine wpX_take (i := 2) (v := ?_) rfl rfl (by kernel_rfl) (fun _ _ _ h => h) (Or.inl ⟨rfl, fun wS hwS => ?_⟩) hXS ?_
      rotate_left
      · go_simp; try rfl
      simp only [List.set_cons_zero, List.set_cons_succ]
      refine wpX_take (i := 3) (v := ?_) rfl rfl (by kernel_rfl) (fun _ _ _ h => h) (Or.inl ⟨rfl, fun wS hwS => ?_⟩) hXS ?_
      rotate_left
      · go_simp; try rfl
      simp only [List.set_cons_zero, List.set_cons_succ]
      refine wpX_take (i := 4) (v := ?_) rfl rfl (by kernel_rfl) (fun _ _ _ h => h) (Or.inl ⟨rfl, fun wS hwS => ?_⟩) hXS ?_
      rotate_left
      · go_simp; try rfl
      simp only [List.set_cons_zero, List.set_cons_succ]
      refine wpX_two (i := 5) (j := 9) (by kernel_rfl) rfl rfl (fun K hK => ?_) (fun K hK => ?_)
      · skip
        go_simp
        refine (HD.out _ (HRT1.out.kw hq.drew)).mono ?_
        rintro e W4 ⟨v2, rfl, hr2, _, hb⟩
        have HQ4 : Hid (KW wr W4) := hq.drew.t hb
        have HR4 := hid hr2
        clear hb hr2
        refine hK _ _ (fun _ => HSS.out _ HQ4.out) ?_
        clear hK K
        try simp only [List.set_cons_zero, List.set_cons_succ]
        clear hXS
        have hXS := HSS.out _ HQ4.out
        refine wpX_take (i := 6) (v := ?_) rfl rfl (by kernel_rfl) (fun _ _ _ h => h) (Or.inl ⟨rfl, fun wS hwS => ?_⟩) hXS ?_
        rotate_left
        · go_simp; try rfl
        simp only [List.set_cons_zero, List.set_cons_succ]
        refine wpX_take (i := 7) (v := ?_) rfl rfl (by kernel_rfl) (fun _ _ _ h => h) (Or.inl ⟨rfl, fun wS hwS => ?_⟩) hXS ?_
        rotate_left
        · go_simp; try rfl
        simp only [List.set_cons_zero, List.set_cons_succ]
        refine wpX_take (i := 8) (v := ?_) rfl rfl (by kernel_rfl) (fun _ _ _ h => h) (Or.inl ⟨rfl, fun wS hwS => ?_⟩) hXS ?_
        rotate_left
        · go_simp; try rfl
        simp only [List.set_cons_zero, List.set_cons_succ]
        refine wpX_hard (k := 9) (by kernel_rfl) rfl (fun K hK => ?_)
        go_simp
        refine hK _ _ (fun _ => HSS.out _ (HQ4.out.alloc _)) ?_
        clear hK K
        try simp only [List.set_cons_zero, List.set_cons_succ]
        clear hXS
        have HR2 := hid (HR4.out.kw ((KW.refl W4).alloc (.cells #[.int .i64 0, .int .i64 0, .int .i64 0, .slice none 0 0, .int .i64 0] 49)))
        have HG2 : Hid ((W4.alloc (.cells #[.int .i64 0, .int .i64 0, .int .i64 0, .slice none 0 0, .int .i64 0] 49)).rowIs W4.heap.size 49 5 (fun i => [.int .i64 0, .int .i64 0, .int .i64 0, .slice none 0 0, .int .i64 0].getD i undef)) := World.rowIs_alloc W4 #[.int .i64 0, .int .i64 0, .int .i64 0, .slice none 0 0, .int .i64 0] 49 _ fun i hi => by simp at hi; simp [hi]
        have HGB : Hid (wr.heap.size ≤ W4.heap.size) := HQ4.out.size
        have HQ2 := hid (HQ4.out.alloc (.cells #[.int .i64 0, .int .i64 0, .int .i64 0, .slice none 0 0, .int .i64 0] 49))
        refine wpX_store_is (k := 10) (by kernel_rfl) rfl rfl rfl 49 _ _ rfl W4.heap.size 5 49 _ (rmf m2 v2) (rm m2 v2) rfl rfl HG2.out (by kernel_rfl) rfl (rm_get m2 v2) (rm_one HR2.out.one) ?_
        intro W3 hrow3 _ hkeep3
        have HKQ : Hid (KW wr W3) := HQ2.out.kept hkeep3 fun i hi => by have := HGB.out; omega
        have HR3 := hid (HR2.out.keepM HG2.out hkeep3)
        have HG3 := hid hrow3
        refine ⟨fun _ => HSS.out _ HKQ.out, ?_⟩
        have hXS := HSS.out _ HKQ.out
        clear hrow3 hkeep3
        refine wpX_take (i := 11) (v := ?_) rfl rfl (by kernel_rfl) (fun _ _ _ h => h) (Or.inl ⟨rfl, fun wS hwS => ?_⟩) hXS ?_
        rotate_left
        · go_simp; try rfl
        simp only [List.set_cons_zero, List.set_cons_succ]
        refine wpX_done (by kernel_rfl) ?_
        have HKW := hid (HK2.out.t HKQ.out)
        have HROW3 := hid (KW.row HKQ.out HROW1.out.lt HROW1.out)
        clear hXS
        by_cases he : er = 0
        · have HC2 := hid (HOK.out he)
          have HT2 : Hid (m2.tot ≤ 65535 * ((k + 1 : Nat) : Int)) := by
            have h1 := HS.out.2
            have h2 := HT1.out
            show _ ≤ _
            omega
          subst he
          clear HBAD HOK
          have HW3 := hid (whole HG3.out)
          go_wp2_with (first
            | (refine wpList_load_row rfl 49 _ rfl W4.heap.size rfl 49 (rm m2 v2) (0, 0) _ HW3.out Try.underlying49 rfl (by kernel_rfl) ?_)
            | (refine wpList_store_is rfl 49 _ _ rfl mb 5 49 _ (rmf m2 v2) (rm m2 v2) rfl rfl HROW3.out (by kernel_rfl) rfl (rm_get m2 v2) (rm_one HR3.out.one) ?_))
          intro W4 hrow4 hkeep4 _
          have HROW4 := hid hrow4
          have HR4 := hid (HR3.out.keepM HROW3.out hkeep4)
          have HK4 : Hid (KW w W4) := HKW.out.kept hkeep4 fun i hi => by have := HMB.out; omega
          clear hrow4 hkeep4
          go_wp2_with fail
          go_roundw
          case rel => exact ⟨k + 1, m2, v2, by omega, by go_num, HROW4, HR4, HI2, HT2, HC2, HK4⟩
          case measure => simp [intOf]; omega
        · have HC2 := hid (HBAD.out he)
          have d : (er != 0) = true := by simpa using he
          have d2 : (er == 0) = false := by simpa using he
          clear HBAD HOK he
          go_wp2_with fail
          go_ret3
          exact ⟨by rw [HC2.out]; rfl, HKW.out⟩
      · skip
        go_simp
        refine hK _ _ (fun _ => HSS.out _ (hq.alloc _).drew) ?_
        clear hK K
        try simp only [List.set_cons_zero, List.set_cons_succ]
        clear hXS
        have hXS := HSS.out _ (hq.alloc (.cells #[.int .i64 0, .int .i64 0, .int .i64 0, .slice none 0 0, .int .i64 0] 49)).drew
        refine wpX_hard (k := 5) (by kernel_rfl) rfl (fun K hK => ?_)
        go_simp
        refine (HD.out _ (HRT1.out.kw (hq.alloc (.cells #[.int .i64 0, .int .i64 0, .int .i64 0, .slice none 0 0, .int .i64 0] 49)).drew)).mono ?_
        rintro e W4 ⟨v2, rfl, hr2, _, hb⟩
        have HQ2 : Hid (KW wr W4) := (hq.alloc (.cells #[.int .i64 0, .int .i64 0, .int .i64 0, .slice none 0 0, .int .i64 0] 49)).drew.t hb
        have HR2 := hid hr2
        have HG2 : Hid (W4.rowIs wr.heap.size 49 5 (fun i => [.int .i64 0, .int .i64 0, .int .i64 0, .slice none 0 0, .int .i64 0].getD i undef)) := KW.row hb (by simp) (World.rowIs_alloc wr #[.int .i64 0, .int .i64 0, .int .i64 0, .slice none 0 0, .int .i64 0] 49 _ fun i hi => by simp at hi; simp [hi])
        have HGB : Hid (wr.heap.size ≤ wr.heap.size) := Nat.le_refl _
        clear hb hr2
        refine hK _ _ (fun _ => HSS.out _ HQ2.out) ?_
        clear hK K
        try simp only [List.set_cons_zero, List.set_cons_succ]
        clear hXS
        have hXS := HSS.out _ HQ2.out
        refine wpX_take (i := 6) (v := ?_) rfl rfl (by kernel_rfl) (fun _ _ _ h => h) (Or.inl ⟨rfl, fun wS hwS => ?_⟩) hXS ?_
        rotate_left
        · go_simp; try rfl
        simp only [List.set_cons_zero, List.set_cons_succ]
        refine wpX_take (i := 7) (v := ?_) rfl rfl (by kernel_rfl) (fun _ _ _ h => h) (Or.inl ⟨rfl, fun wS hwS => ?_⟩) hXS ?_
        rotate_left
        · go_simp; try rfl
        simp only [List.set_cons_zero, List.set_cons_succ]
        refine wpX_take (i := 8) (v := ?_) rfl rfl (by kernel_rfl) (fun _ _ _ h => h) (Or.inl ⟨rfl, fun wS hwS => ?_⟩) hXS ?_
        rotate_left
        · go_simp; try rfl
        simp only [List.set_cons_zero, List.set_cons_succ]
        clear hXS
        refine wpX_store_is (k := 10) (by kernel_rfl) rfl rfl rfl 49 _ _ rfl wr.heap.size 5 49 _ (rmf m2 v2) (rm m2 v2) rfl rfl HG2.out (by kernel_rfl) rfl (rm_get m2 v2) (rm_one HR2.out.one) ?_
        intro W3 hrow3 _ hkeep3
        have HKQ : Hid (KW wr W3) := HQ2.out.kept hkeep3 fun i hi => by have := HGB.out; omega
        have HR3 := hid (HR2.out.keepM HG2.out hkeep3)
        have HG3 := hid hrow3
        refine ⟨fun _ => HSS.out _ HKQ.out, ?_⟩
        have hXS := HSS.out _ HKQ.out
        clear hrow3 hkeep3
        refine wpX_take (i := 11) (v := ?_) rfl rfl (by kernel_rfl) (fun _ _ _ h => h) (Or.inl ⟨rfl, fun wS hwS => ?_⟩) hXS ?_
        rotate_left
        · go_simp; try rfl
        simp only [List.set_cons_zero, List.set_cons_succ]
        refine wpX_done (by kernel_rfl) ?_
        have HKW := hid (HK2.out.t HKQ.out)
        have HROW3 := hid (KW.row HKQ.out HROW1.out.lt HROW1.out)
        clear hXS
        by_cases he : er = 0
        · have HC2 := hid (HOK.out he)
          have HT2 : Hid (m2.tot ≤ 65535 * ((k + 1 : Nat) : Int)) := by
            have h1 := HS.out.2
            have h2 := HT1.out
            show _ ≤ _
            omega
          subst he
          clear HBAD HOK
          have HW3 := hid (whole HG3.out)
          go_wp2_with (first
            | (refine wpList_load_row rfl 49 _ rfl wr.heap.size rfl 49 (rm m2 v2) (0, 0) _ HW3.out Try.underlying49 rfl (by kernel_rfl) ?_)
            | (refine wpList_store_is rfl 49 _ _ rfl mb 5 49 _ (rmf m2 v2) (rm m2 v2) rfl rfl HROW3.out (by kernel_rfl) rfl (rm_get m2 v2) (rm_one HR3.out.one) ?_))
          intro W4 hrow4 hkeep4 _
          have HROW4 := hid hrow4
          have HR4 := hid (HR3.out.keepM HROW3.out hkeep4)
          have HK4 : Hid (KW w W4) := HKW.out.kept hkeep4 fun i hi => by have := HMB.out; omega
          clear hrow4 hkeep4
          go_wp2_with fail
          go_roundw
          case rel => exact ⟨k + 1, m2, v2, by omega, by go_num, HROW4, HR4, HI2, HT2, HC2, HK4⟩
          case measure => simp [intOf]; omega
        · have HC2 := hid (HBAD.out he)
          have d : (er != 0) = true := by simpa using he
          have d2 : (er == 0) = false := by simpa using he
          clear HBAD HOK he
          go_wp2_with fail
          go_ret3
          exact ⟨by rw [HC2.out]; rfl, HKW.out⟩
    · obtain rfl : k = N := by omega
      have HE := hid (show r = if m.pend = 0 then (m.tot, (list.length : Int), 0) else (0, (list.length : Int), 19) from HC1.out.trans (by rw [← HL.out]; exact Mc.chk_end))
      have r2 := HROW1.out.cell (i := 2) (by omega)
      have r4 := HROW1.out.cell (i := 4) (by omega)
      obtain ⟨la, aa, pa, ta, tags⟩ := m
      simp only [rmf, rm, List.getD_cons_succ, List.getD_cons_zero] at r2 r4
      by_cases hp : pa = 0
      · have HE2 := hid (HE.out.trans (if_pos hp))
        subst hp
        clear HE hlt
        go_wp2_with fail
        go_ret3
        exact ⟨by rw [HE2.out, HL.out]; rfl, HK2.out⟩
      · have HE2 := hid (HE.out.trans (if_neg hp))
        have d : (pa != 0) = true := by simpa using hp
        have d2 : (pa == 0) = false := by simpa using hp
        clear hp HE hlt
        go_wp2_with fail
        go_ret3
        exact ⟨by rw [HE2.out, HL.out]; rfl, HK2.out⟩
theorem rcheck_any (l n : Int) (A : Option Addr) (c : Nat) (list : List Mc.Act) (w : World) (hlen : list.length ≤ 1099511627776) (hA : Acts w A list) :
    Calls Try.prog 22 #[.int .i64 l, .int .i64 n, .slice A list.length c] w (CheckP w (Mc.check l n list)) := by
  unfold Mc.check
  by_cases h : 0 ≤ l ∧ l < 65536 ∧ 0 ≤ n ∧ n ≤ 1048576
  · rw [if_pos h]
    obtain ⟨k, rfl⟩ : ∃ k : Nat, n = k := ⟨n.toNat, by omega⟩
    rw [Int.toNat_natCast]
    exact rcheck_yes l k A c list w h.1 h.2.1 (by omega) hlen hA
  · rw [if_neg h]
    exact rcheck_no l n _ w (by omega)

set_option maxRecDepth 100000 in
theorem checks_law (l n : Int) (A : Option Addr) (c : Nat) (list : List Mc.Act) (w : World) (_ : -9223372036854775808 ≤ l) (_ : l ≤ 9223372036854775807) (_ : -9223372036854775808 ≤ n) (_ : n ≤ 9223372036854775807)
    (_ : ∀ a ∈ list, (-9223372036854775808 ≤ a.1 ∧ a.1 ≤ 9223372036854775807) ∧ -9223372036854775808 ≤ a.2 ∧ a.2 ≤ 9223372036854775807) (hA : Acts w A list) :
    Calls Try.prog 6 #[.int .i64 l, .int .i64 n, .slice A list.length c] w fun e w' => e = .returned (.bool true) ∧ KW w w' := by
  have hk := KW.refl w
  have HC := hid (fun W (h : KW w W) (hl : list.length ≤ 1099511627776) => check_any l n A c list W hl (hA.kw h))
  have HD := hid (fun W (h : KW w W) (hl : list.length ≤ 1099511627776) => rcheck_any l n A c list W hl (hA.kw h))
  unfold CheckP at HC HD
  generalize Mc.check l n list = r at *
  obtain ⟨r1, r2, r3⟩ := r
  simp only at HC HD
  clear hA
  generalize list.length = N at *
  by_cases h1 : 300 < n ∧ n ≤ 1048576
  · obtain ⟨a1, a2⟩ := h1
    go_enter Try.func6, Try.ntmps6
    go_wp2_with (go_at_call 20; refine (goes27_any _).mono ?_; rintro e w1 ⟨rfl, hb⟩; replace hk := hk.t hb; clear hb)
    go_ret
    exact ⟨rfl, hk⟩
  by_cases h2 : 300 < N
  · have d : (300 : Int) < (N : Int) := by omega
    by_cases h3 : 300 < n
    · have d3 : decide (n ≤ 1048576) = false := decide_eq_false (by omega)
      clear h1
      go_enter Try.func6, Try.ntmps6
      go_wp2_with (go_at_call 20; refine (goes27_any _).mono ?_; rintro e w1 ⟨rfl, hb⟩; replace hk := hk.t hb; clear hb)
      go_ret
      exact ⟨rfl, hk⟩
    · have d3 : decide (300 < n) = false := decide_eq_false h3
      clear h1
      go_enter Try.func6, Try.ntmps6
      go_wp2_with (go_at_call 20; refine (goes27_any _).mono ?_; rintro e w1 ⟨rfl, hb⟩; replace hk := hk.t hb; clear hb)
      go_ret
      exact ⟨rfl, hk⟩
  have d : decide ((300 : Int) < (N : Int)) = false := decide_eq_false (by omega)
  have hN : N ≤ 1099511627776 := by omega
  have HN := hid hN
  clear hN
  by_cases h3 : 300 < n
  · have d3 : decide (n ≤ 1048576) = false := decide_eq_false (by omega)
    clear h1
    go_enter Try.func6, Try.ntmps6
    go_wp2_with (first
      | (go_at_call 21; refine (HC.out _ hk HN.out).mono ?_; rintro e w1 ⟨rfl, hb⟩; replace hk := hk.t hb; clear hb)
      | (go_at_call 22; refine (HD.out _ hk HN.out).mono ?_; rintro e w1 ⟨rfl, hb⟩; replace hk := hk.t hb; clear hb)
      | (go_at_call 20; refine (goes27_any _).mono ?_; rintro e w1 ⟨rfl, hb⟩; replace hk := hk.t hb; clear hb))
    go_ret
    exact ⟨rfl, hk⟩
  · have d3 : decide (300 < n) = false := decide_eq_false h3
    clear h1
    go_enter Try.func6, Try.ntmps6
    go_wp2_with (first
      | (go_at_call 21; refine (HC.out _ hk HN.out).mono ?_; rintro e w1 ⟨rfl, hb⟩; replace hk := hk.t hb; clear hb)
      | (go_at_call 22; refine (HD.out _ hk HN.out).mono ?_; rintro e w1 ⟨rfl, hb⟩; replace hk := hk.t hb; clear hb)
      | (go_at_call 20; refine (goes27_any _).mono ?_; rintro e w1 ⟨rfl, hb⟩; replace hk := hk.t hb; clear hb))
    go_ret
    exact ⟨rfl, hk⟩
end Go.Proofs.Ythmhdegndoodmaa
