/- The walk of MachinePlays. -/
import Derived.Test.YthmhdegndoodmaaN5
import Derived.Test.YthmhdegndoodmaaN7
import Derived.Test.YthmhdegndoodmaaN8
import Derived.Test.YthmhdegndoodmaaN9
import Derived.Test.YthmhdegndoodmaaRowP
namespace Go.Proofs.Ythmhdegndoodmaa
open Go.ChangeShapes Go.WideShapes Go.ChangeAt Go.RowKit
set_option linter.unusedVariables false

/-- two ways that meet again -/
theorem meet3 {α β γ : Type} (R : α → β → γ → Prop) {G : α → β → γ → Prop} {A B : Prop} (hA : (∀ x y z, R x y z → G x y z) → A) (hB : (∀ x y z, R x y z → G x y z) → B) (hG : ∀ x y z, R x y z → G x y z) : A ∧ B := ⟨hA hG, hB hG⟩
theorem RT.keepO {own : Nat → Prop} {w w' : World} {v : Value} {tags : List Int} (h : RT w v tags) (hk : Keep own w w') (hn : ∀ k, v.ownBlock = some k → ¬ own k) : RT w' v tags := by
  obtain ⟨A, c, rfl, hr, ht⟩ := h
  have hne : ∀ b off, A = some ⟨b, off, none⟩ → ¬ own b := by
    rintro b off rfl
    exact hn b rfl
  exact ⟨A, c, rfl, hk.row1 hr hne, ht.keep hk fun _ => hne⟩

theorem plays_goes (l a p : Int) (A : Option Addr) (N c : Nat) (A2 : Option Addr) (M c2 : Nat) (w : World) (h : 50 < N ∨ 100 < M) :
    Calls Try.prog 9 #[.int .i64 l, .agg #[.int .i64 a, .int .i64 p, .slice A N c], .slice A2 M c2] w fun e w' => e = .returned (.bool true) ∧ KW w w' := by
  have hk := (KW.refl w).alloc (.cells #[.int .i64 a, .int .i64 p, .slice A N c] 42)
  by_cases h0 : (50 : Int) < (N : Int)
  · clear h
    go_enter Try.func9, Try.ntmps9
    go_wp2_with (go_at_call 20; refine (goes27_any _).mono ?_; rintro e w1 ⟨rfl, hb⟩; replace hk := hk.t hb; clear hb)
    go_ret
    exact ⟨rfl, hk⟩
  have d0 : decide ((50 : Int) < (N : Int)) = false := decide_eq_false h0
  have d1 : (100 : Int) < (M : Int) := by omega
  clear h h0
  go_enter Try.func9, Try.ntmps9
  go_wp2_with (go_at_call 20; refine (goes27_any _).mono ?_; rintro e w1 ⟨rfl, hb⟩; replace hk := hk.t hb; clear hb)
  go_ret
  exact ⟨rfl, hk⟩

set_option maxRecDepth 100000 in
set_option maxHeartbeats 1000000 in
theorem plays_bad (l a p : Int) (A : Option Addr) (N c : Nat) (tags : List Int) (A2 : Option Addr) (M c2 : Nat) (w : World) (hN : N ≤ 50) (hM : M ≤ 100) (hl : tags.length = N) (hr : Row1 w A N fun i => .int .i64 (tags.getD i 0))
    (h : ¬ (0 ≤ l ∧ l < 65536) ∨ 1048576 < N ∨ a = -1 ∨ offB l a = true ∨ offB l p = true ∨ ∃ i, i < N ∧ offB l (tags.getD i 0) = true) :
    Calls Try.prog 9 #[.int .i64 l, .agg #[.int .i64 a, .int .i64 p, .slice A N c], .slice A2 M c2] w fun e w' => e = .returned (.bool true) ∧ KW w w' := by
  have HA := hid (fun W (hk : KW w W) => at_no l a p N c tags A W hl (hr.k hk) h)
  have HB := hid (fun W (hk : KW w W) => rat_no l a p N c tags A W hl (hr.k hk) h)
  have d0 : decide ((50 : Int) < (N : Int)) = false := decide_eq_false (by omega)
  have d1 : decide ((100 : Int) < (M : Int)) = false := decide_eq_false (by omega)
  clear h hr hl
  have hk := (KW.refl w).alloc (.cells #[.int .i64 a, .int .i64 p, .slice A N c] 42)
  have s0 : (w.alloc (.cells #[.int .i64 a, .int .i64 p, .slice A N c] 42)).cell? ⟨w.heap.size, 0, none⟩ = some (.int .i64 a) := by go_simp
  have s1 : (w.alloc (.cells #[.int .i64 a, .int .i64 p, .slice A N c] 42)).cell? ⟨w.heap.size, 1, none⟩ = some (.int .i64 p) := by go_simp
  have s2 : (w.alloc (.cells #[.int .i64 a, .int .i64 p, .slice A N c] 42)).cell? ⟨w.heap.size, 2, none⟩ = some (.slice A N c) := by go_simp
  have HS := hid (And.intro s0 (And.intro s1 s2))
  clear s0 s1 s2
  go_enter Try.func9, Try.ntmps9
  go_wp2_with fail
  refine (HA.out _ hk).mono ?_
  rintro e w1 ⟨rfl, hb⟩
  have s0 := KW.cell hb (by simp) HS.out.1
  have s1 := KW.cell hb (by simp) HS.out.2.1
  have s2 := KW.cell hb (by simp) HS.out.2.2
  replace hk := hk.t hb
  clear hb HS
  go_wp2_with fail
  refine (HB.out _ hk).mono ?_
  rintro e w2 ⟨rfl, hb⟩
  replace hk := (hk.t hb).alloc (.cells #[.int .i64 0, .int .i64 0, .int .i64 0, .slice none 0 0, .int .i64 0] 49)
  clear hb s0 s1 s2
  go_wp2_with (go_at_call 20; refine (goes27_any _).mono ?_; rintro e w1 ⟨rfl, hb⟩; replace hk := hk.t hb; clear hb)
  go_ret
  exact ⟨rfl, hk⟩

set_option maxRecDepth 100000 in
set_option maxHeartbeats 4000000 in
theorem plays_in (l a p : Int) (A : Option Addr) (c : Nat) (tags : List Int) (A2 : Option Addr) (c2 : Nat) (list : List Mc.Act) (w : World) (l0 : 0 ≤ l) (l1 : l < 65536) (a0 : 0 ≤ a) (a1 : a ≤ l) (p0 : -1 ≤ p) (p1 : p ≤ l) (hl : tags.length ≤ 50) (ht : ∀ x ∈ tags, -1 ≤ x ∧ x ≤ l) (hz : A = none → c = 0)
    (hr : Row1 w A tags.length fun i => .int .i64 (tags.getD i 0)) (hlen : list.length ≤ 100) (hA : Acts w A2 list) :
    Calls Try.prog 9 #[.int .i64 l, .agg #[.int .i64 a, .int .i64 p, .slice A tags.length c], .slice A2 list.length c2] w fun e w' => e = .returned (.bool true) ∧ KW w w' := by
  have HAt := hid (fun W (h : KW w W) => at_yes l a p tags (.slice A tags.length c) W l0 l1 a0 a1 p0 p1 (by omega) ht ⟨A, c, rfl, hz, hr.k h⟩)
  have HRt := hid (fun W (h : KW w W) => rat_yes l a p tags A c W l0 l1 a0 a1 p0 p1 (by omega) (fun i hi => ht _ (by rw [List.getD_eq_getElem?_getD, List.getElem?_eq_getElem hi]; exact List.getElem_mem hi)) (hr.k h))
  have HA := hid hA
  have HI : Hid (Mc.Inv ⟨l, a, p, 0, tags⟩) := hid ⟨l0, by show l ≤ 65535; omega, a0, a1, p0, p1, ht, by show tags.length ≤ 1048576; omega, by show (0 : Int) ≤ 0; omega⟩
  have HT := hid (show (⟨l, a, p, 0, tags⟩ : Mc.St).tot = 0 from rfl)
  have HTn := hid (show (⟨l, a, p, 0, tags⟩ : Mc.St).tags.length ≤ 50 from hl)
  clear hA ht hr
  generalize (⟨l, a, p, 0, tags⟩ : Mc.St) = m0 at *
  generalize tags.length = N at *
  generalize hN : list.length = M at *
  have HL := hid hN
  clear hN
  have d0 : decide ((50 : Int) < (N : Int)) = false := decide_eq_false (by omega)
  have d1 : decide ((100 : Int) < (M : Int)) = false := decide_eq_false (by omega)
  have hk := (KW.refl w).alloc (.cells #[.int .i64 a, .int .i64 p, .slice A N c] 42)
  have s0 : (w.alloc (.cells #[.int .i64 a, .int .i64 p, .slice A N c] 42)).cell? ⟨w.heap.size, 0, none⟩ = some (.int .i64 a) := by go_simp
  have s1 : (w.alloc (.cells #[.int .i64 a, .int .i64 p, .slice A N c] 42)).cell? ⟨w.heap.size, 1, none⟩ = some (.int .i64 p) := by go_simp
  have s2 : (w.alloc (.cells #[.int .i64 a, .int .i64 p, .slice A N c] 42)).cell? ⟨w.heap.size, 2, none⟩ = some (.slice A N c) := by go_simp
  have HS := hid (And.intro s0 (And.intro s1 s2))
  clear s0 s1 s2 a0 a1 p0 p1
  unfold NewP at HAt
  unfold RNewP at HRt
  go_enter Try.func9, Try.ntmps9
  go_wp2_with fail
  refine (HAt.out _ hk).mono ?_
  rintro e w1 ⟨b, mv, rfl, hm, ho, hb⟩
  have s0 := KW.cell hb (by simp) HS.out.1
  have s1 := KW.cell hb (by simp) HS.out.2.1
  have s2 := KW.cell hb (by simp) HS.out.2.2
  have HO := hid (fun k hk' => Nat.le_trans hk.size (ho k hk') : ∀ k, mo b mv k → w.heap.size ≤ k)
  have HK1 := hid (hk.t hb)
  have HM1 := hid hm
  clear hb HS hk hm ho
  go_wp2_with fail
  refine (HRt.out _ HK1.out).mono ?_
  rintro e w2 ⟨v0, rfl, ho, hk2⟩
  have HR0 := hid ho.rt
  have HD0 := hid (fun k h1 h2 => absurd (HM1.out.lt h2) (Nat.not_lt_of_le (ho.lt h1).1) : ∀ k, v0.ownBlock = some k → ¬ mo b mv k)
  have HK := hid (HK1.out.t hk2)
  have HM2 := hid (HM1.out.kw hk2)
  have HB2 := hid (fun k h2 => Nat.lt_of_lt_of_le (HM1.out.lt h2) hk2.size : ∀ k, mo b mv k → k < w2.heap.size)
  obtain ⟨A0, c0, hv0, hz0⟩ := ho.row
  clear hz0 s0 s1 s2
  subst hv0
  clear ho hk2
  unfold rm
  go_wp2_with fail
  refine wpCode_world (fun W => KW w W ∧ w.heap.size ≤ w2.heap.size ∧ RT W (.slice A0 (ints m0.tags).length c0) m0.tags ∧ Mach W b mv m0 ∧ (¬ mo b mv w2.heap.size) ∧ W.rowIs w2.heap.size 49 5 (rmf m0 (.slice A0 (ints m0.tags).length c0))) ⟨HK.out.alloc _, HK.out.size, HR0.out.kw ((KW.refl w2).alloc _), HM2.out.kw ((KW.refl w2).alloc _), fun h => absurd (HB2.out _ h) (Nat.lt_irrefl _), World.rowIs_alloc w2 (rm m0 (.slice A0 (ints m0.tags).length c0)) 49 _ (rm_get _ _)⟩ ?_
  rintro W1 ⟨hk, hmb, hrt, hmm, hnb, hrow⟩
  have HK1 := hid hk
  have HMB := hid hmb
  have HRT := hid hrt
  have HROW := hid hrow
  have HMM := hid hmm
  have HNB := hid hnb
  clear hk hrt hrow hmb hmm hnb HK HR0 HM2 HB2 HM1
  generalize w2.heap.size = mb at *
  go_loopw [11] (fun i wr => ∃ (k : Nat) (m : Mc.St) (v : Value), k ≤ M ∧ i = .int .i64 k ∧ Hid (wr.rowIs mb 49 5 (rmf m v)) ∧ Hid (RT wr v m.tags) ∧ Hid (Mach wr b mv m) ∧ Hid (∀ k, v.ownBlock = some k → ¬ mo b mv k) ∧ Hid (Mc.Inv m) ∧ Hid (m.tot ≤ 65535 * k) ∧ Hid (m.tags.length ≤ 50) ∧ Hid (KW w wr)) (fun i _ => M - (intOf i).toNat)
  case atStart => exact ⟨0, m0, _, by omega, rfl, HROW, HRT, HMM, HD0, HI, by show _ ≤ _; rw [HT.out]; simp, HTn, HK1⟩
  case round =>
    obtain ⟨k, m, v, hk, rfl, HROW1, HRT1, HM1, HD1, HI1, HT1, HN1, HK2⟩ := hrel
    clear HROW HRT HMM HD0 HI HT HTn HK1
    by_cases hlt : k < M
    · obtain ⟨b', off, rfl, hb', hc1, hc2⟩ := HA.out.at_ (show k < list.length by rw [HL.out]; exact hlt)
      generalize (list.getD k (0, 0)).1 = x at *
      generalize (list.getD k (0, 0)).2 = y at *
      have HD := hid (fun W (h : RT W v m.tags) => rdo_any m x y v W h HI1.out (by have := HT1.out; omega))
      have HDo := hid (fun W (h : Mach W b mv m) => do_any m x y b mv W h HI1.out (by have := HT1.out; omega))
      have HI2 := hid (HI1.out.step x y)
      have HT2 : Hid ((Mc.step m x y).1.tot ≤ 65535 * ((k + 1 : Nat) : Int)) := by
        have h1 := (Mc.step_tot m x y).2
        have h2 := HT1.out
        show _ ≤ _
        omega
      have HN2 : Hid ((Mc.step m x y).1.tags.length ≤ 50) := hid (by rw [Mc.step_len m x y]; exact HN1.out)
      generalize (Mc.step m x y).1 = m2 at *
      generalize (Mc.step m x y).2 = er at *
      have L5 : (k : Int) < (M : Int) := by omega
      have r0 := HROW1.out.cell (i := 0) (by omega)
      have r1 := HROW1.out.cell (i := 1) (by omega)
      have r2 := HROW1.out.cell (i := 2) (by omega)
      have r3 := HROW1.out.cell (i := 3) (by omega)
      have r4 := HROW1.out.cell (i := 4) (by omega)
      have l1 := KW.cell HK2.out hb' hc1
      have l2 := KW.cell HK2.out hb' hc2
      have HBR := hid (Nat.lt_of_lt_of_le hb' HK2.out.size)
      have HBO := hid (fun h => absurd (HO.out _ h) (Nat.not_le_of_lt hb') : ¬ mo b mv b')
      have HW := hid HK2.out.size
      have HBM := hid (Nat.lt_of_lt_of_le hb' HMB.out)
      obtain ⟨A1, c1, hv1, _⟩ := HRT1.out
      obtain ⟨la, aa, pa, ta, tags⟩ := m
      simp only [rmf, rm, List.getD_cons_succ, List.getD_cons_zero] at r0 r1 r2 r3 r4
      simp only at hv1
      subst hv1
      simp only [rm] at HD
      generalize hM : tags.length = TL at *
      clear hM
      clear hc1 hc2 hb'
      go_wp2_with fail
      have hXS := And.intro r0 (And.intro r1 (And.intro r2 (And.intro r3 (And.intro r4 (And.intro l1 l2)))))
      have HX := hid hXS
      have hq := KW.refl wr
      clear r0 r1 r2 r3 r4 l1 l2
      have HSS := hid (fun w' (hq : KW wr w') => And.intro (KW.cell hq HROW1.out.lt HX.out.1) (And.intro (KW.cell hq HROW1.out.lt HX.out.2.1) (And.intro (KW.cell hq HROW1.out.lt HX.out.2.2.1) (And.intro (KW.cell hq HROW1.out.lt HX.out.2.2.2.1) (And.intro (KW.cell hq HROW1.out.lt HX.out.2.2.2.2.1) (And.intro (KW.cell hq HBR.out HX.out.2.2.2.2.2.1) (KW.cell hq HBR.out HX.out.2.2.2.2.2.2)))))))
      refine wpX_region (S := fun w' => w'.cell? ⟨mb, 0, none⟩ = some (.int .i64 la) ∧ w'.cell? ⟨mb, 1, none⟩ = some (.int .i64 aa) ∧ w'.cell? ⟨mb, 2, none⟩ = some (.int .i64 pa) ∧ w'.cell? ⟨mb, 3, none⟩ = some (.slice A1 TL c1) ∧ w'.cell? ⟨mb, 4, none⟩ = some (.int .i64 ta) ∧ w'.cell? ⟨b', off + k * 2, none⟩ = some (.int .i64 x) ∧ w'.cell? ⟨b', off + k * 2 + 1, none⟩ = some (.int .i64 y)) (L := 99) (by kernel_rfl) ?_
      refine wpX_take (i := 0) (v := ?_) rfl rfl (by kernel_rfl) (fun _ _ _ h => h) (Or.inl ⟨rfl, fun wS hwS => ?_⟩) hXS ?_
      rotate_left
      · go_simp; try rfl
      simp only [List.set_cons_zero, List.set_cons_succ]
      refine wpX_take (i := 1) (v := ?_) rfl rfl (by kernel_rfl) (fun _ _ _ h => h) (Or.inl ⟨rfl, fun wS hwS => ?_⟩) hXS ?_
      rotate_left
      · go_simp; try rfl
      simp only [List.set_cons_zero, List.set_cons_succ]
      refine wpX_take (i := 2) (v := ?_) rfl rfl (by kernel_rfl) (fun _ _ _ h => h) (Or.inl ⟨rfl, fun wS hwS => ?_⟩) hXS ?_
      rotate_left
      · go_simp; try rfl
      simp only [List.set_cons_zero, List.set_cons_succ]
      refine wpX_take (i := 3) (v := ?_) rfl rfl (by kernel_rfl) (fun _ _ _ h => h) (Or.inl ⟨rfl, fun wS hwS => ?_⟩) hXS ?_
      rotate_left
      · go_simp; try rfl
      simp only [List.set_cons_zero, List.set_cons_succ]
      refine wpX_take (i := 4) (v := ?_) rfl rfl (by kernel_rfl) (fun _ _ _ h => h) (Or.inl ⟨rfl, fun wS hwS => ?_⟩) hXS ?_
      rotate_left
      · go_simp; try rfl
      simp only [List.set_cons_zero, List.set_cons_succ]
      clear hXS
      apply wpX_both (i := 5) (j := 9) (by kernel_rfl) rfl rfl
      apply meet3 (fun (g : Nat) (v2 : Value) (W3 : World) => wr.heap.size ≤ g ∧ RT W3 v2 m2.tags ∧ (∀ k, v2.ownBlock = some k → ¬ mo b mv k) ∧ KW wr W3 ∧ W3.rowIs g 49 5 (rmf m2 v2))
      · intro hG K hK
        go_simp
        refine (HD.out _ (HRT1.out.kw hq.drew)).mono ?_
        rintro e W4 ⟨v2, rfl, hr2, hor, hb⟩
        have HQ4 : Hid (KW wr W4) := hq.drew.t hb
        have HR4 := hid hr2
        have HD2 : Hid (∀ k, v2.ownBlock = some k → ¬ mo b mv k) := by
          rcases hor with rfl | hor
          · exact HD1
          · exact fun k h1 h2 => absurd (HM1.out.lt h2) (Nat.not_lt_of_le (hor k h1))
        clear hb hr2 hor
        refine hK _ _ (fun _ => HSS.out _ HQ4.out) ?_
        clear hK K
        try simp only [List.set_cons_zero, List.set_cons_succ]
        have hXS := HSS.out _ HQ4.out
        refine wpX_take (i := 6) (v := ?_) rfl rfl (by kernel_rfl) (fun _ _ _ h => h) (Or.inl ⟨rfl, fun wS hwS => ?_⟩) hXS ?_
        rotate_left
        · go_simp; try rfl
        simp only [List.set_cons_zero, List.set_cons_succ]
        refine wpX_take (i := 7) (v := ?_) rfl rfl (by kernel_rfl) (fun _ _ _ h => h) (Or.inl ⟨rfl, fun wS hwS => ?_⟩) hXS ?_
        rotate_left
        · go_simp; try rfl
        simp only [List.set_cons_zero, List.set_cons_succ]
        refine wpX_take (i := 8) (v := ?_) rfl rfl (by kernel_rfl) (fun _ _ _ h => h) (Or.inl ⟨rfl, fun wS hwS => ?_⟩) hXS ?_
        rotate_left
        · go_simp; try rfl
        simp only [List.set_cons_zero, List.set_cons_succ]
        refine wpX_hard (k := 9) (by kernel_rfl) rfl (fun K hK => ?_)
        go_simp
        refine hK _ _ (fun _ => HSS.out _ (HQ4.out.alloc _)) ?_
        clear hK K
        try simp only [List.set_cons_zero, List.set_cons_succ]
        clear hXS
        have HR2 := hid (HR4.out.kw ((KW.refl W4).alloc (.cells #[.int .i64 0, .int .i64 0, .int .i64 0, .slice none 0 0, .int .i64 0] 49)))
        have HG2 : Hid ((W4.alloc (.cells #[.int .i64 0, .int .i64 0, .int .i64 0, .slice none 0 0, .int .i64 0] 49)).rowIs W4.heap.size 49 5 (fun i => [.int .i64 0, .int .i64 0, .int .i64 0, .slice none 0 0, .int .i64 0].getD i undef)) := World.rowIs_alloc W4 #[.int .i64 0, .int .i64 0, .int .i64 0, .slice none 0 0, .int .i64 0] 49 _ fun i hi => by simp at hi; simp [hi]
        have HGB : Hid (wr.heap.size ≤ W4.heap.size) := HQ4.out.size
        have HQ2 := hid (HQ4.out.alloc (.cells #[.int .i64 0, .int .i64 0, .int .i64 0, .slice none 0 0, .int .i64 0] 49))
        refine wpX_store_is (k := 10) (by kernel_rfl) rfl rfl rfl 49 _ _ rfl W4.heap.size 5 49 _ (rmf m2 v2) (rm m2 v2) rfl rfl HG2.out (by kernel_rfl) rfl (rm_get m2 v2) (rm_one HR2.out.one) ?_
        intro W3 hrow3 _ hkeep3
        have HKQ : Hid (KW wr W3) := HQ2.out.kept hkeep3 fun i hi => by have := HGB.out; omega
        refine ⟨fun _ => HSS.out _ HKQ.out, ?_⟩
        have hfin : wr.heap.size ≤ W4.heap.size ∧ RT W3 v2 m2.tags ∧ (∀ k, v2.ownBlock = some k → ¬ mo b mv k) ∧ KW wr W3 ∧ W3.rowIs W4.heap.size 49 5 (rmf m2 v2) := ⟨HGB.out, HR2.out.keepM HG2.out hkeep3, HD2.out, HKQ.out, hrow3⟩
        revert hfin
        clear HR2 HG2 HGB HQ2 HQ4 HR4 hkeep3 hrow3
        generalize W4.heap.size = g
        intro hfin
        exact hG g v2 W3 hfin
      · intro hG K hK
        go_simp
        refine hK _ _ (fun _ => HSS.out _ (hq.alloc _).drew) ?_
        clear hK K
        try simp only [List.set_cons_zero, List.set_cons_succ]
        have hXS := HSS.out _ (hq.alloc (.cells #[.int .i64 0, .int .i64 0, .int .i64 0, .slice none 0 0, .int .i64 0] 49)).drew
        refine wpX_hard (k := 5) (by kernel_rfl) rfl (fun K hK => ?_)
        go_simp
        refine (HD.out _ (HRT1.out.kw (hq.alloc (.cells #[.int .i64 0, .int .i64 0, .int .i64 0, .slice none 0 0, .int .i64 0] 49)).drew)).mono ?_
        rintro e W4 ⟨v2, rfl, hr2, hor, hb⟩
        have HQ2 : Hid (KW wr W4) := (hq.alloc (.cells #[.int .i64 0, .int .i64 0, .int .i64 0, .slice none 0 0, .int .i64 0] 49)).drew.t hb
        have HR2 := hid hr2
        have HD2 : Hid (∀ k, v2.ownBlock = some k → ¬ mo b mv k) := by
          rcases hor with rfl | hor
          · exact HD1
          · exact fun k h1 h2 => absurd (Nat.lt_of_lt_of_le (HM1.out.lt h2) (by simp)) (Nat.not_lt_of_le (hor k h1))
        have HG2 : Hid (W4.rowIs wr.heap.size 49 5 (fun i => [.int .i64 0, .int .i64 0, .int .i64 0, .slice none 0 0, .int .i64 0].getD i undef)) := KW.row hb (by simp) (World.rowIs_alloc wr #[.int .i64 0, .int .i64 0, .int .i64 0, .slice none 0 0, .int .i64 0] 49 _ fun i hi => by simp at hi; simp [hi])
        clear hb hr2 hor
        refine hK _ _ (fun _ => HSS.out _ HQ2.out) ?_
        clear hK K
        try simp only [List.set_cons_zero, List.set_cons_succ]
        clear hXS
        have hXS := HSS.out _ HQ2.out
        refine wpX_take (i := 6) (v := ?_) rfl rfl (by kernel_rfl) (fun _ _ _ h => h) (Or.inl ⟨rfl, fun wS hwS => ?_⟩) hXS ?_
        rotate_left
        · go_simp; try rfl
        simp only [List.set_cons_zero, List.set_cons_succ]
        refine wpX_take (i := 7) (v := ?_) rfl rfl (by kernel_rfl) (fun _ _ _ h => h) (Or.inl ⟨rfl, fun wS hwS => ?_⟩) hXS ?_
        rotate_left
        · go_simp; try rfl
        simp only [List.set_cons_zero, List.set_cons_succ]
        refine wpX_take (i := 8) (v := ?_) rfl rfl (by kernel_rfl) (fun _ _ _ h => h) (Or.inl ⟨rfl, fun wS hwS => ?_⟩) hXS ?_
        rotate_left
        · go_simp; try rfl
        simp only [List.set_cons_zero, List.set_cons_succ]
        clear hXS
        refine wpX_store_is (k := 10) (by kernel_rfl) rfl rfl rfl 49 _ _ rfl wr.heap.size 5 49 _ (rmf m2 v2) (rm m2 v2) rfl rfl HG2.out (by kernel_rfl) rfl (rm_get m2 v2) (rm_one HR2.out.one) ?_
        intro W3 hrow3 _ hkeep3
        have HKQ : Hid (KW wr W3) := HQ2.out.kept hkeep3 fun i hi => by omega
        refine ⟨fun _ => HSS.out _ HKQ.out, ?_⟩
        exact hG wr.heap.size v2 W3 ⟨Nat.le_refl _, HR2.out.keepM HG2.out hkeep3, HD2.out, HKQ.out, hrow3⟩
      intro g v2 W3 hfin
      obtain ⟨hg, hr3, hd3, hkq, hrow3⟩ := hfin
      have HG := hid hg
      have HR3 := hid hr3
      have HD3 := hid hd3
      have HKQ := hid hkq
      have HROWg := hid hrow3
      clear hg hr3 hd3 hkq hrow3
      have hXS := HSS.out _ HKQ.out
      refine wpX_take (i := 11) (v := ?_) rfl rfl (by kernel_rfl) (fun _ _ _ h => h) (Or.inl ⟨rfl, fun wS hwS => ?_⟩) hXS ?_
      rotate_left
      · go_simp; try rfl
      simp only [List.set_cons_zero, List.set_cons_succ]
      refine wpX_done (by kernel_rfl) ?_
      have HKW := hid (HK2.out.t HKQ.out)
      have HROW3 := hid (KW.row HKQ.out HROW1.out.lt HROW1.out)
      clear hXS
      have HM3 := hid (HM1.out.kw HKQ.out)
      have HWg := hid (whole HROWg.out)
      go_wp2_with (first
        | (refine wpList_load_row rfl 49 _ rfl g rfl 49 (rm m2 v2) (0, 0) _ HWg.out Try.underlying49 rfl (by kernel_rfl) ?_)
        | (refine wpList_store_is rfl 49 _ _ rfl mb 5 49 _ (rmf m2 v2) (rm m2 v2) rfl rfl HROW3.out (by kernel_rfl) rfl (rm_get m2 v2) (rm_one HR3.out.one) ?_))
      intro W4 hrow4 hkeep4 _
      have HR4 := hid (HR3.out.keepM HROW3.out hkeep4)
      have HM4 := hid (HM3.out.keep hkeep4 fun k h1 h2 => HNB.out (h2 ▸ h1))
      have HK4 : Hid (KW w W4) := HKW.out.kept hkeep4 fun i hi => by have := HMB.out; omega
      have e1 := (hkeep4.cell (o := off + k * 2) (Nat.lt_of_lt_of_le HBR.out HKQ.out.size) (Nat.ne_of_lt HBM.out)).trans (KW.cell HKQ.out HBR.out HX.out.2.2.2.2.2.1)
      have e2 := (hkeep4.cell (o := off + k * 2 + 1) (Nat.lt_of_lt_of_le HBR.out HKQ.out.size) (Nat.ne_of_lt HBM.out)).trans (KW.cell HKQ.out HBR.out HX.out.2.2.2.2.2.2)
      have hb4 : b' < W4.heap.size := Nat.lt_of_lt_of_le (Nat.lt_of_lt_of_le HBR.out HKQ.out.size) hkeep4.size
      obtain ⟨A3, c3, hv3, _⟩ := HR4.out
      subst hv3
      have s1 := hrow4.cell (i := 1) (by omega)
      have s2 := hrow4.cell (i := 2) (by omega)
      have s3 := hrow4.cell (i := 3) (by omega)
      have s4 := hrow4.cell (i := 4) (by omega)
      simp only [rmf, rm, List.getD_cons_succ, List.getD_cons_zero] at s1 s2 s3 s4
      have HROW4 := hid hrow4
      have HE := hid (And.intro hb4 (And.intro e1 e2))
      clear hrow4 hkeep4 hb4 HROWg HWg HROW3 HM3 HSS HX HR3 HRT1 HKQ HROW1 HKW
      go_wp2_with fail
      have hXS := And.intro s1 (And.intro s2 (And.intro s3 (And.intro s4 HE.out.2)))
      have HX := hid hXS
      refine wpX_region (S := fun w' => w'.cell? ⟨mb, 1, none⟩ = some (.int .i64 m2.at_) ∧ w'.cell? ⟨mb, 2, none⟩ = some (.int .i64 m2.pend) ∧ w'.cell? ⟨mb, 3, none⟩ = some (.slice A3 m2.tags.length c3) ∧ w'.cell? ⟨mb, 4, none⟩ = some (.int .i64 m2.tot) ∧ w'.cell? ⟨b', off + k * 2, none⟩ = some (.int .i64 x) ∧ w'.cell? ⟨b', off + k * 2 + 1, none⟩ = some (.int .i64 y)) (L := 99) (by kernel_rfl) ?_
      refine wpX_take (i := 0) (v := ?_) rfl rfl (by kernel_rfl) (fun _ _ _ h => h) (Or.inl ⟨rfl, fun wS hwS => ?_⟩) hXS ?_
      rotate_left
      · go_simp; try rfl
      simp only [List.set_cons_zero, List.set_cons_succ]
      refine wpX_take (i := 1) (v := ?_) rfl rfl (by kernel_rfl) (fun _ _ _ h => h) (Or.inl ⟨rfl, fun wS hwS => ?_⟩) hXS ?_
      rotate_left
      · go_simp; try rfl
      simp only [List.set_cons_zero, List.set_cons_succ]
      refine wpX_take (i := 2) (v := ?_) rfl rfl (by kernel_rfl) (fun _ _ _ h => h) (Or.inl ⟨rfl, fun wS hwS => ?_⟩) hXS ?_
      rotate_left
      · go_simp; try rfl
      simp only [List.set_cons_zero, List.set_cons_succ]
      refine wpX_take (i := 3) (v := ?_) rfl rfl (by kernel_rfl) (fun _ _ _ h => h) (Or.inl ⟨rfl, fun wS hwS => ?_⟩) hXS ?_
      rotate_left
      · go_simp; try rfl
      simp only [List.set_cons_zero, List.set_cons_succ]
      refine wpX_take (i := 4) (v := ?_) rfl rfl (by kernel_rfl) (fun _ _ _ h => h) (Or.inl ⟨rfl, fun wS hwS => ?_⟩) hXS ?_
      rotate_left
      · go_simp; try rfl
      simp only [List.set_cons_zero, List.set_cons_succ]
      refine wpX_take (i := 6) (v := ?_) rfl rfl (by kernel_rfl) (fun _ _ _ h => h) (Or.inl ⟨rfl, fun wS hwS => ?_⟩) hXS ?_
      rotate_left
      · go_simp; try rfl
      simp only [List.set_cons_zero, List.set_cons_succ]
      clear hXS
      refine wpX_hard (k := 5) (by kernel_rfl) rfl (fun K hK => ?_)
      go_simp
      refine (HDo.out _ (HM4.out.kw (KW.refl W4).drew)).mono ?_
      rintro e W8 ⟨rfl, hm8, hk8⟩
      have hXS : W8.cell? ⟨mb, 1, none⟩ = some (.int .i64 m2.at_) ∧ W8.cell? ⟨mb, 2, none⟩ = some (.int .i64 m2.pend) ∧ W8.cell? ⟨mb, 3, none⟩ = some (.slice A3 m2.tags.length c3) ∧ W8.cell? ⟨mb, 4, none⟩ = some (.int .i64 m2.tot) ∧ W8.cell? ⟨b', off + k * 2, none⟩ = some (.int .i64 x) ∧ W8.cell? ⟨b', off + k * 2 + 1, none⟩ = some (.int .i64 y) :=
        ⟨(hk8.cell HROW4.out.lt HNB.out).trans HX.out.1, (hk8.cell HROW4.out.lt HNB.out).trans HX.out.2.1, (hk8.cell HROW4.out.lt HNB.out).trans HX.out.2.2.1, (hk8.cell HROW4.out.lt HNB.out).trans HX.out.2.2.2.1, (hk8.cell HE.out.1 HBO.out).trans HX.out.2.2.2.2.1, (hk8.cell HE.out.1 HBO.out).trans HX.out.2.2.2.2.2⟩
      have HX8 := hid hXS
      have HM8 := hid hm8
      have HK8 := hid (HK4.out.drew.kept hk8 HO.out)
      have HR8 := hid ((HR4.out.kw (KW.refl W4).drew).keepO hk8 HD3.out)
      have HROW8 := hid (hk8.row (w := W4.drew) HNB.out HROW4.out)
      have HL8 := hid (Nat.lt_of_lt_of_le HE.out.1 hk8.size)
      have HSS := hid (fun w' (hq : KW W8 w') => And.intro (KW.cell hq HROW8.out.lt HX8.out.1) (And.intro (KW.cell hq HROW8.out.lt HX8.out.2.1) (And.intro (KW.cell hq HROW8.out.lt HX8.out.2.2.1) (And.intro (KW.cell hq HROW8.out.lt HX8.out.2.2.2.1) (And.intro (KW.cell hq HL8.out HX8.out.2.2.2.2.1) (KW.cell hq HL8.out HX8.out.2.2.2.2.2))))))
      have HSp := hid (fun W (h : Mach W b mv m2) => spot_any m2 b mv W h (by have := HN2.out; omega))
      have HTo := hid (fun W (h : Mach W b mv m2) => total_any m2 b mv W h)
      have HDn := hid (fun W (h : Mach W b mv m2) => done_any m2 b mv W h)
      have HSa := hid (fun W v1 v2 (h1 : RT0 W v1 m2.tags) (h2 : RT0 W v2 m2.tags) => rsame_true m2.at_ m2.pend v1 v2 m2.tags W (by have := HN2.out; omega) h1 h2)
      unfold SpotP at HSp
      clear hm8 hk8
      refine hK _ _ (fun _ => hXS) ?_
      clear hK K
      try simp only [List.set_cons_zero, List.set_cons_succ]
      refine wpX_take (i := 7) (v := ?_) rfl rfl (by kernel_rfl) (fun _ _ _ h => h) (Or.inl ⟨rfl, fun wS hwS => ?_⟩) hXS ?_
      rotate_left
      · go_simp; try rfl
      simp only [List.set_cons_zero, List.set_cons_succ]
      refine wpX_take (i := 8) (v := ?_) rfl rfl (by kernel_rfl) (fun _ _ _ h => h) (Or.inl ⟨rfl, fun wS hwS => ?_⟩) hXS ?_
      rotate_left
      · go_simp; try rfl
      simp only [List.set_cons_zero, List.set_cons_succ]
      refine wpX_take (i := 9) (v := ?_) rfl rfl (by kernel_rfl) (fun _ _ _ h => h) (Or.inl ⟨rfl, fun wS hwS => ?_⟩) hXS ?_
      rotate_left
      · go_simp; try rfl
      simp only [List.set_cons_zero, List.set_cons_succ]
      refine wpX_take (i := 11) (v := ?_) rfl rfl (by kernel_rfl) (fun _ _ _ h => h) (Or.inl ⟨rfl, fun wS hwS => ?_⟩) hXS ?_
      rotate_left
      · go_simp; try rfl
      simp only [List.set_cons_zero, List.set_cons_succ]
      refine wpX_take (i := 12) (v := ?_) rfl rfl (by kernel_rfl) (fun _ _ _ h => h) (Or.inl ⟨rfl, fun wS hwS => ?_⟩) hXS ?_
      rotate_left
      · go_simp; try rfl
      simp only [List.set_cons_zero, List.set_cons_succ]
      refine wpX_hard (k := 10) (by kernel_rfl) rfl (fun K hK => ?_)
      go_simp
      refine (HSp.out _ HM8.out).mono ?_
      rintro e W9 ⟨va, rfl, hoa, hka⟩
      obtain ⟨Aa, ka, hva, hza⟩ := hoa.row
      clear hza
      subst hva
      have HRa := hid hoa.rt.rt0
      have HKa := hid hka
      clear hoa hka
      refine hK _ _ (fun _ => HSS.out _ HKa.out) ?_
      clear hK K
      try simp only [List.set_cons_zero, List.set_cons_succ]
      refine wpX_hard (k := 13) (by kernel_rfl) rfl (fun K hK => ?_)
      go_simp
      refine (HSa.out _ _ _ HRa.out (HR8.out.kw HKa.out).rt0).mono ?_
      rintro e Wb ⟨rfl, hkb⟩
      have HKb := hid (HKa.out.t hkb)
      clear hkb
      refine hK _ _ (fun _ => HSS.out _ HKb.out) ?_
      clear hK K
      try simp only [List.set_cons_zero, List.set_cons_succ]
      clear hXS
      have hXS := HSS.out _ HKb.out
      refine wpX_take (i := 14) (v := ?_) rfl rfl (by kernel_rfl) (fun _ _ _ h => h) (Or.inl ⟨rfl, fun wS hwS => ?_⟩) hXS ?_
      rotate_left
      · go_simp; try rfl
      simp only [List.set_cons_zero, List.set_cons_succ]
      refine wpX_take (i := 15) (v := ?_) rfl rfl (by kernel_rfl) (fun _ _ _ h => h) (Or.inl ⟨rfl, fun wS hwS => ?_⟩) hXS ?_
      rotate_left
      · go_simp; try rfl
      simp only [List.set_cons_zero, List.set_cons_succ]
      refine wpX_take (i := 16) (v := ?_) rfl rfl (by kernel_rfl) (fun _ _ _ h => h) (Or.inl ⟨rfl, fun wS hwS => ?_⟩) hXS ?_
      rotate_left
      · go_simp; try rfl
      simp only [List.set_cons_zero, List.set_cons_succ]
      refine wpX_take (i := 17) (v := ?_) rfl rfl (by kernel_rfl) (fun _ _ _ h => h) (Or.inl ⟨rfl, fun wS hwS => ?_⟩) hXS ?_
      rotate_left
      · go_simp; try rfl
      simp only [List.set_cons_zero, List.set_cons_succ]
      refine wpX_take (i := 19) (v := ?_) rfl rfl (by kernel_rfl) (fun _ _ _ h => h) (Or.inl ⟨rfl, fun wS hwS => ?_⟩) hXS ?_
      rotate_left
      · go_simp; try rfl
      simp only [List.set_cons_zero, List.set_cons_succ]
      refine wpX_take (i := 20) (v := ?_) rfl rfl (by kernel_rfl) (fun _ _ _ h => h) (Or.inl ⟨rfl, fun wS hwS => ?_⟩) hXS ?_
      rotate_left
      · go_simp; try rfl
      simp only [List.set_cons_zero, List.set_cons_succ]
      refine wpX_hard (k := 18) (by kernel_rfl) rfl (fun K hK => ?_)
      go_simp
      refine (HTo.out _ (HM8.out.kw HKb.out)).mono ?_
      rintro e Wc ⟨rfl, rfl⟩
      refine hK _ _ (fun _ => HSS.out _ HKb.out) ?_
      clear hK K
      try simp only [List.set_cons_zero, List.set_cons_succ]
      refine wpX_take (i := 21) (v := ?_) rfl rfl (by kernel_rfl) (fun _ _ _ h => h) (Or.inl ⟨rfl, fun wS hwS => ?_⟩) hXS ?_
      rotate_left
      · go_simp; try rfl
      simp only [List.set_cons_zero, List.set_cons_succ]
      refine wpX_take (i := 22) (v := ?_) rfl rfl (by kernel_rfl) (fun _ _ _ h => h) (Or.inl ⟨rfl, fun wS hwS => ?_⟩) hXS ?_
      rotate_left
      · go_simp; try rfl
      simp only [List.set_cons_zero, List.set_cons_succ]
      refine wpX_take (i := 23) (v := ?_) rfl rfl (by kernel_rfl) (fun _ _ _ h => h) (Or.inl ⟨rfl, fun wS hwS => ?_⟩) hXS ?_
      rotate_left
      · go_simp; try rfl
      simp only [List.set_cons_zero, List.set_cons_succ]
      refine wpX_take (i := 24) (v := ?_) rfl rfl (by kernel_rfl) (fun _ _ _ h => h) (Or.inl ⟨rfl, fun wS hwS => ?_⟩) hXS ?_
      rotate_left
      · go_simp; try rfl
      simp only [List.set_cons_zero, List.set_cons_succ]
      refine wpX_take (i := 26) (v := ?_) rfl rfl (by kernel_rfl) (fun _ _ _ h => h) (Or.inl ⟨rfl, fun wS hwS => ?_⟩) hXS ?_
      rotate_left
      · go_simp; try rfl
      simp only [List.set_cons_zero, List.set_cons_succ]
      refine wpX_take (i := 27) (v := ?_) rfl rfl (by kernel_rfl) (fun _ _ _ h => h) (Or.inl ⟨rfl, fun wS hwS => ?_⟩) hXS ?_
      rotate_left
      · go_simp; try rfl
      simp only [List.set_cons_zero, List.set_cons_succ]
      refine wpX_take (i := 28) (v := ?_) rfl rfl (by kernel_rfl) (fun _ _ _ h => h) (Or.inl ⟨rfl, fun wS hwS => ?_⟩) hXS ?_
      rotate_left
      · go_simp; try rfl
      simp only [List.set_cons_zero, List.set_cons_succ]
      refine wpX_take (i := 29) (v := ?_) rfl rfl (by kernel_rfl) (fun _ _ _ h => h) (Or.inl ⟨rfl, fun wS hwS => ?_⟩) hXS ?_
      rotate_left
      · go_simp; try rfl
      simp only [List.set_cons_zero, List.set_cons_succ]
      refine wpX_hard (k := 25) (by kernel_rfl) rfl (fun K hK => ?_)
      go_simp
      refine (HDn.out _ (HM8.out.kw HKb.out)).mono ?_
      rintro e Wd ⟨rfl, rfl⟩
      refine hK _ _ (fun _ => HSS.out _ HKb.out) ?_
      clear hK K
      try simp only [List.set_cons_zero, List.set_cons_succ]
      refine wpX_take (i := 30) (v := ?_) rfl rfl (by kernel_rfl) (fun _ _ _ h => h) (Or.inl ⟨rfl, fun wS hwS => ?_⟩) hXS ?_
      rotate_left
      · go_simp; try rfl
      simp only [List.set_cons_zero, List.set_cons_succ]
      refine wpX_take (i := 31) (v := ?_) rfl rfl (by kernel_rfl) (fun _ _ _ h => h) (Or.inl ⟨rfl, fun wS hwS => ?_⟩) hXS ?_
      rotate_left
      · go_simp; try rfl
      simp only [List.set_cons_zero, List.set_cons_succ]
      refine wpX_done (by kernel_rfl) ?_
      clear hXS
      have HRz := hid (HR8.out.kw HKb.out)
      have HROWz := hid (KW.row HKb.out HROW8.out.lt HROW8.out)
      have HMz := hid (HM8.out.kw HKb.out)
      have HKz := hid (HK8.out.t HKb.out)
      go_wp2_with fail
      go_roundw
      case rel => exact ⟨k + 1, m2, _, by omega, by go_num, HROWz, HRz, HMz, HD3, HI2, HT2, HN2, HKz⟩
      case measure => simp [intOf]; omega
    · have D1 : decide (k < M) = false := decide_eq_false hlt
      clear hlt
      go_wp2_with (go_at_call 20; refine (goes27_any _).mono ?_; rintro e w5 ⟨rfl, hb⟩)
      go_ret
      exact ⟨rfl, HK2.out.t hb⟩
theorem plays_law (l : Int) (a p : Int) (A : Option Addr) (c : Nat) (tags : List Int) (A2 : Option Addr) (c2 : Nat) (list : List Mc.Act) (w : World) (_ : -9223372036854775808 ≤ l) (_ : l ≤ 9223372036854775807)
    (ha : i64ok a) (hp : i64ok p) (_ : tags.length ≤ 9223372036854775807) (_ : ∀ x ∈ tags, i64ok x) (hz : A = none → c = 0) (hr : Row1 w A tags.length fun i => .int .i64 (tags.getD i 0))
    (_ : ∀ a ∈ list, (-9223372036854775808 ≤ a.1 ∧ a.1 ≤ 9223372036854775807) ∧ -9223372036854775808 ≤ a.2 ∧ a.2 ≤ 9223372036854775807) (hA : Acts w A2 list) :
    Calls Try.prog 9 #[.int .i64 l, .agg #[.int .i64 a, .int .i64 p, .slice A tags.length c], .slice A2 list.length c2] w fun e w' => e = .returned (.bool true) ∧ KW w w' := by
  by_cases h : 50 < tags.length ∨ 100 < list.length
  · exact plays_goes l a p A _ c A2 _ c2 w h
  by_cases hb : ¬ (0 ≤ l ∧ l < 65536) ∨ 1048576 < tags.length ∨ a = -1 ∨ offB l a = true ∨ offB l p = true ∨ ∃ i, i < tags.length ∧ offB l (tags.getD i 0) = true
  · exact plays_bad l a p A _ c tags A2 _ c2 w (by omega) (by omega) rfl hr hb
  · have h1 : 0 ≤ l ∧ l < 65536 := Classical.byContradiction fun h => hb (.inl h)
    have h2 : a ≠ -1 := fun h => hb (.inr (.inr (.inl h)))
    have h3 : ¬ offB l a = true := fun h => hb (.inr (.inr (.inr (.inl h))))
    have h4 : ¬ offB l p = true := fun h => hb (.inr (.inr (.inr (.inr (.inl h)))))
    have h5 : ∀ i, i < tags.length → ¬ offB l (tags.getD i 0) = true := fun i hi h => hb (.inr (.inr (.inr (.inr (.inr ⟨i, hi, h⟩)))))
    simp only [offB, decide_eq_true_eq] at h3 h4 h5
    refine plays_in l a p A c tags A2 c2 list w h1.1 h1.2 (by omega) (by omega) (by omega) (by omega) (by omega) (fun x hx => ?_) hz hr (by omega) hA
    obtain ⟨i, hi, rfl⟩ := List.mem_iff_getElem.1 hx
    have := h5 i hi
    rw [List.getD_eq_getElem?_getD, List.getElem?_eq_getElem hi] at this
    simp only [Option.getD_some] at this
    omega
end Go.Proofs.Ythmhdegndoodmaa
