/- The reference's From (layer 30). -/
import Derived.Test.YtgadkelldbibgaaV12
import Derived.Test.YtgadkelldbibgaaN5a
namespace Go.Proofs.Ytgadkelldbibgaa
open Go.ChangeShapes Go.WideShapes Go.ChangeAt Go.RowKit
set_option linter.unusedVariables false

theorem RT.keepA {w w' : World} {v : Value} {tags : List Int} {base : Nat} {u : Value} {l : List Mc.Act} (h : RT w v tags) (hg : OwnsA w base u l) (hk : Keep (fun i => u.ownBlock = some i) w w') : RT w' v tags := by
  obtain ⟨A, c, hv, hr, ht⟩ := h
  have hne : 0 < tags.length → ∀ b off, A = some ⟨b, off, none⟩ → ¬ u.ownBlock = some b := by
    rintro h0 b off hA hu
    obtain ⟨b', off', cs, fr, hA', hb⟩ := ht h0
    rw [hA] at hA'
    cases hA'
    rcases hg.2 with ⟨rfl, _⟩ | ⟨g, cap, cur, rfl, _, hg', _⟩
    · cases hu
    · simp only [Value.ownBlock, Option.some.injEq] at hu
      subst hu
      rw [hb] at hg'
      simp at hg'
  exact ⟨A, c, hv, fun h0 => hk.row1 hr (fun b off hA => hne h0 b off hA) h0, ht.keep hk hne⟩
theorem OwnsA.notM {w : World} {base : Nat} {u : Value} {l : List Mc.Act} {g n : Nat} {f : Nat → Value} (h : OwnsA w base u l) (hg : w.rowIs g 76 n f) : ∀ i, u.ownBlock = some i → ¬ i = g := by
  rintro i hu rfl
  rcases h.2 with ⟨rfl, _⟩ | ⟨g, cap, cur, rfl, _, hg', _⟩
  · cases hu
  · simp only [Value.ownBlock, Option.some.injEq] at hu
    subst hu
    obtain ⟨cs', hb', _⟩ := hg
    rw [hg'] at hb'
    simp at hb'
theorem OwnsA.empty (w : World) {base : Nat} (hb : base ≤ w.heap.size) : OwnsA (w.alloc (.cells #[] 27)) base (.slice (some ⟨w.heap.size, 0, none⟩) 0 0) [] :=
  ⟨by simp [acl], .inr ⟨w.heap.size, 0, #[], rfl, hb, heap_alloc_new w _, Nat.le_refl _, by unfold maxLen; omega, by simp, by simp [acl]⟩⟩
open Classical in
theorem rfrom_no (l a p most : Int) (tags : List Int) (A : Option Addr) (c : Nat) (w : World) (hr : Row1 w A tags.length fun i => .int .i64 (tags.getD i 0)) (h : ¬ Sd.okS l a p tags ∨ most < 0) :
    Calls Try.prog 27 #[.int .i64 l, .agg #[.int .i64 a, .int .i64 p, .slice A tags.length c], .int .i64 most] w (ActsP w [] 2) := by
  have H := hid (fun W (h : KW w W) => rmay_any l a p tags A c W (hr.k h))
  clear hr
  have HK := hid ((KW.refl w).alloc (.cells #[.int .i64 a, .int .i64 p, .slice A tags.length c] 24))
  unfold ActsP
  by_cases hok : Sd.okS l a p tags
  · have hm : most < 0 := h.resolve_left fun g => g hok
    rw [decide_eq_true hok] at H
    clear h hok
    go_enter Try.func27, Try.ntmps27
    go_wp2_with fail
    refine (H.out _ HK.out).mono ?_
    rintro e w1 ⟨rfl, hk1⟩
    have HK1 := hid (HK.out.t hk1)
    clear hk1
    go_wp2_with fail
    go_ret2
    exact ⟨none, 0, rfl, OwnsA.nil _ _, HK1.out⟩
  · rw [decide_eq_false hok] at H
    clear h hok
    go_enter Try.func27, Try.ntmps27
    go_wp2_with fail
    refine (H.out _ HK.out).mono ?_
    rintro e w1 ⟨rfl, hk1⟩
    have HK1 := hid (HK.out.t hk1)
    clear hk1
    go_wp2_with fail
    go_ret2
    exact ⟨none, 0, rfl, OwnsA.nil _ _, HK1.out⟩
open Classical in
set_option maxRecDepth 100000 in
set_option maxHeartbeats 4000000 in
theorem rfrom_yes (l a p : Int) (most : Nat) (tags : List Int) (A : Option Addr) (c : Nat) (w : World) (acts : List Mc.Act) (m' : Mc.St) (hr : Row1 w A tags.length fun i => .int .i64 (tags.getD i 0)) (hok : Sd.okS l a p tags) (hR : Mc.RunsM (Rv.nm l) most 0 ⟨l, a, p, 0, tags⟩ acts m') (hlen : acts.length ≤ 1000000000) (hlm : acts.length ≤ most) :
    Calls Try.prog 27 #[.int .i64 l, .agg #[.int .i64 a, .int .i64 p, .slice A tags.length c], .int .i64 most] w (ActsP w acts 0) := by
  have H := hid (fun W (h : KW w W) => rmay_any l a p tags A c W (hr.k h))
  rw [decide_eq_true hok] at H
  have hsc := rspot_cases l a p tags A c w hr
  obtain ⟨hl, ha, hp, hn, ht, hat⟩ := hsc.resolve_right fun g => g.1 hok
  have HAt := hid hat
  have HI : Hid (Mc.Inv ⟨l, a, p, 0, tags⟩) := ⟨hl.1, by show l ≤ 65535; omega, ha.1, ha.2, hp.1, hp.2, fun x hx => by
    obtain ⟨i, hi, rfl⟩ := List.mem_iff_getElem.1 hx
    have := ht i hi
    simpa [hi] using this, hn, by show (0 : Int) ≤ 0; omega⟩
  have HR := hid hR
  have HL : Hid ((0 : Int) + 65535 * (acts.length : Int) ≤ 4611686018427387904) := by exact hid (by omega)
  have HLen := hid hlen
  have HLm := hid hlm
  clear hr hsc hl ha hp hn ht hR hok hat hlen hlm
  have HK := hid ((KW.refl w).alloc (.cells #[.int .i64 a, .int .i64 p, .slice A tags.length c] 24))
  have HB := hid (heap_alloc_new w (.cells #[.int .i64 a, .int .i64 p, .slice A tags.length c] 24))
  unfold RNewP at HAt
  unfold ActsP
  have HT0 : Hid ((⟨l, a, p, 0, tags⟩ : Mc.St).tot + 65535 * (acts.length : Int) ≤ 4611686018427387904) := HL
  generalize (⟨l, a, p, 0, tags⟩ : Mc.St) = mm at *
  generalize tags.length = N at *
  have d0 : decide ((most : Int) < 0) = false := decide_eq_false (by omega)
  clear HL
  go_enter Try.func27, Try.ntmps27
  go_wp2_with fail
  refine (H.out _ HK.out).mono ?_
  rintro e w1 ⟨rfl, hk1⟩
  have HB1 := hid (KW.blk hk1 (blk_lt HB.out) HB.out)
  have HK1 := hid (HK.out.t hk1)
  clear hk1
  go_wp2_with (refine wpList_load_row rfl 24 _ rfl w.heap.size rfl 24 _ (0, 0) _ HB1.out Try.underlying24 rfl (by kernel_rfl) ?_)
  refine (HAt.out _ HK1.out).mono ?_
  rintro e w2 ⟨v0, rfl, ho, hk⟩
  have HR0 := hid ho.rt
  have HK2 := hid (HK1.out.t hk)
  obtain ⟨A0, c0, hv0, hz0⟩ := ho.row
  clear hz0
  subst hv0
  clear ho hk
  unfold rm
  go_wp2_with fail
  have HM2 : Hid ((w2.alloc (.cells (rm mm (.slice A0 (ints mm.tags).length c0)) 76)).rowIs w2.heap.size 76 5 (rmf mm (.slice A0 (ints mm.tags).length c0))) := World.rowIs_alloc w2 (rm mm (.slice A0 (ints mm.tags).length c0)) _ _ (rm_get _ _)
  have HO2 := hid (OwnsA.empty (w2.alloc (.cells (rm mm (.slice A0 (ints mm.tags).length c0)) 76)) (base := w.heap.size) (by have := HK2.out.size; simp; omega))
  have hs2 : (w2.alloc (.cells (rm mm (.slice A0 (ints mm.tags).length c0)) 76)).heap.size = w2.heap.size + 1 := by simp
  rw [hs2] at HO2
  unfold rm at HM2 HO2
  refine wpCode_world (fun W => KW w W ∧ w.heap.size ≤ w2.heap.size ∧ RT W (.slice A0 (ints mm.tags).length c0) mm.tags ∧ W.rowIs w2.heap.size 76 5 (rmf mm (.slice A0 (ints mm.tags).length c0)) ∧ OwnsA W w.heap.size (.slice (some ⟨w2.heap.size + 1, 0, none⟩) 0 0) []) ⟨(HK2.out.alloc _).alloc _, HK2.out.size, HR0.out.kw (((KW.refl w2).alloc _).alloc _), HM2.out.alloc _, HO2.out⟩ ?_
  rintro W1 ⟨hk, hmb, hrt, hrow, hown⟩
  have HKa := hid hk
  have HMB := hid hmb
  have HRT := hid hrt
  have HROW := hid hrow
  have HOw := hid hown
  clear hk hrt hrow hmb HK2 HR0 hown HM2 HO2 hs2
  generalize w2.heap.size = mb at *
  go_loopw [10] (fun vo wr => ∃ (pre rest : List Mc.Act) (mi : Mc.St) (v : Value), Hid (acts = pre ++ rest) ∧ Hid (OwnsA wr w.heap.size vo pre) ∧ Hid (wr.rowIs mb 76 5 (rmf mi v)) ∧ Hid (RT wr v mi.tags) ∧ Hid (Mc.RunsM (Rv.nm l) most pre.length mi rest m') ∧ Hid (Mc.Inv mi) ∧ Hid (mi.tot + 65535 * (rest.length : Int) ≤ 4611686018427387904) ∧ Hid (KW w wr)) (fun vo _ => acts.length + 1 - vlen vo)
  case atStart => exact ⟨[], acts, mm, _, rfl, HOw, HROW, HRT, HR, HI, HT0, HKa⟩
  case round =>
    obtain ⟨pre, rest, mi, v, HA, HO, HROW1, HRT1, HR1, HI1, HT1, HK3⟩ := hrel
    clear HROW HRT HR HI HT0 HKa HOw W1
    obtain ⟨Ao, co, hvo, _, _⟩ := HO.out.slice
    subst hvo
    have HPl : Hid (pre.length ≤ acts.length) := by rw [HA.out]; exact hid (by simp)
    have hpl := HPl.out
    have hlm := HLm.out
    have hlen := HLen.out
    have HNx := hid (fun W (h : RT W v mi.tags) => by
      obtain ⟨A1, c1, hv1, hr1⟩ := h.rt0
      have := rnext30_any l mi.at_ mi.pend mi.tags A1 c1 W hr1
      rw [← hv1] at this
      exact this : ∀ W, RT W v mi.tags → Calls Try.prog 15 #[.int .i64 l, .agg #[.int .i64 mi.at_, .int .i64 mi.pend, v]] W (AnsP W (Rv.rv l mi.at_ mi.pend mi.tags)))
    have hnm : Rv.rv l mi.at_ mi.pend mi.tags = Rv.nm l mi := rfl
    rw [hnm] at HNx
    unfold AnsP at HNx
    have HD := hid (fun x y W (h : RT W v mi.tags) => rdo_any mi x y v W h HI1.out (by have := HT1.out; omega))
    unfold RDoP at HD
    have r1 := HROW1.out.cell (i := 1) (by omega)
    have r2 := HROW1.out.cell (i := 2) (by omega)
    have r3 := HROW1.out.cell (i := 3) (by omega)
    simp only [rmf, rm, List.getD_cons_succ, List.getD_cons_zero] at r1 r2 r3
    obtain ⟨A1, c1, hv1, _⟩ := HRT1.out
    subst hv1
    have hmbl := HROW1.out.lt
    cases rest with
    | nil =>
      obtain ⟨hm', hx⟩ := HR1.out
      subst hm'
      have HAe : Hid (acts = pre) := by rw [HA.out, List.append_nil]; exact hid rfl
      rcases hx with hx | ⟨hne, hx⟩
      · have d1 : decide (pre.length < most) = false := decide_eq_false (by omega)
        clear hx
        go_wp2_with fail
        go_ret2
        exact ⟨_, _, by rw [HAe.out]; rfl, by rw [HAe.out]; exact HO.out, HK3.out⟩
      · have L5 : (pre.length : Int) < (most : Int) := by omega
        clear hne
        go_wp2_with fail
        refine (HNx.out _ HRT1.out).mono ?_
        rintro e w3 ⟨rfl, hk3⟩
        have HO3 := hid (HO.out.kw hk3)
        have HROW3 := hid (KW.row hk3 HROW1.out.lt HROW1.out)
        have HRT3 := hid (HRT1.out.kw hk3)
        have HK4 := hid (HK3.out.t hk3)
        clear hk3
        rcases hx with hx | ⟨a, hx, her⟩
        · rw [hx]
          simp only [Option.getD_none, Option.isSome_none]
          go_wp2_with fail
          go_ret2
          exact ⟨_, _, by rw [HAe.out]; rfl, by rw [HAe.out]; exact HO3.out.kw ((KW.refl w3).alloc _), HK4.out.alloc _⟩
        · rw [hx]
          simp only [Option.getD_some, Option.isSome_some]
          obtain ⟨x, y⟩ := a
          have HD1 := hid (HD.out x y)
          clear HD
          have hne : (Mc.step m' x y).2 ≠ 0 := her
          generalize (Mc.step m' x y).1 = m2 at *
          generalize (Mc.step m' x y).2 = er at *
          have d1 : (er != 0) = true := by simpa using hne
          clear her hx hne
          have HW3 := hid (KW.blk ((KW.refl w3).alloc (.cells #[.int .i64 x, .int .i64 y] 27)) (blk_lt (whole HROW3.out)) (whole HROW3.out))
          have HO4 := hid (HO3.out.kw ((KW.refl w3).alloc (.cells #[.int .i64 x, .int .i64 y] 27)))
          have HROW4 := hid (HROW3.out.alloc (.cells #[.int .i64 x, .int .i64 y] 27))
          have HRT4 := hid (HRT3.out.kw ((KW.refl w3).alloc (.cells #[.int .i64 x, .int .i64 y] 27)))
          have HK5 := hid (HK4.out.alloc (.cells #[.int .i64 x, .int .i64 y] 27))
          have hrm : ((List.range 5).map (rmf m' (.slice A1 m'.tags.length c1))).toArray = rm m' (.slice A1 m'.tags.length c1) := rfl
          rw [hrm] at HW3
          clear hrm r1 r2 r3
          go_wp2_with (refine wpList_load_row rfl 76 _ rfl mb rfl 76 _ (0, 0) _ HW3.out Try.underlying76 rfl (by kernel_rfl) ?_)
          refine (HD1.out _ HRT4.out).mono ?_
          rintro e w4 ⟨v4, rfl, hr4, _, hk4⟩
          obtain ⟨A4, c4, hv4, _⟩ := hr4.rt0
          subst hv4
          have HB4 := hid (KW.blk hk4 (by simp) (heap_alloc_new w3 (.cells #[.int .i64 x, .int .i64 y] 27)))
          have HO5 := hid (HO4.out.kw hk4)
          have HROW5 := hid (KW.row hk4 HROW4.out.lt HROW4.out)
          have HRT5 := hid hr4
          have HK6 := hid (HK5.out.t hk4)
          clear hk4 hr4
          unfold rm
          go_wp2_with fail
          go_ret2
          exact ⟨_, _, by rw [HAe.out]; rfl, by rw [HAe.out]; exact HO5.out.kw ((KW.refl w4).alloc _), HK6.out.alloc _⟩
    | cons a rest =>
      obtain ⟨hne, hx, her, hr⟩ := HR1.out
      obtain ⟨x, y⟩ := a
      have HR2 := hid hr
      have HI2 := hid (HI1.out.step x y)
      have HS := hid (Mc.step_tot mi x y)
      have HD1 := hid (HD.out x y)
      have HT2 : Hid ((Mc.step mi x y).1.tot + 65535 * (rest.length : Int) ≤ 4611686018427387904) := by
        have h1 := HT1.out
        have h2 := HS.out
        simp only [List.length_cons] at h1
        exact hid (by omega)
      have HA2 : Hid (acts = (pre ++ [(x, y)]) ++ rest) := by rw [HA.out]; exact hid (by simp)
      have HL : Hid (pre.length + 1 ≤ acts.length) := by rw [HA.out]; exact hid (by simp)
      have L5 : (pre.length : Int) < (most : Int) := by have := HL.out; omega
      clear HD hr HR1 HS hne
      have her' : (Mc.step mi x y).2 = 0 := her
      rw [her'] at HD1
      clear her her'
      dsimp only at HR2
      generalize (Mc.step mi x y).1 = mj at *
      have HX2 := hid hx
      clear hx
      go_wp2_with fail
      refine (HNx.out _ HRT1.out).mono ?_
      rintro e w3 ⟨rfl, hk3⟩
      have HO3 := hid (HO.out.kw hk3)
      have HROW3 := hid (KW.row hk3 HROW1.out.lt HROW1.out)
      have HRT3 := hid (HRT1.out.kw hk3)
      have HK4 := hid (HK3.out.t hk3)
      clear hk3
      rw [HX2.out]
      simp only [Option.getD_some, Option.isSome_some]
      have HW3 := hid (KW.blk ((KW.refl w3).alloc (.cells #[.int .i64 x, .int .i64 y] 27)) (blk_lt (whole HROW3.out)) (whole HROW3.out))
      have HO4 := hid (HO3.out.kw ((KW.refl w3).alloc (.cells #[.int .i64 x, .int .i64 y] 27)))
      have HROW4 := hid (HROW3.out.alloc (.cells #[.int .i64 x, .int .i64 y] 27))
      have HRT4 := hid (HRT3.out.kw ((KW.refl w3).alloc (.cells #[.int .i64 x, .int .i64 y] 27)))
      have HK5 := hid (HK4.out.alloc (.cells #[.int .i64 x, .int .i64 y] 27))
      have hrm : ((List.range 5).map (rmf mi (.slice A1 mi.tags.length c1))).toArray = rm mi (.slice A1 mi.tags.length c1) := rfl
      rw [hrm] at HW3
      clear hrm r1 r2 r3
      go_wp2_with (refine wpList_load_row rfl 76 _ rfl mb rfl 76 _ (0, 0) _ HW3.out Try.underlying76 rfl (by kernel_rfl) ?_)
      refine (HD1.out _ HRT4.out).mono ?_
      rintro e w4 ⟨v4, rfl, hr4, _, hk4⟩
      obtain ⟨A4, c4, hv4, _⟩ := hr4.rt0
      subst hv4
      have HB4 := hid (KW.blk hk4 (by simp) (heap_alloc_new w3 (.cells #[.int .i64 x, .int .i64 y] 27)))
      have HO5 := hid (HO4.out.kw hk4)
      have HROW5 := hid (KW.row hk4 HROW4.out.lt HROW4.out)
      have HRT5 := hid hr4
      have HK6 := hid (HK5.out.t hk4)
      clear hk4 hr4
      unfold rm
      have hrow6 := HROW5.out.alloc (.cells (rm mj (.slice A4 mj.tags.length c4)) 76)
      have HROW6 := hid hrow6
      have HN6 : Hid ((w4.alloc (.cells (rm mj (.slice A4 mj.tags.length c4)) 76)).heap[w4.heap.size]? = some (.cells (rm mj (.slice A4 mj.tags.length c4)) 76 (0, 0))) := heap_alloc_new w4 _
      have HB6 := hid (KW.blk ((KW.refl w4).alloc (.cells (rm mj (.slice A4 mj.tags.length c4)) 76)) (blk_lt HB4.out) HB4.out)
      have HO6 := hid (HO5.out.kw ((KW.refl w4).alloc (.cells (rm mj (.slice A4 mj.tags.length c4)) 76)))
      have HRT6 := hid (HRT5.out.kw ((KW.refl w4).alloc (.cells (rm mj (.slice A4 mj.tags.length c4)) 76)))
      have HK7 := hid (HK6.out.alloc (.cells (rm mj (.slice A4 mj.tags.length c4)) 76))
      unfold rm at HROW6 HN6 HB6 HO6 HRT6 HK7
      clear hrow6
      go_wp2_with (first
        | (refine wpList_load_row rfl 76 _ rfl w4.heap.size rfl 76 _ (0, 0) _ HN6.out Try.underlying76 rfl (by kernel_rfl) ?_)
        | (refine wpList_store_is rfl 76 _ _ rfl mb 5 76 _ (rmf mj (.slice A4 mj.tags.length c4)) (rm mj (.slice A4 mj.tags.length c4)) rfl rfl HROW6.out (by kernel_rfl) rfl (rm_get mj _) (rm_one rfl) ?_))
      intro W7 hrow7 hkeep7 hsz7
      clear hsz7
      have HROW7 := hid hrow7
      have HRT7 := hid (HRT6.out.keepM HROW6.out hkeep7)
      have HO7 : Hid (OwnsA W7 w.heap.size (.slice Ao pre.length co) pre) := HO6.out.keep hkeep7 fun i hi => HO6.out.notM HROW6.out i hi
      have HB7 : Hid (W7.heap[w3.heap.size]? = some (.cells #[.int .i64 x, .int .i64 y] 27 (0, 0))) := (hkeep7.block _ (blk_lt HB6.out) (fun h => by have := HROW3.out.lt; omega)).trans HB6.out
      have HK8 : Hid (KW w W7) := HK7.out.kept hkeep7 fun i hi => by have := HMB.out; omega
      clear hrow7 hkeep7
      have HQ1 : Hid ((pre.length + 1) * 16 ≤ 140737488355328) := by have := HL.out; have := HLen.out; exact hid (by omega)
      have HQ2 : Hid (pre.length + 1 ≤ 9223372036854775807) := by have := HL.out; have := HLen.out; exact hid (by omega)
      have HQ3 : Hid (w.heap.size ≤ (W7.alloc (.cells #[.int .i64 x, .int .i64 y] 27)).heap.size) := by have := HK8.out.size; exact hid (by simp; omega)
      have HO8 := hid (HO7.out.kw ((KW.refl W7).alloc (.cells #[.int .i64 x, .int .i64 y] 27)))
      have HX : Hid (Holds (W7.alloc (.cells #[.int .i64 x, .int .i64 y] 27)) (.slice (some ⟨W7.heap.size, 0, none⟩) 1 1) 1 2 [.int .i64 x, .int .i64 y]) := Holds.new (w := W7) (t := 27) (k := 1) (size := 2) (c := 1) (ys := [.int .i64 x, .int .i64 y]) rfl rfl
      go_wp2_with (first
        | (at_builtin; refine wpList_appA rfl sliceAct rfl (W := W7.alloc (.cells #[.int .i64 x, .int .i64 y] 27)) (base := w.heap.size) (k := 1) (n := pre.length) (v := .slice Ao pre.length co) (u := .slice (some ⟨W7.heap.size, 0, none⟩) 1 1) (xs := acl pre) (ys := [.int .i64 x, .int .i64 y]) rfl rfl HX.out HO8.out HQ3.out HQ1.out HQ2.out ?_; intro v5 w5 hown5 hkeep5 hv5)
        | (refine wpList_load_row rfl 27 _ rfl w3.heap.size rfl 27 _ (0, 0) _ HB7.out Try.underlying27 rfl (by kernel_rfl) ?_))
      have HROW8 := hid ((HROW7.out.alloc (.cells #[.int .i64 x, .int .i64 y] 27)))
      have HROW9 := hid (hkeep5.row (fun h => HO8.out.notM HROW8.out _ h rfl) HROW8.out)
      have HRT9 := hid ((HRT7.out.kw ((KW.refl W7).alloc (.cells #[.int .i64 x, .int .i64 y] 27))).keepA HO8.out hkeep5)
      have HK9 : Hid (KW w w5) := (HK8.out.alloc _).kept hkeep5 fun i hi => (HO8.out.lt hi).1
      have HO9 : Hid (OwnsA w5 w.heap.size v5 (pre ++ [(x, y)])) := OwnsA.app (l' := [(x, y)]) hown5
      clear hown5 hkeep5 hv5
      have hvl := HO9.out.vlen
      have HVL := hid hvl
      have HPL : Hid ((pre ++ [(x, y)]).length = pre.length + 1) := by exact hid (by simp)
      have HR3 : Hid (Mc.RunsM (Rv.nm l) most (pre ++ [(x, y)]).length mj rest m') := by rw [HPL.out]; exact HR2
      clear hvl
      go_roundw
      case rel => exact ⟨pre ++ [(x, y)], rest, mj, _, HA2, HO9, HROW9, HRT9, HR3, HI2, HT2, HK9⟩
      case measure =>
        rw [HVL.out, HPL.out]
        have := HL.out
        show acts.length + 1 - (pre.length + 1) < acts.length + 1 - pre.length
        omega
end Go.Proofs.Ytgadkelldbibgaa
