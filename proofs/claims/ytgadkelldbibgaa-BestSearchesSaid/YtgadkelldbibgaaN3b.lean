/- Contract of the reference machine's Do: some of its cases. -/
import Derived.Test.YtgadkelldbibgaaN3
namespace Go.Proofs.Ytgadkelldbibgaa
open Go.ChangeShapes Go.WideShapes Go.ChangeAt Go.RowKit
set_option linter.unusedVariables false

set_option maxRecDepth 100000 in
set_option maxHeartbeats 2000000 in
theorem rdo_4ok (l a p t : Int) (tags : List Int) (n : Nat) (v : Value) (w : World) (hv : RT w v tags) (hI : Mc.Inv ⟨l, a, p, t, tags⟩) (ht : t ≤ 4611686018427387904) (hr : Mc.right 4 (n : Int) = true) (hn : n < tags.length) (hc : 0 ≤ tags.getD n 0) :
    Calls Try.prog 57 #[.agg #[.int .i64 l, .int .i64 a, .int .i64 p, v, .int .i64 t], .agg #[.int .i64 4, .int .i64 (n : Int)]] w (RDoP w v ⟨l, a, p, t, tags.set n (-1)⟩ 0) := by
  obtain ⟨l0, l1, a0, a1, p0, p1, tg, ln, t0⟩ := hI
  simp only at l0 l1 a0 a1 p0 p1 t0 ln
  have HR := hid (fun W => rright_any 4 (n : Int) W)
  rw [hr] at HR
  obtain ⟨A, cp, rfl, hrow, hty⟩ := hv
  have hAlt : ∀ bb oo, A = some ⟨bb, oo, none⟩ → 0 < tags.length → bb < w.heap.size := fun bb oo hA h0 => by
    obtain ⟨b', off, hA', hb', _⟩ := hrow h0
    rw [hA] at hA'
    cases hA'
    exact hb'
  obtain ⟨bq, oq, rfl, hbq, hcq⟩ := hrow.at_ hn
  have HBq := hid hbq
  have HCq := hid hcq
  clear hbq hcq
  have HSp := hid (fun W (h : KW w W) => rspot_any a p (.slice (some ⟨bq, oq, none⟩) tags.length cp) tags W ln ⟨_, cp, rfl, hrow.k h⟩)
  have HRow := hid hrow
  have HTy := hid hty
  clear hty
  have HT := hid (three_rows w [.int .i64 l, .int .i64 a, .int .i64 p, .slice (some ⟨bq, oq, none⟩) tags.length cp, .int .i64 t] [.int .i64 4, .int .i64 (n : Int)] [.int .i64 0, .int .i64 0, .int .i64 0, .slice none 0 0, .int .i64 0] 76 27 76)
  clear hrow tg hr
  unfold RSpotP at HSp
  have HAlt := hid hAlt
  clear hAlt
  generalize hxq : tags.getD n 0 = xq at *
  have HXq := hid hxq
  clear hxq
  generalize hN : tags.length = N at *
  have HN := hid hN
  clear hN
  have dn : decide (N ≤ n) = false := decide_eq_false (by omega)
  go_enter Try.func57, Try.ntmps57
  go_wp2_with fail
  refine (HR.out _).mono ?_
  rintro e W1 ⟨rfl, hb⟩
  have r0 := KW.row hb HT.out.1.lt HT.out.1
  have r1 := KW.row hb HT.out.2.1.lt HT.out.2.1
  have r2 := KW.row hb HT.out.2.2.1.lt HT.out.2.2.1
  have HK1 := hid (HT.out.2.2.2.t hb)
  have b0 := r0.cell (i := 0) (by simp)
  have b1 := r0.cell (i := 1) (by simp)
  have b2 := r0.cell (i := 2) (by simp)
  have b3 := r0.cell (i := 3) (by simp)
  have b4 := r0.cell (i := 4) (by simp)
  have x0 := r1.cell (i := 0) (by simp)
  have x1 := r1.cell (i := 1) (by simp)
  simp only [List.getD_cons_succ, List.getD_cons_zero] at b0 b1 b2 b3 b4 x0 x1
  have R0 := hid r0
  have R1 := hid r1
  have R2 := hid r2
  clear hb r0 r1 r2 HT
  go_wp2_with fail
  have hXS := And.intro b0 (And.intro b1 (And.intro b2 (And.intro b3 b4)))
  have hq := KW.refl W1
  have HX := hid hXS
  refine wpX_region (S := fun w' => w'.cell? ⟨w.heap.size, 0, none⟩ = some (.int .i64 l) ∧ w'.cell? ⟨w.heap.size, 1, none⟩ = some (.int .i64 a) ∧ w'.cell? ⟨w.heap.size, 2, none⟩ = some (.int .i64 p) ∧ w'.cell? ⟨w.heap.size, 3, none⟩ = some (.slice (some ⟨bq, oq, none⟩) N cp) ∧ w'.cell? ⟨w.heap.size, 4, none⟩ = some (.int .i64 t)) (L := 9) (by kernel_rfl) ?_
  refine wpX_take (i := 0) (v := ?_) rfl rfl (by kernel_rfl) (fun _ _ _ h => h) (Or.inl ⟨rfl, fun wS hwS => ?_⟩) hXS ?_
  rotate_left
  · go_simp; try rfl
  simp only [List.set_cons_zero, List.set_cons_succ]
  refine wpX_take (i := 1) (v := ?_) rfl rfl (by kernel_rfl) (fun _ _ _ h => h) (Or.inl ⟨rfl, fun wS hwS => ?_⟩) hXS ?_
  rotate_left
  · go_simp; try rfl
  simp only [List.set_cons_zero, List.set_cons_succ]
  refine wpX_take (i := 2) (v := ?_) rfl rfl (by kernel_rfl) (fun _ _ _ h => h) (Or.inl ⟨rfl, fun wS hwS => ?_⟩) hXS ?_
  rotate_left
  · go_simp; try rfl
  simp only [List.set_cons_zero, List.set_cons_succ]
  refine wpX_take (i := 3) (v := ?_) rfl rfl (by kernel_rfl) (fun _ _ _ h => h) (Or.inl ⟨rfl, fun wS hwS => ?_⟩) hXS ?_
  rotate_left
  · go_simp; try rfl
  simp only [List.set_cons_zero, List.set_cons_succ]
  refine wpX_take (i := 5) (v := ?_) rfl rfl (by kernel_rfl) (fun _ _ _ h => h) (Or.inl ⟨rfl, fun wS hwS => ?_⟩) hXS ?_
  rotate_left
  · go_simp; try rfl
  simp only [List.set_cons_zero, List.set_cons_succ]
  refine wpX_take (i := 6) (v := ?_) rfl rfl (by kernel_rfl) (fun _ _ _ h => h) (Or.inl ⟨rfl, fun wS hwS => ?_⟩) hXS ?_
  rotate_left
  · go_simp; try rfl
  simp only [List.set_cons_zero, List.set_cons_succ]
  refine wpX_many [(4, 41), (7, 44), (8, 7)] (fun i => match i with | 4 => IsSp a p tags W1.heap.size N | 7 => IsMk l a p t tags W1.heap.size N | _ => IsNewM W1.heap.size) W1 1 rfl (by kernel_rfl) (by kernel_rfl)
    (fun w' hq => And.intro (hq.cell R0.out.lt HX.out.1) (And.intro (hq.cell R0.out.lt HX.out.2.1) (And.intro (hq.cell R0.out.lt HX.out.2.2.1) (And.intro (hq.cell R0.out.lt HX.out.2.2.2.1) (hq.cell R0.out.lt HX.out.2.2.2.2)))))
    (List.forall_mem_cons.2 ⟨fun _ _ _ h k => IsSp.keep h k, List.forall_mem_cons.2 ⟨fun _ _ _ h k => IsMk.keep h k, List.forall_mem_cons.2 ⟨fun _ _ _ h k => IsNewM.keep h k, List.forall_mem_nil _⟩⟩⟩)
    hq.drew ?_ ?_
  · clear hXS hq b0 b1 b2 b3 b4 x0 x1
    refine List.forall_mem_cons.2 ⟨?_, List.forall_mem_cons.2 ⟨?_, List.forall_mem_cons.2 ⟨?_, List.forall_mem_nil _⟩⟩⟩
    · skip
      intro x V hV hx
      clear hx
      refine wpX_op (tv := ?_) rfl ?_ (fun K hK => ?_)
      rotate_left
      · simp only [upd, List.foldl_cons, List.foldl_nil, List.set_cons_zero, List.set_cons_succ]; rfl
      simp only [List.set_cons_zero, List.set_cons_succ] at hK
      go_simp
      refine (HSp.out _ (HK1.out.t hV)).mono ?_
      rintro e w4 ⟨v4, rfl, ho, hb⟩
      obtain ⟨A4, c4, hv4, _⟩ := ho.row
      rw [ints_len, HN.out] at hv4
      subst hv4
      exact hK _ _ hb ⟨A4, c4, rfl, ho.base hV.size⟩
    · skip
      intro x V hV hx
      have h4 := hx (4, 41) (by simp) (by kernel_rfl)
      clear hx
      refine wpX_op (tv := ?_) rfl ?_ (fun K hK => ?_)
      rotate_left
      · simp only [upd, List.foldl_cons, List.foldl_nil, List.set_cons_zero, List.set_cons_succ]; rfl
      simp only [List.set_cons_zero, List.set_cons_succ] at hK
      skip
      obtain ⟨A4, c4, e4, ho⟩ := h4
      have ze4 : _ = _ := e4; simp only [ze4] at hK ⊢
      go_simp
      exact hK _ _ (kwR _) ⟨A4, c4, rfl, ho⟩
    · skip
      intro x V hV hx
      clear hx
      refine wpX_op (tv := ?_) rfl ?_ (fun K hK => ?_)
      rotate_left
      · simp only [upd, List.foldl_cons, List.foldl_nil, List.set_cons_zero, List.set_cons_succ]; rfl
      simp only [List.set_cons_zero, List.set_cons_succ] at hK
      go_simp
      refine hK _ _ (KW.alloc (kwR _) _) ⟨_, rfl, hV.size, World.rowIs_alloc _ #[.int .i64 0, .int .i64 0, .int .i64 0, .slice none 0 0, .int .i64 0] 76 _ fun i hi => by simp at hi; simp [hi]⟩
  clear hXS hq
  intro x W2 hq hx
  have h7 := hx (7, 44) (by simp)
  have h8 := hx (8, 7) (by simp)
  clear hx
  simp only [upd, List.foldl_cons, List.foldl_nil, List.set_cons_zero, List.set_cons_succ]
  obtain ⟨A2, c2, e4, ho2⟩ := h7
  obtain ⟨g, e8, hgB, hg⟩ := h8
  have e4' : x 7 = .agg #[.int .i64 l, .int .i64 a, .int .i64 p, .slice A2 N c2, .int .i64 t] := e4
  have e8' : x 8 = .pointer (some ⟨g, 0, none⟩) := e8
  simp only [e4', e8']
  clear e4 e8 e4' e8'
  have HO2 := hid ho2
  have HG2 := hid hg
  have HGB := hid hgB
  have HK2 := hid (HK1.out.t hq)
  have HQ2 := hid hq
  have hXS := And.intro (hq.cell R0.out.lt HX.out.1) (And.intro (hq.cell R0.out.lt HX.out.2.1) (And.intro (hq.cell R0.out.lt HX.out.2.2.1) (And.intro (hq.cell R0.out.lt HX.out.2.2.2.1) (hq.cell R0.out.lt HX.out.2.2.2.2))))
  clear ho2 hg hgB hq
  refine wpX_store_is (k := 9) (by kernel_rfl) rfl rfl rfl 76 _ _ rfl g 5 76 _ (fun i => [.int .i64 l, .int .i64 a, .int .i64 p, .slice A2 N c2, .int .i64 t].getD i undef) #[.int .i64 l, .int .i64 a, .int .i64 p, .slice A2 N c2, .int .i64 t] rfl rfl HG2.out (by kernel_rfl) rfl (fun i hi => ?_) (fun i hi => ?_) ?_
  · rcases (show i = 0 ∨ i = 1 ∨ i = 2 ∨ i = 3 ∨ i = 4 by omega) with rfl | rfl | rfl | rfl | rfl <;> rfl
  · rcases (show i = 0 ∨ i = 1 ∨ i = 2 ∨ i = 3 ∨ i = 4 by omega) with rfl | rfl | rfl | rfl | rfl <;> rfl
  intro W3 hrow3 _ hkeep3
  refine ⟨fun h => absurd rfl h, wpX_done (by kernel_rfl) ?_⟩
  have HG3 := hid hrow3
  have HO3 : Hid (Owns W3 W1.heap.size 3 (.slice A2 N c2) (ints tags)) := hkeep3.owns HO2.out fun i hi h => HO2.out.apart HG2.out hi h
  have HK3 : Hid (KW w W3) := HK2.out.kept hkeep3 fun i hi => by have := HGB.out; have := HK1.out.size; omega
  have HQ3 : Hid (KW W1 W3) := HQ2.out.kept hkeep3 fun i hi => by have := HGB.out; omega
  clear hXS hrow3 hkeep3 b0 b1 b2 b3 b4 x0 x1
  have b0 := KW.cell HQ3.out R0.out.lt HX.out.1
  have b1 := KW.cell HQ3.out R0.out.lt HX.out.2.1
  have b2 := KW.cell HQ3.out R0.out.lt HX.out.2.2.1
  have b3 := KW.cell HQ3.out R0.out.lt HX.out.2.2.2.1
  have b4 := KW.cell HQ3.out R0.out.lt HX.out.2.2.2.2
  have x0 := (KW.row HQ3.out R1.out.lt R1.out).cell (i := 0) (by simp)
  have x1 := (KW.row HQ3.out R1.out.lt R1.out).cell (i := 1) (by simp)
  have g1 := HG3.out.cell (i := 1) (by omega)
  have g2 := HG3.out.cell (i := 2) (by omega)
  have g3 := HG3.out.cell (i := 3) (by omega)
  have g4 := HG3.out.cell (i := 4) (by omega)
  have k1 := HG3.out.frozen 1
  have k2 := HG3.out.frozen 2
  have k4 := HG3.out.frozen 4
  simp only [List.getD_cons_succ, List.getD_cons_zero] at x0 x1 g1 g2 g3 g4
  have ne0 : ¬ w.heap.size = g := by have := HGB.out; have := R0.out.lt; omega
  have ne1 : ¬ w.heap.size + 1 = g := by have := HGB.out; have := R1.out.lt; omega
  have ne2 : ¬ w.heap.size + 1 + 1 = g := by have := HGB.out; have := R2.out.lt; omega
  have ne0' : ¬ g = w.heap.size := fun h => ne0 h.symm
  have ne1' : ¬ g = w.heap.size + 1 := fun h => ne1 h.symm
  have ne2' : ¬ g = w.heap.size + 1 + 1 := fun h => ne2 h.symm
  have tq := KW.cell HK3.out HBq.out HCq.out
  obtain ⟨tb, rfl, htB, htlt, htc, htf, htset⟩ := HO3.out.cellInt (n := n) (by rw [HN.out]; exact hn)
  have HTS := hid htset
  have HTB := hid htB
  have hap : tb ≠ g := HO3.out.apart HG3.out rfl
  have HAP := hid hap
  clear htset htB hap
  have nt : ¬ tb = g := HAP.out
  have nt' : ¬ g = tb := fun h => nt h.symm
  have d5 : decide (xq < 0) = false := decide_eq_false (by omega)
  have HGf : Hid ((W3.setCell ⟨tb, n, none⟩ (.int .i64 (-1))).rowIs g 76 5 (fun i => [.int .i64 l, .int .i64 a, .int .i64 p, .slice (some ⟨tb, 0, none⟩) N c2, .int .i64 t].getD i undef)) := ((HG3.out).setOther (a := ⟨tb, n, none⟩) (Ne.symm HAP.out) (.int .i64 (-1))).congr fun i hi => by rcases (show i = 0 ∨ i = 1 ∨ i = 2 ∨ i = 3 ∨ i = 4 by omega) with rfl | rfl | rfl | rfl | rfl <;> rfl
  have HOf : Hid (Owns (W3.setCell ⟨tb, n, none⟩ (.int .i64 (-1))) W1.heap.size 3 (.slice (some ⟨tb, 0, none⟩) N c2) (ints (tags.set n (-1)))) := HTS.out ((-1))
  have HW : Hid ((W3.setCell ⟨tb, n, none⟩ (.int .i64 (-1))).heap[g]? = some (.cells #[.int .i64 l, .int .i64 a, .int .i64 p, .slice (some ⟨tb, 0, none⟩) N c2, .int .i64 t] 76 (0, 0))) := whole (HGf.out)
  have HRes : Hid ((W3.setCell ⟨tb, n, none⟩ (.int .i64 (-1))).rowIs (w.heap.size + 1 + 1) 76 5 (fun i => [.int .i64 0, .int .i64 0, .int .i64 0, .slice none 0 0, .int .i64 0].getD i undef)) := (KW.row HQ3.out R2.out.lt R2.out).setOther (a := ⟨tb, n, none⟩) (by have := HTB.out; have := R2.out.lt; show w.heap.size + 1 + 1 ≠ tb; omega) (.int .i64 (-1))
  have HRT := hid (fun (W : World) (h : Keep (· = w.heap.size + 1 + 1) (W3.setCell ⟨tb, n, none⟩ (.int .i64 (-1))) W) => (h.owns HOf.out fun i hi h => by have := (HOf.out.lt hi).1; have := R2.out.lt; omega).rt)
  have HKf : Hid (KW w (W3.setCell ⟨tb, n, none⟩ (.int .i64 (-1)))) := ((show Below w.heap.size w W3 from HK3.out)).setCell (p := ⟨tb, n, none⟩) (by have := HTB.out; have := HK1.out.size; show w.heap.size ≤ tb; omega) (.int .i64 (-1))
  go_wp2_with (first
    | (refine wpList_load_row rfl 76 _ rfl g rfl 76 _ (0, 0) _ HW.out Try.underlying76 rfl (by kernel_rfl) ?_)
    | (refine wpList_store_is rfl 76 _ _ rfl (w.heap.size + 1 + 1) 5 76 _ (fun i => [.int .i64 l, .int .i64 a, .int .i64 p, .slice (some ⟨tb, 0, none⟩) N c2, .int .i64 t].getD i undef) #[.int .i64 l, .int .i64 a, .int .i64 p, .slice (some ⟨tb, 0, none⟩) N c2, .int .i64 t] rfl rfl HRes.out (by kernel_rfl) rfl ?qa1 ?qa2 ?_))
  case qa1 => intro i hi; rcases (show i = 0 ∨ i = 1 ∨ i = 2 ∨ i = 3 ∨ i = 4 by omega) with rfl | rfl | rfl | rfl | rfl <;> rfl
  case qa2 => intro i hi; rcases (show i = 0 ∨ i = 1 ∨ i = 2 ∨ i = 3 ∨ i = 4 by omega) with rfl | rfl | rfl | rfl | rfl <;> rfl
  intro W6 hrow6 hkeep6 _
  have hheap : W6.heap[w.heap.size + 1 + 1]? = some (.cells #[.int .i64 l, .int .i64 a, .int .i64 p, .slice (some ⟨tb, 0, none⟩) N c2, .int .i64 t] 76 (0, 0)) := whole hrow6
  have HH := hid hheap
  have HK6 : Hid (KW w W6) := HKf.out.kept hkeep6 fun i hi => by omega
  have HRT6 := hid (HRT.out W6 hkeep6)
  clear hrow6 hkeep6 hheap
  go_wp2_with fail
  exact bodyPost_ret (results_cell_tmp rfl _ _ _ _ _ (0, 0) _ rfl HH.out Try.underlying76 rfl (by kernel_rfl)) rfl ⟨_, rfl, HRT6.out, Or.inr (fun k hk => Nat.le_trans HK1.out.size (HOf.out.lt hk).1), HK6.out⟩

set_option maxRecDepth 100000 in
set_option maxHeartbeats 2000000 in
theorem rdo_4no (l a p t : Int) (tags : List Int) (n : Nat) (v : Value) (w : World) (hv : RT w v tags) (hI : Mc.Inv ⟨l, a, p, t, tags⟩) (ht : t ≤ 4611686018427387904) (hr : Mc.right 4 (n : Int) = true) (hn : n < tags.length) (hc : tags.getD n 0 < 0) :
    Calls Try.prog 57 #[.agg #[.int .i64 l, .int .i64 a, .int .i64 p, v, .int .i64 t], .agg #[.int .i64 4, .int .i64 (n : Int)]] w (RDoP w v ⟨l, a, p, t, tags⟩ 16) := by
  obtain ⟨l0, l1, a0, a1, p0, p1, tg, ln, t0⟩ := hI
  simp only at l0 l1 a0 a1 p0 p1 t0 ln
  have HR := hid (fun W => rright_any 4 (n : Int) W)
  rw [hr] at HR
  obtain ⟨A, cp, rfl, hrow, hty⟩ := hv
  have hAlt : ∀ bb oo, A = some ⟨bb, oo, none⟩ → 0 < tags.length → bb < w.heap.size := fun bb oo hA h0 => by
    obtain ⟨b', off, hA', hb', _⟩ := hrow h0
    rw [hA] at hA'
    cases hA'
    exact hb'
  obtain ⟨bq, oq, rfl, hbq, hcq⟩ := hrow.at_ hn
  have HBq := hid hbq
  have HCq := hid hcq
  clear hbq hcq
  have HSp := hid (fun W (h : KW w W) => rspot_any a p (.slice (some ⟨bq, oq, none⟩) tags.length cp) tags W ln ⟨_, cp, rfl, hrow.k h⟩)
  have HRow := hid hrow
  have HTy := hid hty
  clear hty
  have HT := hid (three_rows w [.int .i64 l, .int .i64 a, .int .i64 p, .slice (some ⟨bq, oq, none⟩) tags.length cp, .int .i64 t] [.int .i64 4, .int .i64 (n : Int)] [.int .i64 0, .int .i64 0, .int .i64 0, .slice none 0 0, .int .i64 0] 76 27 76)
  clear hrow tg hr
  unfold RSpotP at HSp
  have HAlt := hid hAlt
  clear hAlt
  generalize hxq : tags.getD n 0 = xq at *
  have HXq := hid hxq
  clear hxq
  generalize hN : tags.length = N at *
  have HN := hid hN
  clear hN
  have dn : decide (N ≤ n) = false := decide_eq_false (by omega)
  go_enter Try.func57, Try.ntmps57
  go_wp2_with fail
  refine (HR.out _).mono ?_
  rintro e W1 ⟨rfl, hb⟩
  have r0 := KW.row hb HT.out.1.lt HT.out.1
  have r1 := KW.row hb HT.out.2.1.lt HT.out.2.1
  have r2 := KW.row hb HT.out.2.2.1.lt HT.out.2.2.1
  have HK1 := hid (HT.out.2.2.2.t hb)
  have b0 := r0.cell (i := 0) (by simp)
  have b1 := r0.cell (i := 1) (by simp)
  have b2 := r0.cell (i := 2) (by simp)
  have b3 := r0.cell (i := 3) (by simp)
  have b4 := r0.cell (i := 4) (by simp)
  have x0 := r1.cell (i := 0) (by simp)
  have x1 := r1.cell (i := 1) (by simp)
  simp only [List.getD_cons_succ, List.getD_cons_zero] at b0 b1 b2 b3 b4 x0 x1
  have R0 := hid r0
  have R1 := hid r1
  have R2 := hid r2
  clear hb r0 r1 r2 HT
  go_wp2_with fail
  have hXS := And.intro b0 (And.intro b1 (And.intro b2 (And.intro b3 b4)))
  have hq := KW.refl W1
  have HX := hid hXS
  refine wpX_region (S := fun w' => w'.cell? ⟨w.heap.size, 0, none⟩ = some (.int .i64 l) ∧ w'.cell? ⟨w.heap.size, 1, none⟩ = some (.int .i64 a) ∧ w'.cell? ⟨w.heap.size, 2, none⟩ = some (.int .i64 p) ∧ w'.cell? ⟨w.heap.size, 3, none⟩ = some (.slice (some ⟨bq, oq, none⟩) N cp) ∧ w'.cell? ⟨w.heap.size, 4, none⟩ = some (.int .i64 t)) (L := 9) (by kernel_rfl) ?_
  refine wpX_take (i := 0) (v := ?_) rfl rfl (by kernel_rfl) (fun _ _ _ h => h) (Or.inl ⟨rfl, fun wS hwS => ?_⟩) hXS ?_
  rotate_left
  · go_simp; try rfl
  simp only [List.set_cons_zero, List.set_cons_succ]
  refine wpX_take (i := 1) (v := ?_) rfl rfl (by kernel_rfl) (fun _ _ _ h => h) (Or.inl ⟨rfl, fun wS hwS => ?_⟩) hXS ?_
  rotate_left
  · go_simp; try rfl
  simp only [List.set_cons_zero, List.set_cons_succ]
  refine wpX_take (i := 2) (v := ?_) rfl rfl (by kernel_rfl) (fun _ _ _ h => h) (Or.inl ⟨rfl, fun wS hwS => ?_⟩) hXS ?_
  rotate_left
  · go_simp; try rfl
  simp only [List.set_cons_zero, List.set_cons_succ]
  refine wpX_take (i := 3) (v := ?_) rfl rfl (by kernel_rfl) (fun _ _ _ h => h) (Or.inl ⟨rfl, fun wS hwS => ?_⟩) hXS ?_
  rotate_left
  · go_simp; try rfl
  simp only [List.set_cons_zero, List.set_cons_succ]
  refine wpX_take (i := 5) (v := ?_) rfl rfl (by kernel_rfl) (fun _ _ _ h => h) (Or.inl ⟨rfl, fun wS hwS => ?_⟩) hXS ?_
  rotate_left
  · go_simp; try rfl
  simp only [List.set_cons_zero, List.set_cons_succ]
  refine wpX_take (i := 6) (v := ?_) rfl rfl (by kernel_rfl) (fun _ _ _ h => h) (Or.inl ⟨rfl, fun wS hwS => ?_⟩) hXS ?_
  rotate_left
  · go_simp; try rfl
  simp only [List.set_cons_zero, List.set_cons_succ]
  refine wpX_many [(4, 41), (7, 44), (8, 7)] (fun i => match i with | 4 => IsSp a p tags W1.heap.size N | 7 => IsMk l a p t tags W1.heap.size N | _ => IsNewM W1.heap.size) W1 1 rfl (by kernel_rfl) (by kernel_rfl)
    (fun w' hq => And.intro (hq.cell R0.out.lt HX.out.1) (And.intro (hq.cell R0.out.lt HX.out.2.1) (And.intro (hq.cell R0.out.lt HX.out.2.2.1) (And.intro (hq.cell R0.out.lt HX.out.2.2.2.1) (hq.cell R0.out.lt HX.out.2.2.2.2)))))
    (List.forall_mem_cons.2 ⟨fun _ _ _ h k => IsSp.keep h k, List.forall_mem_cons.2 ⟨fun _ _ _ h k => IsMk.keep h k, List.forall_mem_cons.2 ⟨fun _ _ _ h k => IsNewM.keep h k, List.forall_mem_nil _⟩⟩⟩)
    hq.drew ?_ ?_
  · clear hXS hq b0 b1 b2 b3 b4 x0 x1
    refine List.forall_mem_cons.2 ⟨?_, List.forall_mem_cons.2 ⟨?_, List.forall_mem_cons.2 ⟨?_, List.forall_mem_nil _⟩⟩⟩
    · skip
      intro x V hV hx
      clear hx
      refine wpX_op (tv := ?_) rfl ?_ (fun K hK => ?_)
      rotate_left
      · simp only [upd, List.foldl_cons, List.foldl_nil, List.set_cons_zero, List.set_cons_succ]; rfl
      simp only [List.set_cons_zero, List.set_cons_succ] at hK
      go_simp
      refine (HSp.out _ (HK1.out.t hV)).mono ?_
      rintro e w4 ⟨v4, rfl, ho, hb⟩
      obtain ⟨A4, c4, hv4, _⟩ := ho.row
      rw [ints_len, HN.out] at hv4
      subst hv4
      exact hK _ _ hb ⟨A4, c4, rfl, ho.base hV.size⟩
    · skip
      intro x V hV hx
      have h4 := hx (4, 41) (by simp) (by kernel_rfl)
      clear hx
      refine wpX_op (tv := ?_) rfl ?_ (fun K hK => ?_)
      rotate_left
      · simp only [upd, List.foldl_cons, List.foldl_nil, List.set_cons_zero, List.set_cons_succ]; rfl
      simp only [List.set_cons_zero, List.set_cons_succ] at hK
      skip
      obtain ⟨A4, c4, e4, ho⟩ := h4
      have ze4 : _ = _ := e4; simp only [ze4] at hK ⊢
      go_simp
      exact hK _ _ (kwR _) ⟨A4, c4, rfl, ho⟩
    · skip
      intro x V hV hx
      clear hx
      refine wpX_op (tv := ?_) rfl ?_ (fun K hK => ?_)
      rotate_left
      · simp only [upd, List.foldl_cons, List.foldl_nil, List.set_cons_zero, List.set_cons_succ]; rfl
      simp only [List.set_cons_zero, List.set_cons_succ] at hK
      go_simp
      refine hK _ _ (KW.alloc (kwR _) _) ⟨_, rfl, hV.size, World.rowIs_alloc _ #[.int .i64 0, .int .i64 0, .int .i64 0, .slice none 0 0, .int .i64 0] 76 _ fun i hi => by simp at hi; simp [hi]⟩
  clear hXS hq
  intro x W2 hq hx
  have h7 := hx (7, 44) (by simp)
  have h8 := hx (8, 7) (by simp)
  clear hx
  simp only [upd, List.foldl_cons, List.foldl_nil, List.set_cons_zero, List.set_cons_succ]
  obtain ⟨A2, c2, e4, ho2⟩ := h7
  obtain ⟨g, e8, hgB, hg⟩ := h8
  have e4' : x 7 = .agg #[.int .i64 l, .int .i64 a, .int .i64 p, .slice A2 N c2, .int .i64 t] := e4
  have e8' : x 8 = .pointer (some ⟨g, 0, none⟩) := e8
  simp only [e4', e8']
  clear e4 e8 e4' e8'
  have HO2 := hid ho2
  have HG2 := hid hg
  have HGB := hid hgB
  have HK2 := hid (HK1.out.t hq)
  have HQ2 := hid hq
  have hXS := And.intro (hq.cell R0.out.lt HX.out.1) (And.intro (hq.cell R0.out.lt HX.out.2.1) (And.intro (hq.cell R0.out.lt HX.out.2.2.1) (And.intro (hq.cell R0.out.lt HX.out.2.2.2.1) (hq.cell R0.out.lt HX.out.2.2.2.2))))
  clear ho2 hg hgB hq
  refine wpX_store_is (k := 9) (by kernel_rfl) rfl rfl rfl 76 _ _ rfl g 5 76 _ (fun i => [.int .i64 l, .int .i64 a, .int .i64 p, .slice A2 N c2, .int .i64 t].getD i undef) #[.int .i64 l, .int .i64 a, .int .i64 p, .slice A2 N c2, .int .i64 t] rfl rfl HG2.out (by kernel_rfl) rfl (fun i hi => ?_) (fun i hi => ?_) ?_
  · rcases (show i = 0 ∨ i = 1 ∨ i = 2 ∨ i = 3 ∨ i = 4 by omega) with rfl | rfl | rfl | rfl | rfl <;> rfl
  · rcases (show i = 0 ∨ i = 1 ∨ i = 2 ∨ i = 3 ∨ i = 4 by omega) with rfl | rfl | rfl | rfl | rfl <;> rfl
  intro W3 hrow3 _ hkeep3
  refine ⟨fun h => absurd rfl h, wpX_done (by kernel_rfl) ?_⟩
  have HG3 := hid hrow3
  have HO3 : Hid (Owns W3 W1.heap.size 3 (.slice A2 N c2) (ints tags)) := hkeep3.owns HO2.out fun i hi h => HO2.out.apart HG2.out hi h
  have HK3 : Hid (KW w W3) := HK2.out.kept hkeep3 fun i hi => by have := HGB.out; have := HK1.out.size; omega
  have HQ3 : Hid (KW W1 W3) := HQ2.out.kept hkeep3 fun i hi => by have := HGB.out; omega
  clear hXS hrow3 hkeep3 b0 b1 b2 b3 b4 x0 x1
  have b0 := KW.cell HQ3.out R0.out.lt HX.out.1
  have b1 := KW.cell HQ3.out R0.out.lt HX.out.2.1
  have b2 := KW.cell HQ3.out R0.out.lt HX.out.2.2.1
  have b3 := KW.cell HQ3.out R0.out.lt HX.out.2.2.2.1
  have b4 := KW.cell HQ3.out R0.out.lt HX.out.2.2.2.2
  have x0 := (KW.row HQ3.out R1.out.lt R1.out).cell (i := 0) (by simp)
  have x1 := (KW.row HQ3.out R1.out.lt R1.out).cell (i := 1) (by simp)
  have g1 := HG3.out.cell (i := 1) (by omega)
  have g2 := HG3.out.cell (i := 2) (by omega)
  have g3 := HG3.out.cell (i := 3) (by omega)
  have g4 := HG3.out.cell (i := 4) (by omega)
  have k1 := HG3.out.frozen 1
  have k2 := HG3.out.frozen 2
  have k4 := HG3.out.frozen 4
  simp only [List.getD_cons_succ, List.getD_cons_zero] at x0 x1 g1 g2 g3 g4
  have ne0 : ¬ w.heap.size = g := by have := HGB.out; have := R0.out.lt; omega
  have ne1 : ¬ w.heap.size + 1 = g := by have := HGB.out; have := R1.out.lt; omega
  have ne2 : ¬ w.heap.size + 1 + 1 = g := by have := HGB.out; have := R2.out.lt; omega
  have ne0' : ¬ g = w.heap.size := fun h => ne0 h.symm
  have ne1' : ¬ g = w.heap.size + 1 := fun h => ne1 h.symm
  have ne2' : ¬ g = w.heap.size + 1 + 1 := fun h => ne2 h.symm
  have tq := KW.cell HK3.out HBq.out HCq.out
  obtain ⟨tb, rfl, htB, htlt, htc, htf, htset⟩ := HO3.out.cellInt (n := n) (by rw [HN.out]; exact hn)
  have HTS := hid htset
  have HTB := hid htB
  have hap : tb ≠ g := HO3.out.apart HG3.out rfl
  have HAP := hid hap
  clear htset htB hap
  have nt : ¬ tb = g := HAP.out
  have nt' : ¬ g = tb := fun h => nt h.symm
  have HW : Hid (W3.heap[w.heap.size]? = some (.cells #[.int .i64 l, .int .i64 a, .int .i64 p, .slice (some ⟨bq, oq, none⟩) N cp, .int .i64 t] 76 (0, 0))) := whole (KW.row HQ3.out R0.out.lt R0.out)
  have HRes : Hid (W3.rowIs (w.heap.size + 1 + 1) 76 5 (fun i => [.int .i64 0, .int .i64 0, .int .i64 0, .slice none 0 0, .int .i64 0].getD i undef)) := KW.row HQ3.out R2.out.lt R2.out
  have HRT := hid (fun (W : World) (h : Keep (· = w.heap.size + 1 + 1) W3 W) => (show RT W (.slice (some ⟨bq, oq, none⟩) N cp) tags from ⟨_, cp, by rw [HN.out], by rw [HN.out]; exact fun h0 => (h.row1 (HRow.out.k (HK3.out)) fun bb oo hA hbe => by have := HAlt.out bb oo hA h0; omega) h0, by rw [HN.out]; exact (HTy.out.kw (HK3.out)).keep h fun h0 bb oo hA hbe => by have := HAlt.out bb oo hA h0; omega⟩))
  have HKf : Hid (KW w W3) := HK3.out
  go_wp2_with (first
    | (refine wpList_load_row rfl 76 _ rfl w.heap.size rfl 76 _ (0, 0) _ HW.out Try.underlying76 rfl (by kernel_rfl) ?_)
    | (refine wpList_store_is rfl 76 _ _ rfl (w.heap.size + 1 + 1) 5 76 _ (fun i => [.int .i64 l, .int .i64 a, .int .i64 p, .slice (some ⟨bq, oq, none⟩) N cp, .int .i64 t].getD i undef) #[.int .i64 l, .int .i64 a, .int .i64 p, .slice (some ⟨bq, oq, none⟩) N cp, .int .i64 t] rfl rfl HRes.out (by kernel_rfl) rfl ?qa1 ?qa2 ?_))
  case qa1 => intro i hi; rcases (show i = 0 ∨ i = 1 ∨ i = 2 ∨ i = 3 ∨ i = 4 by omega) with rfl | rfl | rfl | rfl | rfl <;> rfl
  case qa2 => intro i hi; rcases (show i = 0 ∨ i = 1 ∨ i = 2 ∨ i = 3 ∨ i = 4 by omega) with rfl | rfl | rfl | rfl | rfl <;> rfl
  intro W6 hrow6 hkeep6 _
  have hheap : W6.heap[w.heap.size + 1 + 1]? = some (.cells #[.int .i64 l, .int .i64 a, .int .i64 p, .slice (some ⟨bq, oq, none⟩) N cp, .int .i64 t] 76 (0, 0)) := whole hrow6
  have HH := hid hheap
  have HK6 : Hid (KW w W6) := HKf.out.kept hkeep6 fun i hi => by omega
  have HRT6 := hid (HRT.out W6 hkeep6)
  clear hrow6 hkeep6 hheap
  go_wp2_with fail
  exact bodyPost_ret (results_cell_tmp rfl _ _ _ _ _ (0, 0) _ rfl HH.out Try.underlying76 rfl (by kernel_rfl)) rfl ⟨_, rfl, HRT6.out, Or.inl rfl, HK6.out⟩

set_option maxRecDepth 100000 in
set_option maxHeartbeats 2000000 in
theorem rdo_5ok (l a p t : Int) (tags : List Int) (n : Int) (v : Value) (w : World) (hv : RT w v tags) (hI : Mc.Inv ⟨l, a, p, t, tags⟩) (ht : t ≤ 4611686018427387904) (hr : Mc.right 5 n = true) (hp : p = -1) (hc : a = l) :
    Calls Try.prog 57 #[.agg #[.int .i64 l, .int .i64 a, .int .i64 p, v, .int .i64 t], .agg #[.int .i64 5, .int .i64 n]] w (RDoP w v ⟨l, a, l, t, tags⟩ 0) := by
  obtain ⟨l0, l1, a0, a1, p0, p1, tg, ln, t0⟩ := hI
  simp only at l0 l1 a0 a1 p0 p1 t0 ln
  have HR := hid (fun W => rright_any 5 n W)
  rw [hr] at HR
  obtain ⟨A, cp, rfl, hrow, hty⟩ := hv
  have hAlt : ∀ bb oo, A = some ⟨bb, oo, none⟩ → 0 < tags.length → bb < w.heap.size := fun bb oo hA h0 => by
    obtain ⟨b', off, hA', hb', _⟩ := hrow h0
    rw [hA] at hA'
    cases hA'
    exact hb'
  have HSp := hid (fun W (h : KW w W) => rspot_any a p (.slice A tags.length cp) tags W ln ⟨A, cp, rfl, hrow.k h⟩)
  have HRow := hid hrow
  have HTy := hid hty
  clear hty
  have HT := hid (three_rows w [.int .i64 l, .int .i64 a, .int .i64 p, .slice A tags.length cp, .int .i64 t] [.int .i64 5, .int .i64 n] [.int .i64 0, .int .i64 0, .int .i64 0, .slice none 0 0, .int .i64 0] 76 27 76)
  clear hrow tg hr
  unfold RSpotP at HSp
  have HAlt := hid hAlt
  clear hAlt
  generalize hN : tags.length = N at *
  have HN := hid hN
  clear hN
  have HC0 := hid hc
  clear hc
  have HP0 := hid hp
  clear hp
  go_enter Try.func57, Try.ntmps57
  go_wp2_with fail
  refine (HR.out _).mono ?_
  rintro e W1 ⟨rfl, hb⟩
  have r0 := KW.row hb HT.out.1.lt HT.out.1
  have r1 := KW.row hb HT.out.2.1.lt HT.out.2.1
  have r2 := KW.row hb HT.out.2.2.1.lt HT.out.2.2.1
  have HK1 := hid (HT.out.2.2.2.t hb)
  have b0 := r0.cell (i := 0) (by simp)
  have b1 := r0.cell (i := 1) (by simp)
  have b2 := r0.cell (i := 2) (by simp)
  have b3 := r0.cell (i := 3) (by simp)
  have b4 := r0.cell (i := 4) (by simp)
  have x0 := r1.cell (i := 0) (by simp)
  have x1 := r1.cell (i := 1) (by simp)
  simp only [List.getD_cons_succ, List.getD_cons_zero] at b0 b1 b2 b3 b4 x0 x1
  have R0 := hid r0
  have R1 := hid r1
  have R2 := hid r2
  clear hb r0 r1 r2 HT
  go_wp2_with fail
  have hXS := And.intro b0 (And.intro b1 (And.intro b2 (And.intro b3 b4)))
  have hq := KW.refl W1
  have HX := hid hXS
  refine wpX_region (S := fun w' => w'.cell? ⟨w.heap.size, 0, none⟩ = some (.int .i64 l) ∧ w'.cell? ⟨w.heap.size, 1, none⟩ = some (.int .i64 a) ∧ w'.cell? ⟨w.heap.size, 2, none⟩ = some (.int .i64 p) ∧ w'.cell? ⟨w.heap.size, 3, none⟩ = some (.slice A N cp) ∧ w'.cell? ⟨w.heap.size, 4, none⟩ = some (.int .i64 t)) (L := 9) (by kernel_rfl) ?_
  refine wpX_take (i := 0) (v := ?_) rfl rfl (by kernel_rfl) (fun _ _ _ h => h) (Or.inl ⟨rfl, fun wS hwS => ?_⟩) hXS ?_
  rotate_left
  · go_simp; try rfl
  simp only [List.set_cons_zero, List.set_cons_succ]
  refine wpX_take (i := 1) (v := ?_) rfl rfl (by kernel_rfl) (fun _ _ _ h => h) (Or.inl ⟨rfl, fun wS hwS => ?_⟩) hXS ?_
  rotate_left
  · go_simp; try rfl
  simp only [List.set_cons_zero, List.set_cons_succ]
  refine wpX_take (i := 2) (v := ?_) rfl rfl (by kernel_rfl) (fun _ _ _ h => h) (Or.inl ⟨rfl, fun wS hwS => ?_⟩) hXS ?_
  rotate_left
  · go_simp; try rfl
  simp only [List.set_cons_zero, List.set_cons_succ]
  refine wpX_take (i := 3) (v := ?_) rfl rfl (by kernel_rfl) (fun _ _ _ h => h) (Or.inl ⟨rfl, fun wS hwS => ?_⟩) hXS ?_
  rotate_left
  · go_simp; try rfl
  simp only [List.set_cons_zero, List.set_cons_succ]
  refine wpX_take (i := 5) (v := ?_) rfl rfl (by kernel_rfl) (fun _ _ _ h => h) (Or.inl ⟨rfl, fun wS hwS => ?_⟩) hXS ?_
  rotate_left
  · go_simp; try rfl
  simp only [List.set_cons_zero, List.set_cons_succ]
  refine wpX_take (i := 6) (v := ?_) rfl rfl (by kernel_rfl) (fun _ _ _ h => h) (Or.inl ⟨rfl, fun wS hwS => ?_⟩) hXS ?_
  rotate_left
  · go_simp; try rfl
  simp only [List.set_cons_zero, List.set_cons_succ]
  refine wpX_many [(4, 41), (7, 44), (8, 7)] (fun i => match i with | 4 => IsSp a p tags W1.heap.size N | 7 => IsMk l a p t tags W1.heap.size N | _ => IsNewM W1.heap.size) W1 1 rfl (by kernel_rfl) (by kernel_rfl)
    (fun w' hq => And.intro (hq.cell R0.out.lt HX.out.1) (And.intro (hq.cell R0.out.lt HX.out.2.1) (And.intro (hq.cell R0.out.lt HX.out.2.2.1) (And.intro (hq.cell R0.out.lt HX.out.2.2.2.1) (hq.cell R0.out.lt HX.out.2.2.2.2)))))
    (List.forall_mem_cons.2 ⟨fun _ _ _ h k => IsSp.keep h k, List.forall_mem_cons.2 ⟨fun _ _ _ h k => IsMk.keep h k, List.forall_mem_cons.2 ⟨fun _ _ _ h k => IsNewM.keep h k, List.forall_mem_nil _⟩⟩⟩)
    hq.drew ?_ ?_
  · clear hXS hq b0 b1 b2 b3 b4 x0 x1
    refine List.forall_mem_cons.2 ⟨?_, List.forall_mem_cons.2 ⟨?_, List.forall_mem_cons.2 ⟨?_, List.forall_mem_nil _⟩⟩⟩
    · skip
      intro x V hV hx
      clear hx
      refine wpX_op (tv := ?_) rfl ?_ (fun K hK => ?_)
      rotate_left
      · simp only [upd, List.foldl_cons, List.foldl_nil, List.set_cons_zero, List.set_cons_succ]; rfl
      simp only [List.set_cons_zero, List.set_cons_succ] at hK
      go_simp
      refine (HSp.out _ (HK1.out.t hV)).mono ?_
      rintro e w4 ⟨v4, rfl, ho, hb⟩
      obtain ⟨A4, c4, hv4, _⟩ := ho.row
      rw [ints_len, HN.out] at hv4
      subst hv4
      exact hK _ _ hb ⟨A4, c4, rfl, ho.base hV.size⟩
    · skip
      intro x V hV hx
      have h4 := hx (4, 41) (by simp) (by kernel_rfl)
      clear hx
      refine wpX_op (tv := ?_) rfl ?_ (fun K hK => ?_)
      rotate_left
      · simp only [upd, List.foldl_cons, List.foldl_nil, List.set_cons_zero, List.set_cons_succ]; rfl
      simp only [List.set_cons_zero, List.set_cons_succ] at hK
      skip
      obtain ⟨A4, c4, e4, ho⟩ := h4
      have ze4 : _ = _ := e4; simp only [ze4] at hK ⊢
      go_simp
      exact hK _ _ (kwR _) ⟨A4, c4, rfl, ho⟩
    · skip
      intro x V hV hx
      clear hx
      refine wpX_op (tv := ?_) rfl ?_ (fun K hK => ?_)
      rotate_left
      · simp only [upd, List.foldl_cons, List.foldl_nil, List.set_cons_zero, List.set_cons_succ]; rfl
      simp only [List.set_cons_zero, List.set_cons_succ] at hK
      go_simp
      refine hK _ _ (KW.alloc (kwR _) _) ⟨_, rfl, hV.size, World.rowIs_alloc _ #[.int .i64 0, .int .i64 0, .int .i64 0, .slice none 0 0, .int .i64 0] 76 _ fun i hi => by simp at hi; simp [hi]⟩
  clear hXS hq
  intro x W2 hq hx
  have h7 := hx (7, 44) (by simp)
  have h8 := hx (8, 7) (by simp)
  clear hx
  simp only [upd, List.foldl_cons, List.foldl_nil, List.set_cons_zero, List.set_cons_succ]
  obtain ⟨A2, c2, e4, ho2⟩ := h7
  obtain ⟨g, e8, hgB, hg⟩ := h8
  have e4' : x 7 = .agg #[.int .i64 l, .int .i64 a, .int .i64 p, .slice A2 N c2, .int .i64 t] := e4
  have e8' : x 8 = .pointer (some ⟨g, 0, none⟩) := e8
  simp only [e4', e8']
  clear e4 e8 e4' e8'
  have HO2 := hid ho2
  have HG2 := hid hg
  have HGB := hid hgB
  have HK2 := hid (HK1.out.t hq)
  have HQ2 := hid hq
  have hXS := And.intro (hq.cell R0.out.lt HX.out.1) (And.intro (hq.cell R0.out.lt HX.out.2.1) (And.intro (hq.cell R0.out.lt HX.out.2.2.1) (And.intro (hq.cell R0.out.lt HX.out.2.2.2.1) (hq.cell R0.out.lt HX.out.2.2.2.2))))
  clear ho2 hg hgB hq
  refine wpX_store_is (k := 9) (by kernel_rfl) rfl rfl rfl 76 _ _ rfl g 5 76 _ (fun i => [.int .i64 l, .int .i64 a, .int .i64 p, .slice A2 N c2, .int .i64 t].getD i undef) #[.int .i64 l, .int .i64 a, .int .i64 p, .slice A2 N c2, .int .i64 t] rfl rfl HG2.out (by kernel_rfl) rfl (fun i hi => ?_) (fun i hi => ?_) ?_
  · rcases (show i = 0 ∨ i = 1 ∨ i = 2 ∨ i = 3 ∨ i = 4 by omega) with rfl | rfl | rfl | rfl | rfl <;> rfl
  · rcases (show i = 0 ∨ i = 1 ∨ i = 2 ∨ i = 3 ∨ i = 4 by omega) with rfl | rfl | rfl | rfl | rfl <;> rfl
  intro W3 hrow3 _ hkeep3
  refine ⟨fun h => absurd rfl h, wpX_done (by kernel_rfl) ?_⟩
  have HG3 := hid hrow3
  have HO3 : Hid (Owns W3 W1.heap.size 3 (.slice A2 N c2) (ints tags)) := hkeep3.owns HO2.out fun i hi h => HO2.out.apart HG2.out hi h
  have HK3 : Hid (KW w W3) := HK2.out.kept hkeep3 fun i hi => by have := HGB.out; have := HK1.out.size; omega
  have HQ3 : Hid (KW W1 W3) := HQ2.out.kept hkeep3 fun i hi => by have := HGB.out; omega
  clear hXS hrow3 hkeep3 b0 b1 b2 b3 b4 x0 x1
  have b0 := KW.cell HQ3.out R0.out.lt HX.out.1
  have b1 := KW.cell HQ3.out R0.out.lt HX.out.2.1
  have b2 := KW.cell HQ3.out R0.out.lt HX.out.2.2.1
  have b3 := KW.cell HQ3.out R0.out.lt HX.out.2.2.2.1
  have b4 := KW.cell HQ3.out R0.out.lt HX.out.2.2.2.2
  have x0 := (KW.row HQ3.out R1.out.lt R1.out).cell (i := 0) (by simp)
  have x1 := (KW.row HQ3.out R1.out.lt R1.out).cell (i := 1) (by simp)
  have g1 := HG3.out.cell (i := 1) (by omega)
  have g2 := HG3.out.cell (i := 2) (by omega)
  have g3 := HG3.out.cell (i := 3) (by omega)
  have g4 := HG3.out.cell (i := 4) (by omega)
  have k1 := HG3.out.frozen 1
  have k2 := HG3.out.frozen 2
  have k4 := HG3.out.frozen 4
  simp only [List.getD_cons_succ, List.getD_cons_zero] at x0 x1 g1 g2 g3 g4
  have ne0 : ¬ w.heap.size = g := by have := HGB.out; have := R0.out.lt; omega
  have ne1 : ¬ w.heap.size + 1 = g := by have := HGB.out; have := R1.out.lt; omega
  have ne2 : ¬ w.heap.size + 1 + 1 = g := by have := HGB.out; have := R2.out.lt; omega
  have ne0' : ¬ g = w.heap.size := fun h => ne0 h.symm
  have ne1' : ¬ g = w.heap.size + 1 := fun h => ne1 h.symm
  have ne2' : ¬ g = w.heap.size + 1 + 1 := fun h => ne2 h.symm
  have hc := HC0.out
  have hp := HP0.out
  have d7 : decide (0 ≤ p) = false := decide_eq_false (by omega)
  clear hp
  have d6 : (a != l) = false := by simp; exact hc
  have d6b : (a == l) = true := by simp; exact hc
  have HCC := hid hc
  clear hc
  have HGf : Hid ((W3.setCell ⟨g, 2, none⟩ (.int .i64 (l))).rowIs g 76 5 (fun i => [.int .i64 l, .int .i64 a, .int .i64 (l), .slice A2 N c2, .int .i64 t].getD i undef)) := ((HG3.out).set 2 (.int .i64 (l))).congr fun i hi => by rcases (show i = 0 ∨ i = 1 ∨ i = 2 ∨ i = 3 ∨ i = 4 by omega) with rfl | rfl | rfl | rfl | rfl <;> rfl
  have HOf : Hid (Owns (W3.setCell ⟨g, 2, none⟩ (.int .i64 (l))) W1.heap.size 3 (.slice A2 N c2) (ints (tags))) := (HO3.out).of_blocks (fun i hi => heap_setCell_other _ _ i _ (show i ≠ g from HO3.out.apart HG3.out hi))
  have HW : Hid ((W3.setCell ⟨g, 2, none⟩ (.int .i64 (l))).heap[g]? = some (.cells #[.int .i64 l, .int .i64 a, .int .i64 (l), .slice A2 N c2, .int .i64 t] 76 (0, 0))) := whole (HGf.out)
  have HRes : Hid ((W3.setCell ⟨g, 2, none⟩ (.int .i64 (l))).rowIs (w.heap.size + 1 + 1) 76 5 (fun i => [.int .i64 0, .int .i64 0, .int .i64 0, .slice none 0 0, .int .i64 0].getD i undef)) := (KW.row HQ3.out R2.out.lt R2.out).setOther (a := ⟨g, 2, none⟩) (by have := HGB.out; have := R2.out.lt; show w.heap.size + 1 + 1 ≠ g; omega) (.int .i64 (l))
  have HRT := hid (fun (W : World) (h : Keep (· = w.heap.size + 1 + 1) (W3.setCell ⟨g, 2, none⟩ (.int .i64 (l))) W) => (h.owns HOf.out fun i hi h => by have := (HOf.out.lt hi).1; have := R2.out.lt; omega).rt)
  have HKf : Hid (KW w (W3.setCell ⟨g, 2, none⟩ (.int .i64 (l)))) := ((show Below w.heap.size w W3 from HK3.out)).setCell (p := ⟨g, 2, none⟩) (by have := HGB.out; have := HK1.out.size; show w.heap.size ≤ g; omega) (.int .i64 (l))
  go_wp2_with (first
    | (refine wpList_load_row rfl 76 _ rfl g rfl 76 _ (0, 0) _ HW.out Try.underlying76 rfl (by kernel_rfl) ?_)
    | (refine wpList_store_is rfl 76 _ _ rfl (w.heap.size + 1 + 1) 5 76 _ (fun i => [.int .i64 l, .int .i64 a, .int .i64 (l), .slice A2 N c2, .int .i64 t].getD i undef) #[.int .i64 l, .int .i64 a, .int .i64 (l), .slice A2 N c2, .int .i64 t] rfl rfl HRes.out (by kernel_rfl) rfl ?qa1 ?qa2 ?_))
  case qa1 => intro i hi; rcases (show i = 0 ∨ i = 1 ∨ i = 2 ∨ i = 3 ∨ i = 4 by omega) with rfl | rfl | rfl | rfl | rfl <;> rfl
  case qa2 => intro i hi; rcases (show i = 0 ∨ i = 1 ∨ i = 2 ∨ i = 3 ∨ i = 4 by omega) with rfl | rfl | rfl | rfl | rfl <;> rfl
  intro W6 hrow6 hkeep6 _
  have hheap : W6.heap[w.heap.size + 1 + 1]? = some (.cells #[.int .i64 l, .int .i64 a, .int .i64 (l), .slice A2 N c2, .int .i64 t] 76 (0, 0)) := whole hrow6
  have HH := hid hheap
  have HK6 : Hid (KW w W6) := HKf.out.kept hkeep6 fun i hi => by omega
  have HRT6 := hid (HRT.out W6 hkeep6)
  clear hrow6 hkeep6 hheap
  go_wp2_with fail
  exact bodyPost_ret (results_cell_tmp rfl _ _ _ _ _ (0, 0) _ rfl HH.out Try.underlying76 rfl (by kernel_rfl)) rfl ⟨_, rfl, HRT6.out, Or.inr (fun k hk => Nat.le_trans HK1.out.size (HOf.out.lt hk).1), HK6.out⟩

set_option maxRecDepth 100000 in
set_option maxHeartbeats 2000000 in
theorem rdo_5pl (l a p t : Int) (tags : List Int) (n : Int) (v : Value) (w : World) (hv : RT w v tags) (hI : Mc.Inv ⟨l, a, p, t, tags⟩) (ht : t ≤ 4611686018427387904) (hr : Mc.right 5 n = true) (hp : p = -1) (hc : a ≠ l) :
    Calls Try.prog 57 #[.agg #[.int .i64 l, .int .i64 a, .int .i64 p, v, .int .i64 t], .agg #[.int .i64 5, .int .i64 n]] w (RDoP w v ⟨l, a, p, t, tags⟩ 17) := by
  obtain ⟨l0, l1, a0, a1, p0, p1, tg, ln, t0⟩ := hI
  simp only at l0 l1 a0 a1 p0 p1 t0 ln
  have HR := hid (fun W => rright_any 5 n W)
  rw [hr] at HR
  obtain ⟨A, cp, rfl, hrow, hty⟩ := hv
  have hAlt : ∀ bb oo, A = some ⟨bb, oo, none⟩ → 0 < tags.length → bb < w.heap.size := fun bb oo hA h0 => by
    obtain ⟨b', off, hA', hb', _⟩ := hrow h0
    rw [hA] at hA'
    cases hA'
    exact hb'
  have HSp := hid (fun W (h : KW w W) => rspot_any a p (.slice A tags.length cp) tags W ln ⟨A, cp, rfl, hrow.k h⟩)
  have HRow := hid hrow
  have HTy := hid hty
  clear hty
  have HT := hid (three_rows w [.int .i64 l, .int .i64 a, .int .i64 p, .slice A tags.length cp, .int .i64 t] [.int .i64 5, .int .i64 n] [.int .i64 0, .int .i64 0, .int .i64 0, .slice none 0 0, .int .i64 0] 76 27 76)
  clear hrow tg hr
  unfold RSpotP at HSp
  have HAlt := hid hAlt
  clear hAlt
  generalize hN : tags.length = N at *
  have HN := hid hN
  clear hN
  have HC0 := hid hc
  clear hc
  have HP0 := hid hp
  clear hp
  go_enter Try.func57, Try.ntmps57
  go_wp2_with fail
  refine (HR.out _).mono ?_
  rintro e W1 ⟨rfl, hb⟩
  have r0 := KW.row hb HT.out.1.lt HT.out.1
  have r1 := KW.row hb HT.out.2.1.lt HT.out.2.1
  have r2 := KW.row hb HT.out.2.2.1.lt HT.out.2.2.1
  have HK1 := hid (HT.out.2.2.2.t hb)
  have b0 := r0.cell (i := 0) (by simp)
  have b1 := r0.cell (i := 1) (by simp)
  have b2 := r0.cell (i := 2) (by simp)
  have b3 := r0.cell (i := 3) (by simp)
  have b4 := r0.cell (i := 4) (by simp)
  have x0 := r1.cell (i := 0) (by simp)
  have x1 := r1.cell (i := 1) (by simp)
  simp only [List.getD_cons_succ, List.getD_cons_zero] at b0 b1 b2 b3 b4 x0 x1
  have R0 := hid r0
  have R1 := hid r1
  have R2 := hid r2
  clear hb r0 r1 r2 HT
  go_wp2_with fail
  have hXS := And.intro b0 (And.intro b1 (And.intro b2 (And.intro b3 b4)))
  have hq := KW.refl W1
  have HX := hid hXS
  refine wpX_region (S := fun w' => w'.cell? ⟨w.heap.size, 0, none⟩ = some (.int .i64 l) ∧ w'.cell? ⟨w.heap.size, 1, none⟩ = some (.int .i64 a) ∧ w'.cell? ⟨w.heap.size, 2, none⟩ = some (.int .i64 p) ∧ w'.cell? ⟨w.heap.size, 3, none⟩ = some (.slice A N cp) ∧ w'.cell? ⟨w.heap.size, 4, none⟩ = some (.int .i64 t)) (L := 9) (by kernel_rfl) ?_
  refine wpX_take (i := 0) (v := ?_) rfl rfl (by kernel_rfl) (fun _ _ _ h => h) (Or.inl ⟨rfl, fun wS hwS => ?_⟩) hXS ?_
  rotate_left
  · go_simp; try rfl
  simp only [List.set_cons_zero, List.set_cons_succ]
  refine wpX_take (i := 1) (v := ?_) rfl rfl (by kernel_rfl) (fun _ _ _ h => h) (Or.inl ⟨rfl, fun wS hwS => ?_⟩) hXS ?_
  rotate_left
  · go_simp; try rfl
  simp only [List.set_cons_zero, List.set_cons_succ]
  refine wpX_take (i := 2) (v := ?_) rfl rfl (by kernel_rfl) (fun _ _ _ h => h) (Or.inl ⟨rfl, fun wS hwS => ?_⟩) hXS ?_
  rotate_left
  · go_simp; try rfl
  simp only [List.set_cons_zero, List.set_cons_succ]
  refine wpX_take (i := 3) (v := ?_) rfl rfl (by kernel_rfl) (fun _ _ _ h => h) (Or.inl ⟨rfl, fun wS hwS => ?_⟩) hXS ?_
  rotate_left
  · go_simp; try rfl
  simp only [List.set_cons_zero, List.set_cons_succ]
  refine wpX_take (i := 5) (v := ?_) rfl rfl (by kernel_rfl) (fun _ _ _ h => h) (Or.inl ⟨rfl, fun wS hwS => ?_⟩) hXS ?_
  rotate_left
  · go_simp; try rfl
  simp only [List.set_cons_zero, List.set_cons_succ]
  refine wpX_take (i := 6) (v := ?_) rfl rfl (by kernel_rfl) (fun _ _ _ h => h) (Or.inl ⟨rfl, fun wS hwS => ?_⟩) hXS ?_
  rotate_left
  · go_simp; try rfl
  simp only [List.set_cons_zero, List.set_cons_succ]
  refine wpX_many [(4, 41), (7, 44), (8, 7)] (fun i => match i with | 4 => IsSp a p tags W1.heap.size N | 7 => IsMk l a p t tags W1.heap.size N | _ => IsNewM W1.heap.size) W1 1 rfl (by kernel_rfl) (by kernel_rfl)
    (fun w' hq => And.intro (hq.cell R0.out.lt HX.out.1) (And.intro (hq.cell R0.out.lt HX.out.2.1) (And.intro (hq.cell R0.out.lt HX.out.2.2.1) (And.intro (hq.cell R0.out.lt HX.out.2.2.2.1) (hq.cell R0.out.lt HX.out.2.2.2.2)))))
    (List.forall_mem_cons.2 ⟨fun _ _ _ h k => IsSp.keep h k, List.forall_mem_cons.2 ⟨fun _ _ _ h k => IsMk.keep h k, List.forall_mem_cons.2 ⟨fun _ _ _ h k => IsNewM.keep h k, List.forall_mem_nil _⟩⟩⟩)
    hq.drew ?_ ?_
  · clear hXS hq b0 b1 b2 b3 b4 x0 x1
    refine List.forall_mem_cons.2 ⟨?_, List.forall_mem_cons.2 ⟨?_, List.forall_mem_cons.2 ⟨?_, List.forall_mem_nil _⟩⟩⟩
    · skip
      intro x V hV hx
      clear hx
      refine wpX_op (tv := ?_) rfl ?_ (fun K hK => ?_)
      rotate_left
      · simp only [upd, List.foldl_cons, List.foldl_nil, List.set_cons_zero, List.set_cons_succ]; rfl
      simp only [List.set_cons_zero, List.set_cons_succ] at hK
      go_simp
      refine (HSp.out _ (HK1.out.t hV)).mono ?_
      rintro e w4 ⟨v4, rfl, ho, hb⟩
      obtain ⟨A4, c4, hv4, _⟩ := ho.row
      rw [ints_len, HN.out] at hv4
      subst hv4
      exact hK _ _ hb ⟨A4, c4, rfl, ho.base hV.size⟩
    · skip
      intro x V hV hx
      have h4 := hx (4, 41) (by simp) (by kernel_rfl)
      clear hx
      refine wpX_op (tv := ?_) rfl ?_ (fun K hK => ?_)
      rotate_left
      · simp only [upd, List.foldl_cons, List.foldl_nil, List.set_cons_zero, List.set_cons_succ]; rfl
      simp only [List.set_cons_zero, List.set_cons_succ] at hK
      skip
      obtain ⟨A4, c4, e4, ho⟩ := h4
      have ze4 : _ = _ := e4; simp only [ze4] at hK ⊢
      go_simp
      exact hK _ _ (kwR _) ⟨A4, c4, rfl, ho⟩
    · skip
      intro x V hV hx
      clear hx
      refine wpX_op (tv := ?_) rfl ?_ (fun K hK => ?_)
      rotate_left
      · simp only [upd, List.foldl_cons, List.foldl_nil, List.set_cons_zero, List.set_cons_succ]; rfl
      simp only [List.set_cons_zero, List.set_cons_succ] at hK
      go_simp
      refine hK _ _ (KW.alloc (kwR _) _) ⟨_, rfl, hV.size, World.rowIs_alloc _ #[.int .i64 0, .int .i64 0, .int .i64 0, .slice none 0 0, .int .i64 0] 76 _ fun i hi => by simp at hi; simp [hi]⟩
  clear hXS hq
  intro x W2 hq hx
  have h7 := hx (7, 44) (by simp)
  have h8 := hx (8, 7) (by simp)
  clear hx
  simp only [upd, List.foldl_cons, List.foldl_nil, List.set_cons_zero, List.set_cons_succ]
  obtain ⟨A2, c2, e4, ho2⟩ := h7
  obtain ⟨g, e8, hgB, hg⟩ := h8
  have e4' : x 7 = .agg #[.int .i64 l, .int .i64 a, .int .i64 p, .slice A2 N c2, .int .i64 t] := e4
  have e8' : x 8 = .pointer (some ⟨g, 0, none⟩) := e8
  simp only [e4', e8']
  clear e4 e8 e4' e8'
  have HO2 := hid ho2
  have HG2 := hid hg
  have HGB := hid hgB
  have HK2 := hid (HK1.out.t hq)
  have HQ2 := hid hq
  have hXS := And.intro (hq.cell R0.out.lt HX.out.1) (And.intro (hq.cell R0.out.lt HX.out.2.1) (And.intro (hq.cell R0.out.lt HX.out.2.2.1) (And.intro (hq.cell R0.out.lt HX.out.2.2.2.1) (hq.cell R0.out.lt HX.out.2.2.2.2))))
  clear ho2 hg hgB hq
  refine wpX_store_is (k := 9) (by kernel_rfl) rfl rfl rfl 76 _ _ rfl g 5 76 _ (fun i => [.int .i64 l, .int .i64 a, .int .i64 p, .slice A2 N c2, .int .i64 t].getD i undef) #[.int .i64 l, .int .i64 a, .int .i64 p, .slice A2 N c2, .int .i64 t] rfl rfl HG2.out (by kernel_rfl) rfl (fun i hi => ?_) (fun i hi => ?_) ?_
  · rcases (show i = 0 ∨ i = 1 ∨ i = 2 ∨ i = 3 ∨ i = 4 by omega) with rfl | rfl | rfl | rfl | rfl <;> rfl
  · rcases (show i = 0 ∨ i = 1 ∨ i = 2 ∨ i = 3 ∨ i = 4 by omega) with rfl | rfl | rfl | rfl | rfl <;> rfl
  intro W3 hrow3 _ hkeep3
  refine ⟨fun h => absurd rfl h, wpX_done (by kernel_rfl) ?_⟩
  have HG3 := hid hrow3
  have HO3 : Hid (Owns W3 W1.heap.size 3 (.slice A2 N c2) (ints tags)) := hkeep3.owns HO2.out fun i hi h => HO2.out.apart HG2.out hi h
  have HK3 : Hid (KW w W3) := HK2.out.kept hkeep3 fun i hi => by have := HGB.out; have := HK1.out.size; omega
  have HQ3 : Hid (KW W1 W3) := HQ2.out.kept hkeep3 fun i hi => by have := HGB.out; omega
  clear hXS hrow3 hkeep3 b0 b1 b2 b3 b4 x0 x1
  have b0 := KW.cell HQ3.out R0.out.lt HX.out.1
  have b1 := KW.cell HQ3.out R0.out.lt HX.out.2.1
  have b2 := KW.cell HQ3.out R0.out.lt HX.out.2.2.1
  have b3 := KW.cell HQ3.out R0.out.lt HX.out.2.2.2.1
  have b4 := KW.cell HQ3.out R0.out.lt HX.out.2.2.2.2
  have x0 := (KW.row HQ3.out R1.out.lt R1.out).cell (i := 0) (by simp)
  have x1 := (KW.row HQ3.out R1.out.lt R1.out).cell (i := 1) (by simp)
  have g1 := HG3.out.cell (i := 1) (by omega)
  have g2 := HG3.out.cell (i := 2) (by omega)
  have g3 := HG3.out.cell (i := 3) (by omega)
  have g4 := HG3.out.cell (i := 4) (by omega)
  have k1 := HG3.out.frozen 1
  have k2 := HG3.out.frozen 2
  have k4 := HG3.out.frozen 4
  simp only [List.getD_cons_succ, List.getD_cons_zero] at x0 x1 g1 g2 g3 g4
  have ne0 : ¬ w.heap.size = g := by have := HGB.out; have := R0.out.lt; omega
  have ne1 : ¬ w.heap.size + 1 = g := by have := HGB.out; have := R1.out.lt; omega
  have ne2 : ¬ w.heap.size + 1 + 1 = g := by have := HGB.out; have := R2.out.lt; omega
  have ne0' : ¬ g = w.heap.size := fun h => ne0 h.symm
  have ne1' : ¬ g = w.heap.size + 1 := fun h => ne1 h.symm
  have ne2' : ¬ g = w.heap.size + 1 + 1 := fun h => ne2 h.symm
  have hc := HC0.out
  have hp := HP0.out
  have d7 : decide (0 ≤ p) = false := decide_eq_false (by omega)
  clear hp
  have d6 : (a != l) = true := by simpa using hc
  have d6b : (a == l) = false := by simpa using hc
  clear hc
  have HW : Hid (W3.heap[w.heap.size]? = some (.cells #[.int .i64 l, .int .i64 a, .int .i64 p, .slice A N cp, .int .i64 t] 76 (0, 0))) := whole (KW.row HQ3.out R0.out.lt R0.out)
  have HRes : Hid (W3.rowIs (w.heap.size + 1 + 1) 76 5 (fun i => [.int .i64 0, .int .i64 0, .int .i64 0, .slice none 0 0, .int .i64 0].getD i undef)) := KW.row HQ3.out R2.out.lt R2.out
  have HRT := hid (fun (W : World) (h : Keep (· = w.heap.size + 1 + 1) W3 W) => (show RT W (.slice A N cp) tags from ⟨_, cp, by rw [HN.out], by rw [HN.out]; exact fun h0 => (h.row1 (HRow.out.k (HK3.out)) fun bb oo hA hbe => by have := HAlt.out bb oo hA h0; omega) h0, by rw [HN.out]; exact (HTy.out.kw (HK3.out)).keep h fun h0 bb oo hA hbe => by have := HAlt.out bb oo hA h0; omega⟩))
  have HKf : Hid (KW w W3) := HK3.out
  go_wp2_with (first
    | (refine wpList_load_row rfl 76 _ rfl w.heap.size rfl 76 _ (0, 0) _ HW.out Try.underlying76 rfl (by kernel_rfl) ?_)
    | (refine wpList_store_is rfl 76 _ _ rfl (w.heap.size + 1 + 1) 5 76 _ (fun i => [.int .i64 l, .int .i64 a, .int .i64 p, .slice A N cp, .int .i64 t].getD i undef) #[.int .i64 l, .int .i64 a, .int .i64 p, .slice A N cp, .int .i64 t] rfl rfl HRes.out (by kernel_rfl) rfl ?qa1 ?qa2 ?_))
  case qa1 => intro i hi; rcases (show i = 0 ∨ i = 1 ∨ i = 2 ∨ i = 3 ∨ i = 4 by omega) with rfl | rfl | rfl | rfl | rfl <;> rfl
  case qa2 => intro i hi; rcases (show i = 0 ∨ i = 1 ∨ i = 2 ∨ i = 3 ∨ i = 4 by omega) with rfl | rfl | rfl | rfl | rfl <;> rfl
  intro W6 hrow6 hkeep6 _
  have hheap : W6.heap[w.heap.size + 1 + 1]? = some (.cells #[.int .i64 l, .int .i64 a, .int .i64 p, .slice A N cp, .int .i64 t] 76 (0, 0)) := whole hrow6
  have HH := hid hheap
  have HK6 : Hid (KW w W6) := HKf.out.kept hkeep6 fun i hi => by omega
  have HRT6 := hid (HRT.out W6 hkeep6)
  clear hrow6 hkeep6 hheap
  go_wp2_with fail
  exact bodyPost_ret (results_cell_tmp rfl _ _ _ _ _ (0, 0) _ rfl HH.out Try.underlying76 rfl (by kernel_rfl)) rfl ⟨_, rfl, HRT6.out, Or.inl rfl, HK6.out⟩

set_option maxRecDepth 100000 in
set_option maxHeartbeats 2000000 in
theorem rdo_5pe (l a p t : Int) (tags : List Int) (n : Int) (v : Value) (w : World) (hv : RT w v tags) (hI : Mc.Inv ⟨l, a, p, t, tags⟩) (ht : t ≤ 4611686018427387904) (hr : Mc.right 5 n = true) (hp : 0 ≤ p) :
    Calls Try.prog 57 #[.agg #[.int .i64 l, .int .i64 a, .int .i64 p, v, .int .i64 t], .agg #[.int .i64 5, .int .i64 n]] w (RDoP w v ⟨l, a, p, t, tags⟩ 18) := by
  obtain ⟨l0, l1, a0, a1, p0, p1, tg, ln, t0⟩ := hI
  simp only at l0 l1 a0 a1 p0 p1 t0 ln
  have HR := hid (fun W => rright_any 5 n W)
  rw [hr] at HR
  obtain ⟨A, cp, rfl, hrow, hty⟩ := hv
  have hAlt : ∀ bb oo, A = some ⟨bb, oo, none⟩ → 0 < tags.length → bb < w.heap.size := fun bb oo hA h0 => by
    obtain ⟨b', off, hA', hb', _⟩ := hrow h0
    rw [hA] at hA'
    cases hA'
    exact hb'
  have HSp := hid (fun W (h : KW w W) => rspot_any a p (.slice A tags.length cp) tags W ln ⟨A, cp, rfl, hrow.k h⟩)
  have HRow := hid hrow
  have HTy := hid hty
  clear hty
  have HT := hid (three_rows w [.int .i64 l, .int .i64 a, .int .i64 p, .slice A tags.length cp, .int .i64 t] [.int .i64 5, .int .i64 n] [.int .i64 0, .int .i64 0, .int .i64 0, .slice none 0 0, .int .i64 0] 76 27 76)
  clear hrow tg hr
  unfold RSpotP at HSp
  have HAlt := hid hAlt
  clear hAlt
  generalize hN : tags.length = N at *
  have HN := hid hN
  clear hN
  have HP0 := hid hp
  clear hp
  go_enter Try.func57, Try.ntmps57
  go_wp2_with fail
  refine (HR.out _).mono ?_
  rintro e W1 ⟨rfl, hb⟩
  have r0 := KW.row hb HT.out.1.lt HT.out.1
  have r1 := KW.row hb HT.out.2.1.lt HT.out.2.1
  have r2 := KW.row hb HT.out.2.2.1.lt HT.out.2.2.1
  have HK1 := hid (HT.out.2.2.2.t hb)
  have b0 := r0.cell (i := 0) (by simp)
  have b1 := r0.cell (i := 1) (by simp)
  have b2 := r0.cell (i := 2) (by simp)
  have b3 := r0.cell (i := 3) (by simp)
  have b4 := r0.cell (i := 4) (by simp)
  have x0 := r1.cell (i := 0) (by simp)
  have x1 := r1.cell (i := 1) (by simp)
  simp only [List.getD_cons_succ, List.getD_cons_zero] at b0 b1 b2 b3 b4 x0 x1
  have R0 := hid r0
  have R1 := hid r1
  have R2 := hid r2
  clear hb r0 r1 r2 HT
  go_wp2_with fail
  have hXS := And.intro b0 (And.intro b1 (And.intro b2 (And.intro b3 b4)))
  have hq := KW.refl W1
  have HX := hid hXS
  refine wpX_region (S := fun w' => w'.cell? ⟨w.heap.size, 0, none⟩ = some (.int .i64 l) ∧ w'.cell? ⟨w.heap.size, 1, none⟩ = some (.int .i64 a) ∧ w'.cell? ⟨w.heap.size, 2, none⟩ = some (.int .i64 p) ∧ w'.cell? ⟨w.heap.size, 3, none⟩ = some (.slice A N cp) ∧ w'.cell? ⟨w.heap.size, 4, none⟩ = some (.int .i64 t)) (L := 9) (by kernel_rfl) ?_
  refine wpX_take (i := 0) (v := ?_) rfl rfl (by kernel_rfl) (fun _ _ _ h => h) (Or.inl ⟨rfl, fun wS hwS => ?_⟩) hXS ?_
  rotate_left
  · go_simp; try rfl
  simp only [List.set_cons_zero, List.set_cons_succ]
  refine wpX_take (i := 1) (v := ?_) rfl rfl (by kernel_rfl) (fun _ _ _ h => h) (Or.inl ⟨rfl, fun wS hwS => ?_⟩) hXS ?_
  rotate_left
  · go_simp; try rfl
  simp only [List.set_cons_zero, List.set_cons_succ]
  refine wpX_take (i := 2) (v := ?_) rfl rfl (by kernel_rfl) (fun _ _ _ h => h) (Or.inl ⟨rfl, fun wS hwS => ?_⟩) hXS ?_
  rotate_left
  · go_simp; try rfl
  simp only [List.set_cons_zero, List.set_cons_succ]
  refine wpX_take (i := 3) (v := ?_) rfl rfl (by kernel_rfl) (fun _ _ _ h => h) (Or.inl ⟨rfl, fun wS hwS => ?_⟩) hXS ?_
  rotate_left
  · go_simp; try rfl
  simp only [List.set_cons_zero, List.set_cons_succ]
  refine wpX_take (i := 5) (v := ?_) rfl rfl (by kernel_rfl) (fun _ _ _ h => h) (Or.inl ⟨rfl, fun wS hwS => ?_⟩) hXS ?_
  rotate_left
  · go_simp; try rfl
  simp only [List.set_cons_zero, List.set_cons_succ]
  refine wpX_take (i := 6) (v := ?_) rfl rfl (by kernel_rfl) (fun _ _ _ h => h) (Or.inl ⟨rfl, fun wS hwS => ?_⟩) hXS ?_
  rotate_left
  · go_simp; try rfl
  simp only [List.set_cons_zero, List.set_cons_succ]
  refine wpX_many [(4, 41), (7, 44), (8, 7)] (fun i => match i with | 4 => IsSp a p tags W1.heap.size N | 7 => IsMk l a p t tags W1.heap.size N | _ => IsNewM W1.heap.size) W1 1 rfl (by kernel_rfl) (by kernel_rfl)
    (fun w' hq => And.intro (hq.cell R0.out.lt HX.out.1) (And.intro (hq.cell R0.out.lt HX.out.2.1) (And.intro (hq.cell R0.out.lt HX.out.2.2.1) (And.intro (hq.cell R0.out.lt HX.out.2.2.2.1) (hq.cell R0.out.lt HX.out.2.2.2.2)))))
    (List.forall_mem_cons.2 ⟨fun _ _ _ h k => IsSp.keep h k, List.forall_mem_cons.2 ⟨fun _ _ _ h k => IsMk.keep h k, List.forall_mem_cons.2 ⟨fun _ _ _ h k => IsNewM.keep h k, List.forall_mem_nil _⟩⟩⟩)
    hq.drew ?_ ?_
  · clear hXS hq b0 b1 b2 b3 b4 x0 x1
    refine List.forall_mem_cons.2 ⟨?_, List.forall_mem_cons.2 ⟨?_, List.forall_mem_cons.2 ⟨?_, List.forall_mem_nil _⟩⟩⟩
    · skip
      intro x V hV hx
      clear hx
      refine wpX_op (tv := ?_) rfl ?_ (fun K hK => ?_)
      rotate_left
      · simp only [upd, List.foldl_cons, List.foldl_nil, List.set_cons_zero, List.set_cons_succ]; rfl
      simp only [List.set_cons_zero, List.set_cons_succ] at hK
      go_simp
      refine (HSp.out _ (HK1.out.t hV)).mono ?_
      rintro e w4 ⟨v4, rfl, ho, hb⟩
      obtain ⟨A4, c4, hv4, _⟩ := ho.row
      rw [ints_len, HN.out] at hv4
      subst hv4
      exact hK _ _ hb ⟨A4, c4, rfl, ho.base hV.size⟩
    · skip
      intro x V hV hx
      have h4 := hx (4, 41) (by simp) (by kernel_rfl)
      clear hx
      refine wpX_op (tv := ?_) rfl ?_ (fun K hK => ?_)
      rotate_left
      · simp only [upd, List.foldl_cons, List.foldl_nil, List.set_cons_zero, List.set_cons_succ]; rfl
      simp only [List.set_cons_zero, List.set_cons_succ] at hK
      skip
      obtain ⟨A4, c4, e4, ho⟩ := h4
      have ze4 : _ = _ := e4; simp only [ze4] at hK ⊢
      go_simp
      exact hK _ _ (kwR _) ⟨A4, c4, rfl, ho⟩
    · skip
      intro x V hV hx
      clear hx
      refine wpX_op (tv := ?_) rfl ?_ (fun K hK => ?_)
      rotate_left
      · simp only [upd, List.foldl_cons, List.foldl_nil, List.set_cons_zero, List.set_cons_succ]; rfl
      simp only [List.set_cons_zero, List.set_cons_succ] at hK
      go_simp
      refine hK _ _ (KW.alloc (kwR _) _) ⟨_, rfl, hV.size, World.rowIs_alloc _ #[.int .i64 0, .int .i64 0, .int .i64 0, .slice none 0 0, .int .i64 0] 76 _ fun i hi => by simp at hi; simp [hi]⟩
  clear hXS hq
  intro x W2 hq hx
  have h7 := hx (7, 44) (by simp)
  have h8 := hx (8, 7) (by simp)
  clear hx
  simp only [upd, List.foldl_cons, List.foldl_nil, List.set_cons_zero, List.set_cons_succ]
  obtain ⟨A2, c2, e4, ho2⟩ := h7
  obtain ⟨g, e8, hgB, hg⟩ := h8
  have e4' : x 7 = .agg #[.int .i64 l, .int .i64 a, .int .i64 p, .slice A2 N c2, .int .i64 t] := e4
  have e8' : x 8 = .pointer (some ⟨g, 0, none⟩) := e8
  simp only [e4', e8']
  clear e4 e8 e4' e8'
  have HO2 := hid ho2
  have HG2 := hid hg
  have HGB := hid hgB
  have HK2 := hid (HK1.out.t hq)
  have HQ2 := hid hq
  have hXS := And.intro (hq.cell R0.out.lt HX.out.1) (And.intro (hq.cell R0.out.lt HX.out.2.1) (And.intro (hq.cell R0.out.lt HX.out.2.2.1) (And.intro (hq.cell R0.out.lt HX.out.2.2.2.1) (hq.cell R0.out.lt HX.out.2.2.2.2))))
  clear ho2 hg hgB hq
  refine wpX_store_is (k := 9) (by kernel_rfl) rfl rfl rfl 76 _ _ rfl g 5 76 _ (fun i => [.int .i64 l, .int .i64 a, .int .i64 p, .slice A2 N c2, .int .i64 t].getD i undef) #[.int .i64 l, .int .i64 a, .int .i64 p, .slice A2 N c2, .int .i64 t] rfl rfl HG2.out (by kernel_rfl) rfl (fun i hi => ?_) (fun i hi => ?_) ?_
  · rcases (show i = 0 ∨ i = 1 ∨ i = 2 ∨ i = 3 ∨ i = 4 by omega) with rfl | rfl | rfl | rfl | rfl <;> rfl
  · rcases (show i = 0 ∨ i = 1 ∨ i = 2 ∨ i = 3 ∨ i = 4 by omega) with rfl | rfl | rfl | rfl | rfl <;> rfl
  intro W3 hrow3 _ hkeep3
  refine ⟨fun h => absurd rfl h, wpX_done (by kernel_rfl) ?_⟩
  have HG3 := hid hrow3
  have HO3 : Hid (Owns W3 W1.heap.size 3 (.slice A2 N c2) (ints tags)) := hkeep3.owns HO2.out fun i hi h => HO2.out.apart HG2.out hi h
  have HK3 : Hid (KW w W3) := HK2.out.kept hkeep3 fun i hi => by have := HGB.out; have := HK1.out.size; omega
  have HQ3 : Hid (KW W1 W3) := HQ2.out.kept hkeep3 fun i hi => by have := HGB.out; omega
  clear hXS hrow3 hkeep3 b0 b1 b2 b3 b4 x0 x1
  have b0 := KW.cell HQ3.out R0.out.lt HX.out.1
  have b1 := KW.cell HQ3.out R0.out.lt HX.out.2.1
  have b2 := KW.cell HQ3.out R0.out.lt HX.out.2.2.1
  have b3 := KW.cell HQ3.out R0.out.lt HX.out.2.2.2.1
  have b4 := KW.cell HQ3.out R0.out.lt HX.out.2.2.2.2
  have x0 := (KW.row HQ3.out R1.out.lt R1.out).cell (i := 0) (by simp)
  have x1 := (KW.row HQ3.out R1.out.lt R1.out).cell (i := 1) (by simp)
  have g1 := HG3.out.cell (i := 1) (by omega)
  have g2 := HG3.out.cell (i := 2) (by omega)
  have g3 := HG3.out.cell (i := 3) (by omega)
  have g4 := HG3.out.cell (i := 4) (by omega)
  have k1 := HG3.out.frozen 1
  have k2 := HG3.out.frozen 2
  have k4 := HG3.out.frozen 4
  simp only [List.getD_cons_succ, List.getD_cons_zero] at x0 x1 g1 g2 g3 g4
  have ne0 : ¬ w.heap.size = g := by have := HGB.out; have := R0.out.lt; omega
  have ne1 : ¬ w.heap.size + 1 = g := by have := HGB.out; have := R1.out.lt; omega
  have ne2 : ¬ w.heap.size + 1 + 1 = g := by have := HGB.out; have := R2.out.lt; omega
  have ne0' : ¬ g = w.heap.size := fun h => ne0 h.symm
  have ne1' : ¬ g = w.heap.size + 1 := fun h => ne1 h.symm
  have ne2' : ¬ g = w.heap.size + 1 + 1 := fun h => ne2 h.symm
  have hp := HP0.out
  have HW : Hid (W3.heap[w.heap.size]? = some (.cells #[.int .i64 l, .int .i64 a, .int .i64 p, .slice A N cp, .int .i64 t] 76 (0, 0))) := whole (KW.row HQ3.out R0.out.lt R0.out)
  have HRes : Hid (W3.rowIs (w.heap.size + 1 + 1) 76 5 (fun i => [.int .i64 0, .int .i64 0, .int .i64 0, .slice none 0 0, .int .i64 0].getD i undef)) := KW.row HQ3.out R2.out.lt R2.out
  have HRT := hid (fun (W : World) (h : Keep (· = w.heap.size + 1 + 1) W3 W) => (show RT W (.slice A N cp) tags from ⟨_, cp, by rw [HN.out], by rw [HN.out]; exact fun h0 => (h.row1 (HRow.out.k (HK3.out)) fun bb oo hA hbe => by have := HAlt.out bb oo hA h0; omega) h0, by rw [HN.out]; exact (HTy.out.kw (HK3.out)).keep h fun h0 bb oo hA hbe => by have := HAlt.out bb oo hA h0; omega⟩))
  have HKf : Hid (KW w W3) := HK3.out
  go_wp2_with (first
    | (refine wpList_load_row rfl 76 _ rfl w.heap.size rfl 76 _ (0, 0) _ HW.out Try.underlying76 rfl (by kernel_rfl) ?_)
    | (refine wpList_store_is rfl 76 _ _ rfl (w.heap.size + 1 + 1) 5 76 _ (fun i => [.int .i64 l, .int .i64 a, .int .i64 p, .slice A N cp, .int .i64 t].getD i undef) #[.int .i64 l, .int .i64 a, .int .i64 p, .slice A N cp, .int .i64 t] rfl rfl HRes.out (by kernel_rfl) rfl ?qa1 ?qa2 ?_))
  case qa1 => intro i hi; rcases (show i = 0 ∨ i = 1 ∨ i = 2 ∨ i = 3 ∨ i = 4 by omega) with rfl | rfl | rfl | rfl | rfl <;> rfl
  case qa2 => intro i hi; rcases (show i = 0 ∨ i = 1 ∨ i = 2 ∨ i = 3 ∨ i = 4 by omega) with rfl | rfl | rfl | rfl | rfl <;> rfl
  intro W6 hrow6 hkeep6 _
  have hheap : W6.heap[w.heap.size + 1 + 1]? = some (.cells #[.int .i64 l, .int .i64 a, .int .i64 p, .slice A N cp, .int .i64 t] 76 (0, 0)) := whole hrow6
  have HH := hid hheap
  have HK6 : Hid (KW w W6) := HKf.out.kept hkeep6 fun i hi => by omega
  have HRT6 := hid (HRT.out W6 hkeep6)
  clear hrow6 hkeep6 hheap
  go_wp2_with fail
  exact bodyPost_ret (results_cell_tmp rfl _ _ _ _ _ (0, 0) _ rfl HH.out Try.underlying76 rfl (by kernel_rfl)) rfl ⟨_, rfl, HRT6.out, Or.inl rfl, HK6.out⟩
end Go.Proofs.Ytgadkelldbibgaa
