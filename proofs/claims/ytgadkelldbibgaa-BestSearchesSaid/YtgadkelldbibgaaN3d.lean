/- Contract of the reference machine's Do: some of its cases. -/
import Derived.Test.YtgadkelldbibgaaN3
namespace Go.Proofs.Ytgadkelldbibgaa
open Go.ChangeShapes Go.WideShapes Go.ChangeAt Go.RowKit
set_option linter.unusedVariables false

set_option maxRecDepth 100000 in
set_option maxHeartbeats 2000000 in
theorem rdo_wrong (l a p t : Int) (tags : List Int) (k : Int) (n : Int) (v : Value) (w : World) (hv : RT w v tags) (hI : Mc.Inv ⟨l, a, p, t, tags⟩) (ht : t ≤ 4611686018427387904) (hr : Mc.right k n = false) :
    Calls Try.prog 57 #[.agg #[.int .i64 l, .int .i64 a, .int .i64 p, v, .int .i64 t], .agg #[.int .i64 k, .int .i64 n]] w (RDoP w v ⟨l, a, p, t, tags⟩ 2) := by
  obtain ⟨l0, l1, a0, a1, p0, p1, tg, ln, t0⟩ := hI
  simp only at l0 l1 a0 a1 p0 p1 t0 ln
  have HR := hid (fun W => rright_any k n W)
  rw [hr] at HR
  obtain ⟨A, cp, rfl, hrow, hty⟩ := hv
  have hAlt : ∀ bb oo, A = some ⟨bb, oo, none⟩ → 0 < tags.length → bb < w.heap.size := fun bb oo hA h0 => by
    obtain ⟨b', off, hA', hb', _⟩ := hrow h0
    rw [hA] at hA'
    cases hA'
    exact hb'
  have HSp := hid (fun W (h : KW w W) => rspot_any a p (.slice A tags.length cp) tags W ln ⟨A, cp, rfl, hrow.k h⟩)
  have HRow := hid hrow
  have HTy := hid hty
  clear hty
  have HT := hid (three_rows w [.int .i64 l, .int .i64 a, .int .i64 p, .slice A tags.length cp, .int .i64 t] [.int .i64 k, .int .i64 n] [.int .i64 0, .int .i64 0, .int .i64 0, .slice none 0 0, .int .i64 0] 76 27 76)
  clear hrow tg hr
  unfold RSpotP at HSp
  have HAlt := hid hAlt
  clear hAlt
  generalize hN : tags.length = N at *
  have HN := hid hN
  clear hN
  go_enter Try.func57, Try.ntmps57
  go_wp2_with fail
  refine (HR.out _).mono ?_
  rintro e W1 ⟨rfl, hb⟩
  have r0 := KW.row hb HT.out.1.lt HT.out.1
  have r1 := KW.row hb HT.out.2.1.lt HT.out.2.1
  have r2 := KW.row hb HT.out.2.2.1.lt HT.out.2.2.1
  have HK1 := hid (HT.out.2.2.2.t hb)
  have b0 := r0.cell (i := 0) (by simp)
  have b1 := r0.cell (i := 1) (by simp)
  have b2 := r0.cell (i := 2) (by simp)
  have b3 := r0.cell (i := 3) (by simp)
  have b4 := r0.cell (i := 4) (by simp)
  have x0 := r1.cell (i := 0) (by simp)
  have x1 := r1.cell (i := 1) (by simp)
  simp only [List.getD_cons_succ, List.getD_cons_zero] at b0 b1 b2 b3 b4 x0 x1
  have R0 := hid r0
  have R1 := hid r1
  have R2 := hid r2
  clear hb r0 r1 r2 HT
  have HW : Hid (W1.heap[w.heap.size]? = some (.cells #[.int .i64 l, .int .i64 a, .int .i64 p, .slice A N cp, .int .i64 t] 76 (0, 0))) := whole (R0.out)
  have HRes : Hid (W1.rowIs (w.heap.size + 1 + 1) 76 5 (fun i => [.int .i64 0, .int .i64 0, .int .i64 0, .slice none 0 0, .int .i64 0].getD i undef)) := R2.out
  have HRT := hid (fun (W : World) (h : Keep (· = w.heap.size + 1 + 1) W1 W) => (show RT W (.slice A N cp) tags from ⟨_, cp, by rw [HN.out], by rw [HN.out]; exact fun h0 => (h.row1 (HRow.out.k (HK1.out)) fun bb oo hA hbe => by have := HAlt.out bb oo hA h0; omega) h0, by rw [HN.out]; exact (HTy.out.kw (HK1.out)).keep h fun h0 bb oo hA hbe => by have := HAlt.out bb oo hA h0; omega⟩))
  have HKf : Hid (KW w W1) := HK1.out
  go_wp2_with (first
    | (refine wpList_load_row rfl 76 _ rfl w.heap.size rfl 76 _ (0, 0) _ HW.out Try.underlying76 rfl (by kernel_rfl) ?_)
    | (refine wpList_store_is rfl 76 _ _ rfl (w.heap.size + 1 + 1) 5 76 _ (fun i => [.int .i64 l, .int .i64 a, .int .i64 p, .slice A N cp, .int .i64 t].getD i undef) #[.int .i64 l, .int .i64 a, .int .i64 p, .slice A N cp, .int .i64 t] rfl rfl HRes.out (by kernel_rfl) rfl ?qa1 ?qa2 ?_))
  case qa1 => intro i hi; rcases (show i = 0 ∨ i = 1 ∨ i = 2 ∨ i = 3 ∨ i = 4 by omega) with rfl | rfl | rfl | rfl | rfl <;> rfl
  case qa2 => intro i hi; rcases (show i = 0 ∨ i = 1 ∨ i = 2 ∨ i = 3 ∨ i = 4 by omega) with rfl | rfl | rfl | rfl | rfl <;> rfl
  intro W6 hrow6 hkeep6 _
  have hheap : W6.heap[w.heap.size + 1 + 1]? = some (.cells #[.int .i64 l, .int .i64 a, .int .i64 p, .slice A N cp, .int .i64 t] 76 (0, 0)) := whole hrow6
  have HH := hid hheap
  have HK6 : Hid (KW w W6) := HKf.out.kept hkeep6 fun i hi => by omega
  have HRT6 := hid (HRT.out W6 hkeep6)
  clear hrow6 hkeep6 hheap
  go_wp2_with fail
  exact bodyPost_ret (results_cell_tmp rfl _ _ _ _ _ (0, 0) _ rfl HH.out Try.underlying76 rfl (by kernel_rfl)) rfl ⟨_, rfl, HRT6.out, Or.inl rfl, HK6.out⟩

set_option maxRecDepth 100000 in
set_option maxHeartbeats 2000000 in
theorem rdo_late (l a p t : Int) (tags : List Int) (k : Int) (n : Int) (v : Value) (w : World) (hv : RT w v tags) (hI : Mc.Inv ⟨l, a, p, t, tags⟩) (ht : t ≤ 4611686018427387904) (hr : Mc.right k n = true) (h7 : 7 < k) :
    Calls Try.prog 57 #[.agg #[.int .i64 l, .int .i64 a, .int .i64 p, v, .int .i64 t], .agg #[.int .i64 k, .int .i64 n]] w (RDoP w v ⟨l, a, p, t, tags⟩ 2) := by
  obtain ⟨l0, l1, a0, a1, p0, p1, tg, ln, t0⟩ := hI
  simp only at l0 l1 a0 a1 p0 p1 t0 ln
  have HR := hid (fun W => rright_any k n W)
  rw [hr] at HR
  obtain ⟨A, cp, rfl, hrow, hty⟩ := hv
  have hAlt : ∀ bb oo, A = some ⟨bb, oo, none⟩ → 0 < tags.length → bb < w.heap.size := fun bb oo hA h0 => by
    obtain ⟨b', off, hA', hb', _⟩ := hrow h0
    rw [hA] at hA'
    cases hA'
    exact hb'
  have HSp := hid (fun W (h : KW w W) => rspot_any a p (.slice A tags.length cp) tags W ln ⟨A, cp, rfl, hrow.k h⟩)
  have HRow := hid hrow
  have HTy := hid hty
  clear hty
  have HT := hid (three_rows w [.int .i64 l, .int .i64 a, .int .i64 p, .slice A tags.length cp, .int .i64 t] [.int .i64 k, .int .i64 n] [.int .i64 0, .int .i64 0, .int .i64 0, .slice none 0 0, .int .i64 0] 76 27 76)
  clear hrow tg hr
  unfold RSpotP at HSp
  have HAlt := hid hAlt
  clear hAlt
  generalize hN : tags.length = N at *
  have HN := hid hN
  clear hN
  go_enter Try.func57, Try.ntmps57
  go_wp2_with fail
  refine (HR.out _).mono ?_
  rintro e W1 ⟨rfl, hb⟩
  have r0 := KW.row hb HT.out.1.lt HT.out.1
  have r1 := KW.row hb HT.out.2.1.lt HT.out.2.1
  have r2 := KW.row hb HT.out.2.2.1.lt HT.out.2.2.1
  have HK1 := hid (HT.out.2.2.2.t hb)
  have b0 := r0.cell (i := 0) (by simp)
  have b1 := r0.cell (i := 1) (by simp)
  have b2 := r0.cell (i := 2) (by simp)
  have b3 := r0.cell (i := 3) (by simp)
  have b4 := r0.cell (i := 4) (by simp)
  have x0 := r1.cell (i := 0) (by simp)
  have x1 := r1.cell (i := 1) (by simp)
  simp only [List.getD_cons_succ, List.getD_cons_zero] at b0 b1 b2 b3 b4 x0 x1
  have R0 := hid r0
  have R1 := hid r1
  have R2 := hid r2
  clear hb r0 r1 r2 HT
  have HW : Hid (W1.heap[w.heap.size]? = some (.cells #[.int .i64 l, .int .i64 a, .int .i64 p, .slice A N cp, .int .i64 t] 76 (0, 0))) := whole (R0.out)
  have HRes : Hid (W1.rowIs (w.heap.size + 1 + 1) 76 5 (fun i => [.int .i64 0, .int .i64 0, .int .i64 0, .slice none 0 0, .int .i64 0].getD i undef)) := R2.out
  have HRT := hid (fun (W : World) (h : Keep (· = w.heap.size + 1 + 1) W1 W) => (show RT W (.slice A N cp) tags from ⟨_, cp, by rw [HN.out], by rw [HN.out]; exact fun h0 => (h.row1 (HRow.out.k (HK1.out)) fun bb oo hA hbe => by have := HAlt.out bb oo hA h0; omega) h0, by rw [HN.out]; exact (HTy.out.kw (HK1.out)).keep h fun h0 bb oo hA hbe => by have := HAlt.out bb oo hA h0; omega⟩))
  have HKf : Hid (KW w W1) := HK1.out
  go_wp2_with (first
    | (refine wpList_load_row rfl 76 _ rfl w.heap.size rfl 76 _ (0, 0) _ HW.out Try.underlying76 rfl (by kernel_rfl) ?_)
    | (refine wpList_store_is rfl 76 _ _ rfl (w.heap.size + 1 + 1) 5 76 _ (fun i => [.int .i64 l, .int .i64 a, .int .i64 p, .slice A N cp, .int .i64 t].getD i undef) #[.int .i64 l, .int .i64 a, .int .i64 p, .slice A N cp, .int .i64 t] rfl rfl HRes.out (by kernel_rfl) rfl ?qa1 ?qa2 ?_))
  case qa1 => intro i hi; rcases (show i = 0 ∨ i = 1 ∨ i = 2 ∨ i = 3 ∨ i = 4 by omega) with rfl | rfl | rfl | rfl | rfl <;> rfl
  case qa2 => intro i hi; rcases (show i = 0 ∨ i = 1 ∨ i = 2 ∨ i = 3 ∨ i = 4 by omega) with rfl | rfl | rfl | rfl | rfl <;> rfl
  intro W6 hrow6 hkeep6 _
  have hheap : W6.heap[w.heap.size + 1 + 1]? = some (.cells #[.int .i64 l, .int .i64 a, .int .i64 p, .slice A N cp, .int .i64 t] 76 (0, 0)) := whole hrow6
  have HH := hid hheap
  have HK6 : Hid (KW w W6) := HKf.out.kept hkeep6 fun i hi => by omega
  have HRT6 := hid (HRT.out W6 hkeep6)
  clear hrow6 hkeep6 hheap
  go_wp2_with fail
  exact bodyPost_ret (results_cell_tmp rfl _ _ _ _ _ (0, 0) _ rfl HH.out Try.underlying76 rfl (by kernel_rfl)) rfl ⟨_, rfl, HRT6.out, Or.inl rfl, HK6.out⟩

set_option maxRecDepth 100000 in
set_option maxHeartbeats 2000000 in
theorem rdo_out2 (l a p t : Int) (tags : List Int) (n : Int) (v : Value) (w : World) (hv : RT w v tags) (hI : Mc.Inv ⟨l, a, p, t, tags⟩) (ht : t ≤ 4611686018427387904) (hr : Mc.right 2 n = true) (hn : (tags.length : Int) ≤ n) :
    Calls Try.prog 57 #[.agg #[.int .i64 l, .int .i64 a, .int .i64 p, v, .int .i64 t], .agg #[.int .i64 2, .int .i64 n]] w (RDoP w v ⟨l, a, p, t, tags⟩ 2) := by
  obtain ⟨l0, l1, a0, a1, p0, p1, tg, ln, t0⟩ := hI
  simp only at l0 l1 a0 a1 p0 p1 t0 ln
  have HR := hid (fun W => rright_any 2 n W)
  rw [hr] at HR
  obtain ⟨A, cp, rfl, hrow, hty⟩ := hv
  have hAlt : ∀ bb oo, A = some ⟨bb, oo, none⟩ → 0 < tags.length → bb < w.heap.size := fun bb oo hA h0 => by
    obtain ⟨b', off, hA', hb', _⟩ := hrow h0
    rw [hA] at hA'
    cases hA'
    exact hb'
  have HSp := hid (fun W (h : KW w W) => rspot_any a p (.slice A tags.length cp) tags W ln ⟨A, cp, rfl, hrow.k h⟩)
  have HRow := hid hrow
  have HTy := hid hty
  clear hty
  have HT := hid (three_rows w [.int .i64 l, .int .i64 a, .int .i64 p, .slice A tags.length cp, .int .i64 t] [.int .i64 2, .int .i64 n] [.int .i64 0, .int .i64 0, .int .i64 0, .slice none 0 0, .int .i64 0] 76 27 76)
  clear hrow tg hr
  unfold RSpotP at HSp
  have HAlt := hid hAlt
  clear hAlt
  generalize hN : tags.length = N at *
  have HN := hid hN
  clear hN
  go_enter Try.func57, Try.ntmps57
  go_wp2_with fail
  refine (HR.out _).mono ?_
  rintro e W1 ⟨rfl, hb⟩
  have r0 := KW.row hb HT.out.1.lt HT.out.1
  have r1 := KW.row hb HT.out.2.1.lt HT.out.2.1
  have r2 := KW.row hb HT.out.2.2.1.lt HT.out.2.2.1
  have HK1 := hid (HT.out.2.2.2.t hb)
  have b0 := r0.cell (i := 0) (by simp)
  have b1 := r0.cell (i := 1) (by simp)
  have b2 := r0.cell (i := 2) (by simp)
  have b3 := r0.cell (i := 3) (by simp)
  have b4 := r0.cell (i := 4) (by simp)
  have x0 := r1.cell (i := 0) (by simp)
  have x1 := r1.cell (i := 1) (by simp)
  simp only [List.getD_cons_succ, List.getD_cons_zero] at b0 b1 b2 b3 b4 x0 x1
  have R0 := hid r0
  have R1 := hid r1
  have R2 := hid r2
  clear hb r0 r1 r2 HT
  have HW : Hid (W1.heap[w.heap.size]? = some (.cells #[.int .i64 l, .int .i64 a, .int .i64 p, .slice A N cp, .int .i64 t] 76 (0, 0))) := whole (R0.out)
  have HRes : Hid (W1.rowIs (w.heap.size + 1 + 1) 76 5 (fun i => [.int .i64 0, .int .i64 0, .int .i64 0, .slice none 0 0, .int .i64 0].getD i undef)) := R2.out
  have HRT := hid (fun (W : World) (h : Keep (· = w.heap.size + 1 + 1) W1 W) => (show RT W (.slice A N cp) tags from ⟨_, cp, by rw [HN.out], by rw [HN.out]; exact fun h0 => (h.row1 (HRow.out.k (HK1.out)) fun bb oo hA hbe => by have := HAlt.out bb oo hA h0; omega) h0, by rw [HN.out]; exact (HTy.out.kw (HK1.out)).keep h fun h0 bb oo hA hbe => by have := HAlt.out bb oo hA h0; omega⟩))
  have HKf : Hid (KW w W1) := HK1.out
  go_wp2_with (first
    | (refine wpList_load_row rfl 76 _ rfl w.heap.size rfl 76 _ (0, 0) _ HW.out Try.underlying76 rfl (by kernel_rfl) ?_)
    | (refine wpList_store_is rfl 76 _ _ rfl (w.heap.size + 1 + 1) 5 76 _ (fun i => [.int .i64 l, .int .i64 a, .int .i64 p, .slice A N cp, .int .i64 t].getD i undef) #[.int .i64 l, .int .i64 a, .int .i64 p, .slice A N cp, .int .i64 t] rfl rfl HRes.out (by kernel_rfl) rfl ?qa1 ?qa2 ?_))
  case qa1 => intro i hi; rcases (show i = 0 ∨ i = 1 ∨ i = 2 ∨ i = 3 ∨ i = 4 by omega) with rfl | rfl | rfl | rfl | rfl <;> rfl
  case qa2 => intro i hi; rcases (show i = 0 ∨ i = 1 ∨ i = 2 ∨ i = 3 ∨ i = 4 by omega) with rfl | rfl | rfl | rfl | rfl <;> rfl
  intro W6 hrow6 hkeep6 _
  have hheap : W6.heap[w.heap.size + 1 + 1]? = some (.cells #[.int .i64 l, .int .i64 a, .int .i64 p, .slice A N cp, .int .i64 t] 76 (0, 0)) := whole hrow6
  have HH := hid hheap
  have HK6 : Hid (KW w W6) := HKf.out.kept hkeep6 fun i hi => by omega
  have HRT6 := hid (HRT.out W6 hkeep6)
  clear hrow6 hkeep6 hheap
  go_wp2_with fail
  exact bodyPost_ret (results_cell_tmp rfl _ _ _ _ _ (0, 0) _ rfl HH.out Try.underlying76 rfl (by kernel_rfl)) rfl ⟨_, rfl, HRT6.out, Or.inl rfl, HK6.out⟩

set_option maxRecDepth 100000 in
set_option maxHeartbeats 2000000 in
theorem rdo_out3 (l a p t : Int) (tags : List Int) (n : Int) (v : Value) (w : World) (hv : RT w v tags) (hI : Mc.Inv ⟨l, a, p, t, tags⟩) (ht : t ≤ 4611686018427387904) (hr : Mc.right 3 n = true) (hn : (tags.length : Int) ≤ n) :
    Calls Try.prog 57 #[.agg #[.int .i64 l, .int .i64 a, .int .i64 p, v, .int .i64 t], .agg #[.int .i64 3, .int .i64 n]] w (RDoP w v ⟨l, a, p, t, tags⟩ 2) := by
  obtain ⟨l0, l1, a0, a1, p0, p1, tg, ln, t0⟩ := hI
  simp only at l0 l1 a0 a1 p0 p1 t0 ln
  have HR := hid (fun W => rright_any 3 n W)
  rw [hr] at HR
  obtain ⟨A, cp, rfl, hrow, hty⟩ := hv
  have hAlt : ∀ bb oo, A = some ⟨bb, oo, none⟩ → 0 < tags.length → bb < w.heap.size := fun bb oo hA h0 => by
    obtain ⟨b', off, hA', hb', _⟩ := hrow h0
    rw [hA] at hA'
    cases hA'
    exact hb'
  have HSp := hid (fun W (h : KW w W) => rspot_any a p (.slice A tags.length cp) tags W ln ⟨A, cp, rfl, hrow.k h⟩)
  have HRow := hid hrow
  have HTy := hid hty
  clear hty
  have HT := hid (three_rows w [.int .i64 l, .int .i64 a, .int .i64 p, .slice A tags.length cp, .int .i64 t] [.int .i64 3, .int .i64 n] [.int .i64 0, .int .i64 0, .int .i64 0, .slice none 0 0, .int .i64 0] 76 27 76)
  clear hrow tg hr
  unfold RSpotP at HSp
  have HAlt := hid hAlt
  clear hAlt
  generalize hN : tags.length = N at *
  have HN := hid hN
  clear hN
  go_enter Try.func57, Try.ntmps57
  go_wp2_with fail
  refine (HR.out _).mono ?_
  rintro e W1 ⟨rfl, hb⟩
  have r0 := KW.row hb HT.out.1.lt HT.out.1
  have r1 := KW.row hb HT.out.2.1.lt HT.out.2.1
  have r2 := KW.row hb HT.out.2.2.1.lt HT.out.2.2.1
  have HK1 := hid (HT.out.2.2.2.t hb)
  have b0 := r0.cell (i := 0) (by simp)
  have b1 := r0.cell (i := 1) (by simp)
  have b2 := r0.cell (i := 2) (by simp)
  have b3 := r0.cell (i := 3) (by simp)
  have b4 := r0.cell (i := 4) (by simp)
  have x0 := r1.cell (i := 0) (by simp)
  have x1 := r1.cell (i := 1) (by simp)
  simp only [List.getD_cons_succ, List.getD_cons_zero] at b0 b1 b2 b3 b4 x0 x1
  have R0 := hid r0
  have R1 := hid r1
  have R2 := hid r2
  clear hb r0 r1 r2 HT
  have HW : Hid (W1.heap[w.heap.size]? = some (.cells #[.int .i64 l, .int .i64 a, .int .i64 p, .slice A N cp, .int .i64 t] 76 (0, 0))) := whole (R0.out)
  have HRes : Hid (W1.rowIs (w.heap.size + 1 + 1) 76 5 (fun i => [.int .i64 0, .int .i64 0, .int .i64 0, .slice none 0 0, .int .i64 0].getD i undef)) := R2.out
  have HRT := hid (fun (W : World) (h : Keep (· = w.heap.size + 1 + 1) W1 W) => (show RT W (.slice A N cp) tags from ⟨_, cp, by rw [HN.out], by rw [HN.out]; exact fun h0 => (h.row1 (HRow.out.k (HK1.out)) fun bb oo hA hbe => by have := HAlt.out bb oo hA h0; omega) h0, by rw [HN.out]; exact (HTy.out.kw (HK1.out)).keep h fun h0 bb oo hA hbe => by have := HAlt.out bb oo hA h0; omega⟩))
  have HKf : Hid (KW w W1) := HK1.out
  go_wp2_with (first
    | (refine wpList_load_row rfl 76 _ rfl w.heap.size rfl 76 _ (0, 0) _ HW.out Try.underlying76 rfl (by kernel_rfl) ?_)
    | (refine wpList_store_is rfl 76 _ _ rfl (w.heap.size + 1 + 1) 5 76 _ (fun i => [.int .i64 l, .int .i64 a, .int .i64 p, .slice A N cp, .int .i64 t].getD i undef) #[.int .i64 l, .int .i64 a, .int .i64 p, .slice A N cp, .int .i64 t] rfl rfl HRes.out (by kernel_rfl) rfl ?qa1 ?qa2 ?_))
  case qa1 => intro i hi; rcases (show i = 0 ∨ i = 1 ∨ i = 2 ∨ i = 3 ∨ i = 4 by omega) with rfl | rfl | rfl | rfl | rfl <;> rfl
  case qa2 => intro i hi; rcases (show i = 0 ∨ i = 1 ∨ i = 2 ∨ i = 3 ∨ i = 4 by omega) with rfl | rfl | rfl | rfl | rfl <;> rfl
  intro W6 hrow6 hkeep6 _
  have hheap : W6.heap[w.heap.size + 1 + 1]? = some (.cells #[.int .i64 l, .int .i64 a, .int .i64 p, .slice A N cp, .int .i64 t] 76 (0, 0)) := whole hrow6
  have HH := hid hheap
  have HK6 : Hid (KW w W6) := HKf.out.kept hkeep6 fun i hi => by omega
  have HRT6 := hid (HRT.out W6 hkeep6)
  clear hrow6 hkeep6 hheap
  go_wp2_with fail
  exact bodyPost_ret (results_cell_tmp rfl _ _ _ _ _ (0, 0) _ rfl HH.out Try.underlying76 rfl (by kernel_rfl)) rfl ⟨_, rfl, HRT6.out, Or.inl rfl, HK6.out⟩

set_option maxRecDepth 100000 in
set_option maxHeartbeats 2000000 in
theorem rdo_out4 (l a p t : Int) (tags : List Int) (n : Int) (v : Value) (w : World) (hv : RT w v tags) (hI : Mc.Inv ⟨l, a, p, t, tags⟩) (ht : t ≤ 4611686018427387904) (hr : Mc.right 4 n = true) (hn : (tags.length : Int) ≤ n) :
    Calls Try.prog 57 #[.agg #[.int .i64 l, .int .i64 a, .int .i64 p, v, .int .i64 t], .agg #[.int .i64 4, .int .i64 n]] w (RDoP w v ⟨l, a, p, t, tags⟩ 2) := by
  obtain ⟨l0, l1, a0, a1, p0, p1, tg, ln, t0⟩ := hI
  simp only at l0 l1 a0 a1 p0 p1 t0 ln
  have HR := hid (fun W => rright_any 4 n W)
  rw [hr] at HR
  obtain ⟨A, cp, rfl, hrow, hty⟩ := hv
  have hAlt : ∀ bb oo, A = some ⟨bb, oo, none⟩ → 0 < tags.length → bb < w.heap.size := fun bb oo hA h0 => by
    obtain ⟨b', off, hA', hb', _⟩ := hrow h0
    rw [hA] at hA'
    cases hA'
    exact hb'
  have HSp := hid (fun W (h : KW w W) => rspot_any a p (.slice A tags.length cp) tags W ln ⟨A, cp, rfl, hrow.k h⟩)
  have HRow := hid hrow
  have HTy := hid hty
  clear hty
  have HT := hid (three_rows w [.int .i64 l, .int .i64 a, .int .i64 p, .slice A tags.length cp, .int .i64 t] [.int .i64 4, .int .i64 n] [.int .i64 0, .int .i64 0, .int .i64 0, .slice none 0 0, .int .i64 0] 76 27 76)
  clear hrow tg hr
  unfold RSpotP at HSp
  have HAlt := hid hAlt
  clear hAlt
  generalize hN : tags.length = N at *
  have HN := hid hN
  clear hN
  go_enter Try.func57, Try.ntmps57
  go_wp2_with fail
  refine (HR.out _).mono ?_
  rintro e W1 ⟨rfl, hb⟩
  have r0 := KW.row hb HT.out.1.lt HT.out.1
  have r1 := KW.row hb HT.out.2.1.lt HT.out.2.1
  have r2 := KW.row hb HT.out.2.2.1.lt HT.out.2.2.1
  have HK1 := hid (HT.out.2.2.2.t hb)
  have b0 := r0.cell (i := 0) (by simp)
  have b1 := r0.cell (i := 1) (by simp)
  have b2 := r0.cell (i := 2) (by simp)
  have b3 := r0.cell (i := 3) (by simp)
  have b4 := r0.cell (i := 4) (by simp)
  have x0 := r1.cell (i := 0) (by simp)
  have x1 := r1.cell (i := 1) (by simp)
  simp only [List.getD_cons_succ, List.getD_cons_zero] at b0 b1 b2 b3 b4 x0 x1
  have R0 := hid r0
  have R1 := hid r1
  have R2 := hid r2
  clear hb r0 r1 r2 HT
  have HW : Hid (W1.heap[w.heap.size]? = some (.cells #[.int .i64 l, .int .i64 a, .int .i64 p, .slice A N cp, .int .i64 t] 76 (0, 0))) := whole (R0.out)
  have HRes : Hid (W1.rowIs (w.heap.size + 1 + 1) 76 5 (fun i => [.int .i64 0, .int .i64 0, .int .i64 0, .slice none 0 0, .int .i64 0].getD i undef)) := R2.out
  have HRT := hid (fun (W : World) (h : Keep (· = w.heap.size + 1 + 1) W1 W) => (show RT W (.slice A N cp) tags from ⟨_, cp, by rw [HN.out], by rw [HN.out]; exact fun h0 => (h.row1 (HRow.out.k (HK1.out)) fun bb oo hA hbe => by have := HAlt.out bb oo hA h0; omega) h0, by rw [HN.out]; exact (HTy.out.kw (HK1.out)).keep h fun h0 bb oo hA hbe => by have := HAlt.out bb oo hA h0; omega⟩))
  have HKf : Hid (KW w W1) := HK1.out
  go_wp2_with (first
    | (refine wpList_load_row rfl 76 _ rfl w.heap.size rfl 76 _ (0, 0) _ HW.out Try.underlying76 rfl (by kernel_rfl) ?_)
    | (refine wpList_store_is rfl 76 _ _ rfl (w.heap.size + 1 + 1) 5 76 _ (fun i => [.int .i64 l, .int .i64 a, .int .i64 p, .slice A N cp, .int .i64 t].getD i undef) #[.int .i64 l, .int .i64 a, .int .i64 p, .slice A N cp, .int .i64 t] rfl rfl HRes.out (by kernel_rfl) rfl ?qa1 ?qa2 ?_))
  case qa1 => intro i hi; rcases (show i = 0 ∨ i = 1 ∨ i = 2 ∨ i = 3 ∨ i = 4 by omega) with rfl | rfl | rfl | rfl | rfl <;> rfl
  case qa2 => intro i hi; rcases (show i = 0 ∨ i = 1 ∨ i = 2 ∨ i = 3 ∨ i = 4 by omega) with rfl | rfl | rfl | rfl | rfl <;> rfl
  intro W6 hrow6 hkeep6 _
  have hheap : W6.heap[w.heap.size + 1 + 1]? = some (.cells #[.int .i64 l, .int .i64 a, .int .i64 p, .slice A N cp, .int .i64 t] 76 (0, 0)) := whole hrow6
  have HH := hid hheap
  have HK6 : Hid (KW w W6) := HKf.out.kept hkeep6 fun i hi => by omega
  have HRT6 := hid (HRT.out W6 hkeep6)
  clear hrow6 hkeep6 hheap
  go_wp2_with fail
  exact bodyPost_ret (results_cell_tmp rfl _ _ _ _ _ (0, 0) _ rfl HH.out Try.underlying76 rfl (by kernel_rfl)) rfl ⟨_, rfl, HRT6.out, Or.inl rfl, HK6.out⟩
end Go.Proofs.Ytgadkelldbibgaa
