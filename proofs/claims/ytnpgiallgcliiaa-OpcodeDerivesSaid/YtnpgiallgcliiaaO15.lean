/- opcode.Reads, the reference's Reads; Ints. -/
import Derived.Test.YtnpgiallgcliiaaO14
namespace Go.Proofs.Ytnpgiallgcliiaa
open Go.ChangeShapes Go.WideShapes Go.ChangeAt Go.RowKit
set_option linter.unusedVariables false

/-- numbers in memory -/
def IW (w : World) (v : Value) (l : List Int) : Prop := ∃ A c, v = .slice A l.length c ∧ Row1 w A l.length fun i => .int .i64 (l.getD i 0)
theorem IW.kw {w w' : World} {v : Value} {l : List Int} (h : IW w v l) (hk : KW w w') : IW w' v l := by
  obtain ⟨A, c, hv, hr⟩ := h
  exact ⟨A, c, hv, hr.k hk⟩
def i64s (l : List Int) : List Value := l.map (Value.int .i64)
theorem i64s_len (l : List Int) : (i64s l).length = l.length := by simp [i64s]
theorem i64s_get (l : List Int) {i : Nat} (h : i < l.length) : (i64s l).getD i undef = .int .i64 (l.getD i 0) := by simp [i64s, h]
theorem Owns.iw {w : World} {base : Nat} {e : TypeId} {v : Value} {l : List Int} (h : Owns w base e v (i64s l)) : IW w v l := by
  obtain ⟨A, c, hv, _, _, hr⟩ := h.row
  rw [i64s_len] at hv hr
  exact ⟨A, c, hv, hr.cong fun i hi => i64s_get l hi⟩
theorem IW.nil (w : World) : IW w (.slice none 0 0) [] := ⟨none, 0, rfl, fun h => absurd h (by simp)⟩
theorem sliceIntO : SliceOf Try.prog 43 3 (.int .i64 0) 8 := ⟨Try.underlying43, by kernel_rfl, rfl⟩
def rl07 (k a b : Int) : List Int := (if Oc.aA k = true then [a] else []) ++ (if Oc.aB k = true then [b] else [])
def ReadsP (w : World) (l : List Int) (e : Ending) (w' : World) : Prop := ∃ u, e = .returned u ∧ IW w' u l ∧ KW w w'
theorem owns2 {w : World} {base : Nat} {e : TypeId} {u : Value} {x y : Int} (h : Owns w base e u [.int .i64 x, .int .i64 y]) :
    ∃ g c, u = .slice (some ⟨g, 0, none⟩) 2 c ∧ base ≤ g ∧ g < w.heap.size ∧ w.cell? ⟨g, 0, none⟩ = some (.int .i64 x) ∧ w.cell? ⟨g, 1, none⟩ = some (.int .i64 y) ∧ w.frozen? ⟨g, 0, none⟩ = false ∧ w.frozen? ⟨g, 1, none⟩ = false := by
  have hx := h
  obtain ⟨A, c, hv, hc, hA, hr⟩ := h.row
  obtain ⟨g, rfl, hg, hlt⟩ := hA (by simp)
  obtain ⟨b', o', e1, hb, hcc⟩ := hr (by simp)
  cases e1
  have q0 := hcc 0 (by simp)
  have q1 := hcc 1 (by simp)
  simp at q0 q1
  rcases hx.2 with ⟨h0, _⟩ | ⟨g', cap, cur, h0, _, hgg, _⟩
  · rw [hv] at h0; cases h0
  · rw [hv] at h0
    simp only [Value.slice.injEq, Option.some.injEq, Addr.mk.injEq] at h0
    obtain ⟨⟨rfl, _⟩, _⟩ := h0
    exact ⟨g, c, hv, hg, hlt, q0, q1, by simp [World.frozen?, hgg], by simp [World.frozen?, hgg]⟩
theorem swp2_row {w : World} {g c : Nat} {x y : Int} (c0 : w.cell? ⟨g, 0, none⟩ = some (.int .i64 x)) (c1 : w.cell? ⟨g, 1, none⟩ = some (.int .i64 y)) : IW (swp2 w g x y) (.slice (some ⟨g, 0, none⟩) 2 c) [y, x] := by
  refine ⟨_, c, rfl, fun _ => ⟨g, 0, rfl, ?_, fun i hi => ?_⟩⟩
  · have := World.block_lt_of_cell? w _ c0
    simpa [swp2] using this
  · have e0 : (w.setCell ⟨g, 0, none⟩ (.int .i64 y)).cell? ⟨g, 0, none⟩ = some (.int .i64 y) := World.cell?_setCell_same _ _ _ c0
    have e1 : (w.setCell ⟨g, 0, none⟩ (.int .i64 y)).cell? ⟨g, 1, none⟩ = some (.int .i64 y) := (World.cell?_setCell_other _ _ _ _ (by simp)).trans c1
    rcases (show i = 0 ∨ i = 1 by simp at hi; omega) with rfl | rfl
    · exact (World.cell?_setCell_other _ _ _ _ (by simp)).trans e0
    · exact World.cell?_setCell_same _ _ _ e1
theorem swp2_kw {w0 w : World} {g : Nat} {x y : Int} (h : KW w0 w) (hg : w0.heap.size ≤ g) : KW w0 (swp2 w g x y) :=
  Below.setCell (p := ⟨g, 1, none⟩) (Below.setCell (p := ⟨g, 0, none⟩) h hg _) hg _

set_option maxRecDepth 100000 in
set_option maxHeartbeats 2000000 in
theorem oreads_two (k d a b v : Int) (w : World) (h : k = 1 ∨ k = 2 ∨ k = 3) :
    Calls Try.prog 37 #[.agg (opv k d a b v)] w (ReadsP w [a, b]) := by
  have hop := opv_row' w k d a b v
  have hk := (KW.refl w).alloc (.cells (opv k d a b v) 24)
  unfold opv at *
  have HOp := hid hop
  have HK := hid hk
  have c3 := hop.cell (i := 3) (by omega)
  simp only [List.getD_cons_succ, List.getD_cons_zero] at c3
  clear hop hk
  rcases h with rfl | rfl | rfl
  · go_enter Try.func37, Try.ntmps37
    go_wp2_with (at_builtin; refine wpList_app1g rfl sliceIntO rfl (W := (w.alloc (.cells #[.int .i64 1, .int .i64 d, .int .i64 a, .int .i64 b, .int .u64 v] 24))) (v := .slice none 0 0) (base := (w.alloc (.cells #[.int .i64 1, .int .i64 d, .int .i64 a, .int .i64 b, .int .u64 v] 24)).heap.size) (u := .int .i64 b) (xs := []) rfl rfl (by simp) rfl (Owns.nil _ _ _) (Nat.le_refl _) (by simp) (by simp) ?_)
    intro u1 w1 ho1 hb1
    have HO1 := hid ho1
    have HB1 : Hid (KW w w1) := Below.trans (show Below w.heap.size w _ from HK.out) (Below.mono hb1 (Nat.le_succ _))
    have HS1 := hid (show w.heap.size + 1 ≤ w1.heap.size from Nat.le_trans (by simp) hb1.size)
    have c2 := (HOp.out.of_block (hb1.block w.heap.size (Nat.lt_succ_self _))).cell (i := 2) (by omega)
    simp only [List.getD_cons_succ, List.getD_cons_zero] at c2
    clear ho1 hb1 c3
    go_wp2_with (at_builtin; refine wpList_app1 rfl sliceIntO rfl (W := w1) (v := u1) (base := w.heap.size + 1) (u := .int .i64 a) (xs := [.int .i64 b]) rfl rfl rfl HO1.out HS1.out (by simp) (by simp) ?_)
    intro u2 w2 ho2 hb2
    have HB2 : Hid (KW w w2) := Below.trans (show Below w.heap.size w w1 from HB1.out) (Below.mono hb2 (Nat.le_succ _))
    obtain ⟨g, cc, rfl, hg, hlt, q0, q1, f0, f1⟩ := owns2 ho2
    have HX := hid (And.intro q0 q1)
    have HG := hid (show w.heap.size ≤ g from Nat.le_trans (Nat.le_succ _) hg)
    have HR := hid (rev2 g cc b a w2 q0 q1 f0 f1)
    clear ho2 hb2 q0 q1 f0 f1 hlt hg
    go_wp2_with fail
    refine HR.out.mono ?_
    rintro e w3 ⟨rfl, rfl⟩
    have HK3 := hid (swp2_kw (x := b) (y := a) HB2.out.drew HG.out)
    have HI3 := hid (swp2_row (w := w2.drew) (c := cc) HX.out.1 HX.out.2)
    generalize swp2 w2.drew g b a = w4 at *
    go_wp2_with fail
    go_ret
    exact ⟨_, rfl, HI3.out, HK3.out⟩
  · go_enter Try.func37, Try.ntmps37
    go_wp2_with (at_builtin; refine wpList_app1g rfl sliceIntO rfl (W := (w.alloc (.cells #[.int .i64 2, .int .i64 d, .int .i64 a, .int .i64 b, .int .u64 v] 24))) (v := .slice none 0 0) (base := (w.alloc (.cells #[.int .i64 2, .int .i64 d, .int .i64 a, .int .i64 b, .int .u64 v] 24)).heap.size) (u := .int .i64 b) (xs := []) rfl rfl (by simp) rfl (Owns.nil _ _ _) (Nat.le_refl _) (by simp) (by simp) ?_)
    intro u1 w1 ho1 hb1
    have HO1 := hid ho1
    have HB1 : Hid (KW w w1) := Below.trans (show Below w.heap.size w _ from HK.out) (Below.mono hb1 (Nat.le_succ _))
    have HS1 := hid (show w.heap.size + 1 ≤ w1.heap.size from Nat.le_trans (by simp) hb1.size)
    have c2 := (HOp.out.of_block (hb1.block w.heap.size (Nat.lt_succ_self _))).cell (i := 2) (by omega)
    simp only [List.getD_cons_succ, List.getD_cons_zero] at c2
    clear ho1 hb1 c3
    go_wp2_with (at_builtin; refine wpList_app1 rfl sliceIntO rfl (W := w1) (v := u1) (base := w.heap.size + 1) (u := .int .i64 a) (xs := [.int .i64 b]) rfl rfl rfl HO1.out HS1.out (by simp) (by simp) ?_)
    intro u2 w2 ho2 hb2
    have HB2 : Hid (KW w w2) := Below.trans (show Below w.heap.size w w1 from HB1.out) (Below.mono hb2 (Nat.le_succ _))
    obtain ⟨g, cc, rfl, hg, hlt, q0, q1, f0, f1⟩ := owns2 ho2
    have HX := hid (And.intro q0 q1)
    have HG := hid (show w.heap.size ≤ g from Nat.le_trans (Nat.le_succ _) hg)
    have HR := hid (rev2 g cc b a w2 q0 q1 f0 f1)
    clear ho2 hb2 q0 q1 f0 f1 hlt hg
    go_wp2_with fail
    refine HR.out.mono ?_
    rintro e w3 ⟨rfl, rfl⟩
    have HK3 := hid (swp2_kw (x := b) (y := a) HB2.out.drew HG.out)
    have HI3 := hid (swp2_row (w := w2.drew) (c := cc) HX.out.1 HX.out.2)
    generalize swp2 w2.drew g b a = w4 at *
    go_wp2_with fail
    go_ret
    exact ⟨_, rfl, HI3.out, HK3.out⟩
  · go_enter Try.func37, Try.ntmps37
    go_wp2_with (at_builtin; refine wpList_app1g rfl sliceIntO rfl (W := (w.alloc (.cells #[.int .i64 3, .int .i64 d, .int .i64 a, .int .i64 b, .int .u64 v] 24))) (v := .slice none 0 0) (base := (w.alloc (.cells #[.int .i64 3, .int .i64 d, .int .i64 a, .int .i64 b, .int .u64 v] 24)).heap.size) (u := .int .i64 b) (xs := []) rfl rfl (by simp) rfl (Owns.nil _ _ _) (Nat.le_refl _) (by simp) (by simp) ?_)
    intro u1 w1 ho1 hb1
    have HO1 := hid ho1
    have HB1 : Hid (KW w w1) := Below.trans (show Below w.heap.size w _ from HK.out) (Below.mono hb1 (Nat.le_succ _))
    have HS1 := hid (show w.heap.size + 1 ≤ w1.heap.size from Nat.le_trans (by simp) hb1.size)
    have c2 := (HOp.out.of_block (hb1.block w.heap.size (Nat.lt_succ_self _))).cell (i := 2) (by omega)
    simp only [List.getD_cons_succ, List.getD_cons_zero] at c2
    clear ho1 hb1 c3
    go_wp2_with (at_builtin; refine wpList_app1 rfl sliceIntO rfl (W := w1) (v := u1) (base := w.heap.size + 1) (u := .int .i64 a) (xs := [.int .i64 b]) rfl rfl rfl HO1.out HS1.out (by simp) (by simp) ?_)
    intro u2 w2 ho2 hb2
    have HB2 : Hid (KW w w2) := Below.trans (show Below w.heap.size w w1 from HB1.out) (Below.mono hb2 (Nat.le_succ _))
    obtain ⟨g, cc, rfl, hg, hlt, q0, q1, f0, f1⟩ := owns2 ho2
    have HX := hid (And.intro q0 q1)
    have HG := hid (show w.heap.size ≤ g from Nat.le_trans (Nat.le_succ _) hg)
    have HR := hid (rev2 g cc b a w2 q0 q1 f0 f1)
    clear ho2 hb2 q0 q1 f0 f1 hlt hg
    go_wp2_with fail
    refine HR.out.mono ?_
    rintro e w3 ⟨rfl, rfl⟩
    have HK3 := hid (swp2_kw (x := b) (y := a) HB2.out.drew HG.out)
    have HI3 := hid (swp2_row (w := w2.drew) (c := cc) HX.out.1 HX.out.2)
    generalize swp2 w2.drew g b a = w4 at *
    go_wp2_with fail
    go_ret
    exact ⟨_, rfl, HI3.out, HK3.out⟩

set_option maxRecDepth 100000 in
set_option maxHeartbeats 2000000 in
theorem oreads_one (k d a b v : Int) (w : World) (h : k = 4 ∨ k = 6) :
    Calls Try.prog 37 #[.agg (opv k d a b v)] w (ReadsP w [a]) := by
  have hop := opv_row' w k d a b v
  have hk := (KW.refl w).alloc (.cells (opv k d a b v) 24)
  unfold opv at *
  have HK := hid hk
  have c2 := hop.cell (i := 2) (by omega)
  simp only [List.getD_cons_succ, List.getD_cons_zero] at c2
  clear hop hk
  rcases h with rfl | rfl
  · go_enter Try.func37, Try.ntmps37
    go_wp2_with (at_builtin; refine wpList_app1g rfl sliceIntO rfl (W := (w.alloc (.cells #[.int .i64 4, .int .i64 d, .int .i64 a, .int .i64 b, .int .u64 v] 24))) (v := .slice none 0 0) (base := (w.alloc (.cells #[.int .i64 4, .int .i64 d, .int .i64 a, .int .i64 b, .int .u64 v] 24)).heap.size) (u := .int .i64 a) (xs := []) rfl rfl (by simp) rfl (Owns.nil _ _ _) (Nat.le_refl _) (by simp) (by simp) ?_)
    intro u1 w1 ho1 hb1
    have HB1 : Hid (KW w w1) := Below.trans (show Below w.heap.size w _ from HK.out) (Below.mono hb1 (Nat.le_succ _))
    have HI := hid (Owns.iw (l := [a]) ho1)
    obtain ⟨A, cc, hv, _, hA, _⟩ := ho1.row
    obtain ⟨g, rfl, _, _⟩ := hA (by simp)
    subst hv
    have HR := hid (rev1 g cc w1)
    clear ho1 hb1 c2
    go_wp2_with fail
    refine HR.out.mono ?_
    rintro e w3 ⟨rfl, rfl⟩
    go_wp2_with fail
    go_ret
    exact ⟨_, rfl, HI.out, HB1.out⟩
  · go_enter Try.func37, Try.ntmps37
    go_wp2_with (at_builtin; refine wpList_app1g rfl sliceIntO rfl (W := (w.alloc (.cells #[.int .i64 6, .int .i64 d, .int .i64 a, .int .i64 b, .int .u64 v] 24))) (v := .slice none 0 0) (base := (w.alloc (.cells #[.int .i64 6, .int .i64 d, .int .i64 a, .int .i64 b, .int .u64 v] 24)).heap.size) (u := .int .i64 a) (xs := []) rfl rfl (by simp) rfl (Owns.nil _ _ _) (Nat.le_refl _) (by simp) (by simp) ?_)
    intro u1 w1 ho1 hb1
    have HB1 : Hid (KW w w1) := Below.trans (show Below w.heap.size w _ from HK.out) (Below.mono hb1 (Nat.le_succ _))
    have HI := hid (Owns.iw (l := [a]) ho1)
    obtain ⟨A, cc, hv, _, hA, _⟩ := ho1.row
    obtain ⟨g, rfl, _, _⟩ := hA (by simp)
    subst hv
    have HR := hid (rev1 g cc w1)
    clear ho1 hb1 c2
    go_wp2_with fail
    refine HR.out.mono ?_
    rintro e w3 ⟨rfl, rfl⟩
    go_wp2_with fail
    go_ret
    exact ⟨_, rfl, HI.out, HB1.out⟩

theorem oreads_none (k d a b v : Int) (w : World) (h : ¬ (1 ≤ k ∧ k ≤ 4 ∨ k = 6)) :
    Calls Try.prog 37 #[.agg (opv k d a b v)] w (ReadsP w []) := by
  have hk := (KW.refl w).alloc (.cells (opv k d a b v) 24)
  unfold opv at *
  have HK := hid hk
  have e1 : (k == 1) = false := by simp; omega
  have e2 : (k == 2) = false := by simp; omega
  have e3 : (k == 3) = false := by simp; omega
  have e4 : (k == 4) = false := by simp; omega
  have e6 : (k == 6) = false := by simp; omega
  have HR := hid (fun W => rev0 none 0 W)
  clear h hk
  go_enter Try.func37, Try.ntmps37
  go_wp2_with fail
  refine (HR.out _).mono ?_
  rintro e w3 ⟨rfl, rfl⟩
  go_wp2_with fail
  go_ret
  exact ⟨_, rfl, IW.nil _, HK.out⟩
theorem oreads_any (k d a b v : Int) (w : World) : Calls Try.prog 37 #[.agg (opv k d a b v)] w (ReadsP w (rl07 k a b)) := by
  unfold rl07
  by_cases h3 : 1 ≤ k ∧ k ≤ 3
  · rw [show Oc.aA k = true from decide_eq_true (by omega), show Oc.aB k = true from decide_eq_true (by omega)]
    exact oreads_two k d a b v w (by omega)
  · rw [show Oc.aB k = false from decide_eq_false h3]
    by_cases h4 : k = 4 ∨ k = 6
    · rw [show Oc.aA k = true from decide_eq_true (by omega)]
      exact oreads_one k d a b v w h4
    · rw [show Oc.aA k = false from decide_eq_false (by omega)]
      exact oreads_none k d a b v w (by omega)

set_option maxRecDepth 100000 in
set_option maxHeartbeats 2000000 in
theorem rreads_any (k d a b v : Int) (w : World) : Calls Try.prog 38 #[.agg (opv k d a b v)] w (ReadsP w (rl07 k a b)) := by
  have HO := hid (fun W => asks_any k W)
  have hop := opv_row' w k d a b v
  have hk := (KW.refl w).alloc (.cells (opv k d a b v) 24)
  unfold opv at *
  unfold akv at HO
  have HL := hid (show rl07 k a b = (if Oc.aA k = true then [a] else []) ++ (if Oc.aB k = true then [b] else []) from rfl)
  generalize rl07 k a b = LL at *
  have HOp := hid hop
  have HK := hid hk
  have c0 := hop.cell (i := 0) (by omega)
  simp only [List.getD_cons_zero] at c0
  clear hop hk
  generalize Oc.aD k = xd at *
  generalize Oc.aV k = xv at *
  generalize Oc.aA k = xa at *
  generalize Oc.aB k = xb at *
  go_enter Try.func38, Try.ntmps38
  go_wp2_with fail
  refine (HO.out _).mono ?_
  rintro e w1 ⟨rfl, hb⟩
  have hop1 := KW.row hb HOp.out.lt HOp.out
  have hlt := hop1.lt
  have HK1 := hid (HK.out.t hb)
  have c2 := hop1.cell (i := 2) (by omega)
  have c3 := hop1.cell (i := 3) (by omega)
  simp only [List.getD_cons_succ, List.getD_cons_zero] at c2 c3
  clear c0 HOp
  have HOe : Hid (∀ o, Owns ((w1.alloc o).alloc (.cells #[] 3)) (w1.heap.size + 1) 3 (.slice (some ⟨w1.heap.size + 1, 0, none⟩) 0 0) []) := fun o => by
    have h := Owns.new (w := w1.alloc o) (base := w1.heap.size + 1) (e := 3) (xs := []) (by simp) (by simp)
    simpa using h
  have HK2 : Hid (∀ o1 o2, KW w ((w1.alloc o1).alloc o2)) := fun o1 o2 => (HK1.out.alloc o1).alloc o2
  have HLT := hid hlt
  have HC3 := hid c3
  have HFin : Hid (∀ o1 o2 w2, Below (w1.heap.size + 1) ((w1.alloc o1).alloc o2) w2 → KW w w2 ∧ w2.cell? ⟨w.heap.size, 3, none⟩ = some (.int .i64 b) ∧ w1.heap.size + 1 ≤ w2.heap.size ∧ ∀ z, ((w1.alloc o1).alloc o2).cell? ⟨w1.heap.size, 2, none⟩ = some z → w2.cell? ⟨w1.heap.size, 2, none⟩ = some z) := fun o1 o2 w2 hb =>
    ⟨Below.trans (show Below w.heap.size w _ from HK2.out o1 o2) (Below.mono hb (by have := HLT.out; omega)), (World.cell?_of_block (w := (w1.alloc o1).alloc o2) (hb.block w.heap.size (by have := HLT.out; omega))).trans (KW.cell (((KW.refl w1).alloc _).alloc _) HLT.out HC3.out), Nat.le_trans (by simp) hb.size,
      fun z hz => (World.cell?_of_block (w := (w1.alloc o1).alloc o2) (hb.block w1.heap.size (Nat.lt_succ_self _))).trans hz⟩
  clear c3 hlt
  cases xa with
  | false =>
    cases xb with
    | false =>
      go_wp2_with fail
      go_ret
      exact ⟨_, rfl, by rw [HL.out]; exact ⟨_, 0, rfl, fun h => absurd h (by simp)⟩, HK2.out _ _⟩
    | true =>
      have c3 := HC3.out
      have hlt := HLT.out
      go_wp2_with (at_builtin; refine wpList_app1g rfl sliceIntO rfl (base := w1.heap.size + 1) (u := .int .i64 b) (xs := []) rfl rfl (by simp) rfl (HOe.out _) (by simp) (by simp) (by simp) ?_)
      intro u2 w2 ho2 hb2
      go_wp2_with fail
      go_ret
      exact ⟨_, rfl, by rw [HL.out]; exact Owns.iw (l := [b]) ho2, (HFin.out _ _ _ hb2).1⟩
  | true =>
    cases xb with
    | false =>
      have hlt := HLT.out
      go_wp2_with (at_builtin; refine wpList_app1g rfl sliceIntO rfl (base := w1.heap.size + 1) (u := .int .i64 a) (xs := []) rfl rfl (by simp) rfl (HOe.out _) (by simp) (by simp) (by simp) ?_)
      intro u2 w2 ho2 hb2
      obtain ⟨f1, f2, f3, f4⟩ := HFin.out _ _ _ hb2
      have z2 := f4 (.bool false) (by go_simp)
      have HF1 := hid f1
      clear f1 f2 f3 f4
      go_wp2_with fail
      go_ret
      exact ⟨_, rfl, by rw [HL.out]; exact Owns.iw (l := [a]) ho2, HF1.out⟩
    | true =>
      have hlt := HLT.out
      go_wp2_with (at_builtin; refine wpList_app1g rfl sliceIntO rfl (base := w1.heap.size + 1) (u := .int .i64 a) (xs := []) rfl rfl (by simp) rfl (HOe.out _) (by simp) (by simp) (by simp) ?_)
      intro u2 w2 ho2 hb2
      obtain ⟨f1, f2, f3, f4⟩ := HFin.out _ _ _ hb2
      have z2 := f4 (.bool true) (by go_simp)
      have HF1 := hid f1
      have HS2 := hid f3
      have HO2 := hid ho2
      clear f1 f3 f4 ho2
      go_wp2_with (at_builtin; refine wpList_app1g rfl sliceIntO rfl (W := w2) (v := u2) (base := w1.heap.size + 1) (u := .int .i64 b) (xs := [.int .i64 a]) rfl rfl rfl rfl HO2.out HS2.out (by simp) (by simp) ?_)
      intro u3 w3 ho3 hb3
      go_wp2_with fail
      go_ret
      exact ⟨_, rfl, by rw [HL.out]; exact Owns.iw (l := [a, b]) ho3, Below.trans (show Below w.heap.size w w2 from HF1.out) (Below.mono hb3 (by have := HLT.out; omega))⟩

set_option maxHeartbeats 1000000 in
theorem ints07_any (v1 v2 : Value) (l1 l2 : List Int) (w : World) (h1 : IW w v1 l1) (h2 : IW w v2 l2) (hl : l1.length ≤ 4611686018427387904) :
    Calls Try.prog 36 #[v1, v2] w fun e w' => e = .returned (.bool (decide (l1 = l2))) ∧ KW w w' := by
  obtain ⟨A1, c1, rfl, hr1⟩ := h1
  obtain ⟨A2, c2, rfl, hr2⟩ := h2
  have H1 := hid hr1
  have H2 := hid hr2
  clear hr1 hr2
  by_cases hlen : l1.length = l2.length
  · have HE := hid (fun (hh : ∀ i, i < l1.length → l1.getD i 0 = l2.getD i 0) => (decide_eq_true (List.ext_getElem hlen fun i h1 h2 => by
      have := hh i h1
      simpa [List.getD_eq_getElem?_getD, List.getElem?_eq_getElem h1, List.getElem?_eq_getElem h2] using this) : decide (l1 = l2) = true))
    have HF := hid (fun i (hi : i < l1.length) (hn : l1.getD i 0 ≠ l2.getD i 0) => (decide_eq_false (fun h => hn (by rw [h])) : decide (l1 = l2) = false))
    rw [← hlen] at H2
    rw [← hlen]
    generalize decide (l1 = l2) = r at *
    generalize l1.length = N at *
    clear hlen
    go_enter Try.func36, Try.ntmps36
    go_wp2_with fail
    go_loopw [5] (fun i wr => ∃ k : Nat, k ≤ N ∧ i = .int .i64 k ∧ Hid (∀ q, q < k → l1.getD q 0 = l2.getD q 0) ∧ Hid (KW w wr)) (fun i _ => N - (intOf i).toNat)
    case atStart => exact ⟨0, by omega, rfl, fun q hq => by omega, KW.refl w⟩
    case round =>
      obtain ⟨k, hk, rfl, HQ, HK⟩ := hrel
      by_cases hlt : k < N
      · obtain ⟨q1, o1, rfl, hq1, hc1⟩ := (H1.out.k HK.out).at_ hlt
        obtain ⟨q2, o2, rfl, hq2, hc2⟩ := (H2.out.k HK.out).at_ hlt
        have HFk := hid (HF.out k hlt)
        have HQ2 := hid (fun (h : l1.getD k 0 = l2.getD k 0) (q : Nat) (hq : q < k + 1) => (show l1.getD q 0 = l2.getD q 0 from by
          rcases (show q < k ∨ q = k by omega) with h1 | rfl
          · exact HQ.out q h1
          · exact h))
        generalize l1.getD k 0 = x at *
        generalize l2.getD k 0 = y at *
        have L5 : (k : Int) < (N : Int) := by omega
        go_wp2_with fail
        have hXS := And.intro hc1 hc2
        refine wpX_region (S := fun w' => w'.cell? ⟨q1, o1 + k, none⟩ = some (.int .i64 x) ∧ w'.cell? ⟨q2, o2 + k, none⟩ = some (.int .i64 y)) (L := 99) (by kernel_rfl) ?_
        refine wpX_take (i := 0) (v := ?_) rfl rfl (by kernel_rfl) (fun _ _ _ h => h) (Or.inl ⟨rfl, fun wS hwS => ?_⟩) hXS ?_
        rotate_left
        · go_simp; try rfl
        simp only [List.set_cons_zero, List.set_cons_succ]
        refine wpX_take (i := 1) (v := ?_) rfl rfl (by kernel_rfl) (fun _ _ _ h => h) (Or.inl ⟨rfl, fun wS hwS => ?_⟩) hXS ?_
        rotate_left
        · go_simp; try rfl
        simp only [List.set_cons_zero, List.set_cons_succ]
        refine wpX_take (i := 2) (v := ?_) rfl rfl (by kernel_rfl) (fun _ _ _ h => h) (Or.inl ⟨rfl, fun wS hwS => ?_⟩) hXS ?_
        rotate_left
        · go_simp; try rfl
        simp only [List.set_cons_zero, List.set_cons_succ]
        refine wpX_take (i := 3) (v := ?_) rfl rfl (by kernel_rfl) (fun _ _ _ h => h) (Or.inl ⟨rfl, fun wS hwS => ?_⟩) hXS ?_
        rotate_left
        · go_simp; try rfl
        simp only [List.set_cons_zero, List.set_cons_succ]
        refine wpX_take (i := 4) (v := ?_) rfl rfl (by kernel_rfl) (fun _ _ _ h => h) (Or.inl ⟨rfl, fun wS hwS => ?_⟩) hXS ?_
        rotate_left
        · go_simp; try rfl
        simp only [List.set_cons_zero, List.set_cons_succ]
        refine wpX_take (i := 5) (v := ?_) rfl rfl (by kernel_rfl) (fun _ _ _ h => h) (Or.inl ⟨rfl, fun wS hwS => ?_⟩) hXS ?_
        rotate_left
        · go_simp; try rfl
        simp only [List.set_cons_zero, List.set_cons_succ]
        refine wpX_take (i := 6) (v := ?_) rfl rfl (by kernel_rfl) (fun _ _ _ h => h) (Or.inl ⟨rfl, fun wS hwS => ?_⟩) hXS ?_
        rotate_left
        · go_simp; try rfl
        simp only [List.set_cons_zero, List.set_cons_succ]
        refine wpX_take (i := 7) (v := ?_) rfl rfl (by kernel_rfl) (fun _ _ _ h => h) (Or.inl ⟨rfl, fun wS hwS => ?_⟩) hXS ?_
        rotate_left
        · go_simp; try rfl
        simp only [List.set_cons_zero, List.set_cons_succ]
        refine wpX_take (i := 8) (v := ?_) rfl rfl (by kernel_rfl) (fun _ _ _ h => h) (Or.inl ⟨rfl, fun wS hwS => ?_⟩) hXS ?_
        rotate_left
        · go_simp; try rfl
        simp only [List.set_cons_zero, List.set_cons_succ]
        refine wpX_done (by kernel_rfl) ?_
        by_cases he : x = y
        · have HQ3 := hid (HQ2.out he)
          have d : (x != y) = false := by simpa using he
          have d2 : (x == y) = true := by simpa using he
          clear he HFk
          go_wp2_with fail
          go_roundw
          case rel => exact ⟨k + 1, by omega, by go_num, HQ3, HK.out.drew⟩
          case measure => simp [intOf]; omega
        · have HF2 := hid (HFk.out he)
          have d : (x != y) = true := by simpa using he
          have d2 : (x == y) = false := by simpa using he
          clear he HFk
          go_wp2_with fail
          go_ret
          exact ⟨ret_bool HF2.out.symm, HK.out.drew⟩
      · obtain rfl : k = N := by omega
        have HT := hid (HE.out HQ.out)
        clear hlt
        go_wp2_with fail
        go_ret
        exact ⟨ret_bool HT.out.symm, HK.out⟩
  · have HF : Hid (false = decide (l1 = l2)) := (decide_eq_false (fun h => hlen (by rw [h]))).symm
    have d : ((l1.length : Int) != (l2.length : Int)) = true := by simp; omega
    have d2 : ((l1.length : Int) == (l2.length : Int)) = false := by simp; omega
    go_enter Try.func36, Try.ntmps36
    go_wp2_with fail
    go_ret
    exact ⟨ret_bool HF.out, KW.refl w⟩
end Go.Proofs.Ytnpgiallgcliiaa
