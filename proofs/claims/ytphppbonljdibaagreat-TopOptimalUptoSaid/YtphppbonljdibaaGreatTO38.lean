import Derived.Test.YtphppbonljdibaaGreatTO37
import Derived.Test.YtphppbonljdibaaGreatTO36
set_option maxRecDepth 100000
set_option maxHeartbeats 4000000
set_option linter.unusedVariables false
set_option linter.unusedSimpArgs false
namespace Go.Proofs.YtphppbonljdibaaGreat
open Go.ChangeShapes Go.WideShapes Go.ChangeAt Go.RowKit
def IntR (w : World) (e : Ending) (w' : World) : Prop := ∃ r : Int, e = .returned (.int .i64 r) ∧ KW w w'
theorem IntR.of {w w' : World} {e : Ending} (r : Int) (he : e = .returned (.int .i64 r)) (hk : KW w w') : IntR w e w' := ⟨r, he, hk⟩
theorem rlook_any (i : Nat) (hi : i < 4) (p : Pg) (w : World) (hM : PgM w p) : Calls Tryz.prog 197 #[.agg p.v, .int .i64 i] w (IntR w) := by
  have hk0 := (KW.refl w).alloc (.cells p.v 25)
  have HF := hid (rform_any p.n p.A p.c p.l _ hM.len (hM.ops.kw hk0))
  have HG := hid (rregs_any p.n p.A p.c p.l _ hM.len (hM.ops.kw hk0))
  have HD := hid (rdeep_any p.A p.c p.l _ hM.len (hM.ops.kw hk0))
  have HW := hid (rwrites_any p.A p.c p.l _ hM.len (hM.ops.kw hk0) hM.hv)
  have HK0 := hid hk0
  clear hM hk0
  unfold Pg.v pgv at *
  rcases (show i = 0 ∨ i = 1 ∨ i = 2 ∨ i = 3 by omega) with rfl | rfl | rfl | rfl
  · go_enter Tryz.func197, Tryz.ntmps197
    go_wp2_with fail
    refine HF.out.mono ?_
    rintro e w1 ⟨b, rfl, hk1⟩
    have HK1 := hid (HK0.out.t hk1)
    clear hk1
    cases b with
    | true =>
      go_wp2_with fail
      go_ret
      exact IntR.of _ rfl HK1.out
    | false =>
      go_wp2_with fail
      go_ret
      exact IntR.of _ rfl HK1.out
  · go_enter Tryz.func197, Tryz.ntmps197
    go_wp2_with fail
    refine HG.out.mono ?_
    rintro e w1 ⟨b, rfl, hk1⟩
    have HK1 := hid (HK0.out.t hk1)
    clear hk1
    cases b with
    | true =>
      go_wp2_with fail
      go_ret
      exact IntR.of _ rfl HK1.out
    | false =>
      go_wp2_with fail
      go_ret
      exact IntR.of _ rfl HK1.out
  · go_enter Tryz.func197, Tryz.ntmps197
    go_wp2_with fail
    refine HD.out.mono ?_
    rintro e w1 ⟨r1, r2, rfl, hk1⟩
    have HK1 := hid (HK0.out.t hk1)
    clear hk1
    by_cases h8 : 8 < r1
    · go_wp2_with fail
      go_ret
      exact IntR.of _ rfl HK1.out
    · go_wp2_with fail
      go_ret
      exact IntR.of _ rfl HK1.out
  · go_enter Tryz.func197, Tryz.ntmps197
    go_wp2_with fail
    refine HW.out.mono ?_
    rintro e w1 ⟨r1, r2, _, rfl, hk1⟩
    have HK1 := hid (HK0.out.t hk1)
    clear hk1
    go_wp2_with fail
    go_ret
    exact IntR.of _ rfl HK1.out
theorem rpair_any (p q : Pg) (w : World) (hM : PgM w p) (hQ : PgM w q) : Calls Tryz.prog 160 #[.agg p.v, .agg q.v] w (IntR w) := by
  have hk0 := ((KW.refl w).alloc (.cells p.v 25)).alloc (.cells q.v 25)
  have HL1 := hid (fun i hi W (hW : KW w W) => rlook_any i hi p W (hM.kw hW))
  have HL2 := hid (fun i hi W (hW : KW w W) => rlook_any i hi q W (hQ.kw hW))
  obtain ⟨p0, p1⟩ := pgv_row w 25 p.n p.A p.l.length p.c
  obtain ⟨q0, q1⟩ := pgv_row (w.alloc (.cells (pgv p.n p.A p.l.length p.c) 25)) 25 q.n q.A q.l.length q.c
  have hs : (w.alloc (.cells (pgv p.n p.A p.l.length p.c) 25)).heap.size = w.heap.size + 1 := by simp
  rw [hs] at q0 q1
  have HC : Hid (∀ W, KW ((w.alloc (.cells p.v 25)).alloc (.cells q.v 25)) W → (W.cell? ⟨w.heap.size, 0, none⟩ = some (.int .i64 p.n) ∧ W.cell? ⟨w.heap.size, 1, none⟩ = some (.slice p.A p.l.length p.c)) ∧ (W.cell? ⟨w.heap.size + 1, 0, none⟩ = some (.int .i64 q.n) ∧ W.cell? ⟨w.heap.size + 1, 1, none⟩ = some (.slice q.A q.l.length q.c)) ∧ w.heap.size + 1 < W.heap.size) := hid fun W hW => by
    have hk1 := ((KW.refl (w.alloc (.cells (pgv p.n p.A p.l.length p.c) 25))).alloc (.cells (pgv q.n q.A q.l.length q.c) 25)).t hW
    have k0 := hk1.keep (own := fun _ => False)
    have k2 := hW.keep (own := fun _ => False)
    refine ⟨⟨k0.cs id p0, k0.cs id p1⟩, ⟨k2.cs id q0, k2.cs id q1⟩, ?_⟩
    have := hW.size
    simp at this
    omega
  have HK0 := hid hk0
  clear hM hQ hk0 p0 p1 q0 q1 hs
  unfold Pg.v pgv at *
  go_enter Tryz.func160, Tryz.ntmps160
  generalize hW1 : (w.alloc (.cells #[.int .i64 p.n, .slice p.A p.l.length p.c] 25)).alloc (.cells #[.int .i64 q.n, .slice q.A q.l.length q.c] 25) = W1 at *
  go_wp2_with fail
  go_loopw [5] (fun i wr => ∃ k : Nat, k ≤ 4 ∧ i = .int .i64 k ∧ Hid (KW W1 wr)) (fun i _ => 4 - (intOf i).toNat)
  case atStart => exact ⟨0, by omega, rfl, hid (KW.refl W1)⟩
  case round =>
    obtain ⟨k, hk, rfl, HK⟩ := hrel
    by_cases hk4 : k < 4
    · have L1 : (k : Int) < 4 := by omega
      obtain ⟨⟨p0, p1⟩, ⟨q0, q1⟩, hsz⟩ := HC.out wr HK.out
      have hsz0 : w.heap.size < wr.heap.size := by omega
      have HA1 := hid (HL1.out k hk4 wr (HK0.out.t HK.out))
      go_wp2_with fail
      refine HA1.out.mono ?_
      rintro e w2 ⟨r, rfl, hk2⟩
      have HK2 := hid (HK.out.t hk2)
      clear hk2 HA1 p0 p1 q0 q1 hsz hsz0
      by_cases hr : r = 0
      · subst hr
        obtain ⟨⟨p0, p1⟩, ⟨q0, q1⟩, hsz⟩ := HC.out w2 HK2.out
        have HA2 := hid (HL2.out k hk4 w2 (HK0.out.t HK2.out))
        go_wp2_with fail
        refine HA2.out.mono ?_
        rintro e w3 ⟨r2, rfl, hk3⟩
        have HK3 := hid (HK2.out.t hk3)
        clear hk3 HA2 p0 p1 q0 q1 hsz
        by_cases hr2 : r2 = 0
        · subst hr2
          go_wp2_with fail
          go_roundw
          case rel => exact ⟨k + 1, by omega, by go_num, HK3⟩
          case measure => simp [intOf]; omega
        · have er : (r2 == 0) = false := beq_eq_false_iff_ne.2 hr2
          clear hr2
          go_wp2_with fail
          go_ret
          exact IntR.of _ rfl (HK0.out.t HK3.out)
      · have er : (r == 0) = false := beq_eq_false_iff_ne.2 hr
        clear hr
        go_wp2_with fail
        go_ret
        exact IntR.of _ rfl (HK0.out.t HK2.out)
    · obtain rfl : k = 4 := by omega
      go_wp2_with fail
      go_ret
      exact IntR.of _ rfl (HK0.out.t HK.out)
theorem rdims_any (n1 n2 : Int) (A1 A2 : Option Addr) (l1 c1 l2 c2 x t : Nat) (w : World) : Calls Tryz.prog 161 #[.agg (pgv n1 A1 l1 c1), .agg (pgv n2 A2 l2 c2), .int .i64 x, .int .i64 t] w (IntR w) := by
  have HK0 := hid (((KW.refl w).alloc (.cells #[.int .i64 n1, .slice A1 l1 c1] 25)).alloc (.cells #[.int .i64 n2, .slice A2 l2 c2] 25))
  unfold pgv
  have t0 : ¬ ((t : Int) < 0) := by omega
  by_cases h1 : (x : Int) < 1
  · go_enter Tryz.func161, Tryz.ntmps161
    go_wp2_with fail
    go_ret
    exact IntR.of _ rfl HK0.out
  by_cases h2 : (64 : Int) < x
  · go_enter Tryz.func161, Tryz.ntmps161
    go_wp2_with fail
    go_ret
    exact IntR.of _ rfl HK0.out
  by_cases h3 : (64 : Int) < t
  · go_enter Tryz.func161, Tryz.ntmps161
    go_wp2_with fail
    go_ret
    exact IntR.of _ rfl HK0.out
  obtain ⟨s, hs⟩ : ∃ s : Nat, x + t = s := ⟨_, rfl⟩
  have hw1 : IntKind.i64.wrap ((x : Int) + (t : Int)) = (s : Int) := by rw [show (x : Int) + (t : Int) = (s : Int) by omega]; exact IntWalk.i64_in _ (by omega)
  have hw2 : IntKind.i64.wrap ((s : Int) + 1) = (s : Int) + 1 := IntWalk.i64_in _ (by omega)
  clear hs
  by_cases h4 : n1 < (s : Int) + 1
  · go_enter Tryz.func161, Tryz.ntmps161
    go_wp2_with fail
    go_ret
    exact IntR.of _ rfl HK0.out
  by_cases h5 : n2 < (s : Int)
  · go_enter Tryz.func161, Tryz.ntmps161
    go_wp2_with fail
    go_ret
    exact IntR.of _ rfl HK0.out
  go_enter Tryz.func161, Tryz.ntmps161
  go_wp2_with fail
  go_ret
  exact IntR.of _ rfl HK0.out
def BoxC (h : Hd) (g : Nat) (W : World) : Prop := (W.cell? ⟨g, 0, none⟩ = some (.int .i64 h.mode) ∧ W.cell? ⟨g, 1, none⟩ = some (.slice h.xA h.xs.length h.xc) ∧ W.cell? ⟨g, 2, none⟩ = some (.slice h.tA h.ts.length h.tc) ∧ W.cell? ⟨g, 3, none⟩ = some (.int .i64 h.st.n) ∧ W.cell? ⟨g, 4, none⟩ = some (.slice h.st.A h.st.l.length h.st.c) ∧ W.cell? ⟨g, 5, none⟩ = some (.int .i64 h.lo.n) ∧ W.cell? ⟨g, 6, none⟩ = some (.slice h.lo.A h.lo.l.length h.lo.c) ∧ W.cell? ⟨g, 7, none⟩ = some (.int .i64 h.len) ∧ W.cell? ⟨g, 8, none⟩ = some (.int .i64 h.words)) ∧ g < W.heap.size
theorem boxC_of {h : Hd} {g : Nat} {W : World} (r : W.rowIs g 27 9 (hdF h (.slice h.xA h.xs.length h.xc) (.slice h.tA h.ts.length h.tc) (.slice h.st.A h.st.l.length h.st.c) (.slice h.lo.A h.lo.l.length h.lo.c))) : BoxC h g W :=
  ⟨⟨r.cell (i := 0) (by omega), r.cell (i := 1) (by omega), r.cell (i := 2) (by omega), r.cell (i := 3) (by omega), r.cell (i := 4) (by omega), r.cell (i := 5) (by omega), r.cell (i := 6) (by omega), r.cell (i := 7) (by omega), r.cell (i := 8) (by omega)⟩, r.lt⟩
theorem boxC_new (h : Hd) (w : World) : ∀ W, KW (w.alloc (.cells h.v 27)) W → BoxC h w.heap.size W := fun W hW => boxC_of (KW.row hW (hdF_new w h _ _ _ _).lt (hdF_new w h (.slice h.xA h.xs.length h.xc) (.slice h.tA h.ts.length h.tc) (.slice h.st.A h.st.l.length h.st.c) (.slice h.lo.A h.lo.l.length h.lo.c)))
theorem rcheck33_any (h : Hd) (w : World) (hM : HdM w h) : Calls Tryz.prog 117 #[.agg h.v] w (IntR w) := by
  have hk0 := (KW.refl w).alloc (.cells h.v 27)
  have HB := hid (boxC_new h w)
  have HPr := hid (rpair_any h.st h.lo _ (hM.kw hk0).st (hM.kw hk0).lo)
  have HDm := hid (fun W => rdims_any h.st.n h.lo.n h.st.A h.lo.A h.st.l.length h.st.c h.lo.l.length h.lo.c h.xs.length h.ts.length W)
  have HK0 := hid hk0
  clear hM hk0
  unfold Hd.v hdv Pg.v pgv BoxC at *
  generalize h.xs.length = xn at *
  generalize h.ts.length = tn at *
  generalize h.mode = md at *
  generalize h.len = ln at *
  generalize h.words = wd at *
  by_cases m1 : md < 1
  · go_enter Tryz.func117, Tryz.ntmps117
    go_wp2_with fail
    go_ret
    exact IntR.of _ rfl HK0.out
  by_cases m3 : 3 < md
  · go_enter Tryz.func117, Tryz.ntmps117
    go_wp2_with fail
    go_ret
    exact IntR.of _ rfl HK0.out
  go_enter Tryz.func117, Tryz.ntmps117
  go_wp2_with fail
  refine HPr.out.mono ?_
  rintro e w1 ⟨r, rfl, hk1⟩
  obtain ⟨⟨b0, b1, b2, b3, b4, b5, b6, b7, b8⟩, hbl⟩ := HB.out w1 hk1
  have HK1 := hid (HK0.out.t hk1)
  have HKb := hid hk1
  clear hk1 HPr
  by_cases hr : r = 0
  · subst hr
    go_wp2_with fail
    refine (HDm.out w1).mono ?_
    clear b0 b1 b2 b3 b4 b5 b6 b7 b8 hbl
    rintro e w2 ⟨r, rfl, hk2⟩
    obtain ⟨⟨b0, b1, b2, b3, b4, b5, b6, b7, b8⟩, hbl⟩ := HB.out w2 (HKb.out.t hk2)
    have HK2 := hid (HK1.out.t hk2)
    clear hk2 HDm
    by_cases hr : r = 0
    · subst hr
      by_cases l0 : ln < 0
      · go_wp2_with fail
        go_ret
        exact IntR.of _ rfl HK2.out
      by_cases l1 : 65535 < ln
      · go_wp2_with fail
        go_ret
        exact IntR.of _ rfl HK2.out
      by_cases m2 : md = 2
      · by_cases lz : ln = 0
        · subst m2 lz
          by_cases w0 : wd < 0
          · go_wp2_with fail
            go_ret
            exact IntR.of _ rfl HK2.out
          by_cases w1' : 1048576 < wd
          · go_wp2_with fail
            go_ret
            exact IntR.of _ rfl HK2.out
          go_wp2_with fail
          go_ret
          exact IntR.of _ rfl HK2.out
        · subst m2
          have ez : (ln == 0) = false := beq_eq_false_iff_ne.2 lz
          have ey : (ln != 0) = true := by rw [bne, ez]; rfl
          have ex : decide (ln = 0) = false := decide_eq_false lz
          go_wp2_with fail
          go_ret
          exact IntR.of _ rfl HK2.out
      · have e2 : (md == 2) = false := beq_eq_false_iff_ne.2 m2
        clear m2
        by_cases w0 : wd < 0
        · go_wp2_with fail
          go_ret
          exact IntR.of _ rfl HK2.out
        by_cases w1' : 1048576 < wd
        · go_wp2_with fail
          go_ret
          exact IntR.of _ rfl HK2.out
        go_wp2_with fail
        go_ret
        exact IntR.of _ rfl HK2.out
    · have er : (r == 0) = false := beq_eq_false_iff_ne.2 hr
      clear hr
      go_wp2_with fail
      go_ret
      exact IntR.of _ rfl HK2.out
  · have er : (r == 0) = false := beq_eq_false_iff_ne.2 hr
    clear hr
    go_wp2_with fail
    go_ret
    exact IntR.of _ rfl HK1.out
def Two6R (w : World) (e : Ending) (w' : World) : Prop := ∃ a b : Nat, a ≤ 65536 ∧ b ≤ 65536 ∧ e = .returned (.tuple #[.int .i64 a, .int .i64 b]) ∧ KW w w'
theorem Two6R.of {w w' : World} {e : Ending} (a b : Nat) (ha : a ≤ 65536) (hb : b ≤ 65536) (he : e = .returned (.tuple #[.int .i64 a, .int .i64 b])) (hk : KW w w') : Two6R w e w' := ⟨a, b, ha, hb, he, hk⟩
theorem rof34_any (h : Hd) (w : World) (hM : HdM w h) : Calls Tryz.prog 78 #[.agg h.v] w (Two6R w) := by
  have hk0 := (KW.refl w).alloc (.cells h.v 27)
  have HB := hid (boxC_new h w)
  have HCh := hid (rcheck33_any h _ (hM.kw hk0))
  have HW1 := hid (fun W (hW : KW w W) => rwrites_any h.st.A h.st.c h.st.l W hM.st.len (hM.kw hW).st.ops hM.st.hv)
  have HW2 := hid (fun W (hW : KW w W) => rwrites_any h.lo.A h.lo.c h.lo.l W hM.lo.len (hM.kw hW).lo.ops hM.lo.hv)
  have HK0 := hid hk0
  clear hM hk0
  unfold Hd.v hdv BoxC at *
  go_enter Tryz.func78, Tryz.ntmps78
  go_wp2_with fail
  refine HCh.out.mono ?_
  rintro e w1 ⟨r, rfl, hk1⟩
  obtain ⟨⟨b0, b1, b2, b3, b4, b5, b6, b7, b8⟩, hbl⟩ := HB.out w1 hk1
  have HK1 := hid (HK0.out.t hk1)
  have HKb := hid hk1
  clear hk1 HCh
  by_cases hr : r = 0
  · subst hr
    have HA1 := hid (HW1.out w1 HK1.out)
    go_wp2_with fail
    refine HA1.out.mono ?_
    clear b0 b1 b2 b3 b4 b5 b6 b7 b8 hbl
    rintro e w2 ⟨a, x, ha, rfl, hk2⟩
    obtain ⟨⟨b0, b1, b2, b3, b4, b5, b6, b7, b8⟩, hbl⟩ := HB.out w2 (HKb.out.t hk2)
    have HK2 := hid (HK1.out.t hk2)
    have HA2 := hid (HW2.out w2 HK2.out)
    clear hk2 HA1
    go_wp2_with fail
    refine HA2.out.mono ?_
    clear b0 b1 b2 b3 b4 b5 b6 b7 b8 hbl
    rintro e w3 ⟨b, y, hb, rfl, hk3⟩
    have HK3 := hid (HK2.out.t hk3)
    clear hk3 HA2
    go_wp2_with fail
    go_ret2
    exact Two6R.of a b ha hb rfl HK3.out
  · have er : (r == 0) = false := beq_eq_false_iff_ne.2 hr
    clear hr
    go_wp2_with fail
    go_ret2
    exact Two6R.of 0 0 (by omega) (by omega) rfl HK1.out
theorem small33_any (h : Hd) (w : World) : Calls Tryz.prog 77 #[.agg h.v, .int .i64 60] w (BoolR w) := by
  have HK0 := hid ((KW.refl w).alloc (.cells h.v 27))
  unfold Hd.v hdv at *
  generalize h.xs.length = xn at *
  generalize h.ts.length = tn at *
  generalize h.st.l.length = sn at *
  generalize h.lo.l.length = ln at *
  by_cases c1 : (sn : Int) ≤ 60
  · by_cases c2 : (ln : Int) ≤ 60
    · by_cases c3 : (xn : Int) ≤ 200
      · by_cases c4 : (tn : Int) ≤ 200
        · go_enter Tryz.func77, Tryz.ntmps77
          go_wp2_with fail
          go_ret
          exact BoolR.of _ rfl HK0.out
        · go_enter Tryz.func77, Tryz.ntmps77
          go_wp2_with fail
          go_ret
          exact BoolR.of _ rfl HK0.out
      · go_enter Tryz.func77, Tryz.ntmps77
        go_wp2_with fail
        go_ret
        exact BoolR.of _ rfl HK0.out
    · go_enter Tryz.func77, Tryz.ntmps77
      go_wp2_with fail
      go_ret
      exact BoolR.of _ rfl HK0.out
  · go_enter Tryz.func77, Tryz.ntmps77
    go_wp2_with fail
    go_ret
    exact BoolR.of _ rfl HK0.out
def SmallR (ln wd : Int) (w : World) (e : Ending) (w' : World) : Prop := ∃ b : Bool, e = .returned (.bool b) ∧ (b = true → (ln ≤ 40 ∨ 65535 < ln) ∧ (wd ≤ 3000 ∨ 1048576 < wd)) ∧ KW w w'
theorem SmallR.no {ln wd : Int} {w w' : World} {e : Ending} (he : e = .returned (.bool false)) (hk : KW w w') : SmallR ln wd w e w' := ⟨false, he, (fun h => by cases h), hk⟩
theorem SmallR.yes {ln wd : Int} {w w' : World} {e : Ending} (he : e = .returned (.bool true)) (h1 : ln ≤ 40 ∨ 65535 < ln) (h2 : wd ≤ 3000 ∨ 1048576 < wd) (hk : KW w w') : SmallR ln wd w e w' := ⟨true, he, fun _ => ⟨h1, h2⟩, hk⟩
theorem small35_any (h : Hd) (w : World) (hM : HdM w h) : Calls Tryz.prog 35 #[.agg h.v] w (SmallR h.len h.words w) := by
  have hk0 := (KW.refl w).alloc (.cells h.v 27)
  have HB := hid (boxC_new h w)
  have HSm := hid (small33_any h (w.alloc (.cells h.v 27)))
  have HOf := hid (fun W (hW : KW w W) => rof34_any h W (hM.kw hW))
  have HK0 := hid hk0
  clear hM hk0
  unfold Hd.v hdv BoxC at *
  generalize h.len = ln at *
  generalize h.words = wd at *
  go_enter Tryz.func35, Tryz.ntmps35
  go_wp2_with fail
  refine HSm.out.mono ?_
  rintro e w1 ⟨b, rfl, hk1⟩
  obtain ⟨⟨b0, b1, b2, b3, b4, b5, b6, b7, b8⟩, hbl⟩ := HB.out w1 hk1
  have HK1 := hid (HK0.out.t hk1)
  have HKb := hid hk1
  clear hk1 HSm
  cases b with
  | false =>
    go_wp2_with fail
    go_ret
    exact SmallR.no rfl HK1.out
  | true =>
    have HO1 := hid (HOf.out w1 HK1.out)
    go_wp2_with fail
    refine HO1.out.mono ?_
    clear b0 b1 b2 b3 b4 b5 b6 b7 b8 hbl
    rintro e w2 ⟨a, b, ha, hb, rfl, hk2⟩
    obtain ⟨⟨b0, b1, b2, b3, b4, b5, b6, b7, b8⟩, hbl⟩ := HB.out w2 (HKb.out.t hk2)
    have HK2 := hid (HK1.out.t hk2)
    clear hk2 HO1
    obtain ⟨s, hs⟩ : ∃ s : Nat, a + b = s := ⟨_, rfl⟩
    have hws : IntKind.i64.wrap ((a : Int) + (b : Int)) = (s : Int) := by rw [show (a : Int) + (b : Int) = (s : Int) by omega]; exact IntWalk.i64_in _ (by omega)
    clear hs ha hb
    by_cases c1 : (s : Int) ≤ 300
    · by_cases c2 : ln ≤ 40
      · by_cases c3 : wd ≤ 3000
        · go_wp2_with fail
          go_ret
          exact SmallR.yes rfl (.inl c2) (.inl c3) HK2.out
        · by_cases c4 : 1048576 < wd
          · go_wp2_with fail
            go_ret
            exact SmallR.yes rfl (.inl c2) (.inr c4) HK2.out
          · have c3' : 3000 < wd := by omega
            have c4' : wd ≤ 1048576 := by omega
            have d3 : decide (wd ≤ 3000) = false := decide_eq_false c3
            have d4 : decide (1048576 < wd) = false := decide_eq_false c4
            go_wp2_with fail
            go_ret
            exact SmallR.no (by first | rfl | simp only [d3, d4, Bool.or_false, Bool.false_or, Bool.and_false, Bool.false_and]) HK2.out
      · by_cases c5 : 65535 < ln
        · by_cases c3 : wd ≤ 3000
          · go_wp2_with fail
            go_ret
            exact SmallR.yes rfl (.inr c5) (.inl c3) HK2.out
          · by_cases c4 : 1048576 < wd
            · go_wp2_with fail
              go_ret
              exact SmallR.yes rfl (.inr c5) (.inr c4) HK2.out
            · have c3' : 3000 < wd := by omega
              have c4' : wd ≤ 1048576 := by omega
              have d3 : decide (wd ≤ 3000) = false := decide_eq_false c3
              have d4 : decide (1048576 < wd) = false := decide_eq_false c4
              go_wp2_with fail
              go_ret
              exact SmallR.no (by first | rfl | simp only [d3, d4, Bool.or_false, Bool.false_or, Bool.and_false, Bool.false_and]) HK2.out
        · go_wp2_with fail
          go_ret
          exact SmallR.no rfl HK2.out
    · go_wp2_with fail
      go_ret
      exact SmallR.no rfl HK2.out
structure Right (h : Hd) : Prop where
  ok : PlOk h
  len : h.len ≤ 40
  words : h.words ≤ 3000
def RightR (h : Hd) (w : World) (e : Ending) (w' : World) : Prop := ∃ b : Bool, e = .returned (.bool b) ∧ (b = true → Right h) ∧ KW w w'
theorem RightR.of {h : Hd} {w w' : World} {e : Ending} (b : Bool) (he : e = .returned (.bool b)) (hb : b = true → Right h) (hk : KW w w') : RightR h w e w' := ⟨b, he, hb, hk⟩
theorem make_any (h : Hd) (w : World) (hM : HdM w h) : Calls Tryz.prog 10 #[.agg h.v] w (MkP h w) := by
  by_cases hg : HGd h
  · exact make_good h w hM hg
  · exact make_bad h w hM hg
theorem right_top (h : Hd) (w : World) (hM : HdM w h) : Calls Tryz.prog 7 #[.agg h.v] w (RightR h w) := by
  have hk0 := (KW.refl w).alloc (.cells h.v 27)
  have HB := hid (boxC_new h w)
  have HMk := hid (make_any h _ (hM.kw hk0))
  have HSm := hid (fun W (hW : KW w W) => small35_any h W (hM.kw hW))
  have HK0 := hid hk0
  clear hM hk0
  unfold MkP at HMk
  unfold Hd.v hdv BoxC at *
  go_enter Tryz.func7, Tryz.ntmps7
  go_wp2_with fail
  refine HMk.out.mono ?_
  rintro e w1 ⟨a, b, c, d, r, rfl, hr, _, hk1⟩
  have hk1' := hk1.alloc (.cells #[.int .i64 a, .int .i64 b, .int .i64 c, .int .i64 d] 35)
  obtain ⟨⟨b0, b1, b2, b3, b4, b5, b6, b7, b8⟩, hbl⟩ := HB.out w1 hk1
  have HK1 := hid (HK0.out.t hk1')
  have HR := hid hr
  have HSm1 := hid (HSm.out _ HK1.out)
  clear hk1 hk1' HMk hr HSm
  go_wp2_with fail
  refine HSm1.out.mono ?_
  rintro e w2 ⟨x, rfl, hx, hk2⟩
  have HK2 := hid (HK1.out.t hk2)
  have HX := hid hx
  clear hk2 hx HSm1 b0 b1 b2 b3 b4 b5 b6 b7 b8 hbl
  cases x with
  | false =>
    go_wp2_with fail
    go_ret
    exact RightR.of false rfl (fun h => by cases h) HK2.out
  | true =>
    by_cases h0 : r = 0
    · subst h0
      go_wp2_with fail
      go_ret
      refine RightR.of true rfl (fun _ => ?_) HK2.out
      have hp := HR.out.1 (by first | rfl | trivial)
      obtain ⟨h1, h2⟩ := HX.out (by first | rfl | trivial)
      have hb := hp.1.bounds
      exact ⟨hp, by omega, by omega⟩
    · have er : (r == 0) = false := beq_eq_false_iff_ne.2 h0
      clear h0
      go_wp2_with fail
      go_ret
      exact RightR.of false rfl (fun h => by cases h) HK2.out
end Go.Proofs.YtphppbonljdibaaGreat
namespace Go.Proofs.YtphppbonljdibaaGreat
namespace Lb
open Mc (St Does)
def tq (x : Int) (c : Nat) : Int := Ch.tt x.toNat c
theorem tq_nn (x : Int) {c : Nat} (hc : 1 ≤ c) : 0 ≤ tq x c := Ch.tt_nn _ _ hc
theorem tq_one (c : Nat) : tq 1 c = 0 := Rv.tt_1 c
theorem tq_more (x : Int) {c : Nat} (hc : 1 ≤ c) : tq x (c + 1) ≤ tq x c := Ch.tt_more _ _ hc
theorem tq_parts {n m : Int} {c : Nat} (hc : 2 ≤ c) (h0 : 0 ≤ m) (h1 : m ≤ n) : tq n c ≤ m + tq m c + tq (n - m) (c - 1) := by
  by_cases h2 : 2 ≤ n
  · have h := Ch.tt_parts n.toNat c m.toNat hc (by omega) (by omega)
    unfold tq
    rw [show (n - m).toNat = n.toNat - m.toNat by omega]
    have e : ((m.toNat : Nat) : Int) = m := by omega
    rw [e] at h
    omega
  · have e : tq n c = 0 := by
      rcases (show n.toNat = 0 ∨ n.toNat = 1 by omega) with e | e <;> unfold tq <;> rw [e]
      · exact Rv.tt_0 c
      · exact Rv.tt_1 c
    have := tq_nn m (show 1 ≤ c by omega)
    have := tq_nn (n - m) (show 1 ≤ c - 1 by omega)
    omega
theorem rp_lt (n s : Nat) (hs : 1 ≤ s) (hn : 1 ≤ n) : Ch.rp n s ≤ n - 1 := Rv.rp_min hs (by have := Ch.be_ge s (n - 1) hs; omega)
theorem tq_step {n : Int} {c : Nat} (hc : 1 ≤ c) (hn : 1 ≤ n) : tq n c = tq (n - 1) c + (Ch.rp n.toNat c : Nat) := by
  have h := Ch.tt_step n.toNat c hc (by omega)
  unfold tq
  rw [show (n - 1).toNat = n.toNat - 1 by omega]
  omega
theorem tq_last {n : Int} {c : Nat} (hc : 1 ≤ c) (hn : 1 ≤ n) : tq n c ≤ (n - 1) + tq (n - 1) c := by
  rw [tq_step hc hn]
  have := rp_lt n.toNat c hc (by omega)
  omega
theorem rp_down (n s : Nat) (hs : 1 ≤ s) (hn : 1 ≤ n) : Ch.rp n s ≤ Ch.rp (n - 1) s + 1 := by
  refine Rv.rp_min hs ?_
  have h1 := Ch.rp_enough (n - 1) s hs
  obtain ⟨t, rfl⟩ : ∃ t, s = t + 1 := ⟨s - 1, by omega⟩
  have h2 := Ch.be_two t (Ch.rp (n - 1) (t + 1))
  have h3 : 1 ≤ Ch.be t (Ch.rp (n - 1) (t + 1) + 1) := Ch.bin_pos (by omega)
  omega
theorem sum_down (s : Nat) (hs : 1 ≤ s) (q : Nat) : ∀ u : Nat, u < Ch.rp (q + u + 1) s → 2 * Ch.tt q s + (u : Int) * (u + 1) ≤ 2 * Ch.tt (q + u) s := by
  intro u
  induction u with
  | zero => intro _; simp
  | succ u ih =>
    intro h
    have h1 := rp_down (q + (u + 1) + 1) s hs (by omega)
    rw [show q + (u + 1) + 1 - 1 = q + u + 1 by omega] at h1
    have h2 := ih (by omega)
    have h3 := Ch.tt_step (q + u + 1) s hs (by omega)
    rw [show q + u + 1 - 1 = q + u by omega] at h3
    have h4 : ((u + 1 : Nat) : Int) ≤ (Ch.rp (q + u + 1) s : Nat) := by omega
    have h5 : ((u + 1 : Nat) : Int) * (((u + 1 : Nat) : Int) + 1) = (u : Int) * (u + 1) + 2 * ((u : Int) + 1) := by push_cast; grind
    rw [h5, show q + (u + 1) = q + u + 1 by omega]
    omega
theorem tq_keep {q u : Int} {c : Nat} (hc : 2 ≤ c) (hq : 0 ≤ q) (hu : 0 ≤ u) (h : u < (Ch.rp (q + u + 1).toNat c : Nat)) : tq q c + tq (u + 1) (c - 1) ≤ tq (q + u) c := by
  obtain ⟨a, rfl⟩ : ∃ a : Nat, q = a := ⟨q.toNat, by omega⟩
  obtain ⟨b, rfl⟩ : ∃ b : Nat, u = b := ⟨u.toNat, by omega⟩
  have h1 := sum_down c (by omega) a b (by rw [show ((a : Int) + b + 1).toNat = a + b + 1 by omega] at h; omega)
  have h2 := Ch.tt_most (b + 1) (c - 1) (by omega)
  rw [Ch.tt_one (b + 1) (by omega)] at h2
  unfold tq
  rw [show ((a : Int) + b).toNat = a + b by omega, show ((b : Int) + 1).toNat = b + 1 by omega, Int.toNat_natCast]
  have e : ((b + 1 : Nat) : Int) * (((b + 1 : Nat) : Int) - 1) = (b : Int) * (b + 1) := by
    have : ((b + 1 : Nat) : Int) = (b : Int) + 1 := by omega
    rw [this, show (b : Int) + 1 - 1 = b by omega, Int.mul_comm]
  rw [e] at h2
  generalize (b : Int) * ((b : Int) + 1) = z at *
  omega
abbrev Link := Int × Int
def Chain (A : Int → Prop) : Int → List Link → Int → Nat → Prop
  | y, [], p, s => y < p
  | y, (h, b) :: r, p, s => y < h ∧ h ≤ b ∧ A h ∧ 1 ≤ s ∧ Chain A b r p (s - 1)
def val : Int → List Link → Int → Nat → Int
  | y, [], p, s => tq (p - y) (s + 1)
  | y, (h, b) :: r, p, s => tq (b - y) (s + 1) + (b - h) + val b r p (s - 1)
def top : Int → List Link → Int
  | y, [] => y
  | y, (h, b) :: r => top b r
theorem Chain.mono {A B : Int → Prop} (hAB : ∀ x, A x → B x) : ∀ {r : List Link} {y p : Int} {s : Nat}, Chain A y r p s → Chain B y r p s
  | [], y, p, s, h => h
  | (h, b) :: r, y, p, s, ⟨h1, h2, h3, h4, h5⟩ => ⟨h1, h2, hAB h h3, h4, Chain.mono hAB h5⟩
theorem Chain.lt {A : Int → Prop} : ∀ {r : List Link} {y p : Int} {s : Nat}, Chain A y r p s → y ≤ top y r ∧ top y r < p
  | [], y, p, s, h => ⟨Int.le_refl _, h⟩
  | (h, b) :: r, y, p, s, ⟨h1, h2, h3, h4, h5⟩ => by
    have := Chain.lt h5
    show y ≤ top b r ∧ top b r < p
    omega
theorem Chain.up {A : Int → Prop} {p2 : Int} : ∀ {r : List Link} {y p : Int} {s : Nat}, Chain A y r p s → top y r < p2 → Chain A y r p2 s
  | [], y, p, s, h, h2 => h2
  | (h, b) :: r, y, p, s, ⟨h1, h2, h3, h4, h5⟩, h6 => ⟨h1, h2, h3, h4, Chain.up h5 h6⟩
theorem val_more {A : Int → Prop} : ∀ {r : List Link} {y p : Int} {s : Nat}, Chain A y r p s → val y r p (s + 1) ≤ val y r p s
  | [], y, p, s, h => tq_more _ (by omega)
  | (h, b) :: r, y, p, s, ⟨h1, h2, h3, h4, h5⟩ => by
    obtain ⟨t, rfl⟩ : ∃ t, s = t + 1 := ⟨s - 1, by omega⟩
    have ih := val_more h5
    have := tq_more (b - y) (show 1 ≤ t + 1 + 1 by omega)
    simp only [val, Nat.add_sub_cancel] at *
    omega
theorem Chain.more {A : Int → Prop} : ∀ {r : List Link} {y p : Int} {s : Nat}, Chain A y r p s → Chain A y r p (s + 1)
  | [], y, p, s, h => h
  | (h, b) :: r, y, p, s, ⟨h1, h2, h3, h4, h5⟩ => by
    obtain ⟨t, rfl⟩ : ∃ t, s = t + 1 := ⟨s - 1, by omega⟩
    exact ⟨h1, h2, h3, by omega, Chain.more h5⟩
theorem val_drop {A : Int → Prop} {y b p : Int} {r : List Link} {s : Nat} (hy : y ≤ b) (hs : 1 ≤ s) (h : Chain A b r p (s - 1)) :
    val y r p s ≤ (b - y) + tq (b - y) (s + 1) + val b r p (s - 1) := by
  obtain ⟨t, rfl⟩ : ∃ t, s = t + 1 := ⟨s - 1, by omega⟩
  rw [Nat.add_sub_cancel] at *
  cases r with
  | nil =>
    have h2 : b < p := h
    have := tq_parts (n := p - y) (m := b - y) (c := t + 1 + 1) (by omega) (by omega) (by omega)
    simp only [val]
    rw [show p - y - (b - y) = p - b by omega, Nat.add_sub_cancel] at this
    omega
  | cons x r =>
    obtain ⟨h', b'⟩ := x
    obtain ⟨h1, h2, h3, h4, h5⟩ := h
    obtain ⟨u, rfl⟩ : ∃ u, t = u + 1 := ⟨t - 1, by omega⟩
    have := tq_parts (n := b' - y) (m := b - y) (c := u + 1 + 1 + 1) (by omega) (by omega) (by omega)
    have hm := val_more h5
    simp only [val, Nat.add_sub_cancel] at *
    rw [show b' - y - (b - y) = b' - b by omega] at this
    omega
theorem val_last {A : Int → Prop} : ∀ {r : List Link} {y p : Int} {s : Nat}, Chain A y r p s → val y r (p + 1) s ≤ (p - top y r) + val y r p s
  | [], y, p, s, h => by
    have h' : y < p := h
    have := tq_last (n := p + 1 - y) (c := s + 1) (by omega) (by omega)
    simp only [val, top]
    rw [show p + 1 - y - 1 = p - y by omega] at this
    omega
  | (h, b) :: r, y, p, s, ⟨h1, h2, h3, h4, h5⟩ => by
    have := val_last h5
    simp only [val, top]
    omega
theorem Chain.start {A : Int → Prop} {r : List Link} {y b p : Int} {s : Nat} (hy : y ≤ b) (h : Chain A b r p s) : Chain A y r p s := by
  cases r with
  | nil => have h' : b < p := h; show y < p; omega
  | cons x r =>
    obtain ⟨h', b'⟩ := x
    obtain ⟨h1, h2, h3, h4, h5⟩ := h
    exact ⟨by omega, h2, h3, h4, h5⟩
theorem top_mono {y b : Int} (hy : y ≤ b) (r : List Link) : top y r ≤ top b r := by
  cases r with
  | nil => exact hy
  | cons x r => exact Int.le_refl _
theorem Chain.above {H : Int → Prop} {z : Int} : ∀ {r : List Link} {b p : Int} {s : Nat}, z ≤ b → Chain (fun x => H x ∨ x = z) b r p s → Chain H b r p s
  | [], b, p, s, hz, h => h
  | (h', b') :: r, b, p, s, hz, ⟨h1, h2, h3, h4, h5⟩ => ⟨h1, h2, h3.resolve_right (by omega), h4, Chain.above (by omega) h5⟩
theorem Chain.below {H : Int → Prop} {z : Int} : ∀ {r : List Link} {y p : Int} {s : Nat}, top y r < z → Chain (fun x => H x ∨ x = z) y r p s → Chain H y r p s
  | [], y, p, s, hz, h => h
  | (h', b') :: r, y, p, s, hz, ⟨h1, h2, h3, h4, h5⟩ => by
    have hl := Chain.lt h5
    have hz' : top b' r < z := hz
    exact ⟨h1, h2, h3.resolve_right (by omega), h4, Chain.below hz' h5⟩
theorem Chain.move {H : Int → Prop} {a z : Int} (haz : a < z) : ∀ {r : List Link} {y p : Int} {s : Nat}, Chain (fun x => H x ∨ x = z) y r p s →
    ∃ r', Chain (fun x => H x ∨ x = a) y r' p s ∧ val y r' p s ≤ (z - a) + val y r p s ∧ top y r' ≤ top y r
  | [], y, p, s, h => ⟨[], h, by simp only [val]; omega, Int.le_refl _⟩
  | (h', b) :: r, y, p, s, ⟨h1, h2, h3, h4, h5⟩ => by
    by_cases hH : H h'
    · obtain ⟨r', g1, g2, g3⟩ := Chain.move haz h5
      exact ⟨(h', b) :: r', ⟨h1, h2, .inl hH, h4, g1⟩, by simp only [val]; omega, g3⟩
    · have hz : h' = z := h3.resolve_left hH
      have h6 : Chain H b r p (s - 1) := Chain.above (by omega) h5
      have h7 : Chain (fun x => H x ∨ x = a) b r p (s - 1) := h6.mono fun x hx => .inl hx
      by_cases hy : y < a
      · exact ⟨(a, b) :: r, ⟨hy, by omega, .inr rfl, h4, h7⟩, by simp only [val]; omega, Int.le_refl _⟩
      · have hd := val_drop (y := y) (b := b) (p := p) (r := r) (s := s) (by omega) h4 h7
        refine ⟨r, ?_, by simp only [val]; omega, ?_⟩
        · have := (h7.start (y := y) (by omega)).more
          rwa [show s - 1 + 1 = s by omega] at this
        · exact top_mono (by omega) r
theorem Chain.keep {A : Int → Prop} {h p : Int} (hp : h ≤ p) (hA : A h) : ∀ {r : List Link} {y : Int} {s : Nat}, Chain A y r p s → top y r < h → r.length < s →
    val y r (p + 1) s ≤ (p - h) + val y r p s ∨ ∃ r', Chain A y r' (p + 1) s ∧ val y r' (p + 1) s ≤ (p - h) + val y r p s ∧ top y r' < p + 1
  | [], y, s, hc, ht, hl => by
    have hc' : y < p := hc
    have ht' : y < h := ht
    simp only [List.length_nil] at hl
    by_cases c : ((Ch.rp (p + 1 - y).toNat (s + 1) : Nat) : Int) ≤ p - h
    · left
      have := tq_step (n := p + 1 - y) (c := s + 1) (by omega) (by omega)
      simp only [val]
      rw [this, show p + 1 - y - 1 = p - y by omega]
      omega
    · right
      have := tq_keep (q := h - y) (u := p - h) (c := s + 1) (by omega) (by omega) (by omega) (by rw [show h - y + (p - h) + 1 = p + 1 - y by omega]; omega)
      refine ⟨[(h, h)], ⟨ht', Int.le_refl _, hA, by omega, by show h < p + 1; omega⟩, ?_, by show h < p + 1; omega⟩
      simp only [val]
      rw [show s - 1 + 1 = s by omega, show p + 1 - h = p - h + 1 by omega]
      rw [Nat.add_sub_cancel, show h - y + (p - h) = p - y by omega] at this
      omega
  | (h', b) :: r, y, s, ⟨h1, h2, h3, h4, h5⟩, ht, hl => by
    simp only [List.length_cons] at hl
    rcases Chain.keep hp hA h5 ht (by omega) with g | ⟨r', g1, g2, g3⟩
    · left; simp only [val]; omega
    · right
      exact ⟨(h', b) :: r', ⟨h1, h2, h3, h4, g1⟩, by simp only [val]; omega, g3⟩
theorem Chain.srcs {A : Int → Prop} : ∀ {r : List Link} {y p : Int} {s : Nat}, Chain A y r p s → (y :: r.map (·.1)).Pairwise (· < ·) ∧ ∀ x ∈ r.map (·.1), A x ∧ y < x ∧ x ≤ top y r
  | [], y, p, s, h => ⟨by simp, fun x hx => by simp at hx⟩
  | (h', b) :: r, y, p, s, ⟨h1, h2, h3, h4, h5⟩ => by
    obtain ⟨g1, g2⟩ := Chain.srcs h5
    have hl := (Chain.lt h5).1
    rw [List.pairwise_cons] at g1
    refine ⟨?_, fun x hx => ?_⟩
    · rw [List.map_cons, List.pairwise_cons, List.pairwise_cons]
      refine ⟨fun x hx => ?_, fun x hx => ?_, g1.2⟩
      · rcases List.mem_cons.1 hx with rfl | hx
        · exact h1
        · have := (g2 x hx).2.1; show y < x; omega
      · have := (g2 x hx).2.1; show h' < x; omega
    · rw [List.map_cons] at hx
      rcases List.mem_cons.1 hx with rfl | hx
      · exact ⟨h3, h1, by show x ≤ top b r; omega⟩
      · obtain ⟨q1, q2, q3⟩ := g2 x hx
        exact ⟨q1, by omega, q3⟩
theorem asc_len : ∀ (l t : List Int), l.Pairwise (· < ·) → (∀ x ∈ l, x ∈ t) → l.length ≤ t.length
  | [], t, _, _ => Nat.zero_le _
  | x :: l, t, h, hs => by
    rw [List.pairwise_cons] at h
    have hx := hs x (by simp)
    have := asc_len l (t.erase x) h.2 fun z hz => by
      rw [List.mem_erase_of_ne (by have := h.1 z hz; omega)]
      exact hs z (List.mem_cons_of_mem _ hz)
    rw [List.length_erase_of_mem hx] at this
    have hp : 0 < t.length := List.length_pos_of_mem hx
    simp only [List.length_cons]
    omega
def Opt (S : Nat) (A : Int → Prop) (p x : Int) : Prop :=
  (p = 0 ∧ 0 ≤ x) ∨ (p = 1 ∧ A 0 ∧ 0 ≤ x) ∨
  (0 < p ∧ A 0 ∧ 1 ≤ S ∧ ∃ r, Chain A 0 r p (S - 1) ∧ val 0 r p (S - 1) ≤ x) ∨
  (2 ≤ p ∧ A 0 ∧ 1 ≤ S ∧ ∃ r h, Chain A 0 r (p - 1) (S - 1) ∧ top 0 r < h ∧ h ≤ p - 1 ∧ A h ∧ (p - 1 - h) + val 0 r (p - 1) (S - 1) ≤ x)
theorem Opt.mono {S : Nat} {A B : Int → Prop} {p x : Int} (hAB : ∀ x, A x → B x) (h : Opt S A p x) : Opt S B p x := by
  rcases h with h | ⟨h1, h2, h3⟩ | ⟨h1, h2, h3, r, h4, h5⟩ | ⟨h1, h2, h3, r, z, h4, h5, h6, h7, h8⟩
  · exact .inl h
  · exact .inr (.inl ⟨h1, hAB _ h2, h3⟩)
  · exact .inr (.inr (.inl ⟨h1, hAB _ h2, h3, r, h4.mono hAB, h5⟩))
  · exact .inr (.inr (.inr ⟨h1, hAB _ h2, h3, r, z, h4.mono hAB, h5, h6, hAB _ h7, h8⟩))
theorem Opt.advance {S : Nat} {H : Int → Prop} {a z p x : Int} (ha : 0 ≤ a) (haz : a < z) (h : Opt S (fun x => H x ∨ x = z) p x) : Opt S (fun x => H x ∨ x = a) p (x + (z - a)) := by
  have h0 : ∀ {P : Int → Prop}, (H 0 ∨ (0 : Int) = z) → H 0 ∨ (0 : Int) = a := fun h => .inl (h.resolve_right (by omega))
  rcases h with h | ⟨h1, h2, h3⟩ | ⟨h1, h2, h3, r, h4, h5⟩ | ⟨h1, h2, h3, r, y, h4, h5, h6, h7, h8⟩
  · exact .inl ⟨h.1, by omega⟩
  · exact .inr (.inl ⟨h1, h0 (P := H) h2, by omega⟩)
  · obtain ⟨r', g1, g2, _⟩ := h4.move haz
    exact .inr (.inr (.inl ⟨h1, h0 (P := H) h2, h3, r', g1, by omega⟩))
  · by_cases hH : H y
    · obtain ⟨r', g1, g2, g3⟩ := h4.move haz
      exact .inr (.inr (.inr ⟨h1, h0 (P := H) h2, h3, r', y, g1, by omega, h6, .inl hH, by omega⟩))
    · have hy : y = z := h7.resolve_left hH
      have g := (h4.below (by omega)).mono (B := fun x => H x ∨ x = a) fun x hx => .inl hx
      by_cases ht : top 0 r < a
      · exact .inr (.inr (.inr ⟨h1, h0 (P := H) h2, h3, r, a, g, ht, by omega, .inr rfl, by omega⟩))
      · have hv := val_last g
        rw [show p - 1 + 1 = p by omega] at hv
        exact .inr (.inr (.inl ⟨by omega, h0 (P := H) h2, h3, r, g.up (by have := g.lt; omega), by omega⟩))
theorem Opt.back {tags : List Int} {a p x : Int} (hp : 1 ≤ p) (ha : a = p - 1) (h : Opt tags.length (fun x => (0 ≤ x ∧ x ∈ tags) ∨ x = a) (p - 1) x) : Opt tags.length (fun x => (0 ≤ x ∧ x ∈ tags) ∨ x = a) p x := by
  subst ha
  rcases h with ⟨h1, h2⟩ | ⟨h1, h2, h3⟩ | ⟨h1, h2, h3, r, h4, h5⟩ | ⟨h1, h2, h3, r, y, h4, h5, h6, h7, h8⟩
  · exact .inr (.inl ⟨by omega, .inr (by omega), h2⟩)
  · have hS : 1 ≤ tags.length := by
      rcases h2 with h2 | h2
      · have := List.length_pos_of_mem h2.2; omega
      · omega
    refine .inr (.inr (.inr ⟨by omega, h2, hS, [], p - 1, by show (0 : Int) < p - 1; omega, by show (0 : Int) < p - 1; omega, Int.le_refl _, .inr rfl, ?_⟩))
    simp only [val]
    rw [show p - 1 - 0 = 1 by omega, tq_one]
    omega
  · exact .inr (.inr (.inr ⟨by omega, h2, h3, r, p - 1, h4, h4.lt.2, Int.le_refl _, .inr rfl, by omega⟩))
  · obtain ⟨g1, g2⟩ := h4.srcs
    have hroom : r.length < tags.length - 1 := by
      have := asc_len ((0 :: r.map (·.1)) ++ [y]) tags (by
        rw [List.pairwise_append]
        refine ⟨g1, by simp, fun u hu v hv => ?_⟩
        rw [List.mem_singleton] at hv
        subst hv
        rcases List.mem_cons.1 hu with rfl | hu
        · have := h4.lt.1; omega
        · have := (g2 u hu).2.2; omega) fun u hu => by
        have key : ∀ u, ((0 ≤ u ∧ u ∈ tags) ∨ u = p - 1) → u < p - 1 → u ∈ tags := fun u h1 h2 => (h1.resolve_right (by omega)).2
        rcases List.mem_append.1 hu with hu | hu
        · rcases List.mem_cons.1 hu with rfl | hu
          · exact key 0 h2 (by omega)
          · have := g2 u hu
            exact key u this.1 (by omega)
        · rw [List.mem_singleton] at hu
          subst hu
          exact key u h7 (by omega)
      simp only [List.length_append, List.length_cons, List.length_map, List.length_nil] at this
      omega
    rcases Chain.keep (h := y) (p := p - 1 - 1) h6 h7 h4 h5 hroom with g | ⟨r', k1, k2, k3⟩
    · rw [show p - 1 - 1 + 1 = p - 1 by omega] at g
      exact .inr (.inr (.inr ⟨by omega, h2, h3, r, p - 1, h4.up (by have := h4.lt; omega), by have := h4.lt; omega, Int.le_refl _, .inr rfl, by omega⟩))
    · rw [show p - 1 - 1 + 1 = p - 1 by omega] at k1 k2 k3
      exact .inr (.inr (.inr ⟨by omega, h2, h3, r', p - 1, k1, k3, Int.le_refl _, .inr rfl, by omega⟩))
def av (m : St) (x : Int) : Prop := (0 ≤ x ∧ x ∈ m.tags) ∨ x = m.at_
def pe (m : St) : Int := if m.pend < 0 then m.l else m.pend
theorem mem_of_set {l : List Int} {k : Nat} {v x : Int} (h : x ∈ l.set k v) : x ∈ l ∨ x = v := List.mem_or_eq_of_mem_set h
theorem step_opt {m : St} (hI : Mc.Inv m) {k n x : Int} (h : (Mc.step m k n).2 = 0) (hO : Opt m.tags.length (av (Mc.step m k n).1) (pe (Mc.step m k n).1) x) :
    Opt m.tags.length (av m) (pe m) (x + ((Mc.step m k n).1.tot - m.tot)) := by
  revert h hO
  unfold Mc.step
  by_cases h1 : Mc.right k n = false ∨ 7 < k
  · rw [if_pos h1]; intro h; simp at h
  rw [if_neg h1]
  have hr : Mc.right k n = true := by
    cases e : Mc.right k n
    · exact absurd (Or.inl e) h1
    · rfl
  by_cases c2 : 2 ≤ k ∧ k ≤ 4 ∧ (m.tags.length : Int) ≤ n
  · rw [if_pos c2]; intro h; simp at h
  rw [if_neg c2]
  by_cases e1 : k = 1
  · rw [if_pos e1]
    have hn := Mc.right_one hr e1
    split
    · intro h; simp at h
    · intro _ hO
      have := Opt.advance (H := fun x => 0 ≤ x ∧ x ∈ m.tags) (a := m.at_) (z := m.at_ + n) hI.a0 (by omega) hO
      have e : x + ((m.tot + n) - m.tot) = x + (m.at_ + n - m.at_) := by omega
      show Opt _ _ _ (x + ((m.tot + n) - m.tot))
      rw [e]
      exact this
  rw [if_neg e1]
  by_cases e2 : k = 2
  · rw [if_pos e2]
    split
    · intro h; simp at h
    · intro _ hO
      show Opt _ _ _ (x + (m.tot - m.tot))
      rw [Int.sub_self, Int.add_zero]
      refine hO.mono fun z hz => ?_
      rcases hz with ⟨z0, z1⟩ | rfl
      · rcases mem_of_set z1 with z2 | rfl
        · exact .inl ⟨z0, z2⟩
        · exact .inr rfl
      · exact .inr rfl
  rw [if_neg e2]
  by_cases e3 : k = 3
  · rw [if_pos e3]
    have hn := Mc.right_slot hr (by omega) (by omega)
    split
    · intro h; simp at h
    · rename_i ht
      intro _ hO
      show Opt _ _ _ (x + (m.tot - m.tot))
      rw [Int.sub_self, Int.add_zero]
      refine hO.mono fun z hz => ?_
      rcases hz with hz | hz
      · exact .inl hz
      · have hz' : z = m.tag n := hz
        refine .inl ⟨by omega, ?_⟩
        rw [hz']
        have hlt : n.toNat < m.tags.length := by omega
        show m.tags.getD n.toNat 0 ∈ m.tags
        rw [List.getD_eq_getElem?_getD, List.getElem?_eq_getElem hlt]
        exact List.getElem_mem hlt
  rw [if_neg e3]
  by_cases e4 : k = 4
  · rw [if_pos e4]
    split
    · intro h; simp at h
    · intro _ hO
      show Opt _ _ _ (x + (m.tot - m.tot))
      rw [Int.sub_self, Int.add_zero]
      refine hO.mono fun z hz => ?_
      rcases hz with ⟨z0, z1⟩ | rfl
      · rcases mem_of_set z1 with z2 | rfl
        · exact .inl ⟨z0, z2⟩
        · omega
      · exact .inr rfl
  rw [if_neg e4]
  have hbk : ∀ (p : Int), 1 ≤ p → m.at_ = p - 1 → pe m = p → Opt m.tags.length (av { m with pend := m.at_ }) (pe { m with pend := m.at_ }) x → Opt m.tags.length (av m) (pe m) (x + (m.tot - m.tot)) := fun p hp ha he hO => by
    rw [Int.sub_self, Int.add_zero, he]
    have e5 : pe { m with pend := m.at_ } = p - 1 := by
      unfold pe
      show (if m.at_ < 0 then m.l else m.at_) = _
      rw [if_neg (by omega)]; exact ha
    rw [e5] at hO
    exact Opt.back hp ha hO
  by_cases e5 : k = 5
  · rw [if_pos e5]
    unfold Mc.begin_
    split
    · intro h; simp at h
    · split
      · intro h; simp at h
      · rename_i q1 q2
        intro _ hO
        show Opt _ _ _ (x + (m.tot - m.tot))
        rw [Int.sub_self, Int.add_zero]
        have e6 : pe { m with pend := m.at_ } = pe m := by
          unfold pe
          show (if m.at_ < 0 then m.l else m.at_) = if m.pend < 0 then m.l else m.pend
          have := hI.a0
          rw [if_neg (by omega), if_pos (by omega)]
          omega
        rw [← e6]
        exact hO
  rw [if_neg e5]
  by_cases e6 : k = 6
  · rw [if_pos e6]
    unfold Mc.begin_
    split
    · intro h; simp at h
    · split
      · intro h; simp at h
      · rename_i q1 q2
        intro _ hO
        have := hI.a0
        exact hbk m.l (by omega) (by omega) (by unfold pe; rw [if_pos (by omega)]) hO
  rw [if_neg e6]
  unfold Mc.reverse
  split
  · intro h; simp at h
  · split
    · intro h; simp at h
    · rename_i q1 q2
      intro _ hO
      exact hbk m.pend (by omega) (by omega) (by unfold pe; rw [if_neg (by omega)]) hO
theorem does_opt : ∀ {L : List Mc.Act} {m m' : St}, Does m L m' → Mc.Inv m → m'.pend = 0 → Opt m.tags.length (av m) (pe m) (m'.tot - m.tot)
  | [], m, m', h, hI, hp => by
    cases h
    exact .inl ⟨by unfold pe; rw [if_neg (by omega)]; exact hp, by omega⟩
  | a :: L, m, m', ⟨h2, h3⟩, hI, hp => by
    have ih := does_opt h3 (hI.step _ _) hp
    rw [Mc.step_len] at ih
    have := step_opt hI h2 ih
    rwa [show m'.tot - (Mc.step m a.1 a.2).1.tot + ((Mc.step m a.1 a.2).1.tot - m.tot) = m'.tot - m.tot by omega] at this
theorem least {l : Int} {n : Nat} {L : List Mc.Act} {m' : St} (l0 : 0 ≤ l) (l1 : l < 65536) (hn : n ≤ 1048576) (h : Does (Mc.new l n) L m') (hp : m'.pend = 0) :
    (1 ≤ n → Ch.tt l.toNat n ≤ m'.tot) ∧ (n = 0 → l ≤ 1) ∧ 0 ≤ m'.tot := by
  have hO := does_opt h (Mc.new_inv l n l0 l1 hn) hp
  have e1 : pe (Mc.new l n) = l := rfl
  have e2 : (Mc.new l n).tags.length = n := by simp [Mc.new]
  have e3 : (Mc.new l n).tot = 0 := rfl
  have hA : ∀ x, av (Mc.new l n) x → x = 0 := fun x hx => by
    rcases hx with ⟨h0, h1⟩ | h1
    · obtain ⟨_, rfl⟩ := List.mem_replicate.1 h1; omega
    · exact h1
  rw [e1, e2, e3, Int.sub_zero] at hO
  rcases hO with ⟨h1, h2⟩ | ⟨h1, h2, h3⟩ | ⟨h1, h2, h3, r, h4, h5⟩ | ⟨h1, h2, h3, r, y, h4, h5, h6, h7, h8⟩
  · subst h1
    exact ⟨fun _ => by rw [show (0 : Int).toNat = 0 from rfl, Rv.tt_0]; exact h2, fun _ => by omega, h2⟩
  · subst h1
    exact ⟨fun _ => by rw [show (1 : Int).toNat = 1 from rfl, Rv.tt_1]; exact h3, fun _ => by omega, h3⟩
  · cases r with
    | nil =>
      simp only [val] at h5
      rw [Int.sub_zero, show n - 1 + 1 = n by omega] at h5
      have := tq_nn l h3
      exact ⟨fun _ => h5, fun h0 => by omega, by omega⟩
    | cons x r =>
      obtain ⟨h', b⟩ := x
      obtain ⟨q1, _, q3, _⟩ := h4
      have := hA h' q3
      omega
  · have := hA y h7
    have := h4.lt.1
    omega
end Lb
end Go.Proofs.YtphppbonljdibaaGreat
