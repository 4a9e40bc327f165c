/- The page's example of layer 32. -/
import Derived.Test.YtkdamcacmecnaaaS14
namespace Go.Proofs.Ytkdamcacmecnaaa
open Go.ChangeShapes Go.WideShapes Go.ChangeAt Go.RowKit
set_option linter.unusedVariables false

def two32 : List Mc.Act := [(2, 0), (1, 1), (6, 0), (3, 0), (7, 0)]
theorem two_ok : Mc.okTo (Mc.new 2 1) two32 5 := by
  intro j hj
  rcases (show j = 0 ∨ j = 1 ∨ j = 2 ∨ j = 3 ∨ j = 4 by omega) with rfl | rfl | rfl | rfl | rfl <;> decide +kernel
theorem of_two (W : World) (A : Option Addr) (c : Nat) (hA : Acts W A two32) :
    Calls Try.prog 16 #[.int .i64 2, .int .i64 1, .slice A 5 c] W fun e w' => ∃ most k0 k1 k2 k3 k4 k5 k6 k7 k8 k9 : Int, ∃ As cs, e = .returned (.tuple #[.agg #[.int .i64 1, .int .i64 1, .int .i64 most, .int .i64 k0, .int .i64 k1, .int .i64 k2, .int .i64 k3, .int .i64 k4, .int .i64 k5, .int .i64 k6, .int .i64 k7, .int .i64 k8, .int .i64 k9, .slice As 2 cs], .int .i64 5, .int .i64 0]) ∧ IW w' (.slice As 2 cs) [1, 0] ∧ KW W w' := by
  refine (pof_yes 2 1 2 A c two32 W (by decide) (by decide) rfl (by decide) (by decide) hA).mono fun e w' h => ?_
  obtain ⟨hk, h⟩ := h
  rcases h with ⟨_, s, he, hs⟩ | ⟨k, hkl, _, her, _⟩
  · have e1 : (Mc.up (Mc.new 2 1) two32 two32.length).tot = 1 := by decide +kernel
    have e2 : Mc.peak (Mc.new 2 1) two32 two32.length = 1 := by decide +kernel
    have e3 : ((List.range 2).map fun (i : Nat) => Mc.sp (Mc.new 2 1) two32 i two32.length) = [1, 0] := by decide +kernel
    rw [e1, e2] at he
    rw [e3] at hs
    obtain ⟨As, cs, rfl, hr⟩ := hs
    exact ⟨_, _, _, _, _, _, _, _, _, _, _, As, cs, he, ⟨As, cs, rfl, hr⟩, hk⟩
  · exact absurd (two_ok k hkl) her
theorem words_two (W : World) (A : Option Addr) (c : Nat) (hA : Acts W A two32) :
    Calls Try.prog 13 #[.int .i64 2, .int .i64 1, .slice A 5 c, .int .i64 10, .int .i64 2, .int .i64 5, .int .i64 7] W fun e w' => ∃ As cs, e = .returned (.tuple #[.slice As 5 cs, .int .i64 0]) ∧ IW w' (.slice As 5 cs) [12, 12, 24, 12, 17] ∧ KW W w' := by
  refine (pwords_yes 2 1 A c two32 10 2 5 7 W (by decide) (by decide) (by decide) (by decide) (by decide) hA).mono fun e w' h => ?_
  rcases h with ⟨_, h⟩ | ⟨k, hkl, _, her, _⟩
  · have e3 : (List.range two32.length).map (lw (Mc.new 2 1) two32 10 2 5 7) = [12, 12, 24, 12, 17] := by decide +kernel
    rw [e3] at h
    obtain ⟨⟨v, he, As, cs, hv, hr⟩, hk⟩ := h.some'
    subst hv
    exact ⟨As, cs, he, ⟨As, cs, rfl, hr⟩, hk⟩
  · exact absurd (two_ok k hkl) her
theorem iw_new (w : World) (l : List Int) (hl : l.length ≤ 100000) : IW (w.alloc (.cells (ints l).toArray 3)) (.slice (some ⟨w.heap.size, 0, none⟩) l.length l.length) l := by
  have h := Owns.new (w := w) (base := w.heap.size) (e := 3) (xs := ints l) (Nat.le_refl _) (by rw [ints_len]; exact hl)
  rw [ints_len] at h
  exact h.iw0
set_option maxRecDepth 100000 in
set_option maxHeartbeats 2000000 in
theorem goes32_any (w : World) : Calls Try.prog 12 #[] w fun e w' => e = .returned (.bool true) ∧ KW w w' := by
  have HA : Hid (Acts (w.alloc (.cells #[.int .i64 2, .int .i64 0, .int .i64 1, .int .i64 1, .int .i64 6, .int .i64 0, .int .i64 3, .int .i64 0, .int .i64 7, .int .i64 0] 55)) (some ⟨w.heap.size, 0, none⟩) two32) := acts_new w 55 two32
  have HO := hid (of_two _ _ 5 HA.out)
  have hk := (KW.refl w).alloc (.cells #[.int .i64 2, .int .i64 0, .int .i64 1, .int .i64 1, .int .i64 6, .int .i64 0, .int .i64 3, .int .i64 0, .int .i64 7, .int .i64 0] 55)
  have HK := hid hk
  clear hk
  go_enter Try.func12, Try.ntmps12
  go_wp2_with fail
  refine HO.out.mono ?_
  rintro e w2 ⟨most, k0, k1, k2, k3, k4, k5, k6, k7, k8, k9, As, cs, rfl, hi, hk2⟩
  have HI2 := hid hi
  have HK2 := hid (HK.out.t hk2)
  have HA2 := hid (HA.out.kw hk2)
  clear hi hk2 HO
  go_wp2_with fail
  refine (words_two _ _ 5 (HA2.out.kw ((KW.refl w2).alloc _))).mono ?_
  rintro e w3 ⟨Aw, cw, rfl, hi3, hk3⟩
  have HI3 := hid hi3
  have d0 := KW.cell (b := w2.heap.size) (o := 0) (v := .int .i64 1) hk3 (by simp) (by go_simp)
  have d1 := KW.cell (b := w2.heap.size) (o := 1) (v := .int .i64 1) hk3 (by simp) (by go_simp)
  have d13 := KW.cell (b := w2.heap.size) (o := 13) (v := .slice As 2 cs) hk3 (by simp) (by go_simp)
  have HI23 := hid (HI2.out.kw (((KW.refl w2).alloc _).t hk3))
  have HK3 := hid ((HK2.out.alloc (.cells #[.int .i64 1, .int .i64 1, .int .i64 most, .int .i64 k0, .int .i64 k1, .int .i64 k2, .int .i64 k3, .int .i64 k4, .int .i64 k5, .int .i64 k6, .int .i64 k7, .int .i64 k8, .int .i64 k9, .slice As 2 cs] 35)).t hk3)
  clear hi3 hk3
  have HN2 := hid (iw_new w3 [1, 0] (by simp))
  have HX := hid (ints07_any _ _ [1, 0] [1, 0] _ (HI23.out.kw ((KW.refl w3).alloc (.cells (ints [1, 0]).toArray 3))) HN2.out (by simp))
  go_wp2_with fail
  refine HX.out.mono ?_
  rintro e w4 ⟨rfl, hk4⟩
  have HK4 := hid ((HK3.out.alloc (.cells (ints [1, 0]).toArray 3)).t hk4)
  have HI4 := hid (HI3.out.kw (((KW.refl w3).alloc _).t hk4))
  have HN5 := hid (iw_new w4 [12, 12, 24, 12, 17] (by simp))
  have HY := hid (ints07_any _ _ [12, 12, 24, 12, 17] [12, 12, 24, 12, 17] _ (HI4.out.kw ((KW.refl w4).alloc (.cells (ints [12, 12, 24, 12, 17]).toArray 3))) HN5.out (by simp))
  clear hk4 d0 d1 d13
  go_wp2_with fail
  refine HY.out.mono ?_
  rintro e w5 ⟨rfl, hk5⟩
  have HK5 := hid ((HK4.out.alloc (.cells (ints [12, 12, 24, 12, 17]).toArray 3)).t hk5)
  clear hk5
  go_wp2_with fail
  go_ret
  exact ⟨by simp, HK5.out⟩
end Go.Proofs.Ytkdamcacmecnaaa
