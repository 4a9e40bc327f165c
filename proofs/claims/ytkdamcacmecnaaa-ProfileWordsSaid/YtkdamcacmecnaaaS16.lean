/- The walks of ProfileWords and ProfileTells. -/
import Derived.Test.YtkdamcacmecnaaaS15
namespace Go.Proofs.Ytkdamcacmecnaaa
open Go.ChangeShapes Go.WideShapes Go.ChangeAt Go.RowKit
set_option linter.unusedVariables false

theorem words_goes (l n : Int) (A : Option Addr) (N c : Nat) (a1 a2 a3 a4 : Int) (w : World) (h : (300 < n ∧ n ≤ 1048576) ∨ 300 < N) :
    Calls Try.prog 3 #[.int .i64 l, .int .i64 n, .slice A N c, .agg #[.int .i64 a1, .int .i64 a2, .int .i64 a3, .int .i64 a4]] w fun e w' => e = .returned (.bool true) ∧ KW w w' := by
  have hk := (KW.refl w).alloc (.cells #[.int .i64 a1, .int .i64 a2, .int .i64 a3, .int .i64 a4] 23)
  by_cases h1 : 300 < n ∧ n ≤ 1048576
  · obtain ⟨a1, a2⟩ := h1
    clear h
    go_enter Try.func3, Try.ntmps3
    go_wp2_with (go_at_call 12; refine (goes32_any _).mono ?_; rintro e w1 ⟨rfl, hb⟩; replace hk := hk.t hb; clear hb)
    go_ret
    exact ⟨rfl, hk⟩
  have d : (300 : Int) < (N : Int) := by omega
  by_cases h3 : 300 < n
  · have d3 : decide (n ≤ 1048576) = false := decide_eq_false (by omega)
    clear h1 h
    go_enter Try.func3, Try.ntmps3
    go_wp2_with (go_at_call 12; refine (goes32_any _).mono ?_; rintro e w1 ⟨rfl, hb⟩; replace hk := hk.t hb; clear hb)
    go_ret
    exact ⟨rfl, hk⟩
  · have d3 : decide (300 < n) = false := decide_eq_false h3
    clear h1 h
    go_enter Try.func3, Try.ntmps3
    go_wp2_with (go_at_call 12; refine (goes32_any _).mono ?_; rintro e w1 ⟨rfl, hb⟩; replace hk := hk.t hb; clear hb)
    go_ret
    exact ⟨rfl, hk⟩

set_option maxRecDepth 100000 in
set_option maxHeartbeats 1000000 in
theorem words_main (l n : Int) (A : Option Addr) (c : Nat) (list : List Mc.Act) (a1 a2 a3 a4 : Int) (w : World) (h : ¬ (300 < n ∧ n ≤ 1048576)) (hlen : ¬ 300 < list.length) (hA : Acts w A list) :
    Calls Try.prog 3 #[.int .i64 l, .int .i64 n, .slice A list.length c, .agg #[.int .i64 a1, .int .i64 a2, .int .i64 a3, .int .i64 a4]] w fun e w' => e = .returned (.bool true) ∧ KW w w' := by
  obtain ⟨xs, er, hxs, hp, hr⟩ := words_both l n a1 a2 a3 a4 list (by omega)
  have HP := hid hp
  have HR := hid hr
  have HXS := hid hxs
  have HA0 := hid hA
  unfold TellsL at HP HR
  have hk := (KW.refl w).alloc (.cells #[.int .i64 a1, .int .i64 a2, .int .i64 a3, .int .i64 a4] 23)
  have HK := hid hk
  have d : decide ((300 : Int) < (list.length : Int)) = false := decide_eq_false (by omega)
  clear hp hr hxs hA hk
  have HP1 := hid (fun W (h : KW w W) => HP.out W A c (HA0.out.kw h))
  have HR1 := hid (fun W (h : KW w W) => HR.out W A c (HA0.out.kw h))
  clear HP HR HA0
  generalize list.length = N at *
  have hc : Hid (300 < n ∧ 1048576 < n) ∨ Hid (¬ 300 < n) := by
    by_cases h3 : 300 < n
    · exact .inl ⟨h3, by omega⟩
    · exact .inr h3
  rcases hc with hc | hc
  · have q1 := hc.out.1
    have q2 : decide (n ≤ 1048576) = false := decide_eq_false (by have := hc.out.2; omega)
    clear h hlen
    go_enter Try.func3, Try.ntmps3
    go_wp2_with fail
    refine (HP1.out _ HK.out).mono ?_
    rintro e w1 ⟨⟨v1, rfl, hv1⟩, hk1⟩
    have HV1 := hid hv1
    have HK1 := hid (HK.out.t hk1)
    have c0 := KW.cell (b := w.heap.size) (o := 0) (v := .int .i64 a1) hk1 (by simp) (by go_simp)
    have c1 := KW.cell (b := w.heap.size) (o := 1) (v := .int .i64 a2) hk1 (by simp) (by go_simp)
    have c2 := KW.cell (b := w.heap.size) (o := 2) (v := .int .i64 a3) hk1 (by simp) (by go_simp)
    have c3 := KW.cell (b := w.heap.size) (o := 3) (v := .int .i64 a4) hk1 (by simp) (by go_simp)
    clear hv1 hk1
    go_wp2_with fail
    refine (HR1.out _ HK1.out).mono ?_
    rintro e w2 ⟨⟨v2, rfl, hv2⟩, hk2⟩
    have HV2 := hid hv2
    have HK2 := hid (HK1.out.t hk2)
    have HV1' := hid (HV1.out.kw hk2)
    have HX := hid (ints07_any v1 v2 xs xs w2 HV1'.out HV2.out (by have := HXS.out; omega))
    rw [show decide (xs = xs) = true from by simp] at HX
    clear hv2 hk2 c0 c1 c2 c3
    go_wp2_with fail
    refine HX.out.mono ?_
    rintro e w3 ⟨rfl, hk3⟩
    have hk := HK2.out.t hk3
    clear hk3
    go_wp2_with (go_at_call 12; refine (goes32_any _).mono ?_; rintro e w1 ⟨rfl, hb⟩; replace hk := hk.t hb; clear hb)
    go_ret
    exact ⟨rfl, hk⟩
  · have q1 : decide (300 < n) = false := decide_eq_false hc.out
    clear h hlen
    go_enter Try.func3, Try.ntmps3
    go_wp2_with fail
    refine (HP1.out _ HK.out).mono ?_
    rintro e w1 ⟨⟨v1, rfl, hv1⟩, hk1⟩
    have HV1 := hid hv1
    have HK1 := hid (HK.out.t hk1)
    have c0 := KW.cell (b := w.heap.size) (o := 0) (v := .int .i64 a1) hk1 (by simp) (by go_simp)
    have c1 := KW.cell (b := w.heap.size) (o := 1) (v := .int .i64 a2) hk1 (by simp) (by go_simp)
    have c2 := KW.cell (b := w.heap.size) (o := 2) (v := .int .i64 a3) hk1 (by simp) (by go_simp)
    have c3 := KW.cell (b := w.heap.size) (o := 3) (v := .int .i64 a4) hk1 (by simp) (by go_simp)
    clear hv1 hk1
    go_wp2_with fail
    refine (HR1.out _ HK1.out).mono ?_
    rintro e w2 ⟨⟨v2, rfl, hv2⟩, hk2⟩
    have HV2 := hid hv2
    have HK2 := hid (HK1.out.t hk2)
    have HV1' := hid (HV1.out.kw hk2)
    have HX := hid (ints07_any v1 v2 xs xs w2 HV1'.out HV2.out (by have := HXS.out; omega))
    rw [show decide (xs = xs) = true from by simp] at HX
    clear hv2 hk2 c0 c1 c2 c3
    go_wp2_with fail
    refine HX.out.mono ?_
    rintro e w3 ⟨rfl, hk3⟩
    have hk := HK2.out.t hk3
    clear hk3
    go_wp2_with (go_at_call 12; refine (goes32_any _).mono ?_; rintro e w1 ⟨rfl, hb⟩; replace hk := hk.t hb; clear hb)
    go_ret
    exact ⟨rfl, hk⟩

theorem words32_law (l n : Int) (A : Option Addr) (c : Nat) (list : List Mc.Act) (a1 a2 a3 a4 : Int) (w : World) (_ : -9223372036854775808 ≤ l) (_ : l ≤ 9223372036854775807) (_ : -9223372036854775808 ≤ n) (_ : n ≤ 9223372036854775807)
    (_ : ∀ a ∈ list, (-9223372036854775808 ≤ a.1 ∧ a.1 ≤ 9223372036854775807) ∧ -9223372036854775808 ≤ a.2 ∧ a.2 ≤ 9223372036854775807) (hA : Acts w A list) (_ : -9223372036854775808 ≤ a1) (_ : a1 ≤ 9223372036854775807) (_ : -9223372036854775808 ≤ a2) (_ : a2 ≤ 9223372036854775807) (_ : -9223372036854775808 ≤ a3) (_ : a3 ≤ 9223372036854775807) (_ : -9223372036854775808 ≤ a4) (_ : a4 ≤ 9223372036854775807) :
    Calls Try.prog 3 #[.int .i64 l, .int .i64 n, .slice A list.length c, .agg #[.int .i64 a1, .int .i64 a2, .int .i64 a3, .int .i64 a4]] w fun e w' => e = .returned (.bool true) ∧ KW w w' := by
  by_cases h : (300 < n ∧ n ≤ 1048576) ∨ 300 < list.length
  · exact words_goes l n A list.length c a1 a2 a3 a4 w h
  · exact words_main l n A c list a1 a2 a3 a4 w (fun h1 => h (.inl h1)) (fun h1 => h (.inr h1)) hA

theorem tells_goes (l n : Int) (A : Option Addr) (N c : Nat) (w : World) (h : (300 < n ∧ n ≤ 1048576) ∨ 300 < N ∨ (3000 < l ∧ l < 65536)) :
    Calls Try.prog 4 #[.int .i64 l, .int .i64 n, .slice A N c] w fun e w' => e = .returned (.bool true) ∧ KW w w' := by
  have hk := KW.refl w
  by_cases h1 : 300 < n ∧ n ≤ 1048576
  · obtain ⟨a1, a2⟩ := h1
    clear h
    go_enter Try.func4, Try.ntmps4
    go_wp2_with (go_at_call 12; refine (goes32_any _).mono ?_; rintro e w1 ⟨rfl, hb⟩; replace hk := hk.t hb; clear hb)
    go_ret
    exact ⟨rfl, hk⟩
  have hc : Hid (300 < n ∧ 1048576 < n) ∨ Hid (¬ 300 < n) := by
    by_cases h3 : 300 < n
    · exact .inl ⟨h3, by omega⟩
    · exact .inr h3
  by_cases h4 : (300 : Int) < (N : Int)
  · clear h h1
    rcases hc with hc | hc
    · have d3 := hc.out.1
      have d3' : decide (n ≤ 1048576) = false := decide_eq_false (by have := hc.out.2; omega)
      go_enter Try.func4, Try.ntmps4
      go_wp2_with (go_at_call 12; refine (goes32_any _).mono ?_; rintro e w1 ⟨rfl, hb⟩; replace hk := hk.t hb; clear hb)
      go_ret
      exact ⟨rfl, hk⟩
    · have d3 : decide (300 < n) = false := decide_eq_false hc.out
      go_enter Try.func4, Try.ntmps4
      go_wp2_with (go_at_call 12; refine (goes32_any _).mono ?_; rintro e w1 ⟨rfl, hb⟩; replace hk := hk.t hb; clear hb)
      go_ret
      exact ⟨rfl, hk⟩
  have d4 : decide ((300 : Int) < (N : Int)) = false := decide_eq_false h4
  have d5 : 3000 < l := by omega
  have d6 : l < 65536 := by omega
  clear h h1 h4
  rcases hc with hc | hc
  · have d3 := hc.out.1
    have d3' : decide (n ≤ 1048576) = false := decide_eq_false (by have := hc.out.2; omega)
    go_enter Try.func4, Try.ntmps4
    go_wp2_with (go_at_call 12; refine (goes32_any _).mono ?_; rintro e w1 ⟨rfl, hb⟩; replace hk := hk.t hb; clear hb)
    go_ret
    exact ⟨rfl, hk⟩
  · have d3 : decide (300 < n) = false := decide_eq_false hc.out
    go_enter Try.func4, Try.ntmps4
    go_wp2_with (go_at_call 12; refine (goes32_any _).mono ?_; rintro e w1 ⟨rfl, hb⟩; replace hk := hk.t hb; clear hb)
    go_ret
    exact ⟨rfl, hk⟩

theorem lt_of_some {w : World} {b : Nat} {o : Obj} (h : w.heap[b]? = some o) : b < w.heap.size := (Array.getElem?_eq_some_iff.1 h).1
theorem KW.block {w W : World} {b : Nat} {o : Obj} (h : KW w W) (hlt : b < w.heap.size) (c : w.heap[b]? = some o) : W.heap[b]? = some o := (Below.block h b hlt).trans c

set_option maxRecDepth 100000 in
set_option maxHeartbeats 2000000 in
theorem tells_main11 (l n : Int) (A : Option Addr) (c : Nat) (list : List Mc.Act) (w : World) (hc : Hid (300 < n ∧ 1048576 < n)) (hl : Hid (3000 < l ∧ 65536 ≤ l)) (hlen : ¬ 300 < list.length) (hA : Acts w A list) :
    Calls Try.prog 4 #[.int .i64 l, .int .i64 n, .slice A list.length c] w fun e w' => e = .returned (.bool true) ∧ KW w w' := by
  obtain ⟨tot, pk, most, k0, k1, k2, k3, k4, k5, k6, k7, k8, k9, st, at_, er, hst, hp, hr⟩ := of_both l n list (by omega)
  obtain ⟨xs, er2, hxs, hp2, hr2⟩ := held_both l n list (by omega)
  unfold TellsOf at hp hr
  unfold TellsL at hp2 hr2
  have HP := hid (fun W (h : KW w W) => hp W A c (hA.kw h))
  have HR := hid (fun W (h : KW w W) => hr W A c (hA.kw h))
  have HP2 := hid (fun W (h : KW w W) => hp2 W A c (hA.kw h))
  have HR2 := hid (fun W (h : KW w W) => hr2 W A c (hA.kw h))
  have HST := hid hst
  have HXS := hid hxs
  have d : decide ((300 : Int) < (list.length : Int)) = false := decide_eq_false (by omega)
  clear hp hr hp2 hr2 hst hxs hA hlen
  generalize list.length = N at *
  · have q1 := hc.out.1
    have q2 : decide (n ≤ 1048576) = false := decide_eq_false (by have := hc.out.2; omega)
    have r1 := hl.out.1
    have r2 : decide (l < 65536) = false := decide_eq_false (by have := hl.out.2; omega)
    go_enter Try.func4, Try.ntmps4
    go_wp2_with fail
    refine (HP.out _ (KW.refl w)).mono ?_
    rintro e w1 ⟨⟨v1, rfl, hv1⟩, hk1⟩
    have HV1 := hid hv1
    obtain ⟨As, cs, hvs, _⟩ := hv1
    subst hvs
    have HK1 := hid hk1
    clear hk1
    go_wp2_with fail
    refine (HR.out _ (HK1.out.alloc _)).mono ?_
    rintro e w2 ⟨⟨v2, rfl, hv2⟩, hk2⟩
    have HV2 := hid hv2
    obtain ⟨Ar, cr, hvr, _⟩ := hv2
    subst hvr
    have HQ2 : Hid (KW w1 w2) := ((KW.refl w1).alloc _).t hk2
    have HK2 := hid (HK1.out.t HQ2.out)
    have h7 := KW.block hk2 (by simp) (heap_alloc_new w1 _)
    have HB7 := hid h7
    clear hk2 h7
    go_wp2_with fail
    refine (HP2.out _ (HK2.out.alloc _)).mono ?_
    rintro e w3 ⟨⟨v3, rfl, hv3⟩, hk3⟩
    have HV3 := hid hv3
    have HQ3 : Hid (KW w2 w3) := ((KW.refl w2).alloc _).t hk3
    have HK3 := hid (HK2.out.t HQ3.out)
    have HB73 := hid (KW.block HQ3.out (lt_of_some HB7.out) HB7.out)
    have h10 := KW.block hk3 (by simp) (heap_alloc_new w2 _)
    have HB10 := hid h10
    clear hk3 hv3 h10
    go_wp2_with fail
    refine (HR2.out _ HK3.out).mono ?_
    rintro e w4 ⟨⟨v4, rfl, hv4⟩, hk4⟩
    have HV4 := hid hv4
    have HQ4 : Hid (KW w3 w4) := hk4
    have HK4 := hid (HK3.out.t hk4)
    have HB74 := hid (KW.block HQ4.out (lt_of_some HB73.out) HB73.out)
    have HB104 := hid (KW.block HQ4.out (lt_of_some HB10.out) HB10.out)
    have HV34 := hid (HV3.out.kw hk4)
    have HV14 := hid (((HV1.out.kw HQ2.out).kw HQ3.out).kw HQ4.out)
    have HV24 := hid ((HV2.out.kw HQ3.out).kw HQ4.out)
    have HS := hid (rsame32_any tot pk most k0 k1 k2 k3 k4 k5 k6 k7 k8 k9 _ _ st w4 HST.out HV14.out HV24.out)
    have HX := hid (fun W (h : KW w4 W) => ints07_any v3 v4 xs xs W (HV34.out.kw h) (HV4.out.kw h) (by have := HXS.out; omega))
    rw [show decide (xs = xs) = true from by simp] at HX
    clear hk4 hv4
    go_wp2_with (first
      | (refine wpList_load_row rfl 35 _ rfl w1.heap.size rfl 35 _ (0, 0) _ HB74.out Try.underlying35 rfl (by kernel_rfl) ?_)
      | (refine wpList_load_row rfl 35 _ rfl w2.heap.size rfl 35 _ (0, 0) _ HB104.out Try.underlying35 rfl (by kernel_rfl) ?_))
    refine HS.out.mono ?_
    rintro e w5 ⟨rfl, hk5⟩
    have HK5 := hid hk5
    clear hk5
    go_wp2_with fail
    refine (HX.out _ HK5.out).mono ?_
    rintro e w6 ⟨rfl, hk6⟩
    have hk := HK4.out.t (HK5.out.t hk6)
    clear hk6
    go_wp2_with (go_at_call 12; refine (goes32_any _).mono ?_; rintro e w1 ⟨rfl, hb⟩; replace hk := hk.t hb; clear hb)
    go_ret
    exact ⟨rfl, hk⟩

set_option maxRecDepth 100000 in
set_option maxHeartbeats 2000000 in
theorem tells_main10 (l n : Int) (A : Option Addr) (c : Nat) (list : List Mc.Act) (w : World) (hc : Hid (300 < n ∧ 1048576 < n)) (hl : Hid (¬ 3000 < l)) (hlen : ¬ 300 < list.length) (hA : Acts w A list) :
    Calls Try.prog 4 #[.int .i64 l, .int .i64 n, .slice A list.length c] w fun e w' => e = .returned (.bool true) ∧ KW w w' := by
  obtain ⟨tot, pk, most, k0, k1, k2, k3, k4, k5, k6, k7, k8, k9, st, at_, er, hst, hp, hr⟩ := of_both l n list (by omega)
  obtain ⟨xs, er2, hxs, hp2, hr2⟩ := held_both l n list (by omega)
  unfold TellsOf at hp hr
  unfold TellsL at hp2 hr2
  have HP := hid (fun W (h : KW w W) => hp W A c (hA.kw h))
  have HR := hid (fun W (h : KW w W) => hr W A c (hA.kw h))
  have HP2 := hid (fun W (h : KW w W) => hp2 W A c (hA.kw h))
  have HR2 := hid (fun W (h : KW w W) => hr2 W A c (hA.kw h))
  have HST := hid hst
  have HXS := hid hxs
  have d : decide ((300 : Int) < (list.length : Int)) = false := decide_eq_false (by omega)
  clear hp hr hp2 hr2 hst hxs hA hlen
  generalize list.length = N at *
  · have q1 := hc.out.1
    have q2 : decide (n ≤ 1048576) = false := decide_eq_false (by have := hc.out.2; omega)
    have r1 : decide (3000 < l) = false := decide_eq_false hl.out
    go_enter Try.func4, Try.ntmps4
    go_wp2_with fail
    refine (HP.out _ (KW.refl w)).mono ?_
    rintro e w1 ⟨⟨v1, rfl, hv1⟩, hk1⟩
    have HV1 := hid hv1
    obtain ⟨As, cs, hvs, _⟩ := hv1
    subst hvs
    have HK1 := hid hk1
    clear hk1
    go_wp2_with fail
    refine (HR.out _ (HK1.out.alloc _)).mono ?_
    rintro e w2 ⟨⟨v2, rfl, hv2⟩, hk2⟩
    have HV2 := hid hv2
    obtain ⟨Ar, cr, hvr, _⟩ := hv2
    subst hvr
    have HQ2 : Hid (KW w1 w2) := ((KW.refl w1).alloc _).t hk2
    have HK2 := hid (HK1.out.t HQ2.out)
    have h7 := KW.block hk2 (by simp) (heap_alloc_new w1 _)
    have HB7 := hid h7
    clear hk2 h7
    go_wp2_with fail
    refine (HP2.out _ (HK2.out.alloc _)).mono ?_
    rintro e w3 ⟨⟨v3, rfl, hv3⟩, hk3⟩
    have HV3 := hid hv3
    have HQ3 : Hid (KW w2 w3) := ((KW.refl w2).alloc _).t hk3
    have HK3 := hid (HK2.out.t HQ3.out)
    have HB73 := hid (KW.block HQ3.out (lt_of_some HB7.out) HB7.out)
    have h10 := KW.block hk3 (by simp) (heap_alloc_new w2 _)
    have HB10 := hid h10
    clear hk3 hv3 h10
    go_wp2_with fail
    refine (HR2.out _ HK3.out).mono ?_
    rintro e w4 ⟨⟨v4, rfl, hv4⟩, hk4⟩
    have HV4 := hid hv4
    have HQ4 : Hid (KW w3 w4) := hk4
    have HK4 := hid (HK3.out.t hk4)
    have HB74 := hid (KW.block HQ4.out (lt_of_some HB73.out) HB73.out)
    have HB104 := hid (KW.block HQ4.out (lt_of_some HB10.out) HB10.out)
    have HV34 := hid (HV3.out.kw hk4)
    have HV14 := hid (((HV1.out.kw HQ2.out).kw HQ3.out).kw HQ4.out)
    have HV24 := hid ((HV2.out.kw HQ3.out).kw HQ4.out)
    have HS := hid (rsame32_any tot pk most k0 k1 k2 k3 k4 k5 k6 k7 k8 k9 _ _ st w4 HST.out HV14.out HV24.out)
    have HX := hid (fun W (h : KW w4 W) => ints07_any v3 v4 xs xs W (HV34.out.kw h) (HV4.out.kw h) (by have := HXS.out; omega))
    rw [show decide (xs = xs) = true from by simp] at HX
    clear hk4 hv4
    go_wp2_with (first
      | (refine wpList_load_row rfl 35 _ rfl w1.heap.size rfl 35 _ (0, 0) _ HB74.out Try.underlying35 rfl (by kernel_rfl) ?_)
      | (refine wpList_load_row rfl 35 _ rfl w2.heap.size rfl 35 _ (0, 0) _ HB104.out Try.underlying35 rfl (by kernel_rfl) ?_))
    refine HS.out.mono ?_
    rintro e w5 ⟨rfl, hk5⟩
    have HK5 := hid hk5
    clear hk5
    go_wp2_with fail
    refine (HX.out _ HK5.out).mono ?_
    rintro e w6 ⟨rfl, hk6⟩
    have hk := HK4.out.t (HK5.out.t hk6)
    clear hk6
    go_wp2_with (go_at_call 12; refine (goes32_any _).mono ?_; rintro e w1 ⟨rfl, hb⟩; replace hk := hk.t hb; clear hb)
    go_ret
    exact ⟨rfl, hk⟩

set_option maxRecDepth 100000 in
set_option maxHeartbeats 2000000 in
theorem tells_main01 (l n : Int) (A : Option Addr) (c : Nat) (list : List Mc.Act) (w : World) (hc : Hid (¬ 300 < n)) (hl : Hid (3000 < l ∧ 65536 ≤ l)) (hlen : ¬ 300 < list.length) (hA : Acts w A list) :
    Calls Try.prog 4 #[.int .i64 l, .int .i64 n, .slice A list.length c] w fun e w' => e = .returned (.bool true) ∧ KW w w' := by
  obtain ⟨tot, pk, most, k0, k1, k2, k3, k4, k5, k6, k7, k8, k9, st, at_, er, hst, hp, hr⟩ := of_both l n list (by omega)
  obtain ⟨xs, er2, hxs, hp2, hr2⟩ := held_both l n list (by omega)
  unfold TellsOf at hp hr
  unfold TellsL at hp2 hr2
  have HP := hid (fun W (h : KW w W) => hp W A c (hA.kw h))
  have HR := hid (fun W (h : KW w W) => hr W A c (hA.kw h))
  have HP2 := hid (fun W (h : KW w W) => hp2 W A c (hA.kw h))
  have HR2 := hid (fun W (h : KW w W) => hr2 W A c (hA.kw h))
  have HST := hid hst
  have HXS := hid hxs
  have d : decide ((300 : Int) < (list.length : Int)) = false := decide_eq_false (by omega)
  clear hp hr hp2 hr2 hst hxs hA hlen
  generalize list.length = N at *
  · have q1 : decide (300 < n) = false := decide_eq_false hc.out
    have r1 := hl.out.1
    have r2 : decide (l < 65536) = false := decide_eq_false (by have := hl.out.2; omega)
    go_enter Try.func4, Try.ntmps4
    go_wp2_with fail
    refine (HP.out _ (KW.refl w)).mono ?_
    rintro e w1 ⟨⟨v1, rfl, hv1⟩, hk1⟩
    have HV1 := hid hv1
    obtain ⟨As, cs, hvs, _⟩ := hv1
    subst hvs
    have HK1 := hid hk1
    clear hk1
    go_wp2_with fail
    refine (HR.out _ (HK1.out.alloc _)).mono ?_
    rintro e w2 ⟨⟨v2, rfl, hv2⟩, hk2⟩
    have HV2 := hid hv2
    obtain ⟨Ar, cr, hvr, _⟩ := hv2
    subst hvr
    have HQ2 : Hid (KW w1 w2) := ((KW.refl w1).alloc _).t hk2
    have HK2 := hid (HK1.out.t HQ2.out)
    have h7 := KW.block hk2 (by simp) (heap_alloc_new w1 _)
    have HB7 := hid h7
    clear hk2 h7
    go_wp2_with fail
    refine (HP2.out _ (HK2.out.alloc _)).mono ?_
    rintro e w3 ⟨⟨v3, rfl, hv3⟩, hk3⟩
    have HV3 := hid hv3
    have HQ3 : Hid (KW w2 w3) := ((KW.refl w2).alloc _).t hk3
    have HK3 := hid (HK2.out.t HQ3.out)
    have HB73 := hid (KW.block HQ3.out (lt_of_some HB7.out) HB7.out)
    have h10 := KW.block hk3 (by simp) (heap_alloc_new w2 _)
    have HB10 := hid h10
    clear hk3 hv3 h10
    go_wp2_with fail
    refine (HR2.out _ HK3.out).mono ?_
    rintro e w4 ⟨⟨v4, rfl, hv4⟩, hk4⟩
    have HV4 := hid hv4
    have HQ4 : Hid (KW w3 w4) := hk4
    have HK4 := hid (HK3.out.t hk4)
    have HB74 := hid (KW.block HQ4.out (lt_of_some HB73.out) HB73.out)
    have HB104 := hid (KW.block HQ4.out (lt_of_some HB10.out) HB10.out)
    have HV34 := hid (HV3.out.kw hk4)
    have HV14 := hid (((HV1.out.kw HQ2.out).kw HQ3.out).kw HQ4.out)
    have HV24 := hid ((HV2.out.kw HQ3.out).kw HQ4.out)
    have HS := hid (rsame32_any tot pk most k0 k1 k2 k3 k4 k5 k6 k7 k8 k9 _ _ st w4 HST.out HV14.out HV24.out)
    have HX := hid (fun W (h : KW w4 W) => ints07_any v3 v4 xs xs W (HV34.out.kw h) (HV4.out.kw h) (by have := HXS.out; omega))
    rw [show decide (xs = xs) = true from by simp] at HX
    clear hk4 hv4
    go_wp2_with (first
      | (refine wpList_load_row rfl 35 _ rfl w1.heap.size rfl 35 _ (0, 0) _ HB74.out Try.underlying35 rfl (by kernel_rfl) ?_)
      | (refine wpList_load_row rfl 35 _ rfl w2.heap.size rfl 35 _ (0, 0) _ HB104.out Try.underlying35 rfl (by kernel_rfl) ?_))
    refine HS.out.mono ?_
    rintro e w5 ⟨rfl, hk5⟩
    have HK5 := hid hk5
    clear hk5
    go_wp2_with fail
    refine (HX.out _ HK5.out).mono ?_
    rintro e w6 ⟨rfl, hk6⟩
    have hk := HK4.out.t (HK5.out.t hk6)
    clear hk6
    go_wp2_with (go_at_call 12; refine (goes32_any _).mono ?_; rintro e w1 ⟨rfl, hb⟩; replace hk := hk.t hb; clear hb)
    go_ret
    exact ⟨rfl, hk⟩

set_option maxRecDepth 100000 in
set_option maxHeartbeats 2000000 in
theorem tells_main00 (l n : Int) (A : Option Addr) (c : Nat) (list : List Mc.Act) (w : World) (hc : Hid (¬ 300 < n)) (hl : Hid (¬ 3000 < l)) (hlen : ¬ 300 < list.length) (hA : Acts w A list) :
    Calls Try.prog 4 #[.int .i64 l, .int .i64 n, .slice A list.length c] w fun e w' => e = .returned (.bool true) ∧ KW w w' := by
  obtain ⟨tot, pk, most, k0, k1, k2, k3, k4, k5, k6, k7, k8, k9, st, at_, er, hst, hp, hr⟩ := of_both l n list (by omega)
  obtain ⟨xs, er2, hxs, hp2, hr2⟩ := held_both l n list (by omega)
  unfold TellsOf at hp hr
  unfold TellsL at hp2 hr2
  have HP := hid (fun W (h : KW w W) => hp W A c (hA.kw h))
  have HR := hid (fun W (h : KW w W) => hr W A c (hA.kw h))
  have HP2 := hid (fun W (h : KW w W) => hp2 W A c (hA.kw h))
  have HR2 := hid (fun W (h : KW w W) => hr2 W A c (hA.kw h))
  have HST := hid hst
  have HXS := hid hxs
  have d : decide ((300 : Int) < (list.length : Int)) = false := decide_eq_false (by omega)
  clear hp hr hp2 hr2 hst hxs hA hlen
  generalize list.length = N at *
  · have q1 : decide (300 < n) = false := decide_eq_false hc.out
    have r1 : decide (3000 < l) = false := decide_eq_false hl.out
    go_enter Try.func4, Try.ntmps4
    go_wp2_with fail
    refine (HP.out _ (KW.refl w)).mono ?_
    rintro e w1 ⟨⟨v1, rfl, hv1⟩, hk1⟩
    have HV1 := hid hv1
    obtain ⟨As, cs, hvs, _⟩ := hv1
    subst hvs
    have HK1 := hid hk1
    clear hk1
    go_wp2_with fail
    refine (HR.out _ (HK1.out.alloc _)).mono ?_
    rintro e w2 ⟨⟨v2, rfl, hv2⟩, hk2⟩
    have HV2 := hid hv2
    obtain ⟨Ar, cr, hvr, _⟩ := hv2
    subst hvr
    have HQ2 : Hid (KW w1 w2) := ((KW.refl w1).alloc _).t hk2
    have HK2 := hid (HK1.out.t HQ2.out)
    have h7 := KW.block hk2 (by simp) (heap_alloc_new w1 _)
    have HB7 := hid h7
    clear hk2 h7
    go_wp2_with fail
    refine (HP2.out _ (HK2.out.alloc _)).mono ?_
    rintro e w3 ⟨⟨v3, rfl, hv3⟩, hk3⟩
    have HV3 := hid hv3
    have HQ3 : Hid (KW w2 w3) := ((KW.refl w2).alloc _).t hk3
    have HK3 := hid (HK2.out.t HQ3.out)
    have HB73 := hid (KW.block HQ3.out (lt_of_some HB7.out) HB7.out)
    have h10 := KW.block hk3 (by simp) (heap_alloc_new w2 _)
    have HB10 := hid h10
    clear hk3 hv3 h10
    go_wp2_with fail
    refine (HR2.out _ HK3.out).mono ?_
    rintro e w4 ⟨⟨v4, rfl, hv4⟩, hk4⟩
    have HV4 := hid hv4
    have HQ4 : Hid (KW w3 w4) := hk4
    have HK4 := hid (HK3.out.t hk4)
    have HB74 := hid (KW.block HQ4.out (lt_of_some HB73.out) HB73.out)
    have HB104 := hid (KW.block HQ4.out (lt_of_some HB10.out) HB10.out)
    have HV34 := hid (HV3.out.kw hk4)
    have HV14 := hid (((HV1.out.kw HQ2.out).kw HQ3.out).kw HQ4.out)
    have HV24 := hid ((HV2.out.kw HQ3.out).kw HQ4.out)
    have HS := hid (rsame32_any tot pk most k0 k1 k2 k3 k4 k5 k6 k7 k8 k9 _ _ st w4 HST.out HV14.out HV24.out)
    have HX := hid (fun W (h : KW w4 W) => ints07_any v3 v4 xs xs W (HV34.out.kw h) (HV4.out.kw h) (by have := HXS.out; omega))
    rw [show decide (xs = xs) = true from by simp] at HX
    clear hk4 hv4
    go_wp2_with (first
      | (refine wpList_load_row rfl 35 _ rfl w1.heap.size rfl 35 _ (0, 0) _ HB74.out Try.underlying35 rfl (by kernel_rfl) ?_)
      | (refine wpList_load_row rfl 35 _ rfl w2.heap.size rfl 35 _ (0, 0) _ HB104.out Try.underlying35 rfl (by kernel_rfl) ?_))
    refine HS.out.mono ?_
    rintro e w5 ⟨rfl, hk5⟩
    have HK5 := hid hk5
    clear hk5
    go_wp2_with fail
    refine (HX.out _ HK5.out).mono ?_
    rintro e w6 ⟨rfl, hk6⟩
    have hk := HK4.out.t (HK5.out.t hk6)
    clear hk6
    go_wp2_with (go_at_call 12; refine (goes32_any _).mono ?_; rintro e w1 ⟨rfl, hb⟩; replace hk := hk.t hb; clear hb)
    go_ret
    exact ⟨rfl, hk⟩

theorem tells32_law (l n : Int) (A : Option Addr) (c : Nat) (list : List Mc.Act) (w : World) (_ : -9223372036854775808 ≤ l) (_ : l ≤ 9223372036854775807) (_ : -9223372036854775808 ≤ n) (_ : n ≤ 9223372036854775807)
    (_ : ∀ a ∈ list, (-9223372036854775808 ≤ a.1 ∧ a.1 ≤ 9223372036854775807) ∧ -9223372036854775808 ≤ a.2 ∧ a.2 ≤ 9223372036854775807) (hA : Acts w A list) :
    Calls Try.prog 4 #[.int .i64 l, .int .i64 n, .slice A list.length c] w fun e w' => e = .returned (.bool true) ∧ KW w w' := by
  by_cases h : (300 < n ∧ n ≤ 1048576) ∨ 300 < list.length ∨ (3000 < l ∧ l < 65536)
  · exact tells_goes l n A list.length c w h
  · by_cases h1 : 300 < n
    · by_cases h2 : 3000 < l
      · exact tells_main11 l n A c list w ⟨h1, by omega⟩ ⟨h2, by omega⟩ (by omega) hA
      · exact tells_main10 l n A c list w ⟨h1, by omega⟩ h2 (by omega) hA
    · by_cases h2 : 3000 < l
      · exact tells_main01 l n A c list w h1 ⟨h2, by omega⟩ (by omega) hA
      · exact tells_main00 l n A c list w h1 h2 (by omega) hA
end Go.Proofs.Ytkdamcacmecnaaa
