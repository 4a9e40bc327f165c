/- The walk of OpcodeBack. -/
import Derived.Test.YtnpgiallgcliiaaO11
namespace Go.Proofs.Ytnpgiallgcliiaa
open Go.ChangeShapes Go.WideShapes Go.ChangeAt Go.RowKit
set_option linter.unusedVariables false

theorem rd_good' {l : List Int} (hb : ∀ x ∈ l, 0 ≤ x ∧ x ≤ 18446744073709551615) (h : (Oc.rd l).e = 0) :
    Oc.right (Oc.rd l).k (Oc.rd l).d (Oc.rd l).a (Oc.rd l).b (Oc.rd l).v = true ∧ (Oc.rd l).n = (Oc.wl (Oc.rd l).k (Oc.rd l).d (Oc.rd l).a (Oc.rd l).b (Oc.rd l).v).length ∧ (0 ≤ (Oc.rd l).v ∧ (Oc.rd l).v ≤ 18446744073709551615) ∧
      (Oc.wl (Oc.rd l).k (Oc.rd l).d (Oc.rd l).a (Oc.rd l).b (Oc.rd l).v).length ≤ l.length ∧
      ∀ i, i < (Oc.wl (Oc.rd l).k (Oc.rd l).d (Oc.rd l).a (Oc.rd l).b (Oc.rd l).v).length → (Oc.wl (Oc.rd l).k (Oc.rd l).d (Oc.rd l).a (Oc.rd l).b (Oc.rd l).v).getD i 0 = l.getD i 0 ∨ ((Oc.wl (Oc.rd l).k (Oc.rd l).d (Oc.rd l).a (Oc.rd l).b (Oc.rd l).v).getD i 0 = 2147483647 ∧ 2147483647 < l.getD i 0) := by
  obtain ⟨k, d, a, b, v, e, h1, h2, h3, h4⟩ := rd_good hb h
  rw [e]
  exact ⟨h1, rfl, h2, h3, h4⟩
theorem rd_bad' {l : List Int} (h : (Oc.rd l).e ≠ 0) : (Oc.rd l).k = 0 ∧ (Oc.rd l).d = 0 ∧ (Oc.rd l).a = 0 ∧ (Oc.rd l).b = 0 ∧ (Oc.rd l).v = 0 ∧ (Oc.rd l).n = 0 := by
  rw [rd_bad h]
  exact ⟨rfl, rfl, rfl, rfl, rfl, rfl⟩
theorem Row1.holds64 {w : World} {A : Option Addr} {c : Nat} {l : List Int} (h : Row1 w A l.length fun i => .int .u64 (l.getD i 0)) (h0 : A = none → c = 0) : Holds w (.slice A l.length c) l.length 1 (u64s l) := by
  have h' := Row1.holds (c := c) h (fun e => by
    cases A with
    | none =>
      refine ⟨?_, h0 rfl⟩
      apply Classical.byContradiction
      intro hn
      obtain ⟨b, off, hA, _⟩ := h (by omega)
      cases hA
    | some _ => cases e) (fun i _ => rfl)
  have e : (List.range l.length).map (fun i => Value.int .u64 (l.getD i 0)) = u64s l := by
    apply List.ext_getElem?
    intro i
    by_cases hi : i < l.length
    · simp [u64s, hi]
    · rw [List.getElem?_eq_none (by simp; omega), List.getElem?_eq_none (by rw [u64s_len]; omega)]
  rwa [e] at h'

theorem back07_goes (x : Value) (k d a b v : Int) (A : Option Addr) (N c : Nat) (w : World) (h : 300 < (N : Int)) :
    Calls Try.prog 4 #[.agg (opv k d a b v), .slice A N c] w fun e w' => e = .returned (.bool true) ∧ KW w w' := by
  have hk := (KW.refl w).alloc (.cells (opv k d a b v) 24)
  unfold opv at *
  go_enter Try.func4, Try.ntmps4
  go_wp2_with (go_at_call 13; refine (goes07_any _).mono ?_; rintro e w3 ⟨rfl, hk3⟩)
  go_ret
  exact ⟨rfl, hk.t hk3⟩

set_option maxRecDepth 100000 in
set_option maxHeartbeats 4000000 in
theorem back07_no (k d a b v : Int) (A : Option Addr) (c : Nat) (l : List Int) (w : World) (hl : l.length ≤ 300) (hr : Row1 w A l.length fun i => .int .u64 (l.getD i 0)) (hb : ∀ x ∈ l, 0 ≤ x ∧ x ≤ 18446744073709551615) (hno : Oc.right k d a b v = false) :
    Calls Try.prog 4 #[.agg (opv k d a b v), .slice A l.length c] w fun e w' => e = .returned (.bool true) ∧ KW w w' := by
  have HG := hid (fun W => goes07_any W)
  have HR := hid (fun W (h : KW w W) => oread_any A c l W (hr.k h) (by omega) hb)
  have HGd := hid (fun h => rd_good' (l := l) hb h)
  have HBd := hid (fun h => rd_bad' (l := l) h)
  have HRow := hid hr
  unfold RdP at HR
  generalize Oc.rd l = rd at *
  obtain ⟨rk, rdd, ra, rb, rv, rn, re⟩ := rd
  simp only at HR HGd HBd
  have hk := (KW.refl w).alloc (.cells (opv k d a b v) 24)
  have HW := hid (fun W => owords_no k d a b v W hno)
  have dN : decide (300 < (l.length : Int)) = false := decide_eq_false (by omega)
  clear hno hr hb
  unfold opv at HW hk ⊢
  go_enter Try.func4, Try.ntmps4
  go_wp2_with fail
  refine (HW.out _).mono ?_
  rintro e w1 ⟨rfl, hk1⟩
  have HK1 := hid (hk.t hk1)
  clear hk1 hk HW
  go_wp2_with fail
  refine (HR.out _ HK1.out).mono ?_
  rintro e w5 ⟨rfl, hk5⟩
  have HK5 := hid (((HK1.out).t hk5).alloc (.cells (opv rk rdd ra rb rv) 24))
  clear hk5
  by_cases he : re = 0
  · obtain ⟨hrt, hrn, hv5, hle, hi⟩ := HGd.out he
    have HWx := hid (fun W => owords_yes rk rdd ra rb rv W hrt hv5)
    have HI := hid hi
    unfold WordsP at HWx
    generalize Oc.wl rk rdd ra rb rv = wx at *
    clear HGd HBd hrt hi HR
    subst he hrn
    generalize hN : l.length = N at *
    generalize hX : wx.length = X at *
    have HNX := hid (And.intro hN hX)
    clear hN hX
    unfold opv at *
    go_wp2_with fail
    refine (HWx.out _).mono ?_
    rintro e w6 ⟨u6, rfl, ho6, hk6⟩
    obtain ⟨A6, c6, rfl, hr6⟩ := ho6.wt
    rw [HNX.out.2] at hr6
    have HK6 := hid (HK5.out.t hk6)
    have HRx := hid hr6
    have HRl := hid (HRow.out.k HK6.out)
    have dX : decide ((N : Int) < (X : Int)) = false := decide_eq_false (by omega)
    clear ho6 hk6 hr6 HWx
    rw [HNX.out.2]
    go_wp2_with fail
    go_loopw [18] (fun i wr => ∃ j : Nat, j ≤ X ∧ i = .int .i64 j ∧ Hid (KW w6 wr)) (fun i _ => X - (intOf i).toNat)
    case atStart => exact ⟨0, by omega, rfl, KW.refl _⟩
    case round =>
      obtain ⟨j, hj, rfl, HKr⟩ := hrel
      by_cases hlt : j < X
      · obtain ⟨b1, o1, rfl, hb1, y1⟩ := (HRx.out.k HKr.out).at_ hlt
        obtain ⟨b2, o2, rfl, hb2, y2⟩ := (HRl.out.k HKr.out).at_ (show j < N by omega)
        have hij := HI.out j hlt
        have L5 : (j : Int) < (X : Int) := by omega
        have L6 : (j : Int) < (N : Int) := by omega
        have L7 : j < N := by omega
        generalize wx.getD j 0 = x at *
        generalize l.getD j 0 = y at *
        go_wp2_with fail
        have hXS := And.intro y1 y2
        refine wpX_region (S := fun w' => w'.cell? ⟨b1, o1 + j, none⟩ = some (.int .u64 x) ∧ w'.cell? ⟨b2, o2 + j, none⟩ = some (.int .u64 y)) (L := 99) (by kernel_rfl) ?_
        by_cases hxy : x = y
        · subst hxy
          clear hij
          refine wpX_take (i := 0) (v := ?_) rfl rfl (by kernel_rfl) (fun _ _ _ h => h) (Or.inl ⟨rfl, fun wS hwS => ?_⟩) hXS ?_
          rotate_left
          · go_simp; try rfl
          simp only [List.set_cons_zero, List.set_cons_succ]
          refine wpX_take (i := 1) (v := ?_) rfl rfl (by kernel_rfl) (fun _ _ _ h => h) (Or.inl ⟨rfl, fun wS hwS => ?_⟩) hXS ?_
          rotate_left
          · go_simp; try rfl
          simp only [List.set_cons_zero, List.set_cons_succ]
          refine wpX_take (i := 2) (v := ?_) rfl rfl (by kernel_rfl) (fun _ _ _ h => h) (Or.inl ⟨rfl, fun wS hwS => ?_⟩) hXS ?_
          rotate_left
          · go_simp; try rfl
          simp only [List.set_cons_zero, List.set_cons_succ]
          refine wpX_take (i := 3) (v := ?_) rfl rfl (by kernel_rfl) (fun _ _ _ h => h) (Or.inl ⟨rfl, fun wS hwS => ?_⟩) hXS ?_
          rotate_left
          · go_simp; try rfl
          simp only [List.set_cons_zero, List.set_cons_succ]
          refine wpX_take (i := 4) (v := ?_) rfl rfl (by kernel_rfl) (fun _ _ _ h => h) (Or.inl ⟨rfl, fun wS hwS => ?_⟩) hXS ?_
          rotate_left
          · go_simp; try rfl
          simp only [List.set_cons_zero, List.set_cons_succ]
          refine wpX_take (i := 5) (v := ?_) rfl rfl (by kernel_rfl) (fun _ _ _ h => h) (Or.inl ⟨rfl, fun wS hwS => ?_⟩) hXS ?_
          rotate_left
          · go_simp; try rfl
          simp only [List.set_cons_zero, List.set_cons_succ]
          refine wpX_take (i := 6) (v := ?_) rfl rfl (by kernel_rfl) (fun _ _ _ h => h) (Or.inl ⟨rfl, fun wS hwS => ?_⟩) hXS ?_
          rotate_left
          · go_simp; try rfl
          simp only [List.set_cons_zero, List.set_cons_succ]
          refine wpX_take (i := 7) (v := ?_) rfl rfl (by kernel_rfl) (fun _ _ _ h => h) (Or.inl ⟨rfl, fun wS hwS => ?_⟩) hXS ?_
          rotate_left
          · go_simp; try rfl
          simp only [List.set_cons_zero, List.set_cons_succ]
          refine wpX_take (i := 8) (v := ?_) rfl rfl (by kernel_rfl) (fun _ _ _ h => h) (Or.inl ⟨rfl, fun wS hwS => ?_⟩) hXS ?_
          rotate_left
          · go_simp; try rfl
          simp only [List.set_cons_zero, List.set_cons_succ]
          refine wpX_take (i := 9) (v := ?_) rfl rfl (by kernel_rfl) (fun _ _ _ h => h) (Or.inl ⟨rfl, fun wS hwS => ?_⟩) hXS ?_
          rotate_left
          · go_simp; try rfl
          simp only [List.set_cons_zero, List.set_cons_succ]
          refine wpX_take (i := 10) rfl rfl (by kernel_rfl) (fun _ _ _ h => h) (Or.inr ⟨rfl, rfl⟩) hXS ?_
          simp only [List.set_cons_zero, List.set_cons_succ]
          refine wpX_take (i := 11) rfl rfl (by kernel_rfl) (fun _ _ _ h => h) (Or.inr ⟨rfl, rfl⟩) hXS ?_
          simp only [List.set_cons_zero, List.set_cons_succ]
          refine wpX_take (i := 12) rfl rfl (by kernel_rfl) (fun _ _ _ h => h) (Or.inr ⟨rfl, rfl⟩) hXS ?_
          simp only [List.set_cons_zero, List.set_cons_succ]
          refine wpX_take (i := 13) rfl rfl (by kernel_rfl) (fun _ _ _ h => h) (Or.inr ⟨rfl, rfl⟩) hXS ?_
          simp only [List.set_cons_zero, List.set_cons_succ]
          refine wpX_take (i := 14) rfl rfl (by kernel_rfl) (fun _ _ _ h => h) (Or.inr ⟨rfl, rfl⟩) hXS ?_
          simp only [List.set_cons_zero, List.set_cons_succ]
          refine wpX_take (i := 15) rfl rfl (by kernel_rfl) (fun _ _ _ h => h) (Or.inr ⟨rfl, rfl⟩) hXS ?_
          simp only [List.set_cons_zero, List.set_cons_succ]
          refine wpX_take (i := 16) rfl rfl (by kernel_rfl) (fun _ _ _ h => h) (Or.inr ⟨rfl, rfl⟩) hXS ?_
          simp only [List.set_cons_zero, List.set_cons_succ]
          refine wpX_take (i := 17) rfl rfl (by kernel_rfl) (fun _ _ _ h => h) (Or.inr ⟨rfl, rfl⟩) hXS ?_
          simp only [List.set_cons_zero, List.set_cons_succ]
          refine wpX_take (i := 18) rfl rfl (by kernel_rfl) (fun _ _ _ h => h) (Or.inr ⟨rfl, rfl⟩) hXS ?_
          simp only [List.set_cons_zero, List.set_cons_succ]
          refine wpX_take (i := 19) rfl rfl (by kernel_rfl) (fun _ _ _ h => h) (Or.inr ⟨rfl, rfl⟩) hXS ?_
          simp only [List.set_cons_zero, List.set_cons_succ]
          refine wpX_take (i := 20) rfl rfl (by kernel_rfl) (fun _ _ _ h => h) (Or.inr ⟨rfl, rfl⟩) hXS ?_
          simp only [List.set_cons_zero, List.set_cons_succ]
          refine wpX_take (i := 21) rfl rfl (by kernel_rfl) (fun _ _ _ h => h) (Or.inr ⟨rfl, rfl⟩) hXS ?_
          simp only [List.set_cons_zero, List.set_cons_succ]
          refine wpX_take (i := 22) (v := ?_) rfl rfl (by kernel_rfl) (fun _ _ _ h => h) (Or.inl ⟨rfl, fun wS hwS => ?_⟩) hXS ?_
          rotate_left
          · go_simp; try rfl
          simp only [List.set_cons_zero, List.set_cons_succ]
          refine wpX_done (by kernel_rfl) ?_
          clear hXS
          go_wp2_with fail
          go_roundw
          case rel => exact ⟨j + 1, by omega, by go_num, HKr.out.drew⟩
          case measure => simp [intOf]; omega
        · obtain ⟨rfl, hy⟩ := hij.resolve_left hxy
          have d1 : ((2147483647 : Int) == y) = false := by simpa using hxy
          have d2 : ((2147483647 : Int) != y) = true := by simpa using hxy
          have d3 : decide (y ≤ 2147483647) = false := decide_eq_false (by omega)
          clear hij hxy
          refine wpX_take (i := 0) (v := ?_) rfl rfl (by kernel_rfl) (fun _ _ _ h => h) (Or.inl ⟨rfl, fun wS hwS => ?_⟩) hXS ?_
          rotate_left
          · go_simp; try rfl
          simp only [List.set_cons_zero, List.set_cons_succ]
          refine wpX_take (i := 1) (v := ?_) rfl rfl (by kernel_rfl) (fun _ _ _ h => h) (Or.inl ⟨rfl, fun wS hwS => ?_⟩) hXS ?_
          rotate_left
          · go_simp; try rfl
          simp only [List.set_cons_zero, List.set_cons_succ]
          refine wpX_take (i := 2) (v := ?_) rfl rfl (by kernel_rfl) (fun _ _ _ h => h) (Or.inl ⟨rfl, fun wS hwS => ?_⟩) hXS ?_
          rotate_left
          · go_simp; try rfl
          simp only [List.set_cons_zero, List.set_cons_succ]
          refine wpX_take (i := 3) (v := ?_) rfl rfl (by kernel_rfl) (fun _ _ _ h => h) (Or.inl ⟨rfl, fun wS hwS => ?_⟩) hXS ?_
          rotate_left
          · go_simp; try rfl
          simp only [List.set_cons_zero, List.set_cons_succ]
          refine wpX_take (i := 4) (v := ?_) rfl rfl (by kernel_rfl) (fun _ _ _ h => h) (Or.inl ⟨rfl, fun wS hwS => ?_⟩) hXS ?_
          rotate_left
          · go_simp; try rfl
          simp only [List.set_cons_zero, List.set_cons_succ]
          refine wpX_take (i := 5) (v := ?_) rfl rfl (by kernel_rfl) (fun _ _ _ h => h) (Or.inl ⟨rfl, fun wS hwS => ?_⟩) hXS ?_
          rotate_left
          · go_simp; try rfl
          simp only [List.set_cons_zero, List.set_cons_succ]
          refine wpX_take (i := 6) (v := ?_) rfl rfl (by kernel_rfl) (fun _ _ _ h => h) (Or.inl ⟨rfl, fun wS hwS => ?_⟩) hXS ?_
          rotate_left
          · go_simp; try rfl
          simp only [List.set_cons_zero, List.set_cons_succ]
          refine wpX_take (i := 7) (v := ?_) rfl rfl (by kernel_rfl) (fun _ _ _ h => h) (Or.inl ⟨rfl, fun wS hwS => ?_⟩) hXS ?_
          rotate_left
          · go_simp; try rfl
          simp only [List.set_cons_zero, List.set_cons_succ]
          refine wpX_take (i := 8) (v := ?_) rfl rfl (by kernel_rfl) (fun _ _ _ h => h) (Or.inl ⟨rfl, fun wS hwS => ?_⟩) hXS ?_
          rotate_left
          · go_simp; try rfl
          simp only [List.set_cons_zero, List.set_cons_succ]
          refine wpX_take (i := 9) (v := ?_) rfl rfl (by kernel_rfl) (fun _ _ _ h => h) (Or.inl ⟨rfl, fun wS hwS => ?_⟩) hXS ?_
          rotate_left
          · go_simp; try rfl
          simp only [List.set_cons_zero, List.set_cons_succ]
          refine wpX_take (i := 10) (v := ?_) rfl rfl (by kernel_rfl) (fun _ _ _ h => h) (Or.inl ⟨rfl, fun wS hwS => ?_⟩) hXS ?_
          rotate_left
          · go_simp; try rfl
          simp only [List.set_cons_zero, List.set_cons_succ]
          refine wpX_take (i := 11) (v := ?_) rfl rfl (by kernel_rfl) (fun _ _ _ h => h) (Or.inl ⟨rfl, fun wS hwS => ?_⟩) hXS ?_
          rotate_left
          · go_simp; try rfl
          simp only [List.set_cons_zero, List.set_cons_succ]
          refine wpX_take (i := 12) (v := ?_) rfl rfl (by kernel_rfl) (fun _ _ _ h => h) (Or.inl ⟨rfl, fun wS hwS => ?_⟩) hXS ?_
          rotate_left
          · go_simp; try rfl
          simp only [List.set_cons_zero, List.set_cons_succ]
          refine wpX_take (i := 13) (v := ?_) rfl rfl (by kernel_rfl) (fun _ _ _ h => h) (Or.inl ⟨rfl, fun wS hwS => ?_⟩) hXS ?_
          rotate_left
          · go_simp; try rfl
          simp only [List.set_cons_zero, List.set_cons_succ]
          refine wpX_take (i := 14) (v := ?_) rfl rfl (by kernel_rfl) (fun _ _ _ h => h) (Or.inl ⟨rfl, fun wS hwS => ?_⟩) hXS ?_
          rotate_left
          · go_simp; try rfl
          simp only [List.set_cons_zero, List.set_cons_succ]
          refine wpX_take (i := 15) (v := ?_) rfl rfl (by kernel_rfl) (fun _ _ _ h => h) (Or.inl ⟨rfl, fun wS hwS => ?_⟩) hXS ?_
          rotate_left
          · go_simp; try rfl
          simp only [List.set_cons_zero, List.set_cons_succ]
          refine wpX_take (i := 16) (v := ?_) rfl rfl (by kernel_rfl) (fun _ _ _ h => h) (Or.inl ⟨rfl, fun wS hwS => ?_⟩) hXS ?_
          rotate_left
          · go_simp; try rfl
          simp only [List.set_cons_zero, List.set_cons_succ]
          refine wpX_take (i := 17) (v := ?_) rfl rfl (by kernel_rfl) (fun _ _ _ h => h) (Or.inl ⟨rfl, fun wS hwS => ?_⟩) hXS ?_
          rotate_left
          · go_simp; try rfl
          simp only [List.set_cons_zero, List.set_cons_succ]
          refine wpX_take (i := 18) (v := ?_) rfl rfl (by kernel_rfl) (fun _ _ _ h => h) (Or.inl ⟨rfl, fun wS hwS => ?_⟩) hXS ?_
          rotate_left
          · go_simp; try rfl
          simp only [List.set_cons_zero, List.set_cons_succ]
          refine wpX_take (i := 19) (v := ?_) rfl rfl (by kernel_rfl) (fun _ _ _ h => h) (Or.inl ⟨rfl, fun wS hwS => ?_⟩) hXS ?_
          rotate_left
          · go_simp; try rfl
          simp only [List.set_cons_zero, List.set_cons_succ]
          refine wpX_take (i := 20) (v := ?_) rfl rfl (by kernel_rfl) (fun _ _ _ h => h) (Or.inl ⟨rfl, fun wS hwS => ?_⟩) hXS ?_
          rotate_left
          · go_simp; try rfl
          simp only [List.set_cons_zero, List.set_cons_succ]
          refine wpX_take (i := 21) (v := ?_) rfl rfl (by kernel_rfl) (fun _ _ _ h => h) (Or.inl ⟨rfl, fun wS hwS => ?_⟩) hXS ?_
          rotate_left
          · go_simp; try rfl
          simp only [List.set_cons_zero, List.set_cons_succ]
          refine wpX_take (i := 22) (v := ?_) rfl rfl (by kernel_rfl) (fun _ _ _ h => h) (Or.inl ⟨rfl, fun wS hwS => ?_⟩) hXS ?_
          rotate_left
          · go_simp; try rfl
          simp only [List.set_cons_zero, List.set_cons_succ]
          refine wpX_done (by kernel_rfl) ?_
          clear hXS
          go_wp2_with fail
          go_roundw
          case rel => exact ⟨j + 1, by omega, by go_num, HKr.out.drew⟩
          case measure => simp [intOf]; omega
      · obtain rfl : j = X := by omega
        clear hlt
        go_wp2_with (go_at_call 13; refine (HG.out _).mono ?_; rintro e w7 ⟨rfl, hk7⟩)
        go_ret
        exact ⟨rfl, (HK6.out.t HKr.out).t hk7⟩
  · obtain ⟨rfl, rfl, rfl, rfl, rfl, rfl⟩ := HBd.out he
    have d1 : (re == 0) = false := by simpa using he
    have d2 : (re != 0) = true := by simpa using he
    clear HBd HGd he
    unfold opv at *
    go_wp2_with (go_at_call 13; refine (HG.out _).mono ?_; rintro e w7 ⟨rfl, hk7⟩)
    go_ret
    exact ⟨rfl, HK5.out.t hk7⟩

set_option maxRecDepth 100000 in
set_option maxHeartbeats 2000000 in
theorem back07_yes (k d a b v : Int) (A : Option Addr) (c : Nat) (l : List Int) (w : World) (hl : l.length ≤ 300) (hz : A = none → c = 0) (hr : Row1 w A l.length fun i => .int .u64 (l.getD i 0)) (hb : ∀ x ∈ l, 0 ≤ x ∧ x ≤ 18446744073709551615) (hv : 0 ≤ v ∧ v ≤ 18446744073709551615) (hyes : Oc.right k d a b v = true) :
    Calls Try.prog 4 #[.agg (opv k d a b v), .slice A l.length c] w fun e w' => e = .returned (.bool true) ∧ KW w w' := by
  have HG := hid (fun W => goes07_any W)
  have HR := hid (fun W (h : KW w W) => oread_any A c l W (hr.k h) (by omega) hb)
  have HGd := hid (fun h => rd_good' (l := l) hb h)
  have HBd := hid (fun h => rd_bad' (l := l) h)
  have HRow := hid hr
  unfold RdP at HR
  generalize Oc.rd l = rd at *
  obtain ⟨rk, rdd, ra, rb, rv, rn, re⟩ := rd
  simp only at HR HGd HBd
  have hk := (KW.refl w).alloc (.cells (opv k d a b v) 24)
  have HW := hid (fun W => owords_yes k d a b v W hyes hv)
  have hwl := wl_len k d a b v
  have hwb : ∀ x ∈ Oc.wl k d a b v ++ l, 0 ≤ x ∧ x ≤ 18446744073709551615 := by
    intro x hx
    rcases List.mem_append.1 hx with hx | hx
    · exact wl_bd hyes hv x hx
    · exact hb x hx
  have HRb := hid (fun A c W hr => oread_any A c (Oc.wl k d a b v ++ l) W hr (by simp; omega) hwb)
  rw [rd_back hyes l] at HRb
  have HRc := hid (fun A c W hr => oread_any A c ((Oc.wl k d a b v).take ((Oc.wl k d a b v).length - 1)) W hr (by simp; omega) (fun x hx => hwb x (List.mem_append_left _ (List.mem_of_mem_take hx))))
  have HE4 := hid (rd_short hyes)
  generalize Oc.rd ((Oc.wl k d a b v).take ((Oc.wl k d a b v).length - 1)) = r2 at *
  obtain ⟨sk, sd, sa, sb, sv, sn, se⟩ := r2
  simp only at HE4
  have hwp : 0 < (Oc.wl k d a b v).length := by
    rcases wl_cases hyes with ⟨_, _, _, _, _, e⟩ | ⟨_, _, e⟩ | ⟨_, _, _, e⟩ | ⟨_, _, _, e⟩ | ⟨_, _, _, _, e⟩ <;> rw [e] <;> simp
  have dN : decide (300 < (l.length : Int)) = false := decide_eq_false (by omega)
  have HHl := hid (fun W (h : KW w W) => (hr.k h).holds64 (c := c) hz)
  unfold WordsP at HW
  unfold RdP at HRb HRc
  simp only at HRb HRc
  generalize Oc.wl k d a b v = wl at *
  clear hyes hr hb hwb hz
  obtain rfl : se = 4 := HE4.out
  have hop := opv_row w k d a b v
  have HOp := hid hop
  clear hop
  unfold opv at HW hk HRb HRc ⊢
  go_enter Try.func4, Try.ntmps4
  go_wp2_with fail
  refine (HW.out _).mono ?_
  rintro e w1 ⟨u1, rfl, ho1, hk1⟩
  have HK1 := hid (hk.t hk1)
  have HOp1 := hid (KW.row hk1 HOp.out.lt HOp.out)
  obtain ⟨A1, c1, rfl, hr1⟩ := ho1.wt
  have hcap1 : wl.length ≤ c1 := by
    obtain ⟨A9, c9, e9, h9, _⟩ := ho1.row
    simp only [Value.slice.injEq] at e9
    rw [u64s_len] at h9
    omega
  obtain ⟨b1, o1, rfl, hb1, hc1⟩ := hr1 hwp
  have HR1 := hid hr1
  have HH1 := hid (hr1.holds64 (c := c1) (fun e => by cases e))
  have HO0 : Hid ((w1.alloc (.cells #[] 22)).ownsRow w1.heap.size 22 1 (.slice (some ⟨w1.heap.size, 0, none⟩) 0 0) 0 []) := hid (Owns.new (w := w1) (base := w1.heap.size) (e := 22) (xs := []) (Nat.le_refl _) (by simp))
  have dL : ((wl.length : Int) == 0) = false := by simp; intro e; simp [e] at hwp
  clear ho1 hk1 hr1 hb1 hc1 hk HW HOp
  go_wp2_with (at_builtin; go_loud (refine wpList_appS rfl sliceU64.s rfl (W := w1.alloc (.cells #[] 22)) (base := w1.heap.size) (n := 0) (v := .slice (some ⟨w1.heap.size, 0, none⟩) 0 0) (xs := []) rfl rfl (HH1.out.kw ((KW.refl w1).alloc _)) HO0.out (by simp) (by omega) (by omega) ?_))
  intro v2 w2 hown2 hkeep2
  have HK12 : Hid (KW w1 w2) := ((KW.refl w1).alloc (.cells #[] 22)).kept hkeep2 (fun i hi => by simp [Value.ownBlock] at hi; omega)
  have HO2 := hid hown2
  have HH2 := hid (HHl.out _ (HK1.out.t HK12.out))
  clear hown2 hkeep2 HO0
  go_wp2_with (at_builtin; go_loud (refine wpList_appS rfl sliceU64.s rfl (W := w2) (base := w1.heap.size) (n := wl.length) (v := v2) (u := .slice A l.length c) (k := l.length) (xs := u64s wl) (ys := u64s l) rfl rfl HH2.out HO2.out HK12.out.size (by omega) (by omega) ?_))
  intro v3 w3 hown3 hkeep3
  have HK13 : Hid (KW w1 w3) := HK12.out.kept hkeep3 (fun i hi => (World.ownsRow.lt HO2.out i hi).1)
  have HO3 : Hid (Owns w3 w1.heap.size 22 v3 (u64s (wl ++ l))) := by
    have e1 : u64s (wl ++ l) = u64s wl ++ u64s l := by simp [u64s]
    have e2 : (u64s (wl ++ l)).length = wl.length + l.length := by simp [u64s]
    unfold Owns
    rw [e2, e1]
    exact hown3
  obtain ⟨A3, c3, rfl, hr3⟩ := HO3.out.wt
  have HR3 := hid hr3
  clear hown3 hkeep3 hr3 HO2 HO3 HH2
  generalize (wl ++ l).length = LL at *
  go_wp2_with fail
  refine (HRb.out A3 c3 _ HR3.out).mono ?_
  rintro e w4 ⟨rfl, hk4⟩
  have HK14 := hid (HK13.out.t hk4)
  have hOp4 := KW.row HK14.out HOp1.out.lt HOp1.out
  have s0 := hOp4.cell (i := 0) (by omega)
  have s1 := hOp4.cell (i := 1) (by omega)
  have s2 := hOp4.cell (i := 2) (by omega)
  have s3 := hOp4.cell (i := 3) (by omega)
  have s4 := hOp4.cell (i := 4) (by omega)
  simp only [List.getD_cons_succ, List.getD_cons_zero] at s0 s1 s2 s3 s4
  have hlt := hOp4.lt
  have HT := hid (show Row1 w4 (some ⟨b1, o1, none⟩) (wl.take (wl.length - 1)).length fun i => .int .u64 ((wl.take (wl.length - 1)).getD i 0) from fun h0 => by
    have hlen : (wl.take (wl.length - 1)).length = wl.length - 1 := by simp
    rw [hlen] at h0
    obtain ⟨b2, o2, hA, hb2, hc2⟩ := (HR1.out.k HK14.out) hwp
    refine ⟨b2, o2, hA, hb2, fun i hi => ?_⟩
    rw [hlen] at hi
    rw [hc2 i (by omega)]
    simp [List.getD_eq_getElem?_getD, List.getElem?_take_of_lt hi])
  have HTl := hid (show (wl.take (wl.length - 1)).length = wl.length - 1 by simp)
  clear hk4 hOp4
  rw [HTl.out] at HRc HT
  have dC : decide ((wl.length : Int) - 1 ≤ (c1 : Int)) = true := decide_eq_true (by omega)
  go_wp2_with fail
  refine (HRc.out (some ⟨b1, o1, none⟩) c1 _ ((HT.out.k ((KW.refl w4).alloc _)))).mono ?_
  rintro e w5' ⟨rfl, hk5'⟩
  have HK15 := hid (HK1.out.t ((HK14.out.alloc (.cells #[.int .i64 k, .int .i64 d, .int .i64 a, .int .i64 b, .int .u64 v] 24)).t hk5'))
  clear hk5' s0 s1 s2 s3 s4 hlt
  have HKB := hid (HK15.out.alloc (.cells #[.int .i64 sk, .int .i64 sd, .int .i64 sa, .int .i64 sb, .int .u64 sv] 24))

  go_wp2_with fail
  refine (HR.out _ HKB.out).mono ?_
  rintro e w5 ⟨rfl, hk5⟩
  have HK5 := hid (((HKB.out).t hk5).alloc (.cells (opv rk rdd ra rb rv) 24))
  clear hk5
  by_cases he : re = 0
  · obtain ⟨hrt, hrn, hv5, hle, hi⟩ := HGd.out he
    have HWx := hid (fun W => owords_yes rk rdd ra rb rv W hrt hv5)
    have HI := hid hi
    unfold WordsP at HWx
    generalize Oc.wl rk rdd ra rb rv = wx at *
    clear HGd HBd hrt hi HR
    subst he hrn
    generalize hN : l.length = N at *
    generalize hX : wx.length = X at *
    have HNX := hid (And.intro hN hX)
    clear hN hX
    unfold opv at *
    go_wp2_with fail
    refine (HWx.out _).mono ?_
    rintro e w6 ⟨u6, rfl, ho6, hk6⟩
    obtain ⟨A6, c6, rfl, hr6⟩ := ho6.wt
    rw [HNX.out.2] at hr6
    have HK6 := hid (HK5.out.t hk6)
    have HRx := hid hr6
    have HRl := hid (HRow.out.k HK6.out)
    have dX : decide ((N : Int) < (X : Int)) = false := decide_eq_false (by omega)
    clear ho6 hk6 hr6 HWx
    rw [HNX.out.2]
    go_wp2_with fail
    go_loopw [18] (fun i wr => ∃ j : Nat, j ≤ X ∧ i = .int .i64 j ∧ Hid (KW w6 wr)) (fun i _ => X - (intOf i).toNat)
    case atStart => exact ⟨0, by omega, rfl, KW.refl _⟩
    case round =>
      obtain ⟨j, hj, rfl, HKr⟩ := hrel
      by_cases hlt : j < X
      · obtain ⟨b1, o1, rfl, hb1, y1⟩ := (HRx.out.k HKr.out).at_ hlt
        obtain ⟨b2, o2, rfl, hb2, y2⟩ := (HRl.out.k HKr.out).at_ (show j < N by omega)
        have hij := HI.out j hlt
        have L5 : (j : Int) < (X : Int) := by omega
        have L6 : (j : Int) < (N : Int) := by omega
        have L7 : j < N := by omega
        generalize wx.getD j 0 = x at *
        generalize l.getD j 0 = y at *
        go_wp2_with fail
        have hXS := And.intro y1 y2
        refine wpX_region (S := fun w' => w'.cell? ⟨b1, o1 + j, none⟩ = some (.int .u64 x) ∧ w'.cell? ⟨b2, o2 + j, none⟩ = some (.int .u64 y)) (L := 99) (by kernel_rfl) ?_
        by_cases hxy : x = y
        · subst hxy
          clear hij
          refine wpX_take (i := 0) (v := ?_) rfl rfl (by kernel_rfl) (fun _ _ _ h => h) (Or.inl ⟨rfl, fun wS hwS => ?_⟩) hXS ?_
          rotate_left
          · go_simp; try rfl
          simp only [List.set_cons_zero, List.set_cons_succ]
          refine wpX_take (i := 1) (v := ?_) rfl rfl (by kernel_rfl) (fun _ _ _ h => h) (Or.inl ⟨rfl, fun wS hwS => ?_⟩) hXS ?_
          rotate_left
          · go_simp; try rfl
          simp only [List.set_cons_zero, List.set_cons_succ]
          refine wpX_take (i := 2) (v := ?_) rfl rfl (by kernel_rfl) (fun _ _ _ h => h) (Or.inl ⟨rfl, fun wS hwS => ?_⟩) hXS ?_
          rotate_left
          · go_simp; try rfl
          simp only [List.set_cons_zero, List.set_cons_succ]
          refine wpX_take (i := 3) (v := ?_) rfl rfl (by kernel_rfl) (fun _ _ _ h => h) (Or.inl ⟨rfl, fun wS hwS => ?_⟩) hXS ?_
          rotate_left
          · go_simp; try rfl
          simp only [List.set_cons_zero, List.set_cons_succ]
          refine wpX_take (i := 4) (v := ?_) rfl rfl (by kernel_rfl) (fun _ _ _ h => h) (Or.inl ⟨rfl, fun wS hwS => ?_⟩) hXS ?_
          rotate_left
          · go_simp; try rfl
          simp only [List.set_cons_zero, List.set_cons_succ]
          refine wpX_take (i := 5) (v := ?_) rfl rfl (by kernel_rfl) (fun _ _ _ h => h) (Or.inl ⟨rfl, fun wS hwS => ?_⟩) hXS ?_
          rotate_left
          · go_simp; try rfl
          simp only [List.set_cons_zero, List.set_cons_succ]
          refine wpX_take (i := 6) (v := ?_) rfl rfl (by kernel_rfl) (fun _ _ _ h => h) (Or.inl ⟨rfl, fun wS hwS => ?_⟩) hXS ?_
          rotate_left
          · go_simp; try rfl
          simp only [List.set_cons_zero, List.set_cons_succ]
          refine wpX_take (i := 7) (v := ?_) rfl rfl (by kernel_rfl) (fun _ _ _ h => h) (Or.inl ⟨rfl, fun wS hwS => ?_⟩) hXS ?_
          rotate_left
          · go_simp; try rfl
          simp only [List.set_cons_zero, List.set_cons_succ]
          refine wpX_take (i := 8) (v := ?_) rfl rfl (by kernel_rfl) (fun _ _ _ h => h) (Or.inl ⟨rfl, fun wS hwS => ?_⟩) hXS ?_
          rotate_left
          · go_simp; try rfl
          simp only [List.set_cons_zero, List.set_cons_succ]
          refine wpX_take (i := 9) (v := ?_) rfl rfl (by kernel_rfl) (fun _ _ _ h => h) (Or.inl ⟨rfl, fun wS hwS => ?_⟩) hXS ?_
          rotate_left
          · go_simp; try rfl
          simp only [List.set_cons_zero, List.set_cons_succ]
          refine wpX_take (i := 10) rfl rfl (by kernel_rfl) (fun _ _ _ h => h) (Or.inr ⟨rfl, rfl⟩) hXS ?_
          simp only [List.set_cons_zero, List.set_cons_succ]
          refine wpX_take (i := 11) rfl rfl (by kernel_rfl) (fun _ _ _ h => h) (Or.inr ⟨rfl, rfl⟩) hXS ?_
          simp only [List.set_cons_zero, List.set_cons_succ]
          refine wpX_take (i := 12) rfl rfl (by kernel_rfl) (fun _ _ _ h => h) (Or.inr ⟨rfl, rfl⟩) hXS ?_
          simp only [List.set_cons_zero, List.set_cons_succ]
          refine wpX_take (i := 13) rfl rfl (by kernel_rfl) (fun _ _ _ h => h) (Or.inr ⟨rfl, rfl⟩) hXS ?_
          simp only [List.set_cons_zero, List.set_cons_succ]
          refine wpX_take (i := 14) rfl rfl (by kernel_rfl) (fun _ _ _ h => h) (Or.inr ⟨rfl, rfl⟩) hXS ?_
          simp only [List.set_cons_zero, List.set_cons_succ]
          refine wpX_take (i := 15) rfl rfl (by kernel_rfl) (fun _ _ _ h => h) (Or.inr ⟨rfl, rfl⟩) hXS ?_
          simp only [List.set_cons_zero, List.set_cons_succ]
          refine wpX_take (i := 16) rfl rfl (by kernel_rfl) (fun _ _ _ h => h) (Or.inr ⟨rfl, rfl⟩) hXS ?_
          simp only [List.set_cons_zero, List.set_cons_succ]
          refine wpX_take (i := 17) rfl rfl (by kernel_rfl) (fun _ _ _ h => h) (Or.inr ⟨rfl, rfl⟩) hXS ?_
          simp only [List.set_cons_zero, List.set_cons_succ]
          refine wpX_take (i := 18) rfl rfl (by kernel_rfl) (fun _ _ _ h => h) (Or.inr ⟨rfl, rfl⟩) hXS ?_
          simp only [List.set_cons_zero, List.set_cons_succ]
          refine wpX_take (i := 19) rfl rfl (by kernel_rfl) (fun _ _ _ h => h) (Or.inr ⟨rfl, rfl⟩) hXS ?_
          simp only [List.set_cons_zero, List.set_cons_succ]
          refine wpX_take (i := 20) rfl rfl (by kernel_rfl) (fun _ _ _ h => h) (Or.inr ⟨rfl, rfl⟩) hXS ?_
          simp only [List.set_cons_zero, List.set_cons_succ]
          refine wpX_take (i := 21) rfl rfl (by kernel_rfl) (fun _ _ _ h => h) (Or.inr ⟨rfl, rfl⟩) hXS ?_
          simp only [List.set_cons_zero, List.set_cons_succ]
          refine wpX_take (i := 22) (v := ?_) rfl rfl (by kernel_rfl) (fun _ _ _ h => h) (Or.inl ⟨rfl, fun wS hwS => ?_⟩) hXS ?_
          rotate_left
          · go_simp; try rfl
          simp only [List.set_cons_zero, List.set_cons_succ]
          refine wpX_done (by kernel_rfl) ?_
          clear hXS
          go_wp2_with fail
          go_roundw
          case rel => exact ⟨j + 1, by omega, by go_num, HKr.out.drew⟩
          case measure => simp [intOf]; omega
        · obtain ⟨rfl, hy⟩ := hij.resolve_left hxy
          have d1 : ((2147483647 : Int) == y) = false := by simpa using hxy
          have d2 : ((2147483647 : Int) != y) = true := by simpa using hxy
          have d3 : decide (y ≤ 2147483647) = false := decide_eq_false (by omega)
          clear hij hxy
          refine wpX_take (i := 0) (v := ?_) rfl rfl (by kernel_rfl) (fun _ _ _ h => h) (Or.inl ⟨rfl, fun wS hwS => ?_⟩) hXS ?_
          rotate_left
          · go_simp; try rfl
          simp only [List.set_cons_zero, List.set_cons_succ]
          refine wpX_take (i := 1) (v := ?_) rfl rfl (by kernel_rfl) (fun _ _ _ h => h) (Or.inl ⟨rfl, fun wS hwS => ?_⟩) hXS ?_
          rotate_left
          · go_simp; try rfl
          simp only [List.set_cons_zero, List.set_cons_succ]
          refine wpX_take (i := 2) (v := ?_) rfl rfl (by kernel_rfl) (fun _ _ _ h => h) (Or.inl ⟨rfl, fun wS hwS => ?_⟩) hXS ?_
          rotate_left
          · go_simp; try rfl
          simp only [List.set_cons_zero, List.set_cons_succ]
          refine wpX_take (i := 3) (v := ?_) rfl rfl (by kernel_rfl) (fun _ _ _ h => h) (Or.inl ⟨rfl, fun wS hwS => ?_⟩) hXS ?_
          rotate_left
          · go_simp; try rfl
          simp only [List.set_cons_zero, List.set_cons_succ]
          refine wpX_take (i := 4) (v := ?_) rfl rfl (by kernel_rfl) (fun _ _ _ h => h) (Or.inl ⟨rfl, fun wS hwS => ?_⟩) hXS ?_
          rotate_left
          · go_simp; try rfl
          simp only [List.set_cons_zero, List.set_cons_succ]
          refine wpX_take (i := 5) (v := ?_) rfl rfl (by kernel_rfl) (fun _ _ _ h => h) (Or.inl ⟨rfl, fun wS hwS => ?_⟩) hXS ?_
          rotate_left
          · go_simp; try rfl
          simp only [List.set_cons_zero, List.set_cons_succ]
          refine wpX_take (i := 6) (v := ?_) rfl rfl (by kernel_rfl) (fun _ _ _ h => h) (Or.inl ⟨rfl, fun wS hwS => ?_⟩) hXS ?_
          rotate_left
          · go_simp; try rfl
          simp only [List.set_cons_zero, List.set_cons_succ]
          refine wpX_take (i := 7) (v := ?_) rfl rfl (by kernel_rfl) (fun _ _ _ h => h) (Or.inl ⟨rfl, fun wS hwS => ?_⟩) hXS ?_
          rotate_left
          · go_simp; try rfl
          simp only [List.set_cons_zero, List.set_cons_succ]
          refine wpX_take (i := 8) (v := ?_) rfl rfl (by kernel_rfl) (fun _ _ _ h => h) (Or.inl ⟨rfl, fun wS hwS => ?_⟩) hXS ?_
          rotate_left
          · go_simp; try rfl
          simp only [List.set_cons_zero, List.set_cons_succ]
          refine wpX_take (i := 9) (v := ?_) rfl rfl (by kernel_rfl) (fun _ _ _ h => h) (Or.inl ⟨rfl, fun wS hwS => ?_⟩) hXS ?_
          rotate_left
          · go_simp; try rfl
          simp only [List.set_cons_zero, List.set_cons_succ]
          refine wpX_take (i := 10) (v := ?_) rfl rfl (by kernel_rfl) (fun _ _ _ h => h) (Or.inl ⟨rfl, fun wS hwS => ?_⟩) hXS ?_
          rotate_left
          · go_simp; try rfl
          simp only [List.set_cons_zero, List.set_cons_succ]
          refine wpX_take (i := 11) (v := ?_) rfl rfl (by kernel_rfl) (fun _ _ _ h => h) (Or.inl ⟨rfl, fun wS hwS => ?_⟩) hXS ?_
          rotate_left
          · go_simp; try rfl
          simp only [List.set_cons_zero, List.set_cons_succ]
          refine wpX_take (i := 12) (v := ?_) rfl rfl (by kernel_rfl) (fun _ _ _ h => h) (Or.inl ⟨rfl, fun wS hwS => ?_⟩) hXS ?_
          rotate_left
          · go_simp; try rfl
          simp only [List.set_cons_zero, List.set_cons_succ]
          refine wpX_take (i := 13) (v := ?_) rfl rfl (by kernel_rfl) (fun _ _ _ h => h) (Or.inl ⟨rfl, fun wS hwS => ?_⟩) hXS ?_
          rotate_left
          · go_simp; try rfl
          simp only [List.set_cons_zero, List.set_cons_succ]
          refine wpX_take (i := 14) (v := ?_) rfl rfl (by kernel_rfl) (fun _ _ _ h => h) (Or.inl ⟨rfl, fun wS hwS => ?_⟩) hXS ?_
          rotate_left
          · go_simp; try rfl
          simp only [List.set_cons_zero, List.set_cons_succ]
          refine wpX_take (i := 15) (v := ?_) rfl rfl (by kernel_rfl) (fun _ _ _ h => h) (Or.inl ⟨rfl, fun wS hwS => ?_⟩) hXS ?_
          rotate_left
          · go_simp; try rfl
          simp only [List.set_cons_zero, List.set_cons_succ]
          refine wpX_take (i := 16) (v := ?_) rfl rfl (by kernel_rfl) (fun _ _ _ h => h) (Or.inl ⟨rfl, fun wS hwS => ?_⟩) hXS ?_
          rotate_left
          · go_simp; try rfl
          simp only [List.set_cons_zero, List.set_cons_succ]
          refine wpX_take (i := 17) (v := ?_) rfl rfl (by kernel_rfl) (fun _ _ _ h => h) (Or.inl ⟨rfl, fun wS hwS => ?_⟩) hXS ?_
          rotate_left
          · go_simp; try rfl
          simp only [List.set_cons_zero, List.set_cons_succ]
          refine wpX_take (i := 18) (v := ?_) rfl rfl (by kernel_rfl) (fun _ _ _ h => h) (Or.inl ⟨rfl, fun wS hwS => ?_⟩) hXS ?_
          rotate_left
          · go_simp; try rfl
          simp only [List.set_cons_zero, List.set_cons_succ]
          refine wpX_take (i := 19) (v := ?_) rfl rfl (by kernel_rfl) (fun _ _ _ h => h) (Or.inl ⟨rfl, fun wS hwS => ?_⟩) hXS ?_
          rotate_left
          · go_simp; try rfl
          simp only [List.set_cons_zero, List.set_cons_succ]
          refine wpX_take (i := 20) (v := ?_) rfl rfl (by kernel_rfl) (fun _ _ _ h => h) (Or.inl ⟨rfl, fun wS hwS => ?_⟩) hXS ?_
          rotate_left
          · go_simp; try rfl
          simp only [List.set_cons_zero, List.set_cons_succ]
          refine wpX_take (i := 21) (v := ?_) rfl rfl (by kernel_rfl) (fun _ _ _ h => h) (Or.inl ⟨rfl, fun wS hwS => ?_⟩) hXS ?_
          rotate_left
          · go_simp; try rfl
          simp only [List.set_cons_zero, List.set_cons_succ]
          refine wpX_take (i := 22) (v := ?_) rfl rfl (by kernel_rfl) (fun _ _ _ h => h) (Or.inl ⟨rfl, fun wS hwS => ?_⟩) hXS ?_
          rotate_left
          · go_simp; try rfl
          simp only [List.set_cons_zero, List.set_cons_succ]
          refine wpX_done (by kernel_rfl) ?_
          clear hXS
          go_wp2_with fail
          go_roundw
          case rel => exact ⟨j + 1, by omega, by go_num, HKr.out.drew⟩
          case measure => simp [intOf]; omega
      · obtain rfl : j = X := by omega
        clear hlt
        go_wp2_with (go_at_call 13; refine (HG.out _).mono ?_; rintro e w7 ⟨rfl, hk7⟩)
        go_ret
        exact ⟨rfl, (HK6.out.t HKr.out).t hk7⟩
  · obtain ⟨rfl, rfl, rfl, rfl, rfl, rfl⟩ := HBd.out he
    have d1 : (re == 0) = false := by simpa using he
    have d2 : (re != 0) = true := by simpa using he
    clear HBd HGd he
    unfold opv at *
    go_wp2_with (go_at_call 13; refine (HG.out _).mono ?_; rintro e w7 ⟨rfl, hk7⟩)
    go_ret
    exact ⟨rfl, HK5.out.t hk7⟩
theorem back07_law (k d a b v : Int) (A : Option Addr) (n c : Nat) (f : Nat → Int) (w : World) (_ : i64ok k) (_ : i64ok d) (_ : i64ok a) (_ : i64ok b) (v0 : 0 ≤ v) (v1 : v ≤ 18446744073709551615) (_ : n ≤ 9223372036854775807) (hz : A = none → c = 0) (hf : ∀ k, k < n → 0 ≤ f k ∧ f k ≤ 18446744073709551615)
    (hr : 0 < n → ∃ b off, A = some ⟨b, off, none⟩ ∧ b < w.heap.size ∧ ∀ k, k < n → w.cell? ⟨b, off + k, none⟩ = some (.int .u64 (f k))) :
    Calls Try.prog 4 #[.agg (opv k d a b v), .slice A n c] w fun e w' => e = .returned (.bool true) ∧ KW w w' := by
  obtain ⟨l, rfl, hb, hr'⟩ := words_in hr hf
  by_cases h : 300 < (l.length : Int)
  · exact back07_goes (.bool true) k d a b v A _ c w h
  · cases hx : Oc.right k d a b v with
    | false => exact back07_no k d a b v A c l w (by omega) hr' hb hx
    | true => exact back07_yes k d a b v A c l w (by omega) hz hr' hb ⟨v0, v1⟩ hx
end Go.Proofs.Ytnpgiallgcliiaa
