/- Several texts in one. -/
import Derived.Test.YtgadkelldbibgaaVB
import Derived.Test.YtgadkelldbibgaaPF
import Derived.RegionTactic
/- Tables of least numbers: best.parts, the reference's row (layer 29). -/
namespace Go.Proofs.Ytgadkelldbibgaa
open Go.ChangeShapes Go.WideShapes Go.ChangeAt Go.RowKit
set_option linter.unusedVariables false

theorem tt_b {n c : Nat} (hn : n ≤ 300) (hc : 1 ≤ c) : 0 ≤ Ch.tt n c ∧ Ch.tt n c ≤ 45000 := by
  refine ⟨Ch.tt_nn n c hc, Int.le_trans (Ch.tt_most n c hc) ?_⟩
  by_cases h : n = 0
  · subst h; rw [Rv.tt_0]; omega
  · rw [Ch.tt_one n (by omega)]
    have : (n : Int) * ((n : Int) - 1) ≤ 300 * 299 := Int.mul_le_mul (by omega) (by omega) (by omega) (by omega)
    omega
/-- what one part comes to -/
def term (f g : Nat → Int) (n m : Nat) : Int := (m : Int) + f (n - m) + g m
theorem row_min {n c : Nat} (hn : 2 ≤ n) (hc : 2 ≤ c) (hn2 : n ≤ 300) :
    (∀ m, 1 ≤ m → m < n → Ch.tt n c ≤ term (fun k => Ch.tt k (c - 1)) (fun k => Ch.tt k c) n m) ∧ ∃ m, 1 ≤ m ∧ m < n ∧ term (fun k => Ch.tt k (c - 1)) (fun k => Ch.tt k c) n m = Ch.tt n c := by
  refine ⟨fun m h1 h2 => Ch.tt_parts n c m hc hn (by omega), ?_⟩
  obtain ⟨m, _, m1, m2, _, m4, _⟩ := Rv.sp_all n c (by omega) hn (by omega)
  exact ⟨m, m1, m2, m4.symm⟩
set_option maxRecDepth 100000 in
set_option maxHeartbeats 2000000 in
theorem parts29_any (n c N1 N2 : Nat) (A1 A2 : Option Addr) (c1 c2 : Nat) (w : World) (hn : 2 ≤ n) (hc : 2 ≤ c) (hn2 : n ≤ 300) (hN1 : n ≤ N1) (hN2 : n ≤ N2) (hN1b : N1 ≤ 1000) (hN2b : N2 ≤ 1000)
    (hr1 : Row1 w A1 N1 fun k => .int .i64 (Ch.tt k (c - 1))) (hr2 : Row1 w A2 N2 fun k => .int .i64 (Ch.tt k c)) :
    Calls Try.prog 60 #[.int .i64 n, .slice A1 N1 c1, .slice A2 N2 c2] w fun e w' => e = .returned (.int .i64 (Ch.tt n c)) ∧ KW w w' := by
  obtain ⟨hmin, m0, h01, h02, h03⟩ := row_min hn hc hn2
  have HMin := hid hmin
  have H0 := hid h03
  have HB1 := hid (fun k (h : k ≤ 300) => tt_b (n := k) (c := c - 1) h (by omega))
  have HB2 := hid (fun k (h : k ≤ 300) => tt_b (n := k) (c := c) h (by omega))
  have hb := HB2.out n hn2
  have HR1 := hid hr1
  have HR2 := hid hr2
  clear hmin h03 hr1 hr2
  have HTm : Hid (∀ m, term (fun k => Ch.tt k (c - 1)) (fun k => Ch.tt k c) n m = (m : Int) + Ch.tt (n - m) (c - 1) + Ch.tt m c) := fun m => rfl
  generalize term (fun k => Ch.tt k (c - 1)) (fun k => Ch.tt k c) n = tm at *
  generalize Ch.tt n c = t at *
  obtain ⟨b1, o1, rfl, hb1, q1⟩ := HR1.out.at_ (show n - 1 < N1 by omega)
  obtain ⟨b2, o2, rfl, hb2, q2⟩ := HR2.out.at_ (show 1 < N2 by omega)
  have z1 := HB1.out (n - 1) (by omega)
  have z2 := HB2.out 1 (by omega)
  have HV0 : Hid (1 + Ch.tt (n - 1) (c - 1) + Ch.tt 1 c = tm 1) := by rw [HTm.out 1]; exact hid rfl
  generalize Ch.tt (n - 1) (c - 1) = f1 at *
  generalize Ch.tt 1 c = g1 at *
  have L1 : (n : Int) ≤ 300 := by omega
  have L2 : (1 : Int) ≤ (n : Int) - 1 := by omega
  have L3 : (n : Int) - 1 < (N1 : Int) := by omega
  have L4 : ((n : Int) - 1).toNat = n - 1 := by omega
  have L5 : (1 : Int) < (N2 : Int) := by omega
  have L6 : (0 : Int) ≤ (n : Int) - 1 := by omega
  go_enter Try.func60, Try.ntmps60
  go_wp2_with fail
  go_region
  go_wp2_with fail
  go_loopw [7, 8] (fun v i wr => ∃ (k : Nat) (x : Int), 2 ≤ k ∧ k ≤ n ∧ i = .int .i64 k ∧ v = .int .i64 x ∧ t ≤ x ∧ x ≤ 200000 ∧ Hid (∀ j, 1 ≤ j → j < k → x ≤ tm j) ∧ Hid (KW w wr)) (fun _ i _ => n - (intOf i).toNat)
  case atStart =>
    refine ⟨2, _, Nat.le_refl _, hn, rfl, rfl, ?_, ?_, fun j h1 h2 => ?_, (KW.refl w).drew⟩
    · rw [HV0.out]; exact HMin.out 1 (by omega) (by omega)
    · omega
    · obtain rfl : j = 1 := by omega
      rw [HV0.out]; exact Int.le_refl _
  case round =>
    obtain ⟨k, x, hk2, hkn, rfl, rfl, hx1, hx2, HX, HK⟩ := hrel
    clear q1 q2
    by_cases hlt : k < n
    · obtain ⟨b1', o1', hA1, _, p1⟩ := (HR1.out.k HK.out).at_ (show n - k < N1 by omega)
      cases hA1
      obtain ⟨b2', o2', hA2, _, p2⟩ := (HR2.out.k HK.out).at_ (show k < N2 by omega)
      cases hA2
      have y1 := HB1.out (n - k) (by omega)
      have y2 := HB2.out k (by omega)
      have HTk := hid (HTm.out k)
      have HMk := HMin.out k (by omega) hlt
      rw [HTk.out] at HMk
      generalize Ch.tt (n - k) (c - 1) = fk at *
      generalize Ch.tt k c = gk at *
      have K1 : (k : Int) < (n : Int) := by omega
      have K2 : (n : Int) - k < (N1 : Int) := by omega
      have K3 : ((n : Int) - k).toNat = n - k := by omega
      have K4 : (0 : Int) ≤ (n : Int) - k := by omega
      have K5 : (k : Int) < (N2 : Int) := by omega
      have K6 : (k : Int) ≤ 300 := by omega
      go_wp2_with fail
      go_region
      go_wp2_with fail
      go_roundw
      case rel =>
        refine ⟨k + 1, min x ((k : Int) + fk + gk), by omega, by omega, by go_num, congrArg _ (by omega), by omega, by omega, fun j h1 h2 => ?_, HK.out.drew⟩
        rcases (show j < k ∨ j = k by omega) with h | rfl
        · have := HX.out j h1 h; omega
        · rw [HTk.out]; omega
      case measure => simp [intOf]; omega
    · obtain rfl : k = n := by omega
      have hx : x = t := by
        have := HX.out m0 h01 (by omega)
        rw [H0.out] at this
        omega
      subst hx
      have d : decide (k < k) = false := decide_eq_false (by omega)
      clear hlt
      go_wp2_with fail
      go_ret
      exact ⟨rfl, HK.out⟩

/-- the row of so many slots, up to k steps -/
def rowv (c k : Nat) : List Value := ints ((List.range k).map fun n => Ch.tt n c)
theorem rowv_len (c k : Nat) : (rowv c k).length = k := by simp [rowv, ints_len]
theorem rowv_succ (c k : Nat) : rowv c (k + 1) = rowv c k ++ [.int .i64 (Ch.tt k c)] := by
  unfold rowv ints
  rw [List.range_succ]
  simp
theorem Owns.rowT {w : World} {base : Nat} {v : Value} {c k : Nat} (h : Owns w base 3 v (rowv c k)) : ∃ A cp, v = .slice A k cp ∧ Row1 w A k fun i => .int .i64 (Ch.tt i c) := by
  obtain ⟨A, cp, hv, _, _, hr⟩ := h.row
  rw [rowv_len] at hv hr
  exact ⟨A, cp, hv, hr.cong fun i hi => by simp [rowv, ints, List.getD_eq_getElem?_getD, hi]⟩
set_option maxRecDepth 100000 in
set_option maxHeartbeats 4000000 in
theorem rrow29_any (l c N1 : Nat) (A1 : Option Addr) (c1 : Nat) (w : World) (hl : l ≤ 300) (hc : 1 ≤ c) (hc2 : c ≤ 12) (hN1 : 2 ≤ c → l + 1 ≤ N1) (hN1b : N1 ≤ 1000) (hr1 : 2 ≤ c → Row1 w A1 N1 fun k => .int .i64 (Ch.tt k (c - 1))) :
    Calls Try.prog 61 #[.int .i64 l, .int .i64 c, .slice A1 N1 c1] w fun e w' => ∃ v, e = .returned v ∧ Owns w' w.heap.size 3 v (rowv c (l + 1)) ∧ KW w w' := by
  have HR1 := hid hr1
  have HS := hid (fun k => rowv_succ c k)
  have HL := hid (fun k => rowv_len c k)
  have HO0 := hid (show Owns (w.alloc (.cells #[] 3)) w.heap.size 3 (.slice (some ⟨w.heap.size, 0, none⟩) 0 0) (rowv c 0) from Owns.new (xs := []) (Nat.le_refl _) (by simp))
  have HK0 := hid ((KW.refl w).alloc (.cells #[] 3))
  have HB2 := hid (fun k (h : k ≤ 300) => tt_b (n := k) (c := c) h hc)
  have HB1 : Hid (2 ≤ c → ∀ k, k ≤ 300 → 0 ≤ Ch.tt k (c - 1) ∧ Ch.tt k (c - 1) ≤ 45000) := fun h2 k h => tt_b (n := k) (c := c - 1) h (by omega)
  have HMin : Hid (∀ n, 2 ≤ n → 2 ≤ c → n ≤ 300 → _) := fun n h1 h2 h3 => row_min (n := n) (c := c) h1 h2 h3
  have HOne : Hid (∀ n : Nat, (n ≤ 1 ∨ c = 1) → Ch.tt n c = (n : Int) * ((n : Int) - 1) / 2) := fun n h => by
    rcases h with h | h
    · rcases (show n = 0 ∨ n = 1 by omega) with rfl | rfl
      · rw [Rv.tt_0]; rfl
      · rw [Rv.tt_1]; rfl
    · subst h
      by_cases h0 : n = 0
      · subst h0; rw [Rv.tt_0]; rfl
      · exact Ch.tt_one n (by omega)
  clear hr1
  have HT : Hid (∀ n m, term (fun k => Ch.tt k (c - 1)) (fun k => Ch.tt k c) n m = (m : Int) + Ch.tt (n - m) (c - 1) + Ch.tt m c) := fun n m => rfl
  have C1 : (c : Int) ≤ 12 := by omega
  have C2 : (1 : Int) ≤ (c : Int) := by omega
  have C3 : (l : Int) ≤ 300 := by omega
  go_enter Try.func61, Try.ntmps61
  go_wp2_with fail
  go_loopw [7, 8] (fun v i wr => ∃ n : Nat, n ≤ l + 1 ∧ i = .int .i64 n ∧ Hid (Owns wr w.heap.size 3 v (rowv c n)) ∧ Hid (KW w wr)) (fun _ i _ => l + 1 - (intOf i).toNat)
  case atStart => exact ⟨0, by omega, rfl, HO0, HK0⟩
  case round =>
    obtain ⟨n, hn, rfl, HO, HK⟩ := hrel
    clear HO0 HK0
    obtain ⟨Ao, co, hvo, hro⟩ := HO.out.rowT
    subst hvo
    have HRo := hid hro
    clear hro
    by_cases hlt : n ≤ l
    · have L5 : (n : Int) ≤ (l : Int) := by omega
      have L6 : (n : Int) ≤ 300 := by omega
      have HSn := hid (HS.out n)
      have hln := HL.out n
      have hbn := HB2.out n (by omega)
      have HOn := hid (HOne.out n)
      have hmul : -(300 : Int) ≤ (n : Int) * ((n : Int) - 1) ∧ (n : Int) * ((n : Int) - 1) ≤ 90000 := by
        by_cases h0 : n = 0
        · subst h0; omega
        · have h1 : (n : Int) * ((n : Int) - 1) ≤ 300 * 299 := Int.mul_le_mul (by omega) (by omega) (by omega) (by omega)
          have h2 : 0 ≤ (n : Int) * ((n : Int) - 1) := Int.mul_nonneg (by omega) (by omega)
          omega
      have hP0 : 0 ≤ (n : Int) * ((n : Int) - 1) := by
        by_cases h0 : n = 0
        · subst h0; decide
        · exact Int.mul_nonneg (by omega) (by omega)
      generalize hP : (n : Int) * ((n : Int) - 1) = P at *
      go_wp2_with fail
      go_loopw [9, 10] (fun v m wr2 => ∃ (j : Nat) (x : Int), 1 ≤ j ∧ j ≤ n + 1 ∧ m = .int .i64 j ∧ v = .int .i64 x ∧ 0 ≤ x ∧ x ≤ 200000 ∧ Hid ((j = 1 ∧ x = P / 2) ∨ (2 ≤ j ∧ 2 ≤ c ∧ j ≤ n ∧ Ch.tt n c ≤ x ∧ ∀ i, 1 ≤ i → i < j → x ≤ term (fun k => Ch.tt k (c - 1)) (fun k => Ch.tt k c) n i)) ∧ Hid (KW wr wr2)) (fun _ m _ => n + 1 - (intOf m).toNat)
      case atStart => exact ⟨1, P / 2, Nat.le_refl _, by omega, rfl, rfl, by omega, by omega, .inl ⟨rfl, rfl⟩, KW.refl wr⟩
      case round =>
        obtain ⟨j, x, hj1, hjn, rfl, rfl, hx0, hx1, HC, HK2⟩ := hrel
        by_cases hjl : j < n
        · have K1 : (j : Int) < (n : Int) := by omega
          by_cases hc1 : 2 ≤ c
          · have K2 : (1 : Int) < (c : Int) := by omega
            obtain ⟨b1, o1, rfl, hb1, q1⟩ := ((HR1.out hc1).k (HK.out.t HK2.out)).at_ (show n - j < N1 by have := hN1 hc1; omega)
            obtain ⟨b2, o2, hA2, hb2, q2⟩ := (HRo.out.k HK2.out).at_ (show j < n by omega)
            subst hA2
            have y1 := HB1.out hc1 (n - j) (by omega)
            have y2 := HB2.out j (by omega)
            have HTj := hid (HT.out n j)
            obtain ⟨hmn, m0, _, _, _⟩ := HMin.out n (by omega) hc1 (by omega)
            have hmj := hmn j hj1 hjl
            rw [HTj.out] at hmj
            have HMj := hid hmj
            have hN1' := hN1 hc1
            clear hmn hmj
            generalize hfj : Ch.tt (n - j) (c - 1) = fj at *
            generalize hgj : Ch.tt j c = gj at *
            have K3 : (n : Int) - j < (N1 : Int) := by omega
            have K4 : ((n : Int) - j).toNat = n - j := by omega
            have K5 : (0 : Int) ≤ (n : Int) - j := by omega
            have K6 : (j : Int) ≤ 300 := by omega
            clear hfj hgj
            by_cases hj : j = 1
            · have e1 : ((j : Int) == 1) = true := by rw [beq_iff_eq]; omega
              have e2 : (j == 1) = true := by rw [beq_iff_eq]; exact hj
              clear hj
              go_wp2_with fail
              go_region
              go_wp2_with fail
              go_roundw
              case rel =>
                refine ⟨j + 1, (j : Int) + fj + gj, by omega, by omega, by go_num, rfl, by omega, by omega, .inr ⟨by omega, hc1, by omega, HMj.out, fun i h1 h2 => ?_⟩, HK2.out.drew⟩
                have e2' := eq_of_beq e2
                obtain rfl : i = j := by omega
                rw [HTj.out]; exact Int.le_refl _
              case measure => simp [intOf]; omega
            · have e1 : ((j : Int) == 1) = false := by rw [beq_eq_false_iff_ne]; omega
              have e2 : (j == 1) = false := by rw [beq_eq_false_iff_ne]; exact hj
              obtain ⟨_, _, _, hx2, hx3⟩ := HC.out.resolve_left (fun h => hj h.1)
              have HX3 := hid hx3
              have HX2 := hid hx2
              clear hj hx3 hx2
              by_cases hlt2 : (j : Int) + fj + gj < x
              · go_wp2_with fail
                go_region
                go_wp2_with fail
                go_roundw
                case rel =>
                  refine ⟨j + 1, (j : Int) + fj + gj, by omega, by omega, by go_num, rfl, by omega, by omega, .inr ⟨by omega, hc1, by omega, HMj.out, fun i h1 h2 => ?_⟩, HK2.out.drew⟩
                  rcases (show i < j ∨ i = j by omega) with h | rfl
                  · have := HX3.out i h1 h; omega
                  · rw [HTj.out]; exact Int.le_refl _
                case measure => simp [intOf]; omega
              · have d2 : decide ((j : Int) + fj + gj < x) = false := decide_eq_false hlt2
                go_wp2_with fail
                go_region
                go_wp2_with fail
                go_roundw
                case rel =>
                  refine ⟨j + 1, x, by omega, by omega, by go_num, rfl, hx0, hx1, .inr ⟨by omega, hc1, by omega, HX2.out, fun i h1 h2 => ?_⟩, HK2.out.drew⟩
                  rcases (show i < j ∨ i = j by omega) with h | rfl
                  · exact HX3.out i h1 h
                  · rw [HTj.out]; omega
                case measure => simp [intOf]; omega
          · obtain rfl : c = 1 := by omega
            have hxe : x = Ch.tt n 1 := by
              rcases HC.out with ⟨_, h⟩ | ⟨_, h, _⟩
              · rw [h, HOn.out (.inr rfl)]
              · omega
            have HXe := hid hxe
            have HOw := hid (HO.out.on HK2.out)
            have HKw := hid (HK.out.t HK2.out)
            clear hxe
            go_wp2_with (at_builtin; refine wpList_app1 rfl sliceInt1 rfl (v := .slice Ao n co) (base := w.heap.size) (u := .int .i64 x) (xs := rowv 1 n) rfl rfl rfl HOw.out HKw.out.size (by rw [hln]; omega) (by rw [hln]; omega) ?_; intro v' w3 hown hgrow)
            rw [HXe.out, ← HSn.out] at hown
            have HO3 := hid hown
            have HK3 : Hid (KW w w3) := Below.trans HKw.out hgrow
            clear hown hgrow
            go_roundw
            case rel => exact ⟨n + 1, by omega, by go_num, HO3, HK3⟩
            case measure => simp [intOf]; omega
        · have hxe : x = Ch.tt n c := by
            rcases HC.out with ⟨h1, h2⟩ | ⟨h1, h2, h3, h4, h5⟩
            · rw [h2, HOn.out (.inl (by omega))]
            · obtain ⟨_, m0, m1, m2, m3⟩ := HMin.out n (by omega) h2 (by omega)
              have := h5 m0 m1 (by omega)
              rw [m3] at this
              omega
          have HXe := hid hxe
          have HOw := hid (HO.out.on HK2.out)
          have HKw := hid (HK.out.t HK2.out)
          have d : decide (j < n) = false := decide_eq_false hjl
          clear hxe hjl
          go_wp2_with (at_builtin; refine wpList_app1 rfl sliceInt1 rfl (v := .slice Ao n co) (base := w.heap.size) (u := .int .i64 x) (xs := rowv c n) rfl rfl rfl HOw.out HKw.out.size (by rw [hln]; omega) (by rw [hln]; omega) ?_; intro v' w3 hown hgrow)
          rw [HXe.out, ← HSn.out] at hown
          have HO3 := hid hown
          have HK3 : Hid (KW w w3) := Below.trans HKw.out hgrow
          clear hown hgrow
          go_roundw
          case rel => exact ⟨n + 1, by omega, by go_num, HO3, HK3⟩
          case measure => simp [intOf]; omega
    · obtain rfl : n = l + 1 := by omega
      have d : decide (((l + 1 : Nat) : Int) ≤ (l : Int)) = false := decide_eq_false (by omega)
      clear hlt
      go_wp2_with fail
      go_ret
      exact ⟨_, rfl, HO.out, HK.out⟩
end Go.Proofs.Ytgadkelldbibgaa

/- The tables of layer 29: best.Table, the reference's Table, and both Leasts. -/
namespace Go.Proofs.Ytgadkelldbibgaa
open Go.ChangeShapes Go.WideShapes Go.ChangeAt Go.RowKit
set_option linter.unusedVariables false

theorem sliceRows : SliceOfS Try.prog 54 22 (.slice none 0 0) 1 24 := ⟨Try.underlying54, by kernel_rfl, rfl, by omega⟩
theorem Owns.apart2 {w : World} {B1 B2 : Nat} {v1 v2 : Value} {xs1 xs2 : List Value} (h1 : Owns w B1 3 v1 xs1) (h2 : Owns w B2 22 v2 xs2) : ∀ b, v1.ownBlock = some b → ¬ v2.ownBlock = some b := by
  intro b hb hu
  rcases h1.2 with ⟨rfl, _⟩ | ⟨g1, cap, cur, rfl, _, hg1, _⟩
  · cases hb
  · rcases h2.2 with ⟨rfl, _⟩ | ⟨g2, cap2, cur2, rfl, _, hg2, _⟩
    · cases hu
    · simp only [Value.ownBlock, Option.some.injEq] at hb hu
      subst hb
      subst hu
      rw [hg1] at hg2
      simp at hg2
/-- the rows of a table: of 1, 2 .. slots -/
structure Rows29 (W : World) (base l s : Nat) (v : Value) (vs : List Value) : Prop where
  len : vs.length = s
  ow : Owns W base 22 v vs
  rows : ∀ k, k < s → Owns W base 3 (vs.getD k undef) (rowv (k + 1) (l + 1))
theorem Rows29.kw {W W' : World} {base l s : Nat} {v : Value} {vs : List Value} (h : Rows29 W base l s v vs) (k : KW W W') : Rows29 W' base l s v vs := ⟨h.len, h.ow.on k, fun i hi => (h.rows i hi).on k⟩
theorem Rows29.at_ {W : World} {base l s : Nat} {v : Value} {vs : List Value} (h : Rows29 W base l s v vs) {k : Nat} (hk : k < s) :
    ∃ A cp, vs.getD k undef = .slice A (l + 1) cp ∧ Row1 W A (l + 1) fun i => .int .i64 (Ch.tt i (k + 1)) := (h.rows k hk).rowT
theorem Rows29.sl {W : World} {base l s : Nat} {v : Value} {vs : List Value} (h : Rows29 W base l s v vs) : ∃ A cp, v = .slice A s cp ∧ Row1 W A s fun i => vs.getD i undef := by
  obtain ⟨A, cp, hv, _, _, hr⟩ := h.ow.row
  rw [h.len] at hv hr
  exact ⟨A, cp, hv, hr⟩
section
variable {ops : Array Oper} {Q : Exit → Act → World → Prop}
/-- one row more -/
theorem rows29_app {rest : List Oper} {o : Oper} {a : Act} (hgd : o.guard = none) {s x : Operand} (ho : o.op = .call { callee := .builtin .append, args := #[s, x], argTypes := #[54, 54] })
    {W : World} {base l k : Nat} {v u : Value} {vs : List Value} (hR : Rows29 W base l k v vs) (hu1 : u.oneCell' = true) (hU : Owns W base 3 u (rowv (k + 1) (l + 1))) (hb : base ≤ W.heap.size) (hs : a.eval s = v) (hx : a.eval x = .slice (some ⟨W.heap.size, 0, none⟩) 1 1) (hk : k ≤ 1000)
    (h : ∀ v' vs' w', Hid (Rows29 w' base l (k + 1) v' vs') → Hid (vs' = vs ++ [u]) → Hid (Keep (fun i => base ≤ i) W w') → wpList Try.prog ops Q rest (a.put o.dst v') w') :
    wpList Try.prog ops Q (o :: rest) a (W.alloc (.cells #[u] 22)) := by
  have hR1 := hR.kw ((KW.refl W).alloc (.cells #[u] 22))
  have hU1 := hU.alloc (.cells #[u] 22)
  refine wpList_appA hgd sliceRows ho (W := W.alloc (.cells #[u] 22)) (base := base) (k := 1) (n := vs.length) (v := v) (u := .slice (some ⟨W.heap.size, 0, none⟩) 1 1) (xs := vs) (ys := [u]) hs hx
    (Holds.new (w := W) (t := 22) (k := 1) (size := 1) (c := 1) (ys := [u]) rfl (by simp [hu1])) hR1.ow (by simp; omega) (by rw [hR.len]; omega) (by rw [hR.len]; omega) fun v5 w5 hown5 hkeep5 hv5 => ?_
  have hlen : (vs ++ [u]).length = k + 1 := by rw [List.length_append, hR.len]; rfl
  have hO5 : Owns w5 base 22 v5 (vs ++ [u]) := by
    unfold Owns
    rw [List.length_append]
    exact hown5
  refine h v5 (vs ++ [u]) w5 (hid ⟨hlen, hO5, fun i hi => ?_⟩) rfl (hid (((Keep.refl _ W).alloc _).t (hkeep5.mono fun i _ hi => (hR1.ow.lt hi).1)))
  have hg : ∀ {x : Value} {xs : List Value}, Owns (W.alloc (.cells #[u] 22)) base 3 x xs → Owns w5 base 3 x xs := fun hx => hkeep5.owns hx fun b hb => hx.apart2 hR1.ow b hb
  by_cases e : i < k
  · have : (vs ++ [u]).getD i undef = vs.getD i undef := by
      rw [List.getD_eq_getElem?_getD, List.getD_eq_getElem?_getD, List.getElem?_append_left (by rw [hR.len]; exact e)]
    rw [this]
    exact hg (hR1.rows i e)
  · obtain rfl : i = k := by omega
    have : (vs ++ [u]).getD i undef = u := by
      rw [List.getD_eq_getElem?_getD, List.getElem?_append_right (by rw [hR.len]; omega), hR.len]
      simp
    rw [this]
    exact hg hU1
end
def TabP (l s : Nat) (w : World) (e : Ending) (w' : World) : Prop := ∃ v vs, e = .returned (.tuple #[v, .int .i64 0]) ∧ Rows29 w' w.heap.size l s v vs ∧ KW w w'
theorem Rows29.nil (W : World) (base l : Nat) : Rows29 W base l 0 (.slice none 0 0) [] := ⟨rfl, Owns.nil _ _ _, fun k hk => absurd hk (by omega)⟩
theorem table_no (l s : Int) (w : World) (h : l < 0 ∨ 300 < l ∨ s < 1 ∨ 12 < s) :
    Calls Try.prog 32 #[.int .i64 l, .int .i64 s] w fun e w' => e = .returned (.tuple #[.slice none 0 0, .int .i64 2]) ∧ w = w' := by
  have hx : l < 0 ∨ (decide (l < 0) = false ∧ 300 < l) ∨ (decide (l < 0) = false ∧ decide (300 < l) = false ∧ s < 1) ∨ (decide (l < 0) = false ∧ decide (300 < l) = false ∧ decide (s < 1) = false ∧ 12 < s) := by
    simp only [decide_eq_false_iff_not]
    omega
  clear h
  rcases hx with h0 | ⟨d0, h1⟩ | ⟨d0, d1, h2⟩ | ⟨d0, d1, d2, h3⟩
  all_goals
    go_enter Try.func32, Try.ntmps32
    go_wp2_with fail
    go_ret2
    exact ⟨rfl, rfl⟩
theorem rtable_no (l s : Int) (w : World) (h : l < 0 ∨ 300 < l ∨ s < 1 ∨ 12 < s) :
    Calls Try.prog 33 #[.int .i64 l, .int .i64 s] w fun e w' => e = .returned (.tuple #[.slice none 0 0, .int .i64 2]) ∧ w = w' := by
  have hx : l < 0 ∨ (decide (l < 0) = false ∧ 300 < l) ∨ (decide (l < 0) = false ∧ decide (300 < l) = false ∧ s < 1) ∨ (decide (l < 0) = false ∧ decide (300 < l) = false ∧ decide (s < 1) = false ∧ 12 < s) := by
    simp only [decide_eq_false_iff_not]
    omega
  clear h
  rcases hx with h0 | ⟨d0, h1⟩ | ⟨d0, d1, h2⟩ | ⟨d0, d1, d2, h3⟩
  all_goals
    go_enter Try.func33, Try.ntmps33
    go_wp2_with fail
    go_ret2
    exact ⟨rfl, rfl⟩
set_option maxRecDepth 100000 in
set_option maxHeartbeats 4000000 in
theorem rtable_yes (l s : Nat) (w : World) (hl : l ≤ 300) (hs : 1 ≤ s) (hs2 : s ≤ 12) :
    Calls Try.prog 33 #[.int .i64 l, .int .i64 s] w (TabP l s w) := by
  have HRow := hid (fun (c N1 : Nat) A1 c1 W hc hc2 hN1 hN1b hr1 => rrow29_any l c N1 A1 c1 W hl hc hc2 hN1 hN1b hr1)
  have d0 : decide ((l : Int) < 0) = false := decide_eq_false (by omega)
  have d1 : decide (300 < (l : Int)) = false := decide_eq_false (by omega)
  have d2 : decide ((s : Int) < 1) = false := decide_eq_false (by omega)
  have d3 : decide (12 < (s : Int)) = false := decide_eq_false (by omega)
  have L1 : (l : Int) ≤ 300 := by omega
  have L2 : (s : Int) ≤ 12 := by omega
  unfold TabP
  have HK0 : Hid (KW w ((w.alloc (.cells #[] 22)).alloc (.cells #[] 3))) := ((KW.refl w).alloc _).alloc _
  have HR0 : Hid (Rows29 ((w.alloc (.cells #[] 22)).alloc (.cells #[] 3)) w.heap.size l 0 (.slice (some ⟨w.heap.size, 0, none⟩) 0 0) []) :=
    ⟨rfl, (Owns.new (w := w) (e := 22) (xs := []) (Nat.le_refl _) (by simp)).alloc _, fun k hk => absurd hk (by omega)⟩
  go_enter Try.func33, Try.ntmps33
  go_wp2_with fail
  go_loopw [6, 7, 8] (fun v u i wr => ∃ (k : Nat) (vs : List Value) (A1 : Option Addr) (N1 c1 : Nat), 1 ≤ k ∧ k ≤ s + 1 ∧ i = .int .i64 k ∧ u = .slice A1 N1 c1 ∧ N1 ≤ 1000 ∧ Hid (2 ≤ k → l + 1 ≤ N1) ∧ Hid (2 ≤ k → Row1 wr A1 N1 fun j => .int .i64 (Ch.tt j (k - 1))) ∧ Hid (Rows29 wr w.heap.size l (k - 1) v vs) ∧ Hid (KW w wr)) (fun _ _ i _ => s + 1 - (intOf i).toNat)
  case atStart => exact ⟨1, [], some ⟨w.heap.size + 1, 0, none⟩, 0, 0, Nat.le_refl _, by omega, rfl, by first | rfl | simp, by omega, fun h => absurd h (by omega), fun h => absurd h (by omega), HR0, HK0⟩
  case round =>
    obtain ⟨k, vs, A1, N1, c1, hk1, hks, rfl, rfl, hN1, HN1, HR1, HRs, HK⟩ := hrel
    clear HR0 HK0
    obtain ⟨Ar, cpr, hvr, _⟩ := HRs.out.sl
    subst hvr
    by_cases hlt : k ≤ s
    · have L5 : (k : Int) ≤ (s : Int) := by omega
      go_wp2_with fail
      refine (HRow.out k N1 A1 c1 _ hk1 (by omega) HN1.out hN1 HR1.out).mono ?_
      rintro e w1 ⟨v1, rfl, ho1, hk2⟩
      obtain ⟨A2, c2, hv2, hr2⟩ := ho1.rowT
      subst hv2
      have HRs1 := hid (HRs.out.kw hk2)
      have HK1 := hid (HK.out.t hk2)
      have HU := hid (ho1.base HK.out.size)
      have ek : k - 1 + 1 = k := by omega
      have HU' : Hid (Owns w1 w.heap.size 3 (.slice A2 (l + 1) c2) (rowv (k - 1 + 1) (l + 1))) := by rw [ek]; exact HU
      clear ho1 hk2 hr2
      go_wp2_with (at_builtin; refine rows29_app rfl rfl HRs1.out rfl HU'.out HK1.out.size rfl rfl (by omega) ?_; intro v5 vs5 w5 HR5 E5 HK5)
      rw [ek] at HR5
      obtain ⟨A3, c3, hA3, hr3⟩ := HR5.out.at_ (show k - 1 < k by omega)
      have hu : vs5.getD (k - 1) undef = .slice A2 (l + 1) c2 := by
        rw [E5.out, List.getD_eq_getElem?_getD, List.getElem?_append_right (by rw [HRs1.out.len]; omega), HRs1.out.len]
        simp
      rw [hu] at hA3
      cases hA3
      rw [ek] at hr3
      have HR6 := hid hr3
      have HK6 : Hid (KW w w5) := HK1.out.kept HK5.out fun i hi => hi
      clear hu hr3
      go_roundw
      case rel => exact ⟨k + 1, vs5, A2, l + 1, c2, by omega, by omega, by go_num, rfl, by omega, fun _ => Nat.le_refl _, fun _ => by rw [Nat.add_sub_cancel]; exact HR6.out, by rw [Nat.add_sub_cancel]; exact HR5, HK6⟩
      case measure => simp [intOf]; omega
    · obtain rfl : k = s + 1 := by omega
      have d : decide (((s + 1 : Nat) : Int) ≤ (s : Int)) = false := decide_eq_false (by omega)
      clear hlt
      go_wp2_with fail
      go_ret2
      exact ⟨_, vs, rfl, by rw [Nat.add_sub_cancel] at HRs; exact HRs.out, HK.out⟩
end Go.Proofs.Ytgadkelldbibgaa

/- best.Table, and both Leasts (layer 29). -/
namespace Go.Proofs.Ytgadkelldbibgaa
open Go.ChangeShapes Go.WideShapes Go.ChangeAt Go.RowKit
set_option linter.unusedVariables false

set_option maxRecDepth 100000 in
set_option maxHeartbeats 4000000 in
theorem table_yes (l s : Nat) (w : World) (hl : l ≤ 300) (hs : 1 ≤ s) (hs2 : s ≤ 12) :
    Calls Try.prog 32 #[.int .i64 l, .int .i64 s] w (TabP l s w) := by
  have d0 : decide ((l : Int) < 0) = false := decide_eq_false (by omega)
  have d1 : decide (300 < (l : Int)) = false := decide_eq_false (by omega)
  have d2 : decide ((s : Int) < 1) = false := decide_eq_false (by omega)
  have d3 : decide (12 < (s : Int)) = false := decide_eq_false (by omega)
  have L1 : (l : Int) ≤ 300 := by omega
  have L2 : (s : Int) ≤ 12 := by omega
  unfold TabP
  have HK0 := hid (KW.refl w)
  have HR0 := hid (Rows29.nil w w.heap.size l)
  go_enter Try.func32, Try.ntmps32
  go_wp2_with fail
  go_loopw [6, 25] (fun v i wr => ∃ (k : Nat) (vs : List Value), k ≤ s ∧ i = .int .i64 k ∧ Hid (Rows29 wr w.heap.size l k v vs) ∧ Hid (KW w wr)) (fun _ i _ => s - (intOf i).toNat)
  case atStart => exact ⟨0, [], by omega, rfl, HR0, HK0⟩
  case round =>
    obtain ⟨k, vs, hks, rfl, HRs, HK⟩ := hrel
    clear HR0 HK0
    obtain ⟨Ar, cpr, hvr, hrr⟩ := HRs.out.sl
    subst hvr
    have HRr := hid hrr
    clear hrr
    by_cases hlt : k < s
    · have L5 : (k : Int) < (s : Int) := by omega
      have HS := hid (fun n => rowv_succ (k + 1) n)
      have HL := hid (fun n => rowv_len (k + 1) n)
      have HO0 := hid (show Owns wr wr.heap.size 3 (.slice none 0 0) (rowv (k + 1) 0) from Owns.nil _ _ _)
      have HKr0 := hid (KW.refl wr)
      go_wp2_with fail
      go_loopw [8, 30] (fun v i wr2 => ∃ n : Nat, n ≤ l + 1 ∧ i = .int .i64 n ∧ Hid (Owns wr2 wr.heap.size 3 v (rowv (k + 1) n)) ∧ Hid (KW wr wr2)) (fun _ i _ => l + 1 - (intOf i).toNat)
      case atStart => exact ⟨0, by omega, rfl, HO0, HKr0⟩
      case round =>
        obtain ⟨n, hn, rfl, HO, HK2⟩ := hrel
        clear HO0 HKr0
        obtain ⟨Ao, co, hvo, hro⟩ := HO.out.rowT
        subst hvo
        have HRo := hid hro
        clear hro
        by_cases hlt2 : n < l + 1
        · have K1 : (n : Int) < (l : Int) + 1 := by omega
          have K2 : (n : Int) ≤ 300 := by omega
          have HSn := hid (HS.out n)
          have hln := HL.out n
          have HKk := HK2.out.size
          by_cases hn2 : n < 2
          · have htt : Ch.tt n (k + 1) = 0 := by
              rcases (show n = 0 ∨ n = 1 by omega) with rfl | rfl
              · exact Rv.tt_0 _
              · exact Rv.tt_1 _
            have HTt := hid htt
            have K3 : (n : Int) < 2 := by omega
            clear htt
            go_wp2_with (at_builtin; refine wpList_app1 rfl sliceInt1 rfl (v := .slice Ao n co) (u := .int .i64 0) (xs := rowv (k + 1) n) rfl rfl rfl HO.out HKk (by rw [hln]; omega) (by rw [hln]; omega) ?_; intro v' w3 hown hgrow)
            rw [← HTt.out, ← HSn.out] at hown
            have HO3 := hid hown
            have HK3 := hid (Below.trans HK2.out hgrow)
            clear hown hgrow
            go_roundw
            case rel => exact ⟨n + 1, by omega, by go_num, HO3, HK3⟩
            case measure => simp [intOf]; omega
          · have d4 : decide (n < 2) = false := decide_eq_false hn2
            by_cases hk0 : k = 0
            · have e0 : ((k : Int) == 0) = true := by rw [beq_iff_eq]; omega
              have e0' : (k == 0) = true := by rw [beq_iff_eq]; exact hk0
              have htt : Ch.tt n (k + 1) = (n : Int) * ((n : Int) - 1) / 2 := by rw [hk0]; exact Ch.tt_one n (by omega)
              have hP1 : (n : Int) * ((n : Int) - 1) ≤ 300 * 299 := Int.mul_le_mul (by omega) (by omega) (by omega) (by omega)
              have hP0 : 0 ≤ (n : Int) * ((n : Int) - 1) := Int.mul_nonneg (by omega) (by omega)
              have HTt := hid htt
              clear htt hk0
              generalize hP : (n : Int) * ((n : Int) - 1) = P at *
              go_wp2_with (at_builtin; refine wpList_app1 rfl sliceInt1 rfl (v := .slice Ao n co) (u := .int .i64 (P / 2)) (xs := rowv (k + 1) n) rfl rfl rfl HO.out HKk (by rw [hln]; omega) (by rw [hln]; omega) ?_; intro v' w3 hown hgrow)
              rw [← HTt.out, ← HSn.out] at hown
              have HO3 := hid hown
              have HK3 := hid (Below.trans HK2.out hgrow)
              clear hown hgrow
              go_roundw
              case rel => exact ⟨n + 1, by omega, by go_num, HO3, HK3⟩
              case measure => simp [intOf]; omega
            · have e0 : ((k : Int) == 0) = false := by rw [beq_eq_false_iff_ne]; omega
              have e0' : (k == 0) = false := by rw [beq_eq_false_iff_ne]; exact hk0
              obtain ⟨A1, c1, hA1, hr1⟩ := HRs.out.at_ (show k - 1 < k by omega)
              obtain ⟨br, ofr, hAr, hbr, hcr⟩ := (HRr.out.k HK2.out).at_ (show k - 1 < k by omega)
              rw [hA1] at hcr
              rw [show k - 1 + 1 = k by omega] at hr1
              subst hAr
              have HP := hid (parts29_any n (k + 1) (l + 1) n A1 Ao c1 co _ (by omega) (by omega) (by omega) (by omega) (Nat.le_refl _) (by omega) (by omega) (by rw [Nat.add_sub_cancel]; exact hr1.k HK2.out) HRo.out)
              have K3 : (0 : Int) ≤ (k : Int) - 1 := by omega
              have K4 : ((k : Int) - 1).toNat = k - 1 := by omega
              have K5 : (k : Int) - 1 < (k : Int) := by omega
              have K6 : (k : Int) ≤ 12 := by omega
              clear hr1 hA1
              generalize Ch.tt n (k + 1) = t at *
              go_wp2_with fail
              refine HP.out.mono ?_
              rintro e w3 ⟨rfl, hk3⟩
              have HO3 := hid (HO.out.on hk3)
              have HK3 := hid (HK2.out.t hk3)
              have HKk3 := HK3.out.size
              clear hk3
              go_wp2_with (at_builtin; refine wpList_app1 rfl sliceInt1 rfl (v := .slice Ao n co) (u := .int .i64 t) (xs := rowv (k + 1) n) rfl rfl rfl HO3.out HKk3 (by rw [hln]; omega) (by rw [hln]; omega) ?_; intro v' w4 hown hgrow)
              rw [← HSn.out] at hown
              have HO4 := hid hown
              have HK4 := hid (Below.trans HK3.out hgrow)
              clear hown hgrow
              go_roundw
              case rel => exact ⟨n + 1, by omega, by go_num, HO4, HK4⟩
              case measure => simp [intOf]; omega
        · obtain rfl : n = l + 1 := by omega
          have d : decide (((l + 1 : Nat) : Int) < (l : Int) + 1) = false := decide_eq_false (by omega)
          have HRs1 := hid (HRs.out.kw HK2.out)
          have HK1 := hid (HK.out.t HK2.out)
          have HU := hid (HO.out.base HK.out.size)
          clear hlt2
          go_wp2_with (at_builtin; refine rows29_app rfl rfl HRs1.out rfl HU.out HK1.out.size rfl rfl (by omega) ?_; intro v5 vs5 w5 HR5 E5 HK5)
          have HK6 : Hid (KW w w5) := HK1.out.kept HK5.out fun i hi => hi
          go_roundw
          case rel => exact ⟨k + 1, vs5, by omega, by go_num, HR5, HK6⟩
          case measure => simp [intOf]; omega
    · obtain rfl : k = s := by omega
      have d : decide (k < k) = false := decide_eq_false (by omega)
      clear hlt
      go_wp2_with fail
      go_ret2
      exact ⟨_, vs, rfl, HRs.out, HK.out⟩
theorem least29_no (l s : Int) (w : World) (h : l < 0 ∨ 300 < l ∨ s < 1 ∨ 12 < s) :
    Calls Try.prog 30 #[.int .i64 l, .int .i64 s] w fun e w' => e = .returned (.tuple #[.int .i64 0, .int .i64 2]) ∧ KW w w' := by
  have H := hid (fun W => table_no l s W h)
  clear h
  have hk := KW.refl w
  go_enter Try.func30, Try.ntmps30
  go_wp2_with fail
  refine (H.out _).mono ?_
  rintro e w1 ⟨rfl, rfl⟩
  go_wp2_with fail
  go_ret2
  exact ⟨rfl, hk⟩
theorem rleast29_no (l s : Int) (w : World) (h : l < 0 ∨ 300 < l ∨ s < 1 ∨ 12 < s) :
    Calls Try.prog 31 #[.int .i64 l, .int .i64 s] w fun e w' => e = .returned (.tuple #[.int .i64 0, .int .i64 2]) ∧ KW w w' := by
  have H := hid (fun W => rtable_no l s W h)
  clear h
  have hk := KW.refl w
  go_enter Try.func31, Try.ntmps31
  go_wp2_with fail
  refine (H.out _).mono ?_
  rintro e w1 ⟨rfl, rfl⟩
  go_wp2_with fail
  go_ret2
  exact ⟨rfl, hk⟩
theorem least29_yes (l s : Nat) (w : World) (hl : l ≤ 300) (hs : 1 ≤ s) (hs2 : s ≤ 12) :
    Calls Try.prog 30 #[.int .i64 l, .int .i64 s] w fun e w' => e = .returned (.tuple #[.int .i64 (Ch.tt l s), .int .i64 0]) ∧ KW w w' := by
  have H := hid (fun W => table_yes l s W hl hs hs2)
  unfold TabP at H
  go_enter Try.func30, Try.ntmps30
  go_wp2_with fail
  refine (H.out _).mono ?_
  rintro e w1 ⟨v, vs, rfl, hR, hk⟩
  obtain ⟨A, cp, rfl, hr⟩ := hR.sl
  obtain ⟨A1, c1, hA1, hr1⟩ := hR.at_ (show s - 1 < s by omega)
  obtain ⟨b, off, rfl, hb, hc⟩ := hr.at_ (show s - 1 < s by omega)
  rw [hA1] at hc
  rw [show s - 1 + 1 = s by omega] at hr1
  obtain ⟨b1, o1, rfl, hb1, hc1⟩ := hr1.at_ (show l < l + 1 by omega)
  have K3 : (0 : Int) ≤ (s : Int) - 1 := by omega
  have K4 : ((s : Int) - 1).toNat = s - 1 := by omega
  have K5 : (s : Int) - 1 < (s : Int) := by omega
  have K6 : (s : Int) ≤ 12 := by omega
  have K7 : (l : Int) < (l : Int) + 1 := by omega
  clear hA1 hr hr1 hR

  go_wp2_with fail
  go_ret2
  exact ⟨rfl, hk⟩
theorem rleast29_yes (l s : Nat) (w : World) (hl : l ≤ 300) (hs : 1 ≤ s) (hs2 : s ≤ 12) :
    Calls Try.prog 31 #[.int .i64 l, .int .i64 s] w fun e w' => e = .returned (.tuple #[.int .i64 (Ch.tt l s), .int .i64 0]) ∧ KW w w' := by
  have H := hid (fun W => rtable_yes l s W hl hs hs2)
  unfold TabP at H
  go_enter Try.func31, Try.ntmps31
  go_wp2_with fail
  refine (H.out _).mono ?_
  rintro e w1 ⟨v, vs, rfl, hR, hk⟩
  obtain ⟨A, cp, rfl, hr⟩ := hR.sl
  obtain ⟨A1, c1, hA1, hr1⟩ := hR.at_ (show s - 1 < s by omega)
  obtain ⟨b, off, rfl, hb, hc⟩ := hr.at_ (show s - 1 < s by omega)
  rw [hA1] at hc
  rw [show s - 1 + 1 = s by omega] at hr1
  obtain ⟨b1, o1, rfl, hb1, hc1⟩ := hr1.at_ (show l < l + 1 by omega)
  have K3 : (0 : Int) ≤ (s : Int) - 1 := by omega
  have K4 : ((s : Int) - 1).toNat = s - 1 := by omega
  have K5 : (s : Int) - 1 < (s : Int) := by omega
  have K6 : (s : Int) ≤ 12 := by omega
  have K7 : (l : Int) < (l : Int) + 1 := by omega
  clear hA1 hr hr1 hR

  go_wp2_with fail
  go_ret2
  exact ⟨rfl, hk⟩
end Go.Proofs.Ytgadkelldbibgaa
