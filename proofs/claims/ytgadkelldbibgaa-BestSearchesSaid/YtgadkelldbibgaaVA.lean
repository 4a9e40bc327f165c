/- Several texts in one. -/
import Derived.Test.YtgadkelldbibgaaTT
import Derived.Test.YtgadkelldbibgaaPZ
import Derived.Test.YtgadkelldbibgaaQQ
import Derived.RegionTactic
/- What revolve.look sees. -/
namespace Go.Proofs.Ytgadkelldbibgaa
open Go.ChangeShapes Go.WideShapes Go.ChangeAt Go.RowKit
set_option linter.unusedVariables false

/-- a view, by its cells -/
def vw (a p : Int) (v : Value) (e B s f c : Int) : Array Value := #[.int .i64 a, .int .i64 p, v, .int .i64 e, .int .i64 B, .int .i64 s, .int .i64 f, .int .i64 c]
def vf (a p : Int) (v : Value) (e B s f c : Int) (i : Nat) : Value := (vw a p v e B s f c).getD i undef
theorem vw_size (a p : Int) (v : Value) (e B s f c : Int) : (vw a p v e B s f c).size = 8 := rfl
theorem vw_get (a p : Int) (v : Value) (e B s f c : Int) (i : Nat) (hi : i < 8) : (vw a p v e B s f c)[i]? = some (vf a p v e B s f c i) := by
  rcases (show i = 0 ∨ i = 1 ∨ i = 2 ∨ i = 3 ∨ i = 4 ∨ i = 5 ∨ i = 6 ∨ i = 7 by omega) with rfl | rfl | rfl | rfl | rfl | rfl | rfl | rfl <;> rfl
theorem vf_one (a p : Int) (A : Option Addr) (n k : Nat) (e B s f c : Int) (i : Nat) (hi : i < 8) : (vf a p (.slice A n k) e B s f c i).oneCell' = true := by
  rcases (show i = 0 ∨ i = 1 ∨ i = 2 ∨ i = 3 ∨ i = 4 ∨ i = 5 ∨ i = 6 ∨ i = 7 by omega) with rfl | rfl | rfl | rfl | rfl | rfl | rfl | rfl <;> rfl
theorem vf_set {a p : Int} {v : Value} {e B s f c : Int} (k : Nat) (x : Value) (g : Nat → Value) (h0 : g k = x) (h : ∀ i, i < 8 → i ≠ k → g i = vf a p v e B s f c i) : ∀ i, i < 8 → (if i = k then x else vf a p v e B s f c i) = g i := fun i hi => by
  by_cases c : i = k
  · subst c; rw [if_pos rfl, h0]
  · rw [if_neg c, h i hi c]
theorem vw_row {w : World} {b : Nat} {a p : Int} {v : Value} {e B s f c : Int} (h : w.rowIs b 67 8 (vf a p v e B s f c)) : w.heap[b]? = some (.cells (vw a p v e B s f c) 67 (0, 0)) := by
  rw [whole h]
  rfl
/-- the boxes of look, as they are made -/
def lk0 (w : World) (a p : Int) (v : Value) (q : Int) : World := ((w.alloc (.cells #[.int .i64 a, .int .i64 p, v] 24)).alloc (.cells #[.int .i64 0, .int .i64 0, .slice none 0 0, .int .i64 0, .int .i64 0, .int .i64 0, .int .i64 0, .int .i64 0] 67)).alloc (.cells #[.int .i64 a, .int .i64 p, v, .int .i64 q, .int .i64 (-1), .int .i64 0, .int .i64 0, .int .i64 (-1)] 67)
theorem lk0_kw (w : World) (a p : Int) (v : Value) (q : Int) : KW w (lk0 w a p v q) := (((KW.refl w).alloc _).alloc _).alloc _
theorem lk0_r1 (w : World) (a p : Int) (v : Value) (q : Int) : (lk0 w a p v q).rowIs (w.heap.size + 1) 67 8 (vf 0 0 (.slice none 0 0) 0 0 0 0 0) := by
  have h := World.rowIs_alloc (w.alloc (.cells #[.int .i64 a, .int .i64 p, v] 24)) #[.int .i64 0, .int .i64 0, .slice none 0 0, .int .i64 0, .int .i64 0, .int .i64 0, .int .i64 0, .int .i64 0] 67 (vf 0 0 (.slice none 0 0) 0 0 0 0 0) fun i hi => vw_get _ _ _ _ _ _ _ _ i hi
  have h2 := h.alloc (.cells #[.int .i64 a, .int .i64 p, v, .int .i64 q, .int .i64 (-1), .int .i64 0, .int .i64 0, .int .i64 (-1)] 67)
  unfold lk0
  simpa using h2
theorem lk0_r2 (w : World) (a p : Int) (v : Value) (q : Int) : (lk0 w a p v q).rowIs (w.heap.size + 1 + 1) 67 8 (vf a p v q (-1) 0 0 (-1)) := by
  have h := World.rowIs_alloc ((w.alloc (.cells #[.int .i64 a, .int .i64 p, v] 24)).alloc (.cells #[.int .i64 0, .int .i64 0, .slice none 0 0, .int .i64 0, .int .i64 0, .int .i64 0, .int .i64 0, .int .i64 0] 67)) #[.int .i64 a, .int .i64 p, v, .int .i64 q, .int .i64 (-1), .int .i64 0, .int .i64 0, .int .i64 (-1)] 67 (vf a p v q (-1) 0 0 (-1)) fun i hi => vw_get _ _ _ _ _ _ _ _ i hi
  unfold lk0
  simpa using h
set_option maxRecDepth 100000 in
set_option maxHeartbeats 4000000 in
theorem look_any (l a p : Int) (tags : List Int) (A : Option Addr) (c : Nat) (w : World) (hn : tags.length ≤ 1048576) (ht : ∀ i, i < tags.length → -1 ≤ tags.getD i 0) (hr : Row1 w A tags.length fun i => .int .i64 (tags.getD i 0)) :
    Calls Try.prog 39 #[.int .i64 l, .agg #[.int .i64 a, .int .i64 p, .slice A tags.length c]] w fun e w' =>
      e = .returned (.agg (vw a p (.slice A tags.length c) (Rv.en l p) (Sd.tmx tags tags.length) (Rv.lkS tags tags.length) (Rv.lkN tags tags.length) (Rv.lkV tags tags.length))) ∧ KW w w' := by
  have HR := hid hr
  have HTg := hid ht
  have HN := hid hn
  clear hr ht hn
  have HB0 : Hid (∀ k, Sd.tmx tags (k + 1) = max (Sd.tmx tags k) (tags.getD k 0)) := fun k => rfl
  have HS0 : Hid (∀ k, Rv.lkS tags (k + 1) = if Sd.tmx tags k < tags.getD k 0 then (k : Int) else Rv.lkS tags k) := fun k => rfl
  have HV0 : Hid (∀ k, Rv.lkV tags (k + 1) = if tags.getD k 0 < 0 ∧ Rv.lkV tags k < 0 then (k : Int) else Rv.lkV tags k) := fun k => rfl
  have HN0 : Hid (∀ k, Rv.lkN tags (k + 1) = Rv.lkN tags k + if tags.getD k 0 < 0 then 1 else 0) := fun k => rfl
  have HBl := hid (fun k => Sd.tmx_ge tags k)
  have HNl := hid (fun k => Rv.lkN_b tags k)
  have HZ : Hid (Sd.tmx tags 0 = -1 ∧ Rv.lkS tags 0 = 0 ∧ Rv.lkV tags 0 = -1 ∧ Rv.lkN tags 0 = 0) := ⟨rfl, rfl, rfl, rfl⟩
  generalize Sd.tmx tags = tB at *
  generalize Rv.lkS tags = tS at *
  generalize Rv.lkV tags = tV at *
  generalize Rv.lkN tags = tN at *
  have hn := HN.out
  generalize tags.length = N at *
  have HE : Hid (∃ e, Rv.en l p = e ∧ (p < 0 ∧ e = l ∨ decide (p < 0) = false ∧ e = p)) := ⟨_, rfl, by
    unfold Rv.en
    by_cases h : p < 0
    · exact .inl ⟨h, if_pos h⟩
    · exact .inr ⟨decide_eq_false h, if_neg h⟩⟩
  obtain ⟨e, he, hc⟩ := HE.out
  rw [he]
  clear HE he
  have hz := HZ.out
  have HK0 := hid (fun q => lk0_kw w a p (.slice A N c) q)
  have HR1 := hid (fun q => lk0_r1 w a p (.slice A N c) q)
  have HR2 := hid (fun q => lk0_r2 w a p (.slice A N c) q)
  have HRs : Hid (∀ {W : World} {F : Nat → Value} (h : W.rowIs (w.heap.size + 1) 67 8 F) (k : Nat) (x : Value), (W.setCell ⟨w.heap.size + 1 + 1, k, none⟩ x).rowIs (w.heap.size + 1) 67 8 F) := fun h k x => h.setOther (a := ⟨w.heap.size + 1 + 1, k, none⟩) (by show w.heap.size + 1 ≠ w.heap.size + 1 + 1; omega) x
  have HKs : Hid (∀ {W : World} (h : KW w W) (k : Nat) (x : Value), KW w (W.setCell ⟨w.heap.size + 1 + 1, k, none⟩ x)) := fun h k x => Below.setCell (p := ⟨w.heap.size + 1 + 1, k, none⟩) h (by show w.heap.size ≤ w.heap.size + 1 + 1; omega) x
  rcases hc with ⟨hp, hep⟩ | ⟨hp, hep⟩
  all_goals have HEP := hid hep; clear hep
  all_goals
    go_enter Try.func39, Try.ntmps39
    go_wp2_with fail
  all_goals
    refine wpCode_world (fun W => KW w W ∧ W.rowIs (w.heap.size + 1) 67 8 (vf 0 0 (.slice none 0 0) 0 0 0 0 0) ∧ W.rowIs (w.heap.size + 1 + 1) 67 8 (vf a p (.slice A N c) e (-1) 0 0 (-1))) ?_ ?_
    · rw [HEP.out]
      first
        | exact ⟨HK0.out l, HR1.out l, HR2.out l⟩
        | exact ⟨HK0.out p, HR1.out p, HR2.out p⟩
    rintro W1 ⟨hk1, h1, h2⟩
    have HK1 := hid hk1
    have HA1 := hid h1
    have HA2 := hid h2
    clear hk1 h1 h2 HK0 HR1 HR2
    go_loopw [20] (fun i wr => ∃ k : Nat, k ≤ N ∧ i = .int .i64 k ∧ Hid (wr.rowIs (w.heap.size + 1) 67 8 (vf 0 0 (.slice none 0 0) 0 0 0 0 0)) ∧ Hid (wr.rowIs (w.heap.size + 1 + 1) 67 8 (vf a p (.slice A N c) e (tB k) (tS k) (tN k) (tV k))) ∧ Hid (KW w wr)) (fun i _ => N - (intOf i).toNat)
    case atStart => exact ⟨0, by omega, rfl, HA1, by rw [hz.1, hz.2.1, hz.2.2.1, hz.2.2.2]; exact HA2, HK1⟩
    case round =>
      clear HK1 HA1 HA2
      obtain ⟨k, hk, rfl, HA1, HA2, HK1⟩ := hrel
      by_cases hlt : k < N
      · obtain ⟨b', off, rfl, hb', hcell⟩ := (HR.out.k HK1.out).at_ hlt
        have ht := HTg.out k hlt
        have hB1 := HB0.out k
        have hS1 := HS0.out k
        have hV1 := HV0.out k
        have hN1 := HN0.out k
        have hbl := (HBl.out k).1
        have hnl := HNl.out k
        generalize tags.getD k 0 = x at *
        generalize tB k = B at *
        generalize tS k = s at *
        generalize tV k = v at *
        generalize tN k = f at *
        have L5 : (k : Int) < (N : Int) := by omega
        have c4 := HA2.out.cell (i := 4) (by omega)
        have c5 := HA2.out.cell (i := 5) (by omega)
        have c6 := HA2.out.cell (i := 6) (by omega)
        have c7 := HA2.out.cell (i := 7) (by omega)
        have f4 := HA2.out.frozen 4
        have f5 := HA2.out.frozen 5
        have f6 := HA2.out.frozen 6
        have f7 := HA2.out.frozen 7
        simp only [vf, vw] at c4 c5 c6 c7
        have HX : Hid (tB (k + 1) = max B x ∧ (tS (k + 1) = if B < x then (k : Int) else s) ∧ (tV (k + 1) = if x < 0 ∧ v < 0 then (k : Int) else v) ∧ tN (k + 1) = f + if x < 0 then 1 else 0) := ⟨hB1, hS1, hV1, hN1⟩
        clear hB1 hS1 hV1 hN1
        by_cases g1 : B < x
        · have HQ : Hid (tB (k + 1) = x ∧ tS (k + 1) = k ∧ tN (k + 1) = f ∧ tV (k + 1) = v) := by
            have := HX.out
            rw [if_pos g1, if_neg (show ¬ (x < 0 ∧ v < 0) by omega), if_neg (show ¬ x < 0 by omega)] at this
            exact hid (by omega)
          clear HX
          go_wp2_with fail
          go_roundw
          case rel => exact ⟨k + 1, by omega, by go_num, HRs.out (HRs.out HA1.out _ _) _ _, by rw [HQ.out.1, HQ.out.2.1, HQ.out.2.2.1, HQ.out.2.2.2]; exact hid (((HA2.out.set 4 (.int .i64 x)).set 5 (.int .i64 (k : Int))).congr fun i hi => by
            rcases (show i = 0 ∨ i = 1 ∨ i = 2 ∨ i = 3 ∨ i = 4 ∨ i = 5 ∨ i = 6 ∨ i = 7 by omega) with rfl | rfl | rfl | rfl | rfl | rfl | rfl | rfl <;> rfl), HKs.out (HKs.out HK1.out _ _) _ _⟩
          case measure => simp [intOf]; omega
        · have d1 : decide (B < x) = false := decide_eq_false g1
          by_cases g2 : x < 0
          · by_cases g3 : v < 0
            · have HQ : Hid (tB (k + 1) = B ∧ tS (k + 1) = s ∧ tN (k + 1) = f + 1 ∧ tV (k + 1) = k) := by
                have := HX.out
                rw [if_neg g1, if_pos (show (x < 0 ∧ v < 0) by omega), if_pos (show x < 0 by omega)] at this
                exact hid (by omega)
              clear HX g1
              go_wp2_with fail
              go_roundw
              case rel => exact ⟨k + 1, by omega, by go_num, HRs.out (HRs.out HA1.out _ _) _ _, by rw [HQ.out.1, HQ.out.2.1, HQ.out.2.2.1, HQ.out.2.2.2]; exact hid (((HA2.out.set 6 (.int .i64 (f + 1))).set 7 (.int .i64 (k : Int))).congr fun i hi => by
                rcases (show i = 0 ∨ i = 1 ∨ i = 2 ∨ i = 3 ∨ i = 4 ∨ i = 5 ∨ i = 6 ∨ i = 7 by omega) with rfl | rfl | rfl | rfl | rfl | rfl | rfl | rfl <;> rfl), HKs.out (HKs.out HK1.out _ _) _ _⟩
              case measure => simp [intOf]; omega
            · have d3 : decide (v < 0) = false := decide_eq_false g3
              have HQ : Hid (tB (k + 1) = B ∧ tS (k + 1) = s ∧ tN (k + 1) = f + 1 ∧ tV (k + 1) = v) := by
                have := HX.out
                rw [if_neg g1, if_neg (show ¬ (x < 0 ∧ v < 0) by omega), if_pos (show x < 0 by omega)] at this
                exact hid (by omega)
              clear HX g1 g3
              go_wp2_with fail
              go_roundw
              case rel => exact ⟨k + 1, by omega, by go_num, HRs.out HA1.out _ _, by rw [HQ.out.1, HQ.out.2.1, HQ.out.2.2.1, HQ.out.2.2.2]; exact hid ((HA2.out.set 6 (.int .i64 (f + 1))).congr fun i hi => by
                rcases (show i = 0 ∨ i = 1 ∨ i = 2 ∨ i = 3 ∨ i = 4 ∨ i = 5 ∨ i = 6 ∨ i = 7 by omega) with rfl | rfl | rfl | rfl | rfl | rfl | rfl | rfl <;> rfl), HKs.out HK1.out _ _⟩
              case measure => simp [intOf]; omega
          · have d2 : decide (x < 0) = false := decide_eq_false g2
            have HQ : Hid (tB (k + 1) = B ∧ tS (k + 1) = s ∧ tN (k + 1) = f ∧ tV (k + 1) = v) := by
              have := HX.out
              rw [if_neg g1, if_neg (show ¬ (x < 0 ∧ v < 0) by omega), if_neg (show ¬ x < 0 by omega)] at this
              exact hid (by omega)
            clear HX g1 g2
            go_wp2_with fail
            go_roundw
            case rel => exact ⟨k + 1, by omega, by go_num, HA1, by rw [HQ.out.1, HQ.out.2.1, HQ.out.2.2.1, HQ.out.2.2.2]; exact hid (HA2.out), HK1⟩
            case measure => simp [intOf]; omega
      · obtain rfl : k = N := by omega
        have d : decide (k < k) = false := decide_eq_false hlt
        clear hlt
        have HW := hid (vw_row HA2.out)
        go_wp2_with (first
          | (refine wpList_load_row rfl 67 _ rfl (w.heap.size + 1 + 1) rfl 67 _ (0, 0) _ HW.out Try.underlying67 rfl (by kernel_rfl) ?_)
          | (refine wpList_store_is rfl 67 _ _ rfl (w.heap.size + 1) 8 67 _ (vf a p (.slice A k c) e (tB k) (tS k) (tN k) (tV k)) (vw a p (.slice A k c) e (tB k) (tS k) (tN k) (tV k)) rfl rfl HA1.out (by kernel_rfl) rfl (fun i hi => vw_get _ _ _ _ _ _ _ _ i hi) (fun i hi => vf_one _ _ _ _ _ _ _ _ _ _ i hi) ?_; intro W6 hrow6 hkeep6 _))
        exact bodyPost_ret (results_cell_row rfl _ _ _ _ _ (0, 0) _ rfl (vw_row hrow6) Try.underlying67 rfl (by kernel_rfl)) rfl ⟨rfl, HK1.out.kept hkeep6 fun i hi => by omega⟩
end Go.Proofs.Ytgadkelldbibgaa

/- The closures of revolve.rules, each by itself. -/
namespace Go.Proofs.Ytgadkelldbibgaa
open Go.ChangeShapes Go.WideShapes Go.ChangeAt Go.RowKit
set_option linter.unusedVariables false

theorem rvnothing_any (w : World) : Calls Try.prog 38 #[] w (AnsP w none) := by
  go_enter Try.func38, Try.ntmps38
  go_wp2_with fail
  exact bodyPost_ret (results_cell_tmp rfl _ _ _ _ _ (0, 0) _ rfl (heap_alloc_new w _) Try.underlying27 rfl (by kernel_rfl)) rfl ⟨rfl, (KW.refl w).alloc _⟩
theorem rvact_any (k n : Int) (w : World) : Calls Try.prog 72 #[.int .i64 k, .int .i64 n] w fun e w' =>
    e = .returned (.func (.func 106) #[] #[.pointer (some ⟨w.heap.size, 0, none⟩), .pointer (some ⟨w.heap.size + 1, 0, none⟩)]) ∧ w' = (w.alloc (.cells #[.int .i64 k] 3)).alloc (.cells #[.int .i64 n] 3) := by
  go_enter Try.func72, Try.ntmps72
  go_wp2_with fail
  go_ret
  exact ⟨rfl, rfl⟩
theorem rvact1_any (k n : Int) (b1 b2 : Nat) (w : World) (h1 : w.cell? ⟨b1, 0, none⟩ = some (.int .i64 k)) (h2 : w.cell? ⟨b2, 0, none⟩ = some (.int .i64 n)) :
    Calls Try.prog 106 #[.pointer (some ⟨b1, 0, none⟩), .pointer (some ⟨b2, 0, none⟩)] w (AnsP w (some (k, n))) := by
  have hb1 := World.block_lt_of_cell? _ _ h1
  have hb2 := World.block_lt_of_cell? _ _ h2
  go_enter Try.func106, Try.ntmps106
  go_wp2_with fail
  exact bodyPost_ret (results_cell_tmp rfl _ _ _ _ _ (0, 0) _ rfl (heap_alloc_new w _) Try.underlying27 rfl (by kernel_rfl)) rfl ⟨rfl, (KW.refl w).alloc _⟩
theorem seeded_any (a p : Int) (A : Option Addr) (n k : Nat) (e B s f c : Int) (w : World) : Calls Try.prog 71 #[.agg (vw a p (.slice A n k) e B s f c)] w fun x w' => x = .returned (.bool (decide (0 ≤ p))) ∧ KW w w' := by
  unfold vw
  go_enter Try.func71, Try.ntmps71
  go_wp2_with fail
  go_ret
  exact ⟨rfl, (KW.refl w).alloc _⟩
theorem turn_any (a p : Int) (A : Option Addr) (n k : Nat) (e B s f c : Int) (w : World) : Calls Try.prog 76 #[.agg (vw a p (.slice A n k) e B s f c)] w (AnsP w (some (if 0 ≤ p then 7 else 6, 0))) := by
  have HS := hid (fun W => seeded_any a p A n k e B s f c W)
  unfold vw at *
  have hk := ((KW.refl w).alloc (.cells #[.int .i64 a, .int .i64 p, .slice A n k, .int .i64 e, .int .i64 B, .int .i64 s, .int .i64 f, .int .i64 c] 67)).alloc (.cells #[.int .i64 0, .int .i64 0] 27)
  have hF : ((w.alloc (.cells #[.int .i64 a, .int .i64 p, .slice A n k, .int .i64 e, .int .i64 B, .int .i64 s, .int .i64 f, .int .i64 c] 67)).alloc (.cells #[.int .i64 0, .int .i64 0] 27)).rowIs (w.heap.size + 1) 27 2 (actF 0 0) := by
    have h := World.rowIs_alloc (w.alloc (.cells #[.int .i64 a, .int .i64 p, .slice A n k, .int .i64 e, .int .i64 B, .int .i64 s, .int .i64 f, .int .i64 c] 67)) #[.int .i64 0, .int .i64 0] 27 (actF 0 0) fun i hi => by
      rcases (show i = 0 ∨ i = 1 by simp at hi; omega) with rfl | rfl <;> rfl
    simpa using h
  have HK := hid hk
  have HF := hid hF
  clear hk hF
  by_cases hp : 0 ≤ p
  · rw [if_pos hp]
    go_enter Try.func76, Try.ntmps76
    go_wp2_with fail
    refine (HS.out _).mono ?_
    rintro x w1 ⟨rfl, hk1⟩
    have HF1 := hid (KW.row hk1 HF.out.lt HF.out)
    have HK1 := hid (HK.out.t hk1)
    clear hk1
    go_wp2_with (refine store_act rfl rfl rfl rfl HF1.out ?_; intro W2 hb2 hkeep)
    exact bodyPost_ret (results_cell_tmp rfl _ _ _ _ _ (0, 0) _ rfl hb2 Try.underlying27 rfl (by kernel_rfl)) rfl ⟨rfl, HK1.out.kept hkeep fun i hi => by omega⟩
  · rw [if_neg hp]
    have d : decide (0 ≤ p) = false := decide_eq_false hp
    clear hp
    go_enter Try.func76, Try.ntmps76
    go_wp2_with fail
    refine (HS.out _).mono ?_
    rintro x w1 ⟨rfl, hk1⟩
    have HF1 := hid (KW.row hk1 HF.out.lt HF.out)
    have HK1 := hid (HK.out.t hk1)
    clear hk1
    go_wp2_with (refine store_act rfl rfl rfl rfl HF1.out ?_; intro W2 hb2 hkeep)
    exact bodyPost_ret (results_cell_tmp rfl _ _ _ _ _ (0, 0) _ rfl hb2 Try.underlying27 rfl (by kernel_rfl)) rfl ⟨rfl, HK1.out.kept hkeep fun i hi => by omega⟩
theorem first_any (a p : Int) (A : Option Addr) (n k : Nat) (e B s f c : Int) (w : World) : Calls Try.prog 78 #[.agg (vw a p (.slice A n k) e B s f c)] w (AnsP w (if a < e then some (2, 0) else none)) := by
  unfold vw at *
  have hk := ((KW.refl w).alloc (.cells #[.int .i64 a, .int .i64 p, .slice A n k, .int .i64 e, .int .i64 B, .int .i64 s, .int .i64 f, .int .i64 c] 67)).alloc (.cells #[.int .i64 0, .int .i64 0] 27)
  have hF : ((w.alloc (.cells #[.int .i64 a, .int .i64 p, .slice A n k, .int .i64 e, .int .i64 B, .int .i64 s, .int .i64 f, .int .i64 c] 67)).alloc (.cells #[.int .i64 0, .int .i64 0] 27)).rowIs (w.heap.size + 1) 27 2 (actF 0 0) := by
    have h := World.rowIs_alloc (w.alloc (.cells #[.int .i64 a, .int .i64 p, .slice A n k, .int .i64 e, .int .i64 B, .int .i64 s, .int .i64 f, .int .i64 c] 67)) #[.int .i64 0, .int .i64 0] 27 (actF 0 0) fun i hi => by
      rcases (show i = 0 ∨ i = 1 by simp at hi; omega) with rfl | rfl <;> rfl
    simpa using h
  have HK := hid hk
  have HF := hid hF
  clear hk hF
  by_cases hp : a < e
  · rw [if_pos hp]
    have d : decide (e ≤ a) = false := decide_eq_false (by omega)
    clear hp
    go_enter Try.func78, Try.ntmps78
    go_wp2_with (refine store_act rfl rfl rfl rfl HF.out ?_; intro W2 hb2 hkeep)
    exact bodyPost_ret (results_cell_tmp rfl _ _ _ _ _ (0, 0) _ rfl hb2 Try.underlying27 rfl (by kernel_rfl)) rfl ⟨rfl, HK.out.kept hkeep fun i hi => by omega⟩
  · rw [if_neg hp]
    have d : e ≤ a := by omega
    clear hp
    go_enter Try.func78, Try.ntmps78
    go_wp2_with fail
    refine (rvnothing_any _).mono ?_
    rintro x w1 ⟨rfl, hk1⟩
    have HF1 := hid (KW.row hk1 HF.out.lt HF.out)
    have HK1 := hid (HK.out.t hk1)
    clear hk1
    go_wp2_with (refine store_act rfl rfl rfl rfl HF1.out ?_; intro W2 hb2 hkeep)
    exact bodyPost_ret (results_cell_tmp rfl _ _ _ _ _ (0, 0) _ rfl hb2 Try.underlying27 rfl (by kernel_rfl)) rfl ⟨rfl, HK1.out.kept hkeep fun i hi => by omega⟩
theorem vsplit_any (a p : Int) (A : Option Addr) (n k : Nat) (e B s c : Int) (N f : Nat) (w : World) (hN : e - B = (N : Int)) (h2 : 2 ≤ N) (h3 : N ≤ 65535) (he0 : 0 ≤ e) (he1 : e ≤ 65535) (hf : f < 1048576) :
    Calls Try.prog 83 #[.agg (vw a p (.slice A n k) e B s f c)] w (AnsP w (some (1, Ch.sp N (f + 1)))) := by
  have HS := hid (fun W => split_yes N (f + 1) W h2 h3 (by omega) (by omega))
  generalize Ch.sp N (f + 1) = m at *
  have e1 : (((f + 1 : Nat)) : Int) = (f : Int) + 1 := by omega
  rw [e1] at HS
  rw [← hN] at HS
  have hB : -65536 ≤ B ∧ B ≤ 65535 := by omega
  have hf2 : (f : Int) < 1048576 := by omega
  unfold vw at *
  have hk := ((KW.refl w).alloc (.cells #[.int .i64 a, .int .i64 p, .slice A n k, .int .i64 e, .int .i64 B, .int .i64 s, .int .i64 f, .int .i64 c] 67)).alloc (.cells #[.int .i64 0, .int .i64 0] 27)
  have hF : ((w.alloc (.cells #[.int .i64 a, .int .i64 p, .slice A n k, .int .i64 e, .int .i64 B, .int .i64 s, .int .i64 f, .int .i64 c] 67)).alloc (.cells #[.int .i64 0, .int .i64 0] 27)).rowIs (w.heap.size + 1) 27 2 (actF 0 0) := by
    have h := World.rowIs_alloc (w.alloc (.cells #[.int .i64 a, .int .i64 p, .slice A n k, .int .i64 e, .int .i64 B, .int .i64 s, .int .i64 f, .int .i64 c] 67)) #[.int .i64 0, .int .i64 0] 27 (actF 0 0) fun i hi => by
      rcases (show i = 0 ∨ i = 1 by simp at hi; omega) with rfl | rfl <;> rfl
    simpa using h
  have HK := hid hk
  have HF := hid hF
  clear hk hF hN
  go_enter Try.func83, Try.ntmps83
  go_wp2_with fail
  refine (HS.out _).mono ?_
  rintro x w1 ⟨rfl, hk1⟩
  have HF1 := hid (KW.row hk1 HF.out.lt HF.out)
  have HK1 := hid (HK.out.t hk1)
  clear hk1
  go_wp2_with (refine store_act rfl rfl rfl rfl HF1.out ?_; intro W2 hb2 hkeep)
  exact bodyPost_ret (results_cell_tmp rfl _ _ _ _ _ (0, 0) _ rfl hb2 Try.underlying27 rfl (by kernel_rfl)) rfl ⟨rfl, HK1.out.kept hkeep fun i hi => by omega⟩

section
variable (a p : Int) (A : Option Addr) (n k : Nat) (e B s f c : Int) (b b2 : Nat) (w : World)
theorem rule1_any (h : w.heap[b]? = some (.cells (vw a p (.slice A n k) e B s f c) 67 (0, 0))) :
    Calls Try.prog 70 #[.pointer (some ⟨b, 0, none⟩)] w fun x w' => x = .returned (.bool (decide (0 ≤ p) && decide (e ≤ B))) ∧ KW w w' := by
  have HS := hid (fun W => seeded_any a p A n k e B s f c W)
  have HB := hid h
  have hlt := blk_lt h
  clear h
  by_cases hp : 0 ≤ p
  · rw [decide_eq_true hp, Bool.true_and]
    rw [decide_eq_true hp] at HS
    go_enter Try.func70, Try.ntmps70
    go_wp2_with (refine wpList_load_row rfl 67 _ rfl b rfl 67 _ (0, 0) _ HB.out Try.underlying67 rfl (by kernel_rfl) ?_)
    refine (HS.out _).mono ?_
    rintro x w1 ⟨rfl, hk1⟩
    have HB1 := KW.blk hk1 hlt HB.out
    have c3 : w1.cell? ⟨b, 3, none⟩ = some (.int .i64 e) := by rw [cell_of_row _ _ _ _ _ _ HB1]; rfl
    have c4 : w1.cell? ⟨b, 4, none⟩ = some (.int .i64 B) := by rw [cell_of_row _ _ _ _ _ _ HB1]; rfl
    clear HB1
    go_wp2_with fail
    all_goals
      go_ret
      exact ⟨ret_bool (by first | rfl | simp_all | (simp; omega)), hk1⟩
  · rw [decide_eq_false hp, Bool.false_and]
    rw [decide_eq_false hp] at HS
    go_enter Try.func70, Try.ntmps70
    go_wp2_with (refine wpList_load_row rfl 67 _ rfl b rfl 67 _ (0, 0) _ HB.out Try.underlying67 rfl (by kernel_rfl) ?_)
    refine (HS.out _).mono ?_
    rintro x w1 ⟨rfl, hk1⟩
    go_wp2_with fail
    go_ret
    exact ⟨rfl, hk1⟩
theorem rule2_any (h : w.heap[b]? = some (.cells (vw a p (.slice A n k) e B s f c) 67 (0, 0))) :
    Calls Try.prog 73 #[.pointer (some ⟨b, 0, none⟩)] w fun x w' => x = .returned (.bool (decide (p = 0))) ∧ KW w w' := by
  have c1 : w.cell? ⟨b, 1, none⟩ = some (.int .i64 p) := by rw [cell_of_row _ _ _ _ _ _ h]; rfl
  clear h
  go_enter Try.func73, Try.ntmps73
  go_wp2_with fail
  go_ret
  exact ⟨ret_bool (by rw [Bool.eq_iff_iff]; simp), KW.refl w⟩
theorem rule3_any (l : Int) (h : w.heap[b]? = some (.cells (vw a p (.slice A n k) e B s f c) 67 (0, 0))) (hl : w.cell? ⟨b2, 0, none⟩ = some (.int .i64 l)) :
    Calls Try.prog 74 #[.pointer (some ⟨b, 0, none⟩), .pointer (some ⟨b2, 0, none⟩)] w fun x w' => x = .returned (.bool (decide (p < 0) && decide (a = l))) ∧ KW w w' := by
  have HS := hid (fun W => seeded_any a p A n k e B s f c W)
  have HB := hid h
  have hlt := blk_lt h
  have HL := hid hl
  have hlt2 := World.block_lt_of_cell? _ _ hl
  clear h hl
  by_cases hp : p < 0
  · rw [decide_eq_true hp, Bool.true_and]
    rw [decide_eq_false (show ¬ 0 ≤ p by omega)] at HS
    go_enter Try.func74, Try.ntmps74
    go_wp2_with (refine wpList_load_row rfl 67 _ rfl b rfl 67 _ (0, 0) _ HB.out Try.underlying67 rfl (by kernel_rfl) ?_)
    refine (HS.out _).mono ?_
    rintro x w1 ⟨rfl, hk1⟩
    have HB1 := KW.blk hk1 hlt HB.out
    have c0 : w1.cell? ⟨b, 0, none⟩ = some (.int .i64 a) := by rw [cell_of_row _ _ _ _ _ _ HB1]; rfl
    have cl := KW.cell hk1 hlt2 HL.out
    clear HB1
    go_wp2_with fail
    all_goals
      go_ret
      exact ⟨ret_bool (by first | rfl | (rw [Bool.eq_iff_iff]; simp)), hk1⟩
  · rw [decide_eq_false hp, Bool.false_and]
    rw [decide_eq_true (show 0 ≤ p by omega)] at HS
    go_enter Try.func74, Try.ntmps74
    go_wp2_with (refine wpList_load_row rfl 67 _ rfl b rfl 67 _ (0, 0) _ HB.out Try.underlying67 rfl (by kernel_rfl) ?_)
    refine (HS.out _).mono ?_
    rintro x w1 ⟨rfl, hk1⟩
    go_wp2_with fail
    go_ret
    exact ⟨rfl, hk1⟩
theorem rule4_any (he0 : 0 ≤ e) (he1 : e ≤ 65535) (h : w.heap[b]? = some (.cells (vw a p (.slice A n k) e B s f c) 67 (0, 0))) :
    Calls Try.prog 75 #[.pointer (some ⟨b, 0, none⟩)] w fun x w' => x = .returned (.bool (decide (a = e - 1))) ∧ KW w w' := by
  have c0 : w.cell? ⟨b, 0, none⟩ = some (.int .i64 a) := by rw [cell_of_row _ _ _ _ _ _ h]; rfl
  have c3 : w.cell? ⟨b, 3, none⟩ = some (.int .i64 e) := by rw [cell_of_row _ _ _ _ _ _ h]; rfl
  clear h
  go_enter Try.func75, Try.ntmps75
  go_wp2_with fail
  go_ret
  exact ⟨ret_bool (by rw [Bool.eq_iff_iff]; simp), KW.refl w⟩
theorem rule5_any (h : w.heap[b]? = some (.cells (vw a p (.slice A n k) e B s f c) 67 (0, 0))) :
    Calls Try.prog 77 #[.pointer (some ⟨b, 0, none⟩)] w fun x w' => x = .returned (.bool (decide (B < 0))) ∧ KW w w' := by
  have c4 : w.cell? ⟨b, 4, none⟩ = some (.int .i64 B) := by rw [cell_of_row _ _ _ _ _ _ h]; rfl
  clear h
  go_enter Try.func77, Try.ntmps77
  go_wp2_with fail
  go_ret
  exact ⟨rfl, KW.refl w⟩
theorem rule6_any (h : w.heap[b]? = some (.cells (vw a p (.slice A n k) e B s f c) 67 (0, 0))) :
    Calls Try.prog 79 #[.pointer (some ⟨b, 0, none⟩)] w fun x w' => x = .returned (.bool (decide (a < B) || decide (e ≤ a))) ∧ KW w w' := by
  have c0 : w.cell? ⟨b, 0, none⟩ = some (.int .i64 a) := by rw [cell_of_row _ _ _ _ _ _ h]; rfl
  have c3 : w.cell? ⟨b, 3, none⟩ = some (.int .i64 e) := by rw [cell_of_row _ _ _ _ _ _ h]; rfl
  have c4 : w.cell? ⟨b, 4, none⟩ = some (.int .i64 B) := by rw [cell_of_row _ _ _ _ _ _ h]; rfl
  clear h
  by_cases h : a < B
  · rw [decide_eq_true h, Bool.true_or]
    go_enter Try.func79, Try.ntmps79
    go_wp2_with fail
    go_ret
    exact ⟨rfl, KW.refl w⟩
  · have d := decide_eq_false h
    rw [d, Bool.false_or]
    clear h
    go_enter Try.func79, Try.ntmps79
    go_wp2_with fail
    go_ret
    exact ⟨rfl, KW.refl w⟩
theorem rule7_any (h : w.heap[b]? = some (.cells (vw a p (.slice A n k) e B s f c) 67 (0, 0))) :
    Calls Try.prog 80 #[.pointer (some ⟨b, 0, none⟩)] w fun x w' => x = .returned (.bool (decide (B < a) && decide (0 < f))) ∧ KW w w' := by
  have c0 : w.cell? ⟨b, 0, none⟩ = some (.int .i64 a) := by rw [cell_of_row _ _ _ _ _ _ h]; rfl
  have c6 : w.cell? ⟨b, 6, none⟩ = some (.int .i64 f) := by rw [cell_of_row _ _ _ _ _ _ h]; rfl
  have c4 : w.cell? ⟨b, 4, none⟩ = some (.int .i64 B) := by rw [cell_of_row _ _ _ _ _ _ h]; rfl
  clear h
  by_cases h : B < a
  · rw [decide_eq_true h, Bool.true_and]
    go_enter Try.func80, Try.ntmps80
    go_wp2_with fail
    go_ret
    exact ⟨rfl, KW.refl w⟩
  · have d := decide_eq_false h
    rw [d, Bool.false_and]
    clear h
    go_enter Try.func80, Try.ntmps80
    go_wp2_with fail
    go_ret
    exact ⟨rfl, KW.refl w⟩
theorem rule8_any (h : w.heap[b]? = some (.cells (vw a p (.slice A n k) e B s f c) 67 (0, 0))) :
    Calls Try.prog 81 #[.pointer (some ⟨b, 0, none⟩)] w fun x w' => x = .returned (.bool (decide (B < a))) ∧ KW w w' := by
  have c0 : w.cell? ⟨b, 0, none⟩ = some (.int .i64 a) := by rw [cell_of_row _ _ _ _ _ _ h]; rfl
  have c4 : w.cell? ⟨b, 4, none⟩ = some (.int .i64 B) := by rw [cell_of_row _ _ _ _ _ _ h]; rfl
  clear h
  go_enter Try.func81, Try.ntmps81
  go_wp2_with fail
  go_ret
  exact ⟨rfl, KW.refl w⟩
theorem always_any : Calls Try.prog 82 #[] w fun x w' => x = .returned (.bool true) ∧ KW w w' := by
  go_enter Try.func82, Try.ntmps82
  go_wp2_with fail
  go_ret
  exact ⟨rfl, KW.refl w⟩
end
end Go.Proofs.Ytgadkelldbibgaa

/- The rules of revolve, as they lie in memory. -/
namespace Go.Proofs.Ytgadkelldbibgaa
open Go.ChangeShapes Go.WideShapes Go.ChangeAt Go.RowKit
set_option linter.unusedVariables false

/-- the cells that the rules read -/
def RvS (a p : Int) (v : Value) (e B s f c : Int) (b : Nat) (W : World) : Prop :=
  W.cell? ⟨b, 0, none⟩ = some (.int .i64 a) ∧ W.cell? ⟨b, 1, none⟩ = some (.int .i64 p) ∧ W.cell? ⟨b, 2, none⟩ = some v ∧ W.cell? ⟨b, 3, none⟩ = some (.int .i64 e) ∧ W.cell? ⟨b, 4, none⟩ = some (.int .i64 B) ∧ W.cell? ⟨b, 5, none⟩ = some (.int .i64 s) ∧ W.cell? ⟨b, 6, none⟩ = some (.int .i64 f) ∧ W.cell? ⟨b, 7, none⟩ = some (.int .i64 c)
theorem RvS.of {a p : Int} {v : Value} {e B s f c : Int} {b : Nat} {W : World} (h : W.heap[b]? = some (.cells (vw a p v e B s f c) 67 (0, 0))) : RvS a p v e B s f c b W := by
  refine ⟨?_, ?_, ?_, ?_, ?_, ?_, ?_, ?_⟩ <;> (rw [cell_of_row _ _ _ _ _ _ h]; rfl)
theorem rvact_k (k n : Int) (w : World) : Calls Try.prog 72 #[.int .i64 k, .int .i64 n] w fun e w' =>
    ∃ x y, e = .returned (.func (.func 106) #[] #[.pointer (some ⟨x, 0, none⟩), .pointer (some ⟨y, 0, none⟩)]) ∧ w'.cell? ⟨x, 0, none⟩ = some (.int .i64 k) ∧ w'.cell? ⟨y, 0, none⟩ = some (.int .i64 n) ∧ KW w w' := by
  refine (rvact_any k n w).mono ?_
  rintro e w1 ⟨rfl, rfl⟩
  refine ⟨_, _, rfl, ?_, ?_, ((KW.refl w).alloc _).alloc _⟩
  · rw [World.cell?_alloc_lt _ _ _ (by simp), cell_of_row _ _ _ _ _ _ (heap_alloc_new w _)]; rfl
  · have h := heap_alloc_new (w.alloc (.cells #[.int .i64 k] 3)) (.cells #[.int .i64 n] 3)
    have e1 : (w.alloc (.cells #[.int .i64 k] 3)).heap.size = w.heap.size + 1 := by simp
    rw [e1] at h
    rw [cell_of_row _ _ _ _ _ _ h]; rfl
/-- what lies behind an action that is done: its two boxes -/
def RvA (w : World) (x y : Nat) (k n : Int) : Prop := w.cell? ⟨x, 0, none⟩ = some (.int .i64 k) ∧ w.cell? ⟨y, 0, none⟩ = some (.int .i64 n)
theorem RvA.kw {w W : World} {x y : Nat} {k n : Int} (h : RvA w x y k n) (hk : KW w W) : RvA W x y k n := ⟨KW.cell hk (World.block_lt_of_cell? _ _ h.1) h.1, KW.cell hk (World.block_lt_of_cell? _ _ h.2) h.2⟩
def rvf (F : FuncId) (xs cs : Array Value) : Value := .func (.func F) xs cs
def rvp (b : Nat) : Value := .pointer (some ⟨b, 0, none⟩)
/-- the cells of the rules -/
def rvR (V : Value) (vb lb x1 y1 x2 y2 x3 y3 x4 y4 x5 y5 : Nat) : Array Value :=
  #[rvf 70 #[] #[rvp vb], rvf 106 #[] #[rvp x1, rvp y1],
    rvf 73 #[] #[rvp vb], rvf 38 #[] #[],
    rvf 74 #[] #[rvp vb, rvp lb], rvf 106 #[] #[rvp x2, rvp y2],
    rvf 75 #[] #[rvp vb], rvf 76 #[V] #[],
    rvf 77 #[] #[rvp vb], rvf 78 #[V] #[],
    rvf 79 #[] #[rvp vb], rvf 106 #[] #[rvp x3, rvp y3],
    rvf 80 #[] #[rvp vb], rvf 106 #[] #[rvp x4, rvp y4],
    rvf 81 #[] #[rvp vb], rvf 106 #[] #[rvp x5, rvp y5],
    rvf 82 #[] #[], rvf 83 #[V] #[]]
def RulesP (a p : Int) (v : Value) (e B s f c l : Int) (w : World) (x : Ending) (w' : World) : Prop :=
  ∃ rb vb lb x1 y1 x2 y2 x3 y3 x4 y4 x5 y5, x = .returned (.slice (some ⟨rb, 0, none⟩) 9 9) ∧ w'.heap[rb]? = some (.cells (rvR (.agg (vw a p v e B s f c)) vb lb x1 y1 x2 y2 x3 y3 x4 y4 x5 y5) 71 (0, 0)) ∧
    w'.heap[vb]? = some (.cells (vw a p v e B s f c) 67 (0, 0)) ∧ w'.cell? ⟨lb, 0, none⟩ = some (.int .i64 l) ∧
    RvA w' x1 y1 4 s ∧ RvA w' x2 y2 5 0 ∧ RvA w' x3 y3 3 s ∧ RvA w' x4 y4 2 c ∧ RvA w' x5 y5 1 (e - 1 - a) ∧ KW w w'
set_option maxRecDepth 100000 in
set_option maxHeartbeats 2000000 in
theorem rules_any (a p : Int) (A : Option Addr) (n k : Nat) (e B s f c l : Int) (w : World) (he0 : 0 ≤ e) (he1 : e ≤ 65535) (ha0 : 0 ≤ a) (ha1 : a ≤ 65535) :
    Calls Try.prog 40 #[.agg (vw a p (.slice A n k) e B s f c), .int .i64 l] w (RulesP a p (.slice A n k) e B s f c l w) := by
  have e1 : IntKind.i64.wrap (e - 1) = e - 1 := IntWalk.i64_in _ (by omega)
  have e2 : IntKind.i64.wrap (e - 1 - a) = e - 1 - a := IntWalk.i64_in _ (by omega)
  have HZ := hid (⟨e1, e2⟩ : IntKind.i64.wrap (e - 1) = e - 1 ∧ IntKind.i64.wrap (e - 1 - a) = e - 1 - a)
  clear e1 e2
  have hW0 := ((KW.refl (w.alloc (.cells #[.int .i64 a, .int .i64 p, .slice A n k, .int .i64 e, .int .i64 B, .int .i64 s, .int .i64 f, .int .i64 c] 67))).alloc (.cells #[.int .i64 l] 3))
  have hV : ((w.alloc (.cells #[.int .i64 a, .int .i64 p, .slice A n k, .int .i64 e, .int .i64 B, .int .i64 s, .int .i64 f, .int .i64 c] 67)).alloc (.cells #[.int .i64 l] 3)).heap[w.heap.size]? = some (.cells (vw a p (.slice A n k) e B s f c) 67 (0, 0)) := KW.blk hW0 (by simp) (heap_alloc_new w _)
  have HV := hid hV
  unfold vw
  have hz : w.heap.size < ((w.alloc (.cells #[.int .i64 a, .int .i64 p, .slice A n k, .int .i64 e, .int .i64 B, .int .i64 s, .int .i64 f, .int .i64 c] 67)).alloc (.cells #[.int .i64 l] 3)).heap.size := blk_lt hV
  have hS := hid (fun W (h : KW ((w.alloc (.cells #[.int .i64 a, .int .i64 p, .slice A n k, .int .i64 e, .int .i64 B, .int .i64 s, .int .i64 f, .int .i64 c] 67)).alloc (.cells #[.int .i64 l] 3)) W) => RvS.of (KW.blk h hz HV.out))
  have HWW : Hid (KW w ((w.alloc (.cells #[.int .i64 a, .int .i64 p, .slice A n k, .int .i64 e, .int .i64 B, .int .i64 s, .int .i64 f, .int .i64 c] 67)).alloc (.cells #[.int .i64 l] 3))) := ((KW.refl w).alloc _).alloc _
  have HL : Hid (((w.alloc (.cells #[.int .i64 a, .int .i64 p, .slice A n k, .int .i64 e, .int .i64 B, .int .i64 s, .int .i64 f, .int .i64 c] 67)).alloc (.cells #[.int .i64 l] 3)).cell? ⟨w.heap.size + 1, 0, none⟩ = some (.int .i64 l)) := by
    have h := heap_alloc_new (w.alloc (.cells #[.int .i64 a, .int .i64 p, .slice A n k, .int .i64 e, .int .i64 B, .int .i64 s, .int .i64 f, .int .i64 c] 67)) (.cells #[.int .i64 l] 3)
    have e1 : (w.alloc (.cells #[.int .i64 a, .int .i64 p, .slice A n k, .int .i64 e, .int .i64 B, .int .i64 s, .int .i64 f, .int .i64 c] 67)).heap.size = w.heap.size + 1 := by simp
    rw [e1] at h
    rw [cell_of_row _ _ _ _ _ _ h]; exact hid rfl
  clear hV hW0 hz
  unfold RvS at hS
  go_enter Try.func40, Try.ntmps40
  go_wp2_with fail
  generalize hW : ((w.alloc (.cells #[.int .i64 a, .int .i64 p, .slice A n k, .int .i64 e, .int .i64 B, .int .i64 s, .int .i64 f, .int .i64 c] 67)).alloc (.cells #[.int .i64 l] 3)) = W0 at *
  have hk := (KW.refl W0).drew
  refine wpX_region (S := fun W => W.cell? ⟨w.heap.size, 0, none⟩ = some (.int .i64 a) ∧ W.cell? ⟨w.heap.size, 1, none⟩ = some (.int .i64 p) ∧ W.cell? ⟨w.heap.size, 2, none⟩ = some (.slice A n k) ∧ W.cell? ⟨w.heap.size, 3, none⟩ = some (.int .i64 e) ∧ W.cell? ⟨w.heap.size, 4, none⟩ = some (.int .i64 B) ∧ W.cell? ⟨w.heap.size, 5, none⟩ = some (.int .i64 s) ∧ W.cell? ⟨w.heap.size, 6, none⟩ = some (.int .i64 f) ∧ W.cell? ⟨w.heap.size, 7, none⟩ = some (.int .i64 c)) (L := 99) (by kernel_rfl) ?_
  have hXS : (fun W => W.cell? ⟨w.heap.size, 0, none⟩ = some (.int .i64 a) ∧ W.cell? ⟨w.heap.size, 1, none⟩ = some (.int .i64 p) ∧ W.cell? ⟨w.heap.size, 2, none⟩ = some (.slice A n k) ∧ W.cell? ⟨w.heap.size, 3, none⟩ = some (.int .i64 e) ∧ W.cell? ⟨w.heap.size, 4, none⟩ = some (.int .i64 B) ∧ W.cell? ⟨w.heap.size, 5, none⟩ = some (.int .i64 s) ∧ W.cell? ⟨w.heap.size, 6, none⟩ = some (.int .i64 f) ∧ W.cell? ⟨w.heap.size, 7, none⟩ = some (.int .i64 c)) (World.drew _) := hS.out _ hk
  simp only [] at hXS
  refine wpX_take (i := 0) (v := ?_) rfl rfl (by kernel_rfl) (fun _ _ _ h => h) (Or.inl ⟨rfl, fun wS hwS => ?_⟩) hXS ?_
  rotate_left
  · go_simp; try rfl
  simp only [List.set_cons_zero, List.set_cons_succ]
  refine wpX_take (i := 1) (v := ?_) rfl rfl (by kernel_rfl) (fun _ _ _ h => h) (Or.inl ⟨rfl, fun wS hwS => ?_⟩) hXS ?_
  rotate_left
  · go_simp; try rfl
  simp only [List.set_cons_zero, List.set_cons_succ]
  refine wpX_take (i := 2) (v := ?_) rfl rfl (by kernel_rfl) (fun _ _ _ h => h) (Or.inl ⟨rfl, fun wS hwS => ?_⟩) hXS ?_
  rotate_left
  · go_simp; try rfl
  simp only [List.set_cons_zero, List.set_cons_succ]
  refine wpX_take (i := 5) (v := ?_) rfl rfl (by kernel_rfl) (fun _ _ _ h => h) (Or.inl ⟨rfl, fun wS hwS => ?_⟩) hXS ?_
  rotate_left
  · go_simp; try rfl
  simp only [List.set_cons_zero, List.set_cons_succ]
  refine wpX_take (i := 6) (v := ?_) rfl rfl (by kernel_rfl) (fun _ _ _ h => h) (Or.inl ⟨rfl, fun wS hwS => ?_⟩) hXS ?_
  rotate_left
  · go_simp; try rfl
  simp only [List.set_cons_zero, List.set_cons_succ]
  refine wpX_take (i := 7) (v := ?_) rfl rfl (by kernel_rfl) (fun _ _ _ h => h) (Or.inl ⟨rfl, fun wS hwS => ?_⟩) hXS ?_
  rotate_left
  · go_simp; try rfl
  simp only [List.set_cons_zero, List.set_cons_succ]
  refine wpX_take (i := 10) (v := ?_) rfl rfl (by kernel_rfl) (fun _ _ _ h => h) (Or.inl ⟨rfl, fun wS hwS => ?_⟩) hXS ?_
  rotate_left
  · go_simp; try rfl
  simp only [List.set_cons_zero, List.set_cons_succ]
  refine wpX_take (i := 11) (v := ?_) rfl rfl (by kernel_rfl) (fun _ _ _ h => h) (Or.inl ⟨rfl, fun wS hwS => ?_⟩) hXS ?_
  rotate_left
  · go_simp; try rfl
  simp only [List.set_cons_zero, List.set_cons_succ]
  refine wpX_take (i := 12) (v := ?_) rfl rfl (by kernel_rfl) (fun _ _ _ h => h) (Or.inl ⟨rfl, fun wS hwS => ?_⟩) hXS ?_
  rotate_left
  · go_simp; try rfl
  simp only [List.set_cons_zero, List.set_cons_succ]
  refine wpX_take (i := 13) (v := ?_) rfl rfl (by kernel_rfl) (fun _ _ _ h => h) (Or.inl ⟨rfl, fun wS hwS => ?_⟩) hXS ?_
  rotate_left
  · go_simp; try rfl
  simp only [List.set_cons_zero, List.set_cons_succ]
  refine wpX_take (i := 14) (v := ?_) rfl rfl (by kernel_rfl) (fun _ _ _ h => h) (Or.inl ⟨rfl, fun wS hwS => ?_⟩) hXS ?_
  rotate_left
  · go_simp; try rfl
  simp only [List.set_cons_zero, List.set_cons_succ]
  refine wpX_take (i := 15) (v := ?_) rfl rfl (by kernel_rfl) (fun _ _ _ h => h) (Or.inl ⟨rfl, fun wS hwS => ?_⟩) hXS ?_
  rotate_left
  · go_simp; try rfl
  simp only [List.set_cons_zero, List.set_cons_succ]
  refine wpX_take (i := 16) (v := ?_) rfl rfl (by kernel_rfl) (fun _ _ _ h => h) (Or.inl ⟨rfl, fun wS hwS => ?_⟩) hXS ?_
  rotate_left
  · go_simp; try rfl
  simp only [List.set_cons_zero, List.set_cons_succ]
  refine wpX_take (i := 17) (v := ?_) rfl rfl (by kernel_rfl) (fun _ _ _ h => h) (Or.inl ⟨rfl, fun wS hwS => ?_⟩) hXS ?_
  rotate_left
  · go_simp; try rfl
  simp only [List.set_cons_zero, List.set_cons_succ]
  refine wpX_take (i := 18) (v := ?_) rfl rfl (by kernel_rfl) (fun _ _ _ h => h) (Or.inl ⟨rfl, fun wS hwS => ?_⟩) hXS ?_
  rotate_left
  · go_simp; try rfl
  simp only [List.set_cons_zero, List.set_cons_succ]
  refine wpX_take (i := 19) (v := ?_) rfl rfl (by kernel_rfl) (fun _ _ _ h => h) (Or.inl ⟨rfl, fun wS hwS => ?_⟩) hXS ?_
  rotate_left
  · go_simp; try rfl
  simp only [List.set_cons_zero, List.set_cons_succ]
  refine wpX_take (i := 20) (v := ?_) rfl rfl (by kernel_rfl) (fun _ _ _ h => h) (Or.inl ⟨rfl, fun wS hwS => ?_⟩) hXS ?_
  rotate_left
  · go_simp; try rfl
  simp only [List.set_cons_zero, List.set_cons_succ]
  refine wpX_take (i := 23) (v := ?_) rfl rfl (by kernel_rfl) (fun _ _ _ h => h) (Or.inl ⟨rfl, fun wS hwS => ?_⟩) hXS ?_
  rotate_left
  · go_simp; try rfl
  simp only [List.set_cons_zero, List.set_cons_succ]
  refine wpX_take (i := 24) (v := ?_) rfl rfl (by kernel_rfl) (fun _ _ _ h => h) (Or.inl ⟨rfl, fun wS hwS => ?_⟩) hXS ?_
  rotate_left
  · go_simp; try rfl
  simp only [List.set_cons_zero, List.set_cons_succ]
  refine wpX_take (i := 25) (v := ?_) rfl rfl (by kernel_rfl) (fun _ _ _ h => h) (Or.inl ⟨rfl, fun wS hwS => ?_⟩) hXS ?_
  rotate_left
  · go_simp; try rfl
  simp only [List.set_cons_zero, List.set_cons_succ]
  refine wpX_take (i := 28) (v := ?_) rfl rfl (by kernel_rfl) (fun _ _ _ h => h) (Or.inl ⟨rfl, fun wS hwS => ?_⟩) hXS ?_
  rotate_left
  · go_simp; try rfl
  simp only [List.set_cons_zero, List.set_cons_succ]
  refine wpX_take (i := 29) (v := ?_) rfl rfl (by kernel_rfl) (fun _ _ _ h => h) (Or.inl ⟨rfl, fun wS hwS => ?_⟩) hXS ?_
  rotate_left
  · go_simp; try rfl
  simp only [List.set_cons_zero, List.set_cons_succ]
  refine wpX_take (i := 30) (v := ?_) rfl rfl (by kernel_rfl) (fun _ _ _ h => h) (Or.inl ⟨rfl, fun wS hwS => ?_⟩) hXS ?_
  rotate_left
  · go_simp; try rfl
  simp only [List.set_cons_zero, List.set_cons_succ]
  refine wpX_take (i := 31) (v := ?_) rfl rfl (by kernel_rfl) (fun _ _ _ h => h) (Or.inl ⟨rfl, fun wS hwS => ?_⟩) hXS ?_
  rotate_left
  · go_simp; try rfl
  simp only [List.set_cons_zero, List.set_cons_succ]
  refine wpX_take (i := 32) (v := ?_) rfl rfl (by kernel_rfl) (fun _ _ _ h => h) (Or.inl ⟨rfl, fun wS hwS => ?_⟩) hXS ?_
  rotate_left
  · go_simp; try rfl
  simp only [List.set_cons_zero, List.set_cons_succ]
  refine wpX_take (i := 33) (v := ?_) rfl rfl (by kernel_rfl) (fun _ _ _ h => h) (Or.inl ⟨rfl, fun wS hwS => ?_⟩) hXS ?_
  rotate_left
  · go_simp; try rfl
  simp only [List.set_cons_zero, List.set_cons_succ]
  refine wpX_take (i := 34) (v := ?_) rfl rfl (by kernel_rfl) (fun _ _ _ h => h) (Or.inl ⟨rfl, fun wS hwS => ?_⟩) hXS ?_
  rotate_left
  · go_simp; try rfl
  simp only [List.set_cons_zero, List.set_cons_succ]
  refine wpX_take (i := 35) (v := ?_) rfl rfl (by kernel_rfl) (fun _ _ _ h => h) (Or.inl ⟨rfl, fun wS hwS => ?_⟩) hXS ?_
  rotate_left
  · go_simp; try rfl
  simp only [List.set_cons_zero, List.set_cons_succ]
  refine wpX_take (i := 38) (v := ?_) rfl rfl (by kernel_rfl) (fun _ _ _ h => h) (Or.inl ⟨rfl, fun wS hwS => ?_⟩) hXS ?_
  rotate_left
  · go_simp; try rfl
  simp only [List.set_cons_zero, List.set_cons_succ]
  refine wpX_take (i := 39) (v := ?_) rfl rfl (by kernel_rfl) (fun _ _ _ h => h) (Or.inl ⟨rfl, fun wS hwS => ?_⟩) hXS ?_
  rotate_left
  · go_simp; try rfl
  simp only [List.set_cons_zero, List.set_cons_succ]
  refine wpX_take (i := 40) (v := ?_) rfl rfl (by kernel_rfl) (fun _ _ _ h => h) (Or.inl ⟨rfl, fun wS hwS => ?_⟩) hXS ?_
  rotate_left
  · go_simp; try rfl
  simp only [List.set_cons_zero, List.set_cons_succ]
  refine wpX_hard (k := 3) (by kernel_rfl) rfl (fun K hK => ?_)
  go_simp
  (refine (rvact_k _ _ _).mono ?_; rintro x w1 ⟨x1, y1, rfl, q1, r1, hb1⟩; have HA1 := hid (⟨q1, r1⟩ : RvA w1 x1 y1 _ _); clear q1 r1; replace hk := hk.t hb1; replace hb1 := hid hb1)
  refine hK _ _ (fun _ => hS.out _ hk) ?_
  clear hK K
  try simp only [List.set_cons_zero, List.set_cons_succ]
  replace hXS := hS.out _ hk
  refine wpX_take (i := 4) (v := ?_) rfl rfl (by kernel_rfl) (fun _ _ _ h => h) (Or.inl ⟨rfl, fun wS hwS => ?_⟩) hXS ?_
  rotate_left
  · go_simp; try rfl
  simp only [List.set_cons_zero, List.set_cons_succ]
  refine wpX_hard (k := 8) (by kernel_rfl) rfl (fun K hK => ?_)
  go_simp
  (refine (rvact_k _ _ _).mono ?_; rintro x w2 ⟨x2, y2, rfl, q2, r2, hb2⟩; have HA2 := hid (⟨q2, r2⟩ : RvA w2 x2 y2 _ _); clear q2 r2; replace hk := hk.t hb2; replace hb2 := hid hb2)
  refine hK _ _ (fun _ => hS.out _ hk) ?_
  clear hK K
  try simp only [List.set_cons_zero, List.set_cons_succ]
  replace hXS := hS.out _ hk
  refine wpX_take (i := 9) (v := ?_) rfl rfl (by kernel_rfl) (fun _ _ _ h => h) (Or.inl ⟨rfl, fun wS hwS => ?_⟩) hXS ?_
  rotate_left
  · go_simp; try rfl
  simp only [List.set_cons_zero, List.set_cons_succ]
  refine wpX_hard (k := 21) (by kernel_rfl) rfl (fun K hK => ?_)
  go_simp
  (refine (rvact_k _ _ _).mono ?_; rintro x w3 ⟨x3, y3, rfl, q3, r3, hb3⟩; have HA3 := hid (⟨q3, r3⟩ : RvA w3 x3 y3 _ _); clear q3 r3; replace hk := hk.t hb3; replace hb3 := hid hb3)
  refine hK _ _ (fun _ => hS.out _ hk) ?_
  clear hK K
  try simp only [List.set_cons_zero, List.set_cons_succ]
  replace hXS := hS.out _ hk
  refine wpX_take (i := 22) (v := ?_) rfl rfl (by kernel_rfl) (fun _ _ _ h => h) (Or.inl ⟨rfl, fun wS hwS => ?_⟩) hXS ?_
  rotate_left
  · go_simp; try rfl
  simp only [List.set_cons_zero, List.set_cons_succ]
  refine wpX_hard (k := 26) (by kernel_rfl) rfl (fun K hK => ?_)
  go_simp
  (refine (rvact_k _ _ _).mono ?_; rintro x w4 ⟨x4, y4, rfl, q4, r4, hb4⟩; have HA4 := hid (⟨q4, r4⟩ : RvA w4 x4 y4 _ _); clear q4 r4; replace hk := hk.t hb4; replace hb4 := hid hb4)
  refine hK _ _ (fun _ => hS.out _ hk) ?_
  clear hK K
  try simp only [List.set_cons_zero, List.set_cons_succ]
  replace hXS := hS.out _ hk
  refine wpX_take (i := 27) (v := ?_) rfl rfl (by kernel_rfl) (fun _ _ _ h => h) (Or.inl ⟨rfl, fun wS hwS => ?_⟩) hXS ?_
  rotate_left
  · go_simp; try rfl
  simp only [List.set_cons_zero, List.set_cons_succ]
  refine wpX_hard (k := 36) (by kernel_rfl) rfl (fun K hK => ?_)
  go_simp
  (refine (rvact_k _ _ _).mono ?_; rintro x w5 ⟨x5, y5, rfl, q5, r5, hb5⟩; have HA5 := hid (⟨q5, r5⟩ : RvA w5 x5 y5 _ _); clear q5 r5; replace hk := hk.t hb5; replace hb5 := hid hb5)
  refine hK _ _ (fun _ => hS.out _ hk) ?_
  clear hK K
  try simp only [List.set_cons_zero, List.set_cons_succ]
  replace hXS := hS.out _ hk
  refine wpX_take (i := 37) (v := ?_) rfl rfl (by kernel_rfl) (fun _ _ _ h => h) (Or.inl ⟨rfl, fun wS hwS => ?_⟩) hXS ?_
  rotate_left
  · go_simp; try rfl
  simp only [List.set_cons_zero, List.set_cons_succ]
  refine wpX_hard (k := 41) (by kernel_rfl) rfl (fun K hK => ?_)
  go_simp
  refine hK _ _ (fun _ => hS.out _ (hk.alloc _)) ?_
  clear hK K
  try simp only [List.set_cons_zero, List.set_cons_succ]
  have hXS := hS.out _ (hk.alloc (.cells (rvR (.agg (vw a p (.slice A n k) e B s f c)) w.heap.size (w.heap.size + 1) x1 y1 x2 y2 x3 y3 x4 y4 x5 y5) 71))
  unfold rvR rvf rvp vw at hXS
  refine wpX_take (i := 42) (v := ?_) rfl rfl (by kernel_rfl) (fun _ _ _ h => h) (Or.inl ⟨rfl, fun wS hwS => ?_⟩) hXS ?_
  rotate_left
  · go_simp; try rfl
  simp only [List.set_cons_zero, List.set_cons_succ]
  refine wpX_done (by kernel_rfl) ?_
  go_wp2_with fail
  go_ret
  have hh := heap_alloc_new w5 (.cells (rvR (.agg (vw a p (.slice A n k) e B s f c)) w.heap.size (w.heap.size + 1) x1 y1 x2 y2 x3 y3 x4 y4 x5 y5) 71)
  have hend := (KW.refl w5).alloc (.cells (rvR (.agg (vw a p (.slice A n k) e B s f c)) w.heap.size (w.heap.size + 1) x1 y1 x2 y2 x3 y3 x4 y4 x5 y5) 71)
  have hk6 := hk.t hend
  have hV6 := KW.blk hk6 (blk_lt HV.out) HV.out
  have hL6 := KW.cell hk6 (World.block_lt_of_cell? _ _ HL.out) HL.out
  have HA5' := RvA.kw HA5.out hend
  have HA4' := RvA.kw (RvA.kw HA4.out hb5.out) hend
  have HA3' := RvA.kw (RvA.kw (RvA.kw HA3.out hb4.out) hb5.out) hend
  have HA2' := RvA.kw (RvA.kw (RvA.kw (RvA.kw HA2.out hb3.out) hb4.out) hb5.out) hend
  have HA1' := RvA.kw (RvA.kw (RvA.kw (RvA.kw (RvA.kw HA1.out hb2.out) hb3.out) hb4.out) hb5.out) hend
  rw [HZ.out.1, HZ.out.2] at HA5'
  exact ⟨_, _, _, _, _, _, _, _, _, _, _, _, _, rfl, hh, hV6, hL6, HA1', HA2', HA3', HA4', HA5', HWW.out.t hk6⟩
end Go.Proofs.Ytgadkelldbibgaa
