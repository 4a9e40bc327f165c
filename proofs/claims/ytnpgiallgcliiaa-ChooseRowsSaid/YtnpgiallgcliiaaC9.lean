/- Contract of choose.Row: a row of choices, in an array of 65. -/
import Derived.Test.YtnpgiallgcliiaaC8
import Derived.Test.YtnpgiallgcliiaaC5
import Derived.Test.YtnpgiallgcliiaaKeep
import Derived.Outline
namespace Go.Proofs.Ytnpgiallgcliiaa
open Go.ChangeShapes Go.WideShapes Go.ChangeAt Go.RowKit
set_option linter.unusedVariables false

theorem crow_no (n : Int) (w : World) (h : n < 0 ∨ 64 < n) :
    Calls Try.prog 41 #[.int .i64 n] w fun e w' => e = .returned (.slice none 0 0) ∧ KW w w' := by
  by_cases h0 : n < 0
  · clear h
    go_enter Try.func41, Try.ntmps41
    go_wp2
    go_ret
    exact ⟨rfl, KW.refl w⟩
  · have d0 : decide (n < 0) = false := by simpa using h0
    have h1 : 64 < n := by omega
    clear h
    go_enter Try.func41, Try.ntmps41
    go_wp2
    go_ret
    exact ⟨rfl, KW.refl w⟩

theorem z65 : ∀ i, i < 65 → (Try.zeroCells87.setIfInBounds 0 (.int .i64 1))[i]? = some (.int .i64 (cr 0 i)) := by
  intro i hi
  have e : Try.zeroCells87 = Array.replicate 65 (.int .i64 0) := by kernel_rfl
  rw [e, Array.getElem?_setIfInBounds]
  by_cases h : i = 0
  · subst h; rw [cr_zero]; simp
  · rw [if_neg (Ne.symm h)]
    unfold cr
    rw [Ch.ch_none (by omega)]
    simp [hi]

theorem slice65 (a : Addr) (m : Nat) (h : m ≤ 64) (W : World) :
    (Instr.sliceAt 87 (.pointer (some a)) none (some (.int .i64 ((m : Int) + 1))) none).run Try.prog W = .ok (.slice (some (a.add 0)) (m + 1) 65) W := by
  have hl : Try.prog.arrayLen 87 = 65 := by kernel_rfl
  rw [run_sliceAt_array_h W 87 a (by kernel_rfl) .i64 ((m : Int) + 1) (by omega) (by rw [hl]; omega)]
  have he : Try.prog.elem 87 = 3 := by kernel_rfl
  have hs : (sizeOf 3).run Try.prog W = .ok 1 W := by kernel_rfl
  rw [he, hs, hl]
  simp only [Result.andThen_ok, slicedAt]
  rw [if_neg (by omega), show ((m : Int) + 1).toNat - 0 = m + 1 from by omega]

/-- a row on its way: of the next one up to k -/
def mid (i k j : Nat) : Int := if 1 ≤ j ∧ j ≤ k then cr (i + 1) j else cr i j

set_option maxRecDepth 100000 in
set_option maxHeartbeats 1000000 in
theorem crow_yes (n : Nat) (w : World) (h : n ≤ 64) :
    Calls Try.prog 41 #[.int .i64 n] w (SomeRow w (n + 1) (cr n)) := by
  have d0 : decide ((n : Int) < 0) = false := by simp
  have d1 : decide ((64 : Int) < (n : Int)) = false := by simp; omega
  go_enter Try.func41, Try.ntmps41
  go_wp2_with (refine wpList_store_is rfl 87 _ _ rfl w.heap.size 65 87 _ (fun i => .int .i64 (cr 0 i)) _ rfl rfl (World.rowIs_alloc w Try.zeroCells87 87 (fun i => Try.zeroCells87.getD i undef) (fun i hi => by simp only [Array.getD_eq_getD_getElem?, Array.getElem?_eq_getElem hi, Option.getD_some])) (by kernel_rfl) (by kernel_rfl) z65 (fun _ _ => rfl) ?_)
  intro W1 hR hK hs
  have HR := hid hR
  have HK : Hid (KW w W1) := ((KW.refl w).alloc _).kept hK fun i hi => by omega
  have HS := hid hs
  clear hR hK hs
  go_wp2_with fail
  go_loopw [15] (fun i wr => ∃ m : Nat, m ≤ n ∧ i = .int .i64 m ∧ Hid (wr.rowIs w.heap.size 87 65 (fun j => .int .i64 (cr m j))) ∧ Hid (KW w wr)) (fun i _ => n - (intOf i).toNat)
  case atStart => exact ⟨0, by omega, rfl, HR, HK⟩
  case round =>
    obtain ⟨m, hm, rfl, HR2, HK2⟩ := hrel
    clear HR HK HS W1
    obtain ⟨W2, rfl⟩ : ∃ W2 : World, W2 = wr := ⟨wr, rfl⟩
    by_cases hlt : m < n
    · go_wp2_with (refine wpList_load_is rfl 87 _ rfl w.heap.size 65 87 _ rfl (.array 65 3) HR2.out Try.underlying87 rfl (by kernel_rfl) ?_)
      intro cells hcs hcells
      have HC := hid hcells
      have HS := hid hcs
      clear hcells hcs
      go_wp2_with (refine wpList_store_is rfl 87 _ _ rfl W2.heap.size 65 87 _ (fun i => .int .i64 (mid m 0 i)) _ rfl rfl (World.rowIs_alloc W2 Try.zeroCells87 87 (fun i => Try.zeroCells87.getD i undef) (fun i hi => by simp only [Array.getD_eq_getD_getElem?, Array.getElem?_eq_getElem hi, Option.getD_some])) (by kernel_rfl) HS.out (fun i hi => by rw [HC.out i hi, mid, if_neg (by omega)]) (fun _ _ => rfl) ?_)
      intro W3 hX hK3 hs3
      have HX := hid hX
      have HK3 : Hid (KW W2 W3) := ((KW.refl W2).alloc _).kept hK3 fun i hi => by omega
      clear hX hK3 hs3
      go_wp2_with fail
      go_loopw [21] (fun i w4 => ∃ k : Nat, k ≤ m + 1 ∧ i = .int .i64 k ∧ Hid (w4.rowIs W2.heap.size 87 65 (fun j => .int .i64 (mid m k j))) ∧ Hid (KW W2 w4)) (fun i _ => m + 1 - (intOf i).toNat)
      case atStart => exact ⟨0, by omega, rfl, HX, HK3⟩
      case round =>
        obtain ⟨k, hk, rfl, HX4, HK4⟩ := hrel
        clear HX HK3 W3
        have HRR := hid (HR2.out.of_block (Below.block HK4.out _ HR2.out.lt))
        have HN := hid (show w.heap.size < wr.heap.size from Nat.lt_of_lt_of_le HR2.out.lt HK4.out.size)
        by_cases hlt2 : k < m + 1
        · have hst := cr_step m k (by omega)
          have hx := HRR.out.cell (i := k) (by omega)
          have hy := HRR.out.cell (i := k + 1) (by omega)
          have hf := HX4.out.frozen (k + 1)
          have hxc := HX4.out.cell (i := k + 1) (by omega)
          have hsz := HX4.out.lt
          have x0 := cr_nn m k
          have x1 := cr_le m k
          have y0 := cr_nn m (k + 1)
          have y1 := cr_le m (k + 1)
          have hmid : Hid (∀ j, mid m (k + 1) j = if j = k + 1 then cr (m + 1) (k + 1) else mid m k j) := by
            intro j
            unfold mid
            by_cases h1 : j = k + 1
            · subst h1; rw [if_pos rfl, if_pos ⟨by omega, by omega⟩]
            · rw [if_neg h1]
              by_cases h2 : 1 ≤ j ∧ j ≤ k
              · rw [if_pos h2, if_pos ⟨h2.1, by omega⟩]
              · rw [if_neg h2, if_neg (by omega)]
          generalize mid m k (k + 1) = v at *
          generalize cr m k = x at *
          generalize cr m (k + 1) = y at *
          generalize cr (m + 1) (k + 1) = z at *
          have HA := hid (fun W t => add2 W t x y ⟨by omega, by omega⟩ ⟨by omega, by omega⟩)
          have hz : min (Ch.held x + Ch.held y) 1099511627776 = z := by rw [← hst]; unfold Ch.held; omega
          rw [hz] at HA
          clear hst hz
          have HXC := hid hxc
          have HF := hid hf
          have HX2 := hid hx
          have HY2 := hid hy
          have HZ := hid hsz
          clear hxc hf hx hy hsz
          have L5 : (k : Int) < (m : Int) + 1 := by omega
          go_wp2_with fail
          have hq := KW.refl wr
          have hXS := And.intro HX2.out HY2.out
          have L1 : IntKind.i64.wrap ((k : Int) + 1) = (k : Int) + 1 := IntWalk.i64_in _ (by omega)
          have L2 : (0 : Int) ≤ (k : Int) + 1 := by omega
          have L3 : ((k : Int) + 1).toNat = k + 1 := by omega
          have L4 : (k : Int) + 1 < 65 := by omega
          have L6 : (k : Int) < 65 := by omega
          refine wpX_region (S := fun w' => w'.cell? ⟨w.heap.size, k, none⟩ = some (.int .i64 x) ∧ w'.cell? ⟨w.heap.size, k + 1, none⟩ = some (.int .i64 y)) (L := 12) (by kernel_rfl) ?_
          refine wpX_take (i := 0) (v := ?_) rfl rfl (by kernel_rfl) (fun _ _ _ h => h) (Or.inl ⟨rfl, fun wS hwS => ?_⟩) hXS ?_
          rotate_left
          · go_simp; try rfl
          simp only [List.set_cons_zero, List.set_cons_succ]
          refine wpX_take (i := 1) (v := ?_) rfl rfl (by kernel_rfl) (fun _ _ _ h => h) (Or.inl ⟨rfl, fun wS hwS => ?_⟩) hXS ?_
          rotate_left
          · go_simp; try rfl
          simp only [List.set_cons_zero, List.set_cons_succ]
          refine wpX_take (i := 2) (v := ?_) rfl rfl (by kernel_rfl) (fun _ _ _ h => h) (Or.inl ⟨rfl, fun wS hwS => ?_⟩) hXS ?_
          rotate_left
          · go_simp; try rfl
          simp only [List.set_cons_zero, List.set_cons_succ]
          refine wpX_take (i := 3) (v := ?_) rfl rfl (by kernel_rfl) (fun _ _ _ h => h) (Or.inl ⟨rfl, fun wS hwS => ?_⟩) hXS ?_
          rotate_left
          · go_simp; try rfl
          simp only [List.set_cons_zero, List.set_cons_succ]
          refine wpX_take (i := 4) (v := ?_) rfl rfl (by kernel_rfl) (fun _ _ _ h => h) (Or.inl ⟨rfl, fun wS hwS => ?_⟩) hXS ?_
          rotate_left
          · go_simp; try rfl
          simp only [List.set_cons_zero, List.set_cons_succ]
          refine wpX_take (i := 5) (v := ?_) rfl rfl (by kernel_rfl) (fun _ _ _ h => h) (Or.inl ⟨rfl, fun wS hwS => ?_⟩) hXS ?_
          rotate_left
          · go_simp; try rfl
          simp only [List.set_cons_zero, List.set_cons_succ]
          refine wpX_take (i := 6) (v := ?_) rfl rfl (by kernel_rfl) (fun _ _ _ h => h) (Or.inl ⟨rfl, fun wS hwS => ?_⟩) hXS ?_
          rotate_left
          · go_simp; try rfl
          simp only [List.set_cons_zero, List.set_cons_succ]
          refine wpX_take (i := 7) (v := ?_) rfl rfl (by kernel_rfl) (fun _ _ _ h => h) (Or.inl ⟨rfl, fun wS hwS => ?_⟩) hXS ?_
          rotate_left
          · go_simp; try rfl
          simp only [List.set_cons_zero, List.set_cons_succ]
          refine wpX_take (i := 8) (v := ?_) rfl rfl (by kernel_rfl) (fun _ _ _ h => h) (Or.inl ⟨rfl, fun wS hwS => ?_⟩) hXS ?_
          rotate_left
          · go_simp; try rfl
          simp only [List.set_cons_zero, List.set_cons_succ]
          refine wpX_hard (k := 9) (by kernel_rfl) rfl (fun K hK => ?_)
          go_simp
          refine hK _ _ (fun _ => ⟨(hq.alloc _).cell HN.out HX2.out, (hq.alloc _).cell HN.out HY2.out⟩) ?_
          clear hK K
          try simp only [List.set_cons_zero, List.set_cons_succ]
          refine wpX_hard (k := 10) (by kernel_rfl) rfl (fun K hK => ?_)
          go_simp
          (refine (HA.out wr.drew 3).mono ?_; rintro e w5 ⟨rfl, hb⟩; have hb := hid hb)
          refine hK _ _ (fun _ => ⟨KW.cell hb.out HN.out HX2.out, KW.cell hb.out HN.out HY2.out⟩) ?_
          clear hK K
          try simp only [List.set_cons_zero, List.set_cons_succ]
          have hXS := And.intro (KW.cell hb.out HN.out HX2.out) (KW.cell hb.out HN.out HY2.out)
          have hxc := KW.cell hb.out HZ.out HXC.out
          have hf := KW.frozen hb.out HZ.out HF.out
          refine wpX_take (i := 11) (v := ?_) rfl rfl (by kernel_rfl) (fun _ _ _ h => h) (Or.inl ⟨rfl, fun wS hwS => ?_⟩) hXS ?_
          rotate_left
          · go_simp; try rfl
          simp only [List.set_cons_zero, List.set_cons_succ]
          refine wpX_hard (k := 12) (by kernel_rfl) rfl (fun K hK => ?_)
          go_simp
          refine hK _ _ (fun h => absurd rfl h) ?_
          clear hK K
          refine wpX_done (by kernel_rfl) ?_
          have HK6 : Hid (KW W2 (w5.setCell ⟨W2.heap.size, k + 1, none⟩ (.int .i64 z))) := Below.setCell (HK4.out.t ((KW.refl wr).drew.t hb.out)) (Nat.le_refl _) _
          have HX6 : Hid ((w5.setCell ⟨W2.heap.size, k + 1, none⟩ (.int .i64 z)).rowIs W2.heap.size 87 65 (fun j => .int .i64 (mid m (k + 1) j))) :=
            ((KW.row hb.out HZ.out HX4.out).set (k + 1) (.int .i64 z)).congr fun j hj => by
              rw [hmid.out j]; split <;> rfl
          clear hXS hxc hf
          go_wp2_with fail
          go_roundw
          case rel => exact ⟨k + 1, by omega, by go_num, HX6, HK6⟩
          case measure => simp [intOf]; omega
        · have HQ := hid (show k = m + 1 by omega)
          have D1 : decide ((k : Int) < (m : Int) + 1) = false := by simp; omega
          have D2 : ¬ ((k : Int) ≤ (m : Int)) := by omega
          have HX7 := hid (HX4.out.congr (g := fun j => .int .i64 (cr (m + 1) j)) fun j hj => by
            rw [HQ.out]
            show Value.int .i64 (mid m (m + 1) j) = _
            unfold mid
            split
            · rfl
            · rename_i h1
              by_cases h2 : j = 0
              · subst h2; rw [cr_zero, cr_zero]
              · unfold cr; rw [Ch.ch_none (by omega), Ch.ch_none (by omega)])
          have L7 : IntKind.i64.wrap ((m : Int) + 1) = (m : Int) + 1 := IntWalk.i64_in _ (by omega)
          clear hlt2
          go_wp2_with (refine wpList_load_is rfl 87 _ rfl W2.heap.size 65 87 _ rfl (.array 65 3) HX7.out Try.underlying87 rfl (by kernel_rfl) ?_)
          intro cells2 hcs hcells
          have HC2 := hid hcells
          have HS2 := hid hcs
          clear hcells hcs
          go_wp2_with (refine wpList_store_is rfl 87 _ _ rfl w.heap.size 65 87 _ (fun i => .int .i64 (cr (m + 1) i)) _ rfl rfl HRR.out (by kernel_rfl) HS2.out HC2.out (fun _ _ => rfl) ?_)
          intro W8 hX hK3 hs3
          have HX8 := hid hX
          have HK8 : Hid (KW w W8) := (HK2.out.t HK4.out).kept hK3 fun i hi => by omega
          clear hX hK3 hs3
          go_wp2_with fail
          go_roundw
          case rel => exact ⟨m + 1, by omega, by go_num, HX8, HK8⟩
          case measure => simp [intOf]; omega
    · obtain rfl : m = n := by omega
      have hsl := fun W => slice65 ⟨w.heap.size, 0, none⟩ m h W
      have ha : (⟨w.heap.size, 0, none⟩ : Addr).add 0 = ⟨w.heap.size, 0, none⟩ := rfl
      simp only [ha] at hsl
      clear hlt ha
      go_wp2_with (at_builtin; refine wpList_appS rfl sliceInt.s rfl (W := W2.alloc (.cells #[] 3)) (base := W2.heap.size) (k := m + 1) (n := 0) (xs := []) (ys := lst (cr m) (m + 1)) rfl rfl (rowIs_holds (HR2.out.alloc _) (by omega) (fun _ _ => rfl)) (World.ownsRow_made W2 #[] 0 (Nat.le_refl _) (Nat.zero_le _) rfl) (by simp) (by omega) (by omega) ?_)
      intro v' w3 hown hkeep
      have hO : Owns w3 W2.heap.size 3 v' (lst (cr m) (m + 1)) := by
        unfold Owns
        rw [lst_len]
        simpa using hown
      obtain ⟨A', c', rfl, _, hrow⟩ := hO.lst
      have HR3 := hid hrow
      have HK3 : Hid (KW w w3) := HK2.out.t (((KW.refl W2).alloc _).kept hkeep fun i hi => by simp [Value.ownBlock] at hi; omega)
      clear hown hkeep hrow hO
      go_wp2_with fail
      go_ret
      exact ⟨A', c', rfl, HR3.out, HK3.out⟩
end Go.Proofs.Ytnpgiallgcliiaa
