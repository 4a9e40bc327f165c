/- Contracts of the reference's ahead, Ahead (layer 31). -/
import Derived.Test.YtkdamcacmecnaaaT15
import Derived.Test.YtkdamcacmecnaaaPlainW
import Derived.Test.YtkdamcacmecnaaaPlainV
namespace Go.Proofs.Ytkdamcacmecnaaa
open Go.ChangeShapes Go.WideShapes Go.ChangeAt Go.RowKit
set_option linter.unusedVariables false

theorem rahead_no (k s : Int) (w : World) (h : k < 0 ∨ 65536 ≤ k ∨ s < 1 ∨ 1048576 < s) :
    Calls Try.prog 34 #[.int .i64 k, .int .i64 s] w fun e w' => e = .returned (.tuple #[.slice none 0 0, .int .i64 2]) ∧ w = w' := by
  have HN := hid (fun W => rstride_no k s W h)
  clear h
  go_enter Try.func34, Try.ntmps34
  go_wp2_with (go_at_call 23; refine (HN.out _).mono ?_; rintro e w1 ⟨rfl, rfl⟩)
  go_ret2
  exact ⟨rfl, rfl⟩
theorem rslist_no (k s : Int) (w : World) (h : k < 0 ∨ 65536 ≤ k ∨ s < 1 ∨ 1048576 < s) :
    Calls Try.prog 36 #[.int .i64 k, .int .i64 s] w fun e w' => e = .returned (.tuple #[.slice none 0 0, .int .i64 2]) ∧ w = w' := by
  have HN := hid (fun W => rstride_no k s W h)
  clear h
  go_enter Try.func36, Try.ntmps36
  go_wp2_with (go_at_call 23; refine (HN.out _).mono ?_; rintro e w1 ⟨rfl, rfl⟩)
  go_ret2
  exact ⟨rfl, rfl⟩
/-- what ahead leaves -/
def AheadP (n k : Nat) (w : World) (e : Ending) (w' : World) : Prop :=
  ∃ A c v, e = .returned (.tuple #[.slice A (Sd.aA n k).length c, v]) ∧ OwnsA w' w.heap.size (.slice A (Sd.aA n k).length c) (Sd.aA n k) ∧ Tgo w' w.heap.size v (Sd.aT n k) ∧ (∀ b, (Value.slice A (Sd.aA n k).length c).ownBlock = some b → ¬ tbk v = some b) ∧ KW w w'
set_option maxRecDepth 100000 in
set_option maxHeartbeats 4000000 in
theorem rsteps_any (k n : Nat) (w : World) (hk : k < 65536) (hn : 1 ≤ n ∧ n ≤ 1048576) :
    Calls Try.prog 63 #[.int .i64 k, .int .i64 n] w (AheadP n k w) := by
  have hmk := fun W => run_make_row' (P := Try.prog) 25 3 (.int .i64 0) 8 Try.underlying25 (by kernel_rfl) rfl .i64 .i64 n (by omega) (by omega) W
  have HG := hid (fun i A c W (hi : i ≤ k) (h : Row1 W A n fun j => .int .i64 ((Sd.aZ n i).getD j 0)) => (by
    have := grow_any (Sd.aZ n i) i A c W (by omega) (by rw [Sd.aZ_len]; exact hn) (Sd.aZ_vac (by omega) hn) (by rw [Sd.aZ_len]; exact h)
    rw [Sd.aZ_len] at this
    exact this : Calls Try.prog 87 #[.slice A n c, .int .i64 i] W (GrowP (Sd.aZ n i) i W)))
  unfold GrowP at HG
  have HZl := hid (fun i => Sd.aZ_len n i)
  have HZs := hid (fun i => Sd.aZ_succ n i)
  have HLen := hid (fun k (hk : k ≤ 65536) => Sd.aB_b n hk)
  have HGl := hid (fun i => Sd.gA_le (Sd.aZ n i) i)
  have HEnd := hid (Sd.aB_aA n k)
  have HZe : Hid (Sd.aZ n (k + 1) = Sd.aT n k) := rfl
  have HB0 : Hid (Sd.aB n 1 = [] ++ Sd.gA (Sd.aZ n 0) 0) := rfl
  have HBs : Hid (∀ i, Sd.aB n (i + 1 + 1) = (Sd.aB n (i + 1) ++ [(1, 1)]) ++ Sd.gA (Sd.aZ n (i + 1)) (i + 1)) := fun i => by
    show Sd.aB n (i + 1) ++ ((1, 1) :: Sd.gA (Sd.aZ n (i + 1)) (i + 1)) = _
    simp
  have HB00 : Hid (Sd.aB n 0 = []) := rfl
  unfold AheadP
  go_enter Try.func63, Try.ntmps63
  go_wp2_with fail
  have HR0 : Hid ((w.alloc (.cells (madeCells #[.int .i64 0] n) 3)).rowIs w.heap.size 3 n (fun i => .int .i64 (if i < 0 then -1 else 0))) := (World.rowIs_made w (.int .i64 0) n 3).congr fun i hi => by rw [if_neg (by omega)]
  have HK0 : Hid (KW w (w.alloc (.cells (madeCells #[.int .i64 0] n) 3))) := (KW.refl w).alloc _
  go_loopw [7] (fun i wr => ∃ j : Nat, j ≤ n ∧ i = .int .i64 j ∧ Hid (wr.rowIs w.heap.size 3 n (fun i => .int .i64 (if i < j then -1 else 0))) ∧ Hid (KW w wr)) (fun i _ => n - (intOf i).toNat)
  case atStart => exact ⟨0, by omega, rfl, HR0, HK0⟩
  case round =>
    clear HR0 HK0
    obtain ⟨j, hj, rfl, HR, HK⟩ := hrel
    by_cases hlt : j < n
    · have hc := HR.out.cell (i := j) hlt
      have hf := HR.out.frozen j
      have L5 : (j : Int) < (n : Int) := by omega
      have HS : Hid ((wr.setCell ⟨w.heap.size, j, none⟩ (.int .i64 (-1))).rowIs w.heap.size 3 n (fun i => .int .i64 (if i < j + 1 then -1 else 0))) := (HR.out.set j (.int .i64 (-1))).congr fun i hi => by
        by_cases e : i = j
        · rw [if_pos e, if_pos (by omega)]
        · by_cases e2 : i < j
          · rw [if_neg e, if_pos e2, if_pos (by omega)]
          · rw [if_neg e, if_neg e2, if_neg (by omega)]
      have HKs : Hid (KW w (wr.setCell ⟨w.heap.size, j, none⟩ (.int .i64 (-1)))) := Below.setCell (p := ⟨w.heap.size, j, none⟩) HK.out (Nat.le_refl _) _
      go_wp2_with fail
      go_roundw
      case rel => exact ⟨j + 1, by omega, by go_num, HS, HKs⟩
      case measure => simp [intOf]; omega
    · obtain rfl : j = n := by omega
      clear hlt
      have HT : Hid (Tgo wr w.heap.size (.slice (some ⟨w.heap.size, 0, none⟩) j j) (Sd.aZ j 0)) :=
        ⟨_, j, by rw [HZl.out], fun _ => ⟨w.heap.size, j, _, rfl, Nat.le_refl _, by rw [HZl.out]; omega, HR.out, fun i hi => by
          rw [HZl.out] at hi
          rw [if_pos hi]
          simp [Sd.aZ, hi]⟩⟩
      have HTw := hid (HT.out.kw ((KW.refl wr).alloc (.cells #[] 55)))
      have HOA : Hid (OwnsA (wr.alloc (.cells #[] 55)) w.heap.size (.slice (some ⟨wr.heap.size, 0, none⟩) 0 0) (Sd.aB j 0)) := by rw [HB00.out]; exact hid (OwnsA.new0 wr HK.out.size)
      have HKw := hid (HK.out.alloc (.cells #[] 55))
      have hlt0 := HR.out.lt
      clear hmk HR HT HK
      go_wp2_with fail
      go_loopw [6, 8, 9] (fun v vo i wr => ∃ q : Nat, q ≤ k + 1 ∧ i = .int .i64 q ∧ Hid (OwnsA wr w.heap.size vo (Sd.aB j q)) ∧ Hid (Tgo wr w.heap.size v (Sd.aZ j q)) ∧ Hid (∀ b, vo.ownBlock = some b → ¬ tbk v = some b) ∧ Hid (KW w wr)) (fun _ _ i _ => k + 1 - (intOf i).toNat)
      case atStart => exact ⟨0, by omega, rfl, HOA, HTw, fun b h h2 => (by have h3 : wr.heap.size = b := (by simpa [Value.ownBlock] using h)
                                                                           have h4 := (HTw.out.lt h2)
                                                                           have h5 := tbk_own h2
                                                                           have h6 : w.heap.size = b := (by simpa [Value.ownBlock] using h5)
                                                                           omega), HKw⟩
      case round =>
        clear HOA HTw HKw
        obtain ⟨q, hq, rfl, HO, HT, HB, HK⟩ := hrel
        obtain ⟨Av, cv, hvv, _, _⟩ := HO.out.slice
        subst hvv
        obtain ⟨A2, c2, hv2, _⟩ := HT.out
        rw [HZl.out] at hv2
        subst hv2
        by_cases hlt : q < k + 1
        · have L5 : (q : Int) ≤ (k : Int) := by omega
          have hl1 := HLen.out q (by omega)
          have hl2 := HGl.out q
          cases q with
          | zero =>
            rw [HB00.out] at HO
            have HOW := HO.out
            have HTW := HT.out
            have HKW := HK.out
            have HBB := HB0.out
            have HQ1 : Hid ((([] : List Mc.Act).length + (Sd.gA (Sd.aZ j 0) 0).length) * 16 ≤ 140737488355328) := hid (by simp; omega)
            have HQ2 : Hid (([] : List Mc.Act).length + (Sd.gA (Sd.aZ j 0) 0).length ≤ 9223372036854775807) := hid (by simp; omega)
            have HGq := hid (HG.out 0 A2 c2 wr (by omega) (HTW.row1 (HZl.out 0)))
            go_wp2_with fail
            refine HGq.out.mono ?_
            rintro e w6 ⟨Ag, cg, v6, rfl, hog, htg, hk6⟩
            have HHg := hid hog.holds
            have HTg := hid htg
            have HKg := hid hk6
            have HOv := hid (HOW.kw hk6)
            have HVl : Hid (∀ b, (Value.slice Av ([] : List Mc.Act).length cv).ownBlock = some b → b < wr.heap.size) := fun b hb => (HOW.lt hb).2
            clear hog htg hk6
            have HQ3 : Hid (w.heap.size ≤ w6.heap.size) := (HKW.t HKg.out).size
            go_wp2_with (at_builtin; refine wpList_appA rfl sliceAct rfl (W := w6) (base := w.heap.size) (k := (Sd.gA (Sd.aZ j 0) 0).length) (n := ([] : List Mc.Act).length) (v := (Value.slice Av ([] : List Mc.Act).length cv)) (u := .slice Ag (Sd.gA (Sd.aZ j 0) 0).length cg) (xs := acl ([] : List Mc.Act)) (ys := acl (Sd.gA (Sd.aZ j 0) 0)) rfl rfl HHg.out HOv.out HQ3.out HQ1.out HQ2.out ?_; intro v7 w7 hown7 hkeep7 hv7)
            have HO7 : Hid (OwnsA w7 w.heap.size v7 (Sd.aB j (0 + 1))) := by rw [HBB]; exact hid (OwnsA.app hown7)
            have HT7 : Hid (Tgo w7 w.heap.size v6 (Sd.aZ j (0 + 1))) := by
              rw [HZs.out]
              exact (HTg.out.keep hkeep7 fun b hb h => by have h1 := (HTg.out.lt hb).1; have h2 := HVl.out b h; omega).base HKW.size
            have HK7 : Hid (KW w w7) := (HKW.t HKg.out).kept hkeep7 fun i hi => (HOv.out.lt hi).1
            have HB7 : Hid (∀ b, v7.ownBlock = some b → ¬ tbk v6 = some b) := fun b hb h2 => by
              have h1 := HTg.out.lt h2
              rcases hv7 with h | h
              · have h3 := HVl.out b (by rw [← h]; exact hb)
                omega
              · rw [h] at hb
                cases hb
                omega
            clear hown7 hkeep7 hv7
            go_wp2_with fail
            go_roundw
            case rel => exact ⟨0 + 1, by omega, by go_num, HO7, HT7, HB7, HK7⟩
            case measure => simp [intOf]
          | succ q =>
            have HX : Hid (Holds (wr.alloc (.cells #[.int .i64 1, .int .i64 1] 55)) (.slice (some ⟨wr.heap.size, 0, none⟩) 1 1) 1 2 [.int .i64 1, .int .i64 1]) := Holds.new (w := wr) (t := 55) (k := 1) (size := 2) (c := 1) (ys := [.int .i64 1, .int .i64 1]) rfl rfl
            have HO5 := hid (HO.out.kw ((KW.refl wr).alloc (.cells #[.int .i64 1, .int .i64 1] 55)))
            have HP1 : Hid (((Sd.aB j (q + 1)).length + 1) * 16 ≤ 140737488355328) := hid (by omega)
            have HP2 : Hid ((Sd.aB j (q + 1)).length + 1 ≤ 9223372036854775807) := hid (by omega)
            have HP3 : Hid (w.heap.size ≤ (wr.alloc (.cells #[.int .i64 1, .int .i64 1] 55)).heap.size) := by have := HK.out.size; exact hid (by simp; omega)
            go_wp2_with (at_builtin; refine wpList_appA rfl sliceAct rfl (W := wr.alloc (.cells #[.int .i64 1, .int .i64 1] 55)) (base := w.heap.size) (k := 1) (n := (Sd.aB j (q + 1)).length) (v := .slice Av (Sd.aB j (q + 1)).length cv) (u := .slice (some ⟨wr.heap.size, 0, none⟩) 1 1) (xs := acl (Sd.aB j (q + 1))) (ys := [.int .i64 1, .int .i64 1]) rfl rfl HX.out HO5.out HP3.out HP1.out HP2.out ?_; intro v5 w5 hown5 hkeep5 hv5)
            have HOW : OwnsA w5 w.heap.size v5 (Sd.aB j (q + 1) ++ [(1, 1)]) := OwnsA.app (l' := [((1 : Int), (1 : Int))]) hown5
            have HTW : Tgo w5 w.heap.size (.slice A2 j c2) (Sd.aZ j (q + 1)) := (HT.out.kw ((KW.refl wr).alloc _)).keep hkeep5 fun b hb h => HB.out b h hb
            have HKW : KW w w5 := (HK.out.alloc _).kept hkeep5 fun i hi => (HO5.out.lt hi).1
            obtain ⟨A5, c5, hv5', _, _⟩ := HOW.slice
            subst hv5'
            have HBB := HBs.out q
            have hll : (Sd.aB j (q + 1) ++ [((1 : Int), (1 : Int))]).length = (Sd.aB j (q + 1)).length + 1 := by simp
            have HQ1 : Hid (((Sd.aB j (q + 1) ++ [((1 : Int), (1 : Int))]).length + (Sd.gA (Sd.aZ j (q + 1)) (q + 1)).length) * 16 ≤ 140737488355328) := hid (by rw [hll]; omega)
            have HQ2 : Hid ((Sd.aB j (q + 1) ++ [((1 : Int), (1 : Int))]).length + (Sd.gA (Sd.aZ j (q + 1)) (q + 1)).length ≤ 9223372036854775807) := hid (by rw [hll]; omega)
            clear hown5 hkeep5 hv5 HO5 HX hll
            generalize hLL : Sd.aB j (q + 1) ++ [((1 : Int), (1 : Int))] = LL at *
            clear hLL
            have HGq := hid (HG.out (q + 1) A2 c2 w5 (by omega) (HTW.row1 (HZl.out (q + 1))))
            go_wp2_with fail
            refine HGq.out.mono ?_
            rintro e w6 ⟨Ag, cg, v6, rfl, hog, htg, hk6⟩
            have HHg := hid hog.holds
            have HTg := hid htg
            have HKg := hid hk6
            have HOv := hid (HOW.kw hk6)
            have HVl : Hid (∀ b, (Value.slice A5 LL.length c5).ownBlock = some b → b < w5.heap.size) := fun b hb => (HOW.lt hb).2
            clear hog htg hk6
            have HQ3 : Hid (w.heap.size ≤ w6.heap.size) := (HKW.t HKg.out).size
            go_wp2_with (at_builtin; refine wpList_appA rfl sliceAct rfl (W := w6) (base := w.heap.size) (k := (Sd.gA (Sd.aZ j (q + 1)) (q + 1)).length) (n := LL.length) (v := (Value.slice A5 LL.length c5)) (u := .slice Ag (Sd.gA (Sd.aZ j (q + 1)) (q + 1)).length cg) (xs := acl LL) (ys := acl (Sd.gA (Sd.aZ j (q + 1)) (q + 1))) rfl rfl HHg.out HOv.out HQ3.out HQ1.out HQ2.out ?_; intro v7 w7 hown7 hkeep7 hv7)
            have HO7 : Hid (OwnsA w7 w.heap.size v7 (Sd.aB j ((q + 1) + 1))) := by rw [HBB]; exact hid (OwnsA.app hown7)
            have HT7 : Hid (Tgo w7 w.heap.size v6 (Sd.aZ j ((q + 1) + 1))) := by
              rw [HZs.out]
              exact (HTg.out.keep hkeep7 fun b hb h => by have h1 := (HTg.out.lt hb).1; have h2 := HVl.out b h; omega).base HKW.size
            have HK7 : Hid (KW w w7) := (HKW.t HKg.out).kept hkeep7 fun i hi => (HOv.out.lt hi).1
            have HB7 : Hid (∀ b, v7.ownBlock = some b → ¬ tbk v6 = some b) := fun b hb h2 => by
              have h1 := HTg.out.lt h2
              rcases hv7 with h | h
              · have h3 := HVl.out b (by rw [← h]; exact hb)
                omega
              · rw [h] at hb
                cases hb
                omega
            clear hown7 hkeep7 hv7
            go_wp2_with fail
            go_roundw
            case rel => exact ⟨q + 1 + 1, by omega, by go_num, HO7, HT7, HB7, HK7⟩
            case measure => simp [intOf]; omega
        · obtain rfl : q = k + 1 := by omega
          have d1 : decide (((k + 1 : Nat) : Int) ≤ (k : Int)) = false := decide_eq_false (by omega)
          clear hlt
          rw [HZe.out] at HT
          have HO' := HO
          rw [HEnd.out] at HO' 
          have hBv : ∀ b, (Value.slice Av (Sd.aA j k).length cv).ownBlock = some b → ¬ tbk (.slice A2 j c2) = some b := fun b hb => HB.out b (by rw [HEnd.out]; exact hb)
          have HBv := hid hBv
          clear hBv
          rw [HEnd.out]
          go_wp2_with fail
          go_ret2
          exact ⟨Av, cv, _, rfl, HO'.out, HT.out, HBv.out, HK.out⟩

theorem rahead_yes (k n : Nat) (w : World) (hk : k < 65536) (hn : 1 ≤ n ∧ n ≤ 1048576) :
    Calls Try.prog 34 #[.int .i64 k, .int .i64 n] w (ActsP w (Sd.aA n k) 0) := by
  have HS := hid (fun W => rstride_yes k n W (by omega) (by omega) (by omega) (by omega))
  have HN := hid (fun W => rsteps_any k n W hk hn)
  unfold AheadP at HN
  unfold ActsP
  go_enter Try.func34, Try.ntmps34
  go_wp2_with (go_at_call 23; refine (HS.out _).mono ?_; rintro e w1 ⟨rfl, rfl⟩)
  refine (HN.out _).mono ?_
  rintro e w1 ⟨A, c, v, rfl, ho, ht, _, hk⟩
  obtain ⟨A2, c2, hv2, _⟩ := ht
  subst hv2
  have HO := hid ho
  have HK := hid hk
  clear ho hk
  go_wp2_with fail
  go_ret2
  exact ⟨A, c, rfl, HO.out, HK.out⟩
end Go.Proofs.Ytkdamcacmecnaaa
