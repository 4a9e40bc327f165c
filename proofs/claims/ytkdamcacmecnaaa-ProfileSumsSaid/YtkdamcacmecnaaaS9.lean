/- profile.Of$1: what it adds of an action. -/
import Derived.Test.YtkdamcacmecnaaaS7
namespace Go.Proofs.Ytkdamcacmecnaaa
open Go.ChangeShapes Go.WideShapes Go.ChangeAt Go.RowKit
set_option linter.unusedVariables false

theorem maxite (a b : Nat) : (if a < b then (b : Int) else (a : Int)) = ((max a b : Nat) : Int) := by split <;> omega
theorem RT0.keep {own : Nat → Prop} {w w' : World} {v : Value} {tags : List Int} (h : RT0 w v tags) (hk : Keep own w w') (hn : ∀ b, v.ownBlock = some b → ¬ own b) : RT0 w' v tags := by
  obtain ⟨A, c, rfl, hr⟩ := h
  exact ⟨A, c, rfl, hk.row1 hr fun b off hA => hn b (by rw [hA]; rfl)⟩
/-- a profile's cells -/
def pfv (tot pk most : Int) (kdf : Nat → Int) (s : Value) : Nat → Value := fun i => if i = 0 then .int .i64 tot else if i = 1 then .int .i64 pk else if i = 2 then .int .i64 most else if i = 13 then s else .int .i64 (kdf (i - 3))
theorem pfv_kd (tot pk most : Int) (kdf : Nat → Int) (s : Value) {c : Nat} (h : c < 10) : pfv tot pk most kdf s (3 + c) = .int .i64 (kdf c) := by
  unfold pfv
  rw [if_neg (by omega), if_neg (by omega), if_neg (by omega), if_neg (by omega), show 3 + c - 3 = c by omega]
theorem pfv_set_kd (tot pk most : Int) (kdf : Nat → Int) (s : Value) {q : Nat} (h : q < 10) (i : Nat) (hi : i < 14) : (if i = 3 + q then Value.int .i64 (kdf q + 1) else pfv tot pk most kdf s i) = pfv tot pk most (fun c => kdf c + if c = q then 1 else 0) s i := by
  by_cases e : i = 3 + q
  · subst e
    rw [if_pos rfl, pfv_kd _ _ _ _ _ h, if_pos rfl]
  · rw [if_neg e]
    unfold pfv
    by_cases h0 : i = 0
    · rw [if_pos h0, if_pos h0]
    by_cases h1 : i = 1
    · rw [if_neg h0, if_pos h1, if_neg h0, if_pos h1]
    by_cases h2 : i = 2
    · rw [if_neg h0, if_neg h1, if_pos h2, if_neg h0, if_neg h1, if_pos h2]
    by_cases h3 : i = 13
    · rw [if_neg h0, if_neg h1, if_neg h2, if_pos h3, if_neg h0, if_neg h1, if_neg h2, if_pos h3]
    · rw [if_neg h0, if_neg h1, if_neg h2, if_neg h3, if_neg h0, if_neg h1, if_neg h2, if_neg h3]
      show _ = Value.int .i64 (kdf (i - 3) + if i - 3 = q then 1 else 0)
      rw [if_neg (by omega), Int.add_zero]
theorem pfv_set_pk (tot pk pk' most : Int) (kdf : Nat → Int) (s : Value) (i : Nat) : (if i = 1 then Value.int .i64 pk' else pfv tot pk most kdf s i) = pfv tot pk' most kdf s i := by
  unfold pfv
  by_cases h1 : i = 1
  · rw [if_pos h1, if_neg (by omega), if_pos h1]
  · rw [if_neg h1, if_neg h1, if_neg h1]
set_option maxRecDepth 100000 in
set_option maxHeartbeats 2000000 in
theorem of1_any (pb sb L : Nat) (pk : Nat) (kdf : Nat → Int) (st : Nat → Int) (q : Nat) (y p1 p2 : Int) (a1 a2 : Nat) (va vb : Value) (ta tb : List Int) (w : World) (hq : 1 ≤ q ∧ q ≤ 7) (ha : a1 ≤ L ∧ a2 ≤ L ∧ L ≤ 65536) (haa : q = 1 → a1 ≤ a2) (hpk : pk ≤ 1048576)
    (hkd : ∀ c, 0 ≤ kdf c ∧ kdf c ≤ 1099511627776) (hst : ∀ i, 0 ≤ st i ∧ st i ≤ 1099511627776) (hla : ta.length ≤ 1048576) (hlb : tb.length ≤ 1048576) (hva : RT0 w va ta) (hvb : RT0 w vb tb) (hna : ∀ b, va.ownBlock = some b → ¬ b = pb) (hnb : ∀ b, vb.ownBlock = some b → ¬ b = pb) (hne : pb ≠ sb)
    (hp : w.rowIs pb 35 14 (pfv 0 pk 0 kdf (.slice (some ⟨sb, 0, none⟩) L L))) (hs : w.rowIs sb 3 L fun i => .int .i64 (st i)) :
    Calls Try.prog 46 #[.agg #[.int .i64 q, .int .i64 y, .int .i64 a1, .int .i64 p1, va, .int .i64 a2, .int .i64 p2, vb], .pointer (some ⟨pb, 0, none⟩)] w
      fun e w' => e = .returned (.tuple #[]) ∧ w'.rowIs pb 35 14 (pfv 0 ((max pk (max (Mc.cnt ta) (Mc.cnt tb)) : Nat) : Int) 0 (fun c => kdf c + if c = q then 1 else 0) (.slice (some ⟨sb, 0, none⟩) L L)) ∧
        (w'.rowIs sb 3 L fun i => .int .i64 (st i + if q = 1 ∧ a1 ≤ i ∧ i < a2 then 1 else 0)) ∧ Keep (fun i => i = pb ∨ i = sb) w w' := by
  have H2 := hid (fun W (hk : Keep (· = pb) w W) => sheld_any q y a1 p1 a2 p2 va vb ta tb W hla hlb (hva.keep hk hna) (hvb.keep hk hnb))
  obtain ⟨A1, c1, rfl, _⟩ := hva
  obtain ⟨A2, c2, rfl, _⟩ := hvb
  generalize max (Mc.cnt ta) (Mc.cnt tb) = mx at *
  generalize ta.length = N1 at *
  generalize tb.length = N2 at *
  have HP := hid hp
  have HS := hid hs
  have HKd := hid (hkd q)
  have HSt := hid hst
  have HNe := hid hne
  have HMx : Hid (pk ≤ 1048576) := hpk
  clear hkd hst hna hnb
  have hlt := hp.lt
  have hls := hs.lt
  have cp : (w.alloc (.cells #[.int .i64 q, .int .i64 y, .int .i64 a1, .int .i64 p1, .slice A1 N1 c1, .int .i64 a2, .int .i64 p2, .slice A2 N2 c2] 77)).cell? ⟨pb, 3 + q, none⟩ = some (.int .i64 (kdf q)) := by
    rw [(hp.alloc _).cell (i := 3 + q) (by omega)]
    exact congrArg some (pfv_kd _ _ _ _ _ (by omega))
  have fp := (hp.alloc (.cells #[.int .i64 q, .int .i64 y, .int .i64 a1, .int .i64 p1, .slice A1 N1 c1, .int .i64 a2, .int .i64 p2, .slice A2 N2 c2] 77)).frozen (3 + q)
  have K1 : IntKind.i64.wrap (kdf q + 1) = kdf q + 1 := IntWalk.i64_in _ (by have := HKd.out; omega)
  have K2 : q < 10 := by omega
  have K3 : (q : Int) < 10 := by omega
  go_enter Try.func46, Try.ntmps46
  go_wp2_with fail
  refine wpCode_world (fun W => Keep (· = pb) w W ∧ w.heap.size < W.heap.size ∧ (W.rowIs pb 35 14 (pfv 0 pk 0 (fun c => kdf c + if c = q then 1 else 0) (.slice (some ⟨sb, 0, none⟩) L L))) ∧ (W.cell? ⟨w.heap.size, 0, none⟩ = some (.int .i64 q) ∧ W.cell? ⟨w.heap.size, 1, none⟩ = some (.int .i64 y) ∧ W.cell? ⟨w.heap.size, 2, none⟩ = some (.int .i64 a1) ∧ W.cell? ⟨w.heap.size, 3, none⟩ = some (.int .i64 p1) ∧ W.cell? ⟨w.heap.size, 4, none⟩ = some (.slice A1 N1 c1) ∧ W.cell? ⟨w.heap.size, 5, none⟩ = some (.int .i64 a2) ∧ W.cell? ⟨w.heap.size, 6, none⟩ = some (.int .i64 p2) ∧ W.cell? ⟨w.heap.size, 7, none⟩ = some (.slice A2 N2 c2))) ⟨((Keep.refl (· = pb) w).setCell _ _ rfl).alloc _, by simp, ?_, ?_⟩ ?_
  · exact ((HP.out.set (3 + q) _).congr fun i hi => pfv_set_kd _ _ _ _ _ (by omega) i hi).alloc _
  · refine ⟨?_, ?_, ?_, ?_, ?_, ?_, ?_, ?_⟩ <;> go_simp
  rintro W ⟨hkW, hszW, hrW, hX⟩
  clear cp fp
  have HKW := hid hkW
  have HZW := hid hszW
  have HRW := hid hrW
  have HX := hid hX
  clear hkW hszW hrW hX
  have HSS : Hid (∀ w', KW W w' → (w'.cell? ⟨pb, 1, none⟩ = some (.int .i64 pk) ∧ w'.cell? ⟨w.heap.size, 0, none⟩ = some (.int .i64 q) ∧ w'.cell? ⟨w.heap.size, 1, none⟩ = some (.int .i64 y) ∧ w'.cell? ⟨w.heap.size, 2, none⟩ = some (.int .i64 a1) ∧ w'.cell? ⟨w.heap.size, 3, none⟩ = some (.int .i64 p1) ∧ w'.cell? ⟨w.heap.size, 4, none⟩ = some (.slice A1 N1 c1) ∧ w'.cell? ⟨w.heap.size, 5, none⟩ = some (.int .i64 a2) ∧ w'.cell? ⟨w.heap.size, 6, none⟩ = some (.int .i64 p2) ∧ w'.cell? ⟨w.heap.size, 7, none⟩ = some (.slice A2 N2 c2))) := fun w' hq =>
    ⟨KW.cell hq HRW.out.lt (HRW.out.cell (i := 1) (by omega)), KW.cell hq HZW.out HX.out.1, KW.cell hq HZW.out HX.out.2.1, KW.cell hq HZW.out HX.out.2.2.1, KW.cell hq HZW.out HX.out.2.2.2.1, KW.cell hq HZW.out HX.out.2.2.2.2.1, KW.cell hq HZW.out HX.out.2.2.2.2.2.1, KW.cell hq HZW.out HX.out.2.2.2.2.2.2.1, KW.cell hq HZW.out HX.out.2.2.2.2.2.2.2⟩
  have hXS := HSS.out W.drew (KW.refl W).drew
  refine wpX_region (S := fun w' => w'.cell? ⟨pb, 1, none⟩ = some (.int .i64 pk) ∧ w'.cell? ⟨w.heap.size, 0, none⟩ = some (.int .i64 q) ∧ w'.cell? ⟨w.heap.size, 1, none⟩ = some (.int .i64 y) ∧ w'.cell? ⟨w.heap.size, 2, none⟩ = some (.int .i64 a1) ∧ w'.cell? ⟨w.heap.size, 3, none⟩ = some (.int .i64 p1) ∧ w'.cell? ⟨w.heap.size, 4, none⟩ = some (.slice A1 N1 c1) ∧ w'.cell? ⟨w.heap.size, 5, none⟩ = some (.int .i64 a2) ∧ w'.cell? ⟨w.heap.size, 6, none⟩ = some (.int .i64 p2) ∧ w'.cell? ⟨w.heap.size, 7, none⟩ = some (.slice A2 N2 c2)) (L := 6) (by kernel_rfl) ?_
  refine wpX_take (i := 0) (v := ?_) rfl rfl (by kernel_rfl) (fun _ _ _ h => h) (Or.inl ⟨rfl, fun wS hwS => ?_⟩) hXS ?_
  rotate_left
  · go_simp; try rfl
  simp only [List.set_cons_zero, List.set_cons_succ]
  refine wpX_take (i := 1) (v := ?_) rfl rfl (by kernel_rfl) (fun _ _ _ h => h) (Or.inl ⟨rfl, fun wS hwS => ?_⟩) hXS ?_
  rotate_left
  · go_simp; try rfl
  simp only [List.set_cons_zero, List.set_cons_succ]
  refine wpX_take (i := 2) (v := ?_) rfl rfl (by kernel_rfl) (fun _ _ _ h => h) (Or.inl ⟨rfl, fun wS hwS => ?_⟩) hXS ?_
  rotate_left
  · go_simp; try rfl
  simp only [List.set_cons_zero, List.set_cons_succ]
  refine wpX_hard (k := 3) (by kernel_rfl) rfl (fun K hK => ?_)
  go_simp
  (refine (H2.out _ HKW.out.drew).mono ?_; rintro e w3 ⟨rfl, hb3⟩; have HB3 : Hid (KW W w3) := (KW.refl W).drew.t hb3)
  refine hK _ _ (fun _ => HSS.out _ HB3.out) ?_
  clear hK K
  try simp only [List.set_cons_zero, List.set_cons_succ]
  clear hXS
  have hXS := HSS.out _ HB3.out
  refine wpX_take (i := 4) (v := .int .i64 ((max pk mx : Nat) : Int)) rfl rfl (by kernel_rfl) (fun _ _ _ h => h) (Or.inl ⟨rfl, fun wS hwS => ?_⟩) hXS ?_
  · go_simp
    exact maxite pk mx
  simp only [List.set_cons_zero, List.set_cons_succ]
  refine wpX_take (i := 5) (v := ?_) rfl rfl (by kernel_rfl) (fun _ _ _ h => h) (Or.inl ⟨rfl, fun wS hwS => ?_⟩) hXS ?_
  rotate_left
  · go_simp; try rfl
  simp only [List.set_cons_zero, List.set_cons_succ]
  have HR3 := hid (KW.row HB3.out HRW.out.lt HRW.out)
  have c1' := HR3.out.cell (i := 1) (by omega)
  have f1' := HR3.out.frozen 1
  clear hXS
  refine wpX_hard (k := 6) (by kernel_rfl) rfl (fun K hK => ?_)
  go_simp
  refine hK _ _ (fun h => absurd rfl h) ?_
  clear hK K c1' f1'
  refine wpX_done (by kernel_rfl) ?_
  have HSl : Hid ((w3.setCell ⟨pb, 1, none⟩ (.int .i64 ((max pk mx : Nat) : Int))).rowIs sb 3 L fun i => .int .i64 (st i)) := ((HKW.out.kwt HB3.out).setCell _ _ rfl).row (fun h => HNe.out h.symm) HS.out
  have HPl : Hid ((w3.setCell ⟨pb, 1, none⟩ (.int .i64 ((max pk mx : Nat) : Int))).rowIs pb 35 14 (pfv 0 ((max pk mx : Nat) : Int) 0 (fun c => kdf c + if c = q then 1 else 0) (.slice (some ⟨sb, 0, none⟩) L L))) := (HR3.out.set 1 _).congr fun i hi => pfv_set_pk _ _ _ _ _ _ i
  have HKl : Hid (Keep (fun i => i = pb ∨ i = sb) w (w3.setCell ⟨pb, 1, none⟩ (.int .i64 ((max pk mx : Nat) : Int)))) := ((HKW.out.kwt HB3.out).setCell _ _ rfl).mono fun i _ h => .inl h
  have HXl : Hid ((w3.setCell ⟨pb, 1, none⟩ (.int .i64 ((max pk mx : Nat) : Int))).cell? ⟨w.heap.size, 0, none⟩ = some (.int .i64 q) ∧ (w3.setCell ⟨pb, 1, none⟩ (.int .i64 ((max pk mx : Nat) : Int))).cell? ⟨w.heap.size, 2, none⟩ = some (.int .i64 a1) ∧ (w3.setCell ⟨pb, 1, none⟩ (.int .i64 ((max pk mx : Nat) : Int))).cell? ⟨w.heap.size, 5, none⟩ = some (.int .i64 a2)) := by
    have hnb : w.heap.size ≠ pb := by omega
    have h := HSS.out _ HB3.out
    exact ⟨(World.cell?_of_block (heap_setCell_other _ _ _ _ hnb)).trans h.2.1, (World.cell?_of_block (heap_setCell_other _ _ _ _ hnb)).trans h.2.2.2.1, (World.cell?_of_block (heap_setCell_other _ _ _ _ hnb)).trans h.2.2.2.2.2.2.1⟩
  have HZl : Hid (w.heap.size < (w3.setCell ⟨pb, 1, none⟩ (.int .i64 ((max pk mx : Nat) : Int))).heap.size) := by have := HB3.out.size; have := HZW.out; simp; exact hid (by omega)
  generalize (w3.setCell ⟨pb, 1, none⟩ (.int .i64 ((max pk mx : Nat) : Int))) = Wl at *
  clear HSS HR3 HB3 HX HRW HZW HKW
  have HLt : Hid (sb < w.heap.size ∧ pb < w.heap.size) := ⟨hls, hlt⟩
  clear hp hs hlt hls K1 K2 K3
  by_cases hq1 : q = 1
  · have haa1 := haa hq1
    subst hq1
    have x0 := HXl.out.1
    have x2 := HXl.out.2.1
    have x5 := HXl.out.2.2
    go_wp2_with fail
    clear x0 x2 x5
    go_loopw [3] (fun i wr => ∃ j : Nat, a1 ≤ j ∧ j ≤ a2 ∧ i = .int .i64 j ∧ Hid (wr.rowIs sb 3 L fun i => .int .i64 (st i + if a1 ≤ i ∧ i < j then 1 else 0)) ∧ Hid (Keep (· = sb) Wl wr)) (fun i _ => a2 - (intOf i).toNat)
    case atStart => exact ⟨a1, by omega, haa1, rfl, HSl.out.congr fun i hi => by rw [if_neg (by omega), Int.add_zero], Keep.refl _ _⟩
    case round =>
      obtain ⟨j, hj1, hj2, rfl, HS1, HK1⟩ := hrel
      have hnx : ¬ w.heap.size = sb := by have := HLt.out.1; omega
      have x0 := (HK1.out.cell (o := 0) HZl.out hnx).trans HXl.out.1
      have x5 := (HK1.out.cell (o := 5) HZl.out hnx).trans HXl.out.2.2
      have HP1 := hid (HK1.out.row (fun h => HNe.out h) HPl.out)
      by_cases hlt : j < a2
      · have x13 := HP1.out.cell (i := 13) (by omega)
        have e13 : pfv 0 ((max pk mx : Nat) : Int) 0 (fun c => kdf c + if c = 1 then 1 else 0) (.slice (some ⟨sb, 0, none⟩) L L) 13 = .slice (some ⟨sb, 0, none⟩) L L := rfl
        rw [e13] at x13
        have xs := HS1.out.cell (i := j) (by omega)
        have fs := HS1.out.frozen j
        rw [if_neg (by omega), Int.add_zero] at xs
        have L5 : (j : Int) < (a2 : Int) := by omega
        have L6 : (j : Int) < (L : Int) := by omega
        have L7 : j < L := by omega
        have K1 : IntKind.i64.wrap (st j + 1) = st j + 1 := IntWalk.i64_in _ (by have := HSt.out j; omega)
        clear e13
        go_wp2_with fail
        have HS2 : Hid ((wr.setCell ⟨sb, j, none⟩ (.int .i64 (st j + 1))).rowIs sb 3 L fun i => .int .i64 (st i + if a1 ≤ i ∧ i < j + 1 then 1 else 0)) := (HS1.out.set j _).congr fun i hi => by
          by_cases e : i = j
          · subst e; rw [if_pos rfl, if_pos ⟨hj1, by omega⟩]
          · rw [if_neg e]
            by_cases e2 : a1 ≤ i ∧ i < j
            · rw [if_pos e2, if_pos ⟨e2.1, by omega⟩]
            · rw [if_neg e2, if_neg (by omega)]
        have HK2 : Hid (Keep (· = sb) Wl (wr.setCell ⟨sb, j, none⟩ (.int .i64 (st j + 1)))) := HK1.out.setCell _ _ rfl
        go_roundw
        case rel => exact ⟨j + 1, by omega, by omega, by go_num, HS2, HK2⟩
        case measure => simp [intOf]; omega
      · obtain rfl : j = a2 := by omega
        clear hlt
        go_wp2_with fail
        refine bodyPost_end (results_none rfl _ _ _) rfl ?_
        exact ⟨rfl, HP1.out, HS1.out.congr fun i hi => by
          by_cases e2 : a1 ≤ i ∧ i < j
          · simp [e2]
          · simp [e2], HKl.out.trans HK1.out fun i _ h => .inr h⟩
  · have d1 : ((q : Int) == 1) = false := by simpa using fun h : (q : Int) = 1 => hq1 (by omega)
    have d2 : (q == 1) = false := by simpa using hq1
    have HQ := hid hq1
    clear hq1
    have x0 := HXl.out.1
    have x2 := HXl.out.2.1
    have x5 := HXl.out.2.2
    go_wp2_with fail
    clear x0 x2 x5
    go_loopw [3] (fun i wr => i = .int .i64 a1 ∧ wr = Wl) (fun i _ => 0)
    case atStart => exact ⟨rfl, rfl⟩
    case round =>
      obtain ⟨rfl, rfl⟩ := hrel
      have x0 := HXl.out.1
      go_wp2_with fail
      refine bodyPost_end (results_none rfl _ _ _) rfl ?_
      exact ⟨rfl, HPl.out, HSl.out.congr fun i hi => by rw [if_neg fun h => HQ.out h.1, Int.add_zero], HKl.out⟩
end Go.Proofs.Ytkdamcacmecnaaa
