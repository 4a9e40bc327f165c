/- The walk of RevolveComplete. -/
import Derived.Test.YtgadkelldbibgaaVB
import Derived.StillTailTactics
namespace Go.Proofs.Ytgadkelldbibgaa
open Go.ChangeShapes Go.WideShapes Go.ChangeAt Go.RowKit
set_option linter.unusedVariables false

theorem does_kind : ∀ {L : List Mc.Act} {m m' : Mc.St}, Mc.Does m L m' → ∀ i, i < L.length → 1 ≤ (L.getD i (0, 0)).1 ∧ (L.getD i (0, 0)).1 ≤ 7
  | [], m, m', h, i, hi => by simp at hi
  | a :: L, m, m', ⟨h2, h3⟩, i, hi => by
    cases i with
    | zero =>
      have := Mc.right_of_er (m := m) (l := [a]) (k := 0) (by simpa [Mc.er, Mc.up] using h2)
      simpa using this.2
    | succ i => simpa using does_kind h3 i (by simpa using hi)
theorem rcomplete_goes (l s : Int) (w : World) (h : l < 0 ∨ 1500 < l ∨ s < 1 ∨ 200 < s) :
    Calls Try.prog 8 #[.int .i64 l, .int .i64 s] w fun e w' => e = .returned (.bool true) ∧ KW w w' := by
  have hk := KW.refl w
  have hx : l < 0 ∨ (decide (l < 0) = false ∧ 1500 < l) ∨ (decide (l < 0) = false ∧ decide (1500 < l) = false ∧ s < 1) ∨ (decide (l < 0) = false ∧ decide (1500 < l) = false ∧ decide (s < 1) = false ∧ 200 < s) := by
    simp only [decide_eq_false_iff_not]
    omega
  clear h
  rcases hx with h0 | ⟨d0, h1⟩ | ⟨d0, d1, h2⟩ | ⟨d0, d1, d2, h3⟩
  all_goals
    go_enter Try.func8, Try.ntmps8
    go_wp2_with (go_at_call 13; refine (goes30_any _).mono ?_; rintro e w1 ⟨rfl, hb⟩; replace hk := hk.t hb; clear hb)
    go_ret
    exact ⟨rfl, hk⟩

set_option maxRecDepth 100000 in
set_option maxHeartbeats 4000000 in
theorem rcomplete_main (l n : Nat) (w : World) (hl : l ≤ 1500) (hn : 1 ≤ n ∧ n ≤ 200) :
    Calls Try.prog 8 #[.int .i64 l, .int .i64 n] w fun e w' => e = .returned (.bool true) ∧ KW w w' := by
  have hlen := Rv.rl_len (l := l) (n := n) (by omega) hn.1
  have H1 := hid (fun W => rvlist_yes l n W (by omega) (by omega))
  have H2 := hid (fun W A c (hA : Acts W A (Rv.rl l n)) => check_any l n A c (Rv.rl l n) W (by omega) hA)
  rw [Rv.rl_check (by omega) (by omega)] at H2
  have H3 := hid (fun W => total_yes l n W (by omega) (by omega) (by omega))
  have HKi := hid (does_kind (Rv.rl_goes (l := l) (n := n) (by omega) (by omega)).does)
  have hc : (l = 0 ∧ (Rv.rl l n).length = 1 ∧ Sd.cnk 5 (Rv.rl l n) = 1) ∨ (1 ≤ l ∧ Sd.cnk 5 (Rv.rl l n) = 0 ∧ Sd.cnk 6 (Rv.rl l n) = 1 ∧ Sd.cnk 7 (Rv.rl l n) = (l : Int) - 1 ∧ Sd.cnk 2 (Rv.rl l n) = Sd.cnk 4 (Rv.rl l n)) := by
    by_cases h0 : l = 0
    · subst h0; exact .inl ⟨rfl, rfl, rfl⟩
    · have := Rv.rl_cnk (l := l) (n := n) (by omega) (by omega) hn.1
      exact .inr ⟨by omega, this.1, this.2.1, this.2.2, Rv.rl_even (by omega) (by omega)⟩
  have t0 := Ch.tt_nn l n hn.1
  rw [← Sd.cnk_all, ← Sd.cnk_all, ← Sd.cnk_all, ← Sd.cnk_all, ← Sd.cnk_all] at hc
  have HKb := hid (fun (c : Int) k => Mc.kd_b (Rv.rl l n) c k)
  have HKs : Hid (∀ (c : Int) k, Mc.kd (Rv.rl l n) c (k + 1) = Mc.kd (Rv.rl l n) c k + if ((Rv.rl l n).getD k (0, 0)).1 = c then 1 else 0) := fun c k => rfl
  have HK0 : Hid (∀ c : Int, Mc.kd (Rv.rl l n) c 0 = 0) := fun c => rfl
  unfold ActsP at H1
  unfold CheckP at H2
  generalize Rv.rl l n = L at *
  generalize Ch.tt l n = t at *
  have d0 : decide ((l : Int) < 0) = false := decide_eq_false (by omega)
  have d1 : decide (1500 < (l : Int)) = false := decide_eq_false (by omega)
  have d2 : decide ((n : Int) < 1) = false := decide_eq_false (by omega)
  have d3 : decide (200 < (n : Int)) = false := decide_eq_false (by omega)
  have L1 : (l : Int) ≤ 1500 := by omega
  have HC := hid hc
  have HLen : Hid (L.length ≤ 7501) := by exact hid (by omega)
  have e1 : (t != t) = false := by simp
  have e2 : ((L.length : Int) != (L.length : Int)) = false := by simp
  have e3 : (L.length != L.length) = false := by simp
  clear hc hlen t0
  have hmk : ∀ W, (Instr.makeSlice 22 (.int .i64 10) (.int .i64 10)).run Try.prog W = .ok (.slice (some ⟨W.heap.size, 0, none⟩) 10 10) (W.alloc (.cells (madeCells #[.int .i64 0] 10) 3)) := fun W => run_make_row' (P := Try.prog) 22 3 (.int .i64 0) 8 Try.underlying22 (by kernel_rfl) rfl .i64 .i64 10 (by omega) (by omega) W
  go_enter Try.func8, Try.ntmps8
  go_wp2_with fail
  refine (H1.out _).mono ?_
  rintro e w1 ⟨A1, c1, rfl, ho1, hk1⟩
  obtain ⟨_, _, hv, hcc, ha1⟩ := ho1.slice
  cases hv
  have HA1 := hid ha1
  have HK1 := hid hk1
  clear ho1 ha1 hk1
  go_wp2_with fail
  refine (H2.out _ _ _ HA1.out).mono ?_
  rintro e w2 ⟨rfl, hk2⟩
  have HA2 := hid (HA1.out.kw hk2)
  have HK2 := hid (HK1.out.t hk2)
  clear hk2
  go_wp2_with fail
  refine (H3.out _).mono ?_
  rintro e w3 ⟨rfl, hk3⟩
  have HA2' := hid (HA2.out.kw hk3)
  have HK2' := hid (HK2.out.t hk3)
  clear HA2 HK2 hk3
  have HA2 := HA2'
  have HK2 := HK2'
  clear HA2' HK2'
  go_wp2_with fail
  have HR0 : Hid ((w3.alloc (.cells (madeCells #[.int .i64 0] 10) 3)).rowIs w3.heap.size 3 10 (fun c => .int .i64 (Mc.kd L c 0))) := (World.rowIs_made w3 (.int .i64 0) 10 3).congr fun i hi => by rw [HK0.out]
  have HK3 := hid (HK2.out.alloc (.cells (madeCells #[.int .i64 0] 10) 3))
  have HA3 := hid (HA2.out.kw ((KW.refl w3).alloc (.cells (madeCells #[.int .i64 0] 10) 3)))
  have hwz := HK2.out.size
  have HAne : Hid (∀ b off, A1 = some ⟨b, off, none⟩ → 0 < L.length → b ≠ w3.heap.size) := fun b off h h0 => by
    obtain ⟨b', off', h', hb', _⟩ := HA2.out h0
    rw [h'] at h; cases h; omega
  go_loopw [13] (fun i wr => ∃ k : Nat, k ≤ L.length ∧ i = .int .i64 k ∧ Hid (wr.rowIs w3.heap.size 3 10 (fun c => .int .i64 (Mc.kd L c k))) ∧ Hid (Acts wr A1 L) ∧ Hid (KW w wr)) (fun i _ => L.length - (intOf i).toNat)
  case atStart => exact ⟨0, by omega, rfl, HR0, HA3, HK3⟩
  case round =>
    obtain ⟨k, hk, rfl, HR, HA, HK⟩ := hrel
    by_cases hlt : k < L.length
    · obtain ⟨b, off, rfl, hb, hc1', _⟩ := HA.out.at_ hlt
      have hki := HKi.out k hlt
      have HS := hid (fun c : Int => HKs.out c k)
      have hx : ∃ X : Nat, (L.getD k (0, 0)).1 = X ∧ 1 ≤ X ∧ X ≤ 7 := ⟨((L.getD k (0, 0)).1).toNat, by omega⟩
      obtain ⟨X, hX, hX1, hX2⟩ := hx
      rw [hX] at hc1'
      have HX := hid hX
      have hrow := HR.out.cell (i := X) (by omega)
      have hfr := HR.out.frozen X
      have hkb := HKb.out (X : Int) k
      have hne := HAne.out b off rfl (by omega)
      have L5 : (k : Int) < (L.length : Int) := by omega
      have L6 : (X : Int) < 10 := by omega
      have L7 : (k : Int) ≤ 7501 := by have := HLen.out; omega
      clear hki hX
      have HKs' : Hid (∀ v, (wr.setCell ⟨w3.heap.size, X, none⟩ v).rowIs w3.heap.size 3 10 (fun i => if i = X then v else .int .i64 (Mc.kd L i k))) := fun v => HR.out.set X v
      have HA' : Hid (∀ v, Acts (wr.setCell ⟨w3.heap.size, X, none⟩ v) (some ⟨b, off, none⟩) L) := fun v => by
        intro h0
        obtain ⟨b', off', h', hb', hc'⟩ := HA.out h0
        cases h'
        exact ⟨b, off, rfl, by simpa using hb', fun j hj => ⟨by rw [World.cell?_setCell_other _ _ _ _ (by simp)]; exact (hc' j hj).1, by rw [World.cell?_setCell_other _ _ _ _ (by simp)]; exact (hc' j hj).2⟩⟩
      have HK' : Hid (∀ v, KW w (wr.setCell ⟨w3.heap.size, X, none⟩ v)) := fun v => Below.setCell (p := ⟨w3.heap.size, X, none⟩) HK.out hwz v
      go_wp2_with fail
      go_roundw
      case rel => exact ⟨k + 1, by omega, by go_num, (HKs'.out _).congr fun i hi => by
        have h1 := HS.out i
        rw [HX.out] at h1
        rw [h1]
        by_cases e : i = X
        · subst e; rw [if_pos rfl, if_pos rfl]
        · rw [if_neg e, if_neg (by omega), Int.add_zero], HA'.out _, HK'.out _⟩
      case measure => simp [intOf]; omega
    · obtain rfl : k = L.length := by omega
      clear hlt
      rcases HC.out with ⟨h0, hl1, h5⟩ | ⟨h0, h5, h6, h7, h24⟩
      · subst h0
        have r5 := HR.out.cell (i := 5) (by omega)
        rw [show ((5 : Nat) : Int) = 5 from rfl, h5] at r5
        have hk := HK.out
        clear HC h5
        rw [hl1] at *
        go_wp2_with (go_at_call 13; refine (goes30_any _).mono ?_; rintro e w1 ⟨rfl, hb⟩; replace hk := hk.t hb; clear hb)
        go_ret
        exact ⟨rfl, hk⟩
      · have r5 := HR.out.cell (i := 5) (by omega)
        have r6 := HR.out.cell (i := 6) (by omega)
        have r7 := HR.out.cell (i := 7) (by omega)
        have r2 := HR.out.cell (i := 2) (by omega)
        have r4 := HR.out.cell (i := 4) (by omega)
        rw [show ((5 : Nat) : Int) = 5 from rfl, h5] at r5
        rw [show ((6 : Nat) : Int) = 6 from rfl, h6] at r6
        rw [show ((7 : Nat) : Int) = 7 from rfl, h7] at r7
        rw [show ((2 : Nat) : Int) = 2 from rfl, h24] at r2
        rw [show ((4 : Nat) : Int) = 4 from rfl] at r4
        generalize Mc.kd L 4 L.length = q4 at *
        have hk := HK.out.drew
        have hq : (q4 == q4) = true := by simp
        have hl0 : ((l : Int) == 0) = false := by simp; omega
        have hl0' : (l == 0) = false := by simp; omega
        have hw : IntKind.i64.wrap ((l : Int) - 1) = (l : Int) - 1 := IntWalk.i64_in _ (by omega)
        have hwb : ((l : Int) - 1 == IntKind.i64.wrap ((l : Int) - 1)) = true := by rw [hw]; simp
        clear HC h5 h6 h7 h24
        go_wp2_with fail
        go_still_tail 28, (by kernel_rfl)
        change wpList _ _ _ _ _ wr.drew
        go_wp2_with (go_at_call 13; refine (goes30_any _).mono ?_; rintro e w1 ⟨rfl, hb⟩; replace hk := hk.t hb; clear hb)
        go_ret
        exact ⟨rfl, hk⟩

theorem rcomplete_law (l s : Int) (w : World) (_ : -9223372036854775808 ≤ l) (_ : l ≤ 9223372036854775807) (_ : -9223372036854775808 ≤ s) (_ : s ≤ 9223372036854775807) :
    Calls Try.prog 8 #[.int .i64 l, .int .i64 s] w fun e w' => e = .returned (.bool true) ∧ KW w w' := by
  by_cases h : l < 0 ∨ 1500 < l ∨ s < 1 ∨ 200 < s
  · exact rcomplete_goes l s w h
  · obtain ⟨L, rfl⟩ : ∃ L : Nat, l = L := ⟨l.toNat, by omega⟩
    obtain ⟨n, rfl⟩ : ∃ n : Nat, s = n := ⟨s.toNat, by omega⟩
    exact rcomplete_main L n w (by omega) (by omega)
end Go.Proofs.Ytgadkelldbibgaa
