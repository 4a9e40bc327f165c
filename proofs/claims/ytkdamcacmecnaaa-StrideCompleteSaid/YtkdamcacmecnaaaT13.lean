/- The walk of StrideComplete. -/
import Derived.Test.YtkdamcacmecnaaaT9
import Derived.Test.YtkdamcacmecnaaaPlainV
import Derived.StillTailTactics
namespace Go.Proofs.Ytkdamcacmecnaaa
open Go.ChangeShapes Go.WideShapes Go.ChangeAt Go.RowKit
set_option linter.unusedVariables false

theorem complete_goes (l s : Int) (w : World) (h : l < 0 ∨ 1000 < l ∨ s < 1 ∨ 100 < s) :
    Calls Try.prog 11 #[.int .i64 l, .int .i64 s] w fun e w' => e = .returned (.bool true) ∧ KW w w' := by
  have hk := KW.refl w
  by_cases h0 : l < 0
  · clear h
    go_enter Try.func11, Try.ntmps11
    go_wp2_with (go_at_call 26; refine (goes31_any _).mono ?_; rintro e w1 ⟨rfl, hb⟩; replace hk := hk.t hb; clear hb)
    go_ret
    exact ⟨rfl, hk⟩
  have d0 : decide (l < 0) = false := decide_eq_false h0
  by_cases h1 : 1000 < l
  · clear h
    go_enter Try.func11, Try.ntmps11
    go_wp2_with (go_at_call 26; refine (goes31_any _).mono ?_; rintro e w1 ⟨rfl, hb⟩; replace hk := hk.t hb; clear hb)
    go_ret
    exact ⟨rfl, hk⟩
  have d1 : decide (1000 < l) = false := decide_eq_false h1
  by_cases h2 : s < 1
  · clear h
    go_enter Try.func11, Try.ntmps11
    go_wp2_with (go_at_call 26; refine (goes31_any _).mono ?_; rintro e w1 ⟨rfl, hb⟩; replace hk := hk.t hb; clear hb)
    go_ret
    exact ⟨rfl, hk⟩
  have d2 : decide (s < 1) = false := decide_eq_false h2
  have h3 : 100 < s := by omega
  clear h
  go_enter Try.func11, Try.ntmps11
  go_wp2_with (go_at_call 26; refine (goes31_any _).mono ?_; rintro e w1 ⟨rfl, hb⟩; replace hk := hk.t hb; clear hb)
  go_ret
  exact ⟨rfl, hk⟩

set_option maxRecDepth 100000 in
set_option maxHeartbeats 2000000 in
theorem complete_main (l n : Nat) (w : World) (hl : l ≤ 1000) (hn : 1 ≤ n ∧ n ≤ 100) :
    Calls Try.prog 11 #[.int .i64 l, .int .i64 n] w fun e w' => e = .returned (.bool true) ∧ KW w w' := by
  have H1 := hid (fun W => slist_yes l n W (by omega) (by omega))
  have H2 := hid (fun W A c (hA : Acts W A (Sd.lA n l)) => check_any l n A c (Sd.lA n l) W (by have := Sd.lA_le (n := n) (l := l) (by omega); omega) hA)
  rw [Sd.lA_check (by omega) (by omega)] at H2
  have H3 := hid (fun W => stotal_yes l n W (by omega) (by omega) (by omega))
  have hlen := Sd.lA_le (n := n) (l := l) (by omega)
  have HKi := hid (Sd.lA_kind (n := n) (l := l) (by omega) (by omega))
  have hc := Sd.lA_cnk n l
  have hc2 := Sd.lA_even (n := n) (l := l) (by omega) (by omega)
  have hbd := Sd.tot_bound (n := n) (l := l) (by omega) (by omega)
  have hone : l < n → Sd.tot l (Sd.sd l n) = l := fun h => by
    rw [Sd.sd_one (by omega) (by omega) (by omega) (by omega)]
    unfold Sd.tot
    rw [show (fun (i : Nat) => (i : Int) % 1) = fun _ => 0 by funext i; omega, Mc.sum_zero]
    omega
  have htb := Sd.tot_b (l := l) (d := Sd.sd l n) (by omega) (Sd.sd_pos _ _) (Sd.sd_le (by omega) (by omega)) l (Nat.le_refl _)
  have htt : Sd.tot l (Sd.sd l n) = l + Mc.sum (fun i => (i : Int) % Sd.sd l n) l := rfl
  rw [← Sd.cnk_all, ← Sd.cnk_all, ← Sd.cnk_all] at hc
  rw [← Sd.cnk_all, ← Sd.cnk_all] at hc2
  have HKb := hid (fun (c : Int) k => Mc.kd_b (Sd.lA n l) c k)
  have HKs : Hid (∀ (c : Int) k, Mc.kd (Sd.lA n l) c (k + 1) = Mc.kd (Sd.lA n l) c k + if ((Sd.lA n l).getD k (0, 0)).1 = c then 1 else 0) := fun c k => rfl
  have HK0 : Hid (∀ c : Int, Mc.kd (Sd.lA n l) c 0 = 0) := fun c => rfl
  have HG := hid (fun k => (rfl : ((Sd.lA n l).getD k (0, 0)).1 = ((Sd.lA n l).getD k (0, 0)).1))
  unfold ActsP at H1
  unfold CheckP at H2
  generalize Sd.lA n l = L at *
  have t0 : 0 ≤ Sd.tot l (Sd.sd l n) ∧ Sd.tot l (Sd.sd l n) ≤ 4294967296 := by omega
  generalize Sd.tot l (Sd.sd l n) = t at *
  have m1 := Sd.mul_b (a := (n : Int)) (b := t - l) (x := 100) (y := 4294967296) (by omega) (by omega) (by omega) (by omega)
  have m2 := Sd.mul_b (a := (l : Int)) (b := (l : Int)) (x := 1000) (y := 1000) (by omega) (by omega) (by omega) (by omega)
  have d0 : decide ((l : Int) < 0) = false := decide_eq_false (by omega)
  have d1 : decide (1000 < (l : Int)) = false := decide_eq_false (by omega)
  have d2 : decide ((n : Int) < 1) = false := decide_eq_false (by omega)
  have d3 : decide (100 < (n : Int)) = false := decide_eq_false (by omega)
  have d4 : decide ((l : Int) * (l : Int) < (n : Int) * (t - (l : Int))) = false := decide_eq_false (by omega)
  have L1 : (l : Int) ≤ 1000 := by omega
  have L2 : (n : Int) ≤ 100 := by omega
  have d5 : (decide ((l : Int) < (n : Int)) && (t != (l : Int))) = false := by
    by_cases h : l < n
    · rw [hone h]; simp
    · rw [decide_eq_false (by omega)]; rfl
  have HC := hid hc
  have HC2 := hid hc2
  have e1 : (t != t) = false := by simp
  have e2 : ((L.length : Int) != (L.length : Int)) = false := by simp
  have e3 : (L.length != L.length) = false := by simp
  have HD5 : Hid ((l < n ∧ t = l) ∨ ¬ l < n) := by
    by_cases h : l < n
    · exact .inl ⟨h, hone h⟩
    · exact .inr h
  clear hc hc2 hbd hone htb htt d5 HG
  have hmk : ∀ W, (Instr.makeSlice 25 (.int .i64 10) (.int .i64 10)).run Try.prog W = .ok (.slice (some ⟨W.heap.size, 0, none⟩) 10 10) (W.alloc (.cells (madeCells #[.int .i64 0] 10) 3)) := fun W => run_make_row' (P := Try.prog) 25 3 (.int .i64 0) 8 Try.underlying25 (by kernel_rfl) rfl .i64 .i64 10 (by omega) (by omega) W
  rcases HD5.out with ⟨hln, rfl⟩ | hln
  all_goals
    first | have f1 : decide (l < n) = true := decide_eq_true hln | have f1 : decide (l < n) = false := decide_eq_false hln
    clear hln HD5
    go_enter Try.func11, Try.ntmps11
    go_wp2_with fail
    refine (H1.out _).mono ?_
    rintro e w1 ⟨A1, c1, rfl, ho1, hk1⟩
    obtain ⟨_, _, hv, hcc, ha1⟩ := ho1.slice
    cases hv
    have HA1 := hid ha1
    have HK1 := hid hk1
    clear ho1 ha1 hk1
    go_wp2_with fail
    refine (H2.out _ _ _ HA1.out).mono ?_
    rintro e w2 ⟨rfl, hk2⟩
    have HA2 := hid (HA1.out.kw hk2)
    have HK2 := hid (HK1.out.t hk2)
    clear hk2
    go_wp2_with (go_at_call 24; refine (H3.out _).mono ?_; rintro e w3 ⟨rfl, rfl⟩)
    have HR0 : Hid ((w2.alloc (.cells (madeCells #[.int .i64 0] 10) 3)).rowIs w2.heap.size 3 10 (fun c => .int .i64 (Mc.kd L c 0))) := (World.rowIs_made w2 (.int .i64 0) 10 3).congr fun i hi => by rw [HK0.out]
    have HK3 := hid (HK2.out.alloc (.cells (madeCells #[.int .i64 0] 10) 3))
    have HA3 := hid (HA2.out.kw ((KW.refl w2).alloc (.cells (madeCells #[.int .i64 0] 10) 3)))
    have hwz := HK2.out.size
    have HAne : Hid (∀ b off, A1 = some ⟨b, off, none⟩ → 0 < L.length → b ≠ w2.heap.size) := fun b off h h0 => by
      obtain ⟨b', off', h', hb', _⟩ := HA2.out h0
      rw [h'] at h; cases h; omega
    go_loopw [13] (fun i wr => ∃ k : Nat, k ≤ L.length ∧ i = .int .i64 k ∧ Hid (wr.rowIs w2.heap.size 3 10 (fun c => .int .i64 (Mc.kd L c k))) ∧ Hid (Acts wr A1 L) ∧ Hid (KW w wr)) (fun i _ => L.length - (intOf i).toNat)
    case atStart => exact ⟨0, by omega, rfl, HR0, HA3, HK3⟩
    case round =>
      obtain ⟨k, hk, rfl, HR, HA, HK⟩ := hrel
      by_cases hlt : k < L.length
      · obtain ⟨b, off, rfl, hb, hc1', _⟩ := HA.out.at_ hlt
        have hki := HKi.out k hlt
        have HS := hid (fun c : Int => HKs.out c k)
        have hx : ∃ X : Nat, (L.getD k (0, 0)).1 = X ∧ 1 ≤ X ∧ X ≤ 7 := ⟨((L.getD k (0, 0)).1).toNat, by omega⟩
        obtain ⟨X, hX, hX1, hX2⟩ := hx
        rw [hX] at hc1'
        have HX := hid hX
        have hrow := HR.out.cell (i := X) (by omega)
        have hfr := HR.out.frozen X
        have hkb := HKb.out (X : Int) k
        have hne := HAne.out b off rfl (by omega)
        have L5 : (k : Int) < (L.length : Int) := by omega
        have L6 : (X : Int) < 10 := by omega
        have L7 : (k : Int) ≤ 5000000000 := by omega
        clear hki hX
        have HKs' : Hid (∀ v, (wr.setCell ⟨w2.heap.size, X, none⟩ v).rowIs w2.heap.size 3 10 (fun i => if i = X then v else .int .i64 (Mc.kd L i k))) := fun v => HR.out.set X v
        have HA' : Hid (∀ v, Acts (wr.setCell ⟨w2.heap.size, X, none⟩ v) (some ⟨b, off, none⟩) L) := fun v => by
          intro h0
          obtain ⟨b', off', h', hb', hc'⟩ := HA.out h0
          cases h'
          exact ⟨b, off, rfl, by simpa using hb', fun j hj => ⟨by rw [World.cell?_setCell_other _ _ _ _ (by simp)]; exact (hc' j hj).1, by rw [World.cell?_setCell_other _ _ _ _ (by simp)]; exact (hc' j hj).2⟩⟩
        have HK' : Hid (∀ v, KW w (wr.setCell ⟨w2.heap.size, X, none⟩ v)) := fun v => Below.setCell (p := ⟨w2.heap.size, X, none⟩) HK.out hwz v
        go_wp2_with fail
        go_roundw
        case rel => exact ⟨k + 1, by omega, by go_num, (HKs'.out _).congr fun i hi => by
          have h1 := HS.out i
          rw [HX.out] at h1
          rw [h1]
          by_cases e : i = X
          · subst e; rw [if_pos rfl, if_pos rfl]
          · rw [if_neg e, if_neg (by omega), Int.add_zero], HA'.out _, HK'.out _⟩
        case measure => simp [intOf]; omega
      · obtain rfl : k = L.length := by omega
        clear hlt
        have r5 := HR.out.cell (i := 5) (by omega)
        have r6 := HR.out.cell (i := 6) (by omega)
        have r7 := HR.out.cell (i := 7) (by omega)
        have r2 := HR.out.cell (i := 2) (by omega)
        have r4 := HR.out.cell (i := 4) (by omega)
        rw [show ((5 : Nat) : Int) = 5 from rfl, HC.out.1] at r5
        rw [show ((6 : Nat) : Int) = 6 from rfl, HC.out.2.1] at r6
        rw [show ((7 : Nat) : Int) = 7 from rfl, HC.out.2.2] at r7
        rw [show ((2 : Nat) : Int) = 2 from rfl, HC2.out] at r2
        rw [show ((4 : Nat) : Int) = 4 from rfl] at r4
        generalize Mc.kd L 4 L.length = q4 at *
        have hk := HK.out.drew
        have hq : (q4 == q4) = true := by simp
        go_wp2_with fail
        go_still_tail 27, (by kernel_rfl)
        change wpList _ _ _ _ _ wr.drew
        go_wp2_with (go_at_call 26; refine (goes31_any _).mono ?_; rintro e w1 ⟨rfl, hb⟩; replace hk := hk.t hb; clear hb)
        go_ret
        exact ⟨rfl, hk⟩

theorem complete31_law (l s : Int) (w : World) (_ : -9223372036854775808 ≤ l) (_ : l ≤ 9223372036854775807) (_ : -9223372036854775808 ≤ s) (_ : s ≤ 9223372036854775807) :
    Calls Try.prog 11 #[.int .i64 l, .int .i64 s] w fun e w' => e = .returned (.bool true) ∧ KW w w' := by
  by_cases h : l < 0 ∨ 1000 < l ∨ s < 1 ∨ 100 < s
  · exact complete_goes l s w h
  · obtain ⟨L, rfl⟩ : ∃ L : Nat, l = L := ⟨l.toNat, by omega⟩
    obtain ⟨n, rfl⟩ : ∃ n : Nat, s = n := ⟨s.toNat, by omega⟩
    exact complete_main L n w (by omega) (by omega)
end Go.Proofs.Ytkdamcacmecnaaa
