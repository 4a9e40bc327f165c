/- The walk of RevolveOn. -/
import Derived.Test.YtgadkelldbibgaaVB
namespace Go.Proofs.Ytgadkelldbibgaa
open Go.ChangeShapes Go.WideShapes Go.ChangeAt Go.RowKit
set_option linter.unusedVariables false

theorem up_cons (m : Mc.St) (a : Mc.Act) (l : List Mc.Act) : ∀ k, Mc.up m (a :: l) (k + 1) = Mc.up (Mc.step m a.1 a.2).1 l k := by
  intro k
  induction k with
  | zero => rfl
  | succ k ih =>
    rw [Mc.up_succ, ih, Mc.up_succ]
    rfl
theorem rvdoes_ok : ∀ {l : List Mc.Act} {m m' : Mc.St}, Mc.Does m l m' → Mc.okTo m l l.length ∧ Mc.up m l l.length = m'
  | [], m, m', h => by cases h; exact ⟨fun j hj => absurd hj (by simp), rfl⟩
  | a :: l, m, m', ⟨h2, h3⟩ => by
    obtain ⟨q1, q2⟩ := rvdoes_ok h3
    refine ⟨fun j hj => ?_, by rw [List.length_cons, up_cons]; exact q2⟩
    cases j with
    | zero => exact h2
    | succ j =>
      unfold Mc.er
      rw [up_cons]
      exact q1 j (by simpa using hj)
theorem goes_up {nx : Mc.St → Option Mc.Act} {l l' : List Mc.Act} {m m' : Mc.St} (h : Mc.Goes nx m l m') : m' = Mc.up m (l ++ l') l.length := by
  rw [← (rvdoes_ok h.does).2]
  have h2 := Mc.up_take m (l ++ l') l.length l.length (Nat.le_refl _)
  rw [List.take_left] at h2
  exact h2
/-- from any place of the schedule on -/
theorem rl_rest {L n : Nat} (hL : L < 65536) (hn : 1 ≤ n ∧ n ≤ 1048576) (C : Nat) (hC : C ≤ (Rv.rl L n).length) :
    ∃ m', Mc.RunsM (Rv.nm L) ((Rv.rl L n).length : Nat) 0 ⟨L, (Mc.up (Mc.new L n) (Rv.rl L n) C).at_, (Mc.up (Mc.new L n) (Rv.rl L n) C).pend, 0, (Mc.up (Mc.new L n) (Rv.rl L n) C).tags⟩ ((Rv.rl L n).drop C) m' := by
  have h := Rv.rl_runs hL hn
  have hl := Mc.up_l (Mc.new L n) (Rv.rl L n) C
  generalize Rv.rl L n = A at *
  generalize (⟨(L : Int), 0, 0, Ch.tt L n, List.replicate n (-1)⟩ : Mc.St) = m2 at *
  have e : A.take C ++ A.drop C = A := List.take_append_drop C A
  have h1 : Mc.Runs (Rv.nm L) (Mc.new L n) (A.take C ++ A.drop C) m2 := by rw [e]; exact h
  obtain ⟨m1, g1, g2⟩ := Mc.Runs.cut h1
  have e1 := goes_up (l' := A.drop C) g1
  rw [e, List.length_take, Nat.min_eq_left hC] at e1
  have g3 := Mc.Runs.most (most := (A.length : Int)) 0 g2 (by rw [List.length_drop]; omega)
  obtain ⟨t, g4⟩ := Mc.RunsM.free (fun m t => Rv.nm_free L m t) 0 g3
  refine ⟨{ m2 with tot := t }, ?_⟩
  rw [e1] at g4
  have hl' : (Mc.up (Mc.new L n) A C).l = (L : Int) := hl
  rw [hl'] at g4
  exact g4
theorem on_goes (l s c : Int) (w : World) (h : l < 0 ∨ 200 < l ∨ s < 1 ∨ 30 < s) :
    Calls Try.prog 7 #[.int .i64 l, .int .i64 s, .int .i64 c] w fun e w' => e = .returned (.bool true) ∧ KW w w' := by
  have hk := KW.refl w
  have hx : l < 0 ∨ (decide (l < 0) = false ∧ 200 < l) ∨ (decide (l < 0) = false ∧ decide (200 < l) = false ∧ s < 1) ∨ (decide (l < 0) = false ∧ decide (200 < l) = false ∧ decide (s < 1) = false ∧ 30 < s) := by
    simp only [decide_eq_false_iff_not]
    omega
  clear h
  rcases hx with h0 | ⟨d0, h1⟩ | ⟨d0, d1, h2⟩ | ⟨d0, d1, d2, h3⟩
  all_goals
    go_enter Try.func7, Try.ntmps7
    go_wp2_with (go_at_call 13; refine (goes30_any _).mono ?_; rintro e w1 ⟨rfl, hb⟩; replace hk := hk.t hb; clear hb)
    go_ret
    exact ⟨rfl, hk⟩
theorem rl_pos {l n : Nat} : 0 < (Rv.rl l n).length := by
  unfold Rv.rl Rv.pt
  split
  · simp
  · split <;> simp
theorem Acts.drop {w : World} {b off : Nat} {l : List Mc.Act} (h : Acts w (some ⟨b, off, none⟩) l) (k : Nat) : Acts w (some ⟨b, off + k * 2, none⟩) (l.drop k) := by
  intro h0
  rw [List.length_drop] at h0
  obtain ⟨b', off', hA, hb, hc⟩ := h (by omega)
  cases hA
  refine ⟨b, off + k * 2, rfl, hb, fun i hi => ?_⟩
  rw [List.length_drop] at hi
  have e : (l.drop k).getD i (0, 0) = l.getD (k + i) (0, 0) := by simp [List.getD_eq_getElem?_getD, List.getElem?_drop]
  have := hc (k + i) (by omega)
  rw [e]
  rw [show off + k * 2 + i * 2 = off + (k + i) * 2 by omega]
  exact this
set_option maxRecDepth 100000 in
set_option maxHeartbeats 4000000 in
theorem on_main (l n : Nat) (cut : Int) (w : World) (hl : l ≤ 200) (hn : 1 ≤ n ∧ n ≤ 30) (hcut : -9223372036854775808 ≤ cut ∧ cut ≤ 9223372036854775807) :
    Calls Try.prog 7 #[.int .i64 l, .int .i64 n, .int .i64 cut] w fun e w' => e = .returned (.bool true) ∧ KW w w' := by
  have hlen := Rv.rl_len (l := l) (n := n) (by omega) hn.1
  have hpos := rl_pos (l := l) (n := n)
  have H1 := hid (fun W => rvlist_yes l n W (by omega) (by omega))
  have H3 := hid (fun W => new_yes l n W (by omega) (by omega) (by omega))
  obtain ⟨hok, _⟩ := rvdoes_ok (Rv.rl_goes (l := l) (n := n) (by omega) (by omega)).does
  have HOK := hid hok
  have HI := hid (fun j => Mc.up_inv (Mc.new_inv (l : Int) n (by omega) (by omega) (by omega)) (Rv.rl l n) j)
  have HT := hid (fun j => (Mc.up_tot (Mc.new (l : Int) n) (Rv.rl l n) j).2)
  have HTl := hid (fun j => Mc.up_len (Mc.new (l : Int) n) (Rv.rl l n) j)
  have HUl := hid (fun j => Mc.up_l (Mc.new (l : Int) n) (Rv.rl l n) j)
  rw [show (Mc.new (l : Int) n).tot = 0 from rfl] at HT
  rw [show (Mc.new (l : Int) n).tags.length = n from by simp [Mc.new]] at HTl
  rw [show (Mc.new (l : Int) n).l = l from rfl] at HUl
  have HF := hid (fun C hC => rl_rest (L := l) (n := n) (by omega) (by omega) C hC)
  unfold ActsP at H1
  unfold NewP at H3
  clear hok
  generalize Rv.rl l n = L at *
  generalize Mc.new (l : Int) n = m0 at *
  have d0 : decide ((l : Int) < 0) = false := decide_eq_false (by omega)
  have d1 : decide (200 < (l : Int)) = false := decide_eq_false (by omega)
  have d2 : decide ((n : Int) < 1) = false := decide_eq_false (by omega)
  have d3 : decide (30 < (n : Int)) = false := decide_eq_false (by omega)
  have e0 : ((L.length : Int) == 0) = false := by rw [beq_eq_false_iff_ne]; omega
  have e1 : (L.length == 0) = false := by rw [beq_eq_false_iff_ne]; omega
  have ll : (L.length : Int) ≤ 1001 := by omega
  have lp : (0 : Int) < (L.length : Int) := by omega
  have HLl : Hid ((L.length : Int) = (L.length : Int)) := rfl
  have hC : ∃ C : Nat, (wrap64 (cut.tmod (L.length : Int) + (L.length : Int))).tmod (L.length : Int) = C ∧ C < L.length := by
    generalize hN : (L.length : Int) = N at *
    have h1 : -N < cut.tmod N ∧ cut.tmod N < N := by
      rcases Int.le_total 0 cut with h | h
      · have h2 := Int.tmod_nonneg N h
        have h3 := Int.tmod_lt_of_pos cut lp
        omega
      · have h2 := Int.tmod_nonneg N (show 0 ≤ -cut by omega)
        have h3 := Int.tmod_lt_of_pos (-cut) lp
        rw [Int.neg_tmod] at h2 h3
        omega
    have h4 : wrap64 (cut.tmod N + N) = cut.tmod N + N := by unfold wrap64; omega
    rw [h4]
    have h5 := Int.tmod_nonneg N (show 0 ≤ cut.tmod N + N by omega)
    have h6 := Int.tmod_lt_of_pos (cut.tmod N + N) lp
    exact ⟨((cut.tmod N + N).tmod N).toNat, by omega, by omega⟩
  obtain ⟨C, hC, hCl⟩ := hC
  clear hlen
  go_enter Try.func7, Try.ntmps7
  go_wp2_with fail
  refine (H1.out _).mono ?_
  rintro e w1 ⟨A1, c1, rfl, ho1, hk1⟩
  obtain ⟨_, _, hv, hcc, ha1⟩ := ho1.slice
  cases hv
  have HA1 := hid ha1
  have HK1 := hid hk1
  clear ho1 ha1 hk1 H1
  go_wp2_with fail
  refine (H3.out _).mono ?_
  rintro e w2 ⟨b, v, rfl, hm2, hb2, hk2⟩
  have HM2 := hid hm2
  have HA2 := hid (HA1.out.kw hk2)
  have HK2 := hid (HK1.out.t hk2)
  have HB2 : Hid (∀ i, mo b v i → w.heap.size ≤ i) := fun i hi => Nat.le_trans HK1.out.size (hb2 i hi)
  have HAn : Hid (∀ b' off, 0 < L.length → A1 = some ⟨b', off, none⟩ → ¬ mo b v b') := fun b' off h0 hA hm => by
    obtain ⟨b1, o1, h1, hlt, _⟩ := HA1.out h0
    rw [h1] at hA; cases hA
    have := hb2 _ hm
    omega
  clear hm2 hb2 hk2 H3
  have hC' := Int.ofNat_lt.2 hCl
  go_wp2_with fail
  go_loopw [12] (fun i wr => ∃ j : Nat, j ≤ C ∧ i = .int .i64 j ∧ Hid (Mach wr b v (Mc.up m0 L j)) ∧ Hid (Acts wr A1 L) ∧ Hid (KW w wr)) (fun i _ => C - (intOf i).toNat)
  case atStart => exact ⟨0, by omega, rfl, HM2, HA2, HK2⟩
  case round =>
    obtain ⟨j, hj, rfl, HM, HA, HK⟩ := hrel
    clear HM2 HA2 HK2 HA1 HK1
    by_cases hlt : j < C
    · obtain ⟨b', off, rfl, hb', hc1, hc2⟩ := HA.out.at_ (show j < L.length by omega)
      have hT := HT.out j
      have HD : Hid (∀ W, Mach W b v (Mc.up m0 L j) → Calls Try.prog 24 #[.pointer (some ⟨b, 0, none⟩), .agg #[.int .i64 (L.getD j (0, 0)).1, .int .i64 (L.getD j (0, 0)).2]] W (Did W b v (Mc.up m0 L (j + 1)) (Mc.er m0 L j))) := fun W h => do_any _ (L.getD j (0, 0)).1 (L.getD j (0, 0)).2 b v W h (HI.out j) (by omega)
      rw [HOK.out j (by omega)] at HD
      generalize (L.getD j (0, 0)).1 = x at *
      generalize (L.getD j (0, 0)).2 = y at *
      have L5 : (j : Int) < (C : Int) := by omega
      have L5' : (j : Int) < (L.length : Int) := by omega
      have L6 : (j : Int) ≤ 1001 := by omega
      clear hT
      go_wp2_with fail
      refine (HD.out _ HM.out).mono ?_
      rintro e w4 ⟨rfl, hm4, hk4⟩
      have HM4 := hid hm4
      have HA4 := hid (show Acts w4 (some ⟨b', off, none⟩) L from by
        intro h0
        obtain ⟨b1, o1, h1, hl1, hc⟩ := HA.out h0
        cases h1
        have hnb := HAn.out b' off h0 rfl
        exact ⟨b', off, rfl, Nat.lt_of_lt_of_le hl1 hk4.size, fun q hq => ⟨(hk4.cell hl1 hnb).trans (hc q hq).1, (hk4.cell hl1 hnb).trans (hc q hq).2⟩⟩)
      have HK4 := hid (HK.out.kept hk4 HB2.out)
      clear hm4 hk4
      go_wp2_with fail
      go_roundw
      case rel => exact ⟨j + 1, by omega, by go_num, HM4, HA4, HK4⟩
      case measure => simp [intOf]; omega
    · obtain rfl : j = C := by omega
      have HSp := hid (spot_any (Mc.up m0 L j) b v wr HM.out (by rw [HTl.out]; omega))
      have hI := HI.out j
      obtain ⟨m', hR⟩ := HF.out j (by omega)
      have HFr := hid (fun v2 W (hv : RTz W v2 (Mc.up m0 L j).tags) => rvfrom_yes l (Mc.up m0 L j).at_ (Mc.up m0 L j).pend L.length (Mc.up m0 L j).tags v2 W (L.drop j) m' hv
        ⟨⟨by omega, by omega⟩, ⟨hI.a0, by have := hI.a1; rw [HUl.out] at this; exact this⟩, ⟨hI.p0, by have := hI.p1; rw [HUl.out] at this; exact this⟩, ⟨by rw [HTl.out]; omega, by rw [HTl.out]; omega⟩, fun i hi => by
          have := hI.tg _ (List.getElem_mem hi)
          rw [HUl.out] at this
          simpa [hi] using this⟩ hR (by rw [List.length_drop]; omega))
      obtain ⟨b', off, hA1, _, _, _⟩ := HA.out.at_ (show 0 < L.length by omega)
      subst hA1
      have HAD := hid (fun W (h : Acts W (some ⟨b', off, none⟩) L) => h.drop j)
      have HSa := hid (fun A ca W (h1 : Acts W A (L.drop j)) (h2 : Acts W (some ⟨b', off + j * 2, none⟩) (L.drop j)) => rsame26_any (L.drop j) (L.drop j) A (some ⟨b', off + j * 2, none⟩) ca (c1 - j) W (by rw [List.length_drop]; omega) (by rw [List.length_drop]; omega) h1 h2)
      rw [show decide (L.drop j = L.drop j) = true from by simp] at HSa
      unfold SpotP at HSp
      unfold ActsP at HFr
      rw [List.length_drop] at HFr HSa
      clear hlt HOK HI HT HUl hI hR HF HTl
      generalize L.drop j = D at *
      generalize (Mc.up m0 L j).at_ = ua at *
      generalize (Mc.up m0 L j).pend = up at *
      go_wp2_with fail
      refine HSp.out.mono ?_
      rintro e w5 ⟨v2, rfl, ho5, hk5⟩
      have HZ := hid ho5.rtz
      have HA5 := hid (HA.out.kw hk5)
      have HK5 := hid (HK.out.t hk5)
      obtain ⟨A2, c2, hv2, _⟩ := ho5.row
      subst hv2
      clear ho5 hk5
      go_wp2_with fail
      refine (HFr.out _ _ HZ.out).mono ?_
      rintro e w6 ⟨A3, c3, rfl, ho6, hk6⟩
      have HA6 := hid (HA5.out.kw hk6)
      have HK6 := hid (HK5.out.t hk6)
      have HL6 : Hid (Acts w6 A3 D) := by
        obtain ⟨_, _, hv, _, ha⟩ := ho6.slice
        simp only [Value.slice.injEq] at hv
        obtain ⟨rfl, _, rfl⟩ := hv
        exact hid ha
      clear ho6 hk6
      go_wp2_with fail
      refine (HSa.out _ _ _ HL6.out (HAD.out _ HA6.out)).mono ?_
      rintro e w7 ⟨rfl, hk7⟩
      have hk := HK6.out.t hk7
      clear hk7
      go_wp2_with (go_at_call 13; refine (goes30_any _).mono ?_; rintro e w1 ⟨rfl, hb⟩; replace hk := hk.t hb; clear hb)
      go_ret
      exact ⟨rfl, hk⟩

theorem on_law (l s c : Int) (w : World) (_ : -9223372036854775808 ≤ l) (_ : l ≤ 9223372036854775807) (_ : -9223372036854775808 ≤ s) (_ : s ≤ 9223372036854775807) (c0 : -9223372036854775808 ≤ c) (c1 : c ≤ 9223372036854775807) :
    Calls Try.prog 7 #[.int .i64 l, .int .i64 s, .int .i64 c] w fun e w' => e = .returned (.bool true) ∧ KW w w' := by
  by_cases h : l < 0 ∨ 200 < l ∨ s < 1 ∨ 30 < s
  · exact on_goes l s c w h
  · obtain ⟨L, rfl⟩ : ∃ L : Nat, l = L := ⟨l.toNat, by omega⟩
    obtain ⟨n, rfl⟩ : ∃ n : Nat, s = n := ⟨s.toNat, by omega⟩
    exact on_main L n c w (by omega) (by omega) ⟨c0, c1⟩
end Go.Proofs.Ytgadkelldbibgaa
