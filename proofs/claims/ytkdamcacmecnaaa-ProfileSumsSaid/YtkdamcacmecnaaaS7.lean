/- Numbers compared; contracts of the reference's Held and Words. -/
import Derived.Test.YtkdamcacmecnaaaS6
namespace Go.Proofs.Ytkdamcacmecnaaa
open Go.ChangeShapes Go.WideShapes Go.ChangeAt Go.RowKit
set_option linter.unusedVariables false

/-- numbers in memory -/
def IW (w : World) (v : Value) (l : List Int) : Prop := ∃ A c, v = .slice A l.length c ∧ Row1 w A l.length fun i => .int .i64 (l.getD i 0)
theorem IW.kw {w w' : World} {v : Value} {l : List Int} (h : IW w v l) (hk : KW w w') : IW w' v l := by
  obtain ⟨A, c, hv, hr⟩ := h
  exact ⟨A, c, hv, hr.k hk⟩
theorem Owns.iw0 {w : World} {base : Nat} {v : Value} {l : List Int} (h : Owns w base 3 v (ints l)) : IW w v l := by
  obtain ⟨A, c, hv, hr⟩ := h.rt.rt0
  exact ⟨A, c, hv, hr⟩
set_option maxHeartbeats 1000000 in
theorem ints07_any (v1 v2 : Value) (l1 l2 : List Int) (w : World) (h1 : IW w v1 l1) (h2 : IW w v2 l2) (hl : l1.length ≤ 4611686018427387904) :
    Calls Try.prog 15 #[v1, v2] w fun e w' => e = .returned (.bool (decide (l1 = l2))) ∧ KW w w' := by
  obtain ⟨A1, c1, rfl, hr1⟩ := h1
  obtain ⟨A2, c2, rfl, hr2⟩ := h2
  have H1 := hid hr1
  have H2 := hid hr2
  clear hr1 hr2
  by_cases hlen : l1.length = l2.length
  · have HE := hid (fun (hh : ∀ i, i < l1.length → l1.getD i 0 = l2.getD i 0) => (decide_eq_true (List.ext_getElem hlen fun i h1 h2 => by
      have := hh i h1
      simpa [List.getD_eq_getElem?_getD, List.getElem?_eq_getElem h1, List.getElem?_eq_getElem h2] using this) : decide (l1 = l2) = true))
    have HF := hid (fun i (hi : i < l1.length) (hn : l1.getD i 0 ≠ l2.getD i 0) => (decide_eq_false (fun h => hn (by rw [h])) : decide (l1 = l2) = false))
    rw [← hlen] at H2
    rw [← hlen]
    generalize decide (l1 = l2) = r at *
    generalize l1.length = N at *
    clear hlen
    go_enter Try.func15, Try.ntmps15
    go_wp2_with fail
    go_loopw [5] (fun i wr => ∃ k : Nat, k ≤ N ∧ i = .int .i64 k ∧ Hid (∀ q, q < k → l1.getD q 0 = l2.getD q 0) ∧ Hid (KW w wr)) (fun i _ => N - (intOf i).toNat)
    case atStart => exact ⟨0, by omega, rfl, fun q hq => by omega, KW.refl w⟩
    case round =>
      obtain ⟨k, hk, rfl, HQ, HK⟩ := hrel
      by_cases hlt : k < N
      · obtain ⟨q1, o1, rfl, hq1, hc1⟩ := (H1.out.k HK.out).at_ hlt
        obtain ⟨q2, o2, rfl, hq2, hc2⟩ := (H2.out.k HK.out).at_ hlt
        have HFk := hid (HF.out k hlt)
        have HQ2 := hid (fun (h : l1.getD k 0 = l2.getD k 0) (q : Nat) (hq : q < k + 1) => (show l1.getD q 0 = l2.getD q 0 from by
          rcases (show q < k ∨ q = k by omega) with h1 | rfl
          · exact HQ.out q h1
          · exact h))
        generalize l1.getD k 0 = x at *
        generalize l2.getD k 0 = y at *
        have L5 : (k : Int) < (N : Int) := by omega
        go_wp2_with fail
        have hXS := And.intro hc1 hc2
        refine wpX_region (S := fun w' => w'.cell? ⟨q1, o1 + k, none⟩ = some (.int .i64 x) ∧ w'.cell? ⟨q2, o2 + k, none⟩ = some (.int .i64 y)) (L := 99) (by kernel_rfl) ?_
        refine wpX_take (i := 0) (v := ?_) rfl rfl (by kernel_rfl) (fun _ _ _ h => h) (Or.inl ⟨rfl, fun wS hwS => ?_⟩) hXS ?_
        rotate_left
        · go_simp; try rfl
        simp only [List.set_cons_zero, List.set_cons_succ]
        refine wpX_take (i := 1) (v := ?_) rfl rfl (by kernel_rfl) (fun _ _ _ h => h) (Or.inl ⟨rfl, fun wS hwS => ?_⟩) hXS ?_
        rotate_left
        · go_simp; try rfl
        simp only [List.set_cons_zero, List.set_cons_succ]
        refine wpX_take (i := 2) (v := ?_) rfl rfl (by kernel_rfl) (fun _ _ _ h => h) (Or.inl ⟨rfl, fun wS hwS => ?_⟩) hXS ?_
        rotate_left
        · go_simp; try rfl
        simp only [List.set_cons_zero, List.set_cons_succ]
        refine wpX_take (i := 3) (v := ?_) rfl rfl (by kernel_rfl) (fun _ _ _ h => h) (Or.inl ⟨rfl, fun wS hwS => ?_⟩) hXS ?_
        rotate_left
        · go_simp; try rfl
        simp only [List.set_cons_zero, List.set_cons_succ]
        refine wpX_take (i := 4) (v := ?_) rfl rfl (by kernel_rfl) (fun _ _ _ h => h) (Or.inl ⟨rfl, fun wS hwS => ?_⟩) hXS ?_
        rotate_left
        · go_simp; try rfl
        simp only [List.set_cons_zero, List.set_cons_succ]
        refine wpX_take (i := 5) (v := ?_) rfl rfl (by kernel_rfl) (fun _ _ _ h => h) (Or.inl ⟨rfl, fun wS hwS => ?_⟩) hXS ?_
        rotate_left
        · go_simp; try rfl
        simp only [List.set_cons_zero, List.set_cons_succ]
        refine wpX_take (i := 6) (v := ?_) rfl rfl (by kernel_rfl) (fun _ _ _ h => h) (Or.inl ⟨rfl, fun wS hwS => ?_⟩) hXS ?_
        rotate_left
        · go_simp; try rfl
        simp only [List.set_cons_zero, List.set_cons_succ]
        refine wpX_take (i := 7) (v := ?_) rfl rfl (by kernel_rfl) (fun _ _ _ h => h) (Or.inl ⟨rfl, fun wS hwS => ?_⟩) hXS ?_
        rotate_left
        · go_simp; try rfl
        simp only [List.set_cons_zero, List.set_cons_succ]
        refine wpX_take (i := 8) (v := ?_) rfl rfl (by kernel_rfl) (fun _ _ _ h => h) (Or.inl ⟨rfl, fun wS hwS => ?_⟩) hXS ?_
        rotate_left
        · go_simp; try rfl
        simp only [List.set_cons_zero, List.set_cons_succ]
        refine wpX_done (by kernel_rfl) ?_
        by_cases he : x = y
        · have HQ3 := hid (HQ2.out he)
          have d : (x != y) = false := by simpa using he
          have d2 : (x == y) = true := by simpa using he
          clear he HFk
          go_wp2_with fail
          go_roundw
          case rel => exact ⟨k + 1, by omega, by go_num, HQ3, HK.out.drew⟩
          case measure => simp [intOf]; omega
        · have HF2 := hid (HFk.out he)
          have d : (x != y) = true := by simpa using he
          have d2 : (x == y) = false := by simpa using he
          clear he HFk
          go_wp2_with fail
          go_ret
          exact ⟨ret_bool HF2.out.symm, HK.out.drew⟩
      · obtain rfl : k = N := by omega
        have HT := hid (HE.out HQ.out)
        clear hlt
        go_wp2_with fail
        go_ret
        exact ⟨ret_bool HT.out.symm, HK.out⟩
  · have HF : Hid (false = decide (l1 = l2)) := (decide_eq_false (fun h => hlen (by rw [h]))).symm
    have d : ((l1.length : Int) != (l2.length : Int)) = true := by simp; omega
    have d2 : ((l1.length : Int) == (l2.length : Int)) = false := by simp; omega
    go_enter Try.func15, Try.ntmps15
    go_wp2_with fail
    go_ret
    exact ⟨ret_bool HF.out, KW.refl w⟩
/-- the cells of a spot in memory -/
theorem SpotsM.at_ {w : World} {base K c : Nat} {A : Option Addr} {m0 : Mc.St} {list : List Mc.Act} (h : SpotsM w base (.slice A K c) m0 list K) {j : Nat} (hj : j < K) :
    ∃ b v, A = some ⟨b, 0, none⟩ ∧ base ≤ b ∧ b < w.heap.size ∧ w.cell? ⟨b, j * 3, none⟩ = some (.int .i64 (Mc.up m0 list j).at_) ∧ w.cell? ⟨b, j * 3 + 1, none⟩ = some (.int .i64 (Mc.up m0 list j).pend) ∧ w.cell? ⟨b, j * 3 + 2, none⟩ = some v ∧ RT w v (Mc.up m0 list j).tags := by
  obtain ⟨xs, ho, hs⟩ := h
  obtain ⟨v, h1, h2, h3, h4⟩ := hs.2 j hj
  have hx := ho
  rcases ho.2 with ⟨hx, h0⟩ | ⟨g, cap, cur, hv, hb, hg, _⟩
  · omega
  · injection hv with hv
    subst hv
    have e : ∀ i u, xs[i]? = some u → w.cell? ⟨g, i, none⟩ = some u := fun i u hu => by
      have := World.ownsRow.cells hx (g := g) rfl i u hu
      have e : (⟨g, 0, none⟩ : Addr).add i = ⟨g, i, none⟩ := by unfold Addr.add; split <;> simp_all
      rwa [e] at this
    exact ⟨g, v, rfl, hb, (Array.getElem?_eq_some_iff.1 hg).1, e _ _ h1, e _ _ h2, e _ _ h3, h4⟩
theorem rheld_no (l n : Int) (v : Value) (w : World) (h : l < 0 ∨ 65536 ≤ l ∨ n < 0 ∨ 1048576 < n) :
    Calls Try.prog 19 #[.int .i64 l, .int .i64 n, v] w (ListP w none 2) := by
  have HN := hid (fun W => rspots_no l n v W h)
  clear h
  go_enter Try.func19, Try.ntmps19
  go_wp2_with fail
  refine (HN.out _).mono ?_
  rintro e w1 ⟨rfl, hk⟩
  have HK := hid hk
  clear hk
  go_wp2_with fail
  go_ret2
  exact ⟨rfl, HK.out⟩
set_option maxRecDepth 100000 in
set_option maxHeartbeats 1000000 in
theorem rheld_yes (l : Int) (n : Nat) (A : Option Addr) (c : Nat) (list : List Mc.Act) (w : World) (l0 : 0 ≤ l) (l1 : l < 65536) (hn : n ≤ 1048576) (hlen : list.length ≤ 1099511627776) (hA : Acts w A list) :
    Calls Try.prog 19 #[.int .i64 l, .int .i64 n, .slice A list.length c] w fun e w' =>
      (Mc.okTo (Mc.new l n) list list.length ∧ ListP w (some ((List.range list.length).map fun k => (Mc.hl (Mc.new l n) list (k + 1) : Int))) 0 e w') ∨ ∃ k, k < list.length ∧ Mc.okTo (Mc.new l n) list k ∧ Mc.er (Mc.new l n) list k ≠ 0 ∧ ListP w none (Mc.er (Mc.new l n) list k) e w' := by
  have HSp := hid (rspots_yes l n A c list w l0 l1 hn hlen hA)
  have HCt := hid (fun W a p v j (h : RT W v (Mc.up (Mc.new l n) list j).tags) => rcount_any a p v _ W (by rw [Mc.up_len]; simpa [Mc.new] using hn) h.rt0)
  unfold RSpotsP at HSp
  clear hA
  generalize Mc.new l n = m0 at *
  generalize hN : list.length = N at *
  clear hN
  go_enter Try.func19, Try.ntmps19
  go_wp2_with fail
  refine HSp.out.mono ?_
  rintro e w1 ⟨hk1, h⟩
  rcases h with ⟨As, cs, hok, rfl, hsp⟩ | ⟨k, hk, hok, her, rfl⟩
  · have HOK := hid hok
    have HK := hid hk1
    have HM := hid hsp
    have HO0 : Hid (Owns (w1.alloc (.cells #[] 3)) w1.heap.size 3 (.slice (some ⟨w1.heap.size, 0, none⟩) 0 0) (ints ((List.range 0).map fun k => (Mc.hl m0 list (k + 1) : Int)))) := World.ownsRow_made w1 #[] 0 (Nat.le_refl _) (Nat.zero_le _) rfl
    clear hok hk1 hsp
    go_wp2_with fail
    go_loopw [11, 12] (fun out i wr => ∃ k : Nat, k ≤ N ∧ i = .int .i64 ((k : Int) + 1) ∧ Hid (Owns wr w1.heap.size 3 out (ints ((List.range k).map fun k => (Mc.hl m0 list (k + 1) : Int)))) ∧ Hid (KW w1 wr)) (fun _ i _ => N + 1 - (intOf i).toNat)
    case atStart => exact ⟨0, by omega, rfl, HO0, (KW.refl w1).alloc _⟩
    case round =>
      obtain ⟨k, hk, rfl, HO1, HK1⟩ := hrel
      obtain ⟨Ao, co, hvo, _⟩ := HO1.out.row
      rw [ints_range_len] at hvo
      subst hvo
      by_cases hlt : k < N
      · obtain ⟨b, v, rfl, hb, hbw, c0, c1, c2, hrt⟩ := HM.out.at_ (j := k + 1) (by omega)
        replace c0 := KW.cell HK1.out hbw c0
        replace c1 := KW.cell HK1.out hbw c1
        replace c2 := KW.cell HK1.out hbw c2
        have HRT := hid (hrt.kw HK1.out)
        obtain ⟨A2, cc, hv2, _⟩ := hrt
        subst hv2
        have HC := hid (fun W a p (h : RT W (.slice A2 (Mc.up m0 list (k + 1)).tags.length cc) (Mc.up m0 list (k + 1)).tags) => HCt.out W a p _ (k + 1) h)
        have HRS := hid (ints_range_succ (fun k => (Mc.hl m0 list (k + 1) : Int)) k)
        have HRL := hid (ints_range_len (fun k => (Mc.hl m0 list (k + 1) : Int)) k)
        have HH := hid (show ((Mc.hl m0 list (k + 1) : Nat) : Int) = (Mc.cnt (Mc.up m0 list (k + 1)).tags : Int) from rfl)
        rw [HH.out] at HRS
        generalize (Mc.cnt (Mc.up m0 list (k + 1)).tags) = q at *
        generalize (Mc.up m0 list (k + 1)).at_ = x0 at *
        generalize (Mc.up m0 list (k + 1)).pend = x1 at *
        generalize (Mc.up m0 list (k + 1)).tags = tg at *
        generalize tg.length = T at *
        have L5 : (k : Int) + 1 < ((N : Int) + 1) := by omega
        have L6 : k + 1 < N + 1 := by omega
        go_wp2_with fail
        refine (HC.out _ _ _ HRT.out).mono ?_
        rintro e w3 ⟨rfl, hb3⟩
        have HB3 := hid (HK1.out.t hb3)
        have HO3 : Hid (Owns w3 w1.heap.size 3 (.slice Ao k co) (ints ((List.range k).map fun k => (Mc.hl m0 list (k + 1) : Int)))) := HO1.out.on hb3
        clear hb3
        go_wp2_with (at_builtin; refine wpList_app1 rfl sliceInt1 rfl (W := w3) (v := .slice Ao k co) (base := w1.heap.size) (u := .int .i64 q) (xs := ints ((List.range k).map fun k => (Mc.hl m0 list (k + 1) : Int))) rfl rfl rfl HO3.out HB3.out.size (by rw [HRL.out]; omega) (by rw [HRL.out]; omega) ?_)
        intro v' w5 hown hgrow
        rw [← HRS.out] at hown
        have HO5 := hid hown
        have HK5 : Hid (KW w1 w5) := HB3.out.trans hgrow
        clear hown hgrow
        go_wp2_with fail
        go_roundw
        case rel => exact ⟨k + 1, by omega, by go_num, HO5, HK5⟩
        case measure => simp [intOf]; omega
      · obtain rfl : k = N := by omega
        clear hlt
        go_wp2_with fail
        go_ret2
        exact .inl ⟨HOK.out, ⟨_, rfl, HO1.out.base HK.out.size⟩, HK.out.t HK1.out⟩
  · have HOK := hid hok
    have HK := hid hk1
    have HE := hid her
    have HKN := hid hk
    clear hok hk1 hk
    generalize hc : Mc.er m0 list k = er at *
    have HC := hid hc
    clear hc
    have d : (er != 0) = true := by simpa using her
    have d2 : (er == 0) = false := by simpa using her
    clear her
    go_wp2_with fail
    go_ret2
    exact .inr ⟨k, HKN.out, HOK.out, by rw [HC.out]; exact HE.out, by rw [HC.out]; exact ⟨rfl, HK.out⟩⟩

set_option maxRecDepth 100000 in
theorem rwords_bad (l n fixed slot step loss : Int) (v : Value) (w : World) (h : [fixed, slot, step, loss].any wbad = true) :
    Calls Try.prog 14 #[.int .i64 l, .int .i64 n, v, .int .i64 fixed, .int .i64 slot, .int .i64 step, .int .i64 loss] w (ListP w none 2) := by
  have H1 := hid (fun W => rword_any fixed W)
  have H2 := hid (fun W => rword_any slot W)
  have H3 := hid (fun W => rword_any step W)
  have H4 := hid (fun W => rword_any loss W)
  simp only [List.any_cons, List.any_nil, Bool.or_false] at h
  generalize wbad fixed = q1 at *
  generalize wbad slot = q2 at *
  generalize wbad step = q3 at *
  generalize wbad loss = q4 at *
  have HQ : Hid (q1 = true) ∨ Hid (q1 = false ∧ q2 = true) ∨ Hid (q1 = false ∧ q2 = false ∧ q3 = true) ∨ Hid (q1 = false ∧ q2 = false ∧ q3 = false ∧ q4 = true) := by
    cases q1
    · cases q2
      · cases q3
        · cases q4
          · simp at h
          · exact .inr (.inr (.inr ⟨rfl, rfl, rfl, rfl⟩))
        · exact .inr (.inr (.inl ⟨rfl, rfl, rfl⟩))
      · exact .inr (.inl ⟨rfl, rfl⟩)
    · exact .inl rfl
  clear h
  rcases HQ with h | h | h | h
  · rw [h.out] at H1
    clear H2 H3 H4
    go_enter Try.func14, Try.ntmps14
    go_wp2_with (go_at_call 43; refine (H1.out _).mono ?_; rintro e w1 ⟨rfl, rfl⟩)
    go_ret2
    exact ⟨rfl, KW.refl w⟩
  · rw [h.out.1] at H1
    rw [h.out.2] at H2
    clear H3 H4
    go_enter Try.func14, Try.ntmps14
    go_wp2_with fail
    refine (H1.out _).mono ?_
    rintro e w1 ⟨rfl, rfl⟩
    go_wp2_with fail
    refine (H2.out _).mono ?_
    rintro e w1 ⟨rfl, rfl⟩
    go_wp2_with fail
    go_ret2
    exact ⟨rfl, KW.refl w⟩
  · rw [h.out.1] at H1
    rw [h.out.2.1] at H2
    rw [h.out.2.2] at H3
    clear H4
    go_enter Try.func14, Try.ntmps14
    go_wp2_with fail
    refine (H1.out _).mono ?_
    rintro e w1 ⟨rfl, rfl⟩
    go_wp2_with fail
    refine (H2.out _).mono ?_
    rintro e w1 ⟨rfl, rfl⟩
    go_wp2_with fail
    refine (H3.out _).mono ?_
    rintro e w1 ⟨rfl, rfl⟩
    go_wp2_with fail
    go_ret2
    exact ⟨rfl, KW.refl w⟩
  · rw [h.out.1] at H1
    rw [h.out.2.1] at H2
    rw [h.out.2.2.1] at H3
    rw [h.out.2.2.2] at H4
    go_enter Try.func14, Try.ntmps14
    go_wp2_with fail
    refine (H1.out _).mono ?_
    rintro e w1 ⟨rfl, rfl⟩
    go_wp2_with fail
    refine (H2.out _).mono ?_
    rintro e w1 ⟨rfl, rfl⟩
    go_wp2_with fail
    refine (H3.out _).mono ?_
    rintro e w1 ⟨rfl, rfl⟩
    go_wp2_with fail
    refine (H4.out _).mono ?_
    rintro e w1 ⟨rfl, rfl⟩
    go_wp2_with fail
    go_ret2
    exact ⟨rfl, KW.refl w⟩
set_option maxRecDepth 100000 in
set_option maxHeartbeats 1000000 in
theorem rwords_no (l n fixed slot step loss : Int) (v : Value) (w : World) (hb : [fixed, slot, step, loss].any wbad = false) (h : l < 0 ∨ 65536 ≤ l ∨ n < 0 ∨ 1048576 < n) :
    Calls Try.prog 14 #[.int .i64 l, .int .i64 n, v, .int .i64 fixed, .int .i64 slot, .int .i64 step, .int .i64 loss] w (ListP w none 2) := by
  have HN := hid (fun W => rspots_no l n v W h)
  have H1 := hid (fun W => rword_any fixed W)
  have H2 := hid (fun W => rword_any slot W)
  have H3 := hid (fun W => rword_any step W)
  have H4 := hid (fun W => rword_any loss W)
  simp only [List.any_cons, List.any_nil, Bool.or_false, Bool.or_eq_false_iff] at hb
  rw [hb.1] at H1
  rw [hb.2.1] at H2
  rw [hb.2.2.1] at H3
  rw [hb.2.2.2] at H4
  clear h hb
  go_enter Try.func14, Try.ntmps14
  go_wp2_with fail
  refine (H1.out _).mono ?_
  rintro e w1 ⟨rfl, rfl⟩
  go_wp2_with fail
  refine (H2.out _).mono ?_
  rintro e w1 ⟨rfl, rfl⟩
  go_wp2_with fail
  refine (H3.out _).mono ?_
  rintro e w1 ⟨rfl, rfl⟩
  go_wp2_with fail
  refine (H4.out _).mono ?_
  rintro e w1 ⟨rfl, rfl⟩
  clear H1 H2 H3 H4
  go_wp2_with fail
  refine (HN.out _).mono ?_
  rintro e w1 ⟨rfl, hk⟩
  have HK := hid hk
  clear hk
  go_wp2_with fail
  go_ret2
  exact ⟨rfl, HK.out⟩
end Go.Proofs.Ytkdamcacmecnaaa
