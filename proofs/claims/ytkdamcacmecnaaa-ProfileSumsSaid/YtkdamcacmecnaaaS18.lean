/- ProfileSums: the way on which all actions go. -/
import Derived.Test.YtkdamcacmecnaaaS17
namespace Go.Proofs.Ytkdamcacmecnaaa
open Go.ChangeShapes Go.WideShapes Go.ChangeAt Go.RowKit
set_option linter.unusedVariables false

theorem IW.cells' {w : World} {A : Option Addr} {L c : Nat} {st : Nat → Int} (h : IW w (.slice A L c) ((List.range L).map st)) {i : Nat} (hi : i < L) : ∃ b off, A = some ⟨b, off, none⟩ ∧ b < w.heap.size ∧ w.cell? ⟨b, off + i, none⟩ = some (.int .i64 (st i)) := by
  obtain ⟨A', c', hv, hr⟩ := h
  have e : ((List.range L).map st).length = L := by simp
  rw [e] at hv hr
  cases hv
  obtain ⟨b, off, hA, hb, hc⟩ := hr (by omega)
  refine ⟨b, off, hA, hb, ?_⟩
  rw [hc i hi]
  simp [hi]
/-- what Of leaves, spelled out -/
def OfOk (l : Int) (n : Nat) (list : List Mc.Act) (L : Nat) (tot pk most : Int) (kdf : Nat → Int) (st : Nat → Int) : Prop :=
  ∀ W A c, Acts W A list → Calls Try.prog 16 #[.int .i64 l, .int .i64 n, .slice A list.length c] W fun e w' => (∃ As cs, e = .returned (.tuple #[.agg #[.int .i64 tot, .int .i64 pk, .int .i64 most, .int .i64 (kdf 0), .int .i64 (kdf 1), .int .i64 (kdf 2), .int .i64 (kdf 3), .int .i64 (kdf 4), .int .i64 (kdf 5), .int .i64 (kdf 6), .int .i64 (kdf 7), .int .i64 (kdf 8), .int .i64 (kdf 9), .slice As L cs], .int .i64 list.length, .int .i64 0]) ∧ IW w' (.slice As L cs) ((List.range L).map st)) ∧ KW W w'
theorem of_ok (l : Int) (n L : Nat) (list : List Mc.Act) (l0 : 0 ≤ l) (l1 : l < 65536) (hL : (L : Int) = l) (hn : n ≤ 1048576) (hlen : list.length ≤ 1099511627776) (hok : Mc.okTo (Mc.new l n) list list.length) :
    OfOk l n list L (Mc.up (Mc.new l n) list list.length).tot (Mc.peak (Mc.new l n) list list.length) (Mc.top (fun i => Mc.sp (Mc.new l n) list i list.length) L) (fun c => Mc.kd list c list.length) (fun i => Mc.sp (Mc.new l n) list i list.length) := by
  intro W A c hA
  refine (pof_yes l n L A c list W l0 l1 hL hn hlen hA).mono fun e w' h => ?_
  obtain ⟨hk, h⟩ := h
  rcases h with ⟨_, s, he, hs⟩ | ⟨k, hkl, _, her, _⟩
  · have hs' := hs
    obtain ⟨As, cs, hv, _⟩ := hs
    rw [List.length_map, List.length_range] at hv
    subst hv
    exact ⟨⟨As, cs, he, hs'⟩, hk⟩
  · exact absurd (hok k hkl) her
def HeldOk (l : Int) (n : Nat) (list : List Mc.Act) (xs : List Int) : Prop :=
  ∀ W A c, Acts W A list → Calls Try.prog 18 #[.int .i64 l, .int .i64 n, .slice A list.length c] W fun e w' => (∃ Ah ch, e = .returned (.tuple #[.slice Ah list.length ch, .int .i64 0]) ∧ list.length ≤ ch ∧ IW w' (.slice Ah list.length ch) xs) ∧ KW W w'
theorem held_ok (l : Int) (n : Nat) (list : List Mc.Act) (l0 : 0 ≤ l) (l1 : l < 65536) (hn : n ≤ 1048576) (hlen : list.length ≤ 1099511627776) (hok : Mc.okTo (Mc.new l n) list list.length) :
    HeldOk l n list ((List.range list.length).map fun k => (Mc.hl (Mc.new l n) list (k + 1) : Int)) := by
  intro W A c hA
  refine (pheld_yes l n A c list W l0 l1 hn hlen hA).mono fun e w' h => ?_
  rcases h with ⟨_, ⟨v, he, ho⟩, hk⟩ | ⟨k, hkl, _, her, _⟩
  · have hi := ho.iw0
    obtain ⟨Ah, ch, hv, hle, _⟩ := ho.row
    rw [ints_range_len] at hv hle
    subst hv
    exact ⟨⟨Ah, ch, he, hle, hi⟩, hk⟩
  · exact absurd (hok k hkl) her
def CheckOk (l : Int) (n : Nat) (list : List Mc.Act) (tot : Int) (r : Int × Int × Int) : Prop :=
  (r = (tot, (list.length : Int), 0) ∨ r = (0, (list.length : Int), 19)) ∧ ∀ W A c, Acts W A list → Calls Try.prog 21 #[.int .i64 l, .int .i64 n, .slice A list.length c] W (CheckP W r)
theorem check_ok (l : Int) (n : Nat) (list : List Mc.Act) (l0 : 0 ≤ l) (l1 : l < 65536) (hn : n ≤ 1048576) (hlen : list.length ≤ 1099511627776) (hok : Mc.okTo (Mc.new l n) list list.length) :
    CheckOk l n list (Mc.up (Mc.new l n) list list.length).tot (Mc.chk (Mc.new l n) list 0) := by
  refine ⟨?_, fun W A c hA => check_yes l n A c list W l0 l1 hn hlen hA⟩
  have h := Mc.chk_up hok list.length 0 (by omega)
  simp only [Mc.up, List.drop_zero] at h
  rw [h]
  split
  · exact .inl rfl
  · exact .inr rfl

set_option maxRecDepth 100000 in
set_option maxHeartbeats 2000000 in
theorem sums_walk (L n N q : Nat) (A : Option Addr) (c : Nat) (list lq : List Mc.Act) (tot pk most : Int) (kdf st : Nat → Int) (xs : List Int) (r : Int × Int × Int) (w : World) (l1 : L ≤ 200) (hn : n ≤ 100) (hN : list.length = N) (hlen : N ≤ 300) (hq : q ≤ N) (hlq : lq.length = q) (hc : N ≤ c) (hxs : xs.length = N)
    (hA : ∀ W, KW w W → Acts W A list) (hAq : ∀ W, KW w W → Acts W A lq) (hP : OfOk L n list L tot pk most kdf st) (hH : HeldOk L n list xs) (hHq : HeldOk L n lq (xs.take q)) (hC : CheckOk L n list tot r)
    (hst : ∀ i, 0 ≤ st i ∧ st i ≤ 300) (hss : ∀ k, k ≤ L → 0 ≤ Mc.sum st k ∧ Mc.sum st k ≤ 60000) (htp : ∀ k, k ≤ L → 0 ≤ Mc.top st k ∧ Mc.top st k ≤ 300) (hkd : ∀ i, 0 ≤ kdf i ∧ kdf i ≤ 300) (hks : ∀ k, k ≤ 10 → 0 ≤ Mc.sum kdf k ∧ Mc.sum kdf k ≤ 3000)
    (hsum : Mc.sum st L = tot) (hmost : Mc.top st L = most) (hkn : Mc.sum kdf 10 = N) (hpk : pk ≤ n) :
    Calls Try.prog 5 #[.int .i64 L, .int .i64 n, .slice A N c, .int .i64 q] w fun e w' => e = .returned (.bool true) ∧ KW w w' := by
  unfold OfOk at hP
  unfold HeldOk at hH hHq
  obtain ⟨hr, hC⟩ := hC
  rw [hN] at hP hH hC hr
  rw [hlq] at hHq
  have HA := hid hA
  have HAq := hid hAq
  have HP := hid hP
  have HH := hid hH
  have HHq := hid hHq
  have HC := hid hC
  have HR := hid hr
  have HST := hid hst
  have HSS := hid hss
  have HTP := hid htp
  have HKD := hid hkd
  have HKS := hid hks
  have HSum := hid hsum
  have HMost := hid hmost
  have HKn := hid hkn
  have HXS := hid hxs
  have L0 : 0 ≤ (L : Int) := by omega
  have L1 : (L : Int) ≤ 200 := by omega
  have L2 : (N : Int) ≤ 300 := by omega
  have L3 : (q : Int) ≤ (N : Int) := by omega
  have L4 : (n : Int) ≤ 100 := by omega
  have d0 : decide ((L : Int) < 0) = false := decide_eq_false (by omega)
  have d1 : decide (200 < (L : Int)) = false := decide_eq_false (by omega)
  have d2 : decide ((n : Int) < 0) = false := decide_eq_false (by omega)
  have d3 : decide (100 < (n : Int)) = false := decide_eq_false (by omega)
  have d4 : decide (300 < (N : Int)) = false := decide_eq_false (by omega)
  have d5 : decide ((q : Int) < 0) = false := decide_eq_false (by omega)
  have d6 : decide ((N : Int) < (q : Int)) = false := decide_eq_false (by omega)
  have d7 : decide (N < q) = false := decide_eq_false (by omega)
  clear hA hAq hP hH hHq hC hr hst hss htp hkd hks hsum hmost hkn hN hlq hxs
  go_enter Try.func5, Try.ntmps5
  go_wp2_with fail
  refine (HP.out _ _ c (HA.out _ (KW.refl w))).mono ?_
  rintro e w1 ⟨⟨As, cs, rfl, hi⟩, hk1⟩
  have HI1 := hid hi
  have HK1 := hid hk1
  clear hk1 hi
  go_wp2_with fail
  have HB0 := hid (heap_alloc_new w1 (.cells #[.int .i64 tot, .int .i64 pk, .int .i64 most, .int .i64 (kdf 0), .int .i64 (kdf 1), .int .i64 (kdf 2), .int .i64 (kdf 3), .int .i64 (kdf 4), .int .i64 (kdf 5), .int .i64 (kdf 6), .int .i64 (kdf 7), .int .i64 (kdf 8), .int .i64 (kdf 9), .slice As L cs] 35))
  refine (HH.out _ _ c (HA.out _ (HK1.out.alloc _))).mono ?_
  rintro e w2 ⟨⟨Ah, ch, rfl, hch, hi⟩, hk2⟩
  have HI2 := hid hi
  have HK2 := hid ((HK1.out.alloc _).t hk2)
  have HB2 := hid (KW.block' hk2 (by simp) HB0.out)
  have HI12 := hid ((HI1.out.kw ((KW.refl w1).alloc _)).kw hk2)
  clear hk2 hi HB0
  go_wp2_with fail
  refine (HHq.out _ _ _ (HAq.out _ HK2.out)).mono ?_
  rintro e w3 ⟨⟨Aq, cq, rfl, _, hi⟩, hk3⟩
  have HI3 := hid hi
  have HK3 := hid (HK2.out.t hk3)
  have HB3 := hid (KW.block' hk3 (lt_of_some' HB2.out) HB2.out)
  have HI13 := hid (HI12.out.kw hk3)
  have HI23 := hid (HI2.out.kw hk3)
  clear hk3 hi
  have HX := hid (fun c' => ints07_any _ _ (xs.take q) (xs.take q) w3 HI3.out (HI23.out.take (q := q) (by have := HXS.out; omega) c') (by have := HXS.out; rw [List.length_take]; omega))
  rw [show decide (xs.take q = xs.take q) = true from by simp] at HX
  go_wp2_with fail
  refine (HX.out _).mono ?_
  rintro e w4 ⟨rfl, hk4⟩
  have HK4 := hid (HK3.out.t hk4)
  have HB4 := hid (KW.block' hk4 (lt_of_some' HB3.out) HB3.out)
  have HI14 := hid (HI13.out.kw hk4)
  clear hk4 HX
  have HRow : Hid (w4.rowIs w1.heap.size 35 14 (pfv tot pk most kdf (.slice As L cs))) := row14 HB4.out
  have c13 : w4.cell? ⟨w1.heap.size, 13, none⟩ = some (.slice As L cs) := HRow.out.cell (i := 13) (by omega)
  have c0 : w4.cell? ⟨w1.heap.size, 0, none⟩ = some (.int .i64 tot) := HRow.out.cell (i := 0) (by omega)
  have c1 : w4.cell? ⟨w1.heap.size, 1, none⟩ = some (.int .i64 pk) := HRow.out.cell (i := 1) (by omega)
  have c2 : w4.cell? ⟨w1.heap.size, 2, none⟩ = some (.int .i64 most) := HRow.out.cell (i := 2) (by omega)
  go_wp2_with fail
  go_loop [16, 18, 19] (fun s m i => ∃ k : Nat, k ≤ L ∧ i = .int .i64 k ∧ s = .int .i64 (Mc.sum st k) ∧ m = .int .i64 (Mc.top st k)) (fun _ _ i => L - (intOf i).toNat)
  case atStart => exact ⟨0, by omega, rfl, rfl, rfl⟩
  case round =>
    obtain ⟨k, hk, rfl, rfl, rfl⟩ := hrel
    by_cases hlt : k < L
    · obtain ⟨b', off, rfl, hb', hcl⟩ := (HI14.out.cells' (i := k) hlt)
      have hb1 := HST.out k
      have hb2 := HSS.out k (by omega)
      have hb3 := HTP.out k (by omega)
      have hb4 := HSS.out (k + 1) (by omega)
      have hS1 : Mc.sum st (k + 1) = Mc.sum st k + st k := rfl
      have hT1 : Mc.top st (k + 1) = max (Mc.top st k) (st k) := rfl
      have L5 : (k : Int) < (L : Int) := by omega
      generalize Mc.sum st k = s0 at *
      generalize Mc.top st k = t0 at *
      generalize st k = sk at *
      have HE := hid hS1
      have HE2 := hid hT1
      clear hS1 hT1
      by_cases hm : t0 < sk
      · go_wp2_with fail
        go_round
        case rel => exact ⟨k + 1, by omega, by go_num, by rw [HE.out], by rw [HE2.out, Int.max_eq_right (by omega)]⟩
        case measure => simp [intOf]; omega
      · go_wp2_with fail
        go_round
        case rel => exact ⟨k + 1, by omega, by go_num, by rw [HE.out], by rw [HE2.out, Int.max_eq_left (by omega)]⟩
        case measure => simp [intOf]; omega
    · obtain rfl : k = L := by omega
      clear hlt
      have hSum := HSum.out
      have hMost := HMost.out
      generalize Mc.sum st k = s0 at *
      generalize Mc.top st k = t0 at *
      obtain rfl : s0 = tot := hSum
      obtain rfl : t0 = most := hMost
      go_wp2_with fail
      go_loop [17, 20] (fun s i => ∃ j : Nat, j ≤ 10 ∧ i = .int .i64 j ∧ s = .int .i64 (Mc.sum kdf j)) (fun _ i => 10 - (intOf i).toNat)
      case atStart => exact ⟨0, by omega, rfl, rfl⟩
      case round =>
        obtain ⟨j, hj, rfl, rfl⟩ := hrel
        by_cases hlt : j < 10
        · have hc3 : w4.cell? ⟨w1.heap.size, 3 + j, none⟩ = some (.int .i64 (kdf j)) := by
            rw [HRow.out.cell (i := 3 + j) (by omega), pfv_kd _ _ _ _ _ hlt]
          have hb1 := HKD.out j
          have hb2 := HKS.out j (by omega)
          have hb4 := HKS.out (j + 1) (by omega)
          have hS1 : Mc.sum kdf (j + 1) = Mc.sum kdf j + kdf j := rfl
          have L5 : (j : Int) < 10 := by omega
          generalize Mc.sum kdf j = q0 at *
          generalize kdf j = kj at *
          have HE := hid hS1
          clear hS1
          go_wp2_with fail
          go_round
          case rel => exact ⟨j + 1, by omega, by go_num, by rw [HE.out]⟩
          case measure => simp [intOf]; omega
        · obtain rfl : j = 10 := by omega
          clear hlt
          rw [HKn.out]
          have c0' := c0
          have HCk := hid (HC.out w4 A c (HA.out _ HK4.out))
          clear HC HP HH HHq
          go_wp2_with fail
          refine HCk.out.mono ?_
          rintro e w5 ⟨rfl, hk5⟩
          have HK5 := hid (HK4.out.t hk5)
          replace c0 := KW.cell hk5 (HRow.out.lt) c0
          replace c1 := KW.cell hk5 (HRow.out.lt) c1
          replace c2 := KW.cell hk5 (HRow.out.lt) c2
          clear hk5 c0'
          rcases HR.out with rfl | rfl
          · have hk := HK5.out
            go_wp2_with (go_at_call 12; refine (goes32_any _).mono ?_; rintro e w1 ⟨rfl, hb⟩; replace hk := hk.t hb; clear hb)
            go_ret
            exact ⟨rfl, hk⟩
          · have hk := HK5.out
            go_wp2_with (go_at_call 12; refine (goes32_any _).mono ?_; rintro e w1 ⟨rfl, hb⟩; replace hk := hk.t hb; clear hb)
            go_ret
            exact ⟨rfl, hk⟩
end Go.Proofs.Ytkdamcacmecnaaa
