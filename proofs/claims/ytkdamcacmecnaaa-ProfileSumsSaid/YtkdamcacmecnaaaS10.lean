/- What profile.Of's closure keeps; slices.Max. -/
import Derived.Test.YtkdamcacmecnaaaS9
namespace Go.Proofs.Ytkdamcacmecnaaa
open Go.ChangeShapes Go.WideShapes Go.ChangeAt Go.RowKit
set_option linter.unusedVariables false

def OfJ (pb sb L : Nat) (m0 : Mc.St) (list : List Mc.Act) (k : Nat) (H : Nat → Prop) (w : World) : Prop :=
  w.rowIs pb 35 14 (pfv 0 (Mc.peak m0 list k) 0 (fun c => Mc.kd list c k) (.slice (some ⟨sb, 0, none⟩) L L)) ∧ (w.rowIs sb 3 L fun i => .int .i64 (Mc.sp m0 list i k)) ∧ ∀ i, H i ↔ i = pb ∨ i = sb
theorem see_of (l : Int) (n L : Nat) (l0 : 0 ≤ l) (l1 : l < 65536) (hn : n ≤ 1048576) (hL : (L : Int) = l) (list : List Mc.Act) (hlen : list.length ≤ 1099511627776) (pb sb : Nat) (hne : pb ≠ sb) :
    See 46 #[.pointer (some ⟨pb, 0, none⟩)] (Mc.new l n) list (OfJ pb sb L (Mc.new l n) list) := by
  refine ⟨fun args W => by kernel_rfl, fun k H w h i hi => ?_, fun k H w w' O h hk hn' => ?_, fun k H w va vb hkl hok hJ ha hb hxa hxb => ?_⟩
  · rcases (h.2.2 i).1 hi with rfl | rfl
    · exact h.1.lt
    · exact h.2.1.lt
  · exact ⟨hk.row (hn' _ ((h.2.2 _).2 (.inl rfl))) h.1, hk.row (hn' _ ((h.2.2 _).2 (.inr rfl))) h.2.1, h.2.2⟩
  · obtain ⟨h1, h2, hH⟩ := hJ
    have hI := Mc.new_inv l n l0 l1 hn
    have hI1 := Mc.up_inv hI list k
    have hI2 := Mc.up_inv hI list (k + 1)
    have hl1 := Mc.up_l (Mc.new l n) list k
    have hl2 := Mc.up_l (Mc.new l n) list (k + 1)
    have hnl : (Mc.new l n).l = l := rfl
    have hlen1 : (Mc.up (Mc.new l n) list k).tags.length ≤ 1048576 := by rw [Mc.up_len]; simpa [Mc.new] using hn
    have hlen2 : (Mc.up (Mc.new l n) list (k + 1)).tags.length ≤ 1048576 := by rw [Mc.up_len]; simpa [Mc.new] using hn
    have hr := (Mc.right_of_er (hok k (by omega))).2
    have hadv := (Mc.step_adv (hok k (by omega))).1
    have hpk : Mc.peak (Mc.new l n) list k ≤ 1048576 := Nat.le_trans (Mc.peak_le _ _ _) (by simpa [Mc.new] using hn)
    have e1 : ∃ q : Nat, (list.getD k (0, 0)).1 = q := ⟨(list.getD k (0, 0)).1.toNat, by omega⟩
    have e2 : ∃ a1 : Nat, (Mc.up (Mc.new l n) list k).at_ = a1 := ⟨(Mc.up (Mc.new l n) list k).at_.toNat, by have := hI1.a0; omega⟩
    have e3 : ∃ a2 : Nat, (Mc.up (Mc.new l n) list (k + 1)).at_ = a2 := ⟨(Mc.up (Mc.new l n) list (k + 1)).at_.toNat, by have := hI2.a0; omega⟩
    obtain ⟨q, e1⟩ := e1
    obtain ⟨a1, e2⟩ := e2
    obtain ⟨a2, e3⟩ := e3
    have hc := of1_any pb sb L (Mc.peak (Mc.new l n) list k) (fun c => Mc.kd list c k) (fun i => Mc.sp (Mc.new l n) list i k) q (list.getD k (0, 0)).2 (Mc.up (Mc.new l n) list k).pend (Mc.up (Mc.new l n) list (k + 1)).pend a1 a2 va vb _ _ w (by omega)
      (by have := hI1.a1; have := hI2.a1; omega) (fun hq => by
        obtain ⟨h1, _, h3, _⟩ := hadv (by omega)
        have h5 : (Mc.up (Mc.new l n) list (k + 1)).at_ = (Mc.up (Mc.new l n) list k).at_ + (list.getD k (0, 0)).2 := h1
        omega) hpk (fun c => by have := Mc.kd_b list c k; omega) (fun i => by have := Mc.sp_b (Mc.new l n) list i k; omega) hlen1 hlen2 ha hb (fun b hb' h => hxa b hb' ((hH b).2 (.inl h))) (fun b hb' h => hxb b hb' ((hH b).2 (.inl h))) hne h1 h2
    unfold sightV
    rw [e1, e2, e3]
    refine hc.mono fun e w' h => ?_
    obtain ⟨he, h3, h4, h5⟩ := h
    refine ⟨he, H, ⟨?_, h4.congr fun i hi => ?_, hH⟩, h5.mono fun i _ hi => (hH i).2 hi, fun i hi => .inl hi⟩
    · refine h3.congr fun i hi => ?_
      have e5 : (fun c : Nat => Mc.kd list c k + if c = q then 1 else 0) = fun c : Nat => Mc.kd list c (k + 1) := by
        funext c
        simp only [Mc.kd]
        rw [e1]
        by_cases h : c = q
        · rw [if_pos h, if_pos (by omega)]
        · rw [if_neg h, if_neg (by omega)]
      rw [e5]
      rfl
    · simp only [Mc.sp, Mc.one]
      rw [e1, e2, e3]
      by_cases h : q = 1 ∧ a1 ≤ i ∧ i < a2
      · rw [if_pos h, if_pos ⟨by omega, by omega, by omega⟩]
      · rw [if_neg h, if_neg (by omega)]

theorem foldl_take (l : List Int) (x : Int) {k : Nat} (h : k < l.length) : (l.take (k + 1)).foldl max x = max ((l.take k).foldl max x) (l.getD k 0) := by
  rw [List.take_succ_eq_append_getElem h, List.foldl_append]
  simp [List.getD_eq_getElem?_getD, List.getElem?_eq_getElem h]
theorem foldl_top (f : Nat → Int) (n : Nat) : ((List.range n).map f).foldl max 0 = Mc.top f n := by
  induction n with
  | zero => rfl
  | succ n ih => rw [List.range_succ, List.map_append, List.foldl_append, ih]; rfl
set_option maxHeartbeats 1000000 in
theorem smax_any (v : Value) (x : Int) (l : List Int) (w : World) (hl : l.length ≤ 1099511627776) (h : IW w v (x :: l)) :
    Calls Try.prog 47 #[v] w fun e w' => e = .returned (.int .i64 (l.foldl max x)) ∧ KW w w' := by
  obtain ⟨A, c, rfl, hr⟩ := h
  have HR := hid hr
  obtain ⟨b0, o0, rfl, hb0, hc0⟩ := hr.at_ (k := 0) (by simp)
  have e0 : (x :: l).getD 0 0 = x := rfl
  rw [e0, Nat.add_zero] at hc0
  have HF := hid (fun k (h : k < l.length) => foldl_take l x h)
  have HE := hid (show (l.take l.length).foldl max x = l.foldl max x by rw [List.take_length])
  have H0 := hid (show (l.take 0).foldl max x = x from rfl)
  have HC := hid (fun k (h : k < l.length) => (show (x :: l).getD (k + 1) 0 = l.getD k 0 by simp))
  rw [List.length_cons] at HR
  clear hr e0
  rw [List.length_cons]
  generalize l.foldl max x = r at *
  generalize l.length = N at *
  have L1 : decide ((N : Int) + 1 < 1) = false := decide_eq_false (by omega)
  have L2 : (0 : Int) < (N : Int) + 1 := by omega
  have L3 : ¬ (N + 1 < 1) := by omega
  go_enter Try.func47, Try.ntmps47
  go_wp2_with fail
  go_loop [3, 4] (fun m i => ∃ k : Nat, k ≤ N ∧ i = .int .i64 ((k : Int) + 1) ∧ m = .int .i64 ((l.take k).foldl max x)) (fun _ i => N + 1 - (intOf i).toNat)
  case atStart => exact ⟨0, by omega, rfl, by rw [H0.out]⟩
  case round =>
    obtain ⟨k, hk, rfl, rfl⟩ := hrel
    by_cases hlt : k < N
    · obtain ⟨b1, o1, hA, hb1, hc1⟩ := HR.out.at_ (k := k + 1) (by omega)
      cases hA
      have hF := HF.out k hlt
      rw [HC.out k hlt] at hc1
      have HF1 := hid hF
      clear hF
      generalize (l.take k).foldl max x = m at *
      generalize l.getD k 0 = y at *
      have L5 : (k : Int) + 1 < (N : Int) + 1 := by omega
      have L7 : ((k : Int) + 1).toNat = k + 1 := by omega
      have L8 : (0 : Int) ≤ (k : Int) + 1 := by omega
      by_cases hm : m < y
      · have HF2 : Hid ((l.take (k + 1)).foldl max x = y) := by rw [HF1.out]; exact hid (by omega)
        go_wp2_with fail
        go_round
        case rel => exact ⟨k + 1, by omega, by go_num, by rw [HF2.out]⟩
        case measure => simp [intOf]; omega
      · have HF2 : Hid ((l.take (k + 1)).foldl max x = m) := by rw [HF1.out]; exact hid (by omega)
        have hm2 : (m < y) = False := by simpa using hm
        clear hm
        go_wp2_with fail
        go_round
        case rel => exact ⟨k + 1, by omega, by go_num, by rw [HF2.out]⟩
        case measure => simp [intOf]; omega
    · obtain rfl : k = N := by omega
      clear hlt
      go_wp2_with fail
      go_ret
      exact ⟨by rw [← HE.out]; rfl, KW.refl w⟩
end Go.Proofs.Ytkdamcacmecnaaa
