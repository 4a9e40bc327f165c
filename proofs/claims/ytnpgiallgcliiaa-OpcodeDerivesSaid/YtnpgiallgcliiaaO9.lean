/- The page's example of layer 7; the walk of OpcodeNames. -/
import Derived.Test.YtnpgiallgcliiaaO8
import Derived.Laws.StructEq
namespace Go.Proofs.Ytnpgiallgcliiaa
open Go.ChangeShapes Go.WideShapes Go.ChangeAt Go.RowKit
set_option linter.unusedVariables false

theorem u64row_new (w : World) (t : TypeId) (l : List Int) : Row1 (w.alloc (.cells (u64s l).toArray t)) (some ⟨w.heap.size, 0, none⟩) l.length fun i => .int .u64 (l.getD i 0) := by
  have h := row1_new w t (u64s l)
  rw [u64s_len] at h
  exact h.cong fun i hi => u64s_get l hi
set_option maxRecDepth 100000 in
set_option maxHeartbeats 2000000 in
theorem goes07_any (w : World) : Calls Try.prog 13 #[] w fun e w' => e = .returned (.bool true) ∧ KW w w' := by
  have HW : Hid (∀ W, Calls Try.prog 14 #[.agg #[.int .i64 5, .int .i64 3, .int .i64 0, .int .i64 0, .int .u64 9]] W (WordsP W [5, 3, 9])) := hid (fun W => by
    have h := owords_yes 5 3 0 0 9 W (by decide) (by omega)
    rwa [show Oc.wl 5 3 0 0 9 = [5, 3, 9] from by decide] at h)
  have HR : Hid (∀ W : World, Calls Try.prog 16 #[.slice (some ⟨W.heap.size, 0, none⟩) 4 4] (W.alloc (.cells #[.int .u64 4, .int .u64 1, .int .u64 2, .int .u64 7] 22)) (RdP (W.alloc (.cells #[.int .u64 4, .int .u64 1, .int .u64 2, .int .u64 7] 22)) ⟨4, 1, 2, 0, 0, 3, 0⟩)) := hid (fun W => by
    have h := oread_any (some ⟨W.heap.size, 0, none⟩) 4 [4, 1, 2, 7] (W.alloc (.cells #[.int .u64 4, .int .u64 1, .int .u64 2, .int .u64 7] 22)) (u64row_new W 22 [4, 1, 2, 7]) (by simp) (by intro x hx; simp at hx; omega)
    rwa [show Oc.rd [4, 1, 2, 7] = ⟨4, 1, 2, 0, 0, 3, 0⟩ from rfl] at h)
  have HN : Hid (∀ W, Calls Try.prog 23 #[.int .i64 3] W fun e w' => e = .returned (.string ⟨#[109, 117, 108]⟩) ∧ KW W w') := hid (fun W => oname_any 3 W)
  unfold WordsP at HW
  unfold RdP at HR
  go_enter Try.func13, Try.ntmps13
  go_wp2_with fail
  refine (HW.out _).mono ?_
  rintro e w1 ⟨u, rfl, ho, hk⟩
  obtain ⟨A, c, hu, hr⟩ := ho.wt
  subst hu
  obtain ⟨b, off, rfl, hb, hc⟩ := hr (by simp)
  have c0 := hc 0 (by simp)
  have c1 := hc 1 (by simp)
  have c2 := hc 2 (by simp)
  simp only [List.getD_cons_succ, List.getD_cons_zero, Nat.add_zero] at c0 c1 c2
  have HC := hid (And.intro hb (And.intro c0 (And.intro c1 c2)))
  have HK := hid hk
  clear ho hk hr hc c0 c1 c2 hb
  go_wp2_with fail
  refine (HR.out _).mono ?_
  rintro e w2 ⟨rfl, hk2⟩
  have hk1 := ((KW.refl w1).alloc _).t hk2
  have c0 := KW.cell hk1 HC.out.1 HC.out.2.1
  have c1 := KW.cell hk1 HC.out.1 HC.out.2.2.1
  have c2 := KW.cell hk1 HC.out.1 HC.out.2.2.2
  have hb := Nat.lt_of_lt_of_le HC.out.1 hk1.size
  have HK2 := hid ((HK.out.t hk1).alloc (.cells #[.int .i64 4, .int .i64 1, .int .i64 2, .int .i64 0, .int .u64 0] 24))
  clear hk1 hk2 HK HC
  unfold opv
  go_wp2_with (go_at_call 23; refine (HN.out _).mono ?_; rintro e w3 ⟨rfl, hk3⟩)
  go_ret
  exact ⟨rfl, HK2.out.t hk3⟩

set_option maxRecDepth 100000 in
set_option maxHeartbeats 2000000 in
theorem names_law (k : Int) (s : ByteArray) (w : World) : Calls Try.prog 5 #[.int .i64 k, .string s] w fun e w' => e = .returned (.bool true) ∧ KW w w' := by
  have HG := hid (fun W => goes07_any W)
  have HK1 := hid (fun W => okind_any s W)
  have HK2 := hid (fun W => rkind_any s W)
  have HK3 := hid (fun W => okind_any (Oc.nmI k) W)
  have HN1 := hid (fun W => oname_any k W)
  have HN2 := hid (fun W => rname_any k W)
  rw [Oc.kd_name k] at HK3
  generalize Oc.nmI k = nk at *
  generalize Oc.kd s = r at *
  obtain ⟨r1, r2⟩ := r
  simp only at HK1 HK2
  by_cases h : 300 < (s.size : Int)
  · go_enter Try.func5, Try.ntmps5
    go_wp2_with (go_at_call 13; refine (HG.out _).mono ?_; rintro e w3 ⟨rfl, hk3⟩)
    go_ret
    exact ⟨rfl, hk3⟩
  have d : decide (300 < (s.size : Int)) = false := decide_eq_false h
  clear h
  by_cases hk : 0 ≤ k ∧ k < 8
  · rw [if_pos hk] at HK3
    obtain ⟨k0, k1⟩ := hk
    go_enter Try.func5, Try.ntmps5
    go_wp2_with fail
    refine (HK1.out _).mono ?_
    rintro e w1 ⟨rfl, h1⟩
    go_wp2_with fail
    refine (HK2.out _).mono ?_
    rintro e w2 ⟨rfl, h2⟩
    go_wp2_with fail
    refine (HN1.out _).mono ?_
    rintro e w3 ⟨rfl, h3⟩
    go_wp2_with fail
    refine (HK3.out _).mono ?_
    rintro e w4 ⟨rfl, h4⟩
    go_wp2_with fail
    refine (HN1.out _).mono ?_
    rintro e w5 ⟨rfl, h5⟩
    go_wp2_with fail
    refine (HN2.out _).mono ?_
    rintro e w6 ⟨rfl, h6⟩
    go_wp2_with (go_at_call 13; refine (HG.out _).mono ?_; rintro e w7 ⟨rfl, h7⟩)
    go_ret
    exact ⟨rfl, (((((h1.t h2).t h3).t h4).t h5).t h6).t h7⟩
  · rw [if_neg hk] at HK3
    have hd : (decide (0 ≤ k) && decide (k < 8)) = false := by
      by_cases h0 : 0 ≤ k
      · have : ¬ k < 8 := fun h1 => hk ⟨h0, h1⟩
        simp [this]
      · simp [h0]
    by_cases h0 : 0 ≤ k
    · have d1 : decide (k < 8) = false := decide_eq_false (fun h1 => hk ⟨h0, h1⟩)
      clear hk hd
      go_enter Try.func5, Try.ntmps5
      go_wp2_with fail
      refine (HK1.out _).mono ?_
      rintro e w1 ⟨rfl, h1⟩
      go_wp2_with fail
      refine (HK2.out _).mono ?_
      rintro e w2 ⟨rfl, h2⟩
      go_wp2_with fail
      refine (HN1.out _).mono ?_
      rintro e w3 ⟨rfl, h3⟩
      go_wp2_with fail
      refine (HK3.out _).mono ?_
      rintro e w4 ⟨rfl, h4⟩
      go_wp2_with fail
      refine (HN1.out _).mono ?_
      rintro e w5 ⟨rfl, h5⟩
      go_wp2_with fail
      refine (HN2.out _).mono ?_
      rintro e w6 ⟨rfl, h6⟩
      go_wp2_with (go_at_call 13; refine (HG.out _).mono ?_; rintro e w7 ⟨rfl, h7⟩)
      go_ret
      exact ⟨rfl, (((((h1.t h2).t h3).t h4).t h5).t h6).t h7⟩
    · have d1 : decide (0 ≤ k) = false := decide_eq_false h0
      clear hk hd
      go_enter Try.func5, Try.ntmps5
      go_wp2_with fail
      refine (HK1.out _).mono ?_
      rintro e w1 ⟨rfl, h1⟩
      go_wp2_with fail
      refine (HK2.out _).mono ?_
      rintro e w2 ⟨rfl, h2⟩
      go_wp2_with fail
      refine (HN1.out _).mono ?_
      rintro e w3 ⟨rfl, h3⟩
      go_wp2_with fail
      refine (HK3.out _).mono ?_
      rintro e w4 ⟨rfl, h4⟩
      go_wp2_with fail
      refine (HN1.out _).mono ?_
      rintro e w5 ⟨rfl, h5⟩
      go_wp2_with fail
      refine (HN2.out _).mono ?_
      rintro e w6 ⟨rfl, h6⟩
      go_wp2_with (go_at_call 13; refine (HG.out _).mono ?_; rintro e w7 ⟨rfl, h7⟩)
      go_ret
      exact ⟨rfl, (((((h1.t h2).t h3).t h4).t h5).t h6).t h7⟩
end Go.Proofs.Ytnpgiallgcliiaa
