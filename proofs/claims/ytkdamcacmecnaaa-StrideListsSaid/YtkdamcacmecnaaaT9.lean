/- The page's example of layer 31; the walk of StrideTells. -/
import Derived.Test.YtkdamcacmecnaaaT8
namespace Go.Proofs.Ytkdamcacmecnaaa
open Go.ChangeShapes Go.WideShapes Go.ChangeAt Go.RowKit
set_option linter.unusedVariables false

def want31 : List Mc.Act := [(2, 0), (1, 1), (2, 1), (1, 1), (4, 1), (2, 1)]
theorem ahead31 : Sd.aA 2 2 = want31 := by decide +kernel
set_option maxRecDepth 100000 in
theorem goes31_any (w : World) : Calls Try.prog 26 #[] w fun e w' => e = .returned (.bool true) ∧ KW w w' := by
  have H1 := hid (ssahead_yes 2 2 w (by omega) (by omega))
  unfold ActsP at H1
  rw [ahead31] at H1
  have H2 := hid (fun W => stride_yes 2 2 W (by decide) (by decide) (by decide) (by decide))
  rw [show Sd.sd 2 2 = 2 from by decide +kernel] at H2
  have H3 := hid (fun W => stotal_yes 3 2 W (by decide) (by decide) (by decide))
  rw [show Sd.tot 3 (Sd.sd (3 : Nat) 2) = 4 from by decide +kernel] at H3
  go_enter Try.func26, Try.ntmps26
  go_wp2_with fail
  refine H1.out.mono ?_
  rintro e w1 ⟨A, c, rfl, ho, hk⟩
  obtain ⟨_, _, hv, _, ha⟩ := ho.slice
  cases hv
  have HA := hid ha
  have HK := hid hk
  clear ho hk ha
  have hA2 := acts_new w1 55 want31
  have HA2 := hid hA2
  have HA1 := hid (HA.out.kw ((KW.refl w1).alloc (.cells (acells want31).toArray 55)))
  have HS := hid (rsame26_any want31 want31 A (some ⟨w1.heap.size, 0, none⟩) c 6 _ (by decide) (by decide) HA1.out HA2.out)
  rw [show decide (want31 = want31) = true from by decide] at HS
  have hl : want31.length = 6 := rfl
  rw [hl] at HS ⊢
  clear hl hA2
  go_wp2_with (first
    | (go_at_call 22; refine (H2.out _).mono ?_; rintro e w2 ⟨rfl, rfl⟩)
    | (go_at_call 24; refine (H3.out _).mono ?_; rintro e w2 ⟨rfl, rfl⟩))
  refine HS.out.mono ?_
  rintro e w2 ⟨rfl, hk2⟩
  have HK2 := hid ((HK.out.alloc _).t hk2)
  clear hk2
  go_wp2_with fail
  go_ret
  exact ⟨rfl, HK2.out⟩

theorem tells31_law (k s : Int) (w : World) (_ : -9223372036854775808 ≤ k) (_ : k ≤ 9223372036854775807) (_ : -9223372036854775808 ≤ s) (_ : s ≤ 9223372036854775807) :
    Calls Try.prog 6 #[.int .i64 k, .int .i64 s] w fun e w' => e = .returned (.bool true) ∧ KW w w' := by
  have hk := KW.refl w
  by_cases h : k < 0 ∨ 65536 ≤ k ∨ s < 1 ∨ 1048576 < s
  · have H1 := hid (fun W => stride_no k s W h)
    have H2 := hid (fun W => rstride_no k s W h)
    have H3 := hid (fun W => total_no k s W h)
    have H4 := hid (fun W => rtotal_no k s W h)
    clear h
    go_enter Try.func6, Try.ntmps6
    go_wp2_with (first
      | (go_at_call 22; refine (H1.out _).mono ?_; rintro e w2 ⟨rfl, rfl⟩)
      | (go_at_call 23; refine (H2.out _).mono ?_; rintro e w2 ⟨rfl, rfl⟩)
      | (go_at_call 24; refine (H3.out _).mono ?_; rintro e w2 ⟨rfl, rfl⟩)
      | (go_at_call 25; refine (H4.out _).mono ?_; rintro e w2 ⟨rfl, rfl⟩)
      | (go_at_call 26; refine (goes31_any _).mono ?_; rintro e w1 ⟨rfl, hb⟩; replace hk := hk.t hb; clear hb))
    go_ret
    exact ⟨rfl, hk⟩
  · obtain ⟨K, rfl⟩ : ∃ K : Nat, k = K := ⟨k.toNat, by omega⟩
    have H1 := hid (fun W => stride_yes K s W (by omega) (by omega) (by omega) (by omega))
    have H2 := hid (fun W => rstride_yes K s W (by omega) (by omega) (by omega) (by omega))
    have H3 := hid (fun W => stotal_yes K s W (by omega) (by omega) (by omega))
    have H4 := hid (fun W => rstotal_yes K s W (by omega) (by omega) (by omega))
    generalize Sd.tot K (Sd.sd K s) = t at *
    generalize Sd.sd K s = d at *
    clear h
    go_enter Try.func6, Try.ntmps6
    go_wp2_with (first
      | (go_at_call 22; refine (H1.out _).mono ?_; rintro e w2 ⟨rfl, rfl⟩)
      | (go_at_call 23; refine (H2.out _).mono ?_; rintro e w2 ⟨rfl, rfl⟩)
      | (go_at_call 24; refine (H3.out _).mono ?_; rintro e w2 ⟨rfl, rfl⟩)
      | (go_at_call 25; refine (H4.out _).mono ?_; rintro e w2 ⟨rfl, rfl⟩)
      | (go_at_call 26; refine (goes31_any _).mono ?_; rintro e w1 ⟨rfl, hb⟩; replace hk := hk.t hb; clear hb))
    go_ret
    exact ⟨rfl, hk⟩
end Go.Proofs.Ytkdamcacmecnaaa
