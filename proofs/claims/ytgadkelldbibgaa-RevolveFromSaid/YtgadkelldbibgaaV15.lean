/- The walk of RevolveFrom. -/
import Derived.Test.YtgadkelldbibgaaV14
import Derived.Test.YtgadkelldbibgaaRowP
namespace Go.Proofs.Ytgadkelldbibgaa
open Go.ChangeShapes Go.WideShapes Go.ChangeAt Go.RowKit
set_option linter.unusedVariables false

theorem from_goes (l a p most : Int) (N c : Nat) (A : Option Addr) (w : World) (h0 : 30 < N ∨ 200 < most) :
    Calls Try.prog 6 #[.int .i64 l, .agg #[.int .i64 a, .int .i64 p, .slice A N c], .int .i64 most] w fun e w' => e = .returned (.bool true) ∧ KW w w' := by
  have hk := (KW.refl w).alloc (.cells #[.int .i64 a, .int .i64 p, .slice A N c] 24)
  have hx : ((30 : Int) < (N : Int)) ∨ (decide ((30 : Int) < (N : Int)) = false ∧ 200 < most) := by
    simp only [decide_eq_false_iff_not]
    omega
  clear h0
  rcases hx with h | ⟨d, h⟩
  all_goals
    go_enter Try.func6, Try.ntmps6
    go_wp2_with (go_at_call 13; refine (goes30_any _).mono ?_; rintro e w1 ⟨rfl, hb⟩; replace hk := hk.t hb; clear hb)
    go_ret
    exact ⟨rfl, hk⟩
set_option maxRecDepth 100000 in
set_option maxHeartbeats 2000000 in
theorem from_main (l a p most : Int) (N c : Nat) (A : Option Addr) (w : World) (hN : ¬ 30 < N) (hm : ¬ 200 < most) (acts : List Mc.Act) (er : Int) (hlen : acts.length ≤ 200)
    (h1 : ∀ W, KW w W → Calls Try.prog 26 #[.int .i64 l, .agg #[.int .i64 a, .int .i64 p, .slice A N c], .int .i64 most] W (ActsP W acts er))
    (h2 : ∀ W, KW w W → Calls Try.prog 27 #[.int .i64 l, .agg #[.int .i64 a, .int .i64 p, .slice A N c], .int .i64 most] W (ActsP W acts er)) (her : (er == er) = true) (her1 : -9223372036854775808 ≤ er) (her2 : er ≤ 9223372036854775807) :
    Calls Try.prog 6 #[.int .i64 l, .agg #[.int .i64 a, .int .i64 p, .slice A N c], .int .i64 most] w fun e w' => e = .returned (.bool true) ∧ KW w w' := by
  have d0 : decide ((30 : Int) < (N : Int)) = false := decide_eq_false (by omega)
  have d1 : decide (200 < most) = false := decide_eq_false hm
  have H1 := hid h1
  have H2 := hid h2
  have HS := hid (fun (A B : Option Addr) ca cb W (hA : Acts W A acts) (hB : Acts W B acts) => rsame26_any acts acts A B ca cb W (by omega) (by omega) hA hB)
  rw [show decide (acts = acts) = true from by simp] at HS
  unfold ActsP at H1 H2
  have HK := hid ((KW.refl w).alloc (.cells #[.int .i64 a, .int .i64 p, .slice A N c] 24))
  have HB := hid (heap_alloc_new w (.cells #[.int .i64 a, .int .i64 p, .slice A N c] 24))
  clear h1 h2 hN hm
  go_enter Try.func6, Try.ntmps6
  go_wp2_with fail
  refine (H1.out _ HK.out).mono ?_
  rintro e w1 ⟨A1, c1, rfl, ho1, hk1⟩
  obtain ⟨_, _, hv, _, ha1⟩ := ho1.slice
  cases hv
  have HK1 := hid (HK.out.t hk1)
  have HB1 := hid (KW.blk hk1 (blk_lt HB.out) HB.out)
  have HA1 := hid ha1
  clear ho1 ha1 hk1
  go_wp2_with (refine wpList_load_row rfl 24 _ rfl w.heap.size rfl 24 _ (0, 0) _ HB1.out Try.underlying24 rfl (by kernel_rfl) ?_)
  refine (H2.out _ HK1.out).mono ?_
  rintro e w2 ⟨A2, c2, rfl, ho2, hk2⟩
  obtain ⟨_, _, hv, _, ha2⟩ := ho2.slice
  cases hv
  have HK2 := hid (HK1.out.t hk2)
  have HA1' := hid (HA1.out.kw hk2)
  have HA2 := hid ha2
  clear ho2 ha2 hk2
  go_wp2_with fail
  refine (HS.out _ _ _ _ _ HA1'.out HA2.out).mono ?_
  rintro e w3 ⟨rfl, hk3⟩
  have hk := HK2.out.t hk3
  clear hk3
  go_wp2_with (go_at_call 13; refine (goes30_any _).mono ?_; rintro e w1 ⟨rfl, hb⟩; replace hk := hk.t hb; clear hb)
  go_ret
  exact ⟨rfl, hk⟩
open Classical in
theorem from_law (l a p : Int) (A : Option Addr) (c : Nat) (tags : List Int) (most : Int) (w : World) (_ : -9223372036854775808 ≤ l) (_ : l ≤ 9223372036854775807)
    (ha : i64ok a) (hp : i64ok p) (_ : tags.length ≤ 9223372036854775807) (_ : ∀ x ∈ tags, i64ok x) (hz : A = none → c = 0) (hr : Row1 w A tags.length fun i => .int .i64 (tags.getD i 0)) (_ : -9223372036854775808 ≤ most) (_ : most ≤ 9223372036854775807) :
    Calls Try.prog 6 #[.int .i64 l, .agg #[.int .i64 a, .int .i64 p, .slice A tags.length c], .int .i64 most] w fun e w' => e = .returned (.bool true) ∧ KW w w' := by
  by_cases h : 30 < tags.length ∨ 200 < most
  · exact from_goes l a p most _ c A w h
  · have hv : RTz w (.slice A tags.length c) tags := ⟨A, c, rfl, hz, hr⟩
    by_cases h2 : ¬ Sd.okS l a p tags ∨ most < 0
    · exact from_main l a p most tags.length c A w (by omega) (by omega) [] 2 (by simp) (fun W hk => rvfrom_no l a p most tags _ W (hv.kw hk) h2) (fun W hk => rfrom_no l a p most tags A c W (hr.k hk) h2) rfl (by omega) (by omega)
    · have hok : Sd.okS l a p tags := Classical.byContradiction fun g => h2 (.inl g)
      obtain ⟨M, rfl⟩ : ∃ M : Nat, most = M := ⟨most.toNat, by omega⟩
      obtain ⟨acts, m', hR, hl⟩ := Mc.RunsM.ex (Rv.nm l) M M 0 ⟨l, a, p, 0, tags⟩ (by omega)
      exact from_main l a p M tags.length c A w (by omega) (by omega) acts 0 (by omega) (fun W hk => rvfrom_yes l a p M tags _ W acts m' (hv.kw hk) hok hR (by omega)) (fun W hk => rfrom_yes l a p M tags A c W acts m' (hr.k hk) hok hR (by omega) (by omega)) rfl (by omega) (by omega)
end Go.Proofs.Ytgadkelldbibgaa
