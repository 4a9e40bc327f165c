/- Two lists of actions alike; the page's example of layer 31. -/
import Derived.Test.YtkdamcacmecnaaaT7
import Derived.Test.YtkdamcacmecnaaaStr
import Derived.Test.YtkdamcacmecnaaaM8a
import Derived.RegionTactic
namespace Go.Proofs.Ytkdamcacmecnaaa
open Go.ChangeShapes Go.WideShapes Go.ChangeAt Go.RowKit
set_option linter.unusedVariables false

theorem act_neq (w : World) (x y a b : Int) : (binOp .neq 55 (.agg #[.int .i64 x, .int .i64 y]) (.agg #[.int .i64 a, .int .i64 b])).run Try.prog w = .ok (.bool (!(x == a && y == b))) w := by
  have u3 := Try.underlying3
  have a3 := Try.isAgg3
  have z3 := Try.sizeOf3
  have hS : Try.prog.underlying 55 = some (.struct (Try.prog.fieldsOf 55)) := by kernel_rfl
  have hp : Try.prog.stoodInHeld 55 = false := by kernel_rfl
  rw [run_neq_struct, show (10000 : Nat) = 9999 + 1 from rfl, run_equalIn_agg w 9999 55 _ _ hS hp]
  simp only [Program.fieldsOf, Try.underlying55]
  go_simp
  by_cases h1 : x = a <;> by_cases h2 : y = b <;> simp [h1, h2]
set_option maxHeartbeats 1000000 in
theorem rsame26_any (la lb : List Mc.Act) (A B : Option Addr) (ca cb : Nat) (w : World) (hl : la.length ≤ 1099511627776) (hl2 : lb.length ≤ 1099511627776) (hA : Acts w A la) (hB : Acts w B lb) :
    Calls Try.prog 37 #[.slice A la.length ca, .slice B lb.length cb] w fun e w' => e = .returned (.bool (decide (la = lb))) ∧ KW w w' := by
  by_cases hn : la.length = lb.length
  · have HL := hid hn
    have HX : Hid ((∀ i, i < la.length → la.getD i (0, 0) = lb.getD i (0, 0)) → la = lb) := fun h => List.ext_getElem hn fun i h1 h2 => by have := h i h1; simpa [h1, h2] using this
    have HY : Hid (∀ i, i < la.length → la.getD i (0, 0) ≠ lb.getD i (0, 0) → decide (la = lb) = false) := fun i hi h => decide_eq_false fun e => h (by rw [e])
    have HD : Hid (la = lb → decide (la = lb) = true) := fun h => decide_eq_true h
    have HAc := hid (fun W (h : KW w W) k hk => (hA.kw h).at_ (k := k) hk)
    have HBc := hid (fun W (h : KW w W) k hk => (hB.kw h).at_ (k := k) hk)
    have HE := hid (fun W x y a b => act_neq W x y a b)
    generalize decide (la = lb) = r at *
    rw [← hn] at HBc hl2 ⊢
    clear hA hB hn
    have HK0 := hid (KW.refl w)
    have e9 : ((la.length : Int) != (la.length : Int)) = false := by simp
    have e9' : ((la.length : Nat) != la.length) = false := by simp
    generalize la.length = N at *
    go_enter Try.func37, Try.ntmps37
    go_wp2_with fail
    go_loopw [5] (fun i wr => ∃ k : Nat, k ≤ N ∧ i = .int .i64 k ∧ Hid (∀ i, i < k → la.getD i (0, 0) = lb.getD i (0, 0)) ∧ Hid (KW w wr)) (fun i _ => N - (intOf i).toNat)
    case atStart => exact ⟨0, by omega, rfl, fun i hi => absurd hi (by omega), HK0⟩
    case round =>
      obtain ⟨k, hk, rfl, HI, HK⟩ := hrel
      by_cases hlt : k < N
      · obtain ⟨b1, o1, rfl, hb1, hc1, hc2⟩ := HAc.out wr HK.out k hlt
        obtain ⟨b2, o2, rfl, hb2, hc3, hc4⟩ := HBc.out wr HK.out k hlt
        have L5 : (k : Int) < (N : Int) := by omega
        have HY1 := hid (HY.out k hlt)
        have HI1 : Hid (la.getD k (0, 0) = lb.getD k (0, 0) → ∀ i, i < k + 1 → la.getD i (0, 0) = lb.getD i (0, 0)) := fun h i hi => by
          rcases (show i < k ∨ i = k by omega) with h1 | rfl
          · exact HI.out i h1
          · exact h
        generalize hp : la.getD k (0, 0) = p at *
        generalize hq : lb.getD k (0, 0) = q at *
        clear hp hq
        obtain ⟨x, y⟩ := p
        obtain ⟨a, b⟩ := q
        dsimp only at hc1 hc2 hc3 hc4
        by_cases hxy : x = a ∧ y = b
        · obtain ⟨rfl, rfl⟩ := hxy
          have HI2 := hid (HI1.out rfl)
          have e1 : ∀ W, (binOp .neq 55 (.agg #[.int .i64 x, .int .i64 y]) (.agg #[.int .i64 x, .int .i64 y])).run Try.prog W = .ok (.bool false) W := fun W => by rw [HE.out]; simp
          clear HI1 HY1
          go_wp2_with fail
          go_region
          go_wp2_with fail
          go_roundw
          case rel => exact ⟨k + 1, by omega, by go_num, HI2, HK.out.drew⟩
          case measure => simp [intOf]; omega
        · have e1 : ∀ W, (binOp .neq 55 (.agg #[.int .i64 x, .int .i64 y]) (.agg #[.int .i64 a, .int .i64 b])).run Try.prog W = .ok (.bool true) W := fun W => by
            rw [HE.out]
            have : (x == a && y == b) = false := by
              cases h : (x == a && y == b)
              · rfl
              · simp at h; exact absurd h hxy
            rw [this]; rfl
          have HR := hid (HY1.out (fun h => hxy (by simpa using h)))
          clear HI1 HY1 hxy
          go_wp2_with fail
          go_region
          go_wp2_with fail
          go_ret
          exact ⟨ret_bool HR.out.symm, HK.out.drew⟩
      · obtain rfl : k = N := by omega
        have HR := hid (HD.out (HX.out HI.out))
        clear hlt
        go_wp2_with fail
        go_ret
        exact ⟨ret_bool HR.out.symm, HK.out⟩
  · have d : decide (la = lb) = false := decide_eq_false fun h => hn (by rw [h])
    rw [d]
    have e1 : ((la.length : Int) != (lb.length : Int)) = true := by simp; omega
    have e2 : ((la.length : Nat) != (lb.length : Nat)) = true := by simp; omega
    have HK := hid (KW.refl w)
    clear d hn hA hB
    generalize la.length = N at *
    generalize lb.length = M at *
    go_enter Try.func37, Try.ntmps37
    go_wp2_with fail
    go_ret
    exact ⟨rfl, HK.out⟩
end Go.Proofs.Ytkdamcacmecnaaa
