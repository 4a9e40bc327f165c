/- Several texts in one. -/
import Derived.Test.YtgadkelldbibgaaVA
import Derived.Test.YtgadkelldbibgaaPZ
import Derived.WalkMore
import Derived.ScopeJumps
/- Contracts of revolve.May and revolve.Next. -/
namespace Go.Proofs.Ytgadkelldbibgaa
open Go.ChangeShapes Go.WideShapes Go.ChangeAt Go.RowKit
set_option linter.unusedVariables false

theorem may_no1 (l a p : Int) (N c : Nat) (A : Option Addr) (w : World)
    (h : ∀ W, KW w W → Calls Try.prog 44 #[.int .i64 l, .agg #[.int .i64 a, .int .i64 p, .slice A N c]] W fun e w' => e = .returned (.tuple #[.pointer none, .int .i64 2]) ∧ KW W w') :
    Calls Try.prog 16 #[.int .i64 l, .agg #[.int .i64 a, .int .i64 p, .slice A N c]] w fun e w' => e = .returned (.bool false) ∧ KW w w' := by
  have H := hid h
  have HK := hid ((KW.refl w).alloc (.cells #[.int .i64 a, .int .i64 p, .slice A N c] 24))
  clear h
  go_enter Try.func16, Try.ntmps16
  go_wp2_with fail
  refine (H.out _ HK.out).mono ?_
  rintro e w1 ⟨rfl, hk1⟩
  have HK1 := hid (HK.out.t hk1)
  clear hk1
  go_wp2_with fail
  go_ret
  exact ⟨rfl, HK1.out⟩
theorem may_at (l a p : Int) (N c : Nat) (A : Option Addr) (w : World) (m : Mc.St)
    (h : ∀ W, KW w W → Calls Try.prog 44 #[.int .i64 l, .agg #[.int .i64 a, .int .i64 p, .slice A N c]] W (NewP W m)) :
    Calls Try.prog 16 #[.int .i64 l, .agg #[.int .i64 a, .int .i64 p, .slice A N c]] w fun e w' => e = .returned (.bool (decide (0 < N))) ∧ KW w w' := by
  have H := hid h
  have HK := hid ((KW.refl w).alloc (.cells #[.int .i64 a, .int .i64 p, .slice A N c] 24))
  have HB := hid (heap_alloc_new w (.cells #[.int .i64 a, .int .i64 p, .slice A N c] 24))
  clear h
  go_enter Try.func16, Try.ntmps16
  go_wp2_with fail
  refine (H.out _ HK.out).mono ?_
  rintro e w1 ⟨mb, mv, rfl, _, _, hk1⟩
  have HB1 := hid (KW.blk hk1 (blk_lt HB.out) HB.out)
  have c2 : w1.cell? ⟨w.heap.size, 2, none⟩ = some (.slice A N c) := by rw [cell_of_row _ _ _ _ _ _ HB1.out]; rfl
  have HK1 := hid (HK.out.t hk1)
  clear hk1
  go_wp2_with fail
  go_ret
  exact ⟨ret_bool (by simp), HK1.out⟩
/-- a spot that may be, or may not, at machine.At -/
theorem spot_cases (k a p : Int) (tags : List Int) (v : Value) (w : World) (hv : RTz w v tags) :
    ((0 ≤ k ∧ k < 65536) ∧ (0 ≤ a ∧ a ≤ k) ∧ (-1 ≤ p ∧ p ≤ k) ∧ tags.length ≤ 1048576 ∧ (∀ i, i < tags.length → -1 ≤ tags.getD i 0 ∧ tags.getD i 0 ≤ k) ∧ ∀ W, KW w W → Calls Try.prog 44 #[.int .i64 k, .agg #[.int .i64 a, .int .i64 p, v]] W (NewP W ⟨k, a, p, 0, tags⟩)) ∨
    (¬ Sd.okS k a p tags ∧ ∀ W, KW w W → Calls Try.prog 44 #[.int .i64 k, .agg #[.int .i64 a, .int .i64 p, v]] W fun e w' => e = .returned (.tuple #[.pointer none, .int .i64 2]) ∧ KW W w') := by
  obtain ⟨A, c, rfl, hz, hr⟩ := hv
  by_cases hat : (0 ≤ k ∧ k < 65536) ∧ (0 ≤ a ∧ a ≤ k) ∧ (-1 ≤ p ∧ p ≤ k) ∧ tags.length ≤ 1048576 ∧ ∀ i, i < tags.length → -1 ≤ tags.getD i 0 ∧ tags.getD i 0 ≤ k
  · obtain ⟨hk, ha, hp, hn, ht⟩ := hat
    refine .inl ⟨hk, ha, hp, hn, ht, fun W h =>
      at_yes k a p tags _ W hk.1 hk.2 ha.1 ha.2 hp.1 hp.2 hn (fun x hx => by
        obtain ⟨i, hi, rfl⟩ := List.mem_iff_getElem.1 hx
        have := ht i hi
        simpa [hi] using this) ⟨A, c, rfl, hz, hr.k h⟩⟩
  · refine .inr ⟨?_, fun W h => at_no k a p tags.length c tags A W rfl (hr.k h) ?_⟩
    · rintro ⟨h1, h2, h3, h4, h5⟩
      exact hat ⟨h1, h2, h3, h4.2, h5⟩
    · apply Classical.byContradiction
      intro hno
      simp only [not_or, offB] at hno
      obtain ⟨q1, q2, q3, q4, q5, q6⟩ := hno
      simp only [decide_eq_true_eq] at q4 q5
      refine hat ⟨by omega, by omega, by omega, by omega, fun i hi => ?_⟩
      have : ¬ (tags.getD i 0 < -1 ∨ k < tags.getD i 0) := fun h => q6 ⟨i, hi, by simpa using h⟩
      omega
open Classical in
theorem may_any (l a p : Int) (tags : List Int) (v : Value) (w : World) (hv : RTz w v tags) :
    Calls Try.prog 16 #[.int .i64 l, .agg #[.int .i64 a, .int .i64 p, v]] w fun e w' => e = .returned (.bool (decide (Sd.okS l a p tags))) ∧ KW w w' := by
  have hsc := spot_cases l a p tags v w hv
  obtain ⟨A, c, rfl, hz, hr⟩ := hv
  rcases hsc with ⟨h1, h2, h3, h4, h5, h⟩ | ⟨hno, h⟩
  · have e : decide (Sd.okS l a p tags) = decide (0 < tags.length) := by
      rw [decide_eq_decide]
      exact ⟨fun h => h.2.2.2.1.1, fun h0 => ⟨h1, h2, h3, ⟨h0, h4⟩, h5⟩⟩
    rw [e]
    exact may_at l a p tags.length c A w _ h
  · rw [decide_eq_false hno]
    exact may_no1 l a p tags.length c A w h

/-- what the walk of the rules needs of them: the cells, and what each of them does -/
structure RuleAt (w : World) (rb k : Nat) (c : Bool) (r : Option Mc.Act) : Prop where
  ex : ∃ (G H : FuncId) (cs fs ds : Array Value), w.cell? ⟨rb, k * 2, none⟩ = some (.func (.func G) #[] cs) ∧ w.cell? ⟨rb, k * 2 + 1, none⟩ = some (.func (.func H) fs ds) ∧
    (∀ (args : Array Value) (W : World), (callFunc G args).run Try.prog W = .ok (.enter G args) W) ∧ (∀ (args : Array Value) (W : World), (callFunc H args).run Try.prog W = .ok (.enter H args) W) ∧
    (∀ W, KW w W → Calls Try.prog G cs W fun x w' => x = .returned (.bool c) ∧ KW W w') ∧ (c = true → ∀ W, KW w W → Calls Try.prog H (fs ++ ds) W (AnsP W r))
theorem nx1_row (w : World) (a p : Int) (v : Value) : (nx0 w a p v).rowIs (w.heap.size + 1) 27 2 (actF 0 0) := nx0_row w a p v
open Classical in
set_option maxRecDepth 100000 in
set_option maxHeartbeats 2000000 in
theorem rvnext_no (l a p : Int) (tags : List Int) (v : Value) (w : World) (hv : RTz w v tags) (hno : ¬ Sd.okS l a p tags) :
    Calls Try.prog 14 #[.int .i64 l, .agg #[.int .i64 a, .int .i64 p, v]] w (AnsP w none) := by
  have H := hid (fun W (h : KW w W) => may_any l a p tags v W (hv.kw h))
  rw [decide_eq_false hno] at H
  obtain ⟨A, c, rfl, hz, hr⟩ := hv
  clear hz hr hno
  have HF := hid (nx0_row w a p (.slice A tags.length c))
  have HK := hid (nx0_kw w a p (.slice A tags.length c))
  unfold nx0 at HF HK
  go_enter Try.func14, Try.ntmps14
  go_wp2_with fail
  refine (H.out _ HK.out).mono ?_
  rintro e w1 ⟨rfl, hk1⟩
  have HF1 := hid (KW.row hk1 HF.out.lt HF.out)
  have HK1 := hid (HK.out.t hk1)
  clear hk1
  go_wp2_with fail
  refine (rvnothing_any _).mono ?_
  rintro e w2 ⟨rfl, hk2⟩
  have HF2 := hid (KW.row hk2 HF1.out.lt HF1.out)
  have HK2 := hid (HK1.out.t hk2)
  clear hk2
  go_wp2_with (refine store_act rfl rfl rfl rfl HF2.out ?_; intro W2 hb2 hkeep)
  exact bodyPost_ret (results_cell_tmp rfl _ _ _ _ _ (0, 0) _ rfl hb2 Try.underlying27 rfl (by kernel_rfl)) rfl ⟨rfl, HK2.out.kept hkeep fun i hi => by omega⟩
set_option maxRecDepth 100000 in
set_option maxHeartbeats 4000000 in
theorem rvnext_core (l a p : Int) (N c : Nat) (A : Option Addr) (w : World) (cn : Nat → Bool) (rs : Nat → Option Mc.Act) (r : Option Mc.Act) (V : Array Value)
    (hmay : ∀ W, KW w W → Calls Try.prog 16 #[.int .i64 l, .agg #[.int .i64 a, .int .i64 p, .slice A N c]] W fun e w' => e = .returned (.bool true) ∧ KW W w')
    (hlook : ∀ W, KW w W → Calls Try.prog 39 #[.int .i64 l, .agg #[.int .i64 a, .int .i64 p, .slice A N c]] W fun e w' => e = .returned (.agg V) ∧ KW W w')
    (hrules : ∀ W, KW w W → Calls Try.prog 40 #[.agg V, .int .i64 l] W fun e w' => ∃ rb, e = .returned (.slice (some ⟨rb, 0, none⟩) 9 9) ∧ KW W w' ∧ ∀ k, k ≤ 8 → (∀ j, j < k → cn j = false) → RuleAt w' rb k (cn k) (rs k))
    (h8 : cn 8 = true) (hr : ∀ k, k ≤ 8 → (∀ j, j < k → cn j = false) → cn k = true → r = rs k) :
    Calls Try.prog 14 #[.int .i64 l, .agg #[.int .i64 a, .int .i64 p, .slice A N c]] w (AnsP w r) := by
  have HM := hid hmay
  have HLk := hid hlook
  have HRu := hid hrules
  have H8 := hid h8
  have HR := hid hr
  clear hmay hlook hrules h8 hr
  have HF := hid (nx0_row w a p (.slice A N c))
  have HB := hid (nx0_blk w a p (.slice A N c))
  have HK := hid (nx0_kw w a p (.slice A N c))
  unfold nx0 at HF HK HB
  go_enter Try.func14, Try.ntmps14
  go_wp2_with fail
  refine (HM.out _ HK.out).mono ?_
  rintro e w1 ⟨rfl, hk1⟩
  have HF1 := hid (KW.row hk1 HF.out.lt HF.out)
  have HB1 := hid (KW.blk hk1 (blk_lt HB.out) HB.out)
  have HK1 := hid (HK.out.t hk1)
  clear hk1
  go_wp2_with (refine wpList_load_row rfl 24 _ rfl w.heap.size rfl 24 _ (0, 0) _ HB1.out Try.underlying24 rfl (by kernel_rfl) ?_)
  refine (HLk.out _ HK1.out).mono ?_
  rintro e w2 ⟨rfl, hk2⟩
  have HF2 := hid (KW.row hk2 HF1.out.lt HF1.out)
  have HK2 := hid (HK1.out.t hk2)
  clear hk2
  go_wp2_with fail
  refine (HRu.out _ HK2.out).mono ?_
  rintro e w3 ⟨rb, rfl, hk3, hat⟩
  have HF3 := hid (KW.row hk3 HF2.out.lt HF2.out)
  have HK3 := hid (HK2.out.t hk3)
  have HAt := hid hat
  clear hk3 hat
  go_wp2_with fail
  go_loopw [21] (fun i wr => ∃ k : Nat, k ≤ 8 ∧ i = .int .i64 k ∧ Hid (∀ j, j < k → cn j = false) ∧ Hid (KW w3 wr)) (fun i _ => 9 - (intOf i).toNat)
  case atStart => exact ⟨0, by omega, rfl, fun j hj => absurd hj (by omega), KW.refl w3⟩
  case round =>
    obtain ⟨k, hk, rfl, HNo, HKr⟩ := hrel
    obtain ⟨G, H, cs, fs, ds, hc1, hc2, he1, he2, hG, hH⟩ := (HAt.out k hk HNo.out).ex
    have hlt := World.block_lt_of_cell? _ _ hc1
    have c1 := KW.cell HKr.out hlt hc1
    have c2 := KW.cell HKr.out hlt hc2
    have HRk := hid (HR.out k hk HNo.out)
    have hwz := HKr.out.size
    clear hc1 hc2
    have HG := hid hG
    have HH := hid hH
    have L5 : (k : Int) < 9 := by omega
    have HE1 := hid he1
    have HE2 := hid he2
    clear he1 he2 hG hH
    have e2 := HE1.out
    go_wp2_with fail
    clear e2
    have HKa : Hid (KW w3 (wr.alloc (.cells #[.func (.func G) #[] cs, .func (.func H) fs ds] 71))) := HKr.out.alloc _
    refine (HG.out _ HKa.out).mono ?_
    rintro x w4 ⟨rfl, hk4⟩
    have HK4 := hid (HKa.out.t hk4)
    have HB4 := hid (KW.blk hk4 (by simp) (heap_alloc_new wr (.cells #[.func (.func G) #[] cs, .func (.func H) fs ds] 71)))
    clear hk4
    cases hcn : cn k with
    | false =>
      have HNo2 : Hid (∀ j, j < k + 1 → cn j = false) := fun j hj => by
        rcases (show j < k ∨ j = k by omega) with h | rfl
        · exact HNo.out j h
        · exact hcn
      have hk8 : k < 8 := by
        rcases (show k < 8 ∨ k = 8 by omega) with h | h
        · exact h
        · subst h; rw [H8.out] at hcn; cases hcn
      clear hcn
      go_wp2_with fail
      go_roundw
      case rel => exact ⟨k + 1, by omega, by go_num, HNo2, HK4⟩
      case measure => simp [intOf]; omega
    | true =>
      have hrk := HRk.out hcn
      have HHk := hid (HH.out hcn)
      clear hcn
      have cH : w4.cell? ⟨wr.heap.size, 1, none⟩ = some (.func (.func H) fs ds) := by rw [cell_of_row _ _ _ _ _ _ HB4.out]; rfl
      have HF4 := hid (KW.row HK4.out HF3.out.lt HF3.out)
      have e3 := HE2.out
      unfold AnsP at HHk
      have HEq := hid hrk
      clear hrk
      generalize hX : ((rs k).getD (0, 0)).1 = x at *
      generalize hY : ((rs k).getD (0, 0)).2 = y at *
      generalize hBb : (rs k).isSome = bb at *
      have HXYB := hid (⟨hX, hY, hBb⟩ : _ ∧ _ ∧ _)
      clear hX hY hBb
      go_wp2_with fail
      clear e3
      refine (HHk.out _ HK4.out).mono ?_
      rintro e w5 ⟨rfl, hk5⟩
      have HF5 := hid (KW.row hk5 HF4.out.lt HF4.out)
      have HK5 := hid (HK3.out.t (HK4.out.t hk5))
      clear hk5
      go_wp2_with (refine store_act rfl rfl rfl rfl HF5.out ?_; intro W2 hb2 hkeep)
      exact bodyPost_ret (results_cell_tmp rfl _ _ _ _ _ (0, 0) _ rfl hb2 Try.underlying27 rfl (by kernel_rfl)) rfl (by
        unfold AnsP
        rw [HEq.out, HXYB.out.1, HXYB.out.2.1, HXYB.out.2.2]
        exact ⟨rfl, HK5.out.kept hkeep fun i hi => by omega⟩)
end Go.Proofs.Ytgadkelldbibgaa

/- The contract of revolve.Next, whole. -/
namespace Go.Proofs.Ytgadkelldbibgaa
open Go.ChangeShapes Go.WideShapes Go.ChangeAt Go.RowKit
set_option linter.unusedVariables false

theorem vac_full {tags : List Int} (h : Rv.vac tags = tags.length) : ∀ i, i < tags.length → tags.getD i 0 < 0 := by
  induction tags with
  | nil => intro i hi; simp at hi
  | cons x l ih =>
    have h1 := Rv.vac_le l
    simp only [Rv.vac, List.length_cons] at h
    intro i hi
    have hx : x < 0 := by
      apply Classical.byContradiction
      intro hx
      rw [if_neg hx] at h
      omega
    rw [if_pos hx] at h
    cases i with
    | zero => simpa using hx
    | succ i => simpa using ih (by omega) i (by simpa using hi)
theorem rule_at {w : World} {rb k : Nat} {c : Bool} {r : Option Mc.Act} {cells : Array Value} (hh : w.heap[rb]? = some (.cells cells 71 (0, 0))) (G H : FuncId) (cs fs ds : Array Value)
    (h1 : cells[k * 2]? = some (.func (.func G) #[] cs)) (h2 : cells[k * 2 + 1]? = some (.func (.func H) fs ds))
    (he1 : ∀ (args : Array Value) (W : World), (callFunc G args).run Try.prog W = .ok (.enter G args) W) (he2 : ∀ (args : Array Value) (W : World), (callFunc H args).run Try.prog W = .ok (.enter H args) W)
    (hG : ∀ W, KW w W → Calls Try.prog G cs W fun x w' => x = .returned (.bool c) ∧ KW W w') (hH : c = true → ∀ W, KW w W → Calls Try.prog H (fs ++ ds) W (AnsP W r)) : RuleAt w rb k c r :=
  ⟨G, H, cs, fs, ds, by rw [cell_of_row _ _ _ _ _ _ hh]; exact h1, by rw [cell_of_row _ _ _ _ _ _ hh]; exact h2, he1, he2, hG, hH⟩
theorem rules_at (l a p e B s c : Int) (f n k : Nat) (A : Option Addr) (w w' : World) (x : Ending) (he0 : 0 ≤ e) (he1 : e ≤ 65535) (hB : -1 ≤ B) (hf : 0 ≤ B → f < 1048576)
    (h : RulesP a p (.slice A n k) e B s f c l w x w') :
    ∃ rb, x = .returned (.slice (some ⟨rb, 0, none⟩) 9 9) ∧ KW w w' ∧ ∀ i, i ≤ 8 → (∀ j, j < i → Rv.cn l a p e B f j = false) → RuleAt w' rb i (Rv.cn l a p e B f i) (Rv.rs a p e B s c f i) := by
  obtain ⟨rb, vb, lb, x1, y1, x2, y2, x3, y3, x4, y4, x5, y5, rfl, hh, hv, hl, h1, h2, h3, h4, h5, hk⟩ := h
  refine ⟨rb, rfl, hk, fun i hi hno => ?_⟩
  have hvk : ∀ W, KW w' W → W.heap[vb]? = some (.cells (vw a p (.slice A n k) e B s f c) 67 (0, 0)) := fun W h => KW.blk h (blk_lt hv) hv
  have hact : ∀ {x y : Nat} {m n : Int}, RvA w' x y m n → ∀ W, KW w' W → Calls Try.prog 106 (#[] ++ #[rvp x, rvp y]) W (AnsP W (some (m, n))) := fun h W hW => by
    have h' := RvA.kw h hW
    exact rvact1_any _ _ _ _ W h'.1 h'.2
  rcases (show i = 0 ∨ i = 1 ∨ i = 2 ∨ i = 3 ∨ i = 4 ∨ i = 5 ∨ i = 6 ∨ i = 7 ∨ i = 8 by omega) with rfl | rfl | rfl | rfl | rfl | rfl | rfl | rfl | rfl
  · exact rule_at hh 70 106 #[rvp vb] #[] #[rvp x1, rvp y1] rfl rfl (fun args W => by kernel_rfl) (fun args W => by kernel_rfl) (fun W h => rule1_any _ _ _ _ _ _ _ _ _ _ _ W (hvk W h)) (fun _ => hact h1)
  · exact rule_at hh 73 38 #[rvp vb] #[] #[] rfl rfl (fun args W => by kernel_rfl) (fun args W => by kernel_rfl) (fun W h => rule2_any _ _ _ _ _ _ _ _ _ _ _ W (hvk W h)) (fun _ W _ => rvnothing_any W)
  · exact rule_at hh 74 106 #[rvp vb, rvp lb] #[] #[rvp x2, rvp y2] rfl rfl (fun args W => by kernel_rfl) (fun args W => by kernel_rfl) (fun W h => rule3_any _ _ _ _ _ _ _ _ _ _ _ _ W l (hvk W h) (KW.cell h (World.block_lt_of_cell? _ _ hl) hl)) (fun _ => hact h2)
  · exact rule_at hh 75 76 #[rvp vb] #[.agg (vw a p (.slice A n k) e B s f c)] #[] rfl rfl (fun args W => by kernel_rfl) (fun args W => by kernel_rfl) (fun W h => rule4_any _ _ _ _ _ _ _ _ _ _ _ W he0 he1 (hvk W h)) (fun _ W _ => turn_any _ _ _ _ _ _ _ _ _ _ W)
  · exact rule_at hh 77 78 #[rvp vb] #[.agg (vw a p (.slice A n k) e B s f c)] #[] rfl rfl (fun args W => by kernel_rfl) (fun args W => by kernel_rfl) (fun W h => rule5_any _ _ _ _ _ _ _ _ _ _ _ W (hvk W h)) (fun _ W _ => first_any _ _ _ _ _ _ _ _ _ _ W)
  · exact rule_at hh 79 106 #[rvp vb] #[] #[rvp x3, rvp y3] rfl rfl (fun args W => by kernel_rfl) (fun args W => by kernel_rfl) (fun W h => rule6_any _ _ _ _ _ _ _ _ _ _ _ W (hvk W h)) (fun _ => hact h3)
  · exact rule_at hh 80 106 #[rvp vb] #[] #[rvp x4, rvp y4] rfl rfl (fun args W => by kernel_rfl) (fun args W => by kernel_rfl) (fun W h => rule7_any _ _ _ _ _ _ _ _ _ _ _ W (hvk W h)) (fun _ => hact h4)
  · exact rule_at hh 81 106 #[rvp vb] #[] #[rvp x5, rvp y5] rfl rfl (fun args W => by kernel_rfl) (fun args W => by kernel_rfl) (fun W h => rule8_any _ _ _ _ _ _ _ _ _ _ _ W (hvk W h)) (fun _ => hact h5)
  · have q3 := hno 3 (by omega)
    have q4 := hno 4 (by omega)
    have q5 := hno 5 (by omega)
    have q7 := hno 7 (by omega)
    simp only [Rv.cn, Bool.or_eq_false_iff, decide_eq_false_iff_not] at q3 q4 q5 q7
    exact rule_at hh 82 83 #[] #[.agg (vw a p (.slice A n k) e B s f c)] #[] rfl rfl (fun args W => by kernel_rfl) (fun args W => by kernel_rfl) (fun W h => always_any W)
      (fun _ W _ => vsplit_any a p A n k e B s c (e - B).toNat f W (by omega) (by omega) (by omega) he0 he1 (hf (by omega)))
open Classical in
theorem rvnext_any (l a p : Int) (tags : List Int) (v : Value) (w : World) (hv : RTz w v tags) :
    Calls Try.prog 14 #[.int .i64 l, .agg #[.int .i64 a, .int .i64 p, v]] w (AnsP w (Rv.rv l a p tags)) := by
  by_cases hok : Sd.okS l a p tags
  · rw [Rv.rv_ok hok]
    have hmay := fun W (h : KW w W) => may_any l a p tags v W (hv.kw h)
    obtain ⟨A, c, rfl, hz, hr⟩ := hv
    obtain ⟨hl, ha, hp, hn, ht⟩ := hok
    have ht' : ∀ i, i < tags.length → -1 ≤ tags.getD i 0 := fun i hi => (ht i hi).1
    have hen : 0 ≤ Rv.en l p ∧ Rv.en l p ≤ 65535 := by unfold Rv.en; split <;> omega
    have hlook := fun W (h : KW w W) => look_any l a p tags A c W hn.2 ht' (hr.k h)
    have hpick := fun k hk h hc => Rv.rs_pick (l := l) (a := a) (p := p) ht' k hk h hc
    rw [Rv.lkN_all] at *
    have hB := (Sd.tmx_ge tags tags.length).1
    refine rvnext_core l a p tags.length c A w (Rv.cn l a p (Rv.en l p) (Sd.tmx tags tags.length) (Rv.vac tags)) (Rv.rs a p (Rv.en l p) (Sd.tmx tags tags.length) (Rv.lkS tags tags.length) (Rv.lkV tags tags.length) (Rv.vac tags)) _ _ (fun W h => ?_) hlook (fun W h => (rules_any a p A tags.length c _ _ _ _ _ l W hen.1 hen.2 ha.1 (by omega)).mono ?_) rfl hpick
    · have := hmay W h
      rwa [decide_eq_true (show Sd.okS l a p tags from ⟨hl, ha, hp, hn, ht⟩)] at this
    · intro x w' h'
      refine rules_at l a p _ _ _ _ (Rv.vac tags) tags.length c A W w' x hen.1 hen.2 hB (fun h0 => ?_) h'
      have h1 := Rv.vac_le tags
      rcases (show Rv.vac tags < 1048576 ∨ Rv.vac tags = tags.length by omega) with h2 | h2
      · exact h2
      · rcases Sd.tmx_base tags with ⟨_, h3⟩ | ⟨j, hj, _, h3, _⟩
        · omega
        · have := vac_full h2 j hj
          omega
  · rw [Rv.rv_no hok]
    exact rvnext_no l a p tags v w hv hok
end Go.Proofs.Ytgadkelldbibgaa

/- Contract of revolve.run: a run of actions, at most so many. -/
namespace Go.Proofs.Ytgadkelldbibgaa
open Go.ChangeShapes Go.WideShapes Go.ChangeAt Go.RowKit
set_option linter.unusedVariables false

set_option maxRecDepth 1000000 in
set_option maxHeartbeats 4000000 in
theorem rvrun_any (l most : Int) (b : Nat) (v : Value) (m m' : Mc.St) (acts : List Mc.Act) (w : World) (hM : Mach w b v m) (hR : Mc.RunsM (Rv.nm l) most 0 m acts m') (hI : Mc.Inv m) (hlen : acts.length ≤ 1099511627776) (hT : m.tot + 65535 * (acts.length : Int) ≤ 4611686018427387904) :
    Calls Try.prog 46 #[.int .i64 l, .pointer (some ⟨b, 0, none⟩), .int .i64 most] w (RunP b v m' acts w) := by
  have HM := hid hM
  have HR := hid hR
  have HI := hid hI
  have HT := hid hT
  have HMlt := hid (fun i => hM.lt (k := i))
  clear hM hR hI hT
  unfold RunP
  go_enter Try.func46, Try.ntmps46
  go_wp2_with fail
  refine wp_scope_jumps 0 (fun a' wr => ∃ (vo u6 u8 u9 u10 u11 u12 u13 u14 u15 u16 u17 u18 u19 u20 u21 u22 u23 u24 u25 u26 u27 u28 u29 u30 u31 u32 u33 u34 : Value) (pre rest : List Mc.Act) (mi : Mc.St), a' = { tmps := #[.int .i64 l, .pointer (some ⟨b, 0, none⟩), .int .i64 most, undef, undef, undef, u6, vo, u8, u9, u10, u11, u12, u13, u14, u15, u16, u17, u18, u19, u20, u21, u22, u23, u24, u25, u26, u27, u28, u29, u30, u31, u32, u33, u34], defers := [] } ∧ Hid (acts = pre ++ rest) ∧ Hid (OwnsA wr w.heap.size vo pre) ∧ Hid (Mach wr b v mi) ∧ Hid (Mc.RunsM (Rv.nm l) most pre.length mi rest m') ∧ Hid (Mc.Inv mi) ∧ Hid (mi.tot + 65535 * (rest.length : Int) ≤ 4611686018427387904) ∧ Hid (Keep (mo b v) w wr)) (fun a' _ => acts.length + 1 - vlen (a'.tmps.getD 7 undef)) rfl ?_ ?_
  · go_wp2_with fail
    go_step3
    obtain ⟨pre, rest, mi, hvo, HA, HO, HM1, HR1, HI1, HT1, HK1⟩ : ∃ (pre rest : List Mc.Act) (mi : Mc.St), pre = [] ∧ Hid (acts = pre ++ rest) ∧ Hid (OwnsA w w.heap.size (.slice none 0 0) pre) ∧ Hid (Mach w b v mi) ∧ Hid (Mc.RunsM (Rv.nm l) most pre.length mi rest m') ∧ Hid (Mc.Inv mi) ∧ Hid (mi.tot + 65535 * (rest.length : Int) ≤ 4611686018427387904) ∧ Hid (Keep (mo b v) w w) :=
      ⟨[], acts, m, rfl, rfl, OwnsA.nil _ _, HM, HR, HI, HT, Keep.refl _ _⟩
    clear HM HR HI HT
    clear hvo
    generalize hgv : Value.slice none 0 0 = vo at HO ⊢
    clear hgv
    have HSp := hid (spot_any mi b v w HM1.out HI1.out.ln)
    unfold SpotP at HSp
    have HNx := hid (fun W v2 (h : RTz W v2 mi.tags) => rvnext_any l mi.at_ mi.pend mi.tags v2 W h)
    have hnm : Rv.rv l mi.at_ mi.pend mi.tags = Rv.nm l mi := rfl
    rw [hnm] at HNx
    unfold AnsP at HNx
    obtain ⟨Ao, co, hvo, _, _⟩ := HO.out.slice
    subst hvo
    have HD := hid (fun x y W (h : Mach W b v mi) => do_any mi x y b v W h HI1.out (by have := HT1.out; omega))
    unfold Did at HD
    have HKN : Hid (∀ W W' (h : Keep (mo b v) w W) (h2 : KW W W'), Keep (mo b v) w W') := fun W W' h h2 => h.kwt h2
    have HOn : Hid (∀ i, (Value.slice Ao pre.length co).ownBlock = some i → ¬ mo b v i) := fun i hi hm => by
      have h1 := (HO.out.lt hi).1
      have h2 := HMlt.out i hm
      omega
    have HPl : Hid (pre.length ≤ acts.length) := by rw [HA.out]; exact hid (by simp)
    have hpl := HPl.out
    cases rest with
    | nil =>
      obtain ⟨hm', hx⟩ := HR1.out
      subst hm'
      have HAe : Hid (acts = pre) := by rw [HA.out, List.append_nil]; exact hid rfl
      rcases hx with hx | ⟨hne, hx⟩
      · have d0 : ((pre.length : Int) == most) = true := by simpa using hx
        clear hx
        go_wp2_with fail
        simp only [Exit.jump]
        go_ret
        exact ⟨_, rfl, by rw [HAe.out]; exact HO.out, HM1.out, HK1.out⟩
      · have d0 : ((pre.length : Int) == most) = false := by simpa using hne
        clear hne
        go_wp2_with fail
        refine HSp.out.mono ?_
        rintro e w2 ⟨v2, rfl, ho2, hk2⟩
        have HZ := hid ho2.rtz
        have HM2 := hid (HM1.out.kw hk2)
        have HO2 := hid (HO.out.kw hk2)
        have HK2 := hid (HK1.out.kwt hk2)
        obtain ⟨A2, c2, hv2, _⟩ := ho2.row
        rw [ints_len] at hv2
        subst hv2
        clear ho2 hk2
        go_wp2_with fail
        refine (HNx.out _ _ HZ.out).mono ?_
        rintro e w3 ⟨rfl, hk3⟩
        have HM3 := hid (HM2.out.kw hk3)
        have HO3 := hid (HO2.out.kw hk3)
        have HK3 := hid (HK2.out.kwt hk3)
        clear hk3
        rcases hx with hx | ⟨a, hx, her⟩
        · rw [hx]
          simp only [Option.getD_none, Option.isSome_none]
          go_wp2_with fail
          simp only [Exit.jump]
          go_ret
          exact ⟨_, rfl, by rw [HAe.out]; exact HO3.out.kw ((KW.refl w3).alloc _), HM3.out.kw ((KW.refl w3).alloc _), HK3.out.alloc _⟩
        · rw [hx]
          simp only [Option.getD_some, Option.isSome_some]
          obtain ⟨x, y⟩ := a
          have HEs := hid (Mc.step_err m' x y her)
          have HD1 := hid (HD.out x y)
          clear HD
          generalize (Mc.step m' x y).2 = er at *
          have d1 : (er != 0) = true := by simpa using her
          clear her hx
          go_wp2_with fail
          refine (HD1.out _ (HM3.out.kw ((KW.refl w3).alloc _))).mono ?_
          rintro e w4 ⟨rfl, hm4, hk4⟩
          rw [HEs.out] at hm4
          have HM4 := hid hm4
          have HO4 := hid ((HO3.out.kw ((KW.refl w3).alloc (.cells #[.int .i64 x, .int .i64 y] 27))).keep hk4 HOn.out)
          have HK4 := hid ((HK3.out.alloc (.cells #[.int .i64 x, .int .i64 y] 27)).t hk4)
          clear hm4 hk4
          go_wp2_with fail
          simp only [Exit.jump]
          go_ret
          exact ⟨_, rfl, by rw [HAe.out]; exact HO4.out, HM4.out, HK4.out⟩
    | cons a rest =>
      obtain ⟨hne, hx, her, hr⟩ := HR1.out
      have d0 : ((pre.length : Int) == most) = false := by simpa using hne
      clear hne
      obtain ⟨x, y⟩ := a
      have HR2 := hid hr
      have HI2 := hid (HI1.out.step x y)
      have HS := hid (Mc.step_tot mi x y)
      have HD1 := hid (HD.out x y)
      have HT2 : Hid ((Mc.step mi x y).1.tot + 65535 * (rest.length : Int) ≤ 4611686018427387904) := by
        have h1 := HT1.out
        have h2 := HS.out
        simp only [List.length_cons] at h1
        exact hid (by omega)
      have HA2 : Hid (acts = (pre ++ [(x, y)]) ++ rest) := by rw [HA.out]; exact hid (by simp)
      have HL : Hid (pre.length + 1 ≤ acts.length) := by rw [HA.out]; exact hid (by simp)
      clear HD hr HR1 HS
      have her' : (Mc.step mi x y).2 = 0 := her
      rw [her'] at HD1
      clear her her'
      dsimp only at HR2
      generalize (Mc.step mi x y).1 = mj at *
      have HX2 := hid hx
      clear hx
      go_wp2_with fail
      refine HSp.out.mono ?_
      rintro e w2 ⟨v2, rfl, ho2, hk2⟩
      have HZ := hid ho2.rtz
      have HM2 := hid (HM1.out.kw hk2)
      have HO2 := hid (HO.out.kw hk2)
      have HK2 := hid (HK1.out.kwt hk2)
      obtain ⟨A2, c2, hv2, _⟩ := ho2.row
      rw [ints_len] at hv2
      subst hv2
      clear ho2 hk2
      go_wp2_with fail
      refine (HNx.out _ _ HZ.out).mono ?_
      rintro e w3 ⟨rfl, hk3⟩
      have HM3 := hid (HM2.out.kw hk3)
      have HO3 := hid (HO2.out.kw hk3)
      have HK3 := hid (HK2.out.kwt hk3)
      clear hk3
      rw [HX2.out]
      simp only [Option.getD_some, Option.isSome_some]
      go_wp2_with fail
      refine (HD1.out _ (HM3.out.kw ((KW.refl w3).alloc _))).mono ?_
      rintro e w4 ⟨rfl, hm4, hk4⟩
      have HM4 := hid hm4
      have HO4 := hid ((HO3.out.kw ((KW.refl w3).alloc (.cells #[.int .i64 x, .int .i64 y] 27))).keep hk4 HOn.out)
      have HK4 := hid ((HK3.out.alloc (.cells #[.int .i64 x, .int .i64 y] 27)).t hk4)
      have hnb : ¬ mo b v w3.heap.size := fun h => by
        have := HM3.out.lt h; omega
      have hb4 := (hk4.block w3.heap.size (by simp) hnb).trans (heap_alloc_new w3 _)
      have HB4 := hid hb4
      clear hm4 hk4 hnb hb4
      have HQ1 : Hid ((pre.length + 1) * 16 ≤ 140737488355328) := by have := HL.out; exact hid (by omega)
      have HQ2 : Hid (pre.length + 1 ≤ 9223372036854775807) := by have := HL.out; exact hid (by omega)
      have HQ3 : Hid (w.heap.size ≤ (w4.alloc (.cells #[.int .i64 x, .int .i64 y] 27)).heap.size) := by have := HK4.out.size; exact hid (by simp; omega)
      have HO5 := hid (HO4.out.kw ((KW.refl w4).alloc (.cells #[.int .i64 x, .int .i64 y] 27)))
      have HX : Hid (Holds (w4.alloc (.cells #[.int .i64 x, .int .i64 y] 27)) (.slice (some ⟨w4.heap.size, 0, none⟩) 1 1) 1 2 [.int .i64 x, .int .i64 y]) := Holds.new (w := w4) (t := 27) (k := 1) (size := 2) (c := 1) (ys := [.int .i64 x, .int .i64 y]) rfl rfl
      go_wp2_with (first
        | (at_builtin; refine wpList_appA rfl sliceAct rfl (W := w4.alloc (.cells #[.int .i64 x, .int .i64 y] 27)) (base := w.heap.size) (k := 1) (n := pre.length) (v := .slice Ao pre.length co) (u := .slice (some ⟨w4.heap.size, 0, none⟩) 1 1) (xs := acl pre) (ys := [.int .i64 x, .int .i64 y]) rfl rfl HX.out HO5.out HQ3.out HQ1.out HQ2.out ?_; intro v5 w5 hown5 hkeep5 hv5)
        | (refine wpList_load_row rfl 27 _ rfl w3.heap.size rfl 27 _ (0, 0) _ HB4.out Try.underlying27 rfl (by kernel_rfl) ?_))
      have hno : ∀ i, mo b v i → ¬ (Value.slice Ao pre.length co).ownBlock = some i := fun i hi h => HOn.out i h hi
      have HM5 := hid ((HM4.out.kw ((KW.refl w4).alloc _)).keep hkeep5 hno)
      have HK5 : Hid (Keep (mo b v) w w5) := (HK4.out.alloc _).trans (hkeep5.mono (own' := fun i => w.heap.size ≤ i) fun i _ hi => (HO5.out.lt hi).1) fun i hi h => by omega
      have HO6 : Hid (OwnsA w5 w.heap.size v5 (pre ++ [(x, y)])) := OwnsA.app (l' := [(x, y)]) hown5
      clear hown5 hkeep5 hv5 hno
      have hvl := HO6.out.vlen
      have HVL := hid hvl
      have HPL : Hid ((pre ++ [(x, y)]).length = pre.length + 1) := by exact hid (by simp)
      have HR3 : Hid (Mc.RunsM (Rv.nm l) most (pre ++ [(x, y)]).length mj rest m') := by rw [HPL.out]; exact HR2
      clear hvl
      go_step3
      exact ⟨rfl, _, _, _, _, _, _, _, _, _, _, _, _, _, _, _, _, _, _, _, _, _, _, _, _, _, _, _, _, _, pre ++ [(x, y)], rest, mj, rfl, HA2, HO6, HM5, HR3, HI2, HT2, HK5⟩
  · rintro a' wr ⟨vo, u6, u8, u9, u10, u11, u12, u13, u14, u15, u16, u17, u18, u19, u20, u21, u22, u23, u24, u25, u26, u27, u28, u29, u30, u31, u32, u33, u34, pre, rest, mi, rfl, HA, HO, HM1, HR1, HI1, HT1, HK1⟩
    clear HM HR HI HT
    have HSp := hid (spot_any mi b v wr HM1.out HI1.out.ln)
    unfold SpotP at HSp
    have HNx := hid (fun W v2 (h : RTz W v2 mi.tags) => rvnext_any l mi.at_ mi.pend mi.tags v2 W h)
    have hnm : Rv.rv l mi.at_ mi.pend mi.tags = Rv.nm l mi := rfl
    rw [hnm] at HNx
    unfold AnsP at HNx
    obtain ⟨Ao, co, hvo, _, _⟩ := HO.out.slice
    subst hvo
    have HD := hid (fun x y W (h : Mach W b v mi) => do_any mi x y b v W h HI1.out (by have := HT1.out; omega))
    unfold Did at HD
    have HKN : Hid (∀ W W' (h : Keep (mo b v) w W) (h2 : KW W W'), Keep (mo b v) w W') := fun W W' h h2 => h.kwt h2
    have HOn : Hid (∀ i, (Value.slice Ao pre.length co).ownBlock = some i → ¬ mo b v i) := fun i hi hm => by
      have h1 := (HO.out.lt hi).1
      have h2 := HMlt.out i hm
      omega
    have HPl : Hid (pre.length ≤ acts.length) := by rw [HA.out]; exact hid (by simp)
    have hpl := HPl.out
    cases rest with
    | nil =>
      obtain ⟨hm', hx⟩ := HR1.out
      subst hm'
      have HAe : Hid (acts = pre) := by rw [HA.out, List.append_nil]; exact hid rfl
      rcases hx with hx | ⟨hne, hx⟩
      · have d0 : ((pre.length : Int) == most) = true := by simpa using hx
        clear hx
        go_wp2_with fail
        simp only [Exit.jump]
        go_ret
        exact ⟨_, rfl, by rw [HAe.out]; exact HO.out, HM1.out, HK1.out⟩
      · have d0 : ((pre.length : Int) == most) = false := by simpa using hne
        clear hne
        go_wp2_with fail
        refine HSp.out.mono ?_
        rintro e w2 ⟨v2, rfl, ho2, hk2⟩
        have HZ := hid ho2.rtz
        have HM2 := hid (HM1.out.kw hk2)
        have HO2 := hid (HO.out.kw hk2)
        have HK2 := hid (HK1.out.kwt hk2)
        obtain ⟨A2, c2, hv2, _⟩ := ho2.row
        rw [ints_len] at hv2
        subst hv2
        clear ho2 hk2
        go_wp2_with fail
        refine (HNx.out _ _ HZ.out).mono ?_
        rintro e w3 ⟨rfl, hk3⟩
        have HM3 := hid (HM2.out.kw hk3)
        have HO3 := hid (HO2.out.kw hk3)
        have HK3 := hid (HK2.out.kwt hk3)
        clear hk3
        rcases hx with hx | ⟨a, hx, her⟩
        · rw [hx]
          simp only [Option.getD_none, Option.isSome_none]
          go_wp2_with fail
          simp only [Exit.jump]
          go_ret
          exact ⟨_, rfl, by rw [HAe.out]; exact HO3.out.kw ((KW.refl w3).alloc _), HM3.out.kw ((KW.refl w3).alloc _), HK3.out.alloc _⟩
        · rw [hx]
          simp only [Option.getD_some, Option.isSome_some]
          obtain ⟨x, y⟩ := a
          have HEs := hid (Mc.step_err m' x y her)
          have HD1 := hid (HD.out x y)
          clear HD
          generalize (Mc.step m' x y).2 = er at *
          have d1 : (er != 0) = true := by simpa using her
          clear her hx
          go_wp2_with fail
          refine (HD1.out _ (HM3.out.kw ((KW.refl w3).alloc _))).mono ?_
          rintro e w4 ⟨rfl, hm4, hk4⟩
          rw [HEs.out] at hm4
          have HM4 := hid hm4
          have HO4 := hid ((HO3.out.kw ((KW.refl w3).alloc (.cells #[.int .i64 x, .int .i64 y] 27))).keep hk4 HOn.out)
          have HK4 := hid ((HK3.out.alloc (.cells #[.int .i64 x, .int .i64 y] 27)).t hk4)
          clear hm4 hk4
          go_wp2_with fail
          simp only [Exit.jump]
          go_ret
          exact ⟨_, rfl, by rw [HAe.out]; exact HO4.out, HM4.out, HK4.out⟩
    | cons a rest =>
      obtain ⟨hne, hx, her, hr⟩ := HR1.out
      have d0 : ((pre.length : Int) == most) = false := by simpa using hne
      clear hne
      obtain ⟨x, y⟩ := a
      have HR2 := hid hr
      have HI2 := hid (HI1.out.step x y)
      have HS := hid (Mc.step_tot mi x y)
      have HD1 := hid (HD.out x y)
      have HT2 : Hid ((Mc.step mi x y).1.tot + 65535 * (rest.length : Int) ≤ 4611686018427387904) := by
        have h1 := HT1.out
        have h2 := HS.out
        simp only [List.length_cons] at h1
        exact hid (by omega)
      have HA2 : Hid (acts = (pre ++ [(x, y)]) ++ rest) := by rw [HA.out]; exact hid (by simp)
      have HL : Hid (pre.length + 1 ≤ acts.length) := by rw [HA.out]; exact hid (by simp)
      clear HD hr HR1 HS
      have her' : (Mc.step mi x y).2 = 0 := her
      rw [her'] at HD1
      clear her her'
      dsimp only at HR2
      generalize (Mc.step mi x y).1 = mj at *
      have HX2 := hid hx
      clear hx
      go_wp2_with fail
      refine HSp.out.mono ?_
      rintro e w2 ⟨v2, rfl, ho2, hk2⟩
      have HZ := hid ho2.rtz
      have HM2 := hid (HM1.out.kw hk2)
      have HO2 := hid (HO.out.kw hk2)
      have HK2 := hid (HK1.out.kwt hk2)
      obtain ⟨A2, c2, hv2, _⟩ := ho2.row
      rw [ints_len] at hv2
      subst hv2
      clear ho2 hk2
      go_wp2_with fail
      refine (HNx.out _ _ HZ.out).mono ?_
      rintro e w3 ⟨rfl, hk3⟩
      have HM3 := hid (HM2.out.kw hk3)
      have HO3 := hid (HO2.out.kw hk3)
      have HK3 := hid (HK2.out.kwt hk3)
      clear hk3
      rw [HX2.out]
      simp only [Option.getD_some, Option.isSome_some]
      go_wp2_with fail
      refine (HD1.out _ (HM3.out.kw ((KW.refl w3).alloc _))).mono ?_
      rintro e w4 ⟨rfl, hm4, hk4⟩
      have HM4 := hid hm4
      have HO4 := hid ((HO3.out.kw ((KW.refl w3).alloc (.cells #[.int .i64 x, .int .i64 y] 27))).keep hk4 HOn.out)
      have HK4 := hid ((HK3.out.alloc (.cells #[.int .i64 x, .int .i64 y] 27)).t hk4)
      have hnb : ¬ mo b v w3.heap.size := fun h => by
        have := HM3.out.lt h; omega
      have hb4 := (hk4.block w3.heap.size (by simp) hnb).trans (heap_alloc_new w3 _)
      have HB4 := hid hb4
      clear hm4 hk4 hnb hb4
      have HQ1 : Hid ((pre.length + 1) * 16 ≤ 140737488355328) := by have := HL.out; exact hid (by omega)
      have HQ2 : Hid (pre.length + 1 ≤ 9223372036854775807) := by have := HL.out; exact hid (by omega)
      have HQ3 : Hid (w.heap.size ≤ (w4.alloc (.cells #[.int .i64 x, .int .i64 y] 27)).heap.size) := by have := HK4.out.size; exact hid (by simp; omega)
      have HO5 := hid (HO4.out.kw ((KW.refl w4).alloc (.cells #[.int .i64 x, .int .i64 y] 27)))
      have HX : Hid (Holds (w4.alloc (.cells #[.int .i64 x, .int .i64 y] 27)) (.slice (some ⟨w4.heap.size, 0, none⟩) 1 1) 1 2 [.int .i64 x, .int .i64 y]) := Holds.new (w := w4) (t := 27) (k := 1) (size := 2) (c := 1) (ys := [.int .i64 x, .int .i64 y]) rfl rfl
      go_wp2_with (first
        | (at_builtin; refine wpList_appA rfl sliceAct rfl (W := w4.alloc (.cells #[.int .i64 x, .int .i64 y] 27)) (base := w.heap.size) (k := 1) (n := pre.length) (v := .slice Ao pre.length co) (u := .slice (some ⟨w4.heap.size, 0, none⟩) 1 1) (xs := acl pre) (ys := [.int .i64 x, .int .i64 y]) rfl rfl HX.out HO5.out HQ3.out HQ1.out HQ2.out ?_; intro v5 w5 hown5 hkeep5 hv5)
        | (refine wpList_load_row rfl 27 _ rfl w3.heap.size rfl 27 _ (0, 0) _ HB4.out Try.underlying27 rfl (by kernel_rfl) ?_))
      have hno : ∀ i, mo b v i → ¬ (Value.slice Ao pre.length co).ownBlock = some i := fun i hi h => HOn.out i h hi
      have HM5 := hid ((HM4.out.kw ((KW.refl w4).alloc _)).keep hkeep5 hno)
      have HK5 : Hid (Keep (mo b v) w w5) := (HK4.out.alloc _).trans (hkeep5.mono (own' := fun i => w.heap.size ≤ i) fun i _ hi => (HO5.out.lt hi).1) fun i hi h => by omega
      have HO6 : Hid (OwnsA w5 w.heap.size v5 (pre ++ [(x, y)])) := OwnsA.app (l' := [(x, y)]) hown5
      clear hown5 hkeep5 hv5 hno
      have hvl := HO6.out.vlen
      have HVL := hid hvl
      have HPL : Hid ((pre ++ [(x, y)]).length = pre.length + 1) := by exact hid (by simp)
      have HR3 : Hid (Mc.RunsM (Rv.nm l) most (pre ++ [(x, y)]).length mj rest m') := by rw [HPL.out]; exact HR2
      clear hvl
      go_step3
      refine ⟨rfl, ⟨_, _, _, _, _, _, _, _, _, _, _, _, _, _, _, _, _, _, _, _, _, _, _, _, _, _, _, _, _, pre ++ [(x, y)], rest, mj, rfl, HA2, HO6, HM5, HR3, HI2, HT2, HK5⟩, ?_⟩
      show acts.length + 1 - vlen v5 < acts.length + 1 - pre.length
      rw [HVL.out, HPL.out]
      have := HL.out
      omega
end Go.Proofs.Ytgadkelldbibgaa

/- Contracts of revolve.List and revolve.From; the page's example of layer 30. -/
namespace Go.Proofs.Ytgadkelldbibgaa
open Go.ChangeShapes Go.WideShapes Go.ChangeAt Go.RowKit
set_option linter.unusedVariables false

theorem rvlist_no (l s : Int) (w : World) (h : l < 0 ∨ 65536 ≤ l ∨ s < 1 ∨ 1048576 < s) :
    Calls Try.prog 18 #[.int .i64 l, .int .i64 s] w (ActsP w [] 2) := by
  unfold ActsP
  by_cases h0 : s = 0 ∧ 0 ≤ l ∧ l < 65536
  · obtain ⟨rfl, l0, l1⟩ := h0
    have HN := hid (fun W => new_yes l 0 W l0 l1 (by omega))
    unfold NewP at HN
    clear h
    go_enter Try.func18, Try.ntmps18
    go_wp2_with fail
    refine (HN.out _).mono ?_
    rintro e w1 ⟨b, v, rfl, hm, hb, hk⟩
    have HK := hid hk
    clear hm hb hk
    go_wp2_with fail
    go_ret2
    exact ⟨none, 0, rfl, OwnsA.nil _ _, HK.out⟩
  · have HN := hid (fun W => new_no l s W (by omega))
    clear h h0
    go_enter Try.func18, Try.ntmps18
    go_wp2_with fail
    refine (HN.out _).mono ?_
    rintro e w1 ⟨rfl, rfl⟩
    go_wp2_with fail
    go_ret2
    exact ⟨none, 0, rfl, OwnsA.nil _ _, KW.refl _⟩
set_option maxHeartbeats 1000000 in
theorem rvlist_yes (L n : Nat) (w : World) (hL : L < 65536) (hn : 1 ≤ n ∧ n ≤ 1048576) :
    Calls Try.prog 18 #[.int .i64 L, .int .i64 n] w (ActsP w (Rv.rl L n) 0) := by
  have hlen := Rv.rl_len (l := L) (n := n) hL hn.1
  have HN := hid (fun W => new_yes L n W (by omega) (by omega) hn.2)
  have HRun := hid (fun b v W (h : Mach W b v (Mc.new L n)) => rvrun_any L (-1) b v _ _ _ W h (Mc.Runs.all 0 (Rv.rl_runs hL hn)) (Mc.new_inv L n (by omega) (by omega) hn.2) (by omega) (by show (0 : Int) + _ ≤ _; omega))
  unfold ActsP
  unfold NewP at HN
  unfold RunP at HRun
  have d0 : decide ((n : Int) < 1) = false := decide_eq_false (by omega)
  generalize Rv.rl L n = acts at *
  clear hlen
  go_enter Try.func18, Try.ntmps18
  go_wp2_with fail
  refine (HN.out _).mono ?_
  rintro e w1 ⟨b, v, rfl, hm, hb, hk⟩
  have HM := hid hm
  have HB := hid hb
  have HK := hid hk
  clear hm hb hk
  go_wp2_with fail
  refine (HRun.out _ _ _ HM.out).mono ?_
  rintro e w2 ⟨v2, rfl, ho2, hm2, hk2⟩
  obtain ⟨A2, c2, hv2, _, _⟩ := ho2.slice
  subst hv2
  have HO2 := hid (ho2.base (HK.out.size))
  have HK2 : Hid (KW w w2) := HK.out.kept hk2 fun i hi => HB.out i hi
  clear ho2 hm2 hk2
  go_wp2_with fail
  go_ret2
  exact ⟨A2, c2, rfl, HO2.out, HK2.out⟩
open Classical in
theorem rvfrom_no (l a p most : Int) (tags : List Int) (v : Value) (w : World) (hv : RTz w v tags) (h : ¬ Sd.okS l a p tags ∨ most < 0) :
    Calls Try.prog 26 #[.int .i64 l, .agg #[.int .i64 a, .int .i64 p, v], .int .i64 most] w (ActsP w [] 2) := by
  have H := hid (fun W (h : KW w W) => may_any l a p tags v W (hv.kw h))
  obtain ⟨A, c, rfl, hz, hr⟩ := hv
  clear hz hr
  have HK := hid ((KW.refl w).alloc (.cells #[.int .i64 a, .int .i64 p, .slice A tags.length c] 24))
  unfold ActsP
  by_cases hok : Sd.okS l a p tags
  · have hm : most < 0 := h.resolve_left fun g => g hok
    rw [decide_eq_true hok] at H
    clear h hok
    go_enter Try.func26, Try.ntmps26
    go_wp2_with fail
    refine (H.out _ HK.out).mono ?_
    rintro e w1 ⟨rfl, hk1⟩
    have HK1 := hid (HK.out.t hk1)
    clear hk1
    go_wp2_with fail
    go_ret2
    exact ⟨none, 0, rfl, OwnsA.nil _ _, HK1.out⟩
  · rw [decide_eq_false hok] at H
    clear h hok
    go_enter Try.func26, Try.ntmps26
    go_wp2_with fail
    refine (H.out _ HK.out).mono ?_
    rintro e w1 ⟨rfl, hk1⟩
    have HK1 := hid (HK.out.t hk1)
    clear hk1
    go_wp2_with fail
    go_ret2
    exact ⟨none, 0, rfl, OwnsA.nil _ _, HK1.out⟩
open Classical in
set_option maxHeartbeats 1000000 in
theorem rvfrom_yes (l a p : Int) (most : Nat) (tags : List Int) (v : Value) (w : World) (acts : List Mc.Act) (m' : Mc.St) (hv : RTz w v tags) (hok : Sd.okS l a p tags) (hR : Mc.RunsM (Rv.nm l) most 0 ⟨l, a, p, 0, tags⟩ acts m') (hlen : acts.length ≤ 1000000000) :
    Calls Try.prog 26 #[.int .i64 l, .agg #[.int .i64 a, .int .i64 p, v], .int .i64 most] w (ActsP w acts 0) := by
  have H := hid (fun W (h : KW w W) => may_any l a p tags v W (hv.kw h))
  rw [decide_eq_true hok] at H
  have hsc := spot_cases l a p tags v w hv
  obtain ⟨hl, ha, hp, hn, ht, hat⟩ := hsc.resolve_right fun g => g.1 hok
  have HAt := hid hat
  have hI : Mc.Inv ⟨l, a, p, 0, tags⟩ := ⟨hl.1, by show l ≤ 65535; omega, ha.1, ha.2, hp.1, hp.2, fun x hx => by
    obtain ⟨i, hi, rfl⟩ := List.mem_iff_getElem.1 hx
    have := ht i hi
    simpa [hi] using this, hn, by show (0 : Int) ≤ 0; omega⟩
  have HRun := hid (fun b v W (h : Mach W b v ⟨l, a, p, 0, tags⟩) => rvrun_any l most b v _ _ _ W h hR hI (by omega) (by show (0 : Int) + _ ≤ _; omega))
  obtain ⟨A, c, rfl, hz, hr⟩ := hv
  clear hz hr hsc hl ha hp hn ht hI hR hok hlen hat
  have HK := hid ((KW.refl w).alloc (.cells #[.int .i64 a, .int .i64 p, .slice A tags.length c] 24))
  have HB := hid (heap_alloc_new w (.cells #[.int .i64 a, .int .i64 p, .slice A tags.length c] 24))
  unfold NewP at HAt
  unfold RunP at HRun
  unfold ActsP
  generalize (⟨l, a, p, 0, tags⟩ : Mc.St) = mm at *
  generalize tags.length = N at *
  have d0 : decide ((most : Int) < 0) = false := decide_eq_false (by omega)
  go_enter Try.func26, Try.ntmps26
  go_wp2_with fail
  refine (H.out _ HK.out).mono ?_
  rintro e w1 ⟨rfl, hk1⟩
  have HB1 := hid (KW.blk hk1 (blk_lt HB.out) HB.out)
  have HK1 := hid (HK.out.t hk1)
  clear hk1
  go_wp2_with (refine wpList_load_row rfl 24 _ rfl w.heap.size rfl 24 _ (0, 0) _ HB1.out Try.underlying24 rfl (by kernel_rfl) ?_)
  refine (HAt.out _ HK1.out).mono ?_
  rintro e w2 ⟨b, v, rfl, hm, hb, hk⟩
  have HM := hid hm
  have HBb := hid hb
  have HK2 := hid (HK1.out.t hk)
  have HZ := hid HK1.out.size
  clear hm hb hk
  go_wp2_with fail
  refine (HRun.out _ _ _ HM.out).mono ?_
  rintro e w3 ⟨v2, rfl, ho2, hm2, hk2⟩
  obtain ⟨A2, c2, hv2, _, _⟩ := ho2.slice
  subst hv2
  have HO2 := hid (ho2.base (HK2.out.size))
  have HK3 : Hid (KW w w3) := HK2.out.kept hk2 fun i hi => by have := HBb.out i hi; have := HZ.out; omega
  clear ho2 hm2 hk2
  go_wp2_with fail
  go_ret2
  exact ⟨A2, c2, rfl, HO2.out, HK3.out⟩

def want30 : List Mc.Act := [(2, 0), (1, 2), (6, 0), (3, 0), (1, 1), (7, 0), (3, 0), (7, 0), (4, 0)]
theorem rl31 : Rv.rl 3 1 = want30 := by decide +kernel
theorem rl15 : Rv.rl 1 5 = [(6, 0)] := by decide +kernel
set_option maxRecDepth 100000 in
theorem goes30_any (w : World) : Calls Try.prog 13 #[] w fun e w' => e = .returned (.bool true) ∧ KW w w' := by
  have H1 := hid (rvlist_yes 3 1 w (by omega) (by omega))
  have H2 := hid (fun W => rvlist_yes 1 5 W (by omega) (by omega))
  unfold ActsP at H1 H2
  rw [rl31] at H1
  rw [rl15] at H2
  go_enter Try.func13, Try.ntmps13
  go_wp2_with fail
  refine H1.out.mono ?_
  rintro e w1 ⟨A, c, rfl, ho, hk⟩
  obtain ⟨_, _, hv, _, ha⟩ := ho.slice
  cases hv
  have HA := hid ha
  have HK := hid hk
  clear ho hk ha
  go_wp2_with fail
  refine (H2.out _).mono ?_
  rintro e w2 ⟨A2, c2, rfl, ho, hk⟩
  obtain ⟨_, _, hv, _, ha⟩ := ho.slice
  cases hv
  have hc2 := ha.at_ (k := 0) (by decide)
  obtain ⟨b2, o2, rfl, hb2, z1, z2⟩ := hc2
  have HA2 := hid (HA.out.kw hk)
  have HK2 := hid (HK.out.t hk)
  clear ho hk ha
  have hA3 := acts_new w2 27 want30
  have HA3 := hid hA3
  have HA1 := hid (HA2.out.kw ((KW.refl w2).alloc (.cells (acells want30).toArray 27)))
  have HS := hid (rsame26_any want30 want30 A (some ⟨w2.heap.size, 0, none⟩) c 9 _ (by decide) (by decide) HA1.out HA3.out)
  rw [show decide (want30 = want30) = true from by decide] at HS
  have hl : want30.length = 9 := rfl
  rw [hl] at HS ⊢
  have hl2 : ([(6, 0)] : List Mc.Act).length = 1 := rfl
  rw [hl2]
  clear hl hA3
  have HZ1 := hid z1
  have HK3 := hid ((KW.refl w2).alloc (.cells (acells want30).toArray 27))
  clear z1 z2
  go_wp2_with fail
  refine HS.out.mono ?_
  rintro e w3 ⟨rfl, hk3⟩
  have HK4 := hid (HK3.out.t hk3)
  have z1 := KW.cell HK4.out (World.block_lt_of_cell? _ _ HZ1.out) HZ1.out
  have HK5 := hid (HK2.out.t HK4.out)
  have z2 : w3.cell? ⟨b2, o2, none⟩ = some (.int .i64 6) := by simpa using z1
  clear z1
  clear hk3
  go_wp2_with fail
  go_ret
  exact ⟨rfl, HK5.out⟩
end Go.Proofs.Ytgadkelldbibgaa
