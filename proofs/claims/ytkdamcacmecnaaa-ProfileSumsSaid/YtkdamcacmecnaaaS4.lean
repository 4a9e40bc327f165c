/- slices.ContainsFunc with any test; profile.Words$1, Words$2; contract of profile.Words. -/
import Derived.Test.YtkdamcacmecnaaaS3
import Derived.Maps.Own
import Derived.Maps.OwnOps
import Derived.Maps.Views
namespace Go.Proofs.Ytkdamcacmecnaaa
open Go.ChangeShapes Go.WideShapes Go.ChangeAt Go.RowKit Go.Maps
set_option linter.unusedVariables false

theorem indexf_any (G : FuncId) (caps : Array Value) (p : Int → Bool) (tags : List Int) (A : Option Addr) (c : Nat) (w : World) (hl : tags.length ≤ 1048576) (hr : Row1 w A tags.length fun i => .int .i64 (tags.getD i 0))
    (he : ∀ (args : Array Value) (W : World), (callFunc G args).run Try.prog W = .ok (.enter G args) W)
    (hG : ∀ x, x ∈ tags → Calls Try.prog G (#[.int .i64 x] ++ caps) w fun e w' => e = .returned (.bool (p x)) ∧ w = w') :
    Calls Try.prog 65 #[.slice A tags.length c, .func (.func G) #[] caps] w fun e w' => ∃ j : Int, e = .returned (.int .i64 j) ∧ decide (0 ≤ j) = tags.any p ∧ w = w' := by
  have HR := hid hr
  have HG := hid (fun k (h : k < tags.length) => hG (tags.getD k 0) (by rw [List.getD_eq_getElem?_getD, List.getElem?_eq_getElem h]; exact List.getElem_mem h))
  have HE := hid he
  have HY := hid (fun k (h : k < tags.length) (hp : p (tags.getD k 0) = true) => (List.any_eq_true.2 ⟨tags.getD k 0, (by rw [List.getD_eq_getElem?_getD, List.getElem?_eq_getElem h]; exact List.getElem_mem h), hp⟩ : tags.any p = true))
  have HNo : Hid ((∀ i, i < tags.length → p (tags.getD i 0) = false) → tags.any p = false) := fun h => by
    cases e : tags.any p with
    | false => rfl
    | true =>
      obtain ⟨x, hx, hp⟩ := List.any_eq_true.1 e
      obtain ⟨i, hi, rfl⟩ := List.mem_iff_getElem.1 hx
      have := h i hi
      simp [hi] at this
      rw [this] at hp
      cases hp
  clear hr hG he
  generalize tags.any p = r at *
  generalize tags.length = N at *
  go_enter Try.func65, Try.ntmps65
  go_wp2_with fail
  go_loop [8] (fun i => ∃ k : Nat, k ≤ N ∧ i = .int .i64 k ∧ Hid (∀ i, i < k → p (tags.getD i 0) = false)) (fun i => N - (intOf i).toNat)
  case atStart => exact ⟨0, by omega, rfl, fun i hi => absurd hi (by omega)⟩
  case round =>
    obtain ⟨k, hk, rfl, HB⟩ := hrel
    by_cases hlt : k < N
    · obtain ⟨q1, o1, rfl, hq1, hc1⟩ := HR.out.at_ hlt
      have HO := hid (HG.out k hlt)
      have HY1 := hid (HY.out k hlt)
      have HB1 : Hid (p (tags.getD k 0) = false → ∀ i, i < k + 1 → p (tags.getD i 0) = false) := fun h i hi => by
        rcases (show i < k ∨ i = k by omega) with h1 | rfl
        · exact HB.out i h1
        · exact h
      generalize tags.getD k 0 = x at *
      generalize p x = px at *
      have L5 : (k : Int) < (N : Int) := by omega
      have e2 := HE.out
      go_wp2_with fail
      clear e2
      refine HO.out.mono ?_
      rintro e w1 ⟨rfl, rfl⟩
      cases px with
      | true =>
        have HR1 := hid (HY1.out rfl)
        go_wp2_with fail
        go_ret
        exact ⟨_, rfl, by rw [HR1.out]; simp, rfl⟩
      | false =>
        have HB2 := hid (HB1.out rfl)
        go_wp2_with fail
        go_round
        case rel => exact ⟨k + 1, by omega, by go_num, HB2⟩
        case measure => simp [intOf]; omega
    · have D1 : decide (k < N) = false := decide_eq_false hlt
      obtain rfl : k = N := by omega
      have HR1 := hid (HNo.out HB.out)
      clear hlt
      go_wp2_with fail
      go_ret
      exact ⟨_, rfl, by rw [HR1.out]; simp, rfl⟩
theorem containsf_any (G : FuncId) (caps : Array Value) (p : Int → Bool) (tags : List Int) (A : Option Addr) (c : Nat) (w : World) (hl : tags.length ≤ 1048576) (hr : Row1 w A tags.length fun i => .int .i64 (tags.getD i 0))
    (he : ∀ (args : Array Value) (W : World), (callFunc G args).run Try.prog W = .ok (.enter G args) W)
    (hG : ∀ x, x ∈ tags → Calls Try.prog G (#[.int .i64 x] ++ caps) w fun e w' => e = .returned (.bool (p x)) ∧ w = w') :
    Calls Try.prog 38 #[.slice A tags.length c, .func (.func G) #[] caps] w fun e w' => e = .returned (.bool (tags.any p)) ∧ w = w' := by
  have HI := hid (indexf_any G caps p tags A c w hl hr he hG)
  clear hr he hG
  generalize tags.any p = r at *
  generalize tags.length = N at *
  go_enter Try.func38, Try.ntmps38
  go_wp2_with fail
  refine HI.out.mono ?_
  rintro e w1 ⟨j, rfl, hj, rfl⟩
  go_wp2_with fail
  go_ret
  exact ⟨rfl, rfl⟩

/-- may a number not be one of words? -/
def wbad (n : Int) : Bool := decide (n < 0 ∨ 1048576 < n)
theorem words1_any (n : Int) (w : World) : Calls Try.prog 39 #[.int .i64 n] w fun e w' => e = .returned (.bool (wbad n)) ∧ w = w' := by
  by_cases h0 : n < 0
  · have HX : Hid (wbad n = true) := decide_eq_true (.inl h0)
    go_enter Try.func39, Try.ntmps39
    go_wp2_with fail
    go_ret
    exact ⟨ret_bool HX.out.symm, rfl⟩
  have d0 : decide (n < 0) = false := decide_eq_false h0
  by_cases h1 : 1048576 < n
  · have HX : Hid (wbad n = true) := decide_eq_true (.inr h1)
    clear h0
    go_enter Try.func39, Try.ntmps39
    go_wp2_with fail
    go_ret
    exact ⟨ret_bool HX.out.symm, rfl⟩
  · have HX : Hid (wbad n = false) := decide_eq_false fun h => h.elim h0 h1
    have d1 : decide (1048576 < n) = false := decide_eq_false h1
    clear h0 h1
    go_enter Try.func39, Try.ntmps39
    go_wp2_with fail
    go_ret
    exact ⟨ret_bool HX.out.symm, rfl⟩
theorem rword_any (n : Int) (w : World) : Calls Try.prog 43 #[.int .i64 n] w fun e w' => e = .returned (.bool (!wbad n)) ∧ w = w' := by
  by_cases h0 : 0 ≤ n
  · by_cases h1 : n ≤ 1048576
    · have HX : Hid (wbad n = false) := decide_eq_false (by omega)
      go_enter Try.func43, Try.ntmps43
      go_wp2_with fail
      go_ret
      exact ⟨ret_bool (by rw [HX.out]; rfl), rfl⟩
    · have HX : Hid (wbad n = true) := decide_eq_true (by omega)
      have d1 : decide (n ≤ 1048576) = false := decide_eq_false h1
      clear h1
      go_enter Try.func43, Try.ntmps43
      go_wp2_with fail
      go_ret
      exact ⟨ret_bool (by rw [HX.out]; rfl), rfl⟩
  · have HX : Hid (wbad n = true) := decide_eq_true (by omega)
    have d1 : decide (0 ≤ n) = false := decide_eq_false h0
    clear h0
    go_enter Try.func43, Try.ntmps43
    go_wp2_with fail
    go_ret
    exact ⟨ret_bool (by rw [HX.out]; rfl), rfl⟩

theorem law3 : Keyed Try.prog 3 := int_keyed Try.underlying3
theorem zero3 (w : World) : (zeroValue 3).run Try.prog w = .ok (.int .i64 0) w := by kernel_rfl
theorem Keep.map {own : Nat → Prop} {w w' : World} {b n : Nat} {D : DataW Unit} {P : Program} {k : TypeId} {R : Value → Option (DataW Unit × List MemPlace)} (h : Keep own w w') (hn : ¬ own b) (c : w.ownsMap P k R b n D) : w'.ownsMap P k R b n D := by
  have hlt := c.lt
  obtain ⟨es, clock, hb, r⟩ := c
  exact ⟨es, clock, (h.block b hlt hn).trans hb, r⟩
/-- a look-up in the map of block mb -/
def Look (mb : Nat) (x c : Int) (w : World) : Prop := (Instr.lookup 73 (.map (some mb)) (.int .i64 x) false).run Try.prog w = .ok (.int .i64 c) w
theorem look_of {w : World} {mb n : Nat} {D : DataW Unit} {x c : Int} (h : w.ownsMap Try.prog 3 (plainElem Try.prog 3) mb n D) (hx : (Lit.int .i64 x).wf = true) (hD : D.atKey (.int .i64 x) (.lit (.int .i64 0)) = .lit (.int .i64 c)) : Look mb x c w := by
  obtain ⟨c', hrun, hat, _⟩ := h.lookup_int law3 Try.underlying73 Try.underlying3 (zero3 w) (keyOf_int_mk Try.underlying3 hx)
  rw [hD] at hat
  have e : c = c' := (Lit.int.inj (DataW.lit.inj hat)).2
  unfold Look
  rw [e]
  exact hrun

set_option maxRecDepth 100000 in
set_option maxHeartbeats 2000000 in
theorem words2_any (ob base fb sb tv mb : Nat) (f : Nat → Int) (k : Nat) (H : Nat → Prop) (x y a1 p1 a2 p2 fixed slot tp : Int) (va vb : Value) (ta tb : List Int) (D : DataW Unit) (w : World) (hk : k ≤ 1099511627776) (hla : ta.length ≤ 1048576) (hlb : tb.length ≤ 1048576) (hva : RT0 w va ta) (hvb : RT0 w vb tb) (hJ : OutJ ob base f k H w) (hb : base ≤ w.heap.size)
    (hfx : w.rowIs fb 3 1 fun _ => .int .i64 fixed) (hsl : w.rowIs sb 3 1 fun _ => .int .i64 slot) (htv : w.rowIs tv 73 1 fun _ => .map (some mb)) (hmp : w.ownsMap Try.prog 3 (plainElem Try.prog 3) mb 3 D)
    (hx : (Lit.int .i64 x).wf = true) (hD : D.atKey (.int .i64 x) (.lit (.int .i64 0)) = .lit (.int .i64 tp)) (hne : fb < base ∧ sb < base ∧ tv < base ∧ mb < base) (hno : ob ≠ fb ∧ ob ≠ sb ∧ ob ≠ tv ∧ ob ≠ mb)
    (b1 : 0 ≤ fixed ∧ fixed ≤ 1048576) (b2 : 0 ≤ slot ∧ slot ≤ 1048576) (b3 : 0 ≤ tp ∧ tp ≤ 2097152)
    (hf : f k = fixed + slot * ((max (Mc.cnt ta) (Mc.cnt tb) : Nat) : Int) + tp) :
    Calls Try.prog 41 #[.agg #[.int .i64 x, .int .i64 y, .int .i64 a1, .int .i64 p1, va, .int .i64 a2, .int .i64 p2, vb], .pointer (some ⟨ob, 0, none⟩), .pointer (some ⟨fb, 0, none⟩), .pointer (some ⟨sb, 0, none⟩), .pointer (some ⟨tv, 0, none⟩)] w
      fun e w' => e = .returned (.tuple #[]) ∧ ∃ H', OutJ ob base f (k + 1) H' w' ∧ Keep H w w' ∧ ∀ i, H' i → H i ∨ w.heap.size ≤ i := by
  have hJl := hid (OutJ.lt hJ)
  obtain ⟨Ao, co, hro, hoo, hob, hH⟩ := hJ
  obtain ⟨A1, c1, rfl, hr1⟩ := hva
  obtain ⟨A2, c2, rfl, hr2⟩ := hvb
  have H2 := hid (fun W (h : KW w W) => sheld_any x y a1 p1 a2 p2 (.slice A1 ta.length c1) (.slice A2 tb.length c2) ta tb W hla hlb ⟨A1, c1, rfl, hr1.k h⟩ ⟨A2, c2, rfl, hr2.k h⟩)
  have HLk := hid (fun W (h : KW w W) => look_of ((h.keep (own := fun _ => False)).map (fun h => h) hmp) hx hD)
  have HLk5 : Hid (∀ W, Keep (fun i => (Value.slice Ao k co).ownBlock = some i) w W → Look mb x tp W) := fun W h => look_of (h.map (fun h => by have h1 := (hoo.lt h).1; have h2 := hne.2.2.2; omega) hmp) hx hD
  have HMx : Hid (max (Mc.cnt ta) (Mc.cnt tb) ≤ 1048576) := by
    have h1 := Mc.cnt_le ta
    have h2 := Mc.cnt_le tb
    exact hid (by omega)
  have HRS := hid (ints_range_succ f k)
  have HRL := hid (ints_range_len f k)
  generalize max (Mc.cnt ta) (Mc.cnt tb) = mx at *
  have hmul : slot * (mx : Int) ≤ 1048576 * 1048576 := Int.mul_le_mul b2.2 (by have := HMx.out; omega) (by omega) (by omega)
  have hmul0 : 0 ≤ slot * (mx : Int) := Int.mul_nonneg b2.1 (by omega)
  have W1 : IntKind.i64.wrap (slot * (mx : Int)) = slot * (mx : Int) := IntWalk.i64_in _ (by omega)
  have W2 : IntKind.i64.wrap (fixed + slot * (mx : Int)) = fixed + slot * (mx : Int) := IntWalk.i64_in _ (by omega)
  have W3 : IntKind.i64.wrap (fixed + slot * (mx : Int) + tp) = fixed + slot * (mx : Int) + tp := IntWalk.i64_in _ (by omega)
  have HF := hid hf
  clear hr1 hr2 hf hD hmul hmul0
  generalize f k = q at *
  generalize ta.length = N1 at *
  generalize tb.length = N2 at *
  have HR := hid hro
  have HO := hid hoo
  have HH := hid hH
  have HB := hid hb
  have HOB := hid hob
  have HFx := hid hfx
  have HSl := hid hsl
  have HTv := hid htv
  have HNb := hid hne
  have HNo := hid hno
  clear hro hoo hH hb hob hfx hsl htv hmp hne hno
  go_enter Try.func41, Try.ntmps41
  go_wp2_with fail
  refine wpCode_world (fun W => KW w W ∧ w.heap.size < W.heap.size ∧ W.cell? ⟨w.heap.size, 0, none⟩ = some (.int .i64 x) ∧ W.cell? ⟨w.heap.size, 1, none⟩ = some (.int .i64 y) ∧ W.cell? ⟨w.heap.size, 2, none⟩ = some (.int .i64 a1) ∧ W.cell? ⟨w.heap.size, 3, none⟩ = some (.int .i64 p1) ∧ W.cell? ⟨w.heap.size, 4, none⟩ = some (.slice A1 N1 c1) ∧ W.cell? ⟨w.heap.size, 5, none⟩ = some (.int .i64 a2) ∧ W.cell? ⟨w.heap.size, 6, none⟩ = some (.int .i64 p2) ∧ W.cell? ⟨w.heap.size, 7, none⟩ = some (.slice A2 N2 c2)) ⟨(KW.refl w).alloc _, by simp, by go_simp, by go_simp, by go_simp, by go_simp, by go_simp, by go_simp, by go_simp, by go_simp⟩ ?_
  rintro W ⟨hkW, hs, hX⟩
  have HKW := hid hkW
  have HSz := hid hs
  have HX := hid hX
  have HSS : Hid (∀ w', KW W w' → (w'.cell? ⟨w.heap.size, 0, none⟩ = some (.int .i64 x) ∧ w'.cell? ⟨w.heap.size, 1, none⟩ = some (.int .i64 y) ∧ w'.cell? ⟨w.heap.size, 2, none⟩ = some (.int .i64 a1) ∧ w'.cell? ⟨w.heap.size, 3, none⟩ = some (.int .i64 p1) ∧ w'.cell? ⟨w.heap.size, 4, none⟩ = some (.slice A1 N1 c1) ∧ w'.cell? ⟨w.heap.size, 5, none⟩ = some (.int .i64 a2) ∧ w'.cell? ⟨w.heap.size, 6, none⟩ = some (.int .i64 p2) ∧ w'.cell? ⟨w.heap.size, 7, none⟩ = some (.slice A2 N2 c2)) ∧ w'.cell? ⟨fb, 0, none⟩ = some (.int .i64 fixed) ∧ w'.cell? ⟨sb, 0, none⟩ = some (.int .i64 slot) ∧ w'.cell? ⟨tv, 0, none⟩ = some (.map (some mb)) ∧ (Instr.lookup 73 (.map (some mb)) (.int .i64 x) false).run Try.prog w' = .ok (.int .i64 tp) w' ∧ w'.cell? ⟨ob, 0, none⟩ = some (.slice Ao k co)) := fun w' hq =>
    ⟨⟨KW.cell hq HSz.out HX.out.1, KW.cell hq HSz.out HX.out.2.1, KW.cell hq HSz.out HX.out.2.2.1, KW.cell hq HSz.out HX.out.2.2.2.1, KW.cell hq HSz.out HX.out.2.2.2.2.1, KW.cell hq HSz.out HX.out.2.2.2.2.2.1, KW.cell hq HSz.out HX.out.2.2.2.2.2.2.1, KW.cell hq HSz.out HX.out.2.2.2.2.2.2.2⟩,
      KW.cell (HKW.out.t hq) HFx.out.lt (HFx.out.cell (i := 0) (by omega)), KW.cell (HKW.out.t hq) HSl.out.lt (HSl.out.cell (i := 0) (by omega)), KW.cell (HKW.out.t hq) HTv.out.lt (HTv.out.cell (i := 0) (by omega)), HLk.out w' (HKW.out.t hq), KW.cell (HKW.out.t hq) HR.out.lt (HR.out.cell (i := 0) (by omega))⟩
  clear hkW hs hX
  have hXS := HSS.out W.drew (KW.refl W).drew
  refine wpX_region (S := fun w' => (w'.cell? ⟨w.heap.size, 0, none⟩ = some (.int .i64 x) ∧ w'.cell? ⟨w.heap.size, 1, none⟩ = some (.int .i64 y) ∧ w'.cell? ⟨w.heap.size, 2, none⟩ = some (.int .i64 a1) ∧ w'.cell? ⟨w.heap.size, 3, none⟩ = some (.int .i64 p1) ∧ w'.cell? ⟨w.heap.size, 4, none⟩ = some (.slice A1 N1 c1) ∧ w'.cell? ⟨w.heap.size, 5, none⟩ = some (.int .i64 a2) ∧ w'.cell? ⟨w.heap.size, 6, none⟩ = some (.int .i64 p2) ∧ w'.cell? ⟨w.heap.size, 7, none⟩ = some (.slice A2 N2 c2)) ∧ w'.cell? ⟨fb, 0, none⟩ = some (.int .i64 fixed) ∧ w'.cell? ⟨sb, 0, none⟩ = some (.int .i64 slot) ∧ w'.cell? ⟨tv, 0, none⟩ = some (.map (some mb)) ∧ (Instr.lookup 73 (.map (some mb)) (.int .i64 x) false).run Try.prog w' = .ok (.int .i64 tp) w' ∧ w'.cell? ⟨ob, 0, none⟩ = some (.slice Ao k co)) (L := 15) (by kernel_rfl) ?_
  refine wpX_take (i := 0) (v := ?_) rfl rfl (by kernel_rfl) (fun _ _ _ h => h) (Or.inl ⟨rfl, fun wS hwS => ?_⟩) hXS ?_
  rotate_left
  · go_simp; try rfl
  simp only [List.set_cons_zero, List.set_cons_succ]
  refine wpX_take (i := 1) (v := ?_) rfl rfl (by kernel_rfl) (fun _ _ _ h => h) (Or.inl ⟨rfl, fun wS hwS => ?_⟩) hXS ?_
  rotate_left
  · go_simp; try rfl
  simp only [List.set_cons_zero, List.set_cons_succ]
  refine wpX_take (i := 2) (v := ?_) rfl rfl (by kernel_rfl) (fun _ _ _ h => h) (Or.inl ⟨rfl, fun wS hwS => ?_⟩) hXS ?_
  rotate_left
  · go_simp; try rfl
  simp only [List.set_cons_zero, List.set_cons_succ]
  refine wpX_take (i := 3) (v := ?_) rfl rfl (by kernel_rfl) (fun _ _ _ h => h) (Or.inl ⟨rfl, fun wS hwS => ?_⟩) hXS ?_
  rotate_left
  · go_simp; try rfl
  simp only [List.set_cons_zero, List.set_cons_succ]
  refine wpX_take (i := 7) (v := ?_) rfl rfl (by kernel_rfl) (fun _ _ _ h => h) (Or.inl ⟨rfl, fun wS hwS => ?_⟩) hXS ?_
  rotate_left
  · go_simp; try rfl
  simp only [List.set_cons_zero, List.set_cons_succ]
  refine wpX_take (i := 8) (v := ?_) rfl rfl (by kernel_rfl) (fun _ _ _ h => h) (Or.inl ⟨rfl, fun wS hwS => ?_⟩) hXS ?_
  rotate_left
  · go_simp; try rfl
  simp only [List.set_cons_zero, List.set_cons_succ]
  refine wpX_take (i := 9) (v := ?_) rfl rfl (by kernel_rfl) (fun _ _ _ h => h) (Or.inl ⟨rfl, fun wS hwS => ?_⟩) hXS ?_
  rotate_left
  · go_simp; try rfl
  simp only [List.set_cons_zero, List.set_cons_succ]
  refine wpX_take (i := 10) (v := ?_) rfl rfl (by kernel_rfl) (fun _ _ _ h => h) (Or.inl ⟨rfl, fun wS hwS => ?_⟩) hXS ?_
  rotate_left
  · go_simp; try rfl
  simp only [List.set_cons_zero, List.set_cons_succ]
  refine wpX_take (i := 11) (v := ?_) rfl rfl (by kernel_rfl) (fun _ _ _ h => h) (Or.inl ⟨rfl, fun wS hwS => ?_⟩) hXS ?_
  rotate_left
  · go_simp; try rfl
  simp only [List.set_cons_zero, List.set_cons_succ]
  refine wpX_hard (k := 4) (by kernel_rfl) rfl (fun K hK => ?_)
  go_simp
  (refine (H2.out _ HKW.out.drew).mono ?_; rintro e w3 ⟨rfl, hb⟩; have HB3 : Hid (KW W w3) := (KW.refl W).drew.t hb)
  refine hK _ _ (fun _ => HSS.out _ HB3.out) ?_
  clear hK K
  try simp only [List.set_cons_zero, List.set_cons_succ]
  clear hXS
  have hXS := HSS.out _ HB3.out
  refine wpX_take (i := 5) (v := ?_) rfl rfl (by kernel_rfl) (fun _ _ _ h => h) (Or.inl ⟨rfl, fun wS hwS => ?_⟩) hXS ?_
  rotate_left
  · go_simp; try rfl
  simp only [List.set_cons_zero, List.set_cons_succ]
  refine wpX_take (i := 6) (v := ?_) rfl rfl (by kernel_rfl) (fun _ _ _ h => h) (Or.inl ⟨rfl, fun wS hwS => ?_⟩) hXS ?_
  rotate_left
  · go_simp; try rfl
  simp only [List.set_cons_zero, List.set_cons_succ]
  refine wpX_take (i := 12) (v := ?_) rfl rfl (by kernel_rfl) (fun _ _ _ h => h) (Or.inl ⟨rfl, fun wS hwS => ?_⟩) hXS ?_
  rotate_left
  · go_simp; try rfl
  simp only [List.set_cons_zero, List.set_cons_succ]
  have HA3 := hid (HB3.out.alloc (.cells #[.int .i64 (fixed + slot * (mx : Int) + tp)] 3))
  refine wpX_hard (k := 13) (by kernel_rfl) rfl (fun K hK => ?_)
  go_simp
  refine hK _ _ (fun _ => HSS.out _ HA3.out) ?_
  clear hK K
  try simp only [List.set_cons_zero, List.set_cons_succ]
  have HSz3 : Hid (W.heap.size ≤ w3.heap.size) := HB3.out.size
  rw [← HF.out]
  clear W1 W2 W3 hXS
  refine wpX_appA (k := 14) (by kernel_rfl) rfl rfl rfl sliceInt' rfl (W := w3.alloc (.cells #[.int .i64 q] 3)) (base := base) (q := 1) (n := k) (v := .slice Ao k co) (xs := ints ((List.range k).map f)) (ys := [.int .i64 q]) rfl rfl (holds_one w3 _ 1 _ rfl) ?hown (by have := HB.out; have := HSz.out; have := HSz3.out; simp; omega) (by omega) (by omega) ?_
  case hown =>
    have h := HO.out.on (HKW.out.t (HB3.out.alloc (.cells #[.int .i64 q] 3)))
    unfold Owns at h
    rw [HRL.out] at h
    exact h
  intro v' w5 hown hkeep hloc
  have HO5 : Hid (Owns w5 base 3 v' (ints ((List.range (k + 1)).map f))) := by
    rw [HRS.out]
    show World.ownsRow _ _ _ _ _ _ _
    rw [List.length_append, HRL.out]
    exact hown
  have HK5 := hid hkeep
  have HL5 := hid hloc
  clear hown hkeep hloc
  have HA4 := hid (HB3.out.alloc (.cells #[.int .i64 q] 3))
  have HNE : Hid (∀ i, (Value.slice Ao k co).ownBlock = some i → i ≠ ob ∧ i ≠ w.heap.size ∧ i ≠ fb ∧ i ≠ sb ∧ i ≠ tv ∧ i ≠ mb) := fun i hi => by
    have h1 := HO.out.lt hi
    have h2 := HOB.out
    have h3 := HNb.out
    omega
  have HRw : Hid (w5.rowIs ob 25 1 (fun _ => .slice Ao k co)) := HK5.out.row (fun h => (HNE.out _ h).1 rfl) (KW.row (HKW.out.t HA4.out) HR.out.lt HR.out)
  have hSS5 : (w5.cell? ⟨w.heap.size, 0, none⟩ = some (.int .i64 x) ∧ w5.cell? ⟨w.heap.size, 1, none⟩ = some (.int .i64 y) ∧ w5.cell? ⟨w.heap.size, 2, none⟩ = some (.int .i64 a1) ∧ w5.cell? ⟨w.heap.size, 3, none⟩ = some (.int .i64 p1) ∧ w5.cell? ⟨w.heap.size, 4, none⟩ = some (.slice A1 N1 c1) ∧ w5.cell? ⟨w.heap.size, 5, none⟩ = some (.int .i64 a2) ∧ w5.cell? ⟨w.heap.size, 6, none⟩ = some (.int .i64 p2) ∧ w5.cell? ⟨w.heap.size, 7, none⟩ = some (.slice A2 N2 c2)) ∧ w5.cell? ⟨fb, 0, none⟩ = some (.int .i64 fixed) ∧ w5.cell? ⟨sb, 0, none⟩ = some (.int .i64 slot) ∧ w5.cell? ⟨tv, 0, none⟩ = some (.map (some mb)) ∧ (Instr.lookup 73 (.map (some mb)) (.int .i64 x) false).run Try.prog w5 = .ok (.int .i64 tp) w5 ∧ w5.cell? ⟨ob, 0, none⟩ = some (.slice Ao k co) := by
    have h := HSS.out _ HA4.out
    have hl : w.heap.size < (w3.alloc (.cells #[.int .i64 q] 3)).heap.size := by have := HSz.out; have := HSz3.out; simp; omega
    have hc : ¬ (Value.slice Ao k co).ownBlock = some w.heap.size := fun h => (HNE.out _ h).2.1 rfl
    have hkk := HKW.out.t HA4.out
    exact ⟨⟨(HK5.out.cell hl hc).trans h.1.1, (HK5.out.cell hl hc).trans h.1.2.1, (HK5.out.cell hl hc).trans h.1.2.2.1, (HK5.out.cell hl hc).trans h.1.2.2.2.1, (HK5.out.cell hl hc).trans h.1.2.2.2.2.1, (HK5.out.cell hl hc).trans h.1.2.2.2.2.2.1, (HK5.out.cell hl hc).trans h.1.2.2.2.2.2.2.1, (HK5.out.cell hl hc).trans h.1.2.2.2.2.2.2.2⟩,
      (HK5.out.cell (Nat.lt_of_lt_of_le HFx.out.lt hkk.size) fun h => (HNE.out _ h).2.2.1 rfl).trans h.2.1, (HK5.out.cell (Nat.lt_of_lt_of_le HSl.out.lt hkk.size) fun h => (HNE.out _ h).2.2.2.1 rfl).trans h.2.2.1, (HK5.out.cell (Nat.lt_of_lt_of_le HTv.out.lt hkk.size) fun h => (HNE.out _ h).2.2.2.2.1 rfl).trans h.2.2.2.1,
      HLk5.out w5 (hkk.keep.t HK5.out), HRw.out.cell (i := 0) (by omega)⟩
  refine ⟨fun _ => hSS5, ?_⟩
  try simp only [List.set_cons_zero, List.set_cons_succ]
  have hc0 := hSS5.2.2.2.2.2
  have hf0 := HRw.out.frozen 0
  obtain ⟨A6, c6, hv6, hc6, hbb6, _⟩ := HO5.out.row
  rw [ints_range_len] at hv6
  subst hv6
  refine wpX_hard (k := 15) (by kernel_rfl) rfl (fun K hK => ?_)
  go_simp
  refine hK _ _ (fun h => absurd rfl h) ?_
  clear hK K
  refine wpX_done (by kernel_rfl) ?_
  go_wp2_with fail
  have HL6 : Hid (∀ i, (Value.slice A6 (k + 1) c6).ownBlock = some i → (Value.slice Ao k co).ownBlock = some i ∨ w3.heap.size + 1 ≤ i) := fun i hi => by
    rcases HL5.out with h | h
    · exact .inl (h ▸ hi)
    · rw [h] at hi; injection hi with hi; simp at hi; exact .inr (by omega)
  refine bodyPost_end (results_none rfl _ _ _) rfl ?_
  refine ⟨rfl, (fun i => i = ob ∨ (Value.slice A6 (k + 1) c6).ownBlock = some i), ⟨A6, c6, ?_, ?_, HOB.out, fun i => Iff.rfl⟩, ?_, ?_⟩
  · refine (HRw.out.set 0 _).congr fun i hi => ?_
    obtain rfl : i = 0 := by omega
    exact if_pos rfl
  · exact HO5.out.of_blocks fun i hi => heap_setCell_other w5 _ i _ (by have := (HO5.out.lt hi).1; have := HOB.out; show i ≠ ob; omega)
  · exact (((HKW.out.t HA4.out).keep (own := H)).trans HK5.out fun i _ hi => (HH.out i).2 (.inr hi)).setCell _ _ ((HH.out _).2 (.inl rfl))
  · intro i hi
    rcases hi with rfl | hi
    · exact .inl ((HH.out _).2 (.inl rfl))
    · rcases HL6.out i hi with h | h
      · exact .inl ((HH.out _).2 (.inr h))
      · exact .inr (by have := HKW.out.size; have := HSz3.out; omega)
end Go.Proofs.Ytkdamcacmecnaaa
