/- Closures that append to a list: what they keep; profile.Held$1, sight.held; contract of profile.Held. -/
import Derived.Test.YtkdamcacmecnaaaS2
import Derived.Test.YtkdamcacmecnaaaApp
namespace Go.Proofs.Ytkdamcacmecnaaa
open Go.ChangeShapes Go.WideShapes Go.ChangeAt Go.RowKit
set_option linter.unusedVariables false

/-- the variable in block ob holds the first k of f's numbers, in memory of the call's own -/
def OutJ (ob base : Nat) (f : Nat → Int) (k : Nat) (H : Nat → Prop) (w : World) : Prop :=
  ∃ A c, w.rowIs ob 25 1 (fun _ => .slice A k c) ∧ Owns w base 3 (.slice A k c) (ints ((List.range k).map f)) ∧ ob < base ∧ ∀ i, H i ↔ i = ob ∨ (Value.slice A k c).ownBlock = some i
theorem OutJ.lt {ob base : Nat} {f : Nat → Int} {k : Nat} {H : Nat → Prop} {w : World} (h : OutJ ob base f k H w) : ∀ i, H i → i < w.heap.size := by
  obtain ⟨A, c, hr, ho, _, hH⟩ := h
  intro i hi
  rcases (hH i).1 hi with rfl | h
  · exact hr.lt
  · exact (ho.lt h).2
theorem OutJ.keep {ob base : Nat} {f : Nat → Int} {k : Nat} {H : Nat → Prop} {w w' : World} {O : Nat → Prop} (h : OutJ ob base f k H w) (hk : Keep O w w') (hn : ∀ i, H i → ¬ O i) : OutJ ob base f k H w' := by
  obtain ⟨A, c, hr, ho, hb, hH⟩ := h
  exact ⟨A, c, hk.row (hn _ ((hH _).2 (.inl rfl))) hr, hk.owns ho fun i hi => hn _ ((hH _).2 (.inr hi)), hb, hH⟩
theorem ints_range_succ (f : Nat → Int) (k : Nat) : ints ((List.range (k + 1)).map f) = ints ((List.range k).map f) ++ [.int .i64 (f k)] := by
  unfold ints
  rw [List.range_succ, List.map_append, List.map_append]
  rfl
theorem ints_range_len (f : Nat → Int) (k : Nat) : (ints ((List.range k).map f)).length = k := by rw [ints_len]; simp

set_option maxRecDepth 100000 in
set_option maxHeartbeats 1000000 in
theorem sheld_any (x y a1 p1 a2 p2 : Int) (va vb : Value) (ta tb : List Int) (w : World) (hla : ta.length ≤ 1048576) (hlb : tb.length ≤ 1048576) (hva : RT0 w va ta) (hvb : RT0 w vb tb) :
    Calls Try.prog 42 #[.agg #[.int .i64 x, .int .i64 y, .int .i64 a1, .int .i64 p1, va, .int .i64 a2, .int .i64 p2, vb]] w fun e w' => e = .returned (.int .i64 ((max (Mc.cnt ta) (Mc.cnt tb) : Nat) : Int)) ∧ KW w w' := by
  obtain ⟨A1, c1, rfl, hr1⟩ := hva
  obtain ⟨A2, c2, rfl, hr2⟩ := hvb
  have H1 := hid (fun W (h : KW w W) => held_any a1 p1 (.slice A1 ta.length c1) ta W hla ⟨A1, c1, rfl, hr1.k h⟩)
  have H2 := hid (fun W (h : KW w W) => held_any a2 p2 (.slice A2 tb.length c2) tb W hlb ⟨A2, c2, rfl, hr2.k h⟩)
  have B1 := hid (Mc.cnt_le ta)
  have B2 := hid (Mc.cnt_le tb)
  clear hr1 hr2
  generalize Mc.cnt ta = n1 at *
  generalize Mc.cnt tb = n2 at *
  generalize ta.length = N1 at *
  generalize tb.length = N2 at *
  have hk := (KW.refl w).alloc (.cells #[.int .i64 x, .int .i64 y, .int .i64 a1, .int .i64 p1, .slice A1 N1 c1, .int .i64 a2, .int .i64 p2, .slice A2 N2 c2] 77)
  have HK := hid hk
  go_enter Try.func42, Try.ntmps42
  go_wp2_with fail
  refine wpCode_world (fun W => KW w W ∧ w.heap.size < W.heap.size ∧ W.cell? ⟨w.heap.size, 2, none⟩ = some (.int .i64 a1) ∧ W.cell? ⟨w.heap.size, 3, none⟩ = some (.int .i64 p1) ∧ W.cell? ⟨w.heap.size, 4, none⟩ = some (.slice A1 N1 c1) ∧ W.cell? ⟨w.heap.size, 5, none⟩ = some (.int .i64 a2) ∧ W.cell? ⟨w.heap.size, 6, none⟩ = some (.int .i64 p2) ∧ W.cell? ⟨w.heap.size, 7, none⟩ = some (.slice A2 N2 c2)) ⟨hk, by simp, by go_simp, by go_simp, by go_simp, by go_simp, by go_simp, by go_simp⟩ ?_
  rintro W ⟨hkW, hs, hX⟩
  have HKW := hid hkW
  have HSz := hid hs
  have HX := hid hX
  have HSS := hid (fun w' (hq : KW W w') => And.intro (KW.cell hq HSz.out HX.out.1) (And.intro (KW.cell hq HSz.out HX.out.2.1) (And.intro (KW.cell hq HSz.out HX.out.2.2.1) (And.intro (KW.cell hq HSz.out HX.out.2.2.2.1) (And.intro (KW.cell hq HSz.out HX.out.2.2.2.2.1) (KW.cell hq HSz.out HX.out.2.2.2.2.2))))))
  clear hkW hs hX hk
  have hXS := HX.out
  refine wpX_region (S := fun w' => w'.cell? ⟨w.heap.size, 2, none⟩ = some (.int .i64 a1) ∧ w'.cell? ⟨w.heap.size, 3, none⟩ = some (.int .i64 p1) ∧ w'.cell? ⟨w.heap.size, 4, none⟩ = some (.slice A1 N1 c1) ∧ w'.cell? ⟨w.heap.size, 5, none⟩ = some (.int .i64 a2) ∧ w'.cell? ⟨w.heap.size, 6, none⟩ = some (.int .i64 p2) ∧ w'.cell? ⟨w.heap.size, 7, none⟩ = some (.slice A2 N2 c2)) (L := 99) (by kernel_rfl) ?_
  refine wpX_take (i := 0) (v := ?_) rfl rfl (by kernel_rfl) (fun _ _ _ h => h) (Or.inl ⟨rfl, fun wS hwS => ?_⟩) hXS ?_
  rotate_left
  · go_simp; try rfl
  simp only [List.set_cons_zero, List.set_cons_succ]
  refine wpX_take (i := 1) (v := ?_) rfl rfl (by kernel_rfl) (fun _ _ _ h => h) (Or.inl ⟨rfl, fun wS hwS => ?_⟩) hXS ?_
  rotate_left
  · go_simp; try rfl
  simp only [List.set_cons_zero, List.set_cons_succ]
  refine wpX_take (i := 3) (v := ?_) rfl rfl (by kernel_rfl) (fun _ _ _ h => h) (Or.inl ⟨rfl, fun wS hwS => ?_⟩) hXS ?_
  rotate_left
  · go_simp; try rfl
  simp only [List.set_cons_zero, List.set_cons_succ]
  refine wpX_take (i := 4) (v := ?_) rfl rfl (by kernel_rfl) (fun _ _ _ h => h) (Or.inl ⟨rfl, fun wS hwS => ?_⟩) hXS ?_
  rotate_left
  · go_simp; try rfl
  simp only [List.set_cons_zero, List.set_cons_succ]
  refine wpX_hard (k := 2) (by kernel_rfl) rfl (fun K hK => ?_)
  go_simp
  (refine (H1.out _ HKW.out.drew).mono ?_; rintro e w3 ⟨rfl, hb⟩; have HB3 : Hid (KW W w3) := (KW.refl W).drew.t hb)
  refine hK _ _ (fun _ => HSS.out _ HB3.out) ?_
  clear hK K
  try simp only [List.set_cons_zero, List.set_cons_succ]
  clear hXS
  have hXS := HSS.out _ HB3.out
  refine wpX_hard (k := 5) (by kernel_rfl) rfl (fun K hK => ?_)
  go_simp
  (refine (H2.out _ (HKW.out.t HB3.out)).mono ?_; rintro e w4 ⟨rfl, hb4⟩; have HB4 : Hid (KW W w4) := HB3.out.t hb4)
  refine hK _ _ (fun _ => HSS.out _ HB4.out) ?_
  clear hK K
  try simp only [List.set_cons_zero, List.set_cons_succ]
  clear hXS
  have hXS := HSS.out _ HB4.out
  refine wpX_take (i := 6) (v := ?_) rfl rfl (by kernel_rfl) (fun _ _ _ h => h) (Or.inl ⟨rfl, fun wS hwS => ?_⟩) hXS ?_
  rotate_left
  · go_simp; try rfl
  simp only [List.set_cons_zero, List.set_cons_succ]
  refine wpX_take (i := 7) (v := ?_) rfl rfl (by kernel_rfl) (fun _ _ _ h => h) (Or.inl ⟨rfl, fun wS hwS => ?_⟩) hXS ?_
  rotate_left
  · go_simp; try rfl
  simp only [List.set_cons_zero, List.set_cons_succ]
  refine wpX_done (by kernel_rfl) ?_
  go_wp2_with fail
  all_goals
    go_ret
    exact ⟨ret_int (by omega), HKW.out.t HB4.out⟩

set_option maxRecDepth 100000 in
set_option maxHeartbeats 1000000 in
theorem held1_any (ob base : Nat) (f : Nat → Int) (k : Nat) (H : Nat → Prop) (x y a1 p1 a2 p2 : Int) (va vb : Value) (tb : List Int) (w : World) (hk : k ≤ 1099511627776) (hlb : tb.length ≤ 1048576) (hvb : RT0 w vb tb) (hJ : OutJ ob base f k H w) (hb : base ≤ w.heap.size)
    (hf : f k = Mc.cnt tb) (hva : ∃ A n c, va = .slice A n c) :
    Calls Try.prog 48 #[.agg #[.int .i64 x, .int .i64 y, .int .i64 a1, .int .i64 p1, va, .int .i64 a2, .int .i64 p2, vb], .pointer (some ⟨ob, 0, none⟩)] w
      fun e w' => e = .returned (.tuple #[]) ∧ ∃ H', OutJ ob base f (k + 1) H' w' ∧ Keep H w w' ∧ ∀ i, H' i → H i ∨ w.heap.size ≤ i := by
  obtain ⟨A1, n1, c1, rfl⟩ := hva
  have hJl := hid (OutJ.lt hJ)
  obtain ⟨Ao, co, hro, hoo, hob, hH⟩ := hJ
  obtain ⟨A2, c2, rfl, hr2⟩ := hvb
  have H2 := hid (fun W (h : KW w W) => held_any a2 p2 (.slice A2 tb.length c2) tb W hlb ⟨A2, c2, rfl, hr2.k h⟩)
  rw [← hf] at H2
  have HRS := hid (ints_range_succ f k)
  have HRL := hid (ints_range_len f k)
  generalize f k = q at *
  clear hr2 hf
  generalize tb.length = N2 at *
  have HR := hid hro
  have HO := hid hoo
  have HH := hid hH
  have HB := hid hb
  have HOB := hid hob
  clear hro hoo hH hb hob
  go_enter Try.func48, Try.ntmps48
  go_wp2_with fail
  refine wpCode_world (fun W => KW w W ∧ w.heap.size < W.heap.size ∧ W.cell? ⟨w.heap.size, 5, none⟩ = some (.int .i64 a2) ∧ W.cell? ⟨w.heap.size, 6, none⟩ = some (.int .i64 p2) ∧ W.cell? ⟨w.heap.size, 7, none⟩ = some (.slice A2 N2 c2) ∧ W.cell? ⟨ob, 0, none⟩ = some (.slice Ao k co)) ⟨(KW.refl w).alloc _, by simp, by go_simp, by go_simp, by go_simp, ?_⟩ ?_
  · exact KW.cell ((KW.refl w).alloc _) HR.out.lt (HR.out.cell (i := 0) (by omega))
  rintro W ⟨hkW, hs, hX⟩
  have HKW := hid hkW
  have HSz := hid hs
  have HX := hid hX
  have HSS := hid (fun w' (hq : KW W w') => And.intro (KW.cell hq HSz.out HX.out.1) (And.intro (KW.cell hq HSz.out HX.out.2.1) (And.intro (KW.cell hq HSz.out HX.out.2.2.1) (KW.cell hq (Nat.lt_of_lt_of_le HR.out.lt HKW.out.size) HX.out.2.2.2))))
  clear hkW hs hX
  have hXS := HX.out
  refine wpX_region (S := fun w' => w'.cell? ⟨w.heap.size, 5, none⟩ = some (.int .i64 a2) ∧ w'.cell? ⟨w.heap.size, 6, none⟩ = some (.int .i64 p2) ∧ w'.cell? ⟨w.heap.size, 7, none⟩ = some (.slice A2 N2 c2) ∧ w'.cell? ⟨ob, 0, none⟩ = some (.slice Ao k co)) (L := 6) (by kernel_rfl) ?_
  refine wpX_take (i := 0) (v := ?_) rfl rfl (by kernel_rfl) (fun _ _ _ h => h) (Or.inl ⟨rfl, fun wS hwS => ?_⟩) hXS ?_
  rotate_left
  · go_simp; try rfl
  simp only [List.set_cons_zero, List.set_cons_succ]
  refine wpX_take (i := 1) (v := ?_) rfl rfl (by kernel_rfl) (fun _ _ _ h => h) (Or.inl ⟨rfl, fun wS hwS => ?_⟩) hXS ?_
  rotate_left
  · go_simp; try rfl
  simp only [List.set_cons_zero, List.set_cons_succ]
  refine wpX_take (i := 2) (v := ?_) rfl rfl (by kernel_rfl) (fun _ _ _ h => h) (Or.inl ⟨rfl, fun wS hwS => ?_⟩) hXS ?_
  rotate_left
  · go_simp; try rfl
  simp only [List.set_cons_zero, List.set_cons_succ]
  refine wpX_hard (k := 3) (by kernel_rfl) rfl (fun K hK => ?_)
  go_simp
  (refine (H2.out _ HKW.out.drew).mono ?_; rintro e w3 ⟨rfl, hb⟩; have HB3 : Hid (KW W w3) := (KW.refl W).drew.t hb)
  refine hK _ _ (fun _ => HSS.out _ HB3.out) ?_
  clear hK K
  try simp only [List.set_cons_zero, List.set_cons_succ]
  clear hXS
  have HA3 := hid (HB3.out.alloc (.cells #[.int .i64 q] 3))
  refine wpX_hard (k := 4) (by kernel_rfl) rfl (fun K hK => ?_)
  go_simp
  refine hK _ _ (fun _ => HSS.out _ HA3.out) ?_
  clear hK K
  try simp only [List.set_cons_zero, List.set_cons_succ]
  have HSz3 : Hid (W.heap.size ≤ w3.heap.size) := HB3.out.size
  refine wpX_appA (k := 5) (by kernel_rfl) rfl rfl rfl sliceInt' rfl (W := w3.alloc (.cells #[.int .i64 q] 3)) (base := base) (q := 1) (n := k) (v := .slice Ao k co) (xs := ints ((List.range k).map f)) (ys := [.int .i64 q]) rfl rfl (holds_one w3 _ 1 _ rfl) ?hown (by have := HB.out; have := HSz.out; have := HSz3.out; simp; omega) (by omega) (by omega) ?_
  case hown =>
    have h := HO.out.on (HKW.out.t HA3.out)
    unfold Owns at h
    rw [HRL.out] at h
    exact h
  intro v' w5 hown hkeep hloc
  have HO5 : Hid (Owns w5 base 3 v' (ints ((List.range (k + 1)).map f))) := by
    rw [HRS.out]
    show World.ownsRow _ _ _ _ _ _ _
    rw [List.length_append, HRL.out]
    exact hown
  have HK5 := hid hkeep
  have HL5 := hid hloc
  clear hown hkeep hloc
  have hne : ∀ i, (Value.slice Ao k co).ownBlock = some i → i ≠ ob ∧ i ≠ w.heap.size := fun i hi => by
    have h1 := HO.out.lt hi
    have h2 := HOB.out
    omega
  have HNE := hid hne
  have HRw : Hid (w5.rowIs ob 25 1 (fun _ => .slice Ao k co)) := HK5.out.row (fun h => (HNE.out _ h).1 rfl) (KW.row (HKW.out.t HA3.out) HR.out.lt HR.out)
  have hSS5 : w5.cell? ⟨w.heap.size, 5, none⟩ = some (.int .i64 a2) ∧ w5.cell? ⟨w.heap.size, 6, none⟩ = some (.int .i64 p2) ∧ w5.cell? ⟨w.heap.size, 7, none⟩ = some (.slice A2 N2 c2) ∧ w5.cell? ⟨ob, 0, none⟩ = some (.slice Ao k co) := by
    have h := HSS.out _ HA3.out
    have hl : w.heap.size < (w3.alloc (.cells #[.int .i64 q] 3)).heap.size := by have := HSz.out; have := HSz3.out; simp; omega
    have hc : ¬ (Value.slice Ao k co).ownBlock = some w.heap.size := fun h => (HNE.out _ h).2 rfl
    exact ⟨(HK5.out.cell hl hc).trans h.1, (HK5.out.cell hl hc).trans h.2.1, (HK5.out.cell hl hc).trans h.2.2.1, HRw.out.cell (i := 0) (by omega)⟩
  clear hne
  refine ⟨fun _ => hSS5, ?_⟩
  try simp only [List.set_cons_zero, List.set_cons_succ]
  have hc0 := hSS5.2.2.2
  have hf0 := HRw.out.frozen 0
  obtain ⟨A6, c6, hv6, hc6, hbb6, _⟩ := HO5.out.row
  rw [ints_range_len] at hv6
  subst hv6
  refine wpX_hard (k := 6) (by kernel_rfl) rfl (fun K hK => ?_)
  go_simp
  refine hK _ _ (fun h => absurd rfl h) ?_
  clear hK K
  refine wpX_done (by kernel_rfl) ?_
  go_wp2_with fail
  have HL6 : Hid (∀ i, (Value.slice A6 (k + 1) c6).ownBlock = some i → (Value.slice Ao k co).ownBlock = some i ∨ w3.heap.size + 1 ≤ i) := fun i hi => by
    rcases HL5.out with h | h
    · exact .inl (h ▸ hi)
    · rw [h] at hi; injection hi with hi; simp at hi; exact .inr (by omega)
  refine bodyPost_end (results_none rfl _ _ _) rfl ?_
  refine ⟨rfl, (fun i => i = ob ∨ (Value.slice A6 (k + 1) c6).ownBlock = some i), ⟨A6, c6, ?_, ?_, HOB.out, fun i => Iff.rfl⟩, ?_, ?_⟩
  · refine (HRw.out.set 0 _).congr fun i hi => ?_
    obtain rfl : i = 0 := by omega
    exact if_pos rfl
  · exact HO5.out.of_blocks fun i hi => heap_setCell_other w5 _ i _ (by have := (HO5.out.lt hi).1; have := HOB.out; show i ≠ ob; omega)
  · exact (((HKW.out.t HA3.out).keep (own := H)).trans HK5.out fun i _ hi => (HH.out i).2 (.inr hi)).setCell _ _ ((HH.out _).2 (.inl rfl))
  · intro i hi
    rcases hi with rfl | hi
    · exact .inl ((HH.out _).2 (.inl rfl))
    · rcases HL6.out i hi with h | h
      · exact .inl ((HH.out _).2 (.inr h))
      · exact .inr (by have := HKW.out.size; have := HSz3.out; omega)

/-- what a list of numbers, or an error, comes to -/
def ListP (w : World) (r : Option (List Int)) (c : Int) (e : Ending) (w' : World) : Prop :=
  (match r with
  | none => e = .returned (.tuple #[.slice none 0 0, .int .i64 c])
  | some xs => ∃ v, e = .returned (.tuple #[v, .int .i64 c]) ∧ Owns w' w.heap.size 3 v (ints xs)) ∧ KW w w'
theorem see_held (l : Int) (n : Nat) (l0 : 0 ≤ l) (l1 : l < 65536) (hn : n ≤ 1048576) (list : List Mc.Act) (hlen : list.length ≤ 1099511627776) (ob : Nat) :
    See 48 #[.pointer (some ⟨ob, 0, none⟩)] (Mc.new l n) list (fun k H w => OutJ ob (ob + 1) (fun k => Mc.hl (Mc.new l n) list (k + 1)) k H w) := by
  refine ⟨fun args W => by kernel_rfl, fun k H w h => h.lt, fun k H w w' O h hk hn => h.keep hk hn, fun k H w va vb hkl _ hJ ha hb _ _ => ?_⟩
  obtain ⟨Aa, ca, rfl, _⟩ := ha
  have hb1 : ob + 1 ≤ w.heap.size := by
    obtain ⟨A, c, hr, _⟩ := hJ
    exact hr.lt
  refine (held1_any ob (ob + 1) _ k H _ _ _ _ _ _ _ vb _ w (by omega) ?_ hb hJ hb1 rfl ⟨_, _, _, rfl⟩).mono fun e w' h => h
  rw [Mc.up_len]
  simpa [Mc.new] using hn
theorem cells1 (w : World) (t : TypeId) (v : Value) : (w.alloc (.cells #[v] t)).rowIs w.heap.size t 1 (fun _ => v) :=
  World.rowIs_alloc w #[v] t _ fun i hi => by
    obtain rfl : i = 0 := by simp at hi; omega
    rfl
theorem outJ_start (w : World) (f : Nat → Int) : OutJ w.heap.size (w.heap.size + 1) f 0 (· = w.heap.size) (w.alloc (.cells #[.slice none 0 0] 25)) :=
  ⟨none, 0, cells1 w _ _, Owns.nil _ _ _, by omega, fun i => by simp [Value.ownBlock]⟩

set_option maxRecDepth 100000 in
theorem pheld_no (l n : Int) (v : Value) (w : World) (h : l < 0 ∨ 65536 ≤ l ∨ n < 0 ∨ 1048576 < n) :
    Calls Try.prog 18 #[.int .i64 l, .int .i64 n, v] w (ListP w none 2) := by
  have HW := hid (fun W f => watch_no l n v f W h)
  have HK := hid ((KW.refl w).alloc (.cells #[.slice none 0 0] 25))
  clear h
  go_enter Try.func18, Try.ntmps18
  go_wp2_with (go_at_call 40; refine (HW.out _ _).mono ?_; rintro e w1 ⟨rfl, rfl⟩)
  go_ret2
  exact ⟨rfl, HK.out⟩
set_option maxRecDepth 100000 in
set_option maxHeartbeats 1000000 in
theorem pheld_yes (l : Int) (n : Nat) (A : Option Addr) (c : Nat) (list : List Mc.Act) (w : World) (l0 : 0 ≤ l) (l1 : l < 65536) (hn : n ≤ 1048576) (hlen : list.length ≤ 1099511627776) (hA : Acts w A list) :
    Calls Try.prog 18 #[.int .i64 l, .int .i64 n, .slice A list.length c] w fun e w' =>
      (Mc.okTo (Mc.new l n) list list.length ∧ ListP w (some ((List.range list.length).map fun k => (Mc.hl (Mc.new l n) list (k + 1) : Int))) 0 e w') ∨ ∃ k, k < list.length ∧ Mc.okTo (Mc.new l n) list k ∧ Mc.er (Mc.new l n) list k ≠ 0 ∧ ListP w none (Mc.er (Mc.new l n) list k) e w' := by
  have HAw := hid (hA.kw ((KW.refl w).alloc (.cells #[.slice none 0 0] 25)))
  have HAb : Hid (0 < list.length → ∀ b off, A = some ⟨b, off, none⟩ → ¬ b = w.heap.size) := fun h0 b off hA' => by
    obtain ⟨b', off', h1, h2, _⟩ := hA h0
    rw [h1] at hA'; cases hA'; omega
  have HWt := hid (watch_yes l n A c list 48 #[.pointer (some ⟨w.heap.size, 0, none⟩)] _ (· = w.heap.size) (w.alloc (.cells #[.slice none 0 0] 25)) l0 l1 hn hlen HAw.out HAb.out (see_held l n l0 l1 hn list hlen w.heap.size) (outJ_start w _))
  unfold WatchP at HWt
  have hk0 : ∀ i, i = w.heap.size → w.heap.size ≤ i := fun i h => by omega
  have HK0 := hid hk0
  clear hA HAw HAb hk0
  generalize Mc.new l n = m0 at *
  generalize hN : list.length = N at *
  clear hN
  go_enter Try.func18, Try.ntmps18
  go_wp2_with fail
  refine HWt.out.mono ?_
  rintro e w1 ⟨hk1, h⟩
  rcases h with ⟨b, v, H, hok, rfl, hm, hj, _, hH⟩ | ⟨k, hk, hok, her, rfl, _⟩
  · obtain ⟨Ao, co, hr, ho, _, hHH⟩ := hj
    have HO := hid ho
    have HOK := hid hok
    have HRn := hid (ints_range_len (fun k => (Mc.hl m0 list (k + 1) : Int)) N)
    have c0 := hr.cell (i := 0) (by omega)
    have HK := hid (((KW.refl w).alloc (.cells #[.slice none 0 0] 25)).kept hk1 HK0.out)
    clear hr ho hHH hm hH hok hk1
    go_wp2_with fail
    go_ret2
    exact .inl ⟨HOK.out, ⟨_, rfl, HO.out.base (by omega)⟩, HK.out⟩
  · have HOK := hid hok
    have HK := hid (((KW.refl w).alloc (.cells #[.slice none 0 0] 25)).kept hk1 HK0.out)
    have HE := hid her
    have HKN := hid hk
    clear hok hk1 hk
    generalize hc : Mc.er m0 list k = er at *
    have HC := hid hc
    clear hc
    have d : (er != 0) = true := by simpa using her
    have d2 : (er == 0) = false := by simpa using her
    clear her
    go_wp2_with fail
    go_ret2
    exact .inr ⟨k, HKN.out, HOK.out, by rw [HC.out]; exact HE.out, by rw [HC.out]; exact ⟨rfl, HK.out⟩⟩
end Go.Proofs.Ytkdamcacmecnaaa
