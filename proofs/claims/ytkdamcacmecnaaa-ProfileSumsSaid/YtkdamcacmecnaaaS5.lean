/- Contract of profile.Words. -/
import Derived.Test.YtkdamcacmecnaaaS4
namespace Go.Proofs.Ytkdamcacmecnaaa
open Go.ChangeShapes Go.WideShapes Go.ChangeAt Go.RowKit Go.Maps
set_option linter.unusedVariables false

/-- the words of a tape, by an action's kind -/
def tpv (step loss x : Int) : Int := if x = 7 then step else if x = 6 then step + loss else if x = 5 then loss else 0
def Dw (step loss : Int) : DataW Unit := (((DataW.map []).put (.int .i64 5) (.lit (.int .i64 loss))).put (.int .i64 6) (.lit (.int .i64 (step + loss)))).put (.int .i64 7) (.lit (.int .i64 step))
theorem isKey_int (x : Int) : WideAt.IsKeyLit (.int .i64 x) := by
  first | trivial | (unfold WideAt.IsKeyLit; trivial) | simp [WideAt.IsKeyLit]
theorem Dw_at (step loss x : Int) : (Dw step loss).atKey (.int .i64 x) (.lit (.int .i64 0)) = .lit (.int .i64 (tpv step loss x)) := by
  unfold Dw tpv
  have hne : ∀ a b : Int, a ≠ b → (Lit.int .i64 a) ≠ (Lit.int .i64 b) := fun a b h e => h (Lit.int.inj e).2
  by_cases h7 : x = 7
  · subst h7
    rw [if_pos rfl, atKey_put_same ((isMap_empty.put _ _).put _ _) (isKey_int _)]
  rw [if_neg h7, atKey_put_other (hne _ _ h7)]
  by_cases h6 : x = 6
  · subst h6
    rw [if_pos rfl, atKey_put_same (isMap_empty.put _ _) (isKey_int _)]
  rw [if_neg h6, atKey_put_other (hne _ _ h6)]
  by_cases h5 : x = 5
  · subst h5
    rw [if_pos rfl, atKey_put_same isMap_empty (isKey_int _)]
  rw [if_neg h5, atKey_put_other (hne _ _ h5)]
  rfl
theorem tpv_b (step loss x : Int) (b3 : 0 ≤ step ∧ step ≤ 1048576) (b4 : 0 ≤ loss ∧ loss ≤ 1048576) : 0 ≤ tpv step loss x ∧ tpv step loss x ≤ 2097152 := by
  unfold tpv
  by_cases h7 : x = 7
  · rw [if_pos h7]; omega
  by_cases h6 : x = 6
  · rw [if_neg h7, if_pos h6]; omega
  by_cases h5 : x = 5
  · rw [if_neg h7, if_neg h6, if_pos h5]; omega
  · rw [if_neg h7, if_neg h6, if_neg h5]; omega
theorem wf_small (x : Int) (h0 : 0 ≤ x) (h1 : x ≤ 10) : (Lit.int .i64 x).wf = true := by
  simp [Lit.wf, IntKind.min, IntKind.max, IntKind.signed, IntKind.bits]; omega
/-- what is live at action k -/
def lw (m : Mc.St) (list : List Mc.Act) (fixed slot step loss : Int) (k : Nat) : Int := fixed + slot * ((max (Mc.hl m list k) (Mc.hl m list (k + 1)) : Nat) : Int) + tpv step loss (list.getD k (0, 0)).1
/-- what the closure keeps -/
def WJ (ob base fb sb tv mb : Nat) (f : Nat → Int) (fixed slot step loss : Int) (k : Nat) (H : Nat → Prop) (w : World) : Prop :=
  ∃ Ho, OutJ ob base f k Ho w ∧ (w.rowIs fb 3 1 fun _ => .int .i64 fixed) ∧ (w.rowIs sb 3 1 fun _ => .int .i64 slot) ∧ (w.rowIs tv 73 1 fun _ => .map (some mb)) ∧ w.ownsMap Try.prog 3 (plainElem Try.prog 3) mb 3 (Dw step loss) ∧ ∀ i, H i ↔ Ho i ∨ i = fb ∨ i = sb ∨ i = tv ∨ i = mb
theorem OutJ.own {ob base : Nat} {f : Nat → Int} {k : Nat} {H : Nat → Prop} {w : World} (h : OutJ ob base f k H w) : ∀ i, H i → i = ob ∨ base ≤ i := by
  obtain ⟨A, c, hr, ho, _, hH⟩ := h
  intro i hi
  exact ((hH i).1 hi).imp id fun h => (ho.lt h).1
theorem see_words (l : Int) (n : Nat) (l0 : 0 ≤ l) (l1 : l < 65536) (hn : n ≤ 1048576) (list : List Mc.Act) (hlen : list.length ≤ 1099511627776) (ob base fb sb tv mb : Nat) (fixed slot step loss : Int)
    (hne : ob < base ∧ fb < base ∧ sb < base ∧ tv < base ∧ mb < base) (hno : ob ≠ fb ∧ ob ≠ sb ∧ ob ≠ tv ∧ ob ≠ mb) (b1 : 0 ≤ fixed ∧ fixed ≤ 1048576) (b2 : 0 ≤ slot ∧ slot ≤ 1048576) (b3 : 0 ≤ step ∧ step ≤ 1048576) (b4 : 0 ≤ loss ∧ loss ≤ 1048576) :
    See 41 #[.pointer (some ⟨ob, 0, none⟩), .pointer (some ⟨fb, 0, none⟩), .pointer (some ⟨sb, 0, none⟩), .pointer (some ⟨tv, 0, none⟩)] (Mc.new l n) list (fun k H w => base ≤ w.heap.size ∧ WJ ob base fb sb tv mb (lw (Mc.new l n) list fixed slot step loss) fixed slot step loss k H w) := by
  refine ⟨fun args W => by kernel_rfl, fun k H w h => ?_, fun k H w w' O h hk hn => ?_, fun k H w va vb hkl hok hJ ha hb _ _ => ?_⟩
  · obtain ⟨hbs, Ho, ho, h1, h2, h3, h4, hH⟩ := h
    intro i hi
    rcases (hH i).1 hi with h | rfl | rfl | rfl | rfl
    · exact ho.lt i h
    · exact h1.lt
    · exact h2.lt
    · exact h3.lt
    · exact h4.lt
  · obtain ⟨hbs, Ho, ho, h1, h2, h3, h4, hH⟩ := h
    exact ⟨Nat.le_trans hbs hk.size, Ho, ho.keep hk fun i hi => hn i ((hH i).2 (.inl hi)), hk.row (hn _ ((hH _).2 (by simp))) h1, hk.row (hn _ ((hH _).2 (by simp))) h2, hk.row (hn _ ((hH _).2 (by simp))) h3, hk.map (hn _ ((hH _).2 (by simp))) h4, hH⟩
  · obtain ⟨hbs, Ho, ho, h1, h2, h3, h4, hH⟩ := hJ
    have hlen1 : (Mc.up (Mc.new l n) list k).tags.length ≤ 1048576 := by rw [Mc.up_len]; simpa [Mc.new] using hn
    have hlen2 : (Mc.up (Mc.new l n) list (k + 1)).tags.length ≤ 1048576 := by rw [Mc.up_len]; simpa [Mc.new] using hn
    have hr := (Mc.right_of_er (hok k (by omega))).2
    have htp := tpv_b step loss (list.getD k (0, 0)).1 b3 b4
    refine (words2_any ob base fb sb tv mb _ k Ho _ _ _ _ _ _ fixed slot (tpv step loss (list.getD k (0, 0)).1) va vb _ _ (Dw step loss) w (by omega) hlen1 hlen2 ha hb ho hbs h1 h2 h3 h4 ?_ (Dw_at _ _ _) ⟨hne.2.1, hne.2.2.1, hne.2.2.2.1, hne.2.2.2.2⟩ hno b1 b2 htp rfl).mono fun e w' h => ?_
    · exact wf_small _ (by omega) (by omega)
    · obtain ⟨he, H', ho', hk', hH'⟩ := h
      have hx : ∀ i, i = fb ∨ i = sb ∨ i = tv ∨ i = mb → ¬ Ho i := fun i hi h => by
        rcases ho.own i h with h | h <;> omega
      refine ⟨he, fun i => H' i ∨ i = fb ∨ i = sb ∨ i = tv ∨ i = mb, ⟨Nat.le_trans hbs hk'.size, H', ho', hk'.row (hx _ (by simp)) h1, hk'.row (hx _ (by simp)) h2, hk'.row (hx _ (by simp)) h3, hk'.map (hx _ (by simp)) h4, fun i => Iff.rfl⟩, hk'.mono fun i _ hi => (hH i).2 (.inl hi), fun i hi => ?_⟩
      rcases hi with hi | hi
      · exact (hH' i hi).imp (fun h => (hH i).2 (.inl h)) id
      · exact .inl ((hH i).2 (.inr hi))

theorem row1_4 (w : World) (t : TypeId) (a b c d : Int) : Row1 (w.alloc (.cells #[.int .i64 a, .int .i64 b, .int .i64 c, .int .i64 d] t)) (some ⟨w.heap.size, 0, none⟩) [a, b, c, d].length fun i => .int .i64 ([a, b, c, d].getD i 0) := by
  intro _
  refine ⟨_, 0, rfl, by simp, fun k hk => ?_⟩
  rcases (show k = 0 ∨ k = 1 ∨ k = 2 ∨ k = 3 by simp at hk; omega) with rfl | rfl | rfl | rfl <;> go_simp

set_option maxRecDepth 100000 in
theorem pwords_bad (l n fixed slot step loss : Int) (v : Value) (w : World) (h : [fixed, slot, step, loss].any wbad = true) :
    Calls Try.prog 13 #[.int .i64 l, .int .i64 n, v, .int .i64 fixed, .int .i64 slot, .int .i64 step, .int .i64 loss] w (ListP w none 2) := by
  have HC := hid (fun W => containsf_any 39 #[] wbad [fixed, slot, step, loss] _ 4 _ (by simp) (row1_4 W 3 fixed slot step loss) (fun args W => by kernel_rfl) (fun x _ => words1_any x _))
  rw [h] at HC
  have HK := hid ((((KW.refl w).alloc (.cells #[.int .i64 fixed] 3)).alloc (.cells #[.int .i64 slot] 3)).alloc (.cells #[.int .i64 fixed, .int .i64 slot, .int .i64 step, .int .i64 loss] 3))
  have HC2 := hid (HC.out ((w.alloc (.cells #[.int .i64 fixed] 3)).alloc (.cells #[.int .i64 slot] 3)))
  have HC3 : Hid (Calls Try.prog 38 #[.slice (some ⟨w.heap.size + 1 + 1, 0, none⟩) 4 4, .func (.func 39) #[] #[]] (((w.alloc (.cells #[.int .i64 fixed] 3)).alloc (.cells #[.int .i64 slot] 3)).alloc (.cells #[.int .i64 fixed, .int .i64 slot, .int .i64 step, .int .i64 loss] 3)) fun e w' => e = .returned (.bool true) ∧ (((w.alloc (.cells #[.int .i64 fixed] 3)).alloc (.cells #[.int .i64 slot] 3)).alloc (.cells #[.int .i64 fixed, .int .i64 slot, .int .i64 step, .int .i64 loss] 3)) = w') := by
    have h := HC2.out
    exact hid (by simpa using h)
  clear h HC HC2
  go_enter Try.func13, Try.ntmps13
  go_wp2_with fail
  refine HC3.out.mono ?_
  rintro e w1 ⟨rfl, rfl⟩
  go_wp2_with fail
  go_ret2
  exact ⟨rfl, HK.out⟩

theorem anyw_b {fixed slot step loss : Int} (h : [fixed, slot, step, loss].any wbad = false) : (0 ≤ fixed ∧ fixed ≤ 1048576) ∧ (0 ≤ slot ∧ slot ≤ 1048576) ∧ (0 ≤ step ∧ step ≤ 1048576) ∧ 0 ≤ loss ∧ loss ≤ 1048576 := by
  simp only [List.any_cons, List.any_nil, Bool.or_false, Bool.or_eq_false_iff, wbad, decide_eq_false_iff_not] at h
  omega
theorem wf_word {x : Int} (h0 : 0 ≤ x) (h1 : x ≤ 1099511627776) : (Lit.int .i64 x).wf = true := by
  simp [Lit.wf, IntKind.min, IntKind.max, IntKind.signed, IntKind.bits]; omega
def W0F (w : World) (fixed slot step loss : Int) : Prop :=
  KW w (((((w.alloc (.cells #[.int .i64 fixed] 3)).alloc (.cells #[.int .i64 slot] 3)).alloc (.cells #[.int .i64 fixed, .int .i64 slot, .int .i64 step, .int .i64 loss] 3)).alloc (.cells #[.slice none 0 0] 25)).alloc (.map #[] 0)) ∧
  (((((w.alloc (.cells #[.int .i64 fixed] 3)).alloc (.cells #[.int .i64 slot] 3)).alloc (.cells #[.int .i64 fixed, .int .i64 slot, .int .i64 step, .int .i64 loss] 3)).alloc (.cells #[.slice none 0 0] 25)).alloc (.map #[] 0)).heap.size = w.heap.size + 5 ∧
  ((((((w.alloc (.cells #[.int .i64 fixed] 3)).alloc (.cells #[.int .i64 slot] 3)).alloc (.cells #[.int .i64 fixed, .int .i64 slot, .int .i64 step, .int .i64 loss] 3)).alloc (.cells #[.slice none 0 0] 25)).alloc (.map #[] 0)).rowIs w.heap.size 3 1 fun _ => .int .i64 fixed) ∧
  ((((((w.alloc (.cells #[.int .i64 fixed] 3)).alloc (.cells #[.int .i64 slot] 3)).alloc (.cells #[.int .i64 fixed, .int .i64 slot, .int .i64 step, .int .i64 loss] 3)).alloc (.cells #[.slice none 0 0] 25)).alloc (.map #[] 0)).rowIs (w.heap.size + 1) 3 1 fun _ => .int .i64 slot) ∧
  ((((((w.alloc (.cells #[.int .i64 fixed] 3)).alloc (.cells #[.int .i64 slot] 3)).alloc (.cells #[.int .i64 fixed, .int .i64 slot, .int .i64 step, .int .i64 loss] 3)).alloc (.cells #[.slice none 0 0] 25)).alloc (.map #[] 0)).rowIs (w.heap.size + 1 + 1 + 1) 25 1 fun _ => .slice none 0 0) ∧
  (((((w.alloc (.cells #[.int .i64 fixed] 3)).alloc (.cells #[.int .i64 slot] 3)).alloc (.cells #[.int .i64 fixed, .int .i64 slot, .int .i64 step, .int .i64 loss] 3)).alloc (.cells #[.slice none 0 0] 25)).alloc (.map #[] 0)).ownsMap Try.prog 3 (plainElem (H := Unit) Try.prog 3) (w.heap.size + 1 + 1 + 1 + 1) 0 (.map [])
theorem W0F_of (w : World) (fixed slot step loss : Int) : W0F w fixed slot step loss := by
  have h1 := cells1 w 3 (.int .i64 fixed)
  have h2 := cells1 (w.alloc (.cells #[.int .i64 fixed] 3)) 3 (.int .i64 slot)
  have h3 := cells1 (((w.alloc (.cells #[.int .i64 fixed] 3)).alloc (.cells #[.int .i64 slot] 3)).alloc (.cells #[.int .i64 fixed, .int .i64 slot, .int .i64 step, .int .i64 loss] 3)) 25 (.slice none 0 0)
  have h4 := World.ownsMap_made (H := Unit) ((((w.alloc (.cells #[.int .i64 fixed] 3)).alloc (.cells #[.int .i64 slot] 3)).alloc (.cells #[.int .i64 fixed, .int .i64 slot, .int .i64 step, .int .i64 loss] 3)).alloc (.cells #[.slice none 0 0] 25)) Try.prog 3 (plainElem Try.prog 3)
  exact ⟨(((((KW.refl w).alloc _).alloc _).alloc _).alloc _).alloc _, by simp, (((h1.alloc _).alloc _).alloc _).alloc _, by simpa using ((h2.alloc _).alloc _).alloc _, by simpa using h3.alloc _, by simpa using h4⟩
set_option maxRecDepth 100000 in
set_option maxHeartbeats 1000000 in
/-- where a call of Words stands when it watches -/
theorem pwords_walk (l n : Int) (A : Option Addr) (c N : Nat) (fixed slot step loss : Int) (w : World) (h : [fixed, slot, step, loss].any wbad = false) (R : Ending → World → Prop)
    (hW : ∀ W5 tv, KW w W5 → W5.heap.size = tv + 1 → w.heap.size + 5 ≤ tv → W5.rowIs w.heap.size 3 1 (fun _ => .int .i64 fixed) → W5.rowIs (w.heap.size + 1) 3 1 (fun _ => .int .i64 slot) → W5.rowIs (w.heap.size + 1 + 1 + 1) 25 1 (fun _ => .slice none 0 0) → W5.rowIs tv 73 1 (fun _ => .map (some (w.heap.size + 1 + 1 + 1 + 1))) → W5.ownsMap Try.prog 3 (plainElem Try.prog 3) (w.heap.size + 1 + 1 + 1 + 1) 3 (Dw step loss) →
      Calls Try.prog 40 #[.int .i64 l, .int .i64 n, .slice A N c, .func (.func 41) #[] #[.pointer (some ⟨w.heap.size + 1 + 1 + 1, 0, none⟩), .pointer (some ⟨w.heap.size, 0, none⟩), .pointer (some ⟨w.heap.size + 1, 0, none⟩), .pointer (some ⟨tv, 0, none⟩)]] W5 fun e w' =>
        (∃ p at_ er, er ≠ 0 ∧ e = .returned (.tuple #[p, .int .i64 at_, .int .i64 er]) ∧ R (.returned (.tuple #[.slice none 0 0, .int .i64 er])) w') ∨
        (∃ p at_ Ao k co, e = .returned (.tuple #[p, .int .i64 at_, .int .i64 0]) ∧ w'.cell? ⟨w.heap.size + 1 + 1 + 1, 0, none⟩ = some (.slice Ao k co) ∧ R (.returned (.tuple #[.slice Ao k co, .int .i64 0])) w')) :
    Calls Try.prog 13 #[.int .i64 l, .int .i64 n, .slice A N c, .int .i64 fixed, .int .i64 slot, .int .i64 step, .int .i64 loss] w R := by
  have HC := hid (fun W => containsf_any 39 #[] wbad [fixed, slot, step, loss] _ 4 _ (by simp) (row1_4 W 3 fixed slot step loss) (fun args W => by kernel_rfl) (fun x _ => words1_any x _))
  rw [h] at HC
  obtain ⟨b1, b2, b3, b4⟩ := anyw_b h
  have HC2 := hid (HC.out ((w.alloc (.cells #[.int .i64 fixed] 3)).alloc (.cells #[.int .i64 slot] 3)))
  have HC3 : Hid (Calls Try.prog 38 #[.slice (some ⟨w.heap.size + 1 + 1, 0, none⟩) 4 4, .func (.func 39) #[] #[]] (((w.alloc (.cells #[.int .i64 fixed] 3)).alloc (.cells #[.int .i64 slot] 3)).alloc (.cells #[.int .i64 fixed, .int .i64 slot, .int .i64 step, .int .i64 loss] 3)) fun e w' => e = .returned (.bool false) ∧ (((w.alloc (.cells #[.int .i64 fixed] 3)).alloc (.cells #[.int .i64 slot] 3)).alloc (.cells #[.int .i64 fixed, .int .i64 slot, .int .i64 step, .int .i64 loss] 3)) = w') := by
    have h := HC2.out
    exact hid (by simpa using h)
  have HW := hid hW
  have Hb3 := hid b3
  have Hb4 := hid b4
  have L1 : IntKind.i64.wrap (step + loss) = step + loss := IntWalk.i64_in _ (by omega)
  have hmm := @run_makeMap Try.prog
  clear h HC HC2 hW b1 b2 b3 b4
  go_enter Try.func13, Try.ntmps13
  go_wp2_with fail
  refine HC3.out.mono ?_
  rintro e w1 ⟨rfl, rfl⟩
  have HF : Hid (W0F w fixed slot step loss) := W0F_of w fixed slot step loss
  unfold W0F at HF
  go_wp2_with fail
  obtain ⟨hk0, hz0, hr1, hr2, hr3, hown0⟩ := HF.out
  generalize (((((w.alloc (.cells #[.int .i64 fixed] 3)).alloc (.cells #[.int .i64 slot] 3)).alloc (.cells #[.int .i64 fixed, .int .i64 slot, .int .i64 step, .int .i64 loss] 3)).alloc (.cells #[.slice none 0 0] 25)).alloc (.map #[] 0)) = W0 at *
  obtain ⟨W1, e1, ho1, hg1⟩ := hown0.update (key := .int .i64 5) (val := .int .i64 loss) (d := .lit (.int .i64 loss)) (ps := []) (kl := .int .i64 5) law3 Try.underlying73 (by unfold maxLen; omega) (keyOf_int_mk Try.underlying3 (wf_small _ (by omega) (by omega))) (plainElem_int Try.underlying3 (wf_word Hb4.out.1 (by have := Hb4.out.2; omega)))
  obtain ⟨W2, e2, ho2, hg2⟩ := ho1.update (key := .int .i64 6) (val := .int .i64 (step + loss)) (d := .lit (.int .i64 (step + loss))) (ps := []) (kl := .int .i64 6) law3 Try.underlying73 (by unfold maxLen; omega) (keyOf_int_mk Try.underlying3 (wf_small _ (by omega) (by omega))) (plainElem_int Try.underlying3 (wf_word (by have := Hb3.out.1; have := Hb4.out.1; omega) (by have := Hb3.out.2; have := Hb4.out.2; omega)))
  obtain ⟨W3, e3, ho3, hg3⟩ := ho2.update (key := .int .i64 7) (val := .int .i64 step) (d := .lit (.int .i64 step)) (ps := []) (kl := .int .i64 7) law3 Try.underlying73 (by unfold maxLen; omega) (keyOf_int_mk Try.underlying3 (wf_small _ (by omega) (by omega))) (plainElem_int Try.underlying3 (wf_word Hb3.out.1 (by have := Hb3.out.2; omega)))
  have hg := (hg1.trans hg2).trans hg3
  have hkeep : Keep (· = w.heap.size + 1 + 1 + 1 + 1) W0 W3 := ⟨hg.os, hg.tape, hg.output, hg.size, fun i hi hn => hg.block i hi fun e => hn (Option.some.inj e)⟩
  have HZ : Hid (w.heap.size + 5 ≤ W3.heap.size) := by have := hg.size; exact hid (by omega)
  have HK3 : Hid (KW w W3) := hk0.kept hkeep fun i hi => by omega
  have HR1 := hid (hkeep.row (by omega) hr1)
  have HR2 := hid (hkeep.row (by omega) hr2)
  have HR3 := hid (hkeep.row (by omega) hr3)
  have HO3 := hid ho3
  clear hg hkeep ho1 ho2 ho3 hg1 hg2 hg3 hk0 hz0 hr1 hr2 hr3 hown0 HF hmm
  rw [e1]
  simp only [Result.andThen_ok, Oper.upon_skip]
  go_wp2_with fail
  refine (HW.out (W3.alloc (.cells #[.map (some (w.heap.size + 1 + 1 + 1 + 1))] 73)) W3.heap.size (HK3.out.alloc _) (by simp) HZ.out (HR1.out.alloc _) (HR2.out.alloc _) (HR3.out.alloc _) (cells1 W3 _ _) (HO3.out.alloc _)).mono ?_
  intro e w' h
  rcases h with ⟨p, at_, er, hne, rfl, hR⟩ | ⟨p, at_, Ao, k, co, rfl, hc, hR⟩
  · have HRR := hid hR
    have d : (er != 0) = true := by simpa using hne
    have d2 : (er == 0) = false := by simpa using hne
    clear hR hne
    go_wp2_with fail
    exact HRR.out
  · have HRR := hid hR
    clear hR
    go_wp2_with fail
    exact HRR.out

theorem pwords_no (l n fixed slot step loss : Int) (A : Option Addr) (c N : Nat) (w : World) (hb : [fixed, slot, step, loss].any wbad = false) (h : l < 0 ∨ 65536 ≤ l ∨ n < 0 ∨ 1048576 < n) :
    Calls Try.prog 13 #[.int .i64 l, .int .i64 n, .slice A N c, .int .i64 fixed, .int .i64 slot, .int .i64 step, .int .i64 loss] w (ListP w none 2) :=
  pwords_walk l n A c N fixed slot step loss w hb _ fun W5 tv hk _ _ _ _ _ _ _ => (watch_no l n _ _ W5 h).mono fun e w' ⟨he, hw⟩ => .inl ⟨_, _, 2, by decide, he, rfl, hw ▸ hk⟩
set_option maxRecDepth 100000 in
theorem pwords_yes (l : Int) (n : Nat) (A : Option Addr) (c : Nat) (list : List Mc.Act) (fixed slot step loss : Int) (w : World) (hb : [fixed, slot, step, loss].any wbad = false) (l0 : 0 ≤ l) (l1 : l < 65536) (hn : n ≤ 1048576) (hlen : list.length ≤ 1099511627776) (hA : Acts w A list) :
    Calls Try.prog 13 #[.int .i64 l, .int .i64 n, .slice A list.length c, .int .i64 fixed, .int .i64 slot, .int .i64 step, .int .i64 loss] w fun e w' =>
      (Mc.okTo (Mc.new l n) list list.length ∧ ListP w (some ((List.range list.length).map (lw (Mc.new l n) list fixed slot step loss))) 0 e w') ∨ ∃ k, k < list.length ∧ Mc.okTo (Mc.new l n) list k ∧ Mc.er (Mc.new l n) list k ≠ 0 ∧ ListP w none (Mc.er (Mc.new l n) list k) e w' := by
  obtain ⟨b1, b2, b3, b4⟩ := anyw_b hb
  refine pwords_walk l n A c list.length fixed slot step loss w hb _ fun W5 tv hk hz htv r1 r2 r3 r4 hm => ?_
  have hbs : W5.heap.size = tv + 1 := hz
  have hJ0 : OutJ (w.heap.size + 1 + 1 + 1) W5.heap.size (lw (Mc.new l n) list fixed slot step loss) 0 (· = w.heap.size + 1 + 1 + 1) W5 :=
    ⟨none, 0, r3, Owns.nil _ _ _, by omega, fun i => by simp [Value.ownBlock]⟩
  refine (watch_yes l n A c list _ _ _ (fun i => i = w.heap.size + 1 + 1 + 1 ∨ i = w.heap.size ∨ i = w.heap.size + 1 ∨ i = tv ∨ i = w.heap.size + 1 + 1 + 1 + 1) W5 l0 l1 hn hlen (hA.kw hk) ?_
    (see_words l n l0 l1 hn list hlen (w.heap.size + 1 + 1 + 1) W5.heap.size w.heap.size (w.heap.size + 1) tv (w.heap.size + 1 + 1 + 1 + 1) fixed slot step loss (by omega) (by omega) b1 b2 b3 b4) ⟨Nat.le_refl _, _, hJ0, r1, r2, r4, hm, fun i => Iff.rfl⟩).mono ?_
  · intro h0 b off hA'
    obtain ⟨b', off', h1, h2, _⟩ := hA h0
    rw [h1] at hA'; cases hA'; omega
  rintro e w' ⟨hk1, h⟩
  have hkw : KW w w' := hk.kept hk1 fun i hi => by omega
  rcases h with ⟨b, v, H, hok, rfl, hm', ⟨_, Ho, ho, _⟩, _, hH⟩ | ⟨k, hk', hok, her, rfl, _⟩
  · obtain ⟨Ao, co, hr, how, _, hHH⟩ := ho
    exact .inr ⟨_, _, _, _, _, rfl, hr.cell (i := 0) (by omega), .inl ⟨hok, ⟨_, rfl, how.base (by omega)⟩, hkw⟩⟩
  · exact .inl ⟨_, _, _, her, rfl, .inr ⟨k, hk', hok, her, rfl, hkw⟩⟩
end Go.Proofs.Ytkdamcacmecnaaa
