/- Contract of stride.Next. -/
import Derived.Test.YtkdamcacmecnaaaT4
import Derived.Test.YtkdamcacmecnaaaN8
namespace Go.Proofs.Ytkdamcacmecnaaa
open Go.ChangeShapes Go.WideShapes Go.ChangeAt Go.RowKit
set_option linter.unusedVariables false

theorem blk_lt {w : World} {b : Nat} {o : Obj} (h : w.heap[b]? = some o) : b < w.heap.size := (Array.getElem?_eq_some_iff.1 h).1
theorem KW.blk {w W : World} {b : Nat} {o : Obj} (h : KW w W) (hlt : b < w.heap.size) (c : w.heap[b]? = some o) : W.heap[b]? = some o := (Below.block h b hlt).trans c
/-- a spot's boxes, and the answer's cell -/
def nx0 (w : World) (a p : Int) (v : Value) : World := (w.alloc (.cells #[.int .i64 a, .int .i64 p, v] 53)).alloc (.cells #[.int .i64 0, .int .i64 0] 55)
theorem nx0_row (w : World) (a p : Int) (v : Value) : (nx0 w a p v).rowIs (w.heap.size + 1) 55 2 (actF 0 0) := by
  unfold nx0
  have h := World.rowIs_alloc (w.alloc (.cells #[.int .i64 a, .int .i64 p, v] 53)) #[.int .i64 0, .int .i64 0] 55 (actF 0 0) fun i hi => by
    rcases (show i = 0 ∨ i = 1 by simp at hi; omega) with rfl | rfl <;> rfl
  simpa using h
theorem nx0_blk (w : World) (a p : Int) (v : Value) : (nx0 w a p v).heap[w.heap.size]? = some (.cells #[.int .i64 a, .int .i64 p, v] 53 (0, 0)) :=
  KW.blk ((KW.refl (w.alloc (.cells #[.int .i64 a, .int .i64 p, v] 53))).alloc _) (by simp) (heap_alloc_new w _)
theorem nx0_kw (w : World) (a p : Int) (v : Value) : KW w (nx0 w a p v) := ((KW.refl w).alloc _).alloc _

set_option maxRecDepth 100000 in
set_option maxHeartbeats 2000000 in
theorem snext_no1 (k : Int) (ended : Bool) (a p : Int) (N c : Nat) (A : Option Addr) (w : World)
    (h : ∀ W, KW w W → Calls Try.prog 51 #[.int .i64 k, .agg #[.int .i64 a, .int .i64 p, .slice A N c]] W fun e w' => e = .returned (.tuple #[.pointer none, .int .i64 2]) ∧ KW W w') :
    Calls Try.prog 27 #[.int .i64 k, .bool ended, .agg #[.int .i64 a, .int .i64 p, .slice A N c]] w (AnsP w none) := by
  have H := hid h
  have HF := hid (nx0_row w a p (.slice A N c))
  have HK := hid (nx0_kw w a p (.slice A N c))
  clear h
  unfold nx0 at HF HK
  go_enter Try.func27, Try.ntmps27
  go_wp2_with fail
  refine (H.out _ HK.out).mono ?_
  rintro e w1 ⟨rfl, hk1⟩
  have HF1 := hid (KW.row hk1 HF.out.lt HF.out)
  have HK1 := hid (HK.out.t hk1)
  clear hk1
  go_wp2_with fail
  refine (nothing_any _).mono ?_
  rintro e w2 ⟨rfl, hk2⟩
  have HF2 := hid (KW.row hk2 HF1.out.lt HF1.out)
  have HK2 := hid (HK1.out.t hk2)
  clear hk2
  go_wp2_with (refine store_act rfl rfl rfl rfl HF2.out ?_; intro W2 hb2 hkeep)
  exact bodyPost_ret (results_cell_tmp rfl _ _ _ _ _ (0, 0) _ rfl hb2 Try.underlying55 rfl (by kernel_rfl)) rfl ⟨rfl, HK2.out.kept hkeep fun i hi => by omega⟩
set_option maxRecDepth 100000 in
set_option maxHeartbeats 2000000 in
theorem snext_no2 (k : Int) (ended : Bool) (a p : Int) (c : Nat) (A : Option Addr) (w : World) (m : Mc.St)
    (h : ∀ W, KW w W → Calls Try.prog 51 #[.int .i64 k, .agg #[.int .i64 a, .int .i64 p, .slice A 0 c]] W (NewP W m)) :
    Calls Try.prog 27 #[.int .i64 k, .bool ended, .agg #[.int .i64 a, .int .i64 p, .slice A 0 c]] w (AnsP w none) := by
  have H := hid h
  have HF := hid (nx0_row w a p (.slice A 0 c))
  have HB := hid (nx0_blk w a p (.slice A 0 c))
  have HK := hid (nx0_kw w a p (.slice A 0 c))
  clear h
  unfold nx0 at HF HK HB
  go_enter Try.func27, Try.ntmps27
  go_wp2_with fail
  refine (H.out _ HK.out).mono ?_
  rintro e w1 ⟨mb, mv, rfl, _, _, hk1⟩
  have HF1 := hid (KW.row hk1 HF.out.lt HF.out)
  have HB1 := hid (KW.blk hk1 (blk_lt HB.out) HB.out)
  have c2 : w1.cell? ⟨w.heap.size, 2, none⟩ = some (.slice A 0 c) := by rw [cell_of_row _ _ _ _ _ _ HB1.out]; rfl
  have HK1 := hid (HK.out.t hk1)
  clear hk1
  go_wp2_with fail
  refine (nothing_any _).mono ?_
  rintro e w2 ⟨rfl, hk2⟩
  have HF2 := hid (KW.row hk2 HF1.out.lt HF1.out)
  have HK2 := hid (HK1.out.t hk2)
  clear hk2
  go_wp2_with (refine store_act rfl rfl rfl rfl HF2.out ?_; intro W2 hb2 hkeep)
  exact bodyPost_ret (results_cell_tmp rfl _ _ _ _ _ (0, 0) _ rfl hb2 Try.underlying55 rfl (by kernel_rfl)) rfl ⟨rfl, HK2.out.kept hkeep fun i hi => by omega⟩
set_option maxRecDepth 100000 in
set_option maxHeartbeats 2000000 in
theorem snext_on (k : Int) (ended : Bool) (a p : Int) (N c : Nat) (A : Option Addr) (w : World) (m : Mc.St) (hN : 1 ≤ N) (r : Option Mc.Act)
    (h : ∀ W, KW w W → Calls Try.prog 51 #[.int .i64 k, .agg #[.int .i64 a, .int .i64 p, .slice A N c]] W (NewP W m))
    (hp : p < 0 ∧ (∀ W, KW w W → Calls Try.prog 53 #[.int .i64 k, .bool ended, .agg #[.int .i64 a, .int .i64 p, .slice A N c]] W (AnsP W r)) ∨
      0 ≤ p ∧ ∀ W, KW w W → Calls Try.prog 54 #[.agg #[.int .i64 a, .int .i64 p, .slice A N c]] W (AnsP W r)) :
    Calls Try.prog 27 #[.int .i64 k, .bool ended, .agg #[.int .i64 a, .int .i64 p, .slice A N c]] w (AnsP w r) := by
  have H := hid h
  have HF := hid (nx0_row w a p (.slice A N c))
  have HB := hid (nx0_blk w a p (.slice A N c))
  have HK := hid (nx0_kw w a p (.slice A N c))
  have hN2 : ((N : Int) == 0) = false := by simp; omega
  have hN3 : (N == 0) = false := by simp; omega
  clear h
  unfold nx0 at HF HK HB
  have HPs := hid hp
  clear hp
  unfold AnsP at *
  generalize hx : (r.getD (0, 0)).1 = x at *
  generalize hy : (r.getD (0, 0)).2 = y at *
  generalize r.isSome = bb at *
  clear hx hy
  go_enter Try.func27, Try.ntmps27
  go_wp2_with fail
  refine (H.out _ HK.out).mono ?_
  rintro e w1 ⟨mb, mv, rfl, _, _, hk1⟩
  have HF1 := hid (KW.row hk1 HF.out.lt HF.out)
  have HB1 := hid (KW.blk hk1 (blk_lt HB.out) HB.out)
  have c2 : w1.cell? ⟨w.heap.size, 2, none⟩ = some (.slice A N c) := by rw [cell_of_row _ _ _ _ _ _ HB1.out]; rfl
  have c1 : w1.cell? ⟨w.heap.size, 1, none⟩ = some (.int .i64 p) := by rw [cell_of_row _ _ _ _ _ _ HB1.out]; rfl
  have HK1 := hid (HK.out.t hk1)
  clear hk1
  rcases HPs.out with ⟨hp, hP⟩ | ⟨hp, hP⟩
  · have HP := hid hP
    clear hP
    go_wp2_with (refine wpList_load_row rfl 53 _ rfl w.heap.size rfl 53 _ (0, 0) _ HB1.out Try.underlying53 rfl (by kernel_rfl) ?_)
    refine (HP.out _ HK1.out).mono ?_
    rintro e w2 ⟨rfl, hk2⟩
    have HF2 := hid (KW.row hk2 HF1.out.lt HF1.out)
    have HK2 := hid (HK1.out.t hk2)
    clear hk2
    go_wp2_with (refine store_act rfl rfl rfl rfl HF2.out ?_; intro W2 hb2 hkeep)
    exact bodyPost_ret (results_cell_tmp rfl _ _ _ _ _ (0, 0) _ rfl hb2 Try.underlying55 rfl (by kernel_rfl)) rfl ⟨rfl, HK2.out.kept hkeep fun i hi => by omega⟩
  · have HP := hid hP
    clear hP
    have dp : decide (p < 0) = false := decide_eq_false (by omega)
    go_wp2_with (refine wpList_load_row rfl 53 _ rfl w.heap.size rfl 53 _ (0, 0) _ HB1.out Try.underlying53 rfl (by kernel_rfl) ?_)
    refine (HP.out _ HK1.out).mono ?_
    rintro e w2 ⟨rfl, hk2⟩
    have HF2 := hid (KW.row hk2 HF1.out.lt HF1.out)
    have HK2 := hid (HK1.out.t hk2)
    clear hk2
    go_wp2_with (refine store_act rfl rfl rfl rfl HF2.out ?_; intro W2 hb2 hkeep)
    exact bodyPost_ret (results_cell_tmp rfl _ _ _ _ _ (0, 0) _ rfl hb2 Try.underlying55 rfl (by kernel_rfl)) rfl ⟨rfl, HK2.out.kept hkeep fun i hi => by omega⟩

/-- the tags of a spot in memory, as they come in -/
def RTz (w : World) (v : Value) (tags : List Int) : Prop := ∃ A c, v = .slice A tags.length c ∧ (A = none → c = 0) ∧ Row1 w A tags.length fun i => .int .i64 (tags.getD i 0)
theorem RTz.kw {w w' : World} {v : Value} {tags : List Int} (h : RTz w v tags) (hk : KW w w') : RTz w' v tags := by
  obtain ⟨A, c, hv, hz, hr⟩ := h
  exact ⟨A, c, hv, hz, hr.k hk⟩
theorem RTz.rt0 {w : World} {v : Value} {tags : List Int} (h : RTz w v tags) : RT0 w v tags := by
  obtain ⟨A, c, hv, _, hr⟩ := h
  exact ⟨A, c, hv, hr⟩
theorem Owns.rtz {w : World} {base : Nat} {v : Value} {tags : List Int} (h : Owns w base 3 v (ints tags)) : RTz w v tags := by
  obtain ⟨A, c, hv, hr⟩ := h.rt.rt0
  refine ⟨A, c, hv, fun hA => ?_, hr⟩
  rcases h.2 with ⟨h1, _⟩ | ⟨g, cap, cur, h1, _⟩
  · rw [hv] at h1; simp only [Value.slice.injEq] at h1; exact h1.2.2
  · rw [hv, hA] at h1; cases h1
theorem snext_any (k : Int) (ended : Bool) (a p : Int) (tags : List Int) (v : Value) (w : World) (hv : RTz w v tags) :
    Calls Try.prog 27 #[.int .i64 k, .bool ended, .agg #[.int .i64 a, .int .i64 p, v]] w (AnsP w (Sd.nx k ended a p tags)) := by
  have hv0 := hv
  obtain ⟨A, c, rfl, hz, hr⟩ := hv
  by_cases hat : (0 ≤ k ∧ k < 65536) ∧ (0 ≤ a ∧ a ≤ k) ∧ (-1 ≤ p ∧ p ≤ k) ∧ tags.length ≤ 1048576 ∧ ∀ i, i < tags.length → -1 ≤ tags.getD i 0 ∧ tags.getD i 0 ≤ k
  · obtain ⟨hk, ha, hp, hn, ht⟩ := hat
    have hAt : ∀ W, KW w W → Calls Try.prog 51 #[.int .i64 k, .agg #[.int .i64 a, .int .i64 p, .slice A tags.length c]] W (NewP W ⟨k, a, p, 0, tags⟩) := fun W h =>
      at_yes k a p tags _ W hk.1 hk.2 ha.1 ha.2 hp.1 hp.2 hn (fun x hx => by
        obtain ⟨i, hi, rfl⟩ := List.mem_iff_getElem.1 hx
        have := ht i hi
        simpa [hi] using this) ⟨A, c, rfl, hz, hr.k h⟩
    by_cases h0 : tags.length = 0
    · have e : Sd.nx k ended a p tags = none := by
        rw [Sd.nx_eq, if_pos]
        intro h
        have := h.2.2.2.1
        omega
      rw [e]
      rw [h0] at hAt ⊢
      exact snext_no2 k ended a p c A w _ hAt
    · have hok : Sd.okS k a p tags := ⟨hk, ha, hp, ⟨by omega, hn⟩, ht⟩
      rw [Sd.nx_eq, if_neg (not_not_intro hok)]
      refine snext_on k ended a p tags.length c A w _ (by omega) _ hAt ?_
      by_cases h1 : p < 0
      · rw [if_pos h1]
        exact .inl ⟨h1, fun W h => sahead_any k ended a p tags A c W hk.1 hk.2 ha.1 ha.2 (by omega) hn (fun i hi => (ht i hi).1) (hr.k h)⟩
      · rw [if_neg h1]
        exact .inr ⟨by omega, fun W h => sback_any a p tags A c W (by omega) (by omega) ha.1 (by omega) hn (fun i hi => by have := ht i hi; omega) (hr.k h)⟩
  · have e : Sd.nx k ended a p tags = none := by
      rw [Sd.nx_eq, if_pos]
      rintro ⟨h1, h2, h3, h4, h5⟩
      exact hat ⟨h1, h2, h3, h4.2, h5⟩
    rw [e]
    refine snext_no1 k ended a p tags.length c A w fun W h => at_no k a p tags.length c tags A W rfl (hr.k h) ?_
    apply Classical.byContradiction
    intro hno
    simp only [not_or, offB] at hno
    obtain ⟨q1, q2, q3, q4, q5, q6⟩ := hno
    simp only [decide_eq_true_eq] at q4 q5
    refine hat ⟨by omega, by omega, by omega, by omega, fun i hi => ?_⟩
    have : ¬ (tags.getD i 0 < -1 ∨ k < tags.getD i 0) := fun h => q6 ⟨i, hi, by simpa using h⟩
    omega
end Go.Proofs.Ytkdamcacmecnaaa
