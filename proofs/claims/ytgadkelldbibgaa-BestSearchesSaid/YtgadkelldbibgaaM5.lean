/- Contracts of machine.New, Spot, Total, Done, Copy. -/
import Derived.Test.YtgadkelldbibgaaM4
import Derived.Test.YtgadkelldbibgaaCopy
import Derived.Test.YtgadkelldbibgaaPlainM2
namespace Go.Proofs.Ytgadkelldbibgaa
open Go.ChangeShapes Go.WideShapes Go.ChangeAt Go.RowKit
set_option linter.unusedVariables false

def ints (l : List Int) : List Value := l.map (Value.int .i64)
theorem ints_len (l : List Int) : (ints l).length = l.length := by simp [ints]
theorem ints_get (l : List Int) {i : Nat} (h : i < l.length) : (ints l)[i]? = some (.int .i64 (l.getD i 0)) := by simp [ints, h]

theorem tbk_own {v : Value} {k : Nat} (h : tbk v = some k) : v.ownBlock = some k := by
  unfold tbk at h
  split at h
  · split at h
    · cases h
    · exact h
  · cases h
theorem Owns.tg {w : World} {base b : Nat} {v : Value} {tags : List Int} (h : Owns w base 3 v (ints tags)) (hb : ∀ k, v.ownBlock = some k → k ≠ b) : Tg w b v tags := by
  obtain ⟨h1, h2⟩ := h
  rw [ints_len] at h2
  rcases h2 with ⟨rfl, h0⟩ | ⟨g, cap, cur, rfl, hg, hc, hcap, _, hsz, htake⟩
  · exact ⟨none, 0, by rw [h0], fun _ => rfl, fun hp => absurd hp (by omega)⟩
  · refine ⟨_, cap, rfl, fun h => (by cases h), fun _ => ⟨g, cap, fun i => cur.getD i undef, rfl, hb g rfl, hcap, ⟨cur, hc, by omega, fun i hi => ?_⟩, fun i hi => ?_⟩⟩
    · show cur[i]? = some (cur.getD i undef)
      rw [Array.getD_eq_getD_getElem?, Array.getElem?_eq_getElem (by omega)]; rfl
    · have e := ints_get tags hi
      rw [← htake, Nat.mul_one, List.getElem?_take_of_lt hi] at e
      show cur.getD i undef = _
      rw [Array.getD_eq_getD_getElem?, ← Array.getElem?_toList, e]; rfl
theorem Tg.holds {w : World} {b : Nat} {v : Value} {tags : List Int} (h : Tg w b v tags) : ∃ A c, v = .slice A tags.length c ∧ Holds w (.slice A tags.length c) tags.length 1 (ints tags) := by
  obtain ⟨A, c, rfl, hz, hx⟩ := h
  refine ⟨A, c, rfl, by rw [ints_len]; omega, fun y hy => ?_, ?_⟩
  · obtain ⟨x, _, rfl⟩ := List.mem_map.1 hy; rfl
  · cases A with
    | none =>
      have h0 : tags.length = 0 := by
        apply Classical.byContradiction
        intro h0
        obtain ⟨tb, N, f, hA, _⟩ := hx (by omega)
        cases hA
      exact .inl ⟨h0, by rw [hz rfl, h0]⟩
    | some a =>
      refine .inr ⟨a, c, rfl, fun j y hj => ?_⟩
      have hlt : j < tags.length := by
        have := (List.getElem?_eq_some_iff.1 hj).1
        rwa [ints_len] at this
      obtain ⟨tb, N, f, hA, _, hN, hr, hf⟩ := hx (by omega)
      cases hA
      have e : (⟨tb, 0, none⟩ : Addr).add j = ⟨tb, j, none⟩ := by unfold Addr.add; split <;> simp_all
      rw [e, hr.cell (by omega), hf j hlt]
      rw [ints_get tags hlt] at hj
      exact hj

/-- a machine that was made -/
def NewP (w : World) (m : Mc.St) (e : Ending) (w' : World) : Prop :=
  ∃ b v, e = .returned (.tuple #[.pointer (some ⟨b, 0, none⟩), .int .i64 0]) ∧ Mach w' b v m ∧ (∀ k, mo b v k → w.heap.size ≤ k) ∧ KW w w'

theorem new_no (l n : Int) (w : World) (h : l < 0 ∨ 65536 ≤ l ∨ n < 0 ∨ 1048576 < n) :
    Calls Try.prog 22 #[.int .i64 l, .int .i64 n] w fun e w' => e = .returned (.tuple #[.pointer none, .int .i64 2]) ∧ w = w' := by
  by_cases hl : 0 ≤ l ∧ l < 65536
  · have HL := hid (fun W => long_any l W)
    rw [show decide (0 ≤ l ∧ l < 65536) = true from decide_eq_true hl] at HL
    by_cases hn : n < 0
    · clear h hl
      go_enter Try.func22, Try.ntmps22
      go_wp2_with (go_at_call 52; refine (HL.out _).mono ?_; rintro e w1 ⟨rfl, rfl⟩)
      go_ret2
      exact ⟨rfl, rfl⟩
    · have d1 : decide (n < 0) = false := decide_eq_false hn
      have d2 : 1048576 < n := by omega
      clear h hl
      go_enter Try.func22, Try.ntmps22
      go_wp2_with (go_at_call 52; refine (HL.out _).mono ?_; rintro e w1 ⟨rfl, rfl⟩)
      go_ret2
      exact ⟨rfl, rfl⟩
  · have HL := hid (fun W => long_any l W)
    rw [show decide (0 ≤ l ∧ l < 65536) = false from decide_eq_false hl] at HL
    clear h hl
    go_enter Try.func22, Try.ntmps22
    go_wp2_with (go_at_call 52; refine (HL.out _).mono ?_; rintro e w1 ⟨rfl, rfl⟩)
    go_ret2
    exact ⟨rfl, rfl⟩

set_option maxHeartbeats 1000000 in
theorem new_yes (l : Int) (n : Nat) (w : World) (l0 : 0 ≤ l) (l1 : l < 65536) (hn : n ≤ 1048576) :
    Calls Try.prog 22 #[.int .i64 l, .int .i64 n] w (NewP w (Mc.new l n)) := by
  have HL := hid (fun W => long_any l W)
  rw [show decide (0 ≤ l ∧ l < 65536) = true from decide_eq_true ⟨l0, l1⟩] at HL
  have d1 : decide (n < 0) = false := by simp
  have d2 : decide ((n : Int) < 0) = false := by simp
  have d3 : decide ((1048576 : Int) < (n : Int)) = false := by simp; omega
  go_enter Try.func22, Try.ntmps22
  go_wp2_with (go_at_call 52; refine (HL.out _).mono ?_; rintro e w1 ⟨rfl, rfl⟩)
  have HRp : Hid (Calls Try.prog 53 #[.slice (some ⟨w.heap.size + 1, 0, none⟩) 1 1, .int .i64 n] ((w.alloc (.cells #[.int .i64 0, .int .i64 (-1), .int .i64 l, .int .i64 0, .slice none 0 0] 88)).alloc (.cells #[.int .i64 (-1)] 3)) (RepP (w.alloc (.cells #[.int .i64 0, .int .i64 (-1), .int .i64 l, .int .i64 0, .slice none 0 0] 88)) n)) := by
    have h := repeat_any n (w.alloc (.cells #[.int .i64 0, .int .i64 (-1), .int .i64 l, .int .i64 0, .slice none 0 0] 88)) hn
    exact hid (by simpa using h)
  have HMr : Hid ((w.alloc (.cells #[.int .i64 0, .int .i64 (-1), .int .i64 l, .int .i64 0, .slice none 0 0] 88)).rowIs w.heap.size 88 5 (mf (Mc.new l 0) (.slice none 0 0))) :=
    World.rowIs_alloc w #[.int .i64 0, .int .i64 (-1), .int .i64 l, .int .i64 0, .slice none 0 0] 88 _ fun i hi => by
      rcases (show i = 0 ∨ i = 1 ∨ i = 2 ∨ i = 3 ∨ i = 4 by simp at hi; omega) with rfl | rfl | rfl | rfl | rfl <;> rfl
  refine HRp.out.mono ?_
  rintro e w1 ⟨tb, rfl, htb, hrow, hk⟩
  have hr5 := KW.row hk HMr.out.lt HMr.out
  have f4 := hr5.frozen 4
  have c4 := hr5.cell (i := 4) (by omega)
  simp only [mf] at c4
  have hsz := hr5.lt
  simp at htb
  have hne : tb ≠ w.heap.size := by omega
  have HR5 := hid hr5
  have HROW := hid hrow
  have HK : Hid (KW w w1) := ((KW.refl w).alloc _).t hk
  have HTB := hid htb
  have HNE := hid hne
  clear hr5 hrow hk htb hne
  go_wp2_with fail
  go_ret2
  refine ⟨w.heap.size, .slice (some ⟨tb, 0, none⟩) n n, rfl, ⟨(HR5.out.set 4 _).congr fun j hj => ?_, ⟨_, _, by simp [Mc.new]; rfl, fun h => (by cases h), fun h0 => ⟨tb, n, _, rfl, HNE.out, by simp [Mc.new], HROW.out.setOther HNE.out _, fun i hi => ?_⟩⟩⟩, ?_, Below.setCell (p := ⟨w.heap.size, 4, none⟩) HK.out (Nat.le_refl _) _⟩
  · rcases (show j = 0 ∨ j = 1 ∨ j = 2 ∨ j = 3 ∨ j = 4 by omega) with rfl | rfl | rfl | rfl | rfl <;> rfl
  · have : i < n := by simpa [Mc.new] using hi
    simp [Mc.new, this]
  · intro k hk
    rcases hk with rfl | hk
    · exact Nat.le_refl _
    · have := tbk_own hk
      simp [Value.ownBlock] at this
      have := HTB.out
      omega

/-- a spot told -/
def SpotP (w : World) (m : Mc.St) (e : Ending) (w' : World) : Prop := ∃ v, e = .returned (.agg #[.int .i64 m.at_, .int .i64 m.pend, v]) ∧ Owns w' w.heap.size 3 v (ints m.tags) ∧ KW w w'
set_option maxHeartbeats 1000000 in
theorem spot_any (m : Mc.St) (b : Nat) (v : Value) (w : World) (hM : Mach w b v m) (hl : m.tags.length ≤ 1048576) :
    Calls Try.prog 23 #[.pointer (some ⟨b, 0, none⟩)] w (SpotP w m) := by
  obtain ⟨A, c, hv, hh⟩ := hM.2.holds
  have c0 := hM.1.cell (i := 0) (by omega)
  have c1 := hM.1.cell (i := 1) (by omega)
  have c4 := hM.1.cell (i := 4) (by omega)
  simp only [mf] at c0 c1 c4
  rw [hv] at c4
  have hlt := hM.size
  have HH := hid hh
  have HC := hid (fun W (hk : KW w W) => clone_any A m.tags.length c (ints m.tags) W hl (hh.kw hk))
  unfold SpotP
  generalize m.at_ = a at *
  generalize m.pend = p at *
  generalize ints m.tags = xs at *
  generalize m.tags.length = N at *
  clear hM hh hv
  go_enter Try.func23, Try.ntmps23
  go_wp2_with fail
  refine wpCode_world (fun W => KW w W ∧ W.rowIs w.heap.size 24 3 (fun i => #[.int .i64 0, .int .i64 0, .slice none 0 0].getD i undef)) ⟨(KW.refl w).alloc _, World.rowIs_alloc w #[.int .i64 0, .int .i64 0, .slice none 0 0] 24 _ fun i hi => by simp at hi; simp [hi]⟩ ?_
  rintro W ⟨hk, hrow⟩
  replace c0 := KW.cell hk hlt c0
  replace c1 := KW.cell hk hlt c1
  replace c4 := KW.cell hk hlt c4
  have hbW : b < W.heap.size := Nat.lt_of_lt_of_le hlt hk.size
  have HK := hid hk
  have HR := hid hrow
  have HB := hid hbW
  clear hk hrow hbW
  have hXS := And.intro c0 (And.intro c1 c4)
  have C := hid hXS
  refine wpX_region (S := fun w' => w'.cell? ⟨b, 0, none⟩ = some (.int .i64 a) ∧ w'.cell? ⟨b, 1, none⟩ = some (.int .i64 p) ∧ w'.cell? ⟨b, 4, none⟩ = some (.slice A N c)) (L := 16) (by kernel_rfl) ?_
  refine wpX_take (i := 0) (v := ?_) rfl rfl (by kernel_rfl) (fun _ _ _ h => h) (Or.inl ⟨rfl, fun wS hwS => ?_⟩) hXS ?_
  rotate_left
  · go_simp; try rfl
  simp only [List.set_cons_zero, List.set_cons_succ]
  refine wpX_take (i := 1) (v := ?_) rfl rfl (by kernel_rfl) (fun _ _ _ h => h) (Or.inl ⟨rfl, fun wS hwS => ?_⟩) hXS ?_
  rotate_left
  · go_simp; try rfl
  simp only [List.set_cons_zero, List.set_cons_succ]
  refine wpX_take (i := 2) (v := ?_) rfl rfl (by kernel_rfl) (fun _ _ _ h => h) (Or.inl ⟨rfl, fun wS hwS => ?_⟩) hXS ?_
  rotate_left
  · go_simp; try rfl
  simp only [List.set_cons_zero, List.set_cons_succ]
  refine wpX_take (i := 3) (v := ?_) rfl rfl (by kernel_rfl) (fun _ _ _ h => h) (Or.inl ⟨rfl, fun wS hwS => ?_⟩) hXS ?_
  rotate_left
  · go_simp; try rfl
  simp only [List.set_cons_zero, List.set_cons_succ]
  refine wpX_take (i := 4) (v := ?_) rfl rfl (by kernel_rfl) (fun _ _ _ h => h) (Or.inl ⟨rfl, fun wS hwS => ?_⟩) hXS ?_
  rotate_left
  · go_simp; try rfl
  simp only [List.set_cons_zero, List.set_cons_succ]
  refine wpX_take (i := 5) (v := ?_) rfl rfl (by kernel_rfl) (fun _ _ _ h => h) (Or.inl ⟨rfl, fun wS hwS => ?_⟩) hXS ?_
  rotate_left
  · go_simp; try rfl
  simp only [List.set_cons_zero, List.set_cons_succ]
  refine wpX_take (i := 6) (v := ?_) rfl rfl (by kernel_rfl) (fun _ _ _ h => h) (Or.inl ⟨rfl, fun wS hwS => ?_⟩) hXS ?_
  rotate_left
  · go_simp; try rfl
  simp only [List.set_cons_zero, List.set_cons_succ]
  refine wpX_take (i := 7) (v := ?_) rfl rfl (by kernel_rfl) (fun _ _ _ h => h) (Or.inl ⟨rfl, fun wS hwS => ?_⟩) hXS ?_
  rotate_left
  · go_simp; try rfl
  simp only [List.set_cons_zero, List.set_cons_succ]
  refine wpX_take (i := 8) (v := ?_) rfl rfl (by kernel_rfl) (fun _ _ _ h => h) (Or.inl ⟨rfl, fun wS hwS => ?_⟩) hXS ?_
  rotate_left
  · go_simp; try rfl
  simp only [List.set_cons_zero, List.set_cons_succ]
  refine wpX_take (i := 9) (v := ?_) rfl rfl (by kernel_rfl) (fun _ _ _ h => h) (Or.inl ⟨rfl, fun wS hwS => ?_⟩) hXS ?_
  rotate_left
  · go_simp; try rfl
  simp only [List.set_cons_zero, List.set_cons_succ]
  refine wpX_take (i := 10) (v := ?_) rfl rfl (by kernel_rfl) (fun _ _ _ h => h) (Or.inl ⟨rfl, fun wS hwS => ?_⟩) hXS ?_
  rotate_left
  · go_simp; try rfl
  simp only [List.set_cons_zero, List.set_cons_succ]
  refine wpX_take (i := 11) (v := ?_) rfl rfl (by kernel_rfl) (fun _ _ _ h => h) (Or.inl ⟨rfl, fun wS hwS => ?_⟩) hXS ?_
  rotate_left
  · go_simp; try rfl
  simp only [List.set_cons_zero, List.set_cons_succ]
  refine wpX_take (i := 12) (v := ?_) rfl rfl (by kernel_rfl) (fun _ _ _ h => h) (Or.inl ⟨rfl, fun wS hwS => ?_⟩) hXS ?_
  rotate_left
  · go_simp; try rfl
  simp only [List.set_cons_zero, List.set_cons_succ]
  refine wpX_take (i := 13) (v := ?_) rfl rfl (by kernel_rfl) (fun _ _ _ h => h) (Or.inl ⟨rfl, fun wS hwS => ?_⟩) hXS ?_
  rotate_left
  · go_simp; try rfl
  simp only [List.set_cons_zero, List.set_cons_succ]
  refine wpX_hard (k := 14) (by kernel_rfl) rfl (fun K hK => ?_)
  go_simp
  (refine (HC.out _ HK.out.drew).mono ?_; rintro e w2 ⟨v2, rfl, ho, hb⟩; obtain ⟨A2, k2, rfl, _⟩ := ho.row; have HO := hid ho; have HB2 := hid hb; clear ho hb)
  refine hK _ _ (fun _ => ⟨KW.cell HB2.out HB.out C.out.1, KW.cell HB2.out HB.out C.out.2.1, KW.cell HB2.out HB.out C.out.2.2⟩) ?_
  clear hK K
  try simp only [List.set_cons_zero, List.set_cons_succ]
  have hXS := And.intro (KW.cell HB2.out HB.out C.out.1) (And.intro (KW.cell HB2.out HB.out C.out.2.1) (KW.cell HB2.out HB.out C.out.2.2))
  refine wpX_take (i := 15) (v := ?_) rfl rfl (by kernel_rfl) (fun _ _ _ h => h) (Or.inl ⟨rfl, fun wS hwS => ?_⟩) hXS ?_
  rotate_left
  · go_simp; try rfl
  simp only [List.set_cons_zero, List.set_cons_succ]
  refine wpX_store_is (k := 16) (by kernel_rfl) rfl rfl rfl 24 _ _ rfl w.heap.size 3 24 _ (fun i => #[.int .i64 a, .int .i64 p, .slice A2 xs.length k2].getD i undef) #[.int .i64 a, .int .i64 p, .slice A2 xs.length k2] rfl rfl (KW.row HB2.out HR.out.lt HR.out) (by kernel_rfl) rfl (fun i hi => by simp [hi]) (fun i hi => ?_) ?_
  · rcases (show i = 0 ∨ i = 1 ∨ i = 2 by omega) with rfl | rfl | rfl <;> rfl
  intro W3 hrow hheap hkeep
  refine ⟨fun h => absurd rfl h, wpX_done (by kernel_rfl) ?_⟩
  have HK3 : Hid (KW w W3) := (HK.out.drew.t HB2.out).kept hkeep fun i hi => by omega
  have HO3 : Hid (Owns W3 w.heap.size 3 (.slice A2 xs.length k2) xs) := by
    have h1 := hkeep.owns HO.out fun i hi h => by
      have := (HO.out.lt hi).1
      have h4 := HR.out.lt
      subst h
      exact absurd (show W.heap.size ≤ w.heap.size from this) (by omega)
    have h2 : w.heap.size ≤ W.heap.size := HK.out.size
    exact h1.base h2
  have HP := hid hheap
  clear hrow hkeep hheap hXS
  go_wp2_with fail
  exact bodyPost_ret (results_cell_row rfl _ _ _ _ _ (0, 0) _ rfl HP.out Try.underlying24 rfl (by kernel_rfl)) rfl ⟨_, rfl, HO3.out, HK3.out⟩
end Go.Proofs.Ytgadkelldbibgaa
