/- Contract of the reference's Spots. -/
import Derived.Test.YtkdamcacmecnaaaS5
namespace Go.Proofs.Ytkdamcacmecnaaa
open Go.ChangeShapes Go.WideShapes Go.ChangeAt Go.RowKit
set_option linter.unusedVariables false

theorem meet3' {α β γ : Type} (R : α → β → γ → Prop) {G : α → β → γ → Prop} {A B : Prop} (hA : (∀ x y z, R x y z → G x y z) → A) (hB : (∀ x y z, R x y z → G x y z) → B) (hG : ∀ x y z, R x y z → G x y z) : A ∧ B := ⟨hA hG, hB hG⟩
theorem sliceSpot : SliceOfS Try.prog 79 53 (.agg #[.int .i64 0, .int .i64 0, .slice none 0 0]) 3 40 := ⟨Try.underlying79, by kernel_rfl, rfl, by omega⟩
/-- xs are the first K spots of a list's -/
def SpotsL (w : World) (m0 : Mc.St) (list : List Mc.Act) (xs : List Value) (K : Nat) : Prop :=
  xs.length = K * 3 ∧ ∀ j, j < K → ∃ v, xs[j * 3]? = some (.int .i64 (Mc.up m0 list j).at_) ∧ xs[j * 3 + 1]? = some (.int .i64 (Mc.up m0 list j).pend) ∧ xs[j * 3 + 2]? = some v ∧ RT w v (Mc.up m0 list j).tags
theorem SpotsL.keep {w w' : World} {m0 : Mc.St} {list : List Mc.Act} {xs : List Value} {K : Nat} (h : SpotsL w m0 list xs K) (f : ∀ v tags, RT w v tags → RT w' v tags) : SpotsL w' m0 list xs K :=
  ⟨h.1, fun j hj => by obtain ⟨v, h1, h2, h3, h4⟩ := h.2 j hj; exact ⟨v, h1, h2, h3, f _ _ h4⟩⟩
theorem SpotsL.app {w : World} {m0 : Mc.St} {list : List Mc.Act} {xs : List Value} {K : Nat} {v : Value} (h : SpotsL w m0 list xs K) (hv : RT w v (Mc.up m0 list K).tags) : SpotsL w m0 list (xs ++ [.int .i64 (Mc.up m0 list K).at_, .int .i64 (Mc.up m0 list K).pend, v]) (K + 1) := by
  refine ⟨by rw [List.length_append, h.1]; simp; omega, fun j hj => ?_⟩
  by_cases e : j = K
  · subst e
    refine ⟨v, ?_, ?_, ?_, hv⟩
    · rw [List.getElem?_append_right (by rw [h.1]; omega), h.1, show j * 3 - j * 3 = 0 by omega]; rfl
    · rw [List.getElem?_append_right (by rw [h.1]; omega), h.1, show j * 3 + 1 - j * 3 = 1 by omega]; rfl
    · rw [List.getElem?_append_right (by rw [h.1]; omega), h.1, show j * 3 + 2 - j * 3 = 2 by omega]; rfl
  · obtain ⟨u, h1, h2, h3, h4⟩ := h.2 j (by omega)
    refine ⟨u, ?_, ?_, ?_, h4⟩
    · rw [List.getElem?_append_left (by rw [h.1]; omega)]; exact h1
    · rw [List.getElem?_append_left (by rw [h.1]; omega)]; exact h2
    · rw [List.getElem?_append_left (by rw [h.1]; omega)]; exact h3
/-- spots in memory -/
def SpotsM (w : World) (base : Nat) (v : Value) (m0 : Mc.St) (list : List Mc.Act) (K : Nat) : Prop := ∃ xs, w.ownsRow base 53 3 v K xs ∧ SpotsL w m0 list xs K
theorem SpotsM.keep {own : Nat → Prop} {w w' : World} {base : Nat} {v : Value} {m0 : Mc.St} {list : List Mc.Act} {K : Nat} (h : SpotsM w base v m0 list K) (hk : Keep own w w') (hn : ∀ i, v.ownBlock = some i → ¬ own i) (f : ∀ v tags, RT w v tags → RT w' v tags) : SpotsM w' base v m0 list K := by
  obtain ⟨xs, ho, hs⟩ := h
  refine ⟨xs, ?_, hs.keep f⟩
  refine ⟨ho.1, ?_⟩
  rcases ho.2 with hx | ⟨g, cap, cur, rfl, hb, hg, rest⟩
  · exact .inl hx
  · exact .inr ⟨g, cap, cur, rfl, hb, (hk.block g (Array.getElem?_eq_some_iff.1 hg).1 (hn g rfl)).trans hg, rest⟩
theorem SpotsM.kw {w w' : World} {base : Nat} {v : Value} {m0 : Mc.St} {list : List Mc.Act} {K : Nat} (h : SpotsM w base v m0 list K) (hk : KW w w') : SpotsM w' base v m0 list K :=
  h.keep (hk.keep (own := fun _ => False)) (fun _ _ h => h) fun _ _ h => h.kw hk
theorem ty_ne {w : World} {A : Option Addr} {n : Nat} (h : Ty w A n) {i : Nat} {cs : Array Value} {t : TypeId} {fr : Nat × Nat} (hi : w.heap[i]? = some (.cells cs t fr)) (ht : t ≠ 3) : 0 < n → ∀ b off, A = some ⟨b, off, none⟩ → ¬ b = i := by
  rintro h0 b off hA rfl
  obtain ⟨b', off', cs', fr', hA', hb⟩ := h h0
  rw [hA] at hA'
  cases hA'
  rw [hi] at hb
  injection hb with hb
  injection hb with _ hb
  exact ht hb
theorem RT.keepT {w w' : World} {v : Value} {tags : List Int} {own : Nat → Prop} (h : RT w v tags) (hk : Keep own w w') (ho : ∀ i, own i → ∃ cs t fr, w.heap[i]? = some (.cells cs t fr) ∧ t ≠ 3) : RT w' v tags := by
  obtain ⟨A, c, hv, hr, ht⟩ := h
  have hne : 0 < tags.length → ∀ b off, A = some ⟨b, off, none⟩ → ¬ own b := fun h0 b off hA hb => by
    obtain ⟨cs, t, fr, h1, h2⟩ := ho b hb
    exact ty_ne ht h1 h2 h0 b off hA rfl
  exact ⟨A, c, hv, fun h0 => hk.row1 hr (fun b off hA => hne h0 b off hA) h0, ht.keep hk hne⟩
theorem own_cells {w : World} {base n : Nat} {v : Value} {xs : List Value} {e : TypeId} {size : Nat} (h : w.ownsRow base e size v n xs) : ∀ i, v.ownBlock = some i → ∃ cs t fr, w.heap[i]? = some (.cells cs t fr) ∧ t = e := by
  intro i hi
  rcases h.2 with ⟨rfl, _⟩ | ⟨g, cap, cur, rfl, _, hg, _⟩
  · cases hi
  · injection hi with hi
    subst hi
    exact ⟨cur, e, _, hg, rfl⟩
theorem SpotsM.base {w : World} {base base' : Nat} {v : Value} {m0 : Mc.St} {list : List Mc.Act} {K : Nat} (h : SpotsM w base v m0 list K) (hb : base' ≤ base) : SpotsM w base' v m0 list K := by
  obtain ⟨xs, ho, hs⟩ := h
  exact ⟨xs, ⟨ho.1, ho.2.imp id fun ⟨g, cap, cur, hv, hg, r⟩ => ⟨g, cap, cur, hv, Nat.le_trans hb hg, r⟩⟩, hs⟩
theorem SpotsM.slice {w : World} {base : Nat} {v : Value} {m0 : Mc.St} {list : List Mc.Act} {K : Nat} (h : SpotsM w base v m0 list K) : ∃ A c, v = .slice A K c := by
  obtain ⟨xs, ho, hs⟩ := h
  rcases ho.2 with ⟨rfl, h0⟩ | ⟨g, cap, cur, rfl, _⟩
  · exact ⟨none, 0, by rw [h0]⟩
  · exact ⟨_, _, rfl⟩
theorem SpotsM.one {w : World} {m0 : Mc.St} {list : List Mc.Act} {v : Value} (h : RT w v m0.tags) : SpotsM (w.alloc (.cells #[.int .i64 m0.at_, .int .i64 m0.pend, v] 53)) w.heap.size (.slice (some ⟨w.heap.size, 0, none⟩) 1 1) m0 list 1 := by
  refine ⟨[.int .i64 m0.at_, .int .i64 m0.pend, v], ⟨rfl, .inr ⟨w.heap.size, 1, _, rfl, Nat.le_refl _, heap_alloc_new w _, Nat.le_refl _, by unfold maxLen; omega, rfl, rfl⟩⟩, rfl, fun j hj => ?_⟩
  obtain rfl : j = 0 := by omega
  exact ⟨v, rfl, rfl, rfl, h.kw ((KW.refl w).alloc _)⟩
theorem SpotsM.app {w0 w' : World} {base : Nat} {v v' u : Value} {m0 : Mc.St} {list : List Mc.Act} {K : Nat} (h : SpotsM w0 base v m0 list K) (hu : RT w0 u (Mc.up m0 list K).tags) (hf : ∀ v tags, RT w0 v tags → RT w' v tags)
    (ho : ∀ xs, w0.ownsRow base 53 3 v K xs → w'.ownsRow base 53 3 v' (K + 1) (xs ++ [.int .i64 (Mc.up m0 list K).at_, .int .i64 (Mc.up m0 list K).pend, u])) : SpotsM w' base v' m0 list (K + 1) := by
  obtain ⟨xs, h1, h2⟩ := h
  exact ⟨_, ho xs h1, (h2.app hu).keep hf⟩
theorem ownsRow_inj {w : World} {base n size : Nat} {e : TypeId} {v : Value} {xs ys : List Value} (h : w.ownsRow base e size v n xs) (k : w.ownsRow base e size v n ys) : xs = ys := by
  rcases h.2 with ⟨rfl, h0⟩ | ⟨g, cap, cur, rfl, _, hg, _, _, _, ht⟩
  · have h1 := h.1
    have h2 := k.1
    rw [h0, Nat.zero_mul] at h1 h2
    rw [List.length_eq_zero_iff.1 h1, List.length_eq_zero_iff.1 h2]
  · rcases k.2 with ⟨hx, _⟩ | ⟨g', cap', cur', hv, _, hg', _, _, _, ht'⟩
    · cases hx
    · injection hv with hv
      injection hv with hv
      injection hv with hv
      subst hv
      rw [hg] at hg'
      injection hg' with hg'
      injection hg' with hg'
      subst hg'
      rw [← ht, ← ht']
/-- what Spots leaves -/
def RSpotsP (m0 : Mc.St) (list : List Mc.Act) (w : World) (e : Ending) (w' : World) : Prop :=
  KW w w' ∧ ((∃ A c, Mc.okTo m0 list list.length ∧ e = .returned (.tuple #[.slice A (list.length + 1) c, .int .i64 list.length, .int .i64 0]) ∧ SpotsM w' w.heap.size (.slice A (list.length + 1) c) m0 list (list.length + 1)) ∨
    (∃ k, k < list.length ∧ Mc.okTo m0 list k ∧ Mc.er m0 list k ≠ 0 ∧ e = .returned (.tuple #[.slice none 0 0, .int .i64 k, .int .i64 (Mc.er m0 list k)])))
theorem rspots_no (l n : Int) (v : Value) (w : World) (h : l < 0 ∨ 65536 ≤ l ∨ n < 0 ∨ 1048576 < n) :
    Calls Try.prog 44 #[.int .i64 l, .int .i64 n, v] w fun e w' => e = .returned (.tuple #[.slice none 0 0, .int .i64 0, .int .i64 2]) ∧ KW w w' := by
  have HN := hid (fun W => rnew_no l n W h)
  clear h
  go_enter Try.func44, Try.ntmps44
  go_wp2_with fail
  refine (HN.out _).mono ?_
  rintro e w1 ⟨rfl, hk⟩
  have HK := hid hk
  clear hk
  go_wp2_with fail
  go_ret3
  exact ⟨rfl, HK.out.alloc _⟩

set_option maxRecDepth 100000 in
set_option maxHeartbeats 2000000 in
theorem rspots_yes (l : Int) (n : Nat) (A : Option Addr) (c : Nat) (list : List Mc.Act) (w : World) (l0 : 0 ≤ l) (l1 : l < 65536) (hn : n ≤ 1048576) (hlen : list.length ≤ 1099511627776) (hA : Acts w A list) :
    Calls Try.prog 44 #[.int .i64 l, .int .i64 n, .slice A list.length c] w (RSpotsP (Mc.new l n) list w) := by
  have HN := hid (fun W => rnew_yes l n W l0 l1 hn)
  have HA := hid hA
  have HI := hid (Mc.new_inv l n l0 l1 hn)
  have HT := hid (show (Mc.new l n).tot = 0 from rfl)
  generalize Mc.new l n = m0 at *
  clear hA
  unfold RSpotsP
  generalize hN : list.length = N at *
  have HL := hid hN
  clear hN
  go_enter Try.func44, Try.ntmps44
  go_wp2_with fail
  refine (HN.out _).mono ?_
  rintro e w1 ⟨v0, rfl, ho, hk⟩
  have HR0 := hid ho.rt
  have HK := hid hk
  obtain ⟨A0, c0, hv0, hz0⟩ := ho.row
  clear hz0
  rw [ints_len] at hv0
  subst hv0
  clear ho hk
  unfold rm
  go_wp2_with fail
  refine wpCode_world (fun W => KW w W ∧ w.heap.size ≤ w1.heap.size ∧ RT W (.slice A0 m0.tags.length c0) m0.tags ∧ W.rowIs w1.heap.size 88 5 (rmf m0 (.slice A0 m0.tags.length c0)) ∧ SpotsM W (w1.heap.size + 1) (.slice (some ⟨w1.heap.size + 1, 0, none⟩) 1 1) m0 list 1) ⟨(HK.out.alloc _).alloc _, HK.out.size, HR0.out.kw (((KW.refl w1).alloc _).alloc _), (World.rowIs_alloc w1 (rm m0 (.slice A0 m0.tags.length c0)) 88 _ (rm_get _ _)).alloc _, ?_⟩ ?_
  · have h := SpotsM.one (list := list) (HR0.out.kw ((KW.refl w1).alloc (.cells (rm m0 (.slice A0 m0.tags.length c0)) 88)))
    simpa [rm] using h
  rintro W1 ⟨hk, hmb, hrt, hrow, hsp⟩
  have HK1 := hid hk
  have HMB := hid hmb
  have HRT := hid hrt
  have HROW := hid hrow
  have HSP := hid hsp
  clear hk hrt hrow hmb HK HR0 hsp
  generalize w1.heap.size = mb at *
  go_loopw [11, 12] (fun out i wr => ∃ (k : Nat) (v : Value), k ≤ N ∧ i = .int .i64 k ∧ Hid (wr.rowIs mb 88 5 (rmf (Mc.up m0 list k) v)) ∧ Hid (RT wr v (Mc.up m0 list k).tags) ∧ Hid (Mc.okTo m0 list k) ∧ Hid (SpotsM wr (mb + 1) out m0 list (k + 1)) ∧ Hid (KW w wr)) (fun _ i _ => N - (intOf i).toNat)
  case atStart => exact ⟨0, _, by omega, rfl, HROW, HRT, fun j hj => absurd hj (by omega), HSP, HK1⟩
  case round =>
    obtain ⟨k, v, hk, rfl, HROW1, HRT1, HOK, HSP1, HK2⟩ := hrel
    clear HROW HRT HSP HK1 HN W1
    obtain ⟨Ao, co, hvo⟩ := HSP1.out.slice
    subst hvo
    by_cases hlt : k < N
    · obtain ⟨b', off, rfl, hb', hc1, hc2⟩ := HA.out.at_ (show k < list.length by rw [HL.out]; exact hlt)
      have HI1 := hid (Mc.up_inv HI.out list k)
      have HT1 : Hid ((Mc.up m0 list k).tot ≤ 4611686018427387904) := by
        have h1 := (Mc.up_tot m0 list k).2
        rw [HT.out] at h1
        exact hid (by omega)
      have HOK2 : Hid (Mc.er m0 list k = 0 → Mc.okTo m0 list (k + 1)) := fun h j hj => by
        rcases (show j < k ∨ j = k by omega) with h1 | rfl
        · exact HOK.out j h1
        · exact h
      have HD : Hid (∀ W, RT W v (Mc.up m0 list k).tags → Calls Try.prog 67 #[.agg (rm (Mc.up m0 list k) v), .agg #[.int .i64 (list.getD k (0, 0)).1, .int .i64 (list.getD k (0, 0)).2]] W (RDoP W v (Mc.up m0 list (k + 1)) (Mc.er m0 list k))) := fun W h => rdo_any _ (list.getD k (0, 0)).1 (list.getD k (0, 0)).2 v W h HI1.out HT1.out
      have HApp : Hid (∀ W w' v' u, SpotsM W (mb + 1) (.slice Ao (k + 1) co) m0 list (k + 1) → RT W u (Mc.up m0 list (k + 1)).tags → (∀ v tags, RT W v tags → RT w' v tags) → (∀ xs, W.ownsRow (mb + 1) 53 3 (.slice Ao (k + 1) co) (k + 1) xs → w'.ownsRow (mb + 1) 53 3 v' (k + 1 + 1) (xs ++ [.int .i64 (Mc.up m0 list (k + 1)).at_, .int .i64 (Mc.up m0 list (k + 1)).pend, u])) → SpotsM w' (mb + 1) v' m0 list (k + 1 + 1)) := fun W w' v' u h1 h2 h3 h4 => h1.app h2 h3 h4
      generalize hm : Mc.up m0 list k = m at *
      generalize hm2 : Mc.up m0 list (k + 1) = m2 at *
      generalize her : Mc.er m0 list k = er at *
      generalize (list.getD k (0, 0)).1 = x at *
      generalize (list.getD k (0, 0)).2 = y at *
      have HM2 := hid hm2
      have HEr := hid her
      clear hm hm2 her
      have L5 : (k : Int) < (N : Int) := by omega
      have r0 := HROW1.out.cell (i := 0) (by omega)
      have r1 := HROW1.out.cell (i := 1) (by omega)
      have r2 := HROW1.out.cell (i := 2) (by omega)
      have r3 := HROW1.out.cell (i := 3) (by omega)
      have r4 := HROW1.out.cell (i := 4) (by omega)
      have l1 := KW.cell HK2.out hb' hc1
      have l2 := KW.cell HK2.out hb' hc2
      have hbr : b' < wr.heap.size := Nat.lt_of_lt_of_le hb' HK2.out.size
      obtain ⟨A1, c1, hv1, _⟩ := HRT1.out
      obtain ⟨la, aa, pa, ta, tags⟩ := m
      simp only [rmf, rm, List.getD_cons_succ, List.getD_cons_zero] at r0 r1 r2 r3 r4
      simp only at hv1
      subst hv1
      simp only [rm] at HD
      generalize hM : tags.length = M at *
      clear hM
      have HBR := hid hbr
      clear hc1 hc2 hb' hbr
      go_wp2_with fail
      have hXS := And.intro r0 (And.intro r1 (And.intro r2 (And.intro r3 (And.intro r4 (And.intro l1 l2)))))
      have HX := hid hXS
      have hq := KW.refl wr
      clear r0 r1 r2 r3 r4 l1 l2
      have HSS := hid (fun w' (hq : KW wr w') => And.intro (KW.cell hq HROW1.out.lt HX.out.1) (And.intro (KW.cell hq HROW1.out.lt HX.out.2.1) (And.intro (KW.cell hq HROW1.out.lt HX.out.2.2.1) (And.intro (KW.cell hq HROW1.out.lt HX.out.2.2.2.1) (And.intro (KW.cell hq HROW1.out.lt HX.out.2.2.2.2.1) (And.intro (KW.cell hq HBR.out HX.out.2.2.2.2.2.1) (KW.cell hq HBR.out HX.out.2.2.2.2.2.2)))))))
      refine wpX_region (S := fun w' => w'.cell? ⟨mb, 0, none⟩ = some (.int .i64 la) ∧ w'.cell? ⟨mb, 1, none⟩ = some (.int .i64 aa) ∧ w'.cell? ⟨mb, 2, none⟩ = some (.int .i64 pa) ∧ w'.cell? ⟨mb, 3, none⟩ = some (.slice A1 M c1) ∧ w'.cell? ⟨mb, 4, none⟩ = some (.int .i64 ta) ∧ w'.cell? ⟨b', off + k * 2, none⟩ = some (.int .i64 x) ∧ w'.cell? ⟨b', off + k * 2 + 1, none⟩ = some (.int .i64 y)) (L := 99) (by kernel_rfl) ?_
      refine wpX_take (i := 0) (v := ?_) rfl rfl (by kernel_rfl) (fun _ _ _ h => h) (Or.inl ⟨rfl, fun wS hwS => ?_⟩) hXS ?_
      rotate_left
      · go_simp; try rfl
      simp only [List.set_cons_zero, List.set_cons_succ]
      refine wpX_take (i := 1) (v := ?_) rfl rfl (by kernel_rfl) (fun _ _ _ h => h) (Or.inl ⟨rfl, fun wS hwS => ?_⟩) hXS ?_
      rotate_left
      · go_simp; try rfl
      simp only [List.set_cons_zero, List.set_cons_succ]
      refine wpX_take (i := 2) (v := ?_) rfl rfl (by kernel_rfl) (fun _ _ _ h => h) (Or.inl ⟨rfl, fun wS hwS => ?_⟩) hXS ?_
      rotate_left
      · go_simp; try rfl
      simp only [List.set_cons_zero, List.set_cons_succ]
      refine wpX_take (i := 3) (v := ?_) rfl rfl (by kernel_rfl) (fun _ _ _ h => h) (Or.inl ⟨rfl, fun wS hwS => ?_⟩) hXS ?_
      rotate_left
      · go_simp; try rfl
      simp only [List.set_cons_zero, List.set_cons_succ]
      refine wpX_take (i := 4) (v := ?_) rfl rfl (by kernel_rfl) (fun _ _ _ h => h) (Or.inl ⟨rfl, fun wS hwS => ?_⟩) hXS ?_
      rotate_left
      · go_simp; try rfl
      simp only [List.set_cons_zero, List.set_cons_succ]
      clear hXS
      apply wpX_both (i := 5) (j := 9) (by kernel_rfl) rfl rfl
      apply meet3' (fun (g : Nat) (v2 : Value) (W3 : World) => wr.heap.size ≤ g ∧ RT W3 v2 m2.tags ∧ KW wr W3 ∧ W3.rowIs g 88 5 (rmf m2 v2))
      · intro hG K hK
        go_simp
        refine (HD.out _ (HRT1.out.kw hq.drew)).mono ?_
        rintro e W4 ⟨v2, rfl, hr2, _, hb⟩
        have HQ4 : Hid (KW wr W4) := hq.drew.t hb
        have HR4 := hid hr2
        clear hb hr2
        refine hK _ _ (fun _ => HSS.out _ HQ4.out) ?_
        clear hK K
        try simp only [List.set_cons_zero, List.set_cons_succ]
        have hXS := HSS.out _ HQ4.out
        refine wpX_take (i := 6) (v := ?_) rfl rfl (by kernel_rfl) (fun _ _ _ h => h) (Or.inl ⟨rfl, fun wS hwS => ?_⟩) hXS ?_
        rotate_left
        · go_simp; try rfl
        simp only [List.set_cons_zero, List.set_cons_succ]
        refine wpX_take (i := 7) (v := ?_) rfl rfl (by kernel_rfl) (fun _ _ _ h => h) (Or.inl ⟨rfl, fun wS hwS => ?_⟩) hXS ?_
        rotate_left
        · go_simp; try rfl
        simp only [List.set_cons_zero, List.set_cons_succ]
        refine wpX_take (i := 8) (v := ?_) rfl rfl (by kernel_rfl) (fun _ _ _ h => h) (Or.inl ⟨rfl, fun wS hwS => ?_⟩) hXS ?_
        rotate_left
        · go_simp; try rfl
        simp only [List.set_cons_zero, List.set_cons_succ]
        refine wpX_hard (k := 9) (by kernel_rfl) rfl (fun K hK => ?_)
        go_simp
        refine hK _ _ (fun _ => HSS.out _ (HQ4.out.alloc _)) ?_
        clear hK K
        try simp only [List.set_cons_zero, List.set_cons_succ]
        clear hXS
        have HR2 := hid (HR4.out.kw ((KW.refl W4).alloc (.cells #[.int .i64 0, .int .i64 0, .int .i64 0, .slice none 0 0, .int .i64 0] 88)))
        have HG2 : Hid ((W4.alloc (.cells #[.int .i64 0, .int .i64 0, .int .i64 0, .slice none 0 0, .int .i64 0] 88)).rowIs W4.heap.size 88 5 (fun i => [.int .i64 0, .int .i64 0, .int .i64 0, .slice none 0 0, .int .i64 0].getD i undef)) := World.rowIs_alloc W4 #[.int .i64 0, .int .i64 0, .int .i64 0, .slice none 0 0, .int .i64 0] 88 _ fun i hi => by simp at hi; simp [hi]
        have HGB : Hid (wr.heap.size ≤ W4.heap.size) := HQ4.out.size
        have HQ2 := hid (HQ4.out.alloc (.cells #[.int .i64 0, .int .i64 0, .int .i64 0, .slice none 0 0, .int .i64 0] 88))
        refine wpX_store_is (k := 10) (by kernel_rfl) rfl rfl rfl 88 _ _ rfl W4.heap.size 5 88 _ (rmf m2 v2) (rm m2 v2) rfl rfl HG2.out (by kernel_rfl) rfl (rm_get m2 v2) (rm_one HR2.out.one) ?_
        intro W3 hrow3 _ hkeep3
        have HKQ : Hid (KW wr W3) := HQ2.out.kept hkeep3 fun i hi => by have := HGB.out; omega
        refine ⟨fun _ => HSS.out _ HKQ.out, ?_⟩
        have hfin : wr.heap.size ≤ W4.heap.size ∧ RT W3 v2 m2.tags ∧ KW wr W3 ∧ W3.rowIs W4.heap.size 88 5 (rmf m2 v2) := ⟨HGB.out, HR2.out.keepM HG2.out hkeep3, HKQ.out, hrow3⟩
        revert hfin
        clear HR2 HG2 HGB HQ2 HQ4 HR4 hkeep3 hrow3
        generalize W4.heap.size = g
        intro hfin
        exact hG g v2 W3 hfin
      · intro hG K hK
        go_simp
        refine hK _ _ (fun _ => HSS.out _ (hq.alloc _).drew) ?_
        clear hK K
        try simp only [List.set_cons_zero, List.set_cons_succ]
        have hXS := HSS.out _ (hq.alloc (.cells #[.int .i64 0, .int .i64 0, .int .i64 0, .slice none 0 0, .int .i64 0] 88)).drew
        refine wpX_hard (k := 5) (by kernel_rfl) rfl (fun K hK => ?_)
        go_simp
        refine (HD.out _ (HRT1.out.kw (hq.alloc (.cells #[.int .i64 0, .int .i64 0, .int .i64 0, .slice none 0 0, .int .i64 0] 88)).drew)).mono ?_
        rintro e W4 ⟨v2, rfl, hr2, _, hb⟩
        have HQ2 : Hid (KW wr W4) := (hq.alloc (.cells #[.int .i64 0, .int .i64 0, .int .i64 0, .slice none 0 0, .int .i64 0] 88)).drew.t hb
        have HR2 := hid hr2
        have HG2 : Hid (W4.rowIs wr.heap.size 88 5 (fun i => [.int .i64 0, .int .i64 0, .int .i64 0, .slice none 0 0, .int .i64 0].getD i undef)) := KW.row hb (by simp) (World.rowIs_alloc wr #[.int .i64 0, .int .i64 0, .int .i64 0, .slice none 0 0, .int .i64 0] 88 _ fun i hi => by simp at hi; simp [hi])
        clear hb hr2
        refine hK _ _ (fun _ => HSS.out _ HQ2.out) ?_
        clear hK K
        try simp only [List.set_cons_zero, List.set_cons_succ]
        clear hXS
        have hXS := HSS.out _ HQ2.out
        refine wpX_take (i := 6) (v := ?_) rfl rfl (by kernel_rfl) (fun _ _ _ h => h) (Or.inl ⟨rfl, fun wS hwS => ?_⟩) hXS ?_
        rotate_left
        · go_simp; try rfl
        simp only [List.set_cons_zero, List.set_cons_succ]
        refine wpX_take (i := 7) (v := ?_) rfl rfl (by kernel_rfl) (fun _ _ _ h => h) (Or.inl ⟨rfl, fun wS hwS => ?_⟩) hXS ?_
        rotate_left
        · go_simp; try rfl
        simp only [List.set_cons_zero, List.set_cons_succ]
        refine wpX_take (i := 8) (v := ?_) rfl rfl (by kernel_rfl) (fun _ _ _ h => h) (Or.inl ⟨rfl, fun wS hwS => ?_⟩) hXS ?_
        rotate_left
        · go_simp; try rfl
        simp only [List.set_cons_zero, List.set_cons_succ]
        clear hXS
        refine wpX_store_is (k := 10) (by kernel_rfl) rfl rfl rfl 88 _ _ rfl wr.heap.size 5 88 _ (rmf m2 v2) (rm m2 v2) rfl rfl HG2.out (by kernel_rfl) rfl (rm_get m2 v2) (rm_one HR2.out.one) ?_
        intro W3 hrow3 _ hkeep3
        have HKQ : Hid (KW wr W3) := HQ2.out.kept hkeep3 fun i hi => by omega
        refine ⟨fun _ => HSS.out _ HKQ.out, ?_⟩
        exact hG wr.heap.size v2 W3 ⟨Nat.le_refl _, HR2.out.keepM HG2.out hkeep3, HKQ.out, hrow3⟩
      intro g v2 W3 hfin
      obtain ⟨hg, hr3, hkq, hrow3⟩ := hfin
      have HG := hid hg
      have HR3 := hid hr3
      have HKQ := hid hkq
      have HROWg := hid hrow3
      clear hg hr3 hkq hrow3
      have hXS := HSS.out _ HKQ.out
      refine wpX_take (i := 11) (v := ?_) rfl rfl (by kernel_rfl) (fun _ _ _ h => h) (Or.inl ⟨rfl, fun wS hwS => ?_⟩) hXS ?_
      rotate_left
      · go_simp; try rfl
      simp only [List.set_cons_zero, List.set_cons_succ]
      refine wpX_done (by kernel_rfl) ?_
      have HKW := hid (HK2.out.t HKQ.out)
      have HROW3 := hid (KW.row HKQ.out HROW1.out.lt HROW1.out)
      have HSP3 := hid (HSP1.out.kw HKQ.out)
      clear hXS
      by_cases he : er = 0
      · have HOK3 := hid (HOK2.out he)
        subst he
        have HWg := hid (whole HROWg.out)
        go_wp2_with (first
          | (refine wpList_load_row rfl 88 _ rfl g rfl 88 (rm m2 v2) (0, 0) _ HWg.out Try.underlying88 rfl (by kernel_rfl) ?_)
          | (refine wpList_store_is rfl 88 _ _ rfl mb 5 88 _ (rmf m2 v2) (rm m2 v2) rfl rfl HROW3.out (by kernel_rfl) rfl (rm_get m2 v2) (rm_one HR3.out.one) ?_))
        intro W4 hrow4 hkeep4 _
        have HR4 := hid (HR3.out.keepM HROW3.out hkeep4)
        have HK4 : Hid (KW w W4) := HKW.out.kept hkeep4 fun i hi => by have := HMB.out; omega
        have HSP4 : Hid (SpotsM W4 (mb + 1) (.slice Ao (k + 1) co) m0 list (k + 1)) := HSP3.out.keep hkeep4 (fun i hi h => by
          obtain ⟨xs, ho, _⟩ := HSP3.out
          have := (World.ownsRow.lt ho i hi).1
          omega) fun v tags h => h.keepM HROW3.out hkeep4
        obtain ⟨A3, c3, hv3, _⟩ := HR4.out
        subst hv3
        have s1 := hrow4.cell (i := 1) (by omega)
        have s2 := hrow4.cell (i := 2) (by omega)
        have s3 := hrow4.cell (i := 3) (by omega)
        simp only [rmf, rm, List.getD_cons_succ, List.getD_cons_zero] at s1 s2 s3
        have HROW4 := hid hrow4
        clear hrow4 hkeep4 HROWg HWg HROW3 HSS HX HR3 HRT1 HKQ HROW1 HKW
        obtain ⟨xs4, ho4, hs4⟩ := HSP4.out
        have HO4 := hid ho4
        have HMB4 := hid HROW4.out.lt
        clear ho4 hs4
        have hZ := Holds.new (w := W4) (t := 53) (k := 1) (c := 1) (size := 3) (ys := [.int .i64 m2.at_, .int .i64 m2.pend, .slice A3 m2.tags.length c3]) rfl rfl
        have hZ2 := HO4.out.alloc (.cells #[.int .i64 m2.at_, .int .i64 m2.pend, .slice A3 m2.tags.length c3] 53)
        have HQ1 : Hid (mb + 1 ≤ (W4.alloc (.cells #[.int .i64 m2.at_, .int .i64 m2.pend, .slice A3 m2.tags.length c3] 53)).heap.size) := by have := HMB4.out; simp; exact hid (by omega)
        have HQ2 : Hid ((k + 1 + 1) * 40 ≤ 140737488355328) := hid (by omega)
        have HQ3 : Hid (k + 1 + 1 ≤ 9223372036854775807) := hid (by omega)
        have HZ := hid hZ
        have HZ2 := hid hZ2
        clear hZ hZ2
        go_wp2_with (at_builtin; refine wpList_world (fun W => W = (W4.alloc (.cells #[.int .i64 m2.at_, .int .i64 m2.pend, .slice A3 m2.tags.length c3] 53))) rfl ?_)
        intro WW hWW
        subst hWW
        refine wpList_appA rfl sliceSpot rfl (W := W4.alloc (.cells #[.int .i64 m2.at_, .int .i64 m2.pend, .slice A3 m2.tags.length c3] 53)) (base := mb + 1) (k := 1) (n := k + 1) (v := .slice Ao (k + 1) co) (u := .slice (some ⟨W4.heap.size, 0, none⟩) 1 1) (xs := xs4) (ys := [.int .i64 m2.at_, .int .i64 m2.pend, .slice A3 m2.tags.length c3]) rfl (by simp [Act.eval]) HZ.out HZ2.out HQ1.out HQ2.out HQ3.out ?_
        intro v5 w5 hown5 hkeep5 _
        have HT5 : Hid (∀ v tags, RT (W4.alloc (.cells #[.int .i64 m2.at_, .int .i64 m2.pend, .slice A3 m2.tags.length c3] 53)) v tags → RT w5 v tags) := fun v tags h => h.keepT hkeep5 fun i hi => by
          obtain ⟨cs, t, fr, h1, h2⟩ := own_cells (HO4.out.alloc _) i hi
          exact ⟨cs, t, fr, h1, by rw [h2]; decide⟩
        have HSP5 : Hid (SpotsM w5 (mb + 1) v5 m0 list (k + 1 + 1)) := HApp.out W4 w5 v5 _ HSP4.out HR4.out (fun v tags h => HT5.out v tags (h.kw ((KW.refl W4).alloc _))) fun xs h => by
          have h2 := ownsRow_inj h HO4.out
          rw [h2]; exact hown5
        have hnm : ¬ (Value.slice Ao (k + 1) co).ownBlock = some mb := fun h => by have := (HO4.out.lt mb h).1; omega
        have HROW5 := hid (hkeep5.row hnm (HROW4.out.alloc _))
        have HRT5 : Hid (RT w5 (.slice A3 m2.tags.length c3) m2.tags) := HT5.out _ _ (HR4.out.kw ((KW.refl W4).alloc _))
        have HK5 : Hid (KW w w5) := (HK4.out.alloc _).kept hkeep5 fun i hi => by have := (HO4.out.lt i hi).1; have := HMB.out; omega
        clear hown5 hkeep5 hnm
        obtain ⟨A5, c5, hv5⟩ := HSP5.out.slice
        subst hv5
        go_wp2_with fail
        go_roundw
        case rel => exact ⟨k + 1, _, by omega, by go_num, by rw [HM2.out]; exact HROW5, by rw [HM2.out]; exact HRT5, HOK3, HSP5, HK5⟩
        case measure => simp [intOf]; omega
      · have d : (er != 0) = true := by simpa using he
        have d2 : (er == 0) = false := by simpa using he
        have HE0 := hid he
        clear he
        go_wp2_with fail
        go_ret3
        exact ⟨HKW.out, .inr ⟨k, hlt, HOK.out, by rw [HEr.out]; exact HE0.out, by rw [HEr.out]; rfl⟩⟩
    · obtain rfl : k = N := by omega
      clear hlt
      go_wp2_with fail
      go_ret3
      exact ⟨HK2.out, .inl ⟨_, _, HOK.out, rfl, HSP1.out.base (by have := HMB.out; omega)⟩⟩
end Go.Proofs.Ytkdamcacmecnaaa
