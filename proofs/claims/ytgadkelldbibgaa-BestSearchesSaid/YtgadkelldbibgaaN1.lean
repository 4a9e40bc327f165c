/- Contracts of the reference's Right, Spot, New. -/
import Derived.Test.YtgadkelldbibgaaM7
namespace Go.Proofs.Ytgadkelldbibgaa
open Go.ChangeShapes Go.WideShapes Go.ChangeAt Go.RowKit
set_option linter.unusedVariables false

def lo26 (k : Int) : Int := if k = 1 then 1 else 0
def hi26 (k : Int) : Int := if k = 1 then 65535 else if 2 ≤ k ∧ k ≤ 4 then 1048575 else 0
theorem right26 (k n : Int) : Mc.right k n = decide (1 ≤ k ∧ k ≤ 9 ∧ lo26 k ≤ n ∧ n ≤ hi26 k) := by
  unfold lo26 hi26
  rw [Mc.right_def]
  by_cases h0 : k < 1 ∨ 9 < k
  · rw [if_pos h0]; symm; exact decide_eq_false (by omega)
  rw [if_neg h0]
  by_cases h1 : k = 1
  · rw [if_pos h1, if_pos h1, if_pos h1]; congr 1; apply propext; omega
  rw [if_neg h1, if_neg h1, if_neg h1]
  by_cases h2 : k ≤ 4
  · rw [if_pos h2, if_pos ⟨by omega, h2⟩]; congr 1; apply propext; omega
  · rw [if_neg h2, if_neg (by omega)]; congr 1; apply propext; omega
theorem most_any (k : Int) (w : World) : Calls Try.prog 114 #[.int .i64 k] w fun e w' => e = .returned (.tuple #[.int .i64 (lo26 k), .int .i64 (hi26 k)]) ∧ w = w' := by
  unfold lo26 hi26
  by_cases h1 : k = 1
  · subst h1
    go_enter Try.func114, Try.ntmps114
    go_wp2_with fail
    go_ret2
    exact ⟨rfl, rfl⟩
  rw [if_neg h1, if_neg h1]
  have d1 : (k == 1) = false := by simpa using h1
  by_cases h2 : 2 ≤ k
  · by_cases h3 : k ≤ 4
    · rw [if_pos ⟨h2, h3⟩]
      clear h1
      go_enter Try.func114, Try.ntmps114
      go_wp2_with fail
      go_ret2
      exact ⟨rfl, rfl⟩
    · rw [if_neg (by omega)]
      have d3 : decide (k ≤ 4) = false := decide_eq_false h3
      clear h1
      go_enter Try.func114, Try.ntmps114
      go_wp2_with fail
      go_ret2
      exact ⟨rfl, rfl⟩
  · rw [if_neg (by omega)]
    have d2 : decide (2 ≤ k) = false := decide_eq_false h2
    clear h1
    go_enter Try.func114, Try.ntmps114
    go_wp2_with fail
    go_ret2
    exact ⟨rfl, rfl⟩
theorem rright_any (k n : Int) (w : World) : Calls Try.prog 100 #[.agg #[.int .i64 k, .int .i64 n]] w fun e w' => e = .returned (.bool (Mc.right k n)) ∧ KW w w' := by
  have HR := hid (right26 k n)
  have HM := hid (fun W => most_any k W)
  have HK := hid ((KW.refl w).alloc (.cells #[.int .i64 k, .int .i64 n] 27))
  generalize lo26 k = lo at *
  generalize hi26 k = hi at *
  by_cases h0 : 1 ≤ k
  · by_cases h1 : k ≤ 9
    · by_cases h2 : lo ≤ n
      · by_cases h3 : n ≤ hi
        · rw [HR.out, show decide (1 ≤ k ∧ k ≤ 9 ∧ lo ≤ n ∧ n ≤ hi) = true from decide_eq_true ⟨h0, h1, h2, h3⟩]
          go_enter Try.func100, Try.ntmps100
          go_wp2_with (go_at_call 114; refine (HM.out _).mono ?_; rintro e w1 ⟨rfl, rfl⟩)
          go_ret
          exact ⟨rfl, HK.out⟩
        · rw [HR.out, show decide (1 ≤ k ∧ k ≤ 9 ∧ lo ≤ n ∧ n ≤ hi) = false from decide_eq_false (fun h => h3 h.2.2.2)]
          have d : decide (n ≤ hi) = false := decide_eq_false h3
          go_enter Try.func100, Try.ntmps100
          go_wp2_with (go_at_call 114; refine (HM.out _).mono ?_; rintro e w1 ⟨rfl, rfl⟩)
          go_ret
          exact ⟨rfl, HK.out⟩
      · rw [HR.out, show decide (1 ≤ k ∧ k ≤ 9 ∧ lo ≤ n ∧ n ≤ hi) = false from decide_eq_false (fun h => h2 h.2.2.1)]
        have d : decide (lo ≤ n) = false := decide_eq_false h2
        go_enter Try.func100, Try.ntmps100
        go_wp2_with (go_at_call 114; refine (HM.out _).mono ?_; rintro e w1 ⟨rfl, rfl⟩)
        go_ret
        exact ⟨rfl, HK.out⟩
    · rw [HR.out, show decide (1 ≤ k ∧ k ≤ 9 ∧ lo ≤ n ∧ n ≤ hi) = false from decide_eq_false (fun h => h1 h.2.1)]
      have d : decide (k ≤ 9) = false := decide_eq_false h1
      go_enter Try.func100, Try.ntmps100
      go_wp2_with (go_at_call 114; refine (HM.out _).mono ?_; rintro e w1 ⟨rfl, rfl⟩)
      go_ret
      exact ⟨rfl, HK.out⟩
  · rw [HR.out, show decide (1 ≤ k ∧ k ≤ 9 ∧ lo ≤ n ∧ n ≤ hi) = false from decide_eq_false (fun h => h0 h.1)]
    have d : decide (1 ≤ k) = false := decide_eq_false h0
    go_enter Try.func100, Try.ntmps100
    go_wp2_with (go_at_call 114; refine (HM.out _).mono ?_; rintro e w1 ⟨rfl, rfl⟩)
    go_ret
    exact ⟨rfl, HK.out⟩

/-- the reference's tags in memory: a slice that is as the tags say; the same, in a block of numbers -/
def RT0 (w : World) (v : Value) (tags : List Int) : Prop := ∃ A c, v = .slice A tags.length c ∧ Row1 w A tags.length fun i => .int .i64 (tags.getD i 0)
def Ty (w : World) (A : Option Addr) (n : Nat) : Prop := 0 < n → ∃ b off cs fr, A = some ⟨b, off, none⟩ ∧ w.heap[b]? = some (.cells cs 3 fr)
def RT (w : World) (v : Value) (tags : List Int) : Prop := ∃ A c, v = .slice A tags.length c ∧ (Row1 w A tags.length fun i => .int .i64 (tags.getD i 0)) ∧ Ty w A tags.length
theorem Ty.keep {own : Nat → Prop} {w w' : World} {A : Option Addr} {n : Nat} (h : Ty w A n) (k : Keep own w w') (hn : 0 < n → ∀ b off, A = some ⟨b, off, none⟩ → ¬ own b) : Ty w' A n := by
  intro h0
  obtain ⟨b, off, cs, fr, hA, hb⟩ := h h0
  exact ⟨b, off, cs, fr, hA, by rw [k.block b (Array.getElem?_eq_some_iff.1 hb).1 (hn h0 b off hA)]; exact hb⟩
theorem Ty.kw {w w' : World} {A : Option Addr} {n : Nat} (h : Ty w A n) (k : KW w w') : Ty w' A n := h.keep (k.keep (own := fun _ => False)) fun _ _ _ _ h => h
theorem RT.kw {w w' : World} {v : Value} {tags : List Int} (h : RT w v tags) (hk : KW w w') : RT w' v tags := by
  obtain ⟨A, c, hv, hr, ht⟩ := h
  exact ⟨A, c, hv, hr.k hk, ht.kw hk⟩
theorem RT.keepM {w w' : World} {v : Value} {tags : List Int} {g n : Nat} {f : Nat → Value} (h : RT w v tags) (hg : w.rowIs g 76 n f) (hk : Keep (· = g) w w') : RT w' v tags := by
  obtain ⟨A, c, hv, hr, ht⟩ := h
  have hne : 0 < tags.length → ∀ b off, A = some ⟨b, off, none⟩ → ¬ b = g := by
    rintro h0 b off hA rfl
    obtain ⟨b', off', cs, fr, hA', hb⟩ := ht h0
    rw [hA] at hA'
    cases hA'
    obtain ⟨cs', hb', _⟩ := hg
    rw [hb] at hb'
    simp at hb'
  exact ⟨A, c, hv, fun h0 => hk.row1 hr (fun b off hA => hne h0 b off hA) h0, ht.keep hk hne⟩
theorem Owns.rt {w : World} {base : Nat} {v : Value} {tags : List Int} (h : Owns w base 3 v (ints tags)) : RT w v tags := by
  have hx := h
  obtain ⟨A, c, hv, _, _, hr⟩ := h.row
  rw [ints_len] at hv hr
  refine ⟨A, c, hv, hr.cong fun i hi => by rw [List.getD_eq_getElem?_getD, ints_get tags hi]; rfl, fun h0 => ?_⟩
  rcases hx.2 with ⟨_, hz⟩ | ⟨g, cap, cur, hv', _, hg, _⟩
  · rw [ints_len] at hz; omega
  · rw [hv] at hv'
    simp only [Value.slice.injEq] at hv'
    exact ⟨g, 0, cur, (0, 0), hv'.1, hg⟩
theorem RT.rt0 {w : World} {v : Value} {tags : List Int} (h : RT w v tags) : RT0 w v tags := by
  obtain ⟨A, c, hv, hr, _⟩ := h
  exact ⟨A, c, hv, hr⟩
theorem ints_take_succ (tags : List Int) {k : Nat} (h : k < tags.length) : ints (tags.take (k + 1)) = ints (tags.take k) ++ [.int .i64 (tags.getD k 0)] := by
  rw [List.take_succ_eq_append_getElem h]
  unfold ints
  rw [List.map_append]
  simp [h]

theorem sliceInt1 : SliceOf Try.prog 22 3 (.int .i64 0) 8 := ⟨Try.underlying22, by kernel_rfl, rfl⟩
/-- a copy of a spot -/
def RSpotP (w : World) (a p : Int) (tags : List Int) (e : Ending) (w' : World) : Prop := ∃ v, e = .returned (.agg #[.int .i64 a, .int .i64 p, v]) ∧ Owns w' w.heap.size 3 v (ints tags) ∧ KW w w'
set_option maxRecDepth 100000 in
set_option maxHeartbeats 1000000 in
theorem rspot_any (a p : Int) (v : Value) (tags : List Int) (w : World) (hl : tags.length ≤ 1048576) (hv : RT0 w v tags) :
    Calls Try.prog 88 #[.agg #[.int .i64 a, .int .i64 p, v]] w (RSpotP w a p tags) := by
  obtain ⟨A, c, rfl, hr⟩ := hv
  have HR := hid hr
  clear hr
  generalize hN : tags.length = N at *
  have HN := hid hN
  clear hN
  go_enter Try.func88, Try.ntmps88
  go_wp2_with fail
  refine wpCode_world (fun W => KW w W ∧ w.heap.size + 3 ≤ W.heap.size ∧ W.rowIs w.heap.size 24 3 (fun i => [.int .i64 a, .int .i64 p, .slice A N c].getD i undef) ∧ W.rowIs (w.heap.size + 1) 24 3 (fun i => [.int .i64 0, .int .i64 0, .slice none 0 0].getD i undef) ∧ W.rowIs (w.heap.size + 1 + 1) 24 3 (fun i => [.int .i64 a, .int .i64 p, .slice none 0 0].getD i undef)) ⟨?_, ?_, ?_, ?_, ?_⟩ ?_
  · exact (((KW.refl w).alloc _).alloc _).alloc _
  · simp
  · exact ((World.rowIs_alloc w #[.int .i64 a, .int .i64 p, .slice A N c] 24 _ fun i hi => by simp at hi; simp [hi]).alloc _).alloc _
  · have h := (World.rowIs_alloc (w.alloc (.cells #[.int .i64 a, .int .i64 p, .slice A N c] 24)) #[.int .i64 0, .int .i64 0, .slice none 0 0] 24 (fun i => [.int .i64 0, .int .i64 0, .slice none 0 0].getD i undef) fun i hi => by simp at hi; simp [hi]).alloc (.cells #[.int .i64 a, .int .i64 p, .slice none 0 0] 24)
    simpa using h
  · have h := World.rowIs_alloc ((w.alloc (.cells #[.int .i64 a, .int .i64 p, .slice A N c] 24)).alloc (.cells #[.int .i64 0, .int .i64 0, .slice none 0 0] 24)) #[.int .i64 a, .int .i64 p, .slice none 0 0] 24 (fun i => [.int .i64 a, .int .i64 p, .slice none 0 0].getD i undef) fun i hi => by simp at hi; simp [hi]
    simpa using h
  rintro W1 ⟨hk, hs, h0, h1, h2⟩
  have HK := hid hk
  have HS := hid hs
  have H0 := hid h0
  have H1 := hid h1
  have H2 := hid h2
  clear hk hs h0 h1 h2
  go_loopw [4] (fun i wr => ∃ (k : Nat) (vk : Value), k ≤ N ∧ i = .int .i64 k ∧ Hid (KW w wr) ∧ Hid (w.heap.size + 3 ≤ wr.heap.size) ∧ Hid (wr.rowIs w.heap.size 24 3 (fun i => [.int .i64 a, .int .i64 p, .slice A N c].getD i undef)) ∧ Hid (wr.rowIs (w.heap.size + 1) 24 3 (fun i => [.int .i64 0, .int .i64 0, .slice none 0 0].getD i undef)) ∧ Hid (wr.rowIs (w.heap.size + 1 + 1) 24 3 (fun i => [.int .i64 a, .int .i64 p, vk].getD i undef)) ∧ Hid (Owns wr (w.heap.size + 3) 3 vk (ints (tags.take k)))) (fun i _ => N - (intOf i).toNat)
  case atStart => exact ⟨0, _, by omega, rfl, HK, HS, H0, H1, H2, Owns.nil _ _ _⟩
  case round =>
    obtain ⟨k, vk, hk, rfl, HK1, HS1, H01, H11, H21, HO1⟩ := hrel
    clear HK HS H0 H1 H2 W1
    have c0 := H01.out.cell (i := 2) (by omega)
    simp only [List.getD_cons_succ, List.getD_cons_zero] at c0
    by_cases hlt : k < N
    · obtain ⟨b, off, rfl, hb, hc⟩ := (HR.out.k HK1.out).at_ hlt
      obtain ⟨_, _, hAe, hbw, _⟩ := HR.out.at_ hlt
      cases hAe
      have c2 := H21.out.cell (i := 2) (by omega)
      have f2 := H21.out.frozen 2
      simp only [List.getD_cons_succ, List.getD_cons_zero] at c2
      have Hsucc := hid (ints_take_succ tags (k := k) (by rw [HN.out]; exact hlt))
      have Hlen : Hid ((ints (tags.take k)).length = k) := by rw [ints_len, List.length_take, HN.out]; exact hid (by omega)
      generalize tags.getD k 0 = x at *
      have HBW := hid hbw
      have F2 := hid f2
      clear hb hbw f2
      have L5 : (k : Int) < (N : Int) := by omega
      go_wp2_with fail
      have hXS := And.intro c0 (And.intro c2 hc)
      have C := hid hXS
      clear c0 c2 hc
      refine wpX_region (S := fun w' => w'.cell? ⟨w.heap.size, 2, none⟩ = some (.slice (some ⟨b, off, none⟩) N c) ∧ w'.cell? ⟨w.heap.size + 1 + 1, 2, none⟩ = some vk ∧ w'.cell? ⟨b, off + k, none⟩ = some (.int .i64 x)) (L := 10) (by kernel_rfl) ?_
      refine wpX_take (i := 0) (v := ?_) rfl rfl (by kernel_rfl) (fun _ _ _ h => h) (Or.inl ⟨rfl, fun wS hwS => ?_⟩) hXS ?_
      rotate_left
      · go_simp; try rfl
      simp only [List.set_cons_zero, List.set_cons_succ]
      refine wpX_take (i := 1) (v := ?_) rfl rfl (by kernel_rfl) (fun _ _ _ h => h) (Or.inl ⟨rfl, fun wS hwS => ?_⟩) hXS ?_
      rotate_left
      · go_simp; try rfl
      simp only [List.set_cons_zero, List.set_cons_succ]
      refine wpX_take (i := 2) (v := ?_) rfl rfl (by kernel_rfl) (fun _ _ _ h => h) (Or.inl ⟨rfl, fun wS hwS => ?_⟩) hXS ?_
      rotate_left
      · go_simp; try rfl
      simp only [List.set_cons_zero, List.set_cons_succ]
      refine wpX_take (i := 3) (v := ?_) rfl rfl (by kernel_rfl) (fun _ _ _ h => h) (Or.inl ⟨rfl, fun wS hwS => ?_⟩) hXS ?_
      rotate_left
      · go_simp; try rfl
      simp only [List.set_cons_zero, List.set_cons_succ]
      refine wpX_take (i := 4) (v := ?_) rfl rfl (by kernel_rfl) (fun _ _ _ h => h) (Or.inl ⟨rfl, fun wS hwS => ?_⟩) hXS ?_
      rotate_left
      · go_simp; try rfl
      simp only [List.set_cons_zero, List.set_cons_succ]
      refine wpX_take (i := 5) (v := ?_) rfl rfl (by kernel_rfl) (fun _ _ _ h => h) (Or.inl ⟨rfl, fun wS hwS => ?_⟩) hXS ?_
      rotate_left
      · go_simp; try rfl
      simp only [List.set_cons_zero, List.set_cons_succ]
      refine wpX_take (i := 6) (v := ?_) rfl rfl (by kernel_rfl) (fun _ _ _ h => h) (Or.inl ⟨rfl, fun wS hwS => ?_⟩) hXS ?_
      rotate_left
      · go_simp; try rfl
      simp only [List.set_cons_zero, List.set_cons_succ]
      have HBr : Hid (b < wr.heap.size) := Nat.lt_of_lt_of_le HBW.out HK1.out.size
      have HA := hid (fun (W : World) (h : KW wr W) => And.intro (KW.cell h H01.out.lt C.out.1) (And.intro (KW.cell h H21.out.lt C.out.2.1) (KW.cell h HBr.out C.out.2.2)))
      refine wpX_hard (k := 7) (by kernel_rfl) rfl (fun K hK => ?_)
      go_simp
      refine hK _ _ (fun _ => HA.out _ ((KW.refl wr).alloc _).drew) ?_
      clear hK K
      try simp only [List.set_cons_zero, List.set_cons_succ]
      refine wpX_app1 (k := 8) (by kernel_rfl) rfl rfl rfl sliceInt1 rfl (W := wr.drew) (v := vk) (base := w.heap.size + 3) (u := .int .i64 x) (xs := ints (tags.take k)) rfl rfl rfl HO1.out.drew HS1.out (by rw [Hlen.out]; omega) (by rw [Hlen.out]; omega) ?_
      intro v' w3 hown hgrow
      have HO3 := hid hown
      rw [← Hsucc.out] at HO3
      have HG : Hid (Below (w.heap.size + 3) wr w3) := undrew hgrow
      have HX := hid (And.intro ((Below.cell (p := ⟨w.heap.size, 2, none⟩) HG.out (by simp)).trans C.out.1) (And.intro ((Below.cell (p := ⟨w.heap.size + 1 + 1, 2, none⟩) HG.out (by simp)).trans C.out.2.1) ((Below.cell (p := ⟨b, off + k, none⟩) HG.out (by have := HBW.out; show b < w.heap.size + 3; omega)).trans C.out.2.2)))
      have HF : Hid (w3.frozen? ⟨w.heap.size + 1 + 1, 2, none⟩ = false) := (Below.frozen (p := ⟨w.heap.size + 1 + 1, 2, none⟩) HG.out (by simp)).trans F2.out
      clear hown hgrow hXS
      refine ⟨fun _ => HX.out, ?_⟩
      have hXS := HX.out
      try simp only [List.set_cons_zero, List.set_cons_succ]
      refine wpX_take (i := 9) (v := ?_) rfl rfl (by kernel_rfl) (fun _ _ _ h => h) (Or.inl ⟨rfl, fun wS hwS => ?_⟩) hXS ?_
      rotate_left
      · go_simp; try rfl
      simp only [List.set_cons_zero, List.set_cons_succ]
      clear hXS
      obtain ⟨A', c', hv', _⟩ := HO3.out.row
      have HV := hid hv'
      have H03 : Hid (w3.rowIs w.heap.size 24 3 (fun i => [.int .i64 a, .int .i64 p, .slice (some ⟨b, off, none⟩) N c].getD i undef)) := H01.out.of_block (HG.out.block _ (by simp))
      have H13 : Hid (w3.rowIs (w.heap.size + 1) 24 3 (fun i => [.int .i64 0, .int .i64 0, .slice none 0 0].getD i undef)) := H11.out.of_block (HG.out.block _ (by simp))
      have H23 : Hid (w3.rowIs (w.heap.size + 1 + 1) 24 3 (fun i => [.int .i64 a, .int .i64 p, vk].getD i undef)) := H21.out.of_block (HG.out.block _ (by simp))
      have h1 : v'.oneCell' = true := by rw [HV.out]; rfl
      have hc2 := HX.out.2.1
      have hf2 := HF.out
      subst hv'
      refine wpX_hard (k := 10) (by kernel_rfl) rfl (fun K hK => ?_)
      go_simp
      refine hK _ _ (fun h => absurd rfl h) ?_
      clear hK K
      refine wpX_done (by kernel_rfl) ?_
      have HK6 : Hid (KW w (w3.setCell ⟨w.heap.size + 1 + 1, 2, none⟩ (.slice A' (ints (tags.take (k + 1))).length c'))) := Below.setCell (p := ⟨w.heap.size + 1 + 1, 2, none⟩) (Below.trans (show Below w.heap.size w wr from HK1.out) (HG.out.mono (by omega))) (by show _ ≤ w.heap.size + 1 + 1; omega) _
      have HS6 : Hid (w.heap.size + 3 ≤ (w3.setCell ⟨w.heap.size + 1 + 1, 2, none⟩ (.slice A' (ints (tags.take (k + 1))).length c')).heap.size) := by
        have := HG.out.size
        have := HS1.out
        simp
        exact hid (by omega)
      have H06 := hid (H03.out.setOther (a := ⟨w.heap.size + 1 + 1, 2, none⟩) (by show w.heap.size ≠ w.heap.size + 1 + 1; omega) (.slice A' (ints (tags.take (k + 1))).length c'))
      have H16 := hid (H13.out.setOther (a := ⟨w.heap.size + 1 + 1, 2, none⟩) (by show w.heap.size + 1 ≠ w.heap.size + 1 + 1; omega) (.slice A' (ints (tags.take (k + 1))).length c'))
      have H26 : Hid ((w3.setCell ⟨w.heap.size + 1 + 1, 2, none⟩ (.slice A' (ints (tags.take (k + 1))).length c')).rowIs (w.heap.size + 1 + 1) 24 3 (fun i => [.int .i64 a, .int .i64 p, .slice A' (ints (tags.take (k + 1))).length c'].getD i undef)) :=
        (H23.out.set 2 _).congr fun i hi => by
          rcases (show i = 0 ∨ i = 1 ∨ i = 2 by omega) with rfl | rfl | rfl <;> rfl
      have HO6 : Hid (Owns (w3.setCell ⟨w.heap.size + 1 + 1, 2, none⟩ (.slice A' (ints (tags.take (k + 1))).length c')) (w.heap.size + 3) 3 (.slice A' (ints (tags.take (k + 1))).length c') (ints (tags.take (k + 1)))) :=
        HO3.out.of_blocks fun i hi => heap_setCell_other w3 _ i _ (by have := (HO3.out.lt hi).1; show i ≠ w.heap.size + 1 + 1; omega)
      clear hc2 hf2 h1
      generalize (ints (tags.take (k + 1))).length = M at *
      go_wp2_with fail
      go_roundw
      case rel => exact ⟨k + 1, _, by omega, by go_num, HK6, HS6, H06, H16, H26, HO6⟩
      case measure => simp [intOf]; omega
    · have HQ := hid (show k = N by omega)
      have D1 : decide (k < N) = false := by simp; omega
      have HO2 : Hid (Owns wr (w.heap.size + 3) 3 vk (ints tags)) := by
        have := HO1.out
        rwa [HQ.out, ← HN.out, List.take_length] at this
      clear hlt
      obtain ⟨A', c', hv', _⟩ := HO2.out.row
      subst hv'
      generalize (ints tags).length = M at *
      have HW2 : Hid (wr.heap[w.heap.size + 1 + 1]? = some (.cells #[.int .i64 a, .int .i64 p, .slice A' M c'] 24 (0, 0))) := whole H21.out
      go_wp2_with (first
        | (refine wpList_load_row rfl 24 _ rfl (w.heap.size + 1 + 1) rfl 24 _ (0, 0) _ HW2.out Try.underlying24 rfl (by kernel_rfl) ?_)
        | (refine wpList_store_is rfl 24 _ _ rfl (w.heap.size + 1) 3 24 _ (fun i => [.int .i64 a, .int .i64 p, .slice A' M c'].getD i undef) #[.int .i64 a, .int .i64 p, .slice A' M c'] rfl rfl H11.out (by kernel_rfl) rfl ?qa1 ?qa2 ?_))
      case qa1 => intro i hi; rcases (show i = 0 ∨ i = 1 ∨ i = 2 by omega) with rfl | rfl | rfl <;> rfl
      case qa2 => intro i hi; rcases (show i = 0 ∨ i = 1 ∨ i = 2 by omega) with rfl | rfl | rfl <;> rfl
      intro W3 hrow hkeep _
      have hheap : W3.heap[w.heap.size + 1]? = some (.cells #[.int .i64 a, .int .i64 p, .slice A' M c'] 24 (0, 0)) := whole hrow
      have HH := hid hheap
      have HO3 : Hid (Owns W3 w.heap.size 3 (.slice A' M c') (ints tags)) := (hkeep.owns HO2.out fun i hi h => by have := (HO2.out.lt hi).1; omega).base (by omega)
      have HK3 : Hid (KW w W3) := HK1.out.kept hkeep fun i hi => by omega
      clear hrow hkeep hheap
      go_wp2_with fail
      exact bodyPost_ret (results_cell_row rfl _ _ _ _ _ (0, 0) _ rfl HH.out Try.underlying24 rfl (by kernel_rfl)) rfl ⟨_, rfl, HO3.out, HK3.out⟩
end Go.Proofs.Ytgadkelldbibgaa
