/- The reference's Right; Same of words, Ints; what an operation's words are. -/
import Derived.Test.YtnpgiallgcliiaaO1
namespace Go.Proofs.Ytnpgiallgcliiaa
open Go.ChangeShapes Go.WideShapes Go.ChangeAt Go.RowKit
set_option linter.unusedVariables false

/-- the i-th register, what is asked of it -/
def nth3 (d a b : Int) (i : Nat) : Int := if i = 0 then d else if i = 1 then a else b
def ask4 (k : Int) (i : Nat) : Bool := if i = 0 then Oc.aD k else if i = 1 then Oc.aA k else if i = 2 then Oc.aB k else Oc.aV k
theorem rg_reg (n : Int) (x : Bool) : Oc.rg n x = !(decide (n < 0) || decide (2147483647 < n) || (!x && (n != 0))) := by
  unfold Oc.rg
  cases x with
  | true => by_cases h0 : n < 0 <;> by_cases h1 : 2147483647 < n <;> simp [h0, h1] <;> omega
  | false => by_cases h0 : n = 0 <;> simp [h0]
theorem right_no {k d a b v : Int} {i : Nat} (hi : i < 3) (h : Oc.rg (nth3 d a b i) (ask4 k i) = false) : Oc.right k d a b v = false := by
  unfold Oc.right
  rcases (show i = 0 ∨ i = 1 ∨ i = 2 by omega) with rfl | rfl | rfl
  · have h' : Oc.rg d (Oc.aD k) = false := h
    rw [h']; simp
  · have h' : Oc.rg a (Oc.aA k) = false := h
    rw [h']; simp
  · have h' : Oc.rg b (Oc.aB k) = false := h
    rw [h']; simp
theorem right_yes {k d a b v : Int} (hk : Oc.kn k = true) (h : ∀ i, i < 3 → Oc.rg (nth3 d a b i) (ask4 k i) = true) : Oc.right k d a b v = (Oc.aV k || decide (v = 0)) := by
  unfold Oc.right
  have h0 : Oc.rg d (Oc.aD k) = true := h 0 (by omega)
  have h1 : Oc.rg a (Oc.aA k) = true := h 1 (by omega)
  have h2 : Oc.rg b (Oc.aB k) = true := h 2 (by omega)
  rw [hk, h0, h1, h2]; rfl
theorem opv_get (k d a b v : Int) : ∀ i, i < 5 → (opv k d a b v)[i]? = some ((opv k d a b v).toList.getD i undef) := by
  intro i hi
  rcases (show i = 0 ∨ i = 1 ∨ i = 2 ∨ i = 3 ∨ i = 4 by omega) with rfl | rfl | rfl | rfl | rfl <;> rfl

set_option maxHeartbeats 1000000 in
theorem rright07_far (k d a b v : Int) (w : World) (h : Oc.kn k = false) :
    Calls Try.prog 19 #[.agg (opv k d a b v)] w fun e w' => e = .returned (.bool (Oc.right k d a b v)) ∧ KW w w' := by
  have HR : Hid (false = Oc.right k d a b v) := by unfold Oc.right; rw [h]; rfl
  have h' := of_decide_eq_false h
  have hk := (KW.refl w).alloc (.cells #[.int .i64 k, .int .i64 d, .int .i64 a, .int .i64 b, .int .u64 v] 24)
  unfold opv
  by_cases h0 : k < 0
  · clear h h'
    go_enter Try.func19, Try.ntmps19
    go_wp2_with fail
    go_ret
    exact ⟨ret_bool HR.out, hk⟩
  · have d0 : decide (k < 0) = false := decide_eq_false h0
    have d1 : 7 < k := by omega
    clear h h' h0
    go_enter Try.func19, Try.ntmps19
    go_wp2_with fail
    go_ret
    exact ⟨ret_bool HR.out, hk⟩

set_option maxRecDepth 100000 in
set_option maxHeartbeats 2000000 in
theorem rright07_near (k d a b v : Int) (w : World) (h : Oc.kn k = true) :
    Calls Try.prog 19 #[.agg (opv k d a b v)] w fun e w' => e = .returned (.bool (Oc.right k d a b v)) ∧ KW w w' := by
  have HN := hid (fun i (hi : i < 3) (h : Oc.rg (nth3 d a b i) (ask4 k i) = false) => right_no (k := k) (d := d) (a := a) (b := b) (v := v) hi h)
  have HY := hid (fun (hh : ∀ i, i < 3 → Oc.rg (nth3 d a b i) (ask4 k i) = true) => right_yes (k := k) (d := d) (a := a) (b := b) (v := v) h hh)
  have HG := hid (fun i => rg_reg (nth3 d a b i) (ask4 k i))
  have HO := hid (fun W => asks_any k W)
  have h' := of_decide_eq_true h
  have d0 : decide (k < 0) = false := decide_eq_false (by omega)
  have d1 : decide (7 < k) = false := decide_eq_false (by omega)
  have HV := hid (show decide (v = 0) = (v == 0) from by by_cases h : v = 0 <;> simp [h])
  have HX : Hid (∀ i, i < 4 → (akv k)[i]? = some (.bool (ask4 k i))) := by
    intro i hi
    rcases (show i = 0 ∨ i = 1 ∨ i = 2 ∨ i = 3 by omega) with rfl | rfl | rfl | rfl <;> rfl
  have H4 := hid (show ask4 k 3 = Oc.aV k from rfl)
  unfold opv
  unfold akv at HO HX
  generalize Oc.right k d a b v = r at *
  generalize Oc.aD k = xd at *
  generalize Oc.aA k = xa at *
  generalize Oc.aB k = xb at *
  generalize Oc.aV k = xv at *
  clear h h'
  have hk := (KW.refl w).alloc (.cells #[.int .i64 k, .int .i64 d, .int .i64 a, .int .i64 b, .int .u64 v] 24)
  have HOp : Hid ((w.alloc (.cells #[.int .i64 k, .int .i64 d, .int .i64 a, .int .i64 b, .int .u64 v] 24)).rowIs w.heap.size 24 5 (fun i => [.int .i64 k, .int .i64 d, .int .i64 a, .int .i64 b, .int .u64 v].getD i undef)) := World.rowIs_alloc w #[.int .i64 k, .int .i64 d, .int .i64 a, .int .i64 b, .int .u64 v] 24 _ fun i hi => by simp at hi; simp [hi]
  go_enter Try.func19, Try.ntmps19
  go_wp2_with fail
  refine (HO.out _).mono ?_
  rintro e w1 ⟨rfl, hb⟩
  have HOp1 := hid (KW.row hb (by simp) HOp.out)
  have HK := hid (hk.t hb)
  have c1 := HOp1.out.cell (i := 1) (by omega)
  have c2 := HOp1.out.cell (i := 2) (by omega)
  have c3 := HOp1.out.cell (i := 3) (by omega)
  simp only [List.getD_cons_succ, List.getD_cons_zero] at c1 c2 c3
  have hlt := HOp1.out.lt
  clear hb hk HOp
  go_wp2_with fail
  have h3 : w.heap.size < w1.heap.size := hlt
  refine wpCode_world (fun W => KW w W ∧ W.rowIs w1.heap.size 53 4 (fun i => .bool (ask4 k i)) ∧ W.rowIs (w1.heap.size + 1) 72 3 (fun i => .int .i64 (nth3 d a b i)) ∧ W.cell? ⟨w.heap.size, 4, none⟩ = some (.int .u64 v)) ⟨(HK.out.alloc _).alloc _, ?_, ?_, ?_⟩ ?_
  · exact (World.rowIs_alloc w1 #[.bool xd, .bool xa, .bool xb, .bool xv] 53 (fun i => .bool (ask4 k i)) HX.out).alloc _
  · have h := World.rowIs_alloc (w1.alloc (.cells #[.bool xd, .bool xa, .bool xb, .bool xv] 53)) #[.int .i64 d, .int .i64 a, .int .i64 b] 72 (fun i => .int .i64 (nth3 d a b i)) fun i hi => by
      rcases (show i = 0 ∨ i = 1 ∨ i = 2 by simp at hi; omega) with rfl | rfl | rfl <;> rfl
    simpa using h
  · have c4 := HOp1.out.cell (i := 4) (by omega)
    exact KW.cell (((KW.refl w1).alloc _).alloc _) hlt c4
  rintro W ⟨hk, hx, hn, hv⟩
  have HK2 := hid hk
  have HXr := hid hx
  have HNr := hid hn
  generalize hg1 : w1.heap.size = g1 at *
  clear hk hx hn c1 c2 c3 hlt h3 HK HOp1 hg1
  go_loop [5] (fun i => ∃ j : Nat, j ≤ 3 ∧ i = .int .i64 j ∧ Hid (∀ q, q < j → Oc.rg (nth3 d a b q) (ask4 k q) = true)) (fun i => 3 - (intOf i).toNat)
  case atStart => exact ⟨0, by omega, rfl, fun q hq => by omega⟩
  case round =>
    obtain ⟨j, hj, rfl, HJ⟩ := hrel
    by_cases hlt : j < 3
    · have x := HXr.out.cell (i := j) (by omega)
      have n := HNr.out.cell (i := j) (by omega)
      have HNj := hid (HN.out j hlt)
      have HGj := hid (HG.out j)
      have HJ2 := hid (fun (h : Oc.rg (nth3 d a b j) (ask4 k j) = true) (q : Nat) (hq : q < j + 1) => (show Oc.rg (nth3 d a b q) (ask4 k q) = true from by
        rcases (show q < j ∨ q = j by omega) with h1 | rfl
        · exact HJ.out q h1
        · exact h))
      generalize nth3 d a b j = z at *
      generalize ask4 k j = y at *
      have L5 : (j : Int) < 3 := by omega
      have bad : Oc.rg z y = false → Hid (r = false) := fun h => HNj.out h
      by_cases h0 : z < 0
      · have HF := bad (by rw [HGj.out, decide_eq_true h0]; rfl)
        clear bad
        go_wp2_with fail
        go_ret
        exact ⟨ret_bool HF.out.symm, HK2.out⟩
      have d0 : decide (z < 0) = false := decide_eq_false h0
      by_cases h1 : 2147483647 < z
      · have HF := bad (by rw [HGj.out, d0, decide_eq_true h1]; rfl)
        clear bad
        go_wp2_with fail
        go_ret
        exact ⟨ret_bool HF.out.symm, HK2.out⟩
      have d1 : decide (2147483647 < z) = false := decide_eq_false h1
      cases y with
      | true =>
        have HT := hid (HJ2.out (by rw [HGj.out, d0, d1]; rfl))
        clear bad
        go_wp2_with fail
        go_round
        case rel => exact ⟨j + 1, by omega, by go_num, HT⟩
        case measure => simp [intOf]; omega
      | false =>
        by_cases h2 : z = 0
        · have d2 : (z != 0) = false := by simp [h2]
          have d3 : (z == 0) = true := by simp [h2]
          have HT := hid (HJ2.out (by rw [HGj.out, d0, d1, d2]; rfl))
          clear bad h2
          go_wp2_with fail
          go_round
          case rel => exact ⟨j + 1, by omega, by go_num, HT⟩
          case measure => simp [intOf]; omega
        · have d2 : (z != 0) = true := by simpa using h2
          have d3 : (z == 0) = false := by simpa using h2
          have HF := bad (by rw [HGj.out, d0, d1, d2]; rfl)
          clear bad h2
          go_wp2_with fail
          go_ret
          exact ⟨ret_bool HF.out.symm, HK2.out⟩
    · obtain rfl : j = 3 := by omega
      have HR := hid (HY.out HJ.out)
      have x := HXr.out.cell (i := 3) (by omega)
      simp only [H4.out] at x
      clear hlt
      cases xv with
      | true =>
        go_wp2_with fail
        go_ret
        exact ⟨ret_bool (by rw [HR.out]; rfl), HK2.out⟩
      | false =>
        go_wp2_with fail
        go_ret
        exact ⟨ret_bool (by rw [HR.out, HV.out]; rfl), HK2.out⟩
theorem rright07_any (k d a b v : Int) (w : World) :
    Calls Try.prog 19 #[.agg (opv k d a b v)] w fun e w' => e = .returned (.bool (Oc.right k d a b v)) ∧ KW w w' := by
  cases h : Oc.kn k with
  | false => exact rright07_far k d a b v w h
  | true => exact rright07_near k d a b v w h

/-- words in memory -/
def u64s (l : List Int) : List Value := l.map (Value.int .u64)
theorem u64s_len (l : List Int) : (u64s l).length = l.length := by simp [u64s]
theorem u64s_get (l : List Int) {i : Nat} (h : i < l.length) : (u64s l).getD i undef = .int .u64 (l.getD i 0) := by simp [u64s, h]
def WT (w : World) (v : Value) (l : List Int) : Prop := ∃ A c, v = .slice A l.length c ∧ Row1 w A l.length fun i => .int .u64 (l.getD i 0)
theorem WT.kw {w w' : World} {v : Value} {l : List Int} (h : WT w v l) (hk : KW w w') : WT w' v l := by
  obtain ⟨A, c, hv, hr⟩ := h
  exact ⟨A, c, hv, hr.k hk⟩
theorem Owns.wt {w : World} {base : Nat} {e : TypeId} {v : Value} {l : List Int} (h : Owns w base e v (u64s l)) : WT w v l := by
  obtain ⟨A, c, hv, _, _, hr⟩ := h.row
  rw [u64s_len] at hv hr
  exact ⟨A, c, hv, hr.cong fun i hi => u64s_get l hi⟩
theorem WT.nil (w : World) : WT w (.slice none 0 0) [] := ⟨none, 0, rfl, fun h => absurd h (by simp)⟩

set_option maxHeartbeats 1000000 in
theorem same05_any (v1 v2 : Value) (l1 l2 : List Int) (w : World) (h1 : WT w v1 l1) (h2 : WT w v2 l2) (hl : l1.length ≤ 4611686018427387904) :
    Calls Try.prog 20 #[v1, v2] w fun e w' => e = .returned (.bool (decide (l1 = l2))) ∧ KW w w' := by
  obtain ⟨A1, c1, rfl, hr1⟩ := h1
  obtain ⟨A2, c2, rfl, hr2⟩ := h2
  have H1 := hid hr1
  have H2 := hid hr2
  clear hr1 hr2
  by_cases hlen : l1.length = l2.length
  · have HE := hid (fun (hh : ∀ i, i < l1.length → l1.getD i 0 = l2.getD i 0) => (decide_eq_true (List.ext_getElem hlen fun i h1 h2 => by
      have := hh i h1
      simpa [List.getD_eq_getElem?_getD, List.getElem?_eq_getElem h1, List.getElem?_eq_getElem h2] using this) : decide (l1 = l2) = true))
    have HF := hid (fun i (hi : i < l1.length) (hn : l1.getD i 0 ≠ l2.getD i 0) => (decide_eq_false (fun h => hn (by rw [h])) : decide (l1 = l2) = false))
    rw [← hlen] at H2
    rw [← hlen]
    generalize decide (l1 = l2) = r at *
    generalize l1.length = N at *
    clear hlen
    go_enter Try.func20, Try.ntmps20
    go_wp2_with fail
    go_loopw [5] (fun i wr => ∃ k : Nat, k ≤ N ∧ i = .int .i64 k ∧ Hid (∀ q, q < k → l1.getD q 0 = l2.getD q 0) ∧ Hid (KW w wr)) (fun i _ => N - (intOf i).toNat)
    case atStart => exact ⟨0, by omega, rfl, fun q hq => by omega, KW.refl w⟩
    case round =>
      obtain ⟨k, hk, rfl, HQ, HK⟩ := hrel
      by_cases hlt : k < N
      · obtain ⟨q1, o1, rfl, hq1, hc1⟩ := (H1.out.k HK.out).at_ hlt
        obtain ⟨q2, o2, rfl, hq2, hc2⟩ := (H2.out.k HK.out).at_ hlt
        have HFk := hid (HF.out k hlt)
        have HQ2 := hid (fun (h : l1.getD k 0 = l2.getD k 0) (q : Nat) (hq : q < k + 1) => (show l1.getD q 0 = l2.getD q 0 from by
          rcases (show q < k ∨ q = k by omega) with h1 | rfl
          · exact HQ.out q h1
          · exact h))
        generalize l1.getD k 0 = x at *
        generalize l2.getD k 0 = y at *
        have L5 : (k : Int) < (N : Int) := by omega
        go_wp2_with fail
        have hXS := And.intro hc1 hc2
        refine wpX_region (S := fun w' => w'.cell? ⟨q1, o1 + k, none⟩ = some (.int .u64 x) ∧ w'.cell? ⟨q2, o2 + k, none⟩ = some (.int .u64 y)) (L := 99) (by kernel_rfl) ?_
        refine wpX_take (i := 0) (v := ?_) rfl rfl (by kernel_rfl) (fun _ _ _ h => h) (Or.inl ⟨rfl, fun wS hwS => ?_⟩) hXS ?_
        rotate_left
        · go_simp; try rfl
        simp only [List.set_cons_zero, List.set_cons_succ]
        refine wpX_take (i := 1) (v := ?_) rfl rfl (by kernel_rfl) (fun _ _ _ h => h) (Or.inl ⟨rfl, fun wS hwS => ?_⟩) hXS ?_
        rotate_left
        · go_simp; try rfl
        simp only [List.set_cons_zero, List.set_cons_succ]
        refine wpX_take (i := 2) (v := ?_) rfl rfl (by kernel_rfl) (fun _ _ _ h => h) (Or.inl ⟨rfl, fun wS hwS => ?_⟩) hXS ?_
        rotate_left
        · go_simp; try rfl
        simp only [List.set_cons_zero, List.set_cons_succ]
        refine wpX_take (i := 3) (v := ?_) rfl rfl (by kernel_rfl) (fun _ _ _ h => h) (Or.inl ⟨rfl, fun wS hwS => ?_⟩) hXS ?_
        rotate_left
        · go_simp; try rfl
        simp only [List.set_cons_zero, List.set_cons_succ]
        refine wpX_take (i := 4) (v := ?_) rfl rfl (by kernel_rfl) (fun _ _ _ h => h) (Or.inl ⟨rfl, fun wS hwS => ?_⟩) hXS ?_
        rotate_left
        · go_simp; try rfl
        simp only [List.set_cons_zero, List.set_cons_succ]
        refine wpX_take (i := 5) (v := ?_) rfl rfl (by kernel_rfl) (fun _ _ _ h => h) (Or.inl ⟨rfl, fun wS hwS => ?_⟩) hXS ?_
        rotate_left
        · go_simp; try rfl
        simp only [List.set_cons_zero, List.set_cons_succ]
        refine wpX_take (i := 6) (v := ?_) rfl rfl (by kernel_rfl) (fun _ _ _ h => h) (Or.inl ⟨rfl, fun wS hwS => ?_⟩) hXS ?_
        rotate_left
        · go_simp; try rfl
        simp only [List.set_cons_zero, List.set_cons_succ]
        refine wpX_take (i := 7) (v := ?_) rfl rfl (by kernel_rfl) (fun _ _ _ h => h) (Or.inl ⟨rfl, fun wS hwS => ?_⟩) hXS ?_
        rotate_left
        · go_simp; try rfl
        simp only [List.set_cons_zero, List.set_cons_succ]
        refine wpX_take (i := 8) (v := ?_) rfl rfl (by kernel_rfl) (fun _ _ _ h => h) (Or.inl ⟨rfl, fun wS hwS => ?_⟩) hXS ?_
        rotate_left
        · go_simp; try rfl
        simp only [List.set_cons_zero, List.set_cons_succ]
        refine wpX_done (by kernel_rfl) ?_
        by_cases he : x = y
        · have HQ3 := hid (HQ2.out he)
          have d : (x != y) = false := by simpa using he
          have d2 : (x == y) = true := by simpa using he
          clear he HFk
          go_wp2_with fail
          go_roundw
          case rel => exact ⟨k + 1, by omega, by go_num, HQ3, HK.out.drew⟩
          case measure => simp [intOf]; omega
        · have HF2 := hid (HFk.out he)
          have d : (x != y) = true := by simpa using he
          have d2 : (x == y) = false := by simpa using he
          clear he HFk
          go_wp2_with fail
          go_ret
          exact ⟨ret_bool HF2.out.symm, HK.out.drew⟩
      · obtain rfl : k = N := by omega
        have HT := hid (HE.out HQ.out)
        clear hlt
        go_wp2_with fail
        go_ret
        exact ⟨ret_bool HT.out.symm, HK.out⟩
  · have HF : Hid (false = decide (l1 = l2)) := (decide_eq_false (fun h => hlen (by rw [h]))).symm
    have d : ((l1.length : Int) != (l2.length : Int)) = true := by simp; omega
    have d2 : ((l1.length : Int) == (l2.length : Int)) = false := by simp; omega
    go_enter Try.func20, Try.ntmps20
    go_wp2_with fail
    go_ret
    exact ⟨ret_bool HF.out, KW.refl w⟩
end Go.Proofs.Ytnpgiallgcliiaa
