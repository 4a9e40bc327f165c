/- Several texts in one. -/
import Derived.Test.YtgadkelldbibgaaPF
import Derived.Test.YtgadkelldbibgaaTT
import Derived.Test.YtgadkelldbibgaaN5a
import Derived.WalkMore
import Derived.RegionTactic
import Derived.Test.YtgadkelldbibgaaN4
import Derived.Deep.LoopGhost
import Derived.Test.YtgadkelldbibgaaBT
/- The reference's number, spot, acts (layer 29). -/
namespace Go.Proofs.Ytgadkelldbibgaa
open Go.ChangeShapes Go.WideShapes Go.ChangeAt Go.RowKit
set_option linter.unusedVariables false

theorem all_le {l s : Nat} (hl : l ≤ 5) (hs : s ≤ 3) : Rs.all l s ≤ 14406 := by
  rcases (show s = 0 ∨ s = 1 ∨ s = 2 ∨ s = 3 by omega) with rfl | rfl | rfl | rfl <;> rcases (show l = 0 ∨ l = 1 ∨ l = 2 ∨ l = 3 ∨ l = 4 ∨ l = 5 by omega) with rfl | rfl | rfl | rfl | rfl | rfl <;> decide

/-- the number by the first tags -/
def nq (l : Nat) (m : Mc.St) (q : Nat) : Nat := Rs.numT (l + 2) (m.at_.toNat * (l + 2) + (m.pend + 1).toNat) (m.tags.take q)
theorem nq_zero (l : Nat) (m : Mc.St) : nq l m 0 = m.at_.toNat * (l + 2) + (m.pend + 1).toNat := rfl
theorem nq_succ (l : Nat) (m : Mc.St) {q : Nat} (h : q < m.tags.length) : nq l m (q + 1) = nq l m q * (l + 2) + (m.tags.getD q 0 + 1).toNat := by
  unfold nq
  rw [List.take_succ_eq_append_getElem h, Rs.numT_app]
  congr 2
  simp [h]
theorem nq_all (l : Nat) (m : Mc.St) : nq l m m.tags.length = Rs.num l m := by
  unfold nq Rs.num
  rw [List.take_length]
theorem nq_lt {l : Nat} {m : Mc.St} (hI : Mc.Inv m) (hml : m.l = l) (hl : l ≤ 5) (h3 : m.tags.length ≤ 3) {q : Nat} (hq : q ≤ m.tags.length) : nq l m q < 14406 := by
  have a0 := hI.a0
  have a1 := hI.a1
  have p0 := hI.p0
  have p1 := hI.p1
  have hn : m.at_.toNat * (l + 2) + (m.pend + 1).toNat < (l + 1) * (l + 2) := by
    have : (m.at_.toNat + 1) * (l + 2) ≤ (l + 1) * (l + 2) := Nat.mul_le_mul_right _ (by omega)
    rw [Nat.add_mul] at this
    omega
  have := (Rs.numT_lt l q (m.tags.take q) _ (by simp; omega) hn fun x hx => by
    have := hI.tg x (List.mem_of_mem_take hx)
    omega).1
  have h2 := all_le hl (show q ≤ 3 by omega)
  unfold nq
  omega

set_option maxRecDepth 100000 in
set_option maxHeartbeats 1000000 in
theorem rnum29_any (l : Nat) (m : Mc.St) (v : Value) (w : World) (hv : RT w v m.tags) (hI : Mc.Inv m) (hml : m.l = l) (hl : l ≤ 5) (h3 : m.tags.length ≤ 3) :
    Calls Try.prog 68 #[.int .i64 l, .agg #[.int .i64 m.at_, .int .i64 m.pend, v]] w fun e w' => e = .returned (.int .i64 (Rs.num l m : Nat)) ∧ KW w w' := by
  have a0 := hI.a0
  have a1 := hI.a1
  have p0 := hI.p0
  have p1 := hI.p1
  have hlt0 := nq_lt hI hml hl h3 (Nat.zero_le _)
  have HLT := hid (fun q (hq : q ≤ m.tags.length) => nq_lt hI hml hl h3 hq)
  have HSu := hid (fun q (hq : q < m.tags.length) => nq_succ l m hq)
  have HAl := hid (nq_all l m)
  have HTg : Hid (∀ q, q < m.tags.length → -1 ≤ m.tags.getD q 0 ∧ m.tags.getD q 0 ≤ m.l) := fun q hq => by
    rw [Sx.getD_at hq 0]
    exact hI.tg _ (List.getElem_mem hq)
  have e0 := nq_zero l m
  obtain ⟨A, c, rfl, hr, hty⟩ := hv
  clear hty
  have HR := hid hr
  clear hr hI
  obtain ⟨ml, a, p, t, tags⟩ := m
  simp only at *
  subst hml
  obtain ⟨P, hP⟩ : ∃ P : Int, P = a * ((l : Int) + 2) := ⟨_, rfl⟩
  have hP2 : P + (p + 1) = (nq l ⟨l, a, p, t, tags⟩ 0 : Nat) := by
    rw [e0, hP]
    have e1 : ((a.toNat * (l + 2) + (p + 1).toNat : Nat) : Int) = (a.toNat : Int) * ((l : Int) + 2) + ((p + 1).toNat : Int) := by simp
    rw [e1, Int.toNat_of_nonneg a0, Int.toNat_of_nonneg (by omega)]
  have w1 : IntKind.i64.wrap ((l : Int) + 2) = (l : Int) + 2 := IntWalk.i64_in _ (by omega)
  have w2 : IntKind.i64.wrap (a * ((l : Int) + 2)) = P := by rw [← hP]; exact IntWalk.i64_in _ (by omega)
  have w3 : IntKind.i64.wrap (P + p) = P + p := IntWalk.i64_in _ (by omega)
  have w4 : IntKind.i64.wrap (P + p + 1) = (nq l ⟨l, a, p, t, tags⟩ 0 : Nat) := by rw [← hP2]; rw [show P + p + 1 = P + (p + 1) by omega]; exact IntWalk.i64_in _ (by omega)
  have HK := hid ((KW.refl w).alloc (.cells #[.int .i64 a, .int .i64 p, .slice A tags.length c] 24))
  clear hP hP2 e0
  have hlen : (tags.length : Int) ≤ 3 := by omega
  generalize hS : nq l ⟨l, a, p, t, tags⟩ = N at *
  generalize hn : tags.length = n at *
  clear hS a0 a1 p0 p1 hlt0
  go_enter Try.func68, Try.ntmps68
  go_wp2_with fail
  have HB0 := hid (World.rowIs_alloc w #[.int .i64 a, .int .i64 p, .slice A n c] 24 (fun i => #[Value.int .i64 a, .int .i64 p, .slice A n c].getD i undef) fun i hi => by match i, hi with | 0, _ => rfl | 1, _ => rfl | 2, _ => rfl)
  go_loopw [5, 6] (fun x i wr => ∃ q : Nat, q ≤ n ∧ i = .int .i64 q ∧ x = .int .i64 (N q : Nat) ∧ wr = w.alloc (.cells #[.int .i64 a, .int .i64 p, .slice A n c] 24)) (fun _ i _ => n - (intOf i).toNat)
  case atStart => exact ⟨0, by omega, rfl, rfl, rfl⟩
  case round =>
    obtain ⟨q, hq, rfl, rfl, rfl⟩ := hrel
    by_cases hlt : q < n
    · obtain ⟨b', off, rfl, hb', hc⟩ := HR.out (by omega)
      have c1 := hc q hlt
      have c1' : (w.alloc (.cells #[.int .i64 a, .int .i64 p, .slice (some ⟨b', off, none⟩) n c] 24)).cell? ⟨b', off + q, none⟩ = some (.int .i64 (tags.getD q 0)) := KW.cell HK.out hb' c1
      have hb2 : b' < (w.alloc (.cells #[.int .i64 a, .int .i64 p, .slice (some ⟨b', off, none⟩) n c] 24)).heap.size := Nat.lt_of_lt_of_le hb' HK.out.size
      have L1 : (q : Int) < (n : Int) := by omega
      have ht := HTg.out q hlt
      have hl1 := HLT.out q (by omega)
      have hl2 := HLT.out (q + 1) (by omega)
      have hs := HSu.out q hlt
      generalize tags.getD q 0 = x at *
      obtain ⟨P2, hP2⟩ : ∃ P2 : Nat, P2 = N q * (l + 2) := ⟨_, rfl⟩
      rw [← hP2] at hs
      have v2 : IntKind.i64.wrap ((N q : Int) * ((l : Int) + 2)) = (P2 : Int) := by
        rw [show (N q : Int) * ((l : Int) + 2) = (P2 : Int) by rw [hP2]; simp]
        exact IntWalk.i64_in _ (by omega)
      have v3 : IntKind.i64.wrap ((P2 : Int) + x) = (P2 : Int) + x := IntWalk.i64_in _ (by omega)
      have v4 : IntKind.i64.wrap ((P2 : Int) + x + 1) = (N (q + 1) : Int) := by
        rw [show (P2 : Int) + x + 1 = (N (q + 1) : Int) by omega]
        exact IntWalk.i64_in _ (by omega)
      clear hP2 hs ht c1 hc hb' HR
      go_wp2_with fail
      go_roundw
      case rel => exact ⟨q + 1, by omega, by go_num, by first | trivial | rfl, by first | trivial | rfl⟩
      case measure => simp [intOf]; omega
    · obtain rfl : q = n := by omega
      go_wp2_with fail
      go_ret
      have e := HAl.out
      exact ⟨by rw [← e]; rfl, HK.out⟩

/-! ### spot -/
/-- what is left of a number behind j digits -/
def rd (B : Nat) : Nat → Nat → Nat
  | 0, n => n
  | j + 1, n => rd B j n / B
theorem rd_shift (B : Nat) : ∀ j n, rd B j (n / B) = rd B (j + 1) n
  | 0, n => rfl
  | j + 1, n => by
    show rd B j (n / B) / B = rd B (j + 1) n / B
    rw [rd_shift B j n]
theorem dg_rd (B : Nat) : ∀ s n, (Rs.dg B s n).2 = rd B s n
  | 0, n => rfl
  | s + 1, n => by
    show (Rs.dg B s (n / B)).2 = _
    rw [dg_rd B s, rd_shift]
theorem dg_at (B : Nat) : ∀ s n j, j < s → (Rs.dg B s n).1.getD (s - 1 - j) 0 = ((rd B j n % B : Nat) : Int) - 1
  | s + 1, n, j, h => by
    have hl := Rs.dg_len B s (n / B)
    show ((Rs.dg B s (n / B)).1 ++ [((n % B : Nat) : Int) - 1]).getD (s + 1 - 1 - j) 0 = _
    cases j with
    | zero =>
      rw [List.getD_eq_getElem?_getD, List.getElem?_append_right (by omega), hl, show s + 1 - 1 - 0 - s = 0 by omega]
      rfl
    | succ j =>
      have := dg_at B s (n / B) j (by omega)
      rw [rd_shift] at this
      rw [← this, List.getD_eq_getElem?_getD, List.getD_eq_getElem?_getD, List.getElem?_append_left (by omega), show s + 1 - 1 - (j + 1) = s - 1 - j by omega]
theorem rd_le (B : Nat) : ∀ j n, rd B j n ≤ n
  | 0, n => Nat.le_refl _
  | j + 1, n => Nat.le_trans (Nat.div_le_self _ _) (rd_le B j n)

def spc (a p : Int) (v : Value) : Nat → Value
  | 0 => .int .i64 a
  | 1 => .int .i64 p
  | _ => v

theorem whole3 {w : World} {b : Nat} {t : TypeId} {f : Nat → Value} (h : w.rowIs b t 3 f) : w.heap[b]? = some (.cells #[f 0, f 1, f 2] t (0, 0)) := by
  obtain ⟨c, hb, hs, hc⟩ := h
  rw [hb]
  have : c = #[f 0, f 1, f 2] := by
    apply Array.ext_getElem?
    intro i
    by_cases hi : i < 3
    · rw [hc i hi]
      match i, hi with
      | 0, _ => rfl
      | 1, _ => rfl
      | 2, _ => rfl
    · rw [Array.getElem?_eq_none (by omega), Array.getElem?_eq_none (by simp; omega)]
  rw [this]

set_option maxRecDepth 100000 in
set_option maxHeartbeats 1000000 in
theorem rspot29_any (l s n : Nat) (w : World) (hl : l ≤ 5) (hs : s ≤ 3) (hn : n ≤ 1000000) :
    Calls Try.prog 66 #[.int .i64 l, .int .i64 s, .int .i64 n] w fun e w' => ∃ v, e = .returned (.agg #[.int .i64 (Rs.sp l s n).at_, .int .i64 (Rs.sp l s n).pend, v]) ∧ RT w' v (Rs.sp l s n).tags ∧ (∀ k, v.ownBlock = some k → w.heap.size ≤ k) ∧ KW w w' := by
  have hmk : ∀ W, (Instr.makeSlice 22 (.int .i64 s) (.int .i64 s)).run Try.prog W = .ok (.slice (some ⟨W.heap.size, 0, none⟩) s s) (W.alloc (.cells (madeCells #[.int .i64 0] s) 3)) := fun W => run_make_row' (P := Try.prog) 22 3 (.int .i64 0) 8 Try.underlying22 (by kernel_rfl) rfl .i64 .i64 s (by omega) (by omega) W
  have wB : IntKind.i64.wrap ((l : Int) + 2) = ((l + 2 : Nat) : Int) := by
    rw [show ((l + 2 : Nat) : Int) = (l : Int) + 2 by omega]
    exact IntWalk.i64_in _ (by omega)
  have hT : ∀ j, j < s → (Rs.sp l s n).tags.getD (s - 1 - j) 0 = ((rd (l + 2) j n % (l + 2) : Nat) : Int) - 1 := fun j hj => dg_at (l + 2) s n j hj
  have hTl : (Rs.sp l s n).tags.length = s := Rs.sp_len l s n
  have hat : (Rs.sp l s n).at_ = ((rd (l + 2) s n / (l + 2) : Nat) : Int) := by rw [← dg_rd]; rfl
  have hpe : (Rs.sp l s n).pend = ((rd (l + 2) s n % (l + 2) : Nat) : Int) - 1 := by rw [← dg_rd]; rfl
  generalize (Rs.sp l s n).tags = T at *
  rw [hat, hpe]
  have HT := hid hT
  have HTl := hid hTl
  have HR := hid (fun j => rd_le (l + 2) j n)
  have HSt : Hid (∀ j, rd (l + 2) (j + 1) n = rd (l + 2) j n / (l + 2)) := fun j => rfl
  have HR0 : Hid (rd (l + 2) 0 n = n) := rfl
  generalize hrd : (fun j => rd (l + 2) j n) = R
  have hrd' : ∀ j, rd (l + 2) j n = R j := fun j => by rw [← hrd]
  simp only [hrd'] at HT HR HSt HR0 ⊢
  generalize hB : l + 2 = B at *
  have hB0 : 0 < B := by omega
  have hBn : (B : Int) ≠ 0 := by omega
  have hBz : ((B : Int) == 0) = false := beq_eq_false_iff_ne.2 hBn
  have HB7 : Hid (B ≤ 7) := by exact hid (by omega)
  clear hT hTl hat hpe hrd hrd'
  go_enter Try.func66, Try.ntmps66
  go_wp2_with fail
  obtain ⟨W0, hW0⟩ : ∃ W0, W0 = (((w.alloc (.cells #[.int .i64 0, .int .i64 0, .slice none 0 0] 24)).alloc (.cells (madeCells #[.int .i64 0] s) 3)).alloc (.cells #[.int .i64 0, .int .i64 0, .slice (some ⟨w.heap.size + 1, 0, none⟩) s s] 24)) := ⟨_, rfl⟩
  have HS0 : Hid (W0.rowIs w.heap.size 24 3 (spc 0 0 (.slice none 0 0)) ∧ W0.rowIs (w.heap.size + 1) 3 s (fun i => .int .i64 0) ∧ W0.rowIs (w.heap.size + 1 + 1) 24 3 (spc 0 0 (.slice (some ⟨w.heap.size + 1, 0, none⟩) s s)) ∧ KW w W0) := by
    subst hW0
    have s1 : (w.alloc (.cells #[.int .i64 0, .int .i64 0, .slice none 0 0] 24)).heap.size = w.heap.size + 1 := by simp
    have s2 : ((w.alloc (.cells #[.int .i64 0, .int .i64 0, .slice none 0 0] 24)).alloc (.cells (madeCells #[.int .i64 0] s) 3)).heap.size = w.heap.size + 1 + 1 := by simp
    refine ⟨KW.row (((KW.refl _).alloc _).alloc _) (by simp) (World.rowIs_alloc w _ _ (spc 0 0 (.slice none 0 0)) fun i hi => by match i, hi with | 0, _ => rfl | 1, _ => rfl | 2, _ => rfl), ?_, ?_, (((KW.refl w).alloc _).alloc _).alloc _⟩
    · have := World.rowIs_made (w.alloc (.cells #[.int .i64 0, .int .i64 0, .slice none 0 0] 24)) (.int .i64 0) s 3
      rw [s1] at this
      exact KW.row ((KW.refl _).alloc _) (by rw [s2]; omega) this
    · have := World.rowIs_alloc ((w.alloc (.cells #[.int .i64 0, .int .i64 0, .slice none 0 0] 24)).alloc (.cells (madeCells #[.int .i64 0] s) 3)) #[.int .i64 0, .int .i64 0, .slice (some ⟨w.heap.size + 1, 0, none⟩) s s] 24 (spc 0 0 (.slice (some ⟨w.heap.size + 1, 0, none⟩) s s)) fun i hi => by match i, hi with | 0, _ => rfl | 1, _ => rfl | 2, _ => rfl
      rw [s2] at this
      exact this
  rw [← hW0]
  clear hW0
  go_loopw [2, 8] (fun t2 t8 wr => ∃ j : Nat, j ≤ s ∧ t8 = .int .i64 ((s : Int) - 1 - j) ∧ t2 = .int .i64 (R j : Nat) ∧ Hid (wr.rowIs w.heap.size 24 3 (spc 0 0 (.slice none 0 0))) ∧ Hid (wr.rowIs (w.heap.size + 1) 3 s (fun i => if s - j ≤ i then .int .i64 (T.getD i 0) else .int .i64 0)) ∧ Hid (wr.rowIs (w.heap.size + 1 + 1) 24 3 (spc 0 0 (.slice (some ⟨w.heap.size + 1, 0, none⟩) s s))) ∧ Hid (KW w wr)) (fun _ t8 _ => (intOf t8 + 1).toNat)
  case atStart => exact ⟨0, by omega, by go_num, by rw [HR0.out], HS0.out.1, HS0.out.2.1.congr fun i hi => by rw [if_neg (by omega)], HS0.out.2.2.1, HS0.out.2.2.2⟩
  case round =>
    clear HS0 HR0
    obtain ⟨j, hj, rfl, rfl, H6, H1, H7, HK⟩ := hrel
    have c7 : wr.cell? ⟨w.heap.size + 1 + 1, 2, none⟩ = some (.slice (some ⟨w.heap.size + 1, 0, none⟩) s s) := H7.out.cell (i := 2) (by omega)
    have l7 := H7.out.lt
    have hRn := HR.out j
    have hRj := HSt.out j
    obtain ⟨r, hr⟩ : ∃ r, r = R j := ⟨_, rfl⟩
    have e1 : (r : Int).tmod (B : Int) = ((r % B : Nat) : Int) := (Int.ofNat_tmod r B).symm
    have e2 : (r : Int).tdiv (B : Int) = ((r / B : Nat) : Int) := (Int.ofNat_tdiv r B).symm
    have e3 : r % B < B := Nat.mod_lt _ hB0
    have e4 : r / B ≤ r := Nat.div_le_self _ _
    obtain ⟨m, hm⟩ : ∃ m, m = r % B := ⟨_, rfl⟩
    obtain ⟨d, hd⟩ : ∃ d, d = r / B := ⟨_, rfl⟩
    rw [← hm] at e1 e3
    rw [← hd] at e2 e4
    have w2 : IntKind.i64.wrap (d : Int) = (d : Int) := IntWalk.i64_in _ (by omega)
    have w1 : IntKind.i64.wrap ((m : Int) - 1) = (m : Int) - 1 := IntWalk.i64_in _ (by have := HB7.out; omega)
    by_cases hlt : j < s
    · obtain ⟨k, hk⟩ : ∃ k : Nat, k = s - 1 - j := ⟨_, rfl⟩
      have hkk : (s : Int) - 1 - (j : Int) = (k : Int) := by omega
      have L1 : (0 : Int) ≤ (k : Int) := by omega
      have L2 : k < s := by omega
      have ct : wr.cell? ⟨w.heap.size + 1, k, none⟩ = some (.int .i64 0) := by
        have := H1.out.cell (i := k) L2
        rw [if_neg (by omega)] at this
        exact this
      have ft := H1.out.frozen k
      have lt := H1.out.lt
      have hTk := HT.out j hlt
      rw [← hk, ← hr, ← hm] at hTk
      rw [← hr, ← hd] at hRj
      have HTk := hid hTk
      have HRj := hid hRj
      have HKk := hid hk
      have HKK : Hid ((k : Int) - 1 = (s : Int) - 1 - ((j + 1 : Nat) : Int)) := by exact hid (by omega)
      rw [hkk, ← hr]
      clear hTk hRj hk hkk hr hm hd hRn
      go_wp2_with fail
      go_region
      go_wp2
      go_roundw
      case rel =>
        refine ⟨j + 1, by omega, ?_, ?_, ?_, ?_, ?_, ?_⟩
        · rw [← HKK.out]
        · rw [HRj.out]
        · exact (H6.out.drew).setOther (Nat.ne_of_lt (Nat.lt_succ_self _)) _
        · refine (H1.out.drew.set k _).congr fun i hi => ?_
          have h1 := HKk.out
          by_cases he : i = k
          · subst he
            rw [if_pos rfl, if_pos (by omega), HTk.out]
          · rw [if_neg he]
            by_cases h2 : s - j ≤ i
            · rw [if_pos h2, if_pos (by omega)]
            · rw [if_neg h2, if_neg (by omega)]
        · exact (H7.out.drew).setOther (Nat.ne_of_gt (Nat.lt_succ_self _)) _
        · exact (KW.refl w).kept ((HK.out.drew.keep (own := (· = w.heap.size + 1))).setCell ⟨w.heap.size + 1, k, none⟩ _ rfl) fun i hi => by omega
      case measure => (simp [intOf]; try omega)
    · obtain rfl : j = s := by omega
      rw [← hr]
      have hm' := hm
      have hd' := hd
      rw [hr] at hm' hd'
      have c71 : wr.cell? ⟨w.heap.size + 1 + 1, 1, none⟩ = some (.int .i64 0) := H7.out.cell (i := 1) (by omega)
      have c70 : wr.cell? ⟨w.heap.size + 1 + 1, 0, none⟩ = some (.int .i64 0) := H7.out.cell (i := 0) (by omega)
      have f71 := H7.out.frozen 1
      have c60 : wr.cell? ⟨w.heap.size, 0, none⟩ = some (.int .i64 0) := H6.out.cell (i := 0) (by omega)
      have c61 : wr.cell? ⟨w.heap.size, 1, none⟩ = some (.int .i64 0) := H6.out.cell (i := 1) (by omega)
      have c62 : wr.cell? ⟨w.heap.size, 2, none⟩ = some (.slice none 0 0) := H6.out.cell (i := 2) (by omega)
      have f60 := H6.out.frozen 0
      have f61 := H6.out.frozen 1
      have f62 := H6.out.frozen 2
      have l6 := H6.out.lt
      have f70 := H7.out.frozen 0
      have L1 : decide (0 ≤ (j : Int) - 1 - (j : Int)) = false := decide_eq_false (by omega)
      have HMD := hid (And.intro hm' hd')
      clear hr hm hd hm' hd' hRj hRn
      go_wp2_with fail
      have q1 : w.heap.size ≠ w.heap.size + 1 + 1 := by omega
      have q2 : w.heap.size + 1 ≠ w.heap.size + 1 + 1 := by omega
      have q3 : w.heap.size + 1 ≠ w.heap.size := by omega
      have r6 := (((((H6.out.setOther (a := ⟨w.heap.size + 1 + 1, 1, none⟩) q1 (.int .i64 ((m : Int) - 1))).setOther (a := ⟨w.heap.size + 1 + 1, 0, none⟩) q1 (.int .i64 (d : Int))).set 0 (.int .i64 (d : Int))).set 1 (.int .i64 ((m : Int) - 1))).set 2 (.slice (some ⟨w.heap.size + 1, 0, none⟩) j j)).congr (g := spc d ((m : Int) - 1) (.slice (some ⟨w.heap.size + 1, 0, none⟩) j j)) fun i hi => by
        match i, hi with
        | 0, _ => rfl
        | 1, _ => rfl
        | 2, _ => rfl
      have r1 := ((((H1.out.setOther (a := ⟨w.heap.size + 1 + 1, 1, none⟩) q2 (.int .i64 ((m : Int) - 1))).setOther (a := ⟨w.heap.size + 1 + 1, 0, none⟩) q2 (.int .i64 (d : Int))).setOther (a := ⟨w.heap.size, 0, none⟩) q3 (.int .i64 (d : Int))).setOther (a := ⟨w.heap.size, 1, none⟩) q3 (.int .i64 ((m : Int) - 1))).setOther (a := ⟨w.heap.size, 2, none⟩) q3 (.slice (some ⟨w.heap.size + 1, 0, none⟩) j j)
      refine bodyPost_ret (results_cell_row rfl _ _ _ _ _ (0, 0) _ rfl (whole3 r6) Try.underlying24 rfl (by kernel_rfl)) rfl ?_
      obtain ⟨hm', hd'⟩ := HMD.out
      rw [← hm', ← hd']
      refine ⟨_, rfl, ⟨some ⟨w.heap.size + 1, 0, none⟩, j, by rw [HTl.out]; rfl, fun h0 => ⟨w.heap.size + 1, 0, rfl, r1.lt, fun k hk => ?_⟩, fun h0 => ?_⟩, fun k hk => (by cases hk; exact Nat.le_succ _), ?_⟩
      · rw [HTl.out] at hk
        have := r1.cell (i := k) hk
        rw [if_pos (by omega)] at this
        rw [Nat.zero_add]
        exact this
      · obtain ⟨cs, hb, _⟩ := r1
        exact ⟨w.heap.size + 1, 0, cs, _, rfl, hb⟩
      · exact (KW.refl w).kept (((((((HK.out.keep (own := fun i => w.heap.size ≤ i)).setCell ⟨w.heap.size + 1 + 1, 1, none⟩ _ (by show w.heap.size ≤ w.heap.size + 1 + 1; omega)).setCell ⟨w.heap.size + 1 + 1, 0, none⟩ _ (by show w.heap.size ≤ w.heap.size + 1 + 1; omega)).setCell ⟨w.heap.size, 0, none⟩ _ (Nat.le_refl _)).setCell ⟨w.heap.size, 1, none⟩ _ (Nat.le_refl _)).setCell ⟨w.heap.size, 2, none⟩ _ (Nat.le_refl _))) fun i hi => hi

/-! ### acts -/
def rA (q : Nat) : List Mc.Act := [(1, 1), (5, 0), (6, 0), (7, 0)] ++ Sx.upActs q
theorem rA_zero : rA 0 = [(1, 1), (5, 0), (6, 0), (7, 0)] := rfl
theorem rA_len (q : Nat) : (rA q).length = 4 + q * 3 := by
  unfold rA Sx.upActs
  rw [List.length_append, Sx.len_flat _ Sx.slotActs 3 (fun _ => rfl), List.length_range]
  rfl
theorem rA_succ (q : Nat) : rA q ++ (Sx.slotActs q).take 3 = rA (q + 1) := by
  unfold rA Sx.upActs
  rw [List.range_succ, List.flatMap_append, List.append_assoc]
  congr 2
theorem sA_succ (q : Nat) {r : Nat} (h : r < 3) : rA q ++ (Sx.slotActs q).take (r + 1) = (rA q ++ (Sx.slotActs q).take r) ++ [(2 + (r : Int), (q : Int))] := by
  rw [List.append_assoc]
  congr 1
  rcases (show r = 0 ∨ r = 1 ∨ r = 2 by omega) with rfl | rfl | rfl <;> rfl
theorem rA_unit {s : Nat} {a : Mc.Act} : a ∈ rA s ↔ Sx.unit s a.1 a.2 := by
  obtain ⟨k, n⟩ := a
  unfold rA
  constructor
  · intro h
    rcases List.mem_append.1 h with h | h
    · simp only [List.mem_cons, List.not_mem_nil, or_false, Prod.mk.injEq] at h
      rcases h with ⟨rfl, rfl⟩ | ⟨rfl, rfl⟩ | ⟨rfl, rfl⟩ | ⟨rfl, rfl⟩
      · exact .inl ⟨rfl, rfl⟩
      · exact .inr (.inr ⟨by show (5 : Int) ≤ 5; omega, by show (5 : Int) ≤ 7; omega, rfl⟩)
      · exact .inr (.inr ⟨by show (5 : Int) ≤ 6; omega, by show (6 : Int) ≤ 7; omega, rfl⟩)
      · exact .inr (.inr ⟨by show (5 : Int) ≤ 7; omega, by show (7 : Int) ≤ 7; omega, rfl⟩)
    · unfold Sx.upActs at h
      obtain ⟨q, hq, h⟩ := List.mem_flatMap.1 h
      have := List.mem_range.1 hq
      simp only [Sx.slotActs, List.mem_cons, List.not_mem_nil, or_false, Prod.mk.injEq] at h
      rcases h with ⟨rfl, rfl⟩ | ⟨rfl, rfl⟩ | ⟨rfl, rfl⟩
      · exact .inr (.inl ⟨by show (2 : Int) ≤ 2; omega, by show (2 : Int) ≤ 4; omega, by show (0 : Int) ≤ q; omega, by show (q : Int) < s; omega⟩)
      · exact .inr (.inl ⟨by show (2 : Int) ≤ 3; omega, by show (3 : Int) ≤ 4; omega, by show (0 : Int) ≤ q; omega, by show (q : Int) < s; omega⟩)
      · exact .inr (.inl ⟨by show (2 : Int) ≤ 4; omega, by show (4 : Int) ≤ 4; omega, by show (0 : Int) ≤ q; omega, by show (q : Int) < s; omega⟩)
  · intro h
    have hu := Sx.allActs_unit h
    unfold Sx.allActs at hu
    simp only [List.mem_append, List.mem_cons, List.not_mem_nil, or_false] at hu ⊢
    rcases hu with (((h | h) | h) | h) | h
    · exact .inr h
    · exact .inl (.inr (.inl h))
    · exact .inl (.inr (.inr (.inl h)))
    · exact .inl (.inr (.inr (.inr h)))
    · exact .inl (.inl h)

theorem rA_new (w : World) : OwnsA (w.alloc (.cells #[.int .i64 1, .int .i64 1, .int .i64 5, .int .i64 0, .int .i64 6, .int .i64 0, .int .i64 7, .int .i64 0] 27)) w.heap.size (.slice (some ⟨w.heap.size, 0, none⟩) 4 4) (rA 0) :=
  ⟨rfl, .inr ⟨w.heap.size, 4, _, rfl, Nat.le_refl _, heap_alloc_new w _, Nat.le_refl _, by decide, rfl, rfl⟩⟩

set_option maxRecDepth 100000 in
set_option maxHeartbeats 1000000 in
theorem racts29_any (s : Nat) (w : World) (hs : s ≤ 3) :
    Calls Try.prog 67 #[.int .i64 s] w fun e w' => ∃ v, e = .returned v ∧ OwnsA w' w.heap.size v (rA s) ∧ KW w w' := by
  have H0 := hid (rA_new w)
  have HK0 := hid ((KW.refl w).alloc (.cells #[.int .i64 1, .int .i64 1, .int .i64 5, .int .i64 0, .int .i64 6, .int .i64 0, .int .i64 7, .int .i64 0] 27))
  go_enter Try.func67, Try.ntmps67
  go_wp2_with fail
  go_loopw [3, 4] (fun vo k wr => ∃ q : Nat, q ≤ s ∧ k = .int .i64 q ∧ Hid (OwnsA wr w.heap.size vo (rA q)) ∧ Hid (KW w wr)) (fun _ k _ => s - (intOf k).toNat)
  case atStart => exact ⟨0, by omega, rfl, H0, HK0⟩
  case round =>
    clear H0 HK0
    obtain ⟨q, hq, rfl, HO, HK⟩ := hrel
    by_cases hlt : q < s
    · have L1 : (q : Int) < (s : Int) := by omega
      have HOa : Hid (OwnsA wr w.heap.size u3 (rA q ++ (Sx.slotActs q).take 0)) := by
        rw [List.take_zero, List.append_nil]; exact HO
      have HSu := hid (fun r (h : r < 3) => sA_succ q h)
      have HEnd := hid (rA_succ q)
      have HLen : Hid (∀ r, (rA q ++ (Sx.slotActs q).take r).length ≤ 1000) := fun r => by
        have h3 : (Sx.slotActs q).length = 3 := rfl
        rw [List.length_append, rA_len, List.length_take, h3]
        omega
      generalize (rA q) = lq at *
      go_wp2_with fail
      go_loopw [3, 5] (fun vo kd wr => ∃ r : Nat, r ≤ 3 ∧ kd = .int .i64 (2 + (r : Int)) ∧ Hid (OwnsA wr w.heap.size vo (lq ++ (Sx.slotActs q).take r)) ∧ Hid (KW w wr)) (fun _ kd _ => 5 - (intOf kd).toNat)
      case atStart => exact ⟨0, by omega, by go_num, HOa, HK⟩
      case round =>
        clear HOa HO HK
        obtain ⟨r, hr, rfl, HO, HK⟩ := hrel
        by_cases hr3 : r < 3
        · have L2 : 2 + (r : Int) ≤ 4 := by omega
          have L3 : IntKind.i64.wrap (2 + (r : Int) + 1) = 2 + ((r + 1 : Nat) : Int) := by
            rw [show 2 + (r : Int) + 1 = 2 + ((r + 1 : Nat) : Int) by omega]
            exact IntWalk.i64_in _ (by omega)
          have HS := hid (HSu.out r hr3)
          have hlen := HLen.out r
          generalize lq ++ (Sx.slotActs q).take r = la at *
          obtain ⟨Ao, co, hvo, _, _⟩ := HO.out.slice
          subst hvo
          have HX : Hid (Holds (wr.alloc (.cells #[.int .i64 (2 + (r : Int)), .int .i64 q] 27)) (.slice (some ⟨wr.heap.size, 0, none⟩) 1 1) 1 2 [.int .i64 (2 + (r : Int)), .int .i64 q]) := Holds.new (w := wr) (t := 27) (k := 1) (size := 2) (c := 1) (ys := [.int .i64 (2 + (r : Int)), .int .i64 q]) rfl rfl
          have HO5 := hid (HO.out.kw ((KW.refl wr).alloc (.cells #[.int .i64 (2 + (r : Int)), .int .i64 q] 27)))
          have HQ1 : Hid ((la.length + 1) * 16 ≤ 140737488355328) := by exact hid (by omega)
          have HQ2 : Hid (la.length + 1 ≤ 9223372036854775807) := by exact hid (by omega)
          have HQ3 : Hid (w.heap.size ≤ (wr.alloc (.cells #[.int .i64 (2 + (r : Int)), .int .i64 q] 27)).heap.size) := by have := HK.out.size; exact hid (by simp; omega)
          go_wp2_with (first
            | (at_builtin; refine wpList_appA rfl sliceAct rfl (W := wr.alloc (.cells #[.int .i64 (2 + (r : Int)), .int .i64 q] 27)) (base := w.heap.size) (k := 1) (n := la.length) (v := .slice Ao la.length co) (u := .slice (some ⟨wr.heap.size, 0, none⟩) 1 1) (xs := acl la) (ys := [.int .i64 (2 + (r : Int)), .int .i64 q]) rfl rfl HX.out HO5.out HQ3.out HQ1.out HQ2.out ?_; intro v5 w5 hown5 hkeep5 hv5))
          have HK5 : Hid (KW w w5) := (HK.out.alloc _).kept hkeep5 fun i hi => (HO5.out.lt hi).1
          have HO6 : Hid (OwnsA w5 w.heap.size v5 (la ++ [(2 + (r : Int), (q : Int))])) := OwnsA.app (l' := [(2 + (r : Int), (q : Int))]) hown5
          rw [← HS.out] at HO6
          clear hown5 hkeep5 hv5
          go_roundw
          case rel => exact ⟨r + 1, by omega, by first | rfl | go_num, HO6, HK5⟩
          case measure => simp [intOf]; omega
        · obtain rfl : r = 3 := by omega
          rw [HEnd.out] at HO
          go_wp2_with fail
          go_roundw
          case rel => exact ⟨q + 1, by omega, by go_num, HO, HK⟩
          case measure => simp [intOf]; omega
    · obtain rfl : q = s := by omega
      go_wp2_with fail
      go_ret
      exact ⟨_, rfl, HO.out, HK.out⟩

end Go.Proofs.Ytgadkelldbibgaa

/- The reference's Search (layer 29). -/
namespace Go.Proofs.Ytgadkelldbibgaa
open Go.ChangeShapes Go.WideShapes Go.ChangeAt Go.RowKit
set_option linter.unusedVariables false

namespace Rs
open Mc Sx
def iv (l s i : Nat) : Int := if (sp l s i).pend = 0 then 0 else 1000
def ini (l s n : Nat) : List Int := (List.range n).map (iv l s)
theorem ini_len (l s n : Nat) : (ini l s n).length = n := by simp [ini]
theorem ini_succ (l s n : Nat) : ini l s (n + 1) = ini l s n ++ [iv l s n] := by simp [ini, List.range_succ]
theorem ini_get (l s n : Nat) {i : Nat} (h : i < n) : (ini l s n).getD i 0 = iv l s i := by simp [ini, h]
theorem ini_li (l s : Nat) : Li l s (ini l s (all l s)) := by
  refine ⟨ini_len _ _ _, fun n hn => ?_, fun n hn hp => ?_, fun n hn hlt => ?_⟩
  · rw [ini_get _ _ _ hn]
    unfold iv
    split <;> omega
  · rw [ini_get _ _ _ hn]
    unfold iv
    rw [if_pos hp]
  · rw [ini_get _ _ _ hn] at hlt ⊢
    unfold iv at hlt ⊢
    by_cases hp : (sp l s n).pend = 0
    · rw [if_pos hp]
      exact ⟨[], _, rfl, hp, rfl⟩
    · rw [if_neg hp] at hlt
      omega
/-- good at n by the first actions -/
def FixA (l s : Nat) (L : List Int) (n i : Nat) : Prop := ∀ q, q < i → (Mc.step (sp l s n) ((rA s).getD q (0, 0)).1 ((rA s).getD q (0, 0)).2).2 = 0 →
  L.getD n 0 ≤ L.getD (num l (Mc.step (sp l s n) ((rA s).getD q (0, 0)).1 ((rA s).getD q (0, 0)).2).1) 0 + (Mc.step (sp l s n) ((rA s).getD q (0, 0)).1 ((rA s).getD q (0, 0)).2).1.tot
theorem fix_of {l s : Nat} {L : List Int} (h : ∀ n, n < all l s → FixA l s L n (rA s).length) : Fix l s L := fun n hn a b hu he => by
  obtain ⟨q, hq, e⟩ := List.getElem_of_mem ((rA_unit (a := (a, b))).2 hu)
  have eg : (rA s).getD q (0, 0) = (a, b) := by simp [hq, e]
  have := h n hn q hq
  rw [eg] at this
  exact this he
/-- where a turn is -/
def At (l s : Nat) (Ls L : List Int) (turn : Bool) (n i : Nat) : Prop := (turn = false ∧ L = Ls ∧ (∀ n', n' < n → FixA l s Ls n' (rA s).length) ∧ FixA l s Ls n i) ∨ (turn = true ∧ L.sum < Ls.sum)
theorem Li.sum_nn {l s : Nat} {L : List Int} (h : Li l s L) : 0 ≤ L.sum := by
  have : ∀ (L : List Int), (∀ n, n < L.length → 0 ≤ L.getD n 0) → 0 ≤ L.sum := by
    intro L
    induction L with
    | nil => intro _; exact Int.le_refl _
    | cons a L ih =>
      intro h
      have h0 := h 0 (by simp)
      have h1 := ih fun n hn => h (n + 1) (by simpa using hn)
      simp only [List.getD_cons_zero] at h0
      simp only [List.sum_cons]
      omega
  exact this L fun n hn => (h.lo n (by rw [← h.len]; exact hn)).1
theorem At.zero {l s : Nat} {L : List Int} : At l s L L false 0 0 := .inl ⟨rfl, rfl, fun n h => absurd h (by omega), fun q h => absurd h (by omega)⟩
theorem At.next {l s : Nat} {Ls L : List Int} {t : Bool} {n : Nat} (h : At l s Ls L t n (rA s).length) : At l s Ls L t (n + 1) 0 := by
  rcases h with ⟨h1, h2, h3, h4⟩ | h
  · refine .inl ⟨h1, h2, fun n' hn => ?_, fun q h => absurd h (by omega)⟩
    rcases (show n' < n ∨ n' = n by omega) with h5 | rfl
    · exact h3 n' h5
    · exact h4
  · exact .inr h
theorem At.more {l s : Nat} {Ls L : List Int} {t : Bool} {n i : Nat} (h : At l s Ls L t n i) (hx : (Mc.step (sp l s n) ((rA s).getD i (0, 0)).1 ((rA s).getD i (0, 0)).2).2 = 0 →
    L.getD n 0 ≤ L.getD (num l (Mc.step (sp l s n) ((rA s).getD i (0, 0)).1 ((rA s).getD i (0, 0)).2).1) 0 + (Mc.step (sp l s n) ((rA s).getD i (0, 0)).1 ((rA s).getD i (0, 0)).2).1.tot) : At l s Ls L t n (i + 1) := by
  rcases h with ⟨h1, h2, h3, h4⟩ | h
  · refine .inl ⟨h1, h2, h3, fun q hq he => ?_⟩
    rcases (show q < i ∨ q = i by omega) with h5 | rfl
    · exact h4 q h5 he
    · rw [← h2]
      exact hx he
  · exact .inr h
theorem At.upd {l s : Nat} {Ls L L' : List Int} {t : Bool} {n i : Nat} (h : At l s Ls L t n i) (hx : L'.sum < L.sum) : At l s Ls L' true n (i + 1) := by
  rcases h with ⟨_, rfl, _⟩ | ⟨_, h⟩
  · exact .inr ⟨rfl, hx⟩
  · exact .inr ⟨rfl, by omega⟩
theorem At.fin {l s : Nat} {Ls L : List Int} {t : Bool} {i : Nat} (h : At l s Ls L t (all l s) i) : (t = false → Fix l s L) ∧ (t = true → L.sum < Ls.sum) := by
  rcases h with ⟨h1, rfl, h3, _⟩ | ⟨h1, h2⟩
  · exact ⟨fun _ => fix_of h3, fun h => absurd (h1.symm.trans h) (by decide)⟩
  · exact ⟨fun h => absurd (h1.symm.trans h) (by decide), fun _ => h2⟩
end Rs

theorem spot_pe (A : Option Addr) (n c : Nat) (a p : Int) (W : World) : (Instr.field 24 (.agg #[.int .i64 a, .int .i64 p, .slice A n c]) 1).run Try.prog W = .ok (.int .i64 p) W := by kernel_rfl
theorem tt_small {l s : Nat} (hl : l ≤ 5) (h1 : 1 ≤ s) (h3 : s ≤ 3) : (Ch.tt l s : Int) < 1000 := by
  rcases (show s = 1 ∨ s = 2 ∨ s = 3 by omega) with rfl | rfl | rfl <;> rcases (show l = 0 ∨ l = 1 ∨ l = 2 ∨ l = 3 ∨ l = 4 ∨ l = 5 by omega) with rfl | rfl | rfl | rfl | rfl | rfl <;> decide +kernel
theorem RT.keepN {own : Nat → Prop} {w w' : World} {v : Value} {tags : List Int} (h : RT w v tags) (hk : Keep own w w') (hn : ∀ k, v.ownBlock = some k → ¬ own k) : RT w' v tags := by
  obtain ⟨A, c, rfl, hr, ht⟩ := h
  have hne : ∀ b off, A = some ⟨b, off, none⟩ → ¬ own b := by
    rintro b off rfl
    exact hn b rfl
  exact ⟨A, c, rfl, hk.row1 hr hne, ht.keep hk fun _ => hne⟩
theorem below_keep {base : Nat} {W w' : World} (h : Below base W w') : Keep (fun i => base ≤ i) W w' :=
  ⟨Below.os h, Below.tape h, Below.output h, Below.size h, fun k hk hn => Below.block h k (by omega)⟩
section
variable {ops : Array Oper} {Q : Exit → Act → World → Prop}
/-- one number more -/
theorem wpList_appI {rest : List Oper} {o : Oper} {a : Act} (hgd : o.guard = none) {s x : Operand} (ho : o.op = .call { callee := .builtin .append, args := #[s, x], argTypes := #[22, 22] }) {W : World} {base c : Nat} {v : Value} {L : List Int} {z : Int}
    (hs : a.eval s = v) (hx : a.eval x = .slice (some ⟨W.heap.size, 0, none⟩) 1 c) (hown : Owns W base 3 v (ints L)) (hb : base ≤ W.heap.size) (hl : L.length ≤ 1000000)
    (h : ∀ v' w', Hid (Owns w' base 3 v' (ints (L ++ [z]))) → Hid (Keep (fun i => base ≤ i) W w') → wpList Try.prog ops Q rest (a.put o.dst v') w') : wpList Try.prog ops Q (o :: rest) a (W.alloc (.cells #[.int .i64 z] 3)) := by
  have e : ints (L ++ [z]) = ints L ++ [.int .i64 z] := by simp [ints]
  refine wpList_app1 hgd sliceInt1 ho hs hx rfl hown hb (by rw [ints_len]; omega) (by rw [ints_len]; omega) fun v' w' h1 h2 => h v' w' ?_ ?_
  · rw [e]; exact hid h1
  · exact hid (below_keep h2)
end

set_option maxRecDepth 100000 in
set_option maxHeartbeats 4000000 in
theorem rsearch29_yes (l s : Nat) (w : World) (hl : l ≤ 5) (hs : s ≤ 3) :
    Calls Try.prog 37 #[.int .i64 l, .int .i64 s] w fun e w' => (∃ T er : Int, e = .returned (.tuple #[.int .i64 T, .int .i64 er]) ∧ (1 ≤ s → T = Ch.tt l s ∧ er = 0) ∧ (s = 0 → l ≤ 1 → T = 0 ∧ er = 0) ∧ (s = 0 → 2 ≤ l → T = 0 ∧ er = 13)) ∧ KW w w' := by
  have d1 : decide ((l : Int) < 0) = false := decide_eq_false (by omega)
  have d2 : decide (5 < (l : Int)) = false := decide_eq_false (by omega)
  have d3 : decide ((s : Int) < 0) = false := decide_eq_false (by omega)
  have d4 : decide (3 < (s : Int)) = false := decide_eq_false (by omega)
  have HLS := hid (And.intro hl hs)
  have HN := hid (fun q (hq : q ≤ 3) => all_le hl hq)
  have HStep : Hid (∀ q, Rs.all l (q + 1) = Rs.all l q * (l + 2)) := fun q => rfl
  have HZero : Hid (Rs.all l 0 = (l + 1) * (l + 2)) := rfl
  have HSpot := hid (fun n W (h : n ≤ 1000000) => rspot29_any l s n W hl hs h)
  have HActs := hid (fun W => racts29_any s W hs)
  have HNew := hid (fun W => rnew_yes l s W (by omega) (by omega) (by omega))
  unfold RNewP at HNew
  have hfld := spot_pe
  have HIni0 : Hid (Rs.ini l s 0 = []) := rfl
  have HIniS := hid (Rs.ini_succ l s)
  have HIniL := hid (Rs.ini_len l s)
  have HIniLi := hid (Rs.ini_li l s)
  have HIv : Hid (∀ i, Rs.iv l s i = if (Rs.sp l s i).pend = 0 then 0 else 1000) := fun i => rfl
  obtain ⟨B, hB⟩ : ∃ B, B = l + 2 := ⟨_, rfl⟩
  obtain ⟨C, hC⟩ : ∃ C, C = l + 1 := ⟨_, rfl⟩
  have wB : IntKind.i64.wrap ((l : Int) + 2) = (B : Int) := by rw [hB]; exact IntWalk.i64_in _ (by omega)
  have wC : IntKind.i64.wrap ((l : Int) + 1) = (C : Int) := by rw [hC]; exact IntWalk.i64_in _ (by omega)
  rw [← hB] at HStep HZero
  rw [← hC] at HZero
  have w0 : IntKind.i64.wrap ((C : Int) * (B : Int)) = (Rs.all l 0 : Nat) := by
    rw [show (C : Int) * (B : Int) = ((Rs.all l 0 : Nat) : Int) by rw [HZero.out]; simp]
    exact IntWalk.i64_in _ (by have := HN.out 0 (by omega); omega)
  clear hB hC hl hs
  generalize hAll : Rs.all l = N at *
  go_enter Try.func37, Try.ntmps37
  go_wp2_with fail
  go_loopw [7, 8] (fun x k wr => ∃ q : Nat, q ≤ s ∧ k = .int .i64 q ∧ x = .int .i64 (N q : Nat) ∧ w = wr) (fun _ k _ => s - (intOf k).toNat)
  case atStart => exact ⟨0, by omega, rfl, rfl, rfl⟩
  case round =>
    obtain ⟨q, hq, rfl, rfl, rfl⟩ := hrel
    have hs3 := HLS.out.2
    by_cases hlt : q < s
    · have L1 : (q : Int) < (s : Int) := by omega
      have L2 : IntKind.i64.wrap ((N q : Int) * (B : Int)) = (N (q + 1) : Int) := by
        rw [show (N q : Int) * (B : Int) = (N (q + 1) : Int) by rw [HStep.out]; simp]
        exact IntWalk.i64_in _ (by have := HN.out (q + 1) (by omega); omega)
      go_wp2_with fail
      go_roundw
      case rel => exact ⟨q + 1, by omega, by go_num, by first | rfl | trivial, by first | rfl | trivial⟩
      case measure => simp [intOf]; omega
    · obtain rfl : s = q := by omega
      have hN := HN.out s hs3
      generalize hM : N s = M at *
      clear w0 wC HStep HZero
      go_wp2_with fail
      have HO0 : Hid (Owns (w.alloc (.cells #[] 3)) w.heap.size 3 (.slice (some ⟨w.heap.size, 0, none⟩) 0 0) (ints (Rs.ini l s 0))) := by
        rw [HIni0.out]
        have h := Owns.new (w := w) (base := w.heap.size) (e := 3) (xs := []) (by simp) (by simp)
        exact hid (by simpa [ints] using h)
      have HK0 := hid ((KW.refl w).alloc (.cells #[] 3))
      go_loopw [9, 10] (fun v i wr => ∃ j : Nat, j ≤ M ∧ i = .int .i64 j ∧ Hid (Owns wr w.heap.size 3 v (ints (Rs.ini l s j))) ∧ Hid (KW w wr)) (fun _ i _ => M - (intOf i).toNat)
      case atStart => exact ⟨0, by omega, rfl, HO0, HK0⟩
      case round =>
        clear HO0 HK0
        obtain ⟨j, hj, rfl, HO, HK⟩ := hrel
        obtain ⟨Ao, co, hvo, _⟩ := HO.out.row
        rw [ints_len, HIniL.out] at hvo
        subst hvo
        by_cases hlt : j < M
        · have L1 : (j : Int) < (M : Int) := by omega
          have HS := hid (HSpot.out j wr (by omega))
          have hiv := HIv.out j
          have HIS := hid (HIniS.out j)
          have HL1 : Hid ((Rs.ini l s j).length ≤ 1000000) := by rw [HIniL.out]; exact hid (by omega)
          generalize Rs.iv l s j = iv at *
          generalize (Rs.sp l s j).pend = pe at *
          generalize (Rs.sp l s j).at_ = at_ at *
          generalize (Rs.sp l s j).tags = tg at *
          by_cases hp : pe = 0
          · rw [if_pos hp] at hiv
            subst hp
            go_wp2_with fail
            refine HS.out.mono ?_
            rintro e w1 ⟨v1, rfl, hr1, _, hk1⟩
            have HO1 := hid (HO.out.on hk1)
            have HK1 := hid (HK.out.t hk1)
            have HZ1 : Hid (w.heap.size ≤ w1.heap.size) := HK1.out.size
            obtain ⟨A1, c1, hv1, _, _⟩ := hr1
            subst hv1
            clear hk1
            go_wp2_with (at_builtin; refine wpList_appI (z := 0) rfl rfl rfl rfl HO1.out HZ1.out HL1.out ?_; intro v5 w5 HO5 HK5)
            rw [← hiv, ← HIS.out] at HO5
            have HK6 := hid (HK1.out.kept HK5.out fun i hi => hi)
            clear hiv
            go_roundw
            case rel => exact ⟨j + 1, by omega, by go_num, HO5, HK6⟩
            case measure => simp [intOf]; omega
          · rw [if_neg hp] at hiv
            have hp' : (pe == 0) = false := beq_eq_false_iff_ne.2 hp
            clear hp
            go_wp2_with fail
            refine HS.out.mono ?_
            rintro e w1 ⟨v1, rfl, hr1, _, hk1⟩
            have HO1 := hid (HO.out.on hk1)
            have HK1 := hid (HK.out.t hk1)
            have HZ1 : Hid (w.heap.size ≤ w1.heap.size) := HK1.out.size
            obtain ⟨A1, c1, hv1, _, _⟩ := hr1
            subst hv1
            clear hk1
            go_wp2_with (at_builtin; refine wpList_appI (z := 1000) rfl rfl rfl rfl HO1.out HZ1.out HL1.out ?_; intro v5 w5 HO5 HK5)
            rw [← hiv, ← HIS.out] at HO5
            have HK6 := hid (HK1.out.kept HK5.out fun i hi => hi)
            clear hiv
            go_roundw
            case rel => exact ⟨j + 1, by omega, by go_num, HO5, HK6⟩
            case measure => simp [intOf]; omega
        · obtain rfl : M = j := by omega
          go_wp2_with fail
          refine (HActs.out _).mono ?_
          rintro e w1 ⟨v1, rfl, ha1, hk1⟩
          have HO1 := hid (HO.out.on hk1)
          have HK1 := hid (HK.out.t hk1)
          have HA1 := hid ha1
          obtain ⟨Aa, ca, hva, _, _⟩ := ha1.slice
          subst hva
          have HAcb := hid (ha1.base HK.out.size)
          have hMp : 0 < M := by have := Rs.all_pos l s; rw [hAll, hM] at this; exact this
          obtain ⟨lb, hAo, hlb, hlt2, _⟩ := HO1.out.cellInt (n := 0) (by rw [HIniL.out]; exact hMp)
          subst hAo
          have HLb := hid hlb
          have HNeA : Hid (∀ i, (Value.slice Aa (rA s).length ca).ownBlock = some i → ¬ i = lb) := by
            rintro i hi rfl
            obtain ⟨g, cap, cur, hv, _, hg, _⟩ := HO1.out.2.resolve_left (fun h => by cases h.1)
            simp only [Value.slice.injEq, Option.some.injEq, Addr.mk.injEq] at hv
            obtain ⟨⟨rfl, _⟩, _, _⟩ := hv
            rcases HAcb.out.2 with ⟨hv, _⟩ | ⟨g', cap', cur', hv, _, hg', _⟩
            · cases hv
              try cases hi
            · simp only [Value.slice.injEq] at hv
              obtain ⟨rfl, _, _⟩ := hv
              cases hi
              rw [hg] at hg'
              injection hg' with hg'
              injection hg' with _ ht
              exact absurd ht (by decide)
          have HLi0 : Hid (Rs.Li l s (Rs.ini l s M)) := HIniLi
          have HLen0 := hid (HIniL.out M)
          have hlen : (rA s).length ≤ 13 := by rw [rA_len]; omega
          have HLenA := hid (rfl : (rA s).length = (rA s).length)
          have HAllM : Hid (Rs.all l s = M) := by rw [hAll]; exact hid hM
          generalize Rs.ini l s M = L0 at *
          clear ha1 HA1 hk1 hlb hlt2 hMp HIniLi HIniL HIniS HIv HIni0 HO HK
          go_wp2_with fail
          go_loopg [12] (L0.sum.toNat + 1) (fun gk t12 wr => ∃ (turn : Bool) (L : List Int), t12 = .bool turn ∧ (gk = if turn = true then L.sum.toNat + 1 else 0) ∧ Hid (Rs.Li l s L) ∧ Hid (turn = false → Rs.Fix l s L) ∧ Hid (L.length = M) ∧ Hid (Owns wr w.heap.size 3 (.slice (some ⟨lb, 0, none⟩) M co) (ints L)) ∧ Hid (OwnsA wr w.heap.size (.slice Aa (rA s).length ca) (rA s)) ∧ Hid (KW w wr))
          case atStart => exact ⟨true, L0, rfl, by rw [if_pos rfl], HLi0, fun h => (by cases h), HLen0, HO1, HAcb, HK1⟩
          case round =>
            clear HLi0 HLen0 HO1 HAcb HK1
            obtain ⟨turn, Ls, rfl, hgk, HLis, HFx, HLls, HOs, HAs, HKs⟩ := hrel
            cases turn with
            | false =>
              have HSt := hid (Rs.start HLS.out.1 HLS.out.2 HLis.out (HFx.out rfl))
              have hI : Mc.Inv (Mc.new (l : Int) s) := Mc.new_inv l s (by omega) (by have := HLS.out.1; omega) (by omega)
              have hlen : (Mc.new (l : Int) s).tags.length = s := by simp [Mc.new]
              have HNu : Hid (Rs.num l (Mc.new (l : Int) s) < M) := by have := (Rs.num_ok hI rfl hlen).1; rw [HAllM.out] at this; exact hid this
              have HNum := hid (fun W v (h : RT W v (Mc.new (l : Int) s).tags) => rnum29_any l (Mc.new (l : Int) s) v W h hI rfl HLS.out.1 (by rw [hlen]; exact HLS.out.2))
              have HTt := hid (fun h => tt_small HLS.out.1 h HLS.out.2)
              generalize Mc.new (l : Int) s = m0 at *
              generalize Rs.num l m0 = nm at *
              obtain ⟨ml, ma, mp, mt, tg⟩ := m0
              simp only [rm] at HNew
              simp only at HNum
              clear hI hlen hgk HFx
              go_wp2_with fail
              refine (HNew.out _).mono ?_
              rintro e w5 ⟨v5, rfl, ho5, hk5⟩
              obtain ⟨A5, c5, hv5, _⟩ := ho5.row
              rw [ints_len] at hv5
              subst hv5
              have HR5 := hid ho5.rt
              have HO5 := hid (HOs.out.on hk5)
              have HK5 := hid (HKs.out.t hk5)
              obtain ⟨tb', hA', _, hlb5, cn, _, _⟩ := HO5.out.cellInt (n := nm) (by rw [HLls.out]; exact HNu.out)
              cases hA'
              generalize hlv : Ls.getD nm 0 = lv at *
              have HC5 := hid (And.intro cn hlb5)
              have L7 : (nm : Int) < (M : Int) := by have := HNu.out; omega
              clear hk5 ho5 hlv cn hlb5
              go_wp2_with fail
              refine (HNum.out _ _ (HR5.out.kw ((KW.refl w5).alloc _))).mono ?_
              rintro e w6 ⟨rfl, hk6⟩
              have cn6 : w6.cell? ⟨lb, nm, none⟩ = some (.int .i64 lv) := KW.cell (((KW.refl w5).alloc _).t hk6) HC5.out.2 HC5.out.1
              have HK6 := hid ((HK5.out.alloc _).t hk6)
              clear hk6
              by_cases hs0 : 1 ≤ s
              · have hlv := HSt.out.1 hs0 (HTt.out hs0)
                have hb : lv < 1000 := by rw [hlv]; exact HTt.out hs0
                have d : decide (1000 ≤ lv) = false := decide_eq_false (by omega)
                have HLv := hid hlv
                have HS0 := hid hs0
                clear hlv hb hs0
                go_wp2_with fail
                go_ret2
                exact ⟨⟨lv, 0, rfl, fun _ => ⟨HLv.out, rfl⟩, fun h0 => absurd HS0.out (by omega), fun h0 => absurd HS0.out (by omega)⟩, HK6.out⟩
              · by_cases hl1 : l ≤ 1
                · have hlv := HSt.out.2.1 (by omega) hl1
                  subst hlv
                  have HS0 := hid hs0
                  have HL1 := hid hl1
                  clear hs0 hl1
                  go_wp2_with fail
                  go_ret2
                  exact ⟨⟨0, 0, rfl, fun h => absurd h HS0.out, fun _ _ => ⟨rfl, rfl⟩, fun _ h => by have := HL1.out; omega⟩, HK6.out⟩
                · have hlv := HSt.out.2.2 (by omega) (by omega)
                  subst hlv
                  have HS0 := hid hs0
                  have HL1 := hid hl1
                  clear hs0 hl1
                  go_wp2_with fail
                  go_ret2
                  exact ⟨⟨0, 13, rfl, fun h => absurd h HS0.out, fun _ h => absurd h HL1.out, fun _ _ => ⟨rfl, rfl⟩⟩, HK6.out⟩
            | true =>
              rw [if_pos rfl] at hgk
              have HGk := hid hgk
              clear hgk HFx
              have HAt0 := hid (Rs.At.zero (l := l) (s := s) (L := Ls))
              go_wp2_with fail
              go_loopw [12, 13] (fun t12 t13 wr => ∃ (turn : Bool) (n : Nat) (L' : List Int), t12 = .bool turn ∧ t13 = .int .i64 n ∧ n ≤ M ∧ Hid (Rs.Li l s L') ∧ Hid (Rs.At l s Ls L' turn n 0) ∧ Hid (L'.length = M) ∧ Hid (Owns wr w.heap.size 3 (.slice (some ⟨lb, 0, none⟩) M co) (ints L')) ∧ Hid (OwnsA wr w.heap.size (.slice Aa (rA s).length ca) (rA s)) ∧ Hid (KW w wr)) (fun _ t13 _ => M - (intOf t13).toNat)
              case atStart => exact ⟨false, 0, Ls, rfl, rfl, by omega, HLis, HAt0, HLls, HOs, HAs, HKs⟩
              case round =>
                clear HAt0 HOs HAs HKs
                obtain ⟨turn, n, L', rfl, rfl, hn, HLi, HAt, HLl, HO, HAo, HK⟩ := hrel
                by_cases hlt : n < M
                · have L1 : (n : Int) < (M : Int) := by omega
                  have HSp := hid (HSpot.out n wr (by omega))
                  have hns : n < Rs.all l s := by rw [HAllM.out]; exact hlt
                  have hl6 : l < 65536 := by have := HLS.out.1; omega
                  have hs10 : s ≤ 1048576 := by omega
                  have HInv := hid (Rs.sp_inv hl6 hs10 hns)
                  have HSpl : Hid ((Rs.sp l s n).l = l ∧ (Rs.sp l s n).tot = 0 ∧ (Rs.sp l s n).tags.length = s) := ⟨rfl, rfl, Rs.sp_len l s n⟩
                  have HNext := hid (fun x y => Rs.next_ok hl6 hs10 hns x y)
                  have HUp := hid (fun (LL : List Int) (hLL : Rs.Li l s LL) (x y : Int) (e : (Mc.step (Rs.sp l s n) x y).2 = 0) (h0 : 0 ≤ (Mc.step (Rs.sp l s n) x y).1.tot) (z : Int) (hz : z = LL.getD (Rs.num l (Mc.step (Rs.sp l s n) x y).1) 0 + (Mc.step (Rs.sp l s n) x y).1.tot) (hlt : z < LL.getD n 0) => hLL.upd hl6 hs10 hns e h0 hz hlt)
                  clear hns hl6
                  obtain ⟨m, hm⟩ : ∃ m, m = Rs.sp l s n := ⟨_, rfl⟩
                  rw [← hm] at HSp HInv HSpl HNext HUp
                  have HM := hid hm
                  obtain ⟨ml, ma, mp, mt, tg⟩ := m
                  obtain ⟨q1, q2, q3⟩ := HSpl.out
                  simp only at q1 q2 q3
                  subst q1
                  subst q2
                  simp only at HSp
                  clear hm
                  have HMl := hid q3
                  clear q3
                  go_wp2_with fail
                  refine HSp.out.mono ?_
                  rintro e w3 ⟨v1, rfl, hr3, hf3, hk3⟩
                  have HR3 := hid hr3
                  obtain ⟨A1, c1, hv1, _, _⟩ := hr3
                  subst hv1
                  have HF3 := hid hf3
                  have HO3 := hid (HO.out.on hk3)
                  have HA3 := hid (HAo.out.kw hk3)
                  have HK3 := hid (HK.out.t hk3)
                  have HLbw : Hid (lb < wr.heap.size) := by
                    obtain ⟨tb, hA', _, h2, _⟩ := HO.out.cellInt (n := n) (by rw [HLl.out]; exact hlt)
                    cases hA'
                    exact hid h2
                  have HKsz : Hid (wr.heap.size ≤ w3.heap.size) := hk3.size
                  clear hk3 hf3
                  go_wp2_with fail
                  have HROW0 : Hid ((w3.alloc (.cells #[.int .i64 l, .int .i64 ma, .int .i64 mp, .slice A1 tg.length c1, .int .i64 0] 76)).rowIs w3.heap.size 76 5 (rmf ⟨l, ma, mp, 0, tg⟩ (.slice A1 tg.length c1))) := World.rowIs_alloc w3 _ _ _ fun i hi => by
                    match i, hi with
                    | 0, _ => rfl
                    | 1, _ => rfl
                    | 2, _ => rfl
                    | 3, _ => rfl
                    | 4, _ => rfl
                  have HRT0 := hid (HR3.out.kw ((KW.refl w3).alloc (.cells #[.int .i64 l, .int .i64 ma, .int .i64 mp, .slice A1 tg.length c1, .int .i64 0] 76)))
                  have HO0 := hid (HO3.out.alloc (.cells #[.int .i64 l, .int .i64 ma, .int .i64 mp, .slice A1 tg.length c1, .int .i64 0] 76))
                  have HA0 := hid (HA3.out.kw ((KW.refl w3).alloc (.cells #[.int .i64 l, .int .i64 ma, .int .i64 mp, .slice A1 tg.length c1, .int .i64 0] 76)))
                  have HK0 := hid (HK3.out.alloc (.cells #[.int .i64 l, .int .i64 ma, .int .i64 mp, .slice A1 tg.length c1, .int .i64 0] 76))
                  have HNeM : Hid (w3.heap.size ≠ lb) := by have h1 := HLbw.out; have h2 := HKsz.out; exact hid (by omega)
                  have HNeT : Hid (∀ k, (Value.slice A1 tg.length c1).ownBlock = some k → ¬ k = lb) := fun k hk e => by
                    have h1 := HF3.out k hk
                    have h2 := HLbw.out
                    omega
                  clear HR3 HO3 HA3 HK3 HF3 HLbw HKsz HO HAo HK
                  go_loopw [12, 15] (fun t12 t15 wr => ∃ (turn : Bool) (i : Nat) (L' : List Int), t12 = .bool turn ∧ t15 = .int .i64 i ∧ i ≤ (rA s).length ∧ Hid (Rs.Li l s L') ∧ Hid (Rs.At l s Ls L' turn n i) ∧ Hid (L'.length = M) ∧ Hid (Owns wr w.heap.size 3 (.slice (some ⟨lb, 0, none⟩) M co) (ints L')) ∧ Hid (OwnsA wr w.heap.size (.slice Aa (rA s).length ca) (rA s)) ∧ Hid (wr.rowIs w3.heap.size 76 5 (rmf ⟨l, ma, mp, 0, tg⟩ (.slice A1 tg.length c1))) ∧ Hid (RT wr (.slice A1 tg.length c1) tg) ∧ Hid (KW w wr)) (fun _ t15 _ => (rA s).length - (intOf t15).toNat)
                  case atStart => exact ⟨turn, 0, L', rfl, rfl, by omega, HLi, HAt, HLl, HO0, HA0, HROW0, HRT0, HK0⟩
                  case round =>
                    clear HO0 HA0 HROW0 HRT0 HK0 HLi HAt HLl
                    generalize w3.heap.size = mb at *
                    obtain ⟨turn, i, L', rfl, rfl, hi, HLi, HAt, HLl, HO, HAo, HROW1, HRT1, HK⟩ := hrel
                    by_cases hil : i < (rA s).length
                    · obtain ⟨Aa', ca', hva, _, hacts⟩ := HAo.out.slice
                      cases hva
                      obtain ⟨b', off, rfl, hb', hc1, hc2⟩ := hacts.at_ hil
                      have hun : Sx.unit s ((rA s).getD i (0, 0)).1 ((rA s).getD i (0, 0)).2 := by
                        rw [show (rA s).getD i (0, 0) = (rA s)[i] by simp [hil]]
                        exact (rA_unit (a := (rA s)[i])).1 (List.getElem_mem hil)
                      have HN0 := hid (HNext.out ((rA s).getD i (0, 0)).1 ((rA s).getD i (0, 0)).2)
                      have HTot : Hid ((Mc.step ⟨l, ma, mp, 0, tg⟩ ((rA s).getD i (0, 0)).1 ((rA s).getD i (0, 0)).2).2 = 0 → 0 ≤ (Mc.step ⟨l, ma, mp, 0, tg⟩ ((rA s).getD i (0, 0)).1 ((rA s).getD i (0, 0)).2).1.tot ∧ (Mc.step ⟨l, ma, mp, 0, tg⟩ ((rA s).getD i (0, 0)).1 ((rA s).getD i (0, 0)).2).1.tot ≤ 1) := fun e => by
                        have h1 := Sx.unit_tot hun e
                        rw [h1]
                        show 0 ≤ (0 : Int) + _ ∧ (0 : Int) + _ ≤ 1
                        split <;> omega
                      have HUpd0 : Hid ((Mc.step ⟨l, ma, mp, 0, tg⟩ ((rA s).getD i (0, 0)).1 ((rA s).getD i (0, 0)).2).2 = 0 → L'.getD (Rs.num l (Mc.step ⟨l, ma, mp, 0, tg⟩ ((rA s).getD i (0, 0)).1 ((rA s).getD i (0, 0)).2).1) 0 + (Mc.step ⟨l, ma, mp, 0, tg⟩ ((rA s).getD i (0, 0)).1 ((rA s).getD i (0, 0)).2).1.tot < L'.getD n 0 → Rs.Li l s (L'.set n (L'.getD (Rs.num l (Mc.step ⟨l, ma, mp, 0, tg⟩ ((rA s).getD i (0, 0)).1 ((rA s).getD i (0, 0)).2).1) 0 + (Mc.step ⟨l, ma, mp, 0, tg⟩ ((rA s).getD i (0, 0)).1 ((rA s).getD i (0, 0)).2).1.tot)) ∧ (L'.set n (L'.getD (Rs.num l (Mc.step ⟨l, ma, mp, 0, tg⟩ ((rA s).getD i (0, 0)).1 ((rA s).getD i (0, 0)).2).1) 0 + (Mc.step ⟨l, ma, mp, 0, tg⟩ ((rA s).getD i (0, 0)).1 ((rA s).getD i (0, 0)).2).1.tot)).sum < L'.sum) :=
                        fun e hlt => HUp.out L' HLi.out _ _ e (HTot.out e).1 _ rfl hlt
                      have hmore := HAt.out.more
                      rw [← HM.out] at hmore
                      have HMore := hid hmore
                      have HAtU := hid (fun (LL : List Int) (h : LL.sum < L'.sum) => HAt.out.upd h)
                      have HI2 := hid (HInv.out.step ((rA s).getD i (0, 0)).1 ((rA s).getD i (0, 0)).2)
                      have HM2 : Hid ((Mc.step ⟨l, ma, mp, 0, tg⟩ ((rA s).getD i (0, 0)).1 ((rA s).getD i (0, 0)).2).1.l = l ∧ (Mc.step ⟨l, ma, mp, 0, tg⟩ ((rA s).getD i (0, 0)).1 ((rA s).getD i (0, 0)).2).1.tags.length = s) := ⟨by rw [Mc.step_l], by rw [Mc.step_len]; exact HMl.out⟩
                      have HNx : Hid (Rs.num l (Mc.step ⟨l, ma, mp, 0, tg⟩ ((rA s).getD i (0, 0)).1 ((rA s).getD i (0, 0)).2).1 < M) := by have := HN0.out.1; rw [HAllM.out] at this; exact hid this
                      have HD := hid (fun W (h : RT W (.slice A1 tg.length c1) tg) => rdo_any ⟨l, ma, mp, 0, tg⟩ ((rA s).getD i (0, 0)).1 ((rA s).getD i (0, 0)).2 (.slice A1 tg.length c1) W h HInv.out (by show (0 : Int) ≤ _; omega))
                      unfold RDoP at HD
                      simp only [rm] at HD
                      have hl1 := hc1
                      have hl2 := hc2
                      generalize (rA s).getD i (0, 0) = xy at *
                      obtain ⟨x, y⟩ := xy
                      simp only at HTot HUpd0 HMore HI2 HM2 HNx HD hl1 hl2
                      generalize Mc.step ⟨l, ma, mp, 0, tg⟩ x y = st at *
                      obtain ⟨m2, er⟩ := st
                      simp only at HTot HUpd0 HMore HI2 HM2 HNx HD
                      have L5 : (i : Int) < ((rA s).length : Int) := by omega
                      have r0 : wr.cell? ⟨mb, 0, none⟩ = some (.int .i64 l) := HROW1.out.cell (i := 0) (by omega)
                      have r1 : wr.cell? ⟨mb, 1, none⟩ = some (.int .i64 ma) := HROW1.out.cell (i := 1) (by omega)
                      have r2 : wr.cell? ⟨mb, 2, none⟩ = some (.int .i64 mp) := HROW1.out.cell (i := 2) (by omega)
                      have r3 : wr.cell? ⟨mb, 3, none⟩ = some (.slice A1 tg.length c1) := HROW1.out.cell (i := 3) (by omega)
                      have r4 : wr.cell? ⟨mb, 4, none⟩ = some (.int .i64 0) := HROW1.out.cell (i := 4) (by omega)
                      have HBR := hid hb'
                      have HLT := hid hlt
                      clear hacts hc1 hc2 hb' hun hmore HN0 HAt
                      generalize (rA s).length = nA at *
                      go_wp2_with fail
                      have hXS := And.intro r0 (And.intro r1 (And.intro r2 (And.intro r3 (And.intro r4 (And.intro hl1 hl2)))))
                      have HX := hid hXS
                      have hq := KW.refl wr
                      clear r0 r1 r2 r3 r4 hl1 hl2
                      have HSS := hid (fun w' (hq : KW wr w') => And.intro (KW.cell hq HROW1.out.lt HX.out.1) (And.intro (KW.cell hq HROW1.out.lt HX.out.2.1) (And.intro (KW.cell hq HROW1.out.lt HX.out.2.2.1) (And.intro (KW.cell hq HROW1.out.lt HX.out.2.2.2.1) (And.intro (KW.cell hq HROW1.out.lt HX.out.2.2.2.2.1) (And.intro (KW.cell hq HBR.out HX.out.2.2.2.2.2.1) (KW.cell hq HBR.out HX.out.2.2.2.2.2.2)))))))
                      refine wpX_region (S := fun w' => w'.cell? ⟨mb, 0, none⟩ = some (.int .i64 l) ∧ w'.cell? ⟨mb, 1, none⟩ = some (.int .i64 ma) ∧ w'.cell? ⟨mb, 2, none⟩ = some (.int .i64 mp) ∧ w'.cell? ⟨mb, 3, none⟩ = some (.slice A1 tg.length c1) ∧ w'.cell? ⟨mb, 4, none⟩ = some (.int .i64 0) ∧ w'.cell? ⟨b', off + i * 2, none⟩ = some (.int .i64 x) ∧ w'.cell? ⟨b', off + i * 2 + 1, none⟩ = some (.int .i64 y)) (L := 99) (by kernel_rfl) ?_
                      refine wpX_take (i := 0) (v := ?_) rfl rfl (by kernel_rfl) (fun _ _ _ h => h) (Or.inl ⟨rfl, fun wS hwS => ?_⟩) hXS ?_
                      rotate_left
                      · go_simp; try rfl
                      simp only [List.set_cons_zero, List.set_cons_succ]
                      refine wpX_take (i := 1) (v := ?_) rfl rfl (by kernel_rfl) (fun _ _ _ h => h) (Or.inl ⟨rfl, fun wS hwS => ?_⟩) hXS ?_
                      rotate_left
                      · go_simp; try rfl
                      simp only [List.set_cons_zero, List.set_cons_succ]
                      refine wpX_take (i := 2) (v := ?_) rfl rfl (by kernel_rfl) (fun _ _ _ h => h) (Or.inl ⟨rfl, fun wS hwS => ?_⟩) hXS ?_
                      rotate_left
                      · go_simp; try rfl
                      simp only [List.set_cons_zero, List.set_cons_succ]
                      refine wpX_take (i := 3) (v := ?_) rfl rfl (by kernel_rfl) (fun _ _ _ h => h) (Or.inl ⟨rfl, fun wS hwS => ?_⟩) hXS ?_
                      rotate_left
                      · go_simp; try rfl
                      simp only [List.set_cons_zero, List.set_cons_succ]
                      refine wpX_take (i := 4) (v := ?_) rfl rfl (by kernel_rfl) (fun _ _ _ h => h) (Or.inl ⟨rfl, fun wS hwS => ?_⟩) hXS ?_
                      rotate_left
                      · go_simp; try rfl
                      simp only [List.set_cons_zero, List.set_cons_succ]
                      refine wpX_two (i := 5) (j := 9) (by kernel_rfl) rfl rfl (fun K hK => ?_) (fun K hK => ?_)
                      · skip
                        go_simp
                        refine (HD.out _ (HRT1.out.kw hq.drew)).mono ?_
                        rintro e W4 ⟨v2, rfl, hr2, _, hb⟩
                        have HQ4 : Hid (KW wr W4) := hq.drew.t hb
                        have HR4 := hid hr2
                        clear hb hr2
                        refine hK _ _ (fun _ => HSS.out _ HQ4.out) ?_
                        clear hK K
                        try simp only [List.set_cons_zero, List.set_cons_succ]
                        clear hXS
                        have hXS := HSS.out _ HQ4.out
                        refine wpX_take (i := 6) (v := ?_) rfl rfl (by kernel_rfl) (fun _ _ _ h => h) (Or.inl ⟨rfl, fun wS hwS => ?_⟩) hXS ?_
                        rotate_left
                        · go_simp; try rfl
                        simp only [List.set_cons_zero, List.set_cons_succ]
                        refine wpX_take (i := 7) (v := ?_) rfl rfl (by kernel_rfl) (fun _ _ _ h => h) (Or.inl ⟨rfl, fun wS hwS => ?_⟩) hXS ?_
                        rotate_left
                        · go_simp; try rfl
                        simp only [List.set_cons_zero, List.set_cons_succ]
                        refine wpX_take (i := 8) (v := ?_) rfl rfl (by kernel_rfl) (fun _ _ _ h => h) (Or.inl ⟨rfl, fun wS hwS => ?_⟩) hXS ?_
                        rotate_left
                        · go_simp; try rfl
                        simp only [List.set_cons_zero, List.set_cons_succ]
                        refine wpX_hard (k := 9) (by kernel_rfl) rfl (fun K hK => ?_)
                        go_simp
                        refine hK _ _ (fun _ => HSS.out _ (HQ4.out.alloc _)) ?_
                        clear hK K
                        try simp only [List.set_cons_zero, List.set_cons_succ]
                        clear hXS
                        have HR2 := hid (HR4.out.kw ((KW.refl W4).alloc (.cells #[.int .i64 0, .int .i64 0, .int .i64 0, .slice none 0 0, .int .i64 0] 76)))
                        have HG2 : Hid ((W4.alloc (.cells #[.int .i64 0, .int .i64 0, .int .i64 0, .slice none 0 0, .int .i64 0] 76)).rowIs W4.heap.size 76 5 (fun i => [.int .i64 0, .int .i64 0, .int .i64 0, .slice none 0 0, .int .i64 0].getD i undef)) := World.rowIs_alloc W4 #[.int .i64 0, .int .i64 0, .int .i64 0, .slice none 0 0, .int .i64 0] 76 _ fun i hi => by simp at hi; simp [hi]
                        have HGB : Hid (wr.heap.size ≤ W4.heap.size) := HQ4.out.size
                        have HQ2 := hid (HQ4.out.alloc (.cells #[.int .i64 0, .int .i64 0, .int .i64 0, .slice none 0 0, .int .i64 0] 76))
                        refine wpX_store_is (k := 10) (by kernel_rfl) rfl rfl rfl 76 _ _ rfl W4.heap.size 5 76 _ (rmf m2 v2) (rm m2 v2) rfl rfl HG2.out (by kernel_rfl) rfl (rm_get m2 v2) (rm_one HR2.out.one) ?_
                        intro W3 hrow3 _ hkeep3
                        have HKQ : Hid (KW wr W3) := HQ2.out.kept hkeep3 fun i hi => by have := HGB.out; omega
                        have HR3 := hid (HR2.out.keepM HG2.out hkeep3)
                        have HG3 := hid hrow3
                        refine ⟨fun _ => HSS.out _ HKQ.out, ?_⟩
                        have hXS := HSS.out _ HKQ.out
                        clear hrow3 hkeep3
                        refine wpX_take (i := 11) (v := ?_) rfl rfl (by kernel_rfl) (fun _ _ _ h => h) (Or.inl ⟨rfl, fun wS hwS => ?_⟩) hXS ?_
                        rotate_left
                        · go_simp; try rfl
                        simp only [List.set_cons_zero, List.set_cons_succ]
                        refine wpX_done (by kernel_rfl) ?_
                        clear hXS HSS
                        have HG3c := HG3.out
                        have x0 := HG3c.cell (i := 0) (by omega)
                        have x1 := HG3c.cell (i := 1) (by omega)
                        have x2 := HG3c.cell (i := 2) (by omega)
                        have x3 := HG3c.cell (i := 3) (by omega)
                        have x4 := HG3c.cell (i := 4) (by omega)
                        have lxb := HG3c.lt
                        simp only [rmf, rm, List.getD_cons_succ, List.getD_cons_zero] at x0 x1 x2 x3 x4
                        clear HG3c
                        by_cases he : er = 0
                        · subst he
                          have he0 : ((0 : Int) != 0) = false := by simp
                          have HNum := hid (fun W (h : RT W v2 m2.tags) => rnum29_any l m2 v2 W h HI2.out HM2.out.1 HLS.out.1 (by rw [HM2.out.2]; exact HLS.out.2))
                          have hnm := HNx.out
                          have HO3 := hid (HO.out.on HKQ.out)
                          obtain ⟨tb, hA', _, htb, ct, ft, hset⟩ := HO3.out.cellInt (n := n) (by rw [HLl.out]; exact HLT.out)
                          cases hA'
                          obtain ⟨tb', hA', _, _, cn, _, _⟩ := HO3.out.cellInt (n := Rs.num l m2) (by rw [HLl.out]; exact hnm)
                          cases hA'
                          have HUpd := HUpd0.out rfl
                          have hmo := HMore.out
                          have hlo := HLi.out.lo _ (show Rs.num l m2 < Rs.all l s by rw [HAllM.out]; exact hnm)
                          obtain ⟨A2', c2', hv2', _, _⟩ := HR3.out
                          subst hv2'
                          have HR3' := hid HR3.out
                          generalize hnum : Rs.num l m2 = nm at *
                          generalize hlv : L'.getD nm 0 = lv at *
                          generalize hln : L'.getD n 0 = ln at *
                          obtain ⟨l2, a2, p2, t2, g2⟩ := m2
                          simp only at x0 x1 x2 x3 x4 HNum HR3' HUpd hmo HTot
                          have L7 : (nm : Int) < (M : Int) := by omega
                          have ht2 : 0 ≤ t2 ∧ t2 ≤ 1 := by first | exact HTot.out rfl | exact HTot.out trivial
                          have HMo := hid hmo
                          clear hmo
                          have W1 : IntKind.i64.wrap (lv + t2) = lv + t2 := IntWalk.i64_in _ (by omega)
                          have HC := hid (And.intro x1 (And.intro x2 (And.intro x3 (And.intro x4 cn))))
                          have HB := hid (And.intro lxb htb)
                          have HCt := hid (And.intro ct ft)
                          have HSet := hid hset
                          clear hlv hln hnum hnm hset hlo x0 ct ft
                          go_wp2_with fail
                          have hXS := And.intro x1 (And.intro x2 (And.intro x3 (And.intro x4 cn)))
                          have HSS := hid (fun w' (hq : KW W3 w') => And.intro (KW.cell hq HB.out.1 HC.out.1) (And.intro (KW.cell hq HB.out.1 HC.out.2.1) (And.intro (KW.cell hq HB.out.1 HC.out.2.2.1) (And.intro (KW.cell hq HB.out.1 HC.out.2.2.2.1) (KW.cell hq HB.out.2 HC.out.2.2.2.2)))))
                          clear x1 x2 x3 x4 cn
                          refine wpX_region (S := fun w' => w'.cell? ⟨W4.heap.size, 1, none⟩ = some (.int .i64 a2) ∧ w'.cell? ⟨W4.heap.size, 2, none⟩ = some (.int .i64 p2) ∧ w'.cell? ⟨W4.heap.size, 3, none⟩ = some (.slice A2' g2.length c2') ∧ w'.cell? ⟨W4.heap.size, 4, none⟩ = some (.int .i64 t2) ∧ w'.cell? ⟨lb, nm, none⟩ = some (.int .i64 lv)) (L := 99) (by kernel_rfl) ?_
                          refine wpX_take (i := 0) (v := ?_) rfl rfl (by kernel_rfl) (fun _ _ _ h => h) (Or.inl ⟨rfl, fun wS hwS => ?_⟩) hXS ?_
                          rotate_left
                          · go_simp; try rfl
                          simp only [List.set_cons_zero, List.set_cons_succ]
                          refine wpX_take (i := 1) (v := ?_) rfl rfl (by kernel_rfl) (fun _ _ _ h => h) (Or.inl ⟨rfl, fun wS hwS => ?_⟩) hXS ?_
                          rotate_left
                          · go_simp; try rfl
                          simp only [List.set_cons_zero, List.set_cons_succ]
                          refine wpX_take (i := 2) (v := ?_) rfl rfl (by kernel_rfl) (fun _ _ _ h => h) (Or.inl ⟨rfl, fun wS hwS => ?_⟩) hXS ?_
                          rotate_left
                          · go_simp; try rfl
                          simp only [List.set_cons_zero, List.set_cons_succ]
                          refine wpX_take (i := 3) (v := ?_) rfl rfl (by kernel_rfl) (fun _ _ _ h => h) (Or.inl ⟨rfl, fun wS hwS => ?_⟩) hXS ?_
                          rotate_left
                          · go_simp; try rfl
                          simp only [List.set_cons_zero, List.set_cons_succ]
                          refine wpX_take (i := 7) (v := ?_) rfl rfl (by kernel_rfl) (fun _ _ _ h => h) (Or.inl ⟨rfl, fun wS hwS => ?_⟩) hXS ?_
                          rotate_left
                          · go_simp; try rfl
                          simp only [List.set_cons_zero, List.set_cons_succ]
                          refine wpX_take (i := 8) (v := ?_) rfl rfl (by kernel_rfl) (fun _ _ _ h => h) (Or.inl ⟨rfl, fun wS hwS => ?_⟩) hXS ?_
                          rotate_left
                          · go_simp; try rfl
                          simp only [List.set_cons_zero, List.set_cons_succ]
                          refine wpX_hard (k := 4) (by kernel_rfl) rfl (fun K hK => ?_)
                          go_simp
                          refine (HNum.out _ (HR3'.out.kw (KW.refl W3).drew)).mono ?_
                          rintro e w6 ⟨rfl, hk6⟩
                          have HK6 : Hid (KW W3 w6) := (KW.refl W3).drew.t hk6
                          clear hk6
                          refine hK _ _ (fun _ => HSS.out _ HK6.out) ?_
                          clear hK K
                          try simp only [List.set_cons_zero, List.set_cons_succ]
                          clear hXS
                          have hXS := HSS.out _ HK6.out
                          refine wpX_take (i := 5) (v := ?_) rfl rfl (by kernel_rfl) (fun _ _ _ h => h) (Or.inl ⟨rfl, fun wS hwS => ?_⟩) hXS ?_
                          rotate_left
                          · go_simp; try rfl
                          simp only [List.set_cons_zero, List.set_cons_succ]
                          refine wpX_take (i := 6) (v := ?_) rfl rfl (by kernel_rfl) (fun _ _ _ h => h) (Or.inl ⟨rfl, fun wS hwS => ?_⟩) hXS ?_
                          rotate_left
                          · go_simp; try rfl
                          simp only [List.set_cons_zero, List.set_cons_succ]
                          refine wpX_take (i := 9) (v := ?_) rfl rfl (by kernel_rfl) (fun _ _ _ h => h) (Or.inl ⟨rfl, fun wS hwS => ?_⟩) hXS ?_
                          rotate_left
                          · go_simp; try rfl
                          simp only [List.set_cons_zero, List.set_cons_succ]
                          refine wpX_take (i := 10) (v := ?_) rfl rfl (by kernel_rfl) (fun _ _ _ h => h) (Or.inl ⟨rfl, fun wS hwS => ?_⟩) hXS ?_
                          rotate_left
                          · go_simp; try rfl
                          simp only [List.set_cons_zero, List.set_cons_succ]
                          refine wpX_done (by kernel_rfl) ?_
                          clear hXS
                          have HO6 := hid (HO3.out.on HK6.out)
                          have HA6 := hid ((HAo.out.kw HKQ.out).kw HK6.out)
                          have HG6 := hid (KW.row HK6.out (KW.row HKQ.out HROW1.out.lt HROW1.out).lt (KW.row HKQ.out HROW1.out.lt HROW1.out))
                          have HT6 := hid ((HRT1.out.kw HKQ.out).kw HK6.out)
                          have HKw6 := hid ((HK.out.t HKQ.out).t HK6.out)
                          have ct6 : w6.cell? ⟨lb, n, none⟩ = some (.int .i64 ln) := KW.cell HK6.out HB.out.2 HCt.out.1
                          have lb6 : lb < w6.heap.size := Nat.lt_of_lt_of_le HB.out.2 HK6.out.size
                          obtain ⟨tb', hA', _, _, _, ft6, hset6⟩ := HO6.out.cellInt (n := n) (by rw [HLl.out]; exact HLT.out)
                          cases hA'
                          have HSet6 := hid (hset6 (lv + t2))
                          clear hset6 HSet
                          by_cases hlt2 : lv + t2 < ln
                          · obtain ⟨HLi2, hsum⟩ := HUpd hlt2
                            have HLi2 := hid HLi2
                            have HAt2 := hid (HAtU.out _ hsum)
                            have HLl2 : Hid ((L'.set n (lv + t2)).length = M) := by rw [List.length_set]; exact HLl
                            have hne1 : mb ≠ lb := HNeM.out
                            have HG7 := hid (HG6.out.setOther (a := ⟨lb, n, none⟩) hne1 (.int .i64 (lv + t2)))
                            have hk7 := Keep.setCell (own := (· = lb)) (Keep.refl _ w6) ⟨lb, n, none⟩ (.int .i64 (lv + t2)) rfl
                            have HT7 : Hid (RT (w6.setCell ⟨lb, n, none⟩ (.int .i64 (lv + t2))) (.slice A1 tg.length c1) tg) := RT.keepN HT6.out hk7 HNeT.out
                            have HA7 := hid (HA6.out.keep hk7 HNeA.out)
                            have HK7 : Hid (KW w (w6.setCell ⟨lb, n, none⟩ (.int .i64 (lv + t2)))) := HKw6.out.kept hk7 fun i hi => by rw [hi]; exact HLb.out
                            clear hsum hk7 hne1
                            go_wp2_with fail
                            go_roundw
                            case rel => exact ⟨true, i + 1, L'.set n (lv + t2), rfl, by go_num, by omega, HLi2, HAt2, HLl2, HSet6, HA7, HG7, HT7, HK7⟩
                            case measure => simp [intOf]; omega
                          · have hd0 : decide (lv + t2 < ln) = false := decide_eq_false hlt2
                            have HAt2 := hid (HMo.out (fun _ => by omega))
                            clear hlt2
                            go_wp2_with fail
                            go_roundw
                            case rel => exact ⟨turn, i + 1, L', rfl, by go_num, by omega, HLi, HAt2, HLl, HO6, HA6, HG6, HT6, HKw6⟩
                            case measure => simp [intOf]; omega
                        · have d : (er != 0) = true := bne_iff_ne.2 he
                          have HAt2 := hid (HMore.out (fun h => absurd h he))
                          have HO6 := hid (HO.out.on HKQ.out)
                          have HA6 := hid (HAo.out.kw HKQ.out)
                          have HG6 := hid (KW.row HKQ.out HROW1.out.lt HROW1.out)
                          have HT6 := hid (HRT1.out.kw HKQ.out)
                          have HKw6 := hid (HK.out.t HKQ.out)
                          clear he x0 x1 x2 x3 x4
                          go_wp2_with fail
                          go_roundw
                          case rel => exact ⟨turn, i + 1, L', rfl, by go_num, by omega, HLi, HAt2, HLl, HO6, HA6, HG6, HT6, HKw6⟩
                          case measure => simp [intOf]; omega
                      · skip
                        go_simp
                        refine hK _ _ (fun _ => HSS.out _ (hq.alloc _).drew) ?_
                        clear hK K
                        try simp only [List.set_cons_zero, List.set_cons_succ]
                        clear hXS
                        have hXS := HSS.out _ (hq.alloc (.cells #[.int .i64 0, .int .i64 0, .int .i64 0, .slice none 0 0, .int .i64 0] 76)).drew
                        refine wpX_hard (k := 5) (by kernel_rfl) rfl (fun K hK => ?_)
                        go_simp
                        refine (HD.out _ (HRT1.out.kw (hq.alloc (.cells #[.int .i64 0, .int .i64 0, .int .i64 0, .slice none 0 0, .int .i64 0] 76)).drew)).mono ?_
                        rintro e W4 ⟨v2, rfl, hr2, _, hb⟩
                        have HQ2 : Hid (KW wr W4) := (hq.alloc (.cells #[.int .i64 0, .int .i64 0, .int .i64 0, .slice none 0 0, .int .i64 0] 76)).drew.t hb
                        have HR2 := hid hr2
                        have HG2 : Hid (W4.rowIs wr.heap.size 76 5 (fun i => [.int .i64 0, .int .i64 0, .int .i64 0, .slice none 0 0, .int .i64 0].getD i undef)) := KW.row hb (by simp) (World.rowIs_alloc wr #[.int .i64 0, .int .i64 0, .int .i64 0, .slice none 0 0, .int .i64 0] 76 _ fun i hi => by simp at hi; simp [hi])
                        have HGB : Hid (wr.heap.size ≤ wr.heap.size) := Nat.le_refl _
                        clear hb hr2
                        refine hK _ _ (fun _ => HSS.out _ HQ2.out) ?_
                        clear hK K
                        try simp only [List.set_cons_zero, List.set_cons_succ]
                        clear hXS
                        have hXS := HSS.out _ HQ2.out
                        refine wpX_take (i := 6) (v := ?_) rfl rfl (by kernel_rfl) (fun _ _ _ h => h) (Or.inl ⟨rfl, fun wS hwS => ?_⟩) hXS ?_
                        rotate_left
                        · go_simp; try rfl
                        simp only [List.set_cons_zero, List.set_cons_succ]
                        refine wpX_take (i := 7) (v := ?_) rfl rfl (by kernel_rfl) (fun _ _ _ h => h) (Or.inl ⟨rfl, fun wS hwS => ?_⟩) hXS ?_
                        rotate_left
                        · go_simp; try rfl
                        simp only [List.set_cons_zero, List.set_cons_succ]
                        refine wpX_take (i := 8) (v := ?_) rfl rfl (by kernel_rfl) (fun _ _ _ h => h) (Or.inl ⟨rfl, fun wS hwS => ?_⟩) hXS ?_
                        rotate_left
                        · go_simp; try rfl
                        simp only [List.set_cons_zero, List.set_cons_succ]
                        clear hXS
                        refine wpX_store_is (k := 10) (by kernel_rfl) rfl rfl rfl 76 _ _ rfl wr.heap.size 5 76 _ (rmf m2 v2) (rm m2 v2) rfl rfl HG2.out (by kernel_rfl) rfl (rm_get m2 v2) (rm_one HR2.out.one) ?_
                        intro W3 hrow3 _ hkeep3
                        have HKQ : Hid (KW wr W3) := HQ2.out.kept hkeep3 fun i hi => by have := HGB.out; omega
                        have HR3 := hid (HR2.out.keepM HG2.out hkeep3)
                        have HG3 := hid hrow3
                        refine ⟨fun _ => HSS.out _ HKQ.out, ?_⟩
                        have hXS := HSS.out _ HKQ.out
                        clear hrow3 hkeep3
                        refine wpX_take (i := 11) (v := ?_) rfl rfl (by kernel_rfl) (fun _ _ _ h => h) (Or.inl ⟨rfl, fun wS hwS => ?_⟩) hXS ?_
                        rotate_left
                        · go_simp; try rfl
                        simp only [List.set_cons_zero, List.set_cons_succ]
                        refine wpX_done (by kernel_rfl) ?_
                        clear hXS HSS
                        have HG3c := HG3.out
                        have x0 := HG3c.cell (i := 0) (by omega)
                        have x1 := HG3c.cell (i := 1) (by omega)
                        have x2 := HG3c.cell (i := 2) (by omega)
                        have x3 := HG3c.cell (i := 3) (by omega)
                        have x4 := HG3c.cell (i := 4) (by omega)
                        have lxb := HG3c.lt
                        simp only [rmf, rm, List.getD_cons_succ, List.getD_cons_zero] at x0 x1 x2 x3 x4
                        clear HG3c
                        by_cases he : er = 0
                        · subst he
                          have he0 : ((0 : Int) != 0) = false := by simp
                          have HNum := hid (fun W (h : RT W v2 m2.tags) => rnum29_any l m2 v2 W h HI2.out HM2.out.1 HLS.out.1 (by rw [HM2.out.2]; exact HLS.out.2))
                          have hnm := HNx.out
                          have HO3 := hid (HO.out.on HKQ.out)
                          obtain ⟨tb, hA', _, htb, ct, ft, hset⟩ := HO3.out.cellInt (n := n) (by rw [HLl.out]; exact HLT.out)
                          cases hA'
                          obtain ⟨tb', hA', _, _, cn, _, _⟩ := HO3.out.cellInt (n := Rs.num l m2) (by rw [HLl.out]; exact hnm)
                          cases hA'
                          have HUpd := HUpd0.out rfl
                          have hmo := HMore.out
                          have hlo := HLi.out.lo _ (show Rs.num l m2 < Rs.all l s by rw [HAllM.out]; exact hnm)
                          obtain ⟨A2', c2', hv2', _, _⟩ := HR3.out
                          subst hv2'
                          have HR3' := hid HR3.out
                          generalize hnum : Rs.num l m2 = nm at *
                          generalize hlv : L'.getD nm 0 = lv at *
                          generalize hln : L'.getD n 0 = ln at *
                          obtain ⟨l2, a2, p2, t2, g2⟩ := m2
                          simp only at x0 x1 x2 x3 x4 HNum HR3' HUpd hmo HTot
                          have L7 : (nm : Int) < (M : Int) := by omega
                          have ht2 : 0 ≤ t2 ∧ t2 ≤ 1 := by first | exact HTot.out rfl | exact HTot.out trivial
                          have HMo := hid hmo
                          clear hmo
                          have W1 : IntKind.i64.wrap (lv + t2) = lv + t2 := IntWalk.i64_in _ (by omega)
                          have HC := hid (And.intro x1 (And.intro x2 (And.intro x3 (And.intro x4 cn))))
                          have HB := hid (And.intro lxb htb)
                          have HCt := hid (And.intro ct ft)
                          have HSet := hid hset
                          clear hlv hln hnum hnm hset hlo x0 ct ft
                          go_wp2_with fail
                          have hXS := And.intro x1 (And.intro x2 (And.intro x3 (And.intro x4 cn)))
                          have HSS := hid (fun w' (hq : KW W3 w') => And.intro (KW.cell hq HB.out.1 HC.out.1) (And.intro (KW.cell hq HB.out.1 HC.out.2.1) (And.intro (KW.cell hq HB.out.1 HC.out.2.2.1) (And.intro (KW.cell hq HB.out.1 HC.out.2.2.2.1) (KW.cell hq HB.out.2 HC.out.2.2.2.2)))))
                          clear x1 x2 x3 x4 cn
                          refine wpX_region (S := fun w' => w'.cell? ⟨wr.heap.size, 1, none⟩ = some (.int .i64 a2) ∧ w'.cell? ⟨wr.heap.size, 2, none⟩ = some (.int .i64 p2) ∧ w'.cell? ⟨wr.heap.size, 3, none⟩ = some (.slice A2' g2.length c2') ∧ w'.cell? ⟨wr.heap.size, 4, none⟩ = some (.int .i64 t2) ∧ w'.cell? ⟨lb, nm, none⟩ = some (.int .i64 lv)) (L := 99) (by kernel_rfl) ?_
                          refine wpX_take (i := 0) (v := ?_) rfl rfl (by kernel_rfl) (fun _ _ _ h => h) (Or.inl ⟨rfl, fun wS hwS => ?_⟩) hXS ?_
                          rotate_left
                          · go_simp; try rfl
                          simp only [List.set_cons_zero, List.set_cons_succ]
                          refine wpX_take (i := 1) (v := ?_) rfl rfl (by kernel_rfl) (fun _ _ _ h => h) (Or.inl ⟨rfl, fun wS hwS => ?_⟩) hXS ?_
                          rotate_left
                          · go_simp; try rfl
                          simp only [List.set_cons_zero, List.set_cons_succ]
                          refine wpX_take (i := 2) (v := ?_) rfl rfl (by kernel_rfl) (fun _ _ _ h => h) (Or.inl ⟨rfl, fun wS hwS => ?_⟩) hXS ?_
                          rotate_left
                          · go_simp; try rfl
                          simp only [List.set_cons_zero, List.set_cons_succ]
                          refine wpX_take (i := 3) (v := ?_) rfl rfl (by kernel_rfl) (fun _ _ _ h => h) (Or.inl ⟨rfl, fun wS hwS => ?_⟩) hXS ?_
                          rotate_left
                          · go_simp; try rfl
                          simp only [List.set_cons_zero, List.set_cons_succ]
                          refine wpX_take (i := 7) (v := ?_) rfl rfl (by kernel_rfl) (fun _ _ _ h => h) (Or.inl ⟨rfl, fun wS hwS => ?_⟩) hXS ?_
                          rotate_left
                          · go_simp; try rfl
                          simp only [List.set_cons_zero, List.set_cons_succ]
                          refine wpX_take (i := 8) (v := ?_) rfl rfl (by kernel_rfl) (fun _ _ _ h => h) (Or.inl ⟨rfl, fun wS hwS => ?_⟩) hXS ?_
                          rotate_left
                          · go_simp; try rfl
                          simp only [List.set_cons_zero, List.set_cons_succ]
                          refine wpX_hard (k := 4) (by kernel_rfl) rfl (fun K hK => ?_)
                          go_simp
                          refine (HNum.out _ (HR3'.out.kw (KW.refl W3).drew)).mono ?_
                          rintro e w6 ⟨rfl, hk6⟩
                          have HK6 : Hid (KW W3 w6) := (KW.refl W3).drew.t hk6
                          clear hk6
                          refine hK _ _ (fun _ => HSS.out _ HK6.out) ?_
                          clear hK K
                          try simp only [List.set_cons_zero, List.set_cons_succ]
                          clear hXS
                          have hXS := HSS.out _ HK6.out
                          refine wpX_take (i := 5) (v := ?_) rfl rfl (by kernel_rfl) (fun _ _ _ h => h) (Or.inl ⟨rfl, fun wS hwS => ?_⟩) hXS ?_
                          rotate_left
                          · go_simp; try rfl
                          simp only [List.set_cons_zero, List.set_cons_succ]
                          refine wpX_take (i := 6) (v := ?_) rfl rfl (by kernel_rfl) (fun _ _ _ h => h) (Or.inl ⟨rfl, fun wS hwS => ?_⟩) hXS ?_
                          rotate_left
                          · go_simp; try rfl
                          simp only [List.set_cons_zero, List.set_cons_succ]
                          refine wpX_take (i := 9) (v := ?_) rfl rfl (by kernel_rfl) (fun _ _ _ h => h) (Or.inl ⟨rfl, fun wS hwS => ?_⟩) hXS ?_
                          rotate_left
                          · go_simp; try rfl
                          simp only [List.set_cons_zero, List.set_cons_succ]
                          refine wpX_take (i := 10) (v := ?_) rfl rfl (by kernel_rfl) (fun _ _ _ h => h) (Or.inl ⟨rfl, fun wS hwS => ?_⟩) hXS ?_
                          rotate_left
                          · go_simp; try rfl
                          simp only [List.set_cons_zero, List.set_cons_succ]
                          refine wpX_done (by kernel_rfl) ?_
                          clear hXS
                          have HO6 := hid (HO3.out.on HK6.out)
                          have HA6 := hid ((HAo.out.kw HKQ.out).kw HK6.out)
                          have HG6 := hid (KW.row HK6.out (KW.row HKQ.out HROW1.out.lt HROW1.out).lt (KW.row HKQ.out HROW1.out.lt HROW1.out))
                          have HT6 := hid ((HRT1.out.kw HKQ.out).kw HK6.out)
                          have HKw6 := hid ((HK.out.t HKQ.out).t HK6.out)
                          have ct6 : w6.cell? ⟨lb, n, none⟩ = some (.int .i64 ln) := KW.cell HK6.out HB.out.2 HCt.out.1
                          have lb6 : lb < w6.heap.size := Nat.lt_of_lt_of_le HB.out.2 HK6.out.size
                          obtain ⟨tb', hA', _, _, _, ft6, hset6⟩ := HO6.out.cellInt (n := n) (by rw [HLl.out]; exact HLT.out)
                          cases hA'
                          have HSet6 := hid (hset6 (lv + t2))
                          clear hset6 HSet
                          by_cases hlt2 : lv + t2 < ln
                          · obtain ⟨HLi2, hsum⟩ := HUpd hlt2
                            have HLi2 := hid HLi2
                            have HAt2 := hid (HAtU.out _ hsum)
                            have HLl2 : Hid ((L'.set n (lv + t2)).length = M) := by rw [List.length_set]; exact HLl
                            have hne1 : mb ≠ lb := HNeM.out
                            have HG7 := hid (HG6.out.setOther (a := ⟨lb, n, none⟩) hne1 (.int .i64 (lv + t2)))
                            have hk7 := Keep.setCell (own := (· = lb)) (Keep.refl _ w6) ⟨lb, n, none⟩ (.int .i64 (lv + t2)) rfl
                            have HT7 : Hid (RT (w6.setCell ⟨lb, n, none⟩ (.int .i64 (lv + t2))) (.slice A1 tg.length c1) tg) := RT.keepN HT6.out hk7 HNeT.out
                            have HA7 := hid (HA6.out.keep hk7 HNeA.out)
                            have HK7 : Hid (KW w (w6.setCell ⟨lb, n, none⟩ (.int .i64 (lv + t2)))) := HKw6.out.kept hk7 fun i hi => by rw [hi]; exact HLb.out
                            clear hsum hk7 hne1
                            go_wp2_with fail
                            go_roundw
                            case rel => exact ⟨true, i + 1, L'.set n (lv + t2), rfl, by go_num, by omega, HLi2, HAt2, HLl2, HSet6, HA7, HG7, HT7, HK7⟩
                            case measure => simp [intOf]; omega
                          · have hd0 : decide (lv + t2 < ln) = false := decide_eq_false hlt2
                            have HAt2 := hid (HMo.out (fun _ => by omega))
                            clear hlt2
                            go_wp2_with fail
                            go_roundw
                            case rel => exact ⟨turn, i + 1, L', rfl, by go_num, by omega, HLi, HAt2, HLl, HO6, HA6, HG6, HT6, HKw6⟩
                            case measure => simp [intOf]; omega
                        · have d : (er != 0) = true := bne_iff_ne.2 he
                          have HAt2 := hid (HMore.out (fun h => absurd h he))
                          have HO6 := hid (HO.out.on HKQ.out)
                          have HA6 := hid (HAo.out.kw HKQ.out)
                          have HG6 := hid (KW.row HKQ.out HROW1.out.lt HROW1.out)
                          have HT6 := hid (HRT1.out.kw HKQ.out)
                          have HKw6 := hid (HK.out.t HKQ.out)
                          clear he x0 x1 x2 x3 x4
                          go_wp2_with fail
                          go_roundw
                          case rel => exact ⟨turn, i + 1, L', rfl, by go_num, by omega, HLi, HAt2, HLl, HO6, HA6, HG6, HT6, HKw6⟩
                          case measure => simp [intOf]; omega
                    · obtain rfl : (rA s).length = i := by omega
                      have HAt2 := hid (HAt.out.next)
                      have HLT := hid hlt
                      go_wp2_with fail
                      go_roundw
                      case rel => exact ⟨turn, n + 1, L', rfl, by go_num, HLT.out, HLi, HAt2, HLl, HO, HAo, HK⟩
                      case measure => (have h1 := HLT.out; simp [intOf]; omega)
                · obtain rfl : M = n := by omega
                  have HFin : Hid ((turn = false → Rs.Fix l s L') ∧ (turn = true → L'.sum < Ls.sum)) := Rs.At.fin (i := 0) (by rw [HAllM.out]; exact HAt.out)
                  have HNn := hid HLi.out.sum_nn
                  cases turn with
                  | false =>
                    have HFx := hid (HFin.out.1 rfl)
                    clear hlt HAt
                    go_wp2_with fail
                    go_roundg 0
                    case measure => have h1 := HGk.out; omega
                    case rel => exact ⟨false, L', rfl, by simp, HLi, fun _ => HFx.out, HLl, HO, HAo, HK⟩
                  | true =>
                    have HSm := hid (HFin.out.2 rfl)
                    clear hlt HAt
                    go_wp2_with fail
                    go_roundg (L'.sum.toNat + 1)
                    case measure => (have h1 := HGk.out; have h2 := HSm.out; have h3 := HNn.out; omega)
                    case rel => exact ⟨true, L', rfl, by simp, HLi, fun h => (by cases h), HLl, HO, HAo, HK⟩

end Go.Proofs.Ytgadkelldbibgaa

/- BestSearches. -/
namespace Go.Proofs.Ytgadkelldbibgaa
open Go.ChangeShapes Go.WideShapes Go.ChangeAt Go.RowKit
set_option linter.unusedVariables false

set_option maxRecDepth 100000 in
theorem rsearch29_no (l s : Int) (w : World) (h : l < 0 ∨ 5 < l ∨ s < 0 ∨ 3 < s) :
    Calls Try.prog 37 #[.int .i64 l, .int .i64 s] w fun e w' => e = .returned (.tuple #[.int .i64 0, .int .i64 2]) ∧ KW w w' := by
  have hx : l < 0 ∨ (decide (l < 0) = false ∧ 5 < l) ∨ (decide (l < 0) = false ∧ decide (5 < l) = false ∧ s < 0) ∨ (decide (l < 0) = false ∧ decide (5 < l) = false ∧ decide (s < 0) = false ∧ 3 < s) := by
    simp only [decide_eq_false_iff_not]
    omega
  clear h
  rcases hx with h1 | ⟨h1, h2⟩ | ⟨h1, h2, h3⟩ | ⟨h1, h2, h3, h4⟩
  all_goals
    go_enter Try.func37, Try.ntmps37
    go_wp2_with fail
    go_ret2
    exact ⟨rfl, KW.refl w⟩

set_option maxRecDepth 100000 in
set_option maxHeartbeats 1000000 in
theorem searches_no (l s : Int) (w : World) (l0 : 0 ≤ l) (l1 : l ≤ 255) (s0 : 0 ≤ s) (s1 : s ≤ 255) (h : l % 8 - 1 < 0 ∨ 5 < l % 8 - 1 ∨ s % 6 - 1 < 0 ∨ 3 < s % 6 - 1) :
    Calls Try.prog 10 #[.int .u8 l, .int .u8 s] w fun e w' => e = .returned (.bool true) ∧ KW w w' := by
  have H1 := hid (search_no _ _ w h)
  have H2 := hid (fun W => rsearch29_no _ _ W h)
  have HG := hid (fun W => goes29_any W)
  have e1 : l.tmod 8 = l % 8 := Int.tmod_eq_emod_of_nonneg l0
  have e2 : s.tmod 6 = s % 6 := Int.tmod_eq_emod_of_nonneg s0
  have b1 : 0 ≤ l % 8 ∧ l % 8 ≤ 7 := by omega
  have b2 : 0 ≤ s % 6 ∧ s % 6 ≤ 5 := by omega
  generalize l % 8 = a at *
  generalize s % 6 = b at *
  clear h
  go_enter Try.func10, Try.ntmps10
  go_wp2_with fail
  refine H1.out.mono ?_
  rintro e w1 ⟨rfl, hk1⟩
  have HK1 := hid hk1
  clear hk1
  go_wp2_with fail
  refine (H2.out _).mono ?_
  rintro e w2 ⟨rfl, hk2⟩
  have HK2 := hid (HK1.out.t hk2)
  clear hk2
  go_wp2_with fail
  refine (HG.out _).mono ?_
  rintro e w3 ⟨rfl, hk3⟩
  have HK3 := hid (HK2.out.t hk3)
  clear hk3
  go_wp2_with fail
  go_ret
  exact ⟨rfl, HK3.out⟩

set_option maxRecDepth 100000 in
set_option maxHeartbeats 1000000 in
theorem searches_need (l s : Int) (w : World) (l0 : 0 ≤ l) (l1 : l ≤ 255) (s0 : 0 ≤ s) (s1 : s ≤ 255) (x : Nat) (hx : l % 8 - 1 = x) (hy : s % 6 - 1 = 0) (h5 : x ≤ 5) (h2 : 2 ≤ x) :
    Calls Try.prog 10 #[.int .u8 l, .int .u8 s] w fun e w' => e = .returned (.bool true) ∧ KW w w' := by
  have H1 : Hid (Calls Try.prog 36 #[.int .i64 (l % 8 - 1), .int .i64 (s % 6 - 1)] w fun e w' => e = .returned (.tuple #[.int .i64 0, .slice none 0 0, .int .i64 13]) ∧ KW w w') := by
    rw [hx, hy]
    refine hid ((search_yes x 0 w h5 (by omega)).mono ?_)
    rintro e w' ⟨hk, ⟨T, v, la, m', rfl, z1, z2, _⟩ | ⟨rfl, z0, _⟩⟩
    · have := (z2 rfl).1
      omega
    · exact ⟨rfl, hk⟩
  have H2 : Hid (∀ W, Calls Try.prog 37 #[.int .i64 (l % 8 - 1), .int .i64 (s % 6 - 1)] W fun e w' => e = .returned (.tuple #[.int .i64 0, .int .i64 13]) ∧ KW W w') := fun W => by
    rw [hx, hy]
    refine (rsearch29_yes x 0 W h5 (by omega)).mono ?_
    rintro e w' ⟨⟨T, er, rfl, z1, z2, z3⟩, hk⟩
    obtain ⟨rfl, rfl⟩ := z3 rfl h2
    exact ⟨rfl, hk⟩
  have HG := hid (fun W => goes29_any W)
  have e1 : l.tmod 8 = l % 8 := Int.tmod_eq_emod_of_nonneg l0
  have e2 : s.tmod 6 = s % 6 := Int.tmod_eq_emod_of_nonneg s0
  have b1 : 0 ≤ l % 8 ∧ l % 8 ≤ 7 := by omega
  have b2 : 0 ≤ s % 6 ∧ s % 6 ≤ 5 := by omega
  clear hx hy
  generalize l % 8 = a at *
  generalize s % 6 = b at *
  go_enter Try.func10, Try.ntmps10
  go_wp2_with fail
  refine H1.out.mono ?_
  rintro e w1 ⟨rfl, hk1⟩
  have HK1 := hid hk1
  clear hk1
  go_wp2_with fail
  refine (H2.out _).mono ?_
  rintro e w2 ⟨rfl, hk2⟩
  have HK2 := hid (HK1.out.t hk2)
  clear hk2
  go_wp2_with fail
  refine (HG.out _).mono ?_
  rintro e w3 ⟨rfl, hk3⟩
  have HK3 := hid (HK2.out.t hk3)
  clear hk3
  go_wp2_with fail
  go_ret
  exact ⟨rfl, HK3.out⟩

set_option maxRecDepth 100000 in
set_option maxHeartbeats 1000000 in
theorem searches_ok (l s : Int) (w : World) (l0 : 0 ≤ l) (l1 : l ≤ 255) (s0 : 0 ≤ s) (s1 : s ≤ 255) (x y : Nat) (hx : l % 8 - 1 = x) (hy : s % 6 - 1 = y) (h5 : x ≤ 5) (h3 : y ≤ 3) (h2 : 1 ≤ y ∨ x ≤ 1) :
    Calls Try.prog 10 #[.int .u8 l, .int .u8 s] w fun e w' => e = .returned (.bool true) ∧ KW w w' := by
  obtain ⟨T0, hT0⟩ : ∃ T0 : Int, (1 ≤ y → T0 = Ch.tt x y) ∧ (y = 0 → T0 = 0) := by
    by_cases h : 1 ≤ y
    · exact ⟨_, fun _ => rfl, fun h0 => by omega⟩
    · exact ⟨0, fun h1 => absurd h1 h, fun _ => rfl⟩
  have H1 : Hid (Calls Try.prog 36 #[.int .i64 (l % 8 - 1), .int .i64 (s % 6 - 1)] w fun e w' => ∃ (A : Option Addr) (c : Nat) (la : List Mc.Act), e = .returned (.tuple #[.int .i64 T0, .slice A la.length c, .int .i64 0]) ∧ Acts w' A la ∧ la.length ≤ 65536 ∧ Mc.check (x : Int) (y : Int) la = (T0, (la.length : Int), 0) ∧ KW w w') := by
    rw [hx, hy]
    refine hid ((search_yes x y w h5 h3).mono ?_)
    rintro e w' ⟨hk, ⟨T, v, la, m', rfl, z1, z2, z3, z4, z5, z6, z7⟩ | ⟨_, z0, z1⟩⟩
    · have hT : T = T0 := by
        by_cases h : 1 ≤ y
        · rw [z1 h, hT0.1 h]
        · rw [(z2 (by omega)).2, hT0.2 (by omega)]
      subst hT
      obtain ⟨A, c, rfl, _, ha⟩ := z3.slice
      refine ⟨A, c, la, rfl, ha, z4, ?_, hk⟩
      unfold Mc.check
      rw [if_pos ⟨by omega, by omega, by omega, by omega⟩, Int.toNat_natCast, z5.chk 0, if_pos z6, z7]
      simp
    · omega
  have H2 : Hid (∀ W, Calls Try.prog 37 #[.int .i64 (l % 8 - 1), .int .i64 (s % 6 - 1)] W fun e w' => e = .returned (.tuple #[.int .i64 T0, .int .i64 0]) ∧ KW W w') := fun W => by
    rw [hx, hy]
    refine (rsearch29_yes x y W h5 h3).mono ?_
    rintro e w' ⟨⟨T, er, rfl, z1, z2, z3⟩, hk⟩
    by_cases h : 1 ≤ y
    · obtain ⟨rfl, rfl⟩ := z1 h
      rw [hT0.1 h]
      exact ⟨rfl, hk⟩
    · obtain ⟨rfl, rfl⟩ := z2 (by omega) (by omega)
      rw [hT0.2 (by omega)]
      exact ⟨rfl, hk⟩
  have H3 : Hid (∀ W A c la, la.length ≤ 65536 → Acts W A la → Mc.check (x : Int) (y : Int) la = (T0, (la.length : Int), 0) → Calls Try.prog 28 #[.int .i64 (l % 8 - 1), .int .i64 (s % 6 - 1), .slice A la.length c] W fun e w' => e = .returned (.tuple #[.int .i64 T0, .int .i64 (la.length : Nat), .int .i64 0]) ∧ KW W w') := fun W A c la h1 h2 h3 => by
    rw [hx, hy]
    have := check_any x y A c la W (by omega) h2
    rw [h3] at this
    exact this
  have HG := hid (fun W => goes29_any W)
  have e1 : l.tmod 8 = l % 8 := Int.tmod_eq_emod_of_nonneg l0
  have e2 : s.tmod 6 = s % 6 := Int.tmod_eq_emod_of_nonneg s0
  have b1 : 0 ≤ l % 8 ∧ l % 8 ≤ 7 := by omega
  have b2 : 0 ≤ s % 6 ∧ s % 6 ≤ 5 := by omega
  clear hx hy h2 hT0
  generalize l % 8 = a at *
  generalize s % 6 = b at *
  have t1 : (T0 != T0) = false := by simp
  have t2 : (T0 == T0) = true := by simp
  go_enter Try.func10, Try.ntmps10
  go_wp2_with fail
  refine H1.out.mono ?_
  rintro e w1 ⟨A, c, la, rfl, ha, hlen, hch, hk1⟩
  have HK1 := hid hk1
  have HA := hid ha
  have H4 := hid (fun W (h : Acts W A la) => H3.out W A c la hlen h hch)
  generalize la.length = n at *
  clear hk1 ha hlen hch
  go_wp2_with fail
  refine (H2.out _).mono ?_
  rintro e w2 ⟨rfl, hk2⟩
  have HK2 := hid (HK1.out.t hk2)
  have HA2 := hid (HA.out.kw hk2)
  clear hk2
  go_wp2_with fail
  refine (H4.out _ HA2.out).mono ?_
  rintro e w3 ⟨rfl, hk3⟩
  have HK3 := hid (HK2.out.t hk3)
  clear hk3
  go_wp2_with fail
  refine (HG.out _).mono ?_
  rintro e w4 ⟨rfl, hk4⟩
  have HK4 := hid (HK3.out.t hk4)
  clear hk4
  go_wp2_with fail
  go_ret
  exact ⟨rfl, HK4.out⟩

theorem bsearches_law (l s : Int) (w : World) (l0 : 0 ≤ l) (l1 : l ≤ 255) (s0 : 0 ≤ s) (s1 : s ≤ 255) :
    Calls Try.prog 10 #[.int .u8 l, .int .u8 s] w fun e w' => e = .returned (.bool true) ∧ KW w w' := by
  by_cases h : l % 8 - 1 < 0 ∨ 5 < l % 8 - 1 ∨ s % 6 - 1 < 0 ∨ 3 < s % 6 - 1
  · exact searches_no l s w l0 l1 s0 s1 h
  · obtain ⟨x, hx⟩ : ∃ x : Nat, l % 8 - 1 = x := ⟨(l % 8 - 1).toNat, by omega⟩
    obtain ⟨y, hy⟩ : ∃ y : Nat, s % 6 - 1 = y := ⟨(s % 6 - 1).toNat, by omega⟩
    by_cases h2 : 1 ≤ y ∨ x ≤ 1
    · exact searches_ok l s w l0 l1 s0 s1 x y hx hy (by omega) (by omega) h2
    · exact searches_need l s w l0 l1 s0 s1 x hx (by omega) (by omega) (by omega)

end Go.Proofs.Ytgadkelldbibgaa
